/- Own texts, put together. -/
import Derived.Test.YtebfhlnfmkhmcaaAbsX
import Derived.Test.YtebfhlnfmkhmcaaFn1
import Derived.Test.YtebfhlnfmkhmcaaFn2
import Derived.Test.YtebfhlnfmkhmcaaFn3
import Derived.Test.YtebfhlnfmkhmcaaFn4
import Derived.Test.YtebfhlnfmkhmcaaFn5
import Derived.Test.YtebfhlnfmkhmcaaFn6
import Derived.Test.YtebfhlnfmkhmcaaFn7
import Derived.Test.YtebfhlnfmkhmcaaFn8
set_option linter.unusedSimpArgs false
set_option linter.unusedVariables false
/- Plain facts on loops and wraps. -/
namespace Go.Abs

/-- A loop with a measure ends, and what it leaves. -/
theorem loopM_ind {α β : Type} {body : α → Option (α ⊕ β)} (I : α → Prop) (Post : α → β → Prop) (m : α → Nat)
    (step : ∀ s, I s → (∃ s', body s = some (.inl s') ∧ I s' ∧ m s' < m s ∧ ∀ r, Post s' r → Post s r) ∨ ∃ r, body s = some (.inr r) ∧ Post s r) :
    ∀ s, I s → ∃ r, loopM body s = some r ∧ Post s r := by
  have key : ∀ n s, m s ≤ n → I s → ∃ r, loopM body s = some r ∧ Post s r := by
    intro n
    induction n with
    | zero =>
      intro s hn hs
      rcases step s hs with ⟨s', h1, h2, h3, h4⟩ | ⟨r, h1, h2⟩
      · omega
      · exact ⟨r, by rw [loopM_eq, h1]; rfl, h2⟩
    | succ n ih =>
      intro s hn hs
      rcases step s hs with ⟨s', h1, h2, h3, h4⟩ | ⟨r, h1, h2⟩
      · obtain ⟨r, k1, k2⟩ := ih s' (by omega) h2
        exact ⟨r, by rw [loopM_eq, h1]; exact k1, h4 r k2⟩
      · exact ⟨r, by rw [loopM_eq, h1]; rfl, h2⟩
  exact fun s hs => key (m s) s (Nat.le_refl _) hs

theorem wrap64 {n : Int} (h1 : -9223372036854775808 ≤ n) (h2 : n < 9223372036854775808) : IntKind.i64.wrap n = n := by
  simp only [IntKind.wrap, IntKind.signed, IntKind.bits]
  simp
  omega
theorem wrap8 {n : Int} (h1 : 0 ≤ n) (h2 : n < 256) : IntKind.u8.wrap n = n := by
  simp only [IntKind.wrap, IntKind.signed, IntKind.bits]
  simp
  omega

/-- A loop that counts from i to n. -/
theorem loopM_for {α β σ : Type} {body : α → Option (α ⊕ β)} (at' : Nat → σ → α) (out : σ → β) (n : Nat) (I : Nat → σ → Prop)
    (step : ∀ i s, i < n → I i s → ∃ s', body (at' i s) = some (.inl (at' (i + 1) s')) ∧ I (i + 1) s') (stop : ∀ s, I n s → body (at' n s) = some (.inr (out s))) :
    ∀ (m i : Nat) (s : σ), i + m = n → I i s → ∃ s', loopM body (at' i s) = some (out s') ∧ I n s'
  | 0, i, s, h, hI => by
    have : i = n := by omega
    subst this
    exact ⟨s, by rw [loopM_eq, stop s hI]; rfl, hI⟩
  | m + 1, i, s, h, hI => by
    obtain ⟨s', h1, h2⟩ := step i s (by omega) hI
    obtain ⟨s'', h3, h4⟩ := loopM_for at' out n I step stop m (i + 1) s' (by omega) h2
    exact ⟨s'', by rw [loopM_eq, h1]; exact h3, h4⟩
end Go.Abs
/- Commutative rings, told by their laws: powers, the Frobenius, roots of polynomials, powers in finite fields. -/
namespace Go.Abs

structure IsRing (K : Type) [Add K] [Mul K] [Neg K] [Zero K] [One K] : Prop where
  add_comm : ∀ a b : K, a + b = b + a
  add_assoc : ∀ a b c : K, a + b + c = a + (b + c)
  add_zero : ∀ a : K, a + 0 = a
  add_neg : ∀ a : K, a + -a = 0
  mul_comm : ∀ a b : K, a * b = b * a
  mul_assoc : ∀ a b c : K, a * b * c = a * (b * c)
  mul_one : ∀ a : K, a * 1 = a
  mul_add : ∀ a b c : K, a * (b + c) = a * b + a * c

section
variable {K : Type} [Add K] [Mul K] [Neg K] [Zero K] [One K]

def pw (x : K) : Nat → K
  | 0 => 1
  | n + 1 => pw x n * x
def nsm : Nat → K → K
  | 0, _ => 0
  | n + 1, x => nsm n x + x

namespace IsRing
variable (R : IsRing K)
include R
theorem zero_add (a : K) : 0 + a = a := by rw [R.add_comm, R.add_zero]
theorem neg_add (a : K) : -a + a = 0 := by rw [R.add_comm, R.add_neg]
theorem add_left_comm (a b c : K) : a + (b + c) = b + (a + c) := by rw [← R.add_assoc, R.add_comm a b, R.add_assoc]
theorem mul_left_comm (a b c : K) : a * (b * c) = b * (a * c) := by rw [← R.mul_assoc, R.mul_comm a b, R.mul_assoc]
theorem one_mul (a : K) : 1 * a = a := by rw [R.mul_comm, R.mul_one]
theorem add_mul (a b c : K) : (a + b) * c = a * c + b * c := by rw [R.mul_comm, R.mul_add, R.mul_comm c a, R.mul_comm c b]
theorem cancel {a b c : K} (h : a + b = a + c) : b = c := by
  have : -a + (a + b) = -a + (a + c) := by rw [h]
  rwa [← R.add_assoc, ← R.add_assoc, R.neg_add, R.zero_add, R.zero_add] at this
theorem mul_zero (a : K) : a * 0 = 0 := by
  have h : a * 0 + a * 0 = a * 0 + 0 := by rw [← R.mul_add, R.add_zero, R.add_zero]
  exact R.cancel h
theorem zero_mul (a : K) : 0 * a = 0 := by rw [R.mul_comm, R.mul_zero]
theorem neg_of {a b : K} (h : a + b = 0) : b = -a := R.cancel (a := a) (by rw [h, R.add_neg])
theorem mul_neg (a b : K) : a * -b = -(a * b) := R.neg_of (by rw [← R.mul_add, R.add_neg, R.mul_zero])
theorem neg_neg (a : K) : - -a = a := (R.neg_of (R.neg_add a)).symm
theorem sub_zero {a b : K} (h : a + -b = 0) : a = b := by
  have h' := R.neg_of ((R.add_comm _ _).trans h)
  rw [R.neg_neg] at h'
  exact h'

/-! Powers and multiples. -/
theorem pw_one (n : Nat) : pw (1 : K) n = 1 := by
  induction n with
  | zero => rfl
  | succ n ih => simp only [pw, ih, R.mul_one]
theorem pw_add (x : K) (n m : Nat) : pw x (n + m) = pw x n * pw x m := by
  induction m with
  | zero => simp only [pw, Nat.add_zero, R.mul_one]
  | succ m ih => rw [← Nat.add_assoc]; simp only [pw, ih, R.mul_assoc]
theorem pw_mul (x : K) (n m : Nat) : pw x (n * m) = pw (pw x n) m := by
  induction m with
  | zero => simp only [pw, Nat.mul_zero]
  | succ m ih => rw [Nat.mul_succ, R.pw_add, ih]; rfl
theorem mul_nsm (n : Nat) (x y : K) : x * nsm n y = nsm n (x * y) := by
  induction n with
  | zero => simp only [nsm, R.mul_zero]
  | succ n ih => simp only [nsm, R.mul_add, ih]
end IsRing

/-- The sum of c_i x^i y^(n - i). -/
def hom (x y : K) : List Nat → K
  | [] => 0
  | c :: l => nsm c (pw y l.length) + x * hom x y l
def pasc : Nat → List Nat → List Nat
  | k, [] => [k]
  | k, c :: l => (k + c) :: pasc c l
def pascn : Nat → List Nat
  | 0 => [1]
  | n + 1 => pasc 0 (pascn n)

namespace IsRing
variable (R : IsRing K)
include R
end IsRing

/-! Polynomials from the leading coefficient on. -/
def hn (x : K) : K → List K → K
  | a, [] => a
  | a, c :: l => hn x (a * x + c) l
def synd (r : K) : K → List K → List K
  | _, [] => []
  | a, c :: l => a :: synd r (a * r + c) l
omit [Neg K] [Zero K] [One K] in
theorem synd_len (r : K) : ∀ (a : K) (l : List K), (synd r a l).length = l.length
  | _, [] => rfl
  | a, c :: l => by simp only [synd, List.length_cons, synd_len r _ l]

namespace IsRing
variable (R : IsRing K)
include R
theorem hn_synd (x r : K) : ∀ (l : List K) (a y : K), hn x (a + (x + -r) * y) l = (x + -r) * hn x y (synd r a l) + hn r a l
  | [], a, y => by simp only [hn, synd]; exact R.add_comm _ _
  | c :: l, a, y => by
    simp only [hn, synd]
    rw [← hn_synd x r l (a * r + c) (y * x + a)]
    congr 1
    have e : a * x = a * r + (x + -r) * a := by
      rw [R.add_mul, R.mul_comm (-r), R.mul_neg, R.mul_comm x a, R.add_left_comm, R.add_neg, R.add_zero]
    rw [R.add_mul, e, R.mul_add, R.mul_assoc]
    simp only [R.add_assoc, R.add_comm c]
    congr 1
    rw [R.add_left_comm]
/-- A monic polynomial has no more roots than its degree. -/
theorem roots (hd : ∀ a b : K, a * b = 0 → a = 0 ∨ b = 0) (h10 : (1 : K) ≠ 0) : ∀ (n : Nat) (l L : List K), l.length = n → L.Nodup → (∀ x ∈ L, hn x 1 l = 0) → L.length ≤ n
  | _, _, [], _, _, _ => Nat.zero_le _
  | 0, l, r :: L, hl, _, hr => by
    have : l = [] := List.eq_nil_of_length_eq_zero hl
    subst this
    exact absurd (hr r (by simp)) h10
  | n + 1, [], r :: L, hl, _, _ => by simp at hl
  | n + 1, c :: l, r :: L, hl, hN, hr => by
    have hr0 : hn r 1 (c :: l) = 0 := hr r (by simp)
    have key : ∀ x ∈ L, hn x 1 (synd r (1 * r + c) l) = 0 := by
      intro x hx
      have h0 := hr x (by simp [hx])
      have h1 := R.hn_synd x r (c :: l) 1 0
      rw [R.mul_zero, R.add_zero, h0, hr0, R.add_zero] at h1
      simp only [synd, hn, R.zero_mul, R.zero_add] at h1
      rcases hd _ _ h1.symm with h | h
      · have : x = r := R.sub_zero h
        subst this
        exact absurd hx (List.nodup_cons.1 hN).1
      · exact h
    have := roots hd h10 n (synd r (1 * r + c) l) L (by rw [synd_len]; simpa using hl) (List.nodup_cons.1 hN).2 key
    simp only [List.length_cons]; omega
end IsRing
def prd : List K → K
  | [] => 1
  | x :: l => x * prd l
namespace IsRing
variable (R : IsRing K)
include R
end IsRing
end
end Go.Abs
/- Rings: divisors, residues by an element. -/
namespace Go.Abs
section
variable {K : Type} [Add K] [Mul K] [Neg K] [Zero K] [One K]

def Dv (a b : K) : Prop := ∃ q, b = q * a
namespace IsRing
variable (R : IsRing K)
include R
theorem dv_refl (a : K) : Dv a a := ⟨1, (R.one_mul a).symm⟩
theorem dv_zero (a : K) : Dv a 0 := ⟨0, (R.zero_mul a).symm⟩
theorem dv_add {a b c : K} (h1 : Dv a b) (h2 : Dv a c) : Dv a (b + c) := by
  obtain ⟨x, rfl⟩ := h1
  obtain ⟨y, rfl⟩ := h2
  exact ⟨x + y, (R.add_mul _ _ _).symm⟩
theorem dv_mul {a b : K} (h : Dv a b) (c : K) : Dv a (c * b) := by
  obtain ⟨x, rfl⟩ := h
  exact ⟨c * x, (R.mul_assoc _ _ _).symm⟩
theorem dv_mul' {a b : K} (h : Dv a b) (c : K) : Dv a (b * c) := by rw [R.mul_comm]; exact R.dv_mul h c
theorem dv_neg {a b : K} (h : Dv a b) : Dv a (-b) := by
  obtain ⟨x, rfl⟩ := h
  exact ⟨-x, by rw [R.mul_comm (-x), R.mul_neg, R.mul_comm]⟩
theorem dv_trans {a b c : K} (h1 : Dv a b) (h2 : Dv b c) : Dv a c := by
  obtain ⟨y, rfl⟩ := h2
  exact R.dv_mul h1 y
/-- Of a sum and a part of it, the other part. -/
theorem dv_sub {a b c : K} (h1 : Dv a (b + c)) (h2 : Dv a b) : Dv a c := by
  have h := R.dv_add h1 (R.dv_neg h2)
  have e : b + c + -b = c := by rw [R.add_comm b c, R.add_assoc, R.add_neg, R.add_zero]
  rwa [e] at h
theorem neg_add' (a b : K) : -(a + b) = -a + -b := by
  refine (R.neg_of ?_).symm
  rw [R.add_assoc, R.add_left_comm b, R.add_neg, R.add_zero, R.add_neg]
theorem neg_zero : -(0 : K) = 0 := (R.neg_of (R.add_zero 0)).symm

/-! Congruence by an element. -/
theorem cong_eqv (f : K) : Equivalence fun a b : K => Dv f (a + -b) := by
  refine ⟨fun a => by rw [R.add_neg]; exact R.dv_zero f, fun {a b} h => ?_, fun {a b c} h1 h2 => ?_⟩
  · have := R.dv_neg h
    rwa [R.neg_add', R.neg_neg, R.add_comm] at this
  · have := R.dv_add h1 h2
    have e : a + -b + (b + -c) = a + -c := by rw [R.add_assoc, ← R.add_assoc (-b), R.neg_add, R.zero_add]
    rwa [e] at this
end IsRing
def sdv (R : IsRing K) (f : K) : Setoid K := ⟨fun a b => Dv f (a + -b), R.cong_eqv f⟩
def Qt (R : IsRing K) (f : K) : Type := Quotient (sdv R f)
def qm (R : IsRing K) (f a : K) : Qt R f := Quotient.mk (sdv R f) a
theorem qm_iff (R : IsRing K) {f a b : K} : qm R f a = qm R f b ↔ Dv f (a + -b) := ⟨fun h => Quotient.exact h, fun h => Quotient.sound h⟩
variable (R : IsRing K) (f : K)
instance : Add (Qt R f) := ⟨Quotient.lift₂ (fun a b => qm R f (a + b)) fun a b c d h1 h2 => by
  refine (qm_iff R).2 ?_
  have h := R.dv_add (show Dv f (a + -c) from h1) (show Dv f (b + -d) from h2)
  have e : a + -c + (b + -d) = a + b + -(c + d) := by
    rw [R.neg_add']; simp only [R.add_assoc]; rw [R.add_left_comm (-c)]
  rwa [e] at h⟩
instance : Mul (Qt R f) := ⟨Quotient.lift₂ (fun a b => qm R f (a * b)) fun a b c d h1 h2 => by
  refine (qm_iff R).2 ?_
  have h := R.dv_add (R.dv_mul' (show Dv f (a + -c) from h1) b) (R.dv_mul (show Dv f (b + -d) from h2) c)
  have e : (a + -c) * b + c * (b + -d) = a * b + -(c * d) := by
    rw [R.add_mul, R.mul_add, R.mul_neg, R.mul_comm (-c), R.mul_neg, R.mul_comm b c, R.add_assoc, ← R.add_assoc (-(c * b)), R.neg_add, R.zero_add]
  rwa [e] at h⟩
instance : Neg (Qt R f) := ⟨Quotient.lift (fun a => qm R f (-a)) fun a c h1 => by
  refine (qm_iff R).2 ?_
  have h := R.dv_neg (show Dv f (a + -c) from h1)
  rwa [R.neg_add'] at h⟩
instance : Zero (Qt R f) := ⟨qm R f 0⟩
instance : One (Qt R f) := ⟨qm R f 1⟩
end
end Go.Abs
/- Identities of commutative rings, decided: products are written out, and what stands against each other is taken away. -/
namespace Go.Abs
inductive RE where
  | v (n : Nat) | z | o | add (a b : RE) | mul (a b : RE) | neg (a : RE)
section
variable {K : Type} [Add K] [Mul K] [Neg K] [Zero K] [One K]
def rv (ρ : List K) : RE → K
  | .v n => ρ.getD n 0
  | .z => 0
  | .o => 1
  | .add a b => rv ρ a + rv ρ b
  | .mul a b => rv ρ a * rv ρ b
  | .neg a => -rv ρ a
end
def insR (i : Nat) : List Nat → List Nat
  | [] => [i]
  | j :: l => if i ≤ j then i :: j :: l else j :: insR i l
def mrg : List Nat → List Nat → List Nat
  | [], m => m
  | i :: l, m => insR i (mrg l m)
def mulL (s : Bool × List Nat) : List (Bool × List Nat) → List (Bool × List Nat)
  | [] => []
  | t :: l => (s.1 == t.1, mrg s.2 t.2) :: mulL s l
def mulLL : List (Bool × List Nat) → List (Bool × List Nat) → List (Bool × List Nat)
  | [], _ => []
  | s :: l, m => mulL s m ++ mulLL l m
def negL : List (Bool × List Nat) → List (Bool × List Nat)
  | [] => []
  | t :: l => (!t.1, t.2) :: negL l
def rx : RE → List (Bool × List Nat)
  | .v n => [(true, [n])]
  | .z => []
  | .o => [(true, [])]
  | .add a b => rx a ++ rx b
  | .mul a b => mulLL (rx a) (rx b)
  | .neg a => negL (rx a)
def same : List Nat → List Nat → Bool
  | [], [] => true
  | i :: l, j :: m => Nat.beq i j && same l m
  | _, _ => false
def rmv (t : Bool × List Nat) : List (Bool × List Nat) → Option (List (Bool × List Nat))
  | [] => none
  | s :: l => if (s.1 == t.1) && same s.2 t.2 then some l else match rmv t l with
    | some m => some (s :: m)
    | none => none
def cz : Nat → List (Bool × List Nat) → Bool
  | _, [] => true
  | 0, _ :: _ => false
  | n + 1, t :: l => match rmv (!t.1, t.2) l with
    | some m => cz n m
    | none => false
section
variable {K : Type} [Add K] [Mul K] [Neg K] [Zero K] [One K] (R : IsRing K) (ρ : List K)
def rvm : List Nat → K
  | [] => 1
  | i :: l => ρ.getD i 0 * rvm l
def rvt (t : Bool × List Nat) : K := if t.1 then rvm ρ t.2 else -rvm ρ t.2
def rvs : List (Bool × List Nat) → K
  | [] => 0
  | t :: l => rvt ρ t + rvs l
include R
theorem rvm_insR (i : Nat) : ∀ l, rvm ρ (insR i l) = ρ.getD i 0 * rvm ρ l
  | [] => rfl
  | j :: l => by
    simp only [insR]
    split
    · rfl
    · simp only [rvm]
      rw [rvm_insR i l, R.mul_left_comm]
theorem rvm_mrg : ∀ l m, rvm ρ (mrg l m) = rvm ρ l * rvm ρ m
  | [], m => by simp only [mrg, rvm]; rw [R.one_mul]
  | i :: l, m => by
    simp only [mrg, rvm]
    rw [rvm_insR R, rvm_mrg l m, R.mul_assoc]
theorem neg_mul' (a b : K) : -a * b = -(a * b) := by rw [R.mul_comm, R.mul_neg, R.mul_comm]
theorem rvt_mul (s t : Bool × List Nat) : rvt ρ (s.1 == t.1, mrg s.2 t.2) = rvt ρ s * rvt ρ t := by
  obtain ⟨a, l⟩ := s
  obtain ⟨b, m⟩ := t
  unfold rvt
  simp only
  cases a <;> cases b <;> simp only [beq_self_eq_true, if_true, Bool.false_eq_true, if_false, reduceCtorEq, beq_iff_eq, rvm_mrg R]
  · rw [neg_mul' R, R.mul_neg, R.neg_neg]
  · rw [neg_mul' R]
  · rw [R.mul_neg]
theorem rvs_app : ∀ l m, rvs ρ (l ++ m) = rvs ρ l + rvs ρ m
  | [], m => by simp only [List.nil_append, rvs]; rw [R.zero_add]
  | t :: l, m => by simp only [List.cons_append, rvs]; rw [rvs_app l m, R.add_assoc]
theorem rvs_mulL (s : Bool × List Nat) : ∀ l, rvs ρ (mulL s l) = rvt ρ s * rvs ρ l
  | [] => by simp only [mulL, rvs]; rw [R.mul_zero]
  | t :: l => by
    simp only [mulL, rvs]
    rw [rvs_mulL s l, rvt_mul R, R.mul_add]
theorem rvs_mulLL : ∀ l m, rvs ρ (mulLL l m) = rvs ρ l * rvs ρ m
  | [], m => by simp only [mulLL, rvs]; rw [R.zero_mul]
  | s :: l, m => by
    simp only [mulLL, rvs]
    rw [rvs_app R, rvs_mulL R, rvs_mulLL l m, R.add_mul]
theorem rvs_neg : ∀ l, rvs ρ (negL l) = -rvs ρ l
  | [] => by simp only [negL, rvs]; rw [R.neg_zero]
  | t :: l => by
    simp only [negL, rvs]
    rw [rvs_neg l, R.neg_add']
    congr 1
    obtain ⟨a, m⟩ := t
    unfold rvt
    cases a
    · simp only [Bool.not_false, if_true, Bool.false_eq_true, if_false]; rw [R.neg_neg]
    · simp only [Bool.not_true, if_true, Bool.false_eq_true, if_false]
theorem rvs_rx : ∀ e, rvs ρ (rx e) = rv ρ e
  | .v n => by simp only [rx, rvs, rvt, rvm, rv, if_true]; rw [R.add_zero, R.mul_one]
  | .z => rfl
  | .o => by simp only [rx, rvs, rvt, rvm, rv, if_true]; rw [R.add_zero]
  | .add a b => by simp only [rx, rv]; rw [rvs_app R, rvs_rx a, rvs_rx b]
  | .mul a b => by simp only [rx, rv]; rw [rvs_mulLL R, rvs_rx a, rvs_rx b]
  | .neg a => by simp only [rx, rv]; rw [rvs_neg R, rvs_rx a]
omit [Add K] [Mul K] [Neg K] [Zero K] [One K] R in
theorem same_eq : ∀ l m, same l m = true → l = m
  | [], [], _ => rfl
  | [], _ :: _, h => by simp [same] at h
  | _ :: _, [], h => by simp [same] at h
  | i :: l, j :: m, h => by
    simp only [same, Bool.and_eq_true] at h
    rw [Nat.eq_of_beq_eq_true h.1, same_eq l m h.2]
theorem rvs_rmv (t : Bool × List Nat) : ∀ l m, rmv t l = some m → rvs ρ l = rvt ρ t + rvs ρ m
  | [], m, h => by simp [rmv] at h
  | s :: l, m, h => by
    simp only [rmv] at h
    split at h
    · rename_i hs
      simp only [Bool.and_eq_true, beq_iff_eq] at hs
      have e : s = t := Prod.ext hs.1 (same_eq _ _ hs.2)
      cases h
      rw [e]; rfl
    · split at h
      · rename_i m' hm
        cases h
        simp only [rvs]
        rw [rvs_rmv t l m' hm, R.add_left_comm]
      · cases h
theorem rvs_cz : ∀ n l, cz n l = true → rvs ρ l = 0
  | _, [], _ => rfl
  | 0, _ :: _, h => by simp [cz] at h
  | n + 1, t :: l, h => by
    simp only [cz] at h
    split at h
    · rename_i m hm
      simp only [rvs]
      rw [rvs_rmv R ρ _ l m hm, rvs_cz n m h, R.add_zero]
      obtain ⟨a, w⟩ := t
      unfold rvt
      cases a
      · simp only [Bool.not_false, if_true, Bool.false_eq_true, if_false]; rw [R.neg_add]
      · simp only [Bool.not_true, if_true, Bool.false_eq_true, if_false]; rw [R.add_neg]
    · cases h
theorem ring_eq (a b : RE) (h : cz 1000 (rx (.add a (.neg b))) = true) : rv ρ a = rv ρ b := by
  have h1 := rvs_cz R ρ _ _ h
  rw [rvs_rx R] at h1
  exact R.sub_zero h1
end
end Go.Abs
/- Quadratic elements over a ring, ideals and their products and classes. -/
namespace Go.Abs
section
variable {K : Type} [Add K] [Mul K] [Neg K] [Zero K] [One K]
theorem qd_mcomm_u (R : IsRing K) (D u v x y : K) : u * x + D * (v * y) = x * u + D * (y * v) := ring_eq R [D, u, v, x, y] (.add (.mul (.v 1) (.v 3)) (.mul (.v 0) (.mul (.v 2) (.v 4)))) (.add (.mul (.v 3) (.v 1)) (.mul (.v 0) (.mul (.v 4) (.v 2)))) rfl
theorem qd_mcomm_v (R : IsRing K) (D u v x y : K) : u * y + v * x = x * v + y * u := ring_eq R [D, u, v, x, y] (.add (.mul (.v 1) (.v 4)) (.mul (.v 2) (.v 3))) (.add (.mul (.v 3) (.v 2)) (.mul (.v 4) (.v 1))) rfl
theorem qd_massoc_u (R : IsRing K) (D a b c d e f : K) : (a * c + D * (b * d)) * e + D * ((a * d + b * c) * f) = a * (c * e + D * (d * f)) + D * (b * (c * f + d * e)) := ring_eq R [D, a, b, c, d, e, f] (.add (.mul (.add (.mul (.v 1) (.v 3)) (.mul (.v 0) (.mul (.v 2) (.v 4)))) (.v 5)) (.mul (.v 0) (.mul (.add (.mul (.v 1) (.v 4)) (.mul (.v 2) (.v 3))) (.v 6)))) (.add (.mul (.v 1) (.add (.mul (.v 3) (.v 5)) (.mul (.v 0) (.mul (.v 4) (.v 6))))) (.mul (.v 0) (.mul (.v 2) (.add (.mul (.v 3) (.v 6)) (.mul (.v 4) (.v 5)))))) rfl
theorem qd_massoc_v (R : IsRing K) (D a b c d e f : K) : (a * c + D * (b * d)) * f + (a * d + b * c) * e = a * (c * f + d * e) + b * (c * e + D * (d * f)) := ring_eq R [D, a, b, c, d, e, f] (.add (.mul (.add (.mul (.v 1) (.v 3)) (.mul (.v 0) (.mul (.v 2) (.v 4)))) (.v 6)) (.mul (.add (.mul (.v 1) (.v 4)) (.mul (.v 2) (.v 3))) (.v 5))) (.add (.mul (.v 1) (.add (.mul (.v 3) (.v 6)) (.mul (.v 4) (.v 5)))) (.mul (.v 2) (.add (.mul (.v 3) (.v 5)) (.mul (.v 0) (.mul (.v 4) (.v 6)))))) rfl
theorem qd_madd_u (R : IsRing K) (D a b c d e f : K) : a * (c + e) + D * (b * (d + f)) = a * c + D * (b * d) + (a * e + D * (b * f)) := ring_eq R [D, a, b, c, d, e, f] (.add (.mul (.v 1) (.add (.v 3) (.v 5))) (.mul (.v 0) (.mul (.v 2) (.add (.v 4) (.v 6))))) (.add (.add (.mul (.v 1) (.v 3)) (.mul (.v 0) (.mul (.v 2) (.v 4)))) (.add (.mul (.v 1) (.v 5)) (.mul (.v 0) (.mul (.v 2) (.v 6))))) rfl
theorem qd_madd_v (R : IsRing K) (D a b c d e f : K) : a * (d + f) + b * (c + e) = a * d + b * c + (a * f + b * e) := ring_eq R [D, a, b, c, d, e, f] (.add (.mul (.v 1) (.add (.v 4) (.v 6))) (.mul (.v 2) (.add (.v 3) (.v 5)))) (.add (.add (.mul (.v 1) (.v 4)) (.mul (.v 2) (.v 3))) (.add (.mul (.v 1) (.v 6)) (.mul (.v 2) (.v 5)))) rfl
theorem qd_one_u (R : IsRing K) (D a b : K) : a * 1 + D * (b * 0) = a := ring_eq R [D, a, b] (.add (.mul (.v 1) .o) (.mul (.v 0) (.mul (.v 2) .z))) (.v 1) rfl
theorem qd_one_v (R : IsRing K) (D a b : K) : a * 0 + b * 1 = b := ring_eq R [D, a, b] (.add (.mul (.v 1) .z) (.mul (.v 2) .o)) (.v 2) rfl
/-- u + v y with y y = D. -/
structure Qd (D : K) where
  u : K
  v : K
variable {D : K}
omit [Add K] [Mul K] [Neg K] [Zero K] [One K] in
theorem qd_ext : ∀ {x y : Qd D}, x.u = y.u → x.v = y.v → x = y
  | ⟨_, _⟩, ⟨_, _⟩, rfl, rfl => rfl
instance : Add (Qd D) := ⟨fun x y => ⟨x.u + y.u, x.v + y.v⟩⟩
instance : Mul (Qd D) := ⟨fun x y => ⟨x.u * y.u + D * (x.v * y.v), x.u * y.v + x.v * y.u⟩⟩
instance : Neg (Qd D) := ⟨fun x => ⟨-x.u, -x.v⟩⟩
instance : Zero (Qd D) := ⟨⟨0, 0⟩⟩
instance : One (Qd D) := ⟨⟨1, 0⟩⟩
omit [Neg K] [Zero K] [One K] in
theorem mul_u (x y : Qd D) : (x * y).u = x.u * y.u + D * (x.v * y.v) := rfl
theorem qdring (R : IsRing K) : IsRing (Qd D) where
  add_comm x y := qd_ext (R.add_comm _ _) (R.add_comm _ _)
  add_assoc x y z := qd_ext (R.add_assoc _ _ _) (R.add_assoc _ _ _)
  add_zero x := qd_ext (R.add_zero _) (R.add_zero _)
  add_neg x := qd_ext (R.add_neg _) (R.add_neg _)
  mul_comm x y := qd_ext (qd_mcomm_u R D x.u x.v y.u y.v) (qd_mcomm_v R D x.u x.v y.u y.v)
  mul_assoc x y z := qd_ext (qd_massoc_u R D x.u x.v y.u y.v z.u z.v) (qd_massoc_v R D x.u x.v y.u y.v z.u z.v)
  mul_one x := qd_ext (qd_one_u R D x.u x.v) (qd_one_v R D x.u x.v)
  mul_add x y z := qd_ext (qd_madd_u R D x.u x.v y.u y.v z.u z.v) (qd_madd_v R D x.u x.v y.u y.v z.u z.v)
end

/-! Ideals. -/
section
variable {K : Type} [Add K] [Mul K] [Neg K] [Zero K] [One K] (R : IsRing K)
structure Idl (S : K → Prop) : Prop where
  zero : S 0
  add : ∀ {x y}, S x → S y → S (x + y)
  mul : ∀ (r) {x}, S x → S (r * x)
inductive Pr (S T : K → Prop) : K → Prop
  | zero : Pr S T 0
  | cons {s t x : K} : S s → T t → Pr S T x → Pr S T (s * t + x)
def Sc (a : K) (S : K → Prop) (x : K) : Prop := ∃ s, S s ∧ x = a * s
variable {S T U : K → Prop}
omit [Add K] [Mul K] [Neg K] [Zero K] [One K] in
theorem sub_ext {S T : K → Prop} (h1 : ∀ x, S x → T x) (h2 : ∀ x, T x → S x) : S = T := funext fun x => propext ⟨h1 x, h2 x⟩
omit [Neg K] [One K] in
theorem Pr.mono {S' T' : K → Prop} (h1 : ∀ x, S x → S' x) (h2 : ∀ x, T x → T' x) {x : K} (h : Pr S T x) : Pr S' T' x := by
  induction h with
  | zero => exact .zero
  | cons hs ht _ ih => exact .cons (h1 _ hs) (h2 _ ht) ih
include R
theorem Pr.add' {x y : K} (h1 : Pr S T x) (h2 : Pr S T y) : Pr S T (x + y) := by
  induction h1 with
  | zero => rw [R.zero_add]; exact h2
  | cons hs ht _ ih => rw [R.add_assoc]; exact .cons hs ht ih
theorem Pr.one' {s t : K} (hs : S s) (ht : T t) : Pr S T (s * t) := by
  have := Pr.cons (S := S) (T := T) hs ht .zero
  rwa [R.add_zero] at this
theorem Pr.idl (hS : Idl S) : Idl (Pr S T) where
  zero := .zero
  add h1 h2 := Pr.add' R h1 h2
  mul r {x} h := by
    induction h with
    | zero => rw [R.mul_zero]; exact .zero
    | cons hs ht _ ih =>
      rw [R.mul_add, ← R.mul_assoc]
      exact .cons (hS.mul r hs) ht ih
theorem Pr.comm {x : K} (h : Pr S T x) : Pr T S x := by
  induction h with
  | zero => exact .zero
  | cons hs ht _ ih => rw [R.mul_comm]; exact .cons ht hs ih
theorem pr_comm (S T : K → Prop) : Pr S T = Pr T S := sub_ext (fun _ h => Pr.comm R h) (fun _ h => Pr.comm R h)
theorem pr_assoc1 {x : K} (h : Pr (Pr S T) U x) : Pr S (Pr T U) x := by
  induction h with
  | zero => exact .zero
  | cons hp hu _ ih =>
    refine Pr.add' R ?_ ih
    clear ih
    induction hp with
    | zero => rw [R.zero_mul]; exact .zero
    | cons hs ht _ ih2 =>
      rw [R.add_mul, R.mul_assoc]
      exact .cons hs (Pr.one' R ht hu) ih2
theorem pr_assoc (S T U : K → Prop) : Pr (Pr S T) U = Pr S (Pr T U) := sub_ext (fun _ h => pr_assoc1 R h) (fun x h => by
  have h1 : Pr (Pr T U) S x := Pr.comm R h
  have h2 : Pr T (Pr U S) x := pr_assoc1 R h1
  have h3 : Pr (Pr U S) T x := Pr.comm R h2
  have h4 : Pr U (Pr S T) x := pr_assoc1 R h3
  exact Pr.comm R h4)
theorem sc_pr (a : K) (S T : K → Prop) : Pr (Sc a S) T = Sc a (Pr S T) := sub_ext (fun x h => by
  induction h with
  | zero => exact ⟨0, .zero, (R.mul_zero a).symm⟩
  | cons hs ht _ ih =>
    obtain ⟨s, h1, rfl⟩ := hs
    obtain ⟨y, h2, rfl⟩ := ih
    exact ⟨_, .cons h1 ht h2, by rw [R.mul_add, R.mul_assoc]⟩) (fun x h => by
  obtain ⟨y, h, rfl⟩ := h
  induction h with
  | zero => rw [R.mul_zero]; exact .zero
  | cons hs ht _ ih =>
    rw [R.mul_add, ← R.mul_assoc]
    exact .cons ⟨_, hs, rfl⟩ ht ih)
theorem sc_sc (a b : K) (S : K → Prop) : Sc a (Sc b S) = Sc (a * b) S := sub_ext (fun x h => by
  obtain ⟨y, ⟨z, h1, rfl⟩, rfl⟩ := h
  exact ⟨z, h1, (R.mul_assoc _ _ _).symm⟩) (fun x h => by
  obtain ⟨z, h1, rfl⟩ := h
  exact ⟨_, ⟨z, h1, rfl⟩, R.mul_assoc _ _ _⟩)
theorem sc_one (S : K → Prop) : Sc 1 S = S := sub_ext (fun x h => by
  obtain ⟨y, h1, rfl⟩ := h
  rw [R.one_mul]; exact h1) (fun x h => ⟨x, h, (R.one_mul x).symm⟩)
/-- All of the ring. -/
theorem pr_all (hS : Idl S) : Pr S (fun _ => True) = S := sub_ext (fun x h => by
  induction h with
  | zero => exact hS.zero
  | cons hs _ _ ih => exact hS.add (by rw [R.mul_comm]; exact hS.mul _ hs) ih) (fun x h => by
  have := Pr.one' R (T := fun _ => True) h (t := 1) trivial
  rwa [R.mul_one] at this)
/-! Classes. -/
omit R in
def Cl (S T : K → Prop) : Prop := ∃ a b : K, a ≠ 0 ∧ b ≠ 0 ∧ Sc a S = Sc b T
variable (hd : ∀ a b : K, a * b = 0 → a = 0 ∨ b = 0)
omit [Add K] [Neg K] R in
theorem Cl.refl (h1 : (1 : K) ≠ 0) (S : K → Prop) : Cl S S := ⟨1, 1, h1, h1, rfl⟩
omit [Add K] [Neg K] [One K] R in
theorem Cl.symm (h : Cl S T) : Cl T S := by
  obtain ⟨a, b, ha, hb, e⟩ := h
  exact ⟨b, a, hb, ha, e.symm⟩
include hd
theorem Cl.trans (h1 : Cl S T) (h2 : Cl T U) : Cl S U := by
  obtain ⟨a, b, ha, hb, e⟩ := h1
  obtain ⟨c, d, hc, hd', e'⟩ := h2
  refine ⟨c * a, b * d, fun h => (hd _ _ h).elim hc ha, fun h => (hd _ _ h).elim hb hd', ?_⟩
  rw [← sc_sc R, e, sc_sc R, R.mul_comm c b, ← sc_sc R, e', sc_sc R]
omit hd in
theorem Cl.pr {S' : K → Prop} (h : Cl S S') (T : K → Prop) : Cl (Pr S T) (Pr S' T) := by
  obtain ⟨a, b, ha, hb, e⟩ := h
  exact ⟨a, b, ha, hb, by rw [← sc_pr R, ← sc_pr R, e]⟩
/-- A factor is taken away. -/
theorem sc_cancel {a : K} (ha : a ≠ 0) (h : Sc a S = Sc a T) : S = T := by
  have cn : ∀ x y : K, a * x = a * y → x = y := fun x y e => by
    have : a * (x + -y) = 0 := by rw [R.mul_add, R.mul_neg, e, R.add_neg]
    exact R.sub_zero ((hd _ _ this).resolve_left ha)
  refine sub_ext (fun x hx => ?_) (fun x hx => ?_)
  · obtain ⟨y, h1, h2⟩ : Sc a T (a * x) := by rw [← h]; exact ⟨x, hx, rfl⟩
    rw [cn x y h2]; exact h1
  · obtain ⟨y, h1, h2⟩ : Sc a S (a * x) := by rw [h]; exact ⟨x, hx, rfl⟩
    rw [cn x y h2]; exact h1
end
end Go.Abs
/- The composition of forms, as a product of ideals. -/
namespace Go.Abs
section
variable {K : Type} [Add K] [Mul K] [Neg K] [Zero K] [One K]
theorem fi_add (R : IsRing K) (a b v w x y : K) : b * v + a * w + (b * x + a * y) = b * (v + x) + a * (w + y) := ring_eq R [a, b, v, w, x, y] (.add (.add (.mul (.v 1) (.v 2)) (.mul (.v 0) (.v 3))) (.add (.mul (.v 1) (.v 4)) (.mul (.v 0) (.v 5)))) (.add (.mul (.v 1) (.add (.v 2) (.v 4))) (.mul (.v 0) (.add (.v 3) (.v 5)))) rfl
theorem fi_mul (R : IsRing K) (a b c r s v w : K) : r * (b * v + a * w) + (b * b + -(a * c)) * (s * v) = b * (r * v + s * (b * v + a * w)) + a * (r * w + -(b * (s * w)) + -(c * (s * v))) := ring_eq R [a, b, c, r, s, v, w] (.add (.mul (.v 3) (.add (.mul (.v 1) (.v 5)) (.mul (.v 0) (.v 6)))) (.mul (.add (.mul (.v 1) (.v 1)) (.neg (.mul (.v 0) (.v 2)))) (.mul (.v 4) (.v 5)))) (.add (.mul (.v 1) (.add (.mul (.v 3) (.v 5)) (.mul (.v 4) (.add (.mul (.v 1) (.v 5)) (.mul (.v 0) (.v 6)))))) (.mul (.v 0) (.add (.add (.mul (.v 3) (.v 6)) (.neg (.mul (.v 1) (.mul (.v 4) (.v 6))))) (.neg (.mul (.v 2) (.mul (.v 4) (.v 5))))))) rfl
theorem lin_u (R : IsRing K) (D x u v : K) : x * u + D * (0 * v) = x * u := ring_eq R [D, x, u, v] (.add (.mul (.v 1) (.v 2)) (.mul (.v 0) (.mul .z (.v 3)))) (.mul (.v 1) (.v 2)) rfl
theorem lin_v (R : IsRing K) (x u v : K) : x * v + 0 * u = x * v := ring_eq R [x, u, v] (.add (.mul (.v 0) (.v 2)) (.mul .z (.v 1))) (.mul (.v 0) (.v 2)) rfl
theorem m1_u (R : IsRing K) (D a c : K) : a * c + D * (0 * 1) = a * c := ring_eq R [D, a, c] (.add (.mul (.v 1) (.v 2)) (.mul (.v 0) (.mul .z .o))) (.mul (.v 1) (.v 2)) rfl
theorem m1_v (R : IsRing K) (a c : K) : a * 1 + 0 * c = a := ring_eq R [a, c] (.add (.mul (.v 0) .o) (.mul .z (.v 1))) (.v 0) rfl
theorem m2_u (R : IsRing K) (D a b : K) : b * a + D * (1 * 0) = a * b := ring_eq R [D, a, b] (.add (.mul (.v 2) (.v 1)) (.mul (.v 0) (.mul .o .z))) (.mul (.v 1) (.v 2)) rfl
theorem m2_v (R : IsRing K) (a b : K) : b * 0 + 1 * a = a := ring_eq R [a, b] (.add (.mul (.v 1) .z) (.mul .o (.v 0))) (.v 0) rfl
theorem m3_v (R : IsRing K) (b c : K) : b * 1 + 1 * c = b + c := ring_eq R [b, c] (.add (.mul (.v 0) .o) (.mul .o (.v 1))) (.add (.v 0) (.v 1)) rfl
theorem m4_u (R : IsRing K) (D a b : K) : a * b + D * (0 * 0) = a * b := ring_eq R [D, a, b] (.add (.mul (.v 1) (.v 2)) (.mul (.v 0) (.mul .z .z))) (.mul (.v 1) (.v 2)) rfl
theorem m4_v (R : IsRing K) (a b : K) : a * 0 + 0 * b = 0 := ring_eq R [a, b] (.add (.mul (.v 0) .z) (.mul .z (.v 1))) .z rfl
theorem cmp_u (R : IsRing K) (d p q g b c m n r s t v w x y : K) : (b * v + d * p * x) * (c * w + d * q * y) + (b * b + -(d * p * m)) * (v * w) = d * ((r * p * c + s * q * b + t * (b * g + -(p * m))) * (g * (v * w) + p * (x * w) + q * (y * v)) + p * q * ((r * (b + -c) + t * m) * (v * y) + (s * (c + -b) + t * n) * (w * x) + d * (x * y) + -((s * m + r * n) * (v * w)))) + (d * ((1 + -(r * p + s * q + t * g)) * ((b * g + -(p * m)) * (v * w) + b * q * (v * y) + c * p * (w * x)) + (g * (c + -b) + -(q * n + -(p * m))) * (t * p * (w * x) + -(r * p * (v * w)))) + b * (b + c + -(d * g)) * (v * w)) := ring_eq R [d, p, q, g, b, c, m, n, r, s, t, v, w, x, y] (.add (.mul (.add (.mul (.v 4) (.v 11)) (.mul (.mul (.v 0) (.v 1)) (.v 13))) (.add (.mul (.v 5) (.v 12)) (.mul (.mul (.v 0) (.v 2)) (.v 14)))) (.mul (.add (.mul (.v 4) (.v 4)) (.neg (.mul (.mul (.v 0) (.v 1)) (.v 6)))) (.mul (.v 11) (.v 12)))) (.add (.mul (.v 0) (.add (.mul (.add (.add (.mul (.mul (.v 8) (.v 1)) (.v 5)) (.mul (.mul (.v 9) (.v 2)) (.v 4))) (.mul (.v 10) (.add (.mul (.v 4) (.v 3)) (.neg (.mul (.v 1) (.v 6)))))) (.add (.add (.mul (.v 3) (.mul (.v 11) (.v 12))) (.mul (.v 1) (.mul (.v 13) (.v 12)))) (.mul (.v 2) (.mul (.v 14) (.v 11))))) (.mul (.mul (.v 1) (.v 2)) (.add (.add (.add (.mul (.add (.mul (.v 8) (.add (.v 4) (.neg (.v 5)))) (.mul (.v 10) (.v 6))) (.mul (.v 11) (.v 14))) (.mul (.add (.mul (.v 9) (.add (.v 5) (.neg (.v 4)))) (.mul (.v 10) (.v 7))) (.mul (.v 12) (.v 13)))) (.mul (.v 0) (.mul (.v 13) (.v 14)))) (.neg (.mul (.add (.mul (.v 9) (.v 6)) (.mul (.v 8) (.v 7))) (.mul (.v 11) (.v 12)))))))) (.add (.mul (.v 0) (.add (.mul (.add .o (.neg (.add (.add (.mul (.v 8) (.v 1)) (.mul (.v 9) (.v 2))) (.mul (.v 10) (.v 3))))) (.add (.add (.mul (.add (.mul (.v 4) (.v 3)) (.neg (.mul (.v 1) (.v 6)))) (.mul (.v 11) (.v 12))) (.mul (.mul (.v 4) (.v 2)) (.mul (.v 11) (.v 14)))) (.mul (.mul (.v 5) (.v 1)) (.mul (.v 12) (.v 13))))) (.mul (.add (.mul (.v 3) (.add (.v 5) (.neg (.v 4)))) (.neg (.add (.mul (.v 2) (.v 7)) (.neg (.mul (.v 1) (.v 6)))))) (.add (.mul (.mul (.v 10) (.v 1)) (.mul (.v 12) (.v 13))) (.neg (.mul (.mul (.v 8) (.v 1)) (.mul (.v 11) (.v 12)))))))) (.mul (.mul (.v 4) (.add (.add (.v 4) (.v 5)) (.neg (.mul (.v 0) (.v 3))))) (.mul (.v 11) (.v 12))))) rfl
theorem cmp_v (R : IsRing K) (d p q g b c m n r s t v w x y : K) : (b * v + d * p * x) * w + v * (c * w + d * q * y) = d * (g * (v * w) + p * (x * w) + q * (y * v)) + (b + c + -(d * g)) * (v * w) := ring_eq R [d, p, q, g, b, c, m, n, r, s, t, v, w, x, y] (.add (.mul (.add (.mul (.v 4) (.v 11)) (.mul (.mul (.v 0) (.v 1)) (.v 13))) (.v 12)) (.mul (.v 11) (.add (.mul (.v 5) (.v 12)) (.mul (.mul (.v 0) (.v 2)) (.v 14))))) (.add (.mul (.v 0) (.add (.add (.mul (.v 3) (.mul (.v 11) (.v 12))) (.mul (.v 1) (.mul (.v 13) (.v 12)))) (.mul (.v 2) (.mul (.v 14) (.v 11))))) (.mul (.add (.add (.v 4) (.v 5)) (.neg (.mul (.v 0) (.v 3)))) (.mul (.v 11) (.v 12)))) rfl
theorem gen_u (R : IsRing K) (d p q g b c m n r s t e f h k v w : K) : v * (r * (d * p * c) + s * (d * q * b) + t * (b * c + (b * b + -(d * p * m)))) + w * (e * (d * p * (d * q)) + (f * (q * (d * p * c) + -p * (d * q * b)) + (h * (g * (d * q * b) + -q * (b * c + (b * b + -(d * p * m)))) + k * (g * (d * p * c) + -p * (b * c + (b * b + -(d * p * m))))))) = d * ((r * p * c + s * q * b + t * (b * g + -(p * m))) * v + p * q * w) + (v * (t * b * (b + c + -(d * g))) + w * (k * p * d * (g * (c + -b) + -(q * n + -(p * m))) + -(d * p * q * (1 + -(e * d + f * (c + -b) + h * m + k * n)) + h * q * b * (b + c + -(d * g)) + k * p * b * (b + c + -(d * g))))) := ring_eq R [d, p, q, g, b, c, m, n, r, s, t, e, f, h, k, v, w] (.add (.mul (.v 15) (.add (.add (.mul (.v 8) (.mul (.mul (.v 0) (.v 1)) (.v 5))) (.mul (.v 9) (.mul (.mul (.v 0) (.v 2)) (.v 4)))) (.mul (.v 10) (.add (.mul (.v 4) (.v 5)) (.add (.mul (.v 4) (.v 4)) (.neg (.mul (.mul (.v 0) (.v 1)) (.v 6)))))))) (.mul (.v 16) (.add (.mul (.v 11) (.mul (.mul (.v 0) (.v 1)) (.mul (.v 0) (.v 2)))) (.add (.mul (.v 12) (.add (.mul (.v 2) (.mul (.mul (.v 0) (.v 1)) (.v 5))) (.mul (.neg (.v 1)) (.mul (.mul (.v 0) (.v 2)) (.v 4))))) (.add (.mul (.v 13) (.add (.mul (.v 3) (.mul (.mul (.v 0) (.v 2)) (.v 4))) (.mul (.neg (.v 2)) (.add (.mul (.v 4) (.v 5)) (.add (.mul (.v 4) (.v 4)) (.neg (.mul (.mul (.v 0) (.v 1)) (.v 6)))))))) (.mul (.v 14) (.add (.mul (.v 3) (.mul (.mul (.v 0) (.v 1)) (.v 5))) (.mul (.neg (.v 1)) (.add (.mul (.v 4) (.v 5)) (.add (.mul (.v 4) (.v 4)) (.neg (.mul (.mul (.v 0) (.v 1)) (.v 6))))))))))))) (.add (.mul (.v 0) (.add (.mul (.add (.add (.mul (.mul (.v 8) (.v 1)) (.v 5)) (.mul (.mul (.v 9) (.v 2)) (.v 4))) (.mul (.v 10) (.add (.mul (.v 4) (.v 3)) (.neg (.mul (.v 1) (.v 6)))))) (.v 15)) (.mul (.mul (.v 1) (.v 2)) (.v 16)))) (.add (.mul (.v 15) (.mul (.mul (.v 10) (.v 4)) (.add (.add (.v 4) (.v 5)) (.neg (.mul (.v 0) (.v 3)))))) (.mul (.v 16) (.add (.mul (.mul (.mul (.v 14) (.v 1)) (.v 0)) (.add (.mul (.v 3) (.add (.v 5) (.neg (.v 4)))) (.neg (.add (.mul (.v 2) (.v 7)) (.neg (.mul (.v 1) (.v 6))))))) (.neg (.add (.add (.mul (.mul (.mul (.v 0) (.v 1)) (.v 2)) (.add .o (.neg (.add (.add (.add (.mul (.v 11) (.v 0)) (.mul (.v 12) (.add (.v 5) (.neg (.v 4))))) (.mul (.v 13) (.v 6))) (.mul (.v 14) (.v 7)))))) (.mul (.mul (.mul (.v 13) (.v 2)) (.v 4)) (.add (.add (.v 4) (.v 5)) (.neg (.mul (.v 0) (.v 3)))))) (.mul (.mul (.mul (.v 14) (.v 1)) (.v 4)) (.add (.add (.v 4) (.v 5)) (.neg (.mul (.v 0) (.v 3))))))))))) rfl
theorem gen_v (R : IsRing K) (d p q g b c m n r s t e f h k v w : K) : v * (r * (d * p) + s * (d * q) + t * (b + c)) + w * (e * 0 + (f * (q * (d * p) + -p * (d * q)) + (h * (g * (d * q) + -q * (b + c)) + k * (g * (d * p) + -p * (b + c))))) = d * v + (v * (t * (b + c + -(d * g)) + -(d * (1 + -(r * p + s * q + t * g)))) + -(w * (h * q * (b + c + -(d * g)) + k * p * (b + c + -(d * g))))) := ring_eq R [d, p, q, g, b, c, m, n, r, s, t, e, f, h, k, v, w] (.add (.mul (.v 15) (.add (.add (.mul (.v 8) (.mul (.v 0) (.v 1))) (.mul (.v 9) (.mul (.v 0) (.v 2)))) (.mul (.v 10) (.add (.v 4) (.v 5))))) (.mul (.v 16) (.add (.mul (.v 11) .z) (.add (.mul (.v 12) (.add (.mul (.v 2) (.mul (.v 0) (.v 1))) (.mul (.neg (.v 1)) (.mul (.v 0) (.v 2))))) (.add (.mul (.v 13) (.add (.mul (.v 3) (.mul (.v 0) (.v 2))) (.mul (.neg (.v 2)) (.add (.v 4) (.v 5))))) (.mul (.v 14) (.add (.mul (.v 3) (.mul (.v 0) (.v 1))) (.mul (.neg (.v 1)) (.add (.v 4) (.v 5)))))))))) (.add (.mul (.v 0) (.v 15)) (.add (.mul (.v 15) (.add (.mul (.v 10) (.add (.add (.v 4) (.v 5)) (.neg (.mul (.v 0) (.v 3))))) (.neg (.mul (.v 0) (.add .o (.neg (.add (.add (.mul (.v 8) (.v 1)) (.mul (.v 9) (.v 2))) (.mul (.v 10) (.v 3))))))))) (.neg (.mul (.v 16) (.add (.mul (.mul (.v 13) (.v 2)) (.add (.add (.v 4) (.v 5)) (.neg (.mul (.v 0) (.v 3))))) (.mul (.mul (.v 14) (.v 1)) (.add (.add (.v 4) (.v 5)) (.neg (.mul (.v 0) (.v 3)))))))))) rfl
/-- The ideal of a form: what is b times its second part, modulo a. -/
def FI (D a b : K) (x : Qd D) : Prop := ∃ w, x.u = b * x.v + a * w
variable (R : IsRing K) {D : K}
include R
theorem D_of {a b c : K} (h : b * b + -D = a * c) : D = b * b + -(a * c) := by
  rw [← h, R.neg_add', R.neg_neg, ← R.add_assoc, R.add_neg, R.zero_add]
theorem fi_idl {a b c : K} (h : b * b + -D = a * c) : Idl (FI D a b) where
  zero := ⟨0, by show (0 : K) = b * 0 + a * 0; rw [R.mul_zero, R.mul_zero, R.add_zero]⟩
  add := by
    rintro ⟨u, v⟩ ⟨u', v'⟩ ⟨w, hw⟩ ⟨w', hw'⟩
    refine ⟨w + w', ?_⟩
    show u + u' = b * (v + v') + a * (w + w')
    simp only at hw hw'
    rw [hw, hw']
    exact fi_add R a b v w v' w'
  mul := by
    rintro ⟨r, s⟩ ⟨u, v⟩ ⟨w, hw⟩
    refine ⟨r * w + -(b * (s * w)) + -(c * (s * v)), ?_⟩
    show r * u + D * (s * v) = b * (r * v + s * u) + a * (r * w + -(b * (s * w)) + -(c * (s * v)))
    simp only at hw
    rw [hw, D_of R h]
    exact fi_mul R a b c r s v w
theorem fi_lin {S : Qd D → Prop} (hS : Idl S) (x : K) {u v : K} (h : S ⟨u, v⟩) : S ⟨x * u, x * v⟩ := by
  have h1 := hS.mul (⟨x, 0⟩ : Qd D) h
  have e : (⟨x, 0⟩ : Qd D) * ⟨u, v⟩ = ⟨x * u, x * v⟩ := qd_ext (lin_u R D x u v) (lin_v R x u v)
  rwa [e] at h1
omit [Neg K] [One K] R in
theorem fi_sum {S : Qd D → Prop} (hS : Idl S) {u v u' v' : K} (h : S ⟨u, v⟩) (h' : S ⟨u', v'⟩) : S ⟨u + u', v + v'⟩ := hS.add h h'
/-- The product of the ideals of two forms. -/
theorem comp_is {d p q g b c m n r s t e f h k : K} (hZ : b + c = d * g) (h1 : b * b + -D = d * p * m) (h2 : c * c + -D = d * q * n) (hE : r * p + s * q + t * g = 1) (hF : g * (c + -b) = q * n + -(p * m)) (hG : e * d + f * (c + -b) + h * m + k * n = 1) :
    Pr (FI D (d * p) b) (FI D (d * q) c) = Sc (⟨d, 0⟩ : Qd D) (FI D (p * q) (r * p * c + s * q * b + t * (b * g + -(p * m)))) := by
  have zZ : b + c + -(d * g) = 0 := by rw [hZ, R.add_neg]
  have zE : 1 + -(r * p + s * q + t * g) = 0 := by rw [hE, R.add_neg]
  have zF : g * (c + -b) + -(q * n + -(p * m)) = 0 := by rw [hF, R.add_neg]
  have zG : 1 + -(e * d + f * (c + -b) + h * m + k * n) = 0 := by rw [hG, R.add_neg]
  have hD := D_of R h1
  have Q : IsRing (Qd D) := qdring R
  have i1 := fi_idl R h1
  have i2 := fi_idl R h2
  have iP : Idl (Pr (FI D (d * p) b) (FI D (d * q) c)) := Pr.idl Q i1
  refine sub_ext (fun x hx => ?_) (fun x hx => ?_)
  · induction hx with
    | zero => exact ⟨0, ⟨0, by show (0 : K) = _ * 0 + _ * 0; rw [R.mul_zero, R.mul_zero, R.add_zero]⟩, (Q.mul_zero _).symm⟩
    | cons hs ht _ ih =>
      rename_i s' t' _ _
      obtain ⟨z, ⟨w0, hw0⟩, hz⟩ := ih
      obtain ⟨u, v⟩ := s'
      obtain ⟨u', w⟩ := t'
      obtain ⟨x', hx'⟩ := hs
      obtain ⟨y, hy⟩ := ht
      simp only at hx' hy
      have eu := cmp_u R d p q g b c m n r s t v w x' y
      have ev' := cmp_v R d p q g b c m n r s t v w x' y
      rw [zE, zF, zZ, R.zero_mul, R.zero_mul, R.add_zero, R.mul_zero, R.mul_zero, R.zero_mul, R.add_zero, R.add_zero] at eu
      rw [zZ, R.zero_mul, R.add_zero] at ev'
      obtain ⟨B, hB⟩ : ∃ B, r * p * c + s * q * b + t * (b * g + -(p * m)) = B := ⟨_, rfl⟩
      obtain ⟨V, hV⟩ : ∃ V, g * (v * w) + p * (x' * w) + q * (y * v) = V := ⟨_, rfl⟩
      obtain ⟨W, hW⟩ : ∃ W, (r * (b + -c) + t * m) * (v * y) + (s * (c + -b) + t * n) * (w * x') + d * (x' * y) + -((s * m + r * n) * (v * w)) = W := ⟨_, rfl⟩
      rw [hB, hV, hW] at eu
      rw [hV] at ev'
      rw [hB] at hw0 ⊢
      have key : (⟨u, v⟩ : Qd D) * ⟨u', w⟩ = (⟨d, 0⟩ : Qd D) * ⟨B * V + p * q * W, V⟩ := qd_ext (by
        show u * u' + D * (v * w) = d * (B * V + p * q * W) + D * (0 * V)
        rw [hx', hy, lin_u R D d _ V, ← eu]
        exact congrArg ((b * v + d * p * x') * (c * w + d * q * y) + · * (v * w)) hD) (by
        show u * w + v * u' = d * V + 0 * (B * V + p * q * W)
        rw [hx', hy, R.zero_mul, R.add_zero]
        exact ev')
      rw [hz, key, ← Q.mul_add]
      refine ⟨_, ⟨W + w0, ?_⟩, rfl⟩
      show B * V + p * q * W + z.u = B * (V + z.v) + p * q * (W + w0)
      rw [hw0]
      exact fi_add R _ _ _ _ _ _
  · obtain ⟨⟨u, v⟩, ⟨w, hw⟩, rfl⟩ := hx
    simp only at hw
    have a1 : FI D (d * p) b ⟨d * p, 0⟩ := ⟨1, by show d * p = b * 0 + d * p * 1; rw [R.mul_zero, R.mul_one, R.zero_add]⟩
    have y1 : FI D (d * p) b ⟨b, 1⟩ := ⟨0, by show b = b * 1 + d * p * 0; rw [R.mul_zero, R.mul_one, R.add_zero]⟩
    have a2 : FI D (d * q) c ⟨d * q, 0⟩ := ⟨1, by show d * q = c * 0 + d * q * 1; rw [R.mul_zero, R.mul_one, R.zero_add]⟩
    have y2 : FI D (d * q) c ⟨c, 1⟩ := ⟨0, by show c = c * 1 + d * q * 0; rw [R.mul_zero, R.mul_one, R.add_zero]⟩
    have P1 : Pr (FI D (d * p) b) (FI D (d * q) c) ⟨d * p * c, d * p⟩ := by
      have h := Pr.one' Q a1 y2
      rwa [show (⟨d * p, 0⟩ : Qd D) * ⟨c, 1⟩ = ⟨d * p * c, d * p⟩ from qd_ext (m1_u R D (d * p) c) (m1_v R (d * p) c)] at h
    have P2 : Pr (FI D (d * p) b) (FI D (d * q) c) ⟨d * q * b, d * q⟩ := by
      have h := Pr.one' Q y1 a2
      rwa [show (⟨b, 1⟩ : Qd D) * ⟨d * q, 0⟩ = ⟨d * q * b, d * q⟩ from qd_ext (m2_u R D (d * q) b) (m2_v R (d * q) b)] at h
    have P3 : Pr (FI D (d * p) b) (FI D (d * q) c) ⟨b * c + (b * b + -(d * p * m)), b + c⟩ := by
      have h := Pr.one' Q y1 y2
      rwa [show (⟨b, 1⟩ : Qd D) * ⟨c, 1⟩ = ⟨b * c + (b * b + -(d * p * m)), b + c⟩ from qd_ext (by
        show b * c + D * (1 * 1) = _
        rw [R.mul_one, R.mul_one]
        exact congrArg (b * c + ·) hD) (m3_v R b c)] at h
    have P4 : Pr (FI D (d * p) b) (FI D (d * q) c) ⟨d * p * (d * q), 0⟩ := by
      have h := Pr.one' Q a1 a2
      rwa [show (⟨d * p, 0⟩ : Qd D) * ⟨d * q, 0⟩ = ⟨d * p * (d * q), 0⟩ from qd_ext (m4_u R D (d * p) (d * q)) (m4_v R (d * p) (d * q))] at h
    have L := fi_lin R iP
    have T := fi_sum iP (L v (fi_sum iP (fi_sum iP (L r P1) (L s P2)) (L t P3))) (L w (fi_sum iP (L e P4) (fi_sum iP (L f (fi_sum iP (L q P1) (L (-p) P2))) (fi_sum iP (L h (fi_sum iP (L g P2) (L (-q) P3))) (L k (fi_sum iP (L g P1) (L (-p) P3)))))))
    have eu := gen_u R d p q g b c m n r s t e f h k v w
    have ev' := gen_v R d p q g b c m n r s t e f h k v w
    rw [zF, zG, zZ] at eu
    rw [zE, zZ] at ev'
    simp only [R.mul_zero, R.zero_mul, R.add_zero, R.neg_zero] at eu ev'
    have key : (⟨d, 0⟩ : Qd D) * ⟨u, v⟩ = ⟨d * u, d * v⟩ := qd_ext (lin_u R D d u v) (lin_v R d u v)
    rw [key, hw, ← eu, ← ev']
    simp only [R.mul_zero, R.zero_mul, R.add_zero, R.neg_zero] at T ⊢
    exact T
end
end Go.Abs
/- Reduction of forms, conjugates, norms. -/
namespace Go.Abs
section
variable {K : Type} [Add K] [Mul K] [Neg K] [Zero K] [One K]
theorem red_u (R : IsRing K) (a b c v w : K) : b * (b * v + a * w) + (b * b + -(a * c)) * (-1 * v) = a * (b * w + c * v) := ring_eq R [a, b, c, v, w] (.add (.mul (.v 1) (.add (.mul (.v 1) (.v 3)) (.mul (.v 0) (.v 4)))) (.mul (.add (.mul (.v 1) (.v 1)) (.neg (.mul (.v 0) (.v 2)))) (.mul (.neg .o) (.v 3)))) (.mul (.v 0) (.add (.mul (.v 1) (.v 4)) (.mul (.v 2) (.v 3)))) rfl
theorem red_v (R : IsRing K) (a b v w : K) : b * v + -1 * (b * v + a * w) = a * -w := ring_eq R [a, b, v, w] (.add (.mul (.v 1) (.v 2)) (.mul (.neg .o) (.add (.mul (.v 1) (.v 2)) (.mul (.v 0) (.v 3))))) (.mul (.v 0) (.neg (.v 3))) rfl
theorem red_f (R : IsRing K) (b c v w : K) : b * w + c * v = -b * -w + c * v := ring_eq R [b, c, v, w] (.add (.mul (.v 0) (.v 3)) (.mul (.v 1) (.v 2))) (.add (.mul (.neg (.v 0)) (.neg (.v 3))) (.mul (.v 1) (.v 2))) rfl
theorem fi_shift (R : IsRing K) (a b q v w : K) : b * v + a * w = (b + a * q) * v + a * (w + -(q * v)) := ring_eq R [a, b, q, v, w] (.add (.mul (.v 1) (.v 3)) (.mul (.v 0) (.v 4))) (.add (.mul (.add (.v 1) (.mul (.v 0) (.v 2))) (.v 3)) (.mul (.v 0) (.add (.v 4) (.neg (.mul (.v 2) (.v 3)))))) rfl
theorem fi_shift' (R : IsRing K) (a b q v w : K) : (b + a * q) * v + a * w = b * v + a * (w + q * v) := ring_eq R [a, b, q, v, w] (.add (.mul (.add (.v 1) (.mul (.v 0) (.v 2))) (.v 3)) (.mul (.v 0) (.v 4))) (.add (.mul (.v 1) (.v 3)) (.mul (.v 0) (.add (.v 4) (.mul (.v 2) (.v 3))))) rfl
theorem fi_unit (R : IsRing K) (a k l b v w : K) : k * a * (l * w) = a * (k * l * w) := ring_eq R [a, k, l, b, v, w] (.mul (.mul (.v 1) (.v 0)) (.mul (.v 2) (.v 5))) (.mul (.v 0) (.mul (.mul (.v 1) (.v 2)) (.v 5))) rfl
theorem cj_u (R : IsRing K) (D a b c d : K) : a * c + D * (-b * -d) = a * c + D * (b * d) := ring_eq R [D, a, b, c, d] (.add (.mul (.v 1) (.v 3)) (.mul (.v 0) (.mul (.neg (.v 2)) (.neg (.v 4))))) (.add (.mul (.v 1) (.v 3)) (.mul (.v 0) (.mul (.v 2) (.v 4)))) rfl
theorem cj_v (R : IsRing K) (a b c d : K) : a * -d + -b * c = -(a * d + b * c) := ring_eq R [a, b, c, d] (.add (.mul (.v 0) (.neg (.v 3))) (.mul (.neg (.v 1)) (.v 2))) (.neg (.add (.mul (.v 0) (.v 3)) (.mul (.v 1) (.v 2)))) rfl
theorem nm_u (R : IsRing K) (D a b : K) : a * a + D * (b * -b) = a * a + -(D * (b * b)) := ring_eq R [D, a, b] (.add (.mul (.v 1) (.v 1)) (.mul (.v 0) (.mul (.v 2) (.neg (.v 2))))) (.add (.mul (.v 1) (.v 1)) (.neg (.mul (.v 0) (.mul (.v 2) (.v 2))))) rfl
theorem nm_v (R : IsRing K) (a b : K) : a * -b + b * a = 0 := ring_eq R [a, b] (.add (.mul (.v 0) (.neg (.v 1))) (.mul (.v 1) (.v 0))) .z rfl
theorem nm_mul (R : IsRing K) (D a b c d : K) : (a * c + D * (b * d)) * (a * c + D * (b * d)) + -(D * ((a * d + b * c) * (a * d + b * c))) = (a * a + -(D * (b * b))) * (c * c + -(D * (d * d))) := ring_eq R [D, a, b, c, d] (.add (.mul (.add (.mul (.v 1) (.v 3)) (.mul (.v 0) (.mul (.v 2) (.v 4)))) (.add (.mul (.v 1) (.v 3)) (.mul (.v 0) (.mul (.v 2) (.v 4))))) (.neg (.mul (.v 0) (.mul (.add (.mul (.v 1) (.v 4)) (.mul (.v 2) (.v 3))) (.add (.mul (.v 1) (.v 4)) (.mul (.v 2) (.v 3))))))) (.mul (.add (.mul (.v 1) (.v 1)) (.neg (.mul (.v 0) (.mul (.v 2) (.v 2))))) (.add (.mul (.v 3) (.v 3)) (.neg (.mul (.v 0) (.mul (.v 4) (.v 4)))))) rfl
theorem two_b (R : IsRing K) (b c : K) : b + c + -(c + -b) = b + b := ring_eq R [b, c] (.add (.add (.v 0) (.v 1)) (.neg (.add (.v 1) (.neg (.v 0))))) (.add (.v 0) (.v 0)) rfl
theorem red_k (R : IsRing K) (a b c v w : K) : b * (b * w + a * -v) + (b * b + -(a * c)) * (-1 * w) = a * (-b * v + c * w) := ring_eq R [a, b, c, v, w] (.add (.mul (.v 1) (.add (.mul (.v 1) (.v 4)) (.mul (.v 0) (.neg (.v 3))))) (.mul (.add (.mul (.v 1) (.v 1)) (.neg (.mul (.v 0) (.v 2)))) (.mul (.neg .o) (.v 4)))) (.mul (.v 0) (.add (.mul (.neg (.v 1)) (.v 3)) (.mul (.v 2) (.v 4)))) rfl
theorem red_l (R : IsRing K) (a b v w : K) : b * w + -1 * (b * w + a * -v) = a * v := ring_eq R [a, b, v, w] (.add (.mul (.v 1) (.v 3)) (.mul (.neg .o) (.add (.mul (.v 1) (.v 3)) (.mul (.v 0) (.neg (.v 2)))))) (.mul (.v 0) (.v 2)) rfl
theorem fi_one (R : IsRing K) (u b v : K) : u = b * v + 1 * (u + -(b * v)) := ring_eq R [u, b, v] (.v 0) (.add (.mul (.v 1) (.v 2)) (.mul .o (.add (.v 0) (.neg (.mul (.v 1) (.v 2)))))) rfl
theorem cj_fi1 (R : IsRing K) (a b v w : K) : b * -v + a * w = -b * v + a * w := ring_eq R [a, b, v, w] (.add (.mul (.v 1) (.neg (.v 2))) (.mul (.v 0) (.v 3))) (.add (.mul (.neg (.v 1)) (.v 2)) (.mul (.v 0) (.v 3))) rfl
theorem cop_id (R : IsRing K) (w a b c d e f x y m n : K) : w * (a * (c * (e * x + f * y) + d * m) + b * n) = w * (a * (c * e)) * x + w * (a * (c * f)) * y + w * (a * d) * m + w * b * n := ring_eq R [w, a, b, c, d, e, f, x, y, m, n] (.mul (.v 0) (.add (.mul (.v 1) (.add (.mul (.v 3) (.add (.mul (.v 5) (.v 7)) (.mul (.v 6) (.v 8)))) (.mul (.v 4) (.v 9)))) (.mul (.v 2) (.v 10)))) (.add (.add (.add (.mul (.mul (.v 0) (.mul (.v 1) (.mul (.v 3) (.v 5)))) (.v 7)) (.mul (.mul (.v 0) (.mul (.v 1) (.mul (.v 3) (.v 6)))) (.v 8))) (.mul (.mul (.v 0) (.mul (.v 1) (.v 4))) (.v 9))) (.mul (.mul (.v 0) (.v 2)) (.v 10))) rfl
theorem sqf_id' (R : IsRing K) (x y z w p : K) : y * x * (y * x) + -(z * x * p * (w * x)) = (y * y + -(z * p * w)) * (x * x) := ring_eq R [x, y, z, w, p] (.add (.mul (.mul (.v 1) (.v 0)) (.mul (.v 1) (.v 0))) (.neg (.mul (.mul (.mul (.v 2) (.v 0)) (.v 4)) (.mul (.v 3) (.v 0))))) (.mul (.add (.mul (.v 1) (.v 1)) (.neg (.mul (.mul (.v 2) (.v 4)) (.v 3)))) (.mul (.v 0) (.v 0))) rfl
variable (R : IsRing K) {D : K}
include R
/-- One step of reduction. -/
theorem red_is {a b c : K} (h : b * b + -D = a * c) : Sc (⟨b, -1⟩ : Qd D) (FI D a b) = Sc (⟨a, 0⟩ : Qd D) (FI D c (-b)) := by
  have hD := D_of R h
  refine sub_ext (fun x hx => ?_) (fun x hx => ?_)
  · obtain ⟨⟨u, v⟩, ⟨w, hw⟩, rfl⟩ := hx
    simp only at hw
    refine ⟨⟨b * w + c * v, -w⟩, ⟨v, red_f R b c v w⟩, qd_ext ?_ ?_⟩
    · show b * u + D * (-1 * v) = a * (b * w + c * v) + D * (0 * -w)
      rw [lin_u R D a _ (-w), hw, ← red_u R a b c v w]
      exact congrArg (b * (b * v + a * w) + · * (-1 * v)) hD
    · show b * v + -1 * u = a * -w + 0 * (b * w + c * v)
      rw [R.zero_mul, R.add_zero, hw]
      exact red_v R a b v w
  · obtain ⟨⟨u, v⟩, ⟨w, hw⟩, rfl⟩ := hx
    simp only at hw
    refine ⟨⟨b * w + a * -v, w⟩, ⟨-v, rfl⟩, qd_ext ?_ ?_⟩
    · show a * u + D * (0 * v) = b * (b * w + a * -v) + D * (-1 * w)
      rw [lin_u R D a _ v, hw, hD]
      exact (red_k R a b c v w).symm
    · show a * v + 0 * u = b * w + -1 * (b * w + a * -v)
      rw [R.zero_mul, R.add_zero]
      exact (red_l R a b v w).symm
theorem fi_mod (a b q : K) : FI D a (b + a * q) = FI D a b := sub_ext (fun x hx => by
  obtain ⟨w, hw⟩ := hx
  exact ⟨_, hw.trans (fi_shift' R a b q x.v w)⟩) (fun x hx => by
  obtain ⟨w, hw⟩ := hx
  exact ⟨_, hw.trans (fi_shift R a b q x.v w)⟩)
theorem fi_unit_eq (a b : K) {k l : K} (h : k * l = 1) : FI D (k * a) b = FI D a b := sub_ext (fun x hx => by
  obtain ⟨w, hw⟩ := hx
  refine ⟨k * w, hw.trans ?_⟩
  rw [R.mul_comm k a, R.mul_assoc]) (fun x hx => by
  obtain ⟨w, hw⟩ := hx
  refine ⟨l * w, hw.trans ?_⟩
  rw [fi_unit R a k l b x.v w, h, R.one_mul])
theorem fi_all (b : K) : FI D 1 b = fun _ => True := sub_ext (fun _ _ => trivial) (fun x _ => ⟨x.u + -(b * x.v), fi_one R x.u b x.v⟩)

omit R in
def cj (x : Qd D) : Qd D := ⟨x.u, -x.v⟩
theorem cj_cj (x : Qd D) : cj (cj x) = x := qd_ext rfl (R.neg_neg _)
theorem cj_mul (x y : Qd D) : cj (x * y) = cj x * cj y := qd_ext (cj_u R D x.u x.v y.u y.v).symm (cj_v R x.u x.v y.u y.v).symm
theorem cj_add (x y : Qd D) : cj (x + y) = cj x + cj y := qd_ext rfl (R.neg_add' _ _)
theorem cj_zero : cj (0 : Qd D) = 0 := qd_ext rfl R.neg_zero
omit R in
def Cj (S : Qd D → Prop) (x : Qd D) : Prop := S (cj x)
theorem cj_fi (a b : K) : Cj (FI D a b) = FI D a (-b) := sub_ext (fun x hx => by
  obtain ⟨w, hw⟩ := hx
  exact ⟨w, hw.trans (cj_fi1 R a b x.v w)⟩) (fun x hx => by
  obtain ⟨w, hw⟩ := hx
  exact ⟨w, hw.trans (cj_fi1 R a b x.v w).symm⟩)
theorem cj_pr (S T : Qd D → Prop) : Cj (Pr S T) = Pr (Cj S) (Cj T) := by
  have one : ∀ (S T : Qd D → Prop) x, Pr S T x → Pr (Cj S) (Cj T) (cj x) := fun S T x h => by
    induction h with
    | zero => rw [cj_zero R]; exact .zero
    | cons hs ht _ ih =>
      rw [cj_add R, cj_mul R]
      exact .cons (by show _; unfold Cj; rw [cj_cj R]; exact hs) (by show _; unfold Cj; rw [cj_cj R]; exact ht) ih
  refine sub_ext (fun x hx => ?_) (fun x hx => ?_)
  · have := one S T _ hx
    rwa [cj_cj R] at this
  · have h := one _ _ _ hx
    have e : ∀ S : Qd D → Prop, Cj (Cj S) = S := fun S => funext fun x => by unfold Cj; rw [cj_cj R]
    rw [e, e] at h
    exact h
theorem cj_sc (a : Qd D) : Cj (Sc a fun _ => True) = Sc (cj a) fun _ => True := sub_ext (fun x hx => by
  obtain ⟨y, _, hy⟩ := hx
  exact ⟨cj y, trivial, by rw [← cj_mul R, ← hy, cj_cj R]⟩) (fun x hx => by
  obtain ⟨y, _, hy⟩ := hx
  exact ⟨cj y, trivial, by rw [hy, cj_mul R, cj_cj R]⟩)
omit R in
def nm (x : Qd D) : K := x.u * x.u + -(D * (x.v * x.v))
theorem nm_cj (x : Qd D) : x * cj x = ⟨nm x, 0⟩ := qd_ext (nm_u R D x.u x.v) (nm_v R x.u x.v)
theorem nm_prod (x y : Qd D) : nm (x * y) = nm x * nm y := nm_mul R D x.u x.v y.u y.v
end
end Go.Abs
/- Plain facts on arrays of 64 numbers. -/
namespace Go.Abs

abbrev V64 := Vec Int 64
def pad (l : List Int) : V64 := ⟨(List.range 64).map fun j => l.getD j 0, by simp⟩

theorem pad_rd (l : List Int) {j : Nat} (h : j < 64) : rd (pad l).1 j = l.getD j 0 := by
  simp [rd, pad, h]
theorem vec_ext {n : Nat} {a b : Vec Int n} (h : ∀ j, j < n → rd a.1 j = rd b.1 j) : a = b := by
  apply Subtype.ext
  apply List.ext_getElem
  · rw [a.2, b.2]
  · intro j h1 h2
    have := h j (by rw [a.2] at h1; exact h1)
    simpa [rd, h1, h2] using this
theorem rd_vset {n : Nat} (a : Vec Int n) (i j : Nat) (d : Int) (hi : i < n) : rd (vset a i d).1 j = if j = i then d else rd a.1 j := by
  have hl : i < a.1.length := by rw [a.2]; exact hi
  by_cases h : j = i
  · subst h; simp [rd, vset, hl]
  · rw [if_neg h]
    simp [rd, vset, Ne.symm h]
theorem rd_vrep {n : Nat} (j : Nat) (h : j < n) : rd (vrep n (0 : Int)).1 j = 0 := by
  simp [rd, vrep, h]
theorem pad_nil : pad [] = vrep 64 0 := vec_ext fun j h => by rw [pad_rd _ h, rd_vrep _ h]; simp
theorem pad_set (l : List Int) (d : Int) (h : l.length < 64) : vset (pad l) l.length d = pad (l ++ [d]) := by
  refine vec_ext fun j hj => ?_
  rw [rd_vset _ _ _ _ h, pad_rd _ hj, pad_rd _ hj]
  by_cases e : j = l.length
  · subst e; simp
  · rw [if_neg e]
    rcases Nat.lt_or_ge j l.length with h1 | h1
    · simp [h1, List.getElem?_append]
    · have h2 : l.length < j := by omega
      have h3 : (l ++ [d]).length ≤ j := by simp; omega
      rw [List.getD_eq_getElem?_getD, List.getD_eq_getElem?_getD, List.getElem?_eq_none h1, List.getElem?_eq_none h3]

theorem getD_app (l k : List Int) (j : Nat) : (l ++ k).getD j 0 = if j < l.length then l.getD j 0 else k.getD (j - l.length) 0 := by
  simp only [List.getD_eq_getElem?_getD, List.getElem?_append]
  split <;> rfl

/-- Bytes. -/
def Bytes (l : List Int) : Prop := ∀ d ∈ l, 0 ≤ d ∧ d < 256
end Go.Abs
/- Polynomials: coefficient functions, and rows of coefficients up to the leading one. -/
namespace Go.Abs

/-! How far a row reaches. -/
def top (g : Nat → Int) : Nat → Nat
  | 0 => 0
  | n + 1 => if g n = 0 then top g n else n + 1
theorem top_le (g : Nat → Int) : ∀ n, top g n ≤ n
  | 0 => Nat.le_refl _
  | n + 1 => by simp only [top]; split; exact Nat.le_succ_of_le (top_le g n); exact Nat.le_refl _
theorem top_zero (g : Nat → Int) : ∀ n i, top g n ≤ i → i < n → g i = 0
  | 0, i, _, h => by omega
  | n + 1, i, h1, h2 => by
    simp only [top] at h1
    split at h1
    · rename_i e
      by_cases hi : i = n
      · subst hi; exact e
      · exact top_zero g n i h1 (by omega)
    · omega
theorem top_lead (g : Nat → Int) : ∀ n, top g n ≠ 0 → g (top g n - 1) ≠ 0
  | 0, h => by simp [top] at h
  | n + 1, h => by
    simp only [top] at h ⊢
    split
    · rename_i e; rw [if_pos e] at h; exact top_lead g n h
    · rename_i e; simpa using e
theorem top_congr {f g : Nat → Int} : ∀ n, (∀ i, i < n → f i = g i) → top f n = top g n
  | 0, _ => rfl
  | n + 1, h => by simp only [top]; rw [h n (by omega), top_congr n fun i hi => h i (by omega)]
/-- The leading place is told by what stands there and behind. -/
theorem top_is {g : Nat → Int} {n k : Nat} (hk : k ≤ n) (hz : ∀ i, k ≤ i → i < n → g i = 0) (hl : k ≠ 0 → g (k - 1) ≠ 0) : top g n = k := by
  rcases Nat.lt_trichotomy (top g n) k with h | h | h
  · have := top_zero g n (k - 1) (by omega) (by omega)
    exact absurd this (hl (by omega))
  · exact h
  · have h1 := top_lead g n (by omega)
    have h2 := top_le g n
    exact absurd (hz (top g n - 1) (by omega) (by omega)) h1
/-! Reading rows. -/
theorem rd_nil (i : Nat) : rd ([] : List Int) i = 0 := by simp [rd]
theorem rd_lt {l : List Int} {i : Nat} (h : i < l.length) : rd l i = l[i] := by simp [rd, h]
theorem rd_ge {l : List Int} {i : Nat} (h : l.length ≤ i) : rd l i = 0 := by simp [rd, h]
theorem rd_mem {l : List Int} {i : Nat} (h : i < l.length) : rd l i ∈ l := by rw [rd_lt h]; exact List.getElem_mem _
theorem rd_ext {a b : List Int} (hl : a.length = b.length) (h : ∀ i, i < a.length → rd a i = rd b i) : a = b := by
  apply List.ext_getElem hl
  intro i h1 h2
  have := h i h1
  rwa [rd_lt h1, rd_lt h2] at this
theorem rd_take (l : List Int) (k i : Nat) : rd (l.take k) i = if i < k then rd l i else 0 := by
  by_cases h : i < k
  · rw [if_pos h]
    by_cases hl : i < l.length
    · rw [rd_lt (by simp; omega), rd_lt hl]; simp
    · rw [rd_ge (by simp; omega), rd_ge (by omega)]
  · rw [if_neg h, rd_ge (by simp; omega)]
theorem rd_set (l : List Int) (k : Nat) (d : Int) (i : Nat) (hk : k < l.length) : rd (l.set k d) i = if i = k then d else rd l i := by
  by_cases h : i = k
  · subst h; simp [rd, hk]
  · rw [if_neg h]; simp [rd, Ne.symm h]
theorem rd_rep (n i : Nat) : rd (List.replicate n (0 : Int)) i = 0 := by
  by_cases h : i < n
  · rw [rd_lt (by simpa using h)]; simp
  · rw [rd_ge (by simp; omega)]
theorem rd_padl (l : List Int) {j : Nat} (h : j < 64) : rd (pad l).1 j = rd l j := by rw [pad_rd _ h]; rfl
theorem rd_map {f : Nat → Int} (n i : Nat) : rd ((List.range n).map f) i = if i < n then f i else 0 := by
  by_cases h : i < n
  · rw [if_pos h, rd_lt (by simpa using h)]; simp
  · rw [if_neg h, rd_ge (by simp; omega)]

/-! Rows of functions. -/
def ofF (n : Nat) (f : Nat → Int) : List Int := (List.range (top f n)).map f
theorem ofF_len (n : Nat) (f : Nat → Int) : (ofF n f).length = top f n := by simp [ofF]
theorem rd_ofF {n : Nat} {f : Nat → Int} (hz : ∀ i, n ≤ i → f i = 0) (i : Nat) : rd (ofF n f) i = f i := by
  rw [ofF, rd_map]
  split
  · rfl
  · by_cases h : i < n
    · exact (top_zero f n i (by omega) h).symm
    · exact (hz i (by omega)).symm
theorem rd_ofF' {n : Nat} {f : Nat → Int} (i : Nat) : rd (ofF n f) i = if i < n then f i else 0 := by
  rw [ofF, rd_map]
  have := top_le f n
  by_cases h : i < n
  · rw [if_pos h]
    split
    · rfl
    · exact (top_zero f n i (by omega) h).symm
  · rw [if_neg h, if_neg (by omega)]
theorem ofF_congr {n : Nat} {f g : Nat → Int} (h : ∀ i, i < n → f i = g i) : ofF n f = ofF n g := by
  have e := top_congr n h
  have := top_le g n
  refine rd_ext (by rw [ofF_len, ofF_len, e]) fun i hi => ?_
  rw [rd_ofF', rd_ofF']
  split
  · exact h i (by assumption)
  · rfl
/-- A list without the zeros at its end. -/
theorem trim_eq (l : List Int) : l.take (top (rd l) l.length) = ofF l.length (rd l) := by
  have := top_le (rd l) l.length
  refine rd_ext (by rw [ofF_len]; simp; omega) fun i hi => ?_
  rw [rd_take, rd_ofF']
  simp at hi
  rw [if_pos (by omega), if_pos (by omega)]

/-- The coefficients of a polynomial modulo p, up to the leading one. -/
structure Row (p : Int) (l : List Int) : Prop where
  res : ∀ d ∈ l, 0 ≤ d ∧ d < p
  nrm : l.length ≠ 0 → rd l (l.length - 1) ≠ 0
theorem Row.rd {p : Int} {l : List Int} (h : Row p l) (hp : 0 < p) (i : Nat) : 0 ≤ rd l i ∧ rd l i < p := by
  by_cases hi : i < l.length
  · exact h.res _ (rd_mem hi)
  · rw [rd_ge (by omega)]; exact ⟨Int.le_refl _, hp⟩
theorem Row.bytes {p : Int} {l : List Int} (h : Row p l) (hp : p ≤ 256) : Bytes l := fun d hd => by have := h.res d hd; omega
theorem row_nil (p : Int) : Row p [] := ⟨by simp, by simp⟩
theorem row_ext {p q : Int} {a b : List Int} (ha : Row p a) (hb : Row q b) (h : ∀ i, rd a i = rd b i) : a = b := by
  have hl : a.length = b.length := by
    rcases Nat.lt_trichotomy a.length b.length with h1 | h1 | h1
    · have := hb.nrm (by omega)
      rw [← h, rd_ge (by omega)] at this
      exact absurd rfl this
    · exact h1
    · have := ha.nrm (by omega)
      rw [h, rd_ge (by omega)] at this
      exact absurd rfl this
  exact rd_ext hl fun i _ => h i
theorem row_ofF {p : Int} {n : Nat} {f : Nat → Int} (h : ∀ i, i < n → 0 ≤ f i ∧ f i < p) : Row p (ofF n f) := by
  have hle := top_le f n
  refine ⟨fun d hd => ?_, fun hn => ?_⟩
  · simp only [ofF, List.mem_map, List.mem_range] at hd
    obtain ⟨i, hi, rfl⟩ := hd
    exact h i (by omega)
  · rw [ofF_len] at hn ⊢
    rw [rd_ofF', if_pos (by omega)]
    exact top_lead f n hn
theorem Row.top {p : Int} {l : List Int} (h : Row p l) {n : Nat} (hn : l.length ≤ n) : top (Abs.rd l) n = l.length :=
  top_is hn (fun i h1 _ => rd_ge h1) h.nrm
theorem Row.ofF {p : Int} {l : List Int} (h : Row p l) {n : Nat} (hn : l.length ≤ n) : ofF n (Abs.rd l) = l := by
  refine rd_ext (by rw [ofF_len, h.top hn]) fun i hi => ?_
  rw [rd_ofF fun i hi => rd_ge (by omega)]
/-! Arrays and rows. -/
def row (v : V64) : List Int := ofF 64 (rd v.1)
/-- Coefficients from 0 to p - 1. -/
def Res (p : Int) (v : V64) : Prop := ∀ j, j < 64 → 0 ≤ rd v.1 j ∧ rd v.1 j < p
theorem row_row {p : Int} {v : V64} (h : Res p v) : Row p (row v) := row_ofF h
theorem row_len (v : V64) : (row v).length ≤ 64 := by rw [row, ofF_len]; exact top_le _ _
theorem pad_row (v : V64) : pad (row v) = v := vec_ext fun j hj => by rw [rd_padl _ hj, row, rd_ofF', if_pos hj]
theorem row_pad {p : Int} {l : List Int} (h : Row p l) (hl : l.length ≤ 64) : row (pad l) = l := by
  rw [row, ofF_congr (g := rd l) fun i hi => rd_padl l hi, h.ofF hl]
theorem res_pad {p : Int} {l : List Int} (h : Row p l) (hp : 0 < p) : Res p (pad l) := fun j hj => by rw [rd_padl _ hj]; exact h.rd hp j
theorem pad_inj {p q : Int} {a b : List Int} (ha : Row p a) (hb : Row q b) (h1 : a.length ≤ 64) (h2 : b.length ≤ 64) (h : pad a = pad b) : a = b := by
  rw [← row_pad ha h1, ← row_pad hb h2, h]

/-! Sums and products of coefficient functions. -/
def sumTo : Nat → (Nat → Int) → Int
  | 0, _ => 0
  | n + 1, f => sumTo n f + f n
theorem sumTo_congr {f g : Nat → Int} : ∀ n, (∀ i, i < n → f i = g i) → sumTo n f = sumTo n g
  | 0, _ => rfl
  | n + 1, h => by simp only [sumTo]; rw [sumTo_congr n fun i hi => h i (by omega), h n (by omega)]
theorem sumTo_zero {f : Nat → Int} : ∀ n, (∀ i, i < n → f i = 0) → sumTo n f = 0
  | 0, _ => rfl
  | n + 1, h => by simp only [sumTo]; rw [sumTo_zero n fun i hi => h i (by omega), h n (by omega)]; rfl
theorem sumTo_more {f : Nat → Int} {n : Nat} : ∀ m, (∀ i, n ≤ i → i < n + m → f i = 0) → sumTo (n + m) f = sumTo n f
  | 0, _ => rfl
  | m + 1, h => by
    rw [← Nat.add_assoc]
    simp only [sumTo]
    rw [sumTo_more m fun i h1 h2 => h i h1 (by omega), h (n + m) (by omega) (by omega), Int.add_zero]
/-- The summand that the first n coefficients give to a product. -/
def cv (a b : Nat → Int) (n k : Nat) : Int := sumTo n fun i => if i ≤ k then a i * b (k - i) else 0
theorem cv_succ (a b : Nat → Int) (n k : Nat) : cv a b (n + 1) k = cv a b n k + (if n ≤ k then a n * b (k - n) else 0) := rfl
def conv (a b : Nat → Int) (k : Nat) : Int := cv a b (k + 1) k
theorem cv_conv {a b : Nat → Int} {n : Nat} (hz : ∀ i, n ≤ i → a i = 0) (k : Nat) : cv a b n k = conv a b k := by
  unfold conv cv
  rcases Nat.le_total n (k + 1) with h | h
  · obtain ⟨m, e⟩ : ∃ m, k + 1 = n + m := ⟨k + 1 - n, by omega⟩
    rw [e]
    refine (sumTo_more m fun i h1 h2 => ?_).symm
    rw [hz i h1]; simp
  · obtain ⟨m, rfl⟩ : ∃ m, n = k + 1 + m := ⟨n - (k + 1), by omega⟩
    exact sumTo_more m fun i h1 h2 => if_neg (by omega)
theorem conv_zero {a b : Nat → Int} {n m : Nat} (ha : ∀ i, n ≤ i → a i = 0) (hb : ∀ i, m ≤ i → b i = 0) {k : Nat} (hk : n + m ≤ k + 1) : conv a b k = 0 := by
  refine sumTo_zero _ fun i hi => ?_
  rw [if_pos (by omega)]
  by_cases h : i < n
  · rw [hb (k - i) (by omega), Int.mul_zero]
  · rw [ha i (by omega), Int.zero_mul]
/-- The leading coefficient of a product. -/
theorem conv_lead {a b : Nat → Int} {n m : Nat} (ha : ∀ i, n < i → a i = 0) (hb : ∀ i, m < i → b i = 0) : conv a b (n + m) = a n * b m := by
  have h1 : conv a b (n + m) = cv a b (n + 1) (n + m) := (cv_conv (fun i hi => ha i (by omega)) _).symm
  rw [h1]
  unfold cv
  simp only [sumTo]
  rw [sumTo_zero n fun i hi => ?_, if_pos (by omega), show n + m - n = m by omega, Int.zero_add]
  rw [if_pos (by omega), hb _ (by omega), Int.mul_zero]

/-! Operations on rows. -/
def comb (p : Int) (a b : List Int) (k : Int) : List Int := ofF (max a.length b.length) fun i => (rd a i + k * rd b i) % p
def mul (p : Int) (a b : List Int) : List Int := ofF (a.length + b.length - 1) fun i => conv (rd a) (rd b) i % p

theorem emod_res {p : Int} (hp : 0 < p) (x : Int) : 0 ≤ x % p ∧ x % p < p := ⟨Int.emod_nonneg _ (by omega), Int.emod_lt_of_pos _ hp⟩
theorem comb_row {p : Int} (hp : 0 < p) (a b : List Int) (k : Int) : Row p (comb p a b k) := row_ofF fun _ _ => emod_res hp _
theorem mul_row {p : Int} (hp : 0 < p) (a b : List Int) : Row p (mul p a b) := row_ofF fun _ _ => emod_res hp _
theorem comb_rd (p : Int) (a b : List Int) (k : Int) (i : Nat) : rd (comb p a b k) i = (rd a i + k * rd b i) % p := by
  refine rd_ofF (fun i hi => ?_) i
  rw [rd_ge (by omega), rd_ge (by omega)]; simp
theorem mul_rd (p : Int) (a b : List Int) (i : Nat) : rd (mul p a b) i = conv (rd a) (rd b) i % p := by
  refine rd_ofF (fun i hi => ?_) i
  rw [conv_zero (n := a.length) (m := b.length) (fun i hi => rd_ge hi) (fun i hi => rd_ge hi) (by omega)]; simp
theorem comb_len (p : Int) (a b : List Int) (k : Int) : (comb p a b k).length ≤ max a.length b.length := by rw [comb, ofF_len]; exact top_le _ _
theorem mul_len (p : Int) (a b : List Int) : (mul p a b).length ≤ a.length + b.length - 1 := by rw [mul, ofF_len]; exact top_le _ _
theorem mul_nil (p : Int) (b : List Int) : mul p [] b = [] := by
  have h : ∀ i, conv (rd []) (rd b) i = 0 := fun i => sumTo_zero _ fun j _ => by rw [rd_nil]; simp
  have : (mul p [] b).length = 0 := by
    rw [mul, ofF_len]
    exact top_is (Nat.zero_le _) (fun i _ _ => by rw [h]; simp) (by simp)
  exact List.eq_nil_of_length_eq_zero this
theorem mul_nil' (p : Int) (a : List Int) : mul p a [] = [] := by
  have h : ∀ i, conv (rd a) (rd []) i = 0 := fun i => sumTo_zero _ fun j _ => by rw [rd_nil]; simp
  have : (mul p a []).length = 0 := by
    rw [mul, ofF_len]
    exact top_is (Nat.zero_le _) (fun i _ _ => by rw [h]; simp) (by simp)
  exact List.eq_nil_of_length_eq_zero this

/-! Small primes. -/
def isP (p : Int) : Bool := p == 2 || p == 3 || p == 5 || p == 7
theorem isP_iff {p : Int} : isP p = true ↔ p = 2 ∨ p = 3 ∨ p = 5 ∨ p = 7 := by
  simp [isP, or_assoc]
theorem isP_pos {p : Int} (h : isP p = true) : 2 ≤ p ∧ p ≤ 7 := by
  rcases isP_iff.1 h with rfl | rfl | rfl | rfl <;> omega
theorem noz2 : ∀ x y : Fin 2, x ≠ 0 → y ≠ 0 → (x.1 * y.1) % 2 ≠ 0 := by decide
theorem noz3 : ∀ x y : Fin 3, x ≠ 0 → y ≠ 0 → (x.1 * y.1) % 3 ≠ 0 := by decide
theorem noz5 : ∀ x y : Fin 5, x ≠ 0 → y ≠ 0 → (x.1 * y.1) % 5 ≠ 0 := by decide
theorem noz7 : ∀ x y : Fin 7, x ≠ 0 → y ≠ 0 → (x.1 * y.1) % 7 ≠ 0 := by decide
theorem noz_of {n : Nat} (hn : 0 < n) (h : ∀ x y : Fin n, x.1 ≠ 0 → y.1 ≠ 0 → (x.1 * y.1) % n ≠ 0) {x y : Int} (hx : 0 < x ∧ x < n) (hy : 0 < y ∧ y < n) : x * y % n ≠ 0 := by
  obtain ⟨a, rfl⟩ : ∃ a : Nat, x = a := ⟨x.toNat, by omega⟩
  obtain ⟨b, rfl⟩ : ∃ b : Nat, y = b := ⟨y.toNat, by omega⟩
  have := h ⟨a, by omega⟩ ⟨b, by omega⟩ (by simp; omega) (by simp; omega)
  simp only at this
  rw [← Int.natCast_mul, ← Int.natCast_emod]
  omega
theorem noz {p : Int} (hp : isP p = true) {x y : Int} (hx : 0 ≤ x ∧ x < p) (hy : 0 ≤ y ∧ y < p) (h1 : x ≠ 0) (h2 : y ≠ 0) : x * y % p ≠ 0 := by
  rcases isP_iff.1 hp with rfl | rfl | rfl | rfl
  · exact noz_of (n := 2) (by omega) (fun x y a b => noz2 x y (fun e => a (by rw [e]; rfl)) (fun e => b (by rw [e]; rfl))) ⟨by omega, hx.2⟩ ⟨by omega, hy.2⟩
  · exact noz_of (n := 3) (by omega) (fun x y a b => noz3 x y (fun e => a (by rw [e]; rfl)) (fun e => b (by rw [e]; rfl))) ⟨by omega, hx.2⟩ ⟨by omega, hy.2⟩
  · exact noz_of (n := 5) (by omega) (fun x y a b => noz5 x y (fun e => a (by rw [e]; rfl)) (fun e => b (by rw [e]; rfl))) ⟨by omega, hx.2⟩ ⟨by omega, hy.2⟩
  · exact noz_of (n := 7) (by omega) (fun x y a b => noz7 x y (fun e => a (by rw [e]; rfl)) (fun e => b (by rw [e]; rfl))) ⟨by omega, hx.2⟩ ⟨by omega, hy.2⟩
theorem mul_len_is {p : Int} (hp : isP p = true) {a b : List Int} (ha : Row p a) (hb : Row p b) (h1 : a.length ≠ 0) (h2 : b.length ≠ 0) : (mul p a b).length = a.length + b.length - 1 := by
  have hp2 := isP_pos hp
  rw [mul, ofF_len]
  refine top_is (Nat.le_refl _) (fun i h3 h4 => by omega) fun _ => ?_
  have e : a.length + b.length - 1 - 1 = (a.length - 1) + (b.length - 1) := by omega
  rw [e, conv_lead (fun i hi => rd_ge (by omega)) (fun i hi => rd_ge (by omega))]
  exact noz hp (ha.rd (by omega) _) (hb.rd (by omega) _) (ha.nrm h1) (hb.nrm h2)
end Go.Abs
/- Polynomials modulo p are a ring: products go along with sums, in any order. -/
namespace Go.Abs

theorem sumTo_add (f g : Nat → Int) : ∀ n, sumTo n (fun i => f i + g i) = sumTo n f + sumTo n g
  | 0 => rfl
  | n + 1 => by simp only [sumTo, sumTo_add f g n]; omega
theorem sumTo_mul (c : Int) (f : Nat → Int) : ∀ n, sumTo n (fun i => c * f i) = c * sumTo n f
  | 0 => by simp [sumTo]
  | n + 1 => by simp only [sumTo, sumTo_mul c f n, Int.mul_add]
theorem sumTo_mul' (c : Int) (f : Nat → Int) (n : Nat) : sumTo n (fun i => f i * c) = sumTo n f * c := by
  rw [Int.mul_comm, ← sumTo_mul]
  exact sumTo_congr n fun i _ => Int.mul_comm _ _
theorem sumTo_swap (f : Nat → Nat → Int) (m : Nat) : ∀ n, sumTo n (fun i => sumTo m (fun j => f i j)) = sumTo m (fun j => sumTo n (fun i => f i j))
  | 0 => (sumTo_zero m fun _ _ => rfl).symm
  | n + 1 => by simp only [sumTo]; rw [sumTo_swap f m n, ← sumTo_add]
/-- The first summand apart. -/
theorem sumTo_first (f : Nat → Int) : ∀ n, sumTo (n + 1) f = f 0 + sumTo n fun i => f (i + 1)
  | 0 => by simp [sumTo]
  | n + 1 => by
    have := sumTo_first f n
    simp only [sumTo] at this ⊢
    omega
theorem sumTo_rev (f : Nat → Int) : ∀ n, sumTo (n + 1) f = sumTo (n + 1) fun i => f (n - i)
  | 0 => rfl
  | n + 1 => by
    rw [sumTo_first (fun i => f (n + 1 - i)) (n + 1)]
    have h := sumTo_rev f n
    have e : sumTo (n + 1) (fun i => f (n + 1 - (i + 1))) = sumTo (n + 1) fun i => f (n - i) := sumTo_congr _ fun i _ => by rw [show n + 1 - (i + 1) = n - i by omega]
    rw [e, ← h]
    simp only [sumTo, Nat.sub_zero]
    omega
/-- Summands from j on. -/
theorem sumTo_from (g : Nat → Int) (j : Nat) : ∀ n, sumTo (j + n) (fun i => if j ≤ i then g (i - j) else 0) = sumTo n g
  | 0 => by rw [Nat.add_zero]; exact sumTo_zero j fun i hi => if_neg (by omega)
  | n + 1 => by
    rw [← Nat.add_assoc]
    simp only [sumTo]
    rw [sumTo_from g j n, if_pos (by omega), show j + n - j = n by omega]

theorem cv_more (a b : Nat → Int) {n k : Nat} (h : k + 1 ≤ n) : cv a b n k = conv a b k := by
  obtain ⟨m, rfl⟩ : ∃ m, n = k + 1 + m := ⟨n - (k + 1), by omega⟩
  exact sumTo_more m fun i h1 _ => if_neg (by omega)
theorem conv_comm (a b : Nat → Int) (k : Nat) : conv a b k = conv b a k := by
  unfold conv cv
  rw [sumTo_rev]
  refine sumTo_congr _ fun i hi => ?_
  rw [if_pos (by omega), if_pos (by omega), show k - (k - i) = i by omega, Int.mul_comm]
theorem conv_assoc (a b c : Nat → Int) (k : Nat) : conv (conv a b) c k = conv a (conv b c) k := by
  have h1 : conv (conv a b) c k = sumTo (k + 1) fun i => sumTo (k + 1) fun j => (if j ≤ i then a j * b (i - j) else 0) * c (k - i) := by
    unfold conv
    refine sumTo_congr _ fun i hi => ?_
    rw [if_pos (by omega), sumTo_mul']
    congr 1
    exact (cv_more a b (n := k + 1) (by omega)).symm
  have h2 : conv a (conv b c) k = sumTo (k + 1) fun j => a j * sumTo (k + 1 - j) fun l => b l * c (k - j - l) := by
    unfold conv
    refine sumTo_congr _ fun j hj => ?_
    rw [if_pos (by omega)]
    congr 1
    show sumTo (k - j + 1) (fun i => if i ≤ k - j then b i * c (k - j - i) else 0) = _
    rw [show k - j + 1 = k + 1 - j by omega]
    exact sumTo_congr _ fun l hl => if_pos (by omega)
  rw [h1, h2, sumTo_swap]
  refine sumTo_congr _ fun j hj => ?_
  rw [← sumTo_mul, ← sumTo_from (fun l => a j * (b l * c (k - j - l))) j (k + 1 - j), show j + (k + 1 - j) = k + 1 by omega]
  refine sumTo_congr _ fun i hi => ?_
  by_cases h : j ≤ i
  · rw [if_pos h, if_pos h, show k - j - (i - j) = k - i by omega, Int.mul_assoc]
  · rw [if_neg h, if_neg h, Int.zero_mul]
theorem conv_addl (a b c : Nat → Int) (s : Int) (k : Nat) : conv (fun i => a i + s * b i) c k = conv a c k + s * conv b c k := by
  unfold conv cv
  rw [← sumTo_mul, ← sumTo_add]
  refine sumTo_congr _ fun i _ => ?_
  split
  · rw [Int.add_mul, Int.mul_assoc]
  · simp

/-! Modulo p. -/
theorem sumTo_mod {p : Int} {f g : Nat → Int} : ∀ n, (∀ i, i < n → f i % p = g i % p) → sumTo n f % p = sumTo n g % p
  | 0, _ => rfl
  | n + 1, h => by
    simp only [sumTo]
    rw [Int.add_emod, sumTo_mod n fun i hi => h i (by omega), h n (by omega), ← Int.add_emod]
theorem conv_mod {p : Int} {a a' b b' : Nat → Int} (ha : ∀ i, a i % p = a' i % p) (hb : ∀ i, b i % p = b' i % p) (k : Nat) : conv a b k % p = conv a' b' k % p := by
  refine sumTo_mod _ fun i _ => ?_
  split
  · rw [Int.mul_emod, ha, hb, ← Int.mul_emod]
  · rfl
theorem Row.mod {p : Int} {l : List Int} (h : Row p l) (hp : 0 < p) (i : Nat) : Abs.rd l i % p = Abs.rd l i := Int.emod_eq_of_lt (h.rd hp i).1 (h.rd hp i).2

theorem mul_comm' (p : Int) (a b : List Int) : mul p a b = mul p b a := by
  unfold mul
  rw [Nat.add_comm]
  exact ofF_congr fun i _ => by rw [conv_comm]
theorem mul_assoc' {p : Int} (hp : 0 < p) (a b c : List Int) : mul p (mul p a b) c = mul p a (mul p b c) := by
  refine row_ext (mul_row hp _ _) (mul_row hp _ _) fun i => ?_
  rw [mul_rd, mul_rd]
  rw [conv_mod (a' := conv (rd a) (rd b)) (b' := rd c) (fun j => by rw [mul_rd, Int.emod_emod]) (fun _ => rfl), conv_assoc]
  exact conv_mod (fun _ => rfl) (fun j => by rw [mul_rd, Int.emod_emod]) i
theorem conv_one (a : Nat → Int) (i : Nat) : conv a (rd [1]) i = a i := by
  rw [conv_comm]
  unfold conv cv
  rw [sumTo_first, if_pos (by omega), sumTo_zero i fun j hj => ?_]
  · simp [rd]
  · rw [show rd ([1] : List Int) (j + 1) = 0 from rd_ge (by simp)]; simp
theorem mul_one' {p : Int} (hp : 0 < p) {a : List Int} (ha : Row p a) : mul p a [1] = a :=
  row_ext (mul_row hp _ _) ha fun i => by rw [mul_rd, conv_one, ha.mod hp]
theorem comb_mul {p : Int} (hp : 0 < p) (a b c : List Int) (k : Int) : mul p (comb p a b k) c = comb p (mul p a c) (mul p b c) k := by
  refine row_ext (mul_row hp _ _) (comb_row hp _ _ _) fun i => ?_
  rw [mul_rd, comb_rd, mul_rd, mul_rd, conv_mod (a' := fun i => rd a i + k * rd b i) (b' := rd c) (fun j => by rw [comb_rd, Int.emod_emod]) (fun _ => rfl), conv_addl]
  rw [Int.add_emod (conv (rd a) (rd c) i % p), Int.emod_emod, Int.mul_emod k (conv (rd b) (rd c) i % p), Int.emod_emod, ← Int.mul_emod, ← Int.add_emod]
theorem mul_comb {p : Int} (hp : 0 < p) (a b c : List Int) (k : Int) : mul p c (comb p a b k) = comb p (mul p c a) (mul p c b) k := by
  rw [mul_comm', comb_mul hp, mul_comm' p a, mul_comm' p b]
/-! Products of lists, as long as their degrees are not too great. -/
def degs : List (List Int) → Nat
  | [] => 0
  | b :: M => (b.length - 1) + degs M
def prodF (p : Int) (o : List Int) (M : List (List Int)) : List Int := M.foldl (mul p) o
end Go.Abs
/- Numbers modulo p. -/
namespace Go.Proofs.Ytebfhlnfmkhmcaa
open Go.Abs

theorem tmod_fix {n p : Int} (hp : 0 < p) : Int.tmod (Int.tmod n p + p) p = n % p := by
  have h1 := Int.lt_tmod_of_pos n hp
  rw [Int.tmod_eq_emod_of_nonneg (by omega), Int.tmod_def, Int.add_emod_right, Int.sub_mul_emod_self_left]

/-- Numbers that are small. -/
def Ent (l : List Int) : Prop := ∀ i, 0 ≤ rd l i ∧ rd l i < 256

theorem _root_.Go.Abs.Row.ent {p : Int} {l : List Int} (h : Row p l) (hp : 0 < p ∧ p ≤ 256) : Ent l := fun i => by have := h.rd hp.1 i; omega

def V64.Ent (v : V64) : Prop := ∀ i, i < 64 → 0 ≤ rd v.1 i ∧ rd v.1 i < 256

theorem mulk {x k : Int} (hx : 0 ≤ x ∧ x < 256) (hk : -1099511627776 ≤ k ∧ k ≤ 1099511627776) : -281474976710656 ≤ k * x ∧ k * x ≤ 281474976710656 := by
  have h1 : (-1099511627776) * x ≤ k * x := Int.mul_le_mul_of_nonneg_right hk.1 hx.1
  have h2 : k * x ≤ 1099511627776 * x := Int.mul_le_mul_of_nonneg_right hk.2 hx.1
  omega

theorem _root_.Go.Abs.Res.ent {p : Int} {v : V64} (h : Res p v) (hp : p ≤ 256) : V64.Ent v := fun i hi => by have := h i hi; omega

theorem ent_pad {p : Int} {l : List Int} (h : Row p l) (hp : 0 < p ∧ p ≤ 256) : V64.Ent (pad l) := Res.ent (res_pad h hp.1) hp.2

theorem mul_small {x y : Int} (hx : 0 ≤ x ∧ x < 256) (hy : 0 ≤ y ∧ y < 256) : 0 ≤ x * y ∧ x * y ≤ 65025 :=
  ⟨Int.mul_nonneg hx.1 hy.1, Int.mul_le_mul (c := 255) (d := 255) (by omega) (by omega) hy.1 (by omega)⟩
end Go.Proofs.Ytebfhlnfmkhmcaa
/- Inverses modulo p. -/
namespace Go.Proofs.Ytebfhlnfmkhmcaa
open Go.Abs

/-- The inverse of x modulo p. -/
def inv (p x : Int) : Int := if p = 2 then 1 else if p = 3 then x else if p = 5 then (if x = 1 then 1 else if x = 2 then 3 else if x = 3 then 2 else 4) else (if x = 1 then 1 else if x = 2 then 4 else if x = 3 then 5 else if x = 4 then 2 else if x = 5 then 3 else 6)
theorem inv_cases {p x : Int} (hp : isP p = true) (hx : 0 < x ∧ x < p) : (p = 2 ∧ x = 1) ∨ (p = 3 ∧ x = 1) ∨ (p = 3 ∧ x = 2) ∨ (p = 5 ∧ x = 1) ∨ (p = 5 ∧ x = 2) ∨ (p = 5 ∧ x = 3) ∨ (p = 5 ∧ x = 4) ∨
    (p = 7 ∧ x = 1) ∨ (p = 7 ∧ x = 2) ∨ (p = 7 ∧ x = 3) ∨ (p = 7 ∧ x = 4) ∨ (p = 7 ∧ x = 5) ∨ (p = 7 ∧ x = 6) := by
  rcases isP_iff.1 hp with rfl | rfl | rfl | rfl <;> omega
theorem inv_is {p x : Int} (hp : isP p = true) (hx : 0 < x ∧ x < p) : 0 < inv p x ∧ inv p x < p ∧ x * inv p x % p = 1 := by
  rcases inv_cases hp hx with ⟨rfl, rfl⟩ | ⟨rfl, rfl⟩ | ⟨rfl, rfl⟩ | ⟨rfl, rfl⟩ | ⟨rfl, rfl⟩ | ⟨rfl, rfl⟩ | ⟨rfl, rfl⟩ | ⟨rfl, rfl⟩ | ⟨rfl, rfl⟩ | ⟨rfl, rfl⟩ | ⟨rfl, rfl⟩ | ⟨rfl, rfl⟩ | ⟨rfl, rfl⟩ <;> decide
theorem inv_first {p x : Int} (hp : isP p = true) (hx : 0 < x ∧ x < p) {j : Int} (h1 : 1 ≤ j) (h2 : j < inv p x) : j * x % p ≠ 1 := by
  rcases inv_cases hp hx with ⟨rfl, rfl⟩ | ⟨rfl, rfl⟩ | ⟨rfl, rfl⟩ | ⟨rfl, rfl⟩ | ⟨rfl, rfl⟩ | ⟨rfl, rfl⟩ | ⟨rfl, rfl⟩ | ⟨rfl, rfl⟩ | ⟨rfl, rfl⟩ | ⟨rfl, rfl⟩ | ⟨rfl, rfl⟩ | ⟨rfl, rfl⟩ | ⟨rfl, rfl⟩ <;> simp [inv] at h2 <;> omega
theorem inv_pow {p x : Int} (hp : isP p = true) (hx : 0 < x ∧ x < p) : x ^ (p - 2).toNat % p = inv p x := by
  rcases inv_cases hp hx with ⟨rfl, rfl⟩ | ⟨rfl, rfl⟩ | ⟨rfl, rfl⟩ | ⟨rfl, rfl⟩ | ⟨rfl, rfl⟩ | ⟨rfl, rfl⟩ | ⟨rfl, rfl⟩ | ⟨rfl, rfl⟩ | ⟨rfl, rfl⟩ | ⟨rfl, rfl⟩ | ⟨rfl, rfl⟩ | ⟨rfl, rfl⟩ | ⟨rfl, rfl⟩ <;> decide
end Go.Proofs.Ytebfhlnfmkhmcaa
/- Division of polynomials, from the leading coefficient on. -/
namespace Go.Proofs.Ytebfhlnfmkhmcaa
open Go.Abs

def dstep (p : Int) (b : Nat → Int) (m : Nat) (f : Int) (i : Nat) (r : Nat → Int) (j : Nat) : Int := if i ≤ j ∧ j ≤ i + m then (r j - f * b (j - i)) % p else r j
def dfac (p iv : Int) (m i : Nat) (r : Nat → Int) : Int := r (i + m) * iv % p
def drem (p : Int) (b : Nat → Int) (m : Nat) (iv : Int) : Nat → (Nat → Int) → Nat → Int
  | 0, r => r
  | i + 1, r => drem p b m iv i (dstep p b m (dfac p iv m i r) i r)
def dquo (p : Int) (b : Nat → Int) (m : Nat) (iv : Int) : Nat → (Nat → Int) → Nat → Int
  | 0, _, _ => 0
  | i + 1, r, j => if j = i then dfac p iv m i r else dquo p b m iv i (dstep p b m (dfac p iv m i r) i r) j
def lead (b : List Int) : Int := rd b (b.length - 1)
def quo (p : Int) (a b : List Int) : List Int := ofF (a.length + 1 - b.length) (dquo p (rd b) (b.length - 1) (inv p (lead b)) (a.length + 1 - b.length) (rd a))
def rem (p : Int) (a b : List Int) : List Int := ofF a.length (drem p (rd b) (b.length - 1) (inv p (lead b)) (a.length + 1 - b.length) (rd a))

section
variable {p : Int} {b : Nat → Int} {m : Nat} {iv : Int}
theorem dstep_res (hp : 0 < p) {r : Nat → Int} (hr : ∀ j, 0 ≤ r j ∧ r j < p) (f : Int) (i j : Nat) : 0 ≤ dstep p b m f i r j ∧ dstep p b m f i r j < p := by
  unfold dstep
  split
  · exact emod_res hp _
  · exact hr j
theorem drem_res (hp : 0 < p) : ∀ (i : Nat) (r : Nat → Int), (∀ j, 0 ≤ r j ∧ r j < p) → ∀ j, 0 ≤ drem p b m iv i r j ∧ drem p b m iv i r j < p
  | 0, r, hr, j => hr j
  | i + 1, r, hr, j => drem_res hp i _ (fun j => dstep_res hp hr _ i j) j
theorem dquo_res (hp : 0 < p) : ∀ (i : Nat) (r : Nat → Int) (j : Nat), 0 ≤ dquo p b m iv i r j ∧ dquo p b m iv i r j < p
  | 0, r, j => by simp only [dquo]; omega
  | i + 1, r, j => by
    simp only [dquo]
    split
    · exact emod_res hp _
    · exact dquo_res hp i _ j
theorem dquo_ge : ∀ (i : Nat) (r : Nat → Int) (j : Nat), i ≤ j → dquo p b m iv i r j = 0
  | 0, _, _, _ => rfl
  | i + 1, r, j, h => by
    simp only [dquo]
    rw [if_neg (by omega)]
    exact dquo_ge i _ j (by omega)
theorem cv_congr {f g c : Nat → Int} (k : Nat) : ∀ n, (∀ i, i < n → f i = g i) → cv f c n k = cv g c n k := fun n h => sumTo_congr n fun i hi => by rw [h i hi]
/-- The rest vanishes from the place m on. -/
theorem drem_zero (hp : 0 < p) (hb : b m * iv % p = 1 % p) : ∀ (i : Nat) (r : Nat → Int), (∀ j, 0 ≤ r j ∧ r j < p) → (∀ j, i + m ≤ j → r j = 0) → ∀ j, m ≤ j → drem p b m iv i r j = 0
  | 0, r, _, hz, j, hj => hz j (by omega)
  | i + 1, r, hr, hz, j, hj => by
    refine drem_zero hp hb i _ (fun j => dstep_res hp hr _ i j) (fun j hj => ?_) j hj
    unfold dstep
    by_cases e : j = i + m
    · subst e
      rw [if_pos (by omega), show i + m - i = m by omega]
      have h1 : (r (i + m) - dfac p iv m i r * b m) % p = 0 := by
        unfold dfac
        have h2 : (r (i + m) * iv % p) * b m % p = r (i + m) % p := by
          rw [Int.mul_emod, Int.emod_emod, ← Int.mul_emod, Int.mul_assoc, Int.mul_emod, Int.mul_comm iv, hb, ← Int.mul_emod, Int.mul_one]
        rw [Int.sub_emod, h2, Int.sub_self]; rfl
      exact h1
    · rw [if_neg (by omega)]
      exact hz j (by omega)
/-- Quotient and rest give what was divided. -/
theorem div_eq (hp : 0 < p) (hbz : ∀ j, m < j → b j = 0) : ∀ (i : Nat) (r : Nat → Int) (j : Nat), (cv (dquo p b m iv i r) b i j + drem p b m iv i r j) % p = r j % p
  | 0, r, j => by simp [cv, sumTo, drem]
  | i + 1, r, j => by
    have ih := div_eq hp hbz i (dstep p b m (dfac p iv m i r) i r) j
    simp only [drem]
    rw [cv_succ, cv_congr (g := dquo p b m iv i (dstep p b m (dfac p iv m i r) i r)) j i fun k hk => by simp only [dquo]; rw [if_neg (by omega)]]
    have e : dquo p b m iv (i + 1) r i = dfac p iv m i r := by simp only [dquo, if_true]
    rw [e]
    generalize dfac p iv m i r = f at *
    generalize cv (dquo p b m iv i (dstep p b m f i r)) b i j = c at *
    generalize drem p b m iv i (dstep p b m f i r) j = d at *
    by_cases h : i ≤ j
    · rw [if_pos h]
      by_cases h2 : j ≤ i + m
      · simp only [dstep] at ih
        rw [if_pos ⟨h, h2⟩, Int.emod_emod] at ih
        have e1 : c + f * b (j - i) + d = (c + d) + f * b (j - i) := by omega
        rw [e1, Int.add_emod, ih, ← Int.add_emod]
        congr 1
        omega
      · simp only [dstep] at ih
        rw [if_neg (by omega)] at ih
        rw [hbz (j - i) (by omega), Int.mul_zero, Int.add_zero]
        exact ih
    · simp only [dstep] at ih
      rw [if_neg (by omega)] at ih
      rw [if_neg h, Int.add_zero]
      exact ih
end

theorem lead_pos {p : Int} (hp : 0 < p) {b : List Int} (hb : Row p b) (h0 : b.length ≠ 0) : 0 < lead b ∧ lead b < p := by
  have h1 := hb.rd hp (b.length - 1)
  have h2 := hb.nrm h0
  unfold lead
  omega
theorem quo_row {p : Int} (hp : 0 < p) (a b : List Int) : Row p (quo p a b) := row_ofF fun i _ => dquo_res hp _ _ i
theorem rem_row {p : Int} (hp : 0 < p) {a : List Int} (ha : Row p a) (b : List Int) : Row p (rem p a b) := row_ofF fun i _ => drem_res hp _ _ (fun j => ha.rd hp j) i
theorem quo_len (p : Int) (a b : List Int) : (quo p a b).length ≤ a.length + 1 - b.length := by rw [quo, ofF_len]; exact top_le _ _
theorem rem_len' (p : Int) (a b : List Int) : (rem p a b).length ≤ a.length := by rw [rem, ofF_len]; exact top_le _ _
theorem quo_rd (p : Int) (a b : List Int) (j : Nat) : rd (quo p a b) j = dquo p (rd b) (b.length - 1) (inv p (lead b)) (a.length + 1 - b.length) (rd a) j := rd_ofF (fun i hi => dquo_ge _ _ _ hi) j
theorem drem_big {p : Int} {b : Nat → Int} {m : Nat} {iv : Int} : ∀ (i : Nat) (r : Nat → Int) (n : Nat), i + m ≤ n → (∀ j, n ≤ j → r j = 0) → ∀ j, n ≤ j → drem p b m iv i r j = 0
  | 0, r, n, _, hz, j, hj => hz j hj
  | i + 1, r, n, hn, hz, j, hj => drem_big i _ n (by omega) (fun j hj => by unfold dstep; rw [if_neg (by omega)]; exact hz j hj) j hj
theorem rem_rd {p : Int} (a : List Int) {b : List Int} (h0 : b.length ≠ 0) (j : Nat) : rd (rem p a b) j = drem p (rd b) (b.length - 1) (inv p (lead b)) (a.length + 1 - b.length) (rd a) j := by
  refine rd_ofF (fun i hi => ?_) j
  rcases Nat.lt_or_ge a.length b.length with h | h
  · rw [show a.length + 1 - b.length = 0 by omega]; exact rd_ge hi
  · exact drem_big _ _ a.length (by omega) (fun j hj => rd_ge hj) i hi
theorem rem_len {p : Int} (hp : isP p = true) {a b : List Int} (ha : Row p a) (hb : Row p b) (h0 : b.length ≠ 0) : (rem p a b).length < b.length := by
  have hp2 := isP_pos hp
  have hi := inv_is hp (lead_pos (show 0 < p by omega) hb h0)
  have hz : ∀ j, b.length - 1 ≤ j → rd (rem p a b) j = 0 := fun j hj => by
    rw [rem_rd a h0]
    refine drem_zero (by omega) ?_ _ _ (fun j => ha.rd (by omega) j) (fun j hj => rd_ge (by omega)) j hj
    have : (1 : Int) % p = 1 := Int.emod_eq_of_lt (by omega) (by omega)
    rw [this]
    exact hi.2.2
  rcases Nat.lt_or_ge (rem p a b).length b.length with h | h
  · exact h
  · have h1 := (rem_row (show 0 < p by omega) ha b).nrm (by omega)
    exact absurd (hz _ (by omega)) h1
/-- What is divided is quotient times divisor, plus the rest. -/
theorem divide_eq {p : Int} (hp : isP p = true) {a b : List Int} (ha : Row p a) (h0 : b.length ≠ 0) (j : Nat) : rd a j = (conv (rd (quo p a b)) (rd b) j + rd (rem p a b) j) % p := by
  have hp2 := isP_pos hp
  have h := div_eq (p := p) (b := rd b) (m := b.length - 1) (iv := inv p (lead b)) (by omega) (fun j hj => rd_ge (by omega)) (a.length + 1 - b.length) (rd a) j
  have e : conv (rd (quo p a b)) (rd b) j = cv (dquo p (rd b) (b.length - 1) (inv p (lead b)) (a.length + 1 - b.length) (rd a)) (rd b) (a.length + 1 - b.length) j := by
    rw [← cv_conv (n := a.length + 1 - b.length) fun i hi => rd_ge (Nat.le_trans (quo_len p a b) hi)]
    exact cv_congr _ _ fun i _ => quo_rd p a b i
  have hr := ha.rd (show 0 < p by omega) j
  rw [e, rem_rd a h0, h, Int.emod_eq_of_lt hr.1 hr.2]
end Go.Proofs.Ytebfhlnfmkhmcaa
/- Numbers as digits. -/
namespace Go.Proofs.Ytebfhlnfmkhmcaa
open Go.Abs

def digs (p n : Nat) : List Int := if n = 0 ∨ p < 2 then [] else ((n % p : Nat) : Int) :: digs p (n / p)
termination_by n
decreasing_by exact Nat.div_lt_self (by omega) (by omega)

theorem digs_zero (p : Nat) : digs p 0 = [] := by rw [digs]; simp

theorem digs_pos {p n : Nat} (hp : 2 ≤ p) (hn : 0 < n) : digs p n = ((n % p : Nat) : Int) :: digs p (n / p) := by
  rw [digs, if_neg (by omega)]

theorem digs_lt {p : Nat} (hp : 2 ≤ p) : ∀ n : Nat, ∀ d ∈ digs p n, 0 ≤ d ∧ d < p := by
  intro n
  induction n using Nat.strongRecOn with
  | ind n ih =>
    intro d hd
    by_cases h : n = 0
    · subst h; rw [digs_zero] at hd; cases hd
    · rw [digs_pos hp (by omega)] at hd
      rcases List.mem_cons.1 hd with rfl | hd
      · have := Nat.mod_lt n (show p > 0 by omega)
        generalize n % p = x at this
        omega
      · exact ih _ (Nat.div_lt_self (by omega) hp) d hd

theorem digs_len {p : Nat} (hp : 2 ≤ p) : ∀ (k n : Nat), n < 2 ^ k → (digs p n).length ≤ k
  | 0, n, h => by
    have : n = 0 := by simpa using h
    subst this; rw [digs_zero]; simp
  | k + 1, n, h => by
    by_cases hn : n = 0
    · subst hn; rw [digs_zero]; simp
    · rw [digs_pos hp (by omega)]
      have : n / p < 2 ^ k := by
        have h1 : n / p ≤ n / 2 := Nat.div_le_div_left hp (by omega)
        have h2 : n / 2 < 2 ^ k := by rw [Nat.pow_succ] at h; omega
        omega
      have := digs_len hp k _ this
      simp only [List.length_cons]; omega

theorem digs_len40 {p n : Nat} (hp : 2 ≤ p) (hn : n ≤ 1000000000000) : (digs p n).length ≤ 40 := digs_len hp 40 n (by omega)

theorem rd_cons (x : Int) (l : List Int) (i : Nat) : rd (x :: l) (i + 1) = rd l i := by simp [rd]
theorem digs_row {p : Nat} (hp : 2 ≤ p) (n : Nat) : Row p (digs p n) := by
  refine ⟨fun d hd => ?_, ?_⟩
  · have := digs_lt hp n d hd; omega
  · induction n using Nat.strongRecOn with
    | ind n ih =>
      intro h
      have hn : 0 < n := by
        rcases Nat.eq_zero_or_pos n with rfl | h'
        · rw [digs_zero] at h; simp at h
        · exact h'
      rw [digs_pos hp hn]
      simp only [List.length_cons, Nat.add_sub_cancel]
      rcases Nat.eq_zero_or_pos (n / p) with h0 | h0
      · rw [h0, digs_zero]
        have : n < p := by
          rcases Nat.lt_or_ge n p with h | h
          · exact h
          · have := Nat.div_pos h (by omega); omega
        rw [Nat.mod_eq_of_lt this]
        simp [rd]; omega
      · have hlt : n / p < n := Nat.div_lt_self hn (by omega)
        have h1 : (digs p (n / p)).length ≠ 0 := by rw [digs_pos hp h0]; simp
        have h2 := ih _ hlt h1
        obtain ⟨m, hm⟩ : ∃ m, (digs p (n / p)).length = m + 1 := ⟨(digs p (n / p)).length - 1, by omega⟩
        rw [hm] at h2 ⊢
        rw [rd_cons]
        simpa using h2
theorem digs_len_pow {p : Nat} (hp : 2 ≤ p) : ∀ (d n : Nat), p ^ d ≤ n → n < p ^ (d + 1) → (digs p n).length = d + 1
  | 0, n, h1, h2 => by
    simp only [Nat.pow_zero, Nat.zero_add, Nat.pow_one] at h1 h2
    rw [digs_pos hp (by omega), Nat.div_eq_of_lt h2, digs_zero]; rfl
  | d + 1, n, h1, h2 => by
    have hpos : 0 < p ^ (d + 1) := Nat.pow_pos (by omega)
    have h3 : p ^ d ≤ n / p := by
      rw [Nat.le_div_iff_mul_le (by omega)]
      rwa [← Nat.pow_succ]
    have h4 : n / p < p ^ (d + 1) := by
      rw [Nat.div_lt_iff_lt_mul (by omega)]
      rwa [← Nat.pow_succ]
    rw [digs_pos hp (by omega), List.length_cons, digs_len_pow hp d _ h3 h4]
theorem digs_monic_len {p : Nat} (hp : 2 ≤ p) {d i : Nat} (hi : i < p ^ d) : (digs p (p ^ d + i)).length = d + 1 := by
  refine digs_len_pow hp d _ (by omega) ?_
  have : p ^ (d + 1) = p ^ d * p := Nat.pow_succ ..
  have h2 : p ^ d * 2 ≤ p ^ d * p := Nat.mul_le_mul_left _ hp
  omega
end Go.Proofs.Ytebfhlnfmkhmcaa
/- The polynomials modulo p as a ring; irreducible ones. -/
namespace Go.Proofs.Ytebfhlnfmkhmcaa
open Go.Abs

structure Pri where
  n : Nat
  ok : isP (n : Int) = true
def Pri.p (P : Pri) : Int := P.n
theorem Pri.okp (P : Pri) : isP P.p = true := P.ok
theorem Pri.pos (P : Pri) : 0 < P.p := by have := isP_pos P.ok; unfold Pri.p; omega
theorem Pri.two (P : Pri) : 2 ≤ P.p ∧ P.p ≤ 7 := isP_pos P.ok
theorem Pri.is (P : Pri) : P.n = 2 ∨ P.n = 3 ∨ P.n = 5 ∨ P.n = 7 := by
  have := isP_iff.1 P.ok; omega
structure PP (P : Pri) where
  l : List Int
  row : Row P.p l
theorem pp_eq {P : Pri} : ∀ {a b : PP P}, a.1 = b.1 → a = b
  | ⟨_, _⟩, ⟨_, _⟩, h => by cases h; rfl
variable {P : Pri}
def PP.len (a : PP P) : Nat := a.1.length
def PP.c (a : PP P) (i : Nat) : Int := rd a.1 i
theorem PP.c_res (a : PP P) (i : Nat) : 0 ≤ a.c i ∧ a.c i < P.p := a.2.rd P.pos i
theorem PP.c_mod (a : PP P) (i : Nat) : a.c i % P.p = a.c i := a.2.mod P.pos i
theorem pp_ext {a b : PP P} (h : ∀ i, a.c i = b.c i) : a = b := pp_eq (row_ext a.2 b.2 h)
theorem row1 {p : Int} (hp : 2 ≤ p) : Row p [1] := ⟨by simp; omega, by simp [rd]⟩
theorem rowT {p : Int} (hp : 2 ≤ p) : Row p [0, 1] := ⟨by simp; omega, by simp [rd]⟩
instance : Add (PP P) := ⟨fun a b => ⟨comb P.p a.1 b.1 1, comb_row P.pos _ _ _⟩⟩
instance : Mul (PP P) := ⟨fun a b => ⟨mul P.p a.1 b.1, mul_row P.pos _ _⟩⟩
instance : Neg (PP P) := ⟨fun a => ⟨comb P.p [] a.1 (-1), comb_row P.pos _ _ _⟩⟩
instance : Zero (PP P) := ⟨⟨[], row_nil _⟩⟩
instance : One (PP P) := ⟨⟨[1], row1 P.two.1⟩⟩
def ppm (l : List Int) (h : Row P.p l) : PP P := ⟨l, h⟩
def ppT : PP P := ⟨[0, 1], rowT P.two.1⟩
theorem add_c (a b : PP P) (i : Nat) : (a + b).c i = (a.c i + b.c i) % P.p := by
  show rd (comb P.p a.1 b.1 1) i = _
  rw [comb_rd, Int.one_mul]; rfl
theorem neg_c (a : PP P) (i : Nat) : (-a).c i = (-a.c i) % P.p := by
  show rd (comb P.p [] a.1 (-1)) i = _
  rw [comb_rd, rd_nil, Int.zero_add, Int.neg_mul, Int.one_mul]; rfl
theorem mul_c (a b : PP P) (i : Nat) : (a * b).c i = conv a.c b.c i % P.p := mul_rd _ _ _ _
theorem zero_c (i : Nat) : (0 : PP P).c i = 0 := rd_nil i
theorem ppring : IsRing (PP P) where
  add_comm a b := pp_ext fun i => by rw [add_c, add_c, Int.add_comm]
  add_assoc a b c := pp_ext fun i => by simp only [add_c, Int.emod_add_emod, Int.add_emod_emod, Int.add_assoc]
  add_zero a := pp_ext fun i => by rw [add_c, zero_c, Int.add_zero, PP.c_mod]
  add_neg a := pp_ext fun i => by rw [add_c, neg_c, zero_c, Int.add_emod_emod, Int.add_right_neg]; rfl
  mul_comm a b := pp_eq (mul_comm' _ _ _)
  mul_assoc a b c := pp_eq (mul_assoc' P.pos _ _ _)
  mul_one a := pp_eq (mul_one' P.pos a.2)
  mul_add a b c := pp_eq (mul_comb P.pos _ _ _ _)

theorem len_zero {a : PP P} : a.len = 0 ↔ a = 0 := ⟨fun h => pp_eq (List.eq_nil_of_length_eq_zero h), fun h => by rw [h]; rfl⟩
theorem len_one : (1 : PP P).len = 1 := rfl
theorem one_ne : (1 : PP P) ≠ 0 := fun h => by have := len_zero.2 h; rw [len_one] at this; omega
theorem len_mul {a b : PP P} (ha : a ≠ 0) (hb : b ≠ 0) : (a * b).len = a.len + b.len - 1 :=
  mul_len_is P.ok a.2 b.2 (fun h => ha (len_zero.1 h)) (fun h => hb (len_zero.1 h))
theorem len_add (a b : PP P) : (a + b).len ≤ max a.len b.len := comb_len _ _ _ _
theorem len_neg (a : PP P) : (-a).len ≤ a.len := by
  have := comb_len P.p [] a.1 (-1)
  show (comb P.p [] a.1 (-1)).length ≤ a.1.length
  simpa using this
theorem len_pos {a : PP P} (h : a ≠ 0) : 1 ≤ a.len := by
  rcases Nat.eq_zero_or_pos a.len with h0 | h0
  · exact absurd (len_zero.1 h0) h
  · exact h0
theorem pp_dom : ∀ a b : PP P, a * b = 0 → a = 0 ∨ b = 0 := fun a b h => by
  by_cases ha : a = 0
  · exact .inl ha
  · by_cases hb : b = 0
    · exact .inr hb
    · have h1 := len_mul ha hb
      rw [h, len_zero.2 rfl] at h1
      have := len_pos ha
      have := len_pos hb
      omega
theorem nsm_c (n : Nat) (a : PP P) (i : Nat) : (nsm n a).c i = (n * a.c i) % P.p := by
  induction n with
  | zero => simp [nsm, zero_c]
  | succ n ih =>
    simp only [nsm, add_c, ih, Int.emod_add_emod]
    congr 1
    rw [Int.natCast_succ, Int.add_mul, Int.one_mul]
/-! Division. -/
def pquo (a b : PP P) : PP P := ⟨quo P.p a.1 b.1, quo_row P.pos _ _⟩
def prem (a b : PP P) : PP P := ⟨rem P.p a.1 b.1, rem_row P.pos a.2 _⟩
theorem pdiv (a : PP P) {b : PP P} (hb : b ≠ 0) : a = pquo a b * b + prem a b ∧ (prem a b).len < b.len := by
  have h0 : b.1.length ≠ 0 := fun h => hb (len_zero.1 h)
  refine ⟨pp_ext fun i => ?_, rem_len P.ok a.2 b.2 h0⟩
  rw [add_c, mul_c, Int.emod_add_emod]
  exact divide_eq P.ok a.2 h0 i
theorem dv_len {a b : PP P} (h : Dv a b) (hb : b ≠ 0) : a.len ≤ b.len := by
  obtain ⟨q, rfl⟩ := h
  have hq : q ≠ 0 := fun e => hb (by rw [e, ppring.zero_mul])
  have ha : a ≠ 0 := fun e => hb (by rw [e, ppring.mul_zero])
  have := len_mul hq ha
  have := len_pos hq
  omega
theorem dv_small {a b : PP P} (h : Dv a b) (hl : b.len < a.len) : b = 0 := by
  by_cases hb : b = 0
  · exact hb
  · have := dv_len h hb; omega
theorem prem_iff {a b : PP P} (hb : b ≠ 0) : prem a b = 0 ↔ Dv b a := by
  obtain ⟨h1, h2⟩ := pdiv a hb
  constructor
  · intro h
    rw [h, ppring.add_zero] at h1
    exact ⟨_, h1⟩
  · intro h
    rw [h1] at h
    exact dv_small (ppring.dv_sub h (ppring.dv_mul (ppring.dv_refl b) _)) h2
theorem quo_is {a b q r : PP P} (hb : b ≠ 0) (h : a = q * b + r) (hr : r.len < b.len) : pquo a b = q ∧ prem a b = r := by
  obtain ⟨h1, h2⟩ := pdiv a hb
  have R : IsRing (PP P) := ppring
  have e : (pquo a b + -q) * b = r + -prem a b := by
    have h3 : q * b + r = pquo a b * b + prem a b := by rw [← h, ← h1]
    rw [R.add_mul, R.mul_comm (-q), R.mul_neg, R.mul_comm b q]
    refine R.cancel (a := q * b) ?_
    rw [R.add_left_comm, R.add_neg, R.add_zero]
    refine R.cancel (a := prem a b) ?_
    rw [R.add_comm (prem a b), ← h3, R.add_left_comm (prem a b), R.add_left_comm (prem a b), R.add_neg, R.add_zero]
  have hz : r + -prem a b = 0 := by
    refine dv_small (a := b) ⟨_, e.symm⟩ ?_
    have := len_add r (-prem a b)
    have := len_neg (prem a b)
    omega
  have hr' := R.sub_zero hz
  refine ⟨?_, hr'.symm⟩
  rw [hz] at e
  rcases pp_dom _ _ e with h4 | h4
  · exact R.sub_zero h4
  · exact absurd h4 hb

/-! Units, the greatest common divisor. -/
theorem unit_of {a : PP P} (h : a.len = 1) : ∃ b, b * a = 1 := by
  have hc := a.c_res 0
  have hn : a.c 0 ≠ 0 := by
    have := a.2.nrm (by have : a.1.length = 1 := h; omega)
    have h1 : a.1.length = 1 := h
    rw [h1] at this
    exact this
  obtain ⟨i1, i2, i3⟩ := inv_is P.ok (x := a.c 0) ⟨by omega, hc.2⟩
  have hr : Row P.p [inv P.p (a.c 0)] := ⟨by simp only [List.mem_singleton, forall_eq]; exact ⟨by have : 0 < inv P.p (a.c 0) := i1; omega, i2⟩, fun _ => by simp [rd]; have : 0 < inv P.p (a.c 0) := i1; omega⟩
  refine ⟨ppm _ hr, ?_⟩
  refine pp_ext fun i => ?_
  have h1 : a.1.length = 1 := h
  rw [mul_c]
  have e1 : (1 : PP P).c i = if i = 0 then 1 else 0 := by
    show rd [1] i = _
    by_cases hi : i = 0
    · subst hi; simp [rd]
    · rw [if_neg hi, rd_ge (by simp; omega)]
  rw [e1]
  by_cases hi : i = 0
  · subst hi
    rw [if_pos rfl]
    have : conv (PP.c (ppm _ hr : PP P)) a.c 0 = inv P.p (a.c 0) * a.c 0 := by
      simp [conv, cv, sumTo, PP.c, ppm, rd]
    rw [this, Int.mul_comm]
    exact i3
  · have z1 : ∀ j, 1 ≤ j → (ppm _ hr : PP P).c j = 0 := fun j hj => rd_ge (l := [inv P.p (a.c 0)]) (by simpa using hj)
    have z2 : ∀ j, 1 ≤ j → a.c j = 0 := fun j hj => rd_ge (l := a.1) (by omega)
    rw [if_neg hi, conv_zero (n := 1) (m := 1) z1 z2 (by omega)]
    rfl
theorem bezout : ∀ (n : Nat) (a b : PP P), b.len ≤ n → ∃ g u v, g = u * a + v * b ∧ Dv g a ∧ Dv g b
  | 0, a, b, h => by
    have hb : b = 0 := len_zero.1 (by omega)
    subst hb
    exact ⟨a, 1, 0, by rw [ppring.one_mul, ppring.zero_mul, ppring.add_zero], ppring.dv_refl a, ppring.dv_zero a⟩
  | n + 1, a, b, h => by
    by_cases hb : b = 0
    · subst hb
      exact ⟨a, 1, 0, by rw [ppring.one_mul, ppring.zero_mul, ppring.add_zero], ppring.dv_refl a, ppring.dv_zero a⟩
    · obtain ⟨h1, h2⟩ := pdiv a hb
      obtain ⟨g, u, v, e, d1, d2⟩ := bezout n b (prem a b) (by omega)
      have R : IsRing (PP P) := ppring
      refine ⟨g, v, u + -(v * pquo a b), ?_, ?_, d1⟩
      · have e2 : v * a = v * (pquo a b * b) + v * prem a b := by rw [← R.mul_add, ← h1]
        have e3 : -(v * pquo a b) * b = -(v * (pquo a b * b)) := by rw [R.mul_comm (-(v * pquo a b)), R.mul_neg, R.mul_comm b, R.mul_assoc]
        rw [e2, R.add_mul, e3, e]
        generalize v * (pquo a b * b) = x
        generalize v * prem a b = y
        generalize u * b = z
        rw [R.add_comm z (-x), R.add_assoc x, R.add_left_comm y, ← R.add_assoc x, R.add_neg, R.zero_add, R.add_comm]
      · rw [h1]
        exact R.dv_add (R.dv_mul d1 _) d2

def Irr (f : PP P) : Prop := 2 ≤ f.len ∧ ∀ a b : PP P, f = a * b → a.len = 1 ∨ b.len = 1
theorem Irr.ne {f : PP P} (h : Irr f) : f ≠ 0 := fun e => by have := h.1; rw [len_zero.2 e] at this; omega
/-- What divides an irreducible polynomial is a unit, or is divided by it. -/
theorem Irr.dv {f g : PP P} (h : Irr f) (hg : Dv g f) : g.len = 1 ∨ Dv f g := by
  obtain ⟨q, e⟩ := hg
  rcases h.2 q g e with h1 | h1
  · obtain ⟨u, hu⟩ := unit_of h1
    exact .inr ⟨u, by rw [e, ← ppring.mul_assoc, hu, ppring.one_mul]⟩
  · exact .inl h1
theorem Irr.coprime {f a : PP P} (h : Irr f) (ha : ¬ Dv f a) : ∃ u v, u * a + v * f = 1 := by
  obtain ⟨g, u, v, e, d1, d2⟩ := bezout f.len a f (Nat.le_refl _)
  rcases h.dv d2 with h1 | h1
  · obtain ⟨w, hw⟩ := unit_of h1
    exact ⟨w * u, w * v, by rw [← hw, e, ppring.mul_add, ppring.mul_assoc, ppring.mul_assoc]⟩
  · exact absurd (ppring.dv_trans h1 d1) ha
theorem Irr.prime {f a b : PP P} (h : Irr f) (hab : Dv f (a * b)) : Dv f a ∨ Dv f b := by
  by_cases ha : Dv f a
  · exact .inl ha
  · obtain ⟨u, v, e⟩ := h.coprime ha
    refine .inr ?_
    have e2 : b = u * (a * b) + v * b * f := by
      rw [← ppring.mul_assoc, ppring.mul_assoc v b, ppring.mul_comm b f, ← ppring.mul_assoc v f, ← ppring.add_mul, e, ppring.one_mul]
    rw [e2]
    exact ppring.dv_add (ppring.dv_mul hab u) (ppring.dv_mul (ppring.dv_refl f) _)
/-- What is not irreducible has a divisor of at most half its degree. -/
theorem Irr.of_not {f : PP P} (h2 : 2 ≤ f.len) (h : ¬ Irr f) : ∃ a b, f = a * b ∧ 2 ≤ a.len ∧ 2 ≤ b.len ∧ a.len < f.len ∧ b.len < f.len ∧ a.len + b.len = f.len + 1 := by
  have h3 : ∃ a b, f = a * b ∧ ¬ (a.len = 1 ∨ b.len = 1) := Classical.byContradiction fun hn => h ⟨h2, fun a b e => Classical.byContradiction fun hc => hn ⟨a, b, e, hc⟩⟩
  obtain ⟨a, b, e, hc⟩ := h3
  have hf : f ≠ 0 := fun e0 => by rw [len_zero.2 e0] at h2; omega
  have ha : a ≠ 0 := fun e0 => hf (by rw [e, e0, ppring.zero_mul])
  have hb : b ≠ 0 := fun e0 => hf (by rw [e, e0, ppring.mul_zero])
  have h4 := len_mul ha hb
  rw [← e] at h4
  have := len_pos ha
  have := len_pos hb
  exact ⟨a, b, e, by omega, by omega, by omega, by omega, by omega⟩
theorem exists_irr : ∀ (n : Nat) (f : PP P), f.len ≤ n → 2 ≤ f.len → ∃ g, Irr g ∧ Dv g f
  | 0, f, h, h2 => by omega
  | n + 1, f, h, h2 => by
    by_cases hi : Irr f
    · exact ⟨f, hi, ppring.dv_refl f⟩
    · obtain ⟨a, b, e, h3, h4, h5, _⟩ := Irr.of_not h2 hi
      obtain ⟨g, hg, hd⟩ := exists_irr n a (by omega) h3
      exact ⟨g, hg, by rw [e]; exact ppring.dv_mul' hd b⟩
end Go.Proofs.Ytebfhlnfmkhmcaa
/- Irreducible polynomials modulo p: which of them divide T^(p^n) - T. -/
namespace Go.Proofs.Ytebfhlnfmkhmcaa
open Go.Abs

/-! Numbers of polynomials. -/
def num (p : Nat) : List Int → Nat
  | [] => 0
  | c :: l => c.toNat + p * num p l
theorem row_tail {p c : Int} {l : List Int} (h : Row p (c :: l)) : Row p l := by
  refine ⟨fun d hd => h.res d (by simp [hd]), fun hl => ?_⟩
  have := h.nrm (by simp)
  simp only [List.length_cons, Nat.add_sub_cancel] at this
  obtain ⟨m, hm⟩ : ∃ m, l.length = m + 1 := ⟨l.length - 1, by omega⟩
  rw [hm, rd_cons] at this
  rw [hm]; exact this
theorem digs_num {p : Nat} (hp : 2 ≤ p) : ∀ l : List Int, Row p l → digs p (num p l) = l
  | [], _ => digs_zero p
  | c :: l, h => by
    have hc := h.res c (by simp)
    have ih := digs_num hp l (row_tail h)
    have e1 : (c.toNat + p * num p l) % p = c.toNat := by rw [Nat.add_mul_mod_self_left, Nat.mod_eq_of_lt (by omega)]
    have e2 : (c.toNat + p * num p l) / p = num p l := by rw [Nat.add_mul_div_left _ _ (by omega), Nat.div_eq_of_lt (by omega)]; omega
    have hpos : 0 < c.toNat + p * num p l := by
      cases l with
      | nil =>
        have := h.nrm (by simp)
        simp [rd] at this
        omega
      | cons d l =>
        have : num p (d :: l) ≠ 0 := fun e => by rw [e, digs_zero] at ih; cases ih
        have : 0 < p * num p (d :: l) := Nat.mul_pos (by omega) (by omega)
        omega
    simp only [num]
    rw [digs_pos hp hpos, e1, e2, ih]
    congr 1
    omega
theorem num_lt {p : Nat} (hp : 2 ≤ p) : ∀ l : List Int, Row p l → num p l < p ^ l.length
  | [], _ => by simp [num]
  | c :: l, h => by
    have hc := h.res c (by simp)
    have ih := num_lt hp l (row_tail h)
    simp only [num, List.length_cons, Nat.pow_succ]
    have h1 : p * (num p l + 1) ≤ p * p ^ l.length := Nat.mul_le_mul_left _ ih
    rw [Nat.mul_add, Nat.mul_one] at h1
    rw [Nat.mul_comm (p ^ l.length)]
    omega
theorem num_digs {p : Nat} (hp : 2 ≤ p) (n : Nat) : num p (digs p n) = n := by
  induction n using Nat.strongRecOn with
  | ind n ih =>
    rcases Nat.eq_zero_or_pos n with rfl | h
    · rw [digs_zero]; rfl
    · rw [digs_pos hp h]
      simp only [num]
      rw [ih _ (Nat.div_lt_self h hp), Int.toNat_natCast]
      exact Nat.mod_add_div n p
theorem digs_len_lt {p : Nat} (hp : 2 ≤ p) : ∀ (d n : Nat), n < p ^ d → (digs p n).length ≤ d
  | 0, n, h => by
    have : n = 0 := by simpa using h
    subst this; rw [digs_zero]; simp
  | d + 1, n, h => by
    rcases Nat.eq_zero_or_pos n with rfl | hn
    · rw [digs_zero]; simp
    · rw [digs_pos hp hn]
      have : n / p < p ^ d := by
        rw [Nat.div_lt_iff_lt_mul (by omega), ← Nat.pow_succ]; exact h
      have := digs_len_lt hp d _ this
      simp only [List.length_cons]; omega

variable {P : Pri}
theorem Pri.ge (P : Pri) : 2 ≤ P.n := by have := P.is; omega
def ppn (P : Pri) (n : Nat) : PP P := ⟨digs P.n n, digs_row P.ge n⟩
theorem one_c (i : Nat) : (1 : PP P).c i = if i = 0 then 1 else 0 := by
  show rd [1] i = _
  by_cases hi : i = 0
  · subst hi; simp [rd]
  · rw [if_neg hi, rd_ge (by simp; omega)]
/-! Residues by an irreducible polynomial. -/
section
variable {f : PP P} (hf : Irr f)
include hf
omit hf in
/-- All residues. -/
def els (f : PP P) : List (Qt ppring f) := (List.range (P.n ^ (f.len - 1))).map fun n => qm ppring f (ppn P n)
end
end Go.Proofs.Ytebfhlnfmkhmcaa
/- Inverses modulo p, in the program. -/
namespace Go.Proofs.Ytebfhlnfmkhmcaa
open Go.Abs

theorem inverse_impl {p x : Int} (hp : isP p = true) (hx : 0 < x ∧ x < p) : impl_prime_inverse p x = some (inv p x) := by
  have hp2 := isP_pos hp
  obtain ⟨n, hn⟩ : ∃ n : Nat, p - 2 = n := ⟨(p - 2).toNat, by omega⟩
  have ew : IntKind.i64.wrap (p - 2) = (n : Int) := by rw [wrap64 (by omega) (by omega), hn]
  obtain ⟨c, h1, h2⟩ := loopM_for (body := fun s : Int × Int => impl_prime_inverse_l1 p x s.1 s.2) (fun i c => (c, (i : Int))) (fun c => c) n
    (fun i c => c = x ^ i % p) (fun i c hi hI => by
      subst hI
      have h3 := emod_res (show 0 < p by omega) (x ^ i)
      have h4 := mul_small (x := x ^ i % p) (y := x) (by omega) (by omega)
      refine ⟨x ^ (i + 1) % p, ?_, rfl⟩
      simp only [impl_prime_inverse_l1]
      rw [ew, if_pos (decide_eq_true (by omega)), ifp_pos (by omega), wrap64 (n := x ^ i % p * x) (by omega) (by omega), Int.tmod_eq_emod_of_nonneg h4.1, wrap64 (by omega) (by omega)]
      have : x ^ i % p * x % p = x ^ (i + 1) % p := by rw [Int.pow_succ, Int.mul_emod (x ^ i % p), Int.emod_emod, ← Int.mul_emod]
      rw [this]; rfl) (fun c hI => by
      simp only [impl_prime_inverse_l1]
      rw [ew, if_neg (by rw [decide_eq_true_eq]; omega)]) n 0 1 (by omega) (by rw [Int.pow_zero, Int.emod_eq_of_lt (by omega) (by omega)])
  have h1' : loopM (fun s : Int × Int => impl_prime_inverse_l1 p x s.1 s.2) (1, 0) = some c := h1
  simp only [impl_prime_inverse, h1', Option.bind_some]
  rw [h2, ← inv_pow hp hx, hn, Int.toNat_natCast]
end Go.Proofs.Ytebfhlnfmkhmcaa
/- Rows without the zeros at their ends. -/
namespace Go.Proofs.Ytebfhlnfmkhmcaa
open Go.Abs

def IsB (v : V64) : Prop := ∀ d ∈ v.1, 0 ≤ d ∧ d < 256

theorem IsB.rd {v : V64} (h : IsB v) {j : Nat} (hj : j < 64) : 0 ≤ rd v.1 j ∧ rd v.1 j < 256 := by
  have hl : j < v.1.length := by rw [v.2]; exact hj
  have : Abs.rd v.1 j = v.1[j] := by simp [Abs.rd, hl]
  rw [this]; exact h _ (List.getElem_mem _)

theorem trimmed_loop {l : List Int} (hl : l.length ≤ 1000000) : ∀ s : Int, (∃ i : Nat, s = i ∧ i ≤ l.length) → ∃ r, loopM (fun s : Int => impl_row_trimmed_l1 l s) s = some r ∧ ∀ i : Nat, s = i → r = (top (rd l) i : Int) := by
  refine loopM_ind (fun (s : Int) => ∃ i : Nat, s = i ∧ i ≤ l.length) (fun (s : Int) (r : Int) => ∀ i : Nat, s = i → r = (top (rd l) i : Int)) (fun s => s.toNat) ?_
  rintro s ⟨i, rfl, hi⟩
  match i with
  | 0 =>
    right
    refine ⟨0, by simp [impl_row_trimmed_l1], fun k hk => ?_⟩
    have : k = 0 := by omega
    subst this; simp [top]
  | i + 1 =>
    have e1 : IntKind.i64.wrap (((i + 1 : Nat) : Int) - 1) = (i : Int) := by rw [wrap64 (by omega) (by omega)]; omega
    by_cases e : rd l i = 0
    · left
      refine ⟨(i : Int), ?_, ⟨i, rfl, by omega⟩, by omega, fun r hr k hk => ?_⟩
      · simp only [impl_row_trimmed_l1, e1]
        rw [if_pos (by simp), ifp_pos (by omega)]
        simp [e]
      · have : k = i + 1 := by omega
        subst this
        rw [hr i rfl]; simp [top, e]
    · right
      refine ⟨((i + 1 : Nat) : Int), ?_, fun k hk => ?_⟩
      · simp only [impl_row_trimmed_l1, e1]
        rw [if_pos (by simp), ifp_pos (by omega)]
        simp [e]
      · have : k = i + 1 := by omega
        subst this
        simp [top, e]

theorem trimmed_is {l : List Int} (hl : l.length ≤ 1000000) : impl_row_trimmed l = some (l.take (top (rd l) l.length)) := by
  obtain ⟨r, h1, h2⟩ := trimmed_loop hl (l.length : Nat) ⟨l.length, rfl, Nat.le_refl _⟩
  rw [h2 _ rfl] at h1
  have := top_le (rd l) l.length
  simp only [impl_row_trimmed, h1, Option.bind_some]
  rw [ifp_pos (by omega)]
  simp

end Go.Proofs.Ytebfhlnfmkhmcaa
/- Sums, in the program. -/
namespace Go.Proofs.Ytebfhlnfmkhmcaa
open Go.Abs

theorem at_is (l : List Int) (i : Nat) : impl_row_at l i = some (rd l i) := by
  unfold impl_row_at
  by_cases h : i < l.length
  · rw [if_pos (by simpa using h), ifp_pos (by omega)]; simp
  · rw [if_neg (by simpa using h), rd_ge (by omega)]

theorem reduce_is {p n : Int} (hp : 0 < p ∧ p ≤ 256) (hn : -4611686018427387904 ≤ n ∧ n < 4611686018427387904) : impl_prime_reduce p n = some (n % p) := by
  unfold impl_prime_reduce
  have h1 := Int.lt_tmod_of_pos n hp.1
  have h2 := Int.tmod_lt_of_pos n hp.1
  rw [ifp_pos (by omega), ifp_pos (by omega), wrap64 (by omega) (by omega), tmod_fix hp.1]

theorem combine_is {p k : Int} {a b : List Int} (hp : 0 < p ∧ p ≤ 256) (ha : Ent a) (hb : Ent b) (la : a.length ≤ 1000000) (lb : b.length ≤ 1000000) (hk : -1099511627776 ≤ k ∧ k ≤ 1099511627776) :
    impl_prime_combine p a b k = some (comb p a b k) := by
  obtain ⟨n, hn⟩ : ∃ n : Nat, n = max a.length b.length := ⟨_, rfl⟩
  have e : (if (b.length : Int) > (a.length : Int) then (b.length : Int) else (a.length : Int)) = (n : Int) := by split <;> omega
  obtain ⟨s, h1, h2, h3⟩ := loopM_for (body := fun s : Int × List Int => impl_prime_combine_l1 (n : Int) a b p k s.1 s.2) (fun i s => ((i : Int), s)) (fun s => s) n
    (fun i s => s.length = n ∧ ∀ j, rd s j = if j < i then (rd a j + k * rd b j) % p else 0) (fun i s hi hI => by
      obtain ⟨hl, hr⟩ := hI
      have h1 := ha i
      have h2 := mulk (hb i) hk
      refine ⟨s.set i ((rd a i + k * rd b i) % p), ?_, by simpa using hl, fun j => ?_⟩
      · simp only [impl_prime_combine_l1, letp, Int.toNat_natCast, List.length_replicate]
        rw [if_pos (by simp; omega), at_is, at_is]
        simp only [Option.bind_some]
        rw [wrap64 (n := k * rd b i) (by omega) (by omega), wrap64 (n := rd a i + k * rd b i) (by omega) (by omega), reduce_is hp (by omega)]
        simp only [Option.bind_some]
        rw [ifp_pos (by omega), wrap64 (by omega) (by omega)]
        rfl
      · rw [rd_set _ _ _ _ (by omega), hr j]
        by_cases h : j = i
        · subst h; simp
        · rw [if_neg h]
          simp only [show (j < i + 1) = (j < i) from by rw [eq_iff_iff]; omega]) (fun s hI => by
      simp only [impl_prime_combine_l1, letp, Int.toNat_natCast, List.length_replicate]
      rw [if_neg (by simp)]) n 0 (List.replicate n 0) (by omega) ⟨by simp, fun j => by rw [rd_rep, if_neg (by omega)]⟩
  have hs : s.take (top (rd s) s.length) = comb p a b k := by
    rw [trim_eq, h2, comb, ← hn]
    exact ofF_congr fun i hi => by rw [h3 i, if_pos hi]
  simp only [impl_prime_combine, letp, e]
  rw [ifp_pos (by omega)]
  simp only [Int.toNat_natCast]
  have h1' : loopM (fun s : Int × List Int => impl_prime_combine_l1 (n : Int) a b p k s.1 s.2) (0, List.replicate n 0) = some s := h1
  rw [h1']
  simp only [Option.bind_some]
  rw [trimmed_is (by omega), hs]
  rfl
end Go.Proofs.Ytebfhlnfmkhmcaa
/- Division, in the program. -/
namespace Go.Proofs.Ytebfhlnfmkhmcaa
open Go.Abs

theorem clone_is {a : List Int} (ha : a.length ≤ 1000000) : slices_Clone_impl_row_int64_fresh a = some a := by
  unfold slices_Clone_impl_row_int64_fresh
  rw [ifc_pos, ifp_pos]
  · simp
  · simp; omega
  · intro h
    subst h
    rw [ifp_pos (by simp)]
    simp
theorem divI_inner {p f : Int} (hp : 2 ≤ p ∧ p ≤ 7) {b : List Int} (hb : Row p b) (hf : 0 ≤ f ∧ f < p) {i : Nat} {s t : List Int} (hi : i + b.length ≤ s.length) (hl : s.length ≤ 1000000) (hs : ∀ j, 0 ≤ rd s j ∧ rd s j < p) {s0 : List Int} {x r9 : Int} (hx : Int.tmod (IntKind.i64.wrap (rd s0 x.toNat * r9)) p = f) :
    ∃ s', loopM (fun q : Int × List Int => impl_prime_divide_l2 b (i : Int) s0 x r9 p t q.1 q.2) (0, s) = some (s', t.set i f) ∧ s'.length = s.length ∧ ∀ j, rd s' j = dstep p (rd b) (b.length - 1) f i (rd s) j := by
  obtain ⟨s', h1, h2, h3⟩ := loopM_for (body := fun q : Int × List Int => impl_prime_divide_l2 b (i : Int) s0 x r9 p t q.1 q.2) (fun k u => ((k : Int), u)) (fun u => (u, t.set i f)) b.length
    (fun k u => u.length = s.length ∧ ∀ j, rd u j = if i ≤ j ∧ j < i + k then (rd s j - f * rd b (j - i)) % p else rd s j) (fun k u hk hI => by
      obtain ⟨hul, hu⟩ := hI
      have hbk := hb.rd (show 0 < p by omega) k
      have hsk := hs (i + k)
      have hm := mul_small (x := f) (y := rd b k) (by omega) (by omega)
      have e1 : IntKind.i64.wrap ((i : Int) + (k : Int)) = ((i + k : Nat) : Int) := by rw [wrap64 (by omega) (by omega)]; omega
      have huk := hu (i + k)
      rw [if_neg (by omega)] at huk
      refine ⟨u.set (i + k) ((rd s (i + k) - f * rd b k) % p), ?_, by simpa using hul, fun j => ?_⟩
      · simp only [impl_prime_divide_l2, letp, hx]
        rw [if_pos (decide_eq_true (by omega)), ifp_pos (by omega), e1, ifp_pos (by omega), Int.toNat_natCast, Int.toNat_natCast, huk, wrap64 (n := f * rd b k) (by omega) (by omega), wrap64 (n := rd s (i + k) - f * rd b k) (by omega) (by omega), reduce_is (by omega) (by omega)]
        simp only [Option.bind_some]
        rw [ifp_pos (by omega), wrap64 (by omega) (by omega)]
        rfl
      · rw [rd_set _ _ _ _ (by omega), hu j]
        by_cases e : j = i + k
        · subst e
          rw [if_pos rfl, if_pos (by omega), show i + k - i = k by omega]
        · rw [if_neg e]
          by_cases hc : i ≤ j ∧ j < i + k
          · rw [if_pos hc, if_pos (by omega)]
          · rw [if_neg hc, if_neg (by omega)]) (fun u hI => by
      simp only [impl_prime_divide_l2, hx]
      rw [if_neg (by rw [decide_eq_true_eq]; omega), Int.toNat_natCast]) b.length 0 s (by omega) ⟨rfl, fun j => by rw [if_neg (by omega)]⟩
  refine ⟨s', h1, h2, fun j => ?_⟩
  rw [h3 j]
  unfold dstep
  rcases Nat.eq_zero_or_pos b.length with h0 | h0
  · rw [if_neg (by omega)]
    split
    · have : rd b (j - i) = 0 := rd_ge (by omega)
      have := hs j
      rw [show rd b (j - i) = 0 from rd_ge (by omega), Int.mul_zero, Int.sub_zero, Int.emod_eq_of_lt this.1 this.2]
    · rfl
  · simp only [show (i ≤ j ∧ j < i + b.length) = (i ≤ j ∧ j ≤ i + (b.length - 1)) from by rw [eq_iff_iff]; omega]
theorem divI_outer {p : Int} (hp : isP p = true) {b : List Int} (hb : Row p b) (h0 : b.length ≠ 0) {n : Nat} (hn : n ≤ 500000) : ∀ (i : Nat) (s t : List Int), i + b.length - 1 ≤ s.length → i ≤ n → s.length ≤ 1000000 → t.length = n → (∀ j, 0 ≤ rd s j ∧ rd s j < p) →
    ∃ s' t', loopM (fun q : Int × List Int × List Int => impl_prime_divide_l1 b p (inv p (lead b)) q.1 q.2.1 q.2.2) ((i : Int) - 1, s, t) = some (s', t') ∧ s'.length = s.length ∧ t'.length = n ∧
      (∀ j, rd s' j = drem p (rd b) (b.length - 1) (inv p (lead b)) i (rd s) j) ∧ ∀ j, rd t' j = if j < i then dquo p (rd b) (b.length - 1) (inv p (lead b)) i (rd s) j else rd t j
  | 0, s, t, _, _, _, ht, _ => by
    refine ⟨s, t, ?_, rfl, ht, fun _ => rfl, fun j => by rw [if_neg (by omega)]⟩
    have step : impl_prime_divide_l1 b p (inv p (lead b)) (((0 : Nat) : Int) - 1) s t = some (.inr (s, t)) := by
      simp only [impl_prime_divide_l1]
      rw [if_neg (by rw [decide_eq_true_eq]; omega)]
    rw [loopM_eq]
    simp only [step, Option.bind_some]
  | i + 1, s, t, hi, hin, hsl, ht, hs => by
    have hp2 := isP_pos hp
    have hinv := inv_is hp (lead_pos (show 0 < p by omega) hb h0)
    have hsx := hs (i + (b.length - 1))
    have hm := mul_small (x := rd s (i + (b.length - 1))) (y := inv p (lead b)) (by omega) (by omega)
    have hf := emod_res (show 0 < p by omega) (rd s (i + (b.length - 1)) * inv p (lead b))
    have e0 : ((i + 1 : Nat) : Int) - 1 = (i : Int) := by omega
    have e1 : IntKind.i64.wrap (IntKind.i64.wrap ((i : Int) + (b.length : Int)) - 1) = ((i + (b.length - 1) : Nat) : Int) := by
      rw [wrap64 (n := (i : Int) + (b.length : Int)) (by omega) (by omega), wrap64 (by omega) (by omega)]; omega
    have hx : Int.tmod (IntKind.i64.wrap (rd s (((i + (b.length - 1) : Nat) : Int)).toNat * inv p (lead b))) p = dfac p (inv p (lead b)) (b.length - 1) i (rd s) := by
      rw [Int.toNat_natCast, wrap64 (by omega) (by omega), Int.tmod_eq_emod_of_nonneg hm.1]; rfl
    obtain ⟨s1, g1, g2, g3⟩ := divI_inner hp2 hb (f := dfac p (inv p (lead b)) (b.length - 1) i (rd s)) hf (i := i) (s := s) (t := t) (by omega) hsl hs hx
    have hs1 : rd s1 = dstep p (rd b) (b.length - 1) (dfac p (inv p (lead b)) (b.length - 1) i (rd s)) i (rd s) := funext g3
    obtain ⟨s', t', k1, k2, k3, k4, k5⟩ := divI_outer hp hb h0 hn i s1 (t.set i (dfac p (inv p (lead b)) (b.length - 1) i (rd s))) (by omega) (by omega) (by omega) (by simpa using ht) (fun j => by rw [hs1]; exact dstep_res (by omega) hs _ i j)
    refine ⟨s', t', ?_, by omega, k3, fun j => ?_, fun j => ?_⟩
    · have step : impl_prime_divide_l1 b p (inv p (lead b)) (((i + 1 : Nat) : Int) - 1) s t = some (.inl ((i : Int) - 1, s1, t.set i (dfac p (inv p (lead b)) (b.length - 1) i (rd s)))) := by
        rw [e0]
        simp only [impl_prime_divide_l1, letp, e1]
        rw [if_pos (decide_eq_true (by omega)), ifp_pos (by omega), ifp_pos (by omega), ifp_pos (by omega), g1]
        simp only [Option.bind_some]
        rw [wrap64 (by omega) (by omega)]
      rw [loopM_eq]
      simp only [step, Option.bind_some]
      exact k1
    · rw [k4 j, hs1]; rfl
    · rw [k5 j, hs1]
      simp only [dquo]
      by_cases e : j = i
      · subst e
        rw [if_neg (by omega), if_pos (by omega), if_pos rfl, rd_set _ _ _ _ (by omega), if_pos rfl]
      · by_cases h : j < i
        · rw [if_pos h, if_pos (by omega), if_neg e]
        · rw [if_neg h, if_neg (by omega), rd_set _ _ _ _ (by omega), if_neg e]
theorem lead_is {b : List Int} (h0 : b.length ≠ 0) (hl : b.length ≤ 1000000) : impl_row_lead b = some (lead b) := by
  unfold impl_row_lead
  have e1 : IntKind.i64.wrap ((b.length : Int) - 1) = ((b.length - 1 : Nat) : Int) := by rw [wrap64 (by omega) (by omega)]; omega
  rw [if_neg (by rw [beq_iff_eq]; omega), e1, ifp_pos (by omega), Int.toNat_natCast]; rfl
theorem divideI_is {p : Int} (hp : isP p = true) {a b : List Int} (ha : Row p a) (hb : Row p b) (h0 : b.length ≠ 0) (la : a.length ≤ 500000) (lb : b.length ≤ 500000) : impl_prime_divide p a b = some (quo p a b, rem p a b) := by
  have hp2 := isP_pos hp
  unfold impl_prime_divide
  rw [clone_is (by omega)]
  simp only [Option.bind_some]
  rcases Nat.lt_or_ge a.length b.length with h | h
  · rw [if_pos (decide_eq_true (by omega))]
    have e1 : quo p a b = [] := by
      have := quo_len p a b
      exact List.eq_nil_of_length_eq_zero (by omega)
    have e2 : rem p a b = a := by
      unfold rem
      rw [show a.length + 1 - b.length = 0 by omega]
      exact ha.ofF (Nat.le_refl _)
    rw [e1, e2]
  · rw [if_neg (by rw [decide_eq_true_eq]; omega)]
    obtain ⟨n, hn⟩ : ∃ n : Nat, n = a.length + 1 - b.length := ⟨_, rfl⟩
    have e1 : IntKind.i64.wrap (IntKind.i64.wrap ((a.length : Int) - (b.length : Int)) + 1) = (n : Int) := by
      rw [wrap64 (n := (a.length : Int) - (b.length : Int)) (by omega) (by omega), wrap64 (by omega) (by omega)]; omega
    have hlead := lead_pos (show 0 < p by omega) hb h0
    simp only [letp, e1, lead_is h0 (by omega), inverse_impl hp hlead, Option.bind_some, Int.toNat_natCast, List.length_replicate]
    rw [ifp_pos (by omega), wrap64 (by omega) (by omega)]
    obtain ⟨s', t', k1, k2, k3, k4, k5⟩ := divI_outer hp hb h0 (n := n) (by omega) n a (List.replicate n 0) (by omega) (Nat.le_refl _) (by omega) (by simp) (fun j => ha.rd (by omega) j)
    rw [k1]
    simp only [Option.bind_some]
    rw [trimmed_is (by omega), trimmed_is (by omega)]
    simp only [Option.bind_some]
    rw [trim_eq, trim_eq, k2, k3]
    congr 2
    · rw [quo, ← hn]
      exact ofF_congr fun i hi => by rw [k5 i, if_pos hi]
    · rw [rem, ← hn]
      exact ofF_congr fun i _ => k4 i
end Go.Proofs.Ytebfhlnfmkhmcaa
/- Products, in the program. -/
namespace Go.Proofs.Ytebfhlnfmkhmcaa
open Go.Abs


theorem cv_small {a b : Nat → Int} (ha : ∀ i, 0 ≤ a i ∧ a i < 256) (hb : ∀ i, 0 ≤ b i ∧ b i < 256) (k : Nat) : ∀ n : Nat, 0 ≤ cv a b n k ∧ cv a b n k ≤ n * 65025
  | 0 => by simp [cv, sumTo]
  | n + 1 => by
    rw [cv_succ]
    have h1 := cv_small ha hb k n
    have h2 := mul_small (ha n) (hb (k - n))
    split <;> omega

/-- The program's product. -/
theorem times_is {p : Int} (hp : 2 ≤ p ∧ p ≤ 256) {a b : List Int} (ha : Ent a) (hb : Ent b) (la : a.length ≤ 500000) (lb : b.length ≤ 500000) : impl_prime_times p a b = some (mul p a b) := by
  simp only [impl_prime_times, letp]
  by_cases h1 : a.length = 0
  · have e : a = [] := List.eq_nil_of_length_eq_zero h1
    subst e
    simp [mul_nil]
  by_cases h2 : b.length = 0
  · have e : b = [] := List.eq_nil_of_length_eq_zero h2
    subst e
    simp [mul_nil']
  obtain ⟨n, hn⟩ : ∃ n : Nat, n = a.length + b.length - 1 := ⟨_, rfl⟩
  have e0 : IntKind.i64.wrap (IntKind.i64.wrap ((a.length : Int) + (b.length : Int)) - 1) = (n : Int) := by
    rw [wrap64 (n := (a.length : Int) + (b.length : Int)) (by omega) (by omega), wrap64 (by omega) (by omega)]; omega
  rw [e0]
  have c1 : (if ((a.length : Int) == 0) = true then some true else some ((b.length : Int) == 0)) = some false := by
    rw [if_neg (by rw [beq_iff_eq]; omega)]
    congr 1
    rw [beq_eq_false_iff_ne]; omega
  rw [c1]
  simp only [Bool.false_eq_true, if_false, Option.bind_some, Int.toNat_natCast]
  rw [ifp_pos (by omega)]
  -- one row
  have hrow : ∀ (i : Nat) (s : List Int), i < a.length → s.length = n → (∀ k, rd s k = cv (rd a) (rd b) i k) →
      ∃ s', loopM (fun s : Int × List Int => impl_prime_times_l2 b (i : Int) a s.1 s.2) (0, s) = some s' ∧ s'.length = n ∧ ∀ k, rd s' k = cv (rd a) (rd b) (i + 1) k := by
    intro i s hi hsl hs
    have hai := ha i
    obtain ⟨s', g1, g2, g3⟩ := loopM_for (body := fun s : Int × List Int => impl_prime_times_l2 b (i : Int) a s.1 s.2) (fun j (u : List Int) => ((j : Int), u)) (fun u => u) b.length
      (fun j u => u.length = n ∧ ∀ k, rd u k = if i ≤ k ∧ k < i + j then cv (rd a) (rd b) (i + 1) k else cv (rd a) (rd b) i k) (fun j u hj hI => by
        obtain ⟨hul, hu⟩ := hI
        have hbj := hb j
        have hm := mul_small hai hbj
        have hc := cv_small ha hb (i + j) i
        have e1 : IntKind.i64.wrap ((i : Int) + (j : Int)) = ((i + j : Nat) : Int) := by rw [wrap64 (by omega) (by omega)]; omega
        have huj := hu (i + j)
        rw [if_neg (by omega)] at huj
        have e2 : cv (rd a) (rd b) (i + 1) (i + j) = cv (rd a) (rd b) i (i + j) + rd a i * rd b j := by
          rw [cv_succ, if_pos (by omega), show i + j - i = j by omega]
        refine ⟨u.set (i + j) (cv (rd a) (rd b) (i + 1) (i + j)), ?_, by simpa using hul, fun k => ?_⟩
        · simp only [impl_prime_times_l2, letp]
          rw [if_pos (by simp; omega), e1]
          rw [ifp_pos (by omega), ifp_pos (by omega), ifp_pos (by omega)]
          simp only [Int.toNat_natCast]
          rw [huj, wrap64 (n := rd a i * rd b j) (by omega) (by omega), wrap64 (n := cv (rd a) (rd b) i (i + j) + rd a i * rd b j) (by omega) (by omega), wrap64 (by omega) (by omega), e2]
          rfl
        · rw [rd_set _ _ _ _ (by omega)]
          by_cases e : k = i + j
          · subst e
            rw [if_pos rfl, if_pos (by omega)]
          · rw [if_neg e, hu k]
            by_cases hc : i ≤ k ∧ k < i + j
            · rw [if_pos hc, if_pos (by omega)]
            · rw [if_neg hc, if_neg (by omega)]) (fun u hI => by
        simp only [impl_prime_times_l2]
        rw [if_neg (by simp)]) b.length 0 s (by omega) ⟨hsl, fun k => by rw [hs k, if_neg (by omega)]⟩
    refine ⟨s', g1, g2, fun k => ?_⟩
    rw [g3 k]
    split
    · rfl
    · rename_i hc
      rw [cv_succ]
      by_cases hik : i ≤ k
      · rw [if_pos hik, rd_ge (l := b) (by omega), Int.mul_zero, Int.add_zero]
      · rw [if_neg hik, Int.add_zero]
  obtain ⟨s, h3, h4, h5⟩ := loopM_for (body := fun s : Int × List Int => impl_prime_times_l1 a b s.1 s.2) (fun i (u : List Int) => ((i : Int), u)) (fun u => u) a.length
    (fun i u => u.length = n ∧ ∀ k, rd u k = cv (rd a) (rd b) i k) (fun i u hi hI => by
      obtain ⟨u', g1, g2, g3⟩ := hrow i u hi hI.1 hI.2
      refine ⟨u', ?_, g2, g3⟩
      simp only [impl_prime_times_l1]
      rw [if_pos (by simp; omega), ifp_pos (by omega), g1]
      simp only [Option.bind_some]
      rw [wrap64 (by omega) (by omega)]; rfl) (fun u hI => by
      simp only [impl_prime_times_l1]
      rw [if_neg (by simp)]) a.length 0 (List.replicate n 0) (by omega) ⟨by simp, fun k => by rw [rd_rep]; simp [cv, sumTo]⟩
  have h3' : loopM (fun s : Int × List Int => impl_prime_times_l1 a b s.1 s.2) (0, List.replicate n 0) = some s := h3
  rw [h3']
  simp only [Option.bind_some]
  obtain ⟨t, h6, h7, h8⟩ := loopM_for (body := fun q : Int × List Int => impl_prime_times_l3 s p q.1 q.2) (fun i (u : List Int) => ((i : Int), u)) (fun u => u) n
    (fun i u => u.length = n ∧ ∀ k, rd u k = if k < i then cv (rd a) (rd b) a.length k % p else cv (rd a) (rd b) a.length k) (fun i u hi hI => by
      obtain ⟨hul, hu⟩ := hI
      have hui := hu i
      rw [if_neg (by omega)] at hui
      have hc := cv_small ha hb i a.length
      refine ⟨u.set i (cv (rd a) (rd b) a.length i % p), ?_, by simpa using hul, fun k => ?_⟩
      · simp only [impl_prime_times_l3]
        rw [if_pos (by simp; omega), ifp_pos (by omega), ifp_pos (by omega), ifp_pos (by omega)]
        simp only [Int.toNat_natCast]
        rw [hui, Int.tmod_eq_emod_of_nonneg hc.1, wrap64 (by omega) (by omega)]; rfl
      · rw [rd_set _ _ _ _ (by omega), hu k]
        by_cases e : k = i
        · subst e; simp
        · rw [if_neg e]
          simp only [show (k < i + 1) = (k < i) from by rw [eq_iff_iff]; omega]) (fun u hI => by
      simp only [impl_prime_times_l3]
      rw [if_neg (by simp; omega)]) n 0 s (by omega) ⟨h4, fun k => by rw [h5 k, if_neg (by omega)]⟩
  have h6' : loopM (fun q : Int × List Int => impl_prime_times_l3 s p q.1 q.2) (0, s) = some t := h6
  rw [h6']
  simp only [Option.bind_some]
  rw [trimmed_is (by omega), trim_eq, h7]
  simp only [Option.bind_some]
  congr 1
  rw [mul, ← hn]
  exact ofF_congr fun k hk => by rw [h8 k, if_pos hk, cv_conv fun i hi => rd_ge (by omega)]
end Go.Proofs.Ytebfhlnfmkhmcaa
/- Products and quotients, in the program. -/
namespace Go.Proofs.Ytebfhlnfmkhmcaa
open Go.Abs

variable {P : Pri}
theorem Pri.sm (P : Pri) : 0 < P.p ∧ P.p ≤ 256 := by have := P.two; omega
theorem PP.ent (a : PP P) : Ent a.1 := a.2.ent P.sm
theorem ne_len {b : PP P} (hb : b ≠ 0) : b.1.length ≠ 0 := fun h => hb (len_zero.1 h)
end Go.Proofs.Ytebfhlnfmkhmcaa
/- Inverses modulo p, in the reference. -/
namespace Go.Proofs.Ytebfhlnfmkhmcaa
open Go.Abs

theorem inverse_spec {p x : Int} (hp : isP p = true) (hx : 0 < x ∧ x < p) : spec_l01Inverse p x = some (inv p x) := by
  have hp2 := isP_pos hp
  obtain ⟨hi1, hi2, hi3⟩ := inv_is hp hx
  have key : ∀ (m : Nat) (k : Int), 1 ≤ k → k + m = inv p x → loopM (fun s : Int => spec_l01Inverse_l1 p x s) k = some (.inr (inv p x)) := by
    intro m
    induction m with
    | zero =>
      intro k h1 h2
      have h3 := mul_small (x := k) (y := x) (by omega) (by omega)
      have e : k = inv p x := by omega
      have step : spec_l01Inverse_l1 p x k = some (.inr (.inr (inv p x))) := by
        simp only [spec_l01Inverse_l1, letp]
        rw [if_pos (decide_eq_true (by omega)), ifp_pos (by omega), wrap64 (n := x) (by omega) (by omega), wrap64 (n := k * x) (by omega) (by omega), Int.tmod_eq_emod_of_nonneg h3.1, if_pos, wrap8 (by omega) (by omega), e]
        rw [e, Int.mul_comm, hi3]; rfl
      rw [loopM_eq]
      simp only [step, Option.bind_some]
    | succ m ih =>
      intro k h1 h2
      have h3 := mul_small (x := k) (y := x) (by omega) (by omega)
      have hne := inv_first hp hx h1 (show k < inv p x by omega)
      have step : spec_l01Inverse_l1 p x k = some (.inl (k + 1)) := by
        simp only [spec_l01Inverse_l1, letp]
        rw [if_pos (decide_eq_true (by omega)), ifp_pos (by omega), wrap64 (n := x) (by omega) (by omega), wrap64 (n := k * x) (by omega) (by omega), Int.tmod_eq_emod_of_nonneg h3.1, if_neg (by rw [beq_iff_eq]; exact hne), wrap64 (by omega) (by omega)]
      rw [loopM_eq]
      simp only [step, Option.bind_some]
      exact ih (k + 1) (by omega) (by omega)
  have h := key (inv p x - 1).toNat 1 (by omega) (by omega)
  simp only [spec_l01Inverse, h, Option.bind_some]
end Go.Proofs.Ytebfhlnfmkhmcaa
/- Degrees. -/
namespace Go.Proofs.Ytebfhlnfmkhmcaa
open Go.Abs

theorem deg_loop (a : V64) : ∀ s : Int, (∃ i : Nat, s = (i : Int) - 1 ∧ i ≤ 64) → ∃ r, loopM (fun s : Int => spec_l01Deg_l1 a s) s = some r ∧ ∀ i : Nat, s = (i : Int) - 1 → r = (top (rd a.1) i : Int) - 1 := by
  refine loopM_ind (fun (s : Int) => ∃ i : Nat, s = (i : Int) - 1 ∧ i ≤ 64) (fun (s : Int) (r : Int) => ∀ i : Nat, s = (i : Int) - 1 → r = (top (rd a.1) i : Int) - 1) (fun s => (s + 1).toNat) ?_
  rintro s ⟨i, rfl, hi⟩
  match i with
  | 0 =>
    right
    refine ⟨-1, by simp [spec_l01Deg_l1], fun k hk => ?_⟩
    have : k = 0 := by omega
    subst this; simp [top]
  | i + 1 =>
    have e1 : ((i + 1 : Nat) : Int) - 1 = (i : Int) := by omega
    rw [e1]
    by_cases e : rd a.1 i = 0
    · left
      refine ⟨(i : Int) - 1, ?_, ⟨i, rfl, by omega⟩, by omega, fun r hr k hk => ?_⟩
      · simp only [spec_l01Deg_l1]
        rw [if_pos (by simp), ifp_pos (by omega)]
        simp [e]
        exact wrap64 (by omega) (by omega)
      · have : k = i + 1 := by omega
        subst this
        rw [hr i rfl]; simp [top, e]
    · right
      refine ⟨(i : Int), ?_, fun k hk => ?_⟩
      · simp only [spec_l01Deg_l1]
        rw [if_pos (by simp), ifp_pos (by omega)]
        simp [e]
      · have : k = i + 1 := by omega
        subst this
        simp [top, e]

theorem deg_is (a : V64) : spec_l01Deg a = some ((top (rd a.1) 64 : Int) - 1) := by
  obtain ⟨r, h1, h2⟩ := deg_loop a 63 ⟨64, by omega, by omega⟩
  rw [h2 64 (by omega)] at h1
  simp only [spec_l01Deg, h1, Option.bind_some]
end Go.Proofs.Ytebfhlnfmkhmcaa
/- Division, in the reference. -/
namespace Go.Proofs.Ytebfhlnfmkhmcaa
open Go.Abs

theorem divS_inner {p f y : Int} (hp : 2 ≤ p ∧ p ≤ 7) {b : V64} (hb : Res p b) (hf : 0 ≤ f ∧ f < p) (hy : Int.tmod y p = f) {i m : Nat} (hi : i + m < 64) {s t : V64} (hs : Res p s) :
    ∃ s', loopM (fun q : Int × V64 => spec_l01Divide_l2 (m : Int) y p ((i + m : Nat) : Int) b t q.1 q.2) (0, s) = some (s', vset t i f) ∧ Res p s' ∧ ∀ j, j < 64 → rd s'.1 j = dstep p (rd b.1) m f i (rd s.1) j := by
  have e0 : IntKind.i64.wrap (((i + m : Nat) : Int) - (m : Int)) = (i : Int) := by rw [wrap64 (by omega) (by omega)]; omega
  by_cases h0 : f = 0
  · refine ⟨s, ?_, hs, fun j hj => ?_⟩
    · have step : spec_l01Divide_l2 (m : Int) y p ((i + m : Nat) : Int) b t 0 s = some (.inr (s, vset t i f)) := by
        simp only [spec_l01Divide_l2, hy]
        rw [if_pos (decide_eq_true (by omega))]
        simp only [Option.bind_some]
        rw [if_neg (by rw [h0]; simp), e0, Int.toNat_natCast, wrap8 (by omega) (by omega)]
      rw [loopM_eq]
      simp only [step, Option.bind_some]
    · unfold dstep
      split
      · have := hs j hj
        rw [h0, Int.zero_mul, Int.sub_zero, Int.emod_eq_of_lt this.1 this.2]
      · rfl
  · obtain ⟨s', h1, h2, h3⟩ := loopM_for (body := fun q : Int × V64 => spec_l01Divide_l2 (m : Int) y p ((i + m : Nat) : Int) b t q.1 q.2) (fun k (u : V64) => ((k : Int), u)) (fun u => (u, vset t i f)) (m + 1)
      (fun k u => Res p u ∧ ∀ j, j < 64 → rd u.1 j = if i ≤ j ∧ j < i + k then (rd s.1 j - f * rd b.1 (j - i)) % p else rd s.1 j) (fun k u hk hI => by
        obtain ⟨hur, hu⟩ := hI
        have hbk := hb k (by omega)
        have hsk := hs (i + k) (by omega)
        have hm := mul_small (x := f) (y := rd b.1 k) (by omega) (by omega)
        have e1 : IntKind.i64.wrap ((i : Int) + (k : Int)) = ((i + k : Nat) : Int) := by rw [wrap64 (by omega) (by omega)]; omega
        have huk := hu (i + k) (by omega)
        rw [if_neg (by omega)] at huk
        have ht1 := Int.lt_tmod_of_pos (rd s.1 (i + k) - f * rd b.1 k) (show 0 < p by omega)
        have ht2 := Int.tmod_lt_of_pos (rd s.1 (i + k) - f * rd b.1 k) (show 0 < p by omega)
        have hr := emod_res (show 0 < p by omega) (rd s.1 (i + k) - f * rd b.1 k)
        refine ⟨vset u (i + k) ((rd s.1 (i + k) - f * rd b.1 k) % p), ?_, fun j hj => ?_, fun j hj => ?_⟩
        · simp only [spec_l01Divide_l2, letp, hy, e0]
          rw [if_pos (decide_eq_true (by omega))]
          simp only [Option.bind_some]
          rw [if_pos (by simpa using h0), e1, ifp_pos (by omega), ifp_pos (by omega), ifp_pos (by omega), ifp_pos (by omega), ifp_pos (by omega), Int.toNat_natCast, Int.toNat_natCast, huk]
          rw [wrap64 (n := rd b.1 k) (by omega) (by omega), wrap64 (n := f * rd b.1 k) (by omega) (by omega), wrap64 (n := rd s.1 (i + k)) (by omega) (by omega), wrap64 (n := rd s.1 (i + k) - f * rd b.1 k) (by omega) (by omega), wrap64 (n := _ + p) (by omega) (by omega), tmod_fix (by omega), wrap8 (by omega) (by omega), wrap64 (by omega) (by omega)]
          rfl
        · rw [rd_vset _ _ _ _ (by omega)]
          split
          · exact hr
          · exact hur j hj
        · rw [rd_vset _ _ _ _ (by omega), hu j hj]
          by_cases e : j = i + k
          · subst e
            rw [if_pos rfl, if_pos (by omega), show i + k - i = k by omega]
          · rw [if_neg e]
            by_cases hc : i ≤ j ∧ j < i + k
            · rw [if_pos hc, if_pos (by omega)]
            · rw [if_neg hc, if_neg (by omega)]) (fun u hI => by
        simp only [spec_l01Divide_l2, hy, e0]
        rw [if_neg (by rw [decide_eq_true_eq]; omega)]
        simp only [Option.bind_some, Bool.false_eq_true, if_false]
        rw [Int.toNat_natCast, wrap8 (by omega) (by omega)]) (m + 1) 0 s (by omega) ⟨hs, fun j hj => by rw [if_neg (by omega)]⟩
    refine ⟨s', h1, h2, fun j hj => ?_⟩
    rw [h3 j hj]
    unfold dstep
    simp only [show (i ≤ j ∧ j < i + (m + 1)) = (i ≤ j ∧ j ≤ i + m) from by rw [eq_iff_iff]; omega]
theorem divS_outer {p : Int} (hp : isP p = true) {b : V64} (hb : Res p b) {m : Nat} {iv : Int} (hiv : 0 ≤ iv ∧ iv < p) : ∀ (i : Nat) (s t : V64), i + m ≤ 64 → Res p s →
    ∃ s' t', loopM (fun q : Int × V64 × V64 => spec_l01Divide_l1 (m : Int) iv p b q.1 q.2.1 q.2.2) ((i : Int) + m - 1, s, t) = some (s', t') ∧
      (∀ j, j < 64 → rd s'.1 j = drem p (rd b.1) m iv i (rd s.1) j) ∧ ∀ j, j < 64 → rd t'.1 j = if j < i then dquo p (rd b.1) m iv i (rd s.1) j else rd t.1 j
  | 0, s, t, hi, _ => by
    refine ⟨s, t, ?_, fun _ _ => rfl, fun j _ => by rw [if_neg (by omega)]⟩
    have step : spec_l01Divide_l1 (m : Int) iv p b (((0 : Nat) : Int) + m - 1) s t = some (.inr (s, t)) := by
      simp only [spec_l01Divide_l1]
      rw [if_neg (by rw [decide_eq_true_eq]; omega)]
    rw [loopM_eq]
    simp only [step, Option.bind_some]
  | i + 1, s, t, hi, hs => by
    have hp2 := isP_pos hp
    have hsx := hs (i + m) (by omega)
    have hm := mul_small (x := rd s.1 (i + m)) (y := iv) (by omega) (by omega)
    have hf := emod_res (show 0 < p by omega) (rd s.1 (i + m) * iv)
    have e0 : ((i + 1 : Nat) : Int) + m - 1 = ((i + m : Nat) : Int) := by omega
    have e1 : IntKind.i64.wrap (((i + m : Nat) : Int) - (m : Int)) = (i : Int) := by rw [wrap64 (by omega) (by omega)]; omega
    have hy : Int.tmod (rd s.1 (i + m) * iv) p = dfac p iv m i (rd s.1) := Int.tmod_eq_emod_of_nonneg hm.1
    obtain ⟨s1, g1, g2, g3⟩ := divS_inner hp2 hb (f := dfac p iv m i (rd s.1)) hf hy (i := i) (m := m) (by omega) (t := t) hs
    obtain ⟨s', t', k1, k2, k3⟩ := divS_outer hp hb (m := m) hiv i s1 (vset t i (dfac p iv m i (rd s.1))) (by omega) g2
    -- the functions agree on the places that there are
    have hz : ∀ j, 64 ≤ j → rd s1.1 j = dstep p (rd b.1) m (dfac p iv m i (rd s.1)) i (rd s.1) j := fun j hj => by
      rw [rd_ge (by rw [s1.2]; exact hj)]
      unfold dstep
      rw [if_neg (by omega), rd_ge (by rw [s.2]; exact hj)]
    have hs1 : rd s1.1 = dstep p (rd b.1) m (dfac p iv m i (rd s.1)) i (rd s.1) := funext fun j => by
      rcases Nat.lt_or_ge j 64 with h | h
      · exact g3 j h
      · exact hz j h
    refine ⟨s', t', ?_, fun j hj => ?_, fun j hj => ?_⟩
    · have step : spec_l01Divide_l1 (m : Int) iv p b (((i + 1 : Nat) : Int) + m - 1) s t = some (.inl ((i : Int) + m - 1, s1, vset t i (dfac p iv m i (rd s.1)))) := by
        rw [e0]
        simp only [spec_l01Divide_l1, letp, e1]
        rw [if_pos (decide_eq_true (by omega)), ifp_pos (by omega), Int.toNat_natCast, wrap64 (n := rd s.1 (i + m)) (by omega) (by omega), wrap64 (n := iv) (by omega) (by omega), wrap64 (n := rd s.1 (i + m) * iv) (by omega) (by omega), ifp_pos (by omega), ifp_pos (by omega), g1]
        simp only [Option.bind_some]
        rw [wrap64 (by omega) (by omega)]
        congr 3
      rw [loopM_eq]
      simp only [step, Option.bind_some]
      exact k1
    · rw [k2 j hj, hs1]; rfl
    · rw [k3 j hj, hs1]
      simp only [dquo]
      by_cases e : j = i
      · subst e
        rw [if_neg (by omega), if_pos (by omega), if_pos rfl, rd_vset _ _ _ _ hj, if_pos rfl]
      · by_cases h : j < i
        · rw [if_pos h, if_pos (by omega), if_neg e]
        · rw [if_neg h, if_neg (by omega), rd_vset _ _ _ _ (by omega), if_neg e]
theorem rd_pad_fun {l : List Int} (hl : l.length ≤ 64) : rd (pad l).1 = rd l := funext fun j => by
  rcases Nat.lt_or_ge j 64 with h | h
  · exact rd_padl l h
  · rw [rd_ge (by rw [(pad l).2]; exact h), rd_ge (by omega)]
theorem divideS_is {p : Int} (hp : isP p = true) {a b : List Int} (ha : Row p a) (hb : Row p b) (h0 : b.length ≠ 0) (la : a.length ≤ 64) (lb : b.length ≤ 64) : spec_l01Divide p (pad a) (pad b) = some (pad (quo p a b), pad (rem p a b)) := by
  have hp2 := isP_pos hp
  have hta : top (rd (pad a).1) 64 = a.length := by rw [top_congr 64 fun i hi => rd_padl a hi, ha.top la]
  have htb : top (rd (pad b).1) 64 = b.length := by rw [top_congr 64 fun i hi => rd_padl b hi, hb.top lb]
  have hlead := lead_pos (show 0 < p by omega) hb h0
  have hinv := inv_is hp hlead
  have e1 : ((b.length : Nat) : Int) - 1 = ((b.length - 1 : Nat) : Int) := by omega
  simp only [spec_l01Divide, deg_is, hta, htb, Option.bind_some, e1]
  have hl : rd (pad b).1 (b.length - 1) = lead b := by rw [rd_padl _ (by omega)]; rfl
  rw [ifp_pos (by omega), Int.toNat_natCast, hl, inverse_spec hp hlead]
  simp only [Option.bind_some]
  rcases Nat.lt_or_ge a.length b.length with h | h
  · have step : spec_l01Divide_l1 ((b.length - 1 : Nat) : Int) (inv p (lead b)) p (pad b) ((a.length : Int) - 1) (pad a) (vrep 64 0) = some (.inr (pad a, vrep 64 0)) := by
      simp only [spec_l01Divide_l1]
      rw [if_neg (by rw [decide_eq_true_eq]; omega)]
    rw [loopM_eq]
    simp only [step, Option.bind_some]
    have e2 : quo p a b = [] := by
      have := quo_len p a b
      exact List.eq_nil_of_length_eq_zero (by omega)
    have e3 : rem p a b = a := by
      unfold rem
      rw [show a.length + 1 - b.length = 0 by omega]
      exact ha.ofF (Nat.le_refl _)
    rw [e2, e3, pad_nil]
  · obtain ⟨s', t', k1, k2, k3⟩ := divS_outer hp (res_pad hb (by omega)) (m := b.length - 1) (iv := inv p (lead b)) ⟨by omega, hinv.2.1⟩ (a.length + 1 - b.length) (pad a) (vrep 64 0) (by omega) (res_pad ha (by omega))
    have e2 : ((a.length + 1 - b.length : Nat) : Int) + ((b.length - 1 : Nat) : Int) - 1 = (a.length : Int) - 1 := by omega
    rw [e2] at k1
    rw [k1]
    simp only [Option.bind_some]
    rw [rd_pad_fun la, rd_pad_fun lb] at k2 k3
    congr 2
    · refine vec_ext fun j hj => ?_
      rw [k3 j hj, rd_padl _ hj, quo_rd]
      split
      · rfl
      · rw [rd_vrep _ hj, dquo_ge _ _ _ (by omega)]
    · refine vec_ext fun j hj => ?_
      rw [k2 j hj, rd_padl _ hj, rem_rd a h0]
end Go.Proofs.Ytebfhlnfmkhmcaa
/- Sums, in the reference. -/
namespace Go.Proofs.Ytebfhlnfmkhmcaa
open Go.Abs

theorem add_is {p k : Int} {a b : V64} (hp : 0 < p ∧ p ≤ 256) (ha : V64.Ent a) (hb : V64.Ent b) (hk : -1099511627776 ≤ k ∧ k ≤ 1099511627776) :
    ∃ v, spec_l01Add p a b k = some v ∧ ∀ j, j < 64 → rd v.1 j = (rd a.1 j + k * rd b.1 j) % p := by
  obtain ⟨s, h1, h2⟩ := loopM_for (body := fun s : Int × V64 => spec_l01Add_l1 k b p s.1 s.2) (fun i s => ((i : Int), s)) (fun s => s) 64
    (fun i s => ∀ j, j < 64 → rd s.1 j = if j < i then (rd a.1 j + k * rd b.1 j) % p else rd a.1 j) (fun i s hi hI => by
      have hs := hI i hi
      rw [if_neg (by omega)] at hs
      have h1 := ha i hi
      have h0 := hb i hi
      have h2 := mulk (hb i hi) hk
      have h3 := Int.lt_tmod_of_pos (rd a.1 i + k * rd b.1 i) hp.1
      have h4 := Int.tmod_lt_of_pos (rd a.1 i + k * rd b.1 i) hp.1
      have h5 := emod_res hp.1 (rd a.1 i + k * rd b.1 i)
      refine ⟨vset s i ((rd a.1 i + k * rd b.1 i) % p), ?_, fun j hj => ?_⟩
      · simp only [spec_l01Add_l1, letp, Int.toNat_natCast, hs]
        rw [if_pos (by simp; omega), ifp_pos (by omega), ifp_pos (by omega), ifp_pos (by omega), ifp_pos (by omega), ifp_pos (by omega)]
        rw [wrap64 (n := rd b.1 i) (by omega) (by omega), wrap64 (n := rd a.1 i) (by omega) (by omega), wrap64 (n := k * rd b.1 i) (by omega) (by omega), wrap64 (n := rd a.1 i + k * rd b.1 i) (by omega) (by omega), wrap64 (n := _ + p) (by omega) (by omega), tmod_fix hp.1, wrap8 (by omega) (by omega), wrap64 (by omega) (by omega)]
        rfl
      · rw [rd_vset _ _ _ _ hi, hI j hj]
        by_cases h : j = i
        · subst h; simp
        · rw [if_neg h]
          simp only [show (j < i + 1) = (j < i) from by rw [eq_iff_iff]; omega]) (fun s hI => by
      simp only [spec_l01Add_l1, letp]
      rw [if_neg (by simp)]) 64 0 a (by omega) (fun j hj => by rw [if_neg (by omega)])
  refine ⟨s, ?_, fun j hj => by rw [h2 j hj, if_pos hj]⟩
  have h1' : loopM (fun s : Int × V64 => spec_l01Add_l1 k b p s.1 s.2) (0, a) = some s := h1
  simp only [spec_l01Add, h1', Option.bind_some]

theorem add_pad {p k : Int} {a b : List Int} (hp : 0 < p ∧ p ≤ 256) (ha : Row p a) (hb : Row p b) (la : a.length ≤ 64) (lb : b.length ≤ 64) (hk : -1099511627776 ≤ k ∧ k ≤ 1099511627776) :
    spec_l01Add p (pad a) (pad b) k = some (pad (comb p a b k)) := by
  obtain ⟨v, h1, h2⟩ := add_is hp (ent_pad ha hp) (ent_pad hb hp) hk
  rw [h1]
  congr 1
  exact vec_ext fun j hj => by rw [h2 j hj, rd_padl _ hj, rd_padl _ hj, rd_padl _ hj, comb_rd]
end Go.Proofs.Ytebfhlnfmkhmcaa
/- Sums with multiples, quotients, in the reference. -/
namespace Go.Proofs.Ytebfhlnfmkhmcaa
open Go.Abs

variable {P : Pri}
theorem divS {a b : PP P} (hb : b ≠ 0) (la : a.len ≤ 64) (lb : b.len ≤ 64) : spec_l01Divide P.p (pad a.1) (pad b.1) = some (pad (pquo a b).1, pad (prem a b).1) := divideS_is P.okp a.2 b.2 (ne_len hb) la lb
theorem degS (a : PP P) (la : a.len ≤ 64) : spec_l01Deg (pad a.1) = some ((a.len : Int) - 1) := by
  rw [deg_is, rd_pad_fun la, a.2.top la]; rfl
theorem comb_nsm (x a : PP P) (k : Nat) : comb P.p x.1 a.1 k = (x + nsm k a).1 := by
  refine row_ext (comb_row P.pos _ _ _) (x + nsm k a).2 fun i => ?_
  have h : (x + nsm k a).c i = (x.c i + (nsm k a).c i) % P.p := add_c _ _ _
  rw [comb_rd]
  show _ = (x + nsm k a).c i
  rw [h, nsm_c, Int.add_emod_emod]; rfl
theorem len_nsm (k : Nat) (a : PP P) : (nsm k a).len ≤ a.len := by
  induction k with
  | zero => show 0 ≤ _; omega
  | succ k ih =>
    have := len_add (nsm k a) a
    simp only [nsm]; omega
end Go.Proofs.Ytebfhlnfmkhmcaa
/- Monic polynomials. -/
namespace Go.Proofs.Ytebfhlnfmkhmcaa
open Go.Abs

variable {P : Pri}
def Mo (a : PP P) : Prop := lead a.1 = 1
theorem Mo.ne {a : PP P} (h : Mo a) : a ≠ 0 := fun e => by
  subst e
  have : lead ([] : List Int) = 1 := h
  simp [lead, rd] at this
theorem lead_c (a : PP P) : lead a.1 = a.c (a.len - 1) := rfl
/-- A polynomial made monic. -/
def mon (a : PP P) : PP P := nsm (inv P.p (lead a.1)).toNat a
theorem mon_eq {a : PP P} (ha : a ≠ 0) : ∃ u v : PP P, mon a = u * a ∧ a = v * mon a ∧ (mon a).len = a.len ∧ Mo (mon a) := by
  have hl := lead_pos P.pos a.2 (ne_len ha)
  have hi := inv_is P.okp hl
  obtain ⟨k, hk⟩ : ∃ k : Nat, inv P.p (lead a.1) = k := ⟨(inv P.p (lead a.1)).toNat, by omega⟩
  have e1 : mon a = nsm k a := by unfold mon; rw [hk, Int.toNat_natCast]
  have e2 : mon a = nsm k 1 * a := by rw [e1, ppring.mul_comm, ppring.mul_nsm, ppring.mul_one]
  have hc : (mon a).c (a.len - 1) = 1 := by
    rw [e1, nsm_c, ← lead_c, ← hk, Int.mul_comm, hi.2.2]
  have hle : (mon a).len ≤ a.len := by rw [e1]; exact len_nsm k a
  have hpos := len_pos ha
  have hge : a.len - 1 < (mon a).len := by
    rcases Nat.lt_or_ge (a.len - 1) (mon a).len with h | h
    · exact h
    · have h0 : (mon a).c (a.len - 1) = 0 := rd_ge h
      rw [h0] at hc; omega
  have hlen : (mon a).len = a.len := by omega
  have hmo : Mo (mon a) := by
    unfold Mo
    rw [lead_c, hlen, hc]
  obtain ⟨l, hll⟩ : ∃ l : Nat, lead a.1 = l := ⟨(lead a.1).toNat, by omega⟩
  refine ⟨nsm k 1, nsm l 1, e2, ?_, hlen, hmo⟩
  have e3 : nsm l 1 * mon a = nsm l (mon a) := by rw [ppring.mul_comm, ppring.mul_nsm, ppring.mul_one]
  rw [e3, e1]
  refine pp_ext fun i => ?_
  have hki : (l : Int) * k % P.p = 1 := by rw [← hll, ← hk]; exact hi.2.2
  rw [nsm_c, nsm_c, Int.mul_emod, Int.emod_emod, ← Int.mul_emod, ← Int.mul_assoc, Int.mul_emod, hki, Int.one_mul, Int.emod_emod, a.c_mod]
theorem mon_len {a : PP P} (ha : a ≠ 0) : (mon a).len = a.len := by obtain ⟨u, v, _, _, h, _⟩ := mon_eq ha; exact h
theorem mon_mo {a : PP P} (ha : a ≠ 0) : Mo (mon a) := by obtain ⟨u, v, _, _, _, h⟩ := mon_eq ha; exact h
theorem mon_dv {a : PP P} (ha : a ≠ 0) : Dv a (mon a) ∧ Dv (mon a) a := by obtain ⟨u, v, h1, h2, _, _⟩ := mon_eq ha; exact ⟨⟨u, h1⟩, ⟨v, h2⟩⟩
/-- Monic polynomials that divide each other are the same. -/
theorem mo_eq {a b : PP P} (ha : Mo a) (hb : Mo b) (h1 : Dv a b) (hl : a.len = b.len) : a = b := by
  obtain ⟨q, e⟩ := h1
  have hq : q ≠ 0 := fun h => hb.ne (by rw [e, h, ppring.zero_mul])
  have h2 := len_mul hq ha.ne
  rw [← e] at h2
  have h3 := len_pos hq
  have h4 := len_pos ha.ne
  have hq1 : q.len = 1 := by omega
  have e2 : b.c (b.len - 1) = q.c 0 * a.c (a.len - 1) % P.p := by
    rw [e, mul_c]
    have e3 : (q * a).len - 1 = 0 + (a.len - 1) := by rw [← e]; omega
    rw [e3, conv_lead (a := q.c) (b := a.c) (n := 0) (m := a.len - 1)]
    · intro i hi; exact rd_ge (by have : q.1.length = 1 := hq1; omega)
    · intro i hi; exact rd_ge (by show a.len ≤ i; omega)
  rw [← lead_c, ← lead_c, show lead a.1 = 1 from ha, show lead b.1 = 1 from hb, Int.mul_one, q.c_mod] at e2
  have e4 : q = 1 := pp_ext fun i => by
    rw [one_c]
    by_cases hi : i = 0
    · subst hi; rw [if_pos rfl, ← e2]
    · rw [if_neg hi]; exact rd_ge (by have : q.1.length = 1 := hq1; omega)
  rw [e, e4, ppring.one_mul]
end Go.Proofs.Ytebfhlnfmkhmcaa
/- Forms over polynomials: reduced forms of one class are equal. -/
namespace Go.Proofs.Ytebfhlnfmkhmcaa
open Go.Abs
variable {P : Pri}
structure Dsc (D : PP P) (G : Nat) : Prop where
  len : D.len = 2 * G + 2
  sqf : ∀ π : PP P, Irr π → ¬ Dv (π * π) D
  odd : P.n ≠ 2
structure Fm (D a b : PP P) : Prop where
  mo : Mo a
  len : b.len < a.len
  dv : ∃ c, b * b + -D = a * c
theorem two_ne (h : P.n ≠ 2) : (1 + 1 : PP P) ≠ 0 := fun e => by
  have h1 : (1 + 1 : PP P).c 0 = 0 := by rw [e]; exact zero_c 0
  rw [add_c, one_c, if_pos rfl] at h1
  have hp := P.is
  have e2 : P.p = (P.n : Int) := rfl
  rw [e2] at h1
  rcases hp with h2 | h2 | h2 | h2 <;> rw [h2] at h1 <;> first | exact h h2 | exact absurd h1 (by decide)
theorem dv_half (h : P.n ≠ 2) {π y : PP P} (hπ : Irr π) (hd : Dv π (y + y)) : Dv π y := by
  have e : y + y = (1 + 1) * y := by rw [ppring.add_mul, ppring.one_mul]
  rw [e] at hd
  rcases hπ.prime hd with h1 | h1
  · have h2 := dv_len h1 (two_ne h)
    have h3 := len_add (1 : PP P) 1
    rw [len_one] at h3
    have := hπ.1
    omega
  · exact h1
theorem len_addl' {a b : PP P} (h : b.len < a.len) : (a + b).len = a.len := by
  have h1 := len_add a b
  have h2 := len_add (a + b) (-b)
  have h3 := len_neg b
  rw [ppring.add_assoc, ppring.add_neg, ppring.add_zero] at h2
  omega
theorem len_neg' (a : PP P) : (-a).len = a.len := by
  have h1 := len_neg a
  have h2 := len_neg (-a)
  rw [ppring.neg_neg] at h2
  omega
theorem len_sub' {a b : PP P} (h : a.len ≠ b.len) : (a + -b).len = max a.len b.len := by
  have h1 := len_neg' b
  rcases Nat.lt_or_gt_of_ne h with h2 | h2
  · rw [ppring.add_comm, len_addl' (by omega)]; omega
  · rw [len_addl' (by omega)]; omega
/-- No irreducible polynomial divides all of what a composition shares. -/
theorem cop {D : PP P} {G : Nat} (hD : Dsc D G) {d p g b c m : PP P} (n : PP P) (hd : d ≠ 0) (hZ : b + c = d * g) (h1 : b * b + -D = d * p * m) : ∃ e f h k : PP P, e * d + f * (c + -b) + h * m + k * n = 1 := by
  obtain ⟨g1, u1, v1, e1, d1, d1'⟩ := bezout _ d (c + -b) (Nat.le_refl _)
  obtain ⟨g2, u2, v2, e2, d2, d2'⟩ := bezout _ g1 m (Nat.le_refl _)
  obtain ⟨g3, u3, v3, e3, d3, d3'⟩ := bezout _ g2 n (Nat.le_refl _)
  have R : IsRing (PP P) := ppring
  have k1 : Dv g3 d := R.dv_trans (R.dv_trans d3 d2) d1
  have k2 : Dv g3 (c + -b) := R.dv_trans (R.dv_trans d3 d2) d1'
  have k3 : Dv g3 m := R.dv_trans d3 d2'
  have hg0 : g3 ≠ 0 := fun e => hd (by
    obtain ⟨q, hq⟩ := k1
    rw [hq, e, R.mul_zero])
  have hp := len_pos hg0
  by_cases hl : g3.len = 1
  · obtain ⟨w, hw⟩ := unit_of hl
    refine ⟨w * (u3 * (u2 * u1)), w * (u3 * (u2 * v1)), w * (u3 * v2), w * v3, ?_⟩
    rw [← hw, e3, e2, e1]
    exact (cop_id R w u3 v3 u2 v2 u1 v1 d (c + -b) m n).symm
  · obtain ⟨π, hπ, hdv⟩ := exists_irr _ g3 (Nat.le_refl _) (by omega)
    have q1 := R.dv_trans hdv k1
    have q2 := R.dv_trans hdv k2
    have q3 := R.dv_trans hdv k3
    have q4 : Dv π (b + c) := by rw [hZ]; exact R.dv_mul' q1 g
    have q5 : Dv π (b + b) := by
      rw [← two_b R b c]
      exact R.dv_add q4 (R.dv_neg q2)
    obtain ⟨y, hy⟩ := dv_half hD.odd hπ q5
    obtain ⟨z, hz⟩ := q1
    obtain ⟨w, hw⟩ := q3
    refine absurd ?_ (hD.sqf π hπ)
    rw [D_of R h1, hy, hz, hw]
    exact ⟨_, (sqf_id' R π y z w p)⟩
/-- Norms. -/
theorem nm_len {D : PP P} {G : Nat} (hD : Dsc D G) {x : Qd D} (hv : x.v ≠ 0) : D.len ≤ (nm x).len := by
  have hDn : D ≠ 0 := fun e => by have := hD.len; rw [len_zero.2 e] at this; omega
  have hvv : x.v * x.v ≠ 0 := fun e => by rcases pp_dom _ _ e with h | h <;> exact hv h
  have l1 := len_mul hv hv
  have l2 := len_mul hDn hvv
  have l3 := len_pos hv
  have hl := hD.len
  have l4 : (x.u * x.u).len = 0 ∨ (x.u * x.u).len % 2 = 1 := by
    by_cases hu : x.u = 0
    · left; rw [hu, ppring.mul_zero]; rfl
    · right
      have := len_mul hu hu
      have := len_pos hu
      omega
  unfold nm
  rw [len_sub' (by omega)]
  omega
theorem nm_ne {D : PP P} {G : Nat} (hD : Dsc D G) {x : Qd D} (h : nm x = 0) : x = 0 := by
  by_cases hv : x.v = 0
  · have h1 : x.u * x.u = 0 := by
      unfold nm at h
      rwa [hv, ppring.mul_zero, ppring.mul_zero, ppring.neg_zero, ppring.add_zero] at h
    have h2 : x.u = 0 := by rcases pp_dom _ _ h1 with h | h <;> exact h
    exact qd_ext h2 hv
  · have h1 := nm_len hD hv
    rw [h, len_zero.2 rfl] at h1
    have := hD.len
    omega
theorem qd_dom {D : PP P} {G : Nat} (hD : Dsc D G) (x y : Qd D) (h : x * y = 0) : x = 0 ∨ y = 0 := by
  have h1 : nm x * nm y = 0 := by
    rw [← nm_prod ppring, h]
    show (0 : PP P) * 0 + -(D * (0 * 0)) = 0
    rw [ppring.mul_zero, ppring.mul_zero, ppring.neg_zero, ppring.add_zero]
  rcases pp_dom _ _ h1 with h2 | h2
  · exact .inl (nm_ne hD h2)
  · exact .inr (nm_ne hD h2)
theorem kk_ne {D a : PP P} (ha : a ≠ 0) : (⟨a, 0⟩ : Qd D) ≠ 0 := fun e => ha (congrArg Qd.u e)
theorem kk_mul {D : PP P} (a b : PP P) : (⟨a, 0⟩ : Qd D) * ⟨b, 0⟩ = ⟨a * b, 0⟩ := qd_ext (lin_u ppring D a b 0) (by show a * 0 + 0 * b = 0; rw [ppring.mul_zero, ppring.zero_mul, ppring.add_zero])
/-- A form times its opposite. -/
theorem opp_is {D : PP P} {G : Nat} (hD : Dsc D G) {a b c : PP P} (ha : a ≠ 0) (h : b * b + -D = a * c) : Pr (FI D a b) (FI D a (-b)) = Sc (⟨a, 0⟩ : Qd D) fun _ => True := by
  have R : IsRing (PP P) := ppring
  have h1 : b * b + -D = a * 1 * c := by rw [R.mul_one]; exact h
  have h2 : -b * -b + -D = a * 1 * c := by rw [R.mul_one, R.mul_neg, neg_mul' R, R.neg_neg]; exact h
  have hZ : b + -b = a * 0 := by rw [R.add_neg, R.mul_zero]
  obtain ⟨e, f, h', k, hG⟩ := cop hD (p := 1) c ha hZ h1
  have hc := comp_is R (D := D) (d := a) (p := 1) (q := 1) (g := 0) (b := b) (c := -b) (m := c) (n := c) (r := 1) (s := 0) (t := 0) hZ h1 h2 (by rw [R.mul_one, R.zero_mul, R.zero_mul, R.add_zero, R.add_zero]) (by rw [R.zero_mul, R.one_mul, R.add_neg]) hG
  rw [R.mul_one] at hc
  rw [hc, R.mul_one, fi_all R]
end Go.Proofs.Ytebfhlnfmkhmcaa
/- Reduced forms of one class are the same. -/
namespace Go.Proofs.Ytebfhlnfmkhmcaa
open Go.Abs
variable {P : Pri}
theorem sc_all_mem {K : Type} [Add K] [Mul K] [Neg K] [Zero K] [One K] (R : IsRing K) (a : K) : Sc a (fun _ => True) a := ⟨1, trivial, (R.mul_one a).symm⟩
theorem idl_all {K : Type} [Add K] [Mul K] [Neg K] [Zero K] [One K] : Idl (fun _ : K => True) := ⟨trivial, fun _ _ => trivial, fun _ _ _ => trivial⟩
theorem qd_one_ne {D : PP P} : (1 : Qd D) ≠ 0 := fun e => one_ne (congrArg Qd.u e)
theorem fi_a {D : PP P} (a b : PP P) : FI D a b ⟨a, 0⟩ := ⟨1, by rw [ppring.mul_zero, ppring.zero_add, ppring.mul_one]⟩
theorem fi_b {D : PP P} (a b : PP P) : FI D a b ⟨b, 1⟩ := ⟨0, by rw [ppring.mul_one, ppring.mul_zero, ppring.add_zero]⟩
theorem Fm.idl {D a b : PP P} (h : Fm D a b) : Idl (FI D a b) := by
  obtain ⟨c, hc⟩ := h.dv
  exact fi_idl ppring hc
theorem Fm.opp {D : PP P} {G : Nat} (hD : Dsc D G) {a b : PP P} (h : Fm D a b) : Pr (FI D a b) (FI D a (-b)) = Sc (⟨a, 0⟩ : Qd D) fun _ => True := by
  obtain ⟨c, hc⟩ := h.dv
  exact opp_is hD h.mo.ne hc
theorem pp_cancel {a b c : PP P} (ha : a ≠ 0) (h : a * b = a * c) : b = c := by
  have : a * (b + -c) = 0 := by rw [ppring.mul_add, ppring.mul_neg, h, ppring.add_neg]
  exact ppring.sub_zero ((pp_dom _ _ this).resolve_left ha)
theorem fm_eq {D a b a' b' : PP P} (h : Fm D a b) (h' : Fm D a' b') (e : FI D a b = FI D a' b') : a = a' ∧ b = b' := by
  have R : IsRing (PP P) := ppring
  have h1 : FI D a' b' ⟨a, 0⟩ := by rw [← e]; exact fi_a a b
  have h2 : FI D a b ⟨a', 0⟩ := by rw [e]; exact fi_a a' b'
  have h3 : FI D a' b' ⟨b, 1⟩ := by rw [← e]; exact fi_b a b
  obtain ⟨x, hx⟩ := h1
  obtain ⟨y, hy⟩ := h2
  obtain ⟨z, hz⟩ := h3
  have hx' : a = a' * x := by rw [R.mul_zero, R.zero_add] at hx; exact hx
  have hy' : a' = a * y := by rw [R.mul_zero, R.zero_add] at hy; exact hy
  have d1 : Dv a' a := ⟨x, by rw [R.mul_comm]; exact hx'⟩
  have d2 : Dv a a' := ⟨y, by rw [R.mul_comm]; exact hy'⟩
  have l1 := dv_len d1 h.mo.ne
  have l2 := dv_len d2 h'.mo.ne
  have ea : a = a' := mo_eq h.mo h'.mo d2 (by omega)
  refine ⟨ea, ?_⟩
  have hz' : b + -b' = z * a' := by
    have hz2 : b = b' + a' * z := by
      have : b = b' * 1 + a' * z := hz
      rw [R.mul_one] at this; exact this
    rw [hz2, R.add_comm b', R.add_assoc, R.add_neg, R.add_zero, R.mul_comm]
  have hl := h.len
  have hl' := h'.len
  have k1 := len_add b (-b')
  have k2 := len_neg b'
  have hs : b + -b' = 0 := dv_small (a := a') ⟨z, hz'⟩ (by rw [ea] at hl; omega)
  exact R.sub_zero hs
theorem uniq {D : PP P} {G : Nat} (hD : Dsc D G) {a b a' b' : PP P} (h : Fm D a b) (h' : Fm D a' b') (l : a.len ≤ G + 1) (l' : a'.len ≤ G + 1) (hc : Cl (FI D a b) (FI D a' b')) : a = a' ∧ b = b' := by
  have R : IsRing (PP P) := ppring
  have Q : IsRing (Qd D) := qdring R
  have hd : ∀ x y : Qd D, x * y = 0 → x = 0 ∨ y = 0 := qd_dom hD
  obtain ⟨α, β, hα, hβ, e⟩ := hc
  have ha0 := h.mo.ne
  have ha0' := h'.mo.ne
  have hO := h.opp hD
  have hO' := h'.opp hD
  have e1 : Sc α (Pr (FI D a b) (FI D a' (-b'))) = Sc (β * ⟨a', 0⟩) fun _ => True := by
    rw [← sc_pr Q, e, sc_pr Q, hO', sc_sc Q]
  obtain ⟨γ, hγ, hγe⟩ : Sc α (Pr (FI D a b) (FI D a' (-b'))) (β * ⟨a', 0⟩) := by rw [e1]; exact sc_all_mem Q _
  have e2 : Pr (FI D a b) (FI D a' (-b')) = Sc γ fun _ => True := by
    refine sc_cancel Q hd hα ?_
    rw [e1, sc_sc Q, hγe]
  have e3 : Pr (FI D a (-b)) (FI D a' b') = Sc (cj γ) fun _ => True := by
    have k1 := cj_pr R (FI D a b) (FI D a' (-b'))
    rw [cj_fi R, cj_fi R, R.neg_neg, e2, cj_sc R] at k1
    exact k1.symm
  have e4 : Sc (⟨a * a', 0⟩ : Qd D) (fun _ => True) = Sc (⟨nm γ, 0⟩ : Qd D) fun _ => True := by
    have k1 : Pr (Pr (FI D a b) (FI D a' (-b'))) (Pr (FI D a (-b)) (FI D a' b')) = Pr (Pr (FI D a b) (FI D a (-b))) (Pr (FI D a' b') (FI D a' (-b'))) := by
      rw [pr_assoc Q, ← pr_assoc Q (FI D a' (-b')), pr_comm Q (FI D a' (-b')) (FI D a (-b)), pr_assoc Q (FI D a (-b)), ← pr_assoc Q (FI D a b), pr_comm Q (FI D a' (-b')) (FI D a' b')]
    rw [e2, e3, hO, hO', sc_pr Q, pr_comm Q (fun _ => True), sc_pr Q, pr_all Q idl_all, sc_sc Q, nm_cj R, sc_pr Q, pr_comm Q (fun _ => True), sc_pr Q, pr_all Q idl_all, sc_sc Q, kk_mul] at k1
    exact k1.symm
  have haa : a * a' ≠ 0 := fun e => by rcases pp_dom _ _ e with h1 | h1 <;> contradiction
  obtain ⟨z, _, hz⟩ : Sc (⟨nm γ, 0⟩ : Qd D) (fun _ => True) (⟨a * a', 0⟩ : Qd D) := by rw [← e4]; exact sc_all_mem Q _
  have hz1 : a * a' = nm γ * z.u := by
    have := congrArg Qd.u hz
    rw [mul_u] at this
    rw [← lin_u R D (nm γ) z.u z.v]; exact this
  have hlen := dv_len (a := nm γ) ⟨z.u, hz1.trans (R.mul_comm _ _)⟩ haa
  have hlm := len_mul ha0 ha0'
  have hv : γ.v = 0 := Classical.byContradiction fun hv => by
    have := nm_len hD hv
    have := hD.len
    omega
  obtain ⟨g, hg⟩ : ∃ g : PP P, γ = ⟨g, 0⟩ := ⟨γ.u, qd_ext rfl hv⟩
  rw [hg] at e2
  have e5 : Sc (⟨a', 0⟩ : Qd D) (FI D a b) = Sc (⟨g, 0⟩ : Qd D) (FI D a' b') := by
    have k1 : Pr (Pr (FI D a b) (FI D a' (-b'))) (FI D a' b') = Pr (FI D a b) (Pr (FI D a' b') (FI D a' (-b'))) := by
      rw [pr_assoc Q, pr_comm Q (FI D a' (-b'))]
    rw [e2, hO', sc_pr Q, pr_comm Q (fun _ => True), pr_all Q h'.idl, pr_comm Q (FI D a b), sc_pr Q, pr_comm Q (fun _ => True), pr_all Q h.idl] at k1
    exact k1.symm
  have hg0 : g ≠ 0 := fun hg0 => by
    obtain ⟨x, _, hx⟩ : Sc (⟨g, 0⟩ : Qd D) (FI D a' b') ((⟨a', 0⟩ : Qd D) * ⟨a, 0⟩) := by rw [← e5]; exact ⟨_, fi_a a b, rfl⟩
    rw [hg0] at hx
    have hz0 : (⟨0, 0⟩ : Qd D) * x = 0 := Q.zero_mul x
    rw [hz0, kk_mul] at hx
    exact haa (by rw [R.mul_comm]; exact congrArg Qd.u hx)
  have sv : ∀ (k : PP P) (x : Qd D), ((⟨k, 0⟩ : Qd D) * x).v = k * x.v := fun k x => lin_v R k x.u x.v
  obtain ⟨k, hk⟩ : ∃ k, a' = g * k := by
    obtain ⟨x, _, hx⟩ : Sc (⟨g, 0⟩ : Qd D) (FI D a' b') ((⟨a', 0⟩ : Qd D) * ⟨b, 1⟩) := by rw [← e5]; exact ⟨_, fi_b a b, rfl⟩
    have := congrArg Qd.v hx
    rw [sv, sv] at this
    exact ⟨x.v, by rw [← this]; exact (R.mul_one _).symm⟩
  obtain ⟨l, hl⟩ : ∃ l, g = a' * l := by
    obtain ⟨x, _, hx⟩ : Sc (⟨a', 0⟩ : Qd D) (FI D a b) ((⟨g, 0⟩ : Qd D) * ⟨b', 1⟩) := by rw [e5]; exact ⟨_, fi_b a' b', rfl⟩
    have := congrArg Qd.v hx
    rw [sv, sv] at this
    exact ⟨x.v, by rw [← this]; exact (R.mul_one _).symm⟩
  have hlk : l * k = 1 := pp_cancel ha0' (by rw [← R.mul_assoc, ← hl, R.mul_one]; exact hk.symm)
  have e6 : FI D a b = Sc (⟨l, 0⟩ : Qd D) (FI D a' b') := by
    refine sc_cancel Q hd (kk_ne ha0') ?_
    rw [e5, sc_sc Q, kk_mul, ← hl]
  refine fm_eq h h' (e6.trans (sub_ext (fun x hx => ?_) (fun x hx => ?_)))
  · obtain ⟨y, hy, rfl⟩ := hx
    exact h'.idl.mul _ hy
  · refine ⟨_, h'.idl.mul ⟨k, 0⟩ hx, ?_⟩
    rw [← Q.mul_assoc, kk_mul, hlk]
    exact (Q.one_mul x).symm
end Go.Proofs.Ytebfhlnfmkhmcaa
/- Finite commutative groups. -/
namespace Go.Abs
structure AbG (X : Type) where
  op : X → X → X
  e : X
  comm : ∀ a b, op a b = op b a
  assoc : ∀ a b c, op (op a b) c = op a (op b c)
  one : ∀ a, op e a = a
  inv : ∀ a, ∃ b, op b a = e
theorem perm_of {X : Type} : ∀ (l m : List X), l.Nodup → (∀ x ∈ l, x ∈ m) → m.length ≤ l.length → List.Perm l m
  | [], m, _, _, h => by rw [List.eq_nil_of_length_eq_zero (Nat.le_zero.1 h)]
  | x :: l, m, hn, hs, h => by
    obtain ⟨s, t, rfl⟩ := List.append_of_mem (hs x (List.mem_cons_self ..))
    have hn' := List.nodup_cons.1 hn
    have ih := perm_of l (s ++ t) hn'.2 (fun y hy => by
      have h1 := hs y (List.mem_cons_of_mem _ hy)
      rcases List.mem_append.1 h1 with h2 | h2
      · exact List.mem_append.2 (.inl h2)
      · rcases List.mem_cons.1 h2 with h3 | h3
        · exact absurd (h3 ▸ hy) hn'.1
        · exact List.mem_append.2 (.inr h3)) (by simp only [List.length_append, List.length_cons] at h ⊢; omega)
    exact (ih.cons x).trans List.perm_middle.symm
namespace AbG
variable {X : Type} (G : AbG X)
def pw (f : X) : Nat → X
  | 0 => G.e
  | n + 1 => G.op (pw f n) f
theorem one' (a : X) : G.op a G.e = a := by rw [G.comm, G.one]
theorem cancel {f a b : X} (h : G.op f a = G.op f b) : a = b := by
  obtain ⟨g, hg⟩ := G.inv f
  rw [← G.one a, ← G.one b, ← hg, G.assoc, G.assoc, h]
theorem pw_one (f : X) : G.pw f 1 = f := G.one f
theorem pw_add (f : X) (m : Nat) : ∀ n, G.pw f (m + n) = G.op (G.pw f m) (G.pw f n)
  | 0 => (G.one' _).symm
  | n + 1 => by
    show G.op (G.pw f (m + n)) f = G.op (G.pw f m) (G.op (G.pw f n) f)
    rw [pw_add f m n, G.assoc]
theorem pw_mul (f : X) (m : Nat) : ∀ n, G.pw f (m * n) = G.pw (G.pw f m) n
  | 0 => rfl
  | n + 1 => by
    rw [Nat.mul_succ, pw_add, pw_mul f m n]
    rfl
theorem pw_e : ∀ n, G.pw G.e n = G.e
  | 0 => rfl
  | n + 1 => by
    show G.op (G.pw G.e n) G.e = _
    rw [G.one', pw_e n]
theorem swap4 (a b c d : X) : G.op (G.op a b) (G.op c d) = G.op (G.op a c) (G.op b d) := by
  rw [G.assoc, G.assoc, ← G.assoc b, G.comm b c, G.assoc c]
/-- The product of all. -/
def all : List X → X
  | [] => G.e
  | x :: l => G.op x (all l)
theorem all_perm {l m : List X} (h : List.Perm l m) : G.all l = G.all m := by
  induction h with
  | nil => rfl
  | cons x _ ih => simp only [all, ih]
  | swap x y l => simp only [all]; rw [← G.assoc, ← G.assoc, G.comm y x]
  | trans _ _ h1 h2 => exact h1.trans h2
theorem all_map (f : X) : ∀ l, G.all (l.map (G.op f)) = G.op (G.pw f l.length) (G.all l)
  | [] => (G.one _).symm
  | x :: l => by
    simp only [List.map_cons, all, List.length_cons, pw, all_map f l]
    rw [G.swap4, G.comm f]
theorem pw_card {L : List X} (hn : L.Nodup) (hL : ∀ x, x ∈ L) (f : X) : G.pw f L.length = G.e := by
  have h1 : List.Perm (L.map (G.op f)) L := by
    refine perm_of _ _ ?_ (fun x _ => hL x) (by rw [List.length_map]; exact Nat.le_refl _)
    unfold List.Nodup
    rw [List.pairwise_map]
    exact List.Pairwise.imp (fun h e => h (G.cancel e)) hn
  have h2 := G.all_perm h1
  rw [all_map] at h2
  refine G.cancel (f := G.all L) ?_
  rw [G.one', G.comm]
  exact h2
theorem least (p : Nat → Prop) : ∀ n, (∃ k, 1 ≤ k ∧ k ≤ n ∧ p k) → ∃ k, 1 ≤ k ∧ k ≤ n ∧ p k ∧ ∀ j, 1 ≤ j → j < k → ¬ p j
  | 0, ⟨k, h1, h2, _⟩ => by omega
  | n + 1, ⟨k, h1, h2, h3⟩ => by
    by_cases h : ∃ k, 1 ≤ k ∧ k ≤ n ∧ p k
    · obtain ⟨k, a, b, c, d⟩ := least p n h
      exact ⟨k, a, by omega, c, d⟩
    · refine ⟨k, h1, h2, h3, fun j a b c => h ⟨j, a, by omega, c⟩⟩
/-- The order. -/
theorem order {L : List X} (hn : L.Nodup) (hL : ∀ x, x ∈ L) (f : X) : ∃ k, 1 ≤ k ∧ k ≤ L.length ∧ G.pw f k = G.e ∧ (∀ j, 1 ≤ j → j < k → G.pw f j ≠ G.e) ∧ L.length % k = 0 := by
  have h0 : 1 ≤ L.length := by
    rcases Nat.eq_zero_or_pos L.length with h | h
    · have := hL f; rw [List.eq_nil_of_length_eq_zero h] at this; cases this
    · exact h
  obtain ⟨k, h1, h2, h3, h4⟩ := least (fun k => G.pw f k = G.e) L.length ⟨L.length, h0, Nat.le_refl _, G.pw_card hn hL f⟩
  refine ⟨k, h1, h2, h3, h4, ?_⟩
  have h5 := G.pw_card hn hL f
  rw [← Nat.div_add_mod L.length k, pw_add, pw_mul, h3, pw_e, G.one] at h5
  rcases Nat.eq_zero_or_pos (L.length % k) with h | h
  · exact h
  · exact absurd h5 (h4 _ h (Nat.mod_lt _ (by omega)))
end AbG
end Go.Abs
/- Identities for reduction and composition. -/
namespace Go.Abs
section
variable {K : Type} [Add K] [Mul K] [Neg K] [Zero K] [One K]
theorem sh_id (R : IsRing K) (A B D q r : K) : r * r + -D = (q * A + r) * (q * A + r) + -D + -(A * (q * q * A + q * r + q * r)) := ring_eq R [A, B, D, q, r] (.add (.mul (.v 4) (.v 4)) (.neg (.v 2))) (.add (.add (.mul (.add (.mul (.v 3) (.v 0)) (.v 4)) (.add (.mul (.v 3) (.v 0)) (.v 4))) (.neg (.v 2))) (.neg (.mul (.v 0) (.add (.add (.mul (.mul (.v 3) (.v 3)) (.v 0)) (.mul (.v 3) (.v 4))) (.mul (.v 3) (.v 4)))))) rfl
theorem sh_id2 (R : IsRing K) (A C q r : K) : A * C + -(A * (q * q * A + q * r + q * r)) = A * (C + -(q * q * A + q * r + q * r)) := ring_eq R [A, C, q, r] (.add (.mul (.v 0) (.v 1)) (.neg (.mul (.v 0) (.add (.add (.mul (.mul (.v 2) (.v 2)) (.v 0)) (.mul (.v 2) (.v 3))) (.mul (.v 2) (.v 3)))))) (.mul (.v 0) (.add (.v 1) (.neg (.add (.add (.mul (.mul (.v 2) (.v 2)) (.v 0)) (.mul (.v 2) (.v 3))) (.mul (.v 2) (.v 3)))))) rfl
theorem opb_id (R : IsRing K) (D b : K) : -b * -b + -D = b * b + -D := ring_eq R [D, b] (.add (.mul (.neg (.v 1)) (.neg (.v 1))) (.neg (.v 0))) (.add (.mul (.v 1) (.v 1)) (.neg (.v 0))) rfl
theorem neg_sub_id (R : IsRing K) (D b : K) : b * b + -D = -(D + -(b * b)) := ring_eq R [D, b] (.add (.mul (.v 1) (.v 1)) (.neg (.v 0))) (.neg (.add (.v 0) (.neg (.mul (.v 1) (.v 1))))) rfl
theorem cF_id (R : IsRing K) (d g b c p q m n : K) : d * (g * (c + -b) + -(q * n + -(p * m))) = d * g * (c + -b) + -(d * q * n + -(d * p * m)) := ring_eq R [d, g, b, c, p, q, m, n] (.mul (.v 0) (.add (.mul (.v 1) (.add (.v 3) (.neg (.v 2)))) (.neg (.add (.mul (.v 5) (.v 7)) (.neg (.mul (.v 4) (.v 6))))))) (.add (.mul (.mul (.v 0) (.v 1)) (.add (.v 3) (.neg (.v 2)))) (.neg (.add (.mul (.mul (.v 0) (.v 5)) (.v 7)) (.neg (.mul (.mul (.v 0) (.v 4)) (.v 6)))))) rfl
theorem cF_id2 (R : IsRing K) (D b c : K) : (b + c) * (c + -b) + -(c * c + -D + -(b * b + -D)) = 0 := ring_eq R [D, b, c] (.add (.mul (.add (.v 1) (.v 2)) (.add (.v 2) (.neg (.v 1)))) (.neg (.add (.add (.mul (.v 2) (.v 2)) (.neg (.v 0))) (.neg (.add (.mul (.v 1) (.v 1)) (.neg (.v 0))))))) .z rfl
theorem cE_id (R : IsRing K) (d p q g r s t : K) : d * (r * p + s * q + t * g) = r * (d * p) + s * (d * q) + t * (d * g) := ring_eq R [d, p, q, g, r, s, t] (.mul (.v 0) (.add (.add (.mul (.v 4) (.v 1)) (.mul (.v 5) (.v 2))) (.mul (.v 6) (.v 3)))) (.add (.add (.mul (.v 4) (.mul (.v 0) (.v 1))) (.mul (.v 5) (.mul (.v 0) (.v 2)))) (.mul (.v 6) (.mul (.v 0) (.v 3)))) rfl
theorem top_id (R : IsRing K) (D d p q g b c r s t m : K) : r * (d * p) * c + s * (d * q) * b + t * (b * c + D) = d * (r * p * c + s * q * b + t * (b * g + -(p * m))) + t * (b * (b + c + -(d * g)) + -(b * b + -D + -(d * p * m))) := ring_eq R [D, d, p, q, g, b, c, r, s, t, m] (.add (.add (.mul (.mul (.v 7) (.mul (.v 1) (.v 2))) (.v 6)) (.mul (.mul (.v 8) (.mul (.v 1) (.v 3))) (.v 5))) (.mul (.v 9) (.add (.mul (.v 5) (.v 6)) (.v 0)))) (.add (.mul (.v 1) (.add (.add (.mul (.mul (.v 7) (.v 2)) (.v 6)) (.mul (.mul (.v 8) (.v 3)) (.v 5))) (.mul (.v 9) (.add (.mul (.v 5) (.v 4)) (.neg (.mul (.v 2) (.v 10))))))) (.mul (.v 9) (.add (.mul (.v 5) (.add (.add (.v 5) (.v 6)) (.neg (.mul (.v 1) (.v 4))))) (.neg (.add (.add (.mul (.v 5) (.v 5)) (.neg (.v 0))) (.neg (.mul (.mul (.v 1) (.v 2)) (.v 10)))))))) rfl
theorem y_u (R : IsRing K) (D B : K) : 0 * B + D * (1 * 1) = D := ring_eq R [D, B] (.add (.mul .z (.v 1)) (.mul (.v 0) (.mul .o .o))) (.v 0) rfl
theorem y_v (R : IsRing K) (B : K) : 0 * 1 + 1 * B = B := ring_eq R [B] (.add (.mul .z .o) (.mul .o (.v 0))) (.v 0) rfl
theorem yb_id (R : IsRing K) (D B A w : K) : B * B + -(B * B + A * w) = A * -w := ring_eq R [D, B, A, w] (.add (.mul (.v 1) (.v 1)) (.neg (.add (.mul (.v 1) (.v 1)) (.mul (.v 2) (.v 3))))) (.mul (.v 2) (.neg (.v 3))) rfl
theorem dd_id (R : IsRing K) (d p q : K) : d * p * (d * q) = d * d * (p * q) := ring_eq R [d, p, q] (.mul (.mul (.v 0) (.v 1)) (.mul (.v 0) (.v 2))) (.mul (.mul (.v 0) (.v 0)) (.mul (.v 1) (.v 2))) rfl
theorem bzm_id (R : IsRing K) (k u v a b : K) : k * (u * a + v * b) = k * u * a + k * v * b := ring_eq R [k, u, v, a, b] (.mul (.v 0) (.add (.mul (.v 1) (.v 3)) (.mul (.v 2) (.v 4)))) (.add (.mul (.mul (.v 0) (.v 1)) (.v 3)) (.mul (.mul (.v 0) (.v 2)) (.v 4))) rfl
theorem bz3_id (R : IsRing K) (w t u v a b s : K) : w * (u * a + v * b) + t * s = w * u * a + w * v * b + t * s := ring_eq R [w, t, u, v, a, b, s] (.add (.mul (.v 0) (.add (.mul (.v 2) (.v 4)) (.mul (.v 3) (.v 5)))) (.mul (.v 1) (.v 6))) (.add (.add (.mul (.mul (.v 0) (.v 2)) (.v 4)) (.mul (.mul (.v 0) (.v 3)) (.v 5))) (.mul (.v 1) (.v 6))) rfl
theorem bzu_id (R : IsRing K) (q s t x y A B : K) : (s + -(q * x)) * A + (t + -(q * y)) * B = s * A + t * B + -(q * (x * A + y * B)) := ring_eq R [q, s, t, x, y, A, B] (.add (.mul (.add (.v 1) (.neg (.mul (.v 0) (.v 3)))) (.v 5)) (.mul (.add (.v 2) (.neg (.mul (.v 0) (.v 4)))) (.v 6))) (.add (.add (.mul (.v 1) (.v 5)) (.mul (.v 2) (.v 6))) (.neg (.mul (.v 0) (.add (.mul (.v 3) (.v 5)) (.mul (.v 4) (.v 6)))))) rfl
end
end Go.Abs
/- Reduction and composition of forms, in classes; the group of reduced forms. -/
namespace Go.Proofs.Ytebfhlnfmkhmcaa
open Go.Abs
variable {P : Pri}
theorem lead_mul {a b : PP P} (ha : a ≠ 0) (hb : b ≠ 0) : lead (a * b).1 = lead a.1 * lead b.1 % P.p := by
  have h1 := len_mul ha hb
  have h2 := len_pos ha
  have h3 := len_pos hb
  rw [lead_c, lead_c, lead_c, mul_c, show (a * b).len - 1 = (a.len - 1) + (b.len - 1) by omega, conv_lead (a := a.c) (b := b.c) (n := a.len - 1) (m := b.len - 1)]
  · intro i hi; exact rd_ge (by show a.len ≤ i; omega)
  · intro i hi; exact rd_ge (by show b.len ≤ i; omega)
theorem mo_mul {a b : PP P} (ha : Mo a) (hb : Mo b) : Mo (a * b) := by
  unfold Mo
  have h1 : lead a.1 = 1 := ha
  have h2 : lead b.1 = 1 := hb
  rw [lead_mul ha.ne hb.ne, h1, h2, Int.one_mul]
  exact Int.emod_eq_of_lt (by omega) (by have := P.two; omega)
theorem mo_of_mul {a b : PP P} (ha : Mo a) (hb : b ≠ 0) (h : Mo (a * b)) : Mo b := by
  have h1 : lead a.1 = 1 := ha
  have h2 : lead (a * b).1 = 1 := h
  rw [lead_mul ha.ne hb, h1, Int.one_mul, lead_c, b.c_mod, ← lead_c] at h2
  exact h2
theorem fm_shift {D A B C q r : PP P} (h : B * B + -D = A * C) (e : B = q * A + r) : ∃ c, r * r + -D = A * c := by
  have R : IsRing (PP P) := ppring
  refine ⟨C + -(q * q * A + q * r + q * r), ?_⟩
  rw [sh_id R A B D q r, ← e, h, sh_id2 R]
theorem fi_rem {D A B : PP P} (hA : A ≠ 0) : FI D A (prem B A) = FI D A B := by
  have h := (pdiv B hA).1
  have : FI D A B = FI D A (prem B A + A * pquo B A) := by
    rw [ppring.add_comm, ppring.mul_comm A, ← h]
  rw [this, fi_mod ppring]
/-- A form with B made smaller. -/
theorem fm_rem {D A B C : PP P} (hA : Mo A) (h : B * B + -D = A * C) : Fm D A (prem B A) := ⟨hA, (pdiv B hA.ne).2, fm_shift h (pdiv B hA.ne).1⟩
theorem cl_of {D : PP P} {S T : Qd D → Prop} (h : S = T) : Cl S T := h ▸ Cl.refl qd_one_ne S
/-- One step of the reduction. -/
theorem red_step {D : PP P} {G : Nat} (hD : Dsc D G) {a b q : PP P} (h : Fm D a b) (hl : G + 1 < a.len) (hq : b * b + -D = a * q ∨ D + -(b * b) = a * q) :
    q ≠ 0 ∧ q.len < a.len ∧ Fm D (mon q) (prem (-b) (mon q)) ∧ Cl (FI D a b) (FI D (mon q) (prem (-b) (mon q))) := by
  have R : IsRing (PP P) := ppring
  obtain ⟨c, hc, e, he, hqe⟩ : ∃ c, b * b + -D = a * c ∧ ∃ e : PP P, e * e = 1 ∧ q = e * c := by
    rcases hq with h1 | h1
    · exact ⟨q, h1, 1, R.one_mul 1, (R.one_mul q).symm⟩
    · refine ⟨-q, by rw [neg_sub_id R, h1, R.mul_neg], -1, by rw [R.mul_neg, neg_mul' R, R.neg_neg, R.mul_one], by rw [R.mul_neg, neg_mul' R, R.neg_neg, R.one_mul]⟩
  have hlen : (b * b + -D).len = max (b * b).len D.len ∧ (b * b).len + 3 ≤ 2 * a.len := by
    have h1 := hD.len
    have h2 := h.len
    by_cases hb : b = 0
    · have e0 : (b * b).len = 0 := by rw [hb, R.mul_zero]; rfl
      exact ⟨len_sub' (by omega), by omega⟩
    · have h3 := len_mul hb hb
      have h4 := len_pos hb
      exact ⟨len_sub' (by omega), by omega⟩
  have hDl := hD.len
  have hc0 : c ≠ 0 := fun h0 => by
    have : (b * b + -D).len = 0 := by rw [hc, h0, R.mul_zero]; rfl
    omega
  have he0 : e ≠ 0 := fun h0 => by rw [h0, R.mul_zero] at he; exact one_ne he.symm
  have hel : e.len = 1 := by
    have h1 := len_mul he0 he0
    rw [he, len_one] at h1
    have := len_pos he0
    omega
  have hq0 : q ≠ 0 := fun h0 => by
    rw [hqe] at h0
    rcases pp_dom _ _ h0 with h1 | h1 <;> contradiction
  have hql : q.len = c.len := by
    rw [hqe, len_mul he0 hc0]
    omega
  have hac := len_mul h.mo.ne hc0
  rw [← hc] at hac
  obtain ⟨u, v, m1, m2, m3, m4⟩ := mon_eq hq0
  have huv : u * v = 1 := by
    have : q * (u * v) = q * 1 := by
      rw [R.mul_one, ← R.mul_assoc, R.mul_comm q u, ← m1, R.mul_comm, ← m2]
    exact pp_cancel hq0 this
  have hm : mon q = u * e * c := by rw [m1, hqe, R.mul_assoc]
  have hk : u * e * (v * e) = 1 := by
    rw [R.mul_assoc, ← R.mul_assoc e, R.mul_comm e v, R.mul_assoc v, he, R.mul_one, huv]
  have hcm : c = mon q * (v * e) := by
    rw [hm, R.mul_comm (u * e * c), ← R.mul_assoc, R.mul_comm (v * e), hk, R.one_mul]
  have hB : -b * -b + -D = mon q * (v * e * a) := by
    rw [opb_id R, hc, R.mul_comm a, ← R.mul_assoc, ← hcm]
  have hpos := len_pos h.mo.ne
  refine ⟨hq0, by omega, fm_rem m4 hB, ?_⟩
  have h1 := red_is R hc
  rw [fi_rem m4.ne, hm, fi_unit_eq R c (-b) hk]
  exact ⟨⟨b, -1⟩, ⟨a, 0⟩, fun h0 => by
    have h1 : -(1 : PP P) = 0 := congrArg Qd.v h0
    have := len_neg' (1 : PP P)
    rw [h1, len_one, len_zero.2 rfl] at this
    omega, kk_ne h.mo.ne, h1⟩
/-- Composition. -/
theorem comp_fm {D : PP P} {G : Nat} (hD : Dsc D G) {a b a' b' d r s t : PP P} (h : Fm D a b) (h' : Fm D a' b') (hd : Mo d) (d1 : Dv d a) (d2 : Dv d a') (d3 : Dv d (b + b')) (hb : d = r * a + s * a' + t * (b + b')) :
    ∃ A B, a * a' = d * d * A ∧ r * a * b' + s * a' * b + t * (b * b' + D) = d * B ∧ Fm D A (prem B A) ∧ Cl (Pr (FI D a b) (FI D a' b')) (FI D A (prem B A)) := by
  have R : IsRing (PP P) := ppring
  have Q : IsRing (Qd D) := qdring R
  obtain ⟨p, hp⟩ := d1
  obtain ⟨q, hq⟩ := d2
  obtain ⟨g, hg⟩ := d3
  rw [R.mul_comm] at hp hq hg
  obtain ⟨m, hm⟩ := h.dv
  obtain ⟨n, hn⟩ := h'.dv
  rw [hp] at hm
  rw [hq] at hn
  have hd0 := hd.ne
  have hE : r * p + s * q + t * g = 1 := pp_cancel hd0 (by rw [cE_id R, ← hp, ← hq, ← hg, ← hb, R.mul_one])
  have hF : g * (b' + -b) = q * n + -(p * m) := by
    have h1 : d * (g * (b' + -b) + -(q * n + -(p * m))) = 0 := by rw [cF_id R, ← hg, ← hm, ← hn, cF_id2 R]
    exact R.sub_zero ((pp_dom _ _ h1).resolve_left hd0)
  obtain ⟨e, f, k, l, hG⟩ := cop hD n hd0 hg hm
  have hc := comp_is R hg hm hn hE hF hG
  have hapq : a * a' = d * d * (p * q) := by rw [hp, hq, dd_id R]
  have hpq0 : p * q ≠ 0 := fun h0 => by
    rw [h0, R.mul_zero] at hapq
    rcases pp_dom _ _ hapq with h1 | h1
    · exact h.mo.ne h1
    · exact h'.mo.ne h1
  have hmo : Mo (p * q) := by
    refine mo_of_mul (mo_mul hd hd) hpq0 ?_
    rw [← hapq]
    exact mo_mul h.mo h'.mo
  refine ⟨p * q, r * p * b' + s * q * b + t * (b * g + -(p * m)), hapq, ?_, ?_⟩
  · rw [hp, hq, top_id R D d p q g b b' r s t m, hg, R.add_neg, R.mul_zero, hm, R.add_neg, R.neg_zero, R.add_zero, R.mul_zero, R.add_zero]
  · generalize hB : r * p * b' + s * q * b + t * (b * g + -(p * m)) = B at *
    rw [← hp, ← hq] at hc
    have hdn : (⟨d, 0⟩ : Qd D) ≠ 0 := kk_ne hd0
    have hi : Idl (Pr (FI D a b) (FI D a' b')) := Pr.idl Q h.idl
    have hy : FI D (p * q) B ((⟨0, 1⟩ : Qd D) * ⟨B, 1⟩) := by
      have h1 : Sc (⟨d, 0⟩ : Qd D) (FI D (p * q) B) ((⟨0, 1⟩ : Qd D) * (⟨d, 0⟩ * ⟨B, 1⟩)) := by
        rw [← hc]
        refine hi.mul _ ?_
        rw [hc]
        exact ⟨_, fi_b _ _, rfl⟩
      obtain ⟨x, hx, ex⟩ := h1
      rw [← Q.mul_assoc, Q.mul_comm (⟨0, 1⟩ : Qd D), Q.mul_assoc] at ex
      have h2 : (⟨d, 0⟩ : Qd D) * ((⟨0, 1⟩ : Qd D) * ⟨B, 1⟩ + -x) = 0 := by rw [Q.mul_add, Q.mul_neg, ex, Q.add_neg]
      rw [Q.sub_zero ((qd_dom hD _ _ h2).resolve_left hdn)]
      exact hx
    obtain ⟨w, hw⟩ := hy
    have hw' : D = B * B + p * q * w := by
      have h1 : (0 : PP P) * B + D * (1 * 1) = B * (0 * 1 + 1 * B) + p * q * w := hw
      rw [y_u R, y_v R] at h1
      exact h1
    have hBB : B * B + -D = p * q * -w := by
      have h1 := yb_id R D B (p * q) w
      rw [← hw'] at h1
      exact h1
    refine ⟨fm_rem hmo hBB, 1, ⟨d, 0⟩, qd_one_ne, hdn, ?_⟩
    rw [sc_one Q, hc, fi_rem hpq0]
/-- A monic greatest common divisor. -/
theorem bezoutM {a b : PP P} (ha : a ≠ 0) : ∃ g u v, Mo g ∧ g = u * a + v * b ∧ Dv g a ∧ Dv g b := by
  obtain ⟨g, u, v, e, d1, d2⟩ := bezout _ a b (Nat.le_refl _)
  have hg : g ≠ 0 := fun h0 => by
    obtain ⟨q, hq⟩ := d1
    exact ha (by rw [hq, h0, ppring.mul_zero])
  obtain ⟨k, l, m1, m2, _, m4⟩ := mon_eq hg
  refine ⟨mon g, k * u, k * v, m4, by rw [← bzm_id ppring, ← e]; exact m1, ppring.dv_trans ⟨l, m2⟩ d1, ppring.dv_trans ⟨l, m2⟩ d2⟩

/-! Reduced forms. -/
structure Rf (D : PP P) (G : Nat) where
  a : PP P
  b : PP P
  fm : Fm D a b
  sm : a.len ≤ G + 1
theorem rf_ext {D : PP P} {G : Nat} : ∀ {x y : Rf D G}, x.a = y.a → x.b = y.b → x = y
  | ⟨_, _, _, _⟩, ⟨_, _, _, _⟩, rfl, rfl => rfl
def Rf.I {D : PP P} {G : Nat} (x : Rf D G) : Qd D → Prop := FI D x.a x.b
section
variable {D : PP P} {G : Nat} (hD : Dsc D G)
include hD
theorem rf_uniq {x y : Rf D G} (h : Cl x.I y.I) : x = y := by
  obtain ⟨h1, h2⟩ := uniq hD x.fm y.fm x.sm y.sm h
  exact rf_ext h1 h2
theorem cl_trans {S T U : Qd D → Prop} (h1 : Cl S T) (h2 : Cl T U) : Cl S U := Cl.trans (qdring ppring) (qd_dom hD) h1 h2
theorem red_ex : ∀ (n : Nat) (a b : PP P), a.len ≤ n → Fm D a b → ∃ r : Rf D G, Cl (FI D a b) r.I
  | 0, a, b, hn, h => by have := len_pos h.mo.ne; omega
  | n + 1, a, b, hn, h => by
    by_cases hl : a.len ≤ G + 1
    · exact ⟨⟨a, b, h, hl⟩, cl_of rfl⟩
    · obtain ⟨q, hq⟩ := h.dv
      obtain ⟨h1, h2, h3, h4⟩ := red_step hD h (by omega) (.inl hq)
      obtain ⟨r, hr⟩ := red_ex n _ _ (by rw [mon_len h1]; omega) h3
      exact ⟨r, cl_trans hD h4 hr⟩
theorem op_ex (x y : Rf D G) : ∃ r : Rf D G, Cl (Pr x.I y.I) r.I := by
  obtain ⟨o, u, v, m1, e1, d1, d1'⟩ := bezoutM (a := x.a) (b := y.a) x.fm.mo.ne
  obtain ⟨d, w, t, m2, e2, d2, d2'⟩ := bezoutM (a := o) (b := x.b + y.b) m1.ne
  obtain ⟨A, B, h1, h2, h3, h4⟩ := comp_fm hD (r := w * u) (s := w * v) (t := t) x.fm y.fm m2 (ppring.dv_trans d2 d1) (ppring.dv_trans d2 d1') d2' (by rw [← bz3_id ppring, ← e1]; exact e2)
  obtain ⟨r, hr⟩ := red_ex hD _ _ _ (Nat.le_refl _) h3
  exact ⟨r, cl_trans hD h4 hr⟩
noncomputable def rop (x y : Rf D G) : Rf D G := Classical.choose (op_ex hD x y)
theorem rop_cl (x y : Rf D G) : Cl (Pr x.I y.I) (rop hD x y).I := Classical.choose_spec (op_ex hD x y)
theorem rop_is {x y r : Rf D G} (h : Cl (Pr x.I y.I) r.I) : r = rop hD x y := rf_uniq hD (cl_trans hD h.symm (rop_cl hD x y))
omit hD in
theorem mo_one : Mo (1 : PP P) := by
  show rd [1] ([(1 : Int)].length - 1) = 1
  rfl
omit hD in
theorem fm_one : Fm D (1 : PP P) 0 := ⟨mo_one, by rw [len_one]; exact Nat.zero_lt_one, ⟨_, (ppring.one_mul _).symm⟩⟩
omit hD in
def runit : Rf D G := ⟨1, 0, fm_one, by rw [len_one]; omega⟩
omit hD in
theorem opp_fm {a b : PP P} (h : Fm D a b) : Fm D a (prem (-b) a) := by
  obtain ⟨c, hc⟩ := h.dv
  exact fm_rem h.mo (C := c) (by rw [opb_id ppring, hc])
omit hD in
def ropp (x : Rf D G) : Rf D G := ⟨x.a, prem (-x.b) x.a, opp_fm x.fm, x.sm⟩
noncomputable def rgroup : AbG (Rf D G) where
  op := rop hD
  e := runit
  comm x y := rop_is hD (by rw [pr_comm (qdring ppring)]; exact rop_cl hD x y)
  assoc x y z := by
    have Q : IsRing (Qd D) := qdring ppring
    refine rop_is hD (cl_trans hD ?_ (rop_cl hD (rop hD x y) z))
    refine cl_trans hD ?_ (Cl.pr Q (rop_cl hD x y) z.I)
    rw [pr_assoc Q, pr_comm Q x.I, pr_comm Q x.I]
    exact Cl.pr Q (rop_cl hD y z).symm x.I
  one x := by
    refine (rop_is hD ?_).symm
    show Cl (Pr (FI D 1 0) (FI D x.a x.b)) (FI D x.a x.b)
    rw [fi_all ppring, pr_comm (qdring ppring), pr_all (qdring ppring) x.fm.idl]
    exact cl_of rfl
  inv x := ⟨ropp x, by
    refine (rop_is hD ?_).symm
    show Cl (Pr (FI D x.a (prem (-x.b) x.a)) (FI D x.a x.b)) (FI D 1 0)
    rw [fi_rem x.fm.mo.ne, pr_comm (qdring ppring), x.fm.opp hD, fi_all ppring]
    exact ⟨1, ⟨x.a, 0⟩, qd_one_ne, kk_ne x.fm.mo.ne, by rw [sc_one (qdring ppring)]⟩⟩
end
end Go.Proofs.Ytebfhlnfmkhmcaa
/- Products, in the reference. -/
namespace Go.Proofs.Ytebfhlnfmkhmcaa
open Go.Abs

/-- One row of the reference's product. -/
theorem timesS_row {p : Int} (hp : 2 ≤ p ∧ p ≤ 256) {a b : V64} (ha : Res p a) (hb : Res p b) {i db : Nat} (hi : i + db < 64) {v : V64} (hv : Res p v) :
    ∃ v', loopM (fun s : Int × V64 => spec_l01Times_l2 (db : Int) (i : Int) a b p s.1 s.2) (0, v) = some v' ∧ Res p v' ∧ ∀ k, k < 64 → rd v'.1 k = if i ≤ k ∧ k ≤ i + db then (rd v.1 k + rd a.1 i * rd b.1 (k - i)) % p else rd v.1 k := by
  by_cases h0 : rd a.1 i = 0
  · refine ⟨v, ?_, hv, fun k hk => ?_⟩
    · rw [loopM_eq]
      simp only [spec_l01Times_l2]
      rw [ifp_pos (by omega)]
      simp [h0]
    · rw [h0]
      split
      · have := hv k hk
        rw [Int.zero_mul, Int.add_zero, Int.emod_eq_of_lt this.1 this.2]
      · rfl
  · have hai := ha i (by omega)
    obtain ⟨v', h1, h2, h3⟩ := loopM_for (body := fun s : Int × V64 => spec_l01Times_l2 (db : Int) (i : Int) a b p s.1 s.2) (fun j (v : V64) => ((j : Int), v)) (fun v => v) (db + 1)
      (fun j u => Res p u ∧ ∀ k, k < 64 → rd u.1 k = if i ≤ k ∧ k < i + j then (rd v.1 k + rd a.1 i * rd b.1 (k - i)) % p else rd v.1 k) (fun j u hj hI => by
        obtain ⟨hr, hk⟩ := hI
        have hbj := hb j (by omega)
        have huj := hr (i + j) (by omega)
        have e1 : IntKind.i64.wrap ((i : Int) + (j : Int)) = ((i + j : Nat) : Int) := by rw [wrap64 (by omega) (by omega)]; omega
        have hm := mul_small (x := rd a.1 i) (y := rd b.1 j) (by omega) (by omega)
        have hmod : Int.tmod (rd u.1 (i + j) + rd a.1 i * rd b.1 j) p = (rd u.1 (i + j) + rd a.1 i * rd b.1 j) % p := Int.tmod_eq_emod_of_nonneg (by omega)
        have hlt := emod_res (show 0 < p by omega) (rd u.1 (i + j) + rd a.1 i * rd b.1 j)
        refine ⟨vset u (i + j) ((rd u.1 (i + j) + rd a.1 i * rd b.1 j) % p), ?_, fun k hk' => ?_, fun k hk' => ?_⟩
        · simp only [spec_l01Times_l2, letp]
          rw [if_pos (by simp; omega), ifp_pos (by omega)]
          simp only [Option.bind_some]
          rw [if_pos (by simpa using h0), e1]
          rw [ifp_pos (by omega), ifp_pos (by omega), ifp_pos (by omega), ifp_pos (by omega), ifp_pos (by omega)]
          simp only [Int.toNat_natCast]
          rw [wrap64 (n := rd u.1 (i + j)) (by omega) (by omega), wrap64 (n := rd a.1 i) (by omega) (by omega), wrap64 (n := rd b.1 j) (by omega) (by omega), wrap64 (n := rd a.1 i * rd b.1 j) (by omega) (by omega), wrap64 (n := rd u.1 (i + j) + rd a.1 i * rd b.1 j) (by omega) (by omega), hmod, wrap8 hlt.1 (by omega), wrap64 (by omega) (by omega)]
          rfl
        · rw [rd_vset _ _ _ _ (by omega)]
          split
          · exact hlt
          · exact hr k hk'
        · rw [rd_vset _ _ _ _ (by omega)]
          by_cases e : k = i + j
          · subst e
            rw [if_pos rfl, if_pos (by omega), hk _ hk', if_neg (by omega), show i + j - i = j by omega]
          · rw [if_neg e, hk k hk']
            by_cases hc : i ≤ k ∧ k < i + j
            · rw [if_pos hc, if_pos (by omega)]
            · rw [if_neg hc, if_neg (by omega)]) (fun u hI => by
        simp only [spec_l01Times_l2]
        rw [if_neg (by simp; omega)]
        rfl) (db + 1) 0 v (by omega) ⟨hv, fun k hk => by rw [if_neg (by omega)]⟩
    exact ⟨v', h1, h2, fun k hk => by rw [h3 k hk]; simp only [show (i ≤ k ∧ k < i + (db + 1)) = (i ≤ k ∧ k ≤ i + db) from by rw [eq_iff_iff]; omega]⟩


theorem times_pad {p : Int} (hp : 2 ≤ p ∧ p ≤ 256) {a b : List Int} (ha : Row p a) (hb : Row p b) (la : a.length ≤ 64) (lb : b.length ≤ 64) (hl : a.length = 0 ∨ b.length = 0 ∨ a.length + b.length ≤ 65) :
    spec_l01Times p (pad a) (pad b) = some (pad (mul p a b), true) := by
  have hta : top (rd (pad a).1) 64 = a.length := by rw [top_congr 64 fun i hi => rd_padl a hi, ha.top la]
  have htb : top (rd (pad b).1) 64 = b.length := by rw [top_congr 64 fun i hi => rd_padl b hi, hb.top lb]
  simp only [spec_l01Times, deg_is, Option.bind_some, hta, htb]
  by_cases h1 : a.length = 0
  · have e : a = [] := List.eq_nil_of_length_eq_zero h1
    subst e
    simp [mul_nil, pad_nil]
  by_cases h2 : b.length = 0
  · have e : b = [] := List.eq_nil_of_length_eq_zero h2
    subst e
    simp [mul_nil', pad_nil]
  have hra := res_pad ha (show 0 < p by omega)
  have hrb := res_pad hb (show 0 < p by omega)
  obtain ⟨db, hdb⟩ : ∃ db : Nat, b.length = db + 1 := ⟨b.length - 1, by omega⟩
  obtain ⟨da, hda⟩ : ∃ da : Nat, a.length = da + 1 := ⟨a.length - 1, by omega⟩
  have e1 : ((a.length : Nat) : Int) - 1 = (da : Int) := by omega
  have e2 : ((b.length : Nat) : Int) - 1 = (db : Int) := by omega
  rw [e1, e2, wrap64 (by omega) (by omega)]
  simp only [show (decide ((da : Int) < 0)) = false by simp, Bool.false_eq_true, if_false, show (decide ((db : Int) < 0)) = false by simp, show (decide ((da : Int) + (db : Int) > 63)) = false by simp; omega, Option.bind_some]
  obtain ⟨v, h3, h4, h5⟩ := loopM_for (body := fun s : Int × V64 => spec_l01Times_l1 (da : Int) (db : Int) (pad a) (pad b) p s.1 s.2) (fun i v => ((i : Int), v)) (fun v => v) (da + 1)
    (fun i v => Res p v ∧ ∀ k, k < 64 → rd v.1 k = cv (rd a) (rd b) i k % p) (fun i v hi hI => by
      obtain ⟨hv, hk⟩ := hI
      obtain ⟨v', g1, g2, g3⟩ := timesS_row hp hra hrb (i := i) (db := db) (by omega) hv
      refine ⟨v', ?_, g2, fun k hk' => ?_⟩
      · simp only [spec_l01Times_l1]
        rw [if_pos (by simp; omega), g1]
        simp only [Option.bind_some]
        rw [wrap64 (by omega) (by omega)]; rfl
      · rw [g3 k hk', hk k hk', cv_succ]
        by_cases hc : i ≤ k ∧ k ≤ i + db
        · rw [if_pos hc, if_pos hc.1, rd_padl _ (by omega), rd_padl _ (by omega), Int.emod_add_emod]
        · rw [if_neg hc]
          by_cases hik : i ≤ k
          · rw [if_pos hik, rd_ge (l := b) (by omega), Int.mul_zero, Int.add_zero]
          · rw [if_neg hik, Int.add_zero]) (fun v hI => by
      simp only [spec_l01Times_l1]
      rw [if_neg (by simp; omega)]) (da + 1) 0 (vrep 64 0) (by omega) ⟨fun j hj => by rw [rd_vrep _ hj]; omega, fun k hk => by rw [rd_vrep _ hk]; simp [cv, sumTo]⟩
  have h3' : loopM (fun s : Int × V64 => spec_l01Times_l1 (da : Int) (db : Int) (pad a) (pad b) p s.1 s.2) (0, vrep 64 0) = some v := h3
  rw [h3']
  simp only [Option.bind_some]
  congr 2
  exact vec_ext fun k hk => by rw [h5 k hk, rd_padl _ hk, mul_rd, cv_conv fun i hi => rd_ge (by omega)]

end Go.Proofs.Ytebfhlnfmkhmcaa
/- One. -/
namespace Go.Proofs.Ytebfhlnfmkhmcaa
open Go.Abs

theorem row_one {p : Int} (hp : 2 ≤ p) : Row p [1] := ⟨by simp; omega, by simp [rd]⟩
theorem one_is : spec_l01One = some (pad [1]) := by
  unfold spec_l01One
  congr 1
end Go.Proofs.Ytebfhlnfmkhmcaa
/- Primes. -/
namespace Go.Proofs.Ytebfhlnfmkhmcaa
open Go.Abs

theorem isPrime_spec (p : Int) : spec_l01Prime p = some (isP p) := by
  unfold spec_l01Prime isP
  by_cases h1 : p = 2 <;> by_cases h2 : p = 3 <;> by_cases h3 : p = 5 <;> simp [h1, h2, h3]

theorem isPrime_impl (p : Int) : impl_isPrime p = some (isP p) := by
  unfold impl_isPrime isP
  by_cases h1 : p = 2 <;> by_cases h2 : p = 3 <;> by_cases h3 : p = 5 <;> simp [h1, h2, h3]
end Go.Proofs.Ytebfhlnfmkhmcaa
/- Powers of p; one. -/
namespace Go.Proofs.Ytebfhlnfmkhmcaa
open Go.Abs

theorem ppow_mono {p : Nat} (hp : 2 ≤ p) {n m : Nat} (h : n ≤ m) : p ^ n ≤ p ^ m := Nat.pow_le_pow_right (by omega) h
/-- p to a power, at most a bit more than a limit. -/
theorem norm_is {p n most : Nat} (hp : 2 ≤ p ∧ p ≤ 7) (hn : n ≤ 1000000) (hm : most ≤ 1152921504606846976) : ∃ c : Nat, impl_prime_norm p n most = some (c : Int) ∧ ((p ^ n ≤ most ∧ c = p ^ n) ∨ (most < p ^ n ∧ most < c)) ∧ c ≤ 8070450532247928832 := by
  have key : ∀ (m i : Nat), i + m = n → (i = 0 ∨ p ^ (i - 1) ≤ most) → ∃ c : Nat, loopM (fun s : Int × Int => impl_prime_norm_l1 (n : Int) (most : Int) p s.1 s.2) (((p ^ i : Nat) : Int), (i : Int)) = some (c : Int) ∧ ((p ^ n ≤ most ∧ c = p ^ n) ∨ (most < p ^ n ∧ most < c)  ∨ (n = i ∧ c = p ^ n)) ∧ c ≤ 8070450532247928832 := by
    intro m
    induction m with
    | zero =>
      intro i hi hle
      have : i = n := by omega
      subst this
      have step : impl_prime_norm_l1 (i : Int) (most : Int) p ((p ^ i : Nat) : Int) (i : Int) = some (.inr ((p ^ i : Nat) : Int)) := by
        simp only [impl_prime_norm_l1]
        rw [if_neg (by rw [decide_eq_true_eq]; omega)]
      rw [loopM_eq]
      simp only [step, Option.bind_some]
      refine ⟨p ^ i, rfl, ?_, ?_⟩
      · exact .inr (.inr (by simp))
      · rcases hle with rfl | hle
        · simp
        · rcases Nat.eq_zero_or_pos i with rfl | h
          · simp
          · have : p ^ i = p ^ (i - 1) * p := by rw [← Nat.pow_succ]; congr 1; omega
            rw [this]
            have := Nat.mul_le_mul hle hp.2
            omega
    | succ m ih =>
      intro i hi hle
      have hmono := ppow_mono hp.1 (show i ≤ n by omega)
      by_cases h : most < p ^ i
      · have step : impl_prime_norm_l1 (n : Int) (most : Int) p ((p ^ i : Nat) : Int) (i : Int) = some (.inr ((p ^ i : Nat) : Int)) := by
          simp only [impl_prime_norm_l1]
          rw [if_pos (decide_eq_true (by omega)), if_pos (decide_eq_true (by omega))]
        rw [loopM_eq]
        simp only [step, Option.bind_some]
        refine ⟨p ^ i, rfl, .inr (.inl ⟨by omega, h⟩), ?_⟩
        rcases hle with rfl | hle
        · simp
        · rcases Nat.eq_zero_or_pos i with rfl | h
          · simp
          · have : p ^ i = p ^ (i - 1) * p := by rw [← Nat.pow_succ]; congr 1; omega
            rw [this]
            have := Nat.mul_le_mul hle hp.2
            omega
      · have hle2 := Nat.mul_le_mul (show p ^ i ≤ most by omega) hp.2
        have e1 : ((p ^ i : Nat) : Int) * (p : Int) = ((p ^ (i + 1) : Nat) : Int) := by rw [Nat.pow_succ, Int.natCast_mul]
        have e2 : p ^ (i + 1) = p ^ i * p := Nat.pow_succ ..
        have step : impl_prime_norm_l1 (n : Int) (most : Int) p ((p ^ i : Nat) : Int) (i : Int) = some (.inl (((p ^ (i + 1) : Nat) : Int), ((i + 1 : Nat) : Int))) := by
          simp only [impl_prime_norm_l1]
          rw [if_pos (decide_eq_true (by omega)), if_neg (by rw [decide_eq_true_eq]; omega), e1, wrap64 (n := ((p ^ (i + 1) : Nat) : Int)) (by omega) (by omega), wrap64 (by omega) (by omega)]
          rfl
        rw [loopM_eq]
        simp only [step, Option.bind_some]
        obtain ⟨c, h1, h2, h3⟩ := ih (i + 1) (by omega) (.inr (by simp only [Nat.add_sub_cancel]; omega))
        refine ⟨c, h1, ?_, h3⟩
        rcases h2 with h2 | h2 | ⟨h2, h4⟩
        · exact .inl h2
        · exact .inr (.inl h2)
        · by_cases h5 : p ^ n ≤ most
          · exact .inl ⟨h5, h4⟩
          · exact .inr (.inl ⟨by omega, by omega⟩)
  obtain ⟨c, h1, h2, h3⟩ := key n 0 (by omega) (.inl rfl)
  simp only [Nat.pow_zero] at h1
  refine ⟨c, ?_, ?_, h3⟩
  · have h1' : loopM (fun s : Int × Int => impl_prime_norm_l1 (n : Int) (most : Int) p s.1 s.2) (1, 0) = some (c : Int) := h1
    simp only [impl_prime_norm, h1', Option.bind_some]
  · rcases h2 with h2 | h2 | ⟨h2, h4⟩
    · exact .inl h2
    · exact .inr h2
    · by_cases h5 : p ^ n ≤ most
      · exact .inl ⟨h5, h4⟩
      · exact .inr ⟨by omega, by omega⟩
end Go.Proofs.Ytebfhlnfmkhmcaa
/- The extended algorithm of Euclid. -/
namespace Go.Proofs.Ytebfhlnfmkhmcaa
open Go.Abs

/-- One step for a cofactor. -/
def cx (p : Int) (q s0 s1 : List Int) : List Int := comb p s0 (mul p q s1) (-1)
def ez (p : Int) : Nat → List Int → List Int → List Int → List Int → List Int → List Int → List Int × List Int × List Int
  | 0, a, _, s0, _, t0, _ => (a, s0, t0)
  | n + 1, a, b, s0, s1, t0, t1 => if b.length = 0 then (a, s0, t0) else ez p n b (rem p a b) s1 (cx p (quo p a b) s0 s1) t1 (cx p (quo p a b) t0 t1)
theorem cx_row {p : Int} (hp : 0 < p) (q s0 s1 : List Int) : Row p (cx p q s0 s1) := comb_row hp _ _ _
/-- What the cofactors keep to: M is one more than the greater of the two lengths. -/
structure EzOk (p : Int) (M : Nat) (a b s0 s1 : List Int) : Prop where
  r0 : Row p s0
  r1 : Row p s1
  h1 : s1.length + a.length ≤ M
  h2 : s0.length + b.length ≤ M
theorem EzOk.next {p : Int} (hp : isP p = true) {M : Nat} {a b s0 s1 : List Int} (h : EzOk p M a b s0 s1) (ha : Row p a) (hb : Row p b) (h0 : b.length ≠ 0) :
    EzOk p M b (rem p a b) s1 (cx p (quo p a b) s0 s1) := by
  have hp2 := isP_pos hp
  have c := comb_len p s0 (mul p (quo p a b) s1) (-1)
  have m := mul_len p (quo p a b) s1
  have q := quo_len p a b
  have r := rem_len' p a b
  have r' := rem_len hp ha hb h0
  have h1 := h.h1
  have h2 := h.h2
  refine ⟨h.r1, cx_row (by omega) _ _ _, ?_, by omega⟩
  unfold cx
  rcases Nat.eq_zero_or_pos (quo p a b).length with h3 | h3
  · have e : quo p a b = [] := List.eq_nil_of_length_eq_zero h3
    rw [e, mul_nil] at c ⊢
    simp only [List.length_nil] at c
    omega
  · omega
theorem EzOk.prod {p : Int} {M : Nat} {a b s0 s1 : List Int} (hM : M ≤ 65) (h : EzOk p M a b s0 s1) (h0 : b.length ≠ 0) : (quo p a b).length = 0 ∨ s1.length = 0 ∨ (quo p a b).length + s1.length ≤ 65 := by
  have q := quo_len p a b
  have h1 := h.h1
  omega
theorem EzOk.plen {p : Int} {M : Nat} {a b s0 s1 : List Int} (hM : M ≤ 65) (h : EzOk p M a b s0 s1) (h0 : b.length ≠ 0) : (mul p (quo p a b) s1).length ≤ 64 := by
  have q := quo_len p a b
  have h1 := h.h1
  have m := mul_len p (quo p a b) s1
  omega
theorem ezI_loop {p : Int} (hp : isP p = true) {M : Nat} (hM : M ≤ 65) : ∀ (n : Nat) (a b s0 s1 t0 t1 : List Int), Row p a → Row p b → a.length ≤ 64 → b.length ≤ n → b.length ≤ 64 → EzOk p M a b s0 s1 → EzOk p M a b t0 t1 →
    loopM (fun s : List Int × List Int × List Int × List Int × List Int × List Int => impl_prime_bezout_l1 p s.1 s.2.1 s.2.2.1 s.2.2.2.1 s.2.2.2.2.1 s.2.2.2.2.2) (a, b, s0, t0, s1, t1) = some (ez p n a b s0 s1 t0 t1) := by
  have hp2 := isP_pos hp
  have hq : 0 < p ∧ p ≤ 256 := by omega
  intro n
  induction n with
  | zero =>
    intro a b s0 s1 t0 t1 ha hb la lb lb2 hs ht
    have step : impl_prime_bezout_l1 p a b s0 t0 s1 t1 = some (.inr (a, s0, t0)) := by
      simp only [impl_prime_bezout_l1]
      rw [if_neg (by rw [decide_eq_true_eq]; omega)]
    rw [loopM_eq]
    simp only [step, Option.bind_some, ez]
  | succ n ih =>
    intro a b s0 s1 t0 t1 ha hb la lb lb2 hs ht
    by_cases h0 : b.length = 0
    · have step : impl_prime_bezout_l1 p a b s0 t0 s1 t1 = some (.inr (a, s0, t0)) := by
        simp only [impl_prime_bezout_l1]
        rw [if_neg (by rw [decide_eq_true_eq]; omega)]
      rw [loopM_eq]
      simp only [step, Option.bind_some, ez, if_pos h0]
    · have hqr := quo_row (show 0 < p by omega) a b
      have hrr := rem_row (show 0 < p by omega) ha b
      have hql := quo_len p a b
      have hrl := rem_len hp ha hb h0
      have p1 := hs.plen hM h0
      have p2 := ht.plen hM h0
      have q1 := hs.h1
      have q2 := hs.h2
      have q3 := ht.h1
      have q4 := ht.h2
      have step : impl_prime_bezout_l1 p a b s0 t0 s1 t1 = some (.inl (b, rem p a b, s1, t1, cx p (quo p a b) s0 s1, cx p (quo p a b) t0 t1)) := by
        simp only [impl_prime_bezout_l1]
        rw [if_pos (decide_eq_true (by omega)), divideI_is hp ha hb h0 (by omega) (by omega)]
        simp only [Option.bind_some]
        rw [times_is (by omega) (hqr.ent hq) (hs.r1.ent hq) (by omega) (by omega)]
        simp only [Option.bind_some]
        rw [combine_is hq (hs.r0.ent hq) ((mul_row hq.1 _ _).ent hq) (by omega) (by omega) (by omega)]
        simp only [Option.bind_some]
        rw [times_is (by omega) (hqr.ent hq) (ht.r1.ent hq) (by omega) (by omega)]
        simp only [Option.bind_some]
        rw [combine_is hq (ht.r0.ent hq) ((mul_row hq.1 _ _).ent hq) (by omega) (by omega) (by omega)]
        rfl
      rw [loopM_eq]
      simp only [step, Option.bind_some]
      rw [ih b (rem p a b) _ _ _ _ hb hrr lb2 (by omega) (by omega) (hs.next hp ha hb h0) (ht.next hp ha hb h0)]
      simp only [ez, if_neg h0]
theorem ezS_loop {p : Int} (hp : isP p = true) {M : Nat} (hM : M ≤ 65) : ∀ (n : Nat) (a b s0 s1 t0 t1 : List Int), Row p a → Row p b → a.length ≤ 64 → b.length ≤ n → b.length ≤ 64 → s0.length ≤ 64 → s1.length ≤ 64 → t0.length ≤ 64 → t1.length ≤ 64 → EzOk p M a b s0 s1 → EzOk p M a b t0 t1 →
    loopM (fun s : V64 × V64 × V64 × V64 × V64 × V64 => spec_l01Bezout_l1 p s.1 s.2.1 s.2.2.1 s.2.2.2.1 s.2.2.2.2.1 s.2.2.2.2.2) (pad a, pad b, pad s0, pad s1, pad t0, pad t1) = some (pad (ez p n a b s0 s1 t0 t1).1, pad (ez p n a b s0 s1 t0 t1).2.1, pad (ez p n a b s0 s1 t0 t1).2.2) := by
  have hp2 := isP_pos hp
  have hq : 0 < p ∧ p ≤ 256 := by omega
  have ld : ∀ {v : List Int}, Row p v → v.length ≤ 64 → spec_l01Deg (pad v) = some ((v.length : Int) - 1) := fun hv lv => by rw [deg_is, rd_pad_fun lv, hv.top lv]
  intro n
  induction n with
  | zero =>
    intro a b s0 s1 t0 t1 ha hb la lb lb2 l0 l1 m0 m1 hs ht
    have step : spec_l01Bezout_l1 p (pad a) (pad b) (pad s0) (pad s1) (pad t0) (pad t1) = some (.inr (pad a, pad s0, pad t0)) := by
      simp only [spec_l01Bezout_l1, ld hb lb2, Option.bind_some]
      rw [if_neg (by rw [decide_eq_true_eq]; omega)]
    rw [loopM_eq]
    simp only [step, Option.bind_some, ez]
  | succ n ih =>
    intro a b s0 s1 t0 t1 ha hb la lb lb2 l0 l1 m0 m1 hs ht
    by_cases h0 : b.length = 0
    · have step : spec_l01Bezout_l1 p (pad a) (pad b) (pad s0) (pad s1) (pad t0) (pad t1) = some (.inr (pad a, pad s0, pad t0)) := by
        simp only [spec_l01Bezout_l1, ld hb lb2, Option.bind_some]
        rw [if_neg (by rw [decide_eq_true_eq]; omega)]
      rw [loopM_eq]
      simp only [step, Option.bind_some, ez, if_pos h0]
    · have hqr := quo_row (show 0 < p by omega) a b
      have hrr := rem_row (show 0 < p by omega) ha b
      have hql := quo_len p a b
      have hrl := rem_len hp ha hb h0
      have p1 := hs.plen hM h0
      have p2 := ht.plen hM h0
      have c1 := comb_len p s0 (mul p (quo p a b) s1) (-1)
      have c2 := comb_len p t0 (mul p (quo p a b) t1) (-1)
      have step : spec_l01Bezout_l1 p (pad a) (pad b) (pad s0) (pad s1) (pad t0) (pad t1) = some (.inl (pad b, pad (rem p a b), pad s1, pad (cx p (quo p a b) s0 s1), pad t1, pad (cx p (quo p a b) t0 t1))) := by
        simp only [spec_l01Bezout_l1, ld hb lb2, Option.bind_some]
        rw [if_pos (decide_eq_true (by omega)), divideS_is hp ha hb h0 la lb2]
        simp only [Option.bind_some]
        rw [times_pad (by omega) hqr hs.r1 (by omega) l1 (hs.prod hM h0)]
        simp only [Option.bind_some]
        rw [times_pad (by omega) hqr ht.r1 (by omega) m1 (ht.prod hM h0)]
        simp only [Option.bind_some]
        rw [add_pad hq hs.r0 (mul_row hq.1 _ _) l0 p1 (by omega)]
        simp only [Option.bind_some]
        rw [add_pad hq ht.r0 (mul_row hq.1 _ _) m0 p2 (by omega)]
        rfl
      rw [loopM_eq]
      simp only [step, Option.bind_some]
      rw [ih b (rem p a b) _ _ _ _ hb hrr lb2 (by omega) (by omega) l1 (by unfold cx; omega) m1 (by unfold cx; omega) (hs.next hp ha hb h0) (ht.next hp ha hb h0)]
      simp only [ez, if_neg h0]
theorem ez_row {p : Int} (hp : isP p = true) {M : Nat} (hM : M ≤ 65) : ∀ (n : Nat) (a b s0 s1 t0 t1 : List Int), Row p a → Row p b → a.length ≤ 64 → b.length ≤ 64 → b.length ≤ n → (a.length ≠ 0 ∨ b.length ≠ 0) → s0.length ≤ 64 → s1.length ≤ 64 → t0.length ≤ 64 → t1.length ≤ 64 → EzOk p M a b s0 s1 → EzOk p M a b t0 t1 →
    (Row p (ez p n a b s0 s1 t0 t1).1 ∧ (ez p n a b s0 s1 t0 t1).1.length ≤ 64 ∧ (ez p n a b s0 s1 t0 t1).1.length ≠ 0) ∧ (Row p (ez p n a b s0 s1 t0 t1).2.1 ∧ (ez p n a b s0 s1 t0 t1).2.1.length ≤ 64) ∧ (Row p (ez p n a b s0 s1 t0 t1).2.2 ∧ (ez p n a b s0 s1 t0 t1).2.2.length ≤ 64)
  | 0, a, b, s0, s1, t0, t1, ha, hb, la, lb, ln, hab, l0, l1, m0, m1, hs, ht => ⟨⟨ha, la, by simp only [ez]; omega⟩, ⟨hs.r0, l0⟩, ⟨ht.r0, m0⟩⟩
  | n + 1, a, b, s0, s1, t0, t1, ha, hb, la, lb, ln, hab, l0, l1, m0, m1, hs, ht => by
    simp only [ez]
    by_cases h0 : b.length = 0
    · simp only [if_pos h0]
      exact ⟨⟨ha, la, by omega⟩, ⟨hs.r0, l0⟩, ⟨ht.r0, m0⟩⟩
    · simp only [if_neg h0]
      have hp2 := isP_pos hp
      have hrl := rem_len hp ha hb h0
      have p1 := hs.plen hM h0
      have p2 := ht.plen hM h0
      have c1 := comb_len p s0 (mul p (quo p a b) s1) (-1)
      have c2 := comb_len p t0 (mul p (quo p a b) t1) (-1)
      exact ez_row hp hM n b (rem p a b) _ _ _ _ hb (rem_row (by omega) ha b) lb (by omega) (by omega) (.inl h0) l1 (by unfold cx; omega) m1 (by unfold cx; omega) (hs.next hp ha hb h0) (ht.next hp ha hb h0)

/-- The greatest common divisor, monic, with its cofactors. -/
def eg (p : Int) (a b : List Int) : List Int × List Int × List Int := ez p 64 a b [1] [] [] [1]
def sc (p : Int) (k : Int) (l : List Int) : List Int := comb p [] l k
def bz (p : Int) (a b : List Int) : List Int × List Int × List Int := (sc p (inv p (lead (eg p a b).1)) (eg p a b).1, sc p (inv p (lead (eg p a b).1)) (eg p a b).2.1, sc p (inv p (lead (eg p a b).1)) (eg p a b).2.2)
theorem ezok_start {p : Int} (hp : 2 ≤ p) {a b : List Int} (la : a.length ≤ 64) (lb : b.length ≤ 64) : EzOk p (max a.length b.length + 1) a b [1] [] ∧ EzOk p (max a.length b.length + 1) a b [] [1] :=
  ⟨⟨row_one hp, row_nil p, by simp only [List.length_nil]; omega, by simp only [List.length_cons, List.length_nil]; omega⟩, ⟨row_nil p, row_one hp, by simp only [List.length_cons, List.length_nil]; omega, by simp only [List.length_nil]; omega⟩⟩
theorem eg_row {p : Int} (hp : isP p = true) {a b : List Int} (ha : Row p a) (hb : Row p b) (la : a.length ≤ 64) (lb : b.length ≤ 64) (hab : a.length ≠ 0 ∨ b.length ≠ 0) :
    (Row p (eg p a b).1 ∧ (eg p a b).1.length ≤ 64 ∧ (eg p a b).1.length ≠ 0) ∧ (Row p (eg p a b).2.1 ∧ (eg p a b).2.1.length ≤ 64) ∧ (Row p (eg p a b).2.2 ∧ (eg p a b).2.2.length ≤ 64) := by
  have hp2 := isP_pos hp
  obtain ⟨e1, e2⟩ := ezok_start (p := p) (by omega) la lb
  exact ez_row hp (by omega) 64 a b [1] [] [] [1] ha hb la lb lb hab (by simp) (by simp) (by simp) (by simp) e1 e2
theorem sc_len {p k : Int} {l : List Int} : (sc p k l).length ≤ l.length := by
  have := comb_len p [] l k
  simpa [sc] using this
theorem bezoutI_is {p : Int} (hp : isP p = true) {a b : List Int} (ha : Row p a) (hb : Row p b) (la : a.length ≤ 64) (lb : b.length ≤ 64) (hab : a.length ≠ 0 ∨ b.length ≠ 0) : impl_prime_bezout p a b = some (bz p a b) := by
  have hp2 := isP_pos hp
  have hq : 0 < p ∧ p ≤ 256 := by omega
  obtain ⟨e1, e2⟩ := ezok_start (p := p) (by omega) la lb
  have h := ezI_loop hp (by omega) 64 a b [1] [] [] [1] ha hb la lb lb e1 e2
  obtain ⟨⟨g1, g2, g3⟩, ⟨g4, g5⟩, g6, g7⟩ := eg_row hp ha hb la lb hab
  have h' : loopM (fun s : List Int × List Int × List Int × List Int × List Int × List Int => impl_prime_bezout_l1 p s.1 s.2.1 s.2.2.1 s.2.2.2.1 s.2.2.2.2.1 s.2.2.2.2.2) (a, b, [1], [], [], [1]) = some ((eg p a b).1, (eg p a b).2.1, (eg p a b).2.2) := h
  have hl := lead_pos (show 0 < p by omega) g1 g3
  have hi := inv_is hp hl
  simp only [impl_prime_bezout, impl_prime_scale, h', Option.bind_some, lead_is g3 (by omega), inverse_impl hp hl]
  rw [combine_is hq ((row_nil p).ent hq) (g1.ent hq) (by simp) (by omega) (by omega)]
  simp only [Option.bind_some]
  rw [combine_is hq ((row_nil p).ent hq) (g4.ent hq) (by simp) (by omega) (by omega)]
  simp only [Option.bind_some]
  rw [combine_is hq ((row_nil p).ent hq) (g6.ent hq) (by simp) (by omega) (by omega)]
  rfl
theorem bezoutS_is {p : Int} (hp : isP p = true) {a b : List Int} (ha : Row p a) (hb : Row p b) (la : a.length ≤ 64) (lb : b.length ≤ 64) (hab : a.length ≠ 0 ∨ b.length ≠ 0) : spec_l01Bezout p (pad a) (pad b) = some (pad (bz p a b).1, pad (bz p a b).2.1, pad (bz p a b).2.2) := by
  have hp2 := isP_pos hp
  have hq : 0 < p ∧ p ≤ 256 := by omega
  obtain ⟨e1, e2⟩ := ezok_start (p := p) (by omega) la lb
  have h := ezS_loop hp (by omega) 64 a b [1] [] [] [1] ha hb la lb lb (by simp) (by simp) (by simp) (by simp) e1 e2
  obtain ⟨⟨g1, g2, g3⟩, ⟨g4, g5⟩, g6, g7⟩ := eg_row hp ha hb la lb hab
  rw [pad_nil] at h
  have h' : loopM (fun s : V64 × V64 × V64 × V64 × V64 × V64 => spec_l01Bezout_l1 p s.1 s.2.1 s.2.2.1 s.2.2.2.1 s.2.2.2.2.1 s.2.2.2.2.2) (pad a, pad b, pad [1], vrep 64 0, vrep 64 0, pad [1]) = some (pad (eg p a b).1, pad (eg p a b).2.1, pad (eg p a b).2.2) := h
  have hl := lead_pos (show 0 < p by omega) g1 g3
  have hi := inv_is hp hl
  have hd : spec_l01Deg (pad (eg p a b).1) = some (((eg p a b).1.length - 1 : Nat) : Int) := by
    rw [deg_is, rd_pad_fun g2, g1.top g2]; congr 1; omega
  simp only [spec_l01Bezout, one_is, h', Option.bind_some, hd]
  rw [ifp_pos (by omega), Int.toNat_natCast, rd_padl _ (show (eg p a b).1.length - 1 < 64 by omega), show rd (eg p a b).1 ((eg p a b).1.length - 1) = lead (eg p a b).1 from rfl, inverse_spec hp hl]
  simp only [Option.bind_some]
  rw [wrap64 (by omega) (by omega), ← pad_nil, add_pad hq (row_nil p) g1 (by simp) g2 (by omega)]
  simp only [Option.bind_some]
  rw [add_pad hq (row_nil p) g4 (by simp) g5 (by omega)]
  simp only [Option.bind_some]
  rw [add_pad hq (row_nil p) g6 (by simp) g7 (by omega)]
  rfl
/-- It is monic. -/
theorem bz_monic {p : Int} (hp : isP p = true) {a b : List Int} (ha : Row p a) (hb : Row p b) (la : a.length ≤ 64) (lb : b.length ≤ 64) (hab : a.length ≠ 0 ∨ b.length ≠ 0) : Row p (bz p a b).1 ∧ (bz p a b).1.length ≠ 0 ∧ (bz p a b).1.length ≤ 64 ∧ lead (bz p a b).1 = 1 := by
  have hp2 := isP_pos hp
  obtain ⟨⟨g1, g2, g3⟩, _, _⟩ := eg_row hp ha hb la lb hab
  have hl := lead_pos (show 0 < p by omega) g1 g3
  have hi := inv_is hp hl
  have hr : Row p (bz p a b).1 := comb_row (by omega) _ _ _
  have key : ∀ i, rd (bz p a b).1 i = inv p (lead (eg p a b).1) * rd (eg p a b).1 i % p := fun i => by
    show rd (comb p [] (eg p a b).1 _) i = _
    rw [comb_rd, rd_ge (l := []) (by simp), Int.zero_add]
  have h1 : rd (bz p a b).1 ((eg p a b).1.length - 1) = 1 := by
    rw [key, Int.mul_comm]; exact hi.2.2
  have h2 : (bz p a b).1.length ≤ (eg p a b).1.length := sc_len
  have h3 : (eg p a b).1.length - 1 < (bz p a b).1.length := by
    rcases Nat.lt_or_ge ((eg p a b).1.length - 1) (bz p a b).1.length with h | h
    · exact h
    · rw [rd_ge h] at h1; omega
  have h4 : (bz p a b).1.length = (eg p a b).1.length := by omega
  refine ⟨hr, by omega, by omega, ?_⟩
  unfold lead
  rw [h4, h1]
end Go.Proofs.Ytebfhlnfmkhmcaa
/- Greatest common divisors, and monic polynomials. -/
namespace Go.Proofs.Ytebfhlnfmkhmcaa
open Go.Abs

variable {P : Pri}
/-! The greatest common divisor. -/
theorem ez_gcd : ∀ (n : Nat) (a b : PP P) (s0 s1 t0 t1 : List Int), b.len ≤ n → ∃ g : PP P, (ez P.p n a.1 b.1 s0 s1 t0 t1).1 = g.1 ∧ ∀ d, Dv d g ↔ Dv d a ∧ Dv d b
  | 0, a, b, s0, s1, t0, t1, h => by
    have hb : b = 0 := len_zero.1 (by omega)
    refine ⟨a, by simp only [ez], fun d => ?_⟩
    rw [hb]
    exact ⟨fun h => ⟨h, ppring.dv_zero d⟩, fun h => h.1⟩
  | n + 1, a, b, s0, s1, t0, t1, h => by
    simp only [ez]
    by_cases h0 : b.1.length = 0
    · rw [if_pos h0]
      have hb : b = 0 := len_zero.1 h0
      refine ⟨a, rfl, fun d => ?_⟩
      rw [hb]
      exact ⟨fun h => ⟨h, ppring.dv_zero d⟩, fun h => h.1⟩
    · rw [if_neg h0]
      have hb : b ≠ 0 := fun e => h0 (len_zero.2 e)
      obtain ⟨h1, h2⟩ := pdiv a hb
      obtain ⟨g, e, hg⟩ := ez_gcd n b (prem a b) s1 (cx P.p (quo P.p a.1 b.1) s0 s1) t1 (cx P.p (quo P.p a.1 b.1) t0 t1) (by omega)
      refine ⟨g, e, fun d => ?_⟩
      rw [hg]
      constructor
      · rintro ⟨d1, d2⟩
        refine ⟨?_, d1⟩
        rw [h1]
        exact ppring.dv_add (ppring.dv_mul d1 _) d2
      · rintro ⟨d1, d2⟩
        refine ⟨d2, ?_⟩
        rw [h1] at d1
        exact ppring.dv_sub d1 (ppring.dv_mul d2 _)
theorem sc_nsm (a : PP P) (k : Nat) : sc P.p k a.1 = (nsm k a).1 := by
  have h := comb_nsm 0 a k
  rw [ppring.zero_add] at h
  exact h
/-- What the program and the reference compute. -/
theorem gcd_is {a b : PP P} (la : a.len ≤ 64) (lb : b.len ≤ 64) (hab : a ≠ 0 ∨ b ≠ 0) : ∃ g : PP P, (bz P.p a.1 b.1).1 = g.1 ∧ g.len ≤ 64 ∧ Mo g ∧ ∀ d, Dv d g ↔ Dv d a ∧ Dv d b := by
  obtain ⟨g, e, hg⟩ := ez_gcd 64 a b [1] [] [] [1] lb
  have hab' : a.1.length ≠ 0 ∨ b.1.length ≠ 0 := hab.imp ne_len ne_len
  obtain ⟨⟨g1, g2, g3⟩, _, _⟩ := eg_row P.okp a.2 b.2 la lb hab'
  have e' : (eg P.p a.1 b.1).1 = g.1 := e
  rw [e'] at g1 g2 g3
  have hg0 : g ≠ 0 := fun h => g3 (len_zero.2 h)
  have hl := lead_pos P.pos g.2 g3
  have hi := inv_is P.okp hl
  obtain ⟨k, hk⟩ : ∃ k : Nat, inv P.p (lead g.1) = k := ⟨(inv P.p (lead g.1)).toNat, by omega⟩
  have e2 : (bz P.p a.1 b.1).1 = (mon g).1 := by
    show sc P.p (inv P.p (lead (eg P.p a.1 b.1).1)) (eg P.p a.1 b.1).1 = _
    rw [e', hk, sc_nsm]
    unfold mon
    rw [hk, Int.toNat_natCast]
  refine ⟨mon g, e2, by rw [mon_len hg0]; exact g2, mon_mo hg0, fun d => ?_⟩
  obtain ⟨m1, m2⟩ := mon_dv hg0
  rw [← hg]
  exact ⟨fun h => ppring.dv_trans h m2, fun h => ppring.dv_trans h m1⟩
end Go.Proofs.Ytebfhlnfmkhmcaa
/- The identity of Bezout for what both sides compute. -/
namespace Go.Proofs.Ytebfhlnfmkhmcaa
open Go.Abs
variable {P : Pri}
theorem sub_row (a b : PP P) : comb P.p a.1 b.1 (-1) = (a + -b).1 := by
  apply row_ext (comb_row P.pos _ _ _) (a + -b).2
  intro i
  show rd (comb P.p a.1 b.1 (-1)) i = (a + -b).c i
  rw [comb_rd, add_c, neg_c, Int.add_emod_emod]
  show (rd a.1 i + -1 * rd b.1 i) % P.p = (rd a.1 i + -(rd b.1 i)) % P.p
  rw [Int.neg_mul, Int.one_mul]
theorem cx_pp (q s0 s1 : PP P) : cx P.p q.1 s0.1 s1.1 = (s0 + -(q * s1)).1 := sub_row s0 (q * s1)
theorem ez_bez {A B : PP P} : ∀ (n : Nat) (a b s0 s1 t0 t1 : PP P), b.len ≤ n → a = s0 * A + t0 * B → b = s1 * A + t1 * B → ∃ g s t : PP P, ez P.p n a.1 b.1 s0.1 s1.1 t0.1 t1.1 = (g.1, s.1, t.1) ∧ g = s * A + t * B ∧ ∀ d, Dv d g ↔ Dv d a ∧ Dv d b
  | 0, a, b, s0, s1, t0, t1, h, e1, _ => by
    have hb : b = 0 := len_zero.1 (by omega)
    refine ⟨a, s0, t0, by simp only [ez], e1, fun d => ?_⟩
    rw [hb]
    exact ⟨fun h => ⟨h, ppring.dv_zero d⟩, fun h => h.1⟩
  | n + 1, a, b, s0, s1, t0, t1, h, e1, e2 => by
    have R : IsRing (PP P) := ppring
    simp only [ez]
    by_cases h0 : b.1.length = 0
    · rw [if_pos h0]
      have hb : b = 0 := len_zero.1 h0
      refine ⟨a, s0, t0, rfl, e1, fun d => ?_⟩
      rw [hb]
      exact ⟨fun h => ⟨h, ppring.dv_zero d⟩, fun h => h.1⟩
    · rw [if_neg h0]
      have hb : b ≠ 0 := fun e => h0 (len_zero.2 e)
      obtain ⟨h1, h2⟩ := pdiv a hb
      have hc1 : cx P.p (quo P.p a.1 b.1) s0.1 s1.1 = (s0 + -(pquo a b * s1)).1 := cx_pp (pquo a b) s0 s1
      have hc2 : cx P.p (quo P.p a.1 b.1) t0.1 t1.1 = (t0 + -(pquo a b * t1)).1 := cx_pp (pquo a b) t0 t1
      have hr : prem a b = (s0 + -(pquo a b * s1)) * A + (t0 + -(pquo a b * t1)) * B := by
        have k1 : prem a b = a + -(pquo a b * b) := by
          refine R.cancel (a := pquo a b * b) ?_
          rw [← h1, R.add_left_comm, R.add_neg, R.add_zero]
        rw [k1, bzu_id R, ← e1, ← e2]
      obtain ⟨g, s, t, e, hg, hv⟩ := ez_bez n b (prem a b) s1 (s0 + -(pquo a b * s1)) t1 (t0 + -(pquo a b * t1)) (by omega) e2 hr
      rw [← hc1, ← hc2] at e
      refine ⟨g, s, t, e, hg, fun d => ?_⟩
      rw [hv]
      constructor
      · rintro ⟨d1, d2⟩
        refine ⟨?_, d1⟩
        rw [h1]
        exact R.dv_add (R.dv_mul d1 _) d2
      · rintro ⟨d1, d2⟩
        refine ⟨d2, ?_⟩
        rw [h1] at d1
        exact R.dv_sub d1 (R.dv_mul d2 _)
theorem ez_lens {p : Int} (hp : isP p = true) {M : Nat} : ∀ (n : Nat) (a b s0 s1 t0 t1 : List Int), Row p a → Row p b → EzOk p M a b s0 s1 → EzOk p M a b t0 t1 → (ez p n a b s0 s1 t0 t1).2.1.length ≤ M ∧ (ez p n a b s0 s1 t0 t1).2.2.length ≤ M
  | 0, a, b, s0, s1, t0, t1, _, _, hs, ht => by
    have := hs.h2
    have := ht.h2
    simp only [ez]; omega
  | n + 1, a, b, s0, s1, t0, t1, ha, hb, hs, ht => by
    have := hs.h2
    have := ht.h2
    simp only [ez]
    by_cases h0 : b.length = 0
    · simp only [if_pos h0]; omega
    · simp only [if_neg h0]
      exact ez_lens hp n b (rem p a b) _ _ _ _ hb (rem_row (by have := isP_pos hp; omega) ha b) (hs.next hp ha hb h0) (ht.next hp ha hb h0)
theorem bz_bez {a b : PP P} (la : a.len ≤ 64) (lb : b.len ≤ 64) (hab : a ≠ 0 ∨ b ≠ 0) : ∃ g u v : PP P, bz P.p a.1 b.1 = (g.1, u.1, v.1) ∧ Mo g ∧ g = u * a + v * b ∧ Dv g a ∧ Dv g b ∧ u.len ≤ max a.len b.len + 1 ∧ v.len ≤ max a.len b.len + 1 := by
  have R : IsRing (PP P) := ppring
  obtain ⟨g, s, t, e, hg, hv⟩ := ez_bez (A := a) (B := b) 64 a b 1 0 0 1 lb (by rw [R.one_mul, R.zero_mul, R.add_zero]) (by rw [R.one_mul, R.zero_mul, R.zero_add])
  have hab' : a.1.length ≠ 0 ∨ b.1.length ≠ 0 := hab.imp ne_len ne_len
  obtain ⟨⟨g1, g2, g3⟩, _, _⟩ := eg_row P.okp a.2 b.2 la lb hab'
  obtain ⟨k1, k2⟩ := ezok_start (p := P.p) P.two.1 la lb
  obtain ⟨l1, l2⟩ := ez_lens P.okp 64 a.1 b.1 [1] [] [] [1] a.2 b.2 k1 k2
  have e' : eg P.p a.1 b.1 = (g.1, s.1, t.1) := e
  have l1' : s.len ≤ max a.len b.len + 1 := by
    have : (eg P.p a.1 b.1).2.1.length ≤ max a.len b.len + 1 := l1
    rw [e'] at this; exact this
  have l2' : t.len ≤ max a.len b.len + 1 := by
    have : (eg P.p a.1 b.1).2.2.length ≤ max a.len b.len + 1 := l2
    rw [e'] at this; exact this
  rw [e'] at g1 g2 g3
  have hg0 : g ≠ 0 := fun h => g3 (len_zero.2 h)
  have hl := lead_pos P.pos g.2 g3
  have hi := inv_is P.okp hl
  obtain ⟨k, hk⟩ : ∃ k : Nat, inv P.p (lead g.1) = k := ⟨(inv P.p (lead g.1)).toNat, by omega⟩
  obtain ⟨d1, d2⟩ := (hv g).1 (R.dv_refl g)
  obtain ⟨m1, m2⟩ := mon_dv hg0
  have hm : mon g = nsm k g := by unfold mon; rw [hk, Int.toNat_natCast]
  have hn : ∀ x : PP P, nsm k x = nsm k 1 * x := fun x => by rw [R.mul_comm, R.mul_nsm, R.mul_one]
  refine ⟨mon g, nsm k s, nsm k t, ?_, mon_mo hg0, ?_, R.dv_trans m2 d1, R.dv_trans m2 d2, Nat.le_trans (len_nsm k s) l1', Nat.le_trans (len_nsm k t) l2'⟩
  · simp only [bz, e', hk, sc_nsm, hm]
  · rw [hm, hn g, hn s, hn t, hg, bzm_id R]
end Go.Proofs.Ytebfhlnfmkhmcaa
/- The polynomial with a number. -/
namespace Go.Proofs.Ytebfhlnfmkhmcaa
open Go.Abs

theorem numbered_loop {p : Nat} (hp : 2 ≤ p) : ∀ s : Int × List Int, (∃ n : Nat, s.1 = n ∧ s.2.length + n ≤ 1000000000000) → ∃ r, loopM (fun s : Int × List Int => impl_prime_numbered_l1 p s.1 s.2) s = some r ∧ ∀ n : Nat, s.1 = n → r = s.2 ++ digs p n := by
  refine loopM_ind (fun (s : Int × List Int) => ∃ n : Nat, s.1 = n ∧ s.2.length + n ≤ 1000000000000) (fun (s : Int × List Int) (r : List Int) => ∀ n : Nat, s.1 = n → r = s.2 ++ digs p n) (fun (s : Int × List Int) => s.1.toNat) ?_
  rintro ⟨x, l⟩ ⟨n, hx, h2⟩
  simp only at hx h2
  subst hx
  by_cases hn : n = 0
  · right
    subst hn
    refine ⟨l, by simp [impl_prime_numbered_l1], fun m hm => ?_⟩
    have : m = 0 := by simpa using hm.symm
    subst this
    rw [digs_zero]; simp
  · left
    have hlt : n / p < n := Nat.div_lt_self (by omega) hp
    have e1 : Int.tdiv (n : Int) p = ((n / p : Nat) : Int) := rfl
    have e2 : Int.tmod (n : Int) p = ((n % p : Nat) : Int) := rfl
    have ed := digs_pos hp (show 0 < n by omega)
    generalize n / p = q at hlt e1 ed
    generalize n % p = d at e2 ed
    refine ⟨((q : Int), l ++ [(d : Int)]), ?_, ⟨q, rfl, by simp only [List.length_append, List.length_singleton]; omega⟩, by simp only [Int.toNat_natCast]; exact hlt, fun r hr m hm => ?_⟩
    · simp only [impl_prime_numbered_l1]
      rw [if_pos (by simp; omega), ifp_pos (by omega), ifp_pos (by simp; omega), ifp_pos (by omega), e1, e2, wrap64 (by omega) (by omega)]
    · have : m = n := by have : (n : Int) = m := hm; omega
      subst this
      rw [hr q rfl, ed]
      simp

theorem numbered_is {p n : Nat} (hp : 2 ≤ p) (hn : n ≤ 1000000000000) : impl_prime_numbered p n = some (digs p n) := by
  obtain ⟨l, h3, h4⟩ := numbered_loop hp ((n : Int), []) ⟨n, rfl, by simp; omega⟩
  have e := h4 n rfl
  simp only [List.nil_append] at e
  simp [impl_prime_numbered, h3, e]

end Go.Proofs.Ytebfhlnfmkhmcaa
/- The polynomial of a number, in the reference. -/
namespace Go.Proofs.Ytebfhlnfmkhmcaa
open Go.Abs
theorem of_loop {p : Nat} (hp : 2 ≤ p) (hp2 : p ≤ 256) : ∀ s : Int × Int × V64, (∃ (n : Nat) (l : List Int), s.1 = n ∧ n ≤ 1000000000000 ∧ s.2.1 = (l.length : Nat) ∧ s.2.2 = pad l ∧ l.length + (digs p n).length ≤ 64) →
    ∃ r, loopM (fun s : Int × Int × V64 => spec_l01Of_l1 p s.1 s.2.1 s.2.2) s = some r ∧ ∀ (n : Nat) (l : List Int), s.1 = n → s.2.1 = (l.length : Nat) → s.2.2 = pad l → r = pad (l ++ digs p n) := by
  refine loopM_ind (fun (s : Int × Int × V64) => ∃ (n : Nat) (l : List Int), s.1 = n ∧ n ≤ 1000000000000 ∧ s.2.1 = (l.length : Nat) ∧ s.2.2 = pad l ∧ l.length + (digs p n).length ≤ 64)
    (fun (s : Int × Int × V64) (r : V64) => ∀ (n : Nat) (l : List Int), s.1 = n → s.2.1 = (l.length : Nat) → s.2.2 = pad l → r = pad (l ++ digs p n)) (fun (s : Int × Int × V64) => s.1.toNat) ?_
  rintro ⟨x, i, v⟩ ⟨n, l, hx, hn, hi, hv, hl⟩
  simp only at hx hi hv
  subst hx hi hv
  by_cases h : n = 0
  · right
    subst h
    refine ⟨pad l, by simp [spec_l01Of_l1], fun m k hm hk hv => ?_⟩
    have : m = 0 := by have : ((0 : Nat) : Int) = m := hm; omega
    subst this
    rw [digs_zero, List.append_nil]; exact hv
  · left
    have hlt : n / p < n := Nat.div_lt_self (by omega) hp
    have e1 : Int.tdiv (n : Int) p = ((n / p : Nat) : Int) := rfl
    have e2 : Int.tmod (n : Int) p = ((n % p : Nat) : Int) := rfl
    have ed := digs_pos hp (show 0 < n by omega)
    have hm := Nat.mod_lt n (show p > 0 by omega)
    generalize n / p = q at hlt e1 ed
    generalize n % p = d at e2 ed hm
    rw [ed] at hl
    simp only [List.length_cons] at hl
    refine ⟨((q : Int), ((l ++ [(d : Int)]).length : Nat), pad (l ++ [(d : Int)])), ?_, ⟨q, l ++ [(d : Int)], rfl, by omega, rfl, rfl, by simp; omega⟩, by simp only [Int.toNat_natCast]; exact hlt, fun r hr m k hm hk hv => ?_⟩
    · simp only [spec_l01Of_l1]
      rw [if_pos (by simp; omega), ifp_pos (by omega), ifp_pos (by omega), ifp_pos (by omega), e1, e2, wrap64 (by omega) (by omega), wrap64 (by omega) (by omega), wrap8 (by omega) (by omega)]
      rw [Int.toNat_natCast, pad_set l d (by omega)]
      simp
    · have : m = n := by have : (n : Int) = m := hm; omega
      subst this
      have h1 := hr q (l ++ [(d : Int)]) rfl rfl rfl
      rw [h1, ed]
      simp only at hv hk
      have hkl : k.length = l.length := by omega
      refine vec_ext fun j hj => ?_
      rw [pad_rd _ hj, pad_rd _ hj, List.append_assoc]
      simp only [List.singleton_append]
      have hv' : ∀ j, j < 64 → l.getD j 0 = k.getD j 0 := fun j hj => by
        have := congrArg (fun v : V64 => rd v.1 j) hv
        simp only [pad_rd _ hj] at this
        exact this
      rw [getD_app, getD_app, hkl]
      split
      · exact hv' j hj
      · rfl

theorem of_is {p n : Nat} (hp : 2 ≤ p) (hp2 : p ≤ 256) (hn : n ≤ 1000000000000) : spec_l01Of p n = some (pad (digs p n)) := by
  have hl := digs_len40 hp hn
  obtain ⟨r, h1, h2⟩ := of_loop hp hp2 ((n : Int), 0, pad []) ⟨n, [], rfl, hn, rfl, rfl, by simp; omega⟩
  have e := h2 n [] rfl rfl rfl
  simp only [spec_l01Of, ← pad_nil, h1, e, Option.bind_some, List.nil_append]
end Go.Proofs.Ytebfhlnfmkhmcaa
/- Powers of p, counted by the reference. -/
namespace Go.Proofs.Ytebfhlnfmkhmcaa
open Go.Abs
/-- p to a power, and one more than the greatest number if it is greater. -/
theorem count_is {p n : Nat} (hp : 2 ≤ p ∧ p ≤ 7) (hn : n ≤ 1000000) : ∃ c : Nat, spec_l01Count p n = some (c : Int) ∧ ((p ^ n ≤ 1000000000000 ∧ c = p ^ n) ∨ (1000000000000 < p ^ n ∧ c = 1000000000001)) := by
  have key : ∀ (m i : Nat), i + m = n → (i = 0 ∨ p ^ (i - 1) ≤ 1000000000000) → ∃ c : Nat, loopM (fun s : Int × Int => spec_l01Count_l1 p s.1 s.2) ((m : Int), ((p ^ i : Nat) : Int)) = some (c : Int) ∧ ((p ^ n ≤ 1000000000000 ∧ c = p ^ n) ∨ (1000000000000 < p ^ n ∧ 1000000000000 < c)) := by
    intro m
    induction m with
    | zero =>
      intro i hi hle
      have : i = n := by omega
      subst this
      have step : spec_l01Count_l1 p ((0 : Nat) : Int) ((p ^ i : Nat) : Int) = some (.inr ((p ^ i : Nat) : Int)) := by simp [spec_l01Count_l1]
      rw [loopM_eq]
      simp only [step, Option.bind_some]
      refine ⟨p ^ i, rfl, ?_⟩
      by_cases h : p ^ i ≤ 1000000000000
      · exact .inl ⟨h, rfl⟩
      · exact .inr ⟨by omega, by omega⟩
    | succ m ih =>
      intro i hi hle
      have hmono := ppow_mono hp.1 (show i ≤ n by omega)
      by_cases h : p ^ i ≤ 1000000000000
      · have hle2 := Nat.mul_le_mul h hp.2
        have e1 : ((p ^ i : Nat) : Int) * (p : Int) = ((p ^ (i + 1) : Nat) : Int) := by rw [Nat.pow_succ, Int.natCast_mul]
        have e2 : p ^ (i + 1) = p ^ i * p := Nat.pow_succ ..
        have e3 : IntKind.i64.wrap (((m + 1 : Nat) : Int) - 1) = (m : Int) := by rw [wrap64 (by omega) (by omega)]; omega
        have step : spec_l01Count_l1 p ((m + 1 : Nat) : Int) ((p ^ i : Nat) : Int) = some (.inl ((m : Int), ((p ^ (i + 1) : Nat) : Int))) := by
          simp only [spec_l01Count_l1]
          rw [if_pos (decide_eq_true (by omega)), e3, e1, wrap64 (n := ((p ^ (i + 1) : Nat) : Int)) (by omega) (by omega)]
          simp only [Option.bind_some]
          rw [if_pos (decide_eq_true (by omega))]
        rw [loopM_eq]
        simp only [step, Option.bind_some]
        exact ih (i + 1) (by omega) (.inr (by simp only [Nat.add_sub_cancel]; omega))
      · have step : spec_l01Count_l1 p ((m + 1 : Nat) : Int) ((p ^ i : Nat) : Int) = some (.inr ((p ^ i : Nat) : Int)) := by
          simp only [spec_l01Count_l1]
          rw [if_pos (decide_eq_true (by omega))]
          simp only [Option.bind_some]
          rw [if_neg (by rw [decide_eq_true_eq]; omega)]
        rw [loopM_eq]
        simp only [step, Option.bind_some]
        exact ⟨p ^ i, rfl, .inr ⟨by omega, by omega⟩⟩
  obtain ⟨c, h1, h2⟩ := key n 0 (by omega) (.inl rfl)
  simp only [Nat.pow_zero] at h1
  have h1' : loopM (fun s : Int × Int => spec_l01Count_l1 p s.1 s.2) ((n : Int), 1) = some (c : Int) := h1
  simp only [spec_l01Count, h1', Option.bind_some]
  rcases h2 with ⟨h2, h3⟩ | ⟨h2, h3⟩
  · exact ⟨c, by rw [if_neg (by omega)], .inl ⟨h2, h3⟩⟩
  · refine ⟨1000000000001, ?_, .inr ⟨h2, rfl⟩⟩
    split
    · rfl
    · congr 1; omega
end Go.Proofs.Ytebfhlnfmkhmcaa
/- Which arrays have coefficients below p. -/
namespace Go.Proofs.Ytebfhlnfmkhmcaa
open Go.Abs
/-- All coefficients lie below p. -/
def Small (p : Int) (a : V64) : Prop := ∀ j, j < 64 → rd a.1 j < p
open Classical in
noncomputable def small (p : Int) (a : V64) : Bool := decide (Small p a)

theorem res_of_small {p : Int} {a : V64} (hb : IsB a) (h : small p a = true) : Res p a := fun j hj => by
  have h1 : Small p a := by simpa [small] using h
  exact ⟨(hb.rd hj).1, h1 j hj⟩
end Go.Proofs.Ytebfhlnfmkhmcaa
/- Which arrays are polynomials, in the reference. -/
namespace Go.Proofs.Ytebfhlnfmkhmcaa
open Go.Abs
theorem is_loop {p : Int} {a : V64} (hb : IsB a) : ∀ s : Int, (∃ i : Nat, s = i ∧ i ≤ 64 ∧ ∀ j, j < i → rd a.1 j < p) → ∃ r, loopM (fun s : Int => spec_l01Is_l1 a p s) s = some r ∧ ((r = .inl () ∧ Small p a) ∨ (r = .inr false ∧ ¬ Small p a)) := by
  refine loopM_ind (fun (s : Int) => ∃ i : Nat, s = i ∧ i ≤ 64 ∧ ∀ j, j < i → rd a.1 j < p) (fun (s : Int) (r : Unit ⊕ Bool) => (r = .inl () ∧ Small p a) ∨ (r = .inr false ∧ ¬ Small p a)) (fun s => 64 - s.toNat) ?_
  rintro s ⟨i, rfl, hi, hlt⟩
  by_cases h : i = 64
  · right
    subst h
    exact ⟨.inl (), by simp [spec_l01Is_l1], .inl ⟨rfl, hlt⟩⟩
  · have hbi := hb.rd (show i < 64 by omega)
    by_cases e : rd a.1 i < p
    · left
      refine ⟨((i + 1 : Nat) : Int), ?_, ⟨i + 1, rfl, by omega, fun j hj => ?_⟩, by simp; omega, fun r hr => hr⟩
      · simp only [spec_l01Is_l1]
        rw [if_pos (by simp; omega), ifp_pos (by omega), Int.toNat_natCast, wrap64 (by omega) (by omega), if_neg (by simp; omega), wrap64 (by omega) (by omega)]
        rfl
      · by_cases hj' : j = i
        · rw [hj']; exact e
        · exact hlt j (by omega)
    · right
      refine ⟨.inr false, ?_, .inr ⟨rfl, fun hs => e (hs i (by omega))⟩⟩
      simp only [spec_l01Is_l1]
      rw [if_pos (by simp; omega), ifp_pos (by omega), Int.toNat_natCast, wrap64 (by omega) (by omega), if_pos (by simp; omega)]
theorem is_is {p : Int} {a : V64} (hb : IsB a) : spec_l01Is p a = some (small p a && isP p) := by
  obtain ⟨r, h1, h2⟩ := is_loop (p := p) hb 0 ⟨0, rfl, by omega, fun j hj => by omega⟩
  rcases h2 with ⟨rfl, h⟩ | ⟨rfl, h⟩ <;> simp [spec_l01Is, h1, small, h, isPrime_spec]

end Go.Proofs.Ytebfhlnfmkhmcaa
/- The code for polynomials, in the reference. -/
namespace Go.Proofs.Ytebfhlnfmkhmcaa
open Go.Abs
theorem code_loop {p : Int} {l : List V64} (hb : ∀ a ∈ l, IsB a) (hl : l.length ≤ 2000000) (hp : isP p = true) : ∀ s : Int, (∃ i : Nat, s = i ∧ i ≤ l.length ∧ ∀ a ∈ l.take i, small p a = true) → ∃ r, loopM (fun s : Int => spec_l01Code_l1 l p s) s = some r ∧ ((r = .inl () ∧ l.all (small p) = true) ∨ (r = .inr 1 ∧ l.all (small p) = false)) := by
  refine loopM_ind (fun (s : Int) => ∃ i : Nat, s = i ∧ i ≤ l.length ∧ ∀ a ∈ l.take i, small p a = true) (fun (s : Int) (r : Unit ⊕ Int) => (r = .inl () ∧ l.all (small p) = true) ∨ (r = .inr 1 ∧ l.all (small p) = false)) (fun s => l.length - s.toNat) ?_
  rintro s ⟨i, rfl, hi, hlt⟩
  by_cases h : i = l.length
  · right
    subst h
    exact ⟨.inl (), by simp [spec_l01Code_l1], .inl ⟨rfl, by rw [List.take_length] at hlt; simpa using hlt⟩⟩
  · have hil : i < l.length := by omega
    have er : rd l i = l[i] := by simp [rd, hil]
    have hbi := is_is (p := p) (hb l[i] (List.getElem_mem _))
    rw [hp, Bool.and_true] at hbi
    cases e : small p l[i] with
    | true =>
      left
      refine ⟨((i + 1 : Nat) : Int), ?_, ⟨i + 1, rfl, by omega, fun a ha => ?_⟩, by simp; omega, fun r hr => hr⟩
      · simp only [spec_l01Code_l1]
        rw [if_pos (by simp; omega), ifp_pos (by omega), Int.toNat_natCast, er, hbi, e]
        simp only [Option.bind_some, Bool.not_true, Bool.false_eq_true, if_false]
        rw [wrap64 (by omega) (by omega)]; rfl
      · rw [List.take_succ_eq_append_getElem hil] at ha
        rcases List.mem_append.1 ha with ha | ha
        · exact hlt a ha
        · have : a = l[i] := by simpa using ha
          rw [this]; exact e
    | false =>
      right
      refine ⟨.inr 1, ?_, .inr ⟨rfl, ?_⟩⟩
      · simp only [spec_l01Code_l1]
        rw [if_pos (by simp; omega), ifp_pos (by omega), Int.toNat_natCast, er, hbi, e]
        rfl
      · rw [List.all_eq_false]
        exact ⟨l[i], List.getElem_mem _, by simp [e]⟩
theorem code_is {p : Int} {l : List V64} (hb : ∀ a ∈ l, IsB a) (hl : l.length ≤ 2000000) : spec_l01Code p l = some (if isP p && l.all (small p) then 0 else 1) := by
  unfold spec_l01Code
  rw [isPrime_spec]
  cases hp : isP p with
  | false => simp
  | true =>
    obtain ⟨r, h1, h2⟩ := code_loop hb hl hp 0 ⟨0, rfl, by omega, by simp⟩
    simp only [Option.bind_some, Bool.not_true, Bool.false_eq_true, if_false, h1, Bool.true_and]
    rcases h2 with ⟨rfl, h⟩ | ⟨rfl, h⟩ <;> simp [h]

end Go.Proofs.Ytebfhlnfmkhmcaa
/- Which arrays are polynomials, in the program. -/
namespace Go.Proofs.Ytebfhlnfmkhmcaa
open Go.Abs

theorem index_loop {p : Int} {a : V64} (hb : IsB a) : ∀ s : Int, (∃ i : Nat, s = i ∧ i ≤ 64 ∧ ∀ j, j < i → rd a.1 j < p) → ∃ r, loopM (fun s : Int => slices_IndexFunc_byte_byte_of_impl_areAll_byte__c1_p_l1 a.1 p s) s = some r ∧ ((r = .inl () ∧ Small p a) ∨ (∃ i : Nat, r = .inr (i : Int) ∧ ¬ Small p a)) := by
  refine loopM_ind (fun (s : Int) => ∃ i : Nat, s = i ∧ i ≤ 64 ∧ ∀ j, j < i → rd a.1 j < p) (fun (s : Int) (r : Unit ⊕ Int) => (r = .inl () ∧ Small p a) ∨ (∃ i : Nat, r = .inr (i : Int) ∧ ¬ Small p a)) (fun s => 64 - s.toNat) ?_
  rintro s ⟨i, rfl, hi, hlt⟩
  have h64 := a.2
  by_cases h : i = 64
  · right
    subst h
    exact ⟨.inl (), by simp [slices_IndexFunc_byte_byte_of_impl_areAll_byte__c1_p_l1, h64], .inl ⟨rfl, hlt⟩⟩
  · have hbi := hb.rd (show i < 64 by omega)
    have e1 : impl_areAll_byte__c1_of_p (rd a.1 i) p = some (!decide (rd a.1 i < p)) := by
      simp only [impl_areAll_byte__c1_of_p, impl_isPoly_c1_of_p, Option.bind_some]
      rw [wrap64 (by omega) (by omega)]
    by_cases e : rd a.1 i < p
    · left
      refine ⟨((i + 1 : Nat) : Int), ?_, ⟨i + 1, rfl, by omega, fun j hj => ?_⟩, by simp; omega, fun r hr => hr⟩
      · simp only [slices_IndexFunc_byte_byte_of_impl_areAll_byte__c1_p_l1, h64]
        rw [if_pos (by simp; omega), ifp_pos (by omega), Int.toNat_natCast, e1, wrap64 (by omega) (by omega)]
        simp [e]
      · by_cases hj' : j = i
        · rw [hj']; exact e
        · exact hlt j (by omega)
    · right
      refine ⟨.inr (i : Int), ?_, .inr ⟨i, rfl, fun hs => e (hs i (by omega))⟩⟩
      simp only [slices_IndexFunc_byte_byte_of_impl_areAll_byte__c1_p_l1, h64]
      rw [if_pos (by simp; omega), ifp_pos (by omega), Int.toNat_natCast, e1]
      simp [e]
theorem isPoly_is {p : Int} {a : V64} (hb : IsB a) : impl_isPoly p a = some (small p a) := by
  obtain ⟨r, h1, h2⟩ := index_loop (p := p) hb 0 ⟨0, rfl, by omega, fun j hj => by omega⟩
  simp only [impl_isPoly, impl_areAll_byte_of_impl_isPoly_c1_p, slices_ContainsFunc_byte_byte_of_impl_areAll_byte__c1_p, slices_IndexFunc_byte_byte_of_impl_areAll_byte__c1_p, h1, Option.bind_some]
  rcases h2 with ⟨rfl, h⟩ | ⟨i, rfl, h⟩ <;> simp [small, h]
end Go.Proofs.Ytebfhlnfmkhmcaa
/- The row of an array, trimmed. -/
namespace Go.Proofs.Ytebfhlnfmkhmcaa
open Go.Abs

theorem rowOf_loop {a : V64} (hb : IsB a) : ∀ s : Int × List Int, (∃ i : Nat, s.1 = i ∧ i ≤ 64 ∧ s.2 = a.1.take i) → ∃ r, loopM (fun s : Int × List Int => impl_rowOf_l1 a s.1 s.2) s = some r ∧ r = a.1 := by
  refine loopM_ind (fun (s : Int × List Int) => ∃ i : Nat, s.1 = i ∧ i ≤ 64 ∧ s.2 = a.1.take i) (fun (s : Int × List Int) (r : List Int) => r = a.1) (fun (s : Int × List Int) => 64 - s.1.toNat) ?_
  rintro ⟨x, v⟩ ⟨i, hx, hi, hv⟩
  simp only at hx hv
  subst hx hv
  by_cases h : i = 64
  · right
    subst h
    exact ⟨a.1, by simp [impl_rowOf_l1, List.take_of_length_le (Nat.le_of_eq a.2)], rfl⟩
  · left
    have hil : i < a.1.length := by rw [a.2]; omega
    have er : rd a.1 i = a.1[i] := by simp [rd, hil]
    have hbi := hb.rd (show i < 64 by omega)
    refine ⟨(((i + 1 : Nat) : Int), a.1.take (i + 1)), ?_, ⟨i + 1, rfl, by omega, rfl⟩, by simp; omega, fun r hr => hr⟩
    simp only [impl_rowOf_l1]
    rw [if_pos (by simp; omega), ifp_pos (by omega), ifp_pos (by simp; omega)]
    rw [Int.toNat_natCast, wrap64 (by omega) (by omega), wrap64 (by omega) (by omega), er, List.take_succ_eq_append_getElem hil]
    simp

theorem rowOf_is {a : V64} (hb : IsB a) : impl_rowOf a = some (a.1.take (top (rd a.1) 64)) := by
  obtain ⟨r, h1, h2⟩ := rowOf_loop hb (0, []) ⟨0, rfl, by omega, by simp⟩
  subst h2
  have h3 := trimmed_is (l := a.1) (by rw [a.2]; omega)
  rw [a.2] at h3
  simp only [impl_rowOf, h1, Option.bind_some, h3]
end Go.Proofs.Ytebfhlnfmkhmcaa
/- The row of an array. -/
namespace Go.Proofs.Ytebfhlnfmkhmcaa
open Go.Abs
theorem row_is {d : V64} (hb : IsB d) : impl_rowOf d = some (row d) := by
  rw [rowOf_is hb]
  congr 1
  have := top_le (rd d.1) 64
  refine rd_ext (by rw [row, ofF_len]; simp; rw [d.2]; omega) fun i hi => ?_
  simp at hi
  rw [rd_take, row, rd_ofF', if_pos (by omega), if_pos (by omega)]
theorem row_length (d : V64) : (row d).length = top (rd d.1) 64 := by rw [row, ofF_len]
theorem row_rd (d : V64) {i : Nat} (hi : i < 64) : rd (row d) i = rd d.1 i := by rw [row, rd_ofF', if_pos hi]
end Go.Proofs.Ytebfhlnfmkhmcaa
/- The code for polynomials, in the program. -/
namespace Go.Proofs.Ytebfhlnfmkhmcaa
open Go.Abs

theorem indexP_loop {p : Int} {l : List V64} (hb : ∀ a ∈ l, IsB a) (hl : l.length ≤ 2000000) : ∀ s : Int, (∃ i : Nat, s = i ∧ i ≤ l.length ∧ ∀ a ∈ l.take i, small p a = true) → ∃ r, loopM (fun s : Int => slices_IndexFunc_impl_Poly_impl_Poly_of_impl_areAll_impl_Poly__c1_p_l1 l p s) s = some r ∧ ((r = .inl () ∧ l.all (small p) = true) ∨ (∃ i : Nat, r = .inr (i : Int) ∧ l.all (small p) = false)) := by
  refine loopM_ind (fun (s : Int) => ∃ i : Nat, s = i ∧ i ≤ l.length ∧ ∀ a ∈ l.take i, small p a = true) (fun (s : Int) (r : Unit ⊕ Int) => (r = .inl () ∧ l.all (small p) = true) ∨ (∃ i : Nat, r = .inr (i : Int) ∧ l.all (small p) = false)) (fun s => l.length - s.toNat) ?_
  rintro s ⟨i, rfl, hi, hlt⟩
  by_cases h : i = l.length
  · right
    subst h
    exact ⟨.inl (), by simp [slices_IndexFunc_impl_Poly_impl_Poly_of_impl_areAll_impl_Poly__c1_p_l1], .inl ⟨rfl, by rw [List.take_length] at hlt; simpa using hlt⟩⟩
  · have hil : i < l.length := by omega
    have er : rd l i = l[i] := by simp [rd, hil]
    have hbi := isPoly_is (p := p) (hb l[i] (List.getElem_mem _))
    have e1 : impl_areAll_impl_Poly__c1_of_p (rd l i) p = some (!small p l[i]) := by
      simp only [impl_areAll_impl_Poly__c1_of_p, impl_polysCode_c1_of_p, er, hbi, Option.bind_some]
    cases e : small p l[i] with
    | true =>
      left
      refine ⟨((i + 1 : Nat) : Int), ?_, ⟨i + 1, rfl, by omega, fun a ha => ?_⟩, by simp; omega, fun r hr => hr⟩
      · simp only [slices_IndexFunc_impl_Poly_impl_Poly_of_impl_areAll_impl_Poly__c1_p_l1]
        rw [if_pos (decide_eq_true (by omega)), ifp_pos (by omega), Int.toNat_natCast, e1, e]
        simp only [Option.bind_some, Bool.not_true, Bool.false_eq_true, if_false]
        rw [wrap64 (by omega) (by omega)]; rfl
      · rw [List.take_succ_eq_append_getElem hil] at ha
        rcases List.mem_append.1 ha with ha | ha
        · exact hlt a ha
        · have : a = l[i] := by simpa using ha
          rw [this]; exact e
    | false =>
      right
      refine ⟨.inr (i : Int), ?_, .inr ⟨i, rfl, ?_⟩⟩
      · simp only [slices_IndexFunc_impl_Poly_impl_Poly_of_impl_areAll_impl_Poly__c1_p_l1]
        rw [if_pos (decide_eq_true (by omega)), ifp_pos (by omega), Int.toNat_natCast, e1, e]
        rfl
      · rw [List.all_eq_false]
        exact ⟨l[i], List.getElem_mem _, by simp [e]⟩
theorem polysCode_is {p : Int} {l : List V64} (hb : ∀ a ∈ l, IsB a) (hl : l.length ≤ 2000000) : impl_polysCode p l = some (if isP p && l.all (small p) then 0 else 1) := by
  obtain ⟨r, h1, h2⟩ := indexP_loop (p := p) hb hl 0 ⟨0, rfl, by omega, by simp⟩
  have e : impl_areAll_impl_Poly_of_impl_polysCode_c1_p l p = some (l.all (small p)) := by
    simp only [impl_areAll_impl_Poly_of_impl_polysCode_c1_p, slices_ContainsFunc_impl_Poly_impl_Poly_of_impl_areAll_impl_Poly__c1_p, slices_IndexFunc_impl_Poly_impl_Poly_of_impl_areAll_impl_Poly__c1_p, h1, Option.bind_some]
    rcases h2 with ⟨rfl, h⟩ | ⟨i, rfl, h⟩ <;> simp [h]
  simp only [impl_polysCode, isPrime_impl, e, Option.bind_some]
  cases isP p <;> cases l.all (small p) <;> simp
end Go.Proofs.Ytebfhlnfmkhmcaa
/- Discriminants. -/
namespace Go.Proofs.Ytebfhlnfmkhmcaa
open Go.Abs

theorem isb_rd {a : V64} (ha : IsB a) {i : Nat} (hi : i < 64) : 0 ≤ rd a.1 i ∧ rd a.1 i < 256 := ha _ (rd_mem (by rw [a.2]; exact hi))
/-- One round of the derivative. -/
theorem der_val {p x v : Int} (hp : 2 ≤ p ∧ p ≤ 7) (hx : 0 ≤ x ∧ x < 64) (hv : 0 ≤ v ∧ v < 256) :
    IntKind.i64.wrap (Int.tmod x p * IntKind.i64.wrap v) = x % p * v ∧ IntKind.i64.wrap (x * IntKind.i64.wrap v) = x * v ∧ Int.tmod (x % p * v) p = x * v % p ∧ Int.tmod (x * v) p = x * v % p := by
  have e1 : Int.tmod x p = x % p := Int.tmod_eq_emod_of_nonneg hx.1
  have e2 := Int.emod_nonneg x (show p ≠ 0 by omega)
  have e3 := Int.emod_lt_of_pos x (show 0 < p by omega)
  have m1 : 0 ≤ x % p * v := Int.mul_nonneg e2 hv.1
  have m2 : x % p * v ≤ 7 * 256 := Int.mul_le_mul (by omega) (by omega) hv.1 (by omega)
  have m3 : 0 ≤ x * v := Int.mul_nonneg hx.1 hv.1
  have m4 : x * v ≤ 64 * 256 := Int.mul_le_mul (by omega) (by omega) hv.1 (by omega)
  refine ⟨?_, ?_, ?_, ?_⟩
  · rw [e1, wrap64 (n := v) (by omega) (by omega), wrap64 (by omega) (by omega)]
  · rw [wrap64 (n := v) (by omega) (by omega), wrap64 (by omega) (by omega)]
  · rw [Int.tmod_eq_emod_of_nonneg m1, Int.mul_emod, Int.emod_emod, ← Int.mul_emod]
  · rw [Int.tmod_eq_emod_of_nonneg m3]
theorem derS_step {p : Int} (hp : 2 ≤ p ∧ p ≤ 7) {a : V64} (ha : IsB a) {i : Nat} (hi : i < 63) (s : V64) :
    spec_DerivativeOf_l1 p a ((i + 1 : Nat) : Int) s = some (.inl (((i + 1 + 1 : Nat) : Int), vset s i (((i + 1 : Nat) : Int) * rd a.1 (i + 1) % p))) := by
  obtain ⟨v1, v2, v3, v4⟩ := der_val hp (x := ((i + 1 : Nat) : Int)) (by omega) (isb_rd ha (show i + 1 < 64 by omega))
  have r1 := Int.emod_nonneg (((i + 1 : Nat) : Int) * rd a.1 (i + 1)) (show p ≠ 0 by omega)
  have r2 := Int.emod_lt_of_pos (((i + 1 : Nat) : Int) * rd a.1 (i + 1)) (show 0 < p by omega)
  have w : IntKind.i64.wrap (((i + 1 : Nat) : Int) - 1) = (i : Int) := by rw [wrap64 (by omega) (by omega)]; omega
  simp only [spec_DerivativeOf_l1, letp]
  rw [if_pos (decide_eq_true (by omega)), ifp_pos (by omega), ifp_pos (by omega), Int.toNat_natCast, v1, ifp_pos (by omega), w, ifp_pos (by omega), v3, wrap8 (by omega) (by omega), wrap64 (by omega) (by omega), Int.toNat_natCast]
  rfl
theorem derI_step {p : Int} (hp : 2 ≤ p ∧ p ≤ 7) {a : V64} (ha : IsB a) {i : Nat} (hi : i < 63) (s : V64) :
    impl_DerivativeOf_l1 a p ((i + 1 : Nat) : Int) s = some (.inl (((i + 1 + 1 : Nat) : Int), vset s i (((i + 1 : Nat) : Int) * rd a.1 (i + 1) % p))) := by
  obtain ⟨v1, v2, v3, v4⟩ := der_val hp (x := ((i + 1 : Nat) : Int)) (by omega) (isb_rd ha (show i + 1 < 64 by omega))
  have r1 := Int.emod_nonneg (((i + 1 : Nat) : Int) * rd a.1 (i + 1)) (show p ≠ 0 by omega)
  have r2 := Int.emod_lt_of_pos (((i + 1 : Nat) : Int) * rd a.1 (i + 1)) (show 0 < p by omega)
  have w : IntKind.i64.wrap (((i + 1 : Nat) : Int) - 1) = (i : Int) := by rw [wrap64 (by omega) (by omega)]; omega
  simp only [impl_DerivativeOf_l1, letp]
  rw [if_pos (decide_eq_true (by omega)), ifp_pos (by omega), Int.toNat_natCast, v2, ifp_pos (by omega), w, ifp_pos (by omega), v4, wrap8 (by omega) (by omega), wrap64 (by omega) (by omega), Int.toNat_natCast]
  rfl
/-- The derivative. -/
def dvl (p : Int) (a : V64) : Nat → V64
  | 0 => vrep 64 0
  | i + 1 => vset (dvl p a i) i (((i + 1 : Nat) : Int) * rd a.1 (i + 1) % p)
theorem dvl_res {p : Int} (hp : 2 ≤ p) (a : V64) : ∀ i, i ≤ 63 → Res p (dvl p a i)
  | 0, _ => fun j hj => by rw [dvl, rd_vrep _ hj]; omega
  | i + 1, h => fun j hj => by
    rw [dvl, rd_vset _ _ _ _ (by omega)]
    split
    · exact ⟨Int.emod_nonneg _ (by omega), Int.emod_lt_of_pos _ (by omega)⟩
    · exact dvl_res hp a i (by omega) j hj
def dv (p : Int) (a : V64) : V64 := dvl p a 63
theorem dv_res {p : Int} (hp : 2 ≤ p) (a : V64) : Res p (dv p a) := dvl_res hp a 63 (Nat.le_refl _)
theorem derS_is {p : Int} (hp : isP p = true) {a : V64} (ha : IsB a) (hs : small p a = true) : spec_DerivativeOf p a = some (dv p a, 0) := by
  have hp2 := isP_pos hp
  obtain ⟨s, g1, g2⟩ := loopM_for (body := fun s : Int × V64 => spec_DerivativeOf_l1 p a s.1 s.2) (fun i s => (((i + 1 : Nat) : Int), s)) (fun s => s) 63
    (fun i s => s = dvl p a i) (fun i s hi hI => by
      subst hI
      exact ⟨_, derS_step hp2 ha hi _, rfl⟩) (fun s hI => by
      simp only [spec_DerivativeOf_l1]
      rw [if_neg (by rw [decide_eq_true_eq]; omega)]) 63 0 (vrep 64 0) (by omega) rfl
  have g1' : loopM (fun s : Int × V64 => spec_DerivativeOf_l1 p a s.1 s.2) (1, vrep 64 0) = some s := g1
  simp only [spec_DerivativeOf, code_is (p := p) (l := [a]) (by simp [ha]) (by simp), List.all_cons, List.all_nil, hp, hs, Bool.and_true, if_true, Option.bind_some, bne_self_eq_false, Bool.false_eq_true, if_false, g1', g2, dv]
theorem derI_is {p : Int} (hp : isP p = true) {a : V64} (ha : IsB a) (hs : small p a = true) : impl_DerivativeOf p a = some (dv p a, 0) := by
  have hp2 := isP_pos hp
  obtain ⟨s, g1, g2⟩ := loopM_for (body := fun s : Int × V64 => impl_DerivativeOf_l1 a p s.1 s.2) (fun i s => (((i + 1 : Nat) : Int), s)) (fun s => s) 63
    (fun i s => s = dvl p a i) (fun i s hi hI => by
      subst hI
      exact ⟨_, derI_step hp2 ha hi _, rfl⟩) (fun s hI => by
      simp only [impl_DerivativeOf_l1]
      rw [if_neg (by rw [decide_eq_true_eq]; omega)]) 63 0 (vrep 64 0) (by omega) rfl
  have g1' : loopM (fun s : Int × V64 => impl_DerivativeOf_l1 a p s.1 s.2) (1, vrep 64 0) = some s := g1
  simp only [impl_DerivativeOf, polysCode_is (p := p) (l := [a]) (by simp [ha]) (by simp), List.all_cons, List.all_nil, hp, hs, Bool.and_true, if_true, Option.bind_some, bne_self_eq_false, Bool.false_eq_true, if_false, g1', g2, dv]
attribute [irreducible] dv
theorem isOne_is (l : List Int) : impl_isOne l = some (decide (l.length = 1 ∧ rd l 0 = 1)) := by
  simp only [impl_isOne]
  by_cases h : l.length = 1
  · rw [if_pos (by simp [h]), ifp_pos (by omega)]
    congr 1
    rw [Bool.eq_iff_iff]
    simp [h]
  · rw [if_neg (by simp; omega)]
    simp [h]
/-- A discriminant. -/
noncomputable def disc (p : Int) (d : V64) : Bool :=
  isP p && small p d && decide (p ≠ 2) && decide ((row d).length = 2 ∨ (row d).length = 4 ∨ (row d).length = 6) && decide ((bz p (row d) (row (dv p d))).1.length = 1)
theorem degS_row' (v : V64) : spec_l01Deg v = some (((row v).length : Int) - 1) := by rw [deg_is, row_length]
theorem degI_row' (v : V64) : impl_row_degree (row v) = some (((row v).length : Int) - 1) := by
  have := row_len v
  simp only [impl_row_degree]
  rw [wrap64 (by omega) (by omega)]
theorem deg_pad {p : Int} {l : List Int} (hl : Row p l) (h : l.length ≤ 64) : spec_l01Deg (pad l) = some ((l.length : Int) - 1) := by rw [deg_is, rd_pad_fun h, hl.top h]
theorem discS_is {p : Int} {d : V64} (hd : IsB d) : spec_l07Is p d = some (disc p d) := by
  simp only [spec_l07Is, is_is hd, Option.bind_some, degS_row']
  by_cases hok : (isP p && small p d) = true
  · obtain ⟨hp, hs⟩ : isP p = true ∧ small p d = true := by simpa using hok
    have hp2 := isP_pos hp
    by_cases h2 : p = 2
    · simp [disc, hp, hs, h2]
    · by_cases h3 : (row d).length = 2 ∨ (row d).length = 4 ∨ (row d).length = 6
      · have hrd := row_row (res_of_small hd hs)
        have hrv := row_row (dv_res hp2.1 d)
        have hl := row_len d
        have hb := bezoutS_is hp hrd hrv (row_len d) (row_len _) (.inl (by omega))
        rw [pad_row, pad_row] at hb
        obtain ⟨b1, b2, b3, b4⟩ := bz_monic hp hrd hrv (row_len d) (row_len _) (.inl (by omega))
        have hg : spec_l01Gcd p d (dv p d) = some (pad (bz p (row d) (row (dv p d))).1) := by
          simp only [spec_l01Gcd, degS_row', Option.bind_some]
          rw [if_neg (by rw [decide_eq_true_eq]; omega)]
          simp only [Option.bind_some, Bool.false_eq_true, if_false, hb]
        have e1 : ((if (((row d).length : Int) - 1 != 1) = true then if (((row d).length : Int) - 1 != 3) = true then some (((row d).length : Int) - 1 != 5) else some false else some false) : Option Bool) = some false := by
          rcases h3 with h | h | h <;> rw [h] <;> rfl
        have e2 : (p == 2) = false := by simp [h2]
        simp only [hp, hs, Bool.and_true, Bool.not_true, Bool.false_eq_true, if_false, Option.bind_some, e2, e1, derS_is hp hd hs, hg, deg_pad b1 b3]
        refine congrArg some ?_
        have key : disc p d = decide ((bz p (row d) (row (dv p d))).1.length = 1) := by
          simp only [disc, hp, hs, decide_eq_true (show p ≠ 2 from h2), decide_eq_true h3, Bool.and_self, Bool.true_and]
        rw [key, Bool.eq_iff_iff, beq_iff_eq, decide_eq_true_eq]
        rw [row_pad b1 b3]
        omega
      · have e2 : (p == 2) = false := by simp [h2]
        have e1 : ((if (((row d).length : Int) - 1 != 1) = true then if (((row d).length : Int) - 1 != 3) = true then some (((row d).length : Int) - 1 != 5) else some false else some false) : Option Bool) = some true := by
          rw [if_pos (by rw [bne_iff_ne]; omega), if_pos (by rw [bne_iff_ne]; omega)]
          congr 1
          rw [bne_iff_ne]; omega
        simp only [hp, hs, Bool.and_true, Bool.not_true, Bool.false_eq_true, if_false, if_true, Option.bind_some, e2, e1]
        simp [disc, h3]
  · have hok : (isP p && small p d) = false := by simpa using hok
    have hok' : (small p d && isP p) = false := by rw [Bool.and_comm]; exact hok
    simp [hok', disc, hok]
theorem discI_is {p : Int} {d : V64} (hd : IsB d) : impl_IsDiscriminant p d = some (disc p d) := by
  have hI : impl_IsPoly p d = some (isP p && small p d) := by
    simp only [impl_IsPoly, isPrime_impl, isPoly_is hd, Option.bind_some]
    cases isP p <;> simp
  simp only [impl_IsDiscriminant, hI, row_is hd, Option.bind_some, degI_row']
  by_cases hok : (isP p && small p d) = true
  · obtain ⟨hp, hs⟩ : isP p = true ∧ small p d = true := by simpa using hok
    have hp2 := isP_pos hp
    by_cases h2 : p = 2
    · simp [disc, hp, hs, h2]
    · by_cases h3 : (row d).length = 2 ∨ (row d).length = 4 ∨ (row d).length = 6
      · have hrd := row_row (res_of_small hd hs)
        have hrv := row_row (dv_res hp2.1 d)
        have hl := row_len d
        have hv : IsB (dv p d) := fun x hx => by
          obtain ⟨i, hi, rfl⟩ := List.getElem_of_mem hx
          have h1 := (dv_res hp2.1 d) i (by rw [← (dv p d).2]; exact hi)
          rw [rd_lt hi] at h1
          omega
        have hb := bezoutI_is hp hrd hrv (row_len d) (row_len _) (.inl (by omega))
        obtain ⟨b1, b2, b3, b4⟩ := bz_monic hp hrd hrv (row_len d) (row_len _) (.inl (by omega))
        have e1 : ((if (((row d).length : Int) - 1 != 1) = true then if (((row d).length : Int) - 1 != 3) = true then some (((row d).length : Int) - 1 != 5) else some false else some false) : Option Bool) = some false := by
          rcases h3 with h | h | h <;> rw [h] <;> rfl
        have e2 : (p == 2) = false := by simp [h2]
        simp only [hp, hs, Bool.and_true, Bool.not_true, Bool.false_eq_true, if_false, Option.bind_some, e2, e1, derI_is hp hd hs, row_is hv, impl_prime_gcd, hb, isOne_is]
        refine congrArg some ?_
        have key : disc p d = decide ((bz p (row d) (row (dv p d))).1.length = 1) := by
          simp only [disc, hp, hs, decide_eq_true (show p ≠ 2 from h2), decide_eq_true h3, Bool.and_self, Bool.true_and]
        rw [key, Bool.eq_iff_iff, decide_eq_true_eq, decide_eq_true_eq]
        constructor
        · exact fun h => h.1
        · intro h
          refine ⟨h, ?_⟩
          unfold lead at b4
          rw [h] at b4
          exact b4
      · have e2 : (p == 2) = false := by simp [h2]
        have e1 : ((if (((row d).length : Int) - 1 != 1) = true then if (((row d).length : Int) - 1 != 3) = true then some (((row d).length : Int) - 1 != 5) else some false else some false) : Option Bool) = some true := by
          rw [if_pos (by rw [bne_iff_ne]; omega), if_pos (by rw [bne_iff_ne]; omega)]
          congr 1
          rw [bne_iff_ne]; omega
        simp only [hp, hs, Bool.and_true, Bool.not_true, Bool.false_eq_true, if_false, if_true, Option.bind_some, e2, e1]
        simp [disc, h3]
  · have hok : (isP p && small p d) = false := by simpa using hok
    simp [disc, hok]
end Go.Proofs.Ytebfhlnfmkhmcaa
/- Monic polynomials, in the program. -/
namespace Go.Proofs.Ytebfhlnfmkhmcaa
open Go.Abs

/-- The monic polynomials of degree d. -/
def monicL (p d : Nat) (n : Nat) : List (List Int) := (List.range n).map fun i => digs p (p ^ d + i)
theorem monics_is {p d : Nat} (hp : 2 ≤ p ∧ p ≤ 7) (hd : d ≤ 1000000) (hm : p ^ d ≤ 343) : impl_prime_monics p d = some (monicL p d (p ^ d)) := by
  obtain ⟨c, h1, h2, _⟩ := norm_is (n := d) (most := 343) hp hd (by omega)
  have hc : c = p ^ d := by omega
  subst hc
  have h1' : impl_prime_norm p d 343 = some ((p ^ d : Nat) : Int) := h1
  simp only [impl_prime_monics, h1', Option.bind_some]
  generalize hn : p ^ d = n at *
  obtain ⟨s, g1, g2⟩ := loopM_for (body := fun s : Int × List (List Int) => impl_prime_monics_l1 (n : Int) p s.1 s.2) (fun i s => ((i : Int), s)) (fun s => s) n
    (fun i s => s = (List.range i).map fun i => digs p (n + i)) (fun i s hi hI => by
      subst hI
      refine ⟨_, ?_, rfl⟩
      simp only [impl_prime_monics_l1]
      have e : IntKind.i64.wrap ((n : Int) + (i : Int)) = ((n + i : Nat) : Int) := by rw [wrap64 (by omega) (by omega)]; omega
      rw [if_pos (decide_eq_true (by omega)), e, numbered_is hp.1 (by omega)]
      simp only [Option.bind_some]
      rw [ifp_pos (by simp; omega), wrap64 (by omega) (by omega), List.range_succ, List.map_append]
      rfl) (fun s hI => by
      simp only [impl_prime_monics_l1]
      rw [if_neg (by rw [decide_eq_true_eq]; omega)]) n 0 [] (by omega) rfl
  have g1' : loopM (fun s : Int × List (List Int) => impl_prime_monics_l1 (n : Int) p s.1 s.2) (0, []) = some s := g1
  rw [g1', g2, monicL, hn]
  rfl
end Go.Proofs.Ytebfhlnfmkhmcaa
/- Digits of numbers, one by one. -/
namespace Go.Proofs.Ytebfhlnfmkhmcaa
open Go.Abs

theorem digs_rd {p : Nat} (hp : 2 ≤ p) : ∀ (j n : Nat), rd (digs p n) j = ((n / p ^ j % p : Nat) : Int)
  | 0, n => by
    rcases Nat.eq_zero_or_pos n with rfl | h
    · rw [digs_zero]; simp [rd]
    · rw [digs_pos hp h]; simp [rd]
  | j + 1, n => by
    rcases Nat.eq_zero_or_pos n with rfl | h
    · rw [digs_zero]; simp [rd]
    · rw [digs_pos hp h, rd_cons, digs_rd hp j, Nat.pow_succ, Nat.mul_comm (p ^ j), Nat.div_div_eq_div_mul]
theorem digs_monic {p g i : Nat} (hp : 2 ≤ p) (hi : i < p ^ g) : rd (digs p (p ^ g + i)) g = 1 := by
  have hpos : 0 < p ^ g := Nat.pow_pos (by omega)
  rw [digs_rd hp, Nat.add_div_left _ hpos, Nat.div_eq_of_lt hi]
  have : (0 + 1) % p = 1 := Nat.mod_eq_of_lt (by omega)
  rw [this]; rfl
end Go.Proofs.Ytebfhlnfmkhmcaa
/- Monic polynomials from their numbers. -/
namespace Go.Proofs.Ytebfhlnfmkhmcaa
open Go.Abs

theorem monic_pad {p n k : Nat} (hp : 2 ≤ p) (hn : n < 64) (hk : k < p ^ n) : vset (pad (digs p k)) n 1 = pad (digs p (p ^ n + k)) := by
  refine vec_ext fun j hj => ?_
  rw [rd_vset _ _ _ _ hn, rd_padl _ hj, rd_padl _ hj, digs_rd hp, digs_rd hp]
  have hpos : ∀ e, 0 < p ^ e := fun e => Nat.pow_pos (by omega)
  rcases Nat.lt_trichotomy j n with h | h | h
  · rw [if_neg (by omega)]
    have e1 : p ^ n = p ^ j * (p * p ^ (n - j - 1)) := by
      rw [← Nat.mul_assoc, ← Nat.pow_succ, ← Nat.pow_add]; congr 1; omega
    rw [e1, Nat.mul_add_div (hpos j), Nat.mul_add_mod]
  · subst h
    rw [if_pos rfl, Nat.add_div_left _ (hpos j), Nat.div_eq_of_lt hk]
    have : (0 + 1) % p = 1 := Nat.mod_eq_of_lt (by omega)
    simp [this]
  · rw [if_neg (by omega)]
    have h1 : p ^ n * 2 ≤ p ^ j := by
      have : p ^ (n + 1) ≤ p ^ j := Nat.pow_le_pow_right (by omega) h
      rw [Nat.pow_succ] at this
      have := Nat.mul_le_mul_left (p ^ n) hp
      omega
    rw [Nat.div_eq_of_lt (show k < p ^ j by omega), Nat.div_eq_of_lt (show p ^ n + k < p ^ j by omega)]
theorem digs_short {p g j : Nat} (hp : 2 ≤ p) (hj : j < p ^ g) : (digs p j).length ≤ g := by
  rcases Nat.lt_or_ge g (digs p j).length with h | h
  · have h1 := (digs_row hp j).nrm (by omega)
    rw [digs_rd hp] at h1
    have h2 : p ^ g ≤ p ^ ((digs p j).length - 1) := Nat.pow_le_pow_right (by omega) (by omega)
    rw [Nat.div_eq_of_lt (by omega)] at h1
    exact absurd (by simp) h1
  · exact h
end Go.Proofs.Ytebfhlnfmkhmcaa
/- The leading coefficient. -/
namespace Go.Proofs.Ytebfhlnfmkhmcaa
open Go.Abs

theorem lead_any {b : List Int} (hl : b.length ≤ 1000000) : impl_row_lead b = some (lead b) := by
  by_cases h : b.length = 0
  · have e : b = [] := List.eq_nil_of_length_eq_zero h
    subst e
    rfl
  · exact lead_is h hl
theorem degS_row (v : V64) : spec_l01Deg v = some (((row v).length : Int) - 1) := by rw [deg_is, row_length]
theorem lead_nil : lead [] = 0 := rfl
theorem monicS_is (v : V64) : spec_l01Monic v = some (decide (lead (row v) = 1)) := by
  have hl := row_len v
  simp only [spec_l01Monic, degS_row, Option.bind_some]
  by_cases h : (row v).length = 0
  · have e : row v = [] := List.eq_nil_of_length_eq_zero h
    rw [e, lead_nil]
    simp
  · have e : ((row v).length : Int) - 1 = (((row v).length - 1 : Nat) : Int) := by omega
    rw [e, if_pos (decide_eq_true (by omega)), ifp_pos (by omega), Int.toNat_natCast, ← row_rd v (by omega)]
    congr 1
end Go.Proofs.Ytebfhlnfmkhmcaa
/- Reduced forms. -/
namespace Go.Proofs.Ytebfhlnfmkhmcaa
open Go.Abs

/-- Does A divide B B - D? -/
def isF (p : Int) (D A B : List Int) : Bool := decide ((rem p (comb p (mul p B B) D (-1)) A).length = 0)
theorem isb_res {p : Int} (hp : p ≤ 256) {v : V64} (h : Res p v) : IsB v := fun x hx => by
  obtain ⟨i, hi, rfl⟩ := List.getElem_of_mem hx
  have h1 := h i (by rw [← v.2]; exact hi)
  rw [rd_lt hi] at h1
  omega
theorem small_res {p : Int} {v : V64} (h : Res p v) : small p v = true := by
  simp only [small, decide_eq_true_eq]
  exact fun j hj => (h j hj).2
theorem isPad {p : Int} (hp : isP p = true) {A : List Int} (hA : Row p A) : spec_l01Is p (pad A) = some true := by
  have hp2 := isP_pos hp
  have h := res_pad hA (show 0 < p by omega)
  rw [is_is (isb_res (by omega) h), small_res h, hp, Bool.and_self]
theorem formS_is {p : Int} (hp : isP p = true) {d : V64} (hd : Res p d) (ld : (row d).length ≤ 6) {A B : List Int} (hA : Row p A) (hB : Row p B) (h1 : lead A = 1) (lA : A.length ≤ 13) (lB : B.length < A.length) :
    spec_l07Form p d (pad A, pad B) = some (isF p (row d) A B) := by
  have hp2 := isP_pos hp
  have hq : 0 < p ∧ p ≤ 256 := by omega
  have hrd := row_row hd
  have m1 := mul_len p B B
  have c1 := comb_len p (mul p B B) (row d) (-1)
  have hm : spec_l01Monic (pad A) = some true := by rw [monicS_is, row_pad hA (by omega), h1, decide_eq_true rfl]
  have hsq : spec_l07Square p d (pad B) = some (pad (comb p (mul p B B) (row d) (-1))) := by
    simp only [spec_l07Square]
    rw [times_pad (by omega) hB hB (by omega) (by omega) (.inr (.inr (by omega)))]
    simp only [Option.bind_some]
    have := add_pad hq (mul_row hq.1 B B) hrd (by omega) (by omega) (show -1099511627776 ≤ (-1 : Int) ∧ (-1 : Int) ≤ 1099511627776 by omega)
    rw [pad_row] at this
    simp only [this, Option.bind_some]
  have hmod : spec_l01Mod p (pad (comb p (mul p B B) (row d) (-1))) (pad A) = some (pad (rem p (comb p (mul p B B) (row d) (-1)) A)) := by
    simp only [spec_l01Mod]
    rw [divideS_is hp (comb_row hq.1 _ _ _) hA (by omega) (by omega) (by omega), Option.bind_some]
  have hrem := rem_row hq.1 (comb_row hq.1 (mul p B B) (row d) (-1)) A
  have lrem := rem_len' p (comb p (mul p B B) (row d) (-1)) A
  simp only [spec_l07Form, isPad hp hA, isPad hp hB, hm, Option.bind_some, Bool.not_true, Bool.false_eq_true, if_false, deg_pad hA (by omega), deg_pad hB (by omega)]
  rw [if_neg (by rw [decide_eq_true_eq]; omega)]
  rw [show decide ((B.length : Int) - 1 ≥ (A.length : Int) - 1) = false from decide_eq_false (by omega)]
  simp only [Option.bind_some, Bool.false_eq_true, if_false, hsq, hmod, deg_pad hrem (by omega)]
  refine congrArg some ?_
  rw [isF, Bool.eq_iff_iff]
  simp only [decide_eq_true_eq]
  omega
theorem formI_is {p : Int} (hp : isP p = true) {D A B : List Int} (hD : Row p D) (ld : D.length ≤ 6) (hA : Row p A) (hB : Row p B) (h1 : lead A = 1) (lA : A.length ≤ 13) (lB : B.length < A.length) :
    impl_curve_isForm (p, D) (A, B) = some (isF p D A B) := by
  have hp2 := isP_pos hp
  have hq : 0 < p ∧ p ≤ 256 := by omega
  have m1 := mul_len p B B
  have c1 := comb_len p (mul p B B) D (-1)
  have dg : ∀ l : List Int, l.length ≤ 1000 → impl_row_degree l = some ((l.length : Int) - 1) := fun l hl => by
    simp only [impl_row_degree]
    rw [wrap64 (by omega) (by omega)]
  have hrest : impl_prime_rest p (comb p (mul p B B) D (-1)) A = some (rem p (comb p (mul p B B) D (-1)) A) := by
    simp only [impl_prime_rest]
    rw [divideI_is hp (comb_row hq.1 _ _ _) hA (by omega) (by omega) (by omega), Option.bind_some]
  simp only [impl_curve_isForm, lead_any (show A.length ≤ 1000000 by omega), h1, Option.bind_some, beq_self_eq_true, if_true, dg A (by omega), dg B (by omega)]
  rw [if_pos (decide_eq_true (by omega)), if_pos (decide_eq_true (by omega)), times_is (by omega) (hB.ent hq) (hB.ent hq) (by omega) (by omega)]
  simp only [Option.bind_some]
  rw [combine_is hq ((mul_row hq.1 _ _).ent hq) (hD.ent hq) (by omega) (by omega) (by omega)]
  simp only [Option.bind_some, hrest, isOne_is]
  have hrl := rem_len hp (comb_row hq.1 (mul p B B) D (-1)) hA (by omega)
  unfold isF
  by_cases h0 : (rem p (comb p (mul p B B) D (-1)) A).length = 0
  · rw [if_pos (by rw [beq_iff_eq]; omega), decide_eq_true h0]
  · have : ¬ (A.length = 1 ∧ rd A 0 = 1) := fun h => by omega
    rw [if_neg (by rw [beq_iff_eq]; omega), decide_eq_false this, decide_eq_false h0]
    rfl

/-- The forms. -/
def f3 (p : Nat) (D A : List Int) : Nat → List (List Int × List Int)
  | 0 => []
  | j + 1 => if isF p D A (digs p j) then f3 p D A j ++ [(A, digs p j)] else f3 p D A j
def f2 (p : Nat) (D : List Int) (g : Nat) : Nat → List (List Int × List Int)
  | 0 => []
  | i + 1 => f2 p D g i ++ f3 p D (digs p (p ^ g + i)) (p ^ g)
def f1 (p : Nat) (D : List Int) : Nat → List (List Int × List Int)
  | 0 => []
  | g + 1 => f1 p D g ++ f2 p D g (p ^ g)
theorem f3_len (p : Nat) (D A : List Int) : ∀ j, (f3 p D A j).length ≤ j
  | 0 => Nat.le_refl _
  | j + 1 => by
    have := f3_len p D A j
    simp only [f3]
    split
    · simp; omega
    · omega
theorem f2_len (p : Nat) (D : List Int) (g : Nat) : ∀ i, (f2 p D g i).length ≤ i * p ^ g
  | 0 => by simp [f2]
  | i + 1 => by
    have h1 := f2_len p D g i
    have h2 := f3_len p D (digs p (p ^ g + i)) (p ^ g)
    simp only [f2, List.length_append, Nat.add_mul, Nat.one_mul]
    omega
def pp (q : List Int × List Int) : V64 × V64 := (pad q.1, pad q.2)

theorem l3S {p g i : Nat} (hp : isP p = true) (hg : p ^ g ≤ 343) (hg2 : g ≤ 8) (hi : i < p ^ g) {d : V64} (hd : Res p d) (ld : (row d).length ≤ 6) (l0 : List (V64 × V64)) (hl0 : l0.length ≤ 1000000) :
    loopM (fun s : Int × List (V64 × V64) => spec_l07All_l3 p g d (pad (digs p i)) s.1 s.2) (0, l0) = some (l0 ++ (f3 p (row d) (digs p (p ^ g + i)) (p ^ g)).map pp) := by
  have hp2 := isP_pos hp
  have hpn : 2 ≤ p ∧ p ≤ 7 := by omega
  obtain ⟨c, h1, h2⟩ := count_is (n := g) hpn (by omega)
  have hc : c = p ^ g := by omega
  subst hc
  have hA := digs_row hpn.1 (p ^ g + i)
  have lA := digs_monic_len hpn.1 hi
  have leadA : lead (digs p (p ^ g + i)) = 1 := by
    unfold lead
    rw [lA]
    exact digs_monic hpn.1 hi
  obtain ⟨s, g1, g2⟩ := loopM_for (body := fun s : Int × List (V64 × V64) => spec_l07All_l3 p g d (pad (digs p i)) s.1 s.2) (fun j s => ((j : Int), s)) (fun s => s) (p ^ g)
    (fun j s => s = l0 ++ (f3 p (row d) (digs p (p ^ g + i)) j).map pp) (fun j s hj hI => by
      subst hI
      refine ⟨_, ?_, rfl⟩
      have hfl := f3_len p (row d) (digs p (p ^ g + i)) j
      have lB := digs_short hpn.1 hj
      have hf := formS_is hp hd ld hA (digs_row hpn.1 j) leadA (by omega) (show (digs p j).length < _ by omega)
      simp only [spec_l07All_l3, h1, Option.bind_some]
      rw [if_pos (decide_eq_true (by omega)), of_is hpn.1 (by omega) (by omega)]
      simp only [Option.bind_some, Int.toNat_natCast]
      rw [monic_pad hpn.1 (by omega) hi, hf]
      simp only [Option.bind_some, f3]
      rw [wrap64 (by omega) (by omega)]
      cases isF p (row d) (digs p (p ^ g + i)) (digs p j) with
      | false => rfl
      | true =>
        simp only [if_true]
        rw [ifp_pos (by simp; omega)]
        simp only [Option.bind_some, List.map_append, List.append_assoc]
        rfl) (fun s hI => by
      simp only [spec_l07All_l3, h1, Option.bind_some]
      rw [if_neg (by rw [decide_eq_true_eq]; omega)]) (p ^ g) 0 l0 (by omega) (by simp [f3])
  have g1' : loopM (fun s : Int × List (V64 × V64) => spec_l07All_l3 p g d (pad (digs p i)) s.1 s.2) (0, l0) = some s := g1
  rw [g1', g2]
theorem l2S {p g : Nat} (hp : isP p = true) (hg : p ^ g ≤ 343) (hg2 : g ≤ 8) {d : V64} (hd : Res p d) (ld : (row d).length ≤ 6) (l0 : List (V64 × V64)) (hl0 : l0.length ≤ 500000) :
    loopM (fun s : Int × List (V64 × V64) => spec_l07All_l2 p g d s.1 s.2) (0, l0) = some (l0 ++ (f2 p (row d) g (p ^ g)).map pp) := by
  have hp2 := isP_pos hp
  have hpn : 2 ≤ p ∧ p ≤ 7 := by omega
  obtain ⟨c, h1, h2⟩ := count_is (n := g) hpn (by omega)
  have hc : c = p ^ g := by omega
  subst hc
  obtain ⟨s, g1, g2⟩ := loopM_for (body := fun s : Int × List (V64 × V64) => spec_l07All_l2 p g d s.1 s.2) (fun j s => ((j : Int), s)) (fun s => s) (p ^ g)
    (fun j s => s = l0 ++ (f2 p (row d) g j).map pp) (fun j s hj hI => by
      subst hI
      refine ⟨_, ?_, rfl⟩
      have hfl := f2_len p (row d) g j
      have hfl2 : j * p ^ g ≤ 343 * 343 := Nat.mul_le_mul (by omega) hg
      have h3 := l3S hp hg hg2 hj hd ld (l0 ++ (f2 p (row d) g j).map pp) (by simp; omega)
      simp only [spec_l07All_l2, h1, Option.bind_some]
      rw [if_pos (decide_eq_true (by omega)), of_is hpn.1 (by omega) (by omega)]
      simp only [Option.bind_some]
      rw [ifp_pos (by omega), h3]
      simp only [Option.bind_some, f2, List.map_append, List.append_assoc]
      rw [wrap64 (by omega) (by omega)]
      rfl) (fun s hI => by
      simp only [spec_l07All_l2, h1, Option.bind_some]
      rw [if_neg (by rw [decide_eq_true_eq]; omega)]) (p ^ g) 0 l0 (by omega) (by simp [f2])
  have g1' : loopM (fun s : Int × List (V64 × V64) => spec_l07All_l2 p g d s.1 s.2) (0, l0) = some s := g1
  rw [g1', g2]
theorem l3I {p g i : Nat} (hp : isP p = true) (hg : p ^ g ≤ 343) (hg2 : g ≤ 8) (hi : i < p ^ g) {D : List Int} (hd : Row p D) (ld : D.length ≤ 6) (l0 : List (List Int × List Int)) (hl0 : l0.length ≤ 1000000) :
    loopM (fun s : Int × List (List Int × List Int) => impl_curve_forms_l3 ((p ^ g : Nat) : Int) ((p : Int), D) (monicL p g (p ^ g)) (i : Int) s.1 s.2) (0, l0) = some (l0 ++ f3 p D (digs p (p ^ g + i)) (p ^ g)) := by
  have hp2 := isP_pos hp
  have hpn : 2 ≤ p ∧ p ≤ 7 := by omega
  have hA := digs_row hpn.1 (p ^ g + i)
  have lA := digs_monic_len hpn.1 hi
  have leadA : lead (digs p (p ^ g + i)) = 1 := by
    unfold lead
    rw [lA]
    exact digs_monic hpn.1 hi
  have hrd : rd (monicL p g (p ^ g)) i = digs p (p ^ g + i) := by simp [rd, monicL, hi]
  generalize hM : monicL p g (p ^ g) = M at *
  obtain ⟨s, g1, g2⟩ := loopM_for (body := fun s : Int × List (List Int × List Int) => impl_curve_forms_l3 ((p ^ g : Nat) : Int) ((p : Int), D) M (i : Int) s.1 s.2) (fun j s => ((j : Int), s)) (fun s => s) (p ^ g)
    (fun j s => s = l0 ++ f3 p D (digs p (p ^ g + i)) j) (fun j s hj hI => by
      subst hI
      refine ⟨_, ?_, rfl⟩
      have hfl := f3_len p D (digs p (p ^ g + i)) j
      have lB := digs_short hpn.1 hj
      have hf := formI_is hp hd ld hA (digs_row hpn.1 j) leadA (by omega) (show (digs p j).length < _ by omega)
      simp only [impl_curve_forms_l3]
      rw [if_pos (decide_eq_true (by omega)), numbered_is hpn.1 (by omega)]
      simp only [Option.bind_some, Int.toNat_natCast, hrd]
      rw [hf]
      simp only [Option.bind_some, f3]
      rw [wrap64 (by omega) (by omega)]
      cases isF p D (digs p (p ^ g + i)) (digs p j) with
      | false => rfl
      | true =>
        simp only [if_true]
        rw [ifp_pos (by simp; omega)]
        simp only [Option.bind_some, List.append_assoc]
        rfl) (fun s hI => by
      simp only [impl_curve_forms_l3]
      rw [if_neg (by rw [decide_eq_true_eq]; omega)]) (p ^ g) 0 l0 (by omega) (by simp [f3])
  have g1' : loopM (fun s : Int × List (List Int × List Int) => impl_curve_forms_l3 ((p ^ g : Nat) : Int) ((p : Int), D) M (i : Int) s.1 s.2) (0, l0) = some s := g1
  rw [g1', g2]
theorem l2I {p g : Nat} (hp : isP p = true) (hg : p ^ g ≤ 343) (hg2 : g ≤ 8) {D : List Int} (hd : Row p D) (ld : D.length ≤ 6) (l0 : List (List Int × List Int)) (hl0 : l0.length ≤ 500000) :
    loopM (fun s : Int × List (List Int × List Int) => impl_curve_forms_l2 (monicL p g (p ^ g)) ((p : Int), D) (g : Int) s.1 s.2) (0, l0) = some (l0 ++ f2 p D g (p ^ g)) := by
  have hp2 := isP_pos hp
  have hpn : 2 ≤ p ∧ p ≤ 7 := by omega
  obtain ⟨c, h1, h2, _⟩ := norm_is (n := g) (most := 1099511627776) hpn (by omega) (by omega)
  have hc : c = p ^ g := by omega
  subst hc
  have h1' : impl_prime_norm p g 1099511627776 = some ((p ^ g : Nat) : Int) := h1
  have hml : (monicL p g (p ^ g)).length = p ^ g := by simp [monicL]
  obtain ⟨s, g1, g2⟩ := loopM_for (body := fun s : Int × List (List Int × List Int) => impl_curve_forms_l2 (monicL p g (p ^ g)) ((p : Int), D) (g : Int) s.1 s.2) (fun j s => ((j : Int), s)) (fun s => s) (p ^ g)
    (fun j s => s = l0 ++ f2 p D g j) (fun j s hj hI => by
      subst hI
      refine ⟨_, ?_, rfl⟩
      have hfl := f2_len p D g j
      have hfl2 : j * p ^ g ≤ 343 * 343 := Nat.mul_le_mul (by omega) hg
      have h3 := l3I hp hg hg2 hj hd ld (l0 ++ f2 p D g j) (by simp; omega)
      simp only [impl_curve_forms_l2, hml]
      rw [if_pos (decide_eq_true (by omega)), ifp_pos (by omega), h1']
      simp only [Option.bind_some, h3, f2, List.append_assoc]
      rw [wrap64 (by omega) (by omega)]
      rfl) (fun s hI => by
      simp only [impl_curve_forms_l2, hml]
      rw [if_neg (by rw [decide_eq_true_eq]; omega)]) (p ^ g) 0 l0 (by omega) (by simp [f2])
  have g1' : loopM (fun s : Int × List (List Int × List Int) => impl_curve_forms_l2 (monicL p g (p ^ g)) ((p : Int), D) (g : Int) s.1 s.2) (0, l0) = some s := g1
  rw [g1', g2]
end Go.Proofs.Ytebfhlnfmkhmcaa
/- A row as an array. -/
namespace Go.Proofs.Ytebfhlnfmkhmcaa
open Go.Abs

end Go.Proofs.Ytebfhlnfmkhmcaa
/- The lists of forms on both sides. -/
namespace Go.Proofs.Ytebfhlnfmkhmcaa
open Go.Abs

theorem f1_len {p : Nat} (D : List Int) : ∀ g, (∀ i, i < g → p ^ i ≤ 343) → (f1 p D g).length ≤ g * 117649
  | 0, _ => by simp [f1]
  | g + 1, h => by
    have h1 := f1_len (p := p) D g fun i hi => h i (by omega)
    have h2 := f2_len p D g (p ^ g)
    have h3 := h g (by omega)
    have h4 : p ^ g * p ^ g ≤ 343 * 343 := Nat.mul_le_mul h3 h3
    simp only [f1, List.length_append]
    omega
theorem few2 {p g : Nat} (hp : p ≤ 7) (hg : g ≤ 2) : p ^ g ≤ 343 := by
  have h1 : p ^ g ≤ 7 ^ g := Nat.pow_le_pow_left hp g
  have h2 : 7 ^ g ≤ 7 ^ 2 := Nat.pow_le_pow_right (by omega) hg
  omega
/-- Rows of at most 64 coefficients. -/
def Fine (p : Int) (q : List Int × List Int) : Prop := (Row p q.1 ∧ q.1.length ≤ 64) ∧ (Row p q.2 ∧ q.2.length ≤ 64)
theorem gen_val {l G : Nat} (hG : l = 2 * G + 2) (hs : G ≤ 2) : IntKind.i64.wrap (Int.tdiv (IntKind.i64.wrap ((l : Int) - 1 - 1)) 2) = (G : Int) := by
  have e : (l : Int) - 1 - 1 = 2 * (G : Int) := by omega
  rw [e, wrap64 (n := 2 * (G : Int)) (by omega) (by omega), Int.tdiv_eq_ediv_of_nonneg (by omega), show 2 * (G : Int) / 2 = (G : Int) by omega, wrap64 (by omega) (by omega)]
theorem allS {p G : Nat} (hp : isP p = true) {d : V64} (hd : Res p d) (hG : (row d).length = 2 * G + 2) (hs : G ≤ 2) : spec_l07All p d = some ((f1 p (row d) (G + 1)).map pp) := by
  have hp2 := isP_pos hp
  have hgen : spec_l07Genus d = some (G : Int) := by simp only [spec_l07Genus, degS_row', Option.bind_some, gen_val hG hs]
  obtain ⟨s, g1, g2⟩ := loopM_for (body := fun s : Int × List (V64 × V64) => spec_l07All_l1 d p s.1 s.2) (fun i s => ((i : Int), s)) (fun s => s) (G + 1)
    (fun i s => s = (f1 p (row d) i).map pp) (fun i s hi hI => by
      subst hI
      refine ⟨_, ?_, rfl⟩
      have hl := f1_len (p := p) (row d) i fun j hj => few2 (by omega) (by omega)
      have h2 := l2S (p := p) (g := i) hp (few2 (by omega) (by omega)) (by omega) hd (by omega) ((f1 p (row d) i).map pp) (by simp; omega)
      simp only [spec_l07All_l1, hgen, Option.bind_some]
      rw [if_pos (decide_eq_true (by omega)), h2]
      simp only [Option.bind_some, f1, List.map_append]
      rw [wrap64 (by omega) (by omega)]
      rfl) (fun s hI => by
      simp only [spec_l07All_l1, hgen, Option.bind_some]
      rw [if_neg (by rw [decide_eq_true_eq]; omega)]) (G + 1) 0 [] (by omega) (by simp [f1])
  have g1' : loopM (fun s : Int × List (V64 × V64) => spec_l07All_l1 d p s.1 s.2) (0, []) = some s := g1
  simp only [spec_l07All, g1', g2, Option.bind_some]
theorem formsI {p G : Nat} (hp : isP p = true) {D : List Int} (hd : Row p D) (hG : D.length = 2 * G + 2) (hs : G ≤ 2) : impl_curve_forms ((p : Int), D) = some (f1 p D (G + 1)) := by
  have hp2 := isP_pos hp
  have hgen : impl_curve_genus ((p : Int), D) = some (G : Int) := by
    simp only [impl_curve_genus, impl_row_degree, Option.bind_some]
    rw [wrap64 (n := (D.length : Int) - 1) (by omega) (by omega), gen_val hG hs]
  obtain ⟨s, g1, g2⟩ := loopM_for (body := fun s : Int × List (List Int × List Int) => impl_curve_forms_l1 (G : Int) ((p : Int), D) s.1 s.2) (fun i s => ((i : Int), s)) (fun s => s) (G + 1)
    (fun i s => s = f1 p D i) (fun i s hi hI => by
      subst hI
      refine ⟨_, ?_, rfl⟩
      have hl := f1_len (p := p) D i fun j hj => few2 (by omega) (by omega)
      have h2 := l2I (p := p) (g := i) hp (few2 (by omega) (by omega)) (by omega) hd (by omega) (f1 p D i) (by omega)
      simp only [impl_curve_forms_l1]
      rw [wrap64 (n := (G : Int) + 1) (by omega) (by omega), if_pos (decide_eq_true (by omega)), monics_is (by omega) (by omega) (few2 (by omega) (by omega))]
      simp only [Option.bind_some, h2, f1]
      rw [wrap64 (by omega) (by omega)]
      rfl) (fun s hI => by
      simp only [impl_curve_forms_l1]
      rw [wrap64 (n := (G : Int) + 1) (by omega) (by omega), if_neg (by rw [decide_eq_true_eq]; omega)]) (G + 1) 0 [] (by omega) (by simp [f1])
  have g1' : loopM (fun s : Int × List (List Int × List Int) => impl_curve_forms_l1 (G : Int) ((p : Int), D) s.1 s.2) (0, []) = some s := g1
  simp only [impl_curve_forms, hgen, g1', g2, Option.bind_some]
theorem noForms (p : Int) (d : V64) : impl_areAll_impl_Form_of_impl_formCode_c1_p_p [] p d = some true := by
  have step : slices_IndexFunc_impl_Form_impl_Form_of_impl_areAll_impl_Form__c1_p_formCode_c1_l1 [] p d 0 = some (.inr (.inl ())) := rfl
  have h : loopM (fun s : Int => slices_IndexFunc_impl_Form_impl_Form_of_impl_areAll_impl_Form__c1_p_formCode_c1_l1 [] p d s) 0 = some (.inl ()) := by
    rw [loopM_eq]
    simp only [step, Option.bind_some]
  simp only [impl_areAll_impl_Form_of_impl_formCode_c1_p_p, slices_ContainsFunc_impl_Form_impl_Form_of_impl_areAll_impl_Form__c1_p_formCode_c1, slices_IndexFunc_impl_Form_impl_Form_of_impl_areAll_impl_Form__c1_p_formCode_c1, h, Option.bind_some]
  rfl
theorem disc_spec {p : Int} {d : V64} (h : disc p d = true) : isP p = true ∧ small p d = true ∧ ∃ G : Nat, (row d).length = 2 * G + 2 ∧ G ≤ 2 := by
  simp only [disc, Bool.and_eq_true, decide_eq_true_eq] at h
  obtain ⟨⟨⟨⟨h1, h2⟩, _⟩, h3⟩, _⟩ := h
  exact ⟨h1, h2, ((row d).length - 2) / 2, by omega, by omega⟩
end Go.Proofs.Ytebfhlnfmkhmcaa
