/- Own texts, put together. -/
import Derived.Test.YtkbnegemdlnncaaAbsX
import Derived.Test.YtkbnegemdlnncaaFn1
import Derived.Test.YtkbnegemdlnncaaFn2
import Derived.Test.YtkbnegemdlnncaaFn3
import Derived.Test.YtkbnegemdlnncaaFn4
import Derived.Test.YtkbnegemdlnncaaFn5
import Derived.Test.YtkbnegemdlnncaaFn6
set_option linter.unusedSimpArgs false
set_option linter.unusedVariables false
/- Plain facts on loops and wraps. -/
namespace Go.Abs

/-- A loop with a measure ends, and what it leaves. -/
theorem loopM_ind {α β : Type} {body : α → Option (α ⊕ β)} (I : α → Prop) (Post : α → β → Prop) (m : α → Nat)
    (step : ∀ s, I s → (∃ s', body s = some (.inl s') ∧ I s' ∧ m s' < m s ∧ ∀ r, Post s' r → Post s r) ∨ ∃ r, body s = some (.inr r) ∧ Post s r) :
    ∀ s, I s → ∃ r, loopM body s = some r ∧ Post s r := by
  have key : ∀ n s, m s ≤ n → I s → ∃ r, loopM body s = some r ∧ Post s r := by
    intro n
    induction n with
    | zero =>
      intro s hn hs
      rcases step s hs with ⟨s', h1, h2, h3, h4⟩ | ⟨r, h1, h2⟩
      · omega
      · exact ⟨r, by rw [loopM_eq, h1]; rfl, h2⟩
    | succ n ih =>
      intro s hn hs
      rcases step s hs with ⟨s', h1, h2, h3, h4⟩ | ⟨r, h1, h2⟩
      · obtain ⟨r, k1, k2⟩ := ih s' (by omega) h2
        exact ⟨r, by rw [loopM_eq, h1]; exact k1, h4 r k2⟩
      · exact ⟨r, by rw [loopM_eq, h1]; rfl, h2⟩
  exact fun s hs => key (m s) s (Nat.le_refl _) hs

theorem wrap64 {n : Int} (h1 : -9223372036854775808 ≤ n) (h2 : n < 9223372036854775808) : IntKind.i64.wrap n = n := by
  simp only [IntKind.wrap, IntKind.signed, IntKind.bits]
  simp
  omega
theorem wrap8 {n : Int} (h1 : 0 ≤ n) (h2 : n < 256) : IntKind.u8.wrap n = n := by
  simp only [IntKind.wrap, IntKind.signed, IntKind.bits]
  simp
  omega

/-- A loop that counts from i to n. -/
theorem loopM_for {α β σ : Type} {body : α → Option (α ⊕ β)} (at' : Nat → σ → α) (out : σ → β) (n : Nat) (I : Nat → σ → Prop)
    (step : ∀ i s, i < n → I i s → ∃ s', body (at' i s) = some (.inl (at' (i + 1) s')) ∧ I (i + 1) s') (stop : ∀ s, I n s → body (at' n s) = some (.inr (out s))) :
    ∀ (m i : Nat) (s : σ), i + m = n → I i s → ∃ s', loopM body (at' i s) = some (out s') ∧ I n s'
  | 0, i, s, h, hI => by
    have : i = n := by omega
    subst this
    exact ⟨s, by rw [loopM_eq, stop s hI]; rfl, hI⟩
  | m + 1, i, s, h, hI => by
    obtain ⟨s', h1, h2⟩ := step i s (by omega) hI
    obtain ⟨s'', h3, h4⟩ := loopM_for at' out n I step stop m (i + 1) s' (by omega) h2
    exact ⟨s'', by rw [loopM_eq, h1]; exact h3, h4⟩
end Go.Abs
/- Commutative rings, told by their laws: powers, the Frobenius, roots of polynomials, powers in finite fields. -/
namespace Go.Abs

structure IsRing (K : Type) [Add K] [Mul K] [Neg K] [Zero K] [One K] : Prop where
  add_comm : ∀ a b : K, a + b = b + a
  add_assoc : ∀ a b c : K, a + b + c = a + (b + c)
  add_zero : ∀ a : K, a + 0 = a
  add_neg : ∀ a : K, a + -a = 0
  mul_comm : ∀ a b : K, a * b = b * a
  mul_assoc : ∀ a b c : K, a * b * c = a * (b * c)
  mul_one : ∀ a : K, a * 1 = a
  mul_add : ∀ a b c : K, a * (b + c) = a * b + a * c

section
variable {K : Type} [Add K] [Mul K] [Neg K] [Zero K] [One K]

def pw (x : K) : Nat → K
  | 0 => 1
  | n + 1 => pw x n * x
def nsm : Nat → K → K
  | 0, _ => 0
  | n + 1, x => nsm n x + x

namespace IsRing
variable (R : IsRing K)
include R
theorem zero_add (a : K) : 0 + a = a := by rw [R.add_comm, R.add_zero]
theorem neg_add (a : K) : -a + a = 0 := by rw [R.add_comm, R.add_neg]
theorem add_left_comm (a b c : K) : a + (b + c) = b + (a + c) := by rw [← R.add_assoc, R.add_comm a b, R.add_assoc]
theorem mul_left_comm (a b c : K) : a * (b * c) = b * (a * c) := by rw [← R.mul_assoc, R.mul_comm a b, R.mul_assoc]
theorem one_mul (a : K) : 1 * a = a := by rw [R.mul_comm, R.mul_one]
theorem add_mul (a b c : K) : (a + b) * c = a * c + b * c := by rw [R.mul_comm, R.mul_add, R.mul_comm c a, R.mul_comm c b]
theorem cancel {a b c : K} (h : a + b = a + c) : b = c := by
  have : -a + (a + b) = -a + (a + c) := by rw [h]
  rwa [← R.add_assoc, ← R.add_assoc, R.neg_add, R.zero_add, R.zero_add] at this
theorem mul_zero (a : K) : a * 0 = 0 := by
  have h : a * 0 + a * 0 = a * 0 + 0 := by rw [← R.mul_add, R.add_zero, R.add_zero]
  exact R.cancel h
theorem zero_mul (a : K) : 0 * a = 0 := by rw [R.mul_comm, R.mul_zero]
theorem neg_of {a b : K} (h : a + b = 0) : b = -a := R.cancel (a := a) (by rw [h, R.add_neg])
theorem mul_neg (a b : K) : a * -b = -(a * b) := R.neg_of (by rw [← R.mul_add, R.add_neg, R.mul_zero])
theorem neg_neg (a : K) : - -a = a := (R.neg_of (R.neg_add a)).symm
theorem sub_zero {a b : K} (h : a + -b = 0) : a = b := by
  have h' := R.neg_of ((R.add_comm _ _).trans h)
  rw [R.neg_neg] at h'
  exact h'

/-! Powers and multiples. -/
theorem pw_one (n : Nat) : pw (1 : K) n = 1 := by
  induction n with
  | zero => rfl
  | succ n ih => simp only [pw, ih, R.mul_one]
theorem pw_zero {n : Nat} (h : n ≠ 0) : pw (0 : K) n = 0 := by
  cases n with
  | zero => exact absurd rfl h
  | succ n => simp only [pw, R.mul_zero]
theorem pw_add (x : K) (n m : Nat) : pw x (n + m) = pw x n * pw x m := by
  induction m with
  | zero => simp only [pw, Nat.add_zero, R.mul_one]
  | succ m ih => rw [← Nat.add_assoc]; simp only [pw, ih, R.mul_assoc]
theorem pw_mul (x : K) (n m : Nat) : pw x (n * m) = pw (pw x n) m := by
  induction m with
  | zero => simp only [pw, Nat.mul_zero]
  | succ m ih => rw [Nat.mul_succ, R.pw_add, ih]; rfl
theorem mul_pw (x y : K) (n : Nat) : pw (x * y) n = pw x n * pw y n := by
  induction n with
  | zero => simp only [pw, R.mul_one]
  | succ n ih => simp only [pw, ih, R.mul_assoc, R.mul_left_comm]
theorem nsm_add (n m : Nat) (x : K) : nsm (n + m) x = nsm n x + nsm m x := by
  induction m with
  | zero => simp only [nsm, Nat.add_zero, R.add_zero]
  | succ m ih => rw [← Nat.add_assoc]; simp only [nsm, ih, R.add_assoc]
theorem nsm_mul (n m : Nat) (x : K) : nsm (n * m) x = nsm n (nsm m x) := by
  induction n with
  | zero => simp only [nsm, Nat.zero_mul]
  | succ n ih => rw [Nat.succ_mul, R.nsm_add, ih]; rfl
theorem mul_nsm (n : Nat) (x y : K) : x * nsm n y = nsm n (x * y) := by
  induction n with
  | zero => simp only [nsm, R.mul_zero]
  | succ n ih => simp only [nsm, R.mul_add, ih]
theorem nsm_zero (n : Nat) : nsm n (0 : K) = 0 := by
  induction n with
  | zero => rfl
  | succ n ih => simp only [nsm, ih, R.add_zero]

end IsRing

/-- The sum of c_i x^i y^(n - i). -/
def hom (x y : K) : List Nat → K
  | [] => 0
  | c :: l => nsm c (pw y l.length) + x * hom x y l
def pasc : Nat → List Nat → List Nat
  | k, [] => [k]
  | k, c :: l => (k + c) :: pasc c l
theorem pasc_len : ∀ (k : Nat) (l : List Nat), (pasc k l).length = l.length + 1
  | _, [] => rfl
  | k, c :: l => by simp only [pasc, List.length_cons, pasc_len c l]
def pascn : Nat → List Nat
  | 0 => [1]
  | n + 1 => pasc 0 (pascn n)

namespace IsRing
variable (R : IsRing K)
include R
theorem hom_pasc (x y : K) : ∀ (l : List Nat) (k : Nat), hom x y (pasc k l) = nsm k (pw y l.length) + (x + y) * hom x y l
  | [], k => by simp only [pasc, hom, List.length_nil, pw, R.mul_zero]
  | c :: l, k => by
    simp only [pasc, hom, pasc_len, List.length_cons, hom_pasc x y l c]
    have e1 : nsm (k + c) (pw y (l.length + 1)) = nsm k (pw y (l.length + 1)) + y * nsm c (pw y l.length) := by
      rw [R.nsm_add, R.mul_nsm, R.mul_comm y]; rfl
    rw [e1]
    simp only [R.mul_add, R.add_mul, R.add_assoc, R.mul_left_comm y x]
    congr 1
    exact R.add_left_comm _ _ _
theorem pw_sum (x y : K) (n : Nat) : pw (x + y) n = hom x y (pascn n) := by
  induction n with
  | zero => simp only [pw, pascn, hom, List.length_nil, nsm, R.mul_zero, R.add_zero, R.zero_add]
  | succ n ih => simp only [pw, pascn, ih, R.hom_pasc, nsm, R.zero_add, R.mul_comm]
theorem frob {p : Nat} (hp : p = 2 ∨ p = 3 ∨ p = 5 ∨ p = 7) (hc : ∀ x : K, nsm p x = 0) (x y : K) : pw (x + y) p = pw x p + pw y p := by
  have hm : ∀ m (z : K), nsm (m * p) z = 0 := fun m z => by rw [R.nsm_mul, hc, R.nsm_zero]
  rw [R.pw_sum]
  rcases hp with rfl | rfl | rfl | rfl
  · have h := hm 1
    show hom x y [1, 2, 1] = _
    simp only [hom, List.length_cons, List.length_nil, h, nsm, R.zero_add, R.add_zero, R.mul_zero, pw, R.mul_one, R.one_mul, R.mul_assoc] at h ⊢
    rw [R.add_comm]
    simp only [h, R.zero_add]
  · have h1 := hm 1
    show hom x y [1, 3, 3, 1] = _
    have e : ∀ z : K, nsm 3 z = 0 := h1
    unfold hom hom hom hom hom
    simp only [e, List.length_cons, List.length_nil, R.zero_add]
    simp only [nsm, R.zero_add, R.add_zero, R.mul_zero, pw, R.mul_one, R.one_mul, R.mul_assoc]
    rw [R.add_comm]
  · have e1 : ∀ z : K, nsm 5 z = 0 := hm 1
    have e2 : ∀ z : K, nsm 10 z = 0 := hm 2
    show hom x y [1, 5, 10, 10, 5, 1] = _
    unfold hom hom hom hom hom hom hom
    simp only [e1, e2, List.length_cons, List.length_nil, R.zero_add]
    simp only [nsm, R.zero_add, R.add_zero, R.mul_zero, pw, R.mul_one, R.one_mul, R.mul_assoc]
    rw [R.add_comm]
  · have e1 : ∀ z : K, nsm 7 z = 0 := hm 1
    have e2 : ∀ z : K, nsm 21 z = 0 := hm 3
    have e3 : ∀ z : K, nsm 35 z = 0 := hm 5
    show hom x y [1, 7, 21, 35, 35, 21, 7, 1] = _
    unfold hom hom hom hom hom hom hom hom hom
    simp only [e1, e2, e3, List.length_cons, List.length_nil, R.zero_add]
    simp only [nsm, R.zero_add, R.add_zero, R.mul_zero, pw, R.mul_one, R.one_mul, R.mul_assoc]
    rw [R.add_comm]
theorem frobn {p : Nat} (hp : p = 2 ∨ p = 3 ∨ p = 5 ∨ p = 7) (hc : ∀ x : K, nsm p x = 0) (x y : K) (n : Nat) : pw (x + y) (p ^ n) = pw x (p ^ n) + pw y (p ^ n) := by
  induction n with
  | zero => simp only [Nat.pow_zero, pw, R.one_mul]
  | succ n ih => rw [Nat.pow_succ, R.pw_mul, R.pw_mul, R.pw_mul, ih, R.frob hp hc]
end IsRing

/-! Polynomials from the leading coefficient on. -/
def hn (x : K) : K → List K → K
  | a, [] => a
  | a, c :: l => hn x (a * x + c) l
def synd (r : K) : K → List K → List K
  | _, [] => []
  | a, c :: l => a :: synd r (a * r + c) l
omit [Neg K] [Zero K] [One K] in
theorem synd_len (r : K) : ∀ (a : K) (l : List K), (synd r a l).length = l.length
  | _, [] => rfl
  | a, c :: l => by simp only [synd, List.length_cons, synd_len r _ l]

namespace IsRing
variable (R : IsRing K)
include R
theorem hn_synd (x r : K) : ∀ (l : List K) (a y : K), hn x (a + (x + -r) * y) l = (x + -r) * hn x y (synd r a l) + hn r a l
  | [], a, y => by simp only [hn, synd]; exact R.add_comm _ _
  | c :: l, a, y => by
    simp only [hn, synd]
    rw [← hn_synd x r l (a * r + c) (y * x + a)]
    congr 1
    have e : a * x = a * r + (x + -r) * a := by
      rw [R.add_mul, R.mul_comm (-r), R.mul_neg, R.mul_comm x a, R.add_left_comm, R.add_neg, R.add_zero]
    rw [R.add_mul, e, R.mul_add, R.mul_assoc]
    simp only [R.add_assoc, R.add_comm c]
    congr 1
    rw [R.add_left_comm]
/-- A monic polynomial has no more roots than its degree. -/
theorem roots (hd : ∀ a b : K, a * b = 0 → a = 0 ∨ b = 0) (h10 : (1 : K) ≠ 0) : ∀ (n : Nat) (l L : List K), l.length = n → L.Nodup → (∀ x ∈ L, hn x 1 l = 0) → L.length ≤ n
  | _, _, [], _, _, _ => Nat.zero_le _
  | 0, l, r :: L, hl, _, hr => by
    have : l = [] := List.eq_nil_of_length_eq_zero hl
    subst this
    exact absurd (hr r (by simp)) h10
  | n + 1, [], r :: L, hl, _, _ => by simp at hl
  | n + 1, c :: l, r :: L, hl, hN, hr => by
    have hr0 : hn r 1 (c :: l) = 0 := hr r (by simp)
    have key : ∀ x ∈ L, hn x 1 (synd r (1 * r + c) l) = 0 := by
      intro x hx
      have h0 := hr x (by simp [hx])
      have h1 := R.hn_synd x r (c :: l) 1 0
      rw [R.mul_zero, R.add_zero, h0, hr0, R.add_zero] at h1
      simp only [synd, hn, R.zero_mul, R.zero_add] at h1
      rcases hd _ _ h1.symm with h | h
      · have : x = r := R.sub_zero h
        subst this
        exact absurd hx (List.nodup_cons.1 hN).1
      · exact h
    have := roots hd h10 n (synd r (1 * r + c) l) L (by rw [synd_len]; simpa using hl) (List.nodup_cons.1 hN).2 key
    simp only [List.length_cons]; omega
theorem hn_rep (x : K) (m : List K) : ∀ (k : Nat) (a : K), hn x a (List.replicate k 0 ++ m) = hn x (a * pw x k) m
  | 0, a => by simp [pw, R.mul_one]
  | k + 1, a => by
    simp only [List.replicate_succ, List.cons_append, hn, R.add_zero]
    rw [hn_rep x m k, R.mul_assoc]
    simp only [pw]
    rw [R.mul_comm x]
/-- At most N elements are their own N-th powers. -/
theorem fixed_le (hd : ∀ a b : K, a * b = 0 → a = 0 ∨ b = 0) (h10 : (1 : K) ≠ 0) {N : Nat} (hN : 2 ≤ N) {L : List K} (hL : L.Nodup) (hx : ∀ x ∈ L, pw x N = x) : L.length ≤ N := by
  obtain ⟨k, rfl⟩ : ∃ k, N = k + 2 := ⟨N - 2, by omega⟩
  refine R.roots hd h10 (k + 2) (List.replicate k 0 ++ [-1, 0]) L (by simp) hL fun x h => ?_
  have h2 := hx x h
  rw [R.hn_rep, R.one_mul]
  simp only [hn, R.add_zero]
  simp only [pw] at h2
  rw [R.add_mul, h2, R.mul_comm (-1), R.mul_neg, R.mul_one, R.add_neg]

end IsRing
theorem mem_of_len {α : Type} [DecidableEq α] : ∀ l m : List α, l.Nodup → (∀ x ∈ l, x ∈ m) → m.length ≤ l.length → ∀ y ∈ m, y ∈ l
  | [], m, _, _, h, y, hy => by
    have : m = [] := List.eq_nil_of_length_eq_zero (by simpa using h)
    subst this; exact hy
  | x :: l, m, hn, hs, h, y, hy => by
    obtain ⟨h1, h2⟩ := List.nodup_cons.1 hn
    have hx := hs x (by simp)
    by_cases e : y = x
    · subst e; simp
    · have hl := List.length_erase_of_mem hx
      refine List.mem_cons_of_mem _ (mem_of_len l (m.erase x) h2 (fun z hz => ?_) ?_ y ((List.mem_erase_of_ne e).2 hy))
      · exact (List.mem_erase_of_ne (fun e2 => h1 (by rw [← e2]; exact hz))).2 (hs z (by simp [hz]))
      · simp only [List.length_cons] at h; omega
def prd : List K → K
  | [] => 1
  | x :: l => x * prd l
namespace IsRing
variable (R : IsRing K)
include R
theorem prd_perm {l m : List K} (h : l.Perm m) : prd l = prd m := by
  induction h with
  | nil => rfl
  | cons x _ ih => simp only [prd, ih]
  | swap x y l => simp only [prd, R.mul_left_comm x y]
  | trans _ _ h1 h2 => rw [h1, h2]
theorem prd_map (x : K) : ∀ l : List K, prd (l.map (x * ·)) = pw x l.length * prd l
  | [] => by simp only [List.map_nil, prd, List.length_nil, pw, R.mul_one]
  | y :: l => by simp only [List.map_cons, prd, List.length_cons, pw, prd_map x l, R.mul_assoc, R.mul_left_comm y]; rw [R.mul_left_comm]
omit R [Add K] [Neg K] in
theorem prd_ne (hd : ∀ a b : K, a * b = 0 → a = 0 ∨ b = 0) (h10 : (1 : K) ≠ 0) : ∀ l : List K, (∀ x ∈ l, x ≠ 0) → prd l ≠ 0
  | [], _ => h10
  | y :: l, h => fun e => by
    rcases hd _ _ e with e | e
    · exact h y (by simp) e
    · exact prd_ne hd h10 l (fun x hx => h x (by simp [hx])) e
theorem mul_cancel (hd : ∀ a b : K, a * b = 0 → a = 0 ∨ b = 0) {a b c : K} (ha : a ≠ 0) (h : a * b = a * c) : b = c := by
  have : a * (b + -c) = 0 := by rw [R.mul_add, R.mul_neg, h, R.add_neg]
  rcases hd _ _ this with e | e
  · exact absurd e ha
  · exact R.sub_zero e
/-- In a finite field of q elements the power q of an element is the element. -/
theorem fermat (hd : ∀ a b : K, a * b = 0 → a = 0 ∨ b = 0) (h10 : (1 : K) ≠ 0) {E : List K} (hE : E.Nodup) (hall : ∀ x, x ∈ E) (x : K) : pw x E.length = x := by
  classical
  have hpos : E.length ≠ 0 := fun e => by have := hall x; rw [List.eq_nil_of_length_eq_zero e] at this; simp at this
  by_cases hx : x = 0
  · subst hx; exact R.pw_zero hpos
  · have hF : (E.erase 0).Nodup := hE.erase 0
    have hmem : ∀ y, y ∈ E.erase 0 ↔ y ≠ 0 := fun y => by rw [hE.mem_erase_iff]; simp [hall y]
    have hlen : (E.erase 0).length = E.length - 1 := List.length_erase_of_mem (hall 0)
    have hperm : ((E.erase 0).map (x * ·)).Perm (E.erase 0) := by
      refine (List.perm_ext_iff_of_nodup ?_ hF).2 fun y => ?_
      · refine List.Pairwise.map _ ?_ hF
        intro a b hab e
        exact hab (R.mul_cancel hd hx e)
      · rw [List.mem_map, hmem]
        constructor
        · rintro ⟨z, hz, rfl⟩ e
          rcases hd _ _ e with e | e
          · exact hx e
          · exact (hmem z).1 hz e
        · intro hy
          have hnd : ((E.erase 0).map (x * ·)).Nodup := by
            refine List.Pairwise.map _ ?_ hF
            intro a b hab e
            exact hab (R.mul_cancel hd hx e)
          have hin : ∀ z ∈ (E.erase 0).map (x * ·), z ∈ E.erase 0 := by
            intro z hz
            obtain ⟨w, hw, rfl⟩ := List.mem_map.1 hz
            refine (hmem _).2 fun e => ?_
            rcases hd _ _ e with e | e
            · exact hx e
            · exact (hmem w).1 hw e
          exact List.mem_map.1 (mem_of_len _ _ hnd hin (by simp) y ((hmem y).2 hy))
    have h1 := R.prd_perm hperm
    rw [R.prd_map] at h1
    have h2 : prd (E.erase 0) * pw x (E.erase 0).length = prd (E.erase 0) * 1 := by rw [R.mul_comm, h1, R.mul_one]
    have h3 := R.mul_cancel hd (IsRing.prd_ne hd h10 _ fun y hy => (hmem y).1 hy) h2
    have e : E.length = (E.erase 0).length + 1 := by omega
    rw [e]
    simp only [pw, h3, R.one_mul]
end IsRing
end
end Go.Abs
/- Rings: divisors, residues by an element. -/
namespace Go.Abs
section
variable {K : Type} [Add K] [Mul K] [Neg K] [Zero K] [One K]

def Dv (a b : K) : Prop := ∃ q, b = q * a
namespace IsRing
variable (R : IsRing K)
include R
theorem dv_refl (a : K) : Dv a a := ⟨1, (R.one_mul a).symm⟩
theorem dv_zero (a : K) : Dv a 0 := ⟨0, (R.zero_mul a).symm⟩
theorem dv_add {a b c : K} (h1 : Dv a b) (h2 : Dv a c) : Dv a (b + c) := by
  obtain ⟨x, rfl⟩ := h1
  obtain ⟨y, rfl⟩ := h2
  exact ⟨x + y, (R.add_mul _ _ _).symm⟩
theorem dv_mul {a b : K} (h : Dv a b) (c : K) : Dv a (c * b) := by
  obtain ⟨x, rfl⟩ := h
  exact ⟨c * x, (R.mul_assoc _ _ _).symm⟩
theorem dv_mul' {a b : K} (h : Dv a b) (c : K) : Dv a (b * c) := by rw [R.mul_comm]; exact R.dv_mul h c
theorem dv_neg {a b : K} (h : Dv a b) : Dv a (-b) := by
  obtain ⟨x, rfl⟩ := h
  exact ⟨-x, by rw [R.mul_comm (-x), R.mul_neg, R.mul_comm]⟩
theorem dv_trans {a b c : K} (h1 : Dv a b) (h2 : Dv b c) : Dv a c := by
  obtain ⟨y, rfl⟩ := h2
  exact R.dv_mul h1 y
theorem dv_one {a b : K} (h : Dv a 1) : Dv a b := by
  have := R.dv_mul h b
  rwa [R.mul_one] at this
/-- Of a sum and a part of it, the other part. -/
theorem dv_sub {a b c : K} (h1 : Dv a (b + c)) (h2 : Dv a b) : Dv a c := by
  have h := R.dv_add h1 (R.dv_neg h2)
  have e : b + c + -b = c := by rw [R.add_comm b c, R.add_assoc, R.add_neg, R.add_zero]
  rwa [e] at h
theorem neg_add' (a b : K) : -(a + b) = -a + -b := by
  refine (R.neg_of ?_).symm
  rw [R.add_assoc, R.add_left_comm b, R.add_neg, R.add_zero, R.add_neg]
theorem neg_zero : -(0 : K) = 0 := (R.neg_of (R.add_zero 0)).symm

/-! Congruence by an element. -/
theorem cong_eqv (f : K) : Equivalence fun a b : K => Dv f (a + -b) := by
  refine ⟨fun a => by rw [R.add_neg]; exact R.dv_zero f, fun {a b} h => ?_, fun {a b c} h1 h2 => ?_⟩
  · have := R.dv_neg h
    rwa [R.neg_add', R.neg_neg, R.add_comm] at this
  · have := R.dv_add h1 h2
    have e : a + -b + (b + -c) = a + -c := by rw [R.add_assoc, ← R.add_assoc (-b), R.neg_add, R.zero_add]
    rwa [e] at this
end IsRing
def sdv (R : IsRing K) (f : K) : Setoid K := ⟨fun a b => Dv f (a + -b), R.cong_eqv f⟩
def Qt (R : IsRing K) (f : K) : Type := Quotient (sdv R f)
def qm (R : IsRing K) (f a : K) : Qt R f := Quotient.mk (sdv R f) a
theorem qm_iff (R : IsRing K) {f a b : K} : qm R f a = qm R f b ↔ Dv f (a + -b) := ⟨fun h => Quotient.exact h, fun h => Quotient.sound h⟩
theorem qm_zero_iff (R : IsRing K) {f a : K} : qm R f a = qm R f 0 ↔ Dv f a := by rw [qm_iff, R.neg_zero, R.add_zero]

variable (R : IsRing K) (f : K)
instance : Add (Qt R f) := ⟨Quotient.lift₂ (fun a b => qm R f (a + b)) fun a b c d h1 h2 => by
  refine (qm_iff R).2 ?_
  have h := R.dv_add (show Dv f (a + -c) from h1) (show Dv f (b + -d) from h2)
  have e : a + -c + (b + -d) = a + b + -(c + d) := by
    rw [R.neg_add']; simp only [R.add_assoc]; rw [R.add_left_comm (-c)]
  rwa [e] at h⟩
instance : Mul (Qt R f) := ⟨Quotient.lift₂ (fun a b => qm R f (a * b)) fun a b c d h1 h2 => by
  refine (qm_iff R).2 ?_
  have h := R.dv_add (R.dv_mul' (show Dv f (a + -c) from h1) b) (R.dv_mul (show Dv f (b + -d) from h2) c)
  have e : (a + -c) * b + c * (b + -d) = a * b + -(c * d) := by
    rw [R.add_mul, R.mul_add, R.mul_neg, R.mul_comm (-c), R.mul_neg, R.mul_comm b c, R.add_assoc, ← R.add_assoc (-(c * b)), R.neg_add, R.zero_add]
  rwa [e] at h⟩
instance : Neg (Qt R f) := ⟨Quotient.lift (fun a => qm R f (-a)) fun a c h1 => by
  refine (qm_iff R).2 ?_
  have h := R.dv_neg (show Dv f (a + -c) from h1)
  rwa [R.neg_add'] at h⟩
instance : Zero (Qt R f) := ⟨qm R f 0⟩
instance : One (Qt R f) := ⟨qm R f 1⟩
theorem qm_add (a b : K) : qm R f (a + b) = qm R f a + qm R f b := rfl
theorem qm_mul (a b : K) : qm R f (a * b) = qm R f a * qm R f b := rfl
theorem qm_zero : qm R f 0 = 0 := rfl
theorem qm_one : qm R f 1 = 1 := rfl
theorem qm_pw (a : K) (n : Nat) : qm R f (pw a n) = pw (qm R f a) n := by
  induction n with
  | zero => rfl
  | succ n ih => simp only [pw, qm_mul, ih]
theorem qm_nsm (a : K) (n : Nat) : qm R f (nsm n a) = nsm n (qm R f a) := by
  induction n with
  | zero => rfl
  | succ n ih => simp only [nsm, qm_add, ih]
theorem qm_all {P : Qt R f → Prop} (h : ∀ a, P (qm R f a)) : ∀ x, P x := fun x => Quotient.ind h x
theorem qring : IsRing (Qt R f) where
  add_comm := qm_all R f fun a => qm_all R f fun b => congrArg (qm R f) (R.add_comm a b)
  add_assoc := qm_all R f fun a => qm_all R f fun b => qm_all R f fun c => congrArg (qm R f) (R.add_assoc a b c)
  add_zero := qm_all R f fun a => congrArg (qm R f) (R.add_zero a)
  add_neg := qm_all R f fun a => congrArg (qm R f) (R.add_neg a)
  mul_comm := qm_all R f fun a => qm_all R f fun b => congrArg (qm R f) (R.mul_comm a b)
  mul_assoc := qm_all R f fun a => qm_all R f fun b => qm_all R f fun c => congrArg (qm R f) (R.mul_assoc a b c)
  mul_one := qm_all R f fun a => congrArg (qm R f) (R.mul_one a)
  mul_add := qm_all R f fun a => qm_all R f fun b => qm_all R f fun c => congrArg (qm R f) (R.mul_add a b c)
end
end Go.Abs
/- Plain facts on arrays of 64 numbers. -/
namespace Go.Abs

abbrev V64 := Vec Int 64
def pad (l : List Int) : V64 := ⟨(List.range 64).map fun j => l.getD j 0, by simp⟩

theorem pad_rd (l : List Int) {j : Nat} (h : j < 64) : rd (pad l).1 j = l.getD j 0 := by
  simp [rd, pad, h]
theorem vec_ext {n : Nat} {a b : Vec Int n} (h : ∀ j, j < n → rd a.1 j = rd b.1 j) : a = b := by
  apply Subtype.ext
  apply List.ext_getElem
  · rw [a.2, b.2]
  · intro j h1 h2
    have := h j (by rw [a.2] at h1; exact h1)
    simpa [rd, h1, h2] using this
theorem rd_vset {n : Nat} (a : Vec Int n) (i j : Nat) (d : Int) (hi : i < n) : rd (vset a i d).1 j = if j = i then d else rd a.1 j := by
  have hl : i < a.1.length := by rw [a.2]; exact hi
  by_cases h : j = i
  · subst h; simp [rd, vset, hl]
  · rw [if_neg h]
    simp [rd, vset, Ne.symm h]
theorem rd_vrep {n : Nat} (j : Nat) (h : j < n) : rd (vrep n (0 : Int)).1 j = 0 := by
  simp [rd, vrep, h]
theorem pad_nil : pad [] = vrep 64 0 := vec_ext fun j h => by rw [pad_rd _ h, rd_vrep _ h]; simp
theorem pad_set (l : List Int) (d : Int) (h : l.length < 64) : vset (pad l) l.length d = pad (l ++ [d]) := by
  refine vec_ext fun j hj => ?_
  rw [rd_vset _ _ _ _ h, pad_rd _ hj, pad_rd _ hj]
  by_cases e : j = l.length
  · subst e; simp
  · rw [if_neg e]
    rcases Nat.lt_or_ge j l.length with h1 | h1
    · simp [h1, List.getElem?_append]
    · have h2 : l.length < j := by omega
      have h3 : (l ++ [d]).length ≤ j := by simp; omega
      rw [List.getD_eq_getElem?_getD, List.getD_eq_getElem?_getD, List.getElem?_eq_none h1, List.getElem?_eq_none h3]

theorem getD_app (l k : List Int) (j : Nat) : (l ++ k).getD j 0 = if j < l.length then l.getD j 0 else k.getD (j - l.length) 0 := by
  simp only [List.getD_eq_getElem?_getD, List.getElem?_append]
  split <;> rfl

/-- Bytes. -/
def Bytes (l : List Int) : Prop := ∀ d ∈ l, 0 ≤ d ∧ d < 256
theorem getD_byte {l : List Int} (h : Bytes l) (j : Nat) : 0 ≤ l.getD j 0 ∧ l.getD j 0 < 256 := by
  rw [List.getD_eq_getElem?_getD]
  cases e : l[j]? with
  | none => simp
  | some d => simp; exact h d (List.mem_of_getElem? e)
end Go.Abs
/- Polynomials: coefficient functions, and rows of coefficients up to the leading one. -/
namespace Go.Abs

/-! How far a row reaches. -/
def top (g : Nat → Int) : Nat → Nat
  | 0 => 0
  | n + 1 => if g n = 0 then top g n else n + 1
theorem top_le (g : Nat → Int) : ∀ n, top g n ≤ n
  | 0 => Nat.le_refl _
  | n + 1 => by simp only [top]; split; exact Nat.le_succ_of_le (top_le g n); exact Nat.le_refl _
theorem top_zero (g : Nat → Int) : ∀ n i, top g n ≤ i → i < n → g i = 0
  | 0, i, _, h => by omega
  | n + 1, i, h1, h2 => by
    simp only [top] at h1
    split at h1
    · rename_i e
      by_cases hi : i = n
      · subst hi; exact e
      · exact top_zero g n i h1 (by omega)
    · omega
theorem top_lead (g : Nat → Int) : ∀ n, top g n ≠ 0 → g (top g n - 1) ≠ 0
  | 0, h => by simp [top] at h
  | n + 1, h => by
    simp only [top] at h ⊢
    split
    · rename_i e; rw [if_pos e] at h; exact top_lead g n h
    · rename_i e; simpa using e
theorem top_congr {f g : Nat → Int} : ∀ n, (∀ i, i < n → f i = g i) → top f n = top g n
  | 0, _ => rfl
  | n + 1, h => by simp only [top]; rw [h n (by omega), top_congr n fun i hi => h i (by omega)]
/-- The leading place is told by what stands there and behind. -/
theorem top_is {g : Nat → Int} {n k : Nat} (hk : k ≤ n) (hz : ∀ i, k ≤ i → i < n → g i = 0) (hl : k ≠ 0 → g (k - 1) ≠ 0) : top g n = k := by
  rcases Nat.lt_trichotomy (top g n) k with h | h | h
  · have := top_zero g n (k - 1) (by omega) (by omega)
    exact absurd this (hl (by omega))
  · exact h
  · have h1 := top_lead g n (by omega)
    have h2 := top_le g n
    exact absurd (hz (top g n - 1) (by omega) (by omega)) h1
theorem top_more {g : Nat → Int} {n m : Nat} (h : n ≤ m) (hz : ∀ i, n ≤ i → i < m → g i = 0) : top g m = top g n :=
  top_is (Nat.le_trans (top_le g n) h) (fun i h1 h2 => by
    by_cases hi : i < n
    · exact top_zero g n i h1 hi
    · exact hz i (by omega) h2) (top_lead g n)

/-! Reading rows. -/
theorem rd_nil (i : Nat) : rd ([] : List Int) i = 0 := by simp [rd]
theorem rd_lt {l : List Int} {i : Nat} (h : i < l.length) : rd l i = l[i] := by simp [rd, h]
theorem rd_ge {l : List Int} {i : Nat} (h : l.length ≤ i) : rd l i = 0 := by simp [rd, h]
theorem rd_mem {l : List Int} {i : Nat} (h : i < l.length) : rd l i ∈ l := by rw [rd_lt h]; exact List.getElem_mem _
theorem rd_ext {a b : List Int} (hl : a.length = b.length) (h : ∀ i, i < a.length → rd a i = rd b i) : a = b := by
  apply List.ext_getElem hl
  intro i h1 h2
  have := h i h1
  rwa [rd_lt h1, rd_lt h2] at this
theorem rd_take (l : List Int) (k i : Nat) : rd (l.take k) i = if i < k then rd l i else 0 := by
  by_cases h : i < k
  · rw [if_pos h]
    by_cases hl : i < l.length
    · rw [rd_lt (by simp; omega), rd_lt hl]; simp
    · rw [rd_ge (by simp; omega), rd_ge (by omega)]
  · rw [if_neg h, rd_ge (by simp; omega)]
theorem rd_app (a b : List Int) (i : Nat) : rd (a ++ b) i = if i < a.length then rd a i else rd b (i - a.length) := by
  have := getD_app a b i
  exact this
theorem rd_set (l : List Int) (k : Nat) (d : Int) (i : Nat) (hk : k < l.length) : rd (l.set k d) i = if i = k then d else rd l i := by
  by_cases h : i = k
  · subst h; simp [rd, hk]
  · rw [if_neg h]; simp [rd, Ne.symm h]
theorem rd_rep (n i : Nat) : rd (List.replicate n (0 : Int)) i = 0 := by
  by_cases h : i < n
  · rw [rd_lt (by simpa using h)]; simp
  · rw [rd_ge (by simp; omega)]
theorem rd_padl (l : List Int) {j : Nat} (h : j < 64) : rd (pad l).1 j = rd l j := by rw [pad_rd _ h]; rfl
theorem rd_map {f : Nat → Int} (n i : Nat) : rd ((List.range n).map f) i = if i < n then f i else 0 := by
  by_cases h : i < n
  · rw [if_pos h, rd_lt (by simpa using h)]; simp
  · rw [if_neg h, rd_ge (by simp; omega)]

/-! Rows of functions. -/
def ofF (n : Nat) (f : Nat → Int) : List Int := (List.range (top f n)).map f
theorem ofF_len (n : Nat) (f : Nat → Int) : (ofF n f).length = top f n := by simp [ofF]
theorem rd_ofF {n : Nat} {f : Nat → Int} (hz : ∀ i, n ≤ i → f i = 0) (i : Nat) : rd (ofF n f) i = f i := by
  rw [ofF, rd_map]
  split
  · rfl
  · by_cases h : i < n
    · exact (top_zero f n i (by omega) h).symm
    · exact (hz i (by omega)).symm
theorem rd_ofF' {n : Nat} {f : Nat → Int} (i : Nat) : rd (ofF n f) i = if i < n then f i else 0 := by
  rw [ofF, rd_map]
  have := top_le f n
  by_cases h : i < n
  · rw [if_pos h]
    split
    · rfl
    · exact (top_zero f n i (by omega) h).symm
  · rw [if_neg h, if_neg (by omega)]
theorem ofF_congr {n : Nat} {f g : Nat → Int} (h : ∀ i, i < n → f i = g i) : ofF n f = ofF n g := by
  have e := top_congr n h
  have := top_le g n
  refine rd_ext (by rw [ofF_len, ofF_len, e]) fun i hi => ?_
  rw [rd_ofF', rd_ofF']
  split
  · exact h i (by assumption)
  · rfl
theorem ofF_more {n m : Nat} {f : Nat → Int} (h : n ≤ m) (hz : ∀ i, n ≤ i → i < m → f i = 0) : ofF m f = ofF n f := by
  simp only [ofF, top_more h hz]
/-- A list without the zeros at its end. -/
theorem trim_eq (l : List Int) : l.take (top (rd l) l.length) = ofF l.length (rd l) := by
  have := top_le (rd l) l.length
  refine rd_ext (by rw [ofF_len]; simp; omega) fun i hi => ?_
  rw [rd_take, rd_ofF']
  simp at hi
  rw [if_pos (by omega), if_pos (by omega)]

/-- The coefficients of a polynomial modulo p, up to the leading one. -/
structure Row (p : Int) (l : List Int) : Prop where
  res : ∀ d ∈ l, 0 ≤ d ∧ d < p
  nrm : l.length ≠ 0 → rd l (l.length - 1) ≠ 0
theorem Row.rd {p : Int} {l : List Int} (h : Row p l) (hp : 0 < p) (i : Nat) : 0 ≤ rd l i ∧ rd l i < p := by
  by_cases hi : i < l.length
  · exact h.res _ (rd_mem hi)
  · rw [rd_ge (by omega)]; exact ⟨Int.le_refl _, hp⟩
theorem Row.bytes {p : Int} {l : List Int} (h : Row p l) (hp : p ≤ 256) : Bytes l := fun d hd => by have := h.res d hd; omega
theorem row_nil (p : Int) : Row p [] := ⟨by simp, by simp⟩
theorem row_ext {p q : Int} {a b : List Int} (ha : Row p a) (hb : Row q b) (h : ∀ i, rd a i = rd b i) : a = b := by
  have hl : a.length = b.length := by
    rcases Nat.lt_trichotomy a.length b.length with h1 | h1 | h1
    · have := hb.nrm (by omega)
      rw [← h, rd_ge (by omega)] at this
      exact absurd rfl this
    · exact h1
    · have := ha.nrm (by omega)
      rw [h, rd_ge (by omega)] at this
      exact absurd rfl this
  exact rd_ext hl fun i _ => h i
theorem row_ofF {p : Int} {n : Nat} {f : Nat → Int} (h : ∀ i, i < n → 0 ≤ f i ∧ f i < p) : Row p (ofF n f) := by
  have hle := top_le f n
  refine ⟨fun d hd => ?_, fun hn => ?_⟩
  · simp only [ofF, List.mem_map, List.mem_range] at hd
    obtain ⟨i, hi, rfl⟩ := hd
    exact h i (by omega)
  · rw [ofF_len] at hn ⊢
    rw [rd_ofF', if_pos (by omega)]
    exact top_lead f n hn
theorem Row.top {p : Int} {l : List Int} (h : Row p l) {n : Nat} (hn : l.length ≤ n) : top (Abs.rd l) n = l.length :=
  top_is hn (fun i h1 _ => rd_ge h1) h.nrm
theorem Row.ofF {p : Int} {l : List Int} (h : Row p l) {n : Nat} (hn : l.length ≤ n) : ofF n (Abs.rd l) = l := by
  refine rd_ext (by rw [ofF_len, h.top hn]) fun i hi => ?_
  rw [rd_ofF fun i hi => rd_ge (by omega)]
theorem Row.trim {p : Int} {l : List Int} (h : Row p l) : l.take (Abs.top (Abs.rd l) l.length) = l := by
  rw [trim_eq, h.ofF (Nat.le_refl _)]

/-! Arrays and rows. -/
def row (v : V64) : List Int := ofF 64 (rd v.1)
/-- Coefficients from 0 to p - 1. -/
def Res (p : Int) (v : V64) : Prop := ∀ j, j < 64 → 0 ≤ rd v.1 j ∧ rd v.1 j < p
theorem row_row {p : Int} {v : V64} (h : Res p v) : Row p (row v) := row_ofF h
theorem row_len (v : V64) : (row v).length ≤ 64 := by rw [row, ofF_len]; exact top_le _ _
theorem pad_row (v : V64) : pad (row v) = v := vec_ext fun j hj => by rw [rd_padl _ hj, row, rd_ofF', if_pos hj]
theorem row_pad {p : Int} {l : List Int} (h : Row p l) (hl : l.length ≤ 64) : row (pad l) = l := by
  rw [row, ofF_congr (g := rd l) fun i hi => rd_padl l hi, h.ofF hl]
theorem res_pad {p : Int} {l : List Int} (h : Row p l) (hp : 0 < p) : Res p (pad l) := fun j hj => by rw [rd_padl _ hj]; exact h.rd hp j
theorem pad_inj {p q : Int} {a b : List Int} (ha : Row p a) (hb : Row q b) (h1 : a.length ≤ 64) (h2 : b.length ≤ 64) (h : pad a = pad b) : a = b := by
  rw [← row_pad ha h1, ← row_pad hb h2, h]

/-! Sums and products of coefficient functions. -/
def sumTo : Nat → (Nat → Int) → Int
  | 0, _ => 0
  | n + 1, f => sumTo n f + f n
theorem sumTo_congr {f g : Nat → Int} : ∀ n, (∀ i, i < n → f i = g i) → sumTo n f = sumTo n g
  | 0, _ => rfl
  | n + 1, h => by simp only [sumTo]; rw [sumTo_congr n fun i hi => h i (by omega), h n (by omega)]
theorem sumTo_zero {f : Nat → Int} : ∀ n, (∀ i, i < n → f i = 0) → sumTo n f = 0
  | 0, _ => rfl
  | n + 1, h => by simp only [sumTo]; rw [sumTo_zero n fun i hi => h i (by omega), h n (by omega)]; rfl
theorem sumTo_more {f : Nat → Int} {n : Nat} : ∀ m, (∀ i, n ≤ i → i < n + m → f i = 0) → sumTo (n + m) f = sumTo n f
  | 0, _ => rfl
  | m + 1, h => by
    rw [← Nat.add_assoc]
    simp only [sumTo]
    rw [sumTo_more m fun i h1 h2 => h i h1 (by omega), h (n + m) (by omega) (by omega), Int.add_zero]
/-- The summand that the first n coefficients give to a product. -/
def cv (a b : Nat → Int) (n k : Nat) : Int := sumTo n fun i => if i ≤ k then a i * b (k - i) else 0
theorem cv_succ (a b : Nat → Int) (n k : Nat) : cv a b (n + 1) k = cv a b n k + (if n ≤ k then a n * b (k - n) else 0) := rfl
def conv (a b : Nat → Int) (k : Nat) : Int := cv a b (k + 1) k
theorem cv_conv {a b : Nat → Int} {n : Nat} (hz : ∀ i, n ≤ i → a i = 0) (k : Nat) : cv a b n k = conv a b k := by
  unfold conv cv
  rcases Nat.le_total n (k + 1) with h | h
  · obtain ⟨m, e⟩ : ∃ m, k + 1 = n + m := ⟨k + 1 - n, by omega⟩
    rw [e]
    refine (sumTo_more m fun i h1 h2 => ?_).symm
    rw [hz i h1]; simp
  · obtain ⟨m, rfl⟩ : ∃ m, n = k + 1 + m := ⟨n - (k + 1), by omega⟩
    exact sumTo_more m fun i h1 h2 => if_neg (by omega)
theorem conv_zero {a b : Nat → Int} {n m : Nat} (ha : ∀ i, n ≤ i → a i = 0) (hb : ∀ i, m ≤ i → b i = 0) {k : Nat} (hk : n + m ≤ k + 1) : conv a b k = 0 := by
  refine sumTo_zero _ fun i hi => ?_
  rw [if_pos (by omega)]
  by_cases h : i < n
  · rw [hb (k - i) (by omega), Int.mul_zero]
  · rw [ha i (by omega), Int.zero_mul]
/-- The leading coefficient of a product. -/
theorem conv_lead {a b : Nat → Int} {n m : Nat} (ha : ∀ i, n < i → a i = 0) (hb : ∀ i, m < i → b i = 0) : conv a b (n + m) = a n * b m := by
  have h1 : conv a b (n + m) = cv a b (n + 1) (n + m) := (cv_conv (fun i hi => ha i (by omega)) _).symm
  rw [h1]
  unfold cv
  simp only [sumTo]
  rw [sumTo_zero n fun i hi => ?_, if_pos (by omega), show n + m - n = m by omega, Int.zero_add]
  rw [if_pos (by omega), hb _ (by omega), Int.mul_zero]

/-! Operations on rows. -/
def comb (p : Int) (a b : List Int) (k : Int) : List Int := ofF (max a.length b.length) fun i => (rd a i + k * rd b i) % p
def mul (p : Int) (a b : List Int) : List Int := ofF (a.length + b.length - 1) fun i => conv (rd a) (rd b) i % p

theorem emod_res {p : Int} (hp : 0 < p) (x : Int) : 0 ≤ x % p ∧ x % p < p := ⟨Int.emod_nonneg _ (by omega), Int.emod_lt_of_pos _ hp⟩
theorem comb_row {p : Int} (hp : 0 < p) (a b : List Int) (k : Int) : Row p (comb p a b k) := row_ofF fun _ _ => emod_res hp _
theorem mul_row {p : Int} (hp : 0 < p) (a b : List Int) : Row p (mul p a b) := row_ofF fun _ _ => emod_res hp _
theorem comb_rd (p : Int) (a b : List Int) (k : Int) (i : Nat) : rd (comb p a b k) i = (rd a i + k * rd b i) % p := by
  refine rd_ofF (fun i hi => ?_) i
  rw [rd_ge (by omega), rd_ge (by omega)]; simp
theorem mul_rd (p : Int) (a b : List Int) (i : Nat) : rd (mul p a b) i = conv (rd a) (rd b) i % p := by
  refine rd_ofF (fun i hi => ?_) i
  rw [conv_zero (n := a.length) (m := b.length) (fun i hi => rd_ge hi) (fun i hi => rd_ge hi) (by omega)]; simp
theorem comb_len (p : Int) (a b : List Int) (k : Int) : (comb p a b k).length ≤ max a.length b.length := by rw [comb, ofF_len]; exact top_le _ _
theorem mul_len (p : Int) (a b : List Int) : (mul p a b).length ≤ a.length + b.length - 1 := by rw [mul, ofF_len]; exact top_le _ _
theorem mul_nil (p : Int) (b : List Int) : mul p [] b = [] := by
  have h : ∀ i, conv (rd []) (rd b) i = 0 := fun i => sumTo_zero _ fun j _ => by rw [rd_nil]; simp
  have : (mul p [] b).length = 0 := by
    rw [mul, ofF_len]
    exact top_is (Nat.zero_le _) (fun i _ _ => by rw [h]; simp) (by simp)
  exact List.eq_nil_of_length_eq_zero this
theorem mul_nil' (p : Int) (a : List Int) : mul p a [] = [] := by
  have h : ∀ i, conv (rd a) (rd []) i = 0 := fun i => sumTo_zero _ fun j _ => by rw [rd_nil]; simp
  have : (mul p a []).length = 0 := by
    rw [mul, ofF_len]
    exact top_is (Nat.zero_le _) (fun i _ _ => by rw [h]; simp) (by simp)
  exact List.eq_nil_of_length_eq_zero this

/-! Small primes. -/
def isP (p : Int) : Bool := p == 2 || p == 3 || p == 5 || p == 7
theorem isP_iff {p : Int} : isP p = true ↔ p = 2 ∨ p = 3 ∨ p = 5 ∨ p = 7 := by
  simp [isP, or_assoc]
theorem isP_pos {p : Int} (h : isP p = true) : 2 ≤ p ∧ p ≤ 7 := by
  rcases isP_iff.1 h with rfl | rfl | rfl | rfl <;> omega
theorem noz2 : ∀ x y : Fin 2, x ≠ 0 → y ≠ 0 → (x.1 * y.1) % 2 ≠ 0 := by decide
theorem noz3 : ∀ x y : Fin 3, x ≠ 0 → y ≠ 0 → (x.1 * y.1) % 3 ≠ 0 := by decide
theorem noz5 : ∀ x y : Fin 5, x ≠ 0 → y ≠ 0 → (x.1 * y.1) % 5 ≠ 0 := by decide
theorem noz7 : ∀ x y : Fin 7, x ≠ 0 → y ≠ 0 → (x.1 * y.1) % 7 ≠ 0 := by decide
theorem noz_of {n : Nat} (hn : 0 < n) (h : ∀ x y : Fin n, x.1 ≠ 0 → y.1 ≠ 0 → (x.1 * y.1) % n ≠ 0) {x y : Int} (hx : 0 < x ∧ x < n) (hy : 0 < y ∧ y < n) : x * y % n ≠ 0 := by
  obtain ⟨a, rfl⟩ : ∃ a : Nat, x = a := ⟨x.toNat, by omega⟩
  obtain ⟨b, rfl⟩ : ∃ b : Nat, y = b := ⟨y.toNat, by omega⟩
  have := h ⟨a, by omega⟩ ⟨b, by omega⟩ (by simp; omega) (by simp; omega)
  simp only at this
  rw [← Int.natCast_mul, ← Int.natCast_emod]
  omega
theorem noz {p : Int} (hp : isP p = true) {x y : Int} (hx : 0 ≤ x ∧ x < p) (hy : 0 ≤ y ∧ y < p) (h1 : x ≠ 0) (h2 : y ≠ 0) : x * y % p ≠ 0 := by
  rcases isP_iff.1 hp with rfl | rfl | rfl | rfl
  · exact noz_of (n := 2) (by omega) (fun x y a b => noz2 x y (fun e => a (by rw [e]; rfl)) (fun e => b (by rw [e]; rfl))) ⟨by omega, hx.2⟩ ⟨by omega, hy.2⟩
  · exact noz_of (n := 3) (by omega) (fun x y a b => noz3 x y (fun e => a (by rw [e]; rfl)) (fun e => b (by rw [e]; rfl))) ⟨by omega, hx.2⟩ ⟨by omega, hy.2⟩
  · exact noz_of (n := 5) (by omega) (fun x y a b => noz5 x y (fun e => a (by rw [e]; rfl)) (fun e => b (by rw [e]; rfl))) ⟨by omega, hx.2⟩ ⟨by omega, hy.2⟩
  · exact noz_of (n := 7) (by omega) (fun x y a b => noz7 x y (fun e => a (by rw [e]; rfl)) (fun e => b (by rw [e]; rfl))) ⟨by omega, hx.2⟩ ⟨by omega, hy.2⟩
theorem mul_len_is {p : Int} (hp : isP p = true) {a b : List Int} (ha : Row p a) (hb : Row p b) (h1 : a.length ≠ 0) (h2 : b.length ≠ 0) : (mul p a b).length = a.length + b.length - 1 := by
  have hp2 := isP_pos hp
  rw [mul, ofF_len]
  refine top_is (Nat.le_refl _) (fun i h3 h4 => by omega) fun _ => ?_
  have e : a.length + b.length - 1 - 1 = (a.length - 1) + (b.length - 1) := by omega
  rw [e, conv_lead (fun i hi => rd_ge (by omega)) (fun i hi => rd_ge (by omega))]
  exact noz hp (ha.rd (by omega) _) (hb.rd (by omega) _) (ha.nrm h1) (hb.nrm h2)
end Go.Abs
/- Polynomials modulo p are a ring: products go along with sums, in any order. -/
namespace Go.Abs

theorem sumTo_add (f g : Nat → Int) : ∀ n, sumTo n (fun i => f i + g i) = sumTo n f + sumTo n g
  | 0 => rfl
  | n + 1 => by simp only [sumTo, sumTo_add f g n]; omega
theorem sumTo_mul (c : Int) (f : Nat → Int) : ∀ n, sumTo n (fun i => c * f i) = c * sumTo n f
  | 0 => by simp [sumTo]
  | n + 1 => by simp only [sumTo, sumTo_mul c f n, Int.mul_add]
theorem sumTo_mul' (c : Int) (f : Nat → Int) (n : Nat) : sumTo n (fun i => f i * c) = sumTo n f * c := by
  rw [Int.mul_comm, ← sumTo_mul]
  exact sumTo_congr n fun i _ => Int.mul_comm _ _
theorem sumTo_swap (f : Nat → Nat → Int) (m : Nat) : ∀ n, sumTo n (fun i => sumTo m (fun j => f i j)) = sumTo m (fun j => sumTo n (fun i => f i j))
  | 0 => (sumTo_zero m fun _ _ => rfl).symm
  | n + 1 => by simp only [sumTo]; rw [sumTo_swap f m n, ← sumTo_add]
/-- The first summand apart. -/
theorem sumTo_first (f : Nat → Int) : ∀ n, sumTo (n + 1) f = f 0 + sumTo n fun i => f (i + 1)
  | 0 => by simp [sumTo]
  | n + 1 => by
    have := sumTo_first f n
    simp only [sumTo] at this ⊢
    omega
theorem sumTo_rev (f : Nat → Int) : ∀ n, sumTo (n + 1) f = sumTo (n + 1) fun i => f (n - i)
  | 0 => rfl
  | n + 1 => by
    rw [sumTo_first (fun i => f (n + 1 - i)) (n + 1)]
    have h := sumTo_rev f n
    have e : sumTo (n + 1) (fun i => f (n + 1 - (i + 1))) = sumTo (n + 1) fun i => f (n - i) := sumTo_congr _ fun i _ => by rw [show n + 1 - (i + 1) = n - i by omega]
    rw [e, ← h]
    simp only [sumTo, Nat.sub_zero]
    omega
/-- Summands from j on. -/
theorem sumTo_from (g : Nat → Int) (j : Nat) : ∀ n, sumTo (j + n) (fun i => if j ≤ i then g (i - j) else 0) = sumTo n g
  | 0 => by rw [Nat.add_zero]; exact sumTo_zero j fun i hi => if_neg (by omega)
  | n + 1 => by
    rw [← Nat.add_assoc]
    simp only [sumTo]
    rw [sumTo_from g j n, if_pos (by omega), show j + n - j = n by omega]

theorem cv_more (a b : Nat → Int) {n k : Nat} (h : k + 1 ≤ n) : cv a b n k = conv a b k := by
  obtain ⟨m, rfl⟩ : ∃ m, n = k + 1 + m := ⟨n - (k + 1), by omega⟩
  exact sumTo_more m fun i h1 _ => if_neg (by omega)
theorem conv_comm (a b : Nat → Int) (k : Nat) : conv a b k = conv b a k := by
  unfold conv cv
  rw [sumTo_rev]
  refine sumTo_congr _ fun i hi => ?_
  rw [if_pos (by omega), if_pos (by omega), show k - (k - i) = i by omega, Int.mul_comm]
theorem conv_assoc (a b c : Nat → Int) (k : Nat) : conv (conv a b) c k = conv a (conv b c) k := by
  have h1 : conv (conv a b) c k = sumTo (k + 1) fun i => sumTo (k + 1) fun j => (if j ≤ i then a j * b (i - j) else 0) * c (k - i) := by
    unfold conv
    refine sumTo_congr _ fun i hi => ?_
    rw [if_pos (by omega), sumTo_mul']
    congr 1
    exact (cv_more a b (n := k + 1) (by omega)).symm
  have h2 : conv a (conv b c) k = sumTo (k + 1) fun j => a j * sumTo (k + 1 - j) fun l => b l * c (k - j - l) := by
    unfold conv
    refine sumTo_congr _ fun j hj => ?_
    rw [if_pos (by omega)]
    congr 1
    show sumTo (k - j + 1) (fun i => if i ≤ k - j then b i * c (k - j - i) else 0) = _
    rw [show k - j + 1 = k + 1 - j by omega]
    exact sumTo_congr _ fun l hl => if_pos (by omega)
  rw [h1, h2, sumTo_swap]
  refine sumTo_congr _ fun j hj => ?_
  rw [← sumTo_mul, ← sumTo_from (fun l => a j * (b l * c (k - j - l))) j (k + 1 - j), show j + (k + 1 - j) = k + 1 by omega]
  refine sumTo_congr _ fun i hi => ?_
  by_cases h : j ≤ i
  · rw [if_pos h, if_pos h, show k - j - (i - j) = k - i by omega, Int.mul_assoc]
  · rw [if_neg h, if_neg h, Int.zero_mul]
theorem conv_addl (a b c : Nat → Int) (s : Int) (k : Nat) : conv (fun i => a i + s * b i) c k = conv a c k + s * conv b c k := by
  unfold conv cv
  rw [← sumTo_mul, ← sumTo_add]
  refine sumTo_congr _ fun i _ => ?_
  split
  · rw [Int.add_mul, Int.mul_assoc]
  · simp

/-! Modulo p. -/
theorem sumTo_mod {p : Int} {f g : Nat → Int} : ∀ n, (∀ i, i < n → f i % p = g i % p) → sumTo n f % p = sumTo n g % p
  | 0, _ => rfl
  | n + 1, h => by
    simp only [sumTo]
    rw [Int.add_emod, sumTo_mod n fun i hi => h i (by omega), h n (by omega), ← Int.add_emod]
theorem conv_mod {p : Int} {a a' b b' : Nat → Int} (ha : ∀ i, a i % p = a' i % p) (hb : ∀ i, b i % p = b' i % p) (k : Nat) : conv a b k % p = conv a' b' k % p := by
  refine sumTo_mod _ fun i _ => ?_
  split
  · rw [Int.mul_emod, ha, hb, ← Int.mul_emod]
  · rfl
theorem Row.mod {p : Int} {l : List Int} (h : Row p l) (hp : 0 < p) (i : Nat) : Abs.rd l i % p = Abs.rd l i := Int.emod_eq_of_lt (h.rd hp i).1 (h.rd hp i).2

theorem mul_comm' (p : Int) (a b : List Int) : mul p a b = mul p b a := by
  unfold mul
  rw [Nat.add_comm]
  exact ofF_congr fun i _ => by rw [conv_comm]
theorem mul_assoc' {p : Int} (hp : 0 < p) (a b c : List Int) : mul p (mul p a b) c = mul p a (mul p b c) := by
  refine row_ext (mul_row hp _ _) (mul_row hp _ _) fun i => ?_
  rw [mul_rd, mul_rd]
  rw [conv_mod (a' := conv (rd a) (rd b)) (b' := rd c) (fun j => by rw [mul_rd, Int.emod_emod]) (fun _ => rfl), conv_assoc]
  exact conv_mod (fun _ => rfl) (fun j => by rw [mul_rd, Int.emod_emod]) i
theorem conv_one (a : Nat → Int) (i : Nat) : conv a (rd [1]) i = a i := by
  rw [conv_comm]
  unfold conv cv
  rw [sumTo_first, if_pos (by omega), sumTo_zero i fun j hj => ?_]
  · simp [rd]
  · rw [show rd ([1] : List Int) (j + 1) = 0 from rd_ge (by simp)]; simp
theorem mul_one' {p : Int} (hp : 0 < p) {a : List Int} (ha : Row p a) : mul p a [1] = a :=
  row_ext (mul_row hp _ _) ha fun i => by rw [mul_rd, conv_one, ha.mod hp]
theorem one_mul' {p : Int} (hp : 0 < p) {a : List Int} (ha : Row p a) : mul p [1] a = a := by rw [mul_comm', mul_one' hp ha]
theorem comb_mul {p : Int} (hp : 0 < p) (a b c : List Int) (k : Int) : mul p (comb p a b k) c = comb p (mul p a c) (mul p b c) k := by
  refine row_ext (mul_row hp _ _) (comb_row hp _ _ _) fun i => ?_
  rw [mul_rd, comb_rd, mul_rd, mul_rd, conv_mod (a' := fun i => rd a i + k * rd b i) (b' := rd c) (fun j => by rw [comb_rd, Int.emod_emod]) (fun _ => rfl), conv_addl]
  rw [Int.add_emod (conv (rd a) (rd c) i % p), Int.emod_emod, Int.mul_emod k (conv (rd b) (rd c) i % p), Int.emod_emod, ← Int.mul_emod, ← Int.add_emod]
theorem mul_comb {p : Int} (hp : 0 < p) (a b c : List Int) (k : Int) : mul p c (comb p a b k) = comb p (mul p c a) (mul p c b) k := by
  rw [mul_comm', comb_mul hp, mul_comm' p a, mul_comm' p b]
theorem comb_nil {p : Int} (hp : 0 < p) {a : List Int} (ha : Row p a) (k : Int) : comb p a [] k = a :=
  row_ext (comb_row hp _ _ _) ha fun i => by rw [comb_rd, rd_nil, Int.mul_zero, Int.add_zero, ha.mod hp]

/-! Products of lists, as long as their degrees are not too great. -/
def degs : List (List Int) → Nat
  | [] => 0
  | b :: M => (b.length - 1) + degs M
theorem degs_app : ∀ (M N : List (List Int)), degs (M ++ N) = degs M + degs N
  | [], N => by simp [degs]
  | b :: M, N => by simp [degs, degs_app M N]; omega
def prodF (p : Int) (o : List Int) (M : List (List Int)) : List Int := M.foldl (mul p) o
theorem prodF_row {p : Int} (hp : isP p = true) : ∀ (M : List (List Int)) (o : List Int), Row p o → o.length ≠ 0 → (∀ b ∈ M, Row p b ∧ b.length ≠ 0) → Row p (prodF p o M) ∧ (prodF p o M).length = o.length + degs M
  | [], o, ho, h0, _ => ⟨ho, by simp [prodF, degs]⟩
  | b :: M, o, ho, h0, hM => by
    have hp2 := isP_pos hp
    obtain ⟨hb, hb0⟩ := hM b (by simp)
    have hl := mul_len_is hp ho hb h0 hb0
    obtain ⟨h1, h2⟩ := prodF_row hp M (mul p o b) (mul_row (by omega) _ _) (by omega) fun c hc => hM c (by simp [hc])
    exact ⟨h1, by show (prodF p (mul p o b) M).length = _; rw [h2, hl]; simp only [degs]; omega⟩
theorem prodF_app (p : Int) (o : List Int) (M N : List (List Int)) : prodF p o (M ++ N) = prodF p (prodF p o M) N := List.foldl_append
theorem prodF_mul {p : Int} (hp : 0 < p) : ∀ (M : List (List Int)) (o q : List Int), prodF p (mul p o q) M = mul p o (prodF p q M)
  | [], _, _ => rfl
  | b :: M, o, q => by
    show prodF p (mul p (mul p o q) b) M = mul p o (prodF p (mul p q b) M)
    rw [mul_assoc' hp, prodF_mul hp M]
end Go.Abs
/- Numbers modulo p. -/
namespace Go.Proofs.Ytkbnegemdlnncaa
open Go.Abs

theorem tmod_fix {n p : Int} (hp : 0 < p) : Int.tmod (Int.tmod n p + p) p = n % p := by
  have h1 := Int.lt_tmod_of_pos n hp
  rw [Int.tmod_eq_emod_of_nonneg (by omega), Int.tmod_def, Int.add_emod_right, Int.sub_mul_emod_self_left]

/-- Numbers that are small. -/
def Ent (l : List Int) : Prop := ∀ i, 0 ≤ rd l i ∧ rd l i < 256

theorem _root_.Go.Abs.Row.ent {p : Int} {l : List Int} (h : Row p l) (hp : 0 < p ∧ p ≤ 256) : Ent l := fun i => by have := h.rd hp.1 i; omega

def V64.Ent (v : V64) : Prop := ∀ i, i < 64 → 0 ≤ rd v.1 i ∧ rd v.1 i < 256

theorem mulk {x k : Int} (hx : 0 ≤ x ∧ x < 256) (hk : -1099511627776 ≤ k ∧ k ≤ 1099511627776) : -281474976710656 ≤ k * x ∧ k * x ≤ 281474976710656 := by
  have h1 : (-1099511627776) * x ≤ k * x := Int.mul_le_mul_of_nonneg_right hk.1 hx.1
  have h2 : k * x ≤ 1099511627776 * x := Int.mul_le_mul_of_nonneg_right hk.2 hx.1
  omega

theorem _root_.Go.Abs.Res.ent {p : Int} {v : V64} (h : Res p v) (hp : p ≤ 256) : V64.Ent v := fun i hi => by have := h i hi; omega

theorem ent_pad {p : Int} {l : List Int} (h : Row p l) (hp : 0 < p ∧ p ≤ 256) : V64.Ent (pad l) := Res.ent (res_pad h hp.1) hp.2

theorem mul_small {x y : Int} (hx : 0 ≤ x ∧ x < 256) (hy : 0 ≤ y ∧ y < 256) : 0 ≤ x * y ∧ x * y ≤ 65025 :=
  ⟨Int.mul_nonneg hx.1 hy.1, Int.mul_le_mul (c := 255) (d := 255) (by omega) (by omega) hy.1 (by omega)⟩
end Go.Proofs.Ytkbnegemdlnncaa
/- Inverses modulo p. -/
namespace Go.Proofs.Ytkbnegemdlnncaa
open Go.Abs

/-- The inverse of x modulo p. -/
def inv (p x : Int) : Int := if p = 2 then 1 else if p = 3 then x else if p = 5 then (if x = 1 then 1 else if x = 2 then 3 else if x = 3 then 2 else 4) else (if x = 1 then 1 else if x = 2 then 4 else if x = 3 then 5 else if x = 4 then 2 else if x = 5 then 3 else 6)
theorem inv_cases {p x : Int} (hp : isP p = true) (hx : 0 < x ∧ x < p) : (p = 2 ∧ x = 1) ∨ (p = 3 ∧ x = 1) ∨ (p = 3 ∧ x = 2) ∨ (p = 5 ∧ x = 1) ∨ (p = 5 ∧ x = 2) ∨ (p = 5 ∧ x = 3) ∨ (p = 5 ∧ x = 4) ∨
    (p = 7 ∧ x = 1) ∨ (p = 7 ∧ x = 2) ∨ (p = 7 ∧ x = 3) ∨ (p = 7 ∧ x = 4) ∨ (p = 7 ∧ x = 5) ∨ (p = 7 ∧ x = 6) := by
  rcases isP_iff.1 hp with rfl | rfl | rfl | rfl <;> omega
theorem inv_is {p x : Int} (hp : isP p = true) (hx : 0 < x ∧ x < p) : 0 < inv p x ∧ inv p x < p ∧ x * inv p x % p = 1 := by
  rcases inv_cases hp hx with ⟨rfl, rfl⟩ | ⟨rfl, rfl⟩ | ⟨rfl, rfl⟩ | ⟨rfl, rfl⟩ | ⟨rfl, rfl⟩ | ⟨rfl, rfl⟩ | ⟨rfl, rfl⟩ | ⟨rfl, rfl⟩ | ⟨rfl, rfl⟩ | ⟨rfl, rfl⟩ | ⟨rfl, rfl⟩ | ⟨rfl, rfl⟩ | ⟨rfl, rfl⟩ <;> decide
theorem inv_first {p x : Int} (hp : isP p = true) (hx : 0 < x ∧ x < p) {j : Int} (h1 : 1 ≤ j) (h2 : j < inv p x) : j * x % p ≠ 1 := by
  rcases inv_cases hp hx with ⟨rfl, rfl⟩ | ⟨rfl, rfl⟩ | ⟨rfl, rfl⟩ | ⟨rfl, rfl⟩ | ⟨rfl, rfl⟩ | ⟨rfl, rfl⟩ | ⟨rfl, rfl⟩ | ⟨rfl, rfl⟩ | ⟨rfl, rfl⟩ | ⟨rfl, rfl⟩ | ⟨rfl, rfl⟩ | ⟨rfl, rfl⟩ | ⟨rfl, rfl⟩ <;> simp [inv] at h2 <;> omega
theorem inv_pow {p x : Int} (hp : isP p = true) (hx : 0 < x ∧ x < p) : x ^ (p - 2).toNat % p = inv p x := by
  rcases inv_cases hp hx with ⟨rfl, rfl⟩ | ⟨rfl, rfl⟩ | ⟨rfl, rfl⟩ | ⟨rfl, rfl⟩ | ⟨rfl, rfl⟩ | ⟨rfl, rfl⟩ | ⟨rfl, rfl⟩ | ⟨rfl, rfl⟩ | ⟨rfl, rfl⟩ | ⟨rfl, rfl⟩ | ⟨rfl, rfl⟩ | ⟨rfl, rfl⟩ | ⟨rfl, rfl⟩ <;> decide
end Go.Proofs.Ytkbnegemdlnncaa
/- Division of polynomials, from the leading coefficient on. -/
namespace Go.Proofs.Ytkbnegemdlnncaa
open Go.Abs

def dstep (p : Int) (b : Nat → Int) (m : Nat) (f : Int) (i : Nat) (r : Nat → Int) (j : Nat) : Int := if i ≤ j ∧ j ≤ i + m then (r j - f * b (j - i)) % p else r j
def dfac (p iv : Int) (m i : Nat) (r : Nat → Int) : Int := r (i + m) * iv % p
def drem (p : Int) (b : Nat → Int) (m : Nat) (iv : Int) : Nat → (Nat → Int) → Nat → Int
  | 0, r => r
  | i + 1, r => drem p b m iv i (dstep p b m (dfac p iv m i r) i r)
def dquo (p : Int) (b : Nat → Int) (m : Nat) (iv : Int) : Nat → (Nat → Int) → Nat → Int
  | 0, _, _ => 0
  | i + 1, r, j => if j = i then dfac p iv m i r else dquo p b m iv i (dstep p b m (dfac p iv m i r) i r) j
def lead (b : List Int) : Int := rd b (b.length - 1)
def quo (p : Int) (a b : List Int) : List Int := ofF (a.length + 1 - b.length) (dquo p (rd b) (b.length - 1) (inv p (lead b)) (a.length + 1 - b.length) (rd a))
def rem (p : Int) (a b : List Int) : List Int := ofF a.length (drem p (rd b) (b.length - 1) (inv p (lead b)) (a.length + 1 - b.length) (rd a))

section
variable {p : Int} {b : Nat → Int} {m : Nat} {iv : Int}
theorem dstep_res (hp : 0 < p) {r : Nat → Int} (hr : ∀ j, 0 ≤ r j ∧ r j < p) (f : Int) (i j : Nat) : 0 ≤ dstep p b m f i r j ∧ dstep p b m f i r j < p := by
  unfold dstep
  split
  · exact emod_res hp _
  · exact hr j
theorem drem_res (hp : 0 < p) : ∀ (i : Nat) (r : Nat → Int), (∀ j, 0 ≤ r j ∧ r j < p) → ∀ j, 0 ≤ drem p b m iv i r j ∧ drem p b m iv i r j < p
  | 0, r, hr, j => hr j
  | i + 1, r, hr, j => drem_res hp i _ (fun j => dstep_res hp hr _ i j) j
theorem dquo_res (hp : 0 < p) : ∀ (i : Nat) (r : Nat → Int) (j : Nat), 0 ≤ dquo p b m iv i r j ∧ dquo p b m iv i r j < p
  | 0, r, j => by simp only [dquo]; omega
  | i + 1, r, j => by
    simp only [dquo]
    split
    · exact emod_res hp _
    · exact dquo_res hp i _ j
theorem dquo_ge : ∀ (i : Nat) (r : Nat → Int) (j : Nat), i ≤ j → dquo p b m iv i r j = 0
  | 0, _, _, _ => rfl
  | i + 1, r, j, h => by
    simp only [dquo]
    rw [if_neg (by omega)]
    exact dquo_ge i _ j (by omega)
theorem cv_congr {f g c : Nat → Int} (k : Nat) : ∀ n, (∀ i, i < n → f i = g i) → cv f c n k = cv g c n k := fun n h => sumTo_congr n fun i hi => by rw [h i hi]
/-- The rest vanishes from the place m on. -/
theorem drem_zero (hp : 0 < p) (hb : b m * iv % p = 1 % p) : ∀ (i : Nat) (r : Nat → Int), (∀ j, 0 ≤ r j ∧ r j < p) → (∀ j, i + m ≤ j → r j = 0) → ∀ j, m ≤ j → drem p b m iv i r j = 0
  | 0, r, _, hz, j, hj => hz j (by omega)
  | i + 1, r, hr, hz, j, hj => by
    refine drem_zero hp hb i _ (fun j => dstep_res hp hr _ i j) (fun j hj => ?_) j hj
    unfold dstep
    by_cases e : j = i + m
    · subst e
      rw [if_pos (by omega), show i + m - i = m by omega]
      have h1 : (r (i + m) - dfac p iv m i r * b m) % p = 0 := by
        unfold dfac
        have h2 : (r (i + m) * iv % p) * b m % p = r (i + m) % p := by
          rw [Int.mul_emod, Int.emod_emod, ← Int.mul_emod, Int.mul_assoc, Int.mul_emod, Int.mul_comm iv, hb, ← Int.mul_emod, Int.mul_one]
        rw [Int.sub_emod, h2, Int.sub_self]; rfl
      exact h1
    · rw [if_neg (by omega)]
      exact hz j (by omega)
/-- Quotient and rest give what was divided. -/
theorem div_eq (hp : 0 < p) (hbz : ∀ j, m < j → b j = 0) : ∀ (i : Nat) (r : Nat → Int) (j : Nat), (cv (dquo p b m iv i r) b i j + drem p b m iv i r j) % p = r j % p
  | 0, r, j => by simp [cv, sumTo, drem]
  | i + 1, r, j => by
    have ih := div_eq hp hbz i (dstep p b m (dfac p iv m i r) i r) j
    simp only [drem]
    rw [cv_succ, cv_congr (g := dquo p b m iv i (dstep p b m (dfac p iv m i r) i r)) j i fun k hk => by simp only [dquo]; rw [if_neg (by omega)]]
    have e : dquo p b m iv (i + 1) r i = dfac p iv m i r := by simp only [dquo, if_true]
    rw [e]
    generalize dfac p iv m i r = f at *
    generalize cv (dquo p b m iv i (dstep p b m f i r)) b i j = c at *
    generalize drem p b m iv i (dstep p b m f i r) j = d at *
    by_cases h : i ≤ j
    · rw [if_pos h]
      by_cases h2 : j ≤ i + m
      · simp only [dstep] at ih
        rw [if_pos ⟨h, h2⟩, Int.emod_emod] at ih
        have e1 : c + f * b (j - i) + d = (c + d) + f * b (j - i) := by omega
        rw [e1, Int.add_emod, ih, ← Int.add_emod]
        congr 1
        omega
      · simp only [dstep] at ih
        rw [if_neg (by omega)] at ih
        rw [hbz (j - i) (by omega), Int.mul_zero, Int.add_zero]
        exact ih
    · simp only [dstep] at ih
      rw [if_neg (by omega)] at ih
      rw [if_neg h, Int.add_zero]
      exact ih
end

theorem lead_pos {p : Int} (hp : 0 < p) {b : List Int} (hb : Row p b) (h0 : b.length ≠ 0) : 0 < lead b ∧ lead b < p := by
  have h1 := hb.rd hp (b.length - 1)
  have h2 := hb.nrm h0
  unfold lead
  omega
theorem quo_row {p : Int} (hp : 0 < p) (a b : List Int) : Row p (quo p a b) := row_ofF fun i _ => dquo_res hp _ _ i
theorem rem_row {p : Int} (hp : 0 < p) {a : List Int} (ha : Row p a) (b : List Int) : Row p (rem p a b) := row_ofF fun i _ => drem_res hp _ _ (fun j => ha.rd hp j) i
theorem quo_len (p : Int) (a b : List Int) : (quo p a b).length ≤ a.length + 1 - b.length := by rw [quo, ofF_len]; exact top_le _ _
theorem rem_len' (p : Int) (a b : List Int) : (rem p a b).length ≤ a.length := by rw [rem, ofF_len]; exact top_le _ _
theorem quo_rd (p : Int) (a b : List Int) (j : Nat) : rd (quo p a b) j = dquo p (rd b) (b.length - 1) (inv p (lead b)) (a.length + 1 - b.length) (rd a) j := rd_ofF (fun i hi => dquo_ge _ _ _ hi) j
theorem drem_big {p : Int} {b : Nat → Int} {m : Nat} {iv : Int} : ∀ (i : Nat) (r : Nat → Int) (n : Nat), i + m ≤ n → (∀ j, n ≤ j → r j = 0) → ∀ j, n ≤ j → drem p b m iv i r j = 0
  | 0, r, n, _, hz, j, hj => hz j hj
  | i + 1, r, n, hn, hz, j, hj => drem_big i _ n (by omega) (fun j hj => by unfold dstep; rw [if_neg (by omega)]; exact hz j hj) j hj
theorem rem_rd {p : Int} (a : List Int) {b : List Int} (h0 : b.length ≠ 0) (j : Nat) : rd (rem p a b) j = drem p (rd b) (b.length - 1) (inv p (lead b)) (a.length + 1 - b.length) (rd a) j := by
  refine rd_ofF (fun i hi => ?_) j
  rcases Nat.lt_or_ge a.length b.length with h | h
  · rw [show a.length + 1 - b.length = 0 by omega]; exact rd_ge hi
  · exact drem_big _ _ a.length (by omega) (fun j hj => rd_ge hj) i hi
theorem rem_len {p : Int} (hp : isP p = true) {a b : List Int} (ha : Row p a) (hb : Row p b) (h0 : b.length ≠ 0) : (rem p a b).length < b.length := by
  have hp2 := isP_pos hp
  have hi := inv_is hp (lead_pos (show 0 < p by omega) hb h0)
  have hz : ∀ j, b.length - 1 ≤ j → rd (rem p a b) j = 0 := fun j hj => by
    rw [rem_rd a h0]
    refine drem_zero (by omega) ?_ _ _ (fun j => ha.rd (by omega) j) (fun j hj => rd_ge (by omega)) j hj
    have : (1 : Int) % p = 1 := Int.emod_eq_of_lt (by omega) (by omega)
    rw [this]
    exact hi.2.2
  rcases Nat.lt_or_ge (rem p a b).length b.length with h | h
  · exact h
  · have h1 := (rem_row (show 0 < p by omega) ha b).nrm (by omega)
    exact absurd (hz _ (by omega)) h1
/-- What is divided is quotient times divisor, plus the rest. -/
theorem divide_eq {p : Int} (hp : isP p = true) {a b : List Int} (ha : Row p a) (h0 : b.length ≠ 0) (j : Nat) : rd a j = (conv (rd (quo p a b)) (rd b) j + rd (rem p a b) j) % p := by
  have hp2 := isP_pos hp
  have h := div_eq (p := p) (b := rd b) (m := b.length - 1) (iv := inv p (lead b)) (by omega) (fun j hj => rd_ge (by omega)) (a.length + 1 - b.length) (rd a) j
  have e : conv (rd (quo p a b)) (rd b) j = cv (dquo p (rd b) (b.length - 1) (inv p (lead b)) (a.length + 1 - b.length) (rd a)) (rd b) (a.length + 1 - b.length) j := by
    rw [← cv_conv (n := a.length + 1 - b.length) fun i hi => rd_ge (Nat.le_trans (quo_len p a b) hi)]
    exact cv_congr _ _ fun i _ => quo_rd p a b i
  have hr := ha.rd (show 0 < p by omega) j
  rw [e, rem_rd a h0, h, Int.emod_eq_of_lt hr.1 hr.2]
end Go.Proofs.Ytkbnegemdlnncaa
/- Numbers as digits. -/
namespace Go.Proofs.Ytkbnegemdlnncaa
open Go.Abs

def digs (p n : Nat) : List Int := if n = 0 ∨ p < 2 then [] else ((n % p : Nat) : Int) :: digs p (n / p)
termination_by n
decreasing_by exact Nat.div_lt_self (by omega) (by omega)

theorem digs_zero (p : Nat) : digs p 0 = [] := by rw [digs]; simp

theorem digs_pos {p n : Nat} (hp : 2 ≤ p) (hn : 0 < n) : digs p n = ((n % p : Nat) : Int) :: digs p (n / p) := by
  rw [digs, if_neg (by omega)]

theorem digs_sum {p : Nat} : ∀ n : Nat, (∀ d ∈ digs p n, (0 : Int) ≤ d) ∧ (digs p n).sum ≤ n ∧ (digs p n).length ≤ n := by
  intro n
  induction n using Nat.strongRecOn with
  | ind n ih =>
    by_cases h : n = 0 ∨ p < 2
    · rw [digs, if_pos h]; simp
    · have hlt : n / p < n := Nat.div_lt_self (by omega) (by omega)
      have hle : n % p + n / p ≤ n := by
        have := Nat.div_add_mod n p
        have h3 : n / p ≤ p * (n / p) := Nat.le_mul_of_pos_left _ (by omega)
        omega
      obtain ⟨h1, h2, h3⟩ := ih _ hlt
      rw [digs, if_neg h]
      refine ⟨fun d hd => ?_, ?_, ?_⟩
      · rcases List.mem_cons.1 hd with rfl | hd
        · omega
        · exact h1 d hd
      · simp only [List.sum_cons]; omega
      · simp only [List.length_cons]; omega

theorem digs_lt {p : Nat} (hp : 2 ≤ p) : ∀ n : Nat, ∀ d ∈ digs p n, 0 ≤ d ∧ d < p := by
  intro n
  induction n using Nat.strongRecOn with
  | ind n ih =>
    intro d hd
    by_cases h : n = 0
    · subst h; rw [digs_zero] at hd; cases hd
    · rw [digs_pos hp (by omega)] at hd
      rcases List.mem_cons.1 hd with rfl | hd
      · have := Nat.mod_lt n (show p > 0 by omega)
        generalize n % p = x at this
        omega
      · exact ih _ (Nat.div_lt_self (by omega) hp) d hd

theorem digs_len {p : Nat} (hp : 2 ≤ p) : ∀ (k n : Nat), n < 2 ^ k → (digs p n).length ≤ k
  | 0, n, h => by
    have : n = 0 := by simpa using h
    subst this; rw [digs_zero]; simp
  | k + 1, n, h => by
    by_cases hn : n = 0
    · subst hn; rw [digs_zero]; simp
    · rw [digs_pos hp (by omega)]
      have : n / p < 2 ^ k := by
        have h1 : n / p ≤ n / 2 := Nat.div_le_div_left hp (by omega)
        have h2 : n / 2 < 2 ^ k := by rw [Nat.pow_succ] at h; omega
        omega
      have := digs_len hp k _ this
      simp only [List.length_cons]; omega

theorem digs_len40 {p n : Nat} (hp : 2 ≤ p) (hn : n ≤ 1000000000000) : (digs p n).length ≤ 40 := digs_len hp 40 n (by omega)

theorem digs_bytes {p n : Nat} (hp : 2 ≤ p) (h : p ≤ 256) : Bytes (digs p n) := fun d hd => by
  have := digs_lt hp n d hd; omega

theorem rd_cons (x : Int) (l : List Int) (i : Nat) : rd (x :: l) (i + 1) = rd l i := by simp [rd]
theorem digs_row {p : Nat} (hp : 2 ≤ p) (n : Nat) : Row p (digs p n) := by
  refine ⟨fun d hd => ?_, ?_⟩
  · have := digs_lt hp n d hd; omega
  · induction n using Nat.strongRecOn with
    | ind n ih =>
      intro h
      have hn : 0 < n := by
        rcases Nat.eq_zero_or_pos n with rfl | h'
        · rw [digs_zero] at h; simp at h
        · exact h'
      rw [digs_pos hp hn]
      simp only [List.length_cons, Nat.add_sub_cancel]
      rcases Nat.eq_zero_or_pos (n / p) with h0 | h0
      · rw [h0, digs_zero]
        have : n < p := by
          rcases Nat.lt_or_ge n p with h | h
          · exact h
          · have := Nat.div_pos h (by omega); omega
        rw [Nat.mod_eq_of_lt this]
        simp [rd]; omega
      · have hlt : n / p < n := Nat.div_lt_self hn (by omega)
        have h1 : (digs p (n / p)).length ≠ 0 := by rw [digs_pos hp h0]; simp
        have h2 := ih _ hlt h1
        obtain ⟨m, hm⟩ : ∃ m, (digs p (n / p)).length = m + 1 := ⟨(digs p (n / p)).length - 1, by omega⟩
        rw [hm] at h2 ⊢
        rw [rd_cons]
        simpa using h2
theorem digs_len_pow {p : Nat} (hp : 2 ≤ p) : ∀ (d n : Nat), p ^ d ≤ n → n < p ^ (d + 1) → (digs p n).length = d + 1
  | 0, n, h1, h2 => by
    simp only [Nat.pow_zero, Nat.zero_add, Nat.pow_one] at h1 h2
    rw [digs_pos hp (by omega), Nat.div_eq_of_lt h2, digs_zero]; rfl
  | d + 1, n, h1, h2 => by
    have hpos : 0 < p ^ (d + 1) := Nat.pow_pos (by omega)
    have h3 : p ^ d ≤ n / p := by
      rw [Nat.le_div_iff_mul_le (by omega)]
      rwa [← Nat.pow_succ]
    have h4 : n / p < p ^ (d + 1) := by
      rw [Nat.div_lt_iff_lt_mul (by omega)]
      rwa [← Nat.pow_succ]
    rw [digs_pos hp (by omega), List.length_cons, digs_len_pow hp d _ h3 h4]
theorem digs_monic_len {p : Nat} (hp : 2 ≤ p) {d i : Nat} (hi : i < p ^ d) : (digs p (p ^ d + i)).length = d + 1 := by
  refine digs_len_pow hp d _ (by omega) ?_
  have : p ^ (d + 1) = p ^ d * p := Nat.pow_succ ..
  have h2 : p ^ d * 2 ≤ p ^ d * p := Nat.mul_le_mul_left _ hp
  omega
end Go.Proofs.Ytkbnegemdlnncaa
/- The polynomials modulo p as a ring; irreducible ones. -/
namespace Go.Proofs.Ytkbnegemdlnncaa
open Go.Abs

structure Pri where
  n : Nat
  ok : isP (n : Int) = true
def Pri.p (P : Pri) : Int := P.n
theorem Pri.okp (P : Pri) : isP P.p = true := P.ok
theorem Pri.pos (P : Pri) : 0 < P.p := by have := isP_pos P.ok; unfold Pri.p; omega
theorem Pri.two (P : Pri) : 2 ≤ P.p ∧ P.p ≤ 7 := isP_pos P.ok
theorem Pri.is (P : Pri) : P.n = 2 ∨ P.n = 3 ∨ P.n = 5 ∨ P.n = 7 := by
  have := isP_iff.1 P.ok; omega
structure PP (P : Pri) where
  l : List Int
  row : Row P.p l
theorem pp_eq {P : Pri} : ∀ {a b : PP P}, a.1 = b.1 → a = b
  | ⟨_, _⟩, ⟨_, _⟩, h => by cases h; rfl
variable {P : Pri}
def PP.len (a : PP P) : Nat := a.1.length
def PP.c (a : PP P) (i : Nat) : Int := rd a.1 i
theorem PP.c_res (a : PP P) (i : Nat) : 0 ≤ a.c i ∧ a.c i < P.p := a.2.rd P.pos i
theorem PP.c_mod (a : PP P) (i : Nat) : a.c i % P.p = a.c i := a.2.mod P.pos i
theorem pp_ext {a b : PP P} (h : ∀ i, a.c i = b.c i) : a = b := pp_eq (row_ext a.2 b.2 h)
theorem row1 {p : Int} (hp : 2 ≤ p) : Row p [1] := ⟨by simp; omega, by simp [rd]⟩
theorem rowT {p : Int} (hp : 2 ≤ p) : Row p [0, 1] := ⟨by simp; omega, by simp [rd]⟩
instance : Add (PP P) := ⟨fun a b => ⟨comb P.p a.1 b.1 1, comb_row P.pos _ _ _⟩⟩
instance : Mul (PP P) := ⟨fun a b => ⟨mul P.p a.1 b.1, mul_row P.pos _ _⟩⟩
instance : Neg (PP P) := ⟨fun a => ⟨comb P.p [] a.1 (-1), comb_row P.pos _ _ _⟩⟩
instance : Zero (PP P) := ⟨⟨[], row_nil _⟩⟩
instance : One (PP P) := ⟨⟨[1], row1 P.two.1⟩⟩
def ppm (l : List Int) (h : Row P.p l) : PP P := ⟨l, h⟩
def ppT : PP P := ⟨[0, 1], rowT P.two.1⟩
theorem add_c (a b : PP P) (i : Nat) : (a + b).c i = (a.c i + b.c i) % P.p := by
  show rd (comb P.p a.1 b.1 1) i = _
  rw [comb_rd, Int.one_mul]; rfl
theorem neg_c (a : PP P) (i : Nat) : (-a).c i = (-a.c i) % P.p := by
  show rd (comb P.p [] a.1 (-1)) i = _
  rw [comb_rd, rd_nil, Int.zero_add, Int.neg_mul, Int.one_mul]; rfl
theorem mul_c (a b : PP P) (i : Nat) : (a * b).c i = conv a.c b.c i % P.p := mul_rd _ _ _ _
theorem zero_c (i : Nat) : (0 : PP P).c i = 0 := rd_nil i
theorem ppring : IsRing (PP P) where
  add_comm a b := pp_ext fun i => by rw [add_c, add_c, Int.add_comm]
  add_assoc a b c := pp_ext fun i => by simp only [add_c, Int.emod_add_emod, Int.add_emod_emod, Int.add_assoc]
  add_zero a := pp_ext fun i => by rw [add_c, zero_c, Int.add_zero, PP.c_mod]
  add_neg a := pp_ext fun i => by rw [add_c, neg_c, zero_c, Int.add_emod_emod, Int.add_right_neg]; rfl
  mul_comm a b := pp_eq (mul_comm' _ _ _)
  mul_assoc a b c := pp_eq (mul_assoc' P.pos _ _ _)
  mul_one a := pp_eq (mul_one' P.pos a.2)
  mul_add a b c := pp_eq (mul_comb P.pos _ _ _ _)

theorem len_zero {a : PP P} : a.len = 0 ↔ a = 0 := ⟨fun h => pp_eq (List.eq_nil_of_length_eq_zero h), fun h => by rw [h]; rfl⟩
theorem len_one : (1 : PP P).len = 1 := rfl
theorem one_ne : (1 : PP P) ≠ 0 := fun h => by have := len_zero.2 h; rw [len_one] at this; omega
theorem len_mul {a b : PP P} (ha : a ≠ 0) (hb : b ≠ 0) : (a * b).len = a.len + b.len - 1 :=
  mul_len_is P.ok a.2 b.2 (fun h => ha (len_zero.1 h)) (fun h => hb (len_zero.1 h))
theorem len_add (a b : PP P) : (a + b).len ≤ max a.len b.len := comb_len _ _ _ _
theorem len_neg (a : PP P) : (-a).len ≤ a.len := by
  have := comb_len P.p [] a.1 (-1)
  show (comb P.p [] a.1 (-1)).length ≤ a.1.length
  simpa using this
theorem len_pos {a : PP P} (h : a ≠ 0) : 1 ≤ a.len := by
  rcases Nat.eq_zero_or_pos a.len with h0 | h0
  · exact absurd (len_zero.1 h0) h
  · exact h0
theorem pp_dom : ∀ a b : PP P, a * b = 0 → a = 0 ∨ b = 0 := fun a b h => by
  by_cases ha : a = 0
  · exact .inl ha
  · by_cases hb : b = 0
    · exact .inr hb
    · have h1 := len_mul ha hb
      rw [h, len_zero.2 rfl] at h1
      have := len_pos ha
      have := len_pos hb
      omega
theorem nsm_c (n : Nat) (a : PP P) (i : Nat) : (nsm n a).c i = (n * a.c i) % P.p := by
  induction n with
  | zero => simp [nsm, zero_c]
  | succ n ih =>
    simp only [nsm, add_c, ih, Int.emod_add_emod]
    congr 1
    rw [Int.natCast_succ, Int.add_mul, Int.one_mul]
theorem pp_char (x : PP P) : nsm P.n x = 0 := pp_ext fun i => by
  rw [nsm_c, zero_c]
  exact Int.emod_eq_zero_of_dvd ⟨x.c i, rfl⟩

/-! Division. -/
def pquo (a b : PP P) : PP P := ⟨quo P.p a.1 b.1, quo_row P.pos _ _⟩
def prem (a b : PP P) : PP P := ⟨rem P.p a.1 b.1, rem_row P.pos a.2 _⟩
theorem pdiv (a : PP P) {b : PP P} (hb : b ≠ 0) : a = pquo a b * b + prem a b ∧ (prem a b).len < b.len := by
  have h0 : b.1.length ≠ 0 := fun h => hb (len_zero.1 h)
  refine ⟨pp_ext fun i => ?_, rem_len P.ok a.2 b.2 h0⟩
  rw [add_c, mul_c, Int.emod_add_emod]
  exact divide_eq P.ok a.2 h0 i
theorem dv_len {a b : PP P} (h : Dv a b) (hb : b ≠ 0) : a.len ≤ b.len := by
  obtain ⟨q, rfl⟩ := h
  have hq : q ≠ 0 := fun e => hb (by rw [e, ppring.zero_mul])
  have ha : a ≠ 0 := fun e => hb (by rw [e, ppring.mul_zero])
  have := len_mul hq ha
  have := len_pos hq
  omega
theorem dv_small {a b : PP P} (h : Dv a b) (hl : b.len < a.len) : b = 0 := by
  by_cases hb : b = 0
  · exact hb
  · have := dv_len h hb; omega
theorem prem_iff {a b : PP P} (hb : b ≠ 0) : prem a b = 0 ↔ Dv b a := by
  obtain ⟨h1, h2⟩ := pdiv a hb
  constructor
  · intro h
    rw [h, ppring.add_zero] at h1
    exact ⟨_, h1⟩
  · intro h
    rw [h1] at h
    exact dv_small (ppring.dv_sub h (ppring.dv_mul (ppring.dv_refl b) _)) h2
theorem quo_is {a b q r : PP P} (hb : b ≠ 0) (h : a = q * b + r) (hr : r.len < b.len) : pquo a b = q ∧ prem a b = r := by
  obtain ⟨h1, h2⟩ := pdiv a hb
  have R : IsRing (PP P) := ppring
  have e : (pquo a b + -q) * b = r + -prem a b := by
    have h3 : q * b + r = pquo a b * b + prem a b := by rw [← h, ← h1]
    rw [R.add_mul, R.mul_comm (-q), R.mul_neg, R.mul_comm b q]
    refine R.cancel (a := q * b) ?_
    rw [R.add_left_comm, R.add_neg, R.add_zero]
    refine R.cancel (a := prem a b) ?_
    rw [R.add_comm (prem a b), ← h3, R.add_left_comm (prem a b), R.add_left_comm (prem a b), R.add_neg, R.add_zero]
  have hz : r + -prem a b = 0 := by
    refine dv_small (a := b) ⟨_, e.symm⟩ ?_
    have := len_add r (-prem a b)
    have := len_neg (prem a b)
    omega
  have hr' := R.sub_zero hz
  refine ⟨?_, hr'.symm⟩
  rw [hz] at e
  rcases pp_dom _ _ e with h4 | h4
  · exact R.sub_zero h4
  · exact absurd h4 hb

/-! Units, the greatest common divisor. -/
theorem unit_of {a : PP P} (h : a.len = 1) : ∃ b, b * a = 1 := by
  have hc := a.c_res 0
  have hn : a.c 0 ≠ 0 := by
    have := a.2.nrm (by have : a.1.length = 1 := h; omega)
    have h1 : a.1.length = 1 := h
    rw [h1] at this
    exact this
  obtain ⟨i1, i2, i3⟩ := inv_is P.ok (x := a.c 0) ⟨by omega, hc.2⟩
  have hr : Row P.p [inv P.p (a.c 0)] := ⟨by simp only [List.mem_singleton, forall_eq]; exact ⟨by have : 0 < inv P.p (a.c 0) := i1; omega, i2⟩, fun _ => by simp [rd]; have : 0 < inv P.p (a.c 0) := i1; omega⟩
  refine ⟨ppm _ hr, ?_⟩
  refine pp_ext fun i => ?_
  have h1 : a.1.length = 1 := h
  rw [mul_c]
  have e1 : (1 : PP P).c i = if i = 0 then 1 else 0 := by
    show rd [1] i = _
    by_cases hi : i = 0
    · subst hi; simp [rd]
    · rw [if_neg hi, rd_ge (by simp; omega)]
  rw [e1]
  by_cases hi : i = 0
  · subst hi
    rw [if_pos rfl]
    have : conv (PP.c (ppm _ hr : PP P)) a.c 0 = inv P.p (a.c 0) * a.c 0 := by
      simp [conv, cv, sumTo, PP.c, ppm, rd]
    rw [this, Int.mul_comm]
    exact i3
  · have z1 : ∀ j, 1 ≤ j → (ppm _ hr : PP P).c j = 0 := fun j hj => rd_ge (l := [inv P.p (a.c 0)]) (by simpa using hj)
    have z2 : ∀ j, 1 ≤ j → a.c j = 0 := fun j hj => rd_ge (l := a.1) (by omega)
    rw [if_neg hi, conv_zero (n := 1) (m := 1) z1 z2 (by omega)]
    rfl
theorem dv_unit {a : PP P} (h : a.len = 1) (b : PP P) : Dv a b := by
  obtain ⟨u, hu⟩ := unit_of h
  exact ppring.dv_one ⟨u, hu.symm⟩
theorem bezout : ∀ (n : Nat) (a b : PP P), b.len ≤ n → ∃ g u v, g = u * a + v * b ∧ Dv g a ∧ Dv g b
  | 0, a, b, h => by
    have hb : b = 0 := len_zero.1 (by omega)
    subst hb
    exact ⟨a, 1, 0, by rw [ppring.one_mul, ppring.zero_mul, ppring.add_zero], ppring.dv_refl a, ppring.dv_zero a⟩
  | n + 1, a, b, h => by
    by_cases hb : b = 0
    · subst hb
      exact ⟨a, 1, 0, by rw [ppring.one_mul, ppring.zero_mul, ppring.add_zero], ppring.dv_refl a, ppring.dv_zero a⟩
    · obtain ⟨h1, h2⟩ := pdiv a hb
      obtain ⟨g, u, v, e, d1, d2⟩ := bezout n b (prem a b) (by omega)
      have R : IsRing (PP P) := ppring
      refine ⟨g, v, u + -(v * pquo a b), ?_, ?_, d1⟩
      · have e2 : v * a = v * (pquo a b * b) + v * prem a b := by rw [← R.mul_add, ← h1]
        have e3 : -(v * pquo a b) * b = -(v * (pquo a b * b)) := by rw [R.mul_comm (-(v * pquo a b)), R.mul_neg, R.mul_comm b, R.mul_assoc]
        rw [e2, R.add_mul, e3, e]
        generalize v * (pquo a b * b) = x
        generalize v * prem a b = y
        generalize u * b = z
        rw [R.add_comm z (-x), R.add_assoc x, R.add_left_comm y, ← R.add_assoc x, R.add_neg, R.zero_add, R.add_comm]
      · rw [h1]
        exact R.dv_add (R.dv_mul d1 _) d2

def Irr (f : PP P) : Prop := 2 ≤ f.len ∧ ∀ a b : PP P, f = a * b → a.len = 1 ∨ b.len = 1
theorem Irr.ne {f : PP P} (h : Irr f) : f ≠ 0 := fun e => by have := h.1; rw [len_zero.2 e] at this; omega
/-- What divides an irreducible polynomial is a unit, or is divided by it. -/
theorem Irr.dv {f g : PP P} (h : Irr f) (hg : Dv g f) : g.len = 1 ∨ Dv f g := by
  obtain ⟨q, e⟩ := hg
  rcases h.2 q g e with h1 | h1
  · obtain ⟨u, hu⟩ := unit_of h1
    exact .inr ⟨u, by rw [e, ← ppring.mul_assoc, hu, ppring.one_mul]⟩
  · exact .inl h1
theorem Irr.coprime {f a : PP P} (h : Irr f) (ha : ¬ Dv f a) : ∃ u v, u * a + v * f = 1 := by
  obtain ⟨g, u, v, e, d1, d2⟩ := bezout f.len a f (Nat.le_refl _)
  rcases h.dv d2 with h1 | h1
  · obtain ⟨w, hw⟩ := unit_of h1
    exact ⟨w * u, w * v, by rw [← hw, e, ppring.mul_add, ppring.mul_assoc, ppring.mul_assoc]⟩
  · exact absurd (ppring.dv_trans h1 d1) ha
theorem Irr.prime {f a b : PP P} (h : Irr f) (hab : Dv f (a * b)) : Dv f a ∨ Dv f b := by
  by_cases ha : Dv f a
  · exact .inl ha
  · obtain ⟨u, v, e⟩ := h.coprime ha
    refine .inr ?_
    have e2 : b = u * (a * b) + v * b * f := by
      rw [← ppring.mul_assoc, ppring.mul_assoc v b, ppring.mul_comm b f, ← ppring.mul_assoc v f, ← ppring.add_mul, e, ppring.one_mul]
    rw [e2]
    exact ppring.dv_add (ppring.dv_mul hab u) (ppring.dv_mul (ppring.dv_refl f) _)
/-- What is not irreducible has a divisor of at most half its degree. -/
theorem Irr.of_not {f : PP P} (h2 : 2 ≤ f.len) (h : ¬ Irr f) : ∃ a b, f = a * b ∧ 2 ≤ a.len ∧ 2 ≤ b.len ∧ a.len < f.len ∧ b.len < f.len ∧ a.len + b.len = f.len + 1 := by
  have h3 : ∃ a b, f = a * b ∧ ¬ (a.len = 1 ∨ b.len = 1) := Classical.byContradiction fun hn => h ⟨h2, fun a b e => Classical.byContradiction fun hc => hn ⟨a, b, e, hc⟩⟩
  obtain ⟨a, b, e, hc⟩ := h3
  have hf : f ≠ 0 := fun e0 => by rw [len_zero.2 e0] at h2; omega
  have ha : a ≠ 0 := fun e0 => hf (by rw [e, e0, ppring.zero_mul])
  have hb : b ≠ 0 := fun e0 => hf (by rw [e, e0, ppring.mul_zero])
  have h4 := len_mul ha hb
  rw [← e] at h4
  have := len_pos ha
  have := len_pos hb
  exact ⟨a, b, e, by omega, by omega, by omega, by omega, by omega⟩
theorem exists_irr : ∀ (n : Nat) (f : PP P), f.len ≤ n → 2 ≤ f.len → ∃ g, Irr g ∧ Dv g f
  | 0, f, h, h2 => by omega
  | n + 1, f, h, h2 => by
    by_cases hi : Irr f
    · exact ⟨f, hi, ppring.dv_refl f⟩
    · obtain ⟨a, b, e, h3, h4, h5, _⟩ := Irr.of_not h2 hi
      obtain ⟨g, hg, hd⟩ := exists_irr n a (by omega) h3
      exact ⟨g, hg, by rw [e]; exact ppring.dv_mul' hd b⟩
/-- One of at most half the degree. -/
theorem exists_half {f : PP P} (h2 : 2 ≤ f.len) (h : ¬ Irr f) : ∃ g, Irr g ∧ Dv g f ∧ 2 * (g.len - 1) ≤ f.len - 1 := by
  obtain ⟨a, b, e, h3, h4, h5, h6, h7⟩ := Irr.of_not h2 h
  have hne : ∀ {x : PP P}, 2 ≤ x.len → x ≠ 0 := fun h e => by rw [len_zero.2 e] at h; omega
  rcases Nat.le_total a.len b.len with hl | hl
  · obtain ⟨g, hg, hd⟩ := exists_irr a.len a (Nat.le_refl _) h3
    have := dv_len hd (hne h3)
    exact ⟨g, hg, by rw [e]; exact ppring.dv_mul' hd b, by omega⟩
  · obtain ⟨g, hg, hd⟩ := exists_irr b.len b (Nat.le_refl _) h4
    have := dv_len hd (hne h4)
    exact ⟨g, hg, by rw [e]; exact ppring.dv_mul hd a, by omega⟩
end Go.Proofs.Ytkbnegemdlnncaa
/- Irreducible polynomials modulo p: which of them divide T^(p^n) - T. -/
namespace Go.Proofs.Ytkbnegemdlnncaa
open Go.Abs

/-! Numbers of polynomials. -/
def num (p : Nat) : List Int → Nat
  | [] => 0
  | c :: l => c.toNat + p * num p l
theorem row_tail {p c : Int} {l : List Int} (h : Row p (c :: l)) : Row p l := by
  refine ⟨fun d hd => h.res d (by simp [hd]), fun hl => ?_⟩
  have := h.nrm (by simp)
  simp only [List.length_cons, Nat.add_sub_cancel] at this
  obtain ⟨m, hm⟩ : ∃ m, l.length = m + 1 := ⟨l.length - 1, by omega⟩
  rw [hm, rd_cons] at this
  rw [hm]; exact this
theorem digs_num {p : Nat} (hp : 2 ≤ p) : ∀ l : List Int, Row p l → digs p (num p l) = l
  | [], _ => digs_zero p
  | c :: l, h => by
    have hc := h.res c (by simp)
    have ih := digs_num hp l (row_tail h)
    have e1 : (c.toNat + p * num p l) % p = c.toNat := by rw [Nat.add_mul_mod_self_left, Nat.mod_eq_of_lt (by omega)]
    have e2 : (c.toNat + p * num p l) / p = num p l := by rw [Nat.add_mul_div_left _ _ (by omega), Nat.div_eq_of_lt (by omega)]; omega
    have hpos : 0 < c.toNat + p * num p l := by
      cases l with
      | nil =>
        have := h.nrm (by simp)
        simp [rd] at this
        omega
      | cons d l =>
        have : num p (d :: l) ≠ 0 := fun e => by rw [e, digs_zero] at ih; cases ih
        have : 0 < p * num p (d :: l) := Nat.mul_pos (by omega) (by omega)
        omega
    simp only [num]
    rw [digs_pos hp hpos, e1, e2, ih]
    congr 1
    omega
theorem num_lt {p : Nat} (hp : 2 ≤ p) : ∀ l : List Int, Row p l → num p l < p ^ l.length
  | [], _ => by simp [num]
  | c :: l, h => by
    have hc := h.res c (by simp)
    have ih := num_lt hp l (row_tail h)
    simp only [num, List.length_cons, Nat.pow_succ]
    have h1 : p * (num p l + 1) ≤ p * p ^ l.length := Nat.mul_le_mul_left _ ih
    rw [Nat.mul_add, Nat.mul_one] at h1
    rw [Nat.mul_comm (p ^ l.length)]
    omega
theorem num_digs {p : Nat} (hp : 2 ≤ p) (n : Nat) : num p (digs p n) = n := by
  induction n using Nat.strongRecOn with
  | ind n ih =>
    rcases Nat.eq_zero_or_pos n with rfl | h
    · rw [digs_zero]; rfl
    · rw [digs_pos hp h]
      simp only [num]
      rw [ih _ (Nat.div_lt_self h hp), Int.toNat_natCast]
      exact Nat.mod_add_div n p
theorem digs_len_lt {p : Nat} (hp : 2 ≤ p) : ∀ (d n : Nat), n < p ^ d → (digs p n).length ≤ d
  | 0, n, h => by
    have : n = 0 := by simpa using h
    subst this; rw [digs_zero]; simp
  | d + 1, n, h => by
    rcases Nat.eq_zero_or_pos n with rfl | hn
    · rw [digs_zero]; simp
    · rw [digs_pos hp hn]
      have : n / p < p ^ d := by
        rw [Nat.div_lt_iff_lt_mul (by omega), ← Nat.pow_succ]; exact h
      have := digs_len_lt hp d _ this
      simp only [List.length_cons]; omega

variable {P : Pri}
theorem Pri.ge (P : Pri) : 2 ≤ P.n := by have := P.is; omega
def ppn (P : Pri) (n : Nat) : PP P := ⟨digs P.n n, digs_row P.ge n⟩
theorem ppn_num (a : PP P) : ppn P (num P.n a.1) = a := pp_eq (digs_num P.ge _ a.2)
theorem ppn_inj {n m : Nat} (h : ppn P n = ppn P m) : n = m := by
  have : digs P.n n = digs P.n m := congrArg PP.l h
  rw [← num_digs P.ge n, this, num_digs P.ge]
theorem ppn_len {d n : Nat} (h : n < P.n ^ d) : (ppn P n).len ≤ d := digs_len_lt P.ge d n h

theorem conv_T (g : Nat → Int) (i : Nat) : conv (rd ([0, 1] : List Int)) g i = if 1 ≤ i then g (i - 1) else 0 := by
  rw [← cv_conv (n := 2) fun j hj => rd_ge (by simpa using hj)]
  simp only [cv, sumTo]
  have e0 : rd ([0, 1] : List Int) 0 = 0 := rfl
  have e1 : rd ([0, 1] : List Int) 1 = 1 := rfl
  rw [e0, e1, if_pos (Nat.zero_le i)]
  split <;> simp
theorem one_c (i : Nat) : (1 : PP P).c i = if i = 0 then 1 else 0 := by
  show rd [1] i = _
  by_cases hi : i = 0
  · subst hi; simp [rd]
  · rw [if_neg hi, rd_ge (by simp; omega)]
/-- All polynomials come from 0 by times T and plus 1. -/
theorem pp_ind {S : PP P → Prop} (h0 : S 0) (hT : ∀ x, S x → S (ppT * x)) (h1 : ∀ x, S x → S (x + 1)) (a : PP P) : S a := by
  have hk : ∀ k x, S x → S (x + nsm k 1) := by
    intro k
    induction k with
    | zero => intro x hx; simp only [nsm]; rw [ppring.add_zero]; exact hx
    | succ k ih => intro x hx; simp only [nsm]; rw [← ppring.add_assoc]; exact h1 _ (ih x hx)
  have key : ∀ (l : List Int) (h : Row P.p l), S (ppm l h) := by
    intro l
    induction l with
    | nil => intro h; exact h0
    | cons c l ih =>
      intro h
      have hc := h.res c (by simp)
      have e : (ppm (c :: l) h : PP P) = ppT * ppm l (row_tail h) + nsm c.toNat 1 := by
        refine pp_ext fun i => ?_
        rw [add_c, mul_c, nsm_c, one_c]
        have e1 : conv (PP.c (ppT : PP P)) (PP.c (ppm l (row_tail h) : PP P)) i = if 1 ≤ i then rd l (i - 1) else 0 := conv_T _ i
        rw [e1]
        cases i with
        | zero =>
          rw [if_neg (by omega), if_pos rfl, Int.mul_one, Int.emod_add_emod, Int.add_emod_emod, Int.zero_add, Int.toNat_of_nonneg hc.1, Int.emod_eq_of_lt hc.1 hc.2]
          rfl
        | succ i =>
          rw [if_pos (by omega), if_neg (by omega), Int.mul_zero, Int.emod_add_emod, Int.zero_emod, Int.add_zero, Nat.add_sub_cancel, (row_tail h).mod P.pos]
          exact rd_cons c l i
      rw [e]
      exact hk _ _ (hT _ (ih _))
  exact key a.1 a.2

/-! Residues by an irreducible polynomial. -/
section
variable {f : PP P} (hf : Irr f)
include hf
theorem q_dom : ∀ x y : Qt ppring f, x * y = 0 → x = 0 ∨ y = 0 := by
  refine qm_all _ _ fun a => qm_all _ _ fun b => fun h => ?_
  have h1 : Dv f (a * b) := (qm_zero_iff ppring).1 h
  rcases hf.prime h1 with h2 | h2
  · exact .inl ((qm_zero_iff ppring).2 h2)
  · exact .inr ((qm_zero_iff ppring).2 h2)
theorem q_one : (1 : Qt ppring f) ≠ 0 := fun h => by
  have h1 : Dv f 1 := (qm_zero_iff ppring).1 h
  have := dv_len h1 one_ne
  have := hf.1
  rw [len_one] at *
  omega
omit hf in
theorem q_char (x : Qt ppring f) : nsm P.n x = 0 := by
  refine qm_all ppring f (P := fun x => nsm P.n x = 0) (fun a => ?_) x
  rw [← qm_nsm, pp_char]; rfl
omit hf in
/-- All residues. -/
def els (f : PP P) : List (Qt ppring f) := (List.range (P.n ^ (f.len - 1))).map fun n => qm ppring f (ppn P n)
omit hf in
theorem els_len : (els f).length = P.n ^ (f.len - 1) := by simp [els]
theorem els_all (x : Qt ppring f) : x ∈ els f := by
  refine qm_all ppring f (P := fun x => x ∈ els f) (fun a => ?_) x
  obtain ⟨h1, h2⟩ := pdiv a hf.ne
  refine List.mem_map.2 ⟨num P.n (prem a f).1, List.mem_range.2 ?_, ?_⟩
  · refine Nat.lt_of_lt_of_le (num_lt P.ge _ (prem a f).2) (Nat.pow_le_pow_right (by have := P.ge; omega) ?_)
    show (prem a f).len ≤ _
    omega
  · rw [ppn_num, qm_iff]
    have R : IsRing (PP P) := ppring
    have e : prem a f + -a = -(pquo a f) * f := by
      have : a = pquo a f * f + prem a f := h1
      have h3 : -(pquo a f) * f = -(pquo a f * f) := by rw [R.mul_comm, R.mul_neg, R.mul_comm]
      rw [h3]
      refine R.neg_of ?_
      rw [← R.add_assoc, ← this, R.add_neg]
    exact ⟨_, e⟩
theorem els_nodup : (els f).Nodup := by
  refine List.pairwise_map.2 ?_
  refine List.Pairwise.imp_of_mem ?_ List.nodup_range
  intro n m hn hm hne h
  have h1 := (qm_iff ppring).1 h
  have l1 := ppn_len (P := P) (List.mem_range.1 hn)
  have l2 := ppn_len (P := P) (List.mem_range.1 hm)
  have := len_add (ppn P n) (-ppn P m)
  have := len_neg (ppn P m)
  have := hf.1
  have h2 := dv_small h1 (by omega)
  exact hne (ppn_inj (ppring.sub_zero h2))
/-- An irreducible polynomial of the degree d divides T^(p^d) - T. -/
theorem irr_dv : Dv f (pw ppT (P.n ^ (f.len - 1)) + -ppT) := by
  have h := (qring ppring f).fermat (q_dom hf) (q_one hf) (els_nodup hf) (els_all hf) (qm ppring f ppT)
  rw [els_len, ← qm_pw] at h
  exact (qm_iff ppring).1 h
/-- One that divides T^(p^n) - T has at most the degree n. -/
theorem irr_le {n : Nat} (hn : 1 ≤ n) (h : Dv f (pw ppT (P.n ^ n) + -ppT)) : f.len ≤ n + 1 := by
  have Q := qring ppring f
  have hT : pw (qm ppring f ppT) (P.n ^ n) = qm ppring f ppT := by
    rw [← qm_pw]; exact (qm_iff ppring).2 h
  have hN : 2 ≤ P.n ^ n := Nat.le_trans P.ge (Nat.le_self_pow (by omega) _)
  have hall : ∀ a : PP P, pw (qm ppring f a) (P.n ^ n) = qm ppring f a := by
    refine pp_ind ?_ (fun x hx => ?_) (fun x hx => ?_)
    · rw [qm_zero]; exact Q.pw_zero (by omega)
    · rw [qm_mul, Q.mul_pw, hT, hx]
    · rw [qm_add, Q.frobn P.is q_char, hx, qm_one, Q.pw_one]
  have h1 := Q.fixed_le (q_dom hf) (q_one hf) hN (els_nodup hf) fun x _ => qm_all ppring f (P := fun x => pw x (P.n ^ n) = x) hall x
  rw [els_len] at h1
  have := (Nat.pow_le_pow_iff_right (show 1 < P.n by have := P.ge; omega)).1 h1
  omega
end
end Go.Proofs.Ytkbnegemdlnncaa
/- Sums over all polynomials of a bounded degree: products of few additive functions vanish, and multiples change nothing. -/
namespace Go.Proofs.Ytkbnegemdlnncaa
open Go.Abs
section
variable {K : Type} [Add K] [Mul K] [Neg K] [Zero K] [One K]
def sm (f : Nat → K) : Nat → K
  | 0 => 0
  | n + 1 => sm f n + f n
def kap (c : Nat) : K := nsm c 1
def ns (f : Nat → Nat) : Nat → Nat
  | 0 => 0
  | n + 1 => ns f n + f n
omit [Mul K] [Neg K] [One K] in
theorem sm_congr {f g : Nat → K} : ∀ n, (∀ i, i < n → f i = g i) → sm f n = sm g n
  | 0, _ => rfl
  | n + 1, h => by simp only [sm, sm_congr n fun i hi => h i (by omega), h n (by omega)]
variable (R : IsRing K)
include R
theorem sm_add (f g : Nat → K) : ∀ n, sm (fun i => f i + g i) n = sm f n + sm g n
  | 0 => by simp only [sm, R.add_zero]
  | n + 1 => by
    simp only [sm, sm_add f g n, R.add_assoc]
    rw [R.add_left_comm (sm g n)]
theorem sm_mul (x : K) (f : Nat → K) : ∀ n, sm (fun i => x * f i) n = x * sm f n
  | 0 => by simp only [sm, R.mul_zero]
  | n + 1 => by simp only [sm, sm_mul x f n, R.mul_add]
theorem sm_zero {f : Nat → K} : ∀ n, (∀ i, i < n → f i = 0) → sm f n = 0
  | 0, _ => rfl
  | n + 1, h => by simp only [sm, sm_zero n fun i hi => h i (by omega), h n (by omega), R.add_zero]
theorem sm_app (f : Nat → K) (a : Nat) : ∀ b, sm f (a + b) = sm f a + sm (fun i => f (a + i)) b
  | 0 => by simp only [sm, Nat.add_zero, R.add_zero]
  | b + 1 => by
    rw [← Nat.add_assoc]
    simp only [sm, sm_app f a b, R.add_assoc]
theorem sm_lo (f : Nat → K) (p : Nat) : ∀ n, sm f (p * n) = sm (fun j => sm (fun c => f (p * j + c)) p) n
  | 0 => rfl
  | n + 1 => by rw [Nat.mul_succ, sm_app R, sm_lo f p n]; rfl
theorem sm_swap (f : Nat → Nat → K) (n : Nat) : ∀ m, sm (fun i => sm (fun j => f i j) n) m = sm (fun j => sm (fun i => f i j) m) n
  | 0 => (sm_zero R n fun _ _ => rfl).symm
  | m + 1 => by
    show sm (fun i => sm (fun j => f i j) n) m + sm (fun j => f m j) n = sm (fun j => sm (fun i => f i j) m + f m j) n
    rw [sm_swap f n m, sm_add R]
omit R [Mul K] [Neg K] [One K] in
theorem sm_one (x : K) : ∀ n, sm (fun _ => x) n = nsm n x
  | 0 => rfl
  | n + 1 => by simp only [sm, nsm, sm_one x n]
theorem kap_mul (c : Nat) (x : K) : kap c * x = nsm c x := by
  rw [R.mul_comm, kap, R.mul_nsm, R.mul_one]
theorem kap_kap (a b : Nat) : (kap a : K) * kap b = kap (a * b) := by
  rw [kap_mul R, kap, kap, R.nsm_mul]
theorem kap_pw (c : Nat) : ∀ m, pw (kap c : K) m = kap (c ^ m)
  | 0 => by simp only [pw, Nat.pow_zero, kap, nsm, R.zero_add]
  | m + 1 => by simp only [pw, kap_pw c m, kap_kap R, Nat.pow_succ]
theorem kap_ns (f : Nat → Nat) : ∀ n, sm (fun c => (kap (f c) : K)) n = kap (ns f n)
  | 0 => rfl
  | n + 1 => by
    show sm (fun c => (kap (f c) : K)) n + kap (f n) = kap (ns f n + f n)
    rw [kap_ns f n, kap, kap, kap, R.nsm_add]
variable {p : Nat} (hp : p = 2 ∨ p = 3 ∨ p = 5 ∨ p = 7) (hc : ∀ x : K, nsm p x = 0)
include hc
theorem nsm_mod (n : Nat) (x : K) : nsm n x = nsm (n % p) x := by
  conv => lhs; rw [← Nat.div_add_mod n p, Nat.mul_comm]
  rw [R.nsm_add, R.nsm_mul, hc, R.nsm_zero, R.zero_add]
include hp
theorem psm_zero {m : Nat} (hm : m < p - 1) : sm (fun c => pw (kap c : K) m) p = 0 := by
  have e : ns (fun c => c ^ m) p % p = 0 := by
    have h2 : ∀ m, m < 1 → ns (fun c => c ^ m) 2 % 2 = 0 := by decide
    have h3 : ∀ m, m < 2 → ns (fun c => c ^ m) 3 % 3 = 0 := by decide
    have h5 : ∀ m, m < 4 → ns (fun c => c ^ m) 5 % 5 = 0 := by decide
    have h7 : ∀ m, m < 6 → ns (fun c => c ^ m) 7 % 7 = 0 := by decide
    rcases hp with rfl | rfl | rfl | rfl
    · exact h2 m hm
    · exact h3 m hm
    · exact h5 m hm
    · exact h7 m hm
  have e2 : sm (fun c => pw (kap c : K) m) p = kap (ns (fun c => c ^ m) p) := by
    rw [← kap_ns R]
    exact sm_congr _ fun c _ => kap_pw R c m
  rw [e2, kap, nsm_mod R hc, e]; rfl
theorem van_aux (N M : Nat) (A : Nat → Nat → K) (G : Nat → K) (h0 : ∀ es : List Nat, es.length < M → sm (fun j => prd (es.map fun e => A e j)) N = 0) :
    ∀ (es2 es1 : List Nat) (m : Nat), es1.length + es2.length + m < M + (p - 1) →
      sm (fun j => sm (fun c => pw (kap c : K) m * (prd (es1.map fun e => A e j) * prd (es2.map fun e => A e j + kap c * G e))) p) N = 0
  | [], es1, m, h => by
    have e : ∀ j, sm (fun c => pw (kap c : K) m * (prd (es1.map fun e => A e j) * prd (([] : List Nat).map fun e => A e j + kap c * G e))) p = sm (fun c => pw (kap c : K) m) p * prd (es1.map fun e => A e j) := fun j => by
      rw [R.mul_comm, ← sm_mul R]
      exact sm_congr _ fun c _ => by
        show pw (kap c) m * (prd (es1.map fun e => A e j) * 1) = _
        rw [R.mul_one, R.mul_comm]
    simp only [e]
    by_cases hm : m < p - 1
    · exact sm_zero R _ fun j _ => by rw [psm_zero R hp hc hm, R.zero_mul]
    · rw [sm_mul R, h0 es1 (by simp only [List.length_nil] at h; omega), R.mul_zero]
  | e :: es2, es1, m, h => by
    have h1 := van_aux N M A G h0 es2 (e :: es1) m (by simp only [List.length_cons] at h ⊢; omega)
    have h2 := van_aux N M A G h0 es2 es1 (m + 1) (by simp only [List.length_cons] at h ⊢; omega)
    have key : ∀ j c : Nat, pw (kap c : K) m * (prd (es1.map fun e => A e j) * prd ((e :: es2).map fun e => A e j + kap c * G e)) =
        pw (kap c) m * (prd ((e :: es1).map fun e => A e j) * prd (es2.map fun e => A e j + kap c * G e)) + G e * (pw (kap c) (m + 1) * (prd (es1.map fun e => A e j) * prd (es2.map fun e => A e j + kap c * G e))) := fun j c => by
      simp only [List.map_cons, prd, pw]
      generalize prd (es1.map fun e => A e j) = X
      generalize prd (es2.map fun e => A e j + kap c * G e) = Y
      generalize pw (kap c : K) m = Z
      generalize A e j = a
      generalize (kap c : K) = k
      generalize G e = g
      simp only [R.mul_add, R.add_mul, R.mul_assoc]
      congr 1
      · rw [R.mul_left_comm X a]
      · rw [R.mul_left_comm g Z, R.mul_left_comm g k, R.mul_left_comm X k, R.mul_left_comm X g]
    have e2 : ∀ j, sm (fun c => pw (kap c : K) m * (prd (es1.map fun e => A e j) * prd ((e :: es2).map fun e => A e j + kap c * G e))) p =
        sm (fun c => pw (kap c) m * (prd ((e :: es1).map fun e => A e j) * prd (es2.map fun e => A e j + kap c * G e))) p + G e * sm (fun c => pw (kap c) (m + 1) * (prd (es1.map fun e => A e j) * prd (es2.map fun e => A e j + kap c * G e))) p := fun j => by
      rw [← sm_mul R, ← sm_add R]
      exact sm_congr _ fun c _ => key j c
    simp only [e2]
    rw [sm_add R, sm_mul R, h1, h2, R.mul_zero, R.add_zero]
end
section
variable {K : Type} [Add K] [Mul K] [Neg K] [Zero K] [One K] (R : IsRing K)
include R
/-- A power as a product of powers of powers of p. -/
theorem pw_es {p : Nat} (hp : 2 ≤ p) : ∀ k : Nat, ∃ es : List Nat, (es.length : Int) = (digs p k).sum ∧ ∀ a : K, pw a k = prd (es.map fun e => pw a (p ^ e)) := by
  intro k
  induction k using Nat.strongRecOn with
  | ind k ih =>
    rcases Nat.eq_zero_or_pos k with rfl | h0
    · exact ⟨[], by rw [digs_zero]; rfl, fun a => rfl⟩
    · obtain ⟨es, h1, h2⟩ := ih (k / p) (Nat.div_lt_self h0 hp)
      have app : ∀ (a : K) (n : Nat) (l : List Nat), prd ((List.replicate n 0 ++ l).map fun e => pw a (p ^ e)) = pw a n * prd (l.map fun e => pw a (p ^ e)) := by
        intro a n l
        induction n with
        | zero => simp only [List.replicate_zero, List.nil_append, pw, R.one_mul]
        | succ n ih =>
          simp only [List.replicate_succ, List.cons_append, List.map_cons, prd, ih, pw, Nat.pow_zero]
          rw [R.one_mul, ← R.mul_assoc, R.mul_comm a]
      refine ⟨List.replicate (k % p) 0 ++ es.map (· + 1), ?_, fun a => ?_⟩
      · rw [digs_pos hp h0, List.sum_cons, ← h1]
        simp
      · rw [app, List.map_map]
        have e : ((fun e => pw a (p ^ e)) ∘ fun e => e + 1) = fun e => pw (pw a p) (p ^ e) := by
          funext e
          show pw a (p ^ (e + 1)) = _
          rw [← R.pw_mul, Nat.pow_succ, Nat.mul_comm]
        rw [e, ← h2, ← R.pw_mul, ← R.pw_add]
        congr 1
        have := Nat.div_add_mod k p
        omega
def sl : List K → K
  | [] => 0
  | x :: l => x + sl l
theorem sl_perm {l m : List K} (h : l.Perm m) : sl l = sl m := by
  induction h with
  | nil => rfl
  | cons x _ ih => simp only [sl, ih]
  | swap x y l => simp only [sl, R.add_left_comm x y]
  | trans _ _ h1 h2 => rw [h1, h2]
theorem sl_app : ∀ l m : List K, sl (l ++ m) = sl l + sl m
  | [], m => by simp only [List.nil_append, sl, R.zero_add]
  | x :: l, m => by simp only [List.cons_append, sl, sl_app l m, R.add_assoc]
theorem sm_sl (f : Nat → K) : ∀ n, sm f n = sl ((List.range n).map f)
  | 0 => rfl
  | n + 1 => by
    rw [List.range_succ, List.map_append, sl_app R, ← sm_sl f n]
    simp only [sm, List.map_cons, List.map_nil, sl, R.add_zero]
theorem sm_times {p : Nat} (hp : p = 2 ∨ p = 3 ∨ p = 5 ∨ p = 7) {a : Nat} (h1 : 1 ≤ a) (h2 : a < p) (f : Nat → K) : sm (fun c => f (a * c % p)) p = sm f p := by
  have e : ((List.range p).map (fun c => a * c % p)).Perm (List.range p) := by
    have q2 : ∀ a, a < 2 → 1 ≤ a → ((List.range 2).map (fun c => a * c % 2)).Perm (List.range 2) := by decide
    have q3 : ∀ a, a < 3 → 1 ≤ a → ((List.range 3).map (fun c => a * c % 3)).Perm (List.range 3) := by decide
    have q5 : ∀ a, a < 5 → 1 ≤ a → ((List.range 5).map (fun c => a * c % 5)).Perm (List.range 5) := by decide
    have q7 : ∀ a, a < 7 → 1 ≤ a → ((List.range 7).map (fun c => a * c % 7)).Perm (List.range 7) := by decide
    rcases hp with rfl | rfl | rfl | rfl
    · exact q2 a h2 h1
    · exact q3 a h2 h1
    · exact q5 a h2 h1
    · exact q7 a h2 h1
  rw [sm_sl R, sm_sl R, ← sl_perm R (e.map f), List.map_map]
  rfl
end
variable {P : Pri}
def dg (n : Nat) : PP P := ⟨digs P.n n, digs_row (by have := P.is; omega) n⟩
theorem dg_zero : (dg 0 : PP P) = 0 := pp_eq (digs_zero _)
theorem kap_c (c i : Nat) : (kap c : PP P).c i = if i = 0 then (c : Int) % P.p else 0 := by
  rw [kap, nsm_c]
  have e1 : (1 : PP P).c i = if i = 0 then 1 else 0 := by
    show rd [1] i = _
    by_cases hi : i = 0
    · subst hi; simp [rd]
    · rw [if_neg hi, rd_ge (by simp; omega)]
  rw [e1]
  split
  · rw [Int.mul_one]
  · rw [Int.mul_zero]; rfl
theorem Tmul_c (a : PP P) (i : Nat) : (ppT * a).c i = if 1 ≤ i then a.c (i - 1) else 0 := by
  rw [mul_c]
  have e : conv (PP.c (ppT : PP P)) a.c i = if 1 ≤ i then a.c (i - 1) else 0 := conv_T _ i
  rw [e]
  split
  · exact a.c_mod _
  · rfl
theorem dg_step (n : Nat) : (dg n : PP P) = kap (n % P.n) + ppT * dg (n / P.n) := by
  have h2 : 2 ≤ P.n := by have := P.is; omega
  refine pp_ext fun i => ?_
  rw [add_c, kap_c, Tmul_c]
  rcases Nat.eq_zero_or_pos n with rfl | h0
  · rw [Nat.zero_mod, Nat.zero_div, dg_zero, zero_c, zero_c]
    simp
  · have e : (dg n : PP P).c i = rd (((n % P.n : Nat) : Int) :: digs P.n (n / P.n)) i := by
      show rd (digs P.n n) i = _
      rw [digs_pos h2 h0]
    have hm : ((n % P.n : Nat) : Int) % P.p = ((n % P.n : Nat) : Int) := by
      have := Nat.mod_lt n (show P.n > 0 by omega)
      exact Int.emod_eq_of_lt (by omega) (by unfold Pri.p; omega)
    rw [e]
    cases i with
    | zero =>
      rw [if_pos rfl, if_neg (show ¬ 1 ≤ 0 by omega), Int.add_zero, hm, hm]; rfl
    | succ i =>
      rw [if_neg (Nat.succ_ne_zero i), if_pos (show 1 ≤ i + 1 by omega), Nat.add_sub_cancel, Int.zero_add, PP.c_mod, rd_cons]
      rfl
theorem dg_two (j : Nat) {c : Nat} (hc : c < P.n) : (dg (P.n * j + c) : PP P) = kap c + ppT * dg j := by
  rw [dg_step, Nat.mul_add_mod, Nat.mod_eq_of_lt hc, Nat.mul_add_div (by omega), Nat.div_eq_of_lt hc, Nat.add_zero]
theorem dg_top {a : Nat} (ha : a < P.n) : ∀ (d i : Nat), i < P.n ^ d → (dg (a * P.n ^ d + i) : PP P) = kap a * pw ppT d + dg i
  | 0, i, h => by
    have : i = 0 := by simpa using h
    subst this
    rw [Nat.pow_zero, Nat.mul_one, Nat.add_zero, dg_step, Nat.mod_eq_of_lt ha, Nat.div_eq_of_lt ha, dg_zero, ppring.mul_zero]
    show _ = kap a * 1 + 0
    rw [ppring.mul_one]
  | d + 1, i, h => by
    have hp : 0 < P.n := by omega
    have e1 : a * P.n ^ (d + 1) = P.n * (a * P.n ^ d) := by rw [Nat.pow_succ, Nat.mul_comm (P.n ^ d), Nat.mul_left_comm]
    have e2 : (a * P.n ^ (d + 1) + i) % P.n = i % P.n := by rw [e1, Nat.mul_add_mod]
    have e3 : (a * P.n ^ (d + 1) + i) / P.n = a * P.n ^ d + i / P.n := by rw [e1, Nat.mul_add_div hp]
    have h1 : i / P.n < P.n ^ d := by
      rw [Nat.div_lt_iff_lt_mul hp, ← Nat.pow_succ]; exact h
    have e4 : pw (ppT : PP P) (d + 1) = pw ppT d * ppT := rfl
    rw [dg_step, e2, e3, dg_top ha d _ h1, dg_step i, ppring.mul_add, e4]
    rw [ppring.add_left_comm]
    congr 1
    rw [ppring.mul_left_comm, ppring.mul_comm ppT]
theorem pw_nsm (c e : Nat) (x : PP P) : pw (nsm c x) (P.n ^ e) = nsm c (pw x (P.n ^ e)) := by
  induction c with
  | zero =>
    have : P.n ^ e ≠ 0 := by
      have : 0 < P.n ^ e := Nat.pow_pos (by have := P.is; omega)
      omega
    simp only [nsm, ppring.pw_zero this]
  | succ c ih => simp only [nsm, ppring.frobn P.is pp_char, ih]
/-- The sum over all polynomials of a bounded degree. -/
theorem van : ∀ (D : Nat) (u t : PP P) (es : List Nat), es.length < D * (P.n - 1) → sm (fun i => prd (es.map fun e => pw (u + t * dg i) (P.n ^ e))) (P.n ^ D) = 0
  | 0, u, t, es, h => by omega
  | D + 1, u, t, es, h => by
    have hA := van_aux ppring P.is pp_char (P.n ^ D) (D * (P.n - 1)) (fun e j => pw (u + t * ppT * dg j) (P.n ^ e)) (fun e => pw t (P.n ^ e)) (fun es' h' => van D u (t * ppT) es' h') es [] 0 (by
      rw [Nat.succ_mul] at h
      simp only [List.length_nil]; omega)
    rw [Nat.pow_succ, Nat.mul_comm, sm_lo ppring]
    refine Eq.trans (sm_congr _ fun j _ => sm_congr _ fun c hc => ?_) hA
    show _ = 1 * (1 * prd (es.map fun e => pw (u + t * ppT * dg j) (P.n ^ e) + kap c * pw t (P.n ^ e)))
    rw [ppring.one_mul, ppring.one_mul]
    congr 1
    refine List.map_congr_left fun e _ => ?_
    rw [dg_two j hc, ppring.mul_add, ppring.mul_comm t (kap c), kap_mul ppring, kap_mul ppring, ← ppring.mul_assoc, ppring.add_comm (nsm c t), ← ppring.add_assoc, ppring.frobn P.is pp_char, pw_nsm]
/-- Multiples of the summand's argument. -/
theorem scale (φ : PP P → PP P) {a : Nat} (h1 : 1 ≤ a) (h2 : a < P.n) : ∀ (D : Nat) (u t : PP P), sm (fun r => φ (kap a * (u + t * dg r))) (P.n ^ D) = sm (fun r => φ (kap a * u + t * dg r)) (P.n ^ D)
  | 0, u, t => by
    simp only [Nat.pow_zero, sm, dg_zero, ppring.mul_zero, ppring.add_zero]
  | D + 1, u, t => by
    have e0 : P.n ^ (D + 1) = P.n * P.n ^ D := by rw [Nat.pow_succ, Nat.mul_comm]
    rw [e0, sm_lo ppring, sm_lo ppring]
    refine (sm_swap ppring _ _ _).trans (Eq.trans ?_ (sm_swap ppring _ _ _).symm)
    have eL : sm (fun c => sm (fun j => φ (kap a * (u + t * dg (P.n * j + c)))) (P.n ^ D)) P.n = sm (fun c => sm (fun j => φ (kap a * u + nsm (a * c % P.n) t + t * ppT * dg j)) (P.n ^ D)) P.n := by
      refine sm_congr _ fun c hc => ?_
      have h := scale φ h1 h2 D (u + nsm c t) (t * ppT)
      refine Eq.trans (sm_congr _ fun j _ => ?_) (h.trans (sm_congr _ fun j _ => ?_))
      · rw [dg_two j hc, ppring.mul_add t, ppring.mul_comm t (kap c), kap_mul ppring c, ← ppring.mul_assoc t, ppring.add_assoc]
      · rw [ppring.mul_add, kap_mul ppring a (nsm c t), ← ppring.nsm_mul, nsm_mod ppring pp_char (a * c)]
    have eR : sm (fun c => sm (fun j => φ (kap a * u + t * dg (P.n * j + c))) (P.n ^ D)) P.n = sm (fun c => sm (fun j => φ (kap a * u + nsm c t + t * ppT * dg j)) (P.n ^ D)) P.n := by
      refine sm_congr _ fun c hc => sm_congr _ fun j _ => ?_
      rw [dg_two j hc, ppring.mul_add t, ppring.mul_comm t (kap c), kap_mul ppring c, ← ppring.mul_assoc t, ppring.add_assoc]
    refine eL.trans (Eq.trans ?_ eR.symm)
    exact sm_times ppring P.is h1 h2 fun c => sm (fun j => φ (kap a * u + nsm c t + t * ppT * dg j)) (P.n ^ D)
end Go.Proofs.Ytkbnegemdlnncaa
/- One. -/
namespace Go.Proofs.Ytkbnegemdlnncaa
open Go.Abs

theorem row_one {p : Int} (hp : 2 ≤ p) : Row p [1] := ⟨by simp; omega, by simp [rd]⟩
theorem one_is : spec_l01One = some (pad [1]) := by
  unfold spec_l01One
  congr 1
end Go.Proofs.Ytkbnegemdlnncaa
/- Primes. -/
namespace Go.Proofs.Ytkbnegemdlnncaa
open Go.Abs

theorem isPrime_spec (p : Int) : spec_l01Prime p = some (isP p) := by
  unfold spec_l01Prime isP
  by_cases h1 : p = 2 <;> by_cases h2 : p = 3 <;> by_cases h3 : p = 5 <;> simp [h1, h2, h3]

theorem isPrime_impl (p : Int) : impl_isPrime p = some (isP p) := by
  unfold impl_isPrime isP
  by_cases h1 : p = 2 <;> by_cases h2 : p = 3 <;> by_cases h3 : p = 5 <;> simp [h1, h2, h3]
end Go.Proofs.Ytkbnegemdlnncaa
/- Powers of p; one. -/
namespace Go.Proofs.Ytkbnegemdlnncaa
open Go.Abs

theorem ppow_pos {p : Nat} (hp : 2 ≤ p) (n : Nat) : 1 ≤ p ^ n := Nat.one_le_pow _ _ (by omega)
theorem ppow_mono {p : Nat} (hp : 2 ≤ p) {n m : Nat} (h : n ≤ m) : p ^ n ≤ p ^ m := Nat.pow_le_pow_right (by omega) h
/-- p to a power, at most a bit more than a limit. -/
theorem norm_is {p n most : Nat} (hp : 2 ≤ p ∧ p ≤ 7) (hn : n ≤ 1000000) (hm : most ≤ 1152921504606846976) : ∃ c : Nat, impl_prime_norm p n most = some (c : Int) ∧ ((p ^ n ≤ most ∧ c = p ^ n) ∨ (most < p ^ n ∧ most < c)) ∧ c ≤ 8070450532247928832 := by
  have key : ∀ (m i : Nat), i + m = n → (i = 0 ∨ p ^ (i - 1) ≤ most) → ∃ c : Nat, loopM (fun s : Int × Int => impl_prime_norm_l1 (n : Int) (most : Int) p s.1 s.2) (((p ^ i : Nat) : Int), (i : Int)) = some (c : Int) ∧ ((p ^ n ≤ most ∧ c = p ^ n) ∨ (most < p ^ n ∧ most < c)  ∨ (n = i ∧ c = p ^ n)) ∧ c ≤ 8070450532247928832 := by
    intro m
    induction m with
    | zero =>
      intro i hi hle
      have : i = n := by omega
      subst this
      have step : impl_prime_norm_l1 (i : Int) (most : Int) p ((p ^ i : Nat) : Int) (i : Int) = some (.inr ((p ^ i : Nat) : Int)) := by
        simp only [impl_prime_norm_l1]
        rw [if_neg (by rw [decide_eq_true_eq]; omega)]
      rw [loopM_eq]
      simp only [step, Option.bind_some]
      refine ⟨p ^ i, rfl, ?_, ?_⟩
      · exact .inr (.inr (by simp))
      · rcases hle with rfl | hle
        · simp
        · rcases Nat.eq_zero_or_pos i with rfl | h
          · simp
          · have : p ^ i = p ^ (i - 1) * p := by rw [← Nat.pow_succ]; congr 1; omega
            rw [this]
            have := Nat.mul_le_mul hle hp.2
            omega
    | succ m ih =>
      intro i hi hle
      have hmono := ppow_mono hp.1 (show i ≤ n by omega)
      by_cases h : most < p ^ i
      · have step : impl_prime_norm_l1 (n : Int) (most : Int) p ((p ^ i : Nat) : Int) (i : Int) = some (.inr ((p ^ i : Nat) : Int)) := by
          simp only [impl_prime_norm_l1]
          rw [if_pos (decide_eq_true (by omega)), if_pos (decide_eq_true (by omega))]
        rw [loopM_eq]
        simp only [step, Option.bind_some]
        refine ⟨p ^ i, rfl, .inr (.inl ⟨by omega, h⟩), ?_⟩
        rcases hle with rfl | hle
        · simp
        · rcases Nat.eq_zero_or_pos i with rfl | h
          · simp
          · have : p ^ i = p ^ (i - 1) * p := by rw [← Nat.pow_succ]; congr 1; omega
            rw [this]
            have := Nat.mul_le_mul hle hp.2
            omega
      · have hle2 := Nat.mul_le_mul (show p ^ i ≤ most by omega) hp.2
        have e1 : ((p ^ i : Nat) : Int) * (p : Int) = ((p ^ (i + 1) : Nat) : Int) := by rw [Nat.pow_succ, Int.natCast_mul]
        have e2 : p ^ (i + 1) = p ^ i * p := Nat.pow_succ ..
        have step : impl_prime_norm_l1 (n : Int) (most : Int) p ((p ^ i : Nat) : Int) (i : Int) = some (.inl (((p ^ (i + 1) : Nat) : Int), ((i + 1 : Nat) : Int))) := by
          simp only [impl_prime_norm_l1]
          rw [if_pos (decide_eq_true (by omega)), if_neg (by rw [decide_eq_true_eq]; omega), e1, wrap64 (n := ((p ^ (i + 1) : Nat) : Int)) (by omega) (by omega), wrap64 (by omega) (by omega)]
          rfl
        rw [loopM_eq]
        simp only [step, Option.bind_some]
        obtain ⟨c, h1, h2, h3⟩ := ih (i + 1) (by omega) (.inr (by simp only [Nat.add_sub_cancel]; omega))
        refine ⟨c, h1, ?_, h3⟩
        rcases h2 with h2 | h2 | ⟨h2, h4⟩
        · exact .inl h2
        · exact .inr (.inl h2)
        · by_cases h5 : p ^ n ≤ most
          · exact .inl ⟨h5, h4⟩
          · exact .inr (.inl ⟨by omega, by omega⟩)
  obtain ⟨c, h1, h2, h3⟩ := key n 0 (by omega) (.inl rfl)
  simp only [Nat.pow_zero] at h1
  refine ⟨c, ?_, ?_, h3⟩
  · have h1' : loopM (fun s : Int × Int => impl_prime_norm_l1 (n : Int) (most : Int) p s.1 s.2) (1, 0) = some (c : Int) := h1
    simp only [impl_prime_norm, h1', Option.bind_some]
  · rcases h2 with h2 | h2 | ⟨h2, h4⟩
    · exact .inl h2
    · exact .inr h2
    · by_cases h5 : p ^ n ≤ most
      · exact .inl ⟨h5, h4⟩
      · exact .inr ⟨by omega, by omega⟩
end Go.Proofs.Ytkbnegemdlnncaa
/- Powers of p, counted by the reference. -/
namespace Go.Proofs.Ytkbnegemdlnncaa
open Go.Abs
/-- p to a power, and one more than the greatest number if it is greater. -/
theorem count_is {p n : Nat} (hp : 2 ≤ p ∧ p ≤ 7) (hn : n ≤ 1000000) : ∃ c : Nat, spec_l01Count p n = some (c : Int) ∧ ((p ^ n ≤ 1000000000000 ∧ c = p ^ n) ∨ (1000000000000 < p ^ n ∧ c = 1000000000001)) := by
  have key : ∀ (m i : Nat), i + m = n → (i = 0 ∨ p ^ (i - 1) ≤ 1000000000000) → ∃ c : Nat, loopM (fun s : Int × Int => spec_l01Count_l1 p s.1 s.2) ((m : Int), ((p ^ i : Nat) : Int)) = some (c : Int) ∧ ((p ^ n ≤ 1000000000000 ∧ c = p ^ n) ∨ (1000000000000 < p ^ n ∧ 1000000000000 < c)) := by
    intro m
    induction m with
    | zero =>
      intro i hi hle
      have : i = n := by omega
      subst this
      have step : spec_l01Count_l1 p ((0 : Nat) : Int) ((p ^ i : Nat) : Int) = some (.inr ((p ^ i : Nat) : Int)) := by simp [spec_l01Count_l1]
      rw [loopM_eq]
      simp only [step, Option.bind_some]
      refine ⟨p ^ i, rfl, ?_⟩
      by_cases h : p ^ i ≤ 1000000000000
      · exact .inl ⟨h, rfl⟩
      · exact .inr ⟨by omega, by omega⟩
    | succ m ih =>
      intro i hi hle
      have hmono := ppow_mono hp.1 (show i ≤ n by omega)
      by_cases h : p ^ i ≤ 1000000000000
      · have hle2 := Nat.mul_le_mul h hp.2
        have e1 : ((p ^ i : Nat) : Int) * (p : Int) = ((p ^ (i + 1) : Nat) : Int) := by rw [Nat.pow_succ, Int.natCast_mul]
        have e2 : p ^ (i + 1) = p ^ i * p := Nat.pow_succ ..
        have e3 : IntKind.i64.wrap (((m + 1 : Nat) : Int) - 1) = (m : Int) := by rw [wrap64 (by omega) (by omega)]; omega
        have step : spec_l01Count_l1 p ((m + 1 : Nat) : Int) ((p ^ i : Nat) : Int) = some (.inl ((m : Int), ((p ^ (i + 1) : Nat) : Int))) := by
          simp only [spec_l01Count_l1]
          rw [if_pos (decide_eq_true (by omega)), e3, e1, wrap64 (n := ((p ^ (i + 1) : Nat) : Int)) (by omega) (by omega)]
          simp only [Option.bind_some]
          rw [if_pos (decide_eq_true (by omega))]
        rw [loopM_eq]
        simp only [step, Option.bind_some]
        exact ih (i + 1) (by omega) (.inr (by simp only [Nat.add_sub_cancel]; omega))
      · have step : spec_l01Count_l1 p ((m + 1 : Nat) : Int) ((p ^ i : Nat) : Int) = some (.inr ((p ^ i : Nat) : Int)) := by
          simp only [spec_l01Count_l1]
          rw [if_pos (decide_eq_true (by omega))]
          simp only [Option.bind_some]
          rw [if_neg (by rw [decide_eq_true_eq]; omega)]
        rw [loopM_eq]
        simp only [step, Option.bind_some]
        exact ⟨p ^ i, rfl, .inr ⟨by omega, by omega⟩⟩
  obtain ⟨c, h1, h2⟩ := key n 0 (by omega) (.inl rfl)
  simp only [Nat.pow_zero] at h1
  have h1' : loopM (fun s : Int × Int => spec_l01Count_l1 p s.1 s.2) ((n : Int), 1) = some (c : Int) := h1
  simp only [spec_l01Count, h1', Option.bind_some]
  rcases h2 with ⟨h2, h3⟩ | ⟨h2, h3⟩
  · exact ⟨c, by rw [if_neg (by omega)], .inl ⟨h2, h3⟩⟩
  · refine ⟨1000000000001, ?_, .inr ⟨h2, rfl⟩⟩
    split
    · rfl
    · congr 1; omega
end Go.Proofs.Ytkbnegemdlnncaa
/- Degrees. -/
namespace Go.Proofs.Ytkbnegemdlnncaa
open Go.Abs

theorem deg_loop (a : V64) : ∀ s : Int, (∃ i : Nat, s = (i : Int) - 1 ∧ i ≤ 64) → ∃ r, loopM (fun s : Int => spec_l01Deg_l1 a s) s = some r ∧ ∀ i : Nat, s = (i : Int) - 1 → r = (top (rd a.1) i : Int) - 1 := by
  refine loopM_ind (fun (s : Int) => ∃ i : Nat, s = (i : Int) - 1 ∧ i ≤ 64) (fun (s : Int) (r : Int) => ∀ i : Nat, s = (i : Int) - 1 → r = (top (rd a.1) i : Int) - 1) (fun s => (s + 1).toNat) ?_
  rintro s ⟨i, rfl, hi⟩
  match i with
  | 0 =>
    right
    refine ⟨-1, by simp [spec_l01Deg_l1], fun k hk => ?_⟩
    have : k = 0 := by omega
    subst this; simp [top]
  | i + 1 =>
    have e1 : ((i + 1 : Nat) : Int) - 1 = (i : Int) := by omega
    rw [e1]
    by_cases e : rd a.1 i = 0
    · left
      refine ⟨(i : Int) - 1, ?_, ⟨i, rfl, by omega⟩, by omega, fun r hr k hk => ?_⟩
      · simp only [spec_l01Deg_l1]
        rw [if_pos (by simp), ifp_pos (by omega)]
        simp [e]
        exact wrap64 (by omega) (by omega)
      · have : k = i + 1 := by omega
        subst this
        rw [hr i rfl]; simp [top, e]
    · right
      refine ⟨(i : Int), ?_, fun k hk => ?_⟩
      · simp only [spec_l01Deg_l1]
        rw [if_pos (by simp), ifp_pos (by omega)]
        simp [e]
      · have : k = i + 1 := by omega
        subst this
        simp [top, e]

theorem deg_is (a : V64) : spec_l01Deg a = some ((top (rd a.1) 64 : Int) - 1) := by
  obtain ⟨r, h1, h2⟩ := deg_loop a 63 ⟨64, by omega, by omega⟩
  rw [h2 64 (by omega)] at h1
  simp only [spec_l01Deg, h1, Option.bind_some]
end Go.Proofs.Ytkbnegemdlnncaa
/- Products, in the reference. -/
namespace Go.Proofs.Ytkbnegemdlnncaa
open Go.Abs

/-- One row of the reference's product. -/
theorem timesS_row {p : Int} (hp : 2 ≤ p ∧ p ≤ 256) {a b : V64} (ha : Res p a) (hb : Res p b) {i db : Nat} (hi : i + db < 64) {v : V64} (hv : Res p v) :
    ∃ v', loopM (fun s : Int × V64 => spec_l01Times_l2 (db : Int) (i : Int) a b p s.1 s.2) (0, v) = some v' ∧ Res p v' ∧ ∀ k, k < 64 → rd v'.1 k = if i ≤ k ∧ k ≤ i + db then (rd v.1 k + rd a.1 i * rd b.1 (k - i)) % p else rd v.1 k := by
  by_cases h0 : rd a.1 i = 0
  · refine ⟨v, ?_, hv, fun k hk => ?_⟩
    · rw [loopM_eq]
      simp only [spec_l01Times_l2]
      rw [ifp_pos (by omega)]
      simp [h0]
    · rw [h0]
      split
      · have := hv k hk
        rw [Int.zero_mul, Int.add_zero, Int.emod_eq_of_lt this.1 this.2]
      · rfl
  · have hai := ha i (by omega)
    obtain ⟨v', h1, h2, h3⟩ := loopM_for (body := fun s : Int × V64 => spec_l01Times_l2 (db : Int) (i : Int) a b p s.1 s.2) (fun j (v : V64) => ((j : Int), v)) (fun v => v) (db + 1)
      (fun j u => Res p u ∧ ∀ k, k < 64 → rd u.1 k = if i ≤ k ∧ k < i + j then (rd v.1 k + rd a.1 i * rd b.1 (k - i)) % p else rd v.1 k) (fun j u hj hI => by
        obtain ⟨hr, hk⟩ := hI
        have hbj := hb j (by omega)
        have huj := hr (i + j) (by omega)
        have e1 : IntKind.i64.wrap ((i : Int) + (j : Int)) = ((i + j : Nat) : Int) := by rw [wrap64 (by omega) (by omega)]; omega
        have hm := mul_small (x := rd a.1 i) (y := rd b.1 j) (by omega) (by omega)
        have hmod : Int.tmod (rd u.1 (i + j) + rd a.1 i * rd b.1 j) p = (rd u.1 (i + j) + rd a.1 i * rd b.1 j) % p := Int.tmod_eq_emod_of_nonneg (by omega)
        have hlt := emod_res (show 0 < p by omega) (rd u.1 (i + j) + rd a.1 i * rd b.1 j)
        refine ⟨vset u (i + j) ((rd u.1 (i + j) + rd a.1 i * rd b.1 j) % p), ?_, fun k hk' => ?_, fun k hk' => ?_⟩
        · simp only [spec_l01Times_l2, letp]
          rw [if_pos (by simp; omega), ifp_pos (by omega)]
          simp only [Option.bind_some]
          rw [if_pos (by simpa using h0), e1]
          rw [ifp_pos (by omega), ifp_pos (by omega), ifp_pos (by omega), ifp_pos (by omega), ifp_pos (by omega)]
          simp only [Int.toNat_natCast]
          rw [wrap64 (n := rd u.1 (i + j)) (by omega) (by omega), wrap64 (n := rd a.1 i) (by omega) (by omega), wrap64 (n := rd b.1 j) (by omega) (by omega), wrap64 (n := rd a.1 i * rd b.1 j) (by omega) (by omega), wrap64 (n := rd u.1 (i + j) + rd a.1 i * rd b.1 j) (by omega) (by omega), hmod, wrap8 hlt.1 (by omega), wrap64 (by omega) (by omega)]
          rfl
        · rw [rd_vset _ _ _ _ (by omega)]
          split
          · exact hlt
          · exact hr k hk'
        · rw [rd_vset _ _ _ _ (by omega)]
          by_cases e : k = i + j
          · subst e
            rw [if_pos rfl, if_pos (by omega), hk _ hk', if_neg (by omega), show i + j - i = j by omega]
          · rw [if_neg e, hk k hk']
            by_cases hc : i ≤ k ∧ k < i + j
            · rw [if_pos hc, if_pos (by omega)]
            · rw [if_neg hc, if_neg (by omega)]) (fun u hI => by
        simp only [spec_l01Times_l2]
        rw [if_neg (by simp; omega)]
        rfl) (db + 1) 0 v (by omega) ⟨hv, fun k hk => by rw [if_neg (by omega)]⟩
    exact ⟨v', h1, h2, fun k hk => by rw [h3 k hk]; simp only [show (i ≤ k ∧ k < i + (db + 1)) = (i ≤ k ∧ k ≤ i + db) from by rw [eq_iff_iff]; omega]⟩


theorem times_pad {p : Int} (hp : 2 ≤ p ∧ p ≤ 256) {a b : List Int} (ha : Row p a) (hb : Row p b) (la : a.length ≤ 64) (lb : b.length ≤ 64) (hl : a.length = 0 ∨ b.length = 0 ∨ a.length + b.length ≤ 65) :
    spec_l01Times p (pad a) (pad b) = some (pad (mul p a b), true) := by
  have hta : top (rd (pad a).1) 64 = a.length := by rw [top_congr 64 fun i hi => rd_padl a hi, ha.top la]
  have htb : top (rd (pad b).1) 64 = b.length := by rw [top_congr 64 fun i hi => rd_padl b hi, hb.top lb]
  simp only [spec_l01Times, deg_is, Option.bind_some, hta, htb]
  by_cases h1 : a.length = 0
  · have e : a = [] := List.eq_nil_of_length_eq_zero h1
    subst e
    simp [mul_nil, pad_nil]
  by_cases h2 : b.length = 0
  · have e : b = [] := List.eq_nil_of_length_eq_zero h2
    subst e
    simp [mul_nil', pad_nil]
  have hra := res_pad ha (show 0 < p by omega)
  have hrb := res_pad hb (show 0 < p by omega)
  obtain ⟨db, hdb⟩ : ∃ db : Nat, b.length = db + 1 := ⟨b.length - 1, by omega⟩
  obtain ⟨da, hda⟩ : ∃ da : Nat, a.length = da + 1 := ⟨a.length - 1, by omega⟩
  have e1 : ((a.length : Nat) : Int) - 1 = (da : Int) := by omega
  have e2 : ((b.length : Nat) : Int) - 1 = (db : Int) := by omega
  rw [e1, e2, wrap64 (by omega) (by omega)]
  simp only [show (decide ((da : Int) < 0)) = false by simp, Bool.false_eq_true, if_false, show (decide ((db : Int) < 0)) = false by simp, show (decide ((da : Int) + (db : Int) > 63)) = false by simp; omega, Option.bind_some]
  obtain ⟨v, h3, h4, h5⟩ := loopM_for (body := fun s : Int × V64 => spec_l01Times_l1 (da : Int) (db : Int) (pad a) (pad b) p s.1 s.2) (fun i v => ((i : Int), v)) (fun v => v) (da + 1)
    (fun i v => Res p v ∧ ∀ k, k < 64 → rd v.1 k = cv (rd a) (rd b) i k % p) (fun i v hi hI => by
      obtain ⟨hv, hk⟩ := hI
      obtain ⟨v', g1, g2, g3⟩ := timesS_row hp hra hrb (i := i) (db := db) (by omega) hv
      refine ⟨v', ?_, g2, fun k hk' => ?_⟩
      · simp only [spec_l01Times_l1]
        rw [if_pos (by simp; omega), g1]
        simp only [Option.bind_some]
        rw [wrap64 (by omega) (by omega)]; rfl
      · rw [g3 k hk', hk k hk', cv_succ]
        by_cases hc : i ≤ k ∧ k ≤ i + db
        · rw [if_pos hc, if_pos hc.1, rd_padl _ (by omega), rd_padl _ (by omega), Int.emod_add_emod]
        · rw [if_neg hc]
          by_cases hik : i ≤ k
          · rw [if_pos hik, rd_ge (l := b) (by omega), Int.mul_zero, Int.add_zero]
          · rw [if_neg hik, Int.add_zero]) (fun v hI => by
      simp only [spec_l01Times_l1]
      rw [if_neg (by simp; omega)]) (da + 1) 0 (vrep 64 0) (by omega) ⟨fun j hj => by rw [rd_vrep _ hj]; omega, fun k hk => by rw [rd_vrep _ hk]; simp [cv, sumTo]⟩
  have h3' : loopM (fun s : Int × V64 => spec_l01Times_l1 (da : Int) (db : Int) (pad a) (pad b) p s.1 s.2) (0, vrep 64 0) = some v := h3
  rw [h3']
  simp only [Option.bind_some]
  congr 2
  exact vec_ext fun k hk => by rw [h5 k hk, rd_padl _ hk, mul_rd, cv_conv fun i hi => rd_ge (by omega)]

theorem times_pad_no {p : Int} {a b : List Int} (ha : Row p a) (hb : Row p b) (la : a.length ≤ 64) (lb : b.length ≤ 64) (h1 : a.length ≠ 0) (h2 : b.length ≠ 0) (hl : 65 < a.length + b.length) :
    spec_l01Times p (pad a) (pad b) = some (vrep 64 0, false) := by
  have hta : top (rd (pad a).1) 64 = a.length := by rw [top_congr 64 fun i hi => rd_padl a hi, ha.top la]
  have htb : top (rd (pad b).1) 64 = b.length := by rw [top_congr 64 fun i hi => rd_padl b hi, hb.top lb]
  simp only [spec_l01Times, deg_is, Option.bind_some, hta, htb]
  rw [wrap64 (by omega) (by omega)]
  simp only [show (decide (((a.length : Nat) : Int) - 1 < 0)) = false by simp; omega, Bool.false_eq_true, if_false, show (decide (((b.length : Nat) : Int) - 1 < 0)) = false by simp; omega, show (decide (((a.length : Nat) : Int) - 1 + (((b.length : Nat) : Int) - 1) > 63)) = true by simp; omega, Option.bind_some, if_true]
end Go.Proofs.Ytkbnegemdlnncaa
/- Rows without the zeros at their ends. -/
namespace Go.Proofs.Ytkbnegemdlnncaa
open Go.Abs

def IsB (v : V64) : Prop := ∀ d ∈ v.1, 0 ≤ d ∧ d < 256

theorem IsB.rd {v : V64} (h : IsB v) {j : Nat} (hj : j < 64) : 0 ≤ rd v.1 j ∧ rd v.1 j < 256 := by
  have hl : j < v.1.length := by rw [v.2]; exact hj
  have : Abs.rd v.1 j = v.1[j] := by simp [Abs.rd, hl]
  rw [this]; exact h _ (List.getElem_mem _)

theorem trimmed_loop {l : List Int} (hl : l.length ≤ 1000000) : ∀ s : Int, (∃ i : Nat, s = i ∧ i ≤ l.length) → ∃ r, loopM (fun s : Int => impl_row_trimmed_l1 l s) s = some r ∧ ∀ i : Nat, s = i → r = (top (rd l) i : Int) := by
  refine loopM_ind (fun (s : Int) => ∃ i : Nat, s = i ∧ i ≤ l.length) (fun (s : Int) (r : Int) => ∀ i : Nat, s = i → r = (top (rd l) i : Int)) (fun s => s.toNat) ?_
  rintro s ⟨i, rfl, hi⟩
  match i with
  | 0 =>
    right
    refine ⟨0, by simp [impl_row_trimmed_l1], fun k hk => ?_⟩
    have : k = 0 := by omega
    subst this; simp [top]
  | i + 1 =>
    have e1 : IntKind.i64.wrap (((i + 1 : Nat) : Int) - 1) = (i : Int) := by rw [wrap64 (by omega) (by omega)]; omega
    by_cases e : rd l i = 0
    · left
      refine ⟨(i : Int), ?_, ⟨i, rfl, by omega⟩, by omega, fun r hr k hk => ?_⟩
      · simp only [impl_row_trimmed_l1, e1]
        rw [if_pos (by simp), ifp_pos (by omega)]
        simp [e]
      · have : k = i + 1 := by omega
        subst this
        rw [hr i rfl]; simp [top, e]
    · right
      refine ⟨((i + 1 : Nat) : Int), ?_, fun k hk => ?_⟩
      · simp only [impl_row_trimmed_l1, e1]
        rw [if_pos (by simp), ifp_pos (by omega)]
        simp [e]
      · have : k = i + 1 := by omega
        subst this
        simp [top, e]

theorem trimmed_is {l : List Int} (hl : l.length ≤ 1000000) : impl_row_trimmed l = some (l.take (top (rd l) l.length)) := by
  obtain ⟨r, h1, h2⟩ := trimmed_loop hl (l.length : Nat) ⟨l.length, rfl, Nat.le_refl _⟩
  rw [h2 _ rfl] at h1
  have := top_le (rd l) l.length
  simp only [impl_row_trimmed, h1, Option.bind_some]
  rw [ifp_pos (by omega)]
  simp

theorem rowOf_loop {a : V64} (hb : IsB a) : ∀ s : Int × List Int, (∃ i : Nat, s.1 = i ∧ i ≤ 64 ∧ s.2 = a.1.take i) → ∃ r, loopM (fun s : Int × List Int => impl_rowOf_l1 a s.1 s.2) s = some r ∧ r = a.1 := by
  refine loopM_ind (fun (s : Int × List Int) => ∃ i : Nat, s.1 = i ∧ i ≤ 64 ∧ s.2 = a.1.take i) (fun (s : Int × List Int) (r : List Int) => r = a.1) (fun (s : Int × List Int) => 64 - s.1.toNat) ?_
  rintro ⟨x, v⟩ ⟨i, hx, hi, hv⟩
  simp only at hx hv
  subst hx hv
  by_cases h : i = 64
  · right
    subst h
    exact ⟨a.1, by simp [impl_rowOf_l1, List.take_of_length_le (Nat.le_of_eq a.2)], rfl⟩
  · left
    have hil : i < a.1.length := by rw [a.2]; omega
    have er : rd a.1 i = a.1[i] := by simp [rd, hil]
    have hbi := hb.rd (show i < 64 by omega)
    refine ⟨(((i + 1 : Nat) : Int), a.1.take (i + 1)), ?_, ⟨i + 1, rfl, by omega, rfl⟩, by simp; omega, fun r hr => hr⟩
    simp only [impl_rowOf_l1]
    rw [if_pos (by simp; omega), ifp_pos (by omega), ifp_pos (by simp; omega)]
    rw [Int.toNat_natCast, wrap64 (by omega) (by omega), wrap64 (by omega) (by omega), er, List.take_succ_eq_append_getElem hil]
    simp

theorem rowOf_is {a : V64} (hb : IsB a) : impl_rowOf a = some (a.1.take (top (rd a.1) 64)) := by
  obtain ⟨r, h1, h2⟩ := rowOf_loop hb (0, []) ⟨0, rfl, by omega, by simp⟩
  subst h2
  have h3 := trimmed_is (l := a.1) (by rw [a.2]; omega)
  rw [a.2] at h3
  simp only [impl_rowOf, h1, Option.bind_some, h3]
end Go.Proofs.Ytkbnegemdlnncaa
/- Products, in the program. -/
namespace Go.Proofs.Ytkbnegemdlnncaa
open Go.Abs


theorem cv_small {a b : Nat → Int} (ha : ∀ i, 0 ≤ a i ∧ a i < 256) (hb : ∀ i, 0 ≤ b i ∧ b i < 256) (k : Nat) : ∀ n : Nat, 0 ≤ cv a b n k ∧ cv a b n k ≤ n * 65025
  | 0 => by simp [cv, sumTo]
  | n + 1 => by
    rw [cv_succ]
    have h1 := cv_small ha hb k n
    have h2 := mul_small (ha n) (hb (k - n))
    split <;> omega

/-- The program's product. -/
theorem times_is {p : Int} (hp : 2 ≤ p ∧ p ≤ 256) {a b : List Int} (ha : Ent a) (hb : Ent b) (la : a.length ≤ 500000) (lb : b.length ≤ 500000) : impl_prime_times p a b = some (mul p a b) := by
  simp only [impl_prime_times, letp]
  by_cases h1 : a.length = 0
  · have e : a = [] := List.eq_nil_of_length_eq_zero h1
    subst e
    simp [mul_nil]
  by_cases h2 : b.length = 0
  · have e : b = [] := List.eq_nil_of_length_eq_zero h2
    subst e
    simp [mul_nil']
  obtain ⟨n, hn⟩ : ∃ n : Nat, n = a.length + b.length - 1 := ⟨_, rfl⟩
  have e0 : IntKind.i64.wrap (IntKind.i64.wrap ((a.length : Int) + (b.length : Int)) - 1) = (n : Int) := by
    rw [wrap64 (n := (a.length : Int) + (b.length : Int)) (by omega) (by omega), wrap64 (by omega) (by omega)]; omega
  rw [e0]
  have c1 : (if ((a.length : Int) == 0) = true then some true else some ((b.length : Int) == 0)) = some false := by
    rw [if_neg (by rw [beq_iff_eq]; omega)]
    congr 1
    rw [beq_eq_false_iff_ne]; omega
  rw [c1]
  simp only [Bool.false_eq_true, if_false, Option.bind_some, Int.toNat_natCast]
  rw [ifp_pos (by omega)]
  -- one row
  have hrow : ∀ (i : Nat) (s : List Int), i < a.length → s.length = n → (∀ k, rd s k = cv (rd a) (rd b) i k) →
      ∃ s', loopM (fun s : Int × List Int => impl_prime_times_l2 b (i : Int) a s.1 s.2) (0, s) = some s' ∧ s'.length = n ∧ ∀ k, rd s' k = cv (rd a) (rd b) (i + 1) k := by
    intro i s hi hsl hs
    have hai := ha i
    obtain ⟨s', g1, g2, g3⟩ := loopM_for (body := fun s : Int × List Int => impl_prime_times_l2 b (i : Int) a s.1 s.2) (fun j (u : List Int) => ((j : Int), u)) (fun u => u) b.length
      (fun j u => u.length = n ∧ ∀ k, rd u k = if i ≤ k ∧ k < i + j then cv (rd a) (rd b) (i + 1) k else cv (rd a) (rd b) i k) (fun j u hj hI => by
        obtain ⟨hul, hu⟩ := hI
        have hbj := hb j
        have hm := mul_small hai hbj
        have hc := cv_small ha hb (i + j) i
        have e1 : IntKind.i64.wrap ((i : Int) + (j : Int)) = ((i + j : Nat) : Int) := by rw [wrap64 (by omega) (by omega)]; omega
        have huj := hu (i + j)
        rw [if_neg (by omega)] at huj
        have e2 : cv (rd a) (rd b) (i + 1) (i + j) = cv (rd a) (rd b) i (i + j) + rd a i * rd b j := by
          rw [cv_succ, if_pos (by omega), show i + j - i = j by omega]
        refine ⟨u.set (i + j) (cv (rd a) (rd b) (i + 1) (i + j)), ?_, by simpa using hul, fun k => ?_⟩
        · simp only [impl_prime_times_l2, letp]
          rw [if_pos (by simp; omega), e1]
          rw [ifp_pos (by omega), ifp_pos (by omega), ifp_pos (by omega)]
          simp only [Int.toNat_natCast]
          rw [huj, wrap64 (n := rd a i * rd b j) (by omega) (by omega), wrap64 (n := cv (rd a) (rd b) i (i + j) + rd a i * rd b j) (by omega) (by omega), wrap64 (by omega) (by omega), e2]
          rfl
        · rw [rd_set _ _ _ _ (by omega)]
          by_cases e : k = i + j
          · subst e
            rw [if_pos rfl, if_pos (by omega)]
          · rw [if_neg e, hu k]
            by_cases hc : i ≤ k ∧ k < i + j
            · rw [if_pos hc, if_pos (by omega)]
            · rw [if_neg hc, if_neg (by omega)]) (fun u hI => by
        simp only [impl_prime_times_l2]
        rw [if_neg (by simp)]) b.length 0 s (by omega) ⟨hsl, fun k => by rw [hs k, if_neg (by omega)]⟩
    refine ⟨s', g1, g2, fun k => ?_⟩
    rw [g3 k]
    split
    · rfl
    · rename_i hc
      rw [cv_succ]
      by_cases hik : i ≤ k
      · rw [if_pos hik, rd_ge (l := b) (by omega), Int.mul_zero, Int.add_zero]
      · rw [if_neg hik, Int.add_zero]
  obtain ⟨s, h3, h4, h5⟩ := loopM_for (body := fun s : Int × List Int => impl_prime_times_l1 a b s.1 s.2) (fun i (u : List Int) => ((i : Int), u)) (fun u => u) a.length
    (fun i u => u.length = n ∧ ∀ k, rd u k = cv (rd a) (rd b) i k) (fun i u hi hI => by
      obtain ⟨u', g1, g2, g3⟩ := hrow i u hi hI.1 hI.2
      refine ⟨u', ?_, g2, g3⟩
      simp only [impl_prime_times_l1]
      rw [if_pos (by simp; omega), ifp_pos (by omega), g1]
      simp only [Option.bind_some]
      rw [wrap64 (by omega) (by omega)]; rfl) (fun u hI => by
      simp only [impl_prime_times_l1]
      rw [if_neg (by simp)]) a.length 0 (List.replicate n 0) (by omega) ⟨by simp, fun k => by rw [rd_rep]; simp [cv, sumTo]⟩
  have h3' : loopM (fun s : Int × List Int => impl_prime_times_l1 a b s.1 s.2) (0, List.replicate n 0) = some s := h3
  rw [h3']
  simp only [Option.bind_some]
  obtain ⟨t, h6, h7, h8⟩ := loopM_for (body := fun q : Int × List Int => impl_prime_times_l3 s p q.1 q.2) (fun i (u : List Int) => ((i : Int), u)) (fun u => u) n
    (fun i u => u.length = n ∧ ∀ k, rd u k = if k < i then cv (rd a) (rd b) a.length k % p else cv (rd a) (rd b) a.length k) (fun i u hi hI => by
      obtain ⟨hul, hu⟩ := hI
      have hui := hu i
      rw [if_neg (by omega)] at hui
      have hc := cv_small ha hb i a.length
      refine ⟨u.set i (cv (rd a) (rd b) a.length i % p), ?_, by simpa using hul, fun k => ?_⟩
      · simp only [impl_prime_times_l3]
        rw [if_pos (by simp; omega), ifp_pos (by omega), ifp_pos (by omega), ifp_pos (by omega)]
        simp only [Int.toNat_natCast]
        rw [hui, Int.tmod_eq_emod_of_nonneg hc.1, wrap64 (by omega) (by omega)]; rfl
      · rw [rd_set _ _ _ _ (by omega), hu k]
        by_cases e : k = i
        · subst e; simp
        · rw [if_neg e]
          simp only [show (k < i + 1) = (k < i) from by rw [eq_iff_iff]; omega]) (fun u hI => by
      simp only [impl_prime_times_l3]
      rw [if_neg (by simp; omega)]) n 0 s (by omega) ⟨h4, fun k => by rw [h5 k, if_neg (by omega)]⟩
  have h6' : loopM (fun q : Int × List Int => impl_prime_times_l3 s p q.1 q.2) (0, s) = some t := h6
  rw [h6']
  simp only [Option.bind_some]
  rw [trimmed_is (by omega), trim_eq, h7]
  simp only [Option.bind_some]
  congr 1
  rw [mul, ← hn]
  exact ofF_congr fun k hk => by rw [h8 k, if_pos hk, cv_conv fun i hi => rd_ge (by omega)]
end Go.Proofs.Ytkbnegemdlnncaa
/- Powers of polynomials. -/
namespace Go.Proofs.Ytkbnegemdlnncaa
open Go.Abs

def pow (p : Int) (a : List Int) : Nat → List Int
  | 0 => [1]
  | k + 1 => mul p (pow p a k) a
theorem pow_row {p : Int} (hp : 2 ≤ p) (a : List Int) : ∀ k, Row p (pow p a k)
  | 0 => row_one hp
  | k + 1 => mul_row (by omega) _ _
theorem pow_len (p : Int) (a : List Int) : ∀ k, (pow p a k).length ≤ 1 + k * (a.length - 1)
  | 0 => by simp [pow]
  | k + 1 => by
    have h1 := pow_len p a k
    have h2 := mul_len p (pow p a k) a
    rw [Nat.succ_mul]
    simp only [pow]
    rcases Nat.eq_zero_or_pos a.length with h | h
    · have e : a = [] := List.eq_nil_of_length_eq_zero h
      subst e
      rw [mul_nil']; simp
    · omega
theorem raised_is {p : Int} (hp : 2 ≤ p ∧ p ≤ 7) {a : List Int} (ha : Row p a) (la : a.length ≤ 1000) {k : Nat} (hk : k ≤ 400) : impl_prime_raised p a k = some (pow p a k) := by
  obtain ⟨s, h1, h2⟩ := loopM_for (body := fun s : List Int × Int => impl_prime_raised_l1 (k : Int) p a s.1 s.2) (fun i s => (s, (i : Int))) (fun s => s) k
    (fun i s => s = pow p a i) (fun i s hi hI => by
      subst hI
      have hl := pow_len p a i
      have hm : i * (a.length - 1) ≤ 400 * 1000 := Nat.mul_le_mul (by omega) (by omega)
      refine ⟨pow p a (i + 1), ?_, rfl⟩
      simp only [impl_prime_raised_l1]
      rw [if_pos (by simp; omega), times_is ⟨hp.1, by omega⟩ ((pow_row hp.1 a i).ent ⟨by omega, by omega⟩) (ha.ent ⟨by omega, by omega⟩) (by omega) (by omega)]
      simp only [Option.bind_some]
      rw [wrap64 (by omega) (by omega)]; rfl) (fun s hI => by
      simp only [impl_prime_raised_l1]
      rw [if_neg (by simp)]) k 0 [1] (by omega) rfl
  have h1' : loopM (fun s : List Int × Int => impl_prime_raised_l1 (k : Int) p a s.1 s.2) ([1], 0) = some s := h1
  simp only [impl_prime_raised, h1', Option.bind_some, h2]
theorem power_is {p : Int} (hp : 2 ≤ p ∧ p ≤ 7) {a : List Int} (ha : Row p a) (la : a.length ≤ 64) {k : Nat} (hk : k * (a.length - 1) ≤ 63) (hk2 : k ≤ 1000000) : spec_l08Power p (pad a) k = some (pad (pow p a k), true) := by
  have key : ∀ (m i : Nat), i + m = k → loopM (fun s : Int × V64 => spec_l08Power_l1 p (pad a) s.1 s.2) ((m : Int), pad (pow p a i)) = some (.inl (pad (pow p a k))) := by
    intro m
    induction m with
    | zero =>
      intro i hi
      have : i = k := by omega
      subst this
      have step : spec_l08Power_l1 p (pad a) ((0 : Nat) : Int) (pad (pow p a i)) = some (.inr (.inl (pad (pow p a i)))) := by simp [spec_l08Power_l1]
      rw [loopM_eq]
      simp only [step, Option.bind_some]
    | succ m ih =>
      intro i hi
      have hl := pow_len p a i
      have hm : (i + 1) * (a.length - 1) ≤ k * (a.length - 1) := Nat.mul_le_mul_right _ (by omega)
      rw [Nat.succ_mul] at hm
      have hl2 : (pow p a i).length = 0 ∨ a.length = 0 ∨ (pow p a i).length + a.length ≤ 65 := by omega
      have step : spec_l08Power_l1 p (pad a) ((m + 1 : Nat) : Int) (pad (pow p a i)) = some (.inl ((m : Int), pad (pow p a (i + 1)))) := by
        have e : IntKind.i64.wrap (((m + 1 : Nat) : Int) - 1) = (m : Int) := by rw [wrap64 (by omega) (by omega)]; omega
        simp only [spec_l08Power_l1]
        rw [if_pos (decide_eq_true (by omega)), times_pad ⟨hp.1, by omega⟩ (pow_row hp.1 a i) ha (by omega) la hl2]
        simp only [Option.bind_some, Bool.not_true, Bool.false_eq_true, if_false, e]
        rfl
      rw [loopM_eq]
      simp only [step, Option.bind_some]
      exact ih (i + 1) (by omega)
  simp only [spec_l08Power, one_is, Option.bind_some]
  have := key k 0 (by omega)
  simp only [pow] at this
  rw [this]
  rfl

/-! Powers of p. -/
end Go.Proofs.Ytkbnegemdlnncaa
/- The polynomial with a number. -/
namespace Go.Proofs.Ytkbnegemdlnncaa
open Go.Abs

theorem numbered_loop {p : Nat} (hp : 2 ≤ p) : ∀ s : Int × List Int, (∃ n : Nat, s.1 = n ∧ s.2.length + n ≤ 1000000000000) → ∃ r, loopM (fun s : Int × List Int => impl_prime_numbered_l1 p s.1 s.2) s = some r ∧ ∀ n : Nat, s.1 = n → r = s.2 ++ digs p n := by
  refine loopM_ind (fun (s : Int × List Int) => ∃ n : Nat, s.1 = n ∧ s.2.length + n ≤ 1000000000000) (fun (s : Int × List Int) (r : List Int) => ∀ n : Nat, s.1 = n → r = s.2 ++ digs p n) (fun (s : Int × List Int) => s.1.toNat) ?_
  rintro ⟨x, l⟩ ⟨n, hx, h2⟩
  simp only at hx h2
  subst hx
  by_cases hn : n = 0
  · right
    subst hn
    refine ⟨l, by simp [impl_prime_numbered_l1], fun m hm => ?_⟩
    have : m = 0 := by simpa using hm.symm
    subst this
    rw [digs_zero]; simp
  · left
    have hlt : n / p < n := Nat.div_lt_self (by omega) hp
    have e1 : Int.tdiv (n : Int) p = ((n / p : Nat) : Int) := rfl
    have e2 : Int.tmod (n : Int) p = ((n % p : Nat) : Int) := rfl
    have ed := digs_pos hp (show 0 < n by omega)
    generalize n / p = q at hlt e1 ed
    generalize n % p = d at e2 ed
    refine ⟨((q : Int), l ++ [(d : Int)]), ?_, ⟨q, rfl, by simp only [List.length_append, List.length_singleton]; omega⟩, by simp only [Int.toNat_natCast]; exact hlt, fun r hr m hm => ?_⟩
    · simp only [impl_prime_numbered_l1]
      rw [if_pos (by simp; omega), ifp_pos (by omega), ifp_pos (by simp; omega), ifp_pos (by omega), e1, e2, wrap64 (by omega) (by omega)]
    · have : m = n := by have : (n : Int) = m := hm; omega
      subst this
      rw [hr q rfl, ed]
      simp

theorem numbered_is {p n : Nat} (hp : 2 ≤ p) (hn : n ≤ 1000000000000) : impl_prime_numbered p n = some (digs p n) := by
  obtain ⟨l, h3, h4⟩ := numbered_loop hp ((n : Int), []) ⟨n, rfl, by simp; omega⟩
  have e := h4 n rfl
  simp only [List.nil_append] at e
  simp [impl_prime_numbered, h3, e]

end Go.Proofs.Ytkbnegemdlnncaa
/- Monic polynomials, in the program. -/
namespace Go.Proofs.Ytkbnegemdlnncaa
open Go.Abs

/-- The monic polynomials of degree d. -/
def monicL (p d : Nat) (n : Nat) : List (List Int) := (List.range n).map fun i => digs p (p ^ d + i)
theorem monics_is {p d : Nat} (hp : 2 ≤ p ∧ p ≤ 7) (hd : d ≤ 1000000) (hm : p ^ d ≤ 343) : impl_prime_monics p d = some (monicL p d (p ^ d)) := by
  obtain ⟨c, h1, h2, _⟩ := norm_is (n := d) (most := 343) hp hd (by omega)
  have hc : c = p ^ d := by omega
  subst hc
  have h1' : impl_prime_norm p d 343 = some ((p ^ d : Nat) : Int) := h1
  simp only [impl_prime_monics, h1', Option.bind_some]
  generalize hn : p ^ d = n at *
  obtain ⟨s, g1, g2⟩ := loopM_for (body := fun s : Int × List (List Int) => impl_prime_monics_l1 (n : Int) p s.1 s.2) (fun i s => ((i : Int), s)) (fun s => s) n
    (fun i s => s = (List.range i).map fun i => digs p (n + i)) (fun i s hi hI => by
      subst hI
      refine ⟨_, ?_, rfl⟩
      simp only [impl_prime_monics_l1]
      have e : IntKind.i64.wrap ((n : Int) + (i : Int)) = ((n + i : Nat) : Int) := by rw [wrap64 (by omega) (by omega)]; omega
      rw [if_pos (decide_eq_true (by omega)), e, numbered_is hp.1 (by omega)]
      simp only [Option.bind_some]
      rw [ifp_pos (by simp; omega), wrap64 (by omega) (by omega), List.range_succ, List.map_append]
      rfl) (fun s hI => by
      simp only [impl_prime_monics_l1]
      rw [if_neg (by rw [decide_eq_true_eq]; omega)]) n 0 [] (by omega) rfl
  have g1' : loopM (fun s : Int × List (List Int) => impl_prime_monics_l1 (n : Int) p s.1 s.2) (0, []) = some s := g1
  rw [g1', g2, monicL, hn]
  rfl
end Go.Proofs.Ytkbnegemdlnncaa
/- The polynomial of a number, in the reference. -/
namespace Go.Proofs.Ytkbnegemdlnncaa
open Go.Abs
theorem of_loop {p : Nat} (hp : 2 ≤ p) (hp2 : p ≤ 256) : ∀ s : Int × Int × V64, (∃ (n : Nat) (l : List Int), s.1 = n ∧ n ≤ 1000000000000 ∧ s.2.1 = (l.length : Nat) ∧ s.2.2 = pad l ∧ l.length + (digs p n).length ≤ 64) →
    ∃ r, loopM (fun s : Int × Int × V64 => spec_l01Of_l1 p s.1 s.2.1 s.2.2) s = some r ∧ ∀ (n : Nat) (l : List Int), s.1 = n → s.2.1 = (l.length : Nat) → s.2.2 = pad l → r = pad (l ++ digs p n) := by
  refine loopM_ind (fun (s : Int × Int × V64) => ∃ (n : Nat) (l : List Int), s.1 = n ∧ n ≤ 1000000000000 ∧ s.2.1 = (l.length : Nat) ∧ s.2.2 = pad l ∧ l.length + (digs p n).length ≤ 64)
    (fun (s : Int × Int × V64) (r : V64) => ∀ (n : Nat) (l : List Int), s.1 = n → s.2.1 = (l.length : Nat) → s.2.2 = pad l → r = pad (l ++ digs p n)) (fun (s : Int × Int × V64) => s.1.toNat) ?_
  rintro ⟨x, i, v⟩ ⟨n, l, hx, hn, hi, hv, hl⟩
  simp only at hx hi hv
  subst hx hi hv
  by_cases h : n = 0
  · right
    subst h
    refine ⟨pad l, by simp [spec_l01Of_l1], fun m k hm hk hv => ?_⟩
    have : m = 0 := by have : ((0 : Nat) : Int) = m := hm; omega
    subst this
    rw [digs_zero, List.append_nil]; exact hv
  · left
    have hlt : n / p < n := Nat.div_lt_self (by omega) hp
    have e1 : Int.tdiv (n : Int) p = ((n / p : Nat) : Int) := rfl
    have e2 : Int.tmod (n : Int) p = ((n % p : Nat) : Int) := rfl
    have ed := digs_pos hp (show 0 < n by omega)
    have hm := Nat.mod_lt n (show p > 0 by omega)
    generalize n / p = q at hlt e1 ed
    generalize n % p = d at e2 ed hm
    rw [ed] at hl
    simp only [List.length_cons] at hl
    refine ⟨((q : Int), ((l ++ [(d : Int)]).length : Nat), pad (l ++ [(d : Int)])), ?_, ⟨q, l ++ [(d : Int)], rfl, by omega, rfl, rfl, by simp; omega⟩, by simp only [Int.toNat_natCast]; exact hlt, fun r hr m k hm hk hv => ?_⟩
    · simp only [spec_l01Of_l1]
      rw [if_pos (by simp; omega), ifp_pos (by omega), ifp_pos (by omega), ifp_pos (by omega), e1, e2, wrap64 (by omega) (by omega), wrap64 (by omega) (by omega), wrap8 (by omega) (by omega)]
      rw [Int.toNat_natCast, pad_set l d (by omega)]
      simp
    · have : m = n := by have : (n : Int) = m := hm; omega
      subst this
      have h1 := hr q (l ++ [(d : Int)]) rfl rfl rfl
      rw [h1, ed]
      simp only at hv hk
      have hkl : k.length = l.length := by omega
      refine vec_ext fun j hj => ?_
      rw [pad_rd _ hj, pad_rd _ hj, List.append_assoc]
      simp only [List.singleton_append]
      have hv' : ∀ j, j < 64 → l.getD j 0 = k.getD j 0 := fun j hj => by
        have := congrArg (fun v : V64 => rd v.1 j) hv
        simp only [pad_rd _ hj] at this
        exact this
      rw [getD_app, getD_app, hkl]
      split
      · exact hv' j hj
      · rfl

theorem of_is {p n : Nat} (hp : 2 ≤ p) (hp2 : p ≤ 256) (hn : n ≤ 1000000000000) : spec_l01Of p n = some (pad (digs p n)) := by
  have hl := digs_len40 hp hn
  obtain ⟨r, h1, h2⟩ := of_loop hp hp2 ((n : Int), 0, pad []) ⟨n, [], rfl, hn, rfl, rfl, by simp; omega⟩
  have e := h2 n [] rfl rfl rfl
  simp only [spec_l01Of, ← pad_nil, h1, e, Option.bind_some, List.nil_append]
end Go.Proofs.Ytkbnegemdlnncaa
/- Sums, in the program. -/
namespace Go.Proofs.Ytkbnegemdlnncaa
open Go.Abs

theorem at_is (l : List Int) (i : Nat) : impl_row_at l i = some (rd l i) := by
  unfold impl_row_at
  by_cases h : i < l.length
  · rw [if_pos (by simpa using h), ifp_pos (by omega)]; simp
  · rw [if_neg (by simpa using h), rd_ge (by omega)]

theorem reduce_is {p n : Int} (hp : 0 < p ∧ p ≤ 256) (hn : -4611686018427387904 ≤ n ∧ n < 4611686018427387904) : impl_prime_reduce p n = some (n % p) := by
  unfold impl_prime_reduce
  have h1 := Int.lt_tmod_of_pos n hp.1
  have h2 := Int.tmod_lt_of_pos n hp.1
  rw [ifp_pos (by omega), ifp_pos (by omega), wrap64 (by omega) (by omega), tmod_fix hp.1]

theorem combine_is {p k : Int} {a b : List Int} (hp : 0 < p ∧ p ≤ 256) (ha : Ent a) (hb : Ent b) (la : a.length ≤ 1000000) (lb : b.length ≤ 1000000) (hk : -1099511627776 ≤ k ∧ k ≤ 1099511627776) :
    impl_prime_combine p a b k = some (comb p a b k) := by
  obtain ⟨n, hn⟩ : ∃ n : Nat, n = max a.length b.length := ⟨_, rfl⟩
  have e : (if (b.length : Int) > (a.length : Int) then (b.length : Int) else (a.length : Int)) = (n : Int) := by split <;> omega
  obtain ⟨s, h1, h2, h3⟩ := loopM_for (body := fun s : Int × List Int => impl_prime_combine_l1 (n : Int) a b p k s.1 s.2) (fun i s => ((i : Int), s)) (fun s => s) n
    (fun i s => s.length = n ∧ ∀ j, rd s j = if j < i then (rd a j + k * rd b j) % p else 0) (fun i s hi hI => by
      obtain ⟨hl, hr⟩ := hI
      have h1 := ha i
      have h2 := mulk (hb i) hk
      refine ⟨s.set i ((rd a i + k * rd b i) % p), ?_, by simpa using hl, fun j => ?_⟩
      · simp only [impl_prime_combine_l1, letp, Int.toNat_natCast, List.length_replicate]
        rw [if_pos (by simp; omega), at_is, at_is]
        simp only [Option.bind_some]
        rw [wrap64 (n := k * rd b i) (by omega) (by omega), wrap64 (n := rd a i + k * rd b i) (by omega) (by omega), reduce_is hp (by omega)]
        simp only [Option.bind_some]
        rw [ifp_pos (by omega), wrap64 (by omega) (by omega)]
        rfl
      · rw [rd_set _ _ _ _ (by omega), hr j]
        by_cases h : j = i
        · subst h; simp
        · rw [if_neg h]
          simp only [show (j < i + 1) = (j < i) from by rw [eq_iff_iff]; omega]) (fun s hI => by
      simp only [impl_prime_combine_l1, letp, Int.toNat_natCast, List.length_replicate]
      rw [if_neg (by simp)]) n 0 (List.replicate n 0) (by omega) ⟨by simp, fun j => by rw [rd_rep, if_neg (by omega)]⟩
  have hs : s.take (top (rd s) s.length) = comb p a b k := by
    rw [trim_eq, h2, comb, ← hn]
    exact ofF_congr fun i hi => by rw [h3 i, if_pos hi]
  simp only [impl_prime_combine, letp, e]
  rw [ifp_pos (by omega)]
  simp only [Int.toNat_natCast]
  have h1' : loopM (fun s : Int × List Int => impl_prime_combine_l1 (n : Int) a b p k s.1 s.2) (0, List.replicate n 0) = some s := h1
  rw [h1']
  simp only [Option.bind_some]
  rw [trimmed_is (by omega), hs]
  rfl
end Go.Proofs.Ytkbnegemdlnncaa
/- Sums, in the reference. -/
namespace Go.Proofs.Ytkbnegemdlnncaa
open Go.Abs

theorem add_is {p k : Int} {a b : V64} (hp : 0 < p ∧ p ≤ 256) (ha : V64.Ent a) (hb : V64.Ent b) (hk : -1099511627776 ≤ k ∧ k ≤ 1099511627776) :
    ∃ v, spec_l01Add p a b k = some v ∧ ∀ j, j < 64 → rd v.1 j = (rd a.1 j + k * rd b.1 j) % p := by
  obtain ⟨s, h1, h2⟩ := loopM_for (body := fun s : Int × V64 => spec_l01Add_l1 k b p s.1 s.2) (fun i s => ((i : Int), s)) (fun s => s) 64
    (fun i s => ∀ j, j < 64 → rd s.1 j = if j < i then (rd a.1 j + k * rd b.1 j) % p else rd a.1 j) (fun i s hi hI => by
      have hs := hI i hi
      rw [if_neg (by omega)] at hs
      have h1 := ha i hi
      have h0 := hb i hi
      have h2 := mulk (hb i hi) hk
      have h3 := Int.lt_tmod_of_pos (rd a.1 i + k * rd b.1 i) hp.1
      have h4 := Int.tmod_lt_of_pos (rd a.1 i + k * rd b.1 i) hp.1
      have h5 := emod_res hp.1 (rd a.1 i + k * rd b.1 i)
      refine ⟨vset s i ((rd a.1 i + k * rd b.1 i) % p), ?_, fun j hj => ?_⟩
      · simp only [spec_l01Add_l1, letp, Int.toNat_natCast, hs]
        rw [if_pos (by simp; omega), ifp_pos (by omega), ifp_pos (by omega), ifp_pos (by omega), ifp_pos (by omega), ifp_pos (by omega)]
        rw [wrap64 (n := rd b.1 i) (by omega) (by omega), wrap64 (n := rd a.1 i) (by omega) (by omega), wrap64 (n := k * rd b.1 i) (by omega) (by omega), wrap64 (n := rd a.1 i + k * rd b.1 i) (by omega) (by omega), wrap64 (n := _ + p) (by omega) (by omega), tmod_fix hp.1, wrap8 (by omega) (by omega), wrap64 (by omega) (by omega)]
        rfl
      · rw [rd_vset _ _ _ _ hi, hI j hj]
        by_cases h : j = i
        · subst h; simp
        · rw [if_neg h]
          simp only [show (j < i + 1) = (j < i) from by rw [eq_iff_iff]; omega]) (fun s hI => by
      simp only [spec_l01Add_l1, letp]
      rw [if_neg (by simp)]) 64 0 a (by omega) (fun j hj => by rw [if_neg (by omega)])
  refine ⟨s, ?_, fun j hj => by rw [h2 j hj, if_pos hj]⟩
  have h1' : loopM (fun s : Int × V64 => spec_l01Add_l1 k b p s.1 s.2) (0, a) = some s := h1
  simp only [spec_l01Add, h1', Option.bind_some]

theorem add_pad {p k : Int} {a b : List Int} (hp : 0 < p ∧ p ≤ 256) (ha : Row p a) (hb : Row p b) (la : a.length ≤ 64) (lb : b.length ≤ 64) (hk : -1099511627776 ≤ k ∧ k ≤ 1099511627776) :
    spec_l01Add p (pad a) (pad b) k = some (pad (comb p a b k)) := by
  obtain ⟨v, h1, h2⟩ := add_is hp (ent_pad ha hp) (ent_pad hb hp) hk
  rw [h1]
  congr 1
  exact vec_ext fun j hj => by rw [h2 j hj, rd_padl _ hj, rd_padl _ hj, rd_padl _ hj, comb_rd]
end Go.Proofs.Ytkbnegemdlnncaa
/- Few monic polynomials: the codes of sums. -/
namespace Go.Proofs.Ytkbnegemdlnncaa
open Go.Abs

theorem code8_loop {l : List Int} (hl : l.length ≤ 1000000) : ∀ s : Int, (∃ i : Nat, s = i ∧ i ≤ l.length ∧ ∀ j, j < i → 0 ≤ rd l j ∧ rd l j ≤ 40) → ∃ r, loopM (fun s : Int => spec_l08Code_l1 l s) s = some r ∧ ((r = .inl () ∧ ∀ k ∈ l, 0 ≤ k ∧ k ≤ 40) ∨ (r = .inr 2 ∧ ¬ ∀ k ∈ l, 0 ≤ k ∧ k ≤ 40)) := by
  refine loopM_ind (fun (s : Int) => ∃ i : Nat, s = i ∧ i ≤ l.length ∧ ∀ j, j < i → 0 ≤ rd l j ∧ rd l j ≤ 40) (fun (s : Int) (r : Unit ⊕ Int) => (r = .inl () ∧ ∀ k ∈ l, 0 ≤ k ∧ k ≤ 40) ∨ (r = .inr 2 ∧ ¬ ∀ k ∈ l, 0 ≤ k ∧ k ≤ 40)) (fun s => l.length - s.toNat) ?_
  rintro s ⟨i, rfl, hi, hlt⟩
  by_cases h : i = l.length
  · right
    subst h
    refine ⟨.inl (), by simp [spec_l08Code_l1], .inl ⟨rfl, fun k hk => ?_⟩⟩
    obtain ⟨j, hj, rfl⟩ := List.getElem_of_mem hk
    rw [← rd_lt hj]; exact hlt j hj
  · have hil : i < l.length := by omega
    by_cases e : 0 ≤ rd l i ∧ rd l i ≤ 40
    · left
      refine ⟨((i + 1 : Nat) : Int), ?_, ⟨i + 1, rfl, by omega, fun j hj => ?_⟩, by simp; omega, fun r hr => hr⟩
      · simp only [spec_l08Code_l1, spec_l01In]
        rw [if_pos (decide_eq_true (by omega)), ifp_pos (by omega)]
        simp only [Int.toNat_natCast, ge_iff_le, e.1, e.2, decide_true, Option.bind_some, if_true, Bool.not_true, Bool.false_eq_true, if_false]
        rw [wrap64 (by omega) (by omega)]; rfl
      · by_cases hj' : j = i
        · rw [hj']; exact e
        · exact hlt j (by omega)
    · right
      refine ⟨.inr 2, ?_, .inr ⟨rfl, fun hs => e ?_⟩⟩
      · simp only [spec_l08Code_l1, spec_l01In]
        rw [if_pos (decide_eq_true (by omega)), ifp_pos (by omega)]
        by_cases h1 : 0 ≤ rd l i
        · have h2 : ¬ rd l i ≤ 40 := fun h2 => e ⟨h1, h2⟩
          simp [h1, h2]
        · simp [h1]
      · exact hs _ (rd_mem hil)
/-- Are there few enough monic polynomials of degree d? -/
def fewMonic (p d : Nat) : Bool := decide (d ≤ 8 ∧ p ^ d ≤ 343)
theorem code8_is {p : Int} {l : List Int} (hl : l.length ≤ 1000000) (d : Int) :
    spec_l08Code p d l = some (if isP p then (if 0 ≤ d ∧ fewMonic p.toNat d.toNat = true then (if ∀ k ∈ l, 0 ≤ k ∧ k ≤ 40 then 0 else 2) else 2) else 1) := by
  unfold spec_l08Code spec_l01In
  rw [isPrime_spec]
  simp only [Option.bind_some]
  cases hp : isP p with
  | false => simp
  | true =>
    have hp2 := isP_pos hp
    obtain ⟨q, rfl⟩ : ∃ q : Nat, p = q := ⟨p.toNat, by omega⟩
    simp only [Bool.not_true, Bool.false_eq_true, if_false, if_true]
    by_cases h1 : 0 ≤ d
    · obtain ⟨n, rfl⟩ : ∃ n : Nat, d = n := ⟨d.toNat, by omega⟩
      by_cases h2 : n ≤ 8
      · obtain ⟨c, h3, h4⟩ := count_is (p := q) (n := n) (by omega) (by omega)
        simp only [h3, Option.bind_some, ge_iff_le, h1, decide_true, if_true, show (decide ((n : Int) ≤ 8)) = true from decide_eq_true (by omega), Bool.not_true, Bool.false_eq_true, if_false]
        by_cases h5 : q ^ n ≤ 343
        · have hc : (decide ((c : Int) > 343)) = false := decide_eq_false (by omega)
          have hf : fewMonic ((q : Int).toNat) ((n : Int).toNat) = true := by simp [fewMonic, h2, h5]
          rw [hc, hf]
          obtain ⟨r, h6, h7⟩ := code8_loop hl 0 ⟨0, rfl, by omega, fun j hj => by omega⟩
          simp only [Bool.false_eq_true, if_false, h6, Option.bind_some, h1, true_and, if_true]
          rcases h7 with ⟨rfl, h⟩ | ⟨rfl, h⟩
          · rw [if_pos h]
          · rw [if_neg h]
        · have hc : (decide ((c : Int) > 343)) = true := decide_eq_true (by omega)
          have hf : fewMonic ((q : Int).toNat) ((n : Int).toNat) = false := by simp [fewMonic, h5]
          rw [hc, hf]
          simp
      · have hf : fewMonic ((q : Int).toNat) ((n : Int).toNat) = false := by simp [fewMonic, h2]
        rw [hf]
        simp [h1, show ¬ ((n : Int) ≤ 8) by omega]
    · simp [h1]
theorem isSummed_is {p d : Nat} (hp : 2 ≤ p ∧ p ≤ 7) (hd : d ≤ 1000000) : impl_prime_isSummed p d = some (decide (p ^ d ≤ 343)) := by
  obtain ⟨c, h1, h2, _⟩ := norm_is (n := d) (most := 343) hp hd (by omega)
  have h1' : impl_prime_norm p d 343 = some (c : Int) := h1
  simp only [impl_prime_isSummed, h1', Option.bind_some]
  congr 1
  rw [Bool.eq_iff_iff]; simp only [decide_eq_true_eq]; omega
theorem isSumDegree_is {p : Nat} (hp : 2 ≤ p ∧ p ≤ 7) (d : Int) : impl_prime_isSumDegree p d = some (decide (0 ≤ d) && fewMonic p d.toNat) := by
  unfold impl_prime_isSumDegree impl_within
  by_cases h1 : 0 ≤ d
  · obtain ⟨n, rfl⟩ : ∃ n : Nat, d = n := ⟨d.toNat, by omega⟩
    by_cases h2 : n ≤ 8
    · have h2' : (n : Int) ≤ 8 := by omega
      simp [h1, h2', isSummed_is hp (show n ≤ 1000000 by omega), fewMonic, h2]
    · have h2' : ¬ (n : Int) ≤ 8 := by omega
      simp [h1, h2', fewMonic, h2]
  · simp [h1]
end Go.Proofs.Ytkbnegemdlnncaa
/- Monic polynomials and power sums. -/
namespace Go.Proofs.Ytkbnegemdlnncaa
open Go.Abs

/-- Sums of the powers of monic polynomials. -/
def psum (p d k : Nat) : Nat → List Int
  | 0 => []
  | i + 1 => comb p (psum p d k i) (pow p (digs p (p ^ d + i)) k) 1
theorem psum_row {p : Nat} (hp : 2 ≤ p) (d k : Nat) : ∀ i, Row p (psum p d k i)
  | 0 => row_nil _
  | i + 1 => comb_row (by omega) _ _ _
theorem psum_len {p d k : Nat} (hp : 2 ≤ p) (hk : k * d ≤ 63) : ∀ i, i ≤ p ^ d → (psum p d k i).length ≤ 64
  | 0, _ => by simp [psum]
  | i + 1, h => by
    have h1 := psum_len (p := p) (d := d) (k := k) hp hk i (by omega)
    have h2 := comb_len p (psum p d k i) (pow p (digs p (p ^ d + i)) k) 1
    have h3 := pow_len p (digs p (p ^ d + i)) k
    rw [digs_monic_len hp (show i < p ^ d by omega)] at h3
    simp only [Nat.add_sub_cancel] at h3
    simp only [psum]
    omega
theorem powerSum_is {p d k : Nat} (hp : 2 ≤ p ∧ p ≤ 7) (hd : d ≤ 8) (hm : p ^ d ≤ 343) (hk : k ≤ 400) (hdk : k * d ≤ 63) : impl_prime_powerSum p d k = some (psum p d k (p ^ d)) := by
  simp only [impl_prime_powerSum, monics_is hp (show d ≤ 1000000 by omega) hm, Option.bind_some]
  have hml : (monicL p d (p ^ d)).length = p ^ d := by simp [monicL]
  have hp' : 2 ≤ (p : Int) ∧ (p : Int) ≤ 7 := by omega
  obtain ⟨s, g1, g2⟩ := loopM_for (body := fun s : List Int × Int => impl_prime_powerSum_l1 (monicL p d (p ^ d)) p k s.1 s.2) (fun i s => (s, (i : Int))) (fun s => s) (p ^ d)
    (fun i s => s = psum p d k i) (fun i s hi hI => by
      subst hI
      refine ⟨_, ?_, rfl⟩
      have hrd : rd (monicL p d (p ^ d)) i = digs p (p ^ d + i) := by simp [rd, monicL, hi]
      have hlen := digs_monic_len hp.1 hi
      have hrow := digs_row hp.1 (p ^ d + i)
      have hpl := pow_len p (digs p (p ^ d + i)) k
      rw [hlen] at hpl
      simp only [Nat.add_sub_cancel] at hpl
      have hps := psum_len (p := p) (d := d) (k := k) hp.1 hdk i (by omega)
      simp only [impl_prime_powerSum_l1, hml]
      rw [if_pos (decide_eq_true (by omega)), ifp_pos (by omega), Int.toNat_natCast, hrd, raised_is hp' hrow (by omega) hk]
      simp only [Option.bind_some]
      rw [combine_is ⟨by omega, by omega⟩ ((psum_row hp.1 d k i).ent ⟨by omega, by omega⟩) ((pow_row hp'.1 _ k).ent ⟨by omega, by omega⟩) (by omega) (by omega) (by omega)]
      simp only [Option.bind_some]
      rw [wrap64 (by omega) (by omega)]
      rfl) (fun s hI => by
      simp only [impl_prime_powerSum_l1, hml]
      rw [if_neg (by rw [decide_eq_true_eq]; omega)]) (p ^ d) 0 [] (by omega) rfl
  have g1' : loopM (fun s : List Int × Int => impl_prime_powerSum_l1 (monicL p d (p ^ d)) p k s.1 s.2) ([], 0) = some s := g1
  rw [g1', g2]
  rfl
theorem sum8_is {p d k : Nat} (hp : 2 ≤ p ∧ p ≤ 7) (hd : d ≤ 8) (hm : p ^ d ≤ 343) (hk : k ≤ 400) (hdk : k * d ≤ 63) : spec_l08Sum p d k = some (pad (psum p d k (p ^ d)), true) := by
  have hp' : 2 ≤ (p : Int) ∧ (p : Int) ≤ 7 := by omega
  obtain ⟨c, h1, h2⟩ := count_is (n := d) hp (by omega)
  have hc : c = p ^ d := by omega
  subst hc
  have e0 : (d : Int) * (k : Int) = ((k * d : Nat) : Int) := by rw [Int.natCast_mul, Int.mul_comm]
  simp only [spec_l08Sum, h1, Option.bind_some]
  rw [e0, wrap64 (by omega) (by omega), if_neg (by rw [decide_eq_true_eq]; omega)]
  generalize hn : p ^ d = n at *
  obtain ⟨s, g1, g2⟩ := loopM_for (body := fun s : Int × V64 => spec_l08Sum_l1 p d k s.1 s.2) (fun i s => (((n + i : Nat) : Int), s)) (fun s => s) n
    (fun i s => s = pad (psum p d k i)) (fun i s hi hI => by
      subst hI
      refine ⟨_, ?_, rfl⟩
      have hlen := digs_monic_len hp.1 (d := d) (i := i) (by omega)
      have hrow := digs_row hp.1 (n + i)
      have hpl := pow_len p (digs p (p ^ d + i)) k
      rw [hlen] at hpl
      rw [hn] at hlen hpl
      simp only [Nat.add_sub_cancel] at hpl
      have hps := psum_len (p := p) (d := d) (k := k) hp.1 hdk i (by omega)
      simp only [spec_l08Sum_l1, h1, Option.bind_some]
      rw [wrap64 (n := 2 * (n : Int)) (by omega) (by omega), if_pos (decide_eq_true (by omega)), of_is hp.1 (by omega) (by omega)]
      simp only [Option.bind_some]
      rw [power_is hp' hrow (by omega) (by rw [hlen]; simpa using hdk) (by omega)]
      simp only [Option.bind_some]
      rw [add_pad ⟨by omega, by omega⟩ (psum_row hp.1 d k i) (pow_row hp'.1 _ k) hps (by omega) (by omega)]
      simp only [Option.bind_some]
      rw [wrap64 (by omega) (by omega)]
      simp only [psum, hn]
      rfl) (fun s hI => by
      simp only [spec_l08Sum_l1, h1, Option.bind_some]
      rw [wrap64 (n := 2 * (n : Int)) (by omega) (by omega), if_neg (by rw [decide_eq_true_eq]; omega)]) n 0 (vrep 64 0) (by omega) (by rw [← pad_nil]; rfl)
  have g1' : loopM (fun s : Int × V64 => spec_l08Sum_l1 p d k s.1 s.2) ((n : Int), vrep 64 0) = some s := g1
  rw [g1', g2]
  rfl
theorem sum8_no {p d k : Nat} (hd : d ≤ 1000) (hk : k ≤ 400) (hdk : 63 < k * d) : spec_l08Sum p d k = some (vrep 64 0, false) := by
  have e0 : (d : Int) * (k : Int) = ((k * d : Nat) : Int) := by rw [Int.natCast_mul, Int.mul_comm]
  have hm : k * d ≤ 400 * 1000 := Nat.mul_le_mul hk hd
  simp only [spec_l08Sum]
  rw [e0, wrap64 (by omega) (by omega), if_pos (decide_eq_true (by omega))]
end Go.Proofs.Ytkbnegemdlnncaa
/- Sums of power sums. -/
namespace Go.Proofs.Ytkbnegemdlnncaa
open Go.Abs

def zs (p k : Nat) : Nat → List Int
  | 0 => []
  | n + 1 => comb p (zs p k n) (psum p n k (p ^ n)) 1
theorem zs_row {p : Nat} (hp : 2 ≤ p) (k : Nat) : ∀ n, Row p (zs p k n)
  | 0 => row_nil _
  | n + 1 => comb_row (by omega) _ _ _
theorem mono_le {k n d : Nat} (h : n = 0 ∨ k * (n - 1) ≤ 63) (hd : d < n) : k * d ≤ 63 := by
  rcases h with rfl | h
  · omega
  · exact Nat.le_trans (Nat.mul_le_mul_left k (by omega)) h
theorem zs_len {p k : Nat} (hp : 2 ≤ p) : ∀ n, (n = 0 ∨ k * (n - 1) ≤ 63) → (zs p k n).length ≤ 64
  | 0, _ => by simp [zs]
  | n + 1, h => by
    have h1 := zs_len (p := p) (k := k) hp n (by
      rcases n with _ | n
      · exact .inl rfl
      · exact .inr (mono_le h (by omega)))
    have h2 := psum_len (p := p) (d := n) (k := k) hp (mono_le h (by omega)) (p ^ n) (Nat.le_refl _)
    have h3 := comb_len p (zs p k n) (psum p n k (p ^ n)) 1
    simp only [zs]
    omega
theorem pow_few {p n d : Nat} (hp : 2 ≤ p) (h : n = 0 ∨ p ^ (n - 1) ≤ 343) (hd : d < n) : p ^ d ≤ 343 := by
  rcases h with rfl | h
  · omega
  · exact Nat.le_trans (ppow_mono hp (by omega)) h
/-- The program's loop. -/
theorem zloopI {p k n : Nat} (hp : 2 ≤ p ∧ p ≤ 7) (hk : k ≤ 400) (hn : n = 0 ∨ p ^ (n - 1) ≤ 343) (hkn : n = 0 ∨ k * (n - 1) ≤ 63) {body : List Int × Int → Option ((List Int × Int) ⊕ List Int)}
    (hstep : ∀ (d : Nat) (s : List Int), d < n → body (s, (d : Int)) = (Option.bind (impl_prime_powerSum p d k) fun r58 => (Option.bind (impl_prime_combine p s r58 1) fun r60 => (some (.inl ((r60, IntKind.i64.wrap ((d : Int) + 1)))))))) (hstop : ∀ s, body (s, (n : Int)) = some (.inr s)) :
    loopM body ([], 0) = some (zs p k n) := by
  obtain ⟨s, h1, h2⟩ := loopM_for (body := body) (fun i s => (s, (i : Int))) (fun s => s) n (fun i s => s = zs p k i) (fun i s hi hI => by
    subst hI
    have hd := pow_few hp.1 hn hi
    have hd8 : i ≤ 8 := by
      rcases Nat.lt_or_ge 8 i with h | h
      · have h2 : p ^ 9 ≤ p ^ i := Nat.pow_le_pow_right (by omega) h
        have h3 : 2 ^ 9 ≤ p ^ 9 := Nat.pow_le_pow_left hp.1 9
        have h4 : (2 : Nat) ^ 9 = 512 := by decide
        omega
      · exact h
    have hdk := mono_le hkn hi
    have hps := psum_len (p := p) (d := i) (k := k) hp.1 hdk (p ^ i) (Nat.le_refl _)
    have hzl := zs_len (p := p) (k := k) hp.1 i (by
      rcases i with _ | i
      · exact .inl rfl
      · exact .inr (mono_le hkn (by omega)))
    refine ⟨_, ?_, rfl⟩
    rw [hstep i _ hi, powerSum_is hp hd8 hd hk hdk]
    simp only [Option.bind_some]
    rw [combine_is ⟨by omega, by omega⟩ ((zs_row hp.1 k i).ent ⟨by omega, by omega⟩) ((psum_row hp.1 i k _).ent ⟨by omega, by omega⟩) (by omega) (by omega) (by omega)]
    simp only [Option.bind_some]
    rw [wrap64 (by omega) (by omega)]
    rfl) (fun s hI => hstop s) n 0 [] (by omega) rfl
  have h1' : loopM body ([], 0) = some s := h1
  rw [h1', h2]
/-- The reference's loop. -/
theorem zloopS {p k n : Nat} (hp : 2 ≤ p ∧ p ≤ 7) (hk : k ≤ 400) (hn : n = 0 ∨ p ^ (n - 1) ≤ 343) {β : Type} {fail : β} {body : Int × V64 → Option ((Int × V64) ⊕ (V64 ⊕ β))}
    (hstep : ∀ (d : Nat) (s : V64), d < n → body ((d : Int), s) = (Option.bind (spec_l08Sum p d k) fun r98 => (if (!r98.2) then (some (.inr (.inr fail))) else (Option.bind (spec_l01Add p s r98.1 1) fun r104 => (some (.inl ((IntKind.i64.wrap ((d : Int) + 1), r104))))))) ) (hstop : ∀ s, body ((n : Int), s) = some (.inr (.inl s))) :
    loopM body (0, vrep 64 0) = some (if n = 0 ∨ k * (n - 1) ≤ 63 then .inl (pad (zs p k n)) else .inr fail) := by
  have key : ∀ (m d : Nat), d + m = n → (d = 0 ∨ k * (d - 1) ≤ 63) → loopM body ((d : Int), pad (zs p k d)) = some (if n = 0 ∨ k * (n - 1) ≤ 63 then .inl (pad (zs p k n)) else .inr fail) := by
    intro m
    induction m with
    | zero =>
      intro d hd hkd
      have : d = n := by omega
      subst this
      rw [loopM_eq, hstop, if_pos hkd]; rfl
    | succ m ih =>
      intro d hd hkd
      have hd3 := pow_few hp.1 hn (show d < n by omega)
      have hd8 : d ≤ 8 := by
        rcases Nat.lt_or_ge 8 d with h | h
        · have h2 : p ^ 9 ≤ p ^ d := Nat.pow_le_pow_right (by omega) h
          have h3 : 2 ^ 9 ≤ p ^ 9 := Nat.pow_le_pow_left hp.1 9
          have h4 : (2 : Nat) ^ 9 = 512 := by decide
          omega
        · exact h
      rw [loopM_eq, hstep d _ (by omega)]
      by_cases h : k * d ≤ 63
      · have hps := psum_len (p := p) (d := d) (k := k) hp.1 h (p ^ d) (Nat.le_refl _)
        have hzl := zs_len (p := p) (k := k) hp.1 d hkd
        rw [sum8_is hp hd8 hd3 hk h]
        simp only [Option.bind_some, Bool.not_true, Bool.false_eq_true, if_false]
        rw [add_pad ⟨by omega, by omega⟩ (zs_row hp.1 k d) (psum_row hp.1 d k _) hzl hps (by omega)]
        simp only [Option.bind_some]
        rw [wrap64 (by omega) (by omega)]
        exact ih (d + 1) (by omega) (.inr (by simpa using h))
      · rw [sum8_no (by omega) hk (by omega)]
        simp only [Option.bind_some, Bool.not_false, if_true]
        rw [if_neg]
        rintro (h2 | h2)
        · omega
        · exact h (mono_le (.inr h2) (by omega))
  have := key n 0 (by omega) (.inl rfl)
  simp only [zs, pad_nil] at this
  exact this
end Go.Proofs.Ytkbnegemdlnncaa
/- Power sums vanish when the digits are few, sums of all of them at multiples of p - 1 do, and powers of p go along. -/
namespace Go.Proofs.Ytkbnegemdlnncaa
open Go.Abs
variable {P : Pri}
theorem pow_is_pw (a : PP P) : ∀ k, pow P.p a.1 k = (pw a k).1
  | 0 => rfl
  | k + 1 => by
    show mul P.p (pow P.p a.1 k) a.1 = _
    rw [pow_is_pw a k]; rfl
def SS (P : Pri) (d k : Nat) : PP P := sm (fun j => pw (dg (P.n ^ d + j)) k) (P.n ^ d)
theorem psum_sm (d k : Nat) : ∀ i, psum P.n d k i = (sm (fun j => pw (dg (P.n ^ d + j)) k) i : PP P).1
  | 0 => rfl
  | i + 1 => by
    show comb P.p (psum P.n d k i) (pow P.p (dg (P.n ^ d + i) : PP P).1 k) 1 = _
    rw [psum_sm d k i, pow_is_pw]; rfl
theorem psum_S (d k : Nat) : psum P.n d k (P.n ^ d) = (SS P d k).1 := psum_sm d k _
theorem kap_one : (kap 1 : PP P) = 1 := ppring.zero_add 1
theorem dg_monic {d j : Nat} (h : j < P.n ^ d) : (dg (P.n ^ d + j) : PP P) = pw ppT d + 1 * dg j := by
  have h1 := dg_top (P := P) (a := 1) (by have := P.is; omega) d j h
  rw [Nat.one_mul, kap_one, ppring.one_mul] at h1
  rw [h1, ppring.one_mul]
theorem S_van {d k : Nat} (h : (digs P.n k).sum < ((d * (P.n - 1) : Nat) : Int)) : SS P d k = 0 := by
  obtain ⟨es, h1, h2⟩ := pw_es (K := PP P) ppring (p := P.n) (by have := P.is; omega) k
  have h3 := van d (pw ppT d) (1 : PP P) es (by omega)
  refine Eq.trans (sm_congr _ fun j hj => ?_) h3
  rw [dg_monic hj, h2]
theorem sm_frob (f : Nat → PP P) : ∀ n, pw (sm f n) P.n = sm (fun i => pw (f i) P.n) n
  | 0 => ppring.pw_zero (by have := P.is; omega)
  | n + 1 => by
    show pw (sm f n + f n) P.n = _
    rw [ppring.frob P.is pp_char, sm_frob f n]; rfl
theorem S_frob (d k : Nat) : SS P d (P.n * k) = pw (SS P d k) P.n := by
  unfold SS
  rw [sm_frob]
  exact sm_congr _ fun j _ => by rw [Nat.mul_comm, ppring.pw_mul]
def ZZ (P : Pri) (k : Nat) : Nat → PP P
  | 0 => 0
  | n + 1 => ZZ P k n + SS P n k
theorem zs_Z (k : Nat) : ∀ n, zs P.n k n = (ZZ P k n).1
  | 0 => rfl
  | n + 1 => by
    show comb P.p (zs P.n k n) (psum P.n n k (P.n ^ n)) 1 = _
    rw [zs_Z k n, psum_S]; rfl
theorem kap_unit {k a : Nat} (hk : k % (P.n - 1) = 0) (h1 : 1 ≤ a) (h2 : a < P.n) : pw (kap a : PP P) k = 1 := by
  have e : pw (kap a : PP P) (P.n - 1) = 1 := by
    rw [kap_pw ppring]
    have : a ^ (P.n - 1) % P.n = 1 := by
      have q2 : ∀ a, a < 2 → 1 ≤ a → a ^ 1 % 2 = 1 := by decide
      have q3 : ∀ a, a < 3 → 1 ≤ a → a ^ 2 % 3 = 1 := by decide
      have q5 : ∀ a, a < 5 → 1 ≤ a → a ^ 4 % 5 = 1 := by decide
      have q7 : ∀ a, a < 7 → 1 ≤ a → a ^ 6 % 7 = 1 := by decide
      rcases P.is with e | e | e | e
      · rw [e] at h2 ⊢; exact q2 a h2 h1
      · rw [e] at h2 ⊢; exact q3 a h2 h1
      · rw [e] at h2 ⊢; exact q5 a h2 h1
      · rw [e] at h2 ⊢; exact q7 a h2 h1
    rw [kap, nsm_mod ppring pp_char, this]
    exact kap_one
  have e2 : k = (P.n - 1) * (k / (P.n - 1)) := by have := Nat.div_add_mod k (P.n - 1); omega
  rw [e2, ppring.pw_mul, e, ppring.pw_one]
theorem Z_all {k : Nat} (hk : k % (P.n - 1) = 0) (h0 : 0 < k) : ∀ n, sm (fun i => pw (dg i : PP P) k) (P.n ^ n) + ZZ P k n = 0
  | 0 => by
    show (0 + pw (dg 0) k) + 0 = (0 : PP P)
    rw [dg_zero, ppring.pw_zero (by omega), ppring.add_zero, ppring.add_zero]
  | n + 1 => by
    have ih := Z_all hk h0 n
    have e0 : P.n ^ (n + 1) = P.n ^ n * P.n := Nat.pow_succ ..
    have e1 : P.n = 1 + (P.n - 1) := by have := P.is; omega
    have hg : ∀ a, 1 ≤ a → a < P.n → sm (fun r => pw (dg (P.n ^ n * a + r) : PP P) k) (P.n ^ n) = SS P n k := fun a h1 h2 => by
      have h := scale (fun x => pw x k) h1 h2 n (pw ppT n) 1
      refine Eq.trans (sm_congr _ fun r hr => ?_) (h.symm.trans (sm_congr _ fun r hr => ?_))
      · rw [Nat.mul_comm (P.n ^ n), dg_top h2 n r hr, ppring.one_mul]
      · rw [dg_monic hr, ppring.mul_pw, kap_unit hk h1 h2, ppring.one_mul]
    have hsum : sm (fun i => pw (dg i : PP P) k) (P.n ^ (n + 1)) = sm (fun i => pw (dg i : PP P) k) (P.n ^ n) + nsm (P.n - 1) (SS P n k) := by
      rw [e0, sm_lo ppring]
      generalize hG : (fun j => sm (fun c => pw (dg (P.n ^ n * j + c) : PP P) k) (P.n ^ n)) = G
      have hG' : ∀ a, G a = sm (fun c => pw (dg (P.n ^ n * a + c) : PP P) k) (P.n ^ n) := fun a => by rw [← hG]
      have e2 : sm G P.n = sm G (1 + (P.n - 1)) := congrArg _ e1
      rw [e2, sm_app ppring]
      congr 1
      · show 0 + G 0 = _
        rw [ppring.zero_add, hG']
        exact sm_congr _ fun r _ => by rw [Nat.mul_zero, Nat.zero_add]
      · rw [← sm_one]
        exact sm_congr _ fun c hc => by rw [hG']; exact hg (1 + c) (by omega) (by omega)
    have hchar : nsm (P.n - 1) (SS P n k) + SS P n k = 0 := by
      have h := pp_char (SS P n k)
      have e3 : P.n = (P.n - 1) + 1 := by omega
      rw [e3] at h; exact h
    show _ + (ZZ P k n + SS P n k) = 0
    rw [hsum, ppring.add_assoc, ppring.add_left_comm (nsm (P.n - 1) (SS P n k)), hchar, ppring.add_zero]
    exact ih
theorem Z_van {n k : Nat} (hk : k % (P.n - 1) = 0) (h0 : 0 < k) (h : (digs P.n k).sum < ((n * (P.n - 1) : Nat) : Int)) : ZZ P k n = 0 := by
  have h1 := Z_all (P := P) hk h0 n
  obtain ⟨es, h2, h3⟩ := pw_es (K := PP P) ppring (p := P.n) (by have := P.is; omega) k
  have h4 := van n (0 : PP P) 1 es (by omega)
  have h5 : sm (fun i => pw (dg i : PP P) k) (P.n ^ n) = 0 := by
    refine Eq.trans (sm_congr _ fun j hj => ?_) h4
    rw [ppring.one_mul, ppring.zero_add, h3]
  rw [h5, ppring.zero_add] at h1
  exact h1
end Go.Proofs.Ytkbnegemdlnncaa
/- Inverses modulo p, in the program. -/
namespace Go.Proofs.Ytkbnegemdlnncaa
open Go.Abs

theorem inverse_impl {p x : Int} (hp : isP p = true) (hx : 0 < x ∧ x < p) : impl_prime_inverse p x = some (inv p x) := by
  have hp2 := isP_pos hp
  obtain ⟨n, hn⟩ : ∃ n : Nat, p - 2 = n := ⟨(p - 2).toNat, by omega⟩
  have ew : IntKind.i64.wrap (p - 2) = (n : Int) := by rw [wrap64 (by omega) (by omega), hn]
  obtain ⟨c, h1, h2⟩ := loopM_for (body := fun s : Int × Int => impl_prime_inverse_l1 p x s.1 s.2) (fun i c => (c, (i : Int))) (fun c => c) n
    (fun i c => c = x ^ i % p) (fun i c hi hI => by
      subst hI
      have h3 := emod_res (show 0 < p by omega) (x ^ i)
      have h4 := mul_small (x := x ^ i % p) (y := x) (by omega) (by omega)
      refine ⟨x ^ (i + 1) % p, ?_, rfl⟩
      simp only [impl_prime_inverse_l1]
      rw [ew, if_pos (decide_eq_true (by omega)), ifp_pos (by omega), wrap64 (n := x ^ i % p * x) (by omega) (by omega), Int.tmod_eq_emod_of_nonneg h4.1, wrap64 (by omega) (by omega)]
      have : x ^ i % p * x % p = x ^ (i + 1) % p := by rw [Int.pow_succ, Int.mul_emod (x ^ i % p), Int.emod_emod, ← Int.mul_emod]
      rw [this]; rfl) (fun c hI => by
      simp only [impl_prime_inverse_l1]
      rw [ew, if_neg (by rw [decide_eq_true_eq]; omega)]) n 0 1 (by omega) (by rw [Int.pow_zero, Int.emod_eq_of_lt (by omega) (by omega)])
  have h1' : loopM (fun s : Int × Int => impl_prime_inverse_l1 p x s.1 s.2) (1, 0) = some c := h1
  simp only [impl_prime_inverse, h1', Option.bind_some]
  rw [h2, ← inv_pow hp hx, hn, Int.toNat_natCast]
end Go.Proofs.Ytkbnegemdlnncaa
/- Division, in the program. -/
namespace Go.Proofs.Ytkbnegemdlnncaa
open Go.Abs

theorem clone_is {a : List Int} (ha : a.length ≤ 1000000) : slices_Clone_impl_row_int64_fresh a = some a := by
  unfold slices_Clone_impl_row_int64_fresh
  rw [ifc_pos, ifp_pos]
  · simp
  · simp; omega
  · intro h
    subst h
    rw [ifp_pos (by simp)]
    simp
theorem divI_inner {p f : Int} (hp : 2 ≤ p ∧ p ≤ 7) {b : List Int} (hb : Row p b) (hf : 0 ≤ f ∧ f < p) {i : Nat} {s t : List Int} (hi : i + b.length ≤ s.length) (hl : s.length ≤ 1000000) (hs : ∀ j, 0 ≤ rd s j ∧ rd s j < p) {s0 : List Int} {x r9 : Int} (hx : Int.tmod (IntKind.i64.wrap (rd s0 x.toNat * r9)) p = f) :
    ∃ s', loopM (fun q : Int × List Int => impl_prime_divide_l2 b (i : Int) s0 x r9 p t q.1 q.2) (0, s) = some (s', t.set i f) ∧ s'.length = s.length ∧ ∀ j, rd s' j = dstep p (rd b) (b.length - 1) f i (rd s) j := by
  obtain ⟨s', h1, h2, h3⟩ := loopM_for (body := fun q : Int × List Int => impl_prime_divide_l2 b (i : Int) s0 x r9 p t q.1 q.2) (fun k u => ((k : Int), u)) (fun u => (u, t.set i f)) b.length
    (fun k u => u.length = s.length ∧ ∀ j, rd u j = if i ≤ j ∧ j < i + k then (rd s j - f * rd b (j - i)) % p else rd s j) (fun k u hk hI => by
      obtain ⟨hul, hu⟩ := hI
      have hbk := hb.rd (show 0 < p by omega) k
      have hsk := hs (i + k)
      have hm := mul_small (x := f) (y := rd b k) (by omega) (by omega)
      have e1 : IntKind.i64.wrap ((i : Int) + (k : Int)) = ((i + k : Nat) : Int) := by rw [wrap64 (by omega) (by omega)]; omega
      have huk := hu (i + k)
      rw [if_neg (by omega)] at huk
      refine ⟨u.set (i + k) ((rd s (i + k) - f * rd b k) % p), ?_, by simpa using hul, fun j => ?_⟩
      · simp only [impl_prime_divide_l2, letp, hx]
        rw [if_pos (decide_eq_true (by omega)), ifp_pos (by omega), e1, ifp_pos (by omega), Int.toNat_natCast, Int.toNat_natCast, huk, wrap64 (n := f * rd b k) (by omega) (by omega), wrap64 (n := rd s (i + k) - f * rd b k) (by omega) (by omega), reduce_is (by omega) (by omega)]
        simp only [Option.bind_some]
        rw [ifp_pos (by omega), wrap64 (by omega) (by omega)]
        rfl
      · rw [rd_set _ _ _ _ (by omega), hu j]
        by_cases e : j = i + k
        · subst e
          rw [if_pos rfl, if_pos (by omega), show i + k - i = k by omega]
        · rw [if_neg e]
          by_cases hc : i ≤ j ∧ j < i + k
          · rw [if_pos hc, if_pos (by omega)]
          · rw [if_neg hc, if_neg (by omega)]) (fun u hI => by
      simp only [impl_prime_divide_l2, hx]
      rw [if_neg (by rw [decide_eq_true_eq]; omega), Int.toNat_natCast]) b.length 0 s (by omega) ⟨rfl, fun j => by rw [if_neg (by omega)]⟩
  refine ⟨s', h1, h2, fun j => ?_⟩
  rw [h3 j]
  unfold dstep
  rcases Nat.eq_zero_or_pos b.length with h0 | h0
  · rw [if_neg (by omega)]
    split
    · have : rd b (j - i) = 0 := rd_ge (by omega)
      have := hs j
      rw [show rd b (j - i) = 0 from rd_ge (by omega), Int.mul_zero, Int.sub_zero, Int.emod_eq_of_lt this.1 this.2]
    · rfl
  · simp only [show (i ≤ j ∧ j < i + b.length) = (i ≤ j ∧ j ≤ i + (b.length - 1)) from by rw [eq_iff_iff]; omega]
theorem divI_outer {p : Int} (hp : isP p = true) {b : List Int} (hb : Row p b) (h0 : b.length ≠ 0) {n : Nat} (hn : n ≤ 500000) : ∀ (i : Nat) (s t : List Int), i + b.length - 1 ≤ s.length → i ≤ n → s.length ≤ 1000000 → t.length = n → (∀ j, 0 ≤ rd s j ∧ rd s j < p) →
    ∃ s' t', loopM (fun q : Int × List Int × List Int => impl_prime_divide_l1 b p (inv p (lead b)) q.1 q.2.1 q.2.2) ((i : Int) - 1, s, t) = some (s', t') ∧ s'.length = s.length ∧ t'.length = n ∧
      (∀ j, rd s' j = drem p (rd b) (b.length - 1) (inv p (lead b)) i (rd s) j) ∧ ∀ j, rd t' j = if j < i then dquo p (rd b) (b.length - 1) (inv p (lead b)) i (rd s) j else rd t j
  | 0, s, t, _, _, _, ht, _ => by
    refine ⟨s, t, ?_, rfl, ht, fun _ => rfl, fun j => by rw [if_neg (by omega)]⟩
    have step : impl_prime_divide_l1 b p (inv p (lead b)) (((0 : Nat) : Int) - 1) s t = some (.inr (s, t)) := by
      simp only [impl_prime_divide_l1]
      rw [if_neg (by rw [decide_eq_true_eq]; omega)]
    rw [loopM_eq]
    simp only [step, Option.bind_some]
  | i + 1, s, t, hi, hin, hsl, ht, hs => by
    have hp2 := isP_pos hp
    have hinv := inv_is hp (lead_pos (show 0 < p by omega) hb h0)
    have hsx := hs (i + (b.length - 1))
    have hm := mul_small (x := rd s (i + (b.length - 1))) (y := inv p (lead b)) (by omega) (by omega)
    have hf := emod_res (show 0 < p by omega) (rd s (i + (b.length - 1)) * inv p (lead b))
    have e0 : ((i + 1 : Nat) : Int) - 1 = (i : Int) := by omega
    have e1 : IntKind.i64.wrap (IntKind.i64.wrap ((i : Int) + (b.length : Int)) - 1) = ((i + (b.length - 1) : Nat) : Int) := by
      rw [wrap64 (n := (i : Int) + (b.length : Int)) (by omega) (by omega), wrap64 (by omega) (by omega)]; omega
    have hx : Int.tmod (IntKind.i64.wrap (rd s (((i + (b.length - 1) : Nat) : Int)).toNat * inv p (lead b))) p = dfac p (inv p (lead b)) (b.length - 1) i (rd s) := by
      rw [Int.toNat_natCast, wrap64 (by omega) (by omega), Int.tmod_eq_emod_of_nonneg hm.1]; rfl
    obtain ⟨s1, g1, g2, g3⟩ := divI_inner hp2 hb (f := dfac p (inv p (lead b)) (b.length - 1) i (rd s)) hf (i := i) (s := s) (t := t) (by omega) hsl hs hx
    have hs1 : rd s1 = dstep p (rd b) (b.length - 1) (dfac p (inv p (lead b)) (b.length - 1) i (rd s)) i (rd s) := funext g3
    obtain ⟨s', t', k1, k2, k3, k4, k5⟩ := divI_outer hp hb h0 hn i s1 (t.set i (dfac p (inv p (lead b)) (b.length - 1) i (rd s))) (by omega) (by omega) (by omega) (by simpa using ht) (fun j => by rw [hs1]; exact dstep_res (by omega) hs _ i j)
    refine ⟨s', t', ?_, by omega, k3, fun j => ?_, fun j => ?_⟩
    · have step : impl_prime_divide_l1 b p (inv p (lead b)) (((i + 1 : Nat) : Int) - 1) s t = some (.inl ((i : Int) - 1, s1, t.set i (dfac p (inv p (lead b)) (b.length - 1) i (rd s)))) := by
        rw [e0]
        simp only [impl_prime_divide_l1, letp, e1]
        rw [if_pos (decide_eq_true (by omega)), ifp_pos (by omega), ifp_pos (by omega), ifp_pos (by omega), g1]
        simp only [Option.bind_some]
        rw [wrap64 (by omega) (by omega)]
      rw [loopM_eq]
      simp only [step, Option.bind_some]
      exact k1
    · rw [k4 j, hs1]; rfl
    · rw [k5 j, hs1]
      simp only [dquo]
      by_cases e : j = i
      · subst e
        rw [if_neg (by omega), if_pos (by omega), if_pos rfl, rd_set _ _ _ _ (by omega), if_pos rfl]
      · by_cases h : j < i
        · rw [if_pos h, if_pos (by omega), if_neg e]
        · rw [if_neg h, if_neg (by omega), rd_set _ _ _ _ (by omega), if_neg e]
theorem lead_is {b : List Int} (h0 : b.length ≠ 0) (hl : b.length ≤ 1000000) : impl_row_lead b = some (lead b) := by
  unfold impl_row_lead
  have e1 : IntKind.i64.wrap ((b.length : Int) - 1) = ((b.length - 1 : Nat) : Int) := by rw [wrap64 (by omega) (by omega)]; omega
  rw [if_neg (by rw [beq_iff_eq]; omega), e1, ifp_pos (by omega), Int.toNat_natCast]; rfl
theorem divideI_is {p : Int} (hp : isP p = true) {a b : List Int} (ha : Row p a) (hb : Row p b) (h0 : b.length ≠ 0) (la : a.length ≤ 500000) (lb : b.length ≤ 500000) : impl_prime_divide p a b = some (quo p a b, rem p a b) := by
  have hp2 := isP_pos hp
  unfold impl_prime_divide
  rw [clone_is (by omega)]
  simp only [Option.bind_some]
  rcases Nat.lt_or_ge a.length b.length with h | h
  · rw [if_pos (decide_eq_true (by omega))]
    have e1 : quo p a b = [] := by
      have := quo_len p a b
      exact List.eq_nil_of_length_eq_zero (by omega)
    have e2 : rem p a b = a := by
      unfold rem
      rw [show a.length + 1 - b.length = 0 by omega]
      exact ha.ofF (Nat.le_refl _)
    rw [e1, e2]
  · rw [if_neg (by rw [decide_eq_true_eq]; omega)]
    obtain ⟨n, hn⟩ : ∃ n : Nat, n = a.length + 1 - b.length := ⟨_, rfl⟩
    have e1 : IntKind.i64.wrap (IntKind.i64.wrap ((a.length : Int) - (b.length : Int)) + 1) = (n : Int) := by
      rw [wrap64 (n := (a.length : Int) - (b.length : Int)) (by omega) (by omega), wrap64 (by omega) (by omega)]; omega
    have hlead := lead_pos (show 0 < p by omega) hb h0
    simp only [letp, e1, lead_is h0 (by omega), inverse_impl hp hlead, Option.bind_some, Int.toNat_natCast, List.length_replicate]
    rw [ifp_pos (by omega), wrap64 (by omega) (by omega)]
    obtain ⟨s', t', k1, k2, k3, k4, k5⟩ := divI_outer hp hb h0 (n := n) (by omega) n a (List.replicate n 0) (by omega) (Nat.le_refl _) (by omega) (by simp) (fun j => ha.rd (by omega) j)
    rw [k1]
    simp only [Option.bind_some]
    rw [trimmed_is (by omega), trimmed_is (by omega)]
    simp only [Option.bind_some]
    rw [trim_eq, trim_eq, k2, k3]
    congr 2
    · rw [quo, ← hn]
      exact ofF_congr fun i hi => by rw [k5 i, if_pos hi]
    · rw [rem, ← hn]
      exact ofF_congr fun i _ => k4 i
end Go.Proofs.Ytkbnegemdlnncaa
/- Rests of powers, in the program. -/
namespace Go.Proofs.Ytkbnegemdlnncaa
open Go.Abs

variable {P : Pri}
theorem Pri.sm (P : Pri) : 0 < P.p ∧ P.p ≤ 256 := by have := P.two; omega
theorem PP.ent (a : PP P) : Ent a.1 := a.2.ent P.sm
theorem ne_len {b : PP P} (hb : b ≠ 0) : b.1.length ≠ 0 := fun h => hb (len_zero.1 h)
theorem pdivI {a b : PP P} (hb : b ≠ 0) (la : a.len ≤ 500000) (lb : b.len ≤ 500000) : impl_prime_divide P.p a.1 b.1 = some ((pquo a b).1, (prem a b).1) := divideI_is P.ok a.2 b.2 (ne_len hb) la lb
theorem restI {a b : PP P} (hb : b ≠ 0) (la : a.len ≤ 500000) (lb : b.len ≤ 500000) : impl_prime_rest P.p a.1 b.1 = some (prem a b).1 := by
  simp only [impl_prime_rest, pdivI hb la lb, Option.bind_some]
theorem timesI {a b : PP P} (la : a.len ≤ 500000) (lb : b.len ≤ 500000) : impl_prime_times P.p a.1 b.1 = some (a * b).1 :=
  times_is (by have := P.two; omega) a.ent b.ent la lb

/-! Rests. -/
theorem prem_len (a : PP P) {m : PP P} (hm : m ≠ 0) : (prem a m).len < m.len := (pdiv a hm).2
theorem prem_of {a m r : PP P} (q : PP P) (hm : m ≠ 0) (h : a = q * m + r) (hr : r.len < m.len) : prem a m = r := (quo_is hm h hr).2
theorem prem_add_mul (a c : PP P) {m : PP P} (hm : m ≠ 0) : prem (a + c * m) m = prem a m := by
  refine prem_of (pquo a m + c) hm ?_ (prem_len a hm)
  have h := (pdiv a hm).1
  rw [ppring.add_mul]
  conv => lhs; rw [h]
  rw [ppring.add_assoc, ppring.add_assoc, ppring.add_comm (prem a m)]
theorem prem_small {a m : PP P} (h : a.len < m.len) : prem a m = a := by
  have hm : m ≠ 0 := fun e => by rw [len_zero.2 e] at h; omega
  exact prem_of 0 hm (by rw [ppring.zero_mul, ppring.zero_add]) h
theorem prem_mul_l (a b : PP P) {m : PP P} (hm : m ≠ 0) : prem (prem a m * b) m = prem (a * b) m := by
  have h := (pdiv a hm).1
  have e : a * b = prem a m * b + (pquo a m * b) * m := by
    conv => lhs; rw [h]
    rw [ppring.add_mul, ppring.add_comm, ppring.mul_assoc, ppring.mul_assoc, ppring.mul_comm m b]
  rw [e, prem_add_mul _ _ hm]
theorem prem_mul_r (a b : PP P) {m : PP P} (hm : m ≠ 0) : prem (a * prem b m) m = prem (a * b) m := by
  rw [ppring.mul_comm, prem_mul_l _ _ hm, ppring.mul_comm]
theorem prem_mul (a b : PP P) {m : PP P} (hm : m ≠ 0) : prem (prem a m * prem b m) m = prem (a * b) m := by
  rw [prem_mul_l _ _ hm, prem_mul_r _ _ hm]
theorem prem_add (a b : PP P) {m : PP P} (hm : m ≠ 0) : prem (a + b) m = prem a m + prem b m := by
  have h1 := (pdiv a hm).1
  have h2 := (pdiv b hm).1
  refine prem_of (pquo a m + pquo b m) hm ?_ ?_
  · conv => lhs; rw [h1, h2]
    rw [ppring.add_mul]
    simp only [ppring.add_assoc]
    rw [ppring.add_left_comm (prem a m)]
  · have := len_add (prem a m) (prem b m)
    have := prem_len a hm
    have := prem_len b hm
    omega
theorem pw_two (a : PP P) (k : Nat) : pw (a * a) k = pw a (2 * k) := by
  rw [ppring.pw_mul]
  congr 1
  simp only [pw, ppring.one_mul]
theorem prem_pw (a : PP P) {m : PP P} (hm : m ≠ 0) (k : Nat) : prem (pw (prem a m) k) m = prem (pw a k) m := by
  induction k with
  | zero => rfl
  | succ k ih => simp only [pw]; rw [prem_mul_r _ _ hm, ← prem_mul_l _ _ hm, ih, prem_mul_l _ _ hm]

theorem and_one {k : Nat} (h : k < 4611686018427387904) : IntKind.i64.wrap (BitVec.ofInt IntKind.i64.bits k &&& BitVec.ofInt IntKind.i64.bits 1).toNat = ((k % 2 : Nat) : Int) := by
  have e : (BitVec.ofInt IntKind.i64.bits (k : Int) &&& BitVec.ofInt IntKind.i64.bits 1).toNat = k % 2 := by
    rw [BitVec.toNat_and, BitVec.toNat_ofInt, BitVec.toNat_ofInt]
    have h1 : ((k : Int) % (2 ^ IntKind.i64.bits : Nat)).toNat = k := by
      rw [Int.emod_eq_of_lt (by omega) (by show (k : Int) < ((2 ^ 64 : Nat) : Int); omega)]
      omega
    have h2 : ((1 : Int) % (2 ^ IntKind.i64.bits : Nat)).toNat = 1 := by decide
    rw [h1, h2, Nat.and_one_is_mod]
  rw [e, wrap64 (by omega) (by omega)]
theorem half_is (k : Nat) : Int.fdiv (k : Int) (2 ^ (min (1 : Int).toNat IntKind.i64.bits)) = ((k / 2 : Nat) : Int) := by
  have e : (2 : Int) ^ (min (1 : Int).toNat IntKind.i64.bits) = 2 := by decide
  rw [e, Int.fdiv_eq_ediv_of_nonneg _ (by omega)]
  omega
theorem powI_loop {m : PP P} (hm : m ≠ 0) (lm : m.len ≤ 1000) : ∀ (n k : Nat) (O B : PP P), k ≤ n → k < 4611686018427387904 →
    loopM (fun s : Int × List Int × List Int => impl_prime_power_l1 P.p m.1 s.1 s.2.1 s.2.2) ((k : Int), (prem O m).1, (prem B m).1) = some (prem (O * pw B k) m).1 := by
  intro n
  induction n with
  | zero =>
    intro k O B hk _
    have : k = 0 := by omega
    subst this
    have step : impl_prime_power_l1 P.p m.1 ((0 : Nat) : Int) (prem O m).1 (prem B m).1 = some (.inr (prem O m).1) := by
      simp only [impl_prime_power_l1]
      rw [if_neg (by simp)]
    rw [loopM_eq]
    simp only [step, Option.bind_some, pw, ppring.mul_one]
  | succ n ih =>
    intro k O B hk hb
    rcases Nat.eq_zero_or_pos k with rfl | h0
    · have step : impl_prime_power_l1 P.p m.1 ((0 : Nat) : Int) (prem O m).1 (prem B m).1 = some (.inr (prem O m).1) := by
        simp only [impl_prime_power_l1]
        rw [if_neg (by simp)]
      rw [loopM_eq]
      simp only [step, Option.bind_some, pw, ppring.mul_one]
    · have lO := prem_len O hm
      have lB := prem_len B hm
      have lOB : (prem O m * prem B m).len ≤ 500000 := by
        have : (prem O m * prem B m).len ≤ (prem O m).len + (prem B m).len - 1 := mul_len _ _ _
        omega
      have lBB : (prem B m * prem B m).len ≤ 500000 := by
        have : (prem B m * prem B m).len ≤ (prem B m).len + (prem B m).len - 1 := mul_len _ _ _
        omega
      have e1 : impl_prime_times P.p (prem B m).1 (prem B m).1 = some (prem B m * prem B m).1 := timesI (by omega) (by omega)
      have e2 : impl_prime_times P.p (prem O m).1 (prem B m).1 = some (prem O m * prem B m).1 := timesI (by omega) (by omega)
      have e3 : impl_prime_rest P.p (prem B m * prem B m).1 m.1 = some (prem (B * B) m).1 := by rw [restI hm lBB (by omega), prem_mul _ _ hm]
      have e4 : impl_prime_rest P.p (prem O m * prem B m).1 m.1 = some (prem (O * B) m).1 := by rw [restI hm lOB (by omega), prem_mul _ _ hm]
      have step : impl_prime_power_l1 P.p m.1 (k : Int) (prem O m).1 (prem B m).1 = some (.inl (((k / 2 : Nat) : Int), (prem (if k % 2 = 1 then O * B else O) m).1, (prem (B * B) m).1)) := by
        simp only [impl_prime_power_l1, letp, and_one hb, half_is, e1, e2, e3, e4, Option.bind_some]
        rw [if_pos (decide_eq_true (by omega))]
        by_cases ho : k % 2 = 1
        · rw [if_pos ho, if_pos (by rw [beq_iff_eq]; omega)]; rfl
        · rw [if_neg ho, if_neg (by rw [beq_iff_eq]; omega)]; rfl
      rw [loopM_eq]
      simp only [step, Option.bind_some]
      rw [ih (k / 2) _ _ (by omega) (by omega), pw_two]
      congr 3
      by_cases ho : k % 2 = 1
      · rw [if_pos ho, ppring.mul_assoc]
        have e : k = 2 * (k / 2) + 1 := by omega
        conv => rhs; rw [e]
        simp only [pw]
        rw [ppring.mul_comm B]
      · rw [if_neg ho]
        have e : k = 2 * (k / 2) := by omega
        conv => rhs; rw [e]
theorem powI_is (a : PP P) {m : PP P} (hm : m ≠ 0) (lm : m.len ≤ 1000) (la : a.len ≤ 500000) {k : Nat} (hk : k < 4611686018427387904) : impl_prime_power P.p a.1 k m.1 = some (prem (pw a k) m).1 := by
  have h := powI_loop hm lm k k 1 a (Nat.le_refl _) hk
  have e1 : impl_prime_rest P.p [1] m.1 = some (prem 1 m).1 := restI (a := 1) hm (by rw [len_one]; omega) (by omega)
  simp only [impl_prime_power, e1, restI hm la (show m.len ≤ 500000 by omega), Option.bind_some]
  have h' : loopM (fun s : Int × List Int × List Int => impl_prime_power_l1 P.p m.1 s.1 s.2.1 s.2.2) ((k : Int), (prem 1 m).1, (prem a m).1) = some (prem (1 * pw a k) m).1 := h
  rw [h', ppring.one_mul]
  rfl
end Go.Proofs.Ytkbnegemdlnncaa
/- Which arrays have coefficients below p. -/
namespace Go.Proofs.Ytkbnegemdlnncaa
open Go.Abs
/-- All coefficients lie below p. -/
def Small (p : Int) (a : V64) : Prop := ∀ j, j < 64 → rd a.1 j < p
open Classical in
noncomputable def small (p : Int) (a : V64) : Bool := decide (Small p a)

theorem res_of_small {p : Int} {a : V64} (hb : IsB a) (h : small p a = true) : Res p a := fun j hj => by
  have h1 : Small p a := by simpa [small] using h
  exact ⟨(hb.rd hj).1, h1 j hj⟩
end Go.Proofs.Ytkbnegemdlnncaa
/- Which arrays are polynomials, in the program. -/
namespace Go.Proofs.Ytkbnegemdlnncaa
open Go.Abs

theorem index_loop {p : Int} {a : V64} (hb : IsB a) : ∀ s : Int, (∃ i : Nat, s = i ∧ i ≤ 64 ∧ ∀ j, j < i → rd a.1 j < p) → ∃ r, loopM (fun s : Int => slices_IndexFunc_byte_byte_of_impl_areAll_byte__c1_p_l1 a.1 p s) s = some r ∧ ((r = .inl () ∧ Small p a) ∨ (∃ i : Nat, r = .inr (i : Int) ∧ ¬ Small p a)) := by
  refine loopM_ind (fun (s : Int) => ∃ i : Nat, s = i ∧ i ≤ 64 ∧ ∀ j, j < i → rd a.1 j < p) (fun (s : Int) (r : Unit ⊕ Int) => (r = .inl () ∧ Small p a) ∨ (∃ i : Nat, r = .inr (i : Int) ∧ ¬ Small p a)) (fun s => 64 - s.toNat) ?_
  rintro s ⟨i, rfl, hi, hlt⟩
  have h64 := a.2
  by_cases h : i = 64
  · right
    subst h
    exact ⟨.inl (), by simp [slices_IndexFunc_byte_byte_of_impl_areAll_byte__c1_p_l1, h64], .inl ⟨rfl, hlt⟩⟩
  · have hbi := hb.rd (show i < 64 by omega)
    have e1 : impl_areAll_byte__c1_of_p (rd a.1 i) p = some (!decide (rd a.1 i < p)) := by
      simp only [impl_areAll_byte__c1_of_p, impl_isPoly_c1_of_p, Option.bind_some]
      rw [wrap64 (by omega) (by omega)]
    by_cases e : rd a.1 i < p
    · left
      refine ⟨((i + 1 : Nat) : Int), ?_, ⟨i + 1, rfl, by omega, fun j hj => ?_⟩, by simp; omega, fun r hr => hr⟩
      · simp only [slices_IndexFunc_byte_byte_of_impl_areAll_byte__c1_p_l1, h64]
        rw [if_pos (by simp; omega), ifp_pos (by omega), Int.toNat_natCast, e1, wrap64 (by omega) (by omega)]
        simp [e]
      · by_cases hj' : j = i
        · rw [hj']; exact e
        · exact hlt j (by omega)
    · right
      refine ⟨.inr (i : Int), ?_, .inr ⟨i, rfl, fun hs => e (hs i (by omega))⟩⟩
      simp only [slices_IndexFunc_byte_byte_of_impl_areAll_byte__c1_p_l1, h64]
      rw [if_pos (by simp; omega), ifp_pos (by omega), Int.toNat_natCast, e1]
      simp [e]
theorem isPoly_is {p : Int} {a : V64} (hb : IsB a) : impl_isPoly p a = some (small p a) := by
  obtain ⟨r, h1, h2⟩ := index_loop (p := p) hb 0 ⟨0, rfl, by omega, fun j hj => by omega⟩
  simp only [impl_isPoly, impl_areAll_byte_of_impl_isPoly_c1_p, slices_ContainsFunc_byte_byte_of_impl_areAll_byte__c1_p, slices_IndexFunc_byte_byte_of_impl_areAll_byte__c1_p, h1, Option.bind_some]
  rcases h2 with ⟨rfl, h⟩ | ⟨i, rfl, h⟩ <;> simp [small, h]
end Go.Proofs.Ytkbnegemdlnncaa
/- The code for polynomials, in the program. -/
namespace Go.Proofs.Ytkbnegemdlnncaa
open Go.Abs

theorem indexP_loop {p : Int} {l : List V64} (hb : ∀ a ∈ l, IsB a) (hl : l.length ≤ 2000000) : ∀ s : Int, (∃ i : Nat, s = i ∧ i ≤ l.length ∧ ∀ a ∈ l.take i, small p a = true) → ∃ r, loopM (fun s : Int => slices_IndexFunc_impl_Poly_impl_Poly_of_impl_areAll_impl_Poly__c1_p_l1 l p s) s = some r ∧ ((r = .inl () ∧ l.all (small p) = true) ∨ (∃ i : Nat, r = .inr (i : Int) ∧ l.all (small p) = false)) := by
  refine loopM_ind (fun (s : Int) => ∃ i : Nat, s = i ∧ i ≤ l.length ∧ ∀ a ∈ l.take i, small p a = true) (fun (s : Int) (r : Unit ⊕ Int) => (r = .inl () ∧ l.all (small p) = true) ∨ (∃ i : Nat, r = .inr (i : Int) ∧ l.all (small p) = false)) (fun s => l.length - s.toNat) ?_
  rintro s ⟨i, rfl, hi, hlt⟩
  by_cases h : i = l.length
  · right
    subst h
    exact ⟨.inl (), by simp [slices_IndexFunc_impl_Poly_impl_Poly_of_impl_areAll_impl_Poly__c1_p_l1], .inl ⟨rfl, by rw [List.take_length] at hlt; simpa using hlt⟩⟩
  · have hil : i < l.length := by omega
    have er : rd l i = l[i] := by simp [rd, hil]
    have hbi := isPoly_is (p := p) (hb l[i] (List.getElem_mem _))
    have e1 : impl_areAll_impl_Poly__c1_of_p (rd l i) p = some (!small p l[i]) := by
      simp only [impl_areAll_impl_Poly__c1_of_p, impl_polysCode_c1_of_p, er, hbi, Option.bind_some]
    cases e : small p l[i] with
    | true =>
      left
      refine ⟨((i + 1 : Nat) : Int), ?_, ⟨i + 1, rfl, by omega, fun a ha => ?_⟩, by simp; omega, fun r hr => hr⟩
      · simp only [slices_IndexFunc_impl_Poly_impl_Poly_of_impl_areAll_impl_Poly__c1_p_l1]
        rw [if_pos (decide_eq_true (by omega)), ifp_pos (by omega), Int.toNat_natCast, e1, e]
        simp only [Option.bind_some, Bool.not_true, Bool.false_eq_true, if_false]
        rw [wrap64 (by omega) (by omega)]; rfl
      · rw [List.take_succ_eq_append_getElem hil] at ha
        rcases List.mem_append.1 ha with ha | ha
        · exact hlt a ha
        · have : a = l[i] := by simpa using ha
          rw [this]; exact e
    | false =>
      right
      refine ⟨.inr (i : Int), ?_, .inr ⟨i, rfl, ?_⟩⟩
      · simp only [slices_IndexFunc_impl_Poly_impl_Poly_of_impl_areAll_impl_Poly__c1_p_l1]
        rw [if_pos (decide_eq_true (by omega)), ifp_pos (by omega), Int.toNat_natCast, e1, e]
        rfl
      · rw [List.all_eq_false]
        exact ⟨l[i], List.getElem_mem _, by simp [e]⟩
theorem polysCode_is {p : Int} {l : List V64} (hb : ∀ a ∈ l, IsB a) (hl : l.length ≤ 2000000) : impl_polysCode p l = some (if isP p && l.all (small p) then 0 else 1) := by
  obtain ⟨r, h1, h2⟩ := indexP_loop (p := p) hb hl 0 ⟨0, rfl, by omega, by simp⟩
  have e : impl_areAll_impl_Poly_of_impl_polysCode_c1_p l p = some (l.all (small p)) := by
    simp only [impl_areAll_impl_Poly_of_impl_polysCode_c1_p, slices_ContainsFunc_impl_Poly_impl_Poly_of_impl_areAll_impl_Poly__c1_p, slices_IndexFunc_impl_Poly_impl_Poly_of_impl_areAll_impl_Poly__c1_p, h1, Option.bind_some]
    rcases h2 with ⟨rfl, h⟩ | ⟨i, rfl, h⟩ <;> simp [h]
  simp only [impl_polysCode, isPrime_impl, e, Option.bind_some]
  cases isP p <;> cases l.all (small p) <;> simp
end Go.Proofs.Ytkbnegemdlnncaa
/- The row of an array. -/
namespace Go.Proofs.Ytkbnegemdlnncaa
open Go.Abs
theorem row_is {d : V64} (hb : IsB d) : impl_rowOf d = some (row d) := by
  rw [rowOf_is hb]
  congr 1
  have := top_le (rd d.1) 64
  refine rd_ext (by rw [row, ofF_len]; simp; rw [d.2]; omega) fun i hi => ?_
  simp at hi
  rw [rd_take, row, rd_ofF', if_pos (by omega), if_pos (by omega)]
theorem row_length (d : V64) : (row d).length = top (rd d.1) 64 := by rw [row, ofF_len]
theorem row_rd (d : V64) {i : Nat} (hi : i < 64) : rd (row d) i = rd d.1 i := by rw [row, rd_ofF', if_pos hi]
end Go.Proofs.Ytkbnegemdlnncaa
/- A row as an array. -/
namespace Go.Proofs.Ytkbnegemdlnncaa
open Go.Abs

theorem poly_loop {l : List Int} (hb : Bytes l) (hl : l.length ≤ 64) : ∀ s : Int × V64, (∃ i : Nat, s.1 = i ∧ i ≤ l.length ∧ s.2 = pad (l.take i)) → ∃ r, loopM (fun s : Int × V64 => impl_row_poly_l1 l s.1 s.2) s = some r ∧ r = pad l := by
  refine loopM_ind (fun (s : Int × V64) => ∃ i : Nat, s.1 = i ∧ i ≤ l.length ∧ s.2 = pad (l.take i)) (fun (s : Int × V64) r => r = pad l) (fun (s : Int × V64) => 64 - s.1.toNat) ?_
  rintro ⟨x, v⟩ ⟨i, hx, hi, hv⟩
  simp only at hx hv
  subst hx hv
  by_cases h : i = l.length
  · right
    subst h
    exact ⟨pad l, by simp [impl_row_poly_l1], rfl⟩
  · left
    have hil : i < l.length := by omega
    have er : rd l i = l[i] := by simp [rd, hil]
    have hbi := hb l[i] (List.getElem_mem _)
    refine ⟨(((i + 1 : Nat) : Int), pad (l.take (i + 1))), ?_, ⟨i + 1, rfl, by omega, rfl⟩, by simp; omega, fun r hr => hr⟩
    simp only [impl_row_poly_l1]
    rw [if_pos (by simp; omega), ifp_pos (by omega), ifp_pos (by omega)]
    simp only [Int.toNat_natCast, er]
    rw [wrap64 (by omega) (by omega), wrap8 hbi.1 hbi.2]
    have := pad_set (l.take i) l[i] (by simp; omega)
    rw [List.length_take, Nat.min_eq_left (by omega)] at this
    rw [this, List.take_succ_eq_append_getElem hil]
    simp

theorem poly_is {l : List Int} (hb : Bytes l) (hl : l.length ≤ 64) : impl_row_poly l = some (pad l) := by
  obtain ⟨r, h1, h2⟩ := poly_loop hb hl (0, pad []) ⟨0, rfl, by omega, by simp⟩
  simp only [impl_row_poly, ← pad_nil, h1, h2, Option.bind_some]
end Go.Proofs.Ytkbnegemdlnncaa
/- Polynomials from rows, told. -/
namespace Go.Proofs.Ytkbnegemdlnncaa
open Go.Abs
theorem told_is {l : List Int} (hb : Bytes l) (hl : l.length ≤ 64) : impl_told l = some (pad l, 0) := by
  simp only [impl_told, impl_row_fits, impl_row_degree, Option.bind_some, poly_is hb hl]
  rw [wrap64 (by omega) (by omega)]
  simp
  omega
end Go.Proofs.Ytkbnegemdlnncaa
/- PowerOf and MultiplyPolys of the program. -/
namespace Go.Proofs.Ytkbnegemdlnncaa
open Go.Abs
variable {P : Pri}
theorem isB_pp (a : PP P) : IsB (pad a.1) := fun x hx => by
  obtain ⟨i, hi, rfl⟩ := List.getElem_of_mem hx
  have h1 := res_pad a.2 P.pos i (by rw [← (pad a.1).2]; exact hi)
  have := P.two
  rw [rd_lt hi] at h1
  omega
theorem small_pp (a : PP P) : small P.p (pad a.1) = true := by
  simp only [small, decide_eq_true_eq]
  exact fun j hj => (res_pad a.2 P.pos j hj).2
theorem pcode1 (a : PP P) : impl_polysCode P.p [pad a.1] = some 0 := by
  rw [polysCode_is (fun x hx => by rw [List.mem_singleton.1 hx]; exact isB_pp a) (by simp), P.okp]
  simp [small_pp]
theorem pcode2 (a b : PP P) : impl_polysCode P.p [pad a.1, pad b.1] = some 0 := by
  rw [polysCode_is (fun x hx => by
    rcases List.mem_cons.1 hx with rfl | hx
    · exact isB_pp a
    · rw [List.mem_singleton.1 hx]; exact isB_pp b) (by simp), P.okp]
  simp [small_pp]
theorem rowI (a : PP P) (la : a.len ≤ 64) : impl_rowOf (pad a.1) = some a.1 := by rw [row_is (isB_pp a), row_pad a.2 la]
theorem fitsI (a : PP P) (la : a.len ≤ 1000000) : impl_row_fits a.1 = some (decide (a.len ≤ 64)) := by
  have h : a.1.length = a.len := rfl
  simp only [impl_row_fits, impl_row_degree, Option.bind_some]
  rw [wrap64 (by omega) (by omega), h]
  congr 1
  rw [Bool.eq_iff_iff]; simp only [decide_eq_true_eq]; omega
theorem toldI (a : PP P) (la : a.len ≤ 1000000) : impl_told a.1 = some (if a.len ≤ 64 then (pad a.1, 0) else (vrep 64 0, 3)) := by
  by_cases h : a.len ≤ 64
  · rw [if_pos h]
    exact told_is (a.2.bytes P.sm.2) h
  · rw [if_neg h]
    simp only [impl_told, fitsI a la, decide_eq_false h, Option.bind_some]
    rfl
theorem mulO {a b : PP P} (la : a.len ≤ 64) (lb : b.len ≤ 64) : impl_MultiplyPolys P.p (pad a.1) (pad b.1) = some (if (a * b).len ≤ 64 then (pad (a * b).1, 0) else (vrep 64 0, 3)) := by
  have hl : (a * b).len ≤ a.len + b.len - 1 := mul_len _ _ _
  simp only [impl_MultiplyPolys, pcode2, rowI a la, rowI b lb, timesI (a := a) (b := b) (by omega) (by omega), toldI (a * b) (by omega), Option.bind_some]
  rfl
theorem pwO_ne {a : PP P} (ha : a ≠ 0) : ∀ k, pw a k ≠ 0
  | 0 => one_ne
  | k + 1 => fun e => by
    rcases pp_dom _ _ e with h | h
    · exact pwO_ne ha k h
    · exact ha h
theorem pwO_len {a : PP P} (ha : a ≠ 0) : ∀ k, (pw a k).len = (a.len - 1) * k + 1
  | 0 => by show (1 : PP P).len = _; rw [len_one, Nat.mul_zero]
  | k + 1 => by
    have h1 := pwO_len ha k
    have h2 : (pw a (k + 1)).len = _ := len_mul (pwO_ne ha k) ha
    have h3 := len_pos ha
    rw [h2, h1, Nat.mul_succ]; omega
theorem pwO_one {a : PP P} (ha : a.len ≤ 1) : ∀ k, (pw a k).len ≤ 1
  | 0 => by show (1 : PP P).len ≤ _; rw [len_one]; omega
  | k + 1 => by
    have h1 := pwO_one ha k
    have h2 : (pw a (k + 1)).len ≤ (pw a k).len + a.len - 1 := mul_len _ _ _
    omega
theorem powO_loop {a : PP P} (ha : a ≠ 0) (la : a.len ≤ 64) {k : Nat} (hk : k ≤ 63) : ∀ (m i : Nat), i + m = k → (pw a i).len ≤ 64 →
    loopM (fun s : List Int × Int => impl_PowerOf_l1 (k : Int) P.p a.1 s.1 s.2) ((pw a i).1, (i : Int)) = some (if (pw a k).len ≤ 64 then .inl (pw a k).1 else .inr (vrep 64 0, 3))
  | 0, i, hi, hl => by
    have : i = k := by omega
    subst this
    have step : impl_PowerOf_l1 (i : Int) P.p a.1 (pw a i).1 (i : Int) = some (.inr (.inl (pw a i).1)) := by
      simp only [impl_PowerOf_l1]
      rw [if_neg (by rw [decide_eq_true_eq]; omega)]
    rw [loopM_eq]
    simp only [step, Option.bind_some, if_pos hl]
  | m + 1, i, hi, hl => by
    have e1 : impl_prime_times P.p (pw a i).1 a.1 = some (pw a (i + 1)).1 := timesI (by omega) (by omega)
    have h2 : (pw a (i + 1)).len ≤ (pw a i).len + a.len - 1 := mul_len _ _ _
    have e2 := fitsI (pw a (i + 1)) (by omega)
    have e3 : IntKind.i64.wrap ((i : Int) + 1) = ((i + 1 : Nat) : Int) := by rw [wrap64 (by omega) (by omega)]; rfl
    by_cases h : (pw a (i + 1)).len ≤ 64
    · have step : impl_PowerOf_l1 (k : Int) P.p a.1 (pw a i).1 (i : Int) = some (.inl ((pw a (i + 1)).1, ((i + 1 : Nat) : Int))) := by
        simp only [impl_PowerOf_l1, e1, e2, decide_eq_true h, e3, Option.bind_some]
        rw [if_pos (decide_eq_true (by omega))]; rfl
      rw [loopM_eq]
      simp only [step, Option.bind_some]
      exact powO_loop ha la hk m (i + 1) (by omega) h
    · have step : impl_PowerOf_l1 (k : Int) P.p a.1 (pw a i).1 (i : Int) = some (.inr (.inr (vrep 64 0, 3))) := by
        simp only [impl_PowerOf_l1, e1, e2, decide_eq_false h, Option.bind_some]
        rw [if_pos (decide_eq_true (by omega))]; rfl
      have h3 : ¬ (pw a k).len ≤ 64 := by
        have h4 : (a.len - 1) * (i + 1) ≤ (a.len - 1) * k := Nat.mul_le_mul_left _ (by omega)
        rw [pwO_len ha] at h ⊢
        omega
      rw [loopM_eq]
      simp only [step, Option.bind_some, if_neg h3]
theorem powO {a : PP P} (la : a.len ≤ 64) {k : Nat} (hk : k ≤ 63) : impl_PowerOf P.p (pad a.1) k = some (if (pw a k).len ≤ 64 then (pad (pw a k).1, 0) else (vrep 64 0, 3)) := by
  have hd : impl_row_degree a.1 = some ((a.len : Int) - 1) := by
    have h : a.1.length = a.len := rfl
    simp only [impl_row_degree]
    rw [wrap64 (by omega) (by omega), h]
  have hn : impl_isNumber (k : Int) = some true := by
    simp only [impl_isNumber, impl_within]
    rw [if_pos (decide_eq_true (by omega)), decide_eq_true (by omega)]
    rfl
  have h3 : decide ((k : Int) > 63) = false := decide_eq_false (by omega)
  simp only [impl_PowerOf, pcode1, rowI a la, hn, hd, Option.bind_some]
  by_cases h1 : a.len ≤ 1
  · have h4 := pwO_one h1 k
    have e : impl_prime_power P.p a.1 k [0, 1] = some (pw a k).1 := by
      have hT : (ppT : PP P) ≠ 0 := fun e => by have := len_zero.2 e; cases this
      have h := powI_is a (m := ppT) hT (by show 2 ≤ 1000; omega) (by omega) (k := k) (by omega)
      rw [prem_small (show (pw a k).len < (ppT : PP P).len by show _ < 2; omega)] at h
      exact h
    have c1 : decide ((a.len : Int) - 1 > 0) = false := decide_eq_false (by omega)
    have c2 : decide ((a.len : Int) - 1 ≤ 0) = true := decide_eq_true (by omega)
    simp only [c1, c2, e, toldI (pw a k) (by omega), Option.bind_some]
    rfl
  · have ha : a ≠ 0 := fun e => by rw [len_zero.2 e] at h1; omega
    have c1 : decide ((a.len : Int) - 1 > 0) = true := decide_eq_true (by omega)
    have c2 : decide ((a.len : Int) - 1 ≤ 0) = false := decide_eq_false (by omega)
    have hl : loopM (fun s : List Int × Int => impl_PowerOf_l1 (k : Int) P.p a.1 s.1 s.2) ([1], 0) = _ := powO_loop ha la hk k 0 (by omega) (by show (1 : PP P).len ≤ 64; rw [len_one]; omega)
    simp only [c1, c2, h3, hl, Option.bind_some]
    by_cases hq : (pw a k).len ≤ 64
    · simp only [if_pos hq, toldI (pw a k) (by omega)]
      rfl
    · simp only [if_neg hq]
      rfl
end Go.Proofs.Ytkbnegemdlnncaa
/- Numbers in a range. -/
namespace Go.Proofs.Ytkbnegemdlnncaa
open Go.Abs

theorem range_spec (p n a b : Int) : spec_l04Range p n a b = some (if isP p then (if a ≤ n ∧ n ≤ b then 0 else 2) else 1) := by
  unfold spec_l04Range spec_l01In
  rw [isPrime_spec]
  cases isP p <;> simp
  by_cases h1 : a ≤ n <;> by_cases h2 : n ≤ b <;> simp [h1, h2]

theorem range_impl (p n a b : Int) : impl_numberCode p n a b = some (if isP p then (if a ≤ n ∧ n ≤ b then 0 else 2) else 1) := by
  unfold impl_numberCode impl_within
  rw [isPrime_impl]
  cases isP p <;> simp
  by_cases h1 : a ≤ n <;> by_cases h2 : n ≤ b <;> simp [h1, h2]
end Go.Proofs.Ytkbnegemdlnncaa
/- Sums of digits. -/
namespace Go.Proofs.Ytkbnegemdlnncaa
open Go.Abs
theorem digits_loop {p : Nat} (hp : 2 ≤ p) : ∀ s : Int × Int, (∃ n : Nat, s.1 = n ∧ 0 ≤ s.2 ∧ s.2 + n ≤ 1000000000000) → ∃ r, loopM (fun s : Int × Int => spec_l08Digits_l1 p s.1 s.2) s = some r ∧ ∀ n : Nat, s.1 = n → r = s.2 + (digs p n).sum := by
  refine loopM_ind (fun (s : Int × Int) => ∃ n : Nat, s.1 = n ∧ 0 ≤ s.2 ∧ s.2 + n ≤ 1000000000000) (fun (s : Int × Int) (r : Int) => ∀ n : Nat, s.1 = n → r = s.2 + (digs p n).sum) (fun (s : Int × Int) => s.1.toNat) ?_
  rintro ⟨x, acc⟩ ⟨n, hx, h1, h2⟩
  simp only at hx h1 h2
  subst hx
  by_cases hn : n = 0
  · right
    subst hn
    refine ⟨acc, by simp [spec_l08Digits_l1], fun m hm => ?_⟩
    have : m = 0 := by simpa using hm.symm
    subst this
    rw [digs_zero]; simp
  · left
    have hlt : n / p < n := Nat.div_lt_self (by omega) hp
    have hle : n % p + n / p ≤ n := by
      have := Nat.div_add_mod n p
      have h3 : n / p ≤ p * (n / p) := Nat.le_mul_of_pos_left _ (by omega)
      omega
    have e1 : Int.tdiv (n : Int) p = ((n / p : Nat) : Int) := rfl
    have e2 : Int.tmod (n : Int) p = ((n % p : Nat) : Int) := rfl
    have ed := digs_pos hp (show 0 < n by omega)
    generalize n / p = q at hlt hle e1 ed
    generalize n % p = d at hle e2 ed
    refine ⟨((q : Int), acc + (d : Int)), ?_, ⟨q, rfl, by simp only; omega, by simp only; omega⟩, by simp only [Int.toNat_natCast]; exact hlt, fun r hr m hm => ?_⟩
    · simp only [spec_l08Digits_l1]
      rw [if_pos (by simp; omega), ifp_pos (by omega), ifp_pos (by omega), e1, e2, wrap64 (by omega) (by omega), wrap64 (by omega) (by omega)]
    · have : m = n := by have : (n : Int) = m := hm; omega
      subst this
      rw [hr q rfl, ed]
      simp only [List.sum_cons]
      omega

theorem digitSum_loop {l : List Int} (hl : (∀ d ∈ l, 0 ≤ d) ∧ l.length ≤ 1000000000000) : ∀ s : Int × Int, (∃ i : Nat, s.2 = i ∧ i ≤ l.length ∧ 0 ≤ s.1 ∧ s.1 + (l.drop i).sum ≤ 1000000000000) → ∃ r, loopM (fun s : Int × Int => impl_DigitSum_l1 l s.1 s.2) s = some r ∧ ∀ i : Nat, s.2 = i → r = s.1 + (l.drop i).sum := by
  refine loopM_ind (fun (s : Int × Int) => ∃ i : Nat, s.2 = i ∧ i ≤ l.length ∧ 0 ≤ s.1 ∧ s.1 + (l.drop i).sum ≤ 1000000000000) (fun (s : Int × Int) (r : Int) => ∀ i : Nat, s.2 = i → r = s.1 + (l.drop i).sum) (fun (s : Int × Int) => l.length - s.2.toNat) ?_
  rintro ⟨acc, x⟩ ⟨i, hx, h1, h2, h3⟩
  simp only at hx h1 h2 h3
  subst hx
  by_cases hn : i = l.length
  · right
    subst hn
    refine ⟨acc, by simp [impl_DigitSum_l1], fun m hm => ?_⟩
    have : m = l.length := by simp at hm; omega
    subst this
    simp
  · left
    have hil : i < l.length := by omega
    have ed : l.drop i = l[i] :: l.drop (i + 1) := List.drop_eq_getElem_cons hil
    have er : rd l ((i : Int).toNat) = l[i] := by simp [rd, hil]
    have hnn := hl.1 l[i] (List.getElem_mem _)
    have hrest : 0 ≤ (l.drop (i + 1)).sum := by
      have : ∀ (k : List Int), (∀ d ∈ k, 0 ≤ d) → 0 ≤ k.sum := by
        intro k
        induction k with
        | nil => simp
        | cons a k ih => intro h; simp only [List.sum_cons]; have := h a (by simp); have := ih fun d hd => h d (by simp [hd]); omega
      exact this _ fun d hd => hl.1 d (List.mem_of_mem_drop hd)
    rw [ed] at h3
    simp only [List.sum_cons] at h3
    refine ⟨(acc + l[i], ((i + 1 : Nat) : Int)), ?_, ⟨i + 1, rfl, by omega, by simp only; omega, by simp only; omega⟩, by simp only [Int.toNat_natCast]; omega, fun r hr m hm => ?_⟩
    · simp only [impl_DigitSum_l1]
      rw [if_pos (by simp; omega), ifp_pos (by omega), er, wrap64 (by omega) (by omega), wrap64 (by omega) (by omega)]
      simp
    · have : m = i := by simp at hm; omega
      subst this
      rw [hr (m + 1) rfl, ed]
      simp only [List.sum_cons]
      omega

theorem digitsS_is {q n : Nat} (hq : 2 ≤ q) (hn : n ≤ 1000000000000) : spec_l08Digits q n = some (digs q n).sum := by
  obtain ⟨r, h1, h2⟩ := digits_loop hq ((n : Int), 0) ⟨n, rfl, by simp, by simp; omega⟩
  have e1 := h2 n rfl
  simp only [Int.zero_add] at e1
  simp only [spec_l08Digits, h1, e1, Option.bind_some]
theorem digitSumI_is {q n : Nat} (hp : isP (q : Int) = true) (hn : n ≤ 1000000000000) : impl_DigitSum q n = some ((digs q n).sum, 0) := by
  have hp2 := isP_pos hp
  obtain ⟨g1, g2, g3⟩ := digs_sum (p := q) n
  obtain ⟨r', h5, h6⟩ := digitSum_loop (l := digs q n) ⟨g1, by omega⟩ (0, 0) ⟨0, rfl, by simp, by simp, by simp; omega⟩
  have e3 := h6 0 rfl
  simp only [List.drop_zero, Int.zero_add] at e3
  have hr : (0 : Int) ≤ (n : Int) ∧ (n : Int) ≤ 1000000000000 := by omega
  simp only [impl_DigitSum, range_impl, hp, hr, and_self, if_true, Option.bind_some, bne_self_eq_false, Bool.false_eq_true, if_false, numbered_is (show 2 ≤ q by omega) hn, h5, e3]
end Go.Proofs.Ytkbnegemdlnncaa
/- What both sides return: FnExactFirstVanishing. -/
namespace Go.Proofs.Ytkbnegemdlnncaa
open Go.Abs

theorem powerSumI_is {q k d : Nat} (hp : isP (q : Int) = true) (hk : k ≤ 40) (hd : d ≤ 1000) : impl_PowerSum q d k = some (if fewMonic q d = true then (if k * d ≤ 63 then (pad (psum q d k (q ^ d)), 0) else (vrep 64 0, 3)) else (vrep 64 0, 2)) := by
  have hp2 := isP_pos hp
  unfold impl_PowerSum impl_isExponent impl_within
  rw [isPrime_impl, hp, isSumDegree_is (by omega)]
  have c1 : (if (decide (0 ≤ (k : Int))) = true then some (decide ((k : Int) ≤ 40)) else some false) = some true := by
    rw [if_pos (decide_eq_true (by omega)), decide_eq_true (by omega)]
  simp only [Option.bind_some, c1, Bool.not_true, Bool.false_eq_true, if_false, Int.toNat_natCast, show (decide (0 ≤ (d : Int))) = true from decide_eq_true (by omega), Bool.true_and]
  cases hf : fewMonic q d with
  | false => simp
  | true =>
    have h4 : d ≤ 8 ∧ q ^ d ≤ 343 := by simpa [fewMonic] using hf
    have hdk : k * d ≤ 40 * 8 := Nat.mul_le_mul hk h4.1
    have e0 : IntKind.i64.wrap ((d : Int) * (k : Int)) = ((k * d : Nat) : Int) := by rw [Int.mul_comm, ← Int.natCast_mul, wrap64 (by omega) (by omega)]
    simp only [Bool.not_true, Bool.false_eq_true, if_false, if_true, e0]
    by_cases h5 : k * d ≤ 63
    · have hl := psum_len (p := q) (d := d) (k := k) (by omega) h5 (q ^ d) (Nat.le_refl _)
      rw [if_neg (by rw [decide_eq_true_eq]; omega), powerSum_is (by omega) h4.1 h4.2 (by omega) h5]
      simp only [Option.bind_some]
      rw [told_is ((psum_row (by omega) d k _).bytes (by omega)) hl, if_pos h5]
      rfl
    · rw [if_pos (decide_eq_true (by omega)), if_neg h5]
theorem firstVanishing_key (p k : Int) : ∃ r, spec_FirstVanishing p k = some r ∧ impl_FirstVanishing p k = some r := by
    unfold spec_FirstVanishing impl_FirstVanishing
    rw [range_spec, range_impl]
    simp only [Option.bind_some]
    cases hp : isP p with
    | false => exact ⟨_, by simp; rfl, by simp⟩
    | true =>
      have hp2 := isP_pos hp
      by_cases hk : 1 ≤ k ∧ k ≤ 40
      · obtain ⟨q, rfl⟩ : ∃ q : Nat, p = q := ⟨p.toNat, by omega⟩
        obtain ⟨n, rfl⟩ : ∃ n : Nat, k = n := ⟨k.toNat, by omega⟩
        simp only [hk, and_self, if_true, bne_self_eq_false, Bool.false_eq_true, if_false]
        have loops : ∀ (m d : Nat), d + m = 9 → ∃ r, loopM (fun s : Int => spec_FirstVanishing_l1 q n s) (d : Int) = some r ∧ loopM (fun s : Int => impl_FirstVanishing_l1 q n s) (d : Int) = some r := by
          intro m
          induction m with
          | zero =>
            intro d hd
            have hf : fewMonic q d = false := by simp [fewMonic]; omega
            have s1 : spec_FirstVanishing_l1 q n (d : Int) = some (.inr (0, 2)) := by
              simp only [spec_FirstVanishing_l1]
              rw [code8_is (by simp), hp]
              simp [hf]
            have s2 : impl_FirstVanishing_l1 q n (d : Int) = some (.inr (0, 2)) := by
              simp only [impl_FirstVanishing_l1]
              rw [powerSumI_is hp (by omega) (by omega), hf]
              rfl
            refine ⟨(0, 2), ?_, ?_⟩
            · rw [loopM_eq, s1]; rfl
            · rw [loopM_eq, s2]; rfl
          | succ m ih =>
            intro d hd
            have c8 := code8_is (p := (q : Int)) (l := [(n : Int)]) (by simp) (d : Int)
            rw [hp] at c8
            have hall : ∀ x ∈ [(n : Int)], 0 ≤ x ∧ x ≤ 40 := by
              intro x hx
              simp only [List.mem_singleton] at hx
              omega
            have h0d : (0 : Int) ≤ (d : Int) := by omega
            simp only [if_true, Int.toNat_natCast, h0d, true_and, if_pos hall] at c8
            have hI := powerSumI_is (q := q) (k := n) (d := d) hp (by omega) (by omega)
            cases hf : fewMonic q d with
            | false =>
              rw [hf] at c8 hI
              have s1 : spec_FirstVanishing_l1 q n (d : Int) = some (.inr (0, 2)) := by
                simp only [spec_FirstVanishing_l1]
                rw [c8]; rfl
              have s2 : impl_FirstVanishing_l1 q n (d : Int) = some (.inr (0, 2)) := by
                simp only [impl_FirstVanishing_l1]
                rw [hI]; rfl
              refine ⟨(0, 2), ?_, ?_⟩
              · rw [loopM_eq, s1]; rfl
              · rw [loopM_eq, s2]; rfl
            | true =>
              have h4 : d ≤ 8 ∧ q ^ d ≤ 343 := by simpa [fewMonic] using hf
              rw [hf] at c8 hI
              simp only [if_true] at c8 hI
              by_cases h5 : n * d ≤ 63
              · rw [if_pos h5] at hI
                have hS := sum8_is (p := q) (d := d) (k := n) (by omega) h4.1 h4.2 (by omega) h5
                by_cases hz : pad (psum q d n (q ^ d)) = vrep 64 0
                · have s1 : spec_FirstVanishing_l1 q n (d : Int) = some (.inr ((d : Int), 0)) := by
                    simp only [spec_FirstVanishing_l1, c8, hS, hz, Option.bind_some]
                    simp
                  have s2 : impl_FirstVanishing_l1 q n (d : Int) = some (.inr ((d : Int), 0)) := by
                    simp only [impl_FirstVanishing_l1, hI, hz, Option.bind_some]
                    simp
                  refine ⟨((d : Int), 0), ?_, ?_⟩
                  · rw [loopM_eq, s1]; rfl
                  · rw [loopM_eq, s2]; rfl
                · have ew : IntKind.i64.wrap ((d : Int) + 1) = ((d + 1 : Nat) : Int) := by rw [wrap64 (by omega) (by omega)]; rfl
                  have s1 : spec_FirstVanishing_l1 q n (d : Int) = some (.inl ((d + 1 : Nat) : Int)) := by
                    simp only [spec_FirstVanishing_l1, c8, hS, Option.bind_some, ew]
                    rw [decide_eq_false hz]; rfl
                  have s2 : impl_FirstVanishing_l1 q n (d : Int) = some (.inl ((d + 1 : Nat) : Int)) := by
                    simp only [impl_FirstVanishing_l1, hI, Option.bind_some, ew]
                    rw [decide_eq_false hz]; rfl
                  obtain ⟨r, g1, g2⟩ := ih (d + 1) (by omega)
                  refine ⟨r, ?_, ?_⟩
                  · rw [loopM_eq, s1]; exact g1
                  · rw [loopM_eq, s2]; exact g2
              · rw [if_neg h5] at hI
                have hS := sum8_no (p := q) (d := d) (k := n) (by omega) (by omega) (by omega)
                have s1 : spec_FirstVanishing_l1 q n (d : Int) = some (.inr (0, 3)) := by
                  simp only [spec_FirstVanishing_l1, c8, hS, Option.bind_some]
                  rfl
                have s2 : impl_FirstVanishing_l1 q n (d : Int) = some (.inr (0, 3)) := by
                  simp only [impl_FirstVanishing_l1, hI, Option.bind_some]
                  rfl
                refine ⟨(0, 3), ?_, ?_⟩
                · rw [loopM_eq, s1]; rfl
                · rw [loopM_eq, s2]; rfl
        exact loops 9 0 rfl
      · exact ⟨_, by simp [hk]; rfl, by simp [hk]⟩
end Go.Proofs.Ytkbnegemdlnncaa
/- What power sums and zeta without an error are. -/
namespace Go.Proofs.Ytkbnegemdlnncaa
open Go.Abs
variable {P : Pri}
theorem Pri.qq (P : Pri) : 2 ≤ P.n ∧ P.n ≤ 7 := by have := P.is; omega
theorem pad_zero : pad (0 : PP P).1 = vrep 64 0 := pad_nil
theorem zetaI {n : Nat} (hn : n ≤ 40) : ∃ r, impl_ZetaAt P.p n = some r ∧ (r.2 = 0 → ∃ N : Nat, r.1 = pad (ZZ P n N).1 ∧ (digs P.n n).sum < ((N * (P.n - 1) : Nat) : Int)) := by
  have hq := P.qq
  obtain ⟨g1, g2, g3⟩ := digs_sum (p := P.n) n
  have hs0 : 0 ≤ (digs P.n n).sum := by
    have : ∀ (k : List Int), (∀ d ∈ k, 0 ≤ d) → 0 ≤ k.sum := by
      intro k
      induction k with
      | nil => simp
      | cons a k ih => intro h; simp only [List.sum_cons]; have := h a (by simp); have := ih fun d hd => h d (by simp [hd]); omega
    exact this _ g1
  obtain ⟨t, ht⟩ : ∃ t : Nat, (digs P.n n).sum = (t : Int) := ⟨(digs P.n n).sum.toNat, by omega⟩
  have e1 : IntKind.i64.wrap (P.p - 1) = ((P.n - 1 : Nat) : Int) := by
    have h : P.p = (P.n : Int) := rfl
    rw [h, wrap64 (by omega) (by omega)]; omega
  have e2 : IntKind.i64.wrap (Int.tdiv (t : Int) ((P.n - 1 : Nat) : Int)) = ((t / (P.n - 1) : Nat) : Int) := by
    have h : Int.tdiv (t : Int) ((P.n - 1 : Nat) : Int) = ((t / (P.n - 1) : Nat) : Int) := rfl
    have hw : ∀ l : Nat, l ≤ 1000 → IntKind.i64.wrap (l : Int) = (l : Int) := fun l hl => wrap64 (by omega) (by omega)
    rw [h]
    exact hw _ (Nat.le_trans (Nat.div_le_self t (P.n - 1)) (by omega))
  have hl := Nat.div_le_self t (P.n - 1)
  have hk : (0 : Int) ≤ (n : Int) ∧ (n : Int) ≤ 40 := by omega
  have hD : impl_DigitSum P.p n = some ((t : Int), 0) := by rw [← ht]; exact digitSumI_is (q := P.n) P.ok (show n ≤ 1000000000000 by omega)
  have hS : impl_prime_isSummed P.p ((t / (P.n - 1) : Nat) : Int) = _ := isSummed_is (p := P.n) hq (show t / (P.n - 1) ≤ 1000000 by omega)
  simp only [impl_ZetaAt, range_impl, P.okp, if_true, if_pos hk, bne_self_eq_false, Bool.false_eq_true, if_false, hD, Option.bind_some, e1, e2, hS]
  rw [ifp_pos (by omega)]
  have hdm := Nat.div_add_mod t (P.n - 1)
  have hml := Nat.mod_lt t (show P.n - 1 > 0 by omega)
  have hN : (digs P.n n).sum < (((t / (P.n - 1) + 1) * (P.n - 1) : Nat) : Int) := by
    rw [ht, Nat.succ_mul, Nat.mul_comm]; omega
  generalize hL : t / (P.n - 1) = l at *
  by_cases h5 : P.n ^ l ≤ 343
  · simp only [h5, decide_true, Bool.not_true, Bool.false_eq_true, if_false, letp]
    have hlk : l * n ≤ 40 * 40 := Nat.mul_le_mul (by omega) (by omega)
    have e3 : (l : Int) * (n : Int) = ((l * n : Nat) : Int) := by rw [Int.natCast_mul]
    have e4 : IntKind.i64.wrap ((l : Int) + 1) = ((l + 1 : Nat) : Int) := by rw [wrap64 (by omega) (by omega)]; rfl
    rw [e3, wrap64 (n := ((l * n : Nat) : Int)) (by omega) (by omega), e4]
    by_cases h6 : l * n ≤ 63
    · have hkn : l + 1 = 0 ∨ n * (l + 1 - 1) ≤ 63 := .inr (by rw [Nat.add_sub_cancel, Nat.mul_comm]; exact h6)
      have hI := zloopI (p := P.n) (k := n) (n := l + 1) hq (by omega) (.inr (by simpa using h5)) hkn (body := fun s : List Int × Int => impl_ZetaAt_l1 ((l + 1 : Nat) : Int) P.p n s.1 s.2) (fun d s hd => by
        simp only [impl_ZetaAt_l1]
        rw [if_pos (decide_eq_true (by omega))]; rfl) (fun s => by
        simp only [impl_ZetaAt_l1]
        rw [if_neg (by rw [decide_eq_true_eq]; omega)])
      have hzl := zs_len (p := P.n) (k := n) hq.1 (l + 1) hkn
      rw [if_neg (by rw [decide_eq_true_eq]; omega), hI]
      simp only [Option.bind_some]
      rw [told_is ((zs_row hq.1 n _).bytes (by omega)) hzl]
      exact ⟨_, rfl, fun _ => ⟨l + 1, by rw [zs_Z], hN⟩⟩
    · rw [if_pos (decide_eq_true (by omega))]
      exact ⟨_, rfl, fun h => by cases h⟩
  · simp only [h5, decide_false, Bool.not_false, if_true]
    exact ⟨_, rfl, fun h => by cases h⟩
theorem zeta_get {p k : Int} {r : V64 × Int} (h : impl_ZetaAt p k = some r) (h0 : r.2 = 0) (hk : k > 0) : IntKind.i64.wrap (p - 1) ≠ 0 ∧ (Int.tmod k (IntKind.i64.wrap (p - 1)) = 0 → r.1 = vrep 64 0) := by
  by_cases hp : isP p = true
  · by_cases hn : 0 ≤ k ∧ k ≤ 40
    · have hp2 := isP_pos hp
      obtain ⟨q, rfl⟩ : ∃ q : Nat, p = q := ⟨p.toNat, by omega⟩
      obtain ⟨n, rfl⟩ : ∃ n : Nat, k = n := ⟨k.toNat, by omega⟩
      obtain ⟨r', h1, h2⟩ := zetaI (P := ⟨q, hp⟩) (n := n) (by omega)
      have h1' : impl_ZetaAt (q : Int) n = some r' := h1
      rw [h1'] at h
      obtain rfl := Option.some.inj h
      obtain ⟨N, h3, h4⟩ := h2 h0
      have e1 : IntKind.i64.wrap ((q : Int) - 1) = ((q - 1 : Nat) : Int) := by rw [wrap64 (by omega) (by omega)]; omega
      rw [e1]
      refine ⟨by omega, fun hm => ?_⟩
      have hm' : n % (q - 1) = 0 := by
        have : Int.tmod (n : Int) ((q - 1 : Nat) : Int) = ((n % (q - 1) : Nat) : Int) := rfl
        rw [this] at hm; omega
      rw [h3, Z_van (P := ⟨q, hp⟩) hm' (by omega) h4, pad_zero]
    · simp [impl_ZetaAt, range_impl, hp, hn] at h
      rw [← h] at h0; cases h0
  · simp [impl_ZetaAt, range_impl, hp] at h
    rw [← h] at h0; cases h0
theorem few_nine {q : Nat} (_ : 2 ≤ q) : fewMonic q 9 = false := by simp [fewMonic]
theorem first_get {p k : Int} {r : Int × Int} (h : impl_FirstVanishing p k = some r) (h0 : r.2 = 0) : impl_PowerSum p r.1 k = some (vrep 64 0, 0) := by
  by_cases hp : isP p = true
  · by_cases hn : 1 ≤ k ∧ k ≤ 40
    · have hp2 := isP_pos hp
      obtain ⟨q, rfl⟩ : ∃ q : Nat, p = q := ⟨p.toNat, by omega⟩
      obtain ⟨n, rfl⟩ : ∃ n : Nat, k = n := ⟨k.toNat, by omega⟩
      have loops : ∀ (m d : Nat), d + m = 9 → ∃ r, loopM (fun s : Int => impl_FirstVanishing_l1 q n s) (d : Int) = some r ∧ (r.2 = 0 → impl_PowerSum q r.1 n = some (vrep 64 0, 0)) := by
        intro m
        induction m with
        | zero =>
          intro d hd
          have : d = 9 := by omega
          subst this
          have hI := powerSumI_is (q := q) (k := n) (d := 9) hp (by omega) (by omega)
          rw [few_nine (by omega)] at hI
          have s2 : impl_FirstVanishing_l1 q n ((9 : Nat) : Int) = some (.inr (0, 2)) := by
            simp only [impl_FirstVanishing_l1]
            rw [hI]; rfl
          exact ⟨(0, 2), by rw [loopM_eq, s2]; rfl, fun h => by cases h⟩
        | succ m ih =>
          intro d hd
          have hI := powerSumI_is (q := q) (k := n) (d := d) hp (by omega) (by omega)
          obtain ⟨rr, hrr⟩ : ∃ rr, (if fewMonic q d = true then (if n * d ≤ 63 then (pad (psum q d n (q ^ d)), 0) else (vrep 64 0, 3)) else (vrep 64 0, 2) : V64 × Int) = rr := ⟨_, rfl⟩
          rw [hrr] at hI
          clear hrr
          obtain ⟨v, e⟩ := rr
          by_cases he : e = 0
          · subst he
            by_cases hv : v = vrep 64 0
            · subst hv
              have s2 : impl_FirstVanishing_l1 q n (d : Int) = some (.inr ((d : Int), 0)) := by
                simp only [impl_FirstVanishing_l1, hI, Option.bind_some, bne_self_eq_false, Bool.false_eq_true, if_false, decide_true, if_true]
              exact ⟨((d : Int), 0), by rw [loopM_eq, s2]; rfl, fun _ => hI⟩
            · have ew : IntKind.i64.wrap ((d : Int) + 1) = ((d + 1 : Nat) : Int) := by rw [wrap64 (by omega) (by omega)]; rfl
              have s2 : impl_FirstVanishing_l1 q n (d : Int) = some (.inl ((d + 1 : Nat) : Int)) := by
                simp only [impl_FirstVanishing_l1, hI, Option.bind_some, bne_self_eq_false, Bool.false_eq_true, if_false, decide_eq_false hv, ew]
              obtain ⟨r, g1, g2⟩ := ih (d + 1) (by omega)
              exact ⟨r, by rw [loopM_eq, s2]; exact g1, g2⟩
          · have s2 : impl_FirstVanishing_l1 q n (d : Int) = some (.inr (0, e)) := by
              simp only [impl_FirstVanishing_l1, hI, Option.bind_some]
              rw [if_pos (by simpa using he)]
            exact ⟨(0, e), by rw [loopM_eq, s2]; rfl, fun h => absurd h he⟩
      obtain ⟨r', g1, g2⟩ := loops 9 0 rfl
      have g1' : loopM (fun s : Int => impl_FirstVanishing_l1 q n s) 0 = some r' := g1
      simp only [impl_FirstVanishing, range_impl, hp, if_true, if_pos hn, Option.bind_some, bne_self_eq_false, Bool.false_eq_true, if_false, g1'] at h
      obtain rfl := Option.some.inj h
      exact g2 h0
    · simp [impl_FirstVanishing, range_impl, hp, hn] at h
      rw [← h] at h0; cases h0
  · simp [impl_FirstVanishing, range_impl, hp] at h
    rw [← h] at h0; cases h0
theorem psumO {d k : Nat} (hk : k ≤ 40) (hd : d ≤ 1000) : impl_PowerSum P.p d k = some (if fewMonic P.n d = true then (if k * d ≤ 63 then (pad (SS P d k).1, 0) else (vrep 64 0, 3)) else (vrep 64 0, 2)) := by
  rw [← psum_S]
  exact powerSumI_is (q := P.n) P.ok hk hd
theorem SS_len {d k : Nat} (h : k * d ≤ 63) : (SS P d k).len ≤ 64 := by
  have h1 := psum_len (p := P.n) (d := d) (k := k) P.qq.1 h (P.n ^ d) (Nat.le_refl _)
  rw [psum_S] at h1
  exact h1
theorem psum_get {p d k : Int} {r : V64 × Int} (h : impl_PowerSum p d k = some r) : (r.2 ≠ 0 ∧ r.1 = vrep 64 0) ∨
    ∃ (P : Pri) (n m : Nat), p = P.p ∧ d = n ∧ k = m ∧ m ≤ 40 ∧ n ≤ 8 ∧ fewMonic P.n n = true ∧ m * n ≤ 63 ∧ r = (pad (SS P n m).1, 0) := by
  by_cases hp : isP p = true
  · have hp2 := isP_pos hp
    obtain ⟨q, rfl⟩ : ∃ q : Nat, p = q := ⟨p.toNat, by omega⟩
    by_cases hk : 0 ≤ k ∧ k ≤ 40
    · by_cases hd : 0 ≤ d ∧ fewMonic q d.toNat = true
      · obtain ⟨n, rfl⟩ : ∃ n : Nat, d = n := ⟨d.toNat, by omega⟩
        obtain ⟨m, rfl⟩ : ∃ m : Nat, k = m := ⟨k.toNat, by omega⟩
        obtain ⟨_, hf⟩ := hd
        simp only [Int.toNat_natCast] at hf
        have h4 : n ≤ 8 ∧ q ^ n ≤ 343 := by simpa [fewMonic] using hf
        have h1 := psumO (P := ⟨q, hp⟩) (d := n) (k := m) (by omega) (by omega)
        have h1' : impl_PowerSum (q : Int) n m = _ := h1
        have hf' : fewMonic (Pri.n ⟨q, hp⟩) n = true := hf
        rw [h1', if_pos hf'] at h
        by_cases h5 : m * n ≤ 63
        · rw [if_pos h5] at h
          exact .inr ⟨⟨q, hp⟩, n, m, rfl, rfl, rfl, by omega, h4.1, hf, h5, (Option.some.inj h).symm⟩
        · rw [if_neg h5] at h
          obtain rfl := Option.some.inj h
          exact .inl ⟨by simp, rfl⟩
      · left
        have hx : impl_PowerSum (q : Int) d k = some (vrep 64 0, 2) := by
          unfold impl_PowerSum impl_isExponent impl_within
          rw [isPrime_impl, hp, isSumDegree_is (by omega)]
          have : (decide (0 ≤ d) && fewMonic q d.toNat) = false := by
            cases h : (decide (0 ≤ d) && fewMonic q d.toNat) with
            | false => rfl
            | true => exact absurd (by simpa using h) hd
          rw [this]
          simp [hk.1, hk.2]
        rw [hx] at h
        obtain rfl := Option.some.inj h
        exact ⟨by simp, rfl⟩
    · left
      have hx : impl_PowerSum (q : Int) d k = some (vrep 64 0, 2) := by
        unfold impl_PowerSum impl_isExponent impl_within
        rw [isPrime_impl, hp]
        by_cases h3 : 0 ≤ k
        · have h4 : ¬ k ≤ 40 := fun h => hk ⟨h3, h⟩
          simp [h3, h4]
        · simp [h3]
      rw [hx] at h
      obtain rfl := Option.some.inj h
      exact ⟨by simp, rfl⟩
  · left
    have hx : impl_PowerSum p d k = some (vrep 64 0, 1) := by
      unfold impl_PowerSum
      rw [isPrime_impl]
      simp [hp]
    rw [hx] at h
    obtain rfl := Option.some.inj h
    exact ⟨by simp, rfl⟩
end Go.Proofs.Ytkbnegemdlnncaa
/- Draws: the source of numbers, in the reference. -/
namespace Go.Proofs.Ytkbnegemdlnncaa
open Go.Abs
abbrev Src := List Int × Int × Int
structure SrcOk (s : Src) : Prop where
  len : s.1.length ≤ 4096
  bytes : ∀ x ∈ s.1, 0 ≤ x ∧ x < 256
  at' : 0 ≤ s.2.1 ∧ s.2.1 ≤ 4096
theorem mask_is (b : BitVec 64) : ∃ k : Nat, k ≤ 16777215 ∧ IntKind.u64.wrap ((b &&& BitVec.ofInt 64 16777215).toNat : Int) = (k : Int) := by
  refine ⟨(b &&& BitVec.ofInt 64 16777215).toNat, ?_, ?_⟩
  · rw [BitVec.toNat_and]
    exact Nat.le_trans Nat.and_le_right (by decide)
  · have h : (b &&& BitVec.ofInt 64 16777215).toNat ≤ 16777215 := by
      rw [BitVec.toNat_and]
      exact Nat.le_trans Nat.and_le_right (by decide)
    generalize (b &&& BitVec.ofInt 64 16777215).toNat = q at h
    simp only [IntKind.wrap, IntKind.signed, IntKind.bits]
    simp
    omega
theorem next_is {s : Src} (h : SrcOk s) {n : Int} (hn : n ≤ 4611686018427387904) : ∃ (r : Int) (s' : Src), spec_l01Next_of_src s n = some (r, s') ∧ SrcOk s' ∧ 0 ≤ r ∧ (1 ≤ n → r < n) ∧ (n < 1 → r = 0) := by
  by_cases h1 : n < 1
  · refine ⟨0, s, ?_, h, by omega, fun h2 => by omega, fun _ => rfl⟩
    simp only [spec_l01Next_of_src]
    rw [if_pos (decide_eq_true h1)]
  · obtain ⟨y, hy⟩ : ∃ y, IntKind.u64.wrap (IntKind.u64.wrap (s.2.2 * 6364136223846793005) + 1442695040888963407) = y := ⟨_, rfl⟩
    obtain ⟨k, k1, k2⟩ := mask_is (BitVec.ofInt 64 (Int.fdiv y (2 ^ (min (33 : Int).toNat 64))))
    have k2' : IntKind.u64.wrap (BitVec.ofInt IntKind.u64.bits (Int.fdiv y (2 ^ (min (33 : Int).toNat IntKind.u64.bits))) &&& BitVec.ofInt IntKind.u64.bits 16777215).toNat = (k : Int) := k2
    obtain ⟨hl, hb, ha⟩ := h
    by_cases h2 : s.2.1 < (s.1.length : Int)
    · have hm : rd s.1 s.2.1.toNat ∈ s.1 := by
        have : s.2.1.toNat < s.1.length := by omega
        simp [rd, this]
      have hbb := hb _ hm
      refine ⟨Int.tmod (k + rd s.1 s.2.1.toNat) n, (s.1, s.2.1 + 1, y), ?_, ⟨hl, hb, by simp only; omega⟩, ?_, fun _ => ?_, fun h3 => absurd h3 h1⟩
      · simp only [spec_l01Next_of_src, letp, hy, k2']
        rw [if_neg (by rw [decide_eq_true_eq]; exact h1), if_pos (decide_eq_true h2), ifp_pos (by omega), wrap64 (n := (k : Int)) (by omega) (by omega), wrap64 (n := rd s.1 s.2.1.toNat) (by omega) (by omega), wrap64 (by omega) (by omega), wrap64 (by omega) (by omega)]
        simp only [Option.bind_some]
        rw [ifp_pos (by omega)]
      · rw [Int.tmod_eq_emod_of_nonneg (by omega)]; exact Int.emod_nonneg _ (by omega)
      · rw [Int.tmod_eq_emod_of_nonneg (by omega)]; exact Int.emod_lt_of_pos _ (by omega)
    · refine ⟨Int.tmod k n, (s.1, s.2.1, y), ?_, ⟨hl, hb, ha⟩, ?_, fun _ => ?_, fun h3 => absurd h3 h1⟩
      · simp only [spec_l01Next_of_src, letp, hy, k2']
        rw [if_neg (by rw [decide_eq_true_eq]; exact h1), if_neg (by rw [decide_eq_true_eq]; exact h2), wrap64 (n := (k : Int)) (by omega) (by omega)]
        simp only [Option.bind_some]
        rw [ifp_pos (by omega)]
      · rw [Int.tmod_eq_emod_of_nonneg (by omega)]; exact Int.emod_nonneg _ (by omega)
      · rw [Int.tmod_eq_emod_of_nonneg (by omega)]; exact Int.emod_lt_of_pos _ (by omega)
theorem pick_is {s : Src} (h : SrcOk s) {l : List Int} (h0 : l ≠ []) (hl : l.length ≤ 1000) : ∃ (r : Int) (s' : Src), spec_l01Pick_of_src s l = some (r, s') ∧ SrcOk s' ∧ r ∈ l := by
  have hp : 1 ≤ l.length := by
    cases l with
    | nil => exact absurd rfl h0
    | cons _ _ => simp
  obtain ⟨r, s', h1, h2, h3, h4, _⟩ := next_is h (n := (l.length : Int)) (by omega)
  have h5 := h4 (by omega)
  refine ⟨rd l r.toNat, s', ?_, h2, ?_⟩
  · simp only [spec_l01Pick_of_src, h1, Option.bind_some]
    rw [ifp_pos (by omega)]
  · have : r.toNat < l.length := by omega
    simp [rd, this]
end Go.Proofs.Ytkbnegemdlnncaa
/- The source of a code. -/
namespace Go.Proofs.Ytkbnegemdlnncaa
open Go.Abs
theorem from_step {c : List Int} (hl : c.length ≤ 4096) {i : Nat} (hi : i < c.length) (s : Src) : ∃ W, spec_l01From_l1 c (i : Int) s = some (.inl (((i + 1 : Nat) : Int), (s.1, s.2.1, W))) := by
  have h1 : decide ((i : Int) < (c.length : Int)) = true := decide_eq_true (by omega)
  have h2 : decide ((i : Int) < 4096) = true := decide_eq_true (by omega)
  have h3 : IntKind.i64.wrap ((i : Int) + 1) = ((i + 1 : Nat) : Int) := by rw [wrap64 (by omega) (by omega)]; rfl
  have h4 : 0 ≤ (i : Int) ∧ (i : Int) < ((c.length : Nat) : Int) := by omega
  simp only [spec_l01From_l1, letp, h1, h2, h3, Option.bind_some, if_true]
  rw [ifp_pos h4]
  exact ⟨_, rfl⟩
theorem from_stop {c : List Int} (s : Src) : spec_l01From_l1 c (c.length : Int) s = some (.inr s) := by
  have h1 : decide ((c.length : Int) < (c.length : Int)) = false := decide_eq_false (by omega)
  simp only [spec_l01From_l1, h1, Bool.false_eq_true, if_false, Option.bind_some]
theorem from_loop {c : List Int} (hl : c.length ≤ 4096) (y : Int) : ∃ W, loopM (fun s : Int × Src => spec_l01From_l1 c s.1 s.2) (0, (c, (0 : Int), y)) = some (c, (0 : Int), W) := by
  obtain ⟨s, h1, h2⟩ := loopM_for (body := fun s : Int × Src => spec_l01From_l1 c s.1 s.2) (fun i s => ((i : Int), s)) (fun s => s) c.length
    (fun _ s => s.1 = c ∧ s.2.1 = 0) (fun i s hi hI => by
      obtain ⟨W, hW⟩ := from_step hl hi s
      exact ⟨_, hW, hI⟩) (fun s _ => from_stop s) c.length 0 (c, 0, y) (by omega) ⟨rfl, rfl⟩
  obtain ⟨a, b, W⟩ := s
  obtain ⟨rfl, rfl⟩ : a = c ∧ b = 0 := h2
  exact ⟨W, h1⟩
theorem from_is {c : List Int} (hl : c.length ≤ 4096) (hb : ∀ x ∈ c, 0 ≤ x ∧ x < 256) : ∃ s, spec_l01From c = some s ∧ SrcOk s := by
  have key : ∀ y : Int, ∃ s : Src, (Option.bind (loopM (fun s : Int × Src => spec_l01From_l1 c s.1 s.2) (0, (c, (0 : Int), y))) fun x66 => some x66) = some s ∧ SrcOk s := fun y => by
    obtain ⟨W, hW⟩ := from_loop hl y
    exact ⟨(c, 0, W), by rw [hW, Option.bind_some], ⟨hl, hb, ⟨Int.le_refl 0, show (0 : Int) ≤ 4096 by omega⟩⟩⟩
  exact key _
theorem near_is {s : Src} (h : SrcOk s) {n : Int} (h0 : 0 ≤ n) (hn : n ≤ 1000000000000) : ∃ (r : Int) (s' : Src), spec_l01Near_of_src s n = some (r, s') ∧ SrcOk s' := by
  obtain ⟨r, s1, h1, h2, _⟩ := next_is h (n := 14) (by omega)
  have ew : IntKind.i64.wrap (n + 1) = n + 1 := wrap64 (by omega) (by omega)
  simp only [spec_l01Near_of_src, h1, Option.bind_some, ew]
  by_cases hr : r = 0
  · obtain ⟨r', s2, h3, h4, _⟩ := pick_is h2 (l := [-1, n + 1, 1099511627776, -4611686018427387904]) (by simp) (by simp)
    rw [if_pos (by rw [hr]; rfl)]
    exact ⟨r', s2, by rw [h3, Option.bind_some], h4⟩
  · obtain ⟨r', s2, h3, h4, _⟩ := next_is h2 (n := n + 1) (by omega)
    rw [if_neg (by rw [beq_iff_eq]; exact hr)]
    exact ⟨r', s2, by rw [h3, Option.bind_some], h4⟩
end Go.Proofs.Ytkbnegemdlnncaa
/- The draws of power sums. -/
namespace Go.Proofs.Ytkbnegemdlnncaa
open Go.Abs
theorem draw8_is {s : Src} (h : SrcOk s) : ∃ (p d : Int) (s' : Src), spec_l08Draw_of_src s = some (p, d, s') ∧ SrcOk s' := by
  obtain ⟨p, s1, h1, h2, _⟩ := pick_is h (l := [2, 2, 3, 3, 5, 7]) (by simp) (by simp)
  have e1 : spec_l01DrawPrime_of_src s = some (p, s1) := by simp only [spec_l01DrawPrime_of_src, h1, Option.bind_some]
  obtain ⟨r, s2, h3, h4, _⟩ := next_is h2 (n := 40) (by omega)
  have mid : ∃ (q : Int) (s3 : Src), (if (r == 0) = true then (Option.bind (spec_l01Pick_of_src s2 ([0, 4, 11])) fun r20 => some (r20.1, r20.2)) else some (p, s2)) = some (q, s3) ∧ SrcOk s3 := by
    by_cases hr : r = 0
    · obtain ⟨q, s3, h5, h6, _⟩ := pick_is h4 (l := [0, 4, 11]) (by simp) (by simp)
      exact ⟨q, s3, by rw [if_pos (by rw [hr]; rfl), h5, Option.bind_some], h6⟩
    · exact ⟨p, s2, by rw [if_neg (by rw [beq_iff_eq]; exact hr)], h4⟩
  obtain ⟨q, s3, h5, h6⟩ := mid
  obtain ⟨n, s4, h7, h8⟩ := near_is h6 (n := 8) (by omega) (by omega)
  obtain ⟨d, s5, h9, h10, _⟩ := pick_is h8 (l := [0, 1, 1, 2, 2, 3, n]) (by simp) (by simp)
  refine ⟨q, d, s5, ?_, h10⟩
  simp only [spec_l08Draw_of_src, e1, h3, Option.bind_some, h5, h7, h9]
section
variable {c : List Int} (hl : c.length ≤ 4096) (hb : ∀ x ∈ c, 0 ≤ x ∧ x < 256)
include hl hb
theorem drawPS_is : ∃ r, spec_DrawPowerSum c = some r := by
  obtain ⟨s, h1, h2⟩ := from_is hl hb
  obtain ⟨p, d, s1, h3, h4⟩ := draw8_is h2
  obtain ⟨a, s2, h5, h6, _⟩ := next_is h4 (n := 8) (by omega)
  obtain ⟨b, s3, h7, h8, _⟩ := next_is h6 (n := 20) (by omega)
  obtain ⟨e, s4, h9, h10⟩ := near_is h8 (n := 40) (by omega) (by omega)
  obtain ⟨f, s5, h11, _⟩ := pick_is h10 (l := [a, b, e]) (by simp) (by simp)
  exact ⟨(p, d, f), by simp only [spec_DrawPowerSum, h1, h3, h5, h7, h9, h11, Option.bind_some]⟩
theorem drawDS_is : ∃ r, spec_DrawDigitSum c = some r := by
  obtain ⟨s, h1, h2⟩ := from_is hl hb
  obtain ⟨p, d, s1, h3, h4⟩ := draw8_is h2
  obtain ⟨a, s2, h5, h6, _⟩ := next_is h4 (n := 100) (by omega)
  obtain ⟨b, s3, h7, h8, _⟩ := next_is h6 (n := 1000000) (by omega)
  obtain ⟨e, s4, h9, h10⟩ := near_is h8 (n := 1000000000000) (by omega) (by omega)
  obtain ⟨f, s5, h11, _⟩ := pick_is h10 (l := [a, b, e]) (by simp) (by simp)
  exact ⟨(p, f), by simp only [spec_DrawDigitSum, h1, h3, h5, h7, h9, h11, Option.bind_some]⟩
theorem drawZ_is : ∃ r, spec_DrawZetaAt c = some r := by
  obtain ⟨s, h1, h2⟩ := from_is hl hb
  obtain ⟨p, d, s1, h3, h4⟩ := draw8_is h2
  obtain ⟨a, s2, h5, h6, _⟩ := next_is h4 (n := 8) (by omega)
  obtain ⟨b, s3, h7, h8, _⟩ := next_is h6 (n := 20) (by omega)
  obtain ⟨e, s4, h9, h10⟩ := near_is h8 (n := 40) (by omega) (by omega)
  obtain ⟨f, s5, h11, _⟩ := pick_is h10 (l := [a, b, e]) (by simp) (by simp)
  exact ⟨(p, f), by simp only [spec_DrawZetaAt, h1, h3, h5, h7, h9, h11, Option.bind_some]⟩
theorem drawFV_is : ∃ r, spec_DrawFirstVanishing c = some r := by
  obtain ⟨r, h⟩ := drawZ_is hl hb
  exact ⟨(r.1, r.2), by simp only [spec_DrawFirstVanishing, h, Option.bind_some]⟩
theorem drawNS_is : ∃ r, spec_DrawNestedSum c = some r := by
  obtain ⟨s, h1, h2⟩ := from_is hl hb
  obtain ⟨p, d, s1, h3, h4⟩ := draw8_is h2
  obtain ⟨a, s2, h5, h6, _⟩ := next_is h4 (n := 6) (by omega)
  obtain ⟨b, s3, h7, h8⟩ := near_is h6 (n := 40) (by omega) (by omega)
  obtain ⟨e, s4, h9, h10, _⟩ := pick_is h8 (l := [a, b]) (by simp) (by simp)
  obtain ⟨f, s5, h11, _⟩ := next_is h10 (n := 8) (by omega)
  exact ⟨(p, d, e, f), by simp only [spec_DrawNestedSum, h1, h3, h5, h7, h9, h11, Option.bind_some]⟩
end
end Go.Proofs.Ytkbnegemdlnncaa
/- What both sides return: FnExactDigitSum: both count the digits to the base p. -/
namespace Go.Proofs.Ytkbnegemdlnncaa
open Go.Abs
theorem digitSum_key (p k : Int) : ∃ r, spec_DigitSum p k = some r ∧ impl_DigitSum p k = some r := by
    cases hp : isP p
    · refine ⟨(0, 1), ?_, ?_⟩
      · unfold spec_DigitSum; rw [range_spec, hp]; simp
      · unfold impl_DigitSum; rw [range_impl, hp]; simp
    · by_cases hk : 0 ≤ k ∧ k ≤ 1000000000000
      · obtain ⟨q, rfl⟩ : ∃ q : Nat, p = q := ⟨p.toNat, by have := isP_pos hp; omega⟩
        obtain ⟨n, rfl⟩ : ∃ n : Nat, k = n := ⟨k.toNat, by omega⟩
        have hp2 := isP_pos hp
        refine ⟨_, ?_, digitSumI_is hp (by omega)⟩
        unfold spec_DigitSum
        rw [range_spec, hp]
        simp [hk, digitsS_is (show 2 ≤ q by omega) (show n ≤ 1000000000000 by omega)]
      · refine ⟨(0, 2), ?_, ?_⟩
        · unfold spec_DigitSum; rw [range_spec, hp]; simp [hk]
        · unfold impl_DigitSum; rw [range_impl, hp]; simp [hk]
end Go.Proofs.Ytkbnegemdlnncaa
/- What both sides return: FnExactPowerSum. -/
namespace Go.Proofs.Ytkbnegemdlnncaa
open Go.Abs

theorem powerSum_key (p d k : Int) : ∃ r, spec_PowerSum p d k = some r ∧ impl_PowerSum p d k = some r := by
    unfold spec_PowerSum impl_PowerSum impl_isExponent impl_within
    rw [code8_is (by simp), isPrime_impl]
    simp only [Option.bind_some, List.mem_singleton, forall_eq]
    cases hp : isP p with
    | false => exact ⟨_, by simp; rfl, by simp⟩
    | true =>
      have hp2 := isP_pos hp
      obtain ⟨q, rfl⟩ : ∃ q : Nat, p = q := ⟨p.toNat, by omega⟩
      rw [isSumDegree_is (by omega)]
      simp only [Int.toNat_natCast, Option.bind_some]
      by_cases h1 : 0 ≤ k ∧ k ≤ 40
      · by_cases h2 : 0 ≤ d ∧ fewMonic q d.toNat = true
        · obtain ⟨n, rfl⟩ : ∃ n : Nat, d = n := ⟨d.toNat, by omega⟩
          obtain ⟨m, rfl⟩ : ∃ m : Nat, k = m := ⟨k.toNat, by omega⟩
          obtain ⟨_, h3⟩ := h2
          simp only [Int.toNat_natCast] at h3
          have h4 : n ≤ 8 ∧ q ^ n ≤ 343 := by simpa [fewMonic] using h3
          have e0 : (n : Int) * (m : Int) = ((m * n : Nat) : Int) := by rw [Int.natCast_mul, Int.mul_comm]
          have hm : m * n ≤ 40 * 8 := Nat.mul_le_mul (by omega) h4.1
          rw [e0, wrap64 (by omega) (by omega)]
          by_cases h5 : m * n ≤ 63
          · have hl := psum_len (p := q) (d := n) (k := m) (by omega) h5 (q ^ n) (Nat.le_refl _)
            rw [sum8_is (by omega) (by omega) h4.2 (by omega) h5, powerSum_is (by omega) (by omega) h4.2 (by omega) h5]
            simp only [Option.bind_some]
            rw [told_is ((psum_row (by omega) n m _).bytes (by omega)) hl]
            refine ⟨(pad (psum q n m (q ^ n)), 0), ?_, ?_⟩
            · simp [h1, h3]
            · have h6 : ¬ ((m : Int) * n) > 63 := by rw [Int.mul_comm, e0]; omega
              simp [h1.1, h1.2, h3]
              omega
          · rw [sum8_no (by omega) (by omega) (by omega)]
            refine ⟨(vrep 64 0, 3), ?_, ?_⟩
            · simp [h1, h3]
            · have : ¬ (((m * n : Nat) : Int) ≤ 63) := by omega
              simp [h1.1, h1.2, h3]
              omega
        · refine ⟨(vrep 64 0, 2), ?_, ?_⟩
          · simp [h2]
          · have : (decide (0 ≤ d) && fewMonic q d.toNat) = false := by
              cases h : (decide (0 ≤ d) && fewMonic q d.toNat) with
              | false => rfl
              | true => exact absurd (by simpa using h) h2
            rw [this]
            by_cases h3 : 0 ≤ k <;> by_cases h4 : k ≤ 40 <;> simp [h3, h4]
      · refine ⟨(vrep 64 0, 2), ?_, ?_⟩
        · rw [if_neg h1]; simp
        · by_cases h3 : 0 ≤ k
          · have h4 : ¬ k ≤ 40 := fun h => h1 ⟨h3, h⟩
            simp [h3, h4]
          · simp [h3]
end Go.Proofs.Ytkbnegemdlnncaa
/- What both sides return: FnExactZetaAt. -/
namespace Go.Proofs.Ytkbnegemdlnncaa
open Go.Abs

theorem zetaAt_key (p k : Int) : ∃ r, spec_ZetaAt p k = some r ∧ impl_ZetaAt p k = some r := by
    unfold spec_ZetaAt impl_ZetaAt
    rw [range_spec, range_impl]
    simp only [Option.bind_some]
    cases hp : isP p with
    | false => exact ⟨_, by simp; rfl, by simp⟩
    | true =>
      have hp2 := isP_pos hp
      by_cases hk : 0 ≤ k ∧ k ≤ 40
      · obtain ⟨q, rfl⟩ : ∃ q : Nat, p = q := ⟨p.toNat, by omega⟩
        obtain ⟨n, rfl⟩ : ∃ n : Nat, k = n := ⟨k.toNat, by omega⟩
        have hq : 2 ≤ q ∧ q ≤ 7 := by omega
        obtain ⟨g1, g2, g3⟩ := digs_sum (p := q) n
        have hs0 : 0 ≤ (digs q n).sum := by
          have : ∀ (k : List Int), (∀ d ∈ k, 0 ≤ d) → 0 ≤ k.sum := by
            intro k
            induction k with
            | nil => simp
            | cons a k ih => intro h; simp only [List.sum_cons]; have := h a (by simp); have := ih fun d hd => h d (by simp [hd]); omega
          exact this _ g1
        obtain ⟨t, ht⟩ : ∃ t : Nat, (digs q n).sum = (t : Int) := ⟨(digs q n).sum.toNat, by omega⟩
        have e1 : IntKind.i64.wrap ((q : Int) - 1) = ((q - 1 : Nat) : Int) := by rw [wrap64 (by omega) (by omega)]; omega
        have e2 : IntKind.i64.wrap (Int.tdiv (t : Int) ((q - 1 : Nat) : Int)) = ((t / (q - 1) : Nat) : Int) := by
          have h : Int.tdiv (t : Int) ((q - 1 : Nat) : Int) = ((t / (q - 1) : Nat) : Int) := rfl
          have hw : ∀ l : Nat, l ≤ 1000 → IntKind.i64.wrap (l : Int) = (l : Int) := fun l hl => wrap64 (by omega) (by omega)
          rw [h]
          exact hw _ (Nat.le_trans (Nat.div_le_self t (q - 1)) (by omega))
        have hl := Nat.div_le_self t (q - 1)
        obtain ⟨c, h3, h4⟩ := count_is (n := t / (q - 1)) hq (by omega)
        simp only [hk, and_self, if_true, bne_self_eq_false, Bool.false_eq_true, if_false, digitsS_is hq.1 (show n ≤ 1000000000000 by omega), digitSumI_is hp (show n ≤ 1000000000000 by omega), Option.bind_some, ht, e1, e2, h3, isSummed_is hq (show t / (q - 1) ≤ 1000000 by omega)]
        rw [ifp_pos (by omega), ifp_pos (by omega)]
        generalize hL : t / (q - 1) = l at *
        by_cases h5 : q ^ l ≤ 343
        · rw [if_neg (by rw [decide_eq_true_eq]; omega)]
          simp only [h5, decide_true, Bool.not_true, Bool.false_eq_true, if_false, letp]
          have hlk : l * n ≤ 40 * 40 := Nat.mul_le_mul (by omega) (by omega)
          have e3 : (l : Int) * (n : Int) = ((l * n : Nat) : Int) := by rw [Int.natCast_mul]
          have e4 : IntKind.i64.wrap ((l : Int) + 1) = ((l + 1 : Nat) : Int) := by rw [wrap64 (by omega) (by omega)]; rfl
          have hS := zloopS (p := q) (k := n) (n := l + 1) hq (by omega) (.inr (by simpa using h5)) (fail := ((vrep 64 (0 : Int)), (3 : Int))) (body := fun s : Int × V64 => spec_ZetaAt_l1 (t : Int) q n s.1 s.2) (fun d s hd => by
            simp only [spec_ZetaAt_l1, letp, e1, e2]
            rw [if_pos (decide_eq_true (by omega))]) (fun s => by
            simp only [spec_ZetaAt_l1, letp, e1, e2]
            rw [if_neg (by rw [decide_eq_true_eq]; omega)])
          rw [hS, e3, wrap64 (n := ((l * n : Nat) : Int)) (by omega) (by omega), e4]
          simp only [Nat.add_sub_cancel, Nat.succ_ne_zero, false_or, Nat.mul_comm n l]
          by_cases h6 : l * n ≤ 63
          · have hkn : l + 1 = 0 ∨ n * (l + 1 - 1) ≤ 63 := .inr (by rw [Nat.add_sub_cancel, Nat.mul_comm]; exact h6)
            have hI := zloopI (p := q) (k := n) (n := l + 1) hq (by omega) (.inr (by simpa using h5)) hkn (body := fun s : List Int × Int => impl_ZetaAt_l1 ((l + 1 : Nat) : Int) q n s.1 s.2) (fun d s hd => by
              simp only [impl_ZetaAt_l1]
              rw [if_pos (decide_eq_true (by omega))]) (fun s => by
              simp only [impl_ZetaAt_l1]
              rw [if_neg (by rw [decide_eq_true_eq]; omega)])
            have hzl := zs_len (p := q) (k := n) hq.1 (l + 1) hkn
            rw [if_pos h6, if_neg (by rw [decide_eq_true_eq]; omega), hI]
            simp only [Option.bind_some]
            rw [told_is ((zs_row hq.1 n _).bytes (by omega)) hzl]
            exact ⟨_, rfl, rfl⟩
          · rw [if_neg h6, if_pos (decide_eq_true (by omega))]
            exact ⟨_, rfl, rfl⟩
        · rw [if_pos (decide_eq_true (by omega))]
          simp only [h5, decide_false, Bool.not_false, if_true]
          exact ⟨_, rfl, rfl⟩
      · exact ⟨_, by simp [hk]; rfl, by simp [hk]⟩
end Go.Proofs.Ytkbnegemdlnncaa
/- What both sides return: FnExactNestedSum. -/
namespace Go.Proofs.Ytkbnegemdlnncaa
open Go.Abs

theorem exponent_is (k : Int) : impl_isExponent k = some (decide (0 ≤ k ∧ k ≤ 40)) := by
  unfold impl_isExponent impl_within
  by_cases h1 : 0 ≤ k <;> by_cases h2 : k ≤ 40 <;> simp [h1, h2]
theorem told_big {l : List Int} (hl : 64 < l.length) (hl2 : l.length ≤ 1000000) : impl_told l = some (vrep 64 0, 3) := by
  simp only [impl_told, impl_row_fits, impl_row_degree, Option.bind_some]
  rw [wrap64 (by omega) (by omega), decide_eq_false (by omega)]
  rfl
theorem nestedSum_key (p d k l : Int) : ∃ r, spec_NestedSum p d k l = some r ∧ impl_NestedSum p d k l = some r := by
    unfold spec_NestedSum impl_NestedSum
    rw [code8_is (by simp), isPrime_impl, exponent_is, exponent_is]
    simp only [Option.bind_some]
    cases hp : isP p with
    | false => exact ⟨_, by simp; rfl, by simp⟩
    | true =>
      have hp2 := isP_pos hp
      obtain ⟨q, rfl⟩ : ∃ q : Nat, p = q := ⟨p.toNat, by omega⟩
      have hq : 2 ≤ q ∧ q ≤ 7 := by omega
      rw [isSumDegree_is hq]
      simp only [Int.toNat_natCast, Option.bind_some, Bool.not_true, Bool.false_eq_true, if_false, if_true]
      have hall : (∀ x ∈ [k, l], 0 ≤ x ∧ x ≤ 40) ↔ ((0 ≤ k ∧ k ≤ 40) ∧ (0 ≤ l ∧ l ≤ 40)) := by simp
      simp only [hall]
      by_cases hc : (0 ≤ d ∧ fewMonic q d.toNat = true) ∧ (0 ≤ k ∧ k ≤ 40) ∧ (0 ≤ l ∧ l ≤ 40)
      · obtain ⟨⟨hd0, hf⟩, hk, hl⟩ := hc
        obtain ⟨n, rfl⟩ : ∃ n : Nat, d = n := ⟨d.toNat, by omega⟩
        obtain ⟨a, rfl⟩ : ∃ a : Nat, k = a := ⟨k.toNat, by omega⟩
        obtain ⟨b, rfl⟩ : ∃ b : Nat, l = b := ⟨l.toNat, by omega⟩
        simp only [Int.toNat_natCast] at hf ⊢
        have h4 : n ≤ 8 ∧ q ^ n ≤ 343 := by simpa [fewMonic] using hf
        have han : a * n ≤ 40 * 8 := Nat.mul_le_mul (by omega) h4.1
        have hbn : b * (n - 1) ≤ 40 * 8 := Nat.mul_le_mul (by omega) (by omega)
        have e1 : IntKind.i64.wrap ((n : Int) * (a : Int)) = ((a * n : Nat) : Int) := by rw [Int.mul_comm, ← Int.natCast_mul, wrap64 (by omega) (by omega)]
        have hpow : n = 0 ∨ q ^ (n - 1) ≤ 343 := by
          rcases Nat.eq_zero_or_pos n with h | h
          · exact .inl h
          · exact .inr (Nat.le_trans (ppow_mono hq.1 (by omega)) h4.2)
        have c2 : decide (IntKind.i64.wrap (IntKind.i64.wrap ((n : Int) - 1) * (b : Int)) > 63) = decide (¬ (n = 0 ∨ b * (n - 1) ≤ 63)) := by
          rcases Nat.eq_zero_or_pos n with h | h
          · subst h
            have : IntKind.i64.wrap (((0 : Nat) : Int) - 1) = -1 := by rw [wrap64 (by omega) (by omega)]; rfl
            rw [this, wrap64 (by omega) (by omega)]
            rw [Bool.eq_iff_iff]; simp only [decide_eq_true_eq]; omega
          · have : IntKind.i64.wrap ((n : Int) - 1) = ((n - 1 : Nat) : Int) := by rw [wrap64 (by omega) (by omega)]; omega
            rw [this, Int.mul_comm, ← Int.natCast_mul, wrap64 (by omega) (by omega)]
            rw [Bool.eq_iff_iff]; simp only [decide_eq_true_eq]; omega
        have hS := zloopS (p := q) (k := b) (n := n) hq (by omega) hpow (fail := ((vrep 64 (0 : Int)), (3 : Int))) (body := fun s : Int × V64 => spec_NestedSum_l1 n q b s.1 s.2) (fun d s hd => by
          simp only [spec_NestedSum_l1]
          rw [if_pos (decide_eq_true (by omega))]) (fun s => by
          simp only [spec_NestedSum_l1]
          rw [if_neg (by rw [decide_eq_true_eq]; omega)])
        simp only [hd0, hf, hk, hl, and_self, if_true, bne_self_eq_false, Bool.false_eq_true, if_false, decide_true, Bool.not_true, Bool.and_self, Option.bind_some, e1, letp, c2]
        by_cases h5 : a * n ≤ 63
        · rw [sum8_is hq h4.1 h4.2 (by omega) h5, if_neg (by rw [decide_eq_true_eq]; omega)]
          simp only [Option.bind_some, Bool.not_true, Bool.false_eq_true, if_false, hS]
          by_cases h6 : n = 0 ∨ b * (n - 1) ≤ 63
          · have hI := zloopI (p := q) (k := b) (n := n) hq (by omega) hpow h6 (body := fun s : List Int × Int => impl_NestedSum_l1 n q b s.1 s.2) (fun d s hd => by
              simp only [impl_NestedSum_l1]
              rw [if_pos (decide_eq_true (by omega))]) (fun s => by
              simp only [impl_NestedSum_l1]
              rw [if_neg (by rw [decide_eq_true_eq]; omega)])
            have hzl := zs_len (p := q) (k := b) hq.1 n h6
            have hzr := zs_row hq.1 b n
            have hpl := psum_len (p := q) (d := n) (k := a) hq.1 h5 (q ^ n) (Nat.le_refl _)
            have hpr := psum_row hq.1 n a (q ^ n)
            rw [if_pos h6, decide_eq_false (fun h => h h6), hI, powerSum_is hq h4.1 h4.2 (by omega) h5]
            simp only [Option.bind_some, Bool.false_eq_true, if_false]
            rw [times_is ⟨by omega, by omega⟩ (hpr.ent ⟨by omega, by omega⟩) (hzr.ent ⟨by omega, by omega⟩) (by omega) (by omega)]
            simp only [Option.bind_some]
            have hml := mul_len q (psum q n a (q ^ n)) (zs q b n)
            by_cases h7 : (psum q n a (q ^ n)).length = 0 ∨ (zs q b n).length = 0 ∨ (psum q n a (q ^ n)).length + (zs q b n).length ≤ 65
            · rw [times_pad ⟨by omega, by omega⟩ hpr hzr hpl hzl h7]
              have hle : (mul q (psum q n a (q ^ n)) (zs q b n)).length ≤ 64 := by omega
              rw [told_is ((mul_row (by omega) _ _).bytes (by omega)) hle]
              exact ⟨_, rfl, rfl⟩
            · have hex := mul_len_is hp hpr hzr (by omega) (by omega)
              rw [times_pad_no hpr hzr hpl hzl (by omega) (by omega) (by omega), told_big (by omega) (by omega)]
              exact ⟨_, rfl, rfl⟩
          · rw [if_neg h6, decide_eq_true h6]
            exact ⟨_, rfl, rfl⟩
        · rw [sum8_no (by omega) (by omega) (by omega), if_pos (decide_eq_true (by omega))]
          exact ⟨_, rfl, rfl⟩
      · refine ⟨(vrep 64 0, 2), ?_, ?_⟩
        · by_cases h1 : 0 ≤ d ∧ fewMonic q d.toNat = true
          · rw [if_pos h1, if_neg fun h => hc ⟨h1, h⟩]; rfl
          · rw [if_neg h1]; rfl
        · by_cases h1 : 0 ≤ k ∧ k ≤ 40
          · by_cases h2 : 0 ≤ l ∧ l ≤ 40
            · have h3 : (decide (0 ≤ d) && fewMonic q d.toNat) = false := by
                cases h : (decide (0 ≤ d) && fewMonic q d.toNat) with
                | false => rfl
                | true => exact absurd ⟨by simpa using h, h1, h2⟩ hc
              simp [h1, h2, h3]
            · simp [h1, h2]
          · simp [h1]
end Go.Proofs.Ytkbnegemdlnncaa
/- FnPowerSums. -/
namespace Go.Proofs.Ytkbnegemdlnncaa
open Go.Abs
variable {P : Pri}
theorem lawsBig_is (c : List Int) : laws_big c = some (decide ((c.length : Int) > 4096)) := rfl
theorem digI {m : Nat} (h : m ≤ 40) : impl_DigitSum P.p m = some ((digs P.n m).sum, 0) := digitSumI_is (q := P.n) P.ok (by omega)
theorem zero_part {b : Int × Int} {r : V64 × Int} (h : impl_ZetaAt b.1 b.2 = some r) :
    (if (r.2 == 0) = true then (if (decide (b.2 > 0)) = true then (ifp ((IntKind.i64.wrap (b.1 - 1)) ≠ 0) ((if ((Int.tmod b.2 (IntKind.i64.wrap (b.1 - 1))) == 0) = true then (some ((!decide (r.1 = ((vrep 64 (0 : Int))))))) else (some false)))) else (some false)) else (some false)) = some false := by
  by_cases h0 : r.2 = 0
  · rw [if_pos (by rw [h0]; rfl)]
    by_cases hk : b.2 > 0
    · obtain ⟨h1, h2⟩ := zeta_get h h0 hk
      rw [if_pos (decide_eq_true hk), ifp_pos h1]
      by_cases hm : Int.tmod b.2 (IntKind.i64.wrap (b.1 - 1)) = 0
      · rw [if_pos (by rw [hm]; rfl), h2 hm, decide_eq_true rfl]; rfl
      · rw [if_neg (by rw [beq_iff_eq]; exact hm)]
    · rw [decide_eq_false hk]; rfl
  · rw [if_neg (by rw [beq_iff_eq]; exact h0)]
theorem van_part {b r : Int × Int} (h : impl_FirstVanishing b.1 b.2 = some r) :
    (if (r.2 == 0) = true then (Option.bind (impl_PowerSum b.1 r.1 b.2) fun r119 => (Option.bind (α := Bool) ((if (r119.2 != 0) = true then (some true) else (some ((!decide (r119.1 = ((vrep 64 (0 : Int))))))))) fun x124 => (if x124 = true then (some (Sum.inr false)) else (some ((Sum.inl ())))))) else (some ((Sum.inl ()))) : Option (Unit ⊕ Bool)) = some (.inl ()) := by
  by_cases h0 : r.2 = 0
  · rw [if_pos (by rw [h0]; rfl), first_get h h0]
    simp only [Option.bind_some, bne_self_eq_false, Bool.false_eq_true, if_false, decide_true, Bool.not_true]
  · rw [if_neg (by rw [beq_iff_eq]; exact h0)]
theorem sum_part {p d k : Int} {r : V64 × Int} (h : impl_PowerSum p d k = some r) :
    (if (r.2 != 0) = true then (some ((decide (r.1 = ((vrep 64 (0 : Int))))))) else (Option.bind (impl_DigitSum p k) fun r132 => (Option.bind (α := Bool) ((if (r132.2 != 0) = true then (some true) else (letp ((decide (r132.1 < (IntKind.i64.wrap (d * (IntKind.i64.wrap (p - 1))))))) fun x144 => (if x144 = true then (some ((!decide (r.1 = ((vrep 64 (0 : Int))))))) else (some false))))) fun x139 => (if x139 = true then (some false) else (if (decide ((IntKind.i64.wrap (p * k)) > 40)) = true then (some true) else (Option.bind (impl_PowerOf p r.1 p) fun r151 => (Option.bind (impl_PowerSum p d (IntKind.i64.wrap (p * k))) fun r154 => (if (r151.2 != 0) = true then (some true) else (if (r154.2 != 0) = true then (some true) else (some ((decide (r151.1 = r154.1))))))))))))) = some true := by
  rcases psum_get h with ⟨h1, h2⟩ | ⟨P, n, m, rfl, rfl, rfl, hm, hn, hf, hmn, rfl⟩
  · rw [if_pos (by simpa using h1), h2, decide_eq_true rfl]
  · have hq := P.qq
    have ep : P.p = (P.n : Int) := rfl
    have e1 : IntKind.i64.wrap (P.p - 1) = ((P.n - 1 : Nat) : Int) := by rw [ep, wrap64 (by omega) (by omega)]; omega
    have hnp : n * (P.n - 1) ≤ 8 * 6 := Nat.mul_le_mul hn (by omega)
    have e2 : IntKind.i64.wrap ((n : Int) * ((P.n - 1 : Nat) : Int)) = ((n * (P.n - 1) : Nat) : Int) := by rw [← Int.natCast_mul, wrap64 (by omega) (by omega)]
    have hpk : P.n * m ≤ 7 * 40 := Nat.mul_le_mul hq.2 hm
    have e3 : IntKind.i64.wrap (P.p * (m : Int)) = ((P.n * m : Nat) : Int) := by rw [ep, ← Int.natCast_mul, wrap64 (by omega) (by omega)]
    simp only [bne_self_eq_false, Bool.false_eq_true, if_false, digI hm, Option.bind_some, e1, e2, e3, letp]
    have mid : (if (decide ((digs P.n m).sum < ((n * (P.n - 1) : Nat) : Int))) = true then (some ((!decide (pad (SS P n m).1 = ((vrep 64 (0 : Int))))))) else (some false)) = some false := by
      by_cases hv : (digs P.n m).sum < ((n * (P.n - 1) : Nat) : Int)
      · rw [if_pos (decide_eq_true hv), S_van hv, pad_zero, decide_eq_true rfl]; rfl
      · rw [decide_eq_false hv]; rfl
    rw [mid]
    simp only [Option.bind_some, Bool.false_eq_true, if_false]
    by_cases hb : ((P.n * m : Nat) : Int) > 40
    · rw [if_pos (decide_eq_true hb)]
    · have hS := SS_len (P := P) hmn
      have e4 : impl_PowerOf P.p (pad (SS P n m).1) P.p = some (if (pw (SS P n m) P.n).len ≤ 64 then (pad (pw (SS P n m) P.n).1, 0) else (vrep 64 0, 3)) := powO hS (by omega)
      have e5 := psumO (P := P) (d := n) (k := P.n * m) (by omega) (by omega)
      rw [if_pos hf, S_frob] at e5
      rw [if_neg (by rw [decide_eq_true_eq]; exact hb), e4, e5]
      simp only [Option.bind_some]
      by_cases h1 : (pw (SS P n m) P.n).len ≤ 64
      · rw [if_pos h1]
        by_cases h2 : P.n * m * n ≤ 63
        · rw [if_pos h2]
          simp only [bne_self_eq_false, Bool.false_eq_true, if_false, decide_true]
        · rw [if_neg h2]; rfl
      · rw [if_neg h1]; rfl
theorem fnPowerSums_law (c : List Int) (hb : ∀ x ∈ c, 0 ≤ x ∧ x < 256) (_ : c.length ≤ maxLen) : laws_FnPowerSums c = some true := by
  by_cases hbig : (c.length : Int) > 4096
  · simp only [laws_FnPowerSums, lawsBig_is, decide_eq_true hbig, Option.bind_some, if_true]
  · have hl : c.length ≤ 4096 := by omega
    obtain ⟨b1, e1⟩ := drawPS_is hl hb
    obtain ⟨b2, e2⟩ := drawDS_is hl hb
    obtain ⟨b3, e3⟩ := drawZ_is hl hb
    obtain ⟨b4, e4⟩ := drawNS_is hl hb
    obtain ⟨b5, e5⟩ := drawFV_is hl hb
    obtain ⟨r1, s1, i1⟩ := powerSum_key b1.1 b1.2.1 b1.2.2
    obtain ⟨r2, s2, i2⟩ := digitSum_key b2.1 b2.2
    obtain ⟨r3, s3, i3⟩ := zetaAt_key b3.1 b3.2
    obtain ⟨r4, s4, i4⟩ := nestedSum_key b4.1 b4.2.1 b4.2.2.1 b4.2.2.2
    obtain ⟨r5, s5, i5⟩ := firstVanishing_key b5.1 b5.2
    have hz := zero_part i3
    have hv := van_part i5
    have hs := sum_part i1
    simp only [laws_FnPowerSums, lawsBig_is, decide_eq_false hbig, e1, e2, e3, e4, e5, s1, s2, s3, s4, s5, i1, i2, i3, i4, i5, Option.bind_some, bne_self_eq_false, Bool.false_eq_true, if_false, decide_true, Bool.not_true, hz, hv]
    exact hs
end Go.Proofs.Ytkbnegemdlnncaa
