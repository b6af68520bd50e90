/- Own texts, put together. -/
import Derived.Test.YtkbnegemdlnncaaAbsX
import Derived.Test.YtkbnegemdlnncaaFn1
import Derived.Test.YtkbnegemdlnncaaFn2
import Derived.Test.YtkbnegemdlnncaaFn3
import Derived.Test.YtkbnegemdlnncaaFn4
import Derived.Test.YtkbnegemdlnncaaFn5
import Derived.Test.YtkbnegemdlnncaaFn6
import Derived.Test.YtkbnegemdlnncaaFn7
import Derived.Test.YtkbnegemdlnncaaFn8
set_option linter.unusedSimpArgs false
set_option linter.unusedVariables false
/- Plain facts on loops and wraps. -/
namespace Go.Abs

/-- A loop with a measure ends, and what it leaves. -/
theorem loopM_ind {α β : Type} {body : α → Option (α ⊕ β)} (I : α → Prop) (Post : α → β → Prop) (m : α → Nat)
    (step : ∀ s, I s → (∃ s', body s = some (.inl s') ∧ I s' ∧ m s' < m s ∧ ∀ r, Post s' r → Post s r) ∨ ∃ r, body s = some (.inr r) ∧ Post s r) :
    ∀ s, I s → ∃ r, loopM body s = some r ∧ Post s r := by
  have key : ∀ n s, m s ≤ n → I s → ∃ r, loopM body s = some r ∧ Post s r := by
    intro n
    induction n with
    | zero =>
      intro s hn hs
      rcases step s hs with ⟨s', h1, h2, h3, h4⟩ | ⟨r, h1, h2⟩
      · omega
      · exact ⟨r, by rw [loopM_eq, h1]; rfl, h2⟩
    | succ n ih =>
      intro s hn hs
      rcases step s hs with ⟨s', h1, h2, h3, h4⟩ | ⟨r, h1, h2⟩
      · obtain ⟨r, k1, k2⟩ := ih s' (by omega) h2
        exact ⟨r, by rw [loopM_eq, h1]; exact k1, h4 r k2⟩
      · exact ⟨r, by rw [loopM_eq, h1]; rfl, h2⟩
  exact fun s hs => key (m s) s (Nat.le_refl _) hs

theorem wrap64 {n : Int} (h1 : -9223372036854775808 ≤ n) (h2 : n < 9223372036854775808) : IntKind.i64.wrap n = n := by
  simp only [IntKind.wrap, IntKind.signed, IntKind.bits]
  simp
  omega
theorem wrap8 {n : Int} (h1 : 0 ≤ n) (h2 : n < 256) : IntKind.u8.wrap n = n := by
  simp only [IntKind.wrap, IntKind.signed, IntKind.bits]
  simp
  omega

/-- A loop that counts from i to n. -/
theorem loopM_for {α β σ : Type} {body : α → Option (α ⊕ β)} (at' : Nat → σ → α) (out : σ → β) (n : Nat) (I : Nat → σ → Prop)
    (step : ∀ i s, i < n → I i s → ∃ s', body (at' i s) = some (.inl (at' (i + 1) s')) ∧ I (i + 1) s') (stop : ∀ s, I n s → body (at' n s) = some (.inr (out s))) :
    ∀ (m i : Nat) (s : σ), i + m = n → I i s → ∃ s', loopM body (at' i s) = some (out s') ∧ I n s'
  | 0, i, s, h, hI => by
    have : i = n := by omega
    subst this
    exact ⟨s, by rw [loopM_eq, stop s hI]; rfl, hI⟩
  | m + 1, i, s, h, hI => by
    obtain ⟨s', h1, h2⟩ := step i s (by omega) hI
    obtain ⟨s'', h3, h4⟩ := loopM_for at' out n I step stop m (i + 1) s' (by omega) h2
    exact ⟨s'', by rw [loopM_eq, h1]; exact h3, h4⟩
end Go.Abs
/- Plain facts on arrays of 64 numbers. -/
namespace Go.Abs

abbrev V64 := Vec Int 64
def pad (l : List Int) : V64 := ⟨(List.range 64).map fun j => l.getD j 0, by simp⟩

theorem pad_rd (l : List Int) {j : Nat} (h : j < 64) : rd (pad l).1 j = l.getD j 0 := by
  simp [rd, pad, h]
theorem vec_ext {n : Nat} {a b : Vec Int n} (h : ∀ j, j < n → rd a.1 j = rd b.1 j) : a = b := by
  apply Subtype.ext
  apply List.ext_getElem
  · rw [a.2, b.2]
  · intro j h1 h2
    have := h j (by rw [a.2] at h1; exact h1)
    simpa [rd, h1, h2] using this
theorem rd_vset {n : Nat} (a : Vec Int n) (i j : Nat) (d : Int) (hi : i < n) : rd (vset a i d).1 j = if j = i then d else rd a.1 j := by
  have hl : i < a.1.length := by rw [a.2]; exact hi
  by_cases h : j = i
  · subst h; simp [rd, vset, hl]
  · rw [if_neg h]
    simp [rd, vset, Ne.symm h]
theorem rd_vrep {n : Nat} (j : Nat) (h : j < n) : rd (vrep n (0 : Int)).1 j = 0 := by
  simp [rd, vrep, h]
theorem pad_nil : pad [] = vrep 64 0 := vec_ext fun j h => by rw [pad_rd _ h, rd_vrep _ h]; simp
theorem pad_set (l : List Int) (d : Int) (h : l.length < 64) : vset (pad l) l.length d = pad (l ++ [d]) := by
  refine vec_ext fun j hj => ?_
  rw [rd_vset _ _ _ _ h, pad_rd _ hj, pad_rd _ hj]
  by_cases e : j = l.length
  · subst e; simp
  · rw [if_neg e]
    rcases Nat.lt_or_ge j l.length with h1 | h1
    · simp [h1, List.getElem?_append]
    · have h2 : l.length < j := by omega
      have h3 : (l ++ [d]).length ≤ j := by simp; omega
      rw [List.getD_eq_getElem?_getD, List.getD_eq_getElem?_getD, List.getElem?_eq_none h1, List.getElem?_eq_none h3]

theorem getD_app (l k : List Int) (j : Nat) : (l ++ k).getD j 0 = if j < l.length then l.getD j 0 else k.getD (j - l.length) 0 := by
  simp only [List.getD_eq_getElem?_getD, List.getElem?_append]
  split <;> rfl

/-- Bytes. -/
def Bytes (l : List Int) : Prop := ∀ d ∈ l, 0 ≤ d ∧ d < 256
end Go.Abs
/- Polynomials: coefficient functions, and rows of coefficients up to the leading one. -/
namespace Go.Abs

/-! How far a row reaches. -/
def top (g : Nat → Int) : Nat → Nat
  | 0 => 0
  | n + 1 => if g n = 0 then top g n else n + 1
theorem top_le (g : Nat → Int) : ∀ n, top g n ≤ n
  | 0 => Nat.le_refl _
  | n + 1 => by simp only [top]; split; exact Nat.le_succ_of_le (top_le g n); exact Nat.le_refl _
theorem top_zero (g : Nat → Int) : ∀ n i, top g n ≤ i → i < n → g i = 0
  | 0, i, _, h => by omega
  | n + 1, i, h1, h2 => by
    simp only [top] at h1
    split at h1
    · rename_i e
      by_cases hi : i = n
      · subst hi; exact e
      · exact top_zero g n i h1 (by omega)
    · omega
theorem top_lead (g : Nat → Int) : ∀ n, top g n ≠ 0 → g (top g n - 1) ≠ 0
  | 0, h => by simp [top] at h
  | n + 1, h => by
    simp only [top] at h ⊢
    split
    · rename_i e; rw [if_pos e] at h; exact top_lead g n h
    · rename_i e; simpa using e
theorem top_congr {f g : Nat → Int} : ∀ n, (∀ i, i < n → f i = g i) → top f n = top g n
  | 0, _ => rfl
  | n + 1, h => by simp only [top]; rw [h n (by omega), top_congr n fun i hi => h i (by omega)]
/-- The leading place is told by what stands there and behind. -/
theorem top_is {g : Nat → Int} {n k : Nat} (hk : k ≤ n) (hz : ∀ i, k ≤ i → i < n → g i = 0) (hl : k ≠ 0 → g (k - 1) ≠ 0) : top g n = k := by
  rcases Nat.lt_trichotomy (top g n) k with h | h | h
  · have := top_zero g n (k - 1) (by omega) (by omega)
    exact absurd this (hl (by omega))
  · exact h
  · have h1 := top_lead g n (by omega)
    have h2 := top_le g n
    exact absurd (hz (top g n - 1) (by omega) (by omega)) h1
/-! Reading rows. -/
theorem rd_nil (i : Nat) : rd ([] : List Int) i = 0 := by simp [rd]
theorem rd_lt {l : List Int} {i : Nat} (h : i < l.length) : rd l i = l[i] := by simp [rd, h]
theorem rd_ge {l : List Int} {i : Nat} (h : l.length ≤ i) : rd l i = 0 := by simp [rd, h]
theorem rd_mem {l : List Int} {i : Nat} (h : i < l.length) : rd l i ∈ l := by rw [rd_lt h]; exact List.getElem_mem _
theorem rd_ext {a b : List Int} (hl : a.length = b.length) (h : ∀ i, i < a.length → rd a i = rd b i) : a = b := by
  apply List.ext_getElem hl
  intro i h1 h2
  have := h i h1
  rwa [rd_lt h1, rd_lt h2] at this
theorem rd_take (l : List Int) (k i : Nat) : rd (l.take k) i = if i < k then rd l i else 0 := by
  by_cases h : i < k
  · rw [if_pos h]
    by_cases hl : i < l.length
    · rw [rd_lt (by simp; omega), rd_lt hl]; simp
    · rw [rd_ge (by simp; omega), rd_ge (by omega)]
  · rw [if_neg h, rd_ge (by simp; omega)]
theorem rd_set (l : List Int) (k : Nat) (d : Int) (i : Nat) (hk : k < l.length) : rd (l.set k d) i = if i = k then d else rd l i := by
  by_cases h : i = k
  · subst h; simp [rd, hk]
  · rw [if_neg h]; simp [rd, Ne.symm h]
theorem rd_rep (n i : Nat) : rd (List.replicate n (0 : Int)) i = 0 := by
  by_cases h : i < n
  · rw [rd_lt (by simpa using h)]; simp
  · rw [rd_ge (by simp; omega)]
theorem rd_padl (l : List Int) {j : Nat} (h : j < 64) : rd (pad l).1 j = rd l j := by rw [pad_rd _ h]; rfl
theorem rd_map {f : Nat → Int} (n i : Nat) : rd ((List.range n).map f) i = if i < n then f i else 0 := by
  by_cases h : i < n
  · rw [if_pos h, rd_lt (by simpa using h)]; simp
  · rw [if_neg h, rd_ge (by simp; omega)]

/-! Rows of functions. -/
def ofF (n : Nat) (f : Nat → Int) : List Int := (List.range (top f n)).map f
theorem ofF_len (n : Nat) (f : Nat → Int) : (ofF n f).length = top f n := by simp [ofF]
theorem rd_ofF {n : Nat} {f : Nat → Int} (hz : ∀ i, n ≤ i → f i = 0) (i : Nat) : rd (ofF n f) i = f i := by
  rw [ofF, rd_map]
  split
  · rfl
  · by_cases h : i < n
    · exact (top_zero f n i (by omega) h).symm
    · exact (hz i (by omega)).symm
theorem rd_ofF' {n : Nat} {f : Nat → Int} (i : Nat) : rd (ofF n f) i = if i < n then f i else 0 := by
  rw [ofF, rd_map]
  have := top_le f n
  by_cases h : i < n
  · rw [if_pos h]
    split
    · rfl
    · exact (top_zero f n i (by omega) h).symm
  · rw [if_neg h, if_neg (by omega)]
theorem ofF_congr {n : Nat} {f g : Nat → Int} (h : ∀ i, i < n → f i = g i) : ofF n f = ofF n g := by
  have e := top_congr n h
  have := top_le g n
  refine rd_ext (by rw [ofF_len, ofF_len, e]) fun i hi => ?_
  rw [rd_ofF', rd_ofF']
  split
  · exact h i (by assumption)
  · rfl
/-- A list without the zeros at its end. -/
theorem trim_eq (l : List Int) : l.take (top (rd l) l.length) = ofF l.length (rd l) := by
  have := top_le (rd l) l.length
  refine rd_ext (by rw [ofF_len]; simp; omega) fun i hi => ?_
  rw [rd_take, rd_ofF']
  simp at hi
  rw [if_pos (by omega), if_pos (by omega)]

/-- The coefficients of a polynomial modulo p, up to the leading one. -/
structure Row (p : Int) (l : List Int) : Prop where
  res : ∀ d ∈ l, 0 ≤ d ∧ d < p
  nrm : l.length ≠ 0 → rd l (l.length - 1) ≠ 0
theorem Row.rd {p : Int} {l : List Int} (h : Row p l) (hp : 0 < p) (i : Nat) : 0 ≤ rd l i ∧ rd l i < p := by
  by_cases hi : i < l.length
  · exact h.res _ (rd_mem hi)
  · rw [rd_ge (by omega)]; exact ⟨Int.le_refl _, hp⟩
theorem Row.bytes {p : Int} {l : List Int} (h : Row p l) (hp : p ≤ 256) : Bytes l := fun d hd => by have := h.res d hd; omega
theorem row_nil (p : Int) : Row p [] := ⟨by simp, by simp⟩
theorem row_ext {p q : Int} {a b : List Int} (ha : Row p a) (hb : Row q b) (h : ∀ i, rd a i = rd b i) : a = b := by
  have hl : a.length = b.length := by
    rcases Nat.lt_trichotomy a.length b.length with h1 | h1 | h1
    · have := hb.nrm (by omega)
      rw [← h, rd_ge (by omega)] at this
      exact absurd rfl this
    · exact h1
    · have := ha.nrm (by omega)
      rw [h, rd_ge (by omega)] at this
      exact absurd rfl this
  exact rd_ext hl fun i _ => h i
theorem row_ofF {p : Int} {n : Nat} {f : Nat → Int} (h : ∀ i, i < n → 0 ≤ f i ∧ f i < p) : Row p (ofF n f) := by
  have hle := top_le f n
  refine ⟨fun d hd => ?_, fun hn => ?_⟩
  · simp only [ofF, List.mem_map, List.mem_range] at hd
    obtain ⟨i, hi, rfl⟩ := hd
    exact h i (by omega)
  · rw [ofF_len] at hn ⊢
    rw [rd_ofF', if_pos (by omega)]
    exact top_lead f n hn
theorem Row.top {p : Int} {l : List Int} (h : Row p l) {n : Nat} (hn : l.length ≤ n) : top (Abs.rd l) n = l.length :=
  top_is hn (fun i h1 _ => rd_ge h1) h.nrm
theorem Row.ofF {p : Int} {l : List Int} (h : Row p l) {n : Nat} (hn : l.length ≤ n) : ofF n (Abs.rd l) = l := by
  refine rd_ext (by rw [ofF_len, h.top hn]) fun i hi => ?_
  rw [rd_ofF fun i hi => rd_ge (by omega)]
/-! Arrays and rows. -/
def row (v : V64) : List Int := ofF 64 (rd v.1)
/-- Coefficients from 0 to p - 1. -/
def Res (p : Int) (v : V64) : Prop := ∀ j, j < 64 → 0 ≤ rd v.1 j ∧ rd v.1 j < p
theorem row_row {p : Int} {v : V64} (h : Res p v) : Row p (row v) := row_ofF h
theorem row_len (v : V64) : (row v).length ≤ 64 := by rw [row, ofF_len]; exact top_le _ _
theorem pad_row (v : V64) : pad (row v) = v := vec_ext fun j hj => by rw [rd_padl _ hj, row, rd_ofF', if_pos hj]
theorem row_pad {p : Int} {l : List Int} (h : Row p l) (hl : l.length ≤ 64) : row (pad l) = l := by
  rw [row, ofF_congr (g := rd l) fun i hi => rd_padl l hi, h.ofF hl]
theorem res_pad {p : Int} {l : List Int} (h : Row p l) (hp : 0 < p) : Res p (pad l) := fun j hj => by rw [rd_padl _ hj]; exact h.rd hp j
theorem pad_inj {p q : Int} {a b : List Int} (ha : Row p a) (hb : Row q b) (h1 : a.length ≤ 64) (h2 : b.length ≤ 64) (h : pad a = pad b) : a = b := by
  rw [← row_pad ha h1, ← row_pad hb h2, h]

/-! Sums and products of coefficient functions. -/
def sumTo : Nat → (Nat → Int) → Int
  | 0, _ => 0
  | n + 1, f => sumTo n f + f n
theorem sumTo_congr {f g : Nat → Int} : ∀ n, (∀ i, i < n → f i = g i) → sumTo n f = sumTo n g
  | 0, _ => rfl
  | n + 1, h => by simp only [sumTo]; rw [sumTo_congr n fun i hi => h i (by omega), h n (by omega)]
theorem sumTo_zero {f : Nat → Int} : ∀ n, (∀ i, i < n → f i = 0) → sumTo n f = 0
  | 0, _ => rfl
  | n + 1, h => by simp only [sumTo]; rw [sumTo_zero n fun i hi => h i (by omega), h n (by omega)]; rfl
theorem sumTo_more {f : Nat → Int} {n : Nat} : ∀ m, (∀ i, n ≤ i → i < n + m → f i = 0) → sumTo (n + m) f = sumTo n f
  | 0, _ => rfl
  | m + 1, h => by
    rw [← Nat.add_assoc]
    simp only [sumTo]
    rw [sumTo_more m fun i h1 h2 => h i h1 (by omega), h (n + m) (by omega) (by omega), Int.add_zero]
/-- The summand that the first n coefficients give to a product. -/
def cv (a b : Nat → Int) (n k : Nat) : Int := sumTo n fun i => if i ≤ k then a i * b (k - i) else 0
theorem cv_succ (a b : Nat → Int) (n k : Nat) : cv a b (n + 1) k = cv a b n k + (if n ≤ k then a n * b (k - n) else 0) := rfl
def conv (a b : Nat → Int) (k : Nat) : Int := cv a b (k + 1) k
theorem cv_conv {a b : Nat → Int} {n : Nat} (hz : ∀ i, n ≤ i → a i = 0) (k : Nat) : cv a b n k = conv a b k := by
  unfold conv cv
  rcases Nat.le_total n (k + 1) with h | h
  · obtain ⟨m, e⟩ : ∃ m, k + 1 = n + m := ⟨k + 1 - n, by omega⟩
    rw [e]
    refine (sumTo_more m fun i h1 h2 => ?_).symm
    rw [hz i h1]; simp
  · obtain ⟨m, rfl⟩ : ∃ m, n = k + 1 + m := ⟨n - (k + 1), by omega⟩
    exact sumTo_more m fun i h1 h2 => if_neg (by omega)
theorem conv_zero {a b : Nat → Int} {n m : Nat} (ha : ∀ i, n ≤ i → a i = 0) (hb : ∀ i, m ≤ i → b i = 0) {k : Nat} (hk : n + m ≤ k + 1) : conv a b k = 0 := by
  refine sumTo_zero _ fun i hi => ?_
  rw [if_pos (by omega)]
  by_cases h : i < n
  · rw [hb (k - i) (by omega), Int.mul_zero]
  · rw [ha i (by omega), Int.zero_mul]
/-- The leading coefficient of a product. -/
theorem conv_lead {a b : Nat → Int} {n m : Nat} (ha : ∀ i, n < i → a i = 0) (hb : ∀ i, m < i → b i = 0) : conv a b (n + m) = a n * b m := by
  have h1 : conv a b (n + m) = cv a b (n + 1) (n + m) := (cv_conv (fun i hi => ha i (by omega)) _).symm
  rw [h1]
  unfold cv
  simp only [sumTo]
  rw [sumTo_zero n fun i hi => ?_, if_pos (by omega), show n + m - n = m by omega, Int.zero_add]
  rw [if_pos (by omega), hb _ (by omega), Int.mul_zero]

/-! Operations on rows. -/
def comb (p : Int) (a b : List Int) (k : Int) : List Int := ofF (max a.length b.length) fun i => (rd a i + k * rd b i) % p
def mul (p : Int) (a b : List Int) : List Int := ofF (a.length + b.length - 1) fun i => conv (rd a) (rd b) i % p

theorem emod_res {p : Int} (hp : 0 < p) (x : Int) : 0 ≤ x % p ∧ x % p < p := ⟨Int.emod_nonneg _ (by omega), Int.emod_lt_of_pos _ hp⟩
theorem comb_row {p : Int} (hp : 0 < p) (a b : List Int) (k : Int) : Row p (comb p a b k) := row_ofF fun _ _ => emod_res hp _
theorem mul_row {p : Int} (hp : 0 < p) (a b : List Int) : Row p (mul p a b) := row_ofF fun _ _ => emod_res hp _
theorem comb_rd (p : Int) (a b : List Int) (k : Int) (i : Nat) : rd (comb p a b k) i = (rd a i + k * rd b i) % p := by
  refine rd_ofF (fun i hi => ?_) i
  rw [rd_ge (by omega), rd_ge (by omega)]; simp
theorem mul_rd (p : Int) (a b : List Int) (i : Nat) : rd (mul p a b) i = conv (rd a) (rd b) i % p := by
  refine rd_ofF (fun i hi => ?_) i
  rw [conv_zero (n := a.length) (m := b.length) (fun i hi => rd_ge hi) (fun i hi => rd_ge hi) (by omega)]; simp
theorem comb_len (p : Int) (a b : List Int) (k : Int) : (comb p a b k).length ≤ max a.length b.length := by rw [comb, ofF_len]; exact top_le _ _
theorem mul_len (p : Int) (a b : List Int) : (mul p a b).length ≤ a.length + b.length - 1 := by rw [mul, ofF_len]; exact top_le _ _
theorem mul_nil (p : Int) (b : List Int) : mul p [] b = [] := by
  have h : ∀ i, conv (rd []) (rd b) i = 0 := fun i => sumTo_zero _ fun j _ => by rw [rd_nil]; simp
  have : (mul p [] b).length = 0 := by
    rw [mul, ofF_len]
    exact top_is (Nat.zero_le _) (fun i _ _ => by rw [h]; simp) (by simp)
  exact List.eq_nil_of_length_eq_zero this
theorem mul_nil' (p : Int) (a : List Int) : mul p a [] = [] := by
  have h : ∀ i, conv (rd a) (rd []) i = 0 := fun i => sumTo_zero _ fun j _ => by rw [rd_nil]; simp
  have : (mul p a []).length = 0 := by
    rw [mul, ofF_len]
    exact top_is (Nat.zero_le _) (fun i _ _ => by rw [h]; simp) (by simp)
  exact List.eq_nil_of_length_eq_zero this

/-! Small primes. -/
def isP (p : Int) : Bool := p == 2 || p == 3 || p == 5 || p == 7
theorem isP_iff {p : Int} : isP p = true ↔ p = 2 ∨ p = 3 ∨ p = 5 ∨ p = 7 := by
  simp [isP, or_assoc]
theorem isP_pos {p : Int} (h : isP p = true) : 2 ≤ p ∧ p ≤ 7 := by
  rcases isP_iff.1 h with rfl | rfl | rfl | rfl <;> omega
theorem noz2 : ∀ x y : Fin 2, x ≠ 0 → y ≠ 0 → (x.1 * y.1) % 2 ≠ 0 := by decide
theorem noz3 : ∀ x y : Fin 3, x ≠ 0 → y ≠ 0 → (x.1 * y.1) % 3 ≠ 0 := by decide
theorem noz5 : ∀ x y : Fin 5, x ≠ 0 → y ≠ 0 → (x.1 * y.1) % 5 ≠ 0 := by decide
theorem noz7 : ∀ x y : Fin 7, x ≠ 0 → y ≠ 0 → (x.1 * y.1) % 7 ≠ 0 := by decide
theorem noz_of {n : Nat} (hn : 0 < n) (h : ∀ x y : Fin n, x.1 ≠ 0 → y.1 ≠ 0 → (x.1 * y.1) % n ≠ 0) {x y : Int} (hx : 0 < x ∧ x < n) (hy : 0 < y ∧ y < n) : x * y % n ≠ 0 := by
  obtain ⟨a, rfl⟩ : ∃ a : Nat, x = a := ⟨x.toNat, by omega⟩
  obtain ⟨b, rfl⟩ : ∃ b : Nat, y = b := ⟨y.toNat, by omega⟩
  have := h ⟨a, by omega⟩ ⟨b, by omega⟩ (by simp; omega) (by simp; omega)
  simp only at this
  rw [← Int.natCast_mul, ← Int.natCast_emod]
  omega
theorem noz {p : Int} (hp : isP p = true) {x y : Int} (hx : 0 ≤ x ∧ x < p) (hy : 0 ≤ y ∧ y < p) (h1 : x ≠ 0) (h2 : y ≠ 0) : x * y % p ≠ 0 := by
  rcases isP_iff.1 hp with rfl | rfl | rfl | rfl
  · exact noz_of (n := 2) (by omega) (fun x y a b => noz2 x y (fun e => a (by rw [e]; rfl)) (fun e => b (by rw [e]; rfl))) ⟨by omega, hx.2⟩ ⟨by omega, hy.2⟩
  · exact noz_of (n := 3) (by omega) (fun x y a b => noz3 x y (fun e => a (by rw [e]; rfl)) (fun e => b (by rw [e]; rfl))) ⟨by omega, hx.2⟩ ⟨by omega, hy.2⟩
  · exact noz_of (n := 5) (by omega) (fun x y a b => noz5 x y (fun e => a (by rw [e]; rfl)) (fun e => b (by rw [e]; rfl))) ⟨by omega, hx.2⟩ ⟨by omega, hy.2⟩
  · exact noz_of (n := 7) (by omega) (fun x y a b => noz7 x y (fun e => a (by rw [e]; rfl)) (fun e => b (by rw [e]; rfl))) ⟨by omega, hx.2⟩ ⟨by omega, hy.2⟩
theorem mul_len_is {p : Int} (hp : isP p = true) {a b : List Int} (ha : Row p a) (hb : Row p b) (h1 : a.length ≠ 0) (h2 : b.length ≠ 0) : (mul p a b).length = a.length + b.length - 1 := by
  have hp2 := isP_pos hp
  rw [mul, ofF_len]
  refine top_is (Nat.le_refl _) (fun i h3 h4 => by omega) fun _ => ?_
  have e : a.length + b.length - 1 - 1 = (a.length - 1) + (b.length - 1) := by omega
  rw [e, conv_lead (fun i hi => rd_ge (by omega)) (fun i hi => rd_ge (by omega))]
  exact noz hp (ha.rd (by omega) _) (hb.rd (by omega) _) (ha.nrm h1) (hb.nrm h2)
end Go.Abs
/- Draws: the source of numbers, in the reference. -/
namespace Go.Proofs.Ytkbnegemdlnncaa
open Go.Abs
abbrev Src := List Int × Int × Int
structure SrcOk (s : Src) : Prop where
  len : s.1.length ≤ 8192
  bytes : ∀ x ∈ s.1, 0 ≤ x ∧ x < 256
  at' : 0 ≤ s.2.1 ∧ s.2.1 ≤ 8192
theorem mask_is (b : BitVec 64) : ∃ k : Nat, k ≤ 16777215 ∧ IntKind.u64.wrap ((b &&& BitVec.ofInt 64 16777215).toNat : Int) = (k : Int) := by
  refine ⟨(b &&& BitVec.ofInt 64 16777215).toNat, ?_, ?_⟩
  · rw [BitVec.toNat_and]
    exact Nat.le_trans Nat.and_le_right (by decide)
  · have h : (b &&& BitVec.ofInt 64 16777215).toNat ≤ 16777215 := by
      rw [BitVec.toNat_and]
      exact Nat.le_trans Nat.and_le_right (by decide)
    generalize (b &&& BitVec.ofInt 64 16777215).toNat = q at h
    simp only [IntKind.wrap, IntKind.signed, IntKind.bits]
    simp
    omega
theorem next_is {s : Src} (h : SrcOk s) {n : Int} (hn : n ≤ 4611686018427387904) : ∃ (r : Int) (s' : Src), spec_l01Next_of_src s n = some (r, s') ∧ SrcOk s' ∧ 0 ≤ r ∧ (1 ≤ n → r < n) ∧ (n < 1 → r = 0) := by
  by_cases h1 : n < 1
  · refine ⟨0, s, ?_, h, by omega, fun h2 => by omega, fun _ => rfl⟩
    simp only [spec_l01Next_of_src]
    rw [if_pos (decide_eq_true h1)]
  · obtain ⟨y, hy⟩ : ∃ y, IntKind.u64.wrap (IntKind.u64.wrap (s.2.2 * 6364136223846793005) + 1442695040888963407) = y := ⟨_, rfl⟩
    obtain ⟨k, k1, k2⟩ := mask_is (BitVec.ofInt 64 (Int.fdiv y (2 ^ (min (33 : Int).toNat 64))))
    have k2' : IntKind.u64.wrap (BitVec.ofInt IntKind.u64.bits (Int.fdiv y (2 ^ (min (33 : Int).toNat IntKind.u64.bits))) &&& BitVec.ofInt IntKind.u64.bits 16777215).toNat = (k : Int) := k2
    obtain ⟨hl, hb, ha⟩ := h
    by_cases h2 : s.2.1 < (s.1.length : Int)
    · have hm : rd s.1 s.2.1.toNat ∈ s.1 := by
        have : s.2.1.toNat < s.1.length := by omega
        simp [rd, this]
      have hbb := hb _ hm
      refine ⟨Int.tmod (k + rd s.1 s.2.1.toNat) n, (s.1, s.2.1 + 1, y), ?_, ⟨hl, hb, by simp only; omega⟩, ?_, fun _ => ?_, fun h3 => absurd h3 h1⟩
      · simp only [spec_l01Next_of_src, letp, hy, k2']
        rw [if_neg (by rw [decide_eq_true_eq]; exact h1), if_pos (decide_eq_true h2), ifp_pos (by omega), wrap64 (n := (k : Int)) (by omega) (by omega), wrap64 (n := rd s.1 s.2.1.toNat) (by omega) (by omega), wrap64 (by omega) (by omega), wrap64 (by omega) (by omega)]
        simp only [Option.bind_some]
        rw [ifp_pos (by omega)]
      · rw [Int.tmod_eq_emod_of_nonneg (by omega)]; exact Int.emod_nonneg _ (by omega)
      · rw [Int.tmod_eq_emod_of_nonneg (by omega)]; exact Int.emod_lt_of_pos _ (by omega)
    · refine ⟨Int.tmod k n, (s.1, s.2.1, y), ?_, ⟨hl, hb, ha⟩, ?_, fun _ => ?_, fun h3 => absurd h3 h1⟩
      · simp only [spec_l01Next_of_src, letp, hy, k2']
        rw [if_neg (by rw [decide_eq_true_eq]; exact h1), if_neg (by rw [decide_eq_true_eq]; exact h2), wrap64 (n := (k : Int)) (by omega) (by omega)]
        simp only [Option.bind_some]
        rw [ifp_pos (by omega)]
      · rw [Int.tmod_eq_emod_of_nonneg (by omega)]; exact Int.emod_nonneg _ (by omega)
      · rw [Int.tmod_eq_emod_of_nonneg (by omega)]; exact Int.emod_lt_of_pos _ (by omega)
theorem pick_is {s : Src} (h : SrcOk s) {l : List Int} (h0 : l ≠ []) (hl : l.length ≤ 1000) : ∃ (r : Int) (s' : Src), spec_l01Pick_of_src s l = some (r, s') ∧ SrcOk s' ∧ r ∈ l := by
  have hp : 1 ≤ l.length := by
    cases l with
    | nil => exact absurd rfl h0
    | cons _ _ => simp
  obtain ⟨r, s', h1, h2, h3, h4, _⟩ := next_is h (n := (l.length : Int)) (by omega)
  have h5 := h4 (by omega)
  refine ⟨rd l r.toNat, s', ?_, h2, ?_⟩
  · simp only [spec_l01Pick_of_src, h1, Option.bind_some]
    rw [ifp_pos (by omega)]
  · have : r.toNat < l.length := by omega
    simp [rd, this]
end Go.Proofs.Ytkbnegemdlnncaa
/- The source of a code. -/
namespace Go.Proofs.Ytkbnegemdlnncaa
open Go.Abs
theorem from_step {c : List Int} (hl : c.length ≤ 8192) {i : Nat} (hi : i < min c.length 4096) (s : Src) : ∃ W, spec_l01From_l1 c (i : Int) s = some (.inl (((i + 1 : Nat) : Int), (s.1, s.2.1, W))) := by
  have h1 : decide ((i : Int) < (c.length : Int)) = true := decide_eq_true (by omega)
  have h2 : decide ((i : Int) < 4096) = true := decide_eq_true (by omega)
  have h3 : IntKind.i64.wrap ((i : Int) + 1) = ((i + 1 : Nat) : Int) := by rw [wrap64 (by omega) (by omega)]; rfl
  have h4 : 0 ≤ (i : Int) ∧ (i : Int) < ((c.length : Nat) : Int) := by omega
  simp only [spec_l01From_l1, letp, h1, h2, h3, Option.bind_some, if_true]
  rw [ifp_pos h4]
  exact ⟨_, rfl⟩
theorem from_stop {c : List Int} (s : Src) : spec_l01From_l1 c ((min c.length 4096 : Nat) : Int) s = some (.inr s) := by
  by_cases h : c.length ≤ 4096
  · have h1 : decide (((min c.length 4096 : Nat) : Int) < (c.length : Int)) = false := decide_eq_false (by omega)
    simp only [spec_l01From_l1, h1, Bool.false_eq_true, if_false, Option.bind_some]
  · have h1 : decide (((min c.length 4096 : Nat) : Int) < (c.length : Int)) = true := decide_eq_true (by omega)
    have h2 : decide (((min c.length 4096 : Nat) : Int) < 4096) = false := decide_eq_false (by omega)
    simp only [spec_l01From_l1, h1, h2, Bool.false_eq_true, if_true, if_false, Option.bind_some]
theorem from_loop {c : List Int} (hl : c.length ≤ 8192) (y : Int) : ∃ W, loopM (fun s : Int × Src => spec_l01From_l1 c s.1 s.2) (0, (c, (0 : Int), y)) = some (c, (0 : Int), W) := by
  obtain ⟨s, h1, h2⟩ := loopM_for (body := fun s : Int × Src => spec_l01From_l1 c s.1 s.2) (fun i s => ((i : Int), s)) (fun s => s) (min c.length 4096)
    (fun _ s => s.1 = c ∧ s.2.1 = 0) (fun i s hi hI => by
      obtain ⟨W, hW⟩ := from_step hl hi s
      exact ⟨_, hW, hI⟩) (fun s _ => from_stop s) (min c.length 4096) 0 (c, 0, y) (by omega) ⟨rfl, rfl⟩
  obtain ⟨a, b, W⟩ := s
  obtain ⟨rfl, rfl⟩ : a = c ∧ b = 0 := h2
  exact ⟨W, h1⟩
theorem from_more {c : List Int} (hl : c.length ≤ 8192) (hb : ∀ x ∈ c, 0 ≤ x ∧ x < 256) : ∃ s, spec_l01From c = some s ∧ SrcOk s := by
  have key : ∀ y : Int, ∃ s : Src, (Option.bind (loopM (fun s : Int × Src => spec_l01From_l1 c s.1 s.2) (0, (c, (0 : Int), y))) fun x66 => some x66) = some s ∧ SrcOk s := fun y => by
    obtain ⟨W, hW⟩ := from_loop hl y
    exact ⟨(c, 0, W), by rw [hW, Option.bind_some], ⟨hl, hb, ⟨Int.le_refl 0, show (0 : Int) ≤ 8192 by omega⟩⟩⟩
  exact key _
theorem from_is {c : List Int} (hl : c.length ≤ 4096) (hb : ∀ x ∈ c, 0 ≤ x ∧ x < 256) : ∃ s, spec_l01From c = some s ∧ SrcOk s := from_more (by omega) hb
end Go.Proofs.Ytkbnegemdlnncaa
/- Rows without the zeros at their ends. -/
namespace Go.Proofs.Ytkbnegemdlnncaa
open Go.Abs

def IsB (v : V64) : Prop := ∀ d ∈ v.1, 0 ≤ d ∧ d < 256

theorem IsB.rd {v : V64} (h : IsB v) {j : Nat} (hj : j < 64) : 0 ≤ rd v.1 j ∧ rd v.1 j < 256 := by
  have hl : j < v.1.length := by rw [v.2]; exact hj
  have : Abs.rd v.1 j = v.1[j] := by simp [Abs.rd, hl]
  rw [this]; exact h _ (List.getElem_mem _)

theorem trimmed_loop {l : List Int} (hl : l.length ≤ 1000000) : ∀ s : Int, (∃ i : Nat, s = i ∧ i ≤ l.length) → ∃ r, loopM (fun s : Int => impl_row_trimmed_l1 l s) s = some r ∧ ∀ i : Nat, s = i → r = (top (rd l) i : Int) := by
  refine loopM_ind (fun (s : Int) => ∃ i : Nat, s = i ∧ i ≤ l.length) (fun (s : Int) (r : Int) => ∀ i : Nat, s = i → r = (top (rd l) i : Int)) (fun s => s.toNat) ?_
  rintro s ⟨i, rfl, hi⟩
  match i with
  | 0 =>
    right
    refine ⟨0, by simp [impl_row_trimmed_l1], fun k hk => ?_⟩
    have : k = 0 := by omega
    subst this; simp [top]
  | i + 1 =>
    have e1 : IntKind.i64.wrap (((i + 1 : Nat) : Int) - 1) = (i : Int) := by rw [wrap64 (by omega) (by omega)]; omega
    by_cases e : rd l i = 0
    · left
      refine ⟨(i : Int), ?_, ⟨i, rfl, by omega⟩, by omega, fun r hr k hk => ?_⟩
      · simp only [impl_row_trimmed_l1, e1]
        rw [if_pos (by simp), ifp_pos (by omega)]
        simp [e]
      · have : k = i + 1 := by omega
        subst this
        rw [hr i rfl]; simp [top, e]
    · right
      refine ⟨((i + 1 : Nat) : Int), ?_, fun k hk => ?_⟩
      · simp only [impl_row_trimmed_l1, e1]
        rw [if_pos (by simp), ifp_pos (by omega)]
        simp [e]
      · have : k = i + 1 := by omega
        subst this
        simp [top, e]

theorem trimmed_is {l : List Int} (hl : l.length ≤ 1000000) : impl_row_trimmed l = some (l.take (top (rd l) l.length)) := by
  obtain ⟨r, h1, h2⟩ := trimmed_loop hl (l.length : Nat) ⟨l.length, rfl, Nat.le_refl _⟩
  rw [h2 _ rfl] at h1
  have := top_le (rd l) l.length
  simp only [impl_row_trimmed, h1, Option.bind_some]
  rw [ifp_pos (by omega)]
  simp

end Go.Proofs.Ytkbnegemdlnncaa
/- Draws of polynomials. -/
namespace Go.Proofs.Ytkbnegemdlnncaa
open Go.Abs
theorem wrap8_res (x : Int) : 0 ≤ IntKind.u8.wrap x ∧ IntKind.u8.wrap x < 256 := by
  simp only [IntKind.wrap, IntKind.signed, IntKind.bits]
  simp
  omega
theorem isb_vset {v : V64} (h : IsB v) (k : Nat) {x : Int} (hx : 0 ≤ x ∧ x < 256) : IsB (vset v k x) := fun d hd => by
  have hd' : d ∈ v.1.set k x := hd
  rcases List.mem_or_eq_of_mem_set hd' with h1 | rfl
  · exact h d h1
  · exact hx
theorem isb_zero : IsB (vrep 64 0) := fun d hd => by
  have : d ∈ List.replicate 64 (0 : Int) := hd
  rw [List.eq_of_mem_replicate this]; omega
theorem draw_loop {p : Int} (hp : p ≤ 1000) : ∀ (m : Nat) (i : Int) (v : V64) (s : Src), i + 1 = m → i ≤ 63 → IsB v → SrcOk s →
    ∃ (v' : V64) (s' : Src), loopM (fun s : Int × V64 × Src => spec_l01Draw_of_src_l1 p s.1 s.2.1 s.2.2) (i, v, s) = some (v', s') ∧ IsB v' ∧ SrcOk s'
  | 0, i, v, s, hi, _, hv, hs => by
    have h0 : decide (i ≥ 0) = false := decide_eq_false (by omega)
    refine ⟨v, s, ?_, hv, hs⟩
    rw [loopM_eq]
    simp only [spec_l01Draw_of_src_l1, h0, Bool.false_eq_true, if_false, Option.bind_some]
  | m + 1, i, v, s, hi, h63, hv, hs => by
    have h0 : decide (i ≥ 0) = true := decide_eq_true (by omega)
    have ew : IntKind.i64.wrap (i - 1) = i - 1 := wrap64 (by omega) (by omega)
    obtain ⟨r, s1, k1, k2, _⟩ := next_is hs (n := 3) (by omega)
    rw [loopM_eq]
    simp only [spec_l01Draw_of_src_l1, h0, if_true, k1, Option.bind_some, ew]
    by_cases hr : r > 0
    · obtain ⟨x, s2, k3, k4, _⟩ := next_is k2 (n := p) (by omega)
      obtain ⟨v', s', k5, k6, k7⟩ := draw_loop hp m (i - 1) (vset v i.toNat (IntKind.u8.wrap x)) s2 (by omega) (by omega) (isb_vset hv _ (wrap8_res x)) k4
      refine ⟨v', s', ?_, k6, k7⟩
      simp only [decide_eq_true hr, if_true, k3, Option.bind_some]
      rw [ifp_pos (by omega)]
      simp only [Option.bind_some]
      exact k5
    · obtain ⟨v', s', k5, k6, k7⟩ := draw_loop hp m (i - 1) v s1 (by omega) (by omega) hv k2
      refine ⟨v', s', ?_, k6, k7⟩
      simp only [decide_eq_false hr, Bool.false_eq_true, if_false, Option.bind_some]
      exact k5
theorem draw_is {s : Src} (h : SrcOk s) {p most : Int} (hp : p ≤ 1000) (h0 : 0 ≤ most) (h63 : most ≤ 63) : ∃ (v : V64) (s' : Src), spec_l01Draw_of_src s p most = some (v, s') ∧ SrcOk s' ∧ IsB v := by
  have ew : IntKind.i64.wrap (most + 2) = most + 2 := wrap64 (by omega) (by omega)
  obtain ⟨r, s1, k1, k2, k3, k4, _⟩ := next_is h (n := most + 2) (by omega)
  have k4 := k4 (by omega)
  have ew2 : IntKind.i64.wrap (r - 1) = r - 1 := wrap64 (by omega) (by omega)
  obtain ⟨v', s', g1, g2, g3⟩ := draw_loop hp r.toNat (r - 1) (vrep 64 0) s1 (by omega) (by omega) isb_zero k2
  refine ⟨v', s', ?_, g3, g2⟩
  simp only [spec_l01Draw_of_src, ew, k1, Option.bind_some, ew2, g1]
theorem bad_is {s : Src} (h : SrcOk s) (p : Int) {v : V64} (hv : IsB v) : ∃ (v' : V64) (s' : Src), spec_l01Bad_of_src s p v = some (v', s') ∧ SrcOk s' ∧ IsB v' := by
  obtain ⟨r, s1, k1, k2, _⟩ := next_is h (n := 40) (by omega)
  simp only [spec_l01Bad_of_src, k1, Option.bind_some]
  by_cases hr : r = 0
  · obtain ⟨i, s2, k3, k4, k5, k6, _⟩ := next_is k2 (n := 64) (by omega)
    have k6 := k6 (by omega)
    obtain ⟨x, s3, k7, k8, _⟩ := pick_is k4 (l := [p, 7, 255, 1]) (by simp) (by simp)
    rw [if_pos (by rw [hr]; rfl), k3]
    simp only [Option.bind_some, k7]
    rw [ifp_pos (by omega)]
    simp only [Option.bind_some]
    exact ⟨_, s3, rfl, k8, isb_vset hv _ (wrap8_res x)⟩
  · rw [if_neg (by rw [beq_iff_eq]; exact hr)]
    simp only [Option.bind_some]
    exact ⟨v, s1, rfl, k2, hv⟩
end Go.Proofs.Ytkbnegemdlnncaa
/- Numbers modulo p. -/
namespace Go.Proofs.Ytkbnegemdlnncaa
open Go.Abs

theorem tmod_fix {n p : Int} (hp : 0 < p) : Int.tmod (Int.tmod n p + p) p = n % p := by
  have h1 := Int.lt_tmod_of_pos n hp
  rw [Int.tmod_eq_emod_of_nonneg (by omega), Int.tmod_def, Int.add_emod_right, Int.sub_mul_emod_self_left]

/-- Numbers that are small. -/
def Ent (l : List Int) : Prop := ∀ i, 0 ≤ rd l i ∧ rd l i < 256

theorem _root_.Go.Abs.Row.ent {p : Int} {l : List Int} (h : Row p l) (hp : 0 < p ∧ p ≤ 256) : Ent l := fun i => by have := h.rd hp.1 i; omega

def V64.Ent (v : V64) : Prop := ∀ i, i < 64 → 0 ≤ rd v.1 i ∧ rd v.1 i < 256

theorem mulk {x k : Int} (hx : 0 ≤ x ∧ x < 256) (hk : -1099511627776 ≤ k ∧ k ≤ 1099511627776) : -281474976710656 ≤ k * x ∧ k * x ≤ 281474976710656 := by
  have h1 : (-1099511627776) * x ≤ k * x := Int.mul_le_mul_of_nonneg_right hk.1 hx.1
  have h2 : k * x ≤ 1099511627776 * x := Int.mul_le_mul_of_nonneg_right hk.2 hx.1
  omega

theorem _root_.Go.Abs.Res.ent {p : Int} {v : V64} (h : Res p v) (hp : p ≤ 256) : V64.Ent v := fun i hi => by have := h i hi; omega

theorem ent_pad {p : Int} {l : List Int} (h : Row p l) (hp : 0 < p ∧ p ≤ 256) : V64.Ent (pad l) := Res.ent (res_pad h hp.1) hp.2

theorem mul_small {x y : Int} (hx : 0 ≤ x ∧ x < 256) (hy : 0 ≤ y ∧ y < 256) : 0 ≤ x * y ∧ x * y ≤ 65025 :=
  ⟨Int.mul_nonneg hx.1 hy.1, Int.mul_le_mul (c := 255) (d := 255) (by omega) (by omega) hy.1 (by omega)⟩
end Go.Proofs.Ytkbnegemdlnncaa
/- Degrees. -/
namespace Go.Proofs.Ytkbnegemdlnncaa
open Go.Abs

theorem deg_loop (a : V64) : ∀ s : Int, (∃ i : Nat, s = (i : Int) - 1 ∧ i ≤ 64) → ∃ r, loopM (fun s : Int => spec_l01Deg_l1 a s) s = some r ∧ ∀ i : Nat, s = (i : Int) - 1 → r = (top (rd a.1) i : Int) - 1 := by
  refine loopM_ind (fun (s : Int) => ∃ i : Nat, s = (i : Int) - 1 ∧ i ≤ 64) (fun (s : Int) (r : Int) => ∀ i : Nat, s = (i : Int) - 1 → r = (top (rd a.1) i : Int) - 1) (fun s => (s + 1).toNat) ?_
  rintro s ⟨i, rfl, hi⟩
  match i with
  | 0 =>
    right
    refine ⟨-1, by simp [spec_l01Deg_l1], fun k hk => ?_⟩
    have : k = 0 := by omega
    subst this; simp [top]
  | i + 1 =>
    have e1 : ((i + 1 : Nat) : Int) - 1 = (i : Int) := by omega
    rw [e1]
    by_cases e : rd a.1 i = 0
    · left
      refine ⟨(i : Int) - 1, ?_, ⟨i, rfl, by omega⟩, by omega, fun r hr k hk => ?_⟩
      · simp only [spec_l01Deg_l1]
        rw [if_pos (by simp), ifp_pos (by omega)]
        simp [e]
        exact wrap64 (by omega) (by omega)
      · have : k = i + 1 := by omega
        subst this
        rw [hr i rfl]; simp [top, e]
    · right
      refine ⟨(i : Int), ?_, fun k hk => ?_⟩
      · simp only [spec_l01Deg_l1]
        rw [if_pos (by simp), ifp_pos (by omega)]
        simp [e]
      · have : k = i + 1 := by omega
        subst this
        simp [top, e]

theorem deg_is (a : V64) : spec_l01Deg a = some ((top (rd a.1) 64 : Int) - 1) := by
  obtain ⟨r, h1, h2⟩ := deg_loop a 63 ⟨64, by omega, by omega⟩
  rw [h2 64 (by omega)] at h1
  simp only [spec_l01Deg, h1, Option.bind_some]
end Go.Proofs.Ytkbnegemdlnncaa
/- Products, in the reference. -/
namespace Go.Proofs.Ytkbnegemdlnncaa
open Go.Abs

/-- One row of the reference's product. -/
theorem timesS_row {p : Int} (hp : 2 ≤ p ∧ p ≤ 256) {a b : V64} (ha : Res p a) (hb : Res p b) {i db : Nat} (hi : i + db < 64) {v : V64} (hv : Res p v) :
    ∃ v', loopM (fun s : Int × V64 => spec_l01Times_l2 (db : Int) (i : Int) a b p s.1 s.2) (0, v) = some v' ∧ Res p v' ∧ ∀ k, k < 64 → rd v'.1 k = if i ≤ k ∧ k ≤ i + db then (rd v.1 k + rd a.1 i * rd b.1 (k - i)) % p else rd v.1 k := by
  by_cases h0 : rd a.1 i = 0
  · refine ⟨v, ?_, hv, fun k hk => ?_⟩
    · rw [loopM_eq]
      simp only [spec_l01Times_l2]
      rw [ifp_pos (by omega)]
      simp [h0]
    · rw [h0]
      split
      · have := hv k hk
        rw [Int.zero_mul, Int.add_zero, Int.emod_eq_of_lt this.1 this.2]
      · rfl
  · have hai := ha i (by omega)
    obtain ⟨v', h1, h2, h3⟩ := loopM_for (body := fun s : Int × V64 => spec_l01Times_l2 (db : Int) (i : Int) a b p s.1 s.2) (fun j (v : V64) => ((j : Int), v)) (fun v => v) (db + 1)
      (fun j u => Res p u ∧ ∀ k, k < 64 → rd u.1 k = if i ≤ k ∧ k < i + j then (rd v.1 k + rd a.1 i * rd b.1 (k - i)) % p else rd v.1 k) (fun j u hj hI => by
        obtain ⟨hr, hk⟩ := hI
        have hbj := hb j (by omega)
        have huj := hr (i + j) (by omega)
        have e1 : IntKind.i64.wrap ((i : Int) + (j : Int)) = ((i + j : Nat) : Int) := by rw [wrap64 (by omega) (by omega)]; omega
        have hm := mul_small (x := rd a.1 i) (y := rd b.1 j) (by omega) (by omega)
        have hmod : Int.tmod (rd u.1 (i + j) + rd a.1 i * rd b.1 j) p = (rd u.1 (i + j) + rd a.1 i * rd b.1 j) % p := Int.tmod_eq_emod_of_nonneg (by omega)
        have hlt := emod_res (show 0 < p by omega) (rd u.1 (i + j) + rd a.1 i * rd b.1 j)
        refine ⟨vset u (i + j) ((rd u.1 (i + j) + rd a.1 i * rd b.1 j) % p), ?_, fun k hk' => ?_, fun k hk' => ?_⟩
        · simp only [spec_l01Times_l2, letp]
          rw [if_pos (by simp; omega), ifp_pos (by omega)]
          simp only [Option.bind_some]
          rw [if_pos (by simpa using h0), e1]
          rw [ifp_pos (by omega), ifp_pos (by omega), ifp_pos (by omega), ifp_pos (by omega), ifp_pos (by omega)]
          simp only [Int.toNat_natCast]
          rw [wrap64 (n := rd u.1 (i + j)) (by omega) (by omega), wrap64 (n := rd a.1 i) (by omega) (by omega), wrap64 (n := rd b.1 j) (by omega) (by omega), wrap64 (n := rd a.1 i * rd b.1 j) (by omega) (by omega), wrap64 (n := rd u.1 (i + j) + rd a.1 i * rd b.1 j) (by omega) (by omega), hmod, wrap8 hlt.1 (by omega), wrap64 (by omega) (by omega)]
          rfl
        · rw [rd_vset _ _ _ _ (by omega)]
          split
          · exact hlt
          · exact hr k hk'
        · rw [rd_vset _ _ _ _ (by omega)]
          by_cases e : k = i + j
          · subst e
            rw [if_pos rfl, if_pos (by omega), hk _ hk', if_neg (by omega), show i + j - i = j by omega]
          · rw [if_neg e, hk k hk']
            by_cases hc : i ≤ k ∧ k < i + j
            · rw [if_pos hc, if_pos (by omega)]
            · rw [if_neg hc, if_neg (by omega)]) (fun u hI => by
        simp only [spec_l01Times_l2]
        rw [if_neg (by simp; omega)]
        rfl) (db + 1) 0 v (by omega) ⟨hv, fun k hk => by rw [if_neg (by omega)]⟩
    exact ⟨v', h1, h2, fun k hk => by rw [h3 k hk]; simp only [show (i ≤ k ∧ k < i + (db + 1)) = (i ≤ k ∧ k ≤ i + db) from by rw [eq_iff_iff]; omega]⟩


theorem times_pad {p : Int} (hp : 2 ≤ p ∧ p ≤ 256) {a b : List Int} (ha : Row p a) (hb : Row p b) (la : a.length ≤ 64) (lb : b.length ≤ 64) (hl : a.length = 0 ∨ b.length = 0 ∨ a.length + b.length ≤ 65) :
    spec_l01Times p (pad a) (pad b) = some (pad (mul p a b), true) := by
  have hta : top (rd (pad a).1) 64 = a.length := by rw [top_congr 64 fun i hi => rd_padl a hi, ha.top la]
  have htb : top (rd (pad b).1) 64 = b.length := by rw [top_congr 64 fun i hi => rd_padl b hi, hb.top lb]
  simp only [spec_l01Times, deg_is, Option.bind_some, hta, htb]
  by_cases h1 : a.length = 0
  · have e : a = [] := List.eq_nil_of_length_eq_zero h1
    subst e
    simp [mul_nil, pad_nil]
  by_cases h2 : b.length = 0
  · have e : b = [] := List.eq_nil_of_length_eq_zero h2
    subst e
    simp [mul_nil', pad_nil]
  have hra := res_pad ha (show 0 < p by omega)
  have hrb := res_pad hb (show 0 < p by omega)
  obtain ⟨db, hdb⟩ : ∃ db : Nat, b.length = db + 1 := ⟨b.length - 1, by omega⟩
  obtain ⟨da, hda⟩ : ∃ da : Nat, a.length = da + 1 := ⟨a.length - 1, by omega⟩
  have e1 : ((a.length : Nat) : Int) - 1 = (da : Int) := by omega
  have e2 : ((b.length : Nat) : Int) - 1 = (db : Int) := by omega
  rw [e1, e2, wrap64 (by omega) (by omega)]
  simp only [show (decide ((da : Int) < 0)) = false by simp, Bool.false_eq_true, if_false, show (decide ((db : Int) < 0)) = false by simp, show (decide ((da : Int) + (db : Int) > 63)) = false by simp; omega, Option.bind_some]
  obtain ⟨v, h3, h4, h5⟩ := loopM_for (body := fun s : Int × V64 => spec_l01Times_l1 (da : Int) (db : Int) (pad a) (pad b) p s.1 s.2) (fun i v => ((i : Int), v)) (fun v => v) (da + 1)
    (fun i v => Res p v ∧ ∀ k, k < 64 → rd v.1 k = cv (rd a) (rd b) i k % p) (fun i v hi hI => by
      obtain ⟨hv, hk⟩ := hI
      obtain ⟨v', g1, g2, g3⟩ := timesS_row hp hra hrb (i := i) (db := db) (by omega) hv
      refine ⟨v', ?_, g2, fun k hk' => ?_⟩
      · simp only [spec_l01Times_l1]
        rw [if_pos (by simp; omega), g1]
        simp only [Option.bind_some]
        rw [wrap64 (by omega) (by omega)]; rfl
      · rw [g3 k hk', hk k hk', cv_succ]
        by_cases hc : i ≤ k ∧ k ≤ i + db
        · rw [if_pos hc, if_pos hc.1, rd_padl _ (by omega), rd_padl _ (by omega), Int.emod_add_emod]
        · rw [if_neg hc]
          by_cases hik : i ≤ k
          · rw [if_pos hik, rd_ge (l := b) (by omega), Int.mul_zero, Int.add_zero]
          · rw [if_neg hik, Int.add_zero]) (fun v hI => by
      simp only [spec_l01Times_l1]
      rw [if_neg (by simp; omega)]) (da + 1) 0 (vrep 64 0) (by omega) ⟨fun j hj => by rw [rd_vrep _ hj]; omega, fun k hk => by rw [rd_vrep _ hk]; simp [cv, sumTo]⟩
  have h3' : loopM (fun s : Int × V64 => spec_l01Times_l1 (da : Int) (db : Int) (pad a) (pad b) p s.1 s.2) (0, vrep 64 0) = some v := h3
  rw [h3']
  simp only [Option.bind_some]
  congr 2
  exact vec_ext fun k hk => by rw [h5 k hk, rd_padl _ hk, mul_rd, cv_conv fun i hi => rd_ge (by omega)]

theorem times_pad_no {p : Int} {a b : List Int} (ha : Row p a) (hb : Row p b) (la : a.length ≤ 64) (lb : b.length ≤ 64) (h1 : a.length ≠ 0) (h2 : b.length ≠ 0) (hl : 65 < a.length + b.length) :
    spec_l01Times p (pad a) (pad b) = some (vrep 64 0, false) := by
  have hta : top (rd (pad a).1) 64 = a.length := by rw [top_congr 64 fun i hi => rd_padl a hi, ha.top la]
  have htb : top (rd (pad b).1) 64 = b.length := by rw [top_congr 64 fun i hi => rd_padl b hi, hb.top lb]
  simp only [spec_l01Times, deg_is, Option.bind_some, hta, htb]
  rw [wrap64 (by omega) (by omega)]
  simp only [show (decide (((a.length : Nat) : Int) - 1 < 0)) = false by simp; omega, Bool.false_eq_true, if_false, show (decide (((b.length : Nat) : Int) - 1 < 0)) = false by simp; omega, show (decide (((a.length : Nat) : Int) - 1 + (((b.length : Nat) : Int) - 1) > 63)) = true by simp; omega, Option.bind_some, if_true]
end Go.Proofs.Ytkbnegemdlnncaa
/- Primes. -/
namespace Go.Proofs.Ytkbnegemdlnncaa
open Go.Abs

theorem isPrime_spec (p : Int) : spec_l01Prime p = some (isP p) := by
  unfold spec_l01Prime isP
  by_cases h1 : p = 2 <;> by_cases h2 : p = 3 <;> by_cases h3 : p = 5 <;> simp [h1, h2, h3]

theorem isPrime_impl (p : Int) : impl_isPrime p = some (isP p) := by
  unfold impl_isPrime isP
  by_cases h1 : p = 2 <;> by_cases h2 : p = 3 <;> by_cases h3 : p = 5 <;> simp [h1, h2, h3]
end Go.Proofs.Ytkbnegemdlnncaa
/- Which arrays have coefficients below p. -/
namespace Go.Proofs.Ytkbnegemdlnncaa
open Go.Abs
/-- All coefficients lie below p. -/
def Small (p : Int) (a : V64) : Prop := ∀ j, j < 64 → rd a.1 j < p
open Classical in
noncomputable def small (p : Int) (a : V64) : Bool := decide (Small p a)

theorem res_of_small {p : Int} {a : V64} (hb : IsB a) (h : small p a = true) : Res p a := fun j hj => by
  have h1 : Small p a := by simpa [small] using h
  exact ⟨(hb.rd hj).1, h1 j hj⟩
end Go.Proofs.Ytkbnegemdlnncaa
/- Which arrays are polynomials, in the reference. -/
namespace Go.Proofs.Ytkbnegemdlnncaa
open Go.Abs
theorem is_loop {p : Int} {a : V64} (hb : IsB a) : ∀ s : Int, (∃ i : Nat, s = i ∧ i ≤ 64 ∧ ∀ j, j < i → rd a.1 j < p) → ∃ r, loopM (fun s : Int => spec_l01Is_l1 a p s) s = some r ∧ ((r = .inl () ∧ Small p a) ∨ (r = .inr false ∧ ¬ Small p a)) := by
  refine loopM_ind (fun (s : Int) => ∃ i : Nat, s = i ∧ i ≤ 64 ∧ ∀ j, j < i → rd a.1 j < p) (fun (s : Int) (r : Unit ⊕ Bool) => (r = .inl () ∧ Small p a) ∨ (r = .inr false ∧ ¬ Small p a)) (fun s => 64 - s.toNat) ?_
  rintro s ⟨i, rfl, hi, hlt⟩
  by_cases h : i = 64
  · right
    subst h
    exact ⟨.inl (), by simp [spec_l01Is_l1], .inl ⟨rfl, hlt⟩⟩
  · have hbi := hb.rd (show i < 64 by omega)
    by_cases e : rd a.1 i < p
    · left
      refine ⟨((i + 1 : Nat) : Int), ?_, ⟨i + 1, rfl, by omega, fun j hj => ?_⟩, by simp; omega, fun r hr => hr⟩
      · simp only [spec_l01Is_l1]
        rw [if_pos (by simp; omega), ifp_pos (by omega), Int.toNat_natCast, wrap64 (by omega) (by omega), if_neg (by simp; omega), wrap64 (by omega) (by omega)]
        rfl
      · by_cases hj' : j = i
        · rw [hj']; exact e
        · exact hlt j (by omega)
    · right
      refine ⟨.inr false, ?_, .inr ⟨rfl, fun hs => e (hs i (by omega))⟩⟩
      simp only [spec_l01Is_l1]
      rw [if_pos (by simp; omega), ifp_pos (by omega), Int.toNat_natCast, wrap64 (by omega) (by omega), if_pos (by simp; omega)]
theorem is_is {p : Int} {a : V64} (hb : IsB a) : spec_l01Is p a = some (small p a && isP p) := by
  obtain ⟨r, h1, h2⟩ := is_loop (p := p) hb 0 ⟨0, rfl, by omega, fun j hj => by omega⟩
  rcases h2 with ⟨rfl, h⟩ | ⟨rfl, h⟩ <;> simp [spec_l01Is, h1, small, h, isPrime_spec]

end Go.Proofs.Ytkbnegemdlnncaa
/- Two polynomials that are drawn together. -/
namespace Go.Proofs.Ytkbnegemdlnncaa
open Go.Abs
theorem isb_res {p : Int} (hp : p ≤ 256) {v : V64} (h : Res p v) : IsB v := fun d hd => by
  obtain ⟨i, hi, rfl⟩ := List.getElem_of_mem hd
  have h1 := h i (by rw [← v.2]; exact hi)
  rw [rd_lt hi] at h1
  omega
theorem res_vset {p : Int} {v : V64} (h : Res p v) {k : Nat} (hk : k < 64) {x : Int} (hx : 0 ≤ x ∧ x < p) : Res p (vset v k x) := fun j hj => by
  rw [rd_vset _ _ _ _ hk]
  by_cases e : j = k
  · rw [if_pos e]; exact hx
  · rw [if_neg e]; exact h j hj
theorem res_zero {p : Int} (hp : 0 < p) : Res p (vrep 64 0) := fun j hj => by rw [rd_vrep _ hj]; omega
theorem drawR_loop {p : Int} (hp : 2 ≤ p ∧ p ≤ 256) : ∀ (m : Nat) (i : Int) (v : V64) (s : Src), i + 1 = m → i ≤ 63 → Res p v → SrcOk s →
    ∃ (v' : V64) (s' : Src), loopM (fun s : Int × V64 × Src => spec_l01Draw_of_src_l1 p s.1 s.2.1 s.2.2) (i, v, s) = some (v', s') ∧ Res p v' ∧ SrcOk s'
  | 0, i, v, s, hi, _, hv, hs => by
    have h0 : decide (i ≥ 0) = false := decide_eq_false (by omega)
    refine ⟨v, s, ?_, hv, hs⟩
    rw [loopM_eq]
    simp only [spec_l01Draw_of_src_l1, h0, Bool.false_eq_true, if_false, Option.bind_some]
  | m + 1, i, v, s, hi, h63, hv, hs => by
    have h0 : decide (i ≥ 0) = true := decide_eq_true (by omega)
    have ew : IntKind.i64.wrap (i - 1) = i - 1 := wrap64 (by omega) (by omega)
    obtain ⟨r, s1, k1, k2, _⟩ := next_is hs (n := 3) (by omega)
    rw [loopM_eq]
    simp only [spec_l01Draw_of_src_l1, h0, if_true, k1, Option.bind_some, ew]
    by_cases hr : r > 0
    · obtain ⟨x, s2, k3, k4, x0, x1, _⟩ := next_is k2 (n := p) (by omega)
      have x1 := x1 (by omega)
      obtain ⟨v', s', k5, k6, k7⟩ := drawR_loop hp m (i - 1) (vset v i.toNat (IntKind.u8.wrap x)) s2 (by omega) (by omega) (res_vset hv (by omega) (by rw [wrap8 (by omega) (by omega)]; omega)) k4
      refine ⟨v', s', ?_, k6, k7⟩
      simp only [decide_eq_true hr, if_true, k3, Option.bind_some]
      rw [ifp_pos (by omega)]
      simp only [Option.bind_some]
      exact k5
    · obtain ⟨v', s', k5, k6, k7⟩ := drawR_loop hp m (i - 1) v s1 (by omega) (by omega) hv k2
      refine ⟨v', s', ?_, k6, k7⟩
      simp only [decide_eq_false hr, Bool.false_eq_true, if_false, Option.bind_some]
      exact k5
theorem drawR_is {s : Src} (h : SrcOk s) {p most : Int} (hp : 2 ≤ p ∧ p ≤ 256) (h0 : 0 ≤ most) (h63 : most ≤ 63) : ∃ (v : V64) (s' : Src), spec_l01Draw_of_src s p most = some (v, s') ∧ SrcOk s' ∧ Res p v := by
  have ew : IntKind.i64.wrap (most + 2) = most + 2 := wrap64 (by omega) (by omega)
  obtain ⟨r, s1, k1, k2, k3, k4, _⟩ := next_is h (n := most + 2) (by omega)
  have k4 := k4 (by omega)
  have ew2 : IntKind.i64.wrap (r - 1) = r - 1 := wrap64 (by omega) (by omega)
  obtain ⟨v', s', g1, g2, g3⟩ := drawR_loop hp r.toNat (r - 1) (vrep 64 0) s1 (by omega) (by omega) (res_zero (by omega)) k2
  refine ⟨v', s', ?_, g3, g2⟩
  simp only [spec_l01Draw_of_src, ew, k1, Option.bind_some, ew2, g1]
theorem timesA {p : Int} (hp : 2 ≤ p ∧ p ≤ 256) {a b : V64} (ha : Res p a) (hb : Res p b) : ∃ (v : V64) (f : Bool), spec_l01Times p a b = some (v, f) ∧ IsB v := by
  have ra := row_row ha
  have rb := row_row hb
  by_cases hl : (row a).length = 0 ∨ (row b).length = 0 ∨ (row a).length + (row b).length ≤ 65
  · have e := times_pad hp ra rb (row_len a) (row_len b) hl
    rw [pad_row, pad_row] at e
    exact ⟨_, _, e, isb_res hp.2 (res_pad (mul_row (by omega) _ _) (by omega))⟩
  · have e := times_pad_no ra rb (row_len a) (row_len b) (by omega) (by omega) (by omega)
    rw [pad_row, pad_row] at e
    exact ⟨_, _, e, isb_zero⟩
theorem spoil_is {s : Src} (h : SrcOk s) : ∃ (p : Int) (v : V64) (s' : Src), spec_l01Spoil_of_src s = some (p, v, s') ∧ SrcOk s' ∧ IsB v ∧ p ≤ 1000 := by
  obtain ⟨p, s1, h1, h2, hpm⟩ := pick_is h (l := [2, 2, 3, 3, 5, 7]) (by simp) (by simp)
  have hp : p ≤ 1000 := by
    simp only [List.mem_cons, List.not_mem_nil, or_false] at hpm
    omega
  have e1 : spec_l01DrawPrime_of_src s = some (p, s1) := by simp only [spec_l01DrawPrime_of_src, h1, Option.bind_some]
  obtain ⟨m, s2, h3, h4, hm⟩ := pick_is h2 (l := [3, 6, 9, 63]) (by simp) (by simp)
  have hm' : 0 ≤ m ∧ m ≤ 63 := by
    simp only [List.mem_cons, List.not_mem_nil, or_false] at hm
    omega
  obtain ⟨a, s3, h5, h6, ha⟩ := draw_is h4 hp hm'.1 hm'.2
  have mid : ∃ (q : Int) (s4 : Src), (Option.bind (spec_l01Next_of_src s3 40) fun r23 => (if (r23.1 == 0) then (Option.bind (spec_l01Pick_of_src r23.2 ([0, 1, 4, 11, -3])) fun r27 => (some (r27.1, r27.2))) else (some (p, r23.2)))) = some (q, s4) ∧ SrcOk s4 ∧ q ≤ 1000 := by
    obtain ⟨r, s4, k1, k2, _⟩ := next_is h6 (n := 40) (by omega)
    simp only [k1, Option.bind_some]
    by_cases hr : r = 0
    · obtain ⟨q, s5, k3, k4, hq⟩ := pick_is k2 (l := [0, 1, 4, 11, -3]) (by simp) (by simp)
      rw [if_pos (by rw [hr]; rfl), k3]
      simp only [List.mem_cons, List.not_mem_nil, or_false] at hq
      exact ⟨q, s5, rfl, k4, by omega⟩
    · rw [if_neg (by rw [beq_iff_eq]; exact hr)]
      exact ⟨p, s4, rfl, k2, hp⟩
  obtain ⟨q, s4, h7, h8, hq⟩ := mid
  obtain ⟨v, s5, h9, h10, hv⟩ := bad_is h8 (if 1 > q then 1 else q) ha
  refine ⟨q, v, s5, ?_, h10, hv, hq⟩
  simp only [spec_l01Spoil_of_src, e1, h3, h5, h7, h9, Option.bind_some]
section
variable {c : List Int} (hl : c.length ≤ 4096) (hb : ∀ x ∈ c, 0 ≤ x ∧ x < 256)
include hl hb
theorem both_is : ∃ (p : Int) (a b : V64), spec_l01Both c = some (p, a, b) ∧ IsB a ∧ IsB b := by
  obtain ⟨s, h1, h2⟩ := from_is hl hb
  obtain ⟨p, v, s1, h3, h4, hv, hp⟩ := spoil_is h2
  have hq : ∃ q : Int, (Option.bind (spec_l01Prime p) fun r14 => (if (!r14) then (some 2) else (some p))) = some q ∧ 2 ≤ q ∧ q ≤ 256 := by
    rw [isPrime_spec]
    simp only [Option.bind_some]
    cases e : isP p with
    | true => exact ⟨p, rfl, by have := isP_pos e; omega⟩
    | false => exact ⟨2, rfl, by omega⟩
  obtain ⟨q, h5, hq⟩ := hq
  obtain ⟨m, s2, h6, h7, hm⟩ := pick_is h4 (l := [2, 4, 8, 63]) (by simp) (by simp)
  have hm' : 0 ≤ m ∧ m ≤ 63 := by
    simp only [List.mem_cons, List.not_mem_nil, or_false] at hm
    omega
  obtain ⟨a, s3, h8, h9, ha⟩ := drawR_is h7 hq hm'.1 hm'.2
  obtain ⟨r, s4, h10, h11, _⟩ := next_is h9 (n := 6) (by omega)
  have mid : ∃ (s5 : Src) (w : V64), (if (r == 0) then (Option.bind (spec_l01Draw_of_src s4 q 4) fun r74 => (Option.bind (spec_l01Times q a r74.1) fun r77 => (Option.bind (α := Bool) ((if r77.2 then (Option.bind (spec_l01Is q r77.1) fun r90 => (some r90)) else (some false))) fun x84 => (if x84 then (some (r74.2, r77.1)) else (some (r74.2, v)))))) else (some (s4, v))) = some (s5, w) ∧ SrcOk s5 ∧ IsB w := by
    by_cases hr : r = 0
    · obtain ⟨b, s5, k1, k2, hb'⟩ := drawR_is h11 hq (most := 4) (by omega) (by omega)
      obtain ⟨t, f, k3, ht⟩ := timesA hq ha hb'
      rw [if_pos (by rw [hr]; rfl), k1]
      simp only [Option.bind_some, k3]
      cases f with
      | false =>
        simp only [Bool.false_eq_true, if_false, Option.bind_some]
        exact ⟨s5, v, rfl, k2, hv⟩
      | true =>
        simp only [if_true, is_is ht, Option.bind_some]
        by_cases hw : (small q t && isP q) = true
        · rw [if_pos hw]
          exact ⟨s5, t, rfl, k2, ht⟩
        · rw [if_neg hw]
          exact ⟨s5, v, rfl, k2, hv⟩
    · rw [if_neg (by rw [beq_iff_eq]; exact hr)]
      exact ⟨s4, v, rfl, h11, hv⟩
  obtain ⟨s5, w, h12, h13, hw⟩ := mid
  obtain ⟨b, s6, h14, _, hb'⟩ := bad_is h13 q (isb_res hq.2 ha)
  refine ⟨p, w, b, ?_, hw, hb'⟩
  simp only [spec_l01Both, h1, h3, h5, h6, h8, h10, h12, h14, Option.bind_some]
end
end Go.Proofs.Ytkbnegemdlnncaa
/- Numbers near a limit. -/
namespace Go.Proofs.Ytkbnegemdlnncaa
open Go.Abs
theorem near_is {s : Src} (h : SrcOk s) {n : Int} (h0 : 0 ≤ n) (hn : n ≤ 1000000000000) : ∃ (r : Int) (s' : Src), spec_l01Near_of_src s n = some (r, s') ∧ SrcOk s' := by
  obtain ⟨r, s1, h1, h2, _⟩ := next_is h (n := 14) (by omega)
  have ew : IntKind.i64.wrap (n + 1) = n + 1 := wrap64 (by omega) (by omega)
  simp only [spec_l01Near_of_src, h1, Option.bind_some, ew]
  by_cases hr : r = 0
  · obtain ⟨r', s2, h3, h4, _⟩ := pick_is h2 (l := [-1, n + 1, 1099511627776, -4611686018427387904]) (by simp) (by simp)
    rw [if_pos (by rw [hr]; rfl)]
    exact ⟨r', s2, by rw [h3, Option.bind_some], h4⟩
  · obtain ⟨r', s2, h3, h4, _⟩ := next_is h2 (n := n + 1) (by omega)
    rw [if_neg (by rw [beq_iff_eq]; exact hr)]
    exact ⟨r', s2, by rw [h3, Option.bind_some], h4⟩
end Go.Proofs.Ytkbnegemdlnncaa
/- The numbers that a source hands out when its code is used up: all states come. -/
namespace Go.Abs
/-- One step. -/
def lcg (x : Int) : Int := 6364136223846793005 * x + 1442695040888963407
def lit' : Nat → Int → Int
  | 0, x => x
  | n + 1, x => lit' n (lcg x)
theorem lit_add : ∀ (n m : Nat) (x : Int), lit' (n + m) x = lit' m (lit' n x)
  | 0, m, x => by rw [Nat.zero_add]; rfl
  | n + 1, m, x => by
    rw [Nat.add_right_comm]
    exact lit_add n m (lcg x)
/-- 2^k steps at once. -/
theorem lcg_pow : ∀ k : Nat, ∃ A m C q : Int, (∀ x, lit' (2 ^ k) x = A * x + C) ∧ A = 1 + 2 ^ (k + 2) * m ∧ C = 2 ^ k * (2 * q + 1)
  | 0 => ⟨6364136223846793005, 1591034055961698251, 1442695040888963407, 721347520444481703, fun _ => rfl, by decide, by decide⟩
  | k + 1 => by
    obtain ⟨A, m, C, q, h1, h2, h3⟩ := lcg_pow k
    refine ⟨A * A, m + 2 ^ (k + 1) * m * m, A * C + C, q + 2 ^ k * m * (2 * q + 1), fun x => ?_, ?_, ?_⟩
    · rw [Nat.pow_succ, Nat.mul_two, lit_add, h1, h1, Int.mul_add, Int.mul_assoc, Int.add_assoc]
    · have e1 : (2 : Int) ^ (k + 1 + 2) = 2 * 2 ^ (k + 2) := by rw [show k + 1 + 2 = (k + 2) + 1 from rfl, Int.pow_succ, Int.mul_comm]
      have e2 : (2 : Int) ^ (k + 2) = 2 * 2 ^ (k + 1) := by rw [show k + 2 = (k + 1) + 1 from rfl, Int.pow_succ, Int.mul_comm]
      rw [h2, e1, e2]
      generalize (2 : Int) ^ (k + 1) = z
      grind
    · have e1 : (2 : Int) ^ (k + 1) = 2 * 2 ^ k := by rw [Int.pow_succ, Int.mul_comm]
      have e2 : (2 : Int) ^ (k + 2) = 4 * 2 ^ k := by rw [Int.pow_succ, e1, Int.mul_comm]; omega
      rw [h3, h2, e1, e2]
      generalize (2 : Int) ^ k = z
      grind
/-- Every state comes, modulo 2^k. -/
theorem lcg_all (x w : Int) : ∀ k : Nat, ∃ (n : Nat) (d : Int), n < 2 ^ k ∧ lit' n x = w + 2 ^ k * d
  | 0 => ⟨0, x - w, by simp, by simp only [lit']; omega⟩
  | k + 1 => by
    obtain ⟨n, d, h1, h2⟩ := lcg_all x w k
    have e1 : (2 : Int) ^ (k + 1) = 2 * 2 ^ k := by rw [Int.pow_succ, Int.mul_comm]
    rcases (show d % 2 = 0 ∨ d % 2 = 1 by omega) with h | h
    · obtain ⟨d', rfl⟩ : ∃ d', d = 2 * d' := ⟨d / 2, by omega⟩
      exact ⟨n, d', by rw [Nat.pow_succ]; omega, by rw [h2, e1]; grind⟩
    · obtain ⟨d', rfl⟩ : ∃ d', d = 2 * d' + 1 := ⟨d / 2, by omega⟩
      obtain ⟨A, m, C, q, g1, g2, g3⟩ := lcg_pow k
      have e2 : (2 : Int) ^ (k + 2) = 4 * 2 ^ k := by rw [Int.pow_succ, e1, Int.mul_comm]; omega
      refine ⟨n + 2 ^ k, d' + q + 1 + 2 * m * (w + 2 ^ k * (2 * d' + 1)), by rw [Nat.pow_succ]; omega, ?_⟩
      rw [lit_add, g1, h2, g2, g3, e1, e2]
      generalize (2 : Int) ^ k = z
      grind
def lM : Int := 144115188075855872
theorem lcg_mod (x y : Int) (h : x % lM = y % lM) : lcg x % lM = lcg y % lM := by
  unfold lcg
  rw [Int.add_emod, Int.mul_emod, h, ← Int.mul_emod, ← Int.add_emod]
theorem lit_mod : ∀ (n : Nat) (x y : Int), x % lM = y % lM → lit' n x % lM = lit' n y % lM
  | 0, _, _, h => h
  | n + 1, x, y, h => lit_mod n _ _ (lcg_mod x y h)
/-- What is handed out. -/
def lout (x : Int) : Int := x % lM / 8589934592
theorem lout_mod {x y : Int} (h : x % lM = y % lM) : lout x = lout y := by unfold lout; rw [h]
/-- Four states in a row hand out no multiples of 3. -/
theorem lcg_win : ∃ w : Int, lout w % 3 ≠ 0 ∧ lout (lcg w) % 3 ≠ 0 ∧ lout (lcg (lcg w)) % 3 ≠ 0 ∧ lout (lcg (lcg (lcg w))) % 3 ≠ 0 := ⟨94489280512, by decide⟩
/-- Whoever starts at x, asks for one number and, if it is a multiple of 3, for one more or three more, meets another one in time. -/
theorem lcg_ends {S : Nat → Int → Prop} (go : ∀ n x, (lout (lcg x) % 3 = 0 → ∀ y, (y % lM = lit' 2 x % lM ∨ y % lM = lit' 4 x % lM) → S n y) → S (n + 1) x) (x : Int) : ∃ n, n ≤ 144115188075855873 ∧ S n x := by
  obtain ⟨w, w0, w1, w2, w3⟩ := lcg_win
  have key : ∀ (m d n : Nat) (x : Int), d ≤ m → d ≤ n → lit' d x % lM = w % lM → S (n + 1) x := by
    intro m
    induction m with
    | zero =>
      intro d n x hd _ h
      have : d = 0 := by omega
      subst this
      exact go n x fun h0 => absurd h0 (by rw [lout_mod (lcg_mod x w h)]; exact w1)
    | succ m ih =>
      intro d n x hd hn h
      match d, h, hd, hn with
      | 0, h, _, _ => exact go n x fun h0 => absurd h0 (by rw [lout_mod (lcg_mod x w h)]; exact w1)
      | 1, h, _, _ => exact go n x fun h0 => absurd h0 (by rw [lout_mod (show lcg x % lM = w % lM from h)]; exact w0)
      | 2, h, hd, hn =>
        obtain ⟨n', rfl⟩ : ∃ n', n = n' + 1 := ⟨n - 1, by omega⟩
        refine go _ x fun _ y hy => ?_
        rcases hy with hy | hy
        · exact ih 0 n' y (by omega) (by omega) (hy.trans h)
        · have e : lit' 4 x = lit' 2 (lit' 2 x) := lit_add 2 2 x
          have e2 : y % lM = lit' 2 w % lM := by rw [hy, e]; exact lit_mod 2 _ _ h
          exact go n' y fun h0 => absurd h0 (by rw [lout_mod (lcg_mod _ _ e2)]; exact w3)
      | 3, h, hd, hn =>
        obtain ⟨n', rfl⟩ : ∃ n', n = n' + 1 := ⟨n - 1, by omega⟩
        refine go _ x fun _ y hy => ?_
        rcases hy with hy | hy
        · refine ih 1 n' y (by omega) (by omega) ?_
          rw [lit_mod 1 _ _ hy, ← lit_add 2 1 x]
          exact h
        · have e : lit' 4 x = lit' 1 (lit' 3 x) := lit_add 3 1 x
          have e2 : y % lM = lit' 1 w % lM := by rw [hy, e]; exact lit_mod 1 _ _ h
          exact go n' y fun h0 => absurd h0 (by rw [lout_mod (lcg_mod _ _ e2)]; exact w2)
      | d + 4, h, hd, hn =>
        obtain ⟨n', rfl⟩ : ∃ n', n = n' + 1 := ⟨n - 1, by omega⟩
        refine go _ x fun _ y hy => ?_
        rcases hy with hy | hy
        · refine ih (d + 2) n' y (by omega) (by omega) ?_
          rw [lit_mod (d + 2) _ _ hy, ← lit_add 2 (d + 2) x, show 2 + (d + 2) = d + 4 by omega]
          exact h
        · refine ih d n' y (by omega) (by omega) ?_
          rw [lit_mod d _ _ hy, ← lit_add 4 d x, show 4 + d = d + 4 by omega]
          exact h
  obtain ⟨n, d, h1, h2⟩ := lcg_all x w 57
  refine ⟨n + 1, by have : 2 ^ 57 = 144115188075855872 := by decide
                    omega, key n n n x (Nat.le_refl _) (Nat.le_refl _) ?_⟩
  rw [h2]
  have : (2 : Int) ^ 57 = lM := by decide
  rw [this, Int.add_mul_emod_self_left]
end Go.Abs
/- What the source hands out, exactly. -/
namespace Go.Proofs.Ytkbnegemdlnncaa
open Go.Abs
theorem wrapu (x : Int) : IntKind.u64.wrap x = x % 18446744073709551616 := by
  simp only [IntKind.wrap, IntKind.signed, IntKind.bits]
  simp
theorem mask_val {y : Int} (h0 : 0 ≤ y) (h1 : y < 18446744073709551616) :
    IntKind.u64.wrap ((BitVec.ofInt 64 (Int.fdiv y (2 ^ (min (33 : Int).toNat 64))) &&& BitVec.ofInt 64 16777215).toNat : Int) = lout y := by
  have e : (2 : Int) ^ (min (33 : Int).toNat 64) = 8589934592 := by decide
  have e1 : Int.fdiv y 8589934592 = ((y.toNat / 8589934592 : Nat) : Int) := by
    rw [Int.fdiv_eq_ediv_of_nonneg _ (by omega)]; omega
  have e2 : (BitVec.ofInt 64 ((y.toNat / 8589934592 : Nat) : Int)).toNat = y.toNat / 8589934592 := by
    rw [BitVec.toNat_ofInt, Int.emod_eq_of_lt (by omega) (by show ((y.toNat / 8589934592 : Nat) : Int) < ((2 ^ 64 : Nat) : Int); omega)]
    omega
  have e3 : (BitVec.ofInt 64 16777215).toNat = 2 ^ 24 - 1 := by decide
  rw [e, e1, BitVec.toNat_and, e2, e3, Nat.and_two_pow_sub_one_eq_mod, wrapu]
  unfold lout lM
  have : (2 : Nat) ^ 24 = 16777216 := by decide
  rw [this]
  omega
theorem hash_is (x : Int) : ∃ y, IntKind.u64.wrap (IntKind.u64.wrap (x * 6364136223846793005) + 1442695040888963407) = y ∧ 0 ≤ y ∧ y < 18446744073709551616 ∧ y % lM = lcg x % lM := by
  refine ⟨_, rfl, ?_, ?_, ?_⟩
  · rw [wrapu]; omega
  · rw [wrapu]; omega
  · rw [wrapu, wrapu]
    unfold lcg lM
    omega
structure Nx (s : Src) (n r a y : Int) : Prop where
  eq : spec_l01Next_of_src s n = some (r, s.1, a, y)
  lo : 0 ≤ r
  hi : r < n
  le : s.2.1 ≤ a
  ok : SrcOk (s.1, a, y)
  more : s.2.1 < (s.1.length : Int) → s.2.1 < a
  done : (s.1.length : Int) ≤ s.2.1 → a = s.2.1 ∧ r = lout y % n
  hash : y % lM = lcg s.2.2 % lM
theorem next_full {s : Src} (h : SrcOk s) {n : Int} (h1 : 1 ≤ n) (hn : n ≤ 4611686018427387904) : ∃ r a y, Nx s n r a y := by
  obtain ⟨y, hy, y0, y1, y2⟩ := hash_is s.2.2
  have hk := mask_val y0 y1
  have hk' : IntKind.u64.wrap (BitVec.ofInt IntKind.u64.bits (Int.fdiv y (2 ^ (min (33 : Int).toNat IntKind.u64.bits))) &&& BitVec.ofInt IntKind.u64.bits 16777215).toNat = lout y := hk
  have k0 : 0 ≤ lout y ∧ lout y ≤ 16777215 := by unfold lout lM; omega
  obtain ⟨hl, hb, ha⟩ := h
  by_cases h2 : s.2.1 < (s.1.length : Int)
  · have hm : rd s.1 s.2.1.toNat ∈ s.1 := by
      have : s.2.1.toNat < s.1.length := by omega
      simp [rd, this]
    have hbb := hb _ hm
    have em : Int.tmod (lout y + rd s.1 s.2.1.toNat) n = (lout y + rd s.1 s.2.1.toNat) % n := Int.tmod_eq_emod_of_nonneg (by omega)
    refine ⟨Int.tmod (lout y + rd s.1 s.2.1.toNat) n, s.2.1 + 1, y, ⟨?_, ?_, ?_, by omega, ⟨hl, hb, by simp only; omega⟩, fun _ => by omega, fun h3 => by omega, y2⟩⟩
    · simp only [spec_l01Next_of_src, letp, hy, hk']
      rw [if_neg (by rw [decide_eq_true_eq]; omega), if_pos (decide_eq_true h2), ifp_pos (by omega), wrap64 (n := lout y) (by omega) (by omega), wrap64 (n := rd s.1 s.2.1.toNat) (by omega) (by omega), wrap64 (by omega) (by omega), wrap64 (by omega) (by omega)]
      simp only [Option.bind_some]
      rw [ifp_pos (by omega)]
    · rw [em]; exact Int.emod_nonneg _ (by omega)
    · rw [em]; exact Int.emod_lt_of_pos _ (by omega)
  · have em : Int.tmod (lout y) n = lout y % n := Int.tmod_eq_emod_of_nonneg (by omega)
    refine ⟨Int.tmod (lout y) n, s.2.1, y, ⟨?_, ?_, ?_, by omega, ⟨hl, hb, ha⟩, fun h3 => absurd h3 h2, fun _ => ⟨rfl, em⟩, y2⟩⟩
    · simp only [spec_l01Next_of_src, letp, hy, hk']
      rw [if_neg (by rw [decide_eq_true_eq]; omega), if_neg (by rw [decide_eq_true_eq]; exact h2), wrap64 (n := lout y) (by omega) (by omega)]
      simp only [Option.bind_some]
      rw [ifp_pos (by omega)]
    · rw [em]; exact Int.emod_nonneg _ (by omega)
    · rw [em]; exact Int.emod_lt_of_pos _ (by omega)
end Go.Proofs.Ytkbnegemdlnncaa
/- Texts that are changed at random, until it is enough. -/
namespace Go.Proofs.Ytkbnegemdlnncaa
open Go.Abs
theorem signs_one : ∀ i : Nat, i < 11 → (rd ([(⟨#[48]⟩ : ByteArray), (⟨#[49]⟩ : ByteArray), (⟨#[50]⟩ : ByteArray), (⟨#[54]⟩ : ByteArray), (⟨#[55]⟩ : ByteArray), (⟨#[44]⟩ : ByteArray), (⟨#[59]⟩ : ByteArray), (⟨#[45]⟩ : ByteArray), (⟨#[32]⟩ : ByteArray), (⟨#[84]⟩ : ByteArray), (⟨#[10]⟩ : ByteArray)]) i).size = 1
  | 0, _ => rfl | 1, _ => rfl | 2, _ => rfl | 3, _ => rfl | 4, _ => rfl | 5, _ => rfl | 6, _ => rfl | 7, _ => rfl | 8, _ => rfl | 9, _ => rfl | 10, _ => rfl
  | i + 11, h => absurd h (by omega)
theorem ext_pre {t : ByteArray} {k : Int} (h0 : 0 ≤ k) (h1 : k ≤ t.size) : (t.extract 0 k.toNat).size = k.toNat := by
  rw [ByteArray.size_extract]; omega
theorem ext_suf {t : ByteArray} {k : Int} : (t.extract k.toNat t.size).size = t.size - k.toNat := by
  rw [ByteArray.size_extract]; omega
/-- How a step of the source goes on. -/
structure Gone (s s' : Src) : Prop where
  ok : SrcOk s'
  code : s'.1 = s.1
  le : s.2.1 ≤ s'.2.1
  done : (s.1.length : Int) ≤ s.2.1 → s'.2.1 = s.2.1
  hash : s'.2.2 % lM = lit' 1 s.2.2 % lM ∨ s'.2.2 % lM = lit' 3 s.2.2 % lM
theorem damage_is {s : Src} (h : SrcOk s) {t : ByteArray} (ht : t.size ≤ 4611686018427387000) : ∃ (t' : ByteArray) (s' : Src), spec_l01Damage_of_src s t = some (t', s') ∧ Gone s s' ∧ t'.size ≤ t.size + 1 := by
  obtain ⟨r, a, y, n1⟩ := next_full h (n := 11) (by omega) (by omega)
  have e1 : spec_l01Next_of_src s (11 : Int) = some (r, s.1, a, y) := n1.eq
  have r0 := n1.lo
  have r1 := n1.hi
  obtain ⟨c, hc⟩ : ∃ c, rd ([(⟨#[48]⟩ : ByteArray), (⟨#[49]⟩ : ByteArray), (⟨#[50]⟩ : ByteArray), (⟨#[54]⟩ : ByteArray), (⟨#[55]⟩ : ByteArray), (⟨#[44]⟩ : ByteArray), (⟨#[59]⟩ : ByteArray), (⟨#[45]⟩ : ByteArray), (⟨#[32]⟩ : ByteArray), (⟨#[84]⟩ : ByteArray), (⟨#[10]⟩ : ByteArray)]) r.toNat = c := ⟨_, rfl⟩
  have c1 : c.size = 1 := by rw [← hc]; exact signs_one _ (by omega)
  have hlen : (([(⟨#[48]⟩ : ByteArray), (⟨#[49]⟩ : ByteArray), (⟨#[50]⟩ : ByteArray), (⟨#[54]⟩ : ByteArray), (⟨#[55]⟩ : ByteArray), (⟨#[44]⟩ : ByteArray), (⟨#[59]⟩ : ByteArray), (⟨#[45]⟩ : ByteArray), (⟨#[32]⟩ : ByteArray), (⟨#[84]⟩ : ByteArray), (⟨#[10]⟩ : ByteArray)]).length : Int) = 11 := rfl
  have hlen2 : ((([(⟨#[48]⟩ : ByteArray), (⟨#[49]⟩ : ByteArray), (⟨#[50]⟩ : ByteArray), (⟨#[54]⟩ : ByteArray), (⟨#[55]⟩ : ByteArray), (⟨#[44]⟩ : ByteArray), (⟨#[59]⟩ : ByteArray), (⟨#[45]⟩ : ByteArray), (⟨#[32]⟩ : ByteArray), (⟨#[84]⟩ : ByteArray), (⟨#[10]⟩ : ByteArray)]).length : Nat) : Int) = 11 := rfl
  simp only [spec_l01Damage_of_src, letp, hlen, e1, Option.bind_some, hc]
  rw [ifp_pos (by omega)]
  have g1 : Gone s (s.1, a, y) := ⟨n1.ok, rfl, n1.le, fun hd => (n1.done hd).1, .inl n1.hash⟩
  by_cases h0 : t.size = 0
  · rw [if_pos (by rw [beq_iff_eq]; omega)]
    exact ⟨c, _, rfl, g1, by omega⟩
  · rw [if_neg (by rw [beq_iff_eq]; omega)]
    obtain ⟨k, a2, y2, n2⟩ := next_full n1.ok (n := (t.size : Int)) (by omega) (by omega)
    obtain ⟨u, a3, y3, n3⟩ := next_full n2.ok (n := 3) (by omega) (by omega)
    have e2 : spec_l01Next_of_src (s.1, a, y) (t.size : Int) = some (k, s.1, a2, y2) := n2.eq
    have e3 : spec_l01Next_of_src (s.1, a2, y2) 3 = some (u, s.1, a3, y3) := n3.eq
    have k0 := n2.lo
    have k1 := n2.hi
    have g3 : Gone s (s.1, a3, y3) := by
      refine ⟨n3.ok, rfl, ?_, fun hd => ?_, .inr ?_⟩
      · have := n1.le; have := n2.le; have := n3.le
        simp only at *
        omega
      · have q1 := n1.done hd
        have q2 := n2.done (by simp only; omega)
        have q3 := n3.done (by simp only at *; omega)
        simp only at *
        omega
      · have q1 := n1.hash
        have q2 := n2.hash
        have q3 := n3.hash
        simp only at *
        rw [q3, lcg_mod _ _ q2, lcg_mod _ _ (lcg_mod _ _ q1)]
        rfl
    have ew : IntKind.i64.wrap (k + 1) = k + 1 := wrap64 (by omega) (by omega)
    have z1 := ext_pre (t := t) k0 (by omega)
    have z2 := ext_suf (t := t) (k := k)
    have z3 := ext_suf (t := t) (k := k + 1)
    simp only [e2, e3, Option.bind_some, ew]
    by_cases u0 : u = 0
    · rw [if_pos (by rw [u0]; rfl), ifp_pos (by omega), ifp_pos (by omega), ifp_pos (by omega), ifp_pos (by rw [ByteArray.size_append]; omega)]
      exact ⟨_, _, rfl, g3, by rw [ByteArray.size_append, ByteArray.size_append]; omega⟩
    · rw [if_neg (by rw [beq_iff_eq]; exact u0)]
      by_cases u1 : u = 1
      · rw [if_pos (by rw [u1]; rfl), ifp_pos (by omega), ifp_pos (by omega), ifp_pos (by omega)]
        exact ⟨_, _, rfl, g3, by rw [ByteArray.size_append]; omega⟩
      · rw [if_neg (by rw [beq_iff_eq]; exact u1), ifp_pos (by omega), ifp_pos (by omega), ifp_pos (by omega), ifp_pos (by rw [ByteArray.size_append]; omega)]
        exact ⟨_, _, rfl, g3, by rw [ByteArray.size_append, ByteArray.size_append]; omega⟩
/-- The code is used up: the numbers end it. -/
theorem parse_end {s : Src} (h : SrcOk s) (hd : (s.1.length : Int) ≤ s.2.1) {t : ByteArray} (ht : t.size ≤ 1000000) : ∃ t', loopM (fun s : ByteArray × Src => spec_DrawParsePoly_l1 s.1 s.2) (t, s) = some t' := by
  obtain ⟨n, hn, hS⟩ := lcg_ends (S := fun n x => ∀ (t : ByteArray) (s : Src), SrcOk s → (s.1.length : Int) ≤ s.2.1 → s.2.2 = x → t.size + n ≤ 1000000000000000000 → ∃ t', loopM (fun s : ByteArray × Src => spec_DrawParsePoly_l1 s.1 s.2) (t, s) = some t') (fun n x go t s h hd hx ht => by
    subst hx
    obtain ⟨r, a, y, n1⟩ := next_full h (n := 3) (by omega) (by omega)
    obtain ⟨q1, q2⟩ := n1.done hd
    have hl : lout y = lout (lcg s.2.2) := lout_mod n1.hash
    rw [loopM_eq]
    simp only [spec_DrawParsePoly_l1, n1.eq, Option.bind_some]
    by_cases hr : r = 0
    · obtain ⟨t', s', d1, d2, d3⟩ := damage_is n1.ok (t := t) (by omega)
      rw [if_pos (by rw [hr]; rfl), d1]
      simp only [Option.bind_some]
      have hdo := d2.done (by simp only; omega)
      have hco := d2.code
      simp only at hdo hco
      refine go (by omega) s'.2.2 ?_ t' s' d2.ok (by rw [hco]; omega) rfl (by omega)
      have hash := n1.hash
      rcases d2.hash with e | e
      · left
        simp only at e
        rw [e]
        exact lit_mod 1 _ _ hash
      · right
        simp only at e
        rw [e]
        exact lit_mod 3 _ _ hash
    · rw [if_neg (by rw [beq_iff_eq]; exact hr)]
      exact ⟨t, rfl⟩) s.2.2
  exact hS t s h hd rfl (by omega)
theorem parse_all : ∀ (m : Nat) (t : ByteArray) (s : Src), SrcOk s → (s.1.length : Int) - s.2.1 ≤ m → t.size + m ≤ 1000000 → ∃ t', loopM (fun s : ByteArray × Src => spec_DrawParsePoly_l1 s.1 s.2) (t, s) = some t'
  | 0, t, s, h, hm, ht => parse_end h (by omega) (by omega)
  | m + 1, t, s, h, hm, ht => by
    by_cases hd : (s.1.length : Int) ≤ s.2.1
    · exact parse_end h hd (by omega)
    · obtain ⟨r, a, y, n1⟩ := next_full h (n := 3) (by omega) (by omega)
      have hmo := n1.more (by omega)
      rw [loopM_eq]
      simp only [spec_DrawParsePoly_l1, n1.eq, Option.bind_some]
      by_cases hr : r = 0
      · obtain ⟨t', s', d1, d2, d3⟩ := damage_is n1.ok (t := t) (by omega)
        rw [if_pos (by rw [hr]; rfl), d1]
        simp only [Option.bind_some]
        have hle := d2.le
        have hco := d2.code
        simp only at hle hco
        exact parse_all m t' s' d2.ok (by rw [hco]; omega) (by omega)
      · rw [if_neg (by rw [beq_iff_eq]; exact hr)]
        exact ⟨t, rfl⟩
end Go.Proofs.Ytkbnegemdlnncaa
/- Commutative rings, told by their laws: powers, the Frobenius, roots of polynomials, powers in finite fields. -/
namespace Go.Abs

structure IsRing (K : Type) [Add K] [Mul K] [Neg K] [Zero K] [One K] : Prop where
  add_comm : ∀ a b : K, a + b = b + a
  add_assoc : ∀ a b c : K, a + b + c = a + (b + c)
  add_zero : ∀ a : K, a + 0 = a
  add_neg : ∀ a : K, a + -a = 0
  mul_comm : ∀ a b : K, a * b = b * a
  mul_assoc : ∀ a b c : K, a * b * c = a * (b * c)
  mul_one : ∀ a : K, a * 1 = a
  mul_add : ∀ a b c : K, a * (b + c) = a * b + a * c

section
variable {K : Type} [Add K] [Mul K] [Neg K] [Zero K] [One K]

def pw (x : K) : Nat → K
  | 0 => 1
  | n + 1 => pw x n * x
def nsm : Nat → K → K
  | 0, _ => 0
  | n + 1, x => nsm n x + x

namespace IsRing
variable (R : IsRing K)
include R
theorem zero_add (a : K) : 0 + a = a := by rw [R.add_comm, R.add_zero]
theorem neg_add (a : K) : -a + a = 0 := by rw [R.add_comm, R.add_neg]
theorem add_left_comm (a b c : K) : a + (b + c) = b + (a + c) := by rw [← R.add_assoc, R.add_comm a b, R.add_assoc]
theorem mul_left_comm (a b c : K) : a * (b * c) = b * (a * c) := by rw [← R.mul_assoc, R.mul_comm a b, R.mul_assoc]
theorem one_mul (a : K) : 1 * a = a := by rw [R.mul_comm, R.mul_one]
theorem add_mul (a b c : K) : (a + b) * c = a * c + b * c := by rw [R.mul_comm, R.mul_add, R.mul_comm c a, R.mul_comm c b]
theorem cancel {a b c : K} (h : a + b = a + c) : b = c := by
  have : -a + (a + b) = -a + (a + c) := by rw [h]
  rwa [← R.add_assoc, ← R.add_assoc, R.neg_add, R.zero_add, R.zero_add] at this
theorem mul_zero (a : K) : a * 0 = 0 := by
  have h : a * 0 + a * 0 = a * 0 + 0 := by rw [← R.mul_add, R.add_zero, R.add_zero]
  exact R.cancel h
theorem zero_mul (a : K) : 0 * a = 0 := by rw [R.mul_comm, R.mul_zero]
theorem neg_of {a b : K} (h : a + b = 0) : b = -a := R.cancel (a := a) (by rw [h, R.add_neg])
theorem mul_neg (a b : K) : a * -b = -(a * b) := R.neg_of (by rw [← R.mul_add, R.add_neg, R.mul_zero])
theorem neg_neg (a : K) : - -a = a := (R.neg_of (R.neg_add a)).symm
theorem sub_zero {a b : K} (h : a + -b = 0) : a = b := by
  have h' := R.neg_of ((R.add_comm _ _).trans h)
  rw [R.neg_neg] at h'
  exact h'

/-! Powers and multiples. -/
theorem pw_zero {n : Nat} (h : n ≠ 0) : pw (0 : K) n = 0 := by
  cases n with
  | zero => exact absurd rfl h
  | succ n => simp only [pw, R.mul_zero]
theorem pw_add (x : K) (n m : Nat) : pw x (n + m) = pw x n * pw x m := by
  induction m with
  | zero => simp only [pw, Nat.add_zero, R.mul_one]
  | succ m ih => rw [← Nat.add_assoc]; simp only [pw, ih, R.mul_assoc]
theorem pw_mul (x : K) (n m : Nat) : pw x (n * m) = pw (pw x n) m := by
  induction m with
  | zero => simp only [pw, Nat.mul_zero]
  | succ m ih => rw [Nat.mul_succ, R.pw_add, ih]; rfl
theorem mul_nsm (n : Nat) (x y : K) : x * nsm n y = nsm n (x * y) := by
  induction n with
  | zero => simp only [nsm, R.mul_zero]
  | succ n ih => simp only [nsm, R.mul_add, ih]
end IsRing

/-- The sum of c_i x^i y^(n - i). -/
def hom (x y : K) : List Nat → K
  | [] => 0
  | c :: l => nsm c (pw y l.length) + x * hom x y l
def pasc : Nat → List Nat → List Nat
  | k, [] => [k]
  | k, c :: l => (k + c) :: pasc c l
def pascn : Nat → List Nat
  | 0 => [1]
  | n + 1 => pasc 0 (pascn n)

namespace IsRing
variable (R : IsRing K)
include R
end IsRing

/-! Polynomials from the leading coefficient on. -/
def hn (x : K) : K → List K → K
  | a, [] => a
  | a, c :: l => hn x (a * x + c) l
def synd (r : K) : K → List K → List K
  | _, [] => []
  | a, c :: l => a :: synd r (a * r + c) l
omit [Neg K] [Zero K] [One K] in
theorem synd_len (r : K) : ∀ (a : K) (l : List K), (synd r a l).length = l.length
  | _, [] => rfl
  | a, c :: l => by simp only [synd, List.length_cons, synd_len r _ l]

namespace IsRing
variable (R : IsRing K)
include R
theorem hn_synd (x r : K) : ∀ (l : List K) (a y : K), hn x (a + (x + -r) * y) l = (x + -r) * hn x y (synd r a l) + hn r a l
  | [], a, y => by simp only [hn, synd]; exact R.add_comm _ _
  | c :: l, a, y => by
    simp only [hn, synd]
    rw [← hn_synd x r l (a * r + c) (y * x + a)]
    congr 1
    have e : a * x = a * r + (x + -r) * a := by
      rw [R.add_mul, R.mul_comm (-r), R.mul_neg, R.mul_comm x a, R.add_left_comm, R.add_neg, R.add_zero]
    rw [R.add_mul, e, R.mul_add, R.mul_assoc]
    simp only [R.add_assoc, R.add_comm c]
    congr 1
    rw [R.add_left_comm]
/-- A monic polynomial has no more roots than its degree. -/
theorem roots (hd : ∀ a b : K, a * b = 0 → a = 0 ∨ b = 0) (h10 : (1 : K) ≠ 0) : ∀ (n : Nat) (l L : List K), l.length = n → L.Nodup → (∀ x ∈ L, hn x 1 l = 0) → L.length ≤ n
  | _, _, [], _, _, _ => Nat.zero_le _
  | 0, l, r :: L, hl, _, hr => by
    have : l = [] := List.eq_nil_of_length_eq_zero hl
    subst this
    exact absurd (hr r (by simp)) h10
  | n + 1, [], r :: L, hl, _, _ => by simp at hl
  | n + 1, c :: l, r :: L, hl, hN, hr => by
    have hr0 : hn r 1 (c :: l) = 0 := hr r (by simp)
    have key : ∀ x ∈ L, hn x 1 (synd r (1 * r + c) l) = 0 := by
      intro x hx
      have h0 := hr x (by simp [hx])
      have h1 := R.hn_synd x r (c :: l) 1 0
      rw [R.mul_zero, R.add_zero, h0, hr0, R.add_zero] at h1
      simp only [synd, hn, R.zero_mul, R.zero_add] at h1
      rcases hd _ _ h1.symm with h | h
      · have : x = r := R.sub_zero h
        subst this
        exact absurd hx (List.nodup_cons.1 hN).1
      · exact h
    have := roots hd h10 n (synd r (1 * r + c) l) L (by rw [synd_len]; simpa using hl) (List.nodup_cons.1 hN).2 key
    simp only [List.length_cons]; omega
end IsRing
def prd : List K → K
  | [] => 1
  | x :: l => x * prd l
namespace IsRing
variable (R : IsRing K)
include R
end IsRing
end
end Go.Abs
/- Rings: divisors, residues by an element. -/
namespace Go.Abs
section
variable {K : Type} [Add K] [Mul K] [Neg K] [Zero K] [One K]

def Dv (a b : K) : Prop := ∃ q, b = q * a
namespace IsRing
variable (R : IsRing K)
include R
theorem dv_zero (a : K) : Dv a 0 := ⟨0, (R.zero_mul a).symm⟩
theorem dv_add {a b c : K} (h1 : Dv a b) (h2 : Dv a c) : Dv a (b + c) := by
  obtain ⟨x, rfl⟩ := h1
  obtain ⟨y, rfl⟩ := h2
  exact ⟨x + y, (R.add_mul _ _ _).symm⟩
theorem dv_mul {a b : K} (h : Dv a b) (c : K) : Dv a (c * b) := by
  obtain ⟨x, rfl⟩ := h
  exact ⟨c * x, (R.mul_assoc _ _ _).symm⟩
theorem dv_mul' {a b : K} (h : Dv a b) (c : K) : Dv a (b * c) := by rw [R.mul_comm]; exact R.dv_mul h c
theorem dv_neg {a b : K} (h : Dv a b) : Dv a (-b) := by
  obtain ⟨x, rfl⟩ := h
  exact ⟨-x, by rw [R.mul_comm (-x), R.mul_neg, R.mul_comm]⟩
theorem neg_add' (a b : K) : -(a + b) = -a + -b := by
  refine (R.neg_of ?_).symm
  rw [R.add_assoc, R.add_left_comm b, R.add_neg, R.add_zero, R.add_neg]
/-! Congruence by an element. -/
theorem cong_eqv (f : K) : Equivalence fun a b : K => Dv f (a + -b) := by
  refine ⟨fun a => by rw [R.add_neg]; exact R.dv_zero f, fun {a b} h => ?_, fun {a b c} h1 h2 => ?_⟩
  · have := R.dv_neg h
    rwa [R.neg_add', R.neg_neg, R.add_comm] at this
  · have := R.dv_add h1 h2
    have e : a + -b + (b + -c) = a + -c := by rw [R.add_assoc, ← R.add_assoc (-b), R.neg_add, R.zero_add]
    rwa [e] at this
end IsRing
def sdv (R : IsRing K) (f : K) : Setoid K := ⟨fun a b => Dv f (a + -b), R.cong_eqv f⟩
def Qt (R : IsRing K) (f : K) : Type := Quotient (sdv R f)
def qm (R : IsRing K) (f a : K) : Qt R f := Quotient.mk (sdv R f) a
theorem qm_iff (R : IsRing K) {f a b : K} : qm R f a = qm R f b ↔ Dv f (a + -b) := ⟨fun h => Quotient.exact h, fun h => Quotient.sound h⟩
variable (R : IsRing K) (f : K)
instance : Add (Qt R f) := ⟨Quotient.lift₂ (fun a b => qm R f (a + b)) fun a b c d h1 h2 => by
  refine (qm_iff R).2 ?_
  have h := R.dv_add (show Dv f (a + -c) from h1) (show Dv f (b + -d) from h2)
  have e : a + -c + (b + -d) = a + b + -(c + d) := by
    rw [R.neg_add']; simp only [R.add_assoc]; rw [R.add_left_comm (-c)]
  rwa [e] at h⟩
instance : Mul (Qt R f) := ⟨Quotient.lift₂ (fun a b => qm R f (a * b)) fun a b c d h1 h2 => by
  refine (qm_iff R).2 ?_
  have h := R.dv_add (R.dv_mul' (show Dv f (a + -c) from h1) b) (R.dv_mul (show Dv f (b + -d) from h2) c)
  have e : (a + -c) * b + c * (b + -d) = a * b + -(c * d) := by
    rw [R.add_mul, R.mul_add, R.mul_neg, R.mul_comm (-c), R.mul_neg, R.mul_comm b c, R.add_assoc, ← R.add_assoc (-(c * b)), R.neg_add, R.zero_add]
  rwa [e] at h⟩
instance : Neg (Qt R f) := ⟨Quotient.lift (fun a => qm R f (-a)) fun a c h1 => by
  refine (qm_iff R).2 ?_
  have h := R.dv_neg (show Dv f (a + -c) from h1)
  rwa [R.neg_add'] at h⟩
instance : Zero (Qt R f) := ⟨qm R f 0⟩
instance : One (Qt R f) := ⟨qm R f 1⟩
end
end Go.Abs
/- Polynomials modulo p are a ring: products go along with sums, in any order. -/
namespace Go.Abs

theorem sumTo_add (f g : Nat → Int) : ∀ n, sumTo n (fun i => f i + g i) = sumTo n f + sumTo n g
  | 0 => rfl
  | n + 1 => by simp only [sumTo, sumTo_add f g n]; omega
theorem sumTo_mul (c : Int) (f : Nat → Int) : ∀ n, sumTo n (fun i => c * f i) = c * sumTo n f
  | 0 => by simp [sumTo]
  | n + 1 => by simp only [sumTo, sumTo_mul c f n, Int.mul_add]
theorem sumTo_mul' (c : Int) (f : Nat → Int) (n : Nat) : sumTo n (fun i => f i * c) = sumTo n f * c := by
  rw [Int.mul_comm, ← sumTo_mul]
  exact sumTo_congr n fun i _ => Int.mul_comm _ _
theorem sumTo_swap (f : Nat → Nat → Int) (m : Nat) : ∀ n, sumTo n (fun i => sumTo m (fun j => f i j)) = sumTo m (fun j => sumTo n (fun i => f i j))
  | 0 => (sumTo_zero m fun _ _ => rfl).symm
  | n + 1 => by simp only [sumTo]; rw [sumTo_swap f m n, ← sumTo_add]
/-- The first summand apart. -/
theorem sumTo_first (f : Nat → Int) : ∀ n, sumTo (n + 1) f = f 0 + sumTo n fun i => f (i + 1)
  | 0 => by simp [sumTo]
  | n + 1 => by
    have := sumTo_first f n
    simp only [sumTo] at this ⊢
    omega
theorem sumTo_rev (f : Nat → Int) : ∀ n, sumTo (n + 1) f = sumTo (n + 1) fun i => f (n - i)
  | 0 => rfl
  | n + 1 => by
    rw [sumTo_first (fun i => f (n + 1 - i)) (n + 1)]
    have h := sumTo_rev f n
    have e : sumTo (n + 1) (fun i => f (n + 1 - (i + 1))) = sumTo (n + 1) fun i => f (n - i) := sumTo_congr _ fun i _ => by rw [show n + 1 - (i + 1) = n - i by omega]
    rw [e, ← h]
    simp only [sumTo, Nat.sub_zero]
    omega
/-- Summands from j on. -/
theorem sumTo_from (g : Nat → Int) (j : Nat) : ∀ n, sumTo (j + n) (fun i => if j ≤ i then g (i - j) else 0) = sumTo n g
  | 0 => by rw [Nat.add_zero]; exact sumTo_zero j fun i hi => if_neg (by omega)
  | n + 1 => by
    rw [← Nat.add_assoc]
    simp only [sumTo]
    rw [sumTo_from g j n, if_pos (by omega), show j + n - j = n by omega]

theorem cv_more (a b : Nat → Int) {n k : Nat} (h : k + 1 ≤ n) : cv a b n k = conv a b k := by
  obtain ⟨m, rfl⟩ : ∃ m, n = k + 1 + m := ⟨n - (k + 1), by omega⟩
  exact sumTo_more m fun i h1 _ => if_neg (by omega)
theorem conv_comm (a b : Nat → Int) (k : Nat) : conv a b k = conv b a k := by
  unfold conv cv
  rw [sumTo_rev]
  refine sumTo_congr _ fun i hi => ?_
  rw [if_pos (by omega), if_pos (by omega), show k - (k - i) = i by omega, Int.mul_comm]
theorem conv_assoc (a b c : Nat → Int) (k : Nat) : conv (conv a b) c k = conv a (conv b c) k := by
  have h1 : conv (conv a b) c k = sumTo (k + 1) fun i => sumTo (k + 1) fun j => (if j ≤ i then a j * b (i - j) else 0) * c (k - i) := by
    unfold conv
    refine sumTo_congr _ fun i hi => ?_
    rw [if_pos (by omega), sumTo_mul']
    congr 1
    exact (cv_more a b (n := k + 1) (by omega)).symm
  have h2 : conv a (conv b c) k = sumTo (k + 1) fun j => a j * sumTo (k + 1 - j) fun l => b l * c (k - j - l) := by
    unfold conv
    refine sumTo_congr _ fun j hj => ?_
    rw [if_pos (by omega)]
    congr 1
    show sumTo (k - j + 1) (fun i => if i ≤ k - j then b i * c (k - j - i) else 0) = _
    rw [show k - j + 1 = k + 1 - j by omega]
    exact sumTo_congr _ fun l hl => if_pos (by omega)
  rw [h1, h2, sumTo_swap]
  refine sumTo_congr _ fun j hj => ?_
  rw [← sumTo_mul, ← sumTo_from (fun l => a j * (b l * c (k - j - l))) j (k + 1 - j), show j + (k + 1 - j) = k + 1 by omega]
  refine sumTo_congr _ fun i hi => ?_
  by_cases h : j ≤ i
  · rw [if_pos h, if_pos h, show k - j - (i - j) = k - i by omega, Int.mul_assoc]
  · rw [if_neg h, if_neg h, Int.zero_mul]
theorem conv_addl (a b c : Nat → Int) (s : Int) (k : Nat) : conv (fun i => a i + s * b i) c k = conv a c k + s * conv b c k := by
  unfold conv cv
  rw [← sumTo_mul, ← sumTo_add]
  refine sumTo_congr _ fun i _ => ?_
  split
  · rw [Int.add_mul, Int.mul_assoc]
  · simp

/-! Modulo p. -/
theorem sumTo_mod {p : Int} {f g : Nat → Int} : ∀ n, (∀ i, i < n → f i % p = g i % p) → sumTo n f % p = sumTo n g % p
  | 0, _ => rfl
  | n + 1, h => by
    simp only [sumTo]
    rw [Int.add_emod, sumTo_mod n fun i hi => h i (by omega), h n (by omega), ← Int.add_emod]
theorem conv_mod {p : Int} {a a' b b' : Nat → Int} (ha : ∀ i, a i % p = a' i % p) (hb : ∀ i, b i % p = b' i % p) (k : Nat) : conv a b k % p = conv a' b' k % p := by
  refine sumTo_mod _ fun i _ => ?_
  split
  · rw [Int.mul_emod, ha, hb, ← Int.mul_emod]
  · rfl
theorem Row.mod {p : Int} {l : List Int} (h : Row p l) (hp : 0 < p) (i : Nat) : Abs.rd l i % p = Abs.rd l i := Int.emod_eq_of_lt (h.rd hp i).1 (h.rd hp i).2

theorem mul_comm' (p : Int) (a b : List Int) : mul p a b = mul p b a := by
  unfold mul
  rw [Nat.add_comm]
  exact ofF_congr fun i _ => by rw [conv_comm]
theorem mul_assoc' {p : Int} (hp : 0 < p) (a b c : List Int) : mul p (mul p a b) c = mul p a (mul p b c) := by
  refine row_ext (mul_row hp _ _) (mul_row hp _ _) fun i => ?_
  rw [mul_rd, mul_rd]
  rw [conv_mod (a' := conv (rd a) (rd b)) (b' := rd c) (fun j => by rw [mul_rd, Int.emod_emod]) (fun _ => rfl), conv_assoc]
  exact conv_mod (fun _ => rfl) (fun j => by rw [mul_rd, Int.emod_emod]) i
theorem conv_one (a : Nat → Int) (i : Nat) : conv a (rd [1]) i = a i := by
  rw [conv_comm]
  unfold conv cv
  rw [sumTo_first, if_pos (by omega), sumTo_zero i fun j hj => ?_]
  · simp [rd]
  · rw [show rd ([1] : List Int) (j + 1) = 0 from rd_ge (by simp)]; simp
theorem mul_one' {p : Int} (hp : 0 < p) {a : List Int} (ha : Row p a) : mul p a [1] = a :=
  row_ext (mul_row hp _ _) ha fun i => by rw [mul_rd, conv_one, ha.mod hp]
theorem comb_mul {p : Int} (hp : 0 < p) (a b c : List Int) (k : Int) : mul p (comb p a b k) c = comb p (mul p a c) (mul p b c) k := by
  refine row_ext (mul_row hp _ _) (comb_row hp _ _ _) fun i => ?_
  rw [mul_rd, comb_rd, mul_rd, mul_rd, conv_mod (a' := fun i => rd a i + k * rd b i) (b' := rd c) (fun j => by rw [comb_rd, Int.emod_emod]) (fun _ => rfl), conv_addl]
  rw [Int.add_emod (conv (rd a) (rd c) i % p), Int.emod_emod, Int.mul_emod k (conv (rd b) (rd c) i % p), Int.emod_emod, ← Int.mul_emod, ← Int.add_emod]
theorem mul_comb {p : Int} (hp : 0 < p) (a b c : List Int) (k : Int) : mul p c (comb p a b k) = comb p (mul p c a) (mul p c b) k := by
  rw [mul_comm', comb_mul hp, mul_comm' p a, mul_comm' p b]
/-! Products of lists, as long as their degrees are not too great. -/
def degs : List (List Int) → Nat
  | [] => 0
  | b :: M => (b.length - 1) + degs M
def prodF (p : Int) (o : List Int) (M : List (List Int)) : List Int := M.foldl (mul p) o
end Go.Abs
/- Inverses modulo p. -/
namespace Go.Proofs.Ytkbnegemdlnncaa
open Go.Abs

/-- The inverse of x modulo p. -/
def inv (p x : Int) : Int := if p = 2 then 1 else if p = 3 then x else if p = 5 then (if x = 1 then 1 else if x = 2 then 3 else if x = 3 then 2 else 4) else (if x = 1 then 1 else if x = 2 then 4 else if x = 3 then 5 else if x = 4 then 2 else if x = 5 then 3 else 6)
theorem inv_cases {p x : Int} (hp : isP p = true) (hx : 0 < x ∧ x < p) : (p = 2 ∧ x = 1) ∨ (p = 3 ∧ x = 1) ∨ (p = 3 ∧ x = 2) ∨ (p = 5 ∧ x = 1) ∨ (p = 5 ∧ x = 2) ∨ (p = 5 ∧ x = 3) ∨ (p = 5 ∧ x = 4) ∨
    (p = 7 ∧ x = 1) ∨ (p = 7 ∧ x = 2) ∨ (p = 7 ∧ x = 3) ∨ (p = 7 ∧ x = 4) ∨ (p = 7 ∧ x = 5) ∨ (p = 7 ∧ x = 6) := by
  rcases isP_iff.1 hp with rfl | rfl | rfl | rfl <;> omega
theorem inv_is {p x : Int} (hp : isP p = true) (hx : 0 < x ∧ x < p) : 0 < inv p x ∧ inv p x < p ∧ x * inv p x % p = 1 := by
  rcases inv_cases hp hx with ⟨rfl, rfl⟩ | ⟨rfl, rfl⟩ | ⟨rfl, rfl⟩ | ⟨rfl, rfl⟩ | ⟨rfl, rfl⟩ | ⟨rfl, rfl⟩ | ⟨rfl, rfl⟩ | ⟨rfl, rfl⟩ | ⟨rfl, rfl⟩ | ⟨rfl, rfl⟩ | ⟨rfl, rfl⟩ | ⟨rfl, rfl⟩ | ⟨rfl, rfl⟩ <;> decide
theorem inv_first {p x : Int} (hp : isP p = true) (hx : 0 < x ∧ x < p) {j : Int} (h1 : 1 ≤ j) (h2 : j < inv p x) : j * x % p ≠ 1 := by
  rcases inv_cases hp hx with ⟨rfl, rfl⟩ | ⟨rfl, rfl⟩ | ⟨rfl, rfl⟩ | ⟨rfl, rfl⟩ | ⟨rfl, rfl⟩ | ⟨rfl, rfl⟩ | ⟨rfl, rfl⟩ | ⟨rfl, rfl⟩ | ⟨rfl, rfl⟩ | ⟨rfl, rfl⟩ | ⟨rfl, rfl⟩ | ⟨rfl, rfl⟩ | ⟨rfl, rfl⟩ <;> simp [inv] at h2 <;> omega
theorem inv_pow {p x : Int} (hp : isP p = true) (hx : 0 < x ∧ x < p) : x ^ (p - 2).toNat % p = inv p x := by
  rcases inv_cases hp hx with ⟨rfl, rfl⟩ | ⟨rfl, rfl⟩ | ⟨rfl, rfl⟩ | ⟨rfl, rfl⟩ | ⟨rfl, rfl⟩ | ⟨rfl, rfl⟩ | ⟨rfl, rfl⟩ | ⟨rfl, rfl⟩ | ⟨rfl, rfl⟩ | ⟨rfl, rfl⟩ | ⟨rfl, rfl⟩ | ⟨rfl, rfl⟩ | ⟨rfl, rfl⟩ <;> decide
end Go.Proofs.Ytkbnegemdlnncaa
/- Division of polynomials, from the leading coefficient on. -/
namespace Go.Proofs.Ytkbnegemdlnncaa
open Go.Abs

def dstep (p : Int) (b : Nat → Int) (m : Nat) (f : Int) (i : Nat) (r : Nat → Int) (j : Nat) : Int := if i ≤ j ∧ j ≤ i + m then (r j - f * b (j - i)) % p else r j
def dfac (p iv : Int) (m i : Nat) (r : Nat → Int) : Int := r (i + m) * iv % p
def drem (p : Int) (b : Nat → Int) (m : Nat) (iv : Int) : Nat → (Nat → Int) → Nat → Int
  | 0, r => r
  | i + 1, r => drem p b m iv i (dstep p b m (dfac p iv m i r) i r)
def dquo (p : Int) (b : Nat → Int) (m : Nat) (iv : Int) : Nat → (Nat → Int) → Nat → Int
  | 0, _, _ => 0
  | i + 1, r, j => if j = i then dfac p iv m i r else dquo p b m iv i (dstep p b m (dfac p iv m i r) i r) j
def lead (b : List Int) : Int := rd b (b.length - 1)
def quo (p : Int) (a b : List Int) : List Int := ofF (a.length + 1 - b.length) (dquo p (rd b) (b.length - 1) (inv p (lead b)) (a.length + 1 - b.length) (rd a))
def rem (p : Int) (a b : List Int) : List Int := ofF a.length (drem p (rd b) (b.length - 1) (inv p (lead b)) (a.length + 1 - b.length) (rd a))

section
variable {p : Int} {b : Nat → Int} {m : Nat} {iv : Int}
theorem dstep_res (hp : 0 < p) {r : Nat → Int} (hr : ∀ j, 0 ≤ r j ∧ r j < p) (f : Int) (i j : Nat) : 0 ≤ dstep p b m f i r j ∧ dstep p b m f i r j < p := by
  unfold dstep
  split
  · exact emod_res hp _
  · exact hr j
theorem drem_res (hp : 0 < p) : ∀ (i : Nat) (r : Nat → Int), (∀ j, 0 ≤ r j ∧ r j < p) → ∀ j, 0 ≤ drem p b m iv i r j ∧ drem p b m iv i r j < p
  | 0, r, hr, j => hr j
  | i + 1, r, hr, j => drem_res hp i _ (fun j => dstep_res hp hr _ i j) j
theorem dquo_res (hp : 0 < p) : ∀ (i : Nat) (r : Nat → Int) (j : Nat), 0 ≤ dquo p b m iv i r j ∧ dquo p b m iv i r j < p
  | 0, r, j => by simp only [dquo]; omega
  | i + 1, r, j => by
    simp only [dquo]
    split
    · exact emod_res hp _
    · exact dquo_res hp i _ j
theorem dquo_ge : ∀ (i : Nat) (r : Nat → Int) (j : Nat), i ≤ j → dquo p b m iv i r j = 0
  | 0, _, _, _ => rfl
  | i + 1, r, j, h => by
    simp only [dquo]
    rw [if_neg (by omega)]
    exact dquo_ge i _ j (by omega)
theorem cv_congr {f g c : Nat → Int} (k : Nat) : ∀ n, (∀ i, i < n → f i = g i) → cv f c n k = cv g c n k := fun n h => sumTo_congr n fun i hi => by rw [h i hi]
/-- The rest vanishes from the place m on. -/
theorem drem_zero (hp : 0 < p) (hb : b m * iv % p = 1 % p) : ∀ (i : Nat) (r : Nat → Int), (∀ j, 0 ≤ r j ∧ r j < p) → (∀ j, i + m ≤ j → r j = 0) → ∀ j, m ≤ j → drem p b m iv i r j = 0
  | 0, r, _, hz, j, hj => hz j (by omega)
  | i + 1, r, hr, hz, j, hj => by
    refine drem_zero hp hb i _ (fun j => dstep_res hp hr _ i j) (fun j hj => ?_) j hj
    unfold dstep
    by_cases e : j = i + m
    · subst e
      rw [if_pos (by omega), show i + m - i = m by omega]
      have h1 : (r (i + m) - dfac p iv m i r * b m) % p = 0 := by
        unfold dfac
        have h2 : (r (i + m) * iv % p) * b m % p = r (i + m) % p := by
          rw [Int.mul_emod, Int.emod_emod, ← Int.mul_emod, Int.mul_assoc, Int.mul_emod, Int.mul_comm iv, hb, ← Int.mul_emod, Int.mul_one]
        rw [Int.sub_emod, h2, Int.sub_self]; rfl
      exact h1
    · rw [if_neg (by omega)]
      exact hz j (by omega)
/-- Quotient and rest give what was divided. -/
theorem div_eq (hp : 0 < p) (hbz : ∀ j, m < j → b j = 0) : ∀ (i : Nat) (r : Nat → Int) (j : Nat), (cv (dquo p b m iv i r) b i j + drem p b m iv i r j) % p = r j % p
  | 0, r, j => by simp [cv, sumTo, drem]
  | i + 1, r, j => by
    have ih := div_eq hp hbz i (dstep p b m (dfac p iv m i r) i r) j
    simp only [drem]
    rw [cv_succ, cv_congr (g := dquo p b m iv i (dstep p b m (dfac p iv m i r) i r)) j i fun k hk => by simp only [dquo]; rw [if_neg (by omega)]]
    have e : dquo p b m iv (i + 1) r i = dfac p iv m i r := by simp only [dquo, if_true]
    rw [e]
    generalize dfac p iv m i r = f at *
    generalize cv (dquo p b m iv i (dstep p b m f i r)) b i j = c at *
    generalize drem p b m iv i (dstep p b m f i r) j = d at *
    by_cases h : i ≤ j
    · rw [if_pos h]
      by_cases h2 : j ≤ i + m
      · simp only [dstep] at ih
        rw [if_pos ⟨h, h2⟩, Int.emod_emod] at ih
        have e1 : c + f * b (j - i) + d = (c + d) + f * b (j - i) := by omega
        rw [e1, Int.add_emod, ih, ← Int.add_emod]
        congr 1
        omega
      · simp only [dstep] at ih
        rw [if_neg (by omega)] at ih
        rw [hbz (j - i) (by omega), Int.mul_zero, Int.add_zero]
        exact ih
    · simp only [dstep] at ih
      rw [if_neg (by omega)] at ih
      rw [if_neg h, Int.add_zero]
      exact ih
end

theorem lead_pos {p : Int} (hp : 0 < p) {b : List Int} (hb : Row p b) (h0 : b.length ≠ 0) : 0 < lead b ∧ lead b < p := by
  have h1 := hb.rd hp (b.length - 1)
  have h2 := hb.nrm h0
  unfold lead
  omega
theorem quo_row {p : Int} (hp : 0 < p) (a b : List Int) : Row p (quo p a b) := row_ofF fun i _ => dquo_res hp _ _ i
theorem rem_row {p : Int} (hp : 0 < p) {a : List Int} (ha : Row p a) (b : List Int) : Row p (rem p a b) := row_ofF fun i _ => drem_res hp _ _ (fun j => ha.rd hp j) i
theorem quo_len (p : Int) (a b : List Int) : (quo p a b).length ≤ a.length + 1 - b.length := by rw [quo, ofF_len]; exact top_le _ _
theorem quo_rd (p : Int) (a b : List Int) (j : Nat) : rd (quo p a b) j = dquo p (rd b) (b.length - 1) (inv p (lead b)) (a.length + 1 - b.length) (rd a) j := rd_ofF (fun i hi => dquo_ge _ _ _ hi) j
theorem drem_big {p : Int} {b : Nat → Int} {m : Nat} {iv : Int} : ∀ (i : Nat) (r : Nat → Int) (n : Nat), i + m ≤ n → (∀ j, n ≤ j → r j = 0) → ∀ j, n ≤ j → drem p b m iv i r j = 0
  | 0, r, n, _, hz, j, hj => hz j hj
  | i + 1, r, n, hn, hz, j, hj => drem_big i _ n (by omega) (fun j hj => by unfold dstep; rw [if_neg (by omega)]; exact hz j hj) j hj
theorem rem_rd {p : Int} (a : List Int) {b : List Int} (h0 : b.length ≠ 0) (j : Nat) : rd (rem p a b) j = drem p (rd b) (b.length - 1) (inv p (lead b)) (a.length + 1 - b.length) (rd a) j := by
  refine rd_ofF (fun i hi => ?_) j
  rcases Nat.lt_or_ge a.length b.length with h | h
  · rw [show a.length + 1 - b.length = 0 by omega]; exact rd_ge hi
  · exact drem_big _ _ a.length (by omega) (fun j hj => rd_ge hj) i hi
theorem rem_len {p : Int} (hp : isP p = true) {a b : List Int} (ha : Row p a) (hb : Row p b) (h0 : b.length ≠ 0) : (rem p a b).length < b.length := by
  have hp2 := isP_pos hp
  have hi := inv_is hp (lead_pos (show 0 < p by omega) hb h0)
  have hz : ∀ j, b.length - 1 ≤ j → rd (rem p a b) j = 0 := fun j hj => by
    rw [rem_rd a h0]
    refine drem_zero (by omega) ?_ _ _ (fun j => ha.rd (by omega) j) (fun j hj => rd_ge (by omega)) j hj
    have : (1 : Int) % p = 1 := Int.emod_eq_of_lt (by omega) (by omega)
    rw [this]
    exact hi.2.2
  rcases Nat.lt_or_ge (rem p a b).length b.length with h | h
  · exact h
  · have h1 := (rem_row (show 0 < p by omega) ha b).nrm (by omega)
    exact absurd (hz _ (by omega)) h1
/-- What is divided is quotient times divisor, plus the rest. -/
theorem divide_eq {p : Int} (hp : isP p = true) {a b : List Int} (ha : Row p a) (h0 : b.length ≠ 0) (j : Nat) : rd a j = (conv (rd (quo p a b)) (rd b) j + rd (rem p a b) j) % p := by
  have hp2 := isP_pos hp
  have h := div_eq (p := p) (b := rd b) (m := b.length - 1) (iv := inv p (lead b)) (by omega) (fun j hj => rd_ge (by omega)) (a.length + 1 - b.length) (rd a) j
  have e : conv (rd (quo p a b)) (rd b) j = cv (dquo p (rd b) (b.length - 1) (inv p (lead b)) (a.length + 1 - b.length) (rd a)) (rd b) (a.length + 1 - b.length) j := by
    rw [← cv_conv (n := a.length + 1 - b.length) fun i hi => rd_ge (Nat.le_trans (quo_len p a b) hi)]
    exact cv_congr _ _ fun i _ => quo_rd p a b i
  have hr := ha.rd (show 0 < p by omega) j
  rw [e, rem_rd a h0, h, Int.emod_eq_of_lt hr.1 hr.2]
end Go.Proofs.Ytkbnegemdlnncaa
/- Numbers as digits. -/
namespace Go.Proofs.Ytkbnegemdlnncaa
open Go.Abs

def digs (p n : Nat) : List Int := if n = 0 ∨ p < 2 then [] else ((n % p : Nat) : Int) :: digs p (n / p)
termination_by n
decreasing_by exact Nat.div_lt_self (by omega) (by omega)

theorem digs_zero (p : Nat) : digs p 0 = [] := by rw [digs]; simp

theorem digs_pos {p n : Nat} (hp : 2 ≤ p) (hn : 0 < n) : digs p n = ((n % p : Nat) : Int) :: digs p (n / p) := by
  rw [digs, if_neg (by omega)]

theorem digs_lt {p : Nat} (hp : 2 ≤ p) : ∀ n : Nat, ∀ d ∈ digs p n, 0 ≤ d ∧ d < p := by
  intro n
  induction n using Nat.strongRecOn with
  | ind n ih =>
    intro d hd
    by_cases h : n = 0
    · subst h; rw [digs_zero] at hd; cases hd
    · rw [digs_pos hp (by omega)] at hd
      rcases List.mem_cons.1 hd with rfl | hd
      · have := Nat.mod_lt n (show p > 0 by omega)
        generalize n % p = x at this
        omega
      · exact ih _ (Nat.div_lt_self (by omega) hp) d hd

theorem digs_len {p : Nat} (hp : 2 ≤ p) : ∀ (k n : Nat), n < 2 ^ k → (digs p n).length ≤ k
  | 0, n, h => by
    have : n = 0 := by simpa using h
    subst this; rw [digs_zero]; simp
  | k + 1, n, h => by
    by_cases hn : n = 0
    · subst hn; rw [digs_zero]; simp
    · rw [digs_pos hp (by omega)]
      have : n / p < 2 ^ k := by
        have h1 : n / p ≤ n / 2 := Nat.div_le_div_left hp (by omega)
        have h2 : n / 2 < 2 ^ k := by rw [Nat.pow_succ] at h; omega
        omega
      have := digs_len hp k _ this
      simp only [List.length_cons]; omega

theorem digs_len40 {p n : Nat} (hp : 2 ≤ p) (hn : n ≤ 1000000000000) : (digs p n).length ≤ 40 := digs_len hp 40 n (by omega)

theorem digs_bytes {p n : Nat} (hp : 2 ≤ p) (h : p ≤ 256) : Bytes (digs p n) := fun d hd => by
  have := digs_lt hp n d hd; omega

theorem rd_cons (x : Int) (l : List Int) (i : Nat) : rd (x :: l) (i + 1) = rd l i := by simp [rd]
theorem digs_row {p : Nat} (hp : 2 ≤ p) (n : Nat) : Row p (digs p n) := by
  refine ⟨fun d hd => ?_, ?_⟩
  · have := digs_lt hp n d hd; omega
  · induction n using Nat.strongRecOn with
    | ind n ih =>
      intro h
      have hn : 0 < n := by
        rcases Nat.eq_zero_or_pos n with rfl | h'
        · rw [digs_zero] at h; simp at h
        · exact h'
      rw [digs_pos hp hn]
      simp only [List.length_cons, Nat.add_sub_cancel]
      rcases Nat.eq_zero_or_pos (n / p) with h0 | h0
      · rw [h0, digs_zero]
        have : n < p := by
          rcases Nat.lt_or_ge n p with h | h
          · exact h
          · have := Nat.div_pos h (by omega); omega
        rw [Nat.mod_eq_of_lt this]
        simp [rd]; omega
      · have hlt : n / p < n := Nat.div_lt_self hn (by omega)
        have h1 : (digs p (n / p)).length ≠ 0 := by rw [digs_pos hp h0]; simp
        have h2 := ih _ hlt h1
        obtain ⟨m, hm⟩ : ∃ m, (digs p (n / p)).length = m + 1 := ⟨(digs p (n / p)).length - 1, by omega⟩
        rw [hm] at h2 ⊢
        rw [rd_cons]
        simpa using h2
theorem digs_len_pow {p : Nat} (hp : 2 ≤ p) : ∀ (d n : Nat), p ^ d ≤ n → n < p ^ (d + 1) → (digs p n).length = d + 1
  | 0, n, h1, h2 => by
    simp only [Nat.pow_zero, Nat.zero_add, Nat.pow_one] at h1 h2
    rw [digs_pos hp (by omega), Nat.div_eq_of_lt h2, digs_zero]; rfl
  | d + 1, n, h1, h2 => by
    have hpos : 0 < p ^ (d + 1) := Nat.pow_pos (by omega)
    have h3 : p ^ d ≤ n / p := by
      rw [Nat.le_div_iff_mul_le (by omega)]
      rwa [← Nat.pow_succ]
    have h4 : n / p < p ^ (d + 1) := by
      rw [Nat.div_lt_iff_lt_mul (by omega)]
      rwa [← Nat.pow_succ]
    rw [digs_pos hp (by omega), List.length_cons, digs_len_pow hp d _ h3 h4]
theorem digs_monic_len {p : Nat} (hp : 2 ≤ p) {d i : Nat} (hi : i < p ^ d) : (digs p (p ^ d + i)).length = d + 1 := by
  refine digs_len_pow hp d _ (by omega) ?_
  have : p ^ (d + 1) = p ^ d * p := Nat.pow_succ ..
  have h2 : p ^ d * 2 ≤ p ^ d * p := Nat.mul_le_mul_left _ hp
  omega
end Go.Proofs.Ytkbnegemdlnncaa
/- The polynomials modulo p as a ring; irreducible ones. -/
namespace Go.Proofs.Ytkbnegemdlnncaa
open Go.Abs

structure Pri where
  n : Nat
  ok : isP (n : Int) = true
def Pri.p (P : Pri) : Int := P.n
theorem Pri.okp (P : Pri) : isP P.p = true := P.ok
theorem Pri.pos (P : Pri) : 0 < P.p := by have := isP_pos P.ok; unfold Pri.p; omega
theorem Pri.two (P : Pri) : 2 ≤ P.p ∧ P.p ≤ 7 := isP_pos P.ok
theorem Pri.is (P : Pri) : P.n = 2 ∨ P.n = 3 ∨ P.n = 5 ∨ P.n = 7 := by
  have := isP_iff.1 P.ok; omega
structure PP (P : Pri) where
  l : List Int
  row : Row P.p l
theorem pp_eq {P : Pri} : ∀ {a b : PP P}, a.1 = b.1 → a = b
  | ⟨_, _⟩, ⟨_, _⟩, h => by cases h; rfl
variable {P : Pri}
def PP.len (a : PP P) : Nat := a.1.length
def PP.c (a : PP P) (i : Nat) : Int := rd a.1 i
theorem PP.c_res (a : PP P) (i : Nat) : 0 ≤ a.c i ∧ a.c i < P.p := a.2.rd P.pos i
theorem PP.c_mod (a : PP P) (i : Nat) : a.c i % P.p = a.c i := a.2.mod P.pos i
theorem pp_ext {a b : PP P} (h : ∀ i, a.c i = b.c i) : a = b := pp_eq (row_ext a.2 b.2 h)
theorem row1 {p : Int} (hp : 2 ≤ p) : Row p [1] := ⟨by simp; omega, by simp [rd]⟩
theorem rowT {p : Int} (hp : 2 ≤ p) : Row p [0, 1] := ⟨by simp; omega, by simp [rd]⟩
instance : Add (PP P) := ⟨fun a b => ⟨comb P.p a.1 b.1 1, comb_row P.pos _ _ _⟩⟩
instance : Mul (PP P) := ⟨fun a b => ⟨mul P.p a.1 b.1, mul_row P.pos _ _⟩⟩
instance : Neg (PP P) := ⟨fun a => ⟨comb P.p [] a.1 (-1), comb_row P.pos _ _ _⟩⟩
instance : Zero (PP P) := ⟨⟨[], row_nil _⟩⟩
instance : One (PP P) := ⟨⟨[1], row1 P.two.1⟩⟩
def ppm (l : List Int) (h : Row P.p l) : PP P := ⟨l, h⟩
def ppT : PP P := ⟨[0, 1], rowT P.two.1⟩
theorem add_c (a b : PP P) (i : Nat) : (a + b).c i = (a.c i + b.c i) % P.p := by
  show rd (comb P.p a.1 b.1 1) i = _
  rw [comb_rd, Int.one_mul]; rfl
theorem neg_c (a : PP P) (i : Nat) : (-a).c i = (-a.c i) % P.p := by
  show rd (comb P.p [] a.1 (-1)) i = _
  rw [comb_rd, rd_nil, Int.zero_add, Int.neg_mul, Int.one_mul]; rfl
theorem mul_c (a b : PP P) (i : Nat) : (a * b).c i = conv a.c b.c i % P.p := mul_rd _ _ _ _
theorem zero_c (i : Nat) : (0 : PP P).c i = 0 := rd_nil i
theorem ppring : IsRing (PP P) where
  add_comm a b := pp_ext fun i => by rw [add_c, add_c, Int.add_comm]
  add_assoc a b c := pp_ext fun i => by simp only [add_c, Int.emod_add_emod, Int.add_emod_emod, Int.add_assoc]
  add_zero a := pp_ext fun i => by rw [add_c, zero_c, Int.add_zero, PP.c_mod]
  add_neg a := pp_ext fun i => by rw [add_c, neg_c, zero_c, Int.add_emod_emod, Int.add_right_neg]; rfl
  mul_comm a b := pp_eq (mul_comm' _ _ _)
  mul_assoc a b c := pp_eq (mul_assoc' P.pos _ _ _)
  mul_one a := pp_eq (mul_one' P.pos a.2)
  mul_add a b c := pp_eq (mul_comb P.pos _ _ _ _)

theorem len_zero {a : PP P} : a.len = 0 ↔ a = 0 := ⟨fun h => pp_eq (List.eq_nil_of_length_eq_zero h), fun h => by rw [h]; rfl⟩
theorem len_one : (1 : PP P).len = 1 := rfl
theorem one_ne : (1 : PP P) ≠ 0 := fun h => by have := len_zero.2 h; rw [len_one] at this; omega
theorem len_mul {a b : PP P} (ha : a ≠ 0) (hb : b ≠ 0) : (a * b).len = a.len + b.len - 1 :=
  mul_len_is P.ok a.2 b.2 (fun h => ha (len_zero.1 h)) (fun h => hb (len_zero.1 h))
theorem len_add (a b : PP P) : (a + b).len ≤ max a.len b.len := comb_len _ _ _ _
theorem len_neg (a : PP P) : (-a).len ≤ a.len := by
  have := comb_len P.p [] a.1 (-1)
  show (comb P.p [] a.1 (-1)).length ≤ a.1.length
  simpa using this
theorem len_pos {a : PP P} (h : a ≠ 0) : 1 ≤ a.len := by
  rcases Nat.eq_zero_or_pos a.len with h0 | h0
  · exact absurd (len_zero.1 h0) h
  · exact h0
theorem pp_dom : ∀ a b : PP P, a * b = 0 → a = 0 ∨ b = 0 := fun a b h => by
  by_cases ha : a = 0
  · exact .inl ha
  · by_cases hb : b = 0
    · exact .inr hb
    · have h1 := len_mul ha hb
      rw [h, len_zero.2 rfl] at h1
      have := len_pos ha
      have := len_pos hb
      omega
theorem nsm_c (n : Nat) (a : PP P) (i : Nat) : (nsm n a).c i = (n * a.c i) % P.p := by
  induction n with
  | zero => simp [nsm, zero_c]
  | succ n ih =>
    simp only [nsm, add_c, ih, Int.emod_add_emod]
    congr 1
    rw [Int.natCast_succ, Int.add_mul, Int.one_mul]
/-! Division. -/
def pquo (a b : PP P) : PP P := ⟨quo P.p a.1 b.1, quo_row P.pos _ _⟩
def prem (a b : PP P) : PP P := ⟨rem P.p a.1 b.1, rem_row P.pos a.2 _⟩
theorem pdiv (a : PP P) {b : PP P} (hb : b ≠ 0) : a = pquo a b * b + prem a b ∧ (prem a b).len < b.len := by
  have h0 : b.1.length ≠ 0 := fun h => hb (len_zero.1 h)
  refine ⟨pp_ext fun i => ?_, rem_len P.ok a.2 b.2 h0⟩
  rw [add_c, mul_c, Int.emod_add_emod]
  exact divide_eq P.ok a.2 h0 i
theorem dv_len {a b : PP P} (h : Dv a b) (hb : b ≠ 0) : a.len ≤ b.len := by
  obtain ⟨q, rfl⟩ := h
  have hq : q ≠ 0 := fun e => hb (by rw [e, ppring.zero_mul])
  have ha : a ≠ 0 := fun e => hb (by rw [e, ppring.mul_zero])
  have := len_mul hq ha
  have := len_pos hq
  omega
theorem dv_small {a b : PP P} (h : Dv a b) (hl : b.len < a.len) : b = 0 := by
  by_cases hb : b = 0
  · exact hb
  · have := dv_len h hb; omega
theorem quo_is {a b q r : PP P} (hb : b ≠ 0) (h : a = q * b + r) (hr : r.len < b.len) : pquo a b = q ∧ prem a b = r := by
  obtain ⟨h1, h2⟩ := pdiv a hb
  have R : IsRing (PP P) := ppring
  have e : (pquo a b + -q) * b = r + -prem a b := by
    have h3 : q * b + r = pquo a b * b + prem a b := by rw [← h, ← h1]
    rw [R.add_mul, R.mul_comm (-q), R.mul_neg, R.mul_comm b q]
    refine R.cancel (a := q * b) ?_
    rw [R.add_left_comm, R.add_neg, R.add_zero]
    refine R.cancel (a := prem a b) ?_
    rw [R.add_comm (prem a b), ← h3, R.add_left_comm (prem a b), R.add_left_comm (prem a b), R.add_neg, R.add_zero]
  have hz : r + -prem a b = 0 := by
    refine dv_small (a := b) ⟨_, e.symm⟩ ?_
    have := len_add r (-prem a b)
    have := len_neg (prem a b)
    omega
  have hr' := R.sub_zero hz
  refine ⟨?_, hr'.symm⟩
  rw [hz] at e
  rcases pp_dom _ _ e with h4 | h4
  · exact R.sub_zero h4
  · exact absurd h4 hb

/-! Units, the greatest common divisor. -/
def Irr (f : PP P) : Prop := 2 ≤ f.len ∧ ∀ a b : PP P, f = a * b → a.len = 1 ∨ b.len = 1
end Go.Proofs.Ytkbnegemdlnncaa
/- Irreducible polynomials modulo p: which of them divide T^(p^n) - T. -/
namespace Go.Proofs.Ytkbnegemdlnncaa
open Go.Abs

/-! Numbers of polynomials. -/
def num (p : Nat) : List Int → Nat
  | [] => 0
  | c :: l => c.toNat + p * num p l
theorem row_tail {p c : Int} {l : List Int} (h : Row p (c :: l)) : Row p l := by
  refine ⟨fun d hd => h.res d (by simp [hd]), fun hl => ?_⟩
  have := h.nrm (by simp)
  simp only [List.length_cons, Nat.add_sub_cancel] at this
  obtain ⟨m, hm⟩ : ∃ m, l.length = m + 1 := ⟨l.length - 1, by omega⟩
  rw [hm, rd_cons] at this
  rw [hm]; exact this
variable {P : Pri}
theorem Pri.ge (P : Pri) : 2 ≤ P.n := by have := P.is; omega
def ppn (P : Pri) (n : Nat) : PP P := ⟨digs P.n n, digs_row P.ge n⟩
theorem conv_T (g : Nat → Int) (i : Nat) : conv (rd ([0, 1] : List Int)) g i = if 1 ≤ i then g (i - 1) else 0 := by
  rw [← cv_conv (n := 2) fun j hj => rd_ge (by simpa using hj)]
  simp only [cv, sumTo]
  have e0 : rd ([0, 1] : List Int) 0 = 0 := rfl
  have e1 : rd ([0, 1] : List Int) 1 = 1 := rfl
  rw [e0, e1, if_pos (Nat.zero_le i)]
  split <;> simp
theorem one_c (i : Nat) : (1 : PP P).c i = if i = 0 then 1 else 0 := by
  show rd [1] i = _
  by_cases hi : i = 0
  · subst hi; simp [rd]
  · rw [if_neg hi, rd_ge (by simp; omega)]
/-! Residues by an irreducible polynomial. -/
section
variable {f : PP P} (hf : Irr f)
include hf
omit hf in
/-- All residues. -/
def els (f : PP P) : List (Qt ppring f) := (List.range (P.n ^ (f.len - 1))).map fun n => qm ppring f (ppn P n)
end
end Go.Proofs.Ytkbnegemdlnncaa
/- Inverses modulo p, in the program. -/
namespace Go.Proofs.Ytkbnegemdlnncaa
open Go.Abs

theorem inverse_impl {p x : Int} (hp : isP p = true) (hx : 0 < x ∧ x < p) : impl_prime_inverse p x = some (inv p x) := by
  have hp2 := isP_pos hp
  obtain ⟨n, hn⟩ : ∃ n : Nat, p - 2 = n := ⟨(p - 2).toNat, by omega⟩
  have ew : IntKind.i64.wrap (p - 2) = (n : Int) := by rw [wrap64 (by omega) (by omega), hn]
  obtain ⟨c, h1, h2⟩ := loopM_for (body := fun s : Int × Int => impl_prime_inverse_l1 p x s.1 s.2) (fun i c => (c, (i : Int))) (fun c => c) n
    (fun i c => c = x ^ i % p) (fun i c hi hI => by
      subst hI
      have h3 := emod_res (show 0 < p by omega) (x ^ i)
      have h4 := mul_small (x := x ^ i % p) (y := x) (by omega) (by omega)
      refine ⟨x ^ (i + 1) % p, ?_, rfl⟩
      simp only [impl_prime_inverse_l1]
      rw [ew, if_pos (decide_eq_true (by omega)), ifp_pos (by omega), wrap64 (n := x ^ i % p * x) (by omega) (by omega), Int.tmod_eq_emod_of_nonneg h4.1, wrap64 (by omega) (by omega)]
      have : x ^ i % p * x % p = x ^ (i + 1) % p := by rw [Int.pow_succ, Int.mul_emod (x ^ i % p), Int.emod_emod, ← Int.mul_emod]
      rw [this]; rfl) (fun c hI => by
      simp only [impl_prime_inverse_l1]
      rw [ew, if_neg (by rw [decide_eq_true_eq]; omega)]) n 0 1 (by omega) (by rw [Int.pow_zero, Int.emod_eq_of_lt (by omega) (by omega)])
  have h1' : loopM (fun s : Int × Int => impl_prime_inverse_l1 p x s.1 s.2) (1, 0) = some c := h1
  simp only [impl_prime_inverse, h1', Option.bind_some]
  rw [h2, ← inv_pow hp hx, hn, Int.toNat_natCast]
end Go.Proofs.Ytkbnegemdlnncaa
/- Sums, in the program. -/
namespace Go.Proofs.Ytkbnegemdlnncaa
open Go.Abs

theorem at_is (l : List Int) (i : Nat) : impl_row_at l i = some (rd l i) := by
  unfold impl_row_at
  by_cases h : i < l.length
  · rw [if_pos (by simpa using h), ifp_pos (by omega)]; simp
  · rw [if_neg (by simpa using h), rd_ge (by omega)]

theorem reduce_is {p n : Int} (hp : 0 < p ∧ p ≤ 256) (hn : -4611686018427387904 ≤ n ∧ n < 4611686018427387904) : impl_prime_reduce p n = some (n % p) := by
  unfold impl_prime_reduce
  have h1 := Int.lt_tmod_of_pos n hp.1
  have h2 := Int.tmod_lt_of_pos n hp.1
  rw [ifp_pos (by omega), ifp_pos (by omega), wrap64 (by omega) (by omega), tmod_fix hp.1]

theorem combine_is {p k : Int} {a b : List Int} (hp : 0 < p ∧ p ≤ 256) (ha : Ent a) (hb : Ent b) (la : a.length ≤ 1000000) (lb : b.length ≤ 1000000) (hk : -1099511627776 ≤ k ∧ k ≤ 1099511627776) :
    impl_prime_combine p a b k = some (comb p a b k) := by
  obtain ⟨n, hn⟩ : ∃ n : Nat, n = max a.length b.length := ⟨_, rfl⟩
  have e : (if (b.length : Int) > (a.length : Int) then (b.length : Int) else (a.length : Int)) = (n : Int) := by split <;> omega
  obtain ⟨s, h1, h2, h3⟩ := loopM_for (body := fun s : Int × List Int => impl_prime_combine_l1 (n : Int) a b p k s.1 s.2) (fun i s => ((i : Int), s)) (fun s => s) n
    (fun i s => s.length = n ∧ ∀ j, rd s j = if j < i then (rd a j + k * rd b j) % p else 0) (fun i s hi hI => by
      obtain ⟨hl, hr⟩ := hI
      have h1 := ha i
      have h2 := mulk (hb i) hk
      refine ⟨s.set i ((rd a i + k * rd b i) % p), ?_, by simpa using hl, fun j => ?_⟩
      · simp only [impl_prime_combine_l1, letp, Int.toNat_natCast, List.length_replicate]
        rw [if_pos (by simp; omega), at_is, at_is]
        simp only [Option.bind_some]
        rw [wrap64 (n := k * rd b i) (by omega) (by omega), wrap64 (n := rd a i + k * rd b i) (by omega) (by omega), reduce_is hp (by omega)]
        simp only [Option.bind_some]
        rw [ifp_pos (by omega), wrap64 (by omega) (by omega)]
        rfl
      · rw [rd_set _ _ _ _ (by omega), hr j]
        by_cases h : j = i
        · subst h; simp
        · rw [if_neg h]
          simp only [show (j < i + 1) = (j < i) from by rw [eq_iff_iff]; omega]) (fun s hI => by
      simp only [impl_prime_combine_l1, letp, Int.toNat_natCast, List.length_replicate]
      rw [if_neg (by simp)]) n 0 (List.replicate n 0) (by omega) ⟨by simp, fun j => by rw [rd_rep, if_neg (by omega)]⟩
  have hs : s.take (top (rd s) s.length) = comb p a b k := by
    rw [trim_eq, h2, comb, ← hn]
    exact ofF_congr fun i hi => by rw [h3 i, if_pos hi]
  simp only [impl_prime_combine, letp, e]
  rw [ifp_pos (by omega)]
  simp only [Int.toNat_natCast]
  have h1' : loopM (fun s : Int × List Int => impl_prime_combine_l1 (n : Int) a b p k s.1 s.2) (0, List.replicate n 0) = some s := h1
  rw [h1']
  simp only [Option.bind_some]
  rw [trimmed_is (by omega), hs]
  rfl
end Go.Proofs.Ytkbnegemdlnncaa
/- Division, in the program. -/
namespace Go.Proofs.Ytkbnegemdlnncaa
open Go.Abs

theorem clone_is {a : List Int} (ha : a.length ≤ 1000000) : slices_Clone_impl_row_int64_fresh a = some a := by
  unfold slices_Clone_impl_row_int64_fresh
  rw [ifc_pos, ifp_pos]
  · simp
  · simp; omega
  · intro h
    subst h
    rw [ifp_pos (by simp)]
    simp
theorem divI_inner {p f : Int} (hp : 2 ≤ p ∧ p ≤ 7) {b : List Int} (hb : Row p b) (hf : 0 ≤ f ∧ f < p) {i : Nat} {s t : List Int} (hi : i + b.length ≤ s.length) (hl : s.length ≤ 1000000) (hs : ∀ j, 0 ≤ rd s j ∧ rd s j < p) {s0 : List Int} {x r9 : Int} (hx : Int.tmod (IntKind.i64.wrap (rd s0 x.toNat * r9)) p = f) :
    ∃ s', loopM (fun q : Int × List Int => impl_prime_divide_l2 b (i : Int) s0 x r9 p t q.1 q.2) (0, s) = some (s', t.set i f) ∧ s'.length = s.length ∧ ∀ j, rd s' j = dstep p (rd b) (b.length - 1) f i (rd s) j := by
  obtain ⟨s', h1, h2, h3⟩ := loopM_for (body := fun q : Int × List Int => impl_prime_divide_l2 b (i : Int) s0 x r9 p t q.1 q.2) (fun k u => ((k : Int), u)) (fun u => (u, t.set i f)) b.length
    (fun k u => u.length = s.length ∧ ∀ j, rd u j = if i ≤ j ∧ j < i + k then (rd s j - f * rd b (j - i)) % p else rd s j) (fun k u hk hI => by
      obtain ⟨hul, hu⟩ := hI
      have hbk := hb.rd (show 0 < p by omega) k
      have hsk := hs (i + k)
      have hm := mul_small (x := f) (y := rd b k) (by omega) (by omega)
      have e1 : IntKind.i64.wrap ((i : Int) + (k : Int)) = ((i + k : Nat) : Int) := by rw [wrap64 (by omega) (by omega)]; omega
      have huk := hu (i + k)
      rw [if_neg (by omega)] at huk
      refine ⟨u.set (i + k) ((rd s (i + k) - f * rd b k) % p), ?_, by simpa using hul, fun j => ?_⟩
      · simp only [impl_prime_divide_l2, letp, hx]
        rw [if_pos (decide_eq_true (by omega)), ifp_pos (by omega), e1, ifp_pos (by omega), Int.toNat_natCast, Int.toNat_natCast, huk, wrap64 (n := f * rd b k) (by omega) (by omega), wrap64 (n := rd s (i + k) - f * rd b k) (by omega) (by omega), reduce_is (by omega) (by omega)]
        simp only [Option.bind_some]
        rw [ifp_pos (by omega), wrap64 (by omega) (by omega)]
        rfl
      · rw [rd_set _ _ _ _ (by omega), hu j]
        by_cases e : j = i + k
        · subst e
          rw [if_pos rfl, if_pos (by omega), show i + k - i = k by omega]
        · rw [if_neg e]
          by_cases hc : i ≤ j ∧ j < i + k
          · rw [if_pos hc, if_pos (by omega)]
          · rw [if_neg hc, if_neg (by omega)]) (fun u hI => by
      simp only [impl_prime_divide_l2, hx]
      rw [if_neg (by rw [decide_eq_true_eq]; omega), Int.toNat_natCast]) b.length 0 s (by omega) ⟨rfl, fun j => by rw [if_neg (by omega)]⟩
  refine ⟨s', h1, h2, fun j => ?_⟩
  rw [h3 j]
  unfold dstep
  rcases Nat.eq_zero_or_pos b.length with h0 | h0
  · rw [if_neg (by omega)]
    split
    · have : rd b (j - i) = 0 := rd_ge (by omega)
      have := hs j
      rw [show rd b (j - i) = 0 from rd_ge (by omega), Int.mul_zero, Int.sub_zero, Int.emod_eq_of_lt this.1 this.2]
    · rfl
  · simp only [show (i ≤ j ∧ j < i + b.length) = (i ≤ j ∧ j ≤ i + (b.length - 1)) from by rw [eq_iff_iff]; omega]
theorem divI_outer {p : Int} (hp : isP p = true) {b : List Int} (hb : Row p b) (h0 : b.length ≠ 0) {n : Nat} (hn : n ≤ 500000) : ∀ (i : Nat) (s t : List Int), i + b.length - 1 ≤ s.length → i ≤ n → s.length ≤ 1000000 → t.length = n → (∀ j, 0 ≤ rd s j ∧ rd s j < p) →
    ∃ s' t', loopM (fun q : Int × List Int × List Int => impl_prime_divide_l1 b p (inv p (lead b)) q.1 q.2.1 q.2.2) ((i : Int) - 1, s, t) = some (s', t') ∧ s'.length = s.length ∧ t'.length = n ∧
      (∀ j, rd s' j = drem p (rd b) (b.length - 1) (inv p (lead b)) i (rd s) j) ∧ ∀ j, rd t' j = if j < i then dquo p (rd b) (b.length - 1) (inv p (lead b)) i (rd s) j else rd t j
  | 0, s, t, _, _, _, ht, _ => by
    refine ⟨s, t, ?_, rfl, ht, fun _ => rfl, fun j => by rw [if_neg (by omega)]⟩
    have step : impl_prime_divide_l1 b p (inv p (lead b)) (((0 : Nat) : Int) - 1) s t = some (.inr (s, t)) := by
      simp only [impl_prime_divide_l1]
      rw [if_neg (by rw [decide_eq_true_eq]; omega)]
    rw [loopM_eq]
    simp only [step, Option.bind_some]
  | i + 1, s, t, hi, hin, hsl, ht, hs => by
    have hp2 := isP_pos hp
    have hinv := inv_is hp (lead_pos (show 0 < p by omega) hb h0)
    have hsx := hs (i + (b.length - 1))
    have hm := mul_small (x := rd s (i + (b.length - 1))) (y := inv p (lead b)) (by omega) (by omega)
    have hf := emod_res (show 0 < p by omega) (rd s (i + (b.length - 1)) * inv p (lead b))
    have e0 : ((i + 1 : Nat) : Int) - 1 = (i : Int) := by omega
    have e1 : IntKind.i64.wrap (IntKind.i64.wrap ((i : Int) + (b.length : Int)) - 1) = ((i + (b.length - 1) : Nat) : Int) := by
      rw [wrap64 (n := (i : Int) + (b.length : Int)) (by omega) (by omega), wrap64 (by omega) (by omega)]; omega
    have hx : Int.tmod (IntKind.i64.wrap (rd s (((i + (b.length - 1) : Nat) : Int)).toNat * inv p (lead b))) p = dfac p (inv p (lead b)) (b.length - 1) i (rd s) := by
      rw [Int.toNat_natCast, wrap64 (by omega) (by omega), Int.tmod_eq_emod_of_nonneg hm.1]; rfl
    obtain ⟨s1, g1, g2, g3⟩ := divI_inner hp2 hb (f := dfac p (inv p (lead b)) (b.length - 1) i (rd s)) hf (i := i) (s := s) (t := t) (by omega) hsl hs hx
    have hs1 : rd s1 = dstep p (rd b) (b.length - 1) (dfac p (inv p (lead b)) (b.length - 1) i (rd s)) i (rd s) := funext g3
    obtain ⟨s', t', k1, k2, k3, k4, k5⟩ := divI_outer hp hb h0 hn i s1 (t.set i (dfac p (inv p (lead b)) (b.length - 1) i (rd s))) (by omega) (by omega) (by omega) (by simpa using ht) (fun j => by rw [hs1]; exact dstep_res (by omega) hs _ i j)
    refine ⟨s', t', ?_, by omega, k3, fun j => ?_, fun j => ?_⟩
    · have step : impl_prime_divide_l1 b p (inv p (lead b)) (((i + 1 : Nat) : Int) - 1) s t = some (.inl ((i : Int) - 1, s1, t.set i (dfac p (inv p (lead b)) (b.length - 1) i (rd s)))) := by
        rw [e0]
        simp only [impl_prime_divide_l1, letp, e1]
        rw [if_pos (decide_eq_true (by omega)), ifp_pos (by omega), ifp_pos (by omega), ifp_pos (by omega), g1]
        simp only [Option.bind_some]
        rw [wrap64 (by omega) (by omega)]
      rw [loopM_eq]
      simp only [step, Option.bind_some]
      exact k1
    · rw [k4 j, hs1]; rfl
    · rw [k5 j, hs1]
      simp only [dquo]
      by_cases e : j = i
      · subst e
        rw [if_neg (by omega), if_pos (by omega), if_pos rfl, rd_set _ _ _ _ (by omega), if_pos rfl]
      · by_cases h : j < i
        · rw [if_pos h, if_pos (by omega), if_neg e]
        · rw [if_neg h, if_neg (by omega), rd_set _ _ _ _ (by omega), if_neg e]
theorem lead_is {b : List Int} (h0 : b.length ≠ 0) (hl : b.length ≤ 1000000) : impl_row_lead b = some (lead b) := by
  unfold impl_row_lead
  have e1 : IntKind.i64.wrap ((b.length : Int) - 1) = ((b.length - 1 : Nat) : Int) := by rw [wrap64 (by omega) (by omega)]; omega
  rw [if_neg (by rw [beq_iff_eq]; omega), e1, ifp_pos (by omega), Int.toNat_natCast]; rfl
theorem divideI_is {p : Int} (hp : isP p = true) {a b : List Int} (ha : Row p a) (hb : Row p b) (h0 : b.length ≠ 0) (la : a.length ≤ 500000) (lb : b.length ≤ 500000) : impl_prime_divide p a b = some (quo p a b, rem p a b) := by
  have hp2 := isP_pos hp
  unfold impl_prime_divide
  rw [clone_is (by omega)]
  simp only [Option.bind_some]
  rcases Nat.lt_or_ge a.length b.length with h | h
  · rw [if_pos (decide_eq_true (by omega))]
    have e1 : quo p a b = [] := by
      have := quo_len p a b
      exact List.eq_nil_of_length_eq_zero (by omega)
    have e2 : rem p a b = a := by
      unfold rem
      rw [show a.length + 1 - b.length = 0 by omega]
      exact ha.ofF (Nat.le_refl _)
    rw [e1, e2]
  · rw [if_neg (by rw [decide_eq_true_eq]; omega)]
    obtain ⟨n, hn⟩ : ∃ n : Nat, n = a.length + 1 - b.length := ⟨_, rfl⟩
    have e1 : IntKind.i64.wrap (IntKind.i64.wrap ((a.length : Int) - (b.length : Int)) + 1) = (n : Int) := by
      rw [wrap64 (n := (a.length : Int) - (b.length : Int)) (by omega) (by omega), wrap64 (by omega) (by omega)]; omega
    have hlead := lead_pos (show 0 < p by omega) hb h0
    simp only [letp, e1, lead_is h0 (by omega), inverse_impl hp hlead, Option.bind_some, Int.toNat_natCast, List.length_replicate]
    rw [ifp_pos (by omega), wrap64 (by omega) (by omega)]
    obtain ⟨s', t', k1, k2, k3, k4, k5⟩ := divI_outer hp hb h0 (n := n) (by omega) n a (List.replicate n 0) (by omega) (Nat.le_refl _) (by omega) (by simp) (fun j => ha.rd (by omega) j)
    rw [k1]
    simp only [Option.bind_some]
    rw [trimmed_is (by omega), trimmed_is (by omega)]
    simp only [Option.bind_some]
    rw [trim_eq, trim_eq, k2, k3]
    congr 2
    · rw [quo, ← hn]
      exact ofF_congr fun i hi => by rw [k5 i, if_pos hi]
    · rw [rem, ← hn]
      exact ofF_congr fun i _ => k4 i
end Go.Proofs.Ytkbnegemdlnncaa
/- Products, in the program. -/
namespace Go.Proofs.Ytkbnegemdlnncaa
open Go.Abs


theorem cv_small {a b : Nat → Int} (ha : ∀ i, 0 ≤ a i ∧ a i < 256) (hb : ∀ i, 0 ≤ b i ∧ b i < 256) (k : Nat) : ∀ n : Nat, 0 ≤ cv a b n k ∧ cv a b n k ≤ n * 65025
  | 0 => by simp [cv, sumTo]
  | n + 1 => by
    rw [cv_succ]
    have h1 := cv_small ha hb k n
    have h2 := mul_small (ha n) (hb (k - n))
    split <;> omega

/-- The program's product. -/
theorem times_is {p : Int} (hp : 2 ≤ p ∧ p ≤ 256) {a b : List Int} (ha : Ent a) (hb : Ent b) (la : a.length ≤ 500000) (lb : b.length ≤ 500000) : impl_prime_times p a b = some (mul p a b) := by
  simp only [impl_prime_times, letp]
  by_cases h1 : a.length = 0
  · have e : a = [] := List.eq_nil_of_length_eq_zero h1
    subst e
    simp [mul_nil]
  by_cases h2 : b.length = 0
  · have e : b = [] := List.eq_nil_of_length_eq_zero h2
    subst e
    simp [mul_nil']
  obtain ⟨n, hn⟩ : ∃ n : Nat, n = a.length + b.length - 1 := ⟨_, rfl⟩
  have e0 : IntKind.i64.wrap (IntKind.i64.wrap ((a.length : Int) + (b.length : Int)) - 1) = (n : Int) := by
    rw [wrap64 (n := (a.length : Int) + (b.length : Int)) (by omega) (by omega), wrap64 (by omega) (by omega)]; omega
  rw [e0]
  have c1 : (if ((a.length : Int) == 0) = true then some true else some ((b.length : Int) == 0)) = some false := by
    rw [if_neg (by rw [beq_iff_eq]; omega)]
    congr 1
    rw [beq_eq_false_iff_ne]; omega
  rw [c1]
  simp only [Bool.false_eq_true, if_false, Option.bind_some, Int.toNat_natCast]
  rw [ifp_pos (by omega)]
  -- one row
  have hrow : ∀ (i : Nat) (s : List Int), i < a.length → s.length = n → (∀ k, rd s k = cv (rd a) (rd b) i k) →
      ∃ s', loopM (fun s : Int × List Int => impl_prime_times_l2 b (i : Int) a s.1 s.2) (0, s) = some s' ∧ s'.length = n ∧ ∀ k, rd s' k = cv (rd a) (rd b) (i + 1) k := by
    intro i s hi hsl hs
    have hai := ha i
    obtain ⟨s', g1, g2, g3⟩ := loopM_for (body := fun s : Int × List Int => impl_prime_times_l2 b (i : Int) a s.1 s.2) (fun j (u : List Int) => ((j : Int), u)) (fun u => u) b.length
      (fun j u => u.length = n ∧ ∀ k, rd u k = if i ≤ k ∧ k < i + j then cv (rd a) (rd b) (i + 1) k else cv (rd a) (rd b) i k) (fun j u hj hI => by
        obtain ⟨hul, hu⟩ := hI
        have hbj := hb j
        have hm := mul_small hai hbj
        have hc := cv_small ha hb (i + j) i
        have e1 : IntKind.i64.wrap ((i : Int) + (j : Int)) = ((i + j : Nat) : Int) := by rw [wrap64 (by omega) (by omega)]; omega
        have huj := hu (i + j)
        rw [if_neg (by omega)] at huj
        have e2 : cv (rd a) (rd b) (i + 1) (i + j) = cv (rd a) (rd b) i (i + j) + rd a i * rd b j := by
          rw [cv_succ, if_pos (by omega), show i + j - i = j by omega]
        refine ⟨u.set (i + j) (cv (rd a) (rd b) (i + 1) (i + j)), ?_, by simpa using hul, fun k => ?_⟩
        · simp only [impl_prime_times_l2, letp]
          rw [if_pos (by simp; omega), e1]
          rw [ifp_pos (by omega), ifp_pos (by omega), ifp_pos (by omega)]
          simp only [Int.toNat_natCast]
          rw [huj, wrap64 (n := rd a i * rd b j) (by omega) (by omega), wrap64 (n := cv (rd a) (rd b) i (i + j) + rd a i * rd b j) (by omega) (by omega), wrap64 (by omega) (by omega), e2]
          rfl
        · rw [rd_set _ _ _ _ (by omega)]
          by_cases e : k = i + j
          · subst e
            rw [if_pos rfl, if_pos (by omega)]
          · rw [if_neg e, hu k]
            by_cases hc : i ≤ k ∧ k < i + j
            · rw [if_pos hc, if_pos (by omega)]
            · rw [if_neg hc, if_neg (by omega)]) (fun u hI => by
        simp only [impl_prime_times_l2]
        rw [if_neg (by simp)]) b.length 0 s (by omega) ⟨hsl, fun k => by rw [hs k, if_neg (by omega)]⟩
    refine ⟨s', g1, g2, fun k => ?_⟩
    rw [g3 k]
    split
    · rfl
    · rename_i hc
      rw [cv_succ]
      by_cases hik : i ≤ k
      · rw [if_pos hik, rd_ge (l := b) (by omega), Int.mul_zero, Int.add_zero]
      · rw [if_neg hik, Int.add_zero]
  obtain ⟨s, h3, h4, h5⟩ := loopM_for (body := fun s : Int × List Int => impl_prime_times_l1 a b s.1 s.2) (fun i (u : List Int) => ((i : Int), u)) (fun u => u) a.length
    (fun i u => u.length = n ∧ ∀ k, rd u k = cv (rd a) (rd b) i k) (fun i u hi hI => by
      obtain ⟨u', g1, g2, g3⟩ := hrow i u hi hI.1 hI.2
      refine ⟨u', ?_, g2, g3⟩
      simp only [impl_prime_times_l1]
      rw [if_pos (by simp; omega), ifp_pos (by omega), g1]
      simp only [Option.bind_some]
      rw [wrap64 (by omega) (by omega)]; rfl) (fun u hI => by
      simp only [impl_prime_times_l1]
      rw [if_neg (by simp)]) a.length 0 (List.replicate n 0) (by omega) ⟨by simp, fun k => by rw [rd_rep]; simp [cv, sumTo]⟩
  have h3' : loopM (fun s : Int × List Int => impl_prime_times_l1 a b s.1 s.2) (0, List.replicate n 0) = some s := h3
  rw [h3']
  simp only [Option.bind_some]
  obtain ⟨t, h6, h7, h8⟩ := loopM_for (body := fun q : Int × List Int => impl_prime_times_l3 s p q.1 q.2) (fun i (u : List Int) => ((i : Int), u)) (fun u => u) n
    (fun i u => u.length = n ∧ ∀ k, rd u k = if k < i then cv (rd a) (rd b) a.length k % p else cv (rd a) (rd b) a.length k) (fun i u hi hI => by
      obtain ⟨hul, hu⟩ := hI
      have hui := hu i
      rw [if_neg (by omega)] at hui
      have hc := cv_small ha hb i a.length
      refine ⟨u.set i (cv (rd a) (rd b) a.length i % p), ?_, by simpa using hul, fun k => ?_⟩
      · simp only [impl_prime_times_l3]
        rw [if_pos (by simp; omega), ifp_pos (by omega), ifp_pos (by omega), ifp_pos (by omega)]
        simp only [Int.toNat_natCast]
        rw [hui, Int.tmod_eq_emod_of_nonneg hc.1, wrap64 (by omega) (by omega)]; rfl
      · rw [rd_set _ _ _ _ (by omega), hu k]
        by_cases e : k = i
        · subst e; simp
        · rw [if_neg e]
          simp only [show (k < i + 1) = (k < i) from by rw [eq_iff_iff]; omega]) (fun u hI => by
      simp only [impl_prime_times_l3]
      rw [if_neg (by simp; omega)]) n 0 s (by omega) ⟨h4, fun k => by rw [h5 k, if_neg (by omega)]⟩
  have h6' : loopM (fun q : Int × List Int => impl_prime_times_l3 s p q.1 q.2) (0, s) = some t := h6
  rw [h6']
  simp only [Option.bind_some]
  rw [trimmed_is (by omega), trim_eq, h7]
  simp only [Option.bind_some]
  congr 1
  rw [mul, ← hn]
  exact ofF_congr fun k hk => by rw [h8 k, if_pos hk, cv_conv fun i hi => rd_ge (by omega)]
end Go.Proofs.Ytkbnegemdlnncaa
/- Products and quotients, in the program. -/
namespace Go.Proofs.Ytkbnegemdlnncaa
open Go.Abs

variable {P : Pri}
theorem Pri.sm (P : Pri) : 0 < P.p ∧ P.p ≤ 256 := by have := P.two; omega
theorem PP.ent (a : PP P) : Ent a.1 := a.2.ent P.sm
theorem ne_len {b : PP P} (hb : b ≠ 0) : b.1.length ≠ 0 := fun h => hb (len_zero.1 h)
theorem pdivI {a b : PP P} (hb : b ≠ 0) (la : a.len ≤ 500000) (lb : b.len ≤ 500000) : impl_prime_divide P.p a.1 b.1 = some ((pquo a b).1, (prem a b).1) := divideI_is P.ok a.2 b.2 (ne_len hb) la lb
theorem timesI {a b : PP P} (la : a.len ≤ 500000) (lb : b.len ≤ 500000) : impl_prime_times P.p a.1 b.1 = some (a * b).1 :=
  times_is (by have := P.two; omega) a.ent b.ent la lb
end Go.Proofs.Ytkbnegemdlnncaa
/- Which arrays are polynomials, in the program. -/
namespace Go.Proofs.Ytkbnegemdlnncaa
open Go.Abs

theorem index_loop {p : Int} {a : V64} (hb : IsB a) : ∀ s : Int, (∃ i : Nat, s = i ∧ i ≤ 64 ∧ ∀ j, j < i → rd a.1 j < p) → ∃ r, loopM (fun s : Int => slices_IndexFunc_byte_byte_of_impl_areAll_byte__c1_p_l1 a.1 p s) s = some r ∧ ((r = .inl () ∧ Small p a) ∨ (∃ i : Nat, r = .inr (i : Int) ∧ ¬ Small p a)) := by
  refine loopM_ind (fun (s : Int) => ∃ i : Nat, s = i ∧ i ≤ 64 ∧ ∀ j, j < i → rd a.1 j < p) (fun (s : Int) (r : Unit ⊕ Int) => (r = .inl () ∧ Small p a) ∨ (∃ i : Nat, r = .inr (i : Int) ∧ ¬ Small p a)) (fun s => 64 - s.toNat) ?_
  rintro s ⟨i, rfl, hi, hlt⟩
  have h64 := a.2
  by_cases h : i = 64
  · right
    subst h
    exact ⟨.inl (), by simp [slices_IndexFunc_byte_byte_of_impl_areAll_byte__c1_p_l1, h64], .inl ⟨rfl, hlt⟩⟩
  · have hbi := hb.rd (show i < 64 by omega)
    have e1 : impl_areAll_byte__c1_of_p (rd a.1 i) p = some (!decide (rd a.1 i < p)) := by
      simp only [impl_areAll_byte__c1_of_p, impl_isPoly_c1_of_p, Option.bind_some]
      rw [wrap64 (by omega) (by omega)]
    by_cases e : rd a.1 i < p
    · left
      refine ⟨((i + 1 : Nat) : Int), ?_, ⟨i + 1, rfl, by omega, fun j hj => ?_⟩, by simp; omega, fun r hr => hr⟩
      · simp only [slices_IndexFunc_byte_byte_of_impl_areAll_byte__c1_p_l1, h64]
        rw [if_pos (by simp; omega), ifp_pos (by omega), Int.toNat_natCast, e1, wrap64 (by omega) (by omega)]
        simp [e]
      · by_cases hj' : j = i
        · rw [hj']; exact e
        · exact hlt j (by omega)
    · right
      refine ⟨.inr (i : Int), ?_, .inr ⟨i, rfl, fun hs => e (hs i (by omega))⟩⟩
      simp only [slices_IndexFunc_byte_byte_of_impl_areAll_byte__c1_p_l1, h64]
      rw [if_pos (by simp; omega), ifp_pos (by omega), Int.toNat_natCast, e1]
      simp [e]
theorem isPoly_is {p : Int} {a : V64} (hb : IsB a) : impl_isPoly p a = some (small p a) := by
  obtain ⟨r, h1, h2⟩ := index_loop (p := p) hb 0 ⟨0, rfl, by omega, fun j hj => by omega⟩
  simp only [impl_isPoly, impl_areAll_byte_of_impl_isPoly_c1_p, slices_ContainsFunc_byte_byte_of_impl_areAll_byte__c1_p, slices_IndexFunc_byte_byte_of_impl_areAll_byte__c1_p, h1, Option.bind_some]
  rcases h2 with ⟨rfl, h⟩ | ⟨i, rfl, h⟩ <;> simp [small, h]
end Go.Proofs.Ytkbnegemdlnncaa
/- The code for polynomials, in the program. -/
namespace Go.Proofs.Ytkbnegemdlnncaa
open Go.Abs

theorem indexP_loop {p : Int} {l : List V64} (hb : ∀ a ∈ l, IsB a) (hl : l.length ≤ 2000000) : ∀ s : Int, (∃ i : Nat, s = i ∧ i ≤ l.length ∧ ∀ a ∈ l.take i, small p a = true) → ∃ r, loopM (fun s : Int => slices_IndexFunc_impl_Poly_impl_Poly_of_impl_areAll_impl_Poly__c1_p_l1 l p s) s = some r ∧ ((r = .inl () ∧ l.all (small p) = true) ∨ (∃ i : Nat, r = .inr (i : Int) ∧ l.all (small p) = false)) := by
  refine loopM_ind (fun (s : Int) => ∃ i : Nat, s = i ∧ i ≤ l.length ∧ ∀ a ∈ l.take i, small p a = true) (fun (s : Int) (r : Unit ⊕ Int) => (r = .inl () ∧ l.all (small p) = true) ∨ (∃ i : Nat, r = .inr (i : Int) ∧ l.all (small p) = false)) (fun s => l.length - s.toNat) ?_
  rintro s ⟨i, rfl, hi, hlt⟩
  by_cases h : i = l.length
  · right
    subst h
    exact ⟨.inl (), by simp [slices_IndexFunc_impl_Poly_impl_Poly_of_impl_areAll_impl_Poly__c1_p_l1], .inl ⟨rfl, by rw [List.take_length] at hlt; simpa using hlt⟩⟩
  · have hil : i < l.length := by omega
    have er : rd l i = l[i] := by simp [rd, hil]
    have hbi := isPoly_is (p := p) (hb l[i] (List.getElem_mem _))
    have e1 : impl_areAll_impl_Poly__c1_of_p (rd l i) p = some (!small p l[i]) := by
      simp only [impl_areAll_impl_Poly__c1_of_p, impl_polysCode_c1_of_p, er, hbi, Option.bind_some]
    cases e : small p l[i] with
    | true =>
      left
      refine ⟨((i + 1 : Nat) : Int), ?_, ⟨i + 1, rfl, by omega, fun a ha => ?_⟩, by simp; omega, fun r hr => hr⟩
      · simp only [slices_IndexFunc_impl_Poly_impl_Poly_of_impl_areAll_impl_Poly__c1_p_l1]
        rw [if_pos (decide_eq_true (by omega)), ifp_pos (by omega), Int.toNat_natCast, e1, e]
        simp only [Option.bind_some, Bool.not_true, Bool.false_eq_true, if_false]
        rw [wrap64 (by omega) (by omega)]; rfl
      · rw [List.take_succ_eq_append_getElem hil] at ha
        rcases List.mem_append.1 ha with ha | ha
        · exact hlt a ha
        · have : a = l[i] := by simpa using ha
          rw [this]; exact e
    | false =>
      right
      refine ⟨.inr (i : Int), ?_, .inr ⟨i, rfl, ?_⟩⟩
      · simp only [slices_IndexFunc_impl_Poly_impl_Poly_of_impl_areAll_impl_Poly__c1_p_l1]
        rw [if_pos (decide_eq_true (by omega)), ifp_pos (by omega), Int.toNat_natCast, e1, e]
        rfl
      · rw [List.all_eq_false]
        exact ⟨l[i], List.getElem_mem _, by simp [e]⟩
theorem polysCode_is {p : Int} {l : List V64} (hb : ∀ a ∈ l, IsB a) (hl : l.length ≤ 2000000) : impl_polysCode p l = some (if isP p && l.all (small p) then 0 else 1) := by
  obtain ⟨r, h1, h2⟩ := indexP_loop (p := p) hb hl 0 ⟨0, rfl, by omega, by simp⟩
  have e : impl_areAll_impl_Poly_of_impl_polysCode_c1_p l p = some (l.all (small p)) := by
    simp only [impl_areAll_impl_Poly_of_impl_polysCode_c1_p, slices_ContainsFunc_impl_Poly_impl_Poly_of_impl_areAll_impl_Poly__c1_p, slices_IndexFunc_impl_Poly_impl_Poly_of_impl_areAll_impl_Poly__c1_p, h1, Option.bind_some]
    rcases h2 with ⟨rfl, h⟩ | ⟨i, rfl, h⟩ <;> simp [h]
  simp only [impl_polysCode, isPrime_impl, e, Option.bind_some]
  cases isP p <;> cases l.all (small p) <;> simp
end Go.Proofs.Ytkbnegemdlnncaa
/- The row of an array, trimmed. -/
namespace Go.Proofs.Ytkbnegemdlnncaa
open Go.Abs

theorem rowOf_loop {a : V64} (hb : IsB a) : ∀ s : Int × List Int, (∃ i : Nat, s.1 = i ∧ i ≤ 64 ∧ s.2 = a.1.take i) → ∃ r, loopM (fun s : Int × List Int => impl_rowOf_l1 a s.1 s.2) s = some r ∧ r = a.1 := by
  refine loopM_ind (fun (s : Int × List Int) => ∃ i : Nat, s.1 = i ∧ i ≤ 64 ∧ s.2 = a.1.take i) (fun (s : Int × List Int) (r : List Int) => r = a.1) (fun (s : Int × List Int) => 64 - s.1.toNat) ?_
  rintro ⟨x, v⟩ ⟨i, hx, hi, hv⟩
  simp only at hx hv
  subst hx hv
  by_cases h : i = 64
  · right
    subst h
    exact ⟨a.1, by simp [impl_rowOf_l1, List.take_of_length_le (Nat.le_of_eq a.2)], rfl⟩
  · left
    have hil : i < a.1.length := by rw [a.2]; omega
    have er : rd a.1 i = a.1[i] := by simp [rd, hil]
    have hbi := hb.rd (show i < 64 by omega)
    refine ⟨(((i + 1 : Nat) : Int), a.1.take (i + 1)), ?_, ⟨i + 1, rfl, by omega, rfl⟩, by simp; omega, fun r hr => hr⟩
    simp only [impl_rowOf_l1]
    rw [if_pos (by simp; omega), ifp_pos (by omega), ifp_pos (by simp; omega)]
    rw [Int.toNat_natCast, wrap64 (by omega) (by omega), wrap64 (by omega) (by omega), er, List.take_succ_eq_append_getElem hil]
    simp

theorem rowOf_is {a : V64} (hb : IsB a) : impl_rowOf a = some (a.1.take (top (rd a.1) 64)) := by
  obtain ⟨r, h1, h2⟩ := rowOf_loop hb (0, []) ⟨0, rfl, by omega, by simp⟩
  subst h2
  have h3 := trimmed_is (l := a.1) (by rw [a.2]; omega)
  rw [a.2] at h3
  simp only [impl_rowOf, h1, Option.bind_some, h3]
end Go.Proofs.Ytkbnegemdlnncaa
/- The row of an array. -/
namespace Go.Proofs.Ytkbnegemdlnncaa
open Go.Abs
theorem row_is {d : V64} (hb : IsB d) : impl_rowOf d = some (row d) := by
  rw [rowOf_is hb]
  congr 1
  have := top_le (rd d.1) 64
  refine rd_ext (by rw [row, ofF_len]; simp; rw [d.2]; omega) fun i hi => ?_
  simp at hi
  rw [rd_take, row, rd_ofF', if_pos (by omega), if_pos (by omega)]
end Go.Proofs.Ytkbnegemdlnncaa
/- A row as an array. -/
namespace Go.Proofs.Ytkbnegemdlnncaa
open Go.Abs

theorem poly_loop {l : List Int} (hb : Bytes l) (hl : l.length ≤ 64) : ∀ s : Int × V64, (∃ i : Nat, s.1 = i ∧ i ≤ l.length ∧ s.2 = pad (l.take i)) → ∃ r, loopM (fun s : Int × V64 => impl_row_poly_l1 l s.1 s.2) s = some r ∧ r = pad l := by
  refine loopM_ind (fun (s : Int × V64) => ∃ i : Nat, s.1 = i ∧ i ≤ l.length ∧ s.2 = pad (l.take i)) (fun (s : Int × V64) r => r = pad l) (fun (s : Int × V64) => 64 - s.1.toNat) ?_
  rintro ⟨x, v⟩ ⟨i, hx, hi, hv⟩
  simp only at hx hv
  subst hx hv
  by_cases h : i = l.length
  · right
    subst h
    exact ⟨pad l, by simp [impl_row_poly_l1], rfl⟩
  · left
    have hil : i < l.length := by omega
    have er : rd l i = l[i] := by simp [rd, hil]
    have hbi := hb l[i] (List.getElem_mem _)
    refine ⟨(((i + 1 : Nat) : Int), pad (l.take (i + 1))), ?_, ⟨i + 1, rfl, by omega, rfl⟩, by simp; omega, fun r hr => hr⟩
    simp only [impl_row_poly_l1]
    rw [if_pos (by simp; omega), ifp_pos (by omega), ifp_pos (by omega)]
    simp only [Int.toNat_natCast, er]
    rw [wrap64 (by omega) (by omega), wrap8 hbi.1 hbi.2]
    have := pad_set (l.take i) l[i] (by simp; omega)
    rw [List.length_take, Nat.min_eq_left (by omega)] at this
    rw [this, List.take_succ_eq_append_getElem hil]
    simp

theorem poly_is {l : List Int} (hb : Bytes l) (hl : l.length ≤ 64) : impl_row_poly l = some (pad l) := by
  obtain ⟨r, h1, h2⟩ := poly_loop hb hl (0, pad []) ⟨0, rfl, by omega, by simp⟩
  simp only [impl_row_poly, ← pad_nil, h1, h2, Option.bind_some]
end Go.Proofs.Ytkbnegemdlnncaa
/- Polynomials from rows, told. -/
namespace Go.Proofs.Ytkbnegemdlnncaa
open Go.Abs
theorem told_is {l : List Int} (hb : Bytes l) (hl : l.length ≤ 64) : impl_told l = some (pad l, 0) := by
  simp only [impl_told, impl_row_fits, impl_row_degree, Option.bind_some, poly_is hb hl]
  rw [wrap64 (by omega) (by omega)]
  simp
  omega
end Go.Proofs.Ytkbnegemdlnncaa
/- Rows as arrays: codes, rows, told. -/
namespace Go.Proofs.Ytkbnegemdlnncaa
open Go.Abs
variable {P : Pri}
theorem isB_pp (a : PP P) : IsB (pad a.1) := fun x hx => by
  obtain ⟨i, hi, rfl⟩ := List.getElem_of_mem hx
  have h1 := res_pad a.2 P.pos i (by rw [← (pad a.1).2]; exact hi)
  have := P.two
  rw [rd_lt hi] at h1
  omega
theorem small_pp (a : PP P) : small P.p (pad a.1) = true := by
  simp only [small, decide_eq_true_eq]
  exact fun j hj => (res_pad a.2 P.pos j hj).2
theorem pcode1 (a : PP P) : impl_polysCode P.p [pad a.1] = some 0 := by
  rw [polysCode_is (fun x hx => by rw [List.mem_singleton.1 hx]; exact isB_pp a) (by simp), P.okp]
  simp [small_pp]
theorem pcode2 (a b : PP P) : impl_polysCode P.p [pad a.1, pad b.1] = some 0 := by
  rw [polysCode_is (fun x hx => by
    rcases List.mem_cons.1 hx with rfl | hx
    · exact isB_pp a
    · rw [List.mem_singleton.1 hx]; exact isB_pp b) (by simp), P.okp]
  simp [small_pp]
theorem rowI (a : PP P) (la : a.len ≤ 64) : impl_rowOf (pad a.1) = some a.1 := by rw [row_is (isB_pp a), row_pad a.2 la]
theorem fitsI (a : PP P) (la : a.len ≤ 1000000) : impl_row_fits a.1 = some (decide (a.len ≤ 64)) := by
  have h : a.1.length = a.len := rfl
  simp only [impl_row_fits, impl_row_degree, Option.bind_some]
  rw [wrap64 (by omega) (by omega), h]
  congr 1
  rw [Bool.eq_iff_iff]; simp only [decide_eq_true_eq]; omega
theorem toldI (a : PP P) (la : a.len ≤ 1000000) : impl_told a.1 = some (if a.len ≤ 64 then (pad a.1, 0) else (vrep 64 0, 3)) := by
  by_cases h : a.len ≤ 64
  · rw [if_pos h]
    exact told_is (a.2.bytes P.sm.2) h
  · rw [if_neg h]
    simp only [impl_told, fitsI a la, decide_eq_false h, Option.bind_some]
    rfl
end Go.Proofs.Ytkbnegemdlnncaa
/- The code for polynomials, in the reference. -/
namespace Go.Proofs.Ytkbnegemdlnncaa
open Go.Abs
theorem code_loop {p : Int} {l : List V64} (hb : ∀ a ∈ l, IsB a) (hl : l.length ≤ 2000000) (hp : isP p = true) : ∀ s : Int, (∃ i : Nat, s = i ∧ i ≤ l.length ∧ ∀ a ∈ l.take i, small p a = true) → ∃ r, loopM (fun s : Int => spec_l01Code_l1 l p s) s = some r ∧ ((r = .inl () ∧ l.all (small p) = true) ∨ (r = .inr 1 ∧ l.all (small p) = false)) := by
  refine loopM_ind (fun (s : Int) => ∃ i : Nat, s = i ∧ i ≤ l.length ∧ ∀ a ∈ l.take i, small p a = true) (fun (s : Int) (r : Unit ⊕ Int) => (r = .inl () ∧ l.all (small p) = true) ∨ (r = .inr 1 ∧ l.all (small p) = false)) (fun s => l.length - s.toNat) ?_
  rintro s ⟨i, rfl, hi, hlt⟩
  by_cases h : i = l.length
  · right
    subst h
    exact ⟨.inl (), by simp [spec_l01Code_l1], .inl ⟨rfl, by rw [List.take_length] at hlt; simpa using hlt⟩⟩
  · have hil : i < l.length := by omega
    have er : rd l i = l[i] := by simp [rd, hil]
    have hbi := is_is (p := p) (hb l[i] (List.getElem_mem _))
    rw [hp, Bool.and_true] at hbi
    cases e : small p l[i] with
    | true =>
      left
      refine ⟨((i + 1 : Nat) : Int), ?_, ⟨i + 1, rfl, by omega, fun a ha => ?_⟩, by simp; omega, fun r hr => hr⟩
      · simp only [spec_l01Code_l1]
        rw [if_pos (by simp; omega), ifp_pos (by omega), Int.toNat_natCast, er, hbi, e]
        simp only [Option.bind_some, Bool.not_true, Bool.false_eq_true, if_false]
        rw [wrap64 (by omega) (by omega)]; rfl
      · rw [List.take_succ_eq_append_getElem hil] at ha
        rcases List.mem_append.1 ha with ha | ha
        · exact hlt a ha
        · have : a = l[i] := by simpa using ha
          rw [this]; exact e
    | false =>
      right
      refine ⟨.inr 1, ?_, .inr ⟨rfl, ?_⟩⟩
      · simp only [spec_l01Code_l1]
        rw [if_pos (by simp; omega), ifp_pos (by omega), Int.toNat_natCast, er, hbi, e]
        rfl
      · rw [List.all_eq_false]
        exact ⟨l[i], List.getElem_mem _, by simp [e]⟩
theorem code_is {p : Int} {l : List V64} (hb : ∀ a ∈ l, IsB a) (hl : l.length ≤ 2000000) : spec_l01Code p l = some (if isP p && l.all (small p) then 0 else 1) := by
  unfold spec_l01Code
  rw [isPrime_spec]
  cases hp : isP p with
  | false => simp
  | true =>
    obtain ⟨r, h1, h2⟩ := code_loop hb hl hp 0 ⟨0, rfl, by omega, by simp⟩
    simp only [Option.bind_some, Bool.not_true, Bool.false_eq_true, if_false, h1, Bool.true_and]
    rcases h2 with ⟨rfl, h⟩ | ⟨rfl, h⟩ <;> simp [h]

end Go.Proofs.Ytkbnegemdlnncaa
/- Codes of polynomials, their degrees, quotients: what both sides return. -/
namespace Go.Proofs.Ytkbnegemdlnncaa
open Go.Abs
variable {P : Pri}
theorem scode2 (a b : PP P) : spec_l01Code P.p [pad a.1, pad b.1] = some 0 := by
  rw [code_is (fun x hx => by
    rcases List.mem_cons.1 hx with rfl | hx
    · exact isB_pp a
    · rw [List.mem_singleton.1 hx]; exact isB_pp b) (by simp), P.okp]
  simp [small_pp]
theorem scode1 (a : PP P) : spec_l01Code P.p [pad a.1] = some 0 := by
  rw [code_is (fun x hx => by rw [List.mem_singleton.1 hx]; exact isB_pp a) (by simp), P.okp]
  simp [small_pp]
theorem pri_of_p {p : Int} (hp : isP p = true) : ∃ P : Pri, p = P.p := by
  have hp2 := isP_pos hp
  obtain ⟨q, rfl⟩ : ∃ q : Nat, p = q := ⟨p.toNat, by omega⟩
  exact ⟨⟨q, hp⟩, rfl⟩
theorem lift_is {a : V64} (ha : IsB a) (hs : small P.p a = true) : ∃ A : PP P, a = pad A.1 ∧ A.len ≤ 64 :=
  ⟨⟨row a, row_row (res_of_small ha hs)⟩, (pad_row a).symm, row_len a⟩
theorem two_or {p : Int} {a b : V64} (ha : IsB a) (hb : IsB b) : (impl_polysCode p [a, b] = some 1 ∧ spec_l01Code p [a, b] = some 1) ∨
    ∃ (P : Pri) (A B : PP P), p = P.p ∧ a = pad A.1 ∧ b = pad B.1 ∧ A.len ≤ 64 ∧ B.len ≤ 64 := by
  have hm : ∀ x ∈ [a, b], IsB x := fun x hx => by
    rcases List.mem_cons.1 hx with rfl | hx
    · exact ha
    · rw [List.mem_singleton.1 hx]; exact hb
  by_cases h : (isP p && [a, b].all (small p)) = true
  · right
    have h' : isP p = true ∧ small p a = true ∧ small p b = true := by simpa using h
    obtain ⟨h1, h2, h3⟩ := h'
    obtain ⟨P, rfl⟩ := pri_of_p h1
    obtain ⟨A, rfl, la⟩ := lift_is ha h2
    obtain ⟨B, rfl, lb⟩ := lift_is hb h3
    exact ⟨P, A, B, rfl, rfl, rfl, la, lb⟩
  · left
    rw [polysCode_is hm (by simp), code_is hm (by simp), if_neg h]
    exact ⟨rfl, rfl⟩
theorem one_or {p : Int} {a : V64} (ha : IsB a) : (impl_polysCode p [a] = some 1 ∧ spec_l01Code p [a] = some 1) ∨
    ∃ (P : Pri) (A : PP P), p = P.p ∧ a = pad A.1 ∧ A.len ≤ 64 := by
  have hm : ∀ x ∈ [a], IsB x := fun x hx => by rw [List.mem_singleton.1 hx]; exact ha
  by_cases h : (isP p && [a].all (small p)) = true
  · right
    have h' : isP p = true ∧ small p a = true := by simpa using h
    obtain ⟨h1, h2⟩ := h'
    obtain ⟨P, rfl⟩ := pri_of_p h1
    obtain ⟨A, rfl, la⟩ := lift_is ha h2
    exact ⟨P, A, rfl, rfl, la⟩
  · left
    rw [polysCode_is hm (by simp), code_is hm (by simp), if_neg h]
    exact ⟨rfl, rfl⟩
theorem pad_zero_iff {a : PP P} (la : a.len ≤ 64) : pad a.1 = vrep 64 0 ↔ a = 0 := by
  rw [← pad_nil]
  exact ⟨fun h => pp_eq (pad_inj a.2 (row_nil P.p) la (Nat.zero_le 64) h), fun h => by rw [h]; rfl⟩
theorem degP (a : PP P) (la : a.len ≤ 64) : spec_l01Deg (pad a.1) = some ((a.len : Int) - 1) := by
  rw [deg_is, top_congr 64 fun i hi => rd_padl a.1 hi, a.2.top la]; rfl
theorem degO {a : PP P} (la : a.len ≤ 64) : impl_DegreeOf P.p (pad a.1) = some ((a.len : Int) - 1, 0) := by
  have h : a.1.length = a.len := rfl
  simp only [impl_DegreeOf, pcode1, rowI a la, impl_row_degree, Option.bind_some, bne_self_eq_false, Bool.false_eq_true, if_false, h]
  rw [wrap64 (by omega) (by omega)]
theorem pquo_len (a b : PP P) : (pquo a b).len ≤ a.len + 1 - b.len := quo_len _ _ _
theorem divO {a b : PP P} (la : a.len ≤ 64) (lb : b.len ≤ 64) : impl_DividePolys P.p (pad a.1) (pad b.1) = some (if b.len = 0 then (vrep 64 0, vrep 64 0, 5) else (pad (pquo a b).1, pad (prem a b).1, 0)) := by
  simp only [impl_DividePolys, pcode2, Option.bind_some, bne_self_eq_false, Bool.false_eq_true, if_false]
  by_cases h : b = 0
  · rw [if_pos (decide_eq_true ((pad_zero_iff lb).2 h)), if_pos (len_zero.2 h)]
  · have h1 := pquo_len a b
    have h2 := (pdiv a h).2
    have hb := len_pos h
    rw [if_neg (by rw [decide_eq_true_eq]; exact fun e => h ((pad_zero_iff lb).1 e)), if_neg (show ¬ b.len = 0 by omega), rowI a la, rowI b lb]
    simp only [Option.bind_some, pdivI h (show a.len ≤ 500000 by omega) (show b.len ≤ 500000 by omega)]
    rw [poly_is ((pquo a b).2.bytes P.sm.2) (show (pquo a b).len ≤ 64 by omega), poly_is ((prem a b).2.bytes P.sm.2) (show (prem a b).len ≤ 64 by omega)]
    rfl
end Go.Proofs.Ytkbnegemdlnncaa
/- Polynomials as texts, and back. -/
namespace Go.Proofs.Ytkbnegemdlnncaa
open Go.Abs
theorem push_data : ∀ (L : List Int) (r : ByteArray), (L.foldl (fun r n => r.push (UInt8.ofNat n.toNat)) r).data.toList = r.data.toList ++ L.map fun n => UInt8.ofNat n.toNat
  | [], r => by simp
  | n :: L, r => by
    simp only [List.foldl_cons, push_data L, ByteArray.data_push, Array.toList_push, List.map_cons, List.append_assoc, List.singleton_append]
theorem bstr_data (L : List Int) : (bstr L).data.toList = L.map fun n => UInt8.ofNat n.toNat := by
  rw [bstr, push_data]; rfl
theorem bstr_size (L : List Int) : (bstr L).size = L.length := by
  have h : (bstr L).size = (bstr L).data.toList.length := rfl
  rw [h, bstr_data, List.length_map]
theorem text_loop {l : List Int} (hl : l.length ≤ 64) (hb : ∀ j, 0 ≤ rd l j ∧ rd l j < 10) : ∀ (m : Nat) (L : List Int), m ≤ l.length → L.length + m ≤ 64 →
    loopM (fun s : Int × List Int => impl_row_text_l1 l s.1 s.2) ((m : Int) - 1, L) = some (L ++ ((l.take m).reverse.map fun d => 48 + d))
  | 0, L, _, _ => by
    rw [loopM_eq]
    simp [impl_row_text_l1]
  | m + 1, L, hm, hL => by
    have hb := hb m
    have ei : ((m + 1 : Nat) : Int) - 1 = m := by omega
    have ih := text_loop hl ‹_› m (L ++ [48 + rd l m]) (by omega) (by simp; omega)
    have er : (l.take (m + 1)).reverse = rd l m :: (l.take m).reverse := by
      rw [List.take_succ_eq_append_getElem (by omega), rd_lt (by omega), List.reverse_append]; rfl
    have step : impl_row_text_l1 l (m : Int) L = some (.inl ((m : Int) - 1, L ++ [48 + rd l m])) := by
      simp only [impl_row_text_l1, Int.toNat_natCast]
      rw [if_pos (decide_eq_true (by omega)), ifp_pos (by omega), ifp_pos (by simp; omega), wrap64 (n := 48 + rd l m) (by omega) (by omega), wrap8 (by omega) (by omega), wrap64 (by omega) (by omega)]
    rw [loopM_eq, ei]
    simp only [step, Option.bind_some]
    rw [ih, er, List.map_cons, List.append_assoc]
    rfl
variable {P : Pri}
end Go.Proofs.Ytkbnegemdlnncaa
/- Texts of polynomials, in the reference; reading them, on both sides. -/
namespace Go.Proofs.Ytkbnegemdlnncaa
open Go.Abs
/-- The text of a row. -/
def tx (l : List Int) : ByteArray := if l.length = 0 then ⟨#[48]⟩ else bstr (l.reverse.map fun d => 48 + d)
theorem textI {l : List Int} (hl : l.length ≤ 64) (hb : ∀ j, 0 ≤ rd l j ∧ rd l j < 10) : impl_row_text l = some (tx l) := by
  by_cases h0 : l.length = 0
  · have : l = [] := List.eq_nil_of_length_eq_zero h0
    subst this
    rfl
  · have h := text_loop hl hb l.length [] (Nat.le_refl _) (by simp; omega)
    rw [List.take_length, List.nil_append] at h
    have e : IntKind.i64.wrap ((l.length : Int) - 1) = (l.length : Int) - 1 := wrap64 (by omega) (by omega)
    have hn : ((l.length : Int) == 0) = false := by rw [beq_eq_false_iff_ne]; omega
    simp only [impl_row_text, hn, Bool.false_eq_true, if_false, e, h, Option.bind_some, tx, if_neg h0]
theorem textS_loop {l : List Int} (hl : l.length ≤ 64) (hb : ∀ j, 0 ≤ rd l j ∧ rd l j < 10) : ∀ (m : Nat) (L : List Int), m ≤ l.length → L.length + m ≤ 64 →
    loopM (fun s : Int × List Int => spec_l01Text_l1 (pad l) s.1 s.2) ((m : Int) - 1, L) = some (L ++ ((l.take m).reverse.map fun d => 48 + d))
  | 0, L, _, _ => by
    rw [loopM_eq]
    simp [spec_l01Text_l1]
  | m + 1, L, hm, hL => by
    have hb := hb m
    have ei : ((m + 1 : Nat) : Int) - 1 = m := by omega
    have ih := textS_loop hl ‹_› m (L ++ [48 + rd l m]) (by omega) (by simp; omega)
    have er : (l.take (m + 1)).reverse = rd l m :: (l.take m).reverse := by
      rw [List.take_succ_eq_append_getElem (by omega), rd_lt (by omega), List.reverse_append]; rfl
    have step : spec_l01Text_l1 (pad l) (m : Int) L = some (.inl ((m : Int) - 1, L ++ [48 + rd l m])) := by
      simp only [spec_l01Text_l1, Int.toNat_natCast, rd_padl l (show m < 64 by omega)]
      rw [if_pos (decide_eq_true (by omega)), ifp_pos (by omega), ifp_pos (by simp; omega), wrap8 (by omega) (by omega), wrap64 (by omega) (by omega)]
    rw [loopM_eq, ei]
    simp only [step, Option.bind_some]
    rw [ih, er, List.map_cons, List.append_assoc]
    rfl
theorem textS {p : Int} {l : List Int} (hr : Row p l) (hl : l.length ≤ 64) (hb : ∀ j, 0 ≤ rd l j ∧ rd l j < 10) : spec_l01Text (pad l) = some (tx l) := by
  have hd : spec_l01Deg (pad l) = some ((l.length : Int) - 1) := by
    rw [deg_is, top_congr 64 fun i hi => rd_padl l hi, hr.top hl]
  have h := textS_loop hl hb l.length [] (Nat.le_refl _) (by simp; omega)
  rw [List.take_length, List.nil_append] at h
  simp only [spec_l01Text, hd, h, Option.bind_some, List.length_map, List.length_reverse]
  by_cases h0 : l.length = 0
  · rw [if_pos (by rw [beq_iff_eq]; omega), tx, if_pos h0]
  · rw [if_neg (by rw [beq_iff_eq]; omega), tx, if_neg h0]
theorem tx_len {l : List Int} : (tx l).size = max l.length 1 := by
  unfold tx
  by_cases h0 : l.length = 0
  · rw [if_pos h0, h0]; rfl
  · rw [if_neg h0, bstr_size]; simp; omega
variable {P : Pri}
theorem small10 (a : PP P) : ∀ j, 0 ≤ rd a.1 j ∧ rd a.1 j < 10 := fun j => by have := P.two; have := a.2.rd P.pos j; omega
theorem textO {a : PP P} (la : a.len ≤ 64) : impl_PolyText P.p (pad a.1) = some (tx a.1, 0) := by
  simp only [impl_PolyText, pcode1, rowI a la, textI la (small10 a), Option.bind_some]
  rfl
theorem textSp {a : PP P} (la : a.len ≤ 64) : spec_PolyText P.p (pad a.1) = some (tx a.1, 0) := by
  simp only [spec_PolyText, scode1, textS a.2 la (small10 a), Option.bind_some]
  rfl
theorem text_both {p : Int} {a : V64} (ha : IsB a) : ∃ t e, impl_PolyText p a = some (t, e) ∧ spec_PolyText p a = some (t, e) := by
  rcases one_or (p := p) ha with ⟨h1, h2⟩ | ⟨P, A, rfl, rfl, la⟩
  · refine ⟨⟨#[]⟩, 1, ?_, ?_⟩
    · simp only [impl_PolyText, h1, Option.bind_some]; rfl
    · simp only [spec_PolyText, h2, Option.bind_some]; rfl
  · exact ⟨_, _, textO la, textSp la⟩
theorem degree_both {p : Int} {a : V64} (ha : IsB a) : ∃ d e, impl_DegreeOf p a = some (d, e) ∧ spec_DegreeOf p a = some (d, e) := by
  rcases one_or (p := p) ha with ⟨h1, h2⟩ | ⟨P, A, rfl, rfl, la⟩
  · refine ⟨0, 1, ?_, ?_⟩
    · simp only [impl_DegreeOf, h1, Option.bind_some]; rfl
    · simp only [spec_DegreeOf, h2, Option.bind_some]; rfl
  · refine ⟨_, _, degO la, ?_⟩
    simp only [spec_DegreeOf, scode1, degP A la, Option.bind_some]
    rfl
/-! Reading. -/
def tb (t : ByteArray) (i : Nat) : Int := ((t.data.toList.getD i 0).toNat : Int)
theorem tb_lt (t : ByteArray) (i : Nat) : 0 ≤ tb t i ∧ tb t i < 256 := by
  unfold tb
  have := (t.data.toList.getD i 0).toNat_lt
  omega
def tget (t : ByteArray) (n j : Nat) : Int := if t.size ≤ n + j ∧ j < t.size then IntKind.u8.wrap (tb t (t.size - 1 - j) - 48) else 0
theorem tget_succ (t : ByteArray) {i : Nat} (hi : i < t.size) (j : Nat) : tget t (i + 1) j = if j = t.size - 1 - i then IntKind.u8.wrap (tb t i - 48) else tget t i j := by
  unfold tget
  by_cases h : j = t.size - 1 - i
  · rw [if_pos h, if_pos (by omega), h, show t.size - 1 - (t.size - 1 - i) = i by omega]
  · rw [if_neg h]
    simp only [show (t.size ≤ i + 1 + j ∧ j < t.size) = (t.size ≤ i + j ∧ j < t.size) from by rw [eq_iff_iff]; omega]
def Rd (t : ByteArray) (n : Nat) (v : V64) : Prop := ∀ j, j < 64 → rd v.1 j = tget t n j
theorem Rd.next {t : ByteArray} {i : Nat} (hi : i < t.size) (ht : t.size ≤ 64) {v : V64} (h : Rd t i v) : Rd t (i + 1) (vset v (t.size - 1 - i) (IntKind.u8.wrap (tb t i - 48))) := fun j hj => by
  rw [rd_vset _ _ _ _ (by omega), h j hj, tget_succ t hi]
theorem Rd.zero (t : ByteArray) : Rd t 0 (vrep 64 0) := fun j hj => by
  unfold tget
  rw [rd_vrep _ hj, if_neg (by omega)]
theorem Rd.isB {t : ByteArray} {n : Nat} {v : V64} (h : Rd t n v) : IsB v := fun d hd => by
  obtain ⟨i, hi, rfl⟩ := List.getElem_of_mem hd
  have h1 := h i (by rw [← v.2]; exact hi)
  rw [rd_lt hi] at h1
  rw [h1]
  unfold tget
  split
  · exact wrap8_res _
  · omega
theorem readI_loop {t : ByteArray} (ht : t.size ≤ 64) : ∃ v, loopM (fun s : Int × V64 => impl_ParsePoly_l1 t s.1 s.2) (0, vrep 64 0) = some v ∧ Rd t t.size v := by
  obtain ⟨s, h1, h2⟩ := loopM_for (body := fun s : Int × V64 => impl_ParsePoly_l1 t s.1 s.2) (fun i s => ((i : Int), s)) (fun s => s) t.size
    (fun i s => Rd t i s) (fun i s hi hI => by
      refine ⟨vset s (t.size - 1 - i) (IntKind.u8.wrap (tb t i - 48)), ?_, hI.next hi ht⟩
      have e1 : IntKind.i64.wrap ((t.size : Int) - 1) = (t.size : Int) - 1 := wrap64 (by omega) (by omega)
      have e2 : IntKind.i64.wrap ((t.size : Int) - 1 - i) = ((t.size - 1 - i : Nat) : Int) := by rw [wrap64 (by omega) (by omega)]; omega
      simp only [impl_ParsePoly_l1, letp, Int.toNat_natCast, e1, e2]
      rw [if_pos (decide_eq_true (by omega)), ifp_pos (by omega), ifp_pos (by omega), wrap64 (n := (i : Int) + 1) (by omega) (by omega)]
      rfl) (fun s hI => by
      simp only [impl_ParsePoly_l1]
      rw [if_neg (by rw [decide_eq_true_eq]; omega)]) t.size 0 (vrep 64 0) (by omega) (Rd.zero t)
  exact ⟨s, h1, h2⟩
def okAt (p : Int) (t : ByteArray) (i : Nat) : Prop := 48 ≤ tb t i ∧ tb t i - 48 < p
theorem readS_loop {p : Int} (hp : p ≤ 7) {t : ByteArray} (ht : t.size ≤ 64) : ∀ (m i : Nat) (v : V64), i + m = t.size → Rd t i v → (∀ k, k < i → okAt p t k) →
    (∃ v', loopM (fun s : Int × V64 => spec_l01Read_l1 t p s.1 s.2) ((i : Int), v) = some (.inl v') ∧ Rd t t.size v' ∧ ∀ k, k < t.size → okAt p t k) ∨
    (loopM (fun s : Int × V64 => spec_l01Read_l1 t p s.1 s.2) ((i : Int), v) = some (.inr (vrep 64 0, false)) ∧ ∃ k, k < t.size ∧ ¬ okAt p t k)
  | 0, i, v, hi, hv, hg => by
    left
    have : i = t.size := by omega
    subst this
    have step : spec_l01Read_l1 t p ((t.size : Nat) : Int) v = some (.inr (.inl v)) := by
      simp only [spec_l01Read_l1]
      rw [if_neg (by rw [decide_eq_true_eq]; omega)]
    exact ⟨v, by rw [loopM_eq]; simp only [step, Option.bind_some], hv, hg⟩
  | m + 1, i, v, hi, hv, hg => by
    have hb := tb_lt t i
    have e1 : IntKind.i64.wrap ((t.size : Int) - 1) = (t.size : Int) - 1 := wrap64 (by omega) (by omega)
    have e2 : IntKind.i64.wrap ((t.size : Int) - 1 - i) = ((t.size - 1 - i : Nat) : Int) := by rw [wrap64 (by omega) (by omega)]; omega
    have et : (((t).data.toList.getD i 0).toNat : Int) = tb t i := rfl
    by_cases hgi : okAt p t i
    · have ew : IntKind.u8.wrap (tb t i - 48) = tb t i - 48 := by have := hgi.1; exact wrap8 (by omega) (by omega)
      have step : spec_l01Read_l1 t p (i : Int) v = some (.inl (((i + 1 : Nat) : Int), vset v (t.size - 1 - i) (IntKind.u8.wrap (tb t i - 48)))) := by
        have h1 := hgi.1
        have h2 := hgi.2
        simp only [spec_l01Read_l1, letp, Int.toNat_natCast, e1, e2, et]
        rw [if_pos (decide_eq_true (by omega)), ifp_pos (by omega), if_neg (by rw [decide_eq_true_eq]; omega), ifp_pos (by omega), ew, wrap64 (n := tb t i - 48) (by omega) (by omega)]
        simp only [Option.bind_some]
        rw [if_neg (by rw [decide_eq_true_eq]; omega), ifp_pos (by omega), ifp_pos (by omega), wrap64 (n := (i : Int) + 1) (by omega) (by omega)]
        rfl
      rw [loopM_eq]
      simp only [step, Option.bind_some]
      exact readS_loop hp ht m (i + 1) _ (by omega) (hv.next (by omega) ht) fun k hk => by
        by_cases hki : k = i
        · rw [hki]; exact hgi
        · exact hg k (by omega)
    · right
      refine ⟨?_, i, by omega, hgi⟩
      have step : spec_l01Read_l1 t p (i : Int) v = some (.inr (.inr (vrep 64 0, false))) := by
        simp only [spec_l01Read_l1, letp, Int.toNat_natCast, e1, e2, et]
        rw [if_pos (decide_eq_true (by omega)), ifp_pos (by omega)]
        by_cases h1 : tb t i < 48
        · rw [if_pos (decide_eq_true h1)]
          rfl
        · have ew : IntKind.u8.wrap (tb t i - 48) = tb t i - 48 := wrap8 (by omega) (by omega)
          have h2 : tb t i - 48 ≥ p := by
            have : ¬ (48 ≤ tb t i ∧ tb t i - 48 < p) := hgi
            omega
          rw [if_neg (by rw [decide_eq_true_eq]; exact h1), ifp_pos (by omega), ew, wrap64 (n := tb t i - 48) (by omega) (by omega), decide_eq_true h2]
          rfl
      rw [loopM_eq]
      simp only [step, Option.bind_some]
theorem rd_same {t : ByteArray} {v w : V64} (h1 : Rd t t.size v) (h2 : Rd t t.size w) : v = w := vec_ext fun j hj => by rw [h1 j hj, h2 j hj]
theorem small_okAt {p : Int} (hp : 2 ≤ p ∧ p ≤ 7) {t : ByteArray} (ht : t.size ≤ 64) {v : V64} (h : Rd t t.size v) : small p v = true ↔ ∀ k, k < t.size → okAt p t k := by
  simp only [small, decide_eq_true_eq]
  constructor
  · intro hs k hk
    have h1 := hs (t.size - 1 - k) (by omega)
    rw [h _ (by omega), tget, if_pos (by omega), show t.size - 1 - (t.size - 1 - k) = k by omega] at h1
    have hb := tb_lt t k
    have hw : IntKind.u8.wrap (tb t k - 48) = (tb t k - 48) % 256 := by
      simp only [IntKind.wrap, IntKind.signed, IntKind.bits]
      simp
    rw [hw] at h1
    exact ⟨by omega, by omega⟩
  · intro hg j hj
    rw [h j hj, tget]
    split
    · have h1 := hg (t.size - 1 - j) (by omega)
      have := h1.1
      have := h1.2
      have hb := tb_lt t (t.size - 1 - j)
      rw [wrap8 (by omega) (by omega)]
      omega
    · omega
theorem toList_48 : ((⟨#[48]⟩ : ByteArray).toList == (⟨#[]⟩ : ByteArray).toList) = false := by
  have h1 : (⟨#[48]⟩ : ByteArray).toList = [48] := by
    unfold ByteArray.toList
    rw [ByteArray.toList.loop]
    simp
    rw [ByteArray.toList.loop]
    rfl
  have h2 : (⟨#[]⟩ : ByteArray).toList = [] := by
    unfold ByteArray.toList
    rw [ByteArray.toList.loop]
    rfl
  rw [h1, h2]; rfl
theorem parse_both (p : Int) (t : ByteArray) : ∃ v e, impl_ParsePoly p t = some (v, e) ∧ spec_ParsePoly p t = some (v, e) := by
  cases hp : isP p with
  | false =>
    exact ⟨vrep 64 0, 1, by simp only [impl_ParsePoly, isPrime_impl, hp, Option.bind_some]; rfl, by simp only [spec_ParsePoly, isPrime_spec, hp, Option.bind_some]; rfl⟩
  | true =>
    have hp2 := isP_pos hp
    obtain ⟨P, rfl⟩ := pri_of_p hp
    simp only [impl_ParsePoly, spec_ParsePoly, spec_l01Read, isPrime_impl, isPrime_spec, hp, Option.bind_some, Bool.not_true, Bool.false_eq_true, if_false]
    by_cases h64 : t.size ≤ 64
    · obtain ⟨v, v1, v2⟩ := readI_loop h64
      have hvb : IsB v := v2.isB
      have hs64 : decide ((t.size : Int) > 64) = false := decide_eq_false (by omega)
      simp only [hs64, Bool.false_eq_true, if_false, v1, isPoly_is hvb, Option.bind_some]
      by_cases h0 : t.size = 0
      · -- nothing is read, and 0 has a text
        have hz : v = vrep 64 0 := vec_ext fun j hj => by rw [v2 j hj, rd_vrep _ hj, tget, if_neg (by omega)]
        have hsm : small P.p v = true := (small_okAt hp2 h64 v2).2 fun k hk => absurd hk (by omega)
        have e0 : (0 : PP P).1 = [] := rfl
        have er : impl_rowOf v = some (0 : PP P).1 := by rw [hz, ← pad_nil]; exact rowI (0 : PP P) (Nat.zero_le _)
        have et : impl_row_text (0 : PP P).1 = some ⟨#[48]⟩ := rfl
        have hne : ((⟨#[48]⟩ : ByteArray).toList == t.toList) = false := by
          have ht0 : t = ⟨#[]⟩ := by
            have h1 : t.data.size = 0 := h0
            have h2 : t.data = #[] := Array.eq_empty_of_size_eq_zero h1
            cases t; cases h2; rfl
          rw [ht0]
          exact toList_48
        simp only [hsm, Bool.not_true, Bool.false_eq_true, if_false, er, et, hne, Option.bind_some, Bool.not_false, if_true]
        rw [if_pos (by rw [beq_iff_eq]; omega)]
        exact ⟨_, _, rfl, rfl⟩
      · have h0' : ((t.size : Int) == 0) = false := by rw [beq_eq_false_iff_ne]; omega
        simp only [h0', Bool.false_eq_true, if_false, Option.bind_some]
        rcases readS_loop hp2.2 h64 t.size 0 (vrep 64 0) (by omega) (Rd.zero t) (fun k hk => absurd hk (by omega)) with ⟨w, w1, w2, w3⟩ | ⟨w1, k, hk, hg⟩
        · have hw := rd_same w2 v2
          subst hw
          have w1' : loopM (fun s : Int × V64 => spec_l01Read_l1 t P.p s.1 s.2) (0, vrep 64 0) = some (.inl w) := w1
          have hsm : small P.p w = true := (small_okAt hp2 h64 w2).2 w3
          obtain ⟨A, rfl, lA⟩ := lift_is hvb hsm
          simp only [w1', hsm, Bool.not_true, Bool.false_eq_true, if_false, rowI A lA, textI lA (small10 A), textS A.2 lA (small10 A), Option.bind_some]
          cases hx : ((tx A.1).toList == t.toList) with
          | true => exact ⟨_, _, rfl, rfl⟩
          | false => exact ⟨_, _, rfl, rfl⟩
        · have w1' : loopM (fun s : Int × V64 => spec_l01Read_l1 t P.p s.1 s.2) (0, vrep 64 0) = some (.inr (vrep 64 0, false)) := w1
          have hsm : small P.p v = false := by
            rw [← Bool.not_eq_true]
            exact fun h => hg ((small_okAt hp2 h64 v2).1 h k hk)
          simp only [w1', hsm, Bool.not_false, if_true, Option.bind_some]
          exact ⟨_, _, rfl, rfl⟩
    · have hs64 : decide ((t.size : Int) > 64) = true := decide_eq_true (by omega)
      have h0' : ((t.size : Int) == 0) = false := by rw [beq_eq_false_iff_ne]; omega
      simp only [hs64, h0', if_true, Bool.false_eq_true, if_false, Option.bind_some]
      exact ⟨_, _, rfl, rfl⟩
end Go.Proofs.Ytkbnegemdlnncaa
/- The draws of powers, compositions, texts. -/
namespace Go.Proofs.Ytkbnegemdlnncaa
open Go.Abs
section
variable {c : List Int} (hl : c.length ≤ 4096) (hb : ∀ x ∈ c, 0 ≤ x ∧ x < 256)
include hl hb
theorem drawPM_is : ∃ (p : Int) (a : V64) (k : Int) (m : V64), spec_DrawPowerModulo c = some (p, a, k, m) ∧ IsB a ∧ IsB m := by
  obtain ⟨s, h1, h2⟩ := from_is hl hb
  obtain ⟨p, a, b, h3, ha, hb'⟩ := both_is hl hb
  obtain ⟨x, s1, h5, h6, _⟩ := next_is h2 (n := 100) (by omega)
  obtain ⟨y, s2, h7, h8, _⟩ := next_is h6 (n := 1000000) (by omega)
  obtain ⟨k, s3, h9, _⟩ := pick_is h8 (l := [0, 1, 2, x, y, 1000000000000, 1000000000001, -1]) (by simp) (by simp)
  exact ⟨p, a, k, b, by simp only [spec_DrawPowerModulo, h1, h3, h5, h7, h9, Option.bind_some], ha, hb'⟩
theorem drawCompo_is : ∃ (p : Int) (a b : V64), spec_DrawComposePolys c = some (p, a, b) ∧ IsB a ∧ IsB b := by
  obtain ⟨p, a, b, h3, ha, hb'⟩ := both_is hl hb
  obtain ⟨s, h1, h2⟩ := from_more (c := ([3] : List Int) ++ c) (by simp; omega) (fun x hx => by
    rcases List.mem_append.1 hx with h | h
    · rw [List.mem_singleton.1 h]; omega
    · exact hb x h)
  obtain ⟨x, s1, h5, h6, _⟩ := next_is h2 (n := 2) (by omega)
  simp only [spec_DrawComposePolys, h3, Option.bind_some]
  rw [ifp_pos (by simp; omega), h1]
  simp only [Option.bind_some, h5]
  by_cases hx : x = 0
  · rw [if_pos (by rw [hx]; rfl), isPrime_spec]
    simp only [Option.bind_some]
    cases hp : isP p with
    | false =>
      simp only [Bool.false_eq_true, if_false]
      exact ⟨p, a, b, rfl, ha, hb'⟩
    | true =>
      have hp2 := isP_pos hp
      obtain ⟨u, s2, k1, k2, k3⟩ := drawR_is h6 (p := p) (most := 8) (by omega) (by omega) (by omega)
      obtain ⟨v, s3, k4, _, k6⟩ := drawR_is k2 (p := p) (most := 8) (by omega) (by omega) (by omega)
      simp only [if_true, k1, k4, Option.bind_some]
      exact ⟨p, u, v, rfl, isb_res (by omega) k3, isb_res (by omega) k6⟩
  · rw [if_neg (by rw [beq_iff_eq]; exact hx)]
    simp only [Option.bind_some, Bool.false_eq_true, if_false]
    exact ⟨p, a, b, rfl, ha, hb'⟩
theorem drawMonic_is : ∃ (p n : Int), spec_DrawMonicPolys c = some (p, n) := by
  obtain ⟨s, h1, h2⟩ := from_is hl hb
  obtain ⟨p, s1, h3, h4, _⟩ := pick_is h2 (l := [2, 3, 5, 7, 4]) (by simp) (by simp)
  obtain ⟨x, s2, h5, h6⟩ := near_is h4 (n := 63) (by omega) (by omega)
  obtain ⟨n, s3, h7, _⟩ := pick_is h6 (l := [0, 1, 2, 3, 4, 5, 8, 9, x]) (by simp) (by simp)
  exact ⟨p, n, by simp only [spec_DrawMonicPolys, h1, h3, h5, h7, Option.bind_some]⟩
theorem drawPN_is : ∃ (p n : Int), spec_DrawPolyOfNumber c = some (p, n) := by
  obtain ⟨s, h1, h2⟩ := from_is hl hb
  obtain ⟨p, s1, h3, h4, _⟩ := pick_is h2 (l := [2, 3, 5, 7, 4]) (by simp) (by simp)
  obtain ⟨x, s2, h5, h6, _⟩ := next_is h4 (n := 100) (by omega)
  obtain ⟨y, s3, h7, h8, _⟩ := next_is h6 (n := 1000000) (by omega)
  obtain ⟨n, s4, h9, _⟩ := pick_is h8 (l := [x, y, 1000000000000, 1000000000001, -1]) (by simp) (by simp)
  exact ⟨p, n, by simp only [spec_DrawPolyOfNumber, h1, h3, h5, h7, h9, Option.bind_some]⟩
theorem drawPT_is : ∃ (p : Int) (a : V64), spec_DrawPolyText c = some (p, a) ∧ IsB a := by
  obtain ⟨s, h1, h2⟩ := from_is hl hb
  obtain ⟨p, v, s1, h3, _, hv, _⟩ := spoil_is h2
  exact ⟨p, v, by simp only [spec_DrawPolyText, h1, h3, Option.bind_some], hv⟩
theorem drawDeg_is : ∃ (p : Int) (a : V64), spec_DrawDegreeOf c = some (p, a) ∧ IsB a := by
  obtain ⟨s, h1, h2⟩ := from_is hl hb
  obtain ⟨p, v, s1, h3, _, hv, _⟩ := spoil_is h2
  exact ⟨p, v, by simp only [spec_DrawDegreeOf, h1, h3, Option.bind_some], hv⟩
theorem drawPow_is : ∃ (p : Int) (a : V64) (k : Int), spec_DrawPowerOf c = some (p, a, k) ∧ IsB a := by
  obtain ⟨s, h1, h2⟩ := from_is hl hb
  obtain ⟨p, v, s1, h3, h4, hv, hp⟩ := spoil_is h2
  obtain ⟨x, s2, h5, h6, _⟩ := next_is h4 (n := 3) (by omega)
  have mid : ∃ (s3 : Src) (w : V64), (Option.bind (α := (Bool × Src)) ((Option.bind (spec_l01Next_of_src s1 3) fun r45 => (if (r45.1 == 0) then (Option.bind (spec_l01Prime p) fun r49 => (some (r49, r45.2))) else (some (false, r45.2))))) fun ⟨x40, x41⟩ => (if x40 then (Option.bind (spec_l01Draw_of_src x41 p 1) fun r52 => (some (r52.2, r52.1))) else (some (x41, v)))) = some (s3, w) ∧ SrcOk s3 ∧ IsB w := by
    rw [h5]
    simp only [Option.bind_some]
    by_cases hx : x = 0
    · rw [if_pos (by rw [hx]; rfl), isPrime_spec]
      simp only [Option.bind_some]
      cases hpp : isP p with
      | false =>
        simp only [Bool.false_eq_true, if_false]
        exact ⟨s2, v, rfl, h6, hv⟩
      | true =>
        obtain ⟨u, s3, k1, k2, k3⟩ := draw_is h6 hp (most := 1) (by omega) (by omega)
        simp only [if_true, k1, Option.bind_some]
        exact ⟨s3, u, rfl, k2, k3⟩
    · rw [if_neg (by rw [beq_iff_eq]; exact hx)]
      simp only [Option.bind_some, Bool.false_eq_true, if_false]
      exact ⟨s2, v, rfl, h6, hv⟩
  obtain ⟨s3, w, h7, h8, hw⟩ := mid
  obtain ⟨y, s4, h9, h10, _⟩ := next_is h8 (n := 20) (by omega)
  obtain ⟨z, s5, h11, h12, _⟩ := next_is h10 (n := 70) (by omega)
  obtain ⟨k, s6, h13, _⟩ := pick_is h12 (l := [0, 1, 2, 3, y, z, 1000000000000, 1000000000001, -1]) (by simp) (by simp)
  exact ⟨p, w, k, by simp only [spec_DrawPowerOf, h1, h3, h7, h9, h11, h13, Option.bind_some], hw⟩
theorem drawParse_is : ∃ (p : Int) (t : ByteArray), spec_DrawParsePoly c = some (p, t) := by
  obtain ⟨s, h1, h2⟩ := from_is hl hb
  obtain ⟨p, v, s1, h3, h4, hv, hp⟩ := spoil_is h2
  have mid : ∃ t : ByteArray, (Option.bind (spec_l01Is p v) fun r19 => (if r19 then (Option.bind (spec_l01Text v) fun r23 => (some r23)) else (some (⟨#[]⟩ : ByteArray)))) = some t ∧ t.size ≤ 64 := by
    rw [is_is hv]
    simp only [Option.bind_some]
    by_cases hok : (small p v && isP p) = true
    · have h' : small p v = true ∧ isP p = true := by simpa using hok
      obtain ⟨P, rfl⟩ := pri_of_p h'.2
      obtain ⟨A, rfl, la⟩ := lift_is hv h'.1
      rw [if_pos hok, textS A.2 la (small10 A)]
      refine ⟨tx A.1, rfl, ?_⟩
      rw [tx_len]
      have : A.1.length = A.len := rfl
      omega
    · rw [if_neg hok]
      exact ⟨⟨#[]⟩, rfl, Nat.zero_le _⟩
  obtain ⟨t, h5, ht⟩ := mid
  obtain ⟨t', h6⟩ := parse_all 8192 t s1 h4 (by have := h4.len; have := h4.at'; omega) (by omega)
  exact ⟨p, t', by simp only [spec_DrawParsePoly, h1, h3, h5, h6, Option.bind_some]⟩
end
end Go.Proofs.Ytkbnegemdlnncaa
/- Rests of products and powers. -/
namespace Go.Proofs.Ytkbnegemdlnncaa
open Go.Abs

variable {P : Pri}
theorem restI {a b : PP P} (hb : b ≠ 0) (la : a.len ≤ 500000) (lb : b.len ≤ 500000) : impl_prime_rest P.p a.1 b.1 = some (prem a b).1 := by
  simp only [impl_prime_rest, pdivI hb la lb, Option.bind_some]

/-! Rests. -/
theorem prem_len (a : PP P) {m : PP P} (hm : m ≠ 0) : (prem a m).len < m.len := (pdiv a hm).2
theorem prem_of {a m r : PP P} (q : PP P) (hm : m ≠ 0) (h : a = q * m + r) (hr : r.len < m.len) : prem a m = r := (quo_is hm h hr).2
theorem prem_add_mul (a c : PP P) {m : PP P} (hm : m ≠ 0) : prem (a + c * m) m = prem a m := by
  refine prem_of (pquo a m + c) hm ?_ (prem_len a hm)
  have h := (pdiv a hm).1
  rw [ppring.add_mul]
  conv => lhs; rw [h]
  rw [ppring.add_assoc, ppring.add_assoc, ppring.add_comm (prem a m)]
theorem prem_small {a m : PP P} (h : a.len < m.len) : prem a m = a := by
  have hm : m ≠ 0 := fun e => by rw [len_zero.2 e] at h; omega
  exact prem_of 0 hm (by rw [ppring.zero_mul, ppring.zero_add]) h
theorem prem_mul_l (a b : PP P) {m : PP P} (hm : m ≠ 0) : prem (prem a m * b) m = prem (a * b) m := by
  have h := (pdiv a hm).1
  have e : a * b = prem a m * b + (pquo a m * b) * m := by
    conv => lhs; rw [h]
    rw [ppring.add_mul, ppring.add_comm, ppring.mul_assoc, ppring.mul_assoc, ppring.mul_comm m b]
  rw [e, prem_add_mul _ _ hm]
theorem prem_mul_r (a b : PP P) {m : PP P} (hm : m ≠ 0) : prem (a * prem b m) m = prem (a * b) m := by
  rw [ppring.mul_comm, prem_mul_l _ _ hm, ppring.mul_comm]
theorem prem_mul (a b : PP P) {m : PP P} (hm : m ≠ 0) : prem (prem a m * prem b m) m = prem (a * b) m := by
  rw [prem_mul_l _ _ hm, prem_mul_r _ _ hm]
theorem prem_add (a b : PP P) {m : PP P} (hm : m ≠ 0) : prem (a + b) m = prem a m + prem b m := by
  have h1 := (pdiv a hm).1
  have h2 := (pdiv b hm).1
  refine prem_of (pquo a m + pquo b m) hm ?_ ?_
  · conv => lhs; rw [h1, h2]
    rw [ppring.add_mul]
    simp only [ppring.add_assoc]
    rw [ppring.add_left_comm (prem a m)]
  · have := len_add (prem a m) (prem b m)
    have := prem_len a hm
    have := prem_len b hm
    omega
theorem pw_two (a : PP P) (k : Nat) : pw (a * a) k = pw a (2 * k) := by
  rw [ppring.pw_mul]
  congr 1
  simp only [pw, ppring.one_mul]
end Go.Proofs.Ytkbnegemdlnncaa
/- Rests of powers, in the program. -/
namespace Go.Proofs.Ytkbnegemdlnncaa
open Go.Abs

variable {P : Pri}
theorem and_one {k : Nat} (h : k < 4611686018427387904) : IntKind.i64.wrap (BitVec.ofInt IntKind.i64.bits k &&& BitVec.ofInt IntKind.i64.bits 1).toNat = ((k % 2 : Nat) : Int) := by
  have e : (BitVec.ofInt IntKind.i64.bits (k : Int) &&& BitVec.ofInt IntKind.i64.bits 1).toNat = k % 2 := by
    rw [BitVec.toNat_and, BitVec.toNat_ofInt, BitVec.toNat_ofInt]
    have h1 : ((k : Int) % (2 ^ IntKind.i64.bits : Nat)).toNat = k := by
      rw [Int.emod_eq_of_lt (by omega) (by show (k : Int) < ((2 ^ 64 : Nat) : Int); omega)]
      omega
    have h2 : ((1 : Int) % (2 ^ IntKind.i64.bits : Nat)).toNat = 1 := by decide
    rw [h1, h2, Nat.and_one_is_mod]
  rw [e, wrap64 (by omega) (by omega)]
theorem half_is (k : Nat) : Int.fdiv (k : Int) (2 ^ (min (1 : Int).toNat IntKind.i64.bits)) = ((k / 2 : Nat) : Int) := by
  have e : (2 : Int) ^ (min (1 : Int).toNat IntKind.i64.bits) = 2 := by decide
  rw [e, Int.fdiv_eq_ediv_of_nonneg _ (by omega)]
  omega
theorem powI_loop {m : PP P} (hm : m ≠ 0) (lm : m.len ≤ 1000) : ∀ (n k : Nat) (O B : PP P), k ≤ n → k < 4611686018427387904 →
    loopM (fun s : Int × List Int × List Int => impl_prime_power_l1 P.p m.1 s.1 s.2.1 s.2.2) ((k : Int), (prem O m).1, (prem B m).1) = some (prem (O * pw B k) m).1 := by
  intro n
  induction n with
  | zero =>
    intro k O B hk _
    have : k = 0 := by omega
    subst this
    have step : impl_prime_power_l1 P.p m.1 ((0 : Nat) : Int) (prem O m).1 (prem B m).1 = some (.inr (prem O m).1) := by
      simp only [impl_prime_power_l1]
      rw [if_neg (by simp)]
    rw [loopM_eq]
    simp only [step, Option.bind_some, pw, ppring.mul_one]
  | succ n ih =>
    intro k O B hk hb
    rcases Nat.eq_zero_or_pos k with rfl | h0
    · have step : impl_prime_power_l1 P.p m.1 ((0 : Nat) : Int) (prem O m).1 (prem B m).1 = some (.inr (prem O m).1) := by
        simp only [impl_prime_power_l1]
        rw [if_neg (by simp)]
      rw [loopM_eq]
      simp only [step, Option.bind_some, pw, ppring.mul_one]
    · have lO := prem_len O hm
      have lB := prem_len B hm
      have lOB : (prem O m * prem B m).len ≤ 500000 := by
        have : (prem O m * prem B m).len ≤ (prem O m).len + (prem B m).len - 1 := mul_len _ _ _
        omega
      have lBB : (prem B m * prem B m).len ≤ 500000 := by
        have : (prem B m * prem B m).len ≤ (prem B m).len + (prem B m).len - 1 := mul_len _ _ _
        omega
      have e1 : impl_prime_times P.p (prem B m).1 (prem B m).1 = some (prem B m * prem B m).1 := timesI (by omega) (by omega)
      have e2 : impl_prime_times P.p (prem O m).1 (prem B m).1 = some (prem O m * prem B m).1 := timesI (by omega) (by omega)
      have e3 : impl_prime_rest P.p (prem B m * prem B m).1 m.1 = some (prem (B * B) m).1 := by rw [restI hm lBB (by omega), prem_mul _ _ hm]
      have e4 : impl_prime_rest P.p (prem O m * prem B m).1 m.1 = some (prem (O * B) m).1 := by rw [restI hm lOB (by omega), prem_mul _ _ hm]
      have step : impl_prime_power_l1 P.p m.1 (k : Int) (prem O m).1 (prem B m).1 = some (.inl (((k / 2 : Nat) : Int), (prem (if k % 2 = 1 then O * B else O) m).1, (prem (B * B) m).1)) := by
        simp only [impl_prime_power_l1, letp, and_one hb, half_is, e1, e2, e3, e4, Option.bind_some]
        rw [if_pos (decide_eq_true (by omega))]
        by_cases ho : k % 2 = 1
        · rw [if_pos ho, if_pos (by rw [beq_iff_eq]; omega)]; rfl
        · rw [if_neg ho, if_neg (by rw [beq_iff_eq]; omega)]; rfl
      rw [loopM_eq]
      simp only [step, Option.bind_some]
      rw [ih (k / 2) _ _ (by omega) (by omega), pw_two]
      congr 3
      by_cases ho : k % 2 = 1
      · rw [if_pos ho, ppring.mul_assoc]
        have e : k = 2 * (k / 2) + 1 := by omega
        conv => rhs; rw [e]
        simp only [pw]
        rw [ppring.mul_comm B]
      · rw [if_neg ho]
        have e : k = 2 * (k / 2) := by omega
        conv => rhs; rw [e]
theorem powI_is (a : PP P) {m : PP P} (hm : m ≠ 0) (lm : m.len ≤ 1000) (la : a.len ≤ 500000) {k : Nat} (hk : k < 4611686018427387904) : impl_prime_power P.p a.1 k m.1 = some (prem (pw a k) m).1 := by
  have h := powI_loop hm lm k k 1 a (Nat.le_refl _) hk
  have e1 : impl_prime_rest P.p [1] m.1 = some (prem 1 m).1 := restI (a := 1) hm (by rw [len_one]; omega) (by omega)
  simp only [impl_prime_power, e1, restI hm la (show m.len ≤ 500000 by omega), Option.bind_some]
  have h' : loopM (fun s : Int × List Int × List Int => impl_prime_power_l1 P.p m.1 s.1 s.2.1 s.2.2) ((k : Int), (prem 1 m).1, (prem a m).1) = some (prem (1 * pw a k) m).1 := h
  rw [h', ppring.one_mul]
  rfl
end Go.Proofs.Ytkbnegemdlnncaa
/- PowerOf of the program. -/
namespace Go.Proofs.Ytkbnegemdlnncaa
open Go.Abs
variable {P : Pri}
theorem pwO_ne {a : PP P} (ha : a ≠ 0) : ∀ k, pw a k ≠ 0
  | 0 => one_ne
  | k + 1 => fun e => by
    rcases pp_dom _ _ e with h | h
    · exact pwO_ne ha k h
    · exact ha h
theorem pwO_len {a : PP P} (ha : a ≠ 0) : ∀ k, (pw a k).len = (a.len - 1) * k + 1
  | 0 => by show (1 : PP P).len = _; rw [len_one, Nat.mul_zero]
  | k + 1 => by
    have h1 := pwO_len ha k
    have h2 : (pw a (k + 1)).len = _ := len_mul (pwO_ne ha k) ha
    have h3 := len_pos ha
    rw [h2, h1, Nat.mul_succ]; omega
theorem pwO_one {a : PP P} (ha : a.len ≤ 1) : ∀ k, (pw a k).len ≤ 1
  | 0 => by show (1 : PP P).len ≤ _; rw [len_one]; omega
  | k + 1 => by
    have h1 := pwO_one ha k
    have h2 : (pw a (k + 1)).len ≤ (pw a k).len + a.len - 1 := mul_len _ _ _
    omega
theorem powO_loop {a : PP P} (ha : a ≠ 0) (la : a.len ≤ 64) {k : Nat} (hk : k ≤ 63) : ∀ (m i : Nat), i + m = k → (pw a i).len ≤ 64 →
    loopM (fun s : List Int × Int => impl_PowerOf_l1 (k : Int) P.p a.1 s.1 s.2) ((pw a i).1, (i : Int)) = some (if (pw a k).len ≤ 64 then .inl (pw a k).1 else .inr (vrep 64 0, 3))
  | 0, i, hi, hl => by
    have : i = k := by omega
    subst this
    have step : impl_PowerOf_l1 (i : Int) P.p a.1 (pw a i).1 (i : Int) = some (.inr (.inl (pw a i).1)) := by
      simp only [impl_PowerOf_l1]
      rw [if_neg (by rw [decide_eq_true_eq]; omega)]
    rw [loopM_eq]
    simp only [step, Option.bind_some, if_pos hl]
  | m + 1, i, hi, hl => by
    have e1 : impl_prime_times P.p (pw a i).1 a.1 = some (pw a (i + 1)).1 := timesI (by omega) (by omega)
    have h2 : (pw a (i + 1)).len ≤ (pw a i).len + a.len - 1 := mul_len _ _ _
    have e2 := fitsI (pw a (i + 1)) (by omega)
    have e3 : IntKind.i64.wrap ((i : Int) + 1) = ((i + 1 : Nat) : Int) := by rw [wrap64 (by omega) (by omega)]; rfl
    by_cases h : (pw a (i + 1)).len ≤ 64
    · have step : impl_PowerOf_l1 (k : Int) P.p a.1 (pw a i).1 (i : Int) = some (.inl ((pw a (i + 1)).1, ((i + 1 : Nat) : Int))) := by
        simp only [impl_PowerOf_l1, e1, e2, decide_eq_true h, e3, Option.bind_some]
        rw [if_pos (decide_eq_true (by omega))]; rfl
      rw [loopM_eq]
      simp only [step, Option.bind_some]
      exact powO_loop ha la hk m (i + 1) (by omega) h
    · have step : impl_PowerOf_l1 (k : Int) P.p a.1 (pw a i).1 (i : Int) = some (.inr (.inr (vrep 64 0, 3))) := by
        simp only [impl_PowerOf_l1, e1, e2, decide_eq_false h, Option.bind_some]
        rw [if_pos (decide_eq_true (by omega))]; rfl
      have h3 : ¬ (pw a k).len ≤ 64 := by
        have h4 : (a.len - 1) * (i + 1) ≤ (a.len - 1) * k := Nat.mul_le_mul_left _ (by omega)
        rw [pwO_len ha] at h ⊢
        omega
      rw [loopM_eq]
      simp only [step, Option.bind_some, if_neg h3]
theorem powO {a : PP P} (la : a.len ≤ 64) {k : Nat} (hk : k ≤ 63) : impl_PowerOf P.p (pad a.1) k = some (if (pw a k).len ≤ 64 then (pad (pw a k).1, 0) else (vrep 64 0, 3)) := by
  have hd : impl_row_degree a.1 = some ((a.len : Int) - 1) := by
    have h : a.1.length = a.len := rfl
    simp only [impl_row_degree]
    rw [wrap64 (by omega) (by omega), h]
  have hn : impl_isNumber (k : Int) = some true := by
    simp only [impl_isNumber, impl_within]
    rw [if_pos (decide_eq_true (by omega)), decide_eq_true (by omega)]
    rfl
  have h3 : decide ((k : Int) > 63) = false := decide_eq_false (by omega)
  simp only [impl_PowerOf, pcode1, rowI a la, hn, hd, Option.bind_some]
  by_cases h1 : a.len ≤ 1
  · have h4 := pwO_one h1 k
    have e : impl_prime_power P.p a.1 k [0, 1] = some (pw a k).1 := by
      have hT : (ppT : PP P) ≠ 0 := fun e => by have := len_zero.2 e; cases this
      have h := powI_is a (m := ppT) hT (by show 2 ≤ 1000; omega) (by omega) (k := k) (by omega)
      rw [prem_small (show (pw a k).len < (ppT : PP P).len by show _ < 2; omega)] at h
      exact h
    have c1 : decide ((a.len : Int) - 1 > 0) = false := decide_eq_false (by omega)
    have c2 : decide ((a.len : Int) - 1 ≤ 0) = true := decide_eq_true (by omega)
    simp only [c1, c2, e, toldI (pw a k) (by omega), Option.bind_some]
    rfl
  · have ha : a ≠ 0 := fun e => by rw [len_zero.2 e] at h1; omega
    have c1 : decide ((a.len : Int) - 1 > 0) = true := decide_eq_true (by omega)
    have c2 : decide ((a.len : Int) - 1 ≤ 0) = false := decide_eq_false (by omega)
    have hl : loopM (fun s : List Int × Int => impl_PowerOf_l1 (k : Int) P.p a.1 s.1 s.2) ([1], 0) = _ := powO_loop ha la hk k 0 (by omega) (by show (1 : PP P).len ≤ 64; rw [len_one]; omega)
    simp only [c1, c2, h3, hl, Option.bind_some]
    by_cases hq : (pw a k).len ≤ 64
    · simp only [if_pos hq, toldI (pw a k) (by omega)]
      rfl
    · simp only [if_neg hq]
      rfl
end Go.Proofs.Ytkbnegemdlnncaa
/- T times a polynomial, coefficient by coefficient. -/
namespace Go.Proofs.Ytkbnegemdlnncaa
open Go.Abs
variable {P : Pri}
theorem T_c (a : PP P) (i : Nat) : (ppT * a).c i = if 1 ≤ i then a.c (i - 1) else 0 := by
  rw [mul_c]
  have e : conv (PP.c (ppT : PP P)) a.c i = if 1 ≤ i then a.c (i - 1) else 0 := conv_T _ i
  rw [e]
  split
  · exact a.c_mod _
  · rfl
end Go.Proofs.Ytkbnegemdlnncaa
/- Inverses modulo p, in the reference. -/
namespace Go.Proofs.Ytkbnegemdlnncaa
open Go.Abs

theorem inverse_spec {p x : Int} (hp : isP p = true) (hx : 0 < x ∧ x < p) : spec_l01Inverse p x = some (inv p x) := by
  have hp2 := isP_pos hp
  obtain ⟨hi1, hi2, hi3⟩ := inv_is hp hx
  have key : ∀ (m : Nat) (k : Int), 1 ≤ k → k + m = inv p x → loopM (fun s : Int => spec_l01Inverse_l1 p x s) k = some (.inr (inv p x)) := by
    intro m
    induction m with
    | zero =>
      intro k h1 h2
      have h3 := mul_small (x := k) (y := x) (by omega) (by omega)
      have e : k = inv p x := by omega
      have step : spec_l01Inverse_l1 p x k = some (.inr (.inr (inv p x))) := by
        simp only [spec_l01Inverse_l1, letp]
        rw [if_pos (decide_eq_true (by omega)), ifp_pos (by omega), wrap64 (n := x) (by omega) (by omega), wrap64 (n := k * x) (by omega) (by omega), Int.tmod_eq_emod_of_nonneg h3.1, if_pos, wrap8 (by omega) (by omega), e]
        rw [e, Int.mul_comm, hi3]; rfl
      rw [loopM_eq]
      simp only [step, Option.bind_some]
    | succ m ih =>
      intro k h1 h2
      have h3 := mul_small (x := k) (y := x) (by omega) (by omega)
      have hne := inv_first hp hx h1 (show k < inv p x by omega)
      have step : spec_l01Inverse_l1 p x k = some (.inl (k + 1)) := by
        simp only [spec_l01Inverse_l1, letp]
        rw [if_pos (decide_eq_true (by omega)), ifp_pos (by omega), wrap64 (n := x) (by omega) (by omega), wrap64 (n := k * x) (by omega) (by omega), Int.tmod_eq_emod_of_nonneg h3.1, if_neg (by rw [beq_iff_eq]; exact hne), wrap64 (by omega) (by omega)]
      rw [loopM_eq]
      simp only [step, Option.bind_some]
      exact ih (k + 1) (by omega) (by omega)
  have h := key (inv p x - 1).toNat 1 (by omega) (by omega)
  simp only [spec_l01Inverse, h, Option.bind_some]
end Go.Proofs.Ytkbnegemdlnncaa
/- Division, in the reference. -/
namespace Go.Proofs.Ytkbnegemdlnncaa
open Go.Abs

theorem divS_inner {p f y : Int} (hp : 2 ≤ p ∧ p ≤ 7) {b : V64} (hb : Res p b) (hf : 0 ≤ f ∧ f < p) (hy : Int.tmod y p = f) {i m : Nat} (hi : i + m < 64) {s t : V64} (hs : Res p s) :
    ∃ s', loopM (fun q : Int × V64 => spec_l01Divide_l2 (m : Int) y p ((i + m : Nat) : Int) b t q.1 q.2) (0, s) = some (s', vset t i f) ∧ Res p s' ∧ ∀ j, j < 64 → rd s'.1 j = dstep p (rd b.1) m f i (rd s.1) j := by
  have e0 : IntKind.i64.wrap (((i + m : Nat) : Int) - (m : Int)) = (i : Int) := by rw [wrap64 (by omega) (by omega)]; omega
  by_cases h0 : f = 0
  · refine ⟨s, ?_, hs, fun j hj => ?_⟩
    · have step : spec_l01Divide_l2 (m : Int) y p ((i + m : Nat) : Int) b t 0 s = some (.inr (s, vset t i f)) := by
        simp only [spec_l01Divide_l2, hy]
        rw [if_pos (decide_eq_true (by omega))]
        simp only [Option.bind_some]
        rw [if_neg (by rw [h0]; simp), e0, Int.toNat_natCast, wrap8 (by omega) (by omega)]
      rw [loopM_eq]
      simp only [step, Option.bind_some]
    · unfold dstep
      split
      · have := hs j hj
        rw [h0, Int.zero_mul, Int.sub_zero, Int.emod_eq_of_lt this.1 this.2]
      · rfl
  · obtain ⟨s', h1, h2, h3⟩ := loopM_for (body := fun q : Int × V64 => spec_l01Divide_l2 (m : Int) y p ((i + m : Nat) : Int) b t q.1 q.2) (fun k (u : V64) => ((k : Int), u)) (fun u => (u, vset t i f)) (m + 1)
      (fun k u => Res p u ∧ ∀ j, j < 64 → rd u.1 j = if i ≤ j ∧ j < i + k then (rd s.1 j - f * rd b.1 (j - i)) % p else rd s.1 j) (fun k u hk hI => by
        obtain ⟨hur, hu⟩ := hI
        have hbk := hb k (by omega)
        have hsk := hs (i + k) (by omega)
        have hm := mul_small (x := f) (y := rd b.1 k) (by omega) (by omega)
        have e1 : IntKind.i64.wrap ((i : Int) + (k : Int)) = ((i + k : Nat) : Int) := by rw [wrap64 (by omega) (by omega)]; omega
        have huk := hu (i + k) (by omega)
        rw [if_neg (by omega)] at huk
        have ht1 := Int.lt_tmod_of_pos (rd s.1 (i + k) - f * rd b.1 k) (show 0 < p by omega)
        have ht2 := Int.tmod_lt_of_pos (rd s.1 (i + k) - f * rd b.1 k) (show 0 < p by omega)
        have hr := emod_res (show 0 < p by omega) (rd s.1 (i + k) - f * rd b.1 k)
        refine ⟨vset u (i + k) ((rd s.1 (i + k) - f * rd b.1 k) % p), ?_, fun j hj => ?_, fun j hj => ?_⟩
        · simp only [spec_l01Divide_l2, letp, hy, e0]
          rw [if_pos (decide_eq_true (by omega))]
          simp only [Option.bind_some]
          rw [if_pos (by simpa using h0), e1, ifp_pos (by omega), ifp_pos (by omega), ifp_pos (by omega), ifp_pos (by omega), ifp_pos (by omega), Int.toNat_natCast, Int.toNat_natCast, huk]
          rw [wrap64 (n := rd b.1 k) (by omega) (by omega), wrap64 (n := f * rd b.1 k) (by omega) (by omega), wrap64 (n := rd s.1 (i + k)) (by omega) (by omega), wrap64 (n := rd s.1 (i + k) - f * rd b.1 k) (by omega) (by omega), wrap64 (n := _ + p) (by omega) (by omega), tmod_fix (by omega), wrap8 (by omega) (by omega), wrap64 (by omega) (by omega)]
          rfl
        · rw [rd_vset _ _ _ _ (by omega)]
          split
          · exact hr
          · exact hur j hj
        · rw [rd_vset _ _ _ _ (by omega), hu j hj]
          by_cases e : j = i + k
          · subst e
            rw [if_pos rfl, if_pos (by omega), show i + k - i = k by omega]
          · rw [if_neg e]
            by_cases hc : i ≤ j ∧ j < i + k
            · rw [if_pos hc, if_pos (by omega)]
            · rw [if_neg hc, if_neg (by omega)]) (fun u hI => by
        simp only [spec_l01Divide_l2, hy, e0]
        rw [if_neg (by rw [decide_eq_true_eq]; omega)]
        simp only [Option.bind_some, Bool.false_eq_true, if_false]
        rw [Int.toNat_natCast, wrap8 (by omega) (by omega)]) (m + 1) 0 s (by omega) ⟨hs, fun j hj => by rw [if_neg (by omega)]⟩
    refine ⟨s', h1, h2, fun j hj => ?_⟩
    rw [h3 j hj]
    unfold dstep
    simp only [show (i ≤ j ∧ j < i + (m + 1)) = (i ≤ j ∧ j ≤ i + m) from by rw [eq_iff_iff]; omega]
theorem divS_outer {p : Int} (hp : isP p = true) {b : V64} (hb : Res p b) {m : Nat} {iv : Int} (hiv : 0 ≤ iv ∧ iv < p) : ∀ (i : Nat) (s t : V64), i + m ≤ 64 → Res p s →
    ∃ s' t', loopM (fun q : Int × V64 × V64 => spec_l01Divide_l1 (m : Int) iv p b q.1 q.2.1 q.2.2) ((i : Int) + m - 1, s, t) = some (s', t') ∧
      (∀ j, j < 64 → rd s'.1 j = drem p (rd b.1) m iv i (rd s.1) j) ∧ ∀ j, j < 64 → rd t'.1 j = if j < i then dquo p (rd b.1) m iv i (rd s.1) j else rd t.1 j
  | 0, s, t, hi, _ => by
    refine ⟨s, t, ?_, fun _ _ => rfl, fun j _ => by rw [if_neg (by omega)]⟩
    have step : spec_l01Divide_l1 (m : Int) iv p b (((0 : Nat) : Int) + m - 1) s t = some (.inr (s, t)) := by
      simp only [spec_l01Divide_l1]
      rw [if_neg (by rw [decide_eq_true_eq]; omega)]
    rw [loopM_eq]
    simp only [step, Option.bind_some]
  | i + 1, s, t, hi, hs => by
    have hp2 := isP_pos hp
    have hsx := hs (i + m) (by omega)
    have hm := mul_small (x := rd s.1 (i + m)) (y := iv) (by omega) (by omega)
    have hf := emod_res (show 0 < p by omega) (rd s.1 (i + m) * iv)
    have e0 : ((i + 1 : Nat) : Int) + m - 1 = ((i + m : Nat) : Int) := by omega
    have e1 : IntKind.i64.wrap (((i + m : Nat) : Int) - (m : Int)) = (i : Int) := by rw [wrap64 (by omega) (by omega)]; omega
    have hy : Int.tmod (rd s.1 (i + m) * iv) p = dfac p iv m i (rd s.1) := Int.tmod_eq_emod_of_nonneg hm.1
    obtain ⟨s1, g1, g2, g3⟩ := divS_inner hp2 hb (f := dfac p iv m i (rd s.1)) hf hy (i := i) (m := m) (by omega) (t := t) hs
    obtain ⟨s', t', k1, k2, k3⟩ := divS_outer hp hb (m := m) hiv i s1 (vset t i (dfac p iv m i (rd s.1))) (by omega) g2
    -- the functions agree on the places that there are
    have hz : ∀ j, 64 ≤ j → rd s1.1 j = dstep p (rd b.1) m (dfac p iv m i (rd s.1)) i (rd s.1) j := fun j hj => by
      rw [rd_ge (by rw [s1.2]; exact hj)]
      unfold dstep
      rw [if_neg (by omega), rd_ge (by rw [s.2]; exact hj)]
    have hs1 : rd s1.1 = dstep p (rd b.1) m (dfac p iv m i (rd s.1)) i (rd s.1) := funext fun j => by
      rcases Nat.lt_or_ge j 64 with h | h
      · exact g3 j h
      · exact hz j h
    refine ⟨s', t', ?_, fun j hj => ?_, fun j hj => ?_⟩
    · have step : spec_l01Divide_l1 (m : Int) iv p b (((i + 1 : Nat) : Int) + m - 1) s t = some (.inl ((i : Int) + m - 1, s1, vset t i (dfac p iv m i (rd s.1)))) := by
        rw [e0]
        simp only [spec_l01Divide_l1, letp, e1]
        rw [if_pos (decide_eq_true (by omega)), ifp_pos (by omega), Int.toNat_natCast, wrap64 (n := rd s.1 (i + m)) (by omega) (by omega), wrap64 (n := iv) (by omega) (by omega), wrap64 (n := rd s.1 (i + m) * iv) (by omega) (by omega), ifp_pos (by omega), ifp_pos (by omega), g1]
        simp only [Option.bind_some]
        rw [wrap64 (by omega) (by omega)]
        congr 3
      rw [loopM_eq]
      simp only [step, Option.bind_some]
      exact k1
    · rw [k2 j hj, hs1]; rfl
    · rw [k3 j hj, hs1]
      simp only [dquo]
      by_cases e : j = i
      · subst e
        rw [if_neg (by omega), if_pos (by omega), if_pos rfl, rd_vset _ _ _ _ hj, if_pos rfl]
      · by_cases h : j < i
        · rw [if_pos h, if_pos (by omega), if_neg e]
        · rw [if_neg h, if_neg (by omega), rd_vset _ _ _ _ (by omega), if_neg e]
theorem rd_pad_fun {l : List Int} (hl : l.length ≤ 64) : rd (pad l).1 = rd l := funext fun j => by
  rcases Nat.lt_or_ge j 64 with h | h
  · exact rd_padl l h
  · rw [rd_ge (by rw [(pad l).2]; exact h), rd_ge (by omega)]
theorem divideS_is {p : Int} (hp : isP p = true) {a b : List Int} (ha : Row p a) (hb : Row p b) (h0 : b.length ≠ 0) (la : a.length ≤ 64) (lb : b.length ≤ 64) : spec_l01Divide p (pad a) (pad b) = some (pad (quo p a b), pad (rem p a b)) := by
  have hp2 := isP_pos hp
  have hta : top (rd (pad a).1) 64 = a.length := by rw [top_congr 64 fun i hi => rd_padl a hi, ha.top la]
  have htb : top (rd (pad b).1) 64 = b.length := by rw [top_congr 64 fun i hi => rd_padl b hi, hb.top lb]
  have hlead := lead_pos (show 0 < p by omega) hb h0
  have hinv := inv_is hp hlead
  have e1 : ((b.length : Nat) : Int) - 1 = ((b.length - 1 : Nat) : Int) := by omega
  simp only [spec_l01Divide, deg_is, hta, htb, Option.bind_some, e1]
  have hl : rd (pad b).1 (b.length - 1) = lead b := by rw [rd_padl _ (by omega)]; rfl
  rw [ifp_pos (by omega), Int.toNat_natCast, hl, inverse_spec hp hlead]
  simp only [Option.bind_some]
  rcases Nat.lt_or_ge a.length b.length with h | h
  · have step : spec_l01Divide_l1 ((b.length - 1 : Nat) : Int) (inv p (lead b)) p (pad b) ((a.length : Int) - 1) (pad a) (vrep 64 0) = some (.inr (pad a, vrep 64 0)) := by
      simp only [spec_l01Divide_l1]
      rw [if_neg (by rw [decide_eq_true_eq]; omega)]
    rw [loopM_eq]
    simp only [step, Option.bind_some]
    have e2 : quo p a b = [] := by
      have := quo_len p a b
      exact List.eq_nil_of_length_eq_zero (by omega)
    have e3 : rem p a b = a := by
      unfold rem
      rw [show a.length + 1 - b.length = 0 by omega]
      exact ha.ofF (Nat.le_refl _)
    rw [e2, e3, pad_nil]
  · obtain ⟨s', t', k1, k2, k3⟩ := divS_outer hp (res_pad hb (by omega)) (m := b.length - 1) (iv := inv p (lead b)) ⟨by omega, hinv.2.1⟩ (a.length + 1 - b.length) (pad a) (vrep 64 0) (by omega) (res_pad ha (by omega))
    have e2 : ((a.length + 1 - b.length : Nat) : Int) + ((b.length - 1 : Nat) : Int) - 1 = (a.length : Int) - 1 := by omega
    rw [e2] at k1
    rw [k1]
    simp only [Option.bind_some]
    rw [rd_pad_fun la, rd_pad_fun lb] at k2 k3
    congr 2
    · refine vec_ext fun j hj => ?_
      rw [k3 j hj, rd_padl _ hj, quo_rd]
      split
      · rfl
      · rw [rd_vrep _ hj, dquo_ge _ _ _ (by omega)]
    · refine vec_ext fun j hj => ?_
      rw [k2 j hj, rd_padl _ hj, rem_rd a h0]
end Go.Proofs.Ytkbnegemdlnncaa
/- Sums, in the reference. -/
namespace Go.Proofs.Ytkbnegemdlnncaa
open Go.Abs

theorem add_is {p k : Int} {a b : V64} (hp : 0 < p ∧ p ≤ 256) (ha : V64.Ent a) (hb : V64.Ent b) (hk : -1099511627776 ≤ k ∧ k ≤ 1099511627776) :
    ∃ v, spec_l01Add p a b k = some v ∧ ∀ j, j < 64 → rd v.1 j = (rd a.1 j + k * rd b.1 j) % p := by
  obtain ⟨s, h1, h2⟩ := loopM_for (body := fun s : Int × V64 => spec_l01Add_l1 k b p s.1 s.2) (fun i s => ((i : Int), s)) (fun s => s) 64
    (fun i s => ∀ j, j < 64 → rd s.1 j = if j < i then (rd a.1 j + k * rd b.1 j) % p else rd a.1 j) (fun i s hi hI => by
      have hs := hI i hi
      rw [if_neg (by omega)] at hs
      have h1 := ha i hi
      have h0 := hb i hi
      have h2 := mulk (hb i hi) hk
      have h3 := Int.lt_tmod_of_pos (rd a.1 i + k * rd b.1 i) hp.1
      have h4 := Int.tmod_lt_of_pos (rd a.1 i + k * rd b.1 i) hp.1
      have h5 := emod_res hp.1 (rd a.1 i + k * rd b.1 i)
      refine ⟨vset s i ((rd a.1 i + k * rd b.1 i) % p), ?_, fun j hj => ?_⟩
      · simp only [spec_l01Add_l1, letp, Int.toNat_natCast, hs]
        rw [if_pos (by simp; omega), ifp_pos (by omega), ifp_pos (by omega), ifp_pos (by omega), ifp_pos (by omega), ifp_pos (by omega)]
        rw [wrap64 (n := rd b.1 i) (by omega) (by omega), wrap64 (n := rd a.1 i) (by omega) (by omega), wrap64 (n := k * rd b.1 i) (by omega) (by omega), wrap64 (n := rd a.1 i + k * rd b.1 i) (by omega) (by omega), wrap64 (n := _ + p) (by omega) (by omega), tmod_fix hp.1, wrap8 (by omega) (by omega), wrap64 (by omega) (by omega)]
        rfl
      · rw [rd_vset _ _ _ _ hi, hI j hj]
        by_cases h : j = i
        · subst h; simp
        · rw [if_neg h]
          simp only [show (j < i + 1) = (j < i) from by rw [eq_iff_iff]; omega]) (fun s hI => by
      simp only [spec_l01Add_l1, letp]
      rw [if_neg (by simp)]) 64 0 a (by omega) (fun j hj => by rw [if_neg (by omega)])
  refine ⟨s, ?_, fun j hj => by rw [h2 j hj, if_pos hj]⟩
  have h1' : loopM (fun s : Int × V64 => spec_l01Add_l1 k b p s.1 s.2) (0, a) = some s := h1
  simp only [spec_l01Add, h1', Option.bind_some]

theorem add_pad {p k : Int} {a b : List Int} (hp : 0 < p ∧ p ≤ 256) (ha : Row p a) (hb : Row p b) (la : a.length ≤ 64) (lb : b.length ≤ 64) (hk : -1099511627776 ≤ k ∧ k ≤ 1099511627776) :
    spec_l01Add p (pad a) (pad b) k = some (pad (comb p a b k)) := by
  obtain ⟨v, h1, h2⟩ := add_is hp (ent_pad ha hp) (ent_pad hb hp) hk
  rw [h1]
  congr 1
  exact vec_ext fun j hj => by rw [h2 j hj, rd_padl _ hj, rd_padl _ hj, rd_padl _ hj, comb_rd]
end Go.Proofs.Ytkbnegemdlnncaa
/- One. -/
namespace Go.Proofs.Ytkbnegemdlnncaa
open Go.Abs

theorem one_is : spec_l01One = some (pad [1]) := by
  unfold spec_l01One
  congr 1
end Go.Proofs.Ytkbnegemdlnncaa
/- Powers of p; one. -/
namespace Go.Proofs.Ytkbnegemdlnncaa
open Go.Abs

theorem ppow_mono {p : Nat} (hp : 2 ≤ p) {n m : Nat} (h : n ≤ m) : p ^ n ≤ p ^ m := Nat.pow_le_pow_right (by omega) h
/-- p to a power, at most a bit more than a limit. -/
theorem norm_is {p n most : Nat} (hp : 2 ≤ p ∧ p ≤ 7) (hn : n ≤ 1000000) (hm : most ≤ 1152921504606846976) : ∃ c : Nat, impl_prime_norm p n most = some (c : Int) ∧ ((p ^ n ≤ most ∧ c = p ^ n) ∨ (most < p ^ n ∧ most < c)) ∧ c ≤ 8070450532247928832 := by
  have key : ∀ (m i : Nat), i + m = n → (i = 0 ∨ p ^ (i - 1) ≤ most) → ∃ c : Nat, loopM (fun s : Int × Int => impl_prime_norm_l1 (n : Int) (most : Int) p s.1 s.2) (((p ^ i : Nat) : Int), (i : Int)) = some (c : Int) ∧ ((p ^ n ≤ most ∧ c = p ^ n) ∨ (most < p ^ n ∧ most < c)  ∨ (n = i ∧ c = p ^ n)) ∧ c ≤ 8070450532247928832 := by
    intro m
    induction m with
    | zero =>
      intro i hi hle
      have : i = n := by omega
      subst this
      have step : impl_prime_norm_l1 (i : Int) (most : Int) p ((p ^ i : Nat) : Int) (i : Int) = some (.inr ((p ^ i : Nat) : Int)) := by
        simp only [impl_prime_norm_l1]
        rw [if_neg (by rw [decide_eq_true_eq]; omega)]
      rw [loopM_eq]
      simp only [step, Option.bind_some]
      refine ⟨p ^ i, rfl, ?_, ?_⟩
      · exact .inr (.inr (by simp))
      · rcases hle with rfl | hle
        · simp
        · rcases Nat.eq_zero_or_pos i with rfl | h
          · simp
          · have : p ^ i = p ^ (i - 1) * p := by rw [← Nat.pow_succ]; congr 1; omega
            rw [this]
            have := Nat.mul_le_mul hle hp.2
            omega
    | succ m ih =>
      intro i hi hle
      have hmono := ppow_mono hp.1 (show i ≤ n by omega)
      by_cases h : most < p ^ i
      · have step : impl_prime_norm_l1 (n : Int) (most : Int) p ((p ^ i : Nat) : Int) (i : Int) = some (.inr ((p ^ i : Nat) : Int)) := by
          simp only [impl_prime_norm_l1]
          rw [if_pos (decide_eq_true (by omega)), if_pos (decide_eq_true (by omega))]
        rw [loopM_eq]
        simp only [step, Option.bind_some]
        refine ⟨p ^ i, rfl, .inr (.inl ⟨by omega, h⟩), ?_⟩
        rcases hle with rfl | hle
        · simp
        · rcases Nat.eq_zero_or_pos i with rfl | h
          · simp
          · have : p ^ i = p ^ (i - 1) * p := by rw [← Nat.pow_succ]; congr 1; omega
            rw [this]
            have := Nat.mul_le_mul hle hp.2
            omega
      · have hle2 := Nat.mul_le_mul (show p ^ i ≤ most by omega) hp.2
        have e1 : ((p ^ i : Nat) : Int) * (p : Int) = ((p ^ (i + 1) : Nat) : Int) := by rw [Nat.pow_succ, Int.natCast_mul]
        have e2 : p ^ (i + 1) = p ^ i * p := Nat.pow_succ ..
        have step : impl_prime_norm_l1 (n : Int) (most : Int) p ((p ^ i : Nat) : Int) (i : Int) = some (.inl (((p ^ (i + 1) : Nat) : Int), ((i + 1 : Nat) : Int))) := by
          simp only [impl_prime_norm_l1]
          rw [if_pos (decide_eq_true (by omega)), if_neg (by rw [decide_eq_true_eq]; omega), e1, wrap64 (n := ((p ^ (i + 1) : Nat) : Int)) (by omega) (by omega), wrap64 (by omega) (by omega)]
          rfl
        rw [loopM_eq]
        simp only [step, Option.bind_some]
        obtain ⟨c, h1, h2, h3⟩ := ih (i + 1) (by omega) (.inr (by simp only [Nat.add_sub_cancel]; omega))
        refine ⟨c, h1, ?_, h3⟩
        rcases h2 with h2 | h2 | ⟨h2, h4⟩
        · exact .inl h2
        · exact .inr (.inl h2)
        · by_cases h5 : p ^ n ≤ most
          · exact .inl ⟨h5, h4⟩
          · exact .inr (.inl ⟨by omega, by omega⟩)
  obtain ⟨c, h1, h2, h3⟩ := key n 0 (by omega) (.inl rfl)
  simp only [Nat.pow_zero] at h1
  refine ⟨c, ?_, ?_, h3⟩
  · have h1' : loopM (fun s : Int × Int => impl_prime_norm_l1 (n : Int) (most : Int) p s.1 s.2) (1, 0) = some (c : Int) := h1
    simp only [impl_prime_norm, h1', Option.bind_some]
  · rcases h2 with h2 | h2 | ⟨h2, h4⟩
    · exact .inl h2
    · exact .inr h2
    · by_cases h5 : p ^ n ≤ most
      · exact .inl ⟨h5, h4⟩
      · exact .inr ⟨by omega, by omega⟩
end Go.Proofs.Ytkbnegemdlnncaa
/- Rests of products and powers, in the reference. -/
namespace Go.Proofs.Ytkbnegemdlnncaa
open Go.Abs

variable {P : Pri}
theorem divS {a b : PP P} (hb : b ≠ 0) (la : a.len ≤ 64) (lb : b.len ≤ 64) : spec_l01Divide P.p (pad a.1) (pad b.1) = some (pad (pquo a b).1, pad (prem a b).1) := divideS_is P.okp a.2 b.2 (ne_len hb) la lb
theorem modS {a b : PP P} (hb : b ≠ 0) (la : a.len ≤ 64) (lb : b.len ≤ 64) : spec_l01Mod P.p (pad a.1) (pad b.1) = some (pad (prem a b).1) := by
  simp only [spec_l01Mod, divS hb la lb, Option.bind_some]
theorem degS (a : PP P) (la : a.len ≤ 64) : spec_l01Deg (pad a.1) = some ((a.len : Int) - 1) := by
  rw [deg_is, rd_pad_fun la, a.2.top la]; rfl
theorem comb_nsm (x a : PP P) (k : Nat) : comb P.p x.1 a.1 k = (x + nsm k a).1 := by
  refine row_ext (comb_row P.pos _ _ _) (x + nsm k a).2 fun i => ?_
  have h : (x + nsm k a).c i = (x.c i + (nsm k a).c i) % P.p := add_c _ _ _
  rw [comb_rd]
  show _ = (x + nsm k a).c i
  rw [h, nsm_c, Int.add_emod_emod]; rfl
theorem len_nsm (k : Nat) (a : PP P) : (nsm k a).len ≤ a.len := by
  induction k with
  | zero => show 0 ≤ _; omega
  | succ k ih =>
    have := len_add (nsm k a) a
    simp only [nsm]; omega
theorem addS {a b : PP P} (la : a.len ≤ 64) (lb : b.len ≤ 64) {k : Nat} (hk : k ≤ 1099511627776) : spec_l01Add P.p (pad a.1) (pad b.1) k = some (pad (a + nsm k b).1) := by
  rw [add_pad P.sm a.2 b.2 la lb (by omega), comb_nsm]
set_option maxHeartbeats 2000000 in
/-- T times a residue, less a multiple of the modulus. -/
theorem up_is {a m : PP P} (hm : m ≠ 0) (lm : m.len ≤ 64) (la : a.len < m.len) : spec_l01Up P.p (pad a.1) (pad m.1) = some (pad (prem (ppT * a) m).1) := by
  have hp := P.two
  simp only [spec_l01Up, letp, degS m lm, Option.bind_some]
  by_cases h1 : m.len = 1
  · rw [if_pos (by rw [beq_iff_eq]; omega)]
    have h := prem_len (ppT * a) hm
    have : prem (ppT * a) m = 0 := len_zero.1 (by omega)
    rw [this]
    exact congrArg some pad_nil.symm
  · have hml := len_pos hm
    obtain ⟨n, hn⟩ : ∃ n, m.len = n + 2 := ⟨m.len - 2, by omega⟩
    have e0 : ((m.len : Int) - 1) = ((n + 1 : Nat) : Int) := by omega
    rw [if_neg (by rw [beq_iff_eq]; omega), e0]
    have e1 : IntKind.i64.wrap (((n + 1 : Nat) : Int) - 1) = (n : Int) := by rw [wrap64 (by omega) (by omega)]; omega
    rw [e1, ifp_pos (by omega), Int.toNat_natCast]
    have an := a.c_res n
    have ean : rd (pad a.1).1 n = a.c n := rd_padl _ (by omega)
    simp only [Int.toNat_natCast, ean]
    rw [wrap64 (n := a.c n) (by omega) (by omega)]
    -- the shifted coefficients
    obtain ⟨v, h2, h3⟩ := loopM_for (body := fun s : Int × V64 => spec_l01Up_l1 ((n + 1 : Nat) : Int) (pad a.1) s.1 s.2) (fun i u => ((i : Int), u)) (fun u => u) (n + 1)
      (fun i u => 1 ≤ i ∧ ∀ j, j < 64 → rd u.1 j = if 1 ≤ j ∧ j < i then a.c (j - 1) else 0) (fun i u hi hI => by
        obtain ⟨hi1, hI⟩ := hI
        have e2 : IntKind.i64.wrap ((i : Int) - 1) = ((i - 1 : Nat) : Int) := by rw [wrap64 (by omega) (by omega)]; omega
        have e3 : rd (pad a.1).1 (i - 1) = a.c (i - 1) := rd_padl _ (by omega)
        refine ⟨vset u i (a.c (i - 1)), ?_, by omega, fun j hj => ?_⟩
        · simp only [spec_l01Up_l1, e2, Int.toNat_natCast, e3]
          rw [if_pos (decide_eq_true (by omega)), ifp_pos (by omega), ifp_pos (by omega), wrap64 (by omega) (by omega)]
          rfl
        · rw [rd_vset _ _ _ _ (by omega), hI j hj]
          by_cases h : j = i
          · subst h; rw [if_pos rfl, if_pos (by omega)]
          · rw [if_neg h]
            simp only [show (1 ≤ j ∧ j < i + 1) = (1 ≤ j ∧ j < i) from by rw [eq_iff_iff]; omega]) (fun u hI => by
        simp only [spec_l01Up_l1]
        rw [if_neg (by rw [decide_eq_true_eq]; omega)]) n 1 (vrep 64 0) (by omega) ⟨by omega, fun j hj => by rw [rd_vrep _ hj, if_neg (by omega)]⟩
    have h2' : loopM (fun s : Int × V64 => spec_l01Up_l1 ((n + 1 : Nat) : Int) (pad a.1) s.1 s.2) (1, vrep 64 0) = some v := h2
    have emn : rd (pad m.1).1 (n + 1) = lead m.1 := by
      rw [rd_padl _ (by omega)]
      show rd m.1 (n + 1) = rd m.1 (m.1.length - 1)
      have : m.1.length = n + 2 := hn
      rw [this]; rfl
    have hlead := lead_pos P.pos m.2 (ne_len hm)
    have hinv := inv_is P.okp hlead
    obtain ⟨f, hf⟩ : ∃ f : Nat, a.c n * inv P.p (lead m.1) % P.p = f := ⟨(a.c n * inv P.p (lead m.1) % P.p).toNat, by have := emod_res P.pos (a.c n * inv P.p (lead m.1)); omega⟩
    have hfp : (f : Int) < P.p := by rw [← hf]; exact (emod_res P.pos _).2
    have hinv' : 0 < inv P.p (lead m.1) ∧ inv P.p (lead m.1) < P.p := ⟨hinv.1, hinv.2.1⟩
    have hms := mul_small (x := a.c n) (y := inv P.p (lead m.1)) (by omega) (by omega)
    have ef : Int.tmod (IntKind.i64.wrap (a.c n * IntKind.i64.wrap (inv P.p (lead m.1)))) P.p = f := by
      rw [wrap64 (n := inv P.p (lead m.1)) (by omega) (by omega), wrap64 (n := _ * _) (by omega) (by omega), Int.tmod_eq_emod_of_nonneg hms.1, hf]
    -- less a multiple of the modulus
    obtain ⟨w, h4, h5⟩ := loopM_for (body := fun s : Int × V64 => spec_l01Up_l2 ((n + 1 : Nat) : Int) (a.c n) (inv P.p (lead m.1)) P.p (pad m.1) s.1 s.2) (fun i u => ((i : Int), u)) (fun u => u) (n + 1)
      (fun i u => ∀ j, j < 64 → rd u.1 j = if j < i then (rd v.1 j - f * m.c j) % P.p else rd v.1 j) (fun i u hi hI => by
        have hs := hI i (by omega)
        rw [if_neg (by omega)] at hs
        have hv := h3.2 i (by omega)
        have hvb : 0 ≤ rd v.1 i ∧ rd v.1 i < 256 := by
          rw [hv]
          split
          · have := a.c_res (i - 1); omega
          · omega
        have hmi := m.c_res i
        have em : rd (pad m.1).1 i = m.c i := rd_padl _ (by omega)
        have hfm := mul_small (x := (f : Int)) (y := m.c i) (by omega) (by omega)
        have h6 := Int.lt_tmod_of_pos (rd v.1 i - f * m.c i) P.pos
        have h7 := Int.tmod_lt_of_pos (rd v.1 i - f * m.c i) P.pos
        have h8 := emod_res P.pos (rd v.1 i - f * m.c i)
        refine ⟨vset u i ((rd v.1 i - f * m.c i) % P.p), ?_, fun j hj => ?_⟩
        · simp only [spec_l01Up_l2, letp, Int.toNat_natCast, hs, em, ef]
          rw [if_pos (decide_eq_true (by omega)), ifp_pos (by omega), ifp_pos (by omega), ifp_pos (by omega), ifp_pos (by omega), ifp_pos (by omega)]
          rw [wrap64 (n := m.c i) (by omega) (by omega), wrap64 (n := (f : Int) * m.c i) (by omega) (by omega), wrap64 (n := rd v.1 i) (by omega) (by omega), wrap64 (n := rd v.1 i - f * m.c i) (by omega) (by omega), wrap64 (n := _ + P.p) (by omega) (by omega), tmod_fix P.pos, wrap8 (by omega) (by omega), wrap64 (by omega) (by omega)]
          rfl
        · rw [rd_vset _ _ _ _ (by omega), hI j hj]
          by_cases h : j = i
          · subst h; rw [if_pos rfl, if_pos (by omega)]
          · rw [if_neg h]
            simp only [show (j < i + 1) = (j < i) from by rw [eq_iff_iff]; omega]) (fun u hI => by
        simp only [spec_l01Up_l2]
        rw [if_neg (by rw [decide_eq_true_eq]; omega)]) (n + 1) 0 v (by omega) (fun j hj => by rw [if_neg (by omega)])
    have h4' : loopM (fun s : Int × V64 => spec_l01Up_l2 ((n + 1 : Nat) : Int) (a.c n) (inv P.p (lead m.1)) P.p (pad m.1) s.1 s.2) (0, v) = some w := h4
    simp only [h2', Option.bind_some, emn]
    rw [ifp_pos (by omega), inverse_spec P.okp hlead]
    simp only [Option.bind_some]
    rw [ifp_pos (by omega), h4']
    simp only [Option.bind_some]
    -- it is the rest
    have hr : ∀ i, (ppT * a + -(nsm f m)).c i = ((if 1 ≤ i then a.c (i - 1) else 0) - f * m.c i) % P.p := fun i => by
      rw [add_c, neg_c, nsm_c, T_c, Int.add_emod_emod, Int.sub_eq_add_neg]
      rw [Int.add_emod, ← Int.sub_eq_add_neg]
      rw [Int.sub_eq_add_neg, ← Int.add_emod, ← Int.sub_eq_add_neg, ← Int.sub_eq_add_neg]
      exact Int.sub_emod_emod _ _ _
    have hz : ∀ i, n + 1 ≤ i → (ppT * a + -(nsm f m)).c i = 0 := fun i hi => by
      rw [hr]
      by_cases e : i = n + 1
      · subst e
        rw [if_pos (by omega), Nat.add_sub_cancel]
        have e5 : m.c (n + 1) = lead m.1 := by rw [← emn]; exact (rd_padl _ (by omega)).symm
        have e8 : (a.c n * inv P.p (lead m.1) % P.p) * lead m.1 % P.p = a.c n % P.p := by
          rw [Int.mul_emod, Int.emod_emod, ← Int.mul_emod, Int.mul_assoc, Int.mul_comm (inv P.p (lead m.1)), Int.mul_emod, hinv.2.2, Int.mul_one, Int.emod_emod]
        rw [e5, ← hf, Int.sub_emod, e8, Int.sub_self]
        rfl
      · rw [if_pos (by omega)]
        have e5 : a.c (i - 1) = 0 := rd_ge (by have : a.1.length < m.1.length := la; have : m.1.length = n + 2 := hn; omega)
        have e6 : m.c i = 0 := rd_ge (by have : m.1.length = n + 2 := hn; omega)
        rw [e5, e6]; simp
    have hl : (ppT * a + -(nsm f m)).len < m.len := by
      rcases Nat.lt_or_ge (ppT * a + -(nsm f m)).len m.len with h | h
      · exact h
      · have h0 : (ppT * a + -(nsm f m)).1.length ≠ 0 := by have : (ppT * a + -(nsm f m)).1.length = (ppT * a + -(nsm f m)).len := rfl; omega
        have h9 := (ppT * a + -(nsm f m)).2.nrm h0
        have h10 : (ppT * a + -(nsm f m)).c ((ppT * a + -(nsm f m)).len - 1) = 0 := hz _ (by omega)
        exact (h9 h10).elim
    have hrem : prem (ppT * a) m = ppT * a + -(nsm f m) := by
      refine prem_of (nsm f 1) hm ?_ hl
      have e7 : nsm f 1 * m = nsm f m := by rw [ppring.mul_comm, ppring.mul_nsm, ppring.mul_one]
      rw [e7, ppring.add_left_comm, ppring.add_neg, ppring.add_zero]
    rw [hrem]
    congr 1
    refine vec_ext fun j hj => ?_
    rw [h5 j hj, rd_padl _ hj]
    show _ = (ppT * a + -(nsm f m)).c j
    by_cases hjn : j < n + 1
    · rw [if_pos hjn, hr, h3.2 j hj]
      simp only [show (1 ≤ j ∧ j < n + 1) = (1 ≤ j) from by rw [eq_iff_iff]; omega]
    · rw [if_neg hjn, hz j (by omega), h3.2 j hj, if_neg (by omega)]

/-! Products. -/
theorem drop_row {p : Int} : ∀ (i : Nat) {l : List Int}, Row p l → Row p (l.drop i)
  | 0, _, h => h
  | _ + 1, [], h => h
  | i + 1, _ :: _, h => drop_row i (row_tail h)
def pdrop (b : PP P) (i : Nat) : PP P := ⟨b.1.drop i, drop_row i b.2⟩
theorem pdrop_c (b : PP P) (i j : Nat) : (pdrop b i).c j = b.c (i + j) := by
  show rd (b.1.drop i) j = rd b.1 (i + j)
  simp [rd]
theorem pdrop_all (b : PP P) {i : Nat} (h : b.len ≤ i) : pdrop b i = 0 := pp_eq (List.drop_eq_nil_of_le h)
theorem pdrop_step (b : PP P) (i : Nat) : pdrop b i = ppT * pdrop b (i + 1) + nsm (b.c i).toNat 1 := by
  have hb := b.c_res i
  refine pp_ext fun j => ?_
  rw [add_c, T_c, nsm_c, one_c, pdrop_c, pdrop_c, Int.toNat_of_nonneg hb.1]
  cases j with
  | zero => rw [if_neg (by omega), if_pos rfl, Int.mul_one, Int.add_emod_emod, Int.zero_add, Nat.add_zero, b.c_mod]
  | succ j =>
    rw [if_pos (by omega), if_neg (by omega), Int.mul_zero, Int.zero_emod, Int.add_zero, b.c_mod]
    congr 1; omega
theorem mulmod_loop {a b m : PP P} (hm : m ≠ 0) (lm : m.len ≤ 64) (la : a.len ≤ 64) (lb : b.len ≤ 64) : ∀ i : Nat, i ≤ b.len →
    loopM (fun s : Int × V64 => spec_l01MulMod_l1 P.p (pad m.1) (pad a.1) (pad b.1) s.1 s.2) ((i : Int) - 1, pad (prem (a * pdrop b i) m).1) = some (pad (prem (a * b) m).1) := by
  have hp := P.two
  intro i
  induction i with
  | zero =>
    intro _
    have step : spec_l01MulMod_l1 P.p (pad m.1) (pad a.1) (pad b.1) (((0 : Nat) : Int) - 1) (pad (prem (a * pdrop b 0) m).1) = some (.inr (pad (prem (a * pdrop b 0) m).1)) := by
      simp only [spec_l01MulMod_l1]
      rw [if_neg (by simp)]
    rw [loopM_eq]
    simp only [step, Option.bind_some]
    rfl
  | succ i ih =>
    intro hi
    have hbc := b.c_res i
    have l1 := prem_len (a * pdrop b (i + 1)) hm
    have l2 := prem_len (ppT * prem (a * pdrop b (i + 1)) m) hm
    have ew : IntKind.i64.wrap (((i + 1 : Nat) : Int) - 1 - 1) = (i : Int) - 1 := by rw [wrap64 (by omega) (by omega)]; omega
    have eb : rd (pad b.1).1 i = b.c i := rd_padl _ (by omega)
    obtain ⟨k, hk⟩ : ∃ k : Nat, b.c i = k := ⟨(b.c i).toNat, by omega⟩
    have e1 := up_is hm lm l1
    have e2 := addS (P := P) (a := prem (ppT * prem (a * pdrop b (i + 1)) m) m) (b := a) (by omega) la (k := k) (by omega)
    have l3 : (prem (ppT * prem (a * pdrop b (i + 1)) m) m + nsm k a).len ≤ 64 := by
      have := len_add (prem (ppT * prem (a * pdrop b (i + 1)) m) m) (nsm k a)
      have := len_nsm k a
      omega
    have e3 := modS hm l3 lm
    have e4 : prem (prem (ppT * prem (a * pdrop b (i + 1)) m) m + nsm k a) m = prem (a * pdrop b i) m := by
      rw [prem_mul_r _ _ hm]
      have h1 : prem (prem (ppT * (a * pdrop b (i + 1))) m + nsm k a) m = prem (ppT * (a * pdrop b (i + 1)) + nsm k a) m := by
        rw [prem_add _ _ hm, prem_add _ _ hm, prem_small (prem_len (ppT * (a * pdrop b (i + 1))) hm)]
      have h2 : ppT * (a * pdrop b (i + 1)) + nsm k a = a * pdrop b i := by
        rw [pdrop_step b i, ppring.mul_add, ppring.mul_left_comm a ppT, ppring.mul_nsm, ppring.mul_one, hk, Int.toNat_natCast]
      rw [h1, h2]
    have step : spec_l01MulMod_l1 P.p (pad m.1) (pad a.1) (pad b.1) (((i + 1 : Nat) : Int) - 1) (pad (prem (a * pdrop b (i + 1)) m).1) = some (.inl ((i : Int) - 1, pad (prem (a * pdrop b i) m).1)) := by
      simp only [spec_l01MulMod_l1, e1, Option.bind_some]
      rw [if_pos (decide_eq_true (by omega)), ifp_pos (by omega), ew, show (((i + 1 : Nat) : Int) - 1).toNat = i by omega, eb, wrap64 (by omega) (by omega), hk, e2]
      simp only [Option.bind_some]
      rw [e3, e4]
      rfl
    rw [loopM_eq]
    simp only [step, Option.bind_some]
    exact ih (by omega)
theorem mulmodS {a b m : PP P} (hm : m ≠ 0) (lm : m.len ≤ 64) (la : a.len ≤ 64) (lb : b.len ≤ 64) : spec_l01MulMod P.p (pad a.1) (pad b.1) (pad m.1) = some (pad (prem (a * b) m).1) := by
  have h := mulmod_loop hm lm la lb b.len (Nat.le_refl _)
  have e : prem (a * pdrop b b.len) m = 0 := by
    rw [pdrop_all b (Nat.le_refl _), ppring.mul_zero]
    exact prem_small (by have := len_pos hm; rw [len_zero.2 rfl]; omega)
  rw [e] at h
  have e2 : pad (0 : PP P).1 = vrep 64 0 := pad_nil
  rw [e2] at h
  simp only [spec_l01MulMod, degS b lb, Option.bind_some, h]

/-! Powers. -/
theorem powmod_loop {m : PP P} (hm : m ≠ 0) (lm : m.len ≤ 64) : ∀ (n k : Nat) (O B : PP P), k ≤ n → k < 4611686018427387904 →
    loopM (fun s : Int × V64 × V64 => spec_l01PowMod_l1 P.p (pad m.1) s.1 s.2.1 s.2.2) ((k : Int), pad (prem O m).1, pad (prem B m).1) = some (pad (prem (O * pw B k) m).1) := by
  intro n
  induction n with
  | zero =>
    intro k O B hk _
    have : k = 0 := by omega
    subst this
    have step : spec_l01PowMod_l1 P.p (pad m.1) ((0 : Nat) : Int) (pad (prem O m).1) (pad (prem B m).1) = some (.inr (pad (prem O m).1)) := by
      simp only [spec_l01PowMod_l1]
      rw [if_neg (by simp)]
    rw [loopM_eq]
    simp only [step, Option.bind_some, pw, ppring.mul_one]
  | succ n ih =>
    intro k O B hk hb
    rcases Nat.eq_zero_or_pos k with rfl | h0
    · have step : spec_l01PowMod_l1 P.p (pad m.1) ((0 : Nat) : Int) (pad (prem O m).1) (pad (prem B m).1) = some (.inr (pad (prem O m).1)) := by
        simp only [spec_l01PowMod_l1]
        rw [if_neg (by simp)]
      rw [loopM_eq]
      simp only [step, Option.bind_some, pw, ppring.mul_one]
    · have lO := prem_len O hm
      have lB := prem_len B hm
      have e1 : spec_l01MulMod P.p (pad (prem B m).1) (pad (prem B m).1) (pad m.1) = some (pad (prem (B * B) m).1) := by rw [mulmodS hm lm (by omega) (by omega), prem_mul _ _ hm]
      have e2 : spec_l01MulMod P.p (pad (prem O m).1) (pad (prem B m).1) (pad m.1) = some (pad (prem (O * B) m).1) := by rw [mulmodS hm lm (by omega) (by omega), prem_mul _ _ hm]
      have et : Int.tmod (k : Int) 2 = ((k % 2 : Nat) : Int) := by rw [Int.tmod_eq_emod_of_nonneg (by omega)]; omega
      have ed : IntKind.i64.wrap (Int.tdiv (k : Int) 2) = ((k / 2 : Nat) : Int) := by rw [Int.tdiv_eq_ediv_of_nonneg (by omega), wrap64 (by omega) (by omega)]; omega
      have step : spec_l01PowMod_l1 P.p (pad m.1) (k : Int) (pad (prem O m).1) (pad (prem B m).1) = some (.inl (((k / 2 : Nat) : Int), pad (prem (if k % 2 = 1 then O * B else O) m).1, pad (prem (B * B) m).1)) := by
        simp only [spec_l01PowMod_l1, e1, e2, et, ed, Option.bind_some]
        rw [if_pos (decide_eq_true (by omega))]
        by_cases ho : k % 2 = 1
        · rw [if_pos ho, if_pos (by rw [beq_iff_eq]; omega)]; rfl
        · rw [if_neg ho, if_neg (by rw [beq_iff_eq]; omega)]; rfl
      rw [loopM_eq]
      simp only [step, Option.bind_some]
      rw [ih (k / 2) _ _ (by omega) (by omega), pw_two]
      congr 4
      by_cases ho : k % 2 = 1
      · rw [if_pos ho, ppring.mul_assoc]
        have e : k = 2 * (k / 2) + 1 := by omega
        conv => rhs; rw [e]
        simp only [pw]
        rw [ppring.mul_comm B]
      · rw [if_neg ho]
        have e : k = 2 * (k / 2) := by omega
        conv => rhs; rw [e]
theorem powmodS {a m : PP P} (hm : m ≠ 0) (lm : m.len ≤ 64) (la : a.len ≤ 64) {k : Nat} (hk : k < 4611686018427387904) : spec_l01PowMod P.p (pad a.1) k (pad m.1) = some (pad (prem (pw a k) m).1) := by
  have h := powmod_loop hm lm k k 1 a (Nat.le_refl _) hk
  have e1 : spec_l01Mod P.p (pad [1]) (pad m.1) = some (pad (prem (1 : PP P) m).1) := modS (a := (1 : PP P)) hm (by rw [len_one]; omega) lm
  simp only [spec_l01PowMod, one_is, e1, modS hm la lm, Option.bind_some, h, ppring.one_mul]
end Go.Proofs.Ytkbnegemdlnncaa
/- Powers and their rests: what both sides return. -/
namespace Go.Proofs.Ytkbnegemdlnncaa
open Go.Abs
theorem numI_is (k : Int) : impl_isNumber k = some (decide (0 ≤ k ∧ k ≤ 1000000000000)) := by
  simp only [impl_isNumber, impl_within, Option.bind_some]
  by_cases h : 0 ≤ k
  · simp [h]
  · simp [h]
theorem numS_is (k : Int) : spec_l01In k 0 1000000000000 = some (decide (0 ≤ k ∧ k ≤ 1000000000000)) := by
  simp only [spec_l01In]
  by_cases h : 0 ≤ k
  · simp [h]
  · simp [h]
theorem powmod_both {p k : Int} {a m : V64} (ha : IsB a) (hm : IsB m) : ∃ (v : V64) (e : Int), impl_PowerModulo p a k m = some (v, e) ∧ spec_PowerModulo p a k m = some (v, e) ∧
    (e ≠ 0 ∨ (e = 0 ∧ ∃ (P : Pri) (A M : PP P) (n : Nat), p = P.p ∧ a = pad A.1 ∧ m = pad M.1 ∧ A.len ≤ 64 ∧ M.len ≤ 64 ∧ M ≠ 0 ∧ k = n ∧ n ≤ 1000000000000 ∧ v = pad (prem (pw A n) M).1)) := by
  rcases two_or (p := p) ha hm with ⟨h1, h2⟩ | ⟨P, A, M, rfl, rfl, rfl, la, lm⟩
  · refine ⟨vrep 64 0, 1, ?_, ?_, .inl (by omega)⟩
    · simp only [impl_PowerModulo, h1, Option.bind_some]; rfl
    · simp only [spec_PowerModulo, h2, Option.bind_some]; rfl
  · simp only [impl_PowerModulo, spec_PowerModulo, pcode2, scode2, numI_is, numS_is, Option.bind_some, bne_self_eq_false, Bool.false_eq_true, if_false]
    by_cases hk : 0 ≤ k ∧ k ≤ 1000000000000
    · simp only [decide_eq_true hk, Bool.not_true, Bool.false_eq_true, if_false, degP M lm, Option.bind_some]
      by_cases h0 : M = 0
      · have hl : M.len = 0 := len_zero.2 h0
        rw [if_pos (decide_eq_true ((pad_zero_iff lm).2 h0)), if_pos (decide_eq_true (by omega))]
        exact ⟨_, _, rfl, rfl, .inl (by omega)⟩
      · have hl := len_pos h0
        obtain ⟨n, rfl⟩ : ∃ n : Nat, k = n := ⟨k.toNat, by omega⟩
        have lr := prem_len (pw A n) h0
        rw [if_neg (by rw [decide_eq_true_eq]; exact fun e => h0 ((pad_zero_iff lm).1 e)), if_neg (by rw [decide_eq_true_eq]; omega), rowI A la, rowI M lm]
        simp only [Option.bind_some, powI_is A h0 (show M.len ≤ 1000 by omega) (show A.len ≤ 500000 by omega) (show n < 4611686018427387904 by omega), powmodS h0 lm la (show n < 4611686018427387904 by omega), toldI (prem (pw A n) M) (by omega), if_pos (show (prem (pw A n) M).len ≤ 64 by omega)]
        exact ⟨_, _, rfl, rfl, .inr ⟨rfl, P, A, M, n, rfl, rfl, rfl, la, lm, h0, rfl, by omega, rfl⟩⟩
    · simp only [decide_eq_false hk, Bool.not_false, if_true]
      exact ⟨_, _, rfl, rfl, .inl (by omega)⟩
/-! Powers of numbers. -/
variable {P : Pri}
def ip (x : Int) : Nat → Int
  | 0 => 1
  | n + 1 => ip x n * x
theorem ip_add (x : Int) (n : Nat) : ∀ m, ip x (n + m) = ip x n * ip x m
  | 0 => by simp [ip]
  | m + 1 => by
    show ip x (n + m) * x = ip x n * (ip x m * x)
    rw [ip_add x n m, Int.mul_assoc]
theorem conv_0 (a b : Nat → Int) : conv a b 0 = a 0 * b 0 := by simp [conv, cv, sumTo]
theorem pw_c0 (a : PP P) : ∀ k, (pw a k).c 0 = ip (a.c 0) k % P.p
  | 0 => by
    show (1 : PP P).c 0 = 1 % P.p
    rw [one_c, if_pos rfl]
    have := P.two
    rw [Int.emod_eq_of_lt (by omega) (by omega)]
  | k + 1 => by
    show (pw a k * a).c 0 = ip (a.c 0) k * a.c 0 % P.p
    rw [mul_c, conv_0, pw_c0 a k, Int.mul_emod, Int.emod_emod, ← Int.mul_emod]
theorem ip_one {x : Int} (hx : 0 < x ∧ x < P.p) : ip x (P.n - 1) % P.p = 1 := by
  rcases P.is with h | h | h | h <;> (simp only [Pri.p, h] at hx ⊢)
  · obtain rfl : x = 1 := by omega
    decide
  · rcases (show x = 1 ∨ x = 2 by omega) with rfl | rfl <;> decide
  · rcases (show x = 1 ∨ x = 2 ∨ x = 3 ∨ x = 4 by omega) with rfl | rfl | rfl | rfl <;> decide
  · rcases (show x = 1 ∨ x = 2 ∨ x = 3 ∨ x = 4 ∨ x = 5 ∨ x = 6 by omega) with rfl | rfl | rfl | rfl | rfl | rfl <;> decide
theorem ip_red {x : Int} (hx : 0 < x ∧ x < P.p) (r : Nat) : ∀ q : Nat, ip x (r + (P.n - 1) * q) % P.p = ip x r % P.p
  | 0 => by rw [Nat.mul_zero, Nat.add_zero]
  | q + 1 => by
    rw [Nat.mul_succ, ← Nat.add_assoc, ip_add, Int.mul_emod, ip_one hx, Int.mul_one, Int.emod_emod, ip_red hx r q]
theorem pad_const {a : PP P} (la : a.len ≤ 1) : pad a.1 = vset (vrep 64 0) 0 (a.c 0) := vec_ext fun j hj => by
  rw [rd_padl _ hj, rd_vset _ _ _ _ (by omega), rd_vrep _ hj]
  by_cases h : j = 0
  · subst h; rfl
  · rw [if_neg h, rd_ge (by have : a.1.length = a.len := rfl; omega)]
theorem powc_loop {a : PP P} : ∀ (m i : Nat), i + m ≤ 1000000 →
    loopM (fun s : Int × Int => spec_PowerOf_l2 (pad a.1) P.p s.1 s.2) (ip (a.c 0) i % P.p, (m : Int)) = some (ip (a.c 0) (i + m) % P.p)
  | 0, i, _ => by
    have step : spec_PowerOf_l2 (pad a.1) P.p (ip (a.c 0) i % P.p) ((0 : Nat) : Int) = some (.inr (ip (a.c 0) i % P.p)) := by
      simp only [spec_PowerOf_l2]
      rw [if_neg (by rw [decide_eq_true_eq]; omega)]
    rw [loopM_eq]
    simp only [step, Option.bind_some, Nat.add_zero]
  | m + 1, i, h => by
    have hp := P.two
    have hr := a.c_res 0
    have e0 : rd (pad a.1).1 0 = a.c 0 := rd_padl _ (by omega)
    have hm := emod_res P.pos (ip (a.c 0) i)
    have hb : ip (a.c 0) i % P.p * a.c 0 ≤ 7 * 7 := Int.mul_le_mul (by omega) (by omega) hr.1 (by omega)
    have hb0 : 0 ≤ ip (a.c 0) i % P.p * a.c 0 := Int.mul_nonneg hm.1 hr.1
    have et : Int.tmod (ip (a.c 0) i % P.p * a.c 0) P.p = ip (a.c 0) (i + 1) % P.p := by
      rw [Int.tmod_eq_emod_of_nonneg hb0]
      show _ = ip (a.c 0) i * a.c 0 % P.p
      rw [Int.mul_emod, Int.emod_emod, ← Int.mul_emod]
    have step : spec_PowerOf_l2 (pad a.1) P.p (ip (a.c 0) i % P.p) ((m + 1 : Nat) : Int) = some (.inl (ip (a.c 0) (i + 1) % P.p, (m : Int))) := by
      simp only [spec_PowerOf_l2, letp, Int.toNat_zero, e0]
      rw [if_pos (decide_eq_true (by omega)), ifp_pos (by omega), wrap64 (n := a.c 0) (by omega) (by omega), wrap64 (n := _ * a.c 0) (by omega) (by omega), ifp_pos (by omega), et, wrap64 (by omega) (by omega)]
      congr 3
      omega
    rw [loopM_eq]
    simp only [step, Option.bind_some]
    rw [powc_loop m (i + 1) (by omega), show i + 1 + m = i + (m + 1) by omega]
theorem pows_loop {a : PP P} (ha : a ≠ 0) (la : a.len ≤ 64) {k : Nat} (hk : (pw a k).len ≤ 64) : ∀ (m i : Nat), i + m = k → k ≤ 1000000 →
    loopM (fun s : Int × V64 => spec_PowerOf_l1 P.p (pad a.1) s.1 s.2) ((m : Int), pad (pw a i).1) = some (pad (pw a k).1)
  | 0, i, hi, _ => by
    have : i = k := by omega
    subst this
    have step : spec_PowerOf_l1 P.p (pad a.1) ((0 : Nat) : Int) (pad (pw a i).1) = some (.inr (pad (pw a i).1)) := by
      simp only [spec_PowerOf_l1]
      rw [if_neg (by rw [decide_eq_true_eq]; omega)]
    rw [loopM_eq]
    simp only [step, Option.bind_some]
  | m + 1, i, hi, hk1 => by
    have hp := P.two
    have l1 := pwO_len ha i
    have l2 := pwO_len ha k
    have hmono : (a.len - 1) * (i + 1) ≤ (a.len - 1) * k := Nat.mul_le_mul_left _ (by omega)
    rw [Nat.mul_succ] at hmono
    have hpos := len_pos ha
    have e1 : spec_l01Times P.p (pad (pw a i).1) (pad a.1) = some (pad (pw a (i + 1)).1, true) :=
      times_pad (p := P.p) (by omega) (pw a i).2 a.2 (show (pw a i).len ≤ 64 by omega) la (.inr (.inr (show (pw a i).len + a.len ≤ 65 by omega)))
    have step : spec_PowerOf_l1 P.p (pad a.1) ((m + 1 : Nat) : Int) (pad (pw a i).1) = some (.inl ((m : Int), pad (pw a (i + 1)).1)) := by
      simp only [spec_PowerOf_l1, e1, Option.bind_some]
      rw [if_pos (decide_eq_true (by omega)), wrap64 (by omega) (by omega)]
      congr 3
      omega
    rw [loopM_eq]
    simp only [step, Option.bind_some]
    exact pows_loop ha la hk m (i + 1) (by omega) hk1
theorem one_pad : spec_l01One = some (pad (1 : PP P).1) := by
  simp only [spec_l01One]
  congr 1
theorem powI_all {P : Pri} {a : PP P} (la : a.len ≤ 64) {k : Nat} (hk : k ≤ 1000000000000) : impl_PowerOf P.p (pad a.1) k = some (if 2 ≤ a.len ∧ 64 ≤ k then (vrep 64 0, 3) else if (pw a k).len ≤ 64 then (pad (pw a k).1, 0) else (vrep 64 0, 3)) := by
  by_cases h63 : k ≤ 63
  · rw [if_neg (by omega)]
    exact powO la h63
  · have hd : impl_row_degree a.1 = some ((a.len : Int) - 1) := by
      have h : a.1.length = a.len := rfl
      simp only [impl_row_degree]
      rw [wrap64 (by omega) (by omega), h]
    have h3 : decide ((k : Int) > 63) = true := decide_eq_true (by omega)
    have hn : decide (0 ≤ (k : Int) ∧ (k : Int) ≤ 1000000000000) = true := decide_eq_true (by omega)
    simp only [impl_PowerOf, pcode1, rowI a la, numI_is, hn, hd, Option.bind_some]
    by_cases h1 : a.len ≤ 1
    · have h4 := pwO_one h1 k
      have e : impl_prime_power P.p a.1 k [0, 1] = some (pw a k).1 := by
        have hT : (ppT : PP P) ≠ 0 := fun e => by have := len_zero.2 e; cases this
        have h := powI_is a (m := ppT) hT (by show 2 ≤ 1000; omega) (by omega) (k := k) (by omega)
        rw [prem_small (show (pw a k).len < (ppT : PP P).len by show _ < 2; omega)] at h
        exact h
      have c1 : decide ((a.len : Int) - 1 > 0) = false := decide_eq_false (by omega)
      have c2 : decide ((a.len : Int) - 1 ≤ 0) = true := decide_eq_true (by omega)
      rw [if_neg (show ¬ (2 ≤ a.len ∧ 64 ≤ k) by omega)]
      simp only [c1, c2, e, toldI (pw a k) (by omega), Option.bind_some]
      rfl
    · have c1 : decide ((a.len : Int) - 1 > 0) = true := decide_eq_true (by omega)
      rw [if_pos (show 2 ≤ a.len ∧ 64 ≤ k by omega)]
      simp only [c1, h3]
      rfl
theorem powS_all {a : PP P} (la : a.len ≤ 64) {k : Nat} (hk : k ≤ 1000000000000) : spec_PowerOf P.p (pad a.1) k = some (if 2 ≤ a.len ∧ 64 ≤ k then (vrep 64 0, 3) else if (pw a k).len ≤ 64 then (pad (pw a k).1, 0) else (vrep 64 0, 3)) := by
  have hp := P.two
  have hn : decide (0 ≤ (k : Int) ∧ (k : Int) ≤ 1000000000000) = true := decide_eq_true (by omega)
  simp only [spec_PowerOf, scode1, degP a la, numS_is, hn, Option.bind_some, bne_self_eq_false, Bool.false_eq_true, if_false, Bool.not_true]
  by_cases h0 : k = 0
  · subst h0
    have e1 : (pw a 0) = 1 := rfl
    rw [if_pos (show (((0 : Nat) : Int) == 0) = true from rfl), one_pad (P := P), if_neg (by omega), e1, if_pos (by rw [len_one]; omega)]
    rfl
  · rw [if_neg (by rw [beq_iff_eq]; omega)]
    by_cases ha : a = 0
    · subst ha
      have l0 : (0 : PP P).len = 0 := rfl
      have e1 : pw (0 : PP P) k = 0 := ppring.pw_zero h0
      have e2 : pad (0 : PP P).1 = vrep 64 0 := pad_nil
      rw [l0, if_pos (decide_eq_true (by omega)), if_neg (by omega), e1, if_pos (by rw [l0]; omega), e2]
    · have hpos := len_pos ha
      rw [if_neg (by rw [decide_eq_true_eq]; omega)]
      by_cases h1 : a.len = 1
      · rw [if_pos (by rw [beq_iff_eq]; omega), if_neg (by omega), if_pos (by have := pwO_one (a := a) (by omega) k; omega)]
        have ew : IntKind.i64.wrap (P.p - 1) = P.p - 1 := wrap64 (by omega) (by omega)
        have en : P.p = ((P.n : Nat) : Int) := rfl
        have hge := P.ge
        have et : Int.tmod (k : Int) (P.p - 1) = ((k % (P.n - 1) : Nat) : Int) := by
          rw [Int.tmod_eq_emod_of_nonneg (by omega), en, show ((P.n : Nat) : Int) - 1 = ((P.n - 1 : Nat) : Int) by omega]
          rfl
        have hlt : k % (P.n - 1) < P.n - 1 := Nat.mod_lt _ (by omega)
        have hl := powc_loop (a := a) (k % (P.n - 1)) 0 (by omega)
        have e1 : ip (a.c 0) 0 % P.p = 1 := by
          show (1 : Int) % P.p = 1
          exact Int.emod_eq_of_lt (by decide) (by omega)
        rw [e1, Nat.zero_add] at hl
        have hx : 0 < a.c 0 ∧ a.c 0 < P.p := by
          have h2 := a.c_res 0
          have h3 := a.2.nrm (by have : a.1.length = a.len := rfl; omega)
          have h4 : a.1.length = 1 := h1
          rw [h4] at h3
          have h5 : a.c 0 ≠ 0 := h3
          omega
        have hv := ip_red hx (k % (P.n - 1)) (k / (P.n - 1))
        rw [Nat.mod_add_div] at hv
        have hr := emod_res P.pos (ip (a.c 0) k)
        rw [ew, ifp_pos (by omega), et, hl, ← hv]
        simp only [Option.bind_some]
        rw [pad_const (pwO_one (by omega) k), pw_c0, wrap8 hr.1 (by omega)]
      · rw [if_neg (by rw [beq_iff_eq]; omega)]
        by_cases h63 : k ≤ 63
        · have hlen := pwO_len ha k
          have hmul : ((a.len : Int) - 1) * k = (((a.len - 1) * k : Nat) : Int) := by
            rw [Int.natCast_mul, show ((a.len - 1 : Nat) : Int) = (a.len : Int) - 1 by omega]
          have hle : (a.len - 1) * k ≤ 63 * 63 := Nat.mul_le_mul (by omega) h63
          rw [if_neg (by rw [decide_eq_true_eq]; omega), hmul, wrap64 (by omega) (by omega), if_neg (show ¬ (2 ≤ a.len ∧ 64 ≤ k) by omega)]
          simp only [Option.bind_some]
          by_cases hq : (pw a k).len ≤ 64
          · have hl := pows_loop ha la hq k 0 (by omega) (by omega)
            rw [if_neg (by rw [decide_eq_true_eq]; omega), if_pos hq, one_pad (P := P)]
            simp only [Option.bind_some]
            have hl' : loopM (fun s : Int × V64 => spec_PowerOf_l1 P.p (pad a.1) s.1 s.2) ((k : Int), pad (1 : PP P).1) = some (pad (pw a k).1) := hl
            rw [hl']
            rfl
          · rw [if_pos (decide_eq_true (by omega)), if_neg hq]
        · rw [if_pos (decide_eq_true (by omega)), if_pos (show 2 ≤ a.len ∧ 64 ≤ k by omega)]
          rfl
theorem pow_both {p k : Int} {a : V64} (ha : IsB a) : ∃ (v : V64) (e : Int), impl_PowerOf p a k = some (v, e) ∧ spec_PowerOf p a k = some (v, e) := by
  rcases one_or (p := p) ha with ⟨h1, h2⟩ | ⟨P, A, rfl, rfl, la⟩
  · refine ⟨vrep 64 0, 1, ?_, ?_⟩
    · simp only [impl_PowerOf, h1, Option.bind_some]; rfl
    · simp only [spec_PowerOf, h2, Option.bind_some]; rfl
  · by_cases hk : 0 ≤ k ∧ k ≤ 1000000000000
    · obtain ⟨n, rfl⟩ : ∃ n : Nat, k = n := ⟨k.toNat, by omega⟩
      have e1 := powI_all la (k := n) (by omega)
      have e2 := powS_all la (k := n) (by omega)
      rw [e1, e2]
      split
      · exact ⟨_, _, rfl, rfl⟩
      · split
        · exact ⟨_, _, rfl, rfl⟩
        · exact ⟨_, _, rfl, rfl⟩
    · refine ⟨vrep 64 0, 2, ?_, ?_⟩
      · simp only [impl_PowerOf, pcode1, rowI A la, numI_is, decide_eq_false hk, Option.bind_some]; rfl
      · simp only [spec_PowerOf, scode1, degP A la, numS_is, decide_eq_false hk, Option.bind_some]; rfl
end Go.Proofs.Ytkbnegemdlnncaa
/- Compositions of polynomials: what both sides return. -/
namespace Go.Proofs.Ytkbnegemdlnncaa
open Go.Abs
variable {P : Pri}
theorem conv_00 (a b : Nat → Int) : conv a b 0 = a 0 * b 0 := by simp [conv, cv, sumTo]
/-- A number as a polynomial. -/
def cst (x : Int) : PP P := nsm x.toNat 1
theorem cst_c {x : Int} (hx : 0 ≤ x ∧ x < P.p) (i : Nat) : (cst x : PP P).c i = if i = 0 then x else 0 := by
  unfold cst
  rw [nsm_c, one_c]
  split
  · rw [Int.mul_one, Int.toNat_of_nonneg hx.1, Int.emod_eq_of_lt hx.1 hx.2]
  · rw [Int.mul_zero]; rfl
theorem cst_len (x : Int) : (cst x : PP P).len ≤ 1 := by
  have h : (cst x : PP P).len ≤ (1 : PP P).len := len_nsm _ _
  rw [len_one] at h
  exact h
theorem cst_zero : (cst 0 : PP P) = 0 := rfl
/-- The part of a composition that comes from the coefficients from m on. -/
def hc (l : List Int) (b : PP P) : PP P := l.foldr (fun x acc => acc * b + cst x) 0
theorem hc_step (l : List Int) (b : PP P) (m : Nat) : hc (l.drop m) b = hc (l.drop (m + 1)) b * b + cst (rd l m) := by
  by_cases h : m < l.length
  · rw [List.drop_eq_getElem_cons h, rd_lt h]; rfl
  · rw [List.drop_of_length_le (by omega), List.drop_of_length_le (by omega), rd_ge (by omega)]
    show (0 : PP P) = 0 * b + cst 0
    rw [cst_zero, ppring.zero_mul, ppring.zero_add]
theorem hc_big (b : PP P) : ∀ l : List Int, (hc l b).len ≤ l.length * b.len + 1
  | [] => Nat.zero_le _
  | x :: l => by
    have ih := hc_big b l
    have h1 := len_add (hc l b * b) (cst x)
    have h2 : (hc l b * b).len ≤ (hc l b).len + b.len - 1 := mul_len _ _ _
    have h3 := cst_len (P := P) x
    show (hc l b * b + cst x).len ≤ _
    rw [List.length_cons, Nat.succ_mul]
    omega
theorem len_addl {a b : PP P} (h : b.len < a.len) : (a + b).len = a.len := by
  have h1 := len_add a b
  have h2 := len_add (a + b) (-b)
  have h3 := len_neg b
  rw [ppring.add_assoc, ppring.add_neg, ppring.add_zero] at h2
  omega
theorem cst_len1 {x : Int} (h0 : x ≠ 0) (hx : 0 ≤ x ∧ x < P.p) : (cst x : PP P).len = 1 := by
  have h1 := cst_len (P := P) x
  by_cases h : (cst x : PP P).len = 0
  · have h2 := len_zero.1 h
    have h3 := cst_c hx 0
    rw [h2, zero_c, if_pos rfl] at h3
    exact absurd h3.symm h0
  · omega
theorem hc_len {b : PP P} (hb : 2 ≤ b.len) : ∀ l : List Int, Row P.p l → l ≠ [] → (hc l b).len = (l.length - 1) * (b.len - 1) + 1
  | [], _, h => absurd rfl h
  | [x], hr, _ => by
    have h1 := hr.res x (by simp)
    have h2 := hr.nrm (by simp)
    have h3 : x ≠ 0 := by simpa [rd] using h2
    have e : hc [x] b = cst x := by
      show (0 : PP P) * b + cst x = cst x
      rw [ppring.zero_mul, ppring.zero_add]
    rw [e, cst_len1 h3 h1]
    simp
  | x :: y :: l, hr, _ => by
    have ih := hc_len hb (y :: l) (row_tail hr) (by simp)
    have hb0 : b ≠ 0 := fun e => by rw [len_zero.2 e] at hb; omega
    have hn : hc (y :: l) b ≠ 0 := fun e => by rw [len_zero.2 e] at ih; omega
    have h1 := len_mul hn hb0
    have h2 := cst_len (P := P) x
    show (hc (y :: l) b * b + cst x).len = _
    rw [len_addl (by omega), h1, ih]
    simp only [List.length_cons, Nat.add_sub_cancel, Nat.succ_mul]
    omega
theorem hc_len_le {b : PP P} (hb : 2 ≤ b.len) : ∀ l : List Int, l ≠ [] → (hc l b).len ≤ (l.length - 1) * (b.len - 1) + 1
  | [], h => absurd rfl h
  | [x], _ => by
    have e : hc [x] b = cst x := by
      show (0 : PP P) * b + cst x = cst x
      rw [ppring.zero_mul, ppring.zero_add]
    have := cst_len (P := P) x
    rw [e]; omega
  | x :: y :: l, _ => by
    have ih := hc_len_le hb (y :: l) (by simp)
    have h1 : (hc (y :: l) b * b).len ≤ (hc (y :: l) b).len + b.len - 1 := mul_len _ _ _
    have h2 := cst_len (P := P) x
    have h3 := len_add (hc (y :: l) b * b) (cst x)
    show (hc (y :: l) b * b + cst x).len ≤ _
    simp only [List.length_cons, Nat.add_sub_cancel, Nat.succ_mul] at ih ⊢
    omega
theorem comb_cst (a : PP P) {x : Int} (hx : 0 ≤ x ∧ x < P.p) : comb P.p a.1 [x] 1 = (a + cst x).1 := by
  apply row_ext (comb_row P.pos _ _ _) (a + cst x).2
  intro i
  show rd (comb P.p a.1 [x] 1) i = (a + cst x).c i
  rw [comb_rd, add_c, cst_c hx, Int.one_mul]
  show (rd a.1 i + rd [x] i) % P.p = (rd a.1 i + _) % P.p
  by_cases h : i = 0
  · subst h; rw [if_pos rfl]; rfl
  · rw [if_neg h, rd_ge (l := [x]) (show 1 ≤ i by omega)]
theorem ent_one {x : Int} (hx : 0 ≤ x ∧ x < 256) : Ent [x] := fun i => by
  by_cases h : i = 0
  · subst h; exact hx
  · rw [rd_ge (l := [x]) (show 1 ≤ i by omega)]; omega
theorem compI_loop {a b : PP P} (la : a.len ≤ 64) (lb : b.len ≤ 64) : ∀ m : Nat, m ≤ a.len →
    loopM (fun s : List Int × Int => impl_prime_compose_l1 P.p b.1 a.1 s.1 s.2) ((hc (a.1.drop m) b).1, (m : Int) - 1) = some (hc a.1 b).1
  | 0, _ => by
    have step : impl_prime_compose_l1 P.p b.1 a.1 (hc (a.1.drop 0) b).1 (((0 : Nat) : Int) - 1) = some (.inr (hc a.1 b).1) := by
      simp only [impl_prime_compose_l1]
      rw [if_neg (by rw [decide_eq_true_eq]; omega)]
      rfl
    rw [loopM_eq]
    simp only [step, Option.bind_some]
  | m + 1, hm => by
    have hl : a.1.length = a.len := rfl
    have hx := a.2.rd P.pos m
    have h1 := hc_big b (a.1.drop (m + 1))
    have h2 : (a.1.drop (m + 1)).length * b.len ≤ 64 * 64 := Nat.mul_le_mul (by rw [List.length_drop]; omega) lb
    have h3 : (hc (a.1.drop (m + 1)) b * b).len ≤ (hc (a.1.drop (m + 1)) b).len + b.len - 1 := mul_len _ _ _
    have e1 : impl_prime_times P.p (hc (a.1.drop (m + 1)) b).1 b.1 = some (hc (a.1.drop (m + 1)) b * b).1 := timesI (by omega) (by omega)
    have hent : Ent [rd a.1 m] := ent_one (by have := P.two; omega)
    have e2 : impl_prime_combine P.p (hc (a.1.drop (m + 1)) b * b).1 [rd a.1 m] 1 = some (hc (a.1.drop m) b).1 := by
      rw [combine_is P.sm (PP.ent _) hent (show (hc (a.1.drop (m + 1)) b * b).1.length ≤ 1000000 from Nat.le_trans h3 (by omega)) (by simp) (by omega), comb_cst _ hx, ← hc_step]
    have ei : ((m + 1 : Nat) : Int) - 1 = m := by omega
    have step : impl_prime_compose_l1 P.p b.1 a.1 (hc (a.1.drop (m + 1)) b).1 (m : Int) = some (.inl ((hc (a.1.drop m) b).1, (m : Int) - 1)) := by
      simp only [impl_prime_compose_l1, e1, Int.toNat_natCast, Option.bind_some]
      rw [if_pos (decide_eq_true (by omega)), ifp_pos (by omega), e2, wrap64 (by omega) (by omega)]
      rfl
    rw [loopM_eq, ei]
    simp only [step, Option.bind_some]
    exact compI_loop la lb m (by omega)
theorem compI {a b : PP P} (la : a.len ≤ 64) (lb : b.len ≤ 64) : impl_ComposePolys P.p (pad a.1) (pad b.1) = some (if (hc a.1 b).len ≤ 64 then (pad (hc a.1 b).1, 0) else (vrep 64 0, 3)) := by
  have hl : a.1.length = a.len := rfl
  have h1 := hc_big b a.1
  have h2 : a.1.length * b.len ≤ 64 * 64 := Nat.mul_le_mul (by omega) lb
  have h := compI_loop la lb a.len (Nat.le_refl _)
  rw [List.drop_of_length_le (show a.1.length ≤ a.len from Nat.le_refl _)] at h
  have h' : loopM (fun s : List Int × Int => impl_prime_compose_l1 P.p b.1 a.1 s.1 s.2) ([], (a.len : Int) - 1) = some (hc a.1 b).1 := h
  have e : IntKind.i64.wrap ((a.1.length : Int) - 1) = (a.len : Int) - 1 := wrap64 (by omega) (by omega)
  simp only [impl_ComposePolys, pcode2, rowI a la, rowI b lb, impl_prime_compose, e, h', toldI (hc a.1 b) (by omega), Option.bind_some]
  rfl
theorem hc_0 (l : List Int) (b : PP P) (m : Nat) (hx : 0 ≤ rd l m ∧ rd l m < P.p) : (hc (l.drop m) b).c 0 = ((hc (l.drop (m + 1)) b).c 0 * b.c 0 + rd l m) % P.p := by
  rw [hc_step, add_c, mul_c, cst_c hx, if_pos rfl, conv_00, Int.emod_add_emod]
theorem point_loop {a b : PP P} (la : a.len ≤ 64) : ∀ m : Nat, m ≤ 64 →
    loopM (fun s : Int × Int => spec_l01Point_l1 (b.c 0) (pad a.1) P.p s.1 s.2) ((hc (a.1.drop m) b).c 0, (m : Int) - 1) = some ((hc a.1 b).c 0)
  | 0, _ => by
    have step : spec_l01Point_l1 (b.c 0) (pad a.1) P.p ((hc (a.1.drop 0) b).c 0) (((0 : Nat) : Int) - 1) = some (.inr ((hc a.1 b).c 0)) := by
      simp only [spec_l01Point_l1]
      rw [if_neg (by rw [decide_eq_true_eq]; omega)]
      rfl
    rw [loopM_eq]
    simp only [step, Option.bind_some]
  | m + 1, hm => by
    have hp := P.two
    have hx := a.2.rd P.pos m
    have hb := b.c_res 0
    have hh := (hc (a.1.drop (m + 1)) b).c_res 0
    have h0 := hc_0 a.1 b m hx
    have hle : (hc (a.1.drop (m + 1)) b).c 0 * b.c 0 ≤ 7 * 7 := Int.mul_le_mul (by omega) (by omega) hb.1 (by omega)
    have hge : 0 ≤ (hc (a.1.drop (m + 1)) b).c 0 * b.c 0 := Int.mul_nonneg hh.1 hb.1
    have ei : ((m + 1 : Nat) : Int) - 1 = m := by omega
    have step : spec_l01Point_l1 (b.c 0) (pad a.1) P.p ((hc (a.1.drop (m + 1)) b).c 0) (m : Int) = some (.inl ((hc (a.1.drop m) b).c 0, (m : Int) - 1)) := by
      simp only [spec_l01Point_l1, letp, Int.toNat_natCast, rd_padl a.1 (show m < 64 by omega)]
      rw [if_pos (decide_eq_true (by omega)), ifp_pos (by omega), wrap64 (n := rd a.1 m) (by omega) (by omega), wrap64 (n := _ * b.c 0) (by omega) (by omega), wrap64 (n := _ + rd a.1 m) (by omega) (by omega), ifp_pos (by omega), wrap64 (n := (m : Int) - 1) (by omega) (by omega), Int.tmod_eq_emod_of_nonneg (by omega), ← h0]
    rw [loopM_eq, ei]
    simp only [step, Option.bind_some]
    exact point_loop la m (by omega)
theorem pad_cst {a : PP P} (la : a.len ≤ 1) : pad a.1 = vset (vrep 64 0) 0 (a.c 0) := vec_ext fun j hj => by
  rw [rd_padl _ hj, rd_vset _ _ _ _ (by omega), rd_vrep _ hj]
  by_cases h : j = 0
  · subst h; rfl
  · rw [if_neg h, rd_ge (by have : a.1.length = a.len := rfl; omega)]
theorem hc_one {b : PP P} (hb : b.len ≤ 1) : ∀ l : List Int, (hc l b).len ≤ 1
  | [] => Nat.zero_le _
  | x :: l => by
    have ih := hc_one hb l
    have h1 := len_add (hc l b * b) (cst x)
    have h2 : (hc l b * b).len ≤ (hc l b).len + b.len - 1 := mul_len _ _ _
    have h3 := cst_len (P := P) x
    show (hc l b * b + cst x).len ≤ _
    omega
theorem vset_cst (a : PP P) {x : Int} (hx : 0 ≤ x ∧ x < P.p) (la : a.len ≤ 64) : vset (pad a.1) 0 ((a.c 0 + x) % P.p) = pad (a + cst x).1 := vec_ext fun j hj => by
  rw [rd_vset _ _ _ _ (by omega), rd_padl _ hj, rd_padl _ hj]
  show _ = (a + cst x).c j
  rw [add_c, cst_c hx]
  by_cases h : j = 0
  · subst h; rw [if_pos rfl, if_pos rfl]
  · rw [if_neg h, if_neg h, Int.add_zero, a.c_mod]; rfl
theorem compS_loop {a b : PP P} (la : a.len ≤ 64) (lb : b.len ≤ 64) (hb : 2 ≤ b.len) (hn : (a.len - 1) * (b.len - 1) ≤ 63) : ∀ m : Nat, m ≤ a.len →
    loopM (fun s : Int × V64 => spec_ComposePolys_l1 P.p (pad b.1) (pad a.1) s.1 s.2) ((m : Int) - 1, pad (hc (a.1.drop m) b).1) = some (pad (hc a.1 b).1)
  | 0, _ => by
    have step : spec_ComposePolys_l1 P.p (pad b.1) (pad a.1) (((0 : Nat) : Int) - 1) (pad (hc (a.1.drop 0) b).1) = some (.inr (pad (hc a.1 b).1)) := by
      simp only [spec_ComposePolys_l1]
      rw [if_neg (by rw [decide_eq_true_eq]; omega)]
      rfl
    rw [loopM_eq]
    simp only [step, Option.bind_some]
  | m + 1, hm => by
    have hp := P.two
    have hl : a.1.length = a.len := rfl
    have hx := a.2.rd P.pos m
    have hfit : (hc (a.1.drop (m + 1)) b).len = 0 ∨ (hc (a.1.drop (m + 1)) b).len + b.len ≤ 65 := by
      by_cases h : m + 1 = a.len
      · left
        rw [List.drop_of_length_le (by omega)]; rfl
      · right
        have h1 := hc_len_le hb (a.1.drop (m + 1)) (fun e => by have := congrArg List.length e; simp at this; omega)
        rw [List.length_drop, hl] at h1
        have h2 : (a.len - (m + 1) - 1 + 1) * (b.len - 1) ≤ (a.len - 1) * (b.len - 1) := Nat.mul_le_mul_right _ (by omega)
        rw [Nat.succ_mul] at h2
        omega
    have hl64 : (hc (a.1.drop (m + 1)) b).len ≤ 64 := by omega
    have e1 : spec_l01Times P.p (pad (hc (a.1.drop (m + 1)) b).1) (pad b.1) = some (pad (hc (a.1.drop (m + 1)) b * b).1, true) :=
      times_pad (p := P.p) (by omega) (hc (a.1.drop (m + 1)) b).2 b.2 hl64 lb (by rcases hfit with h | h; exact .inl h; exact .inr (.inr h))
    have hml : (hc (a.1.drop (m + 1)) b * b).len ≤ 64 := by
      have h3 : (hc (a.1.drop (m + 1)) b * b).len ≤ (hc (a.1.drop (m + 1)) b).len + b.len - 1 := mul_len _ _ _
      omega
    have hc0 := (hc (a.1.drop (m + 1)) b * b).c_res 0
    have ei : ((m + 1 : Nat) : Int) - 1 = m := by omega
    have er := emod_res P.pos ((hc (a.1.drop (m + 1)) b * b).c 0 + rd a.1 m)
    have e0 : rd (pad (hc (a.1.drop (m + 1)) b * b).1).1 0 = (hc (a.1.drop (m + 1)) b * b).c 0 := rd_padl _ (by omega)
    have ev := vset_cst (hc (a.1.drop (m + 1)) b * b) hx hml
    rw [← hc_step] at ev
    have step : spec_ComposePolys_l1 P.p (pad b.1) (pad a.1) (m : Int) (pad (hc (a.1.drop (m + 1)) b).1) = some (.inl ((m : Int) - 1, pad (hc (a.1.drop m) b).1)) := by
      simp only [spec_ComposePolys_l1, letp, e1, Option.bind_some, Int.toNat_natCast, Int.toNat_zero, e0, rd_padl a.1 (show m < 64 by omega)]
      rw [if_pos (decide_eq_true (by omega)), ifp_pos (by omega), ifp_pos (by omega), ifp_pos (by omega), ifp_pos (by omega), wrap64 (n := PP.c _ 0) (by omega) (by omega), wrap64 (n := rd a.1 m) (by omega) (by omega), wrap64 (n := PP.c _ 0 + _) (by omega) (by omega), Int.tmod_eq_emod_of_nonneg (by omega), wrap8 er.1 (by omega), ev, wrap64 (n := (m : Int) - 1) (by omega) (by omega)]
    rw [loopM_eq, ei]
    simp only [step, Option.bind_some]
    exact compS_loop la lb hb hn m (by omega)
theorem compS {a b : PP P} (la : a.len ≤ 64) (lb : b.len ≤ 64) : spec_ComposePolys P.p (pad a.1) (pad b.1) = some (if (hc a.1 b).len ≤ 64 then (pad (hc a.1 b).1, 0) else (vrep 64 0, 3)) := by
  have hl : a.1.length = a.len := rfl
  have hp := P.two
  simp only [spec_ComposePolys, scode2, degP a la, degP b lb, Option.bind_some, bne_self_eq_false, Bool.false_eq_true, if_false]
  by_cases h0 : a.len = 0
  · have ha := len_zero.1 h0
    subst ha
    have e : hc (0 : PP P).1 b = 0 := rfl
    have e2 : pad (0 : PP P).1 = vrep 64 0 := pad_nil
    rw [if_pos (decide_eq_true (by omega)), e, if_pos (show (0 : PP P).len ≤ 64 from Nat.zero_le _), e2]
  · rw [if_neg (by rw [decide_eq_true_eq]; omega)]
    by_cases h1 : b.len ≤ 1
    · have hr := (hc a.1 b).c_res 0
      have hb0 := b.c_res 0
      have e0 : rd (pad b.1).1 0 = b.c 0 := rd_padl _ (by omega)
      have hlo := point_loop (a := a) (b := b) la 64 (Nat.le_refl _)
      rw [List.drop_of_length_le (by omega)] at hlo
      have hlo' : loopM (fun s : Int × Int => spec_l01Point_l1 (b.c 0) (pad a.1) P.p s.1 s.2) (0, 63) = some ((hc a.1 b).c 0) := hlo
      have h1' := hc_one h1 a.1
      rw [if_pos (decide_eq_true (by omega)), ifp_pos (by omega), if_pos (show (hc a.1 b).len ≤ 64 by omega)]
      simp only [Int.toNat_zero, e0, wrap64 (n := b.c 0) (by omega) (by omega), spec_l01Point, hlo', Option.bind_some]
      rw [wrap8 hr.1 (by omega), ← pad_cst h1']
    · have hmul : ((a.len : Int) - 1) * ((b.len : Int) - 1) = (((a.len - 1) * (b.len - 1) : Nat) : Int) := by
        rw [Int.natCast_mul, show ((a.len - 1 : Nat) : Int) = (a.len : Int) - 1 by omega, show ((b.len - 1 : Nat) : Int) = (b.len : Int) - 1 by omega]
      have hle : (a.len - 1) * (b.len - 1) ≤ 63 * 63 := Nat.mul_le_mul (by omega) (by omega)
      have hlen := hc_len (b := b) (by omega) a.1 a.2 (fun e => h0 (by have := congrArg List.length e; exact this))
      rw [hl] at hlen
      rw [if_neg (by rw [decide_eq_true_eq]; omega), hmul, wrap64 (by omega) (by omega)]
      by_cases hq : (a.len - 1) * (b.len - 1) ≤ 63
      · have hlo := compS_loop la lb (by omega) hq a.len (Nat.le_refl _)
        rw [List.drop_of_length_le (show a.1.length ≤ a.len from Nat.le_refl _)] at hlo
        have hlo' : loopM (fun s : Int × V64 => spec_ComposePolys_l1 P.p (pad b.1) (pad a.1) s.1 s.2) ((a.len : Int) - 1, vrep 64 0) = some (pad (hc a.1 b).1) := by
          rw [← pad_nil]; exact hlo
        rw [if_neg (by rw [decide_eq_true_eq]; omega), if_pos (show (hc a.1 b).len ≤ 64 by omega), hlo']
        rfl
      · rw [if_pos (decide_eq_true (by omega)), if_neg (show ¬ (hc a.1 b).len ≤ 64 by omega)]
/-- T put into a polynomial changes nothing. -/
theorem hc_T (a : PP P) : ∀ (n m : Nat), m + n = a.len → hc (a.1.drop m) ppT = pdrop a m
  | 0, m, h => by
    have hl : a.1.length = a.len := rfl
    rw [List.drop_of_length_le (by omega), pdrop_all a (by omega)]; rfl
  | n + 1, m, h => by
    rw [hc_step, hc_T a n (m + 1) (by omega), pdrop_step a m, ppring.mul_comm]
    rfl
theorem comp_T (a : PP P) : hc a.1 ppT = a := by
  have h := hc_T a a.len 0 (by omega)
  exact h.trans (pp_eq rfl)
theorem pad_T : vset (vset (vrep 64 0) 0 0) 1 1 = pad (ppT : PP P).1 := vec_ext fun j hj => by
  rw [rd_vset _ _ _ _ (by omega), rd_vset _ _ _ _ (by omega), rd_vrep _ hj, rd_padl _ hj]
  show _ = rd [0, 1] j
  by_cases h : j = 1
  · subst h; rfl
  · rw [if_neg h]
    by_cases h0 : j = 0
    · subst h0; rfl
    · rw [if_neg h0, rd_ge (l := [0, 1]) (show 2 ≤ j by omega)]
end Go.Proofs.Ytkbnegemdlnncaa
/- The polynomial with a number. -/
namespace Go.Proofs.Ytkbnegemdlnncaa
open Go.Abs

theorem numbered_loop {p : Nat} (hp : 2 ≤ p) : ∀ s : Int × List Int, (∃ n : Nat, s.1 = n ∧ s.2.length + n ≤ 1000000000000) → ∃ r, loopM (fun s : Int × List Int => impl_prime_numbered_l1 p s.1 s.2) s = some r ∧ ∀ n : Nat, s.1 = n → r = s.2 ++ digs p n := by
  refine loopM_ind (fun (s : Int × List Int) => ∃ n : Nat, s.1 = n ∧ s.2.length + n ≤ 1000000000000) (fun (s : Int × List Int) (r : List Int) => ∀ n : Nat, s.1 = n → r = s.2 ++ digs p n) (fun (s : Int × List Int) => s.1.toNat) ?_
  rintro ⟨x, l⟩ ⟨n, hx, h2⟩
  simp only at hx h2
  subst hx
  by_cases hn : n = 0
  · right
    subst hn
    refine ⟨l, by simp [impl_prime_numbered_l1], fun m hm => ?_⟩
    have : m = 0 := by simpa using hm.symm
    subst this
    rw [digs_zero]; simp
  · left
    have hlt : n / p < n := Nat.div_lt_self (by omega) hp
    have e1 : Int.tdiv (n : Int) p = ((n / p : Nat) : Int) := rfl
    have e2 : Int.tmod (n : Int) p = ((n % p : Nat) : Int) := rfl
    have ed := digs_pos hp (show 0 < n by omega)
    generalize n / p = q at hlt e1 ed
    generalize n % p = d at e2 ed
    refine ⟨((q : Int), l ++ [(d : Int)]), ?_, ⟨q, rfl, by simp only [List.length_append, List.length_singleton]; omega⟩, by simp only [Int.toNat_natCast]; exact hlt, fun r hr m hm => ?_⟩
    · simp only [impl_prime_numbered_l1]
      rw [if_pos (by simp; omega), ifp_pos (by omega), ifp_pos (by simp; omega), ifp_pos (by omega), e1, e2, wrap64 (by omega) (by omega)]
    · have : m = n := by have : (n : Int) = m := hm; omega
      subst this
      rw [hr q rfl, ed]
      simp

theorem numbered_is {p n : Nat} (hp : 2 ≤ p) (hn : n ≤ 1000000000000) : impl_prime_numbered p n = some (digs p n) := by
  obtain ⟨l, h3, h4⟩ := numbered_loop hp ((n : Int), []) ⟨n, rfl, by simp; omega⟩
  have e := h4 n rfl
  simp only [List.nil_append] at e
  simp [impl_prime_numbered, h3, e]

end Go.Proofs.Ytkbnegemdlnncaa
/- The polynomial of a number, in the reference. -/
namespace Go.Proofs.Ytkbnegemdlnncaa
open Go.Abs
theorem of_loop {p : Nat} (hp : 2 ≤ p) (hp2 : p ≤ 256) : ∀ s : Int × Int × V64, (∃ (n : Nat) (l : List Int), s.1 = n ∧ n ≤ 1000000000000 ∧ s.2.1 = (l.length : Nat) ∧ s.2.2 = pad l ∧ l.length + (digs p n).length ≤ 64) →
    ∃ r, loopM (fun s : Int × Int × V64 => spec_l01Of_l1 p s.1 s.2.1 s.2.2) s = some r ∧ ∀ (n : Nat) (l : List Int), s.1 = n → s.2.1 = (l.length : Nat) → s.2.2 = pad l → r = pad (l ++ digs p n) := by
  refine loopM_ind (fun (s : Int × Int × V64) => ∃ (n : Nat) (l : List Int), s.1 = n ∧ n ≤ 1000000000000 ∧ s.2.1 = (l.length : Nat) ∧ s.2.2 = pad l ∧ l.length + (digs p n).length ≤ 64)
    (fun (s : Int × Int × V64) (r : V64) => ∀ (n : Nat) (l : List Int), s.1 = n → s.2.1 = (l.length : Nat) → s.2.2 = pad l → r = pad (l ++ digs p n)) (fun (s : Int × Int × V64) => s.1.toNat) ?_
  rintro ⟨x, i, v⟩ ⟨n, l, hx, hn, hi, hv, hl⟩
  simp only at hx hi hv
  subst hx hi hv
  by_cases h : n = 0
  · right
    subst h
    refine ⟨pad l, by simp [spec_l01Of_l1], fun m k hm hk hv => ?_⟩
    have : m = 0 := by have : ((0 : Nat) : Int) = m := hm; omega
    subst this
    rw [digs_zero, List.append_nil]; exact hv
  · left
    have hlt : n / p < n := Nat.div_lt_self (by omega) hp
    have e1 : Int.tdiv (n : Int) p = ((n / p : Nat) : Int) := rfl
    have e2 : Int.tmod (n : Int) p = ((n % p : Nat) : Int) := rfl
    have ed := digs_pos hp (show 0 < n by omega)
    have hm := Nat.mod_lt n (show p > 0 by omega)
    generalize n / p = q at hlt e1 ed
    generalize n % p = d at e2 ed hm
    rw [ed] at hl
    simp only [List.length_cons] at hl
    refine ⟨((q : Int), ((l ++ [(d : Int)]).length : Nat), pad (l ++ [(d : Int)])), ?_, ⟨q, l ++ [(d : Int)], rfl, by omega, rfl, rfl, by simp; omega⟩, by simp only [Int.toNat_natCast]; exact hlt, fun r hr m k hm hk hv => ?_⟩
    · simp only [spec_l01Of_l1]
      rw [if_pos (by simp; omega), ifp_pos (by omega), ifp_pos (by omega), ifp_pos (by omega), e1, e2, wrap64 (by omega) (by omega), wrap64 (by omega) (by omega), wrap8 (by omega) (by omega)]
      rw [Int.toNat_natCast, pad_set l d (by omega)]
      simp
    · have : m = n := by have : (n : Int) = m := hm; omega
      subst this
      have h1 := hr q (l ++ [(d : Int)]) rfl rfl rfl
      rw [h1, ed]
      simp only at hv hk
      have hkl : k.length = l.length := by omega
      refine vec_ext fun j hj => ?_
      rw [pad_rd _ hj, pad_rd _ hj, List.append_assoc]
      simp only [List.singleton_append]
      have hv' : ∀ j, j < 64 → l.getD j 0 = k.getD j 0 := fun j hj => by
        have := congrArg (fun v : V64 => rd v.1 j) hv
        simp only [pad_rd _ hj] at this
        exact this
      rw [getD_app, getD_app, hkl]
      split
      · exact hv' j hj
      · rfl

theorem of_is {p n : Nat} (hp : 2 ≤ p) (hp2 : p ≤ 256) (hn : n ≤ 1000000000000) : spec_l01Of p n = some (pad (digs p n)) := by
  have hl := digs_len40 hp hn
  obtain ⟨r, h1, h2⟩ := of_loop hp hp2 ((n : Int), 0, pad []) ⟨n, [], rfl, hn, rfl, rfl, by simp; omega⟩
  have e := h2 n [] rfl rfl rfl
  simp only [spec_l01Of, ← pad_nil, h1, e, Option.bind_some, List.nil_append]
end Go.Proofs.Ytkbnegemdlnncaa
/- Powers of p, counted by the reference. -/
namespace Go.Proofs.Ytkbnegemdlnncaa
open Go.Abs
/-- p to a power, and one more than the greatest number if it is greater. -/
theorem count_is {p n : Nat} (hp : 2 ≤ p ∧ p ≤ 7) (hn : n ≤ 1000000) : ∃ c : Nat, spec_l01Count p n = some (c : Int) ∧ ((p ^ n ≤ 1000000000000 ∧ c = p ^ n) ∨ (1000000000000 < p ^ n ∧ c = 1000000000001)) := by
  have key : ∀ (m i : Nat), i + m = n → (i = 0 ∨ p ^ (i - 1) ≤ 1000000000000) → ∃ c : Nat, loopM (fun s : Int × Int => spec_l01Count_l1 p s.1 s.2) ((m : Int), ((p ^ i : Nat) : Int)) = some (c : Int) ∧ ((p ^ n ≤ 1000000000000 ∧ c = p ^ n) ∨ (1000000000000 < p ^ n ∧ 1000000000000 < c)) := by
    intro m
    induction m with
    | zero =>
      intro i hi hle
      have : i = n := by omega
      subst this
      have step : spec_l01Count_l1 p ((0 : Nat) : Int) ((p ^ i : Nat) : Int) = some (.inr ((p ^ i : Nat) : Int)) := by simp [spec_l01Count_l1]
      rw [loopM_eq]
      simp only [step, Option.bind_some]
      refine ⟨p ^ i, rfl, ?_⟩
      by_cases h : p ^ i ≤ 1000000000000
      · exact .inl ⟨h, rfl⟩
      · exact .inr ⟨by omega, by omega⟩
    | succ m ih =>
      intro i hi hle
      have hmono := ppow_mono hp.1 (show i ≤ n by omega)
      by_cases h : p ^ i ≤ 1000000000000
      · have hle2 := Nat.mul_le_mul h hp.2
        have e1 : ((p ^ i : Nat) : Int) * (p : Int) = ((p ^ (i + 1) : Nat) : Int) := by rw [Nat.pow_succ, Int.natCast_mul]
        have e2 : p ^ (i + 1) = p ^ i * p := Nat.pow_succ ..
        have e3 : IntKind.i64.wrap (((m + 1 : Nat) : Int) - 1) = (m : Int) := by rw [wrap64 (by omega) (by omega)]; omega
        have step : spec_l01Count_l1 p ((m + 1 : Nat) : Int) ((p ^ i : Nat) : Int) = some (.inl ((m : Int), ((p ^ (i + 1) : Nat) : Int))) := by
          simp only [spec_l01Count_l1]
          rw [if_pos (decide_eq_true (by omega)), e3, e1, wrap64 (n := ((p ^ (i + 1) : Nat) : Int)) (by omega) (by omega)]
          simp only [Option.bind_some]
          rw [if_pos (decide_eq_true (by omega))]
        rw [loopM_eq]
        simp only [step, Option.bind_some]
        exact ih (i + 1) (by omega) (.inr (by simp only [Nat.add_sub_cancel]; omega))
      · have step : spec_l01Count_l1 p ((m + 1 : Nat) : Int) ((p ^ i : Nat) : Int) = some (.inr ((p ^ i : Nat) : Int)) := by
          simp only [spec_l01Count_l1]
          rw [if_pos (decide_eq_true (by omega))]
          simp only [Option.bind_some]
          rw [if_neg (by rw [decide_eq_true_eq]; omega)]
        rw [loopM_eq]
        simp only [step, Option.bind_some]
        exact ⟨p ^ i, rfl, .inr ⟨by omega, by omega⟩⟩
  obtain ⟨c, h1, h2⟩ := key n 0 (by omega) (.inl rfl)
  simp only [Nat.pow_zero] at h1
  have h1' : loopM (fun s : Int × Int => spec_l01Count_l1 p s.1 s.2) ((n : Int), 1) = some (c : Int) := h1
  simp only [spec_l01Count, h1', Option.bind_some]
  rcases h2 with ⟨h2, h3⟩ | ⟨h2, h3⟩
  · exact ⟨c, by rw [if_neg (by omega)], .inl ⟨h2, h3⟩⟩
  · refine ⟨1000000000001, ?_, .inr ⟨h2, rfl⟩⟩
    split
    · rfl
    · congr 1; omega
end Go.Proofs.Ytkbnegemdlnncaa
/- Monic polynomials, in the program. -/
namespace Go.Proofs.Ytkbnegemdlnncaa
open Go.Abs

/-- The monic polynomials of degree d. -/
def monicL (p d : Nat) (n : Nat) : List (List Int) := (List.range n).map fun i => digs p (p ^ d + i)
theorem monics_is {p d : Nat} (hp : 2 ≤ p ∧ p ≤ 7) (hd : d ≤ 1000000) (hm : p ^ d ≤ 343) : impl_prime_monics p d = some (monicL p d (p ^ d)) := by
  obtain ⟨c, h1, h2, _⟩ := norm_is (n := d) (most := 343) hp hd (by omega)
  have hc : c = p ^ d := by omega
  subst hc
  have h1' : impl_prime_norm p d 343 = some ((p ^ d : Nat) : Int) := h1
  simp only [impl_prime_monics, h1', Option.bind_some]
  generalize hn : p ^ d = n at *
  obtain ⟨s, g1, g2⟩ := loopM_for (body := fun s : Int × List (List Int) => impl_prime_monics_l1 (n : Int) p s.1 s.2) (fun i s => ((i : Int), s)) (fun s => s) n
    (fun i s => s = (List.range i).map fun i => digs p (n + i)) (fun i s hi hI => by
      subst hI
      refine ⟨_, ?_, rfl⟩
      simp only [impl_prime_monics_l1]
      have e : IntKind.i64.wrap ((n : Int) + (i : Int)) = ((n + i : Nat) : Int) := by rw [wrap64 (by omega) (by omega)]; omega
      rw [if_pos (decide_eq_true (by omega)), e, numbered_is hp.1 (by omega)]
      simp only [Option.bind_some]
      rw [ifp_pos (by simp; omega), wrap64 (by omega) (by omega), List.range_succ, List.map_append]
      rfl) (fun s hI => by
      simp only [impl_prime_monics_l1]
      rw [if_neg (by rw [decide_eq_true_eq]; omega)]) n 0 [] (by omega) rfl
  have g1' : loopM (fun s : Int × List (List Int) => impl_prime_monics_l1 (n : Int) p s.1 s.2) (0, []) = some s := g1
  rw [g1', g2, monicL, hn]
  rfl
end Go.Proofs.Ytkbnegemdlnncaa
/- Digits of numbers, one by one. -/
namespace Go.Proofs.Ytkbnegemdlnncaa
open Go.Abs

theorem digs_rd {p : Nat} (hp : 2 ≤ p) : ∀ (j n : Nat), rd (digs p n) j = ((n / p ^ j % p : Nat) : Int)
  | 0, n => by
    rcases Nat.eq_zero_or_pos n with rfl | h
    · rw [digs_zero]; simp [rd]
    · rw [digs_pos hp h]; simp [rd]
  | j + 1, n => by
    rcases Nat.eq_zero_or_pos n with rfl | h
    · rw [digs_zero]; simp [rd]
    · rw [digs_pos hp h, rd_cons, digs_rd hp j, Nat.pow_succ, Nat.mul_comm (p ^ j), Nat.div_div_eq_div_mul]
end Go.Proofs.Ytkbnegemdlnncaa
/- Monic polynomials from their numbers. -/
namespace Go.Proofs.Ytkbnegemdlnncaa
open Go.Abs

theorem monic_pad {p n k : Nat} (hp : 2 ≤ p) (hn : n < 64) (hk : k < p ^ n) : vset (pad (digs p k)) n 1 = pad (digs p (p ^ n + k)) := by
  refine vec_ext fun j hj => ?_
  rw [rd_vset _ _ _ _ hn, rd_padl _ hj, rd_padl _ hj, digs_rd hp, digs_rd hp]
  have hpos : ∀ e, 0 < p ^ e := fun e => Nat.pow_pos (by omega)
  rcases Nat.lt_trichotomy j n with h | h | h
  · rw [if_neg (by omega)]
    have e1 : p ^ n = p ^ j * (p * p ^ (n - j - 1)) := by
      rw [← Nat.mul_assoc, ← Nat.pow_succ, ← Nat.pow_add]; congr 1; omega
    rw [e1, Nat.mul_add_div (hpos j), Nat.mul_add_mod]
  · subst h
    rw [if_pos rfl, Nat.add_div_left _ (hpos j), Nat.div_eq_of_lt hk]
    have : (0 + 1) % p = 1 := Nat.mod_eq_of_lt (by omega)
    simp [this]
  · rw [if_neg (by omega)]
    have h1 : p ^ n * 2 ≤ p ^ j := by
      have : p ^ (n + 1) ≤ p ^ j := Nat.pow_le_pow_right (by omega) h
      rw [Nat.pow_succ] at this
      have := Nat.mul_le_mul_left (p ^ n) hp
      omega
    rw [Nat.div_eq_of_lt (show k < p ^ j by omega), Nat.div_eq_of_lt (show p ^ n + k < p ^ j by omega)]
end Go.Proofs.Ytkbnegemdlnncaa
/- Rows as arrays, a list of them. -/
namespace Go.Proofs.Ytkbnegemdlnncaa
open Go.Abs
theorem polys_is {M : List (List Int)} (hM : M.length ≤ 1000000) (hb : ∀ l ∈ M, Bytes l ∧ l.length ≤ 64) : impl_polys M = some (M.map pad) := by
  obtain ⟨s, g1, g2⟩ := loopM_for (body := fun s : Int × List V64 => impl_polys_l1 M s.1 s.2) (fun i s => ((i : Int), s)) (fun s => s) M.length
    (fun i s => s = (M.take i).map pad) (fun i s hi hI => by
      subst hI
      have er : rd M i = M[i] := by simp [rd, hi]
      obtain ⟨h1, h2⟩ := hb M[i] (List.getElem_mem _)
      refine ⟨_, ?_, rfl⟩
      simp only [impl_polys_l1]
      rw [if_pos (decide_eq_true (by omega)), ifp_pos (by omega), Int.toNat_natCast, er, poly_is h1 h2]
      simp only [Option.bind_some]
      rw [ifp_pos (by simp; omega), wrap64 (by omega) (by omega), List.take_succ_eq_append_getElem hi, List.map_append]
      rfl) (fun s hI => by
      simp only [impl_polys_l1]
      rw [if_neg (by rw [decide_eq_true_eq]; omega)]) M.length 0 [] (by omega) rfl
  have g1' : loopM (fun s : Int × List V64 => impl_polys_l1 M s.1 s.2) (0, []) = some s := g1
  simp only [impl_polys, g1', g2, Option.bind_some, List.take_length]
end Go.Proofs.Ytkbnegemdlnncaa
/- MonicPolys: what both sides return. -/
namespace Go.Proofs.Ytkbnegemdlnncaa
open Go.Abs
theorem few_le {p n : Nat} (hp : 2 ≤ p) (h : p ^ n ≤ 343) : n ≤ 8 := by
  rcases Nat.lt_or_ge 8 n with h1 | h1
  · have h2 : p ^ 9 ≤ p ^ n := Nat.pow_le_pow_right (by omega) h1
    have h3 : 2 ^ 9 ≤ p ^ 9 := Nat.pow_le_pow_left hp 9
    have h4 : (2 : Nat) ^ 9 = 512 := by decide
    omega
  · exact h1
theorem monicPolys_both (p n : Int) : ∃ (l : List V64) (c : Int), spec_MonicPolys p n = some (l, c) ∧ impl_MonicPolys p n = some (l, c) ∧ l.length ≤ 343 := by
  unfold spec_MonicPolys impl_MonicPolys spec_l01In impl_within
  rw [isPrime_spec, isPrime_impl]
  simp only [Option.bind_some]
  cases hp : isP p with
  | false => exact ⟨[], 1, by simp, by simp, by simp⟩
  | true =>
    have hp2 := isP_pos hp
    obtain ⟨q, rfl⟩ : ∃ q : Nat, p = q := ⟨p.toNat, by omega⟩
    have hq : 2 ≤ q ∧ q ≤ 7 := by omega
    by_cases h1 : 0 ≤ n
    · by_cases h2 : n ≤ 63
      · obtain ⟨m, rfl⟩ : ∃ m : Nat, n = m := ⟨n.toNat, by omega⟩
        obtain ⟨c, h3, h4⟩ := count_is (n := m) hq (by omega)
        obtain ⟨d, h5, h6, _⟩ := norm_is (n := m) (most := 343) hq (by omega) (by omega)
        have h5' : impl_prime_norm q m 343 = some (d : Int) := h5
        simp only [Bool.not_true, Bool.false_eq_true, if_false, ge_iff_le, h1, h2, decide_true, if_true, Option.bind_some, h3, h5']
        by_cases h7 : q ^ m ≤ 343
        · have hm8 := few_le hq.1 h7
          have hc : c = q ^ m := by omega
          subst hc
          rw [if_neg (by rw [decide_eq_true_eq]; omega), if_neg (by rw [decide_eq_true_eq]; omega), monics_is hq (by omega) h7]
          simp only [Option.bind_some]
          rw [polys_is (by simp [monicL]; omega) (fun l hl => by
            simp only [monicL, List.mem_map, List.mem_range] at hl
            obtain ⟨i, hi, rfl⟩ := hl
            exact ⟨digs_bytes hq.1 (by omega), by rw [digs_monic_len hq.1 hi]; omega⟩)]
          refine ⟨(monicL q m (q ^ m)).map pad, 0, ?_, by simp, by simp [monicL]; omega⟩
          generalize hN : q ^ m = N at *
          obtain ⟨s, g1, g2⟩ := loopM_for (body := fun s : Int × List V64 => spec_MonicPolys_l1 q m s.1 s.2) (fun i s => ((i : Int), s)) (fun s => s) N
            (fun i s => s = (List.range i).map fun i => pad (digs q (N + i))) (fun i s hi hI => by
              subst hI
              refine ⟨_, ?_, rfl⟩
              simp only [spec_MonicPolys_l1, h3, Option.bind_some]
              rw [if_pos (decide_eq_true (by omega)), of_is hq.1 (by omega) (by omega)]
              simp only [Option.bind_some]
              rw [ifp_pos (by omega), ifp_pos (by simp; omega), wrap64 (by omega) (by omega), Int.toNat_natCast, monic_pad hq.1 (by omega) (by omega), hN, List.range_succ, List.map_append]
              rfl) (fun s hI => by
              simp only [spec_MonicPolys_l1, h3, Option.bind_some]
              rw [if_neg (by rw [decide_eq_true_eq]; omega)]) N 0 [] (by omega) rfl
          have g1' : loopM (fun s : Int × List V64 => spec_MonicPolys_l1 q m s.1 s.2) (0, []) = some s := g1
          rw [g1', g2, monicL, hN, List.map_map]
          rfl
        · rw [if_pos (decide_eq_true (by omega)), if_pos (decide_eq_true (by omega))]
          exact ⟨[], 3, rfl, rfl, by simp⟩
      · exact ⟨[], 2, by simp [h1, h2], by simp [h1, h2], by simp⟩
    · exact ⟨[], 2, by simp [h1], by simp [h1], by simp⟩

end Go.Proofs.Ytkbnegemdlnncaa
/- PolyOfNumber: what both sides return. -/
namespace Go.Proofs.Ytkbnegemdlnncaa
open Go.Abs
theorem polyOfNumber_both (p k : Int) : ∃ r, spec_PolyOfNumber p k = some r ∧ impl_PolyOfNumber p k = some r := by
  have key : ∃ r, spec_PolyOfNumber p k = some r ∧ impl_PolyOfNumber p k = some r := by
    unfold spec_PolyOfNumber impl_PolyOfNumber impl_isNumber spec_l01In impl_within
    rw [isPrime_spec, isPrime_impl]
    simp only [Option.bind_some]
    cases hp : isP p
    · exact ⟨_, by simp; rfl, by simp⟩
    · by_cases h1 : 0 ≤ k
      · by_cases h2 : k ≤ 1000000000000
        · obtain ⟨q, rfl⟩ : ∃ q : Nat, p = q := ⟨p.toNat, by simp [isP] at hp; omega⟩
          obtain ⟨n, rfl⟩ : ∃ n : Nat, k = n := ⟨k.toNat, by omega⟩
          have hq : 2 ≤ q ∧ q ≤ 256 := by simp [isP] at hp; omega
          have hn : n ≤ 1000000000000 := by omega
          have hl := digs_len40 hq.1 hn
          refine ⟨(pad (digs q n), 0), ?_, ?_⟩
          · simp [h2, of_is hq.1 hq.2 hn]
          · simp [h2, numbered_is hq.1 hn, told_is (digs_bytes hq.1 hq.2) (show (digs q n).length ≤ 64 by omega)]
        · exact ⟨_, by simp [h1, h2]; rfl, by simp [h1, h2]⟩
      · exact ⟨_, by simp [h1]; rfl, by simp [h1]⟩
  exact key
end Go.Proofs.Ytkbnegemdlnncaa
/- FnPowers. -/
namespace Go.Proofs.Ytkbnegemdlnncaa
open Go.Abs
theorem polys5_is {l : List V64} (hl : l.length ≤ 1000000) : laws_polys5 l l = some true := by
  obtain ⟨u, h1, _⟩ := loopM_for (body := fun s : Int => laws_polys5_l1 l l s) (fun i (_ : Unit) => (i : Int)) (fun _ => (.inl () : Unit ⊕ Bool)) l.length (fun _ _ => True) (fun i _ hi _ => by
    refine ⟨(), ?_, trivial⟩
    simp only [laws_polys5_l1]
    rw [if_pos (decide_eq_true (by omega)), ifp_pos (by omega), ifp_pos (by omega)]
    simp only [decide_true, Bool.not_true, Bool.false_eq_true, if_false]
    rw [wrap64 (by omega) (by omega)]
    rfl) (fun _ _ => by
    simp only [laws_polys5_l1]
    rw [if_neg (by rw [decide_eq_true_eq]; omega)]) l.length 0 () (by omega) trivial
  have h1' : loopM (fun s : Int => laws_polys5_l1 l l s) 0 = _ := h1
  simp only [laws_polys5, h1', Option.bind_some, bne_self_eq_false, Bool.false_eq_true, if_false]
theorem pow_part {p k : Int} {a m : V64} {v : V64} {e : Int} (h : e ≠ 0 ∨ (e = 0 ∧ ∃ (P : Pri) (A M : PP P) (n : Nat), p = P.p ∧ a = pad A.1 ∧ m = pad M.1 ∧ A.len ≤ 64 ∧ M.len ≤ 64 ∧ M ≠ 0 ∧ k = n ∧ n ≤ 1000000000000 ∧ v = pad (prem (pw A n) M).1)) :
    (Option.bind (α := Bool) ((if (e == 0) then (some ((decide (k < 1000)))) else (some false))) fun x62 => (if x62 then (Option.bind (impl_PowerOf p a k) fun r69 => (if (r69.2 == 0) then (Option.bind (impl_DividePolys p r69.1 m) fun r75 => (Option.bind (α := Bool) ((if (r75.2.2 != 0) then (some true) else (some ((!decide (r75.2.1 = v)))))) fun x82 => (if x82 then (some (.inr false)) else (some ((.inl ())))))) else (some ((.inl ()))))) else (some ((.inl ()))))) = (some (.inl ()) : Option (Unit ⊕ Bool)) := by
  rcases h with h | ⟨rfl, P, A, M, n, rfl, rfl, rfl, la, lm, h0, rfl, hn, rfl⟩
  · rw [if_neg (by rw [beq_iff_eq]; exact h)]
    simp only [Option.bind_some, Bool.false_eq_true, if_false]
  · rw [if_pos (show ((0 : Int) == 0) = true from rfl)]
    simp only [Option.bind_some]
    by_cases hk : (n : Int) < 1000
    · have hm0 : ¬ M.len = 0 := fun h => h0 (len_zero.1 h)
      rw [if_pos (decide_eq_true hk), powI_all la hn]
      simp only [Option.bind_some]
      split
      · rfl
      · split
        · rename_i hq
          rw [if_pos (show ((0 : Int) == 0) = true from rfl), divO hq lm, if_neg hm0]
          simp only [Option.bind_some, bne_self_eq_false, Bool.false_eq_true, if_false, decide_true, Bool.not_true]
        · rfl
    · rw [if_neg (by rw [decide_eq_true_eq]; exact hk)]
theorem comp_part {p : Int} {a b : V64} (ha : IsB a) (hb : IsB b) : ∃ (v : V64) (e : Int), impl_ComposePolys p a b = some (v, e) ∧ spec_ComposePolys p a b = some (v, e) ∧
    (if (e == 0) then (Option.bind (impl_ComposePolys p a ((vset (vset (vrep 64 (0 : Int)) 0 0) 1 1))) fun r136 => (Option.bind (α := Bool) ((if (r136.2 != 0) then (some true) else (some ((!decide (r136.1 = a)))))) fun x142 => (if x142 then (some (.inr false)) else (some ((.inl ())))))) else (some ((.inl ())))) = (some (.inl ()) : Option (Unit ⊕ Bool)) := by
  rcases two_or (p := p) ha hb with ⟨h1, h2⟩ | ⟨P, A, B, rfl, rfl, rfl, la, lb⟩
  · refine ⟨vrep 64 0, 1, ?_, ?_, rfl⟩
    · simp only [impl_ComposePolys, h1, Option.bind_some]; rfl
    · simp only [spec_ComposePolys, h2, Option.bind_some]; rfl
  · have eT : impl_ComposePolys P.p (pad A.1) (pad (ppT : PP P).1) = some (pad A.1, 0) := by
      rw [compI la (show (ppT : PP P).len ≤ 64 by show 2 ≤ 64; omega), comp_T, if_pos la]
    by_cases hq : (hc A.1 B).len ≤ 64
    · refine ⟨pad (hc A.1 B).1, 0, by rw [compI la lb, if_pos hq], by rw [compS la lb, if_pos hq], ?_⟩
      rw [pad_T (P := P), eT]
      simp only [beq_self_eq_true, if_true, Option.bind_some, bne_self_eq_false, Bool.false_eq_true, if_false, decide_true, Bool.not_true]
    · exact ⟨vrep 64 0, 3, by rw [compI la lb, if_neg hq], by rw [compS la lb, if_neg hq], rfl⟩
theorem fnPowers_law (c : List Int) (hb : ∀ x ∈ c, 0 ≤ x ∧ x < 256) (_ : c.length ≤ maxLen) : laws_FnPowers c = some true := by
  have big : laws_big c = some (decide ((c.length : Int) > 4096)) := rfl
  by_cases hbig : (c.length : Int) > 4096
  · simp only [laws_FnPowers, big, decide_eq_true hbig, Option.bind_some, if_true]
  · have hl : c.length ≤ 4096 := by omega
    obtain ⟨p, a, k, m, d1, ha, hm⟩ := drawPM_is hl hb
    obtain ⟨q, b, b2, d2, hb1, hb2⟩ := drawCompo_is hl hb
    obtain ⟨r, n, d3⟩ := drawMonic_is hl hb
    obtain ⟨s, u, l, d4, hu⟩ := drawPow_is hl hb
    obtain ⟨t, w, d5⟩ := drawPN_is hl hb
    obtain ⟨p6, a6, d6, ha6⟩ := drawPT_is hl hb
    obtain ⟨p7, t7, d7⟩ := drawParse_is hl hb
    obtain ⟨p8, a8, d8, ha8⟩ := drawDeg_is hl hb
    obtain ⟨v1, e1, i1, s1, f1⟩ := powmod_both (p := p) (k := k) ha hm
    have g1 := pow_part (p := p) (k := k) (a := a) (m := m) f1
    obtain ⟨v2, e2, i2, s2, g2⟩ := comp_part (p := q) hb1 hb2
    obtain ⟨v3, e3, s3, i3, h3⟩ := monicPolys_both r n
    obtain ⟨v4, e4, i4, s4⟩ := pow_both (p := s) (k := l) hu
    obtain ⟨r5, s5, i5⟩ := polyOfNumber_both t w
    obtain ⟨v6, e6, i6, s6⟩ := text_both (p := p6) ha6
    obtain ⟨v7, e7, i7, s7⟩ := parse_both p7 t7
    obtain ⟨v8, e8, i8, s8⟩ := degree_both (p := p8) ha8
    simp only [laws_FnPowers, big, decide_eq_false hbig, d1, d2, d3, d4, d5, d6, d7, d8, i1, s1, i2, s2, i3, s3, i4, s4, i5, s5, i6, s6, i7, s7, i8, s8, polys5_is (show v3.length ≤ 1000000 by omega), Option.bind_some, bne_self_eq_false, Bool.false_eq_true, if_false, decide_true, Bool.not_true, beq_self_eq_true, if_true, g1, g2]
end Go.Proofs.Ytkbnegemdlnncaa
