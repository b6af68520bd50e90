/- Own texts, put together. -/
import Derived.Test.YtkbnegemdlnncaaGreatAbsX
import Derived.Test.YtkbnegemdlnncaaGreatFn1
import Derived.Test.YtkbnegemdlnncaaGreatFn2
import Derived.Test.YtkbnegemdlnncaaGreatFn3
import Derived.Test.YtkbnegemdlnncaaGreatFn4
import Derived.Test.YtkbnegemdlnncaaGreatFn5
import Derived.Test.YtkbnegemdlnncaaGreatFn6
import Derived.Test.YtkbnegemdlnncaaGreatFn7
import Derived.Test.YtkbnegemdlnncaaGreatFn8
import Derived.Test.YtkbnegemdlnncaaGreatFn9
import Derived.Test.YtkbnegemdlnncaaGreatFn10
set_option linter.unusedSimpArgs false
set_option linter.unusedVariables false
/- Plain facts on loops and wraps. -/
namespace Go.Abs

/-- A loop with a measure ends, and what it leaves. -/
theorem loopM_ind {α β : Type} {body : α → Option (α ⊕ β)} (I : α → Prop) (Post : α → β → Prop) (m : α → Nat)
    (step : ∀ s, I s → (∃ s', body s = some (.inl s') ∧ I s' ∧ m s' < m s ∧ ∀ r, Post s' r → Post s r) ∨ ∃ r, body s = some (.inr r) ∧ Post s r) :
    ∀ s, I s → ∃ r, loopM body s = some r ∧ Post s r := by
  have key : ∀ n s, m s ≤ n → I s → ∃ r, loopM body s = some r ∧ Post s r := by
    intro n
    induction n with
    | zero =>
      intro s hn hs
      rcases step s hs with ⟨s', h1, h2, h3, h4⟩ | ⟨r, h1, h2⟩
      · omega
      · exact ⟨r, by rw [loopM_eq, h1]; rfl, h2⟩
    | succ n ih =>
      intro s hn hs
      rcases step s hs with ⟨s', h1, h2, h3, h4⟩ | ⟨r, h1, h2⟩
      · obtain ⟨r, k1, k2⟩ := ih s' (by omega) h2
        exact ⟨r, by rw [loopM_eq, h1]; exact k1, h4 r k2⟩
      · exact ⟨r, by rw [loopM_eq, h1]; rfl, h2⟩
  exact fun s hs => key (m s) s (Nat.le_refl _) hs

theorem wrap64 {n : Int} (h1 : -9223372036854775808 ≤ n) (h2 : n < 9223372036854775808) : IntKind.i64.wrap n = n := by
  simp only [IntKind.wrap, IntKind.signed, IntKind.bits]
  simp
  omega
theorem wrap8 {n : Int} (h1 : 0 ≤ n) (h2 : n < 256) : IntKind.u8.wrap n = n := by
  simp only [IntKind.wrap, IntKind.signed, IntKind.bits]
  simp
  omega

/-- A loop that counts from i to n. -/
theorem loopM_for {α β σ : Type} {body : α → Option (α ⊕ β)} (at' : Nat → σ → α) (out : σ → β) (n : Nat) (I : Nat → σ → Prop)
    (step : ∀ i s, i < n → I i s → ∃ s', body (at' i s) = some (.inl (at' (i + 1) s')) ∧ I (i + 1) s') (stop : ∀ s, I n s → body (at' n s) = some (.inr (out s))) :
    ∀ (m i : Nat) (s : σ), i + m = n → I i s → ∃ s', loopM body (at' i s) = some (out s') ∧ I n s'
  | 0, i, s, h, hI => by
    have : i = n := by omega
    subst this
    exact ⟨s, by rw [loopM_eq, stop s hI]; rfl, hI⟩
  | m + 1, i, s, h, hI => by
    obtain ⟨s', h1, h2⟩ := step i s (by omega) hI
    obtain ⟨s'', h3, h4⟩ := loopM_for at' out n I step stop m (i + 1) s' (by omega) h2
    exact ⟨s'', by rw [loopM_eq, h1]; exact h3, h4⟩
end Go.Abs
/- Plain facts on arrays of 64 numbers. -/
namespace Go.Abs

abbrev V64 := Vec Int 64
def pad (l : List Int) : V64 := ⟨(List.range 64).map fun j => l.getD j 0, by simp⟩

theorem pad_rd (l : List Int) {j : Nat} (h : j < 64) : rd (pad l).1 j = l.getD j 0 := by
  simp [rd, pad, h]
theorem vec_ext {n : Nat} {a b : Vec Int n} (h : ∀ j, j < n → rd a.1 j = rd b.1 j) : a = b := by
  apply Subtype.ext
  apply List.ext_getElem
  · rw [a.2, b.2]
  · intro j h1 h2
    have := h j (by rw [a.2] at h1; exact h1)
    simpa [rd, h1, h2] using this
theorem rd_vset {n : Nat} (a : Vec Int n) (i j : Nat) (d : Int) (hi : i < n) : rd (vset a i d).1 j = if j = i then d else rd a.1 j := by
  have hl : i < a.1.length := by rw [a.2]; exact hi
  by_cases h : j = i
  · subst h; simp [rd, vset, hl]
  · rw [if_neg h]
    simp [rd, vset, Ne.symm h]
theorem rd_vrep {n : Nat} (j : Nat) (h : j < n) : rd (vrep n (0 : Int)).1 j = 0 := by
  simp [rd, vrep, h]
theorem pad_nil : pad [] = vrep 64 0 := vec_ext fun j h => by rw [pad_rd _ h, rd_vrep _ h]; simp
theorem pad_set (l : List Int) (d : Int) (h : l.length < 64) : vset (pad l) l.length d = pad (l ++ [d]) := by
  refine vec_ext fun j hj => ?_
  rw [rd_vset _ _ _ _ h, pad_rd _ hj, pad_rd _ hj]
  by_cases e : j = l.length
  · subst e; simp
  · rw [if_neg e]
    rcases Nat.lt_or_ge j l.length with h1 | h1
    · simp [h1, List.getElem?_append]
    · have h2 : l.length < j := by omega
      have h3 : (l ++ [d]).length ≤ j := by simp; omega
      rw [List.getD_eq_getElem?_getD, List.getD_eq_getElem?_getD, List.getElem?_eq_none h1, List.getElem?_eq_none h3]

theorem getD_app (l k : List Int) (j : Nat) : (l ++ k).getD j 0 = if j < l.length then l.getD j 0 else k.getD (j - l.length) 0 := by
  simp only [List.getD_eq_getElem?_getD, List.getElem?_append]
  split <;> rfl

/-- Bytes. -/
def Bytes (l : List Int) : Prop := ∀ d ∈ l, 0 ≤ d ∧ d < 256
end Go.Abs
/- Polynomials: coefficient functions, and rows of coefficients up to the leading one. -/
namespace Go.Abs

/-! How far a row reaches. -/
def top (g : Nat → Int) : Nat → Nat
  | 0 => 0
  | n + 1 => if g n = 0 then top g n else n + 1
theorem top_le (g : Nat → Int) : ∀ n, top g n ≤ n
  | 0 => Nat.le_refl _
  | n + 1 => by simp only [top]; split; exact Nat.le_succ_of_le (top_le g n); exact Nat.le_refl _
theorem top_zero (g : Nat → Int) : ∀ n i, top g n ≤ i → i < n → g i = 0
  | 0, i, _, h => by omega
  | n + 1, i, h1, h2 => by
    simp only [top] at h1
    split at h1
    · rename_i e
      by_cases hi : i = n
      · subst hi; exact e
      · exact top_zero g n i h1 (by omega)
    · omega
theorem top_lead (g : Nat → Int) : ∀ n, top g n ≠ 0 → g (top g n - 1) ≠ 0
  | 0, h => by simp [top] at h
  | n + 1, h => by
    simp only [top] at h ⊢
    split
    · rename_i e; rw [if_pos e] at h; exact top_lead g n h
    · rename_i e; simpa using e
theorem top_congr {f g : Nat → Int} : ∀ n, (∀ i, i < n → f i = g i) → top f n = top g n
  | 0, _ => rfl
  | n + 1, h => by simp only [top]; rw [h n (by omega), top_congr n fun i hi => h i (by omega)]
/-- The leading place is told by what stands there and behind. -/
theorem top_is {g : Nat → Int} {n k : Nat} (hk : k ≤ n) (hz : ∀ i, k ≤ i → i < n → g i = 0) (hl : k ≠ 0 → g (k - 1) ≠ 0) : top g n = k := by
  rcases Nat.lt_trichotomy (top g n) k with h | h | h
  · have := top_zero g n (k - 1) (by omega) (by omega)
    exact absurd this (hl (by omega))
  · exact h
  · have h1 := top_lead g n (by omega)
    have h2 := top_le g n
    exact absurd (hz (top g n - 1) (by omega) (by omega)) h1
/-! Reading rows. -/
theorem rd_nil (i : Nat) : rd ([] : List Int) i = 0 := by simp [rd]
theorem rd_lt {l : List Int} {i : Nat} (h : i < l.length) : rd l i = l[i] := by simp [rd, h]
theorem rd_ge {l : List Int} {i : Nat} (h : l.length ≤ i) : rd l i = 0 := by simp [rd, h]
theorem rd_mem {l : List Int} {i : Nat} (h : i < l.length) : rd l i ∈ l := by rw [rd_lt h]; exact List.getElem_mem _
theorem rd_ext {a b : List Int} (hl : a.length = b.length) (h : ∀ i, i < a.length → rd a i = rd b i) : a = b := by
  apply List.ext_getElem hl
  intro i h1 h2
  have := h i h1
  rwa [rd_lt h1, rd_lt h2] at this
theorem rd_take (l : List Int) (k i : Nat) : rd (l.take k) i = if i < k then rd l i else 0 := by
  by_cases h : i < k
  · rw [if_pos h]
    by_cases hl : i < l.length
    · rw [rd_lt (by simp; omega), rd_lt hl]; simp
    · rw [rd_ge (by simp; omega), rd_ge (by omega)]
  · rw [if_neg h, rd_ge (by simp; omega)]
theorem rd_app (a b : List Int) (i : Nat) : rd (a ++ b) i = if i < a.length then rd a i else rd b (i - a.length) := by
  have := getD_app a b i
  exact this
theorem rd_set (l : List Int) (k : Nat) (d : Int) (i : Nat) (hk : k < l.length) : rd (l.set k d) i = if i = k then d else rd l i := by
  by_cases h : i = k
  · subst h; simp [rd, hk]
  · rw [if_neg h]; simp [rd, Ne.symm h]
theorem rd_rep (n i : Nat) : rd (List.replicate n (0 : Int)) i = 0 := by
  by_cases h : i < n
  · rw [rd_lt (by simpa using h)]; simp
  · rw [rd_ge (by simp; omega)]
theorem rd_padl (l : List Int) {j : Nat} (h : j < 64) : rd (pad l).1 j = rd l j := by rw [pad_rd _ h]; rfl
theorem rd_map {f : Nat → Int} (n i : Nat) : rd ((List.range n).map f) i = if i < n then f i else 0 := by
  by_cases h : i < n
  · rw [if_pos h, rd_lt (by simpa using h)]; simp
  · rw [if_neg h, rd_ge (by simp; omega)]

/-! Rows of functions. -/
def ofF (n : Nat) (f : Nat → Int) : List Int := (List.range (top f n)).map f
theorem ofF_len (n : Nat) (f : Nat → Int) : (ofF n f).length = top f n := by simp [ofF]
theorem rd_ofF {n : Nat} {f : Nat → Int} (hz : ∀ i, n ≤ i → f i = 0) (i : Nat) : rd (ofF n f) i = f i := by
  rw [ofF, rd_map]
  split
  · rfl
  · by_cases h : i < n
    · exact (top_zero f n i (by omega) h).symm
    · exact (hz i (by omega)).symm
theorem rd_ofF' {n : Nat} {f : Nat → Int} (i : Nat) : rd (ofF n f) i = if i < n then f i else 0 := by
  rw [ofF, rd_map]
  have := top_le f n
  by_cases h : i < n
  · rw [if_pos h]
    split
    · rfl
    · exact (top_zero f n i (by omega) h).symm
  · rw [if_neg h, if_neg (by omega)]
theorem ofF_congr {n : Nat} {f g : Nat → Int} (h : ∀ i, i < n → f i = g i) : ofF n f = ofF n g := by
  have e := top_congr n h
  have := top_le g n
  refine rd_ext (by rw [ofF_len, ofF_len, e]) fun i hi => ?_
  rw [rd_ofF', rd_ofF']
  split
  · exact h i (by assumption)
  · rfl
/-- A list without the zeros at its end. -/
theorem trim_eq (l : List Int) : l.take (top (rd l) l.length) = ofF l.length (rd l) := by
  have := top_le (rd l) l.length
  refine rd_ext (by rw [ofF_len]; simp; omega) fun i hi => ?_
  rw [rd_take, rd_ofF']
  simp at hi
  rw [if_pos (by omega), if_pos (by omega)]

/-- The coefficients of a polynomial modulo p, up to the leading one. -/
structure Row (p : Int) (l : List Int) : Prop where
  res : ∀ d ∈ l, 0 ≤ d ∧ d < p
  nrm : l.length ≠ 0 → rd l (l.length - 1) ≠ 0
theorem Row.rd {p : Int} {l : List Int} (h : Row p l) (hp : 0 < p) (i : Nat) : 0 ≤ rd l i ∧ rd l i < p := by
  by_cases hi : i < l.length
  · exact h.res _ (rd_mem hi)
  · rw [rd_ge (by omega)]; exact ⟨Int.le_refl _, hp⟩
theorem Row.bytes {p : Int} {l : List Int} (h : Row p l) (hp : p ≤ 256) : Bytes l := fun d hd => by have := h.res d hd; omega
theorem row_nil (p : Int) : Row p [] := ⟨by simp, by simp⟩
theorem row_ext {p q : Int} {a b : List Int} (ha : Row p a) (hb : Row q b) (h : ∀ i, rd a i = rd b i) : a = b := by
  have hl : a.length = b.length := by
    rcases Nat.lt_trichotomy a.length b.length with h1 | h1 | h1
    · have := hb.nrm (by omega)
      rw [← h, rd_ge (by omega)] at this
      exact absurd rfl this
    · exact h1
    · have := ha.nrm (by omega)
      rw [h, rd_ge (by omega)] at this
      exact absurd rfl this
  exact rd_ext hl fun i _ => h i
theorem row_ofF {p : Int} {n : Nat} {f : Nat → Int} (h : ∀ i, i < n → 0 ≤ f i ∧ f i < p) : Row p (ofF n f) := by
  have hle := top_le f n
  refine ⟨fun d hd => ?_, fun hn => ?_⟩
  · simp only [ofF, List.mem_map, List.mem_range] at hd
    obtain ⟨i, hi, rfl⟩ := hd
    exact h i (by omega)
  · rw [ofF_len] at hn ⊢
    rw [rd_ofF', if_pos (by omega)]
    exact top_lead f n hn
theorem Row.top {p : Int} {l : List Int} (h : Row p l) {n : Nat} (hn : l.length ≤ n) : top (Abs.rd l) n = l.length :=
  top_is hn (fun i h1 _ => rd_ge h1) h.nrm
theorem Row.ofF {p : Int} {l : List Int} (h : Row p l) {n : Nat} (hn : l.length ≤ n) : ofF n (Abs.rd l) = l := by
  refine rd_ext (by rw [ofF_len, h.top hn]) fun i hi => ?_
  rw [rd_ofF fun i hi => rd_ge (by omega)]
/-! Arrays and rows. -/
def row (v : V64) : List Int := ofF 64 (rd v.1)
/-- Coefficients from 0 to p - 1. -/
def Res (p : Int) (v : V64) : Prop := ∀ j, j < 64 → 0 ≤ rd v.1 j ∧ rd v.1 j < p
theorem row_row {p : Int} {v : V64} (h : Res p v) : Row p (row v) := row_ofF h
theorem row_len (v : V64) : (row v).length ≤ 64 := by rw [row, ofF_len]; exact top_le _ _
theorem pad_row (v : V64) : pad (row v) = v := vec_ext fun j hj => by rw [rd_padl _ hj, row, rd_ofF', if_pos hj]
theorem row_pad {p : Int} {l : List Int} (h : Row p l) (hl : l.length ≤ 64) : row (pad l) = l := by
  rw [row, ofF_congr (g := rd l) fun i hi => rd_padl l hi, h.ofF hl]
theorem res_pad {p : Int} {l : List Int} (h : Row p l) (hp : 0 < p) : Res p (pad l) := fun j hj => by rw [rd_padl _ hj]; exact h.rd hp j
theorem pad_inj {p q : Int} {a b : List Int} (ha : Row p a) (hb : Row q b) (h1 : a.length ≤ 64) (h2 : b.length ≤ 64) (h : pad a = pad b) : a = b := by
  rw [← row_pad ha h1, ← row_pad hb h2, h]

/-! Sums and products of coefficient functions. -/
def sumTo : Nat → (Nat → Int) → Int
  | 0, _ => 0
  | n + 1, f => sumTo n f + f n
theorem sumTo_congr {f g : Nat → Int} : ∀ n, (∀ i, i < n → f i = g i) → sumTo n f = sumTo n g
  | 0, _ => rfl
  | n + 1, h => by simp only [sumTo]; rw [sumTo_congr n fun i hi => h i (by omega), h n (by omega)]
theorem sumTo_zero {f : Nat → Int} : ∀ n, (∀ i, i < n → f i = 0) → sumTo n f = 0
  | 0, _ => rfl
  | n + 1, h => by simp only [sumTo]; rw [sumTo_zero n fun i hi => h i (by omega), h n (by omega)]; rfl
theorem sumTo_more {f : Nat → Int} {n : Nat} : ∀ m, (∀ i, n ≤ i → i < n + m → f i = 0) → sumTo (n + m) f = sumTo n f
  | 0, _ => rfl
  | m + 1, h => by
    rw [← Nat.add_assoc]
    simp only [sumTo]
    rw [sumTo_more m fun i h1 h2 => h i h1 (by omega), h (n + m) (by omega) (by omega), Int.add_zero]
/-- The summand that the first n coefficients give to a product. -/
def cv (a b : Nat → Int) (n k : Nat) : Int := sumTo n fun i => if i ≤ k then a i * b (k - i) else 0
theorem cv_succ (a b : Nat → Int) (n k : Nat) : cv a b (n + 1) k = cv a b n k + (if n ≤ k then a n * b (k - n) else 0) := rfl
def conv (a b : Nat → Int) (k : Nat) : Int := cv a b (k + 1) k
theorem cv_conv {a b : Nat → Int} {n : Nat} (hz : ∀ i, n ≤ i → a i = 0) (k : Nat) : cv a b n k = conv a b k := by
  unfold conv cv
  rcases Nat.le_total n (k + 1) with h | h
  · obtain ⟨m, e⟩ : ∃ m, k + 1 = n + m := ⟨k + 1 - n, by omega⟩
    rw [e]
    refine (sumTo_more m fun i h1 h2 => ?_).symm
    rw [hz i h1]; simp
  · obtain ⟨m, rfl⟩ : ∃ m, n = k + 1 + m := ⟨n - (k + 1), by omega⟩
    exact sumTo_more m fun i h1 h2 => if_neg (by omega)
theorem conv_zero {a b : Nat → Int} {n m : Nat} (ha : ∀ i, n ≤ i → a i = 0) (hb : ∀ i, m ≤ i → b i = 0) {k : Nat} (hk : n + m ≤ k + 1) : conv a b k = 0 := by
  refine sumTo_zero _ fun i hi => ?_
  rw [if_pos (by omega)]
  by_cases h : i < n
  · rw [hb (k - i) (by omega), Int.mul_zero]
  · rw [ha i (by omega), Int.zero_mul]
/-- The leading coefficient of a product. -/
theorem conv_lead {a b : Nat → Int} {n m : Nat} (ha : ∀ i, n < i → a i = 0) (hb : ∀ i, m < i → b i = 0) : conv a b (n + m) = a n * b m := by
  have h1 : conv a b (n + m) = cv a b (n + 1) (n + m) := (cv_conv (fun i hi => ha i (by omega)) _).symm
  rw [h1]
  unfold cv
  simp only [sumTo]
  rw [sumTo_zero n fun i hi => ?_, if_pos (by omega), show n + m - n = m by omega, Int.zero_add]
  rw [if_pos (by omega), hb _ (by omega), Int.mul_zero]

/-! Operations on rows. -/
def comb (p : Int) (a b : List Int) (k : Int) : List Int := ofF (max a.length b.length) fun i => (rd a i + k * rd b i) % p
def mul (p : Int) (a b : List Int) : List Int := ofF (a.length + b.length - 1) fun i => conv (rd a) (rd b) i % p

theorem emod_res {p : Int} (hp : 0 < p) (x : Int) : 0 ≤ x % p ∧ x % p < p := ⟨Int.emod_nonneg _ (by omega), Int.emod_lt_of_pos _ hp⟩
theorem comb_row {p : Int} (hp : 0 < p) (a b : List Int) (k : Int) : Row p (comb p a b k) := row_ofF fun _ _ => emod_res hp _
theorem mul_row {p : Int} (hp : 0 < p) (a b : List Int) : Row p (mul p a b) := row_ofF fun _ _ => emod_res hp _
theorem comb_rd (p : Int) (a b : List Int) (k : Int) (i : Nat) : rd (comb p a b k) i = (rd a i + k * rd b i) % p := by
  refine rd_ofF (fun i hi => ?_) i
  rw [rd_ge (by omega), rd_ge (by omega)]; simp
theorem mul_rd (p : Int) (a b : List Int) (i : Nat) : rd (mul p a b) i = conv (rd a) (rd b) i % p := by
  refine rd_ofF (fun i hi => ?_) i
  rw [conv_zero (n := a.length) (m := b.length) (fun i hi => rd_ge hi) (fun i hi => rd_ge hi) (by omega)]; simp
theorem comb_len (p : Int) (a b : List Int) (k : Int) : (comb p a b k).length ≤ max a.length b.length := by rw [comb, ofF_len]; exact top_le _ _
theorem mul_len (p : Int) (a b : List Int) : (mul p a b).length ≤ a.length + b.length - 1 := by rw [mul, ofF_len]; exact top_le _ _
theorem mul_nil (p : Int) (b : List Int) : mul p [] b = [] := by
  have h : ∀ i, conv (rd []) (rd b) i = 0 := fun i => sumTo_zero _ fun j _ => by rw [rd_nil]; simp
  have : (mul p [] b).length = 0 := by
    rw [mul, ofF_len]
    exact top_is (Nat.zero_le _) (fun i _ _ => by rw [h]; simp) (by simp)
  exact List.eq_nil_of_length_eq_zero this
theorem mul_nil' (p : Int) (a : List Int) : mul p a [] = [] := by
  have h : ∀ i, conv (rd a) (rd []) i = 0 := fun i => sumTo_zero _ fun j _ => by rw [rd_nil]; simp
  have : (mul p a []).length = 0 := by
    rw [mul, ofF_len]
    exact top_is (Nat.zero_le _) (fun i _ _ => by rw [h]; simp) (by simp)
  exact List.eq_nil_of_length_eq_zero this

/-! Small primes. -/
def isP (p : Int) : Bool := p == 2 || p == 3 || p == 5 || p == 7
theorem isP_iff {p : Int} : isP p = true ↔ p = 2 ∨ p = 3 ∨ p = 5 ∨ p = 7 := by
  simp [isP, or_assoc]
theorem isP_pos {p : Int} (h : isP p = true) : 2 ≤ p ∧ p ≤ 7 := by
  rcases isP_iff.1 h with rfl | rfl | rfl | rfl <;> omega
theorem noz2 : ∀ x y : Fin 2, x ≠ 0 → y ≠ 0 → (x.1 * y.1) % 2 ≠ 0 := by decide
theorem noz3 : ∀ x y : Fin 3, x ≠ 0 → y ≠ 0 → (x.1 * y.1) % 3 ≠ 0 := by decide
theorem noz5 : ∀ x y : Fin 5, x ≠ 0 → y ≠ 0 → (x.1 * y.1) % 5 ≠ 0 := by decide
theorem noz7 : ∀ x y : Fin 7, x ≠ 0 → y ≠ 0 → (x.1 * y.1) % 7 ≠ 0 := by decide
theorem noz_of {n : Nat} (hn : 0 < n) (h : ∀ x y : Fin n, x.1 ≠ 0 → y.1 ≠ 0 → (x.1 * y.1) % n ≠ 0) {x y : Int} (hx : 0 < x ∧ x < n) (hy : 0 < y ∧ y < n) : x * y % n ≠ 0 := by
  obtain ⟨a, rfl⟩ : ∃ a : Nat, x = a := ⟨x.toNat, by omega⟩
  obtain ⟨b, rfl⟩ : ∃ b : Nat, y = b := ⟨y.toNat, by omega⟩
  have := h ⟨a, by omega⟩ ⟨b, by omega⟩ (by simp; omega) (by simp; omega)
  simp only at this
  rw [← Int.natCast_mul, ← Int.natCast_emod]
  omega
theorem noz {p : Int} (hp : isP p = true) {x y : Int} (hx : 0 ≤ x ∧ x < p) (hy : 0 ≤ y ∧ y < p) (h1 : x ≠ 0) (h2 : y ≠ 0) : x * y % p ≠ 0 := by
  rcases isP_iff.1 hp with rfl | rfl | rfl | rfl
  · exact noz_of (n := 2) (by omega) (fun x y a b => noz2 x y (fun e => a (by rw [e]; rfl)) (fun e => b (by rw [e]; rfl))) ⟨by omega, hx.2⟩ ⟨by omega, hy.2⟩
  · exact noz_of (n := 3) (by omega) (fun x y a b => noz3 x y (fun e => a (by rw [e]; rfl)) (fun e => b (by rw [e]; rfl))) ⟨by omega, hx.2⟩ ⟨by omega, hy.2⟩
  · exact noz_of (n := 5) (by omega) (fun x y a b => noz5 x y (fun e => a (by rw [e]; rfl)) (fun e => b (by rw [e]; rfl))) ⟨by omega, hx.2⟩ ⟨by omega, hy.2⟩
  · exact noz_of (n := 7) (by omega) (fun x y a b => noz7 x y (fun e => a (by rw [e]; rfl)) (fun e => b (by rw [e]; rfl))) ⟨by omega, hx.2⟩ ⟨by omega, hy.2⟩
theorem mul_len_is {p : Int} (hp : isP p = true) {a b : List Int} (ha : Row p a) (hb : Row p b) (h1 : a.length ≠ 0) (h2 : b.length ≠ 0) : (mul p a b).length = a.length + b.length - 1 := by
  have hp2 := isP_pos hp
  rw [mul, ofF_len]
  refine top_is (Nat.le_refl _) (fun i h3 h4 => by omega) fun _ => ?_
  have e : a.length + b.length - 1 - 1 = (a.length - 1) + (b.length - 1) := by omega
  rw [e, conv_lead (fun i hi => rd_ge (by omega)) (fun i hi => rd_ge (by omega))]
  exact noz hp (ha.rd (by omega) _) (hb.rd (by omega) _) (ha.nrm h1) (hb.nrm h2)
end Go.Abs
/- Draws: the source of numbers, in the reference. -/
namespace Go.Proofs.YtkbnegemdlnncaaGreat
open Go.Abs
abbrev Src := List Int × Int × Int
structure SrcOk (s : Src) : Prop where
  len : s.1.length ≤ 8192
  bytes : ∀ x ∈ s.1, 0 ≤ x ∧ x < 256
  at' : 0 ≤ s.2.1 ∧ s.2.1 ≤ 8192
theorem mask_is (b : BitVec 64) : ∃ k : Nat, k ≤ 16777215 ∧ IntKind.u64.wrap ((b &&& BitVec.ofInt 64 16777215).toNat : Int) = (k : Int) := by
  refine ⟨(b &&& BitVec.ofInt 64 16777215).toNat, ?_, ?_⟩
  · rw [BitVec.toNat_and]
    exact Nat.le_trans Nat.and_le_right (by decide)
  · have h : (b &&& BitVec.ofInt 64 16777215).toNat ≤ 16777215 := by
      rw [BitVec.toNat_and]
      exact Nat.le_trans Nat.and_le_right (by decide)
    generalize (b &&& BitVec.ofInt 64 16777215).toNat = q at h
    simp only [IntKind.wrap, IntKind.signed, IntKind.bits]
    simp
    omega
theorem next_is {s : Src} (h : SrcOk s) {n : Int} (hn : n ≤ 4611686018427387904) : ∃ (r : Int) (s' : Src), spec_l01Next_of_src s n = some (r, s') ∧ SrcOk s' ∧ 0 ≤ r ∧ (1 ≤ n → r < n) ∧ (n < 1 → r = 0) := by
  by_cases h1 : n < 1
  · refine ⟨0, s, ?_, h, by omega, fun h2 => by omega, fun _ => rfl⟩
    simp only [spec_l01Next_of_src]
    rw [if_pos (decide_eq_true h1)]
  · obtain ⟨y, hy⟩ : ∃ y, IntKind.u64.wrap (IntKind.u64.wrap (s.2.2 * 6364136223846793005) + 1442695040888963407) = y := ⟨_, rfl⟩
    obtain ⟨k, k1, k2⟩ := mask_is (BitVec.ofInt 64 (Int.fdiv y (2 ^ (min (33 : Int).toNat 64))))
    have k2' : IntKind.u64.wrap (BitVec.ofInt IntKind.u64.bits (Int.fdiv y (2 ^ (min (33 : Int).toNat IntKind.u64.bits))) &&& BitVec.ofInt IntKind.u64.bits 16777215).toNat = (k : Int) := k2
    obtain ⟨hl, hb, ha⟩ := h
    by_cases h2 : s.2.1 < (s.1.length : Int)
    · have hm : rd s.1 s.2.1.toNat ∈ s.1 := by
        have : s.2.1.toNat < s.1.length := by omega
        simp [rd, this]
      have hbb := hb _ hm
      refine ⟨Int.tmod (k + rd s.1 s.2.1.toNat) n, (s.1, s.2.1 + 1, y), ?_, ⟨hl, hb, by simp only; omega⟩, ?_, fun _ => ?_, fun h3 => absurd h3 h1⟩
      · simp only [spec_l01Next_of_src, letp, hy, k2']
        rw [if_neg (by rw [decide_eq_true_eq]; exact h1), if_pos (decide_eq_true h2), ifp_pos (by omega), wrap64 (n := (k : Int)) (by omega) (by omega), wrap64 (n := rd s.1 s.2.1.toNat) (by omega) (by omega), wrap64 (by omega) (by omega), wrap64 (by omega) (by omega)]
        simp only [Option.bind_some]
        rw [ifp_pos (by omega)]
      · rw [Int.tmod_eq_emod_of_nonneg (by omega)]; exact Int.emod_nonneg _ (by omega)
      · rw [Int.tmod_eq_emod_of_nonneg (by omega)]; exact Int.emod_lt_of_pos _ (by omega)
    · refine ⟨Int.tmod k n, (s.1, s.2.1, y), ?_, ⟨hl, hb, ha⟩, ?_, fun _ => ?_, fun h3 => absurd h3 h1⟩
      · simp only [spec_l01Next_of_src, letp, hy, k2']
        rw [if_neg (by rw [decide_eq_true_eq]; exact h1), if_neg (by rw [decide_eq_true_eq]; exact h2), wrap64 (n := (k : Int)) (by omega) (by omega)]
        simp only [Option.bind_some]
        rw [ifp_pos (by omega)]
      · rw [Int.tmod_eq_emod_of_nonneg (by omega)]; exact Int.emod_nonneg _ (by omega)
      · rw [Int.tmod_eq_emod_of_nonneg (by omega)]; exact Int.emod_lt_of_pos _ (by omega)
theorem pick_is {s : Src} (h : SrcOk s) {l : List Int} (h0 : l ≠ []) (hl : l.length ≤ 1000) : ∃ (r : Int) (s' : Src), spec_l01Pick_of_src s l = some (r, s') ∧ SrcOk s' ∧ r ∈ l := by
  have hp : 1 ≤ l.length := by
    cases l with
    | nil => exact absurd rfl h0
    | cons _ _ => simp
  obtain ⟨r, s', h1, h2, h3, h4, _⟩ := next_is h (n := (l.length : Int)) (by omega)
  have h5 := h4 (by omega)
  refine ⟨rd l r.toNat, s', ?_, h2, ?_⟩
  · simp only [spec_l01Pick_of_src, h1, Option.bind_some]
    rw [ifp_pos (by omega)]
  · have : r.toNat < l.length := by omega
    simp [rd, this]
end Go.Proofs.YtkbnegemdlnncaaGreat
/- The source of a code. -/
namespace Go.Proofs.YtkbnegemdlnncaaGreat
open Go.Abs
theorem from_step {c : List Int} (hl : c.length ≤ 8192) {i : Nat} (hi : i < min c.length 4096) (s : Src) : ∃ W, spec_l01From_l1 c (i : Int) s = some (.inl (((i + 1 : Nat) : Int), (s.1, s.2.1, W))) := by
  have h1 : decide ((i : Int) < (c.length : Int)) = true := decide_eq_true (by omega)
  have h2 : decide ((i : Int) < 4096) = true := decide_eq_true (by omega)
  have h3 : IntKind.i64.wrap ((i : Int) + 1) = ((i + 1 : Nat) : Int) := by rw [wrap64 (by omega) (by omega)]; rfl
  have h4 : 0 ≤ (i : Int) ∧ (i : Int) < ((c.length : Nat) : Int) := by omega
  simp only [spec_l01From_l1, letp, h1, h2, h3, Option.bind_some, if_true]
  rw [ifp_pos h4]
  exact ⟨_, rfl⟩
theorem from_stop {c : List Int} (s : Src) : spec_l01From_l1 c ((min c.length 4096 : Nat) : Int) s = some (.inr s) := by
  by_cases h : c.length ≤ 4096
  · have h1 : decide (((min c.length 4096 : Nat) : Int) < (c.length : Int)) = false := decide_eq_false (by omega)
    simp only [spec_l01From_l1, h1, Bool.false_eq_true, if_false, Option.bind_some]
  · have h1 : decide (((min c.length 4096 : Nat) : Int) < (c.length : Int)) = true := decide_eq_true (by omega)
    have h2 : decide (((min c.length 4096 : Nat) : Int) < 4096) = false := decide_eq_false (by omega)
    simp only [spec_l01From_l1, h1, h2, Bool.false_eq_true, if_true, if_false, Option.bind_some]
theorem from_loop {c : List Int} (hl : c.length ≤ 8192) (y : Int) : ∃ W, loopM (fun s : Int × Src => spec_l01From_l1 c s.1 s.2) (0, (c, (0 : Int), y)) = some (c, (0 : Int), W) := by
  obtain ⟨s, h1, h2⟩ := loopM_for (body := fun s : Int × Src => spec_l01From_l1 c s.1 s.2) (fun i s => ((i : Int), s)) (fun s => s) (min c.length 4096)
    (fun _ s => s.1 = c ∧ s.2.1 = 0) (fun i s hi hI => by
      obtain ⟨W, hW⟩ := from_step hl hi s
      exact ⟨_, hW, hI⟩) (fun s _ => from_stop s) (min c.length 4096) 0 (c, 0, y) (by omega) ⟨rfl, rfl⟩
  obtain ⟨a, b, W⟩ := s
  obtain ⟨rfl, rfl⟩ : a = c ∧ b = 0 := h2
  exact ⟨W, h1⟩
theorem from_more {c : List Int} (hl : c.length ≤ 8192) (hb : ∀ x ∈ c, 0 ≤ x ∧ x < 256) : ∃ s, spec_l01From c = some s ∧ SrcOk s := by
  have key : ∀ y : Int, ∃ s : Src, (Option.bind (loopM (fun s : Int × Src => spec_l01From_l1 c s.1 s.2) (0, (c, (0 : Int), y))) fun x66 => some x66) = some s ∧ SrcOk s := fun y => by
    obtain ⟨W, hW⟩ := from_loop hl y
    exact ⟨(c, 0, W), by rw [hW, Option.bind_some], ⟨hl, hb, ⟨Int.le_refl 0, show (0 : Int) ≤ 8192 by omega⟩⟩⟩
  exact key _
theorem from_is {c : List Int} (hl : c.length ≤ 4096) (hb : ∀ x ∈ c, 0 ≤ x ∧ x < 256) : ∃ s, spec_l01From c = some s ∧ SrcOk s := from_more (by omega) hb
end Go.Proofs.YtkbnegemdlnncaaGreat
/- Rows without the zeros at their ends. -/
namespace Go.Proofs.YtkbnegemdlnncaaGreat
open Go.Abs

def IsB (v : V64) : Prop := ∀ d ∈ v.1, 0 ≤ d ∧ d < 256

theorem IsB.rd {v : V64} (h : IsB v) {j : Nat} (hj : j < 64) : 0 ≤ rd v.1 j ∧ rd v.1 j < 256 := by
  have hl : j < v.1.length := by rw [v.2]; exact hj
  have : Abs.rd v.1 j = v.1[j] := by simp [Abs.rd, hl]
  rw [this]; exact h _ (List.getElem_mem _)

theorem trimmed_loop {l : List Int} (hl : l.length ≤ 1000000) : ∀ s : Int, (∃ i : Nat, s = i ∧ i ≤ l.length) → ∃ r, loopM (fun s : Int => impl_row_trimmed_l1 l s) s = some r ∧ ∀ i : Nat, s = i → r = (top (rd l) i : Int) := by
  refine loopM_ind (fun (s : Int) => ∃ i : Nat, s = i ∧ i ≤ l.length) (fun (s : Int) (r : Int) => ∀ i : Nat, s = i → r = (top (rd l) i : Int)) (fun s => s.toNat) ?_
  rintro s ⟨i, rfl, hi⟩
  match i with
  | 0 =>
    right
    refine ⟨0, by simp [impl_row_trimmed_l1], fun k hk => ?_⟩
    have : k = 0 := by omega
    subst this; simp [top]
  | i + 1 =>
    have e1 : IntKind.i64.wrap (((i + 1 : Nat) : Int) - 1) = (i : Int) := by rw [wrap64 (by omega) (by omega)]; omega
    by_cases e : rd l i = 0
    · left
      refine ⟨(i : Int), ?_, ⟨i, rfl, by omega⟩, by omega, fun r hr k hk => ?_⟩
      · simp only [impl_row_trimmed_l1, e1]
        rw [if_pos (by simp), ifp_pos (by omega)]
        simp [e]
      · have : k = i + 1 := by omega
        subst this
        rw [hr i rfl]; simp [top, e]
    · right
      refine ⟨((i + 1 : Nat) : Int), ?_, fun k hk => ?_⟩
      · simp only [impl_row_trimmed_l1, e1]
        rw [if_pos (by simp), ifp_pos (by omega)]
        simp [e]
      · have : k = i + 1 := by omega
        subst this
        simp [top, e]

theorem trimmed_is {l : List Int} (hl : l.length ≤ 1000000) : impl_row_trimmed l = some (l.take (top (rd l) l.length)) := by
  obtain ⟨r, h1, h2⟩ := trimmed_loop hl (l.length : Nat) ⟨l.length, rfl, Nat.le_refl _⟩
  rw [h2 _ rfl] at h1
  have := top_le (rd l) l.length
  simp only [impl_row_trimmed, h1, Option.bind_some]
  rw [ifp_pos (by omega)]
  simp

end Go.Proofs.YtkbnegemdlnncaaGreat
/- Draws of polynomials. -/
namespace Go.Proofs.YtkbnegemdlnncaaGreat
open Go.Abs
theorem wrap8_res (x : Int) : 0 ≤ IntKind.u8.wrap x ∧ IntKind.u8.wrap x < 256 := by
  simp only [IntKind.wrap, IntKind.signed, IntKind.bits]
  simp
  omega
theorem isb_vset {v : V64} (h : IsB v) (k : Nat) {x : Int} (hx : 0 ≤ x ∧ x < 256) : IsB (vset v k x) := fun d hd => by
  have hd' : d ∈ v.1.set k x := hd
  rcases List.mem_or_eq_of_mem_set hd' with h1 | rfl
  · exact h d h1
  · exact hx
theorem isb_zero : IsB (vrep 64 0) := fun d hd => by
  have : d ∈ List.replicate 64 (0 : Int) := hd
  rw [List.eq_of_mem_replicate this]; omega
theorem draw_loop {p : Int} (hp : p ≤ 1000) : ∀ (m : Nat) (i : Int) (v : V64) (s : Src), i + 1 = m → i ≤ 63 → IsB v → SrcOk s →
    ∃ (v' : V64) (s' : Src), loopM (fun s : Int × V64 × Src => spec_l01Draw_of_src_l1 p s.1 s.2.1 s.2.2) (i, v, s) = some (v', s') ∧ IsB v' ∧ SrcOk s'
  | 0, i, v, s, hi, _, hv, hs => by
    have h0 : decide (i ≥ 0) = false := decide_eq_false (by omega)
    refine ⟨v, s, ?_, hv, hs⟩
    rw [loopM_eq]
    simp only [spec_l01Draw_of_src_l1, h0, Bool.false_eq_true, if_false, Option.bind_some]
  | m + 1, i, v, s, hi, h63, hv, hs => by
    have h0 : decide (i ≥ 0) = true := decide_eq_true (by omega)
    have ew : IntKind.i64.wrap (i - 1) = i - 1 := wrap64 (by omega) (by omega)
    obtain ⟨r, s1, k1, k2, _⟩ := next_is hs (n := 3) (by omega)
    rw [loopM_eq]
    simp only [spec_l01Draw_of_src_l1, h0, if_true, k1, Option.bind_some, ew]
    by_cases hr : r > 0
    · obtain ⟨x, s2, k3, k4, _⟩ := next_is k2 (n := p) (by omega)
      obtain ⟨v', s', k5, k6, k7⟩ := draw_loop hp m (i - 1) (vset v i.toNat (IntKind.u8.wrap x)) s2 (by omega) (by omega) (isb_vset hv _ (wrap8_res x)) k4
      refine ⟨v', s', ?_, k6, k7⟩
      simp only [decide_eq_true hr, if_true, k3, Option.bind_some]
      rw [ifp_pos (by omega)]
      simp only [Option.bind_some]
      exact k5
    · obtain ⟨v', s', k5, k6, k7⟩ := draw_loop hp m (i - 1) v s1 (by omega) (by omega) hv k2
      refine ⟨v', s', ?_, k6, k7⟩
      simp only [decide_eq_false hr, Bool.false_eq_true, if_false, Option.bind_some]
      exact k5
theorem draw_ge {s : Src} (h : SrcOk s) {p most : Int} (hp : p ≤ 1000) (h0 : -1 ≤ most) (h63 : most ≤ 63) : ∃ (v : V64) (s' : Src), spec_l01Draw_of_src s p most = some (v, s') ∧ SrcOk s' ∧ IsB v := by
  have ew : IntKind.i64.wrap (most + 2) = most + 2 := wrap64 (by omega) (by omega)
  obtain ⟨r, s1, k1, k2, k3, k4, _⟩ := next_is h (n := most + 2) (by omega)
  have k4 := k4 (by omega)
  have ew2 : IntKind.i64.wrap (r - 1) = r - 1 := wrap64 (by omega) (by omega)
  obtain ⟨v', s', g1, g2, g3⟩ := draw_loop hp r.toNat (r - 1) (vrep 64 0) s1 (by omega) (by omega) isb_zero k2
  refine ⟨v', s', ?_, g3, g2⟩
  simp only [spec_l01Draw_of_src, ew, k1, Option.bind_some, ew2, g1]
theorem draw_is {s : Src} (h : SrcOk s) {p most : Int} (hp : p ≤ 1000) (h0 : 0 ≤ most) (h63 : most ≤ 63) : ∃ (v : V64) (s' : Src), spec_l01Draw_of_src s p most = some (v, s') ∧ SrcOk s' ∧ IsB v := draw_ge h hp (by omega) h63
theorem bad_is {s : Src} (h : SrcOk s) (p : Int) {v : V64} (hv : IsB v) : ∃ (v' : V64) (s' : Src), spec_l01Bad_of_src s p v = some (v', s') ∧ SrcOk s' ∧ IsB v' := by
  obtain ⟨r, s1, k1, k2, _⟩ := next_is h (n := 40) (by omega)
  simp only [spec_l01Bad_of_src, k1, Option.bind_some]
  by_cases hr : r = 0
  · obtain ⟨i, s2, k3, k4, k5, k6, _⟩ := next_is k2 (n := 64) (by omega)
    have k6 := k6 (by omega)
    obtain ⟨x, s3, k7, k8, _⟩ := pick_is k4 (l := [p, 7, 255, 1]) (by simp) (by simp)
    rw [if_pos (by rw [hr]; rfl), k3]
    simp only [Option.bind_some, k7]
    rw [ifp_pos (by omega)]
    simp only [Option.bind_some]
    exact ⟨_, s3, rfl, k8, isb_vset hv _ (wrap8_res x)⟩
  · rw [if_neg (by rw [beq_iff_eq]; exact hr)]
    simp only [Option.bind_some]
    exact ⟨v, s1, rfl, k2, hv⟩
end Go.Proofs.YtkbnegemdlnncaaGreat
/- The draws of two polynomials, of layer 10. -/
namespace Go.Proofs.YtkbnegemdlnncaaGreat
open Go.Abs
theorem draw10_is {s : Src} (h : SrcOk s) {most : Int} (h0 : 0 ≤ most) (h63 : most ≤ 63) : ∃ (p : Int) (a b : V64) (s' : Src), spec_l10Draw_of_src s most = some (p, a, b, s') ∧ SrcOk s' ∧ IsB a ∧ IsB b := by
  obtain ⟨p, s1, h1, h2, hpm⟩ := pick_is h (l := [2, 2, 3, 3, 5, 7]) (by simp) (by simp)
  have hp : p ≤ 1000 := by
    simp only [List.mem_cons, List.not_mem_nil, or_false] at hpm
    omega
  have e1 : spec_l01DrawPrime_of_src s = some (p, s1) := by simp only [spec_l01DrawPrime_of_src, h1, Option.bind_some]
  obtain ⟨a, s2, h3, h4, ha⟩ := draw_is h2 hp h0 h63
  obtain ⟨b, s3, h5, h6, hb⟩ := draw_is h4 hp h0 h63
  have mid : ∃ (b' : V64) (s4 : Src), (Option.bind (α := (Bool × Src)) ((if (decide (b = ((vrep 64 (0 : Int))))) then (Option.bind (spec_l01Next_of_src s3 4) fun r46 => (some (((decide (r46.1 > 0)), r46.2)))) else (some (false, s3)))) fun ⟨x39, x40⟩ => (if x39 then (some (((vset (vrep 64 (0 : Int)) 0 1), x40))) else (some (b, x40)))) = some (b', s4) ∧ SrcOk s4 ∧ IsB b' := by
    obtain ⟨r, s4, k1, k2, _⟩ := next_is h6 (n := 4) (by omega)
    by_cases hz : b = vrep 64 0
    · simp only [decide_eq_true hz, if_true, k1, Option.bind_some]
      by_cases hr : r > 0
      · simp only [decide_eq_true hr, if_true]
        exact ⟨_, s4, rfl, k2, isb_vset isb_zero _ (by omega)⟩
      · simp only [decide_eq_false hr, Bool.false_eq_true, if_false]
        exact ⟨_, s4, rfl, k2, hb⟩
    · simp only [decide_eq_false hz, Bool.false_eq_true, if_false, Option.bind_some]
      exact ⟨_, s3, rfl, h6, hb⟩
  obtain ⟨b', s4, h7, h8, hb'⟩ := mid
  have mid2 : ∃ (q : Int) (s5 : Src), (Option.bind (spec_l01Next_of_src s4 40) fun r63 => (if (r63.1 == 0) then (Option.bind (spec_l01Pick_of_src r63.2 ([0, 4, 11])) fun r67 => (some (r67.1, r67.2))) else (some (p, r63.2)))) = some (q, s5) ∧ SrcOk s5 := by
    obtain ⟨r, s5, k1, k2, _⟩ := next_is h8 (n := 40) (by omega)
    simp only [k1, Option.bind_some]
    by_cases hr : r = 0
    · obtain ⟨q, s6, k3, k4, _⟩ := pick_is k2 (l := [0, 4, 11]) (by simp) (by simp)
      rw [if_pos (by rw [hr]; rfl), k3]
      exact ⟨q, s6, rfl, k4⟩
    · rw [if_neg (by rw [beq_iff_eq]; exact hr)]
      exact ⟨p, s5, rfl, k2⟩
  obtain ⟨q, s5, h9, h10⟩ := mid2
  obtain ⟨a', s6, h11, h12, ha'⟩ := bad_is h10 3 ha
  refine ⟨q, a', b', s6, ?_, h12, ha', hb'⟩
  simp only [spec_l10Draw_of_src, e1, h3, h5, h7, h9, h11, Option.bind_some]
end Go.Proofs.YtkbnegemdlnncaaGreat
/- Numbers modulo p. -/
namespace Go.Proofs.YtkbnegemdlnncaaGreat
open Go.Abs

theorem tmod_fix {n p : Int} (hp : 0 < p) : Int.tmod (Int.tmod n p + p) p = n % p := by
  have h1 := Int.lt_tmod_of_pos n hp
  rw [Int.tmod_eq_emod_of_nonneg (by omega), Int.tmod_def, Int.add_emod_right, Int.sub_mul_emod_self_left]

/-- Numbers that are small. -/
def Ent (l : List Int) : Prop := ∀ i, 0 ≤ rd l i ∧ rd l i < 256

theorem _root_.Go.Abs.Row.ent {p : Int} {l : List Int} (h : Row p l) (hp : 0 < p ∧ p ≤ 256) : Ent l := fun i => by have := h.rd hp.1 i; omega

def V64.Ent (v : V64) : Prop := ∀ i, i < 64 → 0 ≤ rd v.1 i ∧ rd v.1 i < 256

theorem mulk {x k : Int} (hx : 0 ≤ x ∧ x < 256) (hk : -1099511627776 ≤ k ∧ k ≤ 1099511627776) : -281474976710656 ≤ k * x ∧ k * x ≤ 281474976710656 := by
  have h1 : (-1099511627776) * x ≤ k * x := Int.mul_le_mul_of_nonneg_right hk.1 hx.1
  have h2 : k * x ≤ 1099511627776 * x := Int.mul_le_mul_of_nonneg_right hk.2 hx.1
  omega

theorem _root_.Go.Abs.Res.ent {p : Int} {v : V64} (h : Res p v) (hp : p ≤ 256) : V64.Ent v := fun i hi => by have := h i hi; omega

theorem ent_pad {p : Int} {l : List Int} (h : Row p l) (hp : 0 < p ∧ p ≤ 256) : V64.Ent (pad l) := Res.ent (res_pad h hp.1) hp.2

theorem mul_small {x y : Int} (hx : 0 ≤ x ∧ x < 256) (hy : 0 ≤ y ∧ y < 256) : 0 ≤ x * y ∧ x * y ≤ 65025 :=
  ⟨Int.mul_nonneg hx.1 hy.1, Int.mul_le_mul (c := 255) (d := 255) (by omega) (by omega) hy.1 (by omega)⟩
end Go.Proofs.YtkbnegemdlnncaaGreat
/- Degrees. -/
namespace Go.Proofs.YtkbnegemdlnncaaGreat
open Go.Abs

theorem deg_loop (a : V64) : ∀ s : Int, (∃ i : Nat, s = (i : Int) - 1 ∧ i ≤ 64) → ∃ r, loopM (fun s : Int => spec_l01Deg_l1 a s) s = some r ∧ ∀ i : Nat, s = (i : Int) - 1 → r = (top (rd a.1) i : Int) - 1 := by
  refine loopM_ind (fun (s : Int) => ∃ i : Nat, s = (i : Int) - 1 ∧ i ≤ 64) (fun (s : Int) (r : Int) => ∀ i : Nat, s = (i : Int) - 1 → r = (top (rd a.1) i : Int) - 1) (fun s => (s + 1).toNat) ?_
  rintro s ⟨i, rfl, hi⟩
  match i with
  | 0 =>
    right
    refine ⟨-1, by simp [spec_l01Deg_l1], fun k hk => ?_⟩
    have : k = 0 := by omega
    subst this; simp [top]
  | i + 1 =>
    have e1 : ((i + 1 : Nat) : Int) - 1 = (i : Int) := by omega
    rw [e1]
    by_cases e : rd a.1 i = 0
    · left
      refine ⟨(i : Int) - 1, ?_, ⟨i, rfl, by omega⟩, by omega, fun r hr k hk => ?_⟩
      · simp only [spec_l01Deg_l1]
        rw [if_pos (by simp), ifp_pos (by omega)]
        simp [e]
        exact wrap64 (by omega) (by omega)
      · have : k = i + 1 := by omega
        subst this
        rw [hr i rfl]; simp [top, e]
    · right
      refine ⟨(i : Int), ?_, fun k hk => ?_⟩
      · simp only [spec_l01Deg_l1]
        rw [if_pos (by simp), ifp_pos (by omega)]
        simp [e]
      · have : k = i + 1 := by omega
        subst this
        simp [top, e]

theorem deg_is (a : V64) : spec_l01Deg a = some ((top (rd a.1) 64 : Int) - 1) := by
  obtain ⟨r, h1, h2⟩ := deg_loop a 63 ⟨64, by omega, by omega⟩
  rw [h2 64 (by omega)] at h1
  simp only [spec_l01Deg, h1, Option.bind_some]
end Go.Proofs.YtkbnegemdlnncaaGreat
/- Products, in the reference. -/
namespace Go.Proofs.YtkbnegemdlnncaaGreat
open Go.Abs

/-- One row of the reference's product. -/
theorem timesS_row {p : Int} (hp : 2 ≤ p ∧ p ≤ 256) {a b : V64} (ha : Res p a) (hb : Res p b) {i db : Nat} (hi : i + db < 64) {v : V64} (hv : Res p v) :
    ∃ v', loopM (fun s : Int × V64 => spec_l01Times_l2 (db : Int) (i : Int) a b p s.1 s.2) (0, v) = some v' ∧ Res p v' ∧ ∀ k, k < 64 → rd v'.1 k = if i ≤ k ∧ k ≤ i + db then (rd v.1 k + rd a.1 i * rd b.1 (k - i)) % p else rd v.1 k := by
  by_cases h0 : rd a.1 i = 0
  · refine ⟨v, ?_, hv, fun k hk => ?_⟩
    · rw [loopM_eq]
      simp only [spec_l01Times_l2]
      rw [ifp_pos (by omega)]
      simp [h0]
    · rw [h0]
      split
      · have := hv k hk
        rw [Int.zero_mul, Int.add_zero, Int.emod_eq_of_lt this.1 this.2]
      · rfl
  · have hai := ha i (by omega)
    obtain ⟨v', h1, h2, h3⟩ := loopM_for (body := fun s : Int × V64 => spec_l01Times_l2 (db : Int) (i : Int) a b p s.1 s.2) (fun j (v : V64) => ((j : Int), v)) (fun v => v) (db + 1)
      (fun j u => Res p u ∧ ∀ k, k < 64 → rd u.1 k = if i ≤ k ∧ k < i + j then (rd v.1 k + rd a.1 i * rd b.1 (k - i)) % p else rd v.1 k) (fun j u hj hI => by
        obtain ⟨hr, hk⟩ := hI
        have hbj := hb j (by omega)
        have huj := hr (i + j) (by omega)
        have e1 : IntKind.i64.wrap ((i : Int) + (j : Int)) = ((i + j : Nat) : Int) := by rw [wrap64 (by omega) (by omega)]; omega
        have hm := mul_small (x := rd a.1 i) (y := rd b.1 j) (by omega) (by omega)
        have hmod : Int.tmod (rd u.1 (i + j) + rd a.1 i * rd b.1 j) p = (rd u.1 (i + j) + rd a.1 i * rd b.1 j) % p := Int.tmod_eq_emod_of_nonneg (by omega)
        have hlt := emod_res (show 0 < p by omega) (rd u.1 (i + j) + rd a.1 i * rd b.1 j)
        refine ⟨vset u (i + j) ((rd u.1 (i + j) + rd a.1 i * rd b.1 j) % p), ?_, fun k hk' => ?_, fun k hk' => ?_⟩
        · simp only [spec_l01Times_l2, letp]
          rw [if_pos (by simp; omega), ifp_pos (by omega)]
          simp only [Option.bind_some]
          rw [if_pos (by simpa using h0), e1]
          rw [ifp_pos (by omega), ifp_pos (by omega), ifp_pos (by omega), ifp_pos (by omega), ifp_pos (by omega)]
          simp only [Int.toNat_natCast]
          rw [wrap64 (n := rd u.1 (i + j)) (by omega) (by omega), wrap64 (n := rd a.1 i) (by omega) (by omega), wrap64 (n := rd b.1 j) (by omega) (by omega), wrap64 (n := rd a.1 i * rd b.1 j) (by omega) (by omega), wrap64 (n := rd u.1 (i + j) + rd a.1 i * rd b.1 j) (by omega) (by omega), hmod, wrap8 hlt.1 (by omega), wrap64 (by omega) (by omega)]
          rfl
        · rw [rd_vset _ _ _ _ (by omega)]
          split
          · exact hlt
          · exact hr k hk'
        · rw [rd_vset _ _ _ _ (by omega)]
          by_cases e : k = i + j
          · subst e
            rw [if_pos rfl, if_pos (by omega), hk _ hk', if_neg (by omega), show i + j - i = j by omega]
          · rw [if_neg e, hk k hk']
            by_cases hc : i ≤ k ∧ k < i + j
            · rw [if_pos hc, if_pos (by omega)]
            · rw [if_neg hc, if_neg (by omega)]) (fun u hI => by
        simp only [spec_l01Times_l2]
        rw [if_neg (by simp; omega)]
        rfl) (db + 1) 0 v (by omega) ⟨hv, fun k hk => by rw [if_neg (by omega)]⟩
    exact ⟨v', h1, h2, fun k hk => by rw [h3 k hk]; simp only [show (i ≤ k ∧ k < i + (db + 1)) = (i ≤ k ∧ k ≤ i + db) from by rw [eq_iff_iff]; omega]⟩


theorem times_pad {p : Int} (hp : 2 ≤ p ∧ p ≤ 256) {a b : List Int} (ha : Row p a) (hb : Row p b) (la : a.length ≤ 64) (lb : b.length ≤ 64) (hl : a.length = 0 ∨ b.length = 0 ∨ a.length + b.length ≤ 65) :
    spec_l01Times p (pad a) (pad b) = some (pad (mul p a b), true) := by
  have hta : top (rd (pad a).1) 64 = a.length := by rw [top_congr 64 fun i hi => rd_padl a hi, ha.top la]
  have htb : top (rd (pad b).1) 64 = b.length := by rw [top_congr 64 fun i hi => rd_padl b hi, hb.top lb]
  simp only [spec_l01Times, deg_is, Option.bind_some, hta, htb]
  by_cases h1 : a.length = 0
  · have e : a = [] := List.eq_nil_of_length_eq_zero h1
    subst e
    simp [mul_nil, pad_nil]
  by_cases h2 : b.length = 0
  · have e : b = [] := List.eq_nil_of_length_eq_zero h2
    subst e
    simp [mul_nil', pad_nil]
  have hra := res_pad ha (show 0 < p by omega)
  have hrb := res_pad hb (show 0 < p by omega)
  obtain ⟨db, hdb⟩ : ∃ db : Nat, b.length = db + 1 := ⟨b.length - 1, by omega⟩
  obtain ⟨da, hda⟩ : ∃ da : Nat, a.length = da + 1 := ⟨a.length - 1, by omega⟩
  have e1 : ((a.length : Nat) : Int) - 1 = (da : Int) := by omega
  have e2 : ((b.length : Nat) : Int) - 1 = (db : Int) := by omega
  rw [e1, e2, wrap64 (by omega) (by omega)]
  simp only [show (decide ((da : Int) < 0)) = false by simp, Bool.false_eq_true, if_false, show (decide ((db : Int) < 0)) = false by simp, show (decide ((da : Int) + (db : Int) > 63)) = false by simp; omega, Option.bind_some]
  obtain ⟨v, h3, h4, h5⟩ := loopM_for (body := fun s : Int × V64 => spec_l01Times_l1 (da : Int) (db : Int) (pad a) (pad b) p s.1 s.2) (fun i v => ((i : Int), v)) (fun v => v) (da + 1)
    (fun i v => Res p v ∧ ∀ k, k < 64 → rd v.1 k = cv (rd a) (rd b) i k % p) (fun i v hi hI => by
      obtain ⟨hv, hk⟩ := hI
      obtain ⟨v', g1, g2, g3⟩ := timesS_row hp hra hrb (i := i) (db := db) (by omega) hv
      refine ⟨v', ?_, g2, fun k hk' => ?_⟩
      · simp only [spec_l01Times_l1]
        rw [if_pos (by simp; omega), g1]
        simp only [Option.bind_some]
        rw [wrap64 (by omega) (by omega)]; rfl
      · rw [g3 k hk', hk k hk', cv_succ]
        by_cases hc : i ≤ k ∧ k ≤ i + db
        · rw [if_pos hc, if_pos hc.1, rd_padl _ (by omega), rd_padl _ (by omega), Int.emod_add_emod]
        · rw [if_neg hc]
          by_cases hik : i ≤ k
          · rw [if_pos hik, rd_ge (l := b) (by omega), Int.mul_zero, Int.add_zero]
          · rw [if_neg hik, Int.add_zero]) (fun v hI => by
      simp only [spec_l01Times_l1]
      rw [if_neg (by simp; omega)]) (da + 1) 0 (vrep 64 0) (by omega) ⟨fun j hj => by rw [rd_vrep _ hj]; omega, fun k hk => by rw [rd_vrep _ hk]; simp [cv, sumTo]⟩
  have h3' : loopM (fun s : Int × V64 => spec_l01Times_l1 (da : Int) (db : Int) (pad a) (pad b) p s.1 s.2) (0, vrep 64 0) = some v := h3
  rw [h3']
  simp only [Option.bind_some]
  congr 2
  exact vec_ext fun k hk => by rw [h5 k hk, rd_padl _ hk, mul_rd, cv_conv fun i hi => rd_ge (by omega)]

theorem times_pad_no {p : Int} {a b : List Int} (ha : Row p a) (hb : Row p b) (la : a.length ≤ 64) (lb : b.length ≤ 64) (h1 : a.length ≠ 0) (h2 : b.length ≠ 0) (hl : 65 < a.length + b.length) :
    spec_l01Times p (pad a) (pad b) = some (vrep 64 0, false) := by
  have hta : top (rd (pad a).1) 64 = a.length := by rw [top_congr 64 fun i hi => rd_padl a hi, ha.top la]
  have htb : top (rd (pad b).1) 64 = b.length := by rw [top_congr 64 fun i hi => rd_padl b hi, hb.top lb]
  simp only [spec_l01Times, deg_is, Option.bind_some, hta, htb]
  rw [wrap64 (by omega) (by omega)]
  simp only [show (decide (((a.length : Nat) : Int) - 1 < 0)) = false by simp; omega, Bool.false_eq_true, if_false, show (decide (((b.length : Nat) : Int) - 1 < 0)) = false by simp; omega, show (decide (((a.length : Nat) : Int) - 1 + (((b.length : Nat) : Int) - 1) > 63)) = true by simp; omega, Option.bind_some, if_true]
end Go.Proofs.YtkbnegemdlnncaaGreat
/- Draws of polynomials, with coefficients below p. -/
namespace Go.Proofs.YtkbnegemdlnncaaGreat
open Go.Abs
theorem isb_res {p : Int} (hp : p ≤ 256) {v : V64} (h : Res p v) : IsB v := fun d hd => by
  obtain ⟨i, hi, rfl⟩ := List.getElem_of_mem hd
  have h1 := h i (by rw [← v.2]; exact hi)
  rw [rd_lt hi] at h1
  omega
theorem res_vset {p : Int} {v : V64} (h : Res p v) {k : Nat} (hk : k < 64) {x : Int} (hx : 0 ≤ x ∧ x < p) : Res p (vset v k x) := fun j hj => by
  rw [rd_vset _ _ _ _ hk]
  by_cases e : j = k
  · rw [if_pos e]; exact hx
  · rw [if_neg e]; exact h j hj
theorem res_zero {p : Int} (hp : 0 < p) : Res p (vrep 64 0) := fun j hj => by rw [rd_vrep _ hj]; omega
theorem drawR_loop {p : Int} (hp : 2 ≤ p ∧ p ≤ 256) : ∀ (m : Nat) (i : Int) (v : V64) (s : Src), i + 1 = m → i ≤ 63 → Res p v → SrcOk s →
    ∃ (v' : V64) (s' : Src), loopM (fun s : Int × V64 × Src => spec_l01Draw_of_src_l1 p s.1 s.2.1 s.2.2) (i, v, s) = some (v', s') ∧ Res p v' ∧ SrcOk s'
  | 0, i, v, s, hi, _, hv, hs => by
    have h0 : decide (i ≥ 0) = false := decide_eq_false (by omega)
    refine ⟨v, s, ?_, hv, hs⟩
    rw [loopM_eq]
    simp only [spec_l01Draw_of_src_l1, h0, Bool.false_eq_true, if_false, Option.bind_some]
  | m + 1, i, v, s, hi, h63, hv, hs => by
    have h0 : decide (i ≥ 0) = true := decide_eq_true (by omega)
    have ew : IntKind.i64.wrap (i - 1) = i - 1 := wrap64 (by omega) (by omega)
    obtain ⟨r, s1, k1, k2, _⟩ := next_is hs (n := 3) (by omega)
    rw [loopM_eq]
    simp only [spec_l01Draw_of_src_l1, h0, if_true, k1, Option.bind_some, ew]
    by_cases hr : r > 0
    · obtain ⟨x, s2, k3, k4, x0, x1, _⟩ := next_is k2 (n := p) (by omega)
      have x1 := x1 (by omega)
      obtain ⟨v', s', k5, k6, k7⟩ := drawR_loop hp m (i - 1) (vset v i.toNat (IntKind.u8.wrap x)) s2 (by omega) (by omega) (res_vset hv (by omega) (by rw [wrap8 (by omega) (by omega)]; omega)) k4
      refine ⟨v', s', ?_, k6, k7⟩
      simp only [decide_eq_true hr, if_true, k3, Option.bind_some]
      rw [ifp_pos (by omega)]
      simp only [Option.bind_some]
      exact k5
    · obtain ⟨v', s', k5, k6, k7⟩ := drawR_loop hp m (i - 1) v s1 (by omega) (by omega) hv k2
      refine ⟨v', s', ?_, k6, k7⟩
      simp only [decide_eq_false hr, Bool.false_eq_true, if_false, Option.bind_some]
      exact k5
theorem drawR_is {s : Src} (h : SrcOk s) {p most : Int} (hp : 2 ≤ p ∧ p ≤ 256) (h0 : 0 ≤ most) (h63 : most ≤ 63) : ∃ (v : V64) (s' : Src), spec_l01Draw_of_src s p most = some (v, s') ∧ SrcOk s' ∧ Res p v := by
  have ew : IntKind.i64.wrap (most + 2) = most + 2 := wrap64 (by omega) (by omega)
  obtain ⟨r, s1, k1, k2, k3, k4, _⟩ := next_is h (n := most + 2) (by omega)
  have k4 := k4 (by omega)
  have ew2 : IntKind.i64.wrap (r - 1) = r - 1 := wrap64 (by omega) (by omega)
  obtain ⟨v', s', g1, g2, g3⟩ := drawR_loop hp r.toNat (r - 1) (vrep 64 0) s1 (by omega) (by omega) (res_zero (by omega)) k2
  refine ⟨v', s', ?_, g3, g2⟩
  simp only [spec_l01Draw_of_src, ew, k1, Option.bind_some, ew2, g1]
theorem timesA {p : Int} (hp : 2 ≤ p ∧ p ≤ 256) {a b : V64} (ha : Res p a) (hb : Res p b) : ∃ (v : V64) (f : Bool), spec_l01Times p a b = some (v, f) ∧ IsB v := by
  have ra := row_row ha
  have rb := row_row hb
  by_cases hl : (row a).length = 0 ∨ (row b).length = 0 ∨ (row a).length + (row b).length ≤ 65
  · have e := times_pad hp ra rb (row_len a) (row_len b) hl
    rw [pad_row, pad_row] at e
    exact ⟨_, _, e, isb_res hp.2 (res_pad (mul_row (by omega) _ _) (by omega))⟩
  · have e := times_pad_no ra rb (row_len a) (row_len b) (by omega) (by omega) (by omega)
    rw [pad_row, pad_row] at e
    exact ⟨_, _, e, isb_zero⟩
end Go.Proofs.YtkbnegemdlnncaaGreat
/- Numbers near a limit. -/
namespace Go.Proofs.YtkbnegemdlnncaaGreat
open Go.Abs
theorem near_is {s : Src} (h : SrcOk s) {n : Int} (h0 : 0 ≤ n) (hn : n ≤ 1000000000000) : ∃ (r : Int) (s' : Src), spec_l01Near_of_src s n = some (r, s') ∧ SrcOk s' := by
  obtain ⟨r, s1, h1, h2, _⟩ := next_is h (n := 14) (by omega)
  have ew : IntKind.i64.wrap (n + 1) = n + 1 := wrap64 (by omega) (by omega)
  simp only [spec_l01Near_of_src, h1, Option.bind_some, ew]
  by_cases hr : r = 0
  · obtain ⟨r', s2, h3, h4, _⟩ := pick_is h2 (l := [-1, n + 1, 1099511627776, -4611686018427387904]) (by simp) (by simp)
    rw [if_pos (by rw [hr]; rfl)]
    exact ⟨r', s2, by rw [h3, Option.bind_some], h4⟩
  · obtain ⟨r', s2, h3, h4, _⟩ := next_is h2 (n := n + 1) (by omega)
    rw [if_neg (by rw [beq_iff_eq]; exact hr)]
    exact ⟨r', s2, by rw [h3, Option.bind_some], h4⟩
end Go.Proofs.YtkbnegemdlnncaaGreat
/- The draws of roots and series. -/
namespace Go.Proofs.YtkbnegemdlnncaaGreat
open Go.Abs
theorem square_draw {s : Src} (h : SrcOk s) : ∃ (p : Int) (d : V64) (s' : Src), spec_l10Square_of_src s = some (p, d, s') ∧ SrcOk s' ∧ IsB d := by
  obtain ⟨p, s1, h1, h2, hpm⟩ := pick_is h (l := [3, 3, 5, 7]) (by simp) (by simp)
  have hp : 2 ≤ p ∧ p ≤ 7 := by
    simp only [List.mem_cons, List.not_mem_nil, or_false] at hpm
    omega
  obtain ⟨g, s2, h3, h4, hgm⟩ := pick_is h2 (l := [0, 1, 1, 2, 3, 6]) (by simp) (by simp)
  have hg : 0 ≤ g ∧ g ≤ 6 := by
    simp only [List.mem_cons, List.not_mem_nil, or_false] at hgm
    omega
  have ew : IntKind.i64.wrap (2 * g) = 2 * g := wrap64 (by omega) (by omega)
  have ew2 : IntKind.i64.wrap (2 * g - 1) = 2 * g - 1 := wrap64 (by omega) (by omega)
  obtain ⟨d, s3, h5, h6, hd⟩ := draw_ge h4 (p := p) (most := 2 * g - 1) (by omega) (by omega) (by omega)
  obtain ⟨d0, e0, hd0⟩ : ∃ d0 : V64, (if (g == 0) then (some ((vrep 64 (0 : Int)))) else (some d)) = some d0 ∧ IsB d0 := by
    by_cases hz : g = 0
    · rw [if_pos (by rw [hz]; rfl)]; exact ⟨_, rfl, isb_zero⟩
    · rw [if_neg (by rw [beq_iff_eq]; exact hz)]; exact ⟨_, rfl, hd⟩
  obtain ⟨x, s4, h7, h8, _⟩ := next_is h6 (n := 10) (by omega)
  have mid : ∃ z : Src ⊕ (Int × V64 × Src), (Option.bind (spec_l01Next_of_src s3 10) fun r61 => (Option.bind (α := Bool) ((if (r61.1 == 0) then (some true) else (if (r61.1 == 1) then (some true) else (some (r61.1 == 2))))) fun x66 => (if x66 then (Option.bind (spec_l01Draw_of_src r61.2 p 4) fun r82 => (ifp (0 ≤ (5 : Int) ∧ (5 : Int) < ((64 : Nat) : Int)) ((Option.bind (spec_l01Times p ((vset r82.1 (5 : Int).toNat 1)) ((vset r82.1 (5 : Int).toNat 1))) fun r90 => (if r90.2 then (some (.inr (p, r90.1, r82.2))) else (some (.inl r82.2))))))) else (if (r61.1 == 3) then (Option.bind (spec_l01Pick_of_src r61.2 ([2, 3, 4])) fun r74 => (Option.bind (spec_l01Draw_of_src r74.2 3 7) fun r77 => (some (.inr (r74.1, r77.1, r77.2))))) else (some (.inl r61.2)))))) = some z ∧
      (match z with | .inl s => SrcOk s | .inr r => SrcOk r.2.2 ∧ IsB r.2.1) := by
    rw [h7]
    simp only [Option.bind_some]
    obtain ⟨c, hc⟩ : ∃ c : Bool, (if (x == 0) then (some true) else (if (x == 1) then (some true) else (some (x == 2)))) = some c := by
      split
      · exact ⟨_, rfl⟩
      · split
        · exact ⟨_, rfl⟩
        · exact ⟨_, rfl⟩
    rw [hc]
    simp only [Option.bind_some]
    cases c with
    | true =>
      obtain ⟨r, s5, k1, k2, hr⟩ := drawR_is h8 (p := p) (most := 4) (by omega) (by omega) (by omega)
      have hr5 : Res p (vset r (5 : Int).toNat 1) := res_vset hr (by decide) (by omega)
      obtain ⟨t, f, k3, ht⟩ := timesA (by omega) hr5 hr5
      simp only [if_true, k1, Option.bind_some]
      rw [ifp_pos (by omega), k3]
      simp only [Option.bind_some]
      cases f with
      | true => exact ⟨.inr (p, t, s5), rfl, k2, ht⟩
      | false => exact ⟨.inl s5, rfl, k2⟩
    | false =>
      simp only [Bool.false_eq_true, if_false]
      by_cases h3 : x = 3
      · obtain ⟨q, s5, k1, k2, _⟩ := pick_is h8 (l := [2, 3, 4]) (by simp) (by simp)
        obtain ⟨r, s6, k3, k4, hr⟩ := draw_is k2 (p := 3) (most := 7) (by omega) (by omega) (by omega)
        rw [if_pos (by rw [h3]; rfl), k1]
        simp only [Option.bind_some, k3]
        exact ⟨.inr (q, r, s6), rfl, k4, hr⟩
      · rw [if_neg (by rw [beq_iff_eq]; exact h3)]
        exact ⟨.inl s4, rfl, h8⟩
  obtain ⟨z, hz, hzo⟩ := mid
  simp only [spec_l10Square_of_src, h1, h3, Option.bind_some, ew, ew2, h5, e0]
  rw [ifp_pos (by omega), hz]
  cases z with
  | inl s5 => exact ⟨_, _, s5, rfl, hzo, isb_vset hd0 _ (by omega)⟩
  | inr r => exact ⟨r.1, r.2.1, r.2.2, rfl, hzo.1, hzo.2⟩
section
variable {c : List Int} (hl : c.length ≤ 4096) (hb : ∀ x ∈ c, 0 ≤ x ∧ x < 256)
include hl hb
theorem drawSq_is : ∃ (p : Int) (d : V64), spec_DrawIsSquarePoly c = some (p, d) ∧ IsB d := by
  obtain ⟨s, h1, h2⟩ := from_is hl hb
  obtain ⟨p, d, s1, h3, _, hd⟩ := square_draw h2
  exact ⟨p, d, by simp only [spec_DrawIsSquarePoly, spec_DrawRootPart, h1, h3, Option.bind_some], hd⟩
theorem drawDR_is : ∃ (p : Int) (d : V64) (n : Int), spec_DrawDigitsOfRoot c = some (p, d, n) ∧ IsB d := by
  obtain ⟨s, h1, h2⟩ := from_is hl hb
  obtain ⟨p, d, s1, h3, h4, hd⟩ := square_draw h2
  obtain ⟨n, s2, h5, _⟩ := near_is h4 (n := 40) (by omega) (by omega)
  exact ⟨p, d, n, by simp only [spec_DrawDigitsOfRoot, h1, h3, h5, Option.bind_some], hd⟩
theorem drawEx_is : ∃ (p : Int) (a b : V64) (n : Int), spec_DrawExponentialUpTo c = some (p, a, b, n) ∧ IsB a ∧ IsB b := by
  obtain ⟨s, h1, h2⟩ := from_is hl hb
  obtain ⟨m, s1, h3, h4, hm⟩ := pick_is h2 (l := [1, 2, 3, 8]) (by simp) (by simp)
  have hm' : 0 ≤ m ∧ m ≤ 63 := by
    simp only [List.mem_cons, List.not_mem_nil, or_false] at hm
    omega
  obtain ⟨p, a, b, s2, h5, h6, ha, hb'⟩ := draw10_is h4 hm'.1 hm'.2
  obtain ⟨n, s3, h7, _⟩ := pick_is h6 (l := [1, 2, 2, 3, 3, 4, 5]) (by simp) (by simp)
  exact ⟨p, a, b, n, by simp only [spec_DrawExponentialUpTo, h1, h3, h5, h7, Option.bind_some], ha, hb'⟩
end
end Go.Proofs.YtkbnegemdlnncaaGreat
/- Primes. -/
namespace Go.Proofs.YtkbnegemdlnncaaGreat
open Go.Abs

theorem isPrime_spec (p : Int) : spec_l01Prime p = some (isP p) := by
  unfold spec_l01Prime isP
  by_cases h1 : p = 2 <;> by_cases h2 : p = 3 <;> by_cases h3 : p = 5 <;> simp [h1, h2, h3]

theorem isPrime_impl (p : Int) : impl_isPrime p = some (isP p) := by
  unfold impl_isPrime isP
  by_cases h1 : p = 2 <;> by_cases h2 : p = 3 <;> by_cases h3 : p = 5 <;> simp [h1, h2, h3]
end Go.Proofs.YtkbnegemdlnncaaGreat
/- Which arrays have coefficients below p. -/
namespace Go.Proofs.YtkbnegemdlnncaaGreat
open Go.Abs
/-- All coefficients lie below p. -/
def Small (p : Int) (a : V64) : Prop := ∀ j, j < 64 → rd a.1 j < p
open Classical in
noncomputable def small (p : Int) (a : V64) : Bool := decide (Small p a)

theorem res_of_small {p : Int} {a : V64} (hb : IsB a) (h : small p a = true) : Res p a := fun j hj => by
  have h1 : Small p a := by simpa [small] using h
  exact ⟨(hb.rd hj).1, h1 j hj⟩
end Go.Proofs.YtkbnegemdlnncaaGreat
/- Which arrays are polynomials, in the reference. -/
namespace Go.Proofs.YtkbnegemdlnncaaGreat
open Go.Abs
theorem is_loop {p : Int} {a : V64} (hb : IsB a) : ∀ s : Int, (∃ i : Nat, s = i ∧ i ≤ 64 ∧ ∀ j, j < i → rd a.1 j < p) → ∃ r, loopM (fun s : Int => spec_l01Is_l1 a p s) s = some r ∧ ((r = .inl () ∧ Small p a) ∨ (r = .inr false ∧ ¬ Small p a)) := by
  refine loopM_ind (fun (s : Int) => ∃ i : Nat, s = i ∧ i ≤ 64 ∧ ∀ j, j < i → rd a.1 j < p) (fun (s : Int) (r : Unit ⊕ Bool) => (r = .inl () ∧ Small p a) ∨ (r = .inr false ∧ ¬ Small p a)) (fun s => 64 - s.toNat) ?_
  rintro s ⟨i, rfl, hi, hlt⟩
  by_cases h : i = 64
  · right
    subst h
    exact ⟨.inl (), by simp [spec_l01Is_l1], .inl ⟨rfl, hlt⟩⟩
  · have hbi := hb.rd (show i < 64 by omega)
    by_cases e : rd a.1 i < p
    · left
      refine ⟨((i + 1 : Nat) : Int), ?_, ⟨i + 1, rfl, by omega, fun j hj => ?_⟩, by simp; omega, fun r hr => hr⟩
      · simp only [spec_l01Is_l1]
        rw [if_pos (by simp; omega), ifp_pos (by omega), Int.toNat_natCast, wrap64 (by omega) (by omega), if_neg (by simp; omega), wrap64 (by omega) (by omega)]
        rfl
      · by_cases hj' : j = i
        · rw [hj']; exact e
        · exact hlt j (by omega)
    · right
      refine ⟨.inr false, ?_, .inr ⟨rfl, fun hs => e (hs i (by omega))⟩⟩
      simp only [spec_l01Is_l1]
      rw [if_pos (by simp; omega), ifp_pos (by omega), Int.toNat_natCast, wrap64 (by omega) (by omega), if_pos (by simp; omega)]
theorem is_is {p : Int} {a : V64} (hb : IsB a) : spec_l01Is p a = some (small p a && isP p) := by
  obtain ⟨r, h1, h2⟩ := is_loop (p := p) hb 0 ⟨0, rfl, by omega, fun j hj => by omega⟩
  rcases h2 with ⟨rfl, h⟩ | ⟨rfl, h⟩ <;> simp [spec_l01Is, h1, small, h, isPrime_spec]

end Go.Proofs.YtkbnegemdlnncaaGreat
/- The code for polynomials, in the reference. -/
namespace Go.Proofs.YtkbnegemdlnncaaGreat
open Go.Abs
theorem code_loop {p : Int} {l : List V64} (hb : ∀ a ∈ l, IsB a) (hl : l.length ≤ 2000000) (hp : isP p = true) : ∀ s : Int, (∃ i : Nat, s = i ∧ i ≤ l.length ∧ ∀ a ∈ l.take i, small p a = true) → ∃ r, loopM (fun s : Int => spec_l01Code_l1 l p s) s = some r ∧ ((r = .inl () ∧ l.all (small p) = true) ∨ (r = .inr 1 ∧ l.all (small p) = false)) := by
  refine loopM_ind (fun (s : Int) => ∃ i : Nat, s = i ∧ i ≤ l.length ∧ ∀ a ∈ l.take i, small p a = true) (fun (s : Int) (r : Unit ⊕ Int) => (r = .inl () ∧ l.all (small p) = true) ∨ (r = .inr 1 ∧ l.all (small p) = false)) (fun s => l.length - s.toNat) ?_
  rintro s ⟨i, rfl, hi, hlt⟩
  by_cases h : i = l.length
  · right
    subst h
    exact ⟨.inl (), by simp [spec_l01Code_l1], .inl ⟨rfl, by rw [List.take_length] at hlt; simpa using hlt⟩⟩
  · have hil : i < l.length := by omega
    have er : rd l i = l[i] := by simp [rd, hil]
    have hbi := is_is (p := p) (hb l[i] (List.getElem_mem _))
    rw [hp, Bool.and_true] at hbi
    cases e : small p l[i] with
    | true =>
      left
      refine ⟨((i + 1 : Nat) : Int), ?_, ⟨i + 1, rfl, by omega, fun a ha => ?_⟩, by simp; omega, fun r hr => hr⟩
      · simp only [spec_l01Code_l1]
        rw [if_pos (by simp; omega), ifp_pos (by omega), Int.toNat_natCast, er, hbi, e]
        simp only [Option.bind_some, Bool.not_true, Bool.false_eq_true, if_false]
        rw [wrap64 (by omega) (by omega)]; rfl
      · rw [List.take_succ_eq_append_getElem hil] at ha
        rcases List.mem_append.1 ha with ha | ha
        · exact hlt a ha
        · have : a = l[i] := by simpa using ha
          rw [this]; exact e
    | false =>
      right
      refine ⟨.inr 1, ?_, .inr ⟨rfl, ?_⟩⟩
      · simp only [spec_l01Code_l1]
        rw [if_pos (by simp; omega), ifp_pos (by omega), Int.toNat_natCast, er, hbi, e]
        rfl
      · rw [List.all_eq_false]
        exact ⟨l[i], List.getElem_mem _, by simp [e]⟩
theorem code_is {p : Int} {l : List V64} (hb : ∀ a ∈ l, IsB a) (hl : l.length ≤ 2000000) : spec_l01Code p l = some (if isP p && l.all (small p) then 0 else 1) := by
  unfold spec_l01Code
  rw [isPrime_spec]
  cases hp : isP p with
  | false => simp
  | true =>
    obtain ⟨r, h1, h2⟩ := code_loop hb hl hp 0 ⟨0, rfl, by omega, by simp⟩
    simp only [Option.bind_some, Bool.not_true, Bool.false_eq_true, if_false, h1, Bool.true_and]
    rcases h2 with ⟨rfl, h⟩ | ⟨rfl, h⟩ <;> simp [h]

end Go.Proofs.YtkbnegemdlnncaaGreat
/- Inverses modulo p. -/
namespace Go.Proofs.YtkbnegemdlnncaaGreat
open Go.Abs

/-- The inverse of x modulo p. -/
def inv (p x : Int) : Int := if p = 2 then 1 else if p = 3 then x else if p = 5 then (if x = 1 then 1 else if x = 2 then 3 else if x = 3 then 2 else 4) else (if x = 1 then 1 else if x = 2 then 4 else if x = 3 then 5 else if x = 4 then 2 else if x = 5 then 3 else 6)
theorem inv_cases {p x : Int} (hp : isP p = true) (hx : 0 < x ∧ x < p) : (p = 2 ∧ x = 1) ∨ (p = 3 ∧ x = 1) ∨ (p = 3 ∧ x = 2) ∨ (p = 5 ∧ x = 1) ∨ (p = 5 ∧ x = 2) ∨ (p = 5 ∧ x = 3) ∨ (p = 5 ∧ x = 4) ∨
    (p = 7 ∧ x = 1) ∨ (p = 7 ∧ x = 2) ∨ (p = 7 ∧ x = 3) ∨ (p = 7 ∧ x = 4) ∨ (p = 7 ∧ x = 5) ∨ (p = 7 ∧ x = 6) := by
  rcases isP_iff.1 hp with rfl | rfl | rfl | rfl <;> omega
theorem inv_is {p x : Int} (hp : isP p = true) (hx : 0 < x ∧ x < p) : 0 < inv p x ∧ inv p x < p ∧ x * inv p x % p = 1 := by
  rcases inv_cases hp hx with ⟨rfl, rfl⟩ | ⟨rfl, rfl⟩ | ⟨rfl, rfl⟩ | ⟨rfl, rfl⟩ | ⟨rfl, rfl⟩ | ⟨rfl, rfl⟩ | ⟨rfl, rfl⟩ | ⟨rfl, rfl⟩ | ⟨rfl, rfl⟩ | ⟨rfl, rfl⟩ | ⟨rfl, rfl⟩ | ⟨rfl, rfl⟩ | ⟨rfl, rfl⟩ <;> decide
theorem inv_first {p x : Int} (hp : isP p = true) (hx : 0 < x ∧ x < p) {j : Int} (h1 : 1 ≤ j) (h2 : j < inv p x) : j * x % p ≠ 1 := by
  rcases inv_cases hp hx with ⟨rfl, rfl⟩ | ⟨rfl, rfl⟩ | ⟨rfl, rfl⟩ | ⟨rfl, rfl⟩ | ⟨rfl, rfl⟩ | ⟨rfl, rfl⟩ | ⟨rfl, rfl⟩ | ⟨rfl, rfl⟩ | ⟨rfl, rfl⟩ | ⟨rfl, rfl⟩ | ⟨rfl, rfl⟩ | ⟨rfl, rfl⟩ | ⟨rfl, rfl⟩ <;> simp [inv] at h2 <;> omega
theorem inv_pow {p x : Int} (hp : isP p = true) (hx : 0 < x ∧ x < p) : x ^ (p - 2).toNat % p = inv p x := by
  rcases inv_cases hp hx with ⟨rfl, rfl⟩ | ⟨rfl, rfl⟩ | ⟨rfl, rfl⟩ | ⟨rfl, rfl⟩ | ⟨rfl, rfl⟩ | ⟨rfl, rfl⟩ | ⟨rfl, rfl⟩ | ⟨rfl, rfl⟩ | ⟨rfl, rfl⟩ | ⟨rfl, rfl⟩ | ⟨rfl, rfl⟩ | ⟨rfl, rfl⟩ | ⟨rfl, rfl⟩ <;> decide
end Go.Proofs.YtkbnegemdlnncaaGreat
/- Inverses modulo p, in the program. -/
namespace Go.Proofs.YtkbnegemdlnncaaGreat
open Go.Abs

theorem inverse_impl {p x : Int} (hp : isP p = true) (hx : 0 < x ∧ x < p) : impl_prime_inverse p x = some (inv p x) := by
  have hp2 := isP_pos hp
  obtain ⟨n, hn⟩ : ∃ n : Nat, p - 2 = n := ⟨(p - 2).toNat, by omega⟩
  have ew : IntKind.i64.wrap (p - 2) = (n : Int) := by rw [wrap64 (by omega) (by omega), hn]
  obtain ⟨c, h1, h2⟩ := loopM_for (body := fun s : Int × Int => impl_prime_inverse_l1 p x s.1 s.2) (fun i c => (c, (i : Int))) (fun c => c) n
    (fun i c => c = x ^ i % p) (fun i c hi hI => by
      subst hI
      have h3 := emod_res (show 0 < p by omega) (x ^ i)
      have h4 := mul_small (x := x ^ i % p) (y := x) (by omega) (by omega)
      refine ⟨x ^ (i + 1) % p, ?_, rfl⟩
      simp only [impl_prime_inverse_l1]
      rw [ew, if_pos (decide_eq_true (by omega)), ifp_pos (by omega), wrap64 (n := x ^ i % p * x) (by omega) (by omega), Int.tmod_eq_emod_of_nonneg h4.1, wrap64 (by omega) (by omega)]
      have : x ^ i % p * x % p = x ^ (i + 1) % p := by rw [Int.pow_succ, Int.mul_emod (x ^ i % p), Int.emod_emod, ← Int.mul_emod]
      rw [this]; rfl) (fun c hI => by
      simp only [impl_prime_inverse_l1]
      rw [ew, if_neg (by rw [decide_eq_true_eq]; omega)]) n 0 1 (by omega) (by rw [Int.pow_zero, Int.emod_eq_of_lt (by omega) (by omega)])
  have h1' : loopM (fun s : Int × Int => impl_prime_inverse_l1 p x s.1 s.2) (1, 0) = some c := h1
  simp only [impl_prime_inverse, h1', Option.bind_some]
  rw [h2, ← inv_pow hp hx, hn, Int.toNat_natCast]
end Go.Proofs.YtkbnegemdlnncaaGreat
/- Inverses modulo p, in the reference. -/
namespace Go.Proofs.YtkbnegemdlnncaaGreat
open Go.Abs

theorem inverse_spec {p x : Int} (hp : isP p = true) (hx : 0 < x ∧ x < p) : spec_l01Inverse p x = some (inv p x) := by
  have hp2 := isP_pos hp
  obtain ⟨hi1, hi2, hi3⟩ := inv_is hp hx
  have key : ∀ (m : Nat) (k : Int), 1 ≤ k → k + m = inv p x → loopM (fun s : Int => spec_l01Inverse_l1 p x s) k = some (.inr (inv p x)) := by
    intro m
    induction m with
    | zero =>
      intro k h1 h2
      have h3 := mul_small (x := k) (y := x) (by omega) (by omega)
      have e : k = inv p x := by omega
      have step : spec_l01Inverse_l1 p x k = some (.inr (.inr (inv p x))) := by
        simp only [spec_l01Inverse_l1, letp]
        rw [if_pos (decide_eq_true (by omega)), ifp_pos (by omega), wrap64 (n := x) (by omega) (by omega), wrap64 (n := k * x) (by omega) (by omega), Int.tmod_eq_emod_of_nonneg h3.1, if_pos, wrap8 (by omega) (by omega), e]
        rw [e, Int.mul_comm, hi3]; rfl
      rw [loopM_eq]
      simp only [step, Option.bind_some]
    | succ m ih =>
      intro k h1 h2
      have h3 := mul_small (x := k) (y := x) (by omega) (by omega)
      have hne := inv_first hp hx h1 (show k < inv p x by omega)
      have step : spec_l01Inverse_l1 p x k = some (.inl (k + 1)) := by
        simp only [spec_l01Inverse_l1, letp]
        rw [if_pos (decide_eq_true (by omega)), ifp_pos (by omega), wrap64 (n := x) (by omega) (by omega), wrap64 (n := k * x) (by omega) (by omega), Int.tmod_eq_emod_of_nonneg h3.1, if_neg (by rw [beq_iff_eq]; exact hne), wrap64 (by omega) (by omega)]
      rw [loopM_eq]
      simp only [step, Option.bind_some]
      exact ih (k + 1) (by omega) (by omega)
  have h := key (inv p x - 1).toNat 1 (by omega) (by omega)
  simp only [spec_l01Inverse, h, Option.bind_some]
end Go.Proofs.YtkbnegemdlnncaaGreat
/- Products, in the program. -/
namespace Go.Proofs.YtkbnegemdlnncaaGreat
open Go.Abs


theorem cv_small {a b : Nat → Int} (ha : ∀ i, 0 ≤ a i ∧ a i < 256) (hb : ∀ i, 0 ≤ b i ∧ b i < 256) (k : Nat) : ∀ n : Nat, 0 ≤ cv a b n k ∧ cv a b n k ≤ n * 65025
  | 0 => by simp [cv, sumTo]
  | n + 1 => by
    rw [cv_succ]
    have h1 := cv_small ha hb k n
    have h2 := mul_small (ha n) (hb (k - n))
    split <;> omega

/-- The program's product. -/
theorem times_is {p : Int} (hp : 2 ≤ p ∧ p ≤ 256) {a b : List Int} (ha : Ent a) (hb : Ent b) (la : a.length ≤ 500000) (lb : b.length ≤ 500000) : impl_prime_times p a b = some (mul p a b) := by
  simp only [impl_prime_times, letp]
  by_cases h1 : a.length = 0
  · have e : a = [] := List.eq_nil_of_length_eq_zero h1
    subst e
    simp [mul_nil]
  by_cases h2 : b.length = 0
  · have e : b = [] := List.eq_nil_of_length_eq_zero h2
    subst e
    simp [mul_nil']
  obtain ⟨n, hn⟩ : ∃ n : Nat, n = a.length + b.length - 1 := ⟨_, rfl⟩
  have e0 : IntKind.i64.wrap (IntKind.i64.wrap ((a.length : Int) + (b.length : Int)) - 1) = (n : Int) := by
    rw [wrap64 (n := (a.length : Int) + (b.length : Int)) (by omega) (by omega), wrap64 (by omega) (by omega)]; omega
  rw [e0]
  have c1 : (if ((a.length : Int) == 0) = true then some true else some ((b.length : Int) == 0)) = some false := by
    rw [if_neg (by rw [beq_iff_eq]; omega)]
    congr 1
    rw [beq_eq_false_iff_ne]; omega
  rw [c1]
  simp only [Bool.false_eq_true, if_false, Option.bind_some, Int.toNat_natCast]
  rw [ifp_pos (by omega)]
  -- one row
  have hrow : ∀ (i : Nat) (s : List Int), i < a.length → s.length = n → (∀ k, rd s k = cv (rd a) (rd b) i k) →
      ∃ s', loopM (fun s : Int × List Int => impl_prime_times_l2 b (i : Int) a s.1 s.2) (0, s) = some s' ∧ s'.length = n ∧ ∀ k, rd s' k = cv (rd a) (rd b) (i + 1) k := by
    intro i s hi hsl hs
    have hai := ha i
    obtain ⟨s', g1, g2, g3⟩ := loopM_for (body := fun s : Int × List Int => impl_prime_times_l2 b (i : Int) a s.1 s.2) (fun j (u : List Int) => ((j : Int), u)) (fun u => u) b.length
      (fun j u => u.length = n ∧ ∀ k, rd u k = if i ≤ k ∧ k < i + j then cv (rd a) (rd b) (i + 1) k else cv (rd a) (rd b) i k) (fun j u hj hI => by
        obtain ⟨hul, hu⟩ := hI
        have hbj := hb j
        have hm := mul_small hai hbj
        have hc := cv_small ha hb (i + j) i
        have e1 : IntKind.i64.wrap ((i : Int) + (j : Int)) = ((i + j : Nat) : Int) := by rw [wrap64 (by omega) (by omega)]; omega
        have huj := hu (i + j)
        rw [if_neg (by omega)] at huj
        have e2 : cv (rd a) (rd b) (i + 1) (i + j) = cv (rd a) (rd b) i (i + j) + rd a i * rd b j := by
          rw [cv_succ, if_pos (by omega), show i + j - i = j by omega]
        refine ⟨u.set (i + j) (cv (rd a) (rd b) (i + 1) (i + j)), ?_, by simpa using hul, fun k => ?_⟩
        · simp only [impl_prime_times_l2, letp]
          rw [if_pos (by simp; omega), e1]
          rw [ifp_pos (by omega), ifp_pos (by omega), ifp_pos (by omega)]
          simp only [Int.toNat_natCast]
          rw [huj, wrap64 (n := rd a i * rd b j) (by omega) (by omega), wrap64 (n := cv (rd a) (rd b) i (i + j) + rd a i * rd b j) (by omega) (by omega), wrap64 (by omega) (by omega), e2]
          rfl
        · rw [rd_set _ _ _ _ (by omega)]
          by_cases e : k = i + j
          · subst e
            rw [if_pos rfl, if_pos (by omega)]
          · rw [if_neg e, hu k]
            by_cases hc : i ≤ k ∧ k < i + j
            · rw [if_pos hc, if_pos (by omega)]
            · rw [if_neg hc, if_neg (by omega)]) (fun u hI => by
        simp only [impl_prime_times_l2]
        rw [if_neg (by simp)]) b.length 0 s (by omega) ⟨hsl, fun k => by rw [hs k, if_neg (by omega)]⟩
    refine ⟨s', g1, g2, fun k => ?_⟩
    rw [g3 k]
    split
    · rfl
    · rename_i hc
      rw [cv_succ]
      by_cases hik : i ≤ k
      · rw [if_pos hik, rd_ge (l := b) (by omega), Int.mul_zero, Int.add_zero]
      · rw [if_neg hik, Int.add_zero]
  obtain ⟨s, h3, h4, h5⟩ := loopM_for (body := fun s : Int × List Int => impl_prime_times_l1 a b s.1 s.2) (fun i (u : List Int) => ((i : Int), u)) (fun u => u) a.length
    (fun i u => u.length = n ∧ ∀ k, rd u k = cv (rd a) (rd b) i k) (fun i u hi hI => by
      obtain ⟨u', g1, g2, g3⟩ := hrow i u hi hI.1 hI.2
      refine ⟨u', ?_, g2, g3⟩
      simp only [impl_prime_times_l1]
      rw [if_pos (by simp; omega), ifp_pos (by omega), g1]
      simp only [Option.bind_some]
      rw [wrap64 (by omega) (by omega)]; rfl) (fun u hI => by
      simp only [impl_prime_times_l1]
      rw [if_neg (by simp)]) a.length 0 (List.replicate n 0) (by omega) ⟨by simp, fun k => by rw [rd_rep]; simp [cv, sumTo]⟩
  have h3' : loopM (fun s : Int × List Int => impl_prime_times_l1 a b s.1 s.2) (0, List.replicate n 0) = some s := h3
  rw [h3']
  simp only [Option.bind_some]
  obtain ⟨t, h6, h7, h8⟩ := loopM_for (body := fun q : Int × List Int => impl_prime_times_l3 s p q.1 q.2) (fun i (u : List Int) => ((i : Int), u)) (fun u => u) n
    (fun i u => u.length = n ∧ ∀ k, rd u k = if k < i then cv (rd a) (rd b) a.length k % p else cv (rd a) (rd b) a.length k) (fun i u hi hI => by
      obtain ⟨hul, hu⟩ := hI
      have hui := hu i
      rw [if_neg (by omega)] at hui
      have hc := cv_small ha hb i a.length
      refine ⟨u.set i (cv (rd a) (rd b) a.length i % p), ?_, by simpa using hul, fun k => ?_⟩
      · simp only [impl_prime_times_l3]
        rw [if_pos (by simp; omega), ifp_pos (by omega), ifp_pos (by omega), ifp_pos (by omega)]
        simp only [Int.toNat_natCast]
        rw [hui, Int.tmod_eq_emod_of_nonneg hc.1, wrap64 (by omega) (by omega)]; rfl
      · rw [rd_set _ _ _ _ (by omega), hu k]
        by_cases e : k = i
        · subst e; simp
        · rw [if_neg e]
          simp only [show (k < i + 1) = (k < i) from by rw [eq_iff_iff]; omega]) (fun u hI => by
      simp only [impl_prime_times_l3]
      rw [if_neg (by simp; omega)]) n 0 s (by omega) ⟨h4, fun k => by rw [h5 k, if_neg (by omega)]⟩
  have h6' : loopM (fun q : Int × List Int => impl_prime_times_l3 s p q.1 q.2) (0, s) = some t := h6
  rw [h6']
  simp only [Option.bind_some]
  rw [trimmed_is (by omega), trim_eq, h7]
  simp only [Option.bind_some]
  congr 1
  rw [mul, ← hn]
  exact ofF_congr fun k hk => by rw [h8 k, if_pos hk, cv_conv fun i hi => rd_ge (by omega)]
end Go.Proofs.YtkbnegemdlnncaaGreat
/- Sums, in the program. -/
namespace Go.Proofs.YtkbnegemdlnncaaGreat
open Go.Abs

theorem at_is (l : List Int) (i : Nat) : impl_row_at l i = some (rd l i) := by
  unfold impl_row_at
  by_cases h : i < l.length
  · rw [if_pos (by simpa using h), ifp_pos (by omega)]; simp
  · rw [if_neg (by simpa using h), rd_ge (by omega)]

theorem reduce_is {p n : Int} (hp : 0 < p ∧ p ≤ 256) (hn : -4611686018427387904 ≤ n ∧ n < 4611686018427387904) : impl_prime_reduce p n = some (n % p) := by
  unfold impl_prime_reduce
  have h1 := Int.lt_tmod_of_pos n hp.1
  have h2 := Int.tmod_lt_of_pos n hp.1
  rw [ifp_pos (by omega), ifp_pos (by omega), wrap64 (by omega) (by omega), tmod_fix hp.1]

theorem combine_is {p k : Int} {a b : List Int} (hp : 0 < p ∧ p ≤ 256) (ha : Ent a) (hb : Ent b) (la : a.length ≤ 1000000) (lb : b.length ≤ 1000000) (hk : -1099511627776 ≤ k ∧ k ≤ 1099511627776) :
    impl_prime_combine p a b k = some (comb p a b k) := by
  obtain ⟨n, hn⟩ : ∃ n : Nat, n = max a.length b.length := ⟨_, rfl⟩
  have e : (if (b.length : Int) > (a.length : Int) then (b.length : Int) else (a.length : Int)) = (n : Int) := by split <;> omega
  obtain ⟨s, h1, h2, h3⟩ := loopM_for (body := fun s : Int × List Int => impl_prime_combine_l1 (n : Int) a b p k s.1 s.2) (fun i s => ((i : Int), s)) (fun s => s) n
    (fun i s => s.length = n ∧ ∀ j, rd s j = if j < i then (rd a j + k * rd b j) % p else 0) (fun i s hi hI => by
      obtain ⟨hl, hr⟩ := hI
      have h1 := ha i
      have h2 := mulk (hb i) hk
      refine ⟨s.set i ((rd a i + k * rd b i) % p), ?_, by simpa using hl, fun j => ?_⟩
      · simp only [impl_prime_combine_l1, letp, Int.toNat_natCast, List.length_replicate]
        rw [if_pos (by simp; omega), at_is, at_is]
        simp only [Option.bind_some]
        rw [wrap64 (n := k * rd b i) (by omega) (by omega), wrap64 (n := rd a i + k * rd b i) (by omega) (by omega), reduce_is hp (by omega)]
        simp only [Option.bind_some]
        rw [ifp_pos (by omega), wrap64 (by omega) (by omega)]
        rfl
      · rw [rd_set _ _ _ _ (by omega), hr j]
        by_cases h : j = i
        · subst h; simp
        · rw [if_neg h]
          simp only [show (j < i + 1) = (j < i) from by rw [eq_iff_iff]; omega]) (fun s hI => by
      simp only [impl_prime_combine_l1, letp, Int.toNat_natCast, List.length_replicate]
      rw [if_neg (by simp)]) n 0 (List.replicate n 0) (by omega) ⟨by simp, fun j => by rw [rd_rep, if_neg (by omega)]⟩
  have hs : s.take (top (rd s) s.length) = comb p a b k := by
    rw [trim_eq, h2, comb, ← hn]
    exact ofF_congr fun i hi => by rw [h3 i, if_pos hi]
  simp only [impl_prime_combine, letp, e]
  rw [ifp_pos (by omega)]
  simp only [Int.toNat_natCast]
  have h1' : loopM (fun s : Int × List Int => impl_prime_combine_l1 (n : Int) a b p k s.1 s.2) (0, List.replicate n 0) = some s := h1
  rw [h1']
  simp only [Option.bind_some]
  rw [trimmed_is (by omega), hs]
  rfl
end Go.Proofs.YtkbnegemdlnncaaGreat
/- Which arrays are polynomials, in the program. -/
namespace Go.Proofs.YtkbnegemdlnncaaGreat
open Go.Abs

theorem index_loop {p : Int} {a : V64} (hb : IsB a) : ∀ s : Int, (∃ i : Nat, s = i ∧ i ≤ 64 ∧ ∀ j, j < i → rd a.1 j < p) → ∃ r, loopM (fun s : Int => slices_IndexFunc_byte_byte_of_impl_areAll_byte__c1_p_l1 a.1 p s) s = some r ∧ ((r = .inl () ∧ Small p a) ∨ (∃ i : Nat, r = .inr (i : Int) ∧ ¬ Small p a)) := by
  refine loopM_ind (fun (s : Int) => ∃ i : Nat, s = i ∧ i ≤ 64 ∧ ∀ j, j < i → rd a.1 j < p) (fun (s : Int) (r : Unit ⊕ Int) => (r = .inl () ∧ Small p a) ∨ (∃ i : Nat, r = .inr (i : Int) ∧ ¬ Small p a)) (fun s => 64 - s.toNat) ?_
  rintro s ⟨i, rfl, hi, hlt⟩
  have h64 := a.2
  by_cases h : i = 64
  · right
    subst h
    exact ⟨.inl (), by simp [slices_IndexFunc_byte_byte_of_impl_areAll_byte__c1_p_l1, h64], .inl ⟨rfl, hlt⟩⟩
  · have hbi := hb.rd (show i < 64 by omega)
    have e1 : impl_areAll_byte__c1_of_p (rd a.1 i) p = some (!decide (rd a.1 i < p)) := by
      simp only [impl_areAll_byte__c1_of_p, impl_isPoly_c1_of_p, Option.bind_some]
      rw [wrap64 (by omega) (by omega)]
    by_cases e : rd a.1 i < p
    · left
      refine ⟨((i + 1 : Nat) : Int), ?_, ⟨i + 1, rfl, by omega, fun j hj => ?_⟩, by simp; omega, fun r hr => hr⟩
      · simp only [slices_IndexFunc_byte_byte_of_impl_areAll_byte__c1_p_l1, h64]
        rw [if_pos (by simp; omega), ifp_pos (by omega), Int.toNat_natCast, e1, wrap64 (by omega) (by omega)]
        simp [e]
      · by_cases hj' : j = i
        · rw [hj']; exact e
        · exact hlt j (by omega)
    · right
      refine ⟨.inr (i : Int), ?_, .inr ⟨i, rfl, fun hs => e (hs i (by omega))⟩⟩
      simp only [slices_IndexFunc_byte_byte_of_impl_areAll_byte__c1_p_l1, h64]
      rw [if_pos (by simp; omega), ifp_pos (by omega), Int.toNat_natCast, e1]
      simp [e]
theorem isPoly_is {p : Int} {a : V64} (hb : IsB a) : impl_isPoly p a = some (small p a) := by
  obtain ⟨r, h1, h2⟩ := index_loop (p := p) hb 0 ⟨0, rfl, by omega, fun j hj => by omega⟩
  simp only [impl_isPoly, impl_areAll_byte_of_impl_isPoly_c1_p, slices_ContainsFunc_byte_byte_of_impl_areAll_byte__c1_p, slices_IndexFunc_byte_byte_of_impl_areAll_byte__c1_p, h1, Option.bind_some]
  rcases h2 with ⟨rfl, h⟩ | ⟨i, rfl, h⟩ <;> simp [small, h]
end Go.Proofs.YtkbnegemdlnncaaGreat
/- The code for polynomials, in the program. -/
namespace Go.Proofs.YtkbnegemdlnncaaGreat
open Go.Abs

theorem indexP_loop {p : Int} {l : List V64} (hb : ∀ a ∈ l, IsB a) (hl : l.length ≤ 2000000) : ∀ s : Int, (∃ i : Nat, s = i ∧ i ≤ l.length ∧ ∀ a ∈ l.take i, small p a = true) → ∃ r, loopM (fun s : Int => slices_IndexFunc_impl_Poly_impl_Poly_of_impl_areAll_impl_Poly__c1_p_l1 l p s) s = some r ∧ ((r = .inl () ∧ l.all (small p) = true) ∨ (∃ i : Nat, r = .inr (i : Int) ∧ l.all (small p) = false)) := by
  refine loopM_ind (fun (s : Int) => ∃ i : Nat, s = i ∧ i ≤ l.length ∧ ∀ a ∈ l.take i, small p a = true) (fun (s : Int) (r : Unit ⊕ Int) => (r = .inl () ∧ l.all (small p) = true) ∨ (∃ i : Nat, r = .inr (i : Int) ∧ l.all (small p) = false)) (fun s => l.length - s.toNat) ?_
  rintro s ⟨i, rfl, hi, hlt⟩
  by_cases h : i = l.length
  · right
    subst h
    exact ⟨.inl (), by simp [slices_IndexFunc_impl_Poly_impl_Poly_of_impl_areAll_impl_Poly__c1_p_l1], .inl ⟨rfl, by rw [List.take_length] at hlt; simpa using hlt⟩⟩
  · have hil : i < l.length := by omega
    have er : rd l i = l[i] := by simp [rd, hil]
    have hbi := isPoly_is (p := p) (hb l[i] (List.getElem_mem _))
    have e1 : impl_areAll_impl_Poly__c1_of_p (rd l i) p = some (!small p l[i]) := by
      simp only [impl_areAll_impl_Poly__c1_of_p, impl_polysCode_c1_of_p, er, hbi, Option.bind_some]
    cases e : small p l[i] with
    | true =>
      left
      refine ⟨((i + 1 : Nat) : Int), ?_, ⟨i + 1, rfl, by omega, fun a ha => ?_⟩, by simp; omega, fun r hr => hr⟩
      · simp only [slices_IndexFunc_impl_Poly_impl_Poly_of_impl_areAll_impl_Poly__c1_p_l1]
        rw [if_pos (decide_eq_true (by omega)), ifp_pos (by omega), Int.toNat_natCast, e1, e]
        simp only [Option.bind_some, Bool.not_true, Bool.false_eq_true, if_false]
        rw [wrap64 (by omega) (by omega)]; rfl
      · rw [List.take_succ_eq_append_getElem hil] at ha
        rcases List.mem_append.1 ha with ha | ha
        · exact hlt a ha
        · have : a = l[i] := by simpa using ha
          rw [this]; exact e
    | false =>
      right
      refine ⟨.inr (i : Int), ?_, .inr ⟨i, rfl, ?_⟩⟩
      · simp only [slices_IndexFunc_impl_Poly_impl_Poly_of_impl_areAll_impl_Poly__c1_p_l1]
        rw [if_pos (decide_eq_true (by omega)), ifp_pos (by omega), Int.toNat_natCast, e1, e]
        rfl
      · rw [List.all_eq_false]
        exact ⟨l[i], List.getElem_mem _, by simp [e]⟩
theorem polysCode_is {p : Int} {l : List V64} (hb : ∀ a ∈ l, IsB a) (hl : l.length ≤ 2000000) : impl_polysCode p l = some (if isP p && l.all (small p) then 0 else 1) := by
  obtain ⟨r, h1, h2⟩ := indexP_loop (p := p) hb hl 0 ⟨0, rfl, by omega, by simp⟩
  have e : impl_areAll_impl_Poly_of_impl_polysCode_c1_p l p = some (l.all (small p)) := by
    simp only [impl_areAll_impl_Poly_of_impl_polysCode_c1_p, slices_ContainsFunc_impl_Poly_impl_Poly_of_impl_areAll_impl_Poly__c1_p, slices_IndexFunc_impl_Poly_impl_Poly_of_impl_areAll_impl_Poly__c1_p, h1, Option.bind_some]
    rcases h2 with ⟨rfl, h⟩ | ⟨i, rfl, h⟩ <;> simp [h]
  simp only [impl_polysCode, isPrime_impl, e, Option.bind_some]
  cases isP p <;> cases l.all (small p) <;> simp
end Go.Proofs.YtkbnegemdlnncaaGreat
/- The part of a root: its coefficients from the leading one on. -/
namespace Go.Proofs.YtkbnegemdlnncaaGreat
open Go.Abs

/-- What is left for the coefficient k, of the coefficients l. -/
def rtW (F : Nat → Int) (l : List Int) (k n : Nat) : Int := F k - sumTo n fun i => rd l (i + 1) * rd l (k - (i + 1))
def rt (p : Int) (F : Nat → Int) : Nat → List Int
  | 0 => [1]
  | k + 1 => rt p F k ++ [rtW F (rt p F k) (k + 1) k % p * inv p (2 % p) % p]
theorem rt_len (p : Int) (F : Nat → Int) : ∀ k, (rt p F k).length = k + 1
  | 0 => rfl
  | k + 1 => by simp [rt, rt_len p F k]
theorem rt_res {p : Int} (hp : 2 ≤ p) (F : Nat → Int) : ∀ k j, 0 ≤ rd (rt p F k) j ∧ rd (rt p F k) j < p
  | 0, j => by
    rcases j with _ | j
    · simp [rt, rd]; omega
    · rw [rd_ge (by simp [rt])]; omega
  | k + 1, j => by
    simp only [rt]
    rw [rd_app]
    split
    · exact rt_res hp F k j
    · rcases Nat.eq_zero_or_pos (j - (rt p F k).length) with h | h
      · rw [h]
        simp only [rd, List.getD_cons_zero]
        exact emod_res (by omega) _
      · rw [rd_ge (by simp; omega)]; omega
/-- Earlier coefficients stay. -/
theorem rt_rd (p : Int) (F : Nat → Int) {k : Nat} : ∀ {n : Nat}, k ≤ n → ∀ {j : Nat}, j ≤ k → rd (rt p F n) j = rd (rt p F k) j
  | 0, h, j, hj => by have : k = 0 := by omega
                      subst this; rfl
  | n + 1, h, j, hj => by
    by_cases e : k = n + 1
    · subst e; rfl
    · simp only [rt]
      rw [rd_app, if_pos (by rw [rt_len]; omega)]
      exact rt_rd p F (by omega) hj
theorem rtW_small {p : Int} (hp : 2 ≤ p ∧ p ≤ 7) {F : Nat → Int} (hF : ∀ k, 0 ≤ F k ∧ F k < p) {l : List Int} (hl : ∀ j, 0 ≤ rd l j ∧ rd l j < p) (k : Nat) : ∀ n : Nat, -((n : Int) * 65025) ≤ rtW F l k n ∧ rtW F l k n < p
  | 0 => by have := hF k; simp [rtW, sumTo]; exact this
  | n + 1 => by
    have h1 := rtW_small hp hF hl k n
    have h2 := mul_small (x := rd l (n + 1)) (y := rd l (k - (n + 1))) (by have := hl (n + 1); omega) (by have := hl (k - (n + 1)); omega)
    simp only [rtW, sumTo] at h1 ⊢
    omega
theorem half_is {p : Int} (hp : isP p = true) (h2 : p ≠ 2) : Int.tdiv (p + 1) 2 = inv p (2 % p) ∧ 2 % p = 2 := by
  rcases isP_iff.1 hp with rfl | rfl | rfl | rfl
  · exact absurd rfl h2
  · decide
  · decide
  · decide

/-- The coefficient of a polynomial, told from the leading one on. -/
def fromTop (l : List Int) (k : Nat) : Int := if k < l.length then rd l (l.length - 1 - k) else 0
theorem fromTop_res {p : Int} {l : List Int} (h : Row p l) (hp : 0 < p) (k : Nat) : 0 ≤ fromTop l k ∧ fromTop l k < p := by
  unfold fromTop
  split
  · exact h.rd hp _
  · omega

theorem rootS_is {p : Int} (hp : isP p = true) (hp2 : p ≠ 2) {d : List Int} (hd : Row p d) (ld : d.length ≤ 64) (hd0 : d.length ≠ 0) {n : Nat} (hn : n ≤ 1000) : spec_l10Root p (pad d) ((n + 1 : Nat) : Int) = some (rt p (fromTop d) n) := by
  have hp3 := isP_pos hp
  have hta : top (rd (pad d).1) 64 = d.length := by rw [top_congr 64 fun i hi => rd_padl d hi, hd.top ld]
  have hhalf := half_is hp hp2
  obtain ⟨s, g1, g2⟩ := loopM_for (body := fun s : Int × List Int => spec_l10Root_l1 ((n + 1 : Nat) : Int) ((d.length : Int) - 1) (pad d) p s.1 s.2) (fun k s => (((k + 1 : Nat) : Int), s)) (fun s => s) n
    (fun k s => s = rt p (fromTop d) k) (fun k s hk hI => by
      subst hI
      have hlen := rt_len p (fromTop d) k
      have hres := rt_res (show 2 ≤ p by omega) (fromTop d) k
      have hF := fromTop_res hd (show 0 < p by omega)
      refine ⟨_, ?_, rfl⟩
      -- the start
      have hstart : (if (decide (((d.length : Int) - 1) ≥ ((k + 1 : Nat) : Int))) then (ifp (0 ≤ IntKind.i64.wrap (((d.length : Int) - 1) - ((k + 1 : Nat) : Int)) ∧ IntKind.i64.wrap (((d.length : Int) - 1) - ((k + 1 : Nat) : Int)) < ((64 : Nat) : Int)) (some (IntKind.i64.wrap ((rd (pad d).1 (IntKind.i64.wrap (((d.length : Int) - 1) - ((k + 1 : Nat) : Int))).toNat))))) else (some 0)) = some (fromTop d (k + 1)) := by
        by_cases h : k + 1 < d.length
        · have e1 : IntKind.i64.wrap (((d.length : Int) - 1) - ((k + 1 : Nat) : Int)) = ((d.length - 1 - (k + 1) : Nat) : Int) := by rw [wrap64 (by omega) (by omega)]; omega
          have h4 := hd.rd (show 0 < p by omega) (d.length - 1 - (k + 1))
          rw [if_pos (decide_eq_true (by omega)), e1, ifp_pos (by omega), Int.toNat_natCast, rd_padl _ (by omega), wrap64 (by omega) (by omega)]
          simp only [fromTop, if_pos h]
        · rw [if_neg (by rw [decide_eq_true_eq]; omega)]
          simp only [fromTop, if_neg h]
      -- the inner loop
      obtain ⟨w, w1, w2⟩ := loopM_for (body := fun s : Int × Int => spec_l10Root_l2 ((k + 1 : Nat) : Int) (rt p (fromTop d) k) s.1 s.2) (fun i w => (w, ((i + 1 : Nat) : Int))) (fun w => w) k
        (fun i w => w = rtW (fromTop d) (rt p (fromTop d) k) (k + 1) i) (fun i w hi hI => by
          subst hI
          have h5 := rtW_small ⟨hp3.1, hp3.2⟩ hF hres (k + 1) i
          have h6 := mul_small (x := rd (rt p (fromTop d) k) (i + 1)) (y := rd (rt p (fromTop d) k) (k + 1 - (i + 1))) (by have := hres (i + 1); omega) (by have := hres (k + 1 - (i + 1)); omega)
          have e2 : IntKind.i64.wrap (((k + 1 : Nat) : Int) - ((i + 1 : Nat) : Int)) = ((k + 1 - (i + 1) : Nat) : Int) := by rw [wrap64 (by omega) (by omega)]; omega
          refine ⟨_, ?_, rfl⟩
          simp only [spec_l10Root_l2, letp]
          rw [if_pos (decide_eq_true (by omega)), ifp_pos (by omega), e2, ifp_pos (by omega), Int.toNat_natCast, Int.toNat_natCast, wrap64 (n := rd (rt p (fromTop d) k) (i + 1) * rd (rt p (fromTop d) k) (k + 1 - (i + 1))) (by omega) (by omega)]
          have e3 : rtW (fromTop d) (rt p (fromTop d) k) (k + 1) i - rd (rt p (fromTop d) k) (i + 1) * rd (rt p (fromTop d) k) (k + 1 - (i + 1)) = rtW (fromTop d) (rt p (fromTop d) k) (k + 1) (i + 1) := by
            simp only [rtW, sumTo]; omega
          rw [e3]
          have h7 := rtW_small ⟨hp3.1, hp3.2⟩ hF hres (k + 1) (i + 1)
          rw [wrap64 (n := rtW (fromTop d) (rt p (fromTop d) k) (k + 1) (i + 1)) (by omega) (by omega), wrap64 (by omega) (by omega)]
          rfl) (fun w hI => by
          simp only [spec_l10Root_l2]
          rw [if_neg (by rw [decide_eq_true_eq]; omega)]) k 0 (fromTop d (k + 1)) (by omega) (by simp [rtW, sumTo])
      have w1' : loopM (fun s : Int × Int => spec_l10Root_l2 ((k + 1 : Nat) : Int) (rt p (fromTop d) k) s.1 s.2) (fromTop d (k + 1), 1) = some w := w1
      have hw := rtW_small ⟨hp3.1, hp3.2⟩ hF hres (k + 1) k
      rw [← w2] at hw
      have ht1 := Int.lt_tmod_of_pos w (show 0 < p by omega)
      have ht2 := Int.tmod_lt_of_pos w (show 0 < p by omega)
      have hm := emod_res (show 0 < p by omega) w
      have hinv := inv_is hp (x := 2 % p) (by rw [hhalf.2]; rcases isP_iff.1 hp with rfl | rfl | rfl | rfl <;> first | omega | exact absurd rfl hp2)
      have h8 := mul_small (x := w % p) (y := inv p (2 % p)) (by omega) (by omega)
      simp only [spec_l10Root_l1, letp]
      rw [if_pos (decide_eq_true (by omega)), hstart]
      simp only [Option.bind_some]
      rw [w1']
      simp only [Option.bind_some]
      rw [ifp_pos (by omega), ifp_pos (by omega), ifp_pos (by omega), ifp_pos (by simp [hlen]; omega), wrap64 (n := Int.tmod w p + p) (by omega) (by omega), tmod_fix (by omega), wrap64 (n := p + 1) (by omega) (by omega), hhalf.1, wrap64 (n := inv p (2 % p)) (by omega) (by omega), wrap64 (n := w % p * inv p (2 % p)) (by omega) (by omega), Int.tmod_eq_emod_of_nonneg h8.1, wrap64 (by omega) (by omega), w2]
      rfl) (fun s hI => by
      simp only [spec_l10Root_l1]
      rw [if_neg (by rw [decide_eq_true_eq]; omega)]) n 0 [1] (by omega) rfl
  have g1' : loopM (fun s : Int × List Int => spec_l10Root_l1 ((n + 1 : Nat) : Int) ((d.length : Int) - 1) (pad d) p s.1 s.2) (1, [1]) = some s := g1
  simp only [spec_l10Root, deg_is, hta, Option.bind_some, g1', g2]

/-- The program's root: the coefficients from the last one on. -/
theorem rootI_is {p : Int} (hp : isP p = true) (hp2 : p ≠ 2) {d : List Int} (hd : ∀ j, 0 ≤ rd d j ∧ rd d j < p) {g : Nat} (hg : g ≤ 1000) (hl : d.length = 2 * g + 1) : impl_prime_root p d = some (rt p (fromTop d) g).reverse := by
  have hp3 := isP_pos hp
  have hhalf := half_is hp hp2
  have h2p : 0 < 2 % p ∧ 2 % p < p := by rw [hhalf.2]; rcases isP_iff.1 hp with rfl | rfl | rfl | rfl <;> first | omega | exact absurd rfl hp2
  have hinv := inv_is hp h2p
  have hF : ∀ k, 0 ≤ fromTop d k ∧ fromTop d k < p := fun k => by
    unfold fromTop
    split
    · exact hd _
    · omega
  have e0 : IntKind.i64.wrap ((d.length : Int) - 1) = ((2 * g : Nat) : Int) := by rw [wrap64 (by omega) (by omega)]; omega
  have e1 : Int.tdiv ((2 * g : Nat) : Int) 2 = (g : Int) := by
    have : Int.tdiv ((2 * g : Nat) : Int) ((2 : Nat) : Int) = ((2 * g / 2 : Nat) : Int) := rfl
    have h : (2 * g / 2 : Nat) = g := by omega
    rw [h] at this; exact this
  have e2 : IntKind.i64.wrap (g : Int) = (g : Int) := wrap64 (by omega) (by omega)
  have e3 : IntKind.i64.wrap ((g : Int) + 1) = ((g + 1 : Nat) : Int) := by rw [wrap64 (by omega) (by omega)]; rfl
  have e4 : Int.tmod 2 p = 2 % p := Int.tmod_eq_emod_of_nonneg (by omega)
  simp only [impl_prime_root, impl_row_degree, Option.bind_some, e0, e1, e2, e3, e4, inverse_impl hp h2p]
  rw [ifp_pos (by omega)]
  simp only [Option.bind_some, Int.toNat_natCast, List.length_replicate]
  rw [ifp_pos (by omega), ifp_pos (by omega)]
  -- what stands in the row behind k rounds
  let In : Nat → List Int → Prop := fun k s => s.length = g + 1 ∧ ∀ i, i ≤ g → rd s (g - i) = if i ≤ k then rd (rt p (fromTop d) k) i else 0
  obtain ⟨s, g1, g2⟩ := loopM_for (body := fun s : Int × List Int => impl_prime_root_l1 ((2 * g : Nat) : Int) d p (inv p (2 % p)) s.1 s.2) (fun k s => (((k + 1 : Nat) : Int), s)) (fun s => s) g
    In (fun k s hk hI => by
      obtain ⟨hsl, hs⟩ := hI
      have hlen := rt_len p (fromTop d) k
      have hres := rt_res (show 2 ≤ p by omega) (fromTop d) k
      have hleft : IntKind.i64.wrap (IntKind.i64.wrap (2 * (g : Int)) - ((k + 1 : Nat) : Int)) = ((2 * g - (k + 1) : Nat) : Int) := by
        rw [wrap64 (n := 2 * (g : Int)) (by omega) (by omega), wrap64 (by omega) (by omega)]; omega
      have hst : rd d (2 * g - (k + 1)) = fromTop d (k + 1) := by
        unfold fromTop
        rw [if_pos (by omega), hl, show 2 * g + 1 - 1 - (k + 1) = 2 * g - (k + 1) by omega]
      obtain ⟨w, w1, w2⟩ := loopM_for (body := fun q : Int × Int => impl_prime_root_l2 ((k + 1 : Nat) : Int) ((2 * g : Nat) : Int) s q.1 q.2) (fun i w => (w, ((i + 1 : Nat) : Int))) (fun w => w) k
        (fun i w => w = rtW (fromTop d) (rt p (fromTop d) k) (k + 1) i) (fun i w hi hI => by
          subst hI
          have h5 := rtW_small ⟨hp3.1, hp3.2⟩ hF hres (k + 1) i
          have h6 := mul_small (x := rd (rt p (fromTop d) k) (i + 1)) (y := rd (rt p (fromTop d) k) (k + 1 - (i + 1))) (by have := hres (i + 1); omega) (by have := hres (k + 1 - (i + 1)); omega)
          have f1 : IntKind.i64.wrap ((g : Int) - ((i + 1 : Nat) : Int)) = ((g - (i + 1) : Nat) : Int) := by rw [wrap64 (by omega) (by omega)]; omega
          have f2 : IntKind.i64.wrap (IntKind.i64.wrap ((g : Int) - ((k + 1 : Nat) : Int)) + ((i + 1 : Nat) : Int)) = ((g - (k + 1 - (i + 1)) : Nat) : Int) := by
            rw [wrap64 (n := (g : Int) - ((k + 1 : Nat) : Int)) (by omega) (by omega), wrap64 (by omega) (by omega)]; omega
          have r1 := hs (i + 1) (by omega)
          rw [if_pos (by omega)] at r1
          have r2 := hs (k + 1 - (i + 1)) (by omega)
          rw [if_pos (by omega)] at r2
          refine ⟨_, ?_, rfl⟩
          simp only [impl_prime_root_l2, letp, e1, e2]
          rw [if_pos (decide_eq_true (by omega)), f1, ifp_pos (by omega), f2, ifp_pos (by omega), Int.toNat_natCast, Int.toNat_natCast, r1, r2, wrap64 (n := rd (rt p (fromTop d) k) (i + 1) * rd (rt p (fromTop d) k) (k + 1 - (i + 1))) (by omega) (by omega)]
          have f3 : rtW (fromTop d) (rt p (fromTop d) k) (k + 1) i - rd (rt p (fromTop d) k) (i + 1) * rd (rt p (fromTop d) k) (k + 1 - (i + 1)) = rtW (fromTop d) (rt p (fromTop d) k) (k + 1) (i + 1) := by
            simp only [rtW, sumTo]; omega
          rw [f3]
          have h7 := rtW_small ⟨hp3.1, hp3.2⟩ hF hres (k + 1) (i + 1)
          rw [wrap64 (n := rtW (fromTop d) (rt p (fromTop d) k) (k + 1) (i + 1)) (by omega) (by omega), wrap64 (by omega) (by omega)]
          rfl) (fun w hI => by
          simp only [impl_prime_root_l2]
          rw [if_neg (by rw [decide_eq_true_eq]; omega)]) k 0 (fromTop d (k + 1)) (by omega) (by simp [rtW, sumTo])
      have w1' : loopM (fun q : Int × Int => impl_prime_root_l2 ((k + 1 : Nat) : Int) ((2 * g : Nat) : Int) s q.1 q.2) (fromTop d (k + 1), 1) = some w := w1
      have hw := rtW_small ⟨hp3.1, hp3.2⟩ hF hres (k + 1) k
      rw [← w2] at hw
      have hm := emod_res (show 0 < p by omega) w
      have h8 := mul_small (x := w % p) (y := inv p (2 % p)) (by omega) (by omega)
      have f4 : IntKind.i64.wrap ((g : Int) - ((k + 1 : Nat) : Int)) = ((g - (k + 1) : Nat) : Int) := by rw [wrap64 (by omega) (by omega)]; omega
      refine ⟨s.set (g - (k + 1)) (w % p * inv p (2 % p) % p), ?_, by simpa using hsl, fun i hi => ?_⟩
      · simp only [impl_prime_root_l1, letp, e1, e2, hleft, Int.toNat_natCast]
        rw [if_pos (decide_eq_true (by omega)), ifp_pos (by omega), hst, w1']
        simp only [Option.bind_some]
        rw [reduce_is (by omega) (by omega)]
        simp only [Option.bind_some]
        rw [ifp_pos (by omega), f4, ifp_pos (by omega), wrap64 (n := w % p * inv p (2 % p)) (by omega) (by omega), Int.tmod_eq_emod_of_nonneg h8.1, wrap64 (by omega) (by omega), Int.toNat_natCast]
        rfl
      · rw [rd_set _ _ _ _ (by omega), hs i hi]
        simp only [rt]
        by_cases e : i = k + 1
        · subst e
          rw [if_pos rfl, if_pos (by omega), rd_app, if_neg (by omega), hlen, Nat.sub_self, w2]
          rfl
        · rw [if_neg (by omega)]
          by_cases h : i ≤ k
          · rw [if_pos h, if_pos (by omega), rd_app, if_pos (by omega)]
          · rw [if_neg h, if_neg (by omega)]) (fun s hI => by
      simp only [impl_prime_root_l1, e1, e2]
      rw [if_neg (by rw [decide_eq_true_eq]; omega)]) g 0 ((List.replicate (g + 1) 0).set g 1) (by omega) ⟨by simp, fun i hi => by
        rw [rd_set _ _ _ _ (by simp)]
        by_cases h : i = 0
        · subst h; simp [rt, rd]
        · rw [if_neg (by omega), if_neg (by omega), rd_rep]⟩
  have g1' : loopM (fun s : Int × List Int => impl_prime_root_l1 ((2 * g : Nat) : Int) d p (inv p (2 % p)) s.1 s.2) (1, (List.replicate (g + 1) 0).set g 1) = some s := g1
  rw [g1']
  simp only [Option.bind_some]
  congr 1
  obtain ⟨hsl, hs⟩ := g2
  have hlen := rt_len p (fromTop d) g
  refine rd_ext (by rw [hsl, List.length_reverse, hlen]) fun i hi => ?_
  have h1 := hs (g - i) (by omega)
  rw [if_pos (by omega), show g - (g - i) = i by omega] at h1
  rw [h1, rd_lt (by rw [hlen]; omega), rd_lt (by rw [List.length_reverse, hlen]; omega), List.getElem_reverse]
  congr 1
  omega
end Go.Proofs.YtkbnegemdlnncaaGreat
/- The row of an array, trimmed. -/
namespace Go.Proofs.YtkbnegemdlnncaaGreat
open Go.Abs

theorem rowOf_loop {a : V64} (hb : IsB a) : ∀ s : Int × List Int, (∃ i : Nat, s.1 = i ∧ i ≤ 64 ∧ s.2 = a.1.take i) → ∃ r, loopM (fun s : Int × List Int => impl_rowOf_l1 a s.1 s.2) s = some r ∧ r = a.1 := by
  refine loopM_ind (fun (s : Int × List Int) => ∃ i : Nat, s.1 = i ∧ i ≤ 64 ∧ s.2 = a.1.take i) (fun (s : Int × List Int) (r : List Int) => r = a.1) (fun (s : Int × List Int) => 64 - s.1.toNat) ?_
  rintro ⟨x, v⟩ ⟨i, hx, hi, hv⟩
  simp only at hx hv
  subst hx hv
  by_cases h : i = 64
  · right
    subst h
    exact ⟨a.1, by simp [impl_rowOf_l1, List.take_of_length_le (Nat.le_of_eq a.2)], rfl⟩
  · left
    have hil : i < a.1.length := by rw [a.2]; omega
    have er : rd a.1 i = a.1[i] := by simp [rd, hil]
    have hbi := hb.rd (show i < 64 by omega)
    refine ⟨(((i + 1 : Nat) : Int), a.1.take (i + 1)), ?_, ⟨i + 1, rfl, by omega, rfl⟩, by simp; omega, fun r hr => hr⟩
    simp only [impl_rowOf_l1]
    rw [if_pos (by simp; omega), ifp_pos (by omega), ifp_pos (by simp; omega)]
    rw [Int.toNat_natCast, wrap64 (by omega) (by omega), wrap64 (by omega) (by omega), er, List.take_succ_eq_append_getElem hil]
    simp

theorem rowOf_is {a : V64} (hb : IsB a) : impl_rowOf a = some (a.1.take (top (rd a.1) 64)) := by
  obtain ⟨r, h1, h2⟩ := rowOf_loop hb (0, []) ⟨0, rfl, by omega, by simp⟩
  subst h2
  have h3 := trimmed_is (l := a.1) (by rw [a.2]; omega)
  rw [a.2] at h3
  simp only [impl_rowOf, h1, Option.bind_some, h3]
end Go.Proofs.YtkbnegemdlnncaaGreat
/- The row of an array. -/
namespace Go.Proofs.YtkbnegemdlnncaaGreat
open Go.Abs
theorem row_is {d : V64} (hb : IsB d) : impl_rowOf d = some (row d) := by
  rw [rowOf_is hb]
  congr 1
  have := top_le (rd d.1) 64
  refine rd_ext (by rw [row, ofF_len]; simp; rw [d.2]; omega) fun i hi => ?_
  simp at hi
  rw [rd_take, row, rd_ofF', if_pos (by omega), if_pos (by omega)]
theorem row_length (d : V64) : (row d).length = top (rd d.1) 64 := by rw [row, ofF_len]
theorem row_rd (d : V64) {i : Nat} (hi : i < 64) : rd (row d) i = rd d.1 i := by rw [row, rd_ofF', if_pos hi]
end Go.Proofs.YtkbnegemdlnncaaGreat
/- Square cases. -/
namespace Go.Proofs.YtkbnegemdlnncaaGreat
open Go.Abs

/-- Not modulo 2, monic, and of an even degree. -/
def sqB (p : Int) (a : Nat → Int) (t : Nat) : Bool := (p != 2) && (t != 0) && (a (t - 1) == 1) && ((t - 1) % 2 == 0)
def sqOk (p : Int) (d : V64) : Bool := sqB p (rd d.1) (top (rd d.1) 64)
theorem tmod2 (n : Nat) : Int.tmod (n : Int) 2 = ((n % 2 : Nat) : Int) := rfl
theorem case_is {p : Int} {d : V64} (hb : IsB d) : spec_l10Case p d = some (if isP p && small p d then (if sqOk p d then 0 else 2) else 1) := by
  have ht := top_le (rd d.1) 64
  simp only [spec_l10Case, code_is (p := p) (l := [d]) (by simpa using hb) (by simp), Option.bind_some, List.all_cons, List.all_nil, Bool.and_true]
  cases isP p && small p d with
  | false => simp
  | true =>
    simp only [if_true, bne_self_eq_false, Bool.false_eq_true, if_false, spec_l01Monic, deg_is, Option.bind_some]
    have hq : sqOk p d = sqB p (rd d.1) (top (rd d.1) 64) := rfl
    generalize sqOk p d = b at hq ⊢
    generalize top (rd d.1) 64 = t at ht hq ⊢
    subst hq
    simp only [sqB]
    by_cases h2 : p = 2
    · subst h2; simp
    · simp only [show (p == 2) = false by simp [h2], Bool.false_eq_true, if_false]
      by_cases h0 : t = 0
      · subst h0; simp
      · have e1 : ((t : Int) - 1) = ((t - 1 : Nat) : Int) := by omega
        rw [e1, if_pos (decide_eq_true (by omega)), ifp_pos (by omega), Int.toNat_natCast, tmod2]
        by_cases h1 : rd d.1 (t - 1) = 1
        · by_cases h3 : (t - 1) % 2 = 0
          · simp [h1, h3, h2, h0]
          · have : (t - 1) % 2 = 1 := by omega
            simp [h1, this]
        · simp [h1]
theorem square_is {p : Int} {d : V64} (hb : IsB d) (r : Bool) : impl_squareCode p d r = some (if isP p && small p d then (if sqOk p d && r then 0 else 2) else 1) := by
  have ht := top_le (rd d.1) 64
  simp only [impl_squareCode, polysCode_is (p := p) (l := [d]) (by simpa using hb) (by simp), Option.bind_some, List.all_cons, List.all_nil, Bool.and_true]
  cases isP p && small p d with
  | false => simp
  | true =>
    simp only [if_true, bne_self_eq_false, Bool.false_eq_true, if_false, row_is hb, Option.bind_some, impl_row_lead, impl_row_degree, row_length]
    have hrow : ∀ i, i < 64 → rd (row d) i = rd d.1 i := fun i hi => row_rd d hi
    have hq : sqOk p d = sqB p (rd d.1) (top (rd d.1) 64) := rfl
    generalize sqOk p d = b at hq ⊢
    generalize top (rd d.1) 64 = t at ht hq ⊢
    subst hq
    simp only [sqB]
    by_cases h2 : p = 2
    · subst h2; simp
    · simp only [show (p == 2) = false by simp [h2], Bool.false_eq_true, if_false]
      by_cases h0 : t = 0
      · subst h0; simp
      · have e1 : IntKind.i64.wrap ((t : Int) - 1) = ((t - 1 : Nat) : Int) := by rw [wrap64 (by omega) (by omega)]; omega
        rw [if_neg (by rw [beq_iff_eq]; omega), e1, ifp_pos (by omega), Int.toNat_natCast, hrow _ (by omega), tmod2]
        by_cases h1 : rd d.1 (t - 1) = 1
        · by_cases h3 : (t - 1) % 2 = 0
          · cases r <;> simp [h1, h3, h2, h0]
          · have : (t - 1) % 2 = 1 := by omega
            simp [h1, this]
        · simp [h1]
theorem sqOk_spec {p : Int} {d : V64} (h : sqOk p d = true) : p ≠ 2 ∧ ∃ g : Nat, (row d).length = 2 * g + 1 ∧ g ≤ 31 := by
  simp only [sqOk, sqB, Bool.and_eq_true, bne_iff_ne, beq_iff_eq] at h
  have ht := top_le (rd d.1) 64
  exact ⟨h.1.1.1, (top (rd d.1) 64 - 1) / 2, by rw [row_length]; omega, by omega⟩
theorem tdiv2 (n : Nat) : Int.tdiv (n : Int) 2 = ((n / 2 : Nat) : Int) := rfl
end Go.Proofs.YtkbnegemdlnncaaGreat
/- IsSquarePoly: what both sides return. -/
namespace Go.Proofs.YtkbnegemdlnncaaGreat
open Go.Abs
theorem sliceEq_is {a b : List Int} (ha : a.length ≤ 1000000) (hb : b.length ≤ 1000000) : slices_Equal_impl_row_int64 a b = some (decide (a = b)) := by
  unfold slices_Equal_impl_row_int64
  by_cases hl : a.length = b.length
  · rw [if_neg (by rw [bne_iff_ne]; simp; omega)]
    have key : ∀ s : Int, (∃ i : Nat, s = i ∧ i ≤ a.length ∧ ∀ j, j < i → rd a j = rd b j) → ∃ r, loopM (fun s : Int => slices_Equal_impl_row_int64_l1 a b s) s = some r ∧ ((r = .inl () ∧ a = b) ∨ (r = .inr false ∧ a ≠ b)) := by
      refine loopM_ind (fun (s : Int) => ∃ i : Nat, s = i ∧ i ≤ a.length ∧ ∀ j, j < i → rd a j = rd b j) (fun (s : Int) (r : Unit ⊕ Bool) => (r = .inl () ∧ a = b) ∨ (r = .inr false ∧ a ≠ b)) (fun s => a.length - s.toNat) ?_
      rintro s ⟨i, rfl, hi, hlt⟩
      by_cases h : i = a.length
      · right
        subst h
        exact ⟨.inl (), by simp [slices_Equal_impl_row_int64_l1], .inl ⟨rfl, rd_ext hl hlt⟩⟩
      · by_cases e : rd a i = rd b i
        · left
          refine ⟨((i + 1 : Nat) : Int), ?_, ⟨i + 1, rfl, by omega, fun j hj => ?_⟩, by simp; omega, fun r hr => hr⟩
          · simp only [slices_Equal_impl_row_int64_l1]
            rw [if_pos (decide_eq_true (by omega)), ifp_pos (by omega), ifp_pos (by omega), Int.toNat_natCast, if_neg (by rw [bne_iff_ne]; simpa using e), wrap64 (by omega) (by omega)]; rfl
          · by_cases hj' : j = i
            · rw [hj']; exact e
            · exact hlt j (by omega)
        · right
          refine ⟨.inr false, ?_, .inr ⟨rfl, fun h => e (by rw [h])⟩⟩
          simp only [slices_Equal_impl_row_int64_l1]
          rw [if_pos (decide_eq_true (by omega)), ifp_pos (by omega), ifp_pos (by omega), Int.toNat_natCast, if_pos (by rw [bne_iff_ne]; exact e)]
    obtain ⟨r, h1, h2⟩ := key 0 ⟨0, rfl, by omega, fun j hj => by omega⟩
    rw [h1]
    rcases h2 with ⟨rfl, h⟩ | ⟨rfl, h⟩ <;> simp [h]
  · rw [if_pos (by rw [bne_iff_ne]; simp; omega)]
    have : a ≠ b := fun h => hl (by rw [h])
    simp [this]

theorem root_row {p : Int} (hp : 2 ≤ p) (F : Nat → Int) (g : Nat) : Row p (rt p F g).reverse := by
  have hlen := rt_len p F g
  refine ⟨fun x hx => ?_, fun _ => ?_⟩
  · rw [List.mem_reverse] at hx
    obtain ⟨j, hj, rfl⟩ := List.getElem_of_mem hx
    rw [← rd_lt hj]
    exact rt_res hp F g j
  · rw [List.length_reverse, hlen, rd_lt (by rw [List.length_reverse, hlen]; omega), List.getElem_reverse, ← rd_lt]
    have : (rt p F g).length - 1 - (g + 1 - 1) = 0 := by omega
    rw [this, rt_rd p F (Nat.zero_le g) (Nat.zero_le 0)]
    simp [rt, rd]
theorem part_is {p : Int} (hp : isP p = true) (hne : p ≠ 2) {d : V64} (hres : Res p d) {g : Nat} (hg : (row d).length = 2 * g + 1) (hg31 : g ≤ 31) : spec_l10Part p d = some (pad (rt p (fromTop (row d)) g).reverse) := by
  have hp2 := isP_pos hp
  have hrow := row_row hres
  have htop : top (rd d.1) 64 = 2 * g + 1 := by rw [← row_length, hg]
  have hS := rootS_is hp hne hrow (row_len d) (by omega) (n := g) (by omega)
  rw [pad_row] at hS
  have hlen := rt_len p (fromTop (row d)) g
  have hrr := rt_res (show 2 ≤ p by omega) (fromTop (row d)) g
  obtain ⟨R, hR⟩ : ∃ R, R = rt p (fromTop (row d)) g := ⟨_, rfl⟩
  rw [← hR] at hlen hS hrr ⊢
  have e1 : (((2 * g + 1 : Nat) : Int) - 1) = ((2 * g : Nat) : Int) := by omega
  have e2 : IntKind.i64.wrap (Int.tdiv ((2 * g : Nat) : Int) 2) = (g : Int) := by rw [tdiv2, show 2 * g / 2 = g by omega, wrap64 (by omega) (by omega)]
  have e3 : IntKind.i64.wrap ((g : Int) + 1) = ((g + 1 : Nat) : Int) := by rw [wrap64 (by omega) (by omega)]; rfl
  simp only [spec_l10Part, deg_is, htop, Option.bind_some, e1, e2, e3, hS]
  obtain ⟨s, g1, g2⟩ := loopM_for (body := fun s : Int × V64 => spec_l10Part_l1 ((2 * g : Nat) : Int) R s.1 s.2) (fun i s => ((i : Int), s)) (fun s => s) (g + 1)
    (fun i s => ∀ j, j < 64 → rd s.1 j = if g < j + i ∧ j ≤ g then rd R (g - j) else 0) (fun i s hi hI => by
      have h1 := hrr i
      have f1 : IntKind.i64.wrap ((g : Int) - (i : Int)) = ((g - i : Nat) : Int) := by rw [wrap64 (by omega) (by omega)]; omega
      refine ⟨vset s (g - i) (rd R i), ?_, fun j hj => ?_⟩
      · simp only [spec_l10Part_l1, e2]
        rw [if_pos (decide_eq_true (by omega)), ifp_pos (by omega), f1, ifp_pos (by omega), wrap64 (by omega) (by omega), Int.toNat_natCast, Int.toNat_natCast, wrap8 (by omega) (by omega)]
        rfl
      · rw [rd_vset _ _ _ _ (by omega), hI j hj]
        by_cases e : j = g - i
        · subst e
          rw [if_pos rfl, if_pos (by omega), show g - (g - i) = i by omega]
        · rw [if_neg e]
          by_cases h : g < j + i ∧ j ≤ g
          · rw [if_pos h, if_pos (by omega)]
          · rw [if_neg h, if_neg (by omega)]) (fun s hI => by
      simp only [spec_l10Part_l1, e2]
      rw [if_neg (by rw [decide_eq_true_eq]; omega)]) (g + 1) 0 (vrep 64 0) (by omega) (fun j hj => by rw [rd_vrep _ hj, if_neg (by omega)])
  have g1' : loopM (fun s : Int × V64 => spec_l10Part_l1 ((2 * g : Nat) : Int) R s.1 s.2) (0, vrep 64 0) = some s := g1
  rw [g1']
  simp only [Option.bind_some]
  congr 1
  refine vec_ext fun j hj => ?_
  rw [g2 j hj, rd_padl _ hj]
  by_cases h : j ≤ g
  · rw [if_pos (by omega), rd_lt (by rw [hlen]; omega), rd_lt (l := R.reverse) (by rw [List.length_reverse, hlen]; omega), List.getElem_reverse]
    congr 1
    omega
  · rw [if_neg (by omega), rd_ge (by rw [List.length_reverse, hlen]; omega)]

theorem isSquare_both {p : Int} {d : V64} (hb : IsB d) : ∃ r, spec_IsSquarePoly p d = some r ∧ impl_IsSquarePoly p d = some r := by
  simp only [spec_IsSquarePoly, impl_IsSquarePoly, case_is hb, square_is hb, Option.bind_some, Bool.and_true]
  by_cases hok : isP p && small p d
  · obtain ⟨hp, hsm⟩ : isP p = true ∧ small p d = true := by simpa using hok
    have hp2 := isP_pos hp
    by_cases hsq : sqOk p d = true
    · obtain ⟨hne, g, hg, hg31⟩ := sqOk_spec hsq
      have hres := res_of_small hb hsm
      have hrow := row_row hres
      have hI := rootI_is hp hne (d := row d) (g := g) (fun j => hrow.rd (by omega) j) (by omega) hg
      have hrr := root_row (show 2 ≤ p by omega) (fromTop (row d)) g
      have hlen := rt_len p (fromTop (row d)) g
      simp only [hok, hsq, if_true, bne_self_eq_false, Bool.false_eq_true, if_false, part_is hp hne hres hg hg31, row_is hb, hI, Option.bind_some]
      generalize hR : (rt p (fromTop (row d)) g).reverse = R at *
      have hRl : R.length = g + 1 := by rw [← hR, List.length_reverse, hlen]
      have hml := mul_len p R R
      rw [times_pad ⟨by omega, by omega⟩ hrr hrr (by omega) (by omega) (by omega), times_is ⟨by omega, by omega⟩ (hrr.ent ⟨by omega, by omega⟩) (hrr.ent ⟨by omega, by omega⟩) (by omega) (by omega)]
      simp only [Option.bind_some]
      rw [sliceEq_is (by omega) (by omega)]
      simp only [Option.bind_some]
      refine ⟨_, rfl, ?_⟩
      congr 2
      rw [Bool.eq_iff_iff]
      simp only [decide_eq_true_eq]
      constructor
      · intro h; rw [h, pad_row]
      · intro h
        have := congrArg row h
        rwa [row_pad (mul_row (by omega) _ _) (by omega)] at this
    · have hsq : sqOk p d = false := by simpa using hsq
      exact ⟨(false, 2), by simp [hok, hsq], by simp [hok, hsq]⟩
  · have hok : (isP p && small p d) = false := by simpa using hok
    exact ⟨(false, 1), by simp [hok], by simp [hok]⟩
end Go.Proofs.YtkbnegemdlnncaaGreat
/- Commutative rings, told by their laws: powers, the Frobenius, roots of polynomials, powers in finite fields. -/
namespace Go.Abs

structure IsRing (K : Type) [Add K] [Mul K] [Neg K] [Zero K] [One K] : Prop where
  add_comm : ∀ a b : K, a + b = b + a
  add_assoc : ∀ a b c : K, a + b + c = a + (b + c)
  add_zero : ∀ a : K, a + 0 = a
  add_neg : ∀ a : K, a + -a = 0
  mul_comm : ∀ a b : K, a * b = b * a
  mul_assoc : ∀ a b c : K, a * b * c = a * (b * c)
  mul_one : ∀ a : K, a * 1 = a
  mul_add : ∀ a b c : K, a * (b + c) = a * b + a * c

section
variable {K : Type} [Add K] [Mul K] [Neg K] [Zero K] [One K]

def pw (x : K) : Nat → K
  | 0 => 1
  | n + 1 => pw x n * x
def nsm : Nat → K → K
  | 0, _ => 0
  | n + 1, x => nsm n x + x

namespace IsRing
variable (R : IsRing K)
include R
theorem zero_add (a : K) : 0 + a = a := by rw [R.add_comm, R.add_zero]
theorem neg_add (a : K) : -a + a = 0 := by rw [R.add_comm, R.add_neg]
theorem add_left_comm (a b c : K) : a + (b + c) = b + (a + c) := by rw [← R.add_assoc, R.add_comm a b, R.add_assoc]
theorem mul_left_comm (a b c : K) : a * (b * c) = b * (a * c) := by rw [← R.mul_assoc, R.mul_comm a b, R.mul_assoc]
theorem one_mul (a : K) : 1 * a = a := by rw [R.mul_comm, R.mul_one]
theorem add_mul (a b c : K) : (a + b) * c = a * c + b * c := by rw [R.mul_comm, R.mul_add, R.mul_comm c a, R.mul_comm c b]
theorem cancel {a b c : K} (h : a + b = a + c) : b = c := by
  have : -a + (a + b) = -a + (a + c) := by rw [h]
  rwa [← R.add_assoc, ← R.add_assoc, R.neg_add, R.zero_add, R.zero_add] at this
theorem mul_zero (a : K) : a * 0 = 0 := by
  have h : a * 0 + a * 0 = a * 0 + 0 := by rw [← R.mul_add, R.add_zero, R.add_zero]
  exact R.cancel h
theorem zero_mul (a : K) : 0 * a = 0 := by rw [R.mul_comm, R.mul_zero]
theorem neg_of {a b : K} (h : a + b = 0) : b = -a := R.cancel (a := a) (by rw [h, R.add_neg])
theorem mul_neg (a b : K) : a * -b = -(a * b) := R.neg_of (by rw [← R.mul_add, R.add_neg, R.mul_zero])
theorem neg_neg (a : K) : - -a = a := (R.neg_of (R.neg_add a)).symm
theorem sub_zero {a b : K} (h : a + -b = 0) : a = b := by
  have h' := R.neg_of ((R.add_comm _ _).trans h)
  rw [R.neg_neg] at h'
  exact h'

/-! Powers and multiples. -/
theorem pw_one (n : Nat) : pw (1 : K) n = 1 := by
  induction n with
  | zero => rfl
  | succ n ih => simp only [pw, ih, R.mul_one]
theorem pw_zero {n : Nat} (h : n ≠ 0) : pw (0 : K) n = 0 := by
  cases n with
  | zero => exact absurd rfl h
  | succ n => simp only [pw, R.mul_zero]
theorem pw_add (x : K) (n m : Nat) : pw x (n + m) = pw x n * pw x m := by
  induction m with
  | zero => simp only [pw, Nat.add_zero, R.mul_one]
  | succ m ih => rw [← Nat.add_assoc]; simp only [pw, ih, R.mul_assoc]
theorem pw_mul (x : K) (n m : Nat) : pw x (n * m) = pw (pw x n) m := by
  induction m with
  | zero => simp only [pw, Nat.mul_zero]
  | succ m ih => rw [Nat.mul_succ, R.pw_add, ih]; rfl
theorem mul_pw (x y : K) (n : Nat) : pw (x * y) n = pw x n * pw y n := by
  induction n with
  | zero => simp only [pw, R.mul_one]
  | succ n ih => simp only [pw, ih, R.mul_assoc, R.mul_left_comm]
theorem nsm_add (n m : Nat) (x : K) : nsm (n + m) x = nsm n x + nsm m x := by
  induction m with
  | zero => simp only [nsm, Nat.add_zero, R.add_zero]
  | succ m ih => rw [← Nat.add_assoc]; simp only [nsm, ih, R.add_assoc]
theorem nsm_mul (n m : Nat) (x : K) : nsm (n * m) x = nsm n (nsm m x) := by
  induction n with
  | zero => simp only [nsm, Nat.zero_mul]
  | succ n ih => rw [Nat.succ_mul, R.nsm_add, ih]; rfl
theorem mul_nsm (n : Nat) (x y : K) : x * nsm n y = nsm n (x * y) := by
  induction n with
  | zero => simp only [nsm, R.mul_zero]
  | succ n ih => simp only [nsm, R.mul_add, ih]
theorem nsm_zero (n : Nat) : nsm n (0 : K) = 0 := by
  induction n with
  | zero => rfl
  | succ n ih => simp only [nsm, ih, R.add_zero]

end IsRing

/-- The sum of c_i x^i y^(n - i). -/
def hom (x y : K) : List Nat → K
  | [] => 0
  | c :: l => nsm c (pw y l.length) + x * hom x y l
def pasc : Nat → List Nat → List Nat
  | k, [] => [k]
  | k, c :: l => (k + c) :: pasc c l
theorem pasc_len : ∀ (k : Nat) (l : List Nat), (pasc k l).length = l.length + 1
  | _, [] => rfl
  | k, c :: l => by simp only [pasc, List.length_cons, pasc_len c l]
def pascn : Nat → List Nat
  | 0 => [1]
  | n + 1 => pasc 0 (pascn n)

namespace IsRing
variable (R : IsRing K)
include R
theorem hom_pasc (x y : K) : ∀ (l : List Nat) (k : Nat), hom x y (pasc k l) = nsm k (pw y l.length) + (x + y) * hom x y l
  | [], k => by simp only [pasc, hom, List.length_nil, pw, R.mul_zero]
  | c :: l, k => by
    simp only [pasc, hom, pasc_len, List.length_cons, hom_pasc x y l c]
    have e1 : nsm (k + c) (pw y (l.length + 1)) = nsm k (pw y (l.length + 1)) + y * nsm c (pw y l.length) := by
      rw [R.nsm_add, R.mul_nsm, R.mul_comm y]; rfl
    rw [e1]
    simp only [R.mul_add, R.add_mul, R.add_assoc, R.mul_left_comm y x]
    congr 1
    exact R.add_left_comm _ _ _
theorem pw_sum (x y : K) (n : Nat) : pw (x + y) n = hom x y (pascn n) := by
  induction n with
  | zero => simp only [pw, pascn, hom, List.length_nil, nsm, R.mul_zero, R.add_zero, R.zero_add]
  | succ n ih => simp only [pw, pascn, ih, R.hom_pasc, nsm, R.zero_add, R.mul_comm]
theorem frob {p : Nat} (hp : p = 2 ∨ p = 3 ∨ p = 5 ∨ p = 7) (hc : ∀ x : K, nsm p x = 0) (x y : K) : pw (x + y) p = pw x p + pw y p := by
  have hm : ∀ m (z : K), nsm (m * p) z = 0 := fun m z => by rw [R.nsm_mul, hc, R.nsm_zero]
  rw [R.pw_sum]
  rcases hp with rfl | rfl | rfl | rfl
  · have h := hm 1
    show hom x y [1, 2, 1] = _
    simp only [hom, List.length_cons, List.length_nil, h, nsm, R.zero_add, R.add_zero, R.mul_zero, pw, R.mul_one, R.one_mul, R.mul_assoc] at h ⊢
    rw [R.add_comm]
    simp only [h, R.zero_add]
  · have h1 := hm 1
    show hom x y [1, 3, 3, 1] = _
    have e : ∀ z : K, nsm 3 z = 0 := h1
    unfold hom hom hom hom hom
    simp only [e, List.length_cons, List.length_nil, R.zero_add]
    simp only [nsm, R.zero_add, R.add_zero, R.mul_zero, pw, R.mul_one, R.one_mul, R.mul_assoc]
    rw [R.add_comm]
  · have e1 : ∀ z : K, nsm 5 z = 0 := hm 1
    have e2 : ∀ z : K, nsm 10 z = 0 := hm 2
    show hom x y [1, 5, 10, 10, 5, 1] = _
    unfold hom hom hom hom hom hom hom
    simp only [e1, e2, List.length_cons, List.length_nil, R.zero_add]
    simp only [nsm, R.zero_add, R.add_zero, R.mul_zero, pw, R.mul_one, R.one_mul, R.mul_assoc]
    rw [R.add_comm]
  · have e1 : ∀ z : K, nsm 7 z = 0 := hm 1
    have e2 : ∀ z : K, nsm 21 z = 0 := hm 3
    have e3 : ∀ z : K, nsm 35 z = 0 := hm 5
    show hom x y [1, 7, 21, 35, 35, 21, 7, 1] = _
    unfold hom hom hom hom hom hom hom hom hom
    simp only [e1, e2, e3, List.length_cons, List.length_nil, R.zero_add]
    simp only [nsm, R.zero_add, R.add_zero, R.mul_zero, pw, R.mul_one, R.one_mul, R.mul_assoc]
    rw [R.add_comm]
theorem frobn {p : Nat} (hp : p = 2 ∨ p = 3 ∨ p = 5 ∨ p = 7) (hc : ∀ x : K, nsm p x = 0) (x y : K) (n : Nat) : pw (x + y) (p ^ n) = pw x (p ^ n) + pw y (p ^ n) := by
  induction n with
  | zero => simp only [Nat.pow_zero, pw, R.one_mul]
  | succ n ih => rw [Nat.pow_succ, R.pw_mul, R.pw_mul, R.pw_mul, ih, R.frob hp hc]
end IsRing

/-! Polynomials from the leading coefficient on. -/
def hn (x : K) : K → List K → K
  | a, [] => a
  | a, c :: l => hn x (a * x + c) l
def synd (r : K) : K → List K → List K
  | _, [] => []
  | a, c :: l => a :: synd r (a * r + c) l
omit [Neg K] [Zero K] [One K] in
theorem synd_len (r : K) : ∀ (a : K) (l : List K), (synd r a l).length = l.length
  | _, [] => rfl
  | a, c :: l => by simp only [synd, List.length_cons, synd_len r _ l]

namespace IsRing
variable (R : IsRing K)
include R
theorem hn_synd (x r : K) : ∀ (l : List K) (a y : K), hn x (a + (x + -r) * y) l = (x + -r) * hn x y (synd r a l) + hn r a l
  | [], a, y => by simp only [hn, synd]; exact R.add_comm _ _
  | c :: l, a, y => by
    simp only [hn, synd]
    rw [← hn_synd x r l (a * r + c) (y * x + a)]
    congr 1
    have e : a * x = a * r + (x + -r) * a := by
      rw [R.add_mul, R.mul_comm (-r), R.mul_neg, R.mul_comm x a, R.add_left_comm, R.add_neg, R.add_zero]
    rw [R.add_mul, e, R.mul_add, R.mul_assoc]
    simp only [R.add_assoc, R.add_comm c]
    congr 1
    rw [R.add_left_comm]
/-- A monic polynomial has no more roots than its degree. -/
theorem roots (hd : ∀ a b : K, a * b = 0 → a = 0 ∨ b = 0) (h10 : (1 : K) ≠ 0) : ∀ (n : Nat) (l L : List K), l.length = n → L.Nodup → (∀ x ∈ L, hn x 1 l = 0) → L.length ≤ n
  | _, _, [], _, _, _ => Nat.zero_le _
  | 0, l, r :: L, hl, _, hr => by
    have : l = [] := List.eq_nil_of_length_eq_zero hl
    subst this
    exact absurd (hr r (by simp)) h10
  | n + 1, [], r :: L, hl, _, _ => by simp at hl
  | n + 1, c :: l, r :: L, hl, hN, hr => by
    have hr0 : hn r 1 (c :: l) = 0 := hr r (by simp)
    have key : ∀ x ∈ L, hn x 1 (synd r (1 * r + c) l) = 0 := by
      intro x hx
      have h0 := hr x (by simp [hx])
      have h1 := R.hn_synd x r (c :: l) 1 0
      rw [R.mul_zero, R.add_zero, h0, hr0, R.add_zero] at h1
      simp only [synd, hn, R.zero_mul, R.zero_add] at h1
      rcases hd _ _ h1.symm with h | h
      · have : x = r := R.sub_zero h
        subst this
        exact absurd hx (List.nodup_cons.1 hN).1
      · exact h
    have := roots hd h10 n (synd r (1 * r + c) l) L (by rw [synd_len]; simpa using hl) (List.nodup_cons.1 hN).2 key
    simp only [List.length_cons]; omega
end IsRing
def prd : List K → K
  | [] => 1
  | x :: l => x * prd l
namespace IsRing
variable (R : IsRing K)
include R
end IsRing
end
end Go.Abs
/- Rings: divisors, residues by an element. -/
namespace Go.Abs
section
variable {K : Type} [Add K] [Mul K] [Neg K] [Zero K] [One K]

def Dv (a b : K) : Prop := ∃ q, b = q * a
namespace IsRing
variable (R : IsRing K)
include R
theorem dv_refl (a : K) : Dv a a := ⟨1, (R.one_mul a).symm⟩
theorem dv_zero (a : K) : Dv a 0 := ⟨0, (R.zero_mul a).symm⟩
theorem dv_add {a b c : K} (h1 : Dv a b) (h2 : Dv a c) : Dv a (b + c) := by
  obtain ⟨x, rfl⟩ := h1
  obtain ⟨y, rfl⟩ := h2
  exact ⟨x + y, (R.add_mul _ _ _).symm⟩
theorem dv_mul {a b : K} (h : Dv a b) (c : K) : Dv a (c * b) := by
  obtain ⟨x, rfl⟩ := h
  exact ⟨c * x, (R.mul_assoc _ _ _).symm⟩
theorem dv_mul' {a b : K} (h : Dv a b) (c : K) : Dv a (b * c) := by rw [R.mul_comm]; exact R.dv_mul h c
theorem dv_neg {a b : K} (h : Dv a b) : Dv a (-b) := by
  obtain ⟨x, rfl⟩ := h
  exact ⟨-x, by rw [R.mul_comm (-x), R.mul_neg, R.mul_comm]⟩
theorem dv_trans {a b c : K} (h1 : Dv a b) (h2 : Dv b c) : Dv a c := by
  obtain ⟨y, rfl⟩ := h2
  exact R.dv_mul h1 y
/-- Of a sum and a part of it, the other part. -/
theorem dv_sub {a b c : K} (h1 : Dv a (b + c)) (h2 : Dv a b) : Dv a c := by
  have h := R.dv_add h1 (R.dv_neg h2)
  have e : b + c + -b = c := by rw [R.add_comm b c, R.add_assoc, R.add_neg, R.add_zero]
  rwa [e] at h
theorem neg_add' (a b : K) : -(a + b) = -a + -b := by
  refine (R.neg_of ?_).symm
  rw [R.add_assoc, R.add_left_comm b, R.add_neg, R.add_zero, R.add_neg]
/-! Congruence by an element. -/
theorem cong_eqv (f : K) : Equivalence fun a b : K => Dv f (a + -b) := by
  refine ⟨fun a => by rw [R.add_neg]; exact R.dv_zero f, fun {a b} h => ?_, fun {a b c} h1 h2 => ?_⟩
  · have := R.dv_neg h
    rwa [R.neg_add', R.neg_neg, R.add_comm] at this
  · have := R.dv_add h1 h2
    have e : a + -b + (b + -c) = a + -c := by rw [R.add_assoc, ← R.add_assoc (-b), R.neg_add, R.zero_add]
    rwa [e] at this
end IsRing
def sdv (R : IsRing K) (f : K) : Setoid K := ⟨fun a b => Dv f (a + -b), R.cong_eqv f⟩
def Qt (R : IsRing K) (f : K) : Type := Quotient (sdv R f)
def qm (R : IsRing K) (f a : K) : Qt R f := Quotient.mk (sdv R f) a
theorem qm_iff (R : IsRing K) {f a b : K} : qm R f a = qm R f b ↔ Dv f (a + -b) := ⟨fun h => Quotient.exact h, fun h => Quotient.sound h⟩
variable (R : IsRing K) (f : K)
instance : Add (Qt R f) := ⟨Quotient.lift₂ (fun a b => qm R f (a + b)) fun a b c d h1 h2 => by
  refine (qm_iff R).2 ?_
  have h := R.dv_add (show Dv f (a + -c) from h1) (show Dv f (b + -d) from h2)
  have e : a + -c + (b + -d) = a + b + -(c + d) := by
    rw [R.neg_add']; simp only [R.add_assoc]; rw [R.add_left_comm (-c)]
  rwa [e] at h⟩
instance : Mul (Qt R f) := ⟨Quotient.lift₂ (fun a b => qm R f (a * b)) fun a b c d h1 h2 => by
  refine (qm_iff R).2 ?_
  have h := R.dv_add (R.dv_mul' (show Dv f (a + -c) from h1) b) (R.dv_mul (show Dv f (b + -d) from h2) c)
  have e : (a + -c) * b + c * (b + -d) = a * b + -(c * d) := by
    rw [R.add_mul, R.mul_add, R.mul_neg, R.mul_comm (-c), R.mul_neg, R.mul_comm b c, R.add_assoc, ← R.add_assoc (-(c * b)), R.neg_add, R.zero_add]
  rwa [e] at h⟩
instance : Neg (Qt R f) := ⟨Quotient.lift (fun a => qm R f (-a)) fun a c h1 => by
  refine (qm_iff R).2 ?_
  have h := R.dv_neg (show Dv f (a + -c) from h1)
  rwa [R.neg_add'] at h⟩
instance : Zero (Qt R f) := ⟨qm R f 0⟩
instance : One (Qt R f) := ⟨qm R f 1⟩
end
end Go.Abs
/- Polynomials modulo p are a ring: products go along with sums, in any order. -/
namespace Go.Abs

theorem sumTo_add (f g : Nat → Int) : ∀ n, sumTo n (fun i => f i + g i) = sumTo n f + sumTo n g
  | 0 => rfl
  | n + 1 => by simp only [sumTo, sumTo_add f g n]; omega
theorem sumTo_mul (c : Int) (f : Nat → Int) : ∀ n, sumTo n (fun i => c * f i) = c * sumTo n f
  | 0 => by simp [sumTo]
  | n + 1 => by simp only [sumTo, sumTo_mul c f n, Int.mul_add]
theorem sumTo_mul' (c : Int) (f : Nat → Int) (n : Nat) : sumTo n (fun i => f i * c) = sumTo n f * c := by
  rw [Int.mul_comm, ← sumTo_mul]
  exact sumTo_congr n fun i _ => Int.mul_comm _ _
theorem sumTo_swap (f : Nat → Nat → Int) (m : Nat) : ∀ n, sumTo n (fun i => sumTo m (fun j => f i j)) = sumTo m (fun j => sumTo n (fun i => f i j))
  | 0 => (sumTo_zero m fun _ _ => rfl).symm
  | n + 1 => by simp only [sumTo]; rw [sumTo_swap f m n, ← sumTo_add]
/-- The first summand apart. -/
theorem sumTo_first (f : Nat → Int) : ∀ n, sumTo (n + 1) f = f 0 + sumTo n fun i => f (i + 1)
  | 0 => by simp [sumTo]
  | n + 1 => by
    have := sumTo_first f n
    simp only [sumTo] at this ⊢
    omega
theorem sumTo_rev (f : Nat → Int) : ∀ n, sumTo (n + 1) f = sumTo (n + 1) fun i => f (n - i)
  | 0 => rfl
  | n + 1 => by
    rw [sumTo_first (fun i => f (n + 1 - i)) (n + 1)]
    have h := sumTo_rev f n
    have e : sumTo (n + 1) (fun i => f (n + 1 - (i + 1))) = sumTo (n + 1) fun i => f (n - i) := sumTo_congr _ fun i _ => by rw [show n + 1 - (i + 1) = n - i by omega]
    rw [e, ← h]
    simp only [sumTo, Nat.sub_zero]
    omega
/-- Summands from j on. -/
theorem sumTo_from (g : Nat → Int) (j : Nat) : ∀ n, sumTo (j + n) (fun i => if j ≤ i then g (i - j) else 0) = sumTo n g
  | 0 => by rw [Nat.add_zero]; exact sumTo_zero j fun i hi => if_neg (by omega)
  | n + 1 => by
    rw [← Nat.add_assoc]
    simp only [sumTo]
    rw [sumTo_from g j n, if_pos (by omega), show j + n - j = n by omega]

theorem cv_more (a b : Nat → Int) {n k : Nat} (h : k + 1 ≤ n) : cv a b n k = conv a b k := by
  obtain ⟨m, rfl⟩ : ∃ m, n = k + 1 + m := ⟨n - (k + 1), by omega⟩
  exact sumTo_more m fun i h1 _ => if_neg (by omega)
theorem conv_comm (a b : Nat → Int) (k : Nat) : conv a b k = conv b a k := by
  unfold conv cv
  rw [sumTo_rev]
  refine sumTo_congr _ fun i hi => ?_
  rw [if_pos (by omega), if_pos (by omega), show k - (k - i) = i by omega, Int.mul_comm]
theorem conv_assoc (a b c : Nat → Int) (k : Nat) : conv (conv a b) c k = conv a (conv b c) k := by
  have h1 : conv (conv a b) c k = sumTo (k + 1) fun i => sumTo (k + 1) fun j => (if j ≤ i then a j * b (i - j) else 0) * c (k - i) := by
    unfold conv
    refine sumTo_congr _ fun i hi => ?_
    rw [if_pos (by omega), sumTo_mul']
    congr 1
    exact (cv_more a b (n := k + 1) (by omega)).symm
  have h2 : conv a (conv b c) k = sumTo (k + 1) fun j => a j * sumTo (k + 1 - j) fun l => b l * c (k - j - l) := by
    unfold conv
    refine sumTo_congr _ fun j hj => ?_
    rw [if_pos (by omega)]
    congr 1
    show sumTo (k - j + 1) (fun i => if i ≤ k - j then b i * c (k - j - i) else 0) = _
    rw [show k - j + 1 = k + 1 - j by omega]
    exact sumTo_congr _ fun l hl => if_pos (by omega)
  rw [h1, h2, sumTo_swap]
  refine sumTo_congr _ fun j hj => ?_
  rw [← sumTo_mul, ← sumTo_from (fun l => a j * (b l * c (k - j - l))) j (k + 1 - j), show j + (k + 1 - j) = k + 1 by omega]
  refine sumTo_congr _ fun i hi => ?_
  by_cases h : j ≤ i
  · rw [if_pos h, if_pos h, show k - j - (i - j) = k - i by omega, Int.mul_assoc]
  · rw [if_neg h, if_neg h, Int.zero_mul]
theorem conv_addl (a b c : Nat → Int) (s : Int) (k : Nat) : conv (fun i => a i + s * b i) c k = conv a c k + s * conv b c k := by
  unfold conv cv
  rw [← sumTo_mul, ← sumTo_add]
  refine sumTo_congr _ fun i _ => ?_
  split
  · rw [Int.add_mul, Int.mul_assoc]
  · simp

/-! Modulo p. -/
theorem sumTo_mod {p : Int} {f g : Nat → Int} : ∀ n, (∀ i, i < n → f i % p = g i % p) → sumTo n f % p = sumTo n g % p
  | 0, _ => rfl
  | n + 1, h => by
    simp only [sumTo]
    rw [Int.add_emod, sumTo_mod n fun i hi => h i (by omega), h n (by omega), ← Int.add_emod]
theorem conv_mod {p : Int} {a a' b b' : Nat → Int} (ha : ∀ i, a i % p = a' i % p) (hb : ∀ i, b i % p = b' i % p) (k : Nat) : conv a b k % p = conv a' b' k % p := by
  refine sumTo_mod _ fun i _ => ?_
  split
  · rw [Int.mul_emod, ha, hb, ← Int.mul_emod]
  · rfl
theorem Row.mod {p : Int} {l : List Int} (h : Row p l) (hp : 0 < p) (i : Nat) : Abs.rd l i % p = Abs.rd l i := Int.emod_eq_of_lt (h.rd hp i).1 (h.rd hp i).2

theorem mul_comm' (p : Int) (a b : List Int) : mul p a b = mul p b a := by
  unfold mul
  rw [Nat.add_comm]
  exact ofF_congr fun i _ => by rw [conv_comm]
theorem mul_assoc' {p : Int} (hp : 0 < p) (a b c : List Int) : mul p (mul p a b) c = mul p a (mul p b c) := by
  refine row_ext (mul_row hp _ _) (mul_row hp _ _) fun i => ?_
  rw [mul_rd, mul_rd]
  rw [conv_mod (a' := conv (rd a) (rd b)) (b' := rd c) (fun j => by rw [mul_rd, Int.emod_emod]) (fun _ => rfl), conv_assoc]
  exact conv_mod (fun _ => rfl) (fun j => by rw [mul_rd, Int.emod_emod]) i
theorem conv_one (a : Nat → Int) (i : Nat) : conv a (rd [1]) i = a i := by
  rw [conv_comm]
  unfold conv cv
  rw [sumTo_first, if_pos (by omega), sumTo_zero i fun j hj => ?_]
  · simp [rd]
  · rw [show rd ([1] : List Int) (j + 1) = 0 from rd_ge (by simp)]; simp
theorem mul_one' {p : Int} (hp : 0 < p) {a : List Int} (ha : Row p a) : mul p a [1] = a :=
  row_ext (mul_row hp _ _) ha fun i => by rw [mul_rd, conv_one, ha.mod hp]
theorem comb_mul {p : Int} (hp : 0 < p) (a b c : List Int) (k : Int) : mul p (comb p a b k) c = comb p (mul p a c) (mul p b c) k := by
  refine row_ext (mul_row hp _ _) (comb_row hp _ _ _) fun i => ?_
  rw [mul_rd, comb_rd, mul_rd, mul_rd, conv_mod (a' := fun i => rd a i + k * rd b i) (b' := rd c) (fun j => by rw [comb_rd, Int.emod_emod]) (fun _ => rfl), conv_addl]
  rw [Int.add_emod (conv (rd a) (rd c) i % p), Int.emod_emod, Int.mul_emod k (conv (rd b) (rd c) i % p), Int.emod_emod, ← Int.mul_emod, ← Int.add_emod]
theorem mul_comb {p : Int} (hp : 0 < p) (a b c : List Int) (k : Int) : mul p c (comb p a b k) = comb p (mul p c a) (mul p c b) k := by
  rw [mul_comm', comb_mul hp, mul_comm' p a, mul_comm' p b]
/-! Products of lists, as long as their degrees are not too great. -/
def degs : List (List Int) → Nat
  | [] => 0
  | b :: M => (b.length - 1) + degs M
theorem degs_app : ∀ (M N : List (List Int)), degs (M ++ N) = degs M + degs N
  | [], N => by simp [degs]
  | b :: M, N => by simp [degs, degs_app M N]; omega
def prodF (p : Int) (o : List Int) (M : List (List Int)) : List Int := M.foldl (mul p) o
theorem prodF_row {p : Int} (hp : isP p = true) : ∀ (M : List (List Int)) (o : List Int), Row p o → o.length ≠ 0 → (∀ b ∈ M, Row p b ∧ b.length ≠ 0) → Row p (prodF p o M) ∧ (prodF p o M).length = o.length + degs M
  | [], o, ho, h0, _ => ⟨ho, by simp [prodF, degs]⟩
  | b :: M, o, ho, h0, hM => by
    have hp2 := isP_pos hp
    obtain ⟨hb, hb0⟩ := hM b (by simp)
    have hl := mul_len_is hp ho hb h0 hb0
    obtain ⟨h1, h2⟩ := prodF_row hp M (mul p o b) (mul_row (by omega) _ _) (by omega) fun c hc => hM c (by simp [hc])
    exact ⟨h1, by show (prodF p (mul p o b) M).length = _; rw [h2, hl]; simp only [degs]; omega⟩
theorem prodF_app (p : Int) (o : List Int) (M N : List (List Int)) : prodF p o (M ++ N) = prodF p (prodF p o M) N := List.foldl_append
end Go.Abs
/- Division of polynomials, from the leading coefficient on. -/
namespace Go.Proofs.YtkbnegemdlnncaaGreat
open Go.Abs

def dstep (p : Int) (b : Nat → Int) (m : Nat) (f : Int) (i : Nat) (r : Nat → Int) (j : Nat) : Int := if i ≤ j ∧ j ≤ i + m then (r j - f * b (j - i)) % p else r j
def dfac (p iv : Int) (m i : Nat) (r : Nat → Int) : Int := r (i + m) * iv % p
def drem (p : Int) (b : Nat → Int) (m : Nat) (iv : Int) : Nat → (Nat → Int) → Nat → Int
  | 0, r => r
  | i + 1, r => drem p b m iv i (dstep p b m (dfac p iv m i r) i r)
def dquo (p : Int) (b : Nat → Int) (m : Nat) (iv : Int) : Nat → (Nat → Int) → Nat → Int
  | 0, _, _ => 0
  | i + 1, r, j => if j = i then dfac p iv m i r else dquo p b m iv i (dstep p b m (dfac p iv m i r) i r) j
def lead (b : List Int) : Int := rd b (b.length - 1)
def quo (p : Int) (a b : List Int) : List Int := ofF (a.length + 1 - b.length) (dquo p (rd b) (b.length - 1) (inv p (lead b)) (a.length + 1 - b.length) (rd a))
def rem (p : Int) (a b : List Int) : List Int := ofF a.length (drem p (rd b) (b.length - 1) (inv p (lead b)) (a.length + 1 - b.length) (rd a))

section
variable {p : Int} {b : Nat → Int} {m : Nat} {iv : Int}
theorem dstep_res (hp : 0 < p) {r : Nat → Int} (hr : ∀ j, 0 ≤ r j ∧ r j < p) (f : Int) (i j : Nat) : 0 ≤ dstep p b m f i r j ∧ dstep p b m f i r j < p := by
  unfold dstep
  split
  · exact emod_res hp _
  · exact hr j
theorem drem_res (hp : 0 < p) : ∀ (i : Nat) (r : Nat → Int), (∀ j, 0 ≤ r j ∧ r j < p) → ∀ j, 0 ≤ drem p b m iv i r j ∧ drem p b m iv i r j < p
  | 0, r, hr, j => hr j
  | i + 1, r, hr, j => drem_res hp i _ (fun j => dstep_res hp hr _ i j) j
theorem dquo_res (hp : 0 < p) : ∀ (i : Nat) (r : Nat → Int) (j : Nat), 0 ≤ dquo p b m iv i r j ∧ dquo p b m iv i r j < p
  | 0, r, j => by simp only [dquo]; omega
  | i + 1, r, j => by
    simp only [dquo]
    split
    · exact emod_res hp _
    · exact dquo_res hp i _ j
theorem dquo_ge : ∀ (i : Nat) (r : Nat → Int) (j : Nat), i ≤ j → dquo p b m iv i r j = 0
  | 0, _, _, _ => rfl
  | i + 1, r, j, h => by
    simp only [dquo]
    rw [if_neg (by omega)]
    exact dquo_ge i _ j (by omega)
theorem cv_congr {f g c : Nat → Int} (k : Nat) : ∀ n, (∀ i, i < n → f i = g i) → cv f c n k = cv g c n k := fun n h => sumTo_congr n fun i hi => by rw [h i hi]
/-- The rest vanishes from the place m on. -/
theorem drem_zero (hp : 0 < p) (hb : b m * iv % p = 1 % p) : ∀ (i : Nat) (r : Nat → Int), (∀ j, 0 ≤ r j ∧ r j < p) → (∀ j, i + m ≤ j → r j = 0) → ∀ j, m ≤ j → drem p b m iv i r j = 0
  | 0, r, _, hz, j, hj => hz j (by omega)
  | i + 1, r, hr, hz, j, hj => by
    refine drem_zero hp hb i _ (fun j => dstep_res hp hr _ i j) (fun j hj => ?_) j hj
    unfold dstep
    by_cases e : j = i + m
    · subst e
      rw [if_pos (by omega), show i + m - i = m by omega]
      have h1 : (r (i + m) - dfac p iv m i r * b m) % p = 0 := by
        unfold dfac
        have h2 : (r (i + m) * iv % p) * b m % p = r (i + m) % p := by
          rw [Int.mul_emod, Int.emod_emod, ← Int.mul_emod, Int.mul_assoc, Int.mul_emod, Int.mul_comm iv, hb, ← Int.mul_emod, Int.mul_one]
        rw [Int.sub_emod, h2, Int.sub_self]; rfl
      exact h1
    · rw [if_neg (by omega)]
      exact hz j (by omega)
/-- Quotient and rest give what was divided. -/
theorem div_eq (hp : 0 < p) (hbz : ∀ j, m < j → b j = 0) : ∀ (i : Nat) (r : Nat → Int) (j : Nat), (cv (dquo p b m iv i r) b i j + drem p b m iv i r j) % p = r j % p
  | 0, r, j => by simp [cv, sumTo, drem]
  | i + 1, r, j => by
    have ih := div_eq hp hbz i (dstep p b m (dfac p iv m i r) i r) j
    simp only [drem]
    rw [cv_succ, cv_congr (g := dquo p b m iv i (dstep p b m (dfac p iv m i r) i r)) j i fun k hk => by simp only [dquo]; rw [if_neg (by omega)]]
    have e : dquo p b m iv (i + 1) r i = dfac p iv m i r := by simp only [dquo, if_true]
    rw [e]
    generalize dfac p iv m i r = f at *
    generalize cv (dquo p b m iv i (dstep p b m f i r)) b i j = c at *
    generalize drem p b m iv i (dstep p b m f i r) j = d at *
    by_cases h : i ≤ j
    · rw [if_pos h]
      by_cases h2 : j ≤ i + m
      · simp only [dstep] at ih
        rw [if_pos ⟨h, h2⟩, Int.emod_emod] at ih
        have e1 : c + f * b (j - i) + d = (c + d) + f * b (j - i) := by omega
        rw [e1, Int.add_emod, ih, ← Int.add_emod]
        congr 1
        omega
      · simp only [dstep] at ih
        rw [if_neg (by omega)] at ih
        rw [hbz (j - i) (by omega), Int.mul_zero, Int.add_zero]
        exact ih
    · simp only [dstep] at ih
      rw [if_neg (by omega)] at ih
      rw [if_neg h, Int.add_zero]
      exact ih
end

theorem lead_pos {p : Int} (hp : 0 < p) {b : List Int} (hb : Row p b) (h0 : b.length ≠ 0) : 0 < lead b ∧ lead b < p := by
  have h1 := hb.rd hp (b.length - 1)
  have h2 := hb.nrm h0
  unfold lead
  omega
theorem quo_row {p : Int} (hp : 0 < p) (a b : List Int) : Row p (quo p a b) := row_ofF fun i _ => dquo_res hp _ _ i
theorem rem_row {p : Int} (hp : 0 < p) {a : List Int} (ha : Row p a) (b : List Int) : Row p (rem p a b) := row_ofF fun i _ => drem_res hp _ _ (fun j => ha.rd hp j) i
theorem quo_len (p : Int) (a b : List Int) : (quo p a b).length ≤ a.length + 1 - b.length := by rw [quo, ofF_len]; exact top_le _ _
theorem rem_len' (p : Int) (a b : List Int) : (rem p a b).length ≤ a.length := by rw [rem, ofF_len]; exact top_le _ _
theorem quo_rd (p : Int) (a b : List Int) (j : Nat) : rd (quo p a b) j = dquo p (rd b) (b.length - 1) (inv p (lead b)) (a.length + 1 - b.length) (rd a) j := rd_ofF (fun i hi => dquo_ge _ _ _ hi) j
theorem drem_big {p : Int} {b : Nat → Int} {m : Nat} {iv : Int} : ∀ (i : Nat) (r : Nat → Int) (n : Nat), i + m ≤ n → (∀ j, n ≤ j → r j = 0) → ∀ j, n ≤ j → drem p b m iv i r j = 0
  | 0, r, n, _, hz, j, hj => hz j hj
  | i + 1, r, n, hn, hz, j, hj => drem_big i _ n (by omega) (fun j hj => by unfold dstep; rw [if_neg (by omega)]; exact hz j hj) j hj
theorem rem_rd {p : Int} (a : List Int) {b : List Int} (h0 : b.length ≠ 0) (j : Nat) : rd (rem p a b) j = drem p (rd b) (b.length - 1) (inv p (lead b)) (a.length + 1 - b.length) (rd a) j := by
  refine rd_ofF (fun i hi => ?_) j
  rcases Nat.lt_or_ge a.length b.length with h | h
  · rw [show a.length + 1 - b.length = 0 by omega]; exact rd_ge hi
  · exact drem_big _ _ a.length (by omega) (fun j hj => rd_ge hj) i hi
theorem rem_len {p : Int} (hp : isP p = true) {a b : List Int} (ha : Row p a) (hb : Row p b) (h0 : b.length ≠ 0) : (rem p a b).length < b.length := by
  have hp2 := isP_pos hp
  have hi := inv_is hp (lead_pos (show 0 < p by omega) hb h0)
  have hz : ∀ j, b.length - 1 ≤ j → rd (rem p a b) j = 0 := fun j hj => by
    rw [rem_rd a h0]
    refine drem_zero (by omega) ?_ _ _ (fun j => ha.rd (by omega) j) (fun j hj => rd_ge (by omega)) j hj
    have : (1 : Int) % p = 1 := Int.emod_eq_of_lt (by omega) (by omega)
    rw [this]
    exact hi.2.2
  rcases Nat.lt_or_ge (rem p a b).length b.length with h | h
  · exact h
  · have h1 := (rem_row (show 0 < p by omega) ha b).nrm (by omega)
    exact absurd (hz _ (by omega)) h1
/-- What is divided is quotient times divisor, plus the rest. -/
theorem divide_eq {p : Int} (hp : isP p = true) {a b : List Int} (ha : Row p a) (h0 : b.length ≠ 0) (j : Nat) : rd a j = (conv (rd (quo p a b)) (rd b) j + rd (rem p a b) j) % p := by
  have hp2 := isP_pos hp
  have h := div_eq (p := p) (b := rd b) (m := b.length - 1) (iv := inv p (lead b)) (by omega) (fun j hj => rd_ge (by omega)) (a.length + 1 - b.length) (rd a) j
  have e : conv (rd (quo p a b)) (rd b) j = cv (dquo p (rd b) (b.length - 1) (inv p (lead b)) (a.length + 1 - b.length) (rd a)) (rd b) (a.length + 1 - b.length) j := by
    rw [← cv_conv (n := a.length + 1 - b.length) fun i hi => rd_ge (Nat.le_trans (quo_len p a b) hi)]
    exact cv_congr _ _ fun i _ => quo_rd p a b i
  have hr := ha.rd (show 0 < p by omega) j
  rw [e, rem_rd a h0, h, Int.emod_eq_of_lt hr.1 hr.2]
end Go.Proofs.YtkbnegemdlnncaaGreat
/- Numbers as digits. -/
namespace Go.Proofs.YtkbnegemdlnncaaGreat
open Go.Abs

def digs (p n : Nat) : List Int := if n = 0 ∨ p < 2 then [] else ((n % p : Nat) : Int) :: digs p (n / p)
termination_by n
decreasing_by exact Nat.div_lt_self (by omega) (by omega)

theorem digs_zero (p : Nat) : digs p 0 = [] := by rw [digs]; simp

theorem digs_pos {p n : Nat} (hp : 2 ≤ p) (hn : 0 < n) : digs p n = ((n % p : Nat) : Int) :: digs p (n / p) := by
  rw [digs, if_neg (by omega)]

theorem digs_lt {p : Nat} (hp : 2 ≤ p) : ∀ n : Nat, ∀ d ∈ digs p n, 0 ≤ d ∧ d < p := by
  intro n
  induction n using Nat.strongRecOn with
  | ind n ih =>
    intro d hd
    by_cases h : n = 0
    · subst h; rw [digs_zero] at hd; cases hd
    · rw [digs_pos hp (by omega)] at hd
      rcases List.mem_cons.1 hd with rfl | hd
      · have := Nat.mod_lt n (show p > 0 by omega)
        generalize n % p = x at this
        omega
      · exact ih _ (Nat.div_lt_self (by omega) hp) d hd

theorem rd_cons (x : Int) (l : List Int) (i : Nat) : rd (x :: l) (i + 1) = rd l i := by simp [rd]
theorem digs_row {p : Nat} (hp : 2 ≤ p) (n : Nat) : Row p (digs p n) := by
  refine ⟨fun d hd => ?_, ?_⟩
  · have := digs_lt hp n d hd; omega
  · induction n using Nat.strongRecOn with
    | ind n ih =>
      intro h
      have hn : 0 < n := by
        rcases Nat.eq_zero_or_pos n with rfl | h'
        · rw [digs_zero] at h; simp at h
        · exact h'
      rw [digs_pos hp hn]
      simp only [List.length_cons, Nat.add_sub_cancel]
      rcases Nat.eq_zero_or_pos (n / p) with h0 | h0
      · rw [h0, digs_zero]
        have : n < p := by
          rcases Nat.lt_or_ge n p with h | h
          · exact h
          · have := Nat.div_pos h (by omega); omega
        rw [Nat.mod_eq_of_lt this]
        simp [rd]; omega
      · have hlt : n / p < n := Nat.div_lt_self hn (by omega)
        have h1 : (digs p (n / p)).length ≠ 0 := by rw [digs_pos hp h0]; simp
        have h2 := ih _ hlt h1
        obtain ⟨m, hm⟩ : ∃ m, (digs p (n / p)).length = m + 1 := ⟨(digs p (n / p)).length - 1, by omega⟩
        rw [hm] at h2 ⊢
        rw [rd_cons]
        simpa using h2
end Go.Proofs.YtkbnegemdlnncaaGreat
/- The polynomials modulo p as a ring; irreducible ones. -/
namespace Go.Proofs.YtkbnegemdlnncaaGreat
open Go.Abs

structure Pri where
  n : Nat
  ok : isP (n : Int) = true
def Pri.p (P : Pri) : Int := P.n
theorem Pri.okp (P : Pri) : isP P.p = true := P.ok
theorem Pri.pos (P : Pri) : 0 < P.p := by have := isP_pos P.ok; unfold Pri.p; omega
theorem Pri.two (P : Pri) : 2 ≤ P.p ∧ P.p ≤ 7 := isP_pos P.ok
theorem Pri.is (P : Pri) : P.n = 2 ∨ P.n = 3 ∨ P.n = 5 ∨ P.n = 7 := by
  have := isP_iff.1 P.ok; omega
structure PP (P : Pri) where
  l : List Int
  row : Row P.p l
theorem pp_eq {P : Pri} : ∀ {a b : PP P}, a.1 = b.1 → a = b
  | ⟨_, _⟩, ⟨_, _⟩, h => by cases h; rfl
variable {P : Pri}
def PP.len (a : PP P) : Nat := a.1.length
def PP.c (a : PP P) (i : Nat) : Int := rd a.1 i
theorem PP.c_mod (a : PP P) (i : Nat) : a.c i % P.p = a.c i := a.2.mod P.pos i
theorem pp_ext {a b : PP P} (h : ∀ i, a.c i = b.c i) : a = b := pp_eq (row_ext a.2 b.2 h)
theorem row1 {p : Int} (hp : 2 ≤ p) : Row p [1] := ⟨by simp; omega, by simp [rd]⟩
theorem rowT {p : Int} (hp : 2 ≤ p) : Row p [0, 1] := ⟨by simp; omega, by simp [rd]⟩
instance : Add (PP P) := ⟨fun a b => ⟨comb P.p a.1 b.1 1, comb_row P.pos _ _ _⟩⟩
instance : Mul (PP P) := ⟨fun a b => ⟨mul P.p a.1 b.1, mul_row P.pos _ _⟩⟩
instance : Neg (PP P) := ⟨fun a => ⟨comb P.p [] a.1 (-1), comb_row P.pos _ _ _⟩⟩
instance : Zero (PP P) := ⟨⟨[], row_nil _⟩⟩
instance : One (PP P) := ⟨⟨[1], row1 P.two.1⟩⟩
def ppm (l : List Int) (h : Row P.p l) : PP P := ⟨l, h⟩
def ppT : PP P := ⟨[0, 1], rowT P.two.1⟩
theorem add_c (a b : PP P) (i : Nat) : (a + b).c i = (a.c i + b.c i) % P.p := by
  show rd (comb P.p a.1 b.1 1) i = _
  rw [comb_rd, Int.one_mul]; rfl
theorem neg_c (a : PP P) (i : Nat) : (-a).c i = (-a.c i) % P.p := by
  show rd (comb P.p [] a.1 (-1)) i = _
  rw [comb_rd, rd_nil, Int.zero_add, Int.neg_mul, Int.one_mul]; rfl
theorem mul_c (a b : PP P) (i : Nat) : (a * b).c i = conv a.c b.c i % P.p := mul_rd _ _ _ _
theorem zero_c (i : Nat) : (0 : PP P).c i = 0 := rd_nil i
theorem ppring : IsRing (PP P) where
  add_comm a b := pp_ext fun i => by rw [add_c, add_c, Int.add_comm]
  add_assoc a b c := pp_ext fun i => by simp only [add_c, Int.emod_add_emod, Int.add_emod_emod, Int.add_assoc]
  add_zero a := pp_ext fun i => by rw [add_c, zero_c, Int.add_zero, PP.c_mod]
  add_neg a := pp_ext fun i => by rw [add_c, neg_c, zero_c, Int.add_emod_emod, Int.add_right_neg]; rfl
  mul_comm a b := pp_eq (mul_comm' _ _ _)
  mul_assoc a b c := pp_eq (mul_assoc' P.pos _ _ _)
  mul_one a := pp_eq (mul_one' P.pos a.2)
  mul_add a b c := pp_eq (mul_comb P.pos _ _ _ _)

theorem len_zero {a : PP P} : a.len = 0 ↔ a = 0 := ⟨fun h => pp_eq (List.eq_nil_of_length_eq_zero h), fun h => by rw [h]; rfl⟩
theorem len_one : (1 : PP P).len = 1 := rfl
theorem one_ne : (1 : PP P) ≠ 0 := fun h => by have := len_zero.2 h; rw [len_one] at this; omega
theorem len_mul {a b : PP P} (ha : a ≠ 0) (hb : b ≠ 0) : (a * b).len = a.len + b.len - 1 :=
  mul_len_is P.ok a.2 b.2 (fun h => ha (len_zero.1 h)) (fun h => hb (len_zero.1 h))
theorem len_add (a b : PP P) : (a + b).len ≤ max a.len b.len := comb_len _ _ _ _
theorem len_neg (a : PP P) : (-a).len ≤ a.len := by
  have := comb_len P.p [] a.1 (-1)
  show (comb P.p [] a.1 (-1)).length ≤ a.1.length
  simpa using this
theorem len_pos {a : PP P} (h : a ≠ 0) : 1 ≤ a.len := by
  rcases Nat.eq_zero_or_pos a.len with h0 | h0
  · exact absurd (len_zero.1 h0) h
  · exact h0
theorem pp_dom : ∀ a b : PP P, a * b = 0 → a = 0 ∨ b = 0 := fun a b h => by
  by_cases ha : a = 0
  · exact .inl ha
  · by_cases hb : b = 0
    · exact .inr hb
    · have h1 := len_mul ha hb
      rw [h, len_zero.2 rfl] at h1
      have := len_pos ha
      have := len_pos hb
      omega
theorem nsm_c (n : Nat) (a : PP P) (i : Nat) : (nsm n a).c i = (n * a.c i) % P.p := by
  induction n with
  | zero => simp [nsm, zero_c]
  | succ n ih =>
    simp only [nsm, add_c, ih, Int.emod_add_emod]
    congr 1
    rw [Int.natCast_succ, Int.add_mul, Int.one_mul]
theorem pp_char (x : PP P) : nsm P.n x = 0 := pp_ext fun i => by
  rw [nsm_c, zero_c]
  exact Int.emod_eq_zero_of_dvd ⟨x.c i, rfl⟩

/-! Division. -/
def pquo (a b : PP P) : PP P := ⟨quo P.p a.1 b.1, quo_row P.pos _ _⟩
def prem (a b : PP P) : PP P := ⟨rem P.p a.1 b.1, rem_row P.pos a.2 _⟩
theorem pdiv (a : PP P) {b : PP P} (hb : b ≠ 0) : a = pquo a b * b + prem a b ∧ (prem a b).len < b.len := by
  have h0 : b.1.length ≠ 0 := fun h => hb (len_zero.1 h)
  refine ⟨pp_ext fun i => ?_, rem_len P.ok a.2 b.2 h0⟩
  rw [add_c, mul_c, Int.emod_add_emod]
  exact divide_eq P.ok a.2 h0 i
theorem dv_len {a b : PP P} (h : Dv a b) (hb : b ≠ 0) : a.len ≤ b.len := by
  obtain ⟨q, rfl⟩ := h
  have hq : q ≠ 0 := fun e => hb (by rw [e, ppring.zero_mul])
  have ha : a ≠ 0 := fun e => hb (by rw [e, ppring.mul_zero])
  have := len_mul hq ha
  have := len_pos hq
  omega
theorem dv_small {a b : PP P} (h : Dv a b) (hl : b.len < a.len) : b = 0 := by
  by_cases hb : b = 0
  · exact hb
  · have := dv_len h hb; omega
theorem prem_iff {a b : PP P} (hb : b ≠ 0) : prem a b = 0 ↔ Dv b a := by
  obtain ⟨h1, h2⟩ := pdiv a hb
  constructor
  · intro h
    rw [h, ppring.add_zero] at h1
    exact ⟨_, h1⟩
  · intro h
    rw [h1] at h
    exact dv_small (ppring.dv_sub h (ppring.dv_mul (ppring.dv_refl b) _)) h2
theorem quo_is {a b q r : PP P} (hb : b ≠ 0) (h : a = q * b + r) (hr : r.len < b.len) : pquo a b = q ∧ prem a b = r := by
  obtain ⟨h1, h2⟩ := pdiv a hb
  have R : IsRing (PP P) := ppring
  have e : (pquo a b + -q) * b = r + -prem a b := by
    have h3 : q * b + r = pquo a b * b + prem a b := by rw [← h, ← h1]
    rw [R.add_mul, R.mul_comm (-q), R.mul_neg, R.mul_comm b q]
    refine R.cancel (a := q * b) ?_
    rw [R.add_left_comm, R.add_neg, R.add_zero]
    refine R.cancel (a := prem a b) ?_
    rw [R.add_comm (prem a b), ← h3, R.add_left_comm (prem a b), R.add_left_comm (prem a b), R.add_neg, R.add_zero]
  have hz : r + -prem a b = 0 := by
    refine dv_small (a := b) ⟨_, e.symm⟩ ?_
    have := len_add r (-prem a b)
    have := len_neg (prem a b)
    omega
  have hr' := R.sub_zero hz
  refine ⟨?_, hr'.symm⟩
  rw [hz] at e
  rcases pp_dom _ _ e with h4 | h4
  · exact R.sub_zero h4
  · exact absurd h4 hb

/-! Units, the greatest common divisor. -/
def Irr (f : PP P) : Prop := 2 ≤ f.len ∧ ∀ a b : PP P, f = a * b → a.len = 1 ∨ b.len = 1
theorem Irr.ne {f : PP P} (h : Irr f) : f ≠ 0 := fun e => by have := h.1; rw [len_zero.2 e] at this; omega
end Go.Proofs.YtkbnegemdlnncaaGreat
/- Roots: their squares, and squares' digits. -/
namespace Go.Proofs.YtkbnegemdlnncaaGreat
open Go.Abs
theorem sumTo_first (f : Nat → Int) : ∀ n, sumTo (n + 1) f = f 0 + sumTo n fun i => f (i + 1)
  | 0 => by simp [sumTo]
  | n + 1 => by
    show sumTo (n + 1) f + f (n + 1) = f 0 + (sumTo n (fun i => f (i + 1)) + f (n + 1))
    rw [sumTo_first f n, Int.add_assoc]
theorem drop_first {f : Nat → Int} {m : Nat} (h : ∀ i, i < m → f i = 0) : ∀ n, sumTo (m + n) f = sumTo n fun j => f (m + j)
  | 0 => sumTo_zero m h
  | n + 1 => by
    show sumTo (m + n) f + f (m + n) = sumTo n (fun j => f (m + j)) + f (m + n)
    rw [drop_first h n]
/-- A product with itself, told from the leading coefficient on. -/
def turned (a : Nat → Int) (g j : Nat) : Int := if j ≤ g then a (g - j) else 0
theorem conv_rev {a : Nat → Int} {g : Nat} (ha : ∀ i, g < i → a i = 0) {k : Nat} (hk : k ≤ 2 * g) : conv a a (2 * g - k) = conv (turned a g) (turned a g) k := by
  unfold conv cv
  by_cases h : k ≤ g
  · obtain ⟨f, hf⟩ : ∃ f : Nat → Int, f = fun i => if i ≤ 2 * g - k then a i * a (2 * g - k - i) else 0 := ⟨_, rfl⟩
    rw [← hf, show 2 * g - k + 1 = (g + 1) + (g - k) by omega, sumTo_more (g - k) (fun i h1 h2 => by rw [hf]; simp only; rw [if_pos (by omega), ha i (by omega), Int.zero_mul]), show g + 1 = (g - k) + (k + 1) by omega, drop_first (fun i hi => by rw [hf]; simp only; rw [if_pos (by omega), ha (2 * g - k - i) (by omega), Int.mul_zero])]
    refine sumTo_congr _ fun j hj => ?_
    rw [hf]
    simp only [turned]
    rw [if_pos (by omega), if_pos (by omega), if_pos (by omega), if_pos (by omega), show 2 * g - k - (g - k + j) = g - j by omega, show g - k + j = g - (k - j) by omega, Int.mul_comm]
  · obtain ⟨f, hf⟩ : ∃ f : Nat → Int, f = fun i => if i ≤ k then turned a g i * turned a g (k - i) else 0 := ⟨_, rfl⟩
    have e1 : sumTo (k + 1) f = sumTo (g + 1) f := by
      rw [show k + 1 = (g + 1) + (k - g) by omega]
      exact sumTo_more (k - g) (fun i h1 h2 => by rw [hf]; simp only [turned]; rw [if_pos (by omega), if_neg (show ¬ i ≤ g by omega), Int.zero_mul])
    have e2 : sumTo (g + 1) f = sumTo (2 * g - k + 1) fun j => f (k - g + j) := by
      rw [show g + 1 = (k - g) + (2 * g - k + 1) by omega]
      exact drop_first (fun i hi => by rw [hf]; simp only [turned]; rw [if_pos (by omega), if_neg (show ¬ k - i ≤ g by omega), Int.mul_zero]) _
    rw [← hf, e1, e2]
    refine sumTo_congr _ fun j hj => ?_
    rw [hf]
    simp only [turned]
    rw [if_pos (by omega), if_pos (by omega), if_pos (by omega), if_pos (by omega), show g - (k - g + j) = 2 * g - k - j by omega, show g - (k - (k - g + j)) = j by omega, Int.mul_comm]
theorem conv_mid (o : Nat → Int) (k : Nat) : conv o o (k + 1) = o 0 * o (k + 1) + (sumTo k fun i => o (i + 1) * o (k + 1 - (i + 1))) + o (k + 1) * o 0 := by
  unfold conv cv
  show sumTo (k + 1) _ + (if k + 1 ≤ k + 1 then _ else 0) = _
  rw [if_pos (Nat.le_refl _), sumTo_first, if_pos (Nat.zero_le _), Nat.sub_self, Nat.sub_zero]
  congr 2
  exact sumTo_congr _ fun i hi => by rw [if_pos (by omega)]
section
variable {p : Int} (hp : isP p = true) (h2 : p ≠ 2) {F : Nat → Int} (hF : ∀ k, 0 ≤ F k ∧ F k < p) (h0 : F 0 = 1)
theorem rt_0 (p : Int) (F : Nat → Int) (N : Nat) : rd (rt p F N) 0 = 1 := by
  rw [rt_rd p F (Nat.zero_le N) (Nat.zero_le 0)]; simp [rt, rd]
theorem rt_step (p : Int) (F : Nat → Int) {N k : Nat} (hk : k + 1 ≤ N) : rd (rt p F N) (k + 1) = rtW F (rt p F k) (k + 1) k % p * inv p (2 % p) % p := by
  rw [rt_rd p F hk (Nat.le_refl _)]
  simp only [rt]
  rw [rd_app, if_neg (by rw [rt_len]; omega), rt_len, Nat.sub_self]
  rfl
include hp h2
theorem half_two (x : Int) : 2 * (x % p * inv p (2 % p) % p) % p = x % p := by
  have hp2 := isP_pos hp
  have hh := half_is hp h2
  have hi := inv_is hp (x := 2 % p) (by rw [hh.2]; rcases isP_iff.1 hp with rfl | rfl | rfl | rfl <;> first | omega | exact absurd rfl h2)
  have h3 := hi.2.2
  rw [hh.2] at h3 ⊢
  have e : 2 * (x % p * inv p 2) = x % p * (2 * inv p 2) := by rw [← Int.mul_assoc, Int.mul_comm 2, Int.mul_assoc]
  rw [Int.mul_emod, Int.emod_emod, ← Int.mul_emod, e, Int.mul_emod, h3, Int.mul_one, Int.emod_emod, Int.emod_emod]
include hF h0
/-- The square of a root has the coefficients told. -/
theorem rt_conv {N : Nat} : ∀ k, k ≤ N → conv (rd (rt p F N)) (rd (rt p F N)) k % p = F k
  | 0, _ => by
    have hp2 := isP_pos hp
    have : conv (rd (rt p F N)) (rd (rt p F N)) 0 = 1 := by simp [conv, cv, sumTo, rt_0]
    rw [this, h0, Int.emod_eq_of_lt (by omega) (by omega)]
  | k + 1, hk => by
    have hs := rt_step p F hk
    have hW : rtW F (rt p F k) (k + 1) k = F (k + 1) - sumTo k fun i => rd (rt p F N) (i + 1) * rd (rt p F N) (k + 1 - (i + 1)) := by
      unfold rtW
      rw [sumTo_congr k fun i hi => by rw [← rt_rd p F (show k ≤ N by omega) (show i + 1 ≤ k by omega), ← rt_rd p F (show k ≤ N by omega) (show k + 1 - (i + 1) ≤ k by omega)]]
    have ht := half_two hp h2 (rtW F (rt p F k) (k + 1) k)
    rw [← hs] at ht
    rw [conv_mid, rt_0]
    obtain ⟨S, hS⟩ : ∃ S, (sumTo k fun i => rd (rt p F N) (i + 1) * rd (rt p F N) (k + 1 - (i + 1))) = S := ⟨_, rfl⟩
    rw [hS] at hW ⊢
    rw [hW] at ht
    generalize rd (rt p F N) (k + 1) = x at ht
    have e : 1 * x + S + x * 1 = 2 * x + S := by omega
    have hk1 := hF (k + 1)
    rw [e, Int.add_emod, ht, ← Int.add_emod, Int.sub_add_cancel, Int.emod_eq_of_lt hk1.1 hk1.2]
end
variable {P : Pri}
theorem len_le_of {a : PP P} {n : Nat} (h : ∀ i, n ≤ i → a.c i = 0) : a.len ≤ n := by
  by_cases hl : a.len ≤ n
  · exact hl
  · have h1 := a.2.nrm (by have : a.1.length = a.len := rfl; omega)
    exact absurd (h (a.1.length - 1) (by have : a.1.length = a.len := rfl; omega)) h1
/-- The root of a polynomial, up to its last coefficient. -/
theorem rt_row (hp : 2 ≤ P.p) (F : Nat → Int) (g : Nat) : Row P.p (rt P.p F g).reverse := by
  have hlen := rt_len P.p F g
  refine ⟨fun x hx => ?_, fun _ => ?_⟩
  · rw [List.mem_reverse] at hx
    obtain ⟨j, hj, rfl⟩ := List.getElem_of_mem hx
    rw [← rd_lt hj]
    exact rt_res hp F g j
  · rw [List.length_reverse, hlen, rd_lt (by rw [List.length_reverse, hlen]; omega), List.getElem_reverse, ← rd_lt]
    have : (rt P.p F g).length - 1 - (g + 1 - 1) = 0 := by omega
    rw [this, rt_0]; decide
def rtP (D : PP P) (g : Nat) : PP P := ⟨(rt P.p (fromTop D.1) g).reverse, rt_row P.two.1 _ _⟩
theorem rtP_len (D : PP P) (g : Nat) : (rtP D g).len = g + 1 := by
  show (rt P.p (fromTop D.1) g).reverse.length = g + 1
  rw [List.length_reverse, rt_len]
theorem rtP_c (D : PP P) {g i : Nat} (hi : i ≤ g) : (rtP D g).c i = rd (rt P.p (fromTop D.1) g) (g - i) := by
  have hlen := rt_len P.p (fromTop D.1) g
  show rd (rt P.p (fromTop D.1) g).reverse i = _
  rw [rd_lt (by rw [List.length_reverse, hlen]; omega), rd_lt (by rw [hlen]; omega), List.getElem_reverse]
  congr 1
  omega
theorem rtP_turned (D : PP P) (g : Nat) : turned (rtP D g).c g = rd (rt P.p (fromTop D.1) g) := funext fun j => by
  unfold turned
  by_cases h : j ≤ g
  · rw [if_pos h, rtP_c D (by omega), show g - (g - j) = j by omega]
  · rw [if_neg h, rd_ge (by rw [rt_len]; omega)]
theorem rtP_big (D : PP P) (g i : Nat) (hi : g < i) : (rtP D g).c i = 0 := by
  have h : (rtP D g).1.length = g + 1 := rtP_len D g
  show rd (rtP D g).1 i = 0
  rw [rd_ge (by omega)]
section
variable {D : PP P} {g : Nat} (hg : D.len = 2 * g + 1) (h1 : D.c (2 * g) = 1) (h2 : P.p ≠ 2)
include hg
theorem top_c {k : Nat} (hk : k ≤ 2 * g) : fromTop D.1 k = D.c (2 * g - k) := by
  have hl : D.1.length = 2 * g + 1 := hg
  unfold fromTop
  rw [if_pos (by omega), hl, show 2 * g + 1 - 1 - k = 2 * g - k by omega]
  rfl
theorem top_0 {k : Nat} (hk : 2 * g < k) : fromTop D.1 k = 0 := by
  have hl : D.1.length = 2 * g + 1 := hg
  unfold fromTop
  rw [if_neg (by omega)]
include h1 h2
/-- The difference from the square is small. -/
theorem diff_len : (D + -(rtP D g * rtP D g)).len ≤ g := by
  refine len_le_of fun i hi => ?_
  rw [add_c, neg_c, mul_c, Int.add_emod_emod]
  by_cases h : i ≤ 2 * g
  · have e := conv_rev (rtP_big D g) (k := 2 * g - i) (by omega)
    rw [show 2 * g - (2 * g - i) = i by omega, rtP_turned] at e
    have hF := fromTop_res D.2 P.pos
    have h3 := rt_conv (p := P.p) P.okp h2 hF (by rw [top_c hg (by omega)]; exact h1) (N := g) (2 * g - i) (by omega)
    rw [top_c hg (by omega), show 2 * g - (2 * g - i) = i by omega] at h3
    rw [e, h3]
    have : D.c i + -D.c i = 0 := by omega
    rw [this]; rfl
  · have hD : D.c i = 0 := by
      have hl : D.1.length = 2 * g + 1 := hg
      show rd D.1 i = 0
      rw [rd_ge (by omega)]
    rw [hD, conv_zero (n := g + 1) (m := g + 1) (fun j hj => rtP_big D g j (by omega)) (fun j hj => rtP_big D g j (by omega)) (by omega)]
    rfl
omit h1 h2 in
/-- The digits behind the root of a square are 0. -/
theorem digits_0 (hs : rtP D g * rtP D g = D) : ∀ (n k : Nat), k ≤ n → g < k → ∀ N, k ≤ N → rd (rt P.p (fromTop D.1) N) k = 0
  | 0, k, hn, hk, N, hN => absurd hk (by omega)
  | n + 1, k, hn, hk, N, hN => by
    obtain ⟨k', rfl⟩ : ∃ k', k = k' + 1 := ⟨k - 1, by omega⟩
    obtain ⟨o, ho⟩ : ∃ o, o = rd (rt P.p (fromTop D.1) g) := ⟨_, rfl⟩
    have hsame : ∀ j, j ≤ k' → rd (rt P.p (fromTop D.1) k') j = o j := fun j hj => by
      rw [ho]
      by_cases h : j ≤ g
      · exact rt_rd _ _ (by omega) h
      · rw [digits_0 hs n j (by omega) (by omega) k' hj, rd_ge (by rw [rt_len]; omega)]
    have hbig : o (k' + 1) = 0 := by rw [ho, rd_ge (by rw [rt_len]; omega)]
    have hm := conv_mid o k'
    rw [hbig] at hm
    have hW : rtW (fromTop D.1) (rt P.p (fromTop D.1) k') (k' + 1) k' = fromTop D.1 (k' + 1) - conv o o (k' + 1) := by
      unfold rtW
      rw [sumTo_congr k' fun i hi => by rw [hsame (i + 1) (by omega), hsame (k' + 1 - (i + 1)) (by omega)], hm]
      omega
    have hz : rtW (fromTop D.1) (rt P.p (fromTop D.1) k') (k' + 1) k' % P.p = 0 := by
      rw [hW]
      by_cases h : k' + 1 ≤ 2 * g
      · have e := conv_rev (rtP_big D g) h
        rw [rtP_turned, ← ho] at e
        have e2 : (rtP D g * rtP D g).c (2 * g - (k' + 1)) = conv (rtP D g).c (rtP D g).c (2 * g - (k' + 1)) % P.p := mul_c _ _ _
        rw [hs, e] at e2
        rw [top_c hg h, e2, Int.sub_emod, Int.emod_emod, Int.sub_self]; rfl
      · have e : conv o o (k' + 1) = 0 := by
          rw [ho]
          exact conv_zero (n := g + 1) (m := g + 1) (fun j hj => rd_ge (by rw [rt_len]; omega)) (fun j hj => rd_ge (by rw [rt_len]; omega)) (by omega)
        rw [top_0 hg (by omega), e]; rfl
    rw [rt_step P.p (fromTop D.1) hN, hz, Int.zero_mul]; rfl
end
end Go.Proofs.YtkbnegemdlnncaaGreat
/- DigitsOfRoot: what both sides return. -/
namespace Go.Proofs.YtkbnegemdlnncaaGreat
open Go.Abs
theorem fromTop_app (m : Nat) (l : List Int) : fromTop (List.replicate m 0 ++ l) = fromTop l := by
  funext k
  unfold fromTop
  simp only [List.length_append, List.length_replicate]
  by_cases h : k < l.length
  · rw [if_pos (by omega), if_pos h, rd_app, if_neg (by simp; omega)]
    congr 1
    simp; omega
  · rw [if_neg h]
    split
    · rw [rd_app, if_pos (by simp; omega), rd_rep]
    · rfl
theorem digitsOfRoot_both {p : Int} {d : V64} (hb : IsB d) (n : Int) : ∃ (l : List Int) (c : Int), spec_DigitsOfRoot p d n = some (l, c) ∧ impl_DigitsOfRoot p d n = some (l, c) ∧ l.length ≤ 1000 ∧ (c = 0 → isP p = true ∧ small p d = true ∧ sqOk p d = true ∧ ∃ g m : Nat, (row d).length = 2 * g + 1 ∧ l = (rt p (fromTop (row d)) (g + m)).drop (g + 1) ∧ m ≤ 40) := by
  simp only [spec_DigitsOfRoot, impl_DigitsOfRoot, impl_isDigits, impl_within, spec_l01In, case_is hb]
  by_cases hok : isP p && small p d
  · obtain ⟨hp, hsm⟩ : isP p = true ∧ small p d = true := by simpa using hok
    have hp2 := isP_pos hp
    by_cases hsq : sqOk p d = true
    · obtain ⟨hne, g, hg, hg31⟩ := sqOk_spec hsq
      by_cases hn : 0 ≤ n ∧ n ≤ 40
      · obtain ⟨m, rfl⟩ : ∃ m : Nat, n = m := ⟨n.toNat, by omega⟩
        have hres := res_of_small hb hsm
        have hrow := row_row hres
        have htop : top (rd d.1) 64 = 2 * g + 1 := by rw [← row_length, hg]
        have c1 : (if (decide (((m : Nat) : Int) ≥ 0)) = true then some (decide (((m : Nat) : Int) ≤ 40)) else some false) = some true := by
          rw [if_pos (decide_eq_true (by omega)), decide_eq_true (by omega)]
        have c2 : (if (decide (0 ≤ ((m : Nat) : Int))) = true then some (decide (((m : Nat) : Int) ≤ 40)) else some false) = some true := by
          rw [if_pos (decide_eq_true (by omega)), decide_eq_true (by omega)]
        simp only [hok, hsq, if_true, Option.bind_some, beq_self_eq_true, c1, c2, Bool.not_true, Bool.false_eq_true, if_false, bne_self_eq_false, square_is hb, Bool.and_true, deg_is, htop, letp]
        have e1 : (((2 * g + 1 : Nat) : Int) - 1) = ((2 * g : Nat) : Int) := by omega
        have e2 : IntKind.i64.wrap (IntKind.i64.wrap (Int.tdiv ((2 * g : Nat) : Int) 2) + 1) = ((g + 1 : Nat) : Int) := by
          rw [tdiv2, show 2 * g / 2 = g by omega, wrap64 (n := (g : Int)) (by omega) (by omega), wrap64 (by omega) (by omega)]; rfl
        have e3 : IntKind.i64.wrap (((g + 1 : Nat) : Int) + (m : Int)) = ((g + m + 1 : Nat) : Int) := by rw [wrap64 (by omega) (by omega)]; omega
        have hS := rootS_is hp hne hrow (row_len d) (by omega) (n := g + m) (by omega)
        rw [pad_row] at hS
        have hlen := rt_len p (fromTop (row d)) (g + m)
        rw [e1, e2, e3, hS]
        simp only [Option.bind_some, Int.toNat_natCast]
        rw [ifp_pos (by omega), ifp_pos (by simp [hlen]; omega)]
        have e4 : IntKind.i64.wrap (2 * (m : Int)) = ((2 * m : Nat) : Int) := by rw [wrap64 (by omega) (by omega)]; omega
        rw [e4, ifp_pos (by omega), row_is hb]
        simp only [Option.bind_some, Int.toNat_natCast]
        rw [ifp_pos (by simp [hg]; omega)]
        have hI := rootI_is hp hne (d := List.replicate (2 * m) 0 ++ row d) (g := g + m) (fun j => by
          rw [rd_app]
          split
          · rw [rd_rep]; omega
          · exact hrow.rd (by omega) _) (by omega) (by simp [hg]; omega)
        rw [fromTop_app] at hI
        rw [hI]
        simp only [Option.bind_some]
        obtain ⟨R, hR⟩ : ∃ R, R = rt p (fromTop (row d)) (g + m) := ⟨_, rfl⟩
        rw [← hR] at hlen ⊢
        have hrev : ∀ i, i ≤ g + m → rd R.reverse i = rd R (g + m - i) := fun i hi => by
          rw [rd_lt (by rw [List.length_reverse, hlen]; omega), rd_lt (by rw [hlen]; omega), List.getElem_reverse]
          congr 1
          omega
        obtain ⟨s, g1, g2⟩ := loopM_for (body := fun s : Int × List Int => impl_DigitsOfRoot_l1 R.reverse s.1 s.2) (fun i s => ((m : Int) - 1 - (i : Int), s)) (fun s => s) m
          (fun i s => s = (List.range i).map fun i => rd R (g + 1 + i)) (fun i s hi hI => by
            subst hI
            have f1 : (m : Int) - 1 - (i : Int) = ((m - 1 - i : Nat) : Int) := by omega
            have f2 := hrev (m - 1 - i) (by omega)
            rw [show g + m - (m - 1 - i) = g + 1 + i by omega] at f2
            refine ⟨_, ?_, rfl⟩
            simp only [impl_DigitsOfRoot_l1, f1, Int.toNat_natCast, f2]
            rw [if_pos (decide_eq_true (by omega)), ifp_pos (by rw [List.length_reverse, hlen]; omega), ifp_pos (by simp; omega), wrap64 (by omega) (by omega), List.range_succ, List.map_append]
            congr 3
            omega) (fun s hI => by
            simp only [impl_DigitsOfRoot_l1]
            rw [if_neg (by rw [decide_eq_true_eq]; omega)]) m 0 [] (by omega) rfl
        have e5 : IntKind.i64.wrap ((m : Int) - 1) = (m : Int) - 1 - ((0 : Nat) : Int) := by rw [wrap64 (by omega) (by omega)]; omega
        rw [e5, g1, g2]
        refine ⟨R.drop (g + 1), 0, rfl, ?_, ?_, fun _ => ⟨hp, hsm, trivial, g, m, hg, by rw [hR], by omega⟩⟩
        · simp only [Option.bind_some, List.nil_append]
          congr 2
          refine rd_ext (by simp [hlen]) fun i hi => ?_
          simp at hi
          rw [rd_map, if_pos hi]
          have : rd (R.drop (g + 1)) i = rd R (g + 1 + i) := by simp [rd]
          rw [this]
        · simp [hlen]; omega
      · have c1 : (if (decide (n ≥ 0)) = true then some (decide (n ≤ 40)) else some false) = some false := by
          by_cases h : 0 ≤ n
          · have : ¬ n ≤ 40 := fun h2 => hn ⟨h, h2⟩
            simp [h, this]
          · simp [h]
        have c2 : (if (decide (0 ≤ n)) = true then some (decide (n ≤ 40)) else some false) = some false := c1
        simp only [hok, hsq, if_true, Option.bind_some, beq_self_eq_true, c1, c2, Bool.not_false, square_is hb, Bool.and_false, Bool.false_eq_true, if_false]
        exact ⟨[], 2, by simp, by simp, by simp, fun h => absurd h (by decide)⟩
    · have hsq : sqOk p d = false := by simpa using hsq
      have : ∃ b, (if (decide (0 ≤ n)) = true then some (decide (n ≤ 40)) else some false) = some b := by split <;> exact ⟨_, rfl⟩
      obtain ⟨b, hbb⟩ := this
      simp only [hok, hsq, if_true, Option.bind_some, Bool.false_eq_true, if_false, hbb, square_is hb, Bool.false_and]
      exact ⟨[], 2, by simp, by simp, by simp, fun h => absurd h (by decide)⟩
  · have hok : (isP p && small p d) = false := by simpa using hok
    have : ∃ b, (if (decide (0 ≤ n)) = true then some (decide (n ≤ 40)) else some false) = some b := by split <;> exact ⟨_, rfl⟩
    obtain ⟨b, hbb⟩ := this
    simp only [hok, Bool.false_eq_true, if_false, Option.bind_some, hbb, square_is hb]
    exact ⟨[], 1, by simp, by simp, by simp, fun h => absurd h (by decide)⟩

end Go.Proofs.YtkbnegemdlnncaaGreat
/- Irreducible polynomials modulo p: which of them divide T^(p^n) - T. -/
namespace Go.Proofs.YtkbnegemdlnncaaGreat
open Go.Abs

/-! Numbers of polynomials. -/
def num (p : Nat) : List Int → Nat
  | [] => 0
  | c :: l => c.toNat + p * num p l
theorem row_tail {p c : Int} {l : List Int} (h : Row p (c :: l)) : Row p l := by
  refine ⟨fun d hd => h.res d (by simp [hd]), fun hl => ?_⟩
  have := h.nrm (by simp)
  simp only [List.length_cons, Nat.add_sub_cancel] at this
  obtain ⟨m, hm⟩ : ∃ m, l.length = m + 1 := ⟨l.length - 1, by omega⟩
  rw [hm, rd_cons] at this
  rw [hm]; exact this
variable {P : Pri}
theorem Pri.ge (P : Pri) : 2 ≤ P.n := by have := P.is; omega
def ppn (P : Pri) (n : Nat) : PP P := ⟨digs P.n n, digs_row P.ge n⟩
theorem conv_T (g : Nat → Int) (i : Nat) : conv (rd ([0, 1] : List Int)) g i = if 1 ≤ i then g (i - 1) else 0 := by
  rw [← cv_conv (n := 2) fun j hj => rd_ge (by simpa using hj)]
  simp only [cv, sumTo]
  have e0 : rd ([0, 1] : List Int) 0 = 0 := rfl
  have e1 : rd ([0, 1] : List Int) 1 = 1 := rfl
  rw [e0, e1, if_pos (Nat.zero_le i)]
  split <;> simp
theorem one_c (i : Nat) : (1 : PP P).c i = if i = 0 then 1 else 0 := by
  show rd [1] i = _
  by_cases hi : i = 0
  · subst hi; simp [rd]
  · rw [if_neg hi, rd_ge (by simp; omega)]
/-- All polynomials come from 0 by times T and plus 1. -/
theorem pp_ind {S : PP P → Prop} (h0 : S 0) (hT : ∀ x, S x → S (ppT * x)) (h1 : ∀ x, S x → S (x + 1)) (a : PP P) : S a := by
  have hk : ∀ k x, S x → S (x + nsm k 1) := by
    intro k
    induction k with
    | zero => intro x hx; simp only [nsm]; rw [ppring.add_zero]; exact hx
    | succ k ih => intro x hx; simp only [nsm]; rw [← ppring.add_assoc]; exact h1 _ (ih x hx)
  have key : ∀ (l : List Int) (h : Row P.p l), S (ppm l h) := by
    intro l
    induction l with
    | nil => intro h; exact h0
    | cons c l ih =>
      intro h
      have hc := h.res c (by simp)
      have e : (ppm (c :: l) h : PP P) = ppT * ppm l (row_tail h) + nsm c.toNat 1 := by
        refine pp_ext fun i => ?_
        rw [add_c, mul_c, nsm_c, one_c]
        have e1 : conv (PP.c (ppT : PP P)) (PP.c (ppm l (row_tail h) : PP P)) i = if 1 ≤ i then rd l (i - 1) else 0 := conv_T _ i
        rw [e1]
        cases i with
        | zero =>
          rw [if_neg (by omega), if_pos rfl, Int.mul_one, Int.emod_add_emod, Int.add_emod_emod, Int.zero_add, Int.toNat_of_nonneg hc.1, Int.emod_eq_of_lt hc.1 hc.2]
          rfl
        | succ i =>
          rw [if_pos (by omega), if_neg (by omega), Int.mul_zero, Int.emod_add_emod, Int.zero_emod, Int.add_zero, Nat.add_sub_cancel, (row_tail h).mod P.pos]
          exact rd_cons c l i
      rw [e]
      exact hk _ _ (hT _ (ih _))
  exact key a.1 a.2

/-! Residues by an irreducible polynomial. -/
section
variable {f : PP P} (hf : Irr f)
include hf
omit hf in
/-- All residues. -/
def els (f : PP P) : List (Qt ppring f) := (List.range (P.n ^ (f.len - 1))).map fun n => qm ppring f (ppn P n)
end
end Go.Proofs.YtkbnegemdlnncaaGreat
/- Division, in the program. -/
namespace Go.Proofs.YtkbnegemdlnncaaGreat
open Go.Abs

theorem clone_is {a : List Int} (ha : a.length ≤ 1000000) : slices_Clone_impl_row_int64_fresh a = some a := by
  unfold slices_Clone_impl_row_int64_fresh
  rw [ifc_pos, ifp_pos]
  · simp
  · simp; omega
  · intro h
    subst h
    rw [ifp_pos (by simp)]
    simp
theorem divI_inner {p f : Int} (hp : 2 ≤ p ∧ p ≤ 7) {b : List Int} (hb : Row p b) (hf : 0 ≤ f ∧ f < p) {i : Nat} {s t : List Int} (hi : i + b.length ≤ s.length) (hl : s.length ≤ 1000000) (hs : ∀ j, 0 ≤ rd s j ∧ rd s j < p) {s0 : List Int} {x r9 : Int} (hx : Int.tmod (IntKind.i64.wrap (rd s0 x.toNat * r9)) p = f) :
    ∃ s', loopM (fun q : Int × List Int => impl_prime_divide_l2 b (i : Int) s0 x r9 p t q.1 q.2) (0, s) = some (s', t.set i f) ∧ s'.length = s.length ∧ ∀ j, rd s' j = dstep p (rd b) (b.length - 1) f i (rd s) j := by
  obtain ⟨s', h1, h2, h3⟩ := loopM_for (body := fun q : Int × List Int => impl_prime_divide_l2 b (i : Int) s0 x r9 p t q.1 q.2) (fun k u => ((k : Int), u)) (fun u => (u, t.set i f)) b.length
    (fun k u => u.length = s.length ∧ ∀ j, rd u j = if i ≤ j ∧ j < i + k then (rd s j - f * rd b (j - i)) % p else rd s j) (fun k u hk hI => by
      obtain ⟨hul, hu⟩ := hI
      have hbk := hb.rd (show 0 < p by omega) k
      have hsk := hs (i + k)
      have hm := mul_small (x := f) (y := rd b k) (by omega) (by omega)
      have e1 : IntKind.i64.wrap ((i : Int) + (k : Int)) = ((i + k : Nat) : Int) := by rw [wrap64 (by omega) (by omega)]; omega
      have huk := hu (i + k)
      rw [if_neg (by omega)] at huk
      refine ⟨u.set (i + k) ((rd s (i + k) - f * rd b k) % p), ?_, by simpa using hul, fun j => ?_⟩
      · simp only [impl_prime_divide_l2, letp, hx]
        rw [if_pos (decide_eq_true (by omega)), ifp_pos (by omega), e1, ifp_pos (by omega), Int.toNat_natCast, Int.toNat_natCast, huk, wrap64 (n := f * rd b k) (by omega) (by omega), wrap64 (n := rd s (i + k) - f * rd b k) (by omega) (by omega), reduce_is (by omega) (by omega)]
        simp only [Option.bind_some]
        rw [ifp_pos (by omega), wrap64 (by omega) (by omega)]
        rfl
      · rw [rd_set _ _ _ _ (by omega), hu j]
        by_cases e : j = i + k
        · subst e
          rw [if_pos rfl, if_pos (by omega), show i + k - i = k by omega]
        · rw [if_neg e]
          by_cases hc : i ≤ j ∧ j < i + k
          · rw [if_pos hc, if_pos (by omega)]
          · rw [if_neg hc, if_neg (by omega)]) (fun u hI => by
      simp only [impl_prime_divide_l2, hx]
      rw [if_neg (by rw [decide_eq_true_eq]; omega), Int.toNat_natCast]) b.length 0 s (by omega) ⟨rfl, fun j => by rw [if_neg (by omega)]⟩
  refine ⟨s', h1, h2, fun j => ?_⟩
  rw [h3 j]
  unfold dstep
  rcases Nat.eq_zero_or_pos b.length with h0 | h0
  · rw [if_neg (by omega)]
    split
    · have : rd b (j - i) = 0 := rd_ge (by omega)
      have := hs j
      rw [show rd b (j - i) = 0 from rd_ge (by omega), Int.mul_zero, Int.sub_zero, Int.emod_eq_of_lt this.1 this.2]
    · rfl
  · simp only [show (i ≤ j ∧ j < i + b.length) = (i ≤ j ∧ j ≤ i + (b.length - 1)) from by rw [eq_iff_iff]; omega]
theorem divI_outer {p : Int} (hp : isP p = true) {b : List Int} (hb : Row p b) (h0 : b.length ≠ 0) {n : Nat} (hn : n ≤ 500000) : ∀ (i : Nat) (s t : List Int), i + b.length - 1 ≤ s.length → i ≤ n → s.length ≤ 1000000 → t.length = n → (∀ j, 0 ≤ rd s j ∧ rd s j < p) →
    ∃ s' t', loopM (fun q : Int × List Int × List Int => impl_prime_divide_l1 b p (inv p (lead b)) q.1 q.2.1 q.2.2) ((i : Int) - 1, s, t) = some (s', t') ∧ s'.length = s.length ∧ t'.length = n ∧
      (∀ j, rd s' j = drem p (rd b) (b.length - 1) (inv p (lead b)) i (rd s) j) ∧ ∀ j, rd t' j = if j < i then dquo p (rd b) (b.length - 1) (inv p (lead b)) i (rd s) j else rd t j
  | 0, s, t, _, _, _, ht, _ => by
    refine ⟨s, t, ?_, rfl, ht, fun _ => rfl, fun j => by rw [if_neg (by omega)]⟩
    have step : impl_prime_divide_l1 b p (inv p (lead b)) (((0 : Nat) : Int) - 1) s t = some (.inr (s, t)) := by
      simp only [impl_prime_divide_l1]
      rw [if_neg (by rw [decide_eq_true_eq]; omega)]
    rw [loopM_eq]
    simp only [step, Option.bind_some]
  | i + 1, s, t, hi, hin, hsl, ht, hs => by
    have hp2 := isP_pos hp
    have hinv := inv_is hp (lead_pos (show 0 < p by omega) hb h0)
    have hsx := hs (i + (b.length - 1))
    have hm := mul_small (x := rd s (i + (b.length - 1))) (y := inv p (lead b)) (by omega) (by omega)
    have hf := emod_res (show 0 < p by omega) (rd s (i + (b.length - 1)) * inv p (lead b))
    have e0 : ((i + 1 : Nat) : Int) - 1 = (i : Int) := by omega
    have e1 : IntKind.i64.wrap (IntKind.i64.wrap ((i : Int) + (b.length : Int)) - 1) = ((i + (b.length - 1) : Nat) : Int) := by
      rw [wrap64 (n := (i : Int) + (b.length : Int)) (by omega) (by omega), wrap64 (by omega) (by omega)]; omega
    have hx : Int.tmod (IntKind.i64.wrap (rd s (((i + (b.length - 1) : Nat) : Int)).toNat * inv p (lead b))) p = dfac p (inv p (lead b)) (b.length - 1) i (rd s) := by
      rw [Int.toNat_natCast, wrap64 (by omega) (by omega), Int.tmod_eq_emod_of_nonneg hm.1]; rfl
    obtain ⟨s1, g1, g2, g3⟩ := divI_inner hp2 hb (f := dfac p (inv p (lead b)) (b.length - 1) i (rd s)) hf (i := i) (s := s) (t := t) (by omega) hsl hs hx
    have hs1 : rd s1 = dstep p (rd b) (b.length - 1) (dfac p (inv p (lead b)) (b.length - 1) i (rd s)) i (rd s) := funext g3
    obtain ⟨s', t', k1, k2, k3, k4, k5⟩ := divI_outer hp hb h0 hn i s1 (t.set i (dfac p (inv p (lead b)) (b.length - 1) i (rd s))) (by omega) (by omega) (by omega) (by simpa using ht) (fun j => by rw [hs1]; exact dstep_res (by omega) hs _ i j)
    refine ⟨s', t', ?_, by omega, k3, fun j => ?_, fun j => ?_⟩
    · have step : impl_prime_divide_l1 b p (inv p (lead b)) (((i + 1 : Nat) : Int) - 1) s t = some (.inl ((i : Int) - 1, s1, t.set i (dfac p (inv p (lead b)) (b.length - 1) i (rd s)))) := by
        rw [e0]
        simp only [impl_prime_divide_l1, letp, e1]
        rw [if_pos (decide_eq_true (by omega)), ifp_pos (by omega), ifp_pos (by omega), ifp_pos (by omega), g1]
        simp only [Option.bind_some]
        rw [wrap64 (by omega) (by omega)]
      rw [loopM_eq]
      simp only [step, Option.bind_some]
      exact k1
    · rw [k4 j, hs1]; rfl
    · rw [k5 j, hs1]
      simp only [dquo]
      by_cases e : j = i
      · subst e
        rw [if_neg (by omega), if_pos (by omega), if_pos rfl, rd_set _ _ _ _ (by omega), if_pos rfl]
      · by_cases h : j < i
        · rw [if_pos h, if_pos (by omega), if_neg e]
        · rw [if_neg h, if_neg (by omega), rd_set _ _ _ _ (by omega), if_neg e]
theorem lead_is {b : List Int} (h0 : b.length ≠ 0) (hl : b.length ≤ 1000000) : impl_row_lead b = some (lead b) := by
  unfold impl_row_lead
  have e1 : IntKind.i64.wrap ((b.length : Int) - 1) = ((b.length - 1 : Nat) : Int) := by rw [wrap64 (by omega) (by omega)]; omega
  rw [if_neg (by rw [beq_iff_eq]; omega), e1, ifp_pos (by omega), Int.toNat_natCast]; rfl
theorem divideI_is {p : Int} (hp : isP p = true) {a b : List Int} (ha : Row p a) (hb : Row p b) (h0 : b.length ≠ 0) (la : a.length ≤ 500000) (lb : b.length ≤ 500000) : impl_prime_divide p a b = some (quo p a b, rem p a b) := by
  have hp2 := isP_pos hp
  unfold impl_prime_divide
  rw [clone_is (by omega)]
  simp only [Option.bind_some]
  rcases Nat.lt_or_ge a.length b.length with h | h
  · rw [if_pos (decide_eq_true (by omega))]
    have e1 : quo p a b = [] := by
      have := quo_len p a b
      exact List.eq_nil_of_length_eq_zero (by omega)
    have e2 : rem p a b = a := by
      unfold rem
      rw [show a.length + 1 - b.length = 0 by omega]
      exact ha.ofF (Nat.le_refl _)
    rw [e1, e2]
  · rw [if_neg (by rw [decide_eq_true_eq]; omega)]
    obtain ⟨n, hn⟩ : ∃ n : Nat, n = a.length + 1 - b.length := ⟨_, rfl⟩
    have e1 : IntKind.i64.wrap (IntKind.i64.wrap ((a.length : Int) - (b.length : Int)) + 1) = (n : Int) := by
      rw [wrap64 (n := (a.length : Int) - (b.length : Int)) (by omega) (by omega), wrap64 (by omega) (by omega)]; omega
    have hlead := lead_pos (show 0 < p by omega) hb h0
    simp only [letp, e1, lead_is h0 (by omega), inverse_impl hp hlead, Option.bind_some, Int.toNat_natCast, List.length_replicate]
    rw [ifp_pos (by omega), wrap64 (by omega) (by omega)]
    obtain ⟨s', t', k1, k2, k3, k4, k5⟩ := divI_outer hp hb h0 (n := n) (by omega) n a (List.replicate n 0) (by omega) (Nat.le_refl _) (by omega) (by simp) (fun j => ha.rd (by omega) j)
    rw [k1]
    simp only [Option.bind_some]
    rw [trimmed_is (by omega), trimmed_is (by omega)]
    simp only [Option.bind_some]
    rw [trim_eq, trim_eq, k2, k3]
    congr 2
    · rw [quo, ← hn]
      exact ofF_congr fun i hi => by rw [k5 i, if_pos hi]
    · rw [rem, ← hn]
      exact ofF_congr fun i _ => k4 i
end Go.Proofs.YtkbnegemdlnncaaGreat
/- Products and quotients, in the program. -/
namespace Go.Proofs.YtkbnegemdlnncaaGreat
open Go.Abs

variable {P : Pri}
theorem Pri.sm (P : Pri) : 0 < P.p ∧ P.p ≤ 256 := by have := P.two; omega
theorem PP.ent (a : PP P) : Ent a.1 := a.2.ent P.sm
theorem ne_len {b : PP P} (hb : b ≠ 0) : b.1.length ≠ 0 := fun h => hb (len_zero.1 h)
theorem pdivI {a b : PP P} (hb : b ≠ 0) (la : a.len ≤ 500000) (lb : b.len ≤ 500000) : impl_prime_divide P.p a.1 b.1 = some ((pquo a b).1, (prem a b).1) := divideI_is P.ok a.2 b.2 (ne_len hb) la lb
theorem timesI {a b : PP P} (la : a.len ≤ 500000) (lb : b.len ≤ 500000) : impl_prime_times P.p a.1 b.1 = some (a * b).1 :=
  times_is (by have := P.two; omega) a.ent b.ent la lb
end Go.Proofs.YtkbnegemdlnncaaGreat
/- A row as an array. -/
namespace Go.Proofs.YtkbnegemdlnncaaGreat
open Go.Abs

theorem poly_loop {l : List Int} (hb : Bytes l) (hl : l.length ≤ 64) : ∀ s : Int × V64, (∃ i : Nat, s.1 = i ∧ i ≤ l.length ∧ s.2 = pad (l.take i)) → ∃ r, loopM (fun s : Int × V64 => impl_row_poly_l1 l s.1 s.2) s = some r ∧ r = pad l := by
  refine loopM_ind (fun (s : Int × V64) => ∃ i : Nat, s.1 = i ∧ i ≤ l.length ∧ s.2 = pad (l.take i)) (fun (s : Int × V64) r => r = pad l) (fun (s : Int × V64) => 64 - s.1.toNat) ?_
  rintro ⟨x, v⟩ ⟨i, hx, hi, hv⟩
  simp only at hx hv
  subst hx hv
  by_cases h : i = l.length
  · right
    subst h
    exact ⟨pad l, by simp [impl_row_poly_l1], rfl⟩
  · left
    have hil : i < l.length := by omega
    have er : rd l i = l[i] := by simp [rd, hil]
    have hbi := hb l[i] (List.getElem_mem _)
    refine ⟨(((i + 1 : Nat) : Int), pad (l.take (i + 1))), ?_, ⟨i + 1, rfl, by omega, rfl⟩, by simp; omega, fun r hr => hr⟩
    simp only [impl_row_poly_l1]
    rw [if_pos (by simp; omega), ifp_pos (by omega), ifp_pos (by omega)]
    simp only [Int.toNat_natCast, er]
    rw [wrap64 (by omega) (by omega), wrap8 hbi.1 hbi.2]
    have := pad_set (l.take i) l[i] (by simp; omega)
    rw [List.length_take, Nat.min_eq_left (by omega)] at this
    rw [this, List.take_succ_eq_append_getElem hil]
    simp

theorem poly_is {l : List Int} (hb : Bytes l) (hl : l.length ≤ 64) : impl_row_poly l = some (pad l) := by
  obtain ⟨r, h1, h2⟩ := poly_loop hb hl (0, pad []) ⟨0, rfl, by omega, by simp⟩
  simp only [impl_row_poly, ← pad_nil, h1, h2, Option.bind_some]
end Go.Proofs.YtkbnegemdlnncaaGreat
/- Polynomials from rows, told. -/
namespace Go.Proofs.YtkbnegemdlnncaaGreat
open Go.Abs
theorem told_is {l : List Int} (hb : Bytes l) (hl : l.length ≤ 64) : impl_told l = some (pad l, 0) := by
  simp only [impl_told, impl_row_fits, impl_row_degree, Option.bind_some, poly_is hb hl]
  rw [wrap64 (by omega) (by omega)]
  simp
  omega
end Go.Proofs.YtkbnegemdlnncaaGreat
/- Rows as arrays: codes, rows, told. -/
namespace Go.Proofs.YtkbnegemdlnncaaGreat
open Go.Abs
variable {P : Pri}
theorem isB_pp (a : PP P) : IsB (pad a.1) := fun x hx => by
  obtain ⟨i, hi, rfl⟩ := List.getElem_of_mem hx
  have h1 := res_pad a.2 P.pos i (by rw [← (pad a.1).2]; exact hi)
  have := P.two
  rw [rd_lt hi] at h1
  omega
theorem small_pp (a : PP P) : small P.p (pad a.1) = true := by
  simp only [small, decide_eq_true_eq]
  exact fun j hj => (res_pad a.2 P.pos j hj).2
theorem pcode1 (a : PP P) : impl_polysCode P.p [pad a.1] = some 0 := by
  rw [polysCode_is (fun x hx => by rw [List.mem_singleton.1 hx]; exact isB_pp a) (by simp), P.okp]
  simp [small_pp]
theorem pcode2 (a b : PP P) : impl_polysCode P.p [pad a.1, pad b.1] = some 0 := by
  rw [polysCode_is (fun x hx => by
    rcases List.mem_cons.1 hx with rfl | hx
    · exact isB_pp a
    · rw [List.mem_singleton.1 hx]; exact isB_pp b) (by simp), P.okp]
  simp [small_pp]
theorem rowI (a : PP P) (la : a.len ≤ 64) : impl_rowOf (pad a.1) = some a.1 := by rw [row_is (isB_pp a), row_pad a.2 la]
theorem fitsI (a : PP P) (la : a.len ≤ 1000000) : impl_row_fits a.1 = some (decide (a.len ≤ 64)) := by
  have h : a.1.length = a.len := rfl
  simp only [impl_row_fits, impl_row_degree, Option.bind_some]
  rw [wrap64 (by omega) (by omega), h]
  congr 1
  rw [Bool.eq_iff_iff]; simp only [decide_eq_true_eq]; omega
theorem toldI (a : PP P) (la : a.len ≤ 1000000) : impl_told a.1 = some (if a.len ≤ 64 then (pad a.1, 0) else (vrep 64 0, 3)) := by
  by_cases h : a.len ≤ 64
  · rw [if_pos h]
    exact told_is (a.2.bytes P.sm.2) h
  · rw [if_neg h]
    simp only [impl_told, fitsI a la, decide_eq_false h, Option.bind_some]
    rfl
end Go.Proofs.YtkbnegemdlnncaaGreat
/- MultiplyPolys of the program. -/
namespace Go.Proofs.YtkbnegemdlnncaaGreat
open Go.Abs
variable {P : Pri}
theorem mulO {a b : PP P} (la : a.len ≤ 64) (lb : b.len ≤ 64) : impl_MultiplyPolys P.p (pad a.1) (pad b.1) = some (if (a * b).len ≤ 64 then (pad (a * b).1, 0) else (vrep 64 0, 3)) := by
  have hl : (a * b).len ≤ a.len + b.len - 1 := mul_len _ _ _
  simp only [impl_MultiplyPolys, pcode2, rowI a la, rowI b lb, timesI (a := a) (b := b) (by omega) (by omega), toldI (a * b) (by omega), Option.bind_some]
  rfl
end Go.Proofs.YtkbnegemdlnncaaGreat
/- SubtractPolys of the program. -/
namespace Go.Proofs.YtkbnegemdlnncaaGreat
open Go.Abs
variable {P : Pri}
theorem subP_eq (a b : PP P) : comb P.p a.1 b.1 (-1) = (a + -b).1 := by
  apply row_ext (comb_row P.pos _ _ _) (a + -b).2
  intro i
  show rd (comb P.p a.1 b.1 (-1)) i = (a + -b).c i
  rw [comb_rd, add_c, neg_c, Int.add_emod_emod]
  show (rd a.1 i + -1 * rd b.1 i) % P.p = (rd a.1 i + -(rd b.1 i)) % P.p
  congr 1; omega
theorem subO {a b : PP P} (la : a.len ≤ 64) (lb : b.len ≤ 64) : impl_SubtractPolys P.p (pad a.1) (pad b.1) = some (pad (a + -b).1, 0) := by
  have hl : (a + -b).len ≤ 64 := by
    have := len_add a (-b)
    have := len_neg b
    omega
  have e : impl_prime_combine P.p a.1 b.1 (-1) = some (a + -b).1 := by
    rw [combine_is P.sm a.ent b.ent (show a.1.length ≤ 1000000 from Nat.le_trans la (by omega)) (show b.1.length ≤ 1000000 from Nat.le_trans lb (by omega)) (by omega), subP_eq]
  simp only [impl_SubtractPolys, pcode2, rowI a la, rowI b lb, e, toldI (a + -b) (by omega), if_pos hl, Option.bind_some]
  rfl
end Go.Proofs.YtkbnegemdlnncaaGreat
/- Squares and roots: what both sides return, and what it is. -/
namespace Go.Proofs.YtkbnegemdlnncaaGreat
open Go.Abs
/-- A square case. -/
structure SqC (P : Pri) (D : PP P) (g : Nat) : Prop where
  len : D.len = 2 * g + 1
  lead : D.c (2 * g) = 1
  odd : P.p ≠ 2
  g31 : g ≤ 31
theorem pri_of_i {p : Int} (hp : isP p = true) : ∃ P : Pri, p = P.p := by
  have hp2 := isP_pos hp
  obtain ⟨q, rfl⟩ : ∃ q : Nat, p = q := ⟨p.toNat, by omega⟩
  exact ⟨⟨q, hp⟩, rfl⟩
theorem sq_is {p : Int} {d : V64} (hb : IsB d) (hp : isP p = true) (hs : small p d = true) (hq : sqOk p d = true) : ∃ (P : Pri) (D : PP P) (g : Nat), p = P.p ∧ d = pad D.1 ∧ row d = D.1 ∧ SqC P D g := by
  obtain ⟨P, rfl⟩ := pri_of_i hp
  obtain ⟨hne, g, hg, hg31⟩ := sqOk_spec hq
  refine ⟨P, ⟨row d, row_row (res_of_small hb hs)⟩, g, rfl, (pad_row d).symm, rfl, hg, ?_, hne, hg31⟩
  simp only [sqOk, sqB, Bool.and_eq_true, bne_iff_ne, beq_iff_eq] at hq
  have ht : top (rd d.1) 64 = 2 * g + 1 := by rw [← row_length, hg]
  show rd (row d) (2 * g) = 1
  rw [row_rd d (by omega)]
  have := hq.1.2
  rwa [ht, Nat.add_sub_cancel] at this
theorem row_of {P : Pri} (a : PP P) (la : a.len ≤ 64) : row (pad a.1) = a.1 := row_pad a.2 la
variable {P : Pri} {D : PP P} {g : Nat}
theorem sq_lead (h : SqC P D g) : sqOk P.p (pad D.1) = true := by
  have hl : D.1.length = 2 * g + 1 := h.len
  have ht : top (rd (pad D.1).1) 64 = 2 * g + 1 := by rw [top_congr 64 fun i hi => rd_padl D.1 hi, D.2.top (by have := h.g31; omega), hl]
  simp only [sqOk, sqB, ht, Bool.and_eq_true, bne_iff_ne, beq_iff_eq, Nat.add_sub_cancel]
  refine ⟨⟨⟨h.odd, by omega⟩, ?_⟩, by omega⟩
  rw [rd_padl _ (by have := h.g31; omega)]
  exact h.lead
theorem sq_code (h : SqC P D g) : impl_squareCode P.p (pad D.1) true = some 0 := by
  rw [square_is (isB_pp D), P.okp, small_pp, sq_lead h]; rfl
theorem sq_codeS (h : SqC P D g) : spec_l10Case P.p (pad D.1) = some 0 := by
  rw [case_is (isB_pp D), P.okp, small_pp, sq_lead h]; rfl
theorem sq_root (h : SqC P D g) : impl_prime_root P.p D.1 = some (rtP D g).1 :=
  rootI_is P.okp h.odd (d := D.1) (g := g) (fun j => D.2.rd P.pos j) (by have := h.g31; omega) h.len
theorem sq_part (h : SqC P D g) : spec_l10Part P.p (pad D.1) = some (pad (rtP D g).1) := by
  have hg := h.g31
  have e := part_is P.okp h.odd (res_pad D.2 P.pos) (g := g) (by rw [row_of D (by rw [h.len]; omega)]; exact h.len) hg
  rw [row_of D (by rw [h.len]; omega)] at e
  exact e
theorem sq_len (h : SqC P D g) : D.len ≤ 64 ∧ (rtP D g).len ≤ 64 ∧ (rtP D g * rtP D g).len ≤ 64 := by
  have h1 := h.len
  have h2 := h.g31
  have h3 := rtP_len D g
  have h4 : (rtP D g * rtP D g).len ≤ (rtP D g).len + (rtP D g).len - 1 := mul_len _ _ _
  omega
theorem squareO (h : SqC P D g) : ∃ y : Bool, impl_IsSquarePoly P.p (pad D.1) = some (y, 0) ∧ (y = true ↔ rtP D g * rtP D g = D) := by
  obtain ⟨l1, l2, l3⟩ := sq_len h
  have e1 : slices_Equal_impl_row_int64 (rtP D g * rtP D g).1 D.1 = some (decide ((rtP D g * rtP D g).1 = D.1)) := sliceEq_is (Nat.le_trans l3 (by omega)) (Nat.le_trans l1 (by omega))
  refine ⟨decide ((rtP D g * rtP D g).1 = D.1), ?_, ?_⟩
  · simp only [impl_IsSquarePoly, sq_code h, rowI D l1, sq_root h, timesI (a := rtP D g) (b := rtP D g) (by omega) (by omega), e1, Option.bind_some]
    rfl
  · rw [decide_eq_true_eq]
    exact ⟨fun e => pp_eq e, fun e => by rw [e]⟩
theorem rootO (h : SqC P D g) : impl_RootPart P.p (pad D.1) = some (pad (rtP D g).1, 0) := by
  obtain ⟨l1, l2, l3⟩ := sq_len h
  simp only [impl_RootPart, sq_code h, rowI D l1, sq_root h, toldI (rtP D g) (by omega), if_pos l2, Option.bind_some]
  rfl
theorem rootSp (h : SqC P D g) : spec_RootPart P.p (pad D.1) = some (pad (rtP D g).1, 0) := by
  simp only [spec_RootPart, sq_codeS h, sq_part h, Option.bind_some]
  rfl
theorem degO' {P : Pri} {a : PP P} (la : a.len ≤ 64) : impl_DegreeOf P.p (pad a.1) = some ((a.len : Int) - 1, 0) := by
  have h : a.1.length = a.len := rfl
  simp only [impl_DegreeOf, pcode1, rowI a la, impl_row_degree, Option.bind_some, bne_self_eq_false, Bool.false_eq_true, if_false, h]
  rw [wrap64 (by omega) (by omega)]
/-- What the law says of roots and squares. -/
theorem root_part {p : Int} {d : V64} (hb : IsB d) : ∃ (y : Bool) (e : Int) (v : V64) (e2 : Int), impl_IsSquarePoly p d = some (y, e) ∧ spec_IsSquarePoly p d = some (y, e) ∧ impl_RootPart p d = some (v, e2) ∧ spec_RootPart p d = some (v, e2) ∧
    (if (e2 == 0) then (Option.bind (impl_MultiplyPolys p v v) fun r198 => (Option.bind (impl_SubtractPolys p d r198.1) fun r203 => (Option.bind (impl_DegreeOf p r203.1) fun r207 => (Option.bind (impl_DegreeOf p v) fun r210 => (Option.bind (α := Bool) ((if (r198.2 != 0) then (some true) else (if (r203.2 != 0) then (some true) else (if (r207.2 != 0) then (some true) else (if (r210.2 != 0) then (some true) else (if (decide (r207.1 ≥ r210.1)) then (if (decide (r210.1 > 0)) then (some true) else (some ((!(y == ((decide (r207.1 < 0)))))))) else (some ((!(y == ((decide (r207.1 < 0))))))))))))) fun x218 => (if x218 then (some (.inr false)) else (some ((.inl ()))))))))) else (some ((.inl ())))) = (some (.inl ()) : Option (Unit ⊕ Bool)) := by
  obtain ⟨⟨y, e⟩, h1, h2⟩ := isSquare_both (p := p) hb
  by_cases hok : isP p = true ∧ small p d = true
  · by_cases hq : sqOk p d = true
    · obtain ⟨P, D, g, rfl, rfl, hr, h⟩ := sq_is hb hok.1 hok.2 hq
      obtain ⟨l1, l2, l3⟩ := sq_len h
      obtain ⟨y', f1, f2⟩ := squareO h
      rw [h2] at f1
      obtain ⟨rfl, rfl⟩ : y = y' ∧ e = 0 := by simpa using f1
      have hd := diff_len h.len h.lead h.odd
      have e1 := mulO l2 l2
      rw [if_pos l3] at e1
      have e2 := subO l1 l3
      have e3 := degO' (a := D + -(rtP D g * rtP D g)) (by have := h.g31; omega)
      have e4 := degO' l2
      refine ⟨y, 0, pad (rtP D g).1, 0, h2, h1, rootO h, rootSp h, ?_⟩
      have hlt : decide (((D + -(rtP D g * rtP D g)).len : Int) - 1 ≥ ((rtP D g).len : Int) - 1) = false := decide_eq_false (by rw [rtP_len]; omega)
      have hy : (y == decide (((D + -(rtP D g * rtP D g)).len : Int) - 1 < 0)) = true := by
        rw [beq_iff_eq, Bool.eq_iff_iff, f2, decide_eq_true_eq]
        constructor
        · intro hs
          have : (D + -(rtP D g * rtP D g)).len = 0 := len_zero.2 (by rw [hs]; exact ppring.add_neg D)
          omega
        · intro hs
          have h0 := len_zero.1 (show (D + -(rtP D g * rtP D g)).len = 0 by omega)
          exact (ppring.sub_zero h0).symm
      simp only [beq_self_eq_true, if_true, e1, e2, e3, e4, Option.bind_some, bne_self_eq_false, Bool.false_eq_true, if_false, hlt, hy, Bool.not_true]
    · have hq' : sqOk p d = false := by simpa using hq
      refine ⟨y, e, vrep 64 0, 2, h2, h1, ?_, ?_, rfl⟩
      · simp [impl_RootPart, square_is hb, hok, hq']
      · simp [spec_RootPart, case_is hb, hok, hq']
  · have hok' : (isP p && small p d) = false := by
      cases ha : isP p <;> cases hc : small p d <;> simp_all
    refine ⟨y, e, vrep 64 0, 1, h2, h1, ?_, ?_, rfl⟩
    · simp [impl_RootPart, square_is hb, hok']
    · simp [spec_RootPart, case_is hb, hok']
theorem sum_is : ∀ {l : List Int}, (∀ i, i < l.length → rd l i = 0) → l.length ≤ 1000 → laws_sum l = some 0 := by
  intro l h hl
  obtain ⟨s, h1, h2⟩ := loopM_for (body := fun s : Int × Int => laws_sum_l1 l s.1 s.2) (fun i s => (s, (i : Int))) (fun s => s) l.length
    (fun _ s => s = 0) (fun i s hi hI => by
      subst hI
      refine ⟨0, ?_, rfl⟩
      simp only [laws_sum_l1, Int.toNat_natCast, h i hi]
      rw [if_pos (decide_eq_true (by omega)), ifp_pos (by omega), wrap64 (by omega) (by omega), wrap64 (by omega) (by omega)]
      rfl) (fun s hI => by
      simp only [laws_sum_l1]
      rw [if_neg (by rw [decide_eq_true_eq]; omega)]) l.length 0 0 (by omega) rfl
  have h1' : loopM (fun s : Int × Int => laws_sum_l1 l s.1 s.2) (0, 0) = some s := h1
  simp only [laws_sum, h1', h2, Option.bind_some]
/-- What the law says of digits. -/
theorem digit_part {p : Int} {d : V64} (hb : IsB d) (n : Int) : ∃ (l : List Int) (c : Int), spec_DigitsOfRoot p d n = some (l, c) ∧ impl_DigitsOfRoot p d n = some (l, c) ∧ l.length ≤ 1000 ∧
    (if (c == 0) then (Option.bind (impl_IsSquarePoly p d) fun r143 => (Option.bind (α := Bool) ((if (r143.2 != 0) then (some true) else (if r143.1 then (Option.bind (laws_sum l) fun r155 => (some (r155 != 0))) else (some false)))) fun x149 => (if x149 then (some (.inr false)) else (some ((.inl ())))))) else (some ((.inl ())))) = (some (.inl ()) : Option (Unit ⊕ Bool)) := by
  obtain ⟨l, c, h1, h2, h3, h4⟩ := digitsOfRoot_both (p := p) hb n
  refine ⟨l, c, h1, h2, h3, ?_⟩
  by_cases hc : c = 0
  · obtain ⟨k1, k2, k3, g', m, k4, k5, _⟩ := h4 hc
    obtain ⟨P, D, g, rfl, rfl, hr, h⟩ := sq_is hb k1 k2 k3
    obtain ⟨y, f1, f2⟩ := squareO h
    have hgg : g' = g := by
      have : (row (pad D.1)).length = D.len := by rw [hr]; rfl
      have := h.len
      omega
    subst hgg
    rw [if_pos (by rw [hc]; rfl), f1]
    simp only [Option.bind_some, bne_self_eq_false, Bool.false_eq_true, if_false]
    cases y with
    | false => rfl
    | true =>
      have hs := f2.1 rfl
      have hz := sum_is (l := l) (fun i hi => by
        rw [k5, hr]
        have e : rd ((rt P.p (fromTop D.1) (g' + m)).drop (g' + 1)) i = rd (rt P.p (fromTop D.1) (g' + m)) (g' + 1 + i) := by simp [rd]
        rw [e]
        have hlen : l.length = m := by rw [k5, List.length_drop, rt_len]; omega
        exact digits_0 h.len hs (g' + 1 + i) (g' + 1 + i) (Nat.le_refl _) (by omega) _ (by omega)) h3
      rw [hz]
      rfl
  · rw [if_neg (by rw [beq_iff_eq]; exact hc)]
end Go.Proofs.YtkbnegemdlnncaaGreat
/- The polynomial T. -/
namespace Go.Proofs.YtkbnegemdlnncaaGreat
open Go.Abs

theorem row_T {p : Int} (hp : 2 ≤ p) : Row p [0, 1] := ⟨by simp; omega, by simp [rd]⟩
theorem T_is : spec_l01T = some (pad [0, 1]) := by
  unfold spec_l01T
  congr 1
end Go.Proofs.YtkbnegemdlnncaaGreat
/- One. -/
namespace Go.Proofs.YtkbnegemdlnncaaGreat
open Go.Abs

theorem row_one {p : Int} (hp : 2 ≤ p) : Row p [1] := ⟨by simp; omega, by simp [rd]⟩
theorem one_is : spec_l01One = some (pad [1]) := by
  unfold spec_l01One
  congr 1
end Go.Proofs.YtkbnegemdlnncaaGreat
/- Powers of p; one. -/
namespace Go.Proofs.YtkbnegemdlnncaaGreat
open Go.Abs

theorem ppow_pos {p : Nat} (hp : 2 ≤ p) (n : Nat) : 1 ≤ p ^ n := Nat.one_le_pow _ _ (by omega)
theorem ppow_mono {p : Nat} (hp : 2 ≤ p) {n m : Nat} (h : n ≤ m) : p ^ n ≤ p ^ m := Nat.pow_le_pow_right (by omega) h
/-- p to a power, at most a bit more than a limit. -/
theorem norm_is {p n most : Nat} (hp : 2 ≤ p ∧ p ≤ 7) (hn : n ≤ 1000000) (hm : most ≤ 1152921504606846976) : ∃ c : Nat, impl_prime_norm p n most = some (c : Int) ∧ ((p ^ n ≤ most ∧ c = p ^ n) ∨ (most < p ^ n ∧ most < c)) ∧ c ≤ 8070450532247928832 := by
  have key : ∀ (m i : Nat), i + m = n → (i = 0 ∨ p ^ (i - 1) ≤ most) → ∃ c : Nat, loopM (fun s : Int × Int => impl_prime_norm_l1 (n : Int) (most : Int) p s.1 s.2) (((p ^ i : Nat) : Int), (i : Int)) = some (c : Int) ∧ ((p ^ n ≤ most ∧ c = p ^ n) ∨ (most < p ^ n ∧ most < c)  ∨ (n = i ∧ c = p ^ n)) ∧ c ≤ 8070450532247928832 := by
    intro m
    induction m with
    | zero =>
      intro i hi hle
      have : i = n := by omega
      subst this
      have step : impl_prime_norm_l1 (i : Int) (most : Int) p ((p ^ i : Nat) : Int) (i : Int) = some (.inr ((p ^ i : Nat) : Int)) := by
        simp only [impl_prime_norm_l1]
        rw [if_neg (by rw [decide_eq_true_eq]; omega)]
      rw [loopM_eq]
      simp only [step, Option.bind_some]
      refine ⟨p ^ i, rfl, ?_, ?_⟩
      · exact .inr (.inr (by simp))
      · rcases hle with rfl | hle
        · simp
        · rcases Nat.eq_zero_or_pos i with rfl | h
          · simp
          · have : p ^ i = p ^ (i - 1) * p := by rw [← Nat.pow_succ]; congr 1; omega
            rw [this]
            have := Nat.mul_le_mul hle hp.2
            omega
    | succ m ih =>
      intro i hi hle
      have hmono := ppow_mono hp.1 (show i ≤ n by omega)
      by_cases h : most < p ^ i
      · have step : impl_prime_norm_l1 (n : Int) (most : Int) p ((p ^ i : Nat) : Int) (i : Int) = some (.inr ((p ^ i : Nat) : Int)) := by
          simp only [impl_prime_norm_l1]
          rw [if_pos (decide_eq_true (by omega)), if_pos (decide_eq_true (by omega))]
        rw [loopM_eq]
        simp only [step, Option.bind_some]
        refine ⟨p ^ i, rfl, .inr (.inl ⟨by omega, h⟩), ?_⟩
        rcases hle with rfl | hle
        · simp
        · rcases Nat.eq_zero_or_pos i with rfl | h
          · simp
          · have : p ^ i = p ^ (i - 1) * p := by rw [← Nat.pow_succ]; congr 1; omega
            rw [this]
            have := Nat.mul_le_mul hle hp.2
            omega
      · have hle2 := Nat.mul_le_mul (show p ^ i ≤ most by omega) hp.2
        have e1 : ((p ^ i : Nat) : Int) * (p : Int) = ((p ^ (i + 1) : Nat) : Int) := by rw [Nat.pow_succ, Int.natCast_mul]
        have e2 : p ^ (i + 1) = p ^ i * p := Nat.pow_succ ..
        have step : impl_prime_norm_l1 (n : Int) (most : Int) p ((p ^ i : Nat) : Int) (i : Int) = some (.inl (((p ^ (i + 1) : Nat) : Int), ((i + 1 : Nat) : Int))) := by
          simp only [impl_prime_norm_l1]
          rw [if_pos (decide_eq_true (by omega)), if_neg (by rw [decide_eq_true_eq]; omega), e1, wrap64 (n := ((p ^ (i + 1) : Nat) : Int)) (by omega) (by omega), wrap64 (by omega) (by omega)]
          rfl
        rw [loopM_eq]
        simp only [step, Option.bind_some]
        obtain ⟨c, h1, h2, h3⟩ := ih (i + 1) (by omega) (.inr (by simp only [Nat.add_sub_cancel]; omega))
        refine ⟨c, h1, ?_, h3⟩
        rcases h2 with h2 | h2 | ⟨h2, h4⟩
        · exact .inl h2
        · exact .inr (.inl h2)
        · by_cases h5 : p ^ n ≤ most
          · exact .inl ⟨h5, h4⟩
          · exact .inr (.inl ⟨by omega, by omega⟩)
  obtain ⟨c, h1, h2, h3⟩ := key n 0 (by omega) (.inl rfl)
  simp only [Nat.pow_zero] at h1
  refine ⟨c, ?_, ?_, h3⟩
  · have h1' : loopM (fun s : Int × Int => impl_prime_norm_l1 (n : Int) (most : Int) p s.1 s.2) (1, 0) = some (c : Int) := h1
    simp only [impl_prime_norm, h1', Option.bind_some]
  · rcases h2 with h2 | h2 | ⟨h2, h4⟩
    · exact .inl h2
    · exact .inr h2
    · by_cases h5 : p ^ n ≤ most
      · exact .inl ⟨h5, h4⟩
      · exact .inr ⟨by omega, by omega⟩
end Go.Proofs.YtkbnegemdlnncaaGreat
/- Powers of polynomials. -/
namespace Go.Proofs.YtkbnegemdlnncaaGreat
open Go.Abs

def pow (p : Int) (a : List Int) : Nat → List Int
  | 0 => [1]
  | k + 1 => mul p (pow p a k) a
theorem pow_row {p : Int} (hp : 2 ≤ p) (a : List Int) : ∀ k, Row p (pow p a k)
  | 0 => row_one hp
  | k + 1 => mul_row (by omega) _ _
theorem pow_len (p : Int) (a : List Int) : ∀ k, (pow p a k).length ≤ 1 + k * (a.length - 1)
  | 0 => by simp [pow]
  | k + 1 => by
    have h1 := pow_len p a k
    have h2 := mul_len p (pow p a k) a
    rw [Nat.succ_mul]
    simp only [pow]
    rcases Nat.eq_zero_or_pos a.length with h | h
    · have e : a = [] := List.eq_nil_of_length_eq_zero h
      subst e
      rw [mul_nil']; simp
    · omega
theorem raised_is {p : Int} (hp : 2 ≤ p ∧ p ≤ 7) {a : List Int} (ha : Row p a) (la : a.length ≤ 1000) {k : Nat} (hk : k ≤ 400) : impl_prime_raised p a k = some (pow p a k) := by
  obtain ⟨s, h1, h2⟩ := loopM_for (body := fun s : List Int × Int => impl_prime_raised_l1 (k : Int) p a s.1 s.2) (fun i s => (s, (i : Int))) (fun s => s) k
    (fun i s => s = pow p a i) (fun i s hi hI => by
      subst hI
      have hl := pow_len p a i
      have hm : i * (a.length - 1) ≤ 400 * 1000 := Nat.mul_le_mul (by omega) (by omega)
      refine ⟨pow p a (i + 1), ?_, rfl⟩
      simp only [impl_prime_raised_l1]
      rw [if_pos (by simp; omega), times_is ⟨hp.1, by omega⟩ ((pow_row hp.1 a i).ent ⟨by omega, by omega⟩) (ha.ent ⟨by omega, by omega⟩) (by omega) (by omega)]
      simp only [Option.bind_some]
      rw [wrap64 (by omega) (by omega)]; rfl) (fun s hI => by
      simp only [impl_prime_raised_l1]
      rw [if_neg (by simp)]) k 0 [1] (by omega) rfl
  have h1' : loopM (fun s : List Int × Int => impl_prime_raised_l1 (k : Int) p a s.1 s.2) ([1], 0) = some s := h1
  simp only [impl_prime_raised, h1', Option.bind_some, h2]
end Go.Proofs.YtkbnegemdlnncaaGreat
/- Powers p^i of polynomials: T is replaced by T^(p^i). -/
namespace Go.Proofs.YtkbnegemdlnncaaGreat
open Go.Abs

def sprF (a : List Int) (q : Nat) (j : Nat) : Int := if j % q = 0 then rd a (j / q) else 0
def spr (a : List Int) (q : Nat) : List Int := ofF ((a.length - 1) * q + 1) (sprF a q)
theorem sprF_zero {a : List Int} {q : Nat} (hq : 0 < q) {j : Nat} (hj : (a.length - 1) * q + 1 ≤ j) : sprF a q j = 0 := by
  unfold sprF
  split
  · rename_i h
    rw [rd_ge]
    have h1 := Nat.div_add_mod j q
    rw [h, Nat.add_zero] at h1
    rcases Nat.lt_or_ge (j / q) a.length with h2 | h2
    · have h3 : q * (j / q) ≤ q * (a.length - 1) := Nat.mul_le_mul_left _ (by omega)
      rw [Nat.mul_comm q (a.length - 1)] at h3
      omega
    · exact h2
  · rfl
theorem spr_rd {a : List Int} {q : Nat} (hq : 0 < q) (j : Nat) : rd (spr a q) j = sprF a q j := rd_ofF (fun _ h => sprF_zero hq h) j
theorem spr_row {p : Int} (hp : 0 < p) {a : List Int} (ha : Row p a) (q : Nat) : Row p (spr a q) := row_ofF fun i _ => by
  unfold sprF
  split
  · exact ha.rd hp _
  · omega
theorem spr_len {p : Int} {a : List Int} (ha : Row p a) (h0 : a.length ≠ 0) {q : Nat} (hq : 0 < q) : (spr a q).length = (a.length - 1) * q + 1 := by
  rw [spr, ofF_len]
  refine top_is (Nat.le_refl _) (fun i h1 h2 => by omega) fun _ => ?_
  simp only [Nat.add_sub_cancel, sprF, Nat.mul_mod_left, if_true, Nat.mul_div_cancel _ hq]
  exact ha.nrm h0
theorem spr_nil (q : Nat) : spr [] q = [] := by
  simp [spr, ofF, top, sprF, rd]

theorem spread_is {p i : Nat} (hp : 2 ≤ p ∧ p ≤ 7) (hi : i ≤ 1000000) {a : List Int} (ha : Row p a) (la : a.length ≤ 1000) (hq : p ^ i ≤ 1000000) : impl_prime_spread p a i = some (spr a (p ^ i)) := by
  by_cases h0 : a.length = 0
  · have : a = [] := List.eq_nil_of_length_eq_zero h0
    subst this
    simp [impl_prime_spread, spr_nil]
  · obtain ⟨c, h1, h2, _⟩ := norm_is (n := i) (most := 1099511627776) hp hi (by omega)
    have hc : c = p ^ i := by omega
    subst hc
    have hpos := ppow_pos hp.1 i
    generalize hqq : p ^ i = q at *
    have h1' : impl_prime_norm p i 1099511627776 = some (q : Int) := h1
    have hm : (a.length - 1) * q ≤ 999 * 1000000 := Nat.mul_le_mul (by omega) hq
    have e1 : IntKind.i64.wrap ((a.length : Int) - 1) = ((a.length - 1 : Nat) : Int) := by rw [wrap64 (by omega) (by omega)]; omega
    have e2 : IntKind.i64.wrap (IntKind.i64.wrap (((a.length - 1 : Nat) : Int) * (q : Int)) + 1) = (((a.length - 1) * q + 1 : Nat) : Int) := by
      rw [← Int.natCast_mul, wrap64 (n := (((a.length - 1) * q : Nat) : Int)) (by omega) (by omega), wrap64 (by omega) (by omega)]; omega
    obtain ⟨n, hn⟩ : ∃ n : Nat, n = (a.length - 1) * q + 1 := ⟨_, rfl⟩
    simp only [impl_prime_spread]
    rw [if_neg (by rw [beq_iff_eq]; omega), h1']
    simp only [Option.bind_some, impl_row_degree]
    rw [e1, e2, ← hn, ifp_pos (by omega), Int.toNat_natCast]
    have hsmall : ∀ k : Nat, k < a.length → k * q ≤ (a.length - 1) * q := fun k hk => Nat.mul_le_mul_right _ (by omega)
    obtain ⟨s, g1, g2, g3⟩ := loopM_for (body := fun s : Int × List Int => impl_prime_spread_l1 a (q : Int) s.1 s.2) (fun i s => ((i : Int), s)) (fun s => s) a.length
      (fun k s => s.length = n ∧ ∀ j, rd s j = if j % q = 0 ∧ j / q < k then rd a (j / q) else 0) (fun k s hk hI => by
        obtain ⟨hl, hr⟩ := hI
        have h4 := hsmall k hk
        refine ⟨s.set (k * q) (rd a k), ?_, by simpa using hl, fun j => ?_⟩
        · have e3 : IntKind.i64.wrap ((k : Int) * (q : Int)) = ((k * q : Nat) : Int) := by rw [← Int.natCast_mul, wrap64 (by omega) (by omega)]
          simp only [impl_prime_spread_l1]
          rw [if_pos (decide_eq_true (by omega)), ifp_pos (by omega), e3, ifp_pos (by omega), wrap64 (by omega) (by omega)]
          rfl
        · rw [rd_set _ _ _ _ (by omega), hr j]
          by_cases e : j = k * q
          · subst e
            rw [if_pos rfl, if_pos ⟨Nat.mul_mod_left _ _, by rw [Nat.mul_div_cancel _ (by omega)]; omega⟩, Nat.mul_div_cancel _ (by omega)]
          · rw [if_neg e]
            by_cases hm0 : j % q = 0
            · have h5 := Nat.div_add_mod j q
              rw [hm0, Nat.add_zero] at h5
              have : j / q ≠ k := fun h => e (by rw [← h5, h, Nat.mul_comm])
              simp only [hm0, true_and, show (j / q < k + 1) = (j / q < k) from by rw [eq_iff_iff]; omega]
            · rw [if_neg (fun h => hm0 h.1), if_neg (fun h => hm0 h.1)]) (fun s hI => by
        simp only [impl_prime_spread_l1]
        rw [if_neg (by rw [decide_eq_true_eq]; omega)]) a.length 0 (List.replicate n 0) (by omega) ⟨by simp, fun j => by rw [rd_rep, if_neg (fun h => Nat.not_lt_zero _ h.2)]⟩
    have g1' : loopM (fun s : Int × List Int => impl_prime_spread_l1 a (q : Int) s.1 s.2) (0, List.replicate n 0) = some s := g1
    rw [g1']
    simp only [Option.bind_some]
    congr 1
    refine rd_ext (by rw [g2, hn, spr_len ha h0 (by omega)]) fun j _ => ?_
    rw [g3 j, spr_rd (by omega)]
    unfold sprF
    by_cases hm0 : j % q = 0
    · simp only [hm0, true_and, if_true]
      by_cases h5 : j / q < a.length
      · rw [if_pos h5]
      · rw [if_neg h5, rd_ge (by omega)]
    · rw [if_neg (fun h => hm0 h.1), if_neg hm0]

theorem raise_loop {p : Nat} (hp : 2 ≤ p ∧ p ≤ 7) {i : Nat} (hi : i ≤ 1000000) {k : Nat} (hk : 1 ≤ k ∧ k ≤ 63) :
    loopM (fun s : Int × Int => spec_l04Raise_l2 (i : Int) p s.1 s.2) ((k : Int), 0) = some (if k * p ^ i ≤ 63 then .inl ((k * p ^ i : Nat) : Int) else .inr (vrep 64 0, false)) := by
  have key : ∀ (m j : Nat), j + m = i → k * p ^ j ≤ 63 → loopM (fun s : Int × Int => spec_l04Raise_l2 (i : Int) p s.1 s.2) (((k * p ^ j : Nat) : Int), (j : Int)) = some (if k * p ^ i ≤ 63 then .inl ((k * p ^ i : Nat) : Int) else .inr (vrep 64 0, false)) := by
    intro m
    induction m with
    | zero =>
      intro j hj hle
      have : j = i := by omega
      subst this
      have step : spec_l04Raise_l2 (j : Int) p ((k * p ^ j : Nat) : Int) (j : Int) = some (.inr (.inl ((k * p ^ j : Nat) : Int))) := by
        simp only [spec_l04Raise_l2]
        rw [if_neg (by rw [decide_eq_true_eq]; omega)]
        rfl
      rw [loopM_eq]
      simp only [step, Option.bind_some]
      rw [if_pos hle]
    | succ m ih =>
      intro j hj hle
      have hpos : 1 ≤ k * p ^ j := by
        have := Nat.mul_le_mul hk.1 (ppow_pos hp.1 j); omega
      have e1 : ((k * p ^ j : Nat) : Int) * (p : Int) = ((k * p ^ (j + 1) : Nat) : Int) := by rw [Nat.pow_succ, ← Nat.mul_assoc, Int.natCast_mul (k * p ^ j)]
      have hb : k * p ^ (j + 1) ≤ 63 * 7 := by
        rw [Nat.pow_succ, ← Nat.mul_assoc]; exact Nat.mul_le_mul hle hp.2
      have hmono : k * p ^ (j + 1) ≤ k * p ^ i := Nat.mul_le_mul_left _ (ppow_mono hp.1 (by omega))
      by_cases h : k * p ^ (j + 1) ≤ 63
      · have step : spec_l04Raise_l2 (i : Int) p ((k * p ^ j : Nat) : Int) (j : Int) = some (.inl (((k * p ^ (j + 1) : Nat) : Int), ((j + 1 : Nat) : Int))) := by
          simp only [spec_l04Raise_l2]
          rw [if_pos (decide_eq_true (by omega))]
          simp only [Option.bind_some]
          rw [if_pos (decide_eq_true (by omega)), e1, wrap64 (n := ((k * p ^ (j + 1) : Nat) : Int)) (by omega) (by omega), if_neg (by rw [decide_eq_true_eq]; omega), wrap64 (by omega) (by omega)]
          rfl
        rw [loopM_eq]
        simp only [step, Option.bind_some]
        exact ih (j + 1) (by omega) h
      · have step : spec_l04Raise_l2 (i : Int) p ((k * p ^ j : Nat) : Int) (j : Int) = some (.inr (.inr (vrep 64 0, false))) := by
          simp only [spec_l04Raise_l2]
          rw [if_pos (decide_eq_true (by omega))]
          simp only [Option.bind_some]
          rw [if_pos (decide_eq_true (by omega)), e1, wrap64 (n := ((k * p ^ (j + 1) : Nat) : Int)) (by omega) (by omega), if_pos (decide_eq_true (by omega))]
        rw [loopM_eq]
        simp only [step, Option.bind_some]
        rw [if_neg (by omega)]
  have := key i 0 (by omega) (by simp; omega)
  simpa using this
theorem raise_loop0 {p i : Int} : loopM (fun s : Int × Int => spec_l04Raise_l2 i p s.1 s.2) (0, 0) = some (.inl 0) := by
  have step : spec_l04Raise_l2 i p 0 0 = some (.inr (.inl 0)) := by
    simp only [spec_l04Raise_l2]
    split <;> rfl
  rw [loopM_eq]
  simp only [step, Option.bind_some]

theorem raise_gen {p i : Nat} (hp : 2 ≤ p ∧ p ≤ 7) (hi : i ≤ 1000000) {a : List Int} (ha : Row p a) (la : a.length ≤ 64) :
    spec_l04Raise p (pad a) i = some (if a.length ≤ 1 ∨ (a.length - 1) * p ^ i ≤ 63 then (pad (spr a (p ^ i)), true) else (vrep 64 0, false)) := by
  have hta : top (rd (pad a).1) 64 = a.length := by rw [top_congr 64 fun i hi => rd_padl a hi, ha.top la]
  have hpos := ppow_pos hp.1 i
  generalize hqq : p ^ i = q at *
  have key : ∀ (m k : Nat) (v : V64), k + m = a.length → (∀ j, j < 64 → rd v.1 j = if j % q = 0 ∧ j / q < k then rd a (j / q) else 0) →
      loopM (fun s : Int × V64 => spec_l04Raise_l1 ((a.length : Int) - 1) (pad a) (i : Int) p s.1 s.2) ((k : Int), v) = some (if a.length ≤ 1 ∨ (a.length - 1) * q ≤ 63 then .inl (pad (spr a q)) else if m = 0 then .inl v else .inr (vrep 64 0, false)) := by
    intro m
    induction m with
    | zero =>
      intro k v hk hv
      have step : spec_l04Raise_l1 ((a.length : Int) - 1) (pad a) (i : Int) p (k : Int) v = some (.inr (.inl v)) := by
        simp only [spec_l04Raise_l1]
        rw [if_neg (by rw [decide_eq_true_eq]; omega)]
      rw [loopM_eq]
      simp only [step, Option.bind_some, if_true]
      split
      · congr 2
        refine vec_ext fun j hj => ?_
        rw [hv j hj, rd_padl _ hj, spr_rd (by omega)]
        unfold sprF
        by_cases hm0 : j % q = 0
        · simp only [hm0, true_and, if_true]
          by_cases h5 : j / q < k
          · rw [if_pos h5]
          · rw [if_neg h5, rd_ge (by omega)]
        · rw [if_neg (fun h => hm0 h.1), if_neg hm0]
      · rfl
    | succ m ih =>
      intro k v hk hv
      have hrk : rd (pad a).1 k = rd a k := rd_padl a (by omega)
      -- what stands behind the place k
      have next : ∀ v' : V64, (∀ j, j < 64 → rd v'.1 j = if j % q = 0 ∧ j / q < k + 1 then rd a (j / q) else 0) → (m = 0 → a.length ≤ 1 ∨ (a.length - 1) * q ≤ 63) →
          spec_l04Raise_l1 ((a.length : Int) - 1) (pad a) (i : Int) p (k : Int) v = some (.inl (((k + 1 : Nat) : Int), v')) →
          loopM (fun s : Int × V64 => spec_l04Raise_l1 ((a.length : Int) - 1) (pad a) (i : Int) p s.1 s.2) ((k : Int), v) = some (if a.length ≤ 1 ∨ (a.length - 1) * q ≤ 63 then .inl (pad (spr a q)) else if m + 1 = 0 then .inl v else .inr (vrep 64 0, false)) := by
        intro v' hv' hm0 step
        rw [loopM_eq]
        simp only [step, Option.bind_some]
        rw [ih (k + 1) v' (by omega) hv']
        by_cases h : a.length ≤ 1 ∨ (a.length - 1) * q ≤ 63
        · rw [if_pos h, if_pos h]
        · rw [if_neg h, if_neg h, if_neg (fun e => h (hm0 e)), if_neg (by omega)]
      have ewrap : IntKind.i64.wrap ((k : Int) + 1) = ((k + 1 : Nat) : Int) := by rw [wrap64 (by omega) (by omega)]; rfl
      by_cases hz : rd a k = 0
      · refine next v (fun j hj => ?_) (fun hm => ?_) ?_
        · rw [hv j hj]
          by_cases hm0 : j % q = 0
          · simp only [hm0, true_and]
            by_cases h5 : j / q < k
            · rw [if_pos h5, if_pos (by omega)]
            · rw [if_neg h5]
              by_cases h6 : j / q < k + 1
              · rw [if_pos h6, show j / q = k by omega, hz]
              · rw [if_neg h6]
          · rw [if_neg (fun h => hm0 h.1), if_neg (fun h => hm0 h.1)]
        · exact absurd hz (by have := ha.nrm (by omega); rwa [show a.length - 1 = k by omega] at this)
        · simp only [spec_l04Raise_l1]
          rw [if_pos (decide_eq_true (by omega)), ifp_pos (by omega), Int.toNat_natCast, hrk, hz]
          simp only [beq_self_eq_true, if_true, Option.bind_some, ewrap]
      · -- the place that it comes to
        have hset : ∀ (t : Nat), t = k * q → t ≤ 63 → (∀ j, j < 64 → rd (vset v t (rd a k)).1 j = if j % q = 0 ∧ j / q < k + 1 then rd a (j / q) else 0) := by
          intro t ht ht63 j hj
          rw [rd_vset _ _ _ _ (by omega), hv j hj]
          by_cases e : j = t
          · subst e
            subst ht
            rw [if_pos rfl, if_pos ⟨Nat.mul_mod_left _ _, by rw [Nat.mul_div_cancel _ (by omega)]; omega⟩, Nat.mul_div_cancel _ (by omega)]
          · rw [if_neg e]
            by_cases hm0 : j % q = 0
            · have h5 := Nat.div_add_mod j q
              rw [hm0, Nat.add_zero] at h5
              have : j / q ≠ k := fun h => e (by rw [← h5, h, ht, Nat.mul_comm])
              simp only [hm0, true_and, show (j / q < k + 1) = (j / q < k) from by rw [eq_iff_iff]; omega]
            · rw [if_neg (fun h => hm0 h.1), if_neg (fun h => hm0 h.1)]
        rcases Nat.eq_zero_or_pos k with hk0 | hk0
        · subst hk0
          refine next _ (hset 0 (by simp) (by omega)) (fun hm => .inl (by omega)) ?_
          have hl0 : loopM (fun s : Int × Int => spec_l04Raise_l2 (i : Int) p s.1 s.2) (((0 : Nat) : Int), 0) = some (.inl 0) := raise_loop0
          simp only [spec_l04Raise_l1]
          rw [if_pos (decide_eq_true (by omega)), ifp_pos (by omega), Int.toNat_natCast, hrk, if_neg (by rw [beq_iff_eq]; exact hz), hl0]
          simp only [Option.bind_some]
          rw [ifp_pos (by omega), ifp_pos (by omega)]
          simp only [Option.bind_some, ewrap]
          rfl
        · have hl := raise_loop hp hi (k := k) ⟨hk0, by omega⟩
          rw [hqq] at hl
          by_cases h63 : k * q ≤ 63
          · rw [if_pos h63] at hl
            refine next _ (hset (k * q) rfl h63) (fun hm => .inr (by rw [show a.length - 1 = k by omega]; exact h63)) ?_
            simp only [spec_l04Raise_l1]
            rw [if_pos (decide_eq_true (by omega)), ifp_pos (by omega), Int.toNat_natCast, hrk, if_neg (by rw [beq_iff_eq]; exact hz), hl]
            simp only [Option.bind_some]
            rw [ifp_pos (by omega), ifp_pos (by omega)]
            simp only [Option.bind_some, ewrap, Int.toNat_natCast]
          · rw [if_neg h63] at hl
            have step : spec_l04Raise_l1 ((a.length : Int) - 1) (pad a) (i : Int) p (k : Int) v = some (.inr (.inr (vrep 64 0, false))) := by
              simp only [spec_l04Raise_l1]
              rw [if_pos (decide_eq_true (by omega)), ifp_pos (by omega), Int.toNat_natCast, hrk, if_neg (by rw [beq_iff_eq]; exact hz), hl]
              rfl
            have hbig : ¬ (a.length ≤ 1 ∨ (a.length - 1) * q ≤ 63) := by
              rintro (h | h)
              · omega
              · have := Nat.mul_le_mul_right q (show k ≤ a.length - 1 by omega)
                omega
            rw [loopM_eq]
            simp only [step, Option.bind_some]
            rw [if_neg hbig, if_neg (by omega)]
  have h := key a.length 0 (vrep 64 0) (by omega) (fun j hj => by rw [rd_vrep _ hj, if_neg (fun h => Nat.not_lt_zero _ h.2)])
  simp only [spec_l04Raise, deg_is, hta, Option.bind_some]
  have h' : loopM (fun s : Int × V64 => spec_l04Raise_l1 ((a.length : Int) - 1) (pad a) (i : Int) p s.1 s.2) (0, vrep 64 0) = _ := h
  rw [h']
  by_cases hc : a.length ≤ 1 ∨ (a.length - 1) * q ≤ 63
  · simp only [if_pos hc, Option.bind_some]
  · rw [if_neg hc, if_neg hc, if_neg (by omega)]
    rfl
end Go.Proofs.YtkbnegemdlnncaaGreat
/- Sums, in the reference. -/
namespace Go.Proofs.YtkbnegemdlnncaaGreat
open Go.Abs

theorem add_is {p k : Int} {a b : V64} (hp : 0 < p ∧ p ≤ 256) (ha : V64.Ent a) (hb : V64.Ent b) (hk : -1099511627776 ≤ k ∧ k ≤ 1099511627776) :
    ∃ v, spec_l01Add p a b k = some v ∧ ∀ j, j < 64 → rd v.1 j = (rd a.1 j + k * rd b.1 j) % p := by
  obtain ⟨s, h1, h2⟩ := loopM_for (body := fun s : Int × V64 => spec_l01Add_l1 k b p s.1 s.2) (fun i s => ((i : Int), s)) (fun s => s) 64
    (fun i s => ∀ j, j < 64 → rd s.1 j = if j < i then (rd a.1 j + k * rd b.1 j) % p else rd a.1 j) (fun i s hi hI => by
      have hs := hI i hi
      rw [if_neg (by omega)] at hs
      have h1 := ha i hi
      have h0 := hb i hi
      have h2 := mulk (hb i hi) hk
      have h3 := Int.lt_tmod_of_pos (rd a.1 i + k * rd b.1 i) hp.1
      have h4 := Int.tmod_lt_of_pos (rd a.1 i + k * rd b.1 i) hp.1
      have h5 := emod_res hp.1 (rd a.1 i + k * rd b.1 i)
      refine ⟨vset s i ((rd a.1 i + k * rd b.1 i) % p), ?_, fun j hj => ?_⟩
      · simp only [spec_l01Add_l1, letp, Int.toNat_natCast, hs]
        rw [if_pos (by simp; omega), ifp_pos (by omega), ifp_pos (by omega), ifp_pos (by omega), ifp_pos (by omega), ifp_pos (by omega)]
        rw [wrap64 (n := rd b.1 i) (by omega) (by omega), wrap64 (n := rd a.1 i) (by omega) (by omega), wrap64 (n := k * rd b.1 i) (by omega) (by omega), wrap64 (n := rd a.1 i + k * rd b.1 i) (by omega) (by omega), wrap64 (n := _ + p) (by omega) (by omega), tmod_fix hp.1, wrap8 (by omega) (by omega), wrap64 (by omega) (by omega)]
        rfl
      · rw [rd_vset _ _ _ _ hi, hI j hj]
        by_cases h : j = i
        · subst h; simp
        · rw [if_neg h]
          simp only [show (j < i + 1) = (j < i) from by rw [eq_iff_iff]; omega]) (fun s hI => by
      simp only [spec_l01Add_l1, letp]
      rw [if_neg (by simp)]) 64 0 a (by omega) (fun j hj => by rw [if_neg (by omega)])
  refine ⟨s, ?_, fun j hj => by rw [h2 j hj, if_pos hj]⟩
  have h1' : loopM (fun s : Int × V64 => spec_l01Add_l1 k b p s.1 s.2) (0, a) = some s := h1
  simp only [spec_l01Add, h1', Option.bind_some]

theorem add_pad {p k : Int} {a b : List Int} (hp : 0 < p ∧ p ≤ 256) (ha : Row p a) (hb : Row p b) (la : a.length ≤ 64) (lb : b.length ≤ 64) (hk : -1099511627776 ≤ k ∧ k ≤ 1099511627776) :
    spec_l01Add p (pad a) (pad b) k = some (pad (comb p a b k)) := by
  obtain ⟨v, h1, h2⟩ := add_is hp (ent_pad ha hp) (ent_pad hb hp) hk
  rw [h1]
  congr 1
  exact vec_ext fun j hj => by rw [h2 j hj, rd_padl _ hj, rd_padl _ hj, rd_padl _ hj, comb_rd]
end Go.Proofs.YtkbnegemdlnncaaGreat
/- Brackets and factorials. -/
namespace Go.Proofs.YtkbnegemdlnncaaGreat
open Go.Abs

/-- T^(p^i) - T^(p^j). -/
def brk (p i j : Nat) : List Int := comb p (spr [0, 1] (p ^ i)) (spr [0, 1] (p ^ j)) (-1)
theorem sprT_len {p : Nat} (hp : 2 ≤ p) {q : Nat} (hq : 0 < q) : (spr [0, 1] q).length = q + 1 := by
  rw [spr_len (row_T (p := p) (by omega)) (by simp) hq]; simp
theorem brk_row {p : Nat} (hp : 2 ≤ p) (i j : Nat) : Row p (brk p i j) := comb_row (by omega) _ _ _
theorem brk_len {p : Nat} (hp : 2 ≤ p) {i j : Nat} (h : j < i) : (brk p i j).length = p ^ i + 1 := by
  have h1 := ppow_pos hp i
  have h2 := ppow_pos hp j
  have hlt : p ^ j < p ^ i := Nat.pow_lt_pow_right (by omega) h
  rw [brk, comb, ofF_len, sprT_len hp (by omega), sprT_len hp (by omega)]
  refine top_is (by omega) (fun k h3 h4 => by omega) fun _ => ?_
  simp only [Nat.add_sub_cancel]
  rw [spr_rd (by omega), rd_ge (l := spr [0, 1] (p ^ j)) (by rw [sprT_len hp (by omega)]; omega)]
  have : sprF [0, 1] (p ^ i) (p ^ i) = 1 := by
    simp only [sprF, Nat.mod_self, if_true, Nat.div_self (show 0 < p ^ i by omega)]; rfl
  rw [this, Int.mul_zero, Int.add_zero, Int.emod_eq_of_lt (by omega) (by omega)]
  omega
theorem exp_small {p i : Nat} (hp : 2 ≤ p) (h : p ^ i ≤ 400000) : i ≤ 1000 := by
  rcases Nat.lt_or_ge 1000 i with h1 | h1
  · have h2 : p ^ 19 ≤ p ^ i := Nat.pow_le_pow_right (by omega) (by omega)
    have h3 : 2 ^ 19 ≤ p ^ 19 := Nat.pow_le_pow_left hp 19
    have h4 : (2 : Nat) ^ 19 = 524288 := by decide
    omega
  · exact h1
theorem bracket_is {p i j : Nat} (hp : 2 ≤ p ∧ p ≤ 7) (h1 : p ^ i ≤ 400000) (h2 : p ^ j ≤ 400000) : impl_prime_bracket p i j = some (brk p i j) := by
  have hT := row_T (p := (p : Int)) (by omega)
  have e : impl_letter = some [0, 1] := rfl
  have hi := exp_small hp.1 h1
  have hj := exp_small hp.1 h2
  simp only [impl_prime_bracket, e, Option.bind_some, spread_is hp (show i ≤ 1000000 by omega) hT (by simp) (show p ^ i ≤ 1000000 by omega), spread_is hp (show j ≤ 1000000 by omega) hT (by simp) (show p ^ j ≤ 1000000 by omega)]
  rw [combine_is ⟨by omega, by omega⟩ ((spr_row (by omega) hT _).ent ⟨by omega, by omega⟩) ((spr_row (by omega) hT _).ent ⟨by omega, by omega⟩) ?_ ?_ (by omega)]
  · rfl
  · rw [sprT_len hp.1 (by have := ppow_pos hp.1 i; omega)]; omega
  · rw [sprT_len hp.1 (by have := ppow_pos hp.1 j; omega)]; omega
theorem ent_zero : V64.Ent (vrep 64 0) := fun i hi => by rw [rd_vrep _ hi]; omega
theorem bracketS_is {p i j : Nat} (hp : 2 ≤ p ∧ p ≤ 7) (hi : i ≤ 1000000) (hj : j ≤ 1000000) : ∃ v, spec_l04Bracket p i j = some (v, decide (p ^ i ≤ 63 ∧ p ^ j ≤ 63)) ∧ (p ^ i ≤ 63 ∧ p ^ j ≤ 63 → v = pad (brk p i j)) := by
  have hT := row_T (p := (p : Int)) (by omega)
  have e1 := raise_gen hp hi hT (by simp)
  have e2 := raise_gen hp hj hT (by simp)
  have hs : ∀ q : Nat, (([0, 1] : List Int).length ≤ 1 ∨ (([0, 1] : List Int).length - 1) * q ≤ 63) = (q ≤ 63) := by
    intro q; rw [eq_iff_iff]; simp
  simp only [hs] at e1 e2
  simp only [spec_l04Bracket, T_is, Option.bind_some, e1, e2]
  have hp1 := ppow_pos hp.1 i
  have hp2 := ppow_pos hp.1 j
  by_cases h1 : p ^ i ≤ 63
  · by_cases h2 : p ^ j ≤ 63
    · rw [if_pos h1, if_pos h2]
      simp only
      rw [add_pad ⟨by omega, by omega⟩ (spr_row (by omega) hT _) (spr_row (by omega) hT _) (by rw [sprT_len hp.1 (by omega)]; omega) (by rw [sprT_len hp.1 (by omega)]; omega) (by omega)]
      exact ⟨_, by simp [h1, h2]; rfl, fun _ => rfl⟩
    · rw [if_pos h1, if_neg h2]
      simp only
      obtain ⟨v, h3, _⟩ := add_is (p := p) (k := -1) ⟨by omega, by omega⟩ (ent_pad (spr_row (by omega) hT (p ^ i)) ⟨by omega, by omega⟩) ent_zero (by omega)
      rw [h3]
      exact ⟨v, by simp [h2], fun h => absurd h.2 h2⟩
  · rw [if_neg h1]
    simp only
    have : ∃ v, spec_l01Add p (vrep 64 0) (if p ^ j ≤ 63 then (pad (spr [0, 1] (p ^ j)), true) else (vrep 64 0, false)).1 (-1) = some v := by
      split
      · obtain ⟨v, h3, _⟩ := add_is (p := p) (k := -1) ⟨by omega, by omega⟩ ent_zero (ent_pad (spr_row (by omega) hT (p ^ j)) ⟨by omega, by omega⟩) (by omega)
        exact ⟨v, h3⟩
      · obtain ⟨v, h3, _⟩ := add_is (p := p) (k := -1) ⟨by omega, by omega⟩ ent_zero ent_zero (by omega)
        exact ⟨v, h3⟩
    obtain ⟨v, h3⟩ := this
    rw [h3]
    exact ⟨v, by simp [h1], fun h => absurd h.1 h1⟩

/-! Products, as long as their degrees are not too great. -/
def fac (p : Int) (L : Nat → List Int) : Nat → Option (List Int)
  | 0 => some [1]
  | n + 1 => match fac p L n with
    | none => none
    | some o => if o.length + (L n).length > 65 then none else some (mul p o (L n))
theorem fac_none {p : Int} {L : Nat → List Int} {i n : Nat} (h : i ≤ n) (hi : fac p L i = none) : fac p L n = none := by
  induction n with
  | zero => have : i = 0 := by omega
            subst this; exact hi
  | succ n ih =>
    by_cases e : i = n + 1
    · subst e; exact hi
    · simp only [fac, ih (by omega)]
theorem fac_row {p : Int} (hp : isP p = true) {L : Nat → List Int} (n : Nat) (hL : ∀ j, j < n → Row p (L j) ∧ (L j).length ≠ 0) : ∀ i o, i ≤ n → fac p L i = some o → Row p o ∧ o.length ≠ 0 ∧ o.length ≤ 64
  | 0, o, _, h => by
    have hp2 := isP_pos hp
    simp only [fac, Option.some.injEq] at h
    subst h
    exact ⟨row_one (by omega), by simp, by simp⟩
  | i + 1, o, hi, h => by
    have hp2 := isP_pos hp
    simp only [fac] at h
    split at h
    · cases h
    · rename_i o' ho
      obtain ⟨h1, h2, h3⟩ := fac_row hp n hL i o' (by omega) ho
      obtain ⟨h4, h5⟩ := hL i (by omega)
      split at h
      · cases h
      · rename_i hle
        simp only [Option.some.injEq] at h
        subst h
        have h6 := mul_len_is hp h1 h4 h2 h5
        exact ⟨mul_row (by omega) _ _, by omega, by omega⟩
/-- The brackets of the factorials. -/
def facL (p i : Nat) (second : Bool) (j : Nat) : List Int := if second then brk p (j + 1) 0 else brk p i j
theorem facL_ok {p : Nat} (hp : 2 ≤ p ∧ p ≤ 7) {i : Nat} (hi : p ^ i ≤ 400000) (second : Bool) {j : Nat} (hj : j < i) : Row (p : Int) (facL p i second j) ∧ (facL p i second j).length ≠ 0 ∧ (facL p i second j).length ≤ 500000 := by
  unfold facL
  split
  · have := ppow_mono hp.1 (show j + 1 ≤ i by omega)
    exact ⟨brk_row hp.1 _ _, by rw [brk_len hp.1 (by omega)]; omega, by rw [brk_len hp.1 (by omega)]; omega⟩
  · exact ⟨brk_row hp.1 _ _, by rw [brk_len hp.1 hj]; omega, by rw [brk_len hp.1 hj]; omega⟩
/-- The reference's factorial. -/
theorem factorial_is {p i : Nat} (hp : isP p = true) (hi0 : p ^ i ≤ 400000) (second : Bool) :
    spec_l04Factorial p i second = some (match fac p (facL p i second) i with | none => (vrep 64 0, false) | some o => (pad o, true)) := by
  have hp2 := isP_pos hp
  have hpp : 2 ≤ p ∧ p ≤ 7 := by omega
  have hi := exp_small hpp.1 hi0
  have key : ∀ (m j : Nat) (o : List Int), j + m = i → fac p (facL p i second) j = some o →
      loopM (fun s : Bool × Int × V64 => spec_l04Factorial_l1 (i : Int) p s.1 s.2.1 s.2.2) (second, (j : Int), pad o) = some (match fac p (facL p i second) i with | none => .inr (vrep 64 0, false) | some o => .inl (pad o)) := by
    intro m
    induction m with
    | zero =>
      intro j o hj ho
      have : j = i := by omega
      subst this
      have step : spec_l04Factorial_l1 (j : Int) p second (j : Int) (pad o) = some (.inr (.inl (pad o))) := by
        simp only [spec_l04Factorial_l1]
        rw [if_neg (by rw [decide_eq_true_eq]; omega)]
      rw [loopM_eq]
      simp only [step, Option.bind_some, ho]
    | succ m ih =>
      intro j o hj ho
      have hLok := fun j (hj : j < i) => facL_ok hpp hi0 second hj
      obtain ⟨h1, h2, h3⟩ := fac_row hp i (fun j hj => ⟨(hLok j hj).1, (hLok j hj).2.1⟩) j o (by omega) ho
      obtain ⟨h4, h5, h6⟩ := hLok j (by omega)
      have hfac : fac p (facL p i second) (j + 1) = if o.length + (facL p i second j).length > 65 then none else some (mul p o (facL p i second j)) := by simp only [fac, ho]
      -- the bracket
      have hb : ∃ (v : V64) (e : Nat), (facL p i second j).length = p ^ e + 1 ∧ (p ^ e ≤ 63 → v = pad (facL p i second j)) ∧ spec_l04Factorial_l1 (i : Int) p second (j : Int) (pad o) =
          (if (!decide (p ^ e ≤ 63)) then (some (.inr ((.inr (((vrep 64 (0 : Int)), false)))))) else (Option.bind (spec_l01Times p (pad o) v) fun r187 => (if (!r187.2) then (some (.inr ((.inr (((vrep 64 (0 : Int)), false)))))) else (some (.inl ((second, ((j + 1 : Nat) : Int), r187.1))))))) := by
        obtain ⟨v1, g1, g2⟩ := bracketS_is (i := i) (j := j) hpp (by omega) (by omega)
        have ew : IntKind.i64.wrap ((j : Int) + 1) = ((j + 1 : Nat) : Int) := by rw [wrap64 (by omega) (by omega)]; rfl
        have hji : p ^ j ≤ p ^ i := ppow_mono hpp.1 (by omega)
        cases second with
        | false =>
          refine ⟨v1, i, by simp only [facL]; exact brk_len hpp.1 (by omega), fun h => g2 ⟨h, by omega⟩, ?_⟩
          simp only [spec_l04Factorial_l1]
          rw [if_pos (decide_eq_true (by omega)), g1]
          simp only [Option.bind_some, Bool.false_eq_true, if_false, ew]
          have : decide (p ^ i ≤ 63 ∧ p ^ j ≤ 63) = decide (p ^ i ≤ 63) := by rw [Bool.eq_iff_iff]; simp only [decide_eq_true_eq]; omega
          rw [this]
        | true =>
          obtain ⟨v2, g3, g4⟩ := bracketS_is (i := j + 1) (j := 0) hpp (by omega) (by omega)
          refine ⟨v2, j + 1, by simp only [facL]; exact brk_len hpp.1 (by omega), fun h => g4 ⟨h, by simp⟩, ?_⟩
          have g3' : spec_l04Bracket p ((j + 1 : Nat) : Int) 0 = some (v2, decide (p ^ (j + 1) ≤ 63 ∧ p ^ 0 ≤ 63)) := g3
          simp only [spec_l04Factorial_l1]
          rw [if_pos (decide_eq_true (by omega)), g1]
          simp only [Option.bind_some, if_true, ew, g3']
          have : decide (p ^ (j + 1) ≤ 63 ∧ p ^ 0 ≤ 63) = decide (p ^ (j + 1) ≤ 63) := by rw [Bool.eq_iff_iff]; simp
          rw [this]
      obtain ⟨v, e, hlen, hv, hstep⟩ := hb
      by_cases he : p ^ e ≤ 63
      · rw [hv he] at hstep
        simp only [he, decide_true, Bool.not_true, Bool.false_eq_true, if_false] at hstep
        by_cases hbig : o.length + (facL p i second j).length > 65
        · rw [if_pos hbig] at hfac
          rw [times_pad_no h1 h4 h3 (by omega) h2 h5 (by omega)] at hstep
          simp only [Option.bind_some, Bool.not_false, if_true] at hstep
          rw [loopM_eq]
          simp only [hstep, Option.bind_some, fac_none (show j + 1 ≤ i by omega) hfac]
        · rw [if_neg hbig] at hfac
          rw [times_pad ⟨by omega, by omega⟩ h1 h4 h3 (by omega) (by omega)] at hstep
          simp only [Option.bind_some, Bool.not_true, Bool.false_eq_true, if_false] at hstep
          rw [loopM_eq]
          simp only [hstep, Option.bind_some]
          exact ih (j + 1) _ (by omega) hfac
      · simp only [he, decide_false, Bool.not_false, if_true] at hstep
        rw [if_pos (by omega)] at hfac
        rw [loopM_eq]
        simp only [hstep, Option.bind_some, fac_none (show j + 1 ≤ i by omega) hfac]
  have h := key i 0 [1] (by omega) rfl
  have h' : loopM (fun s : Bool × Int × V64 => spec_l04Factorial_l1 (i : Int) p s.1 s.2.1 s.2.2) (second, 0, pad [1]) = _ := h
  simp only [spec_l04Factorial, one_is, Option.bind_some, h']
  cases fac p (facL p i second) i <;> rfl
theorem first_is {p i : Nat} (hp : 2 ≤ p ∧ p ≤ 7) (hi0 : p ^ i ≤ 400000) : impl_prime_first p i = some ((List.range i).map (facL p i false)) := by
  have hi := exp_small hp.1 hi0
  obtain ⟨s, g1, g2⟩ := loopM_for (body := fun s : Int × List (List Int) => impl_prime_first_l1 (i : Int) p s.1 s.2) (fun i s => ((i : Int), s)) (fun s => s) i
    (fun j s => s = (List.range j).map (facL p i false)) (fun j s hj hI => by
      subst hI
      refine ⟨_, ?_, rfl⟩
      simp only [impl_prime_first_l1]
      rw [if_pos (decide_eq_true (by omega)), bracket_is hp hi0 (Nat.le_trans (ppow_mono hp.1 (show j ≤ i by omega)) hi0)]
      simp only [Option.bind_some]
      rw [ifp_pos (by simp; omega), wrap64 (by omega) (by omega), List.range_succ, List.map_append]
      rfl) (fun s hI => by
      simp only [impl_prime_first_l1]
      rw [if_neg (by rw [decide_eq_true_eq]; omega)]) i 0 [] (by omega) rfl
  have g1' : loopM (fun s : Int × List (List Int) => impl_prime_first_l1 (i : Int) p s.1 s.2) (0, []) = some s := g1
  simp only [impl_prime_first, g1', g2, Option.bind_some]
end Go.Proofs.YtkbnegemdlnncaaGreat
/- Products that are told as long as their degrees are not too great, in closed form. -/
namespace Go.Proofs.YtkbnegemdlnncaaGreat
open Go.Abs

theorem fac_closed {p : Int} (hp : isP p = true) (L : Nat → List Int) : ∀ n, (∀ j, j < n → Row p (L j) ∧ (L j).length ≠ 0) →
    fac p L n = if degs ((List.range n).map L) ≤ 63 then some (prodF p [1] ((List.range n).map L)) else none
  | 0, _ => by simp [fac, degs, prodF]
  | n + 1, hL => by
    have hp2 := isP_pos hp
    have ih := fac_closed hp L n fun j hj => hL j (by omega)
    obtain ⟨h1, h2⟩ := hL n (by omega)
    have hM : ∀ b ∈ (List.range n).map L, Row p b ∧ b.length ≠ 0 := by
      intro b hb
      simp only [List.mem_map, List.mem_range] at hb
      obtain ⟨j, hj, rfl⟩ := hb
      exact hL j (by omega)
    obtain ⟨h3, h4⟩ := prodF_row hp ((List.range n).map L) [1] (row_one (by omega)) (by simp) hM
    simp only [fac, ih]
    rw [List.range_succ, List.map_append, degs_app, prodF_app]
    simp only [List.map_cons, List.map_nil, degs, Nat.add_zero]
    by_cases h : degs ((List.range n).map L) ≤ 63
    · rw [if_pos h]
      simp only [h4, List.length_singleton]
      by_cases h5 : degs ((List.range n).map L) + ((L n).length - 1) ≤ 63
      · rw [if_pos h5, if_neg (by omega)]; rfl
      · rw [if_neg h5, if_pos (by omega)]
    · rw [if_neg h, if_neg (by omega)]
end Go.Proofs.YtkbnegemdlnncaaGreat
/- T times a polynomial, coefficient by coefficient. -/
namespace Go.Proofs.YtkbnegemdlnncaaGreat
open Go.Abs
variable {P : Pri}
theorem T_c (a : PP P) (i : Nat) : (ppT * a).c i = if 1 ≤ i then a.c (i - 1) else 0 := by
  rw [mul_c]
  have e : conv (PP.c (ppT : PP P)) a.c i = if 1 ≤ i then a.c (i - 1) else 0 := conv_T _ i
  rw [e]
  split
  · exact a.c_mod _
  · rfl
end Go.Proofs.YtkbnegemdlnncaaGreat
/- Powers of p of polynomials, and factorials that divide one another. -/
namespace Go.Proofs.YtkbnegemdlnncaaGreat
open Go.Abs
variable {P : Pri}
def sprP (a : PP P) (i : Nat) : PP P := ⟨spr a.1 (P.n ^ i), spr_row P.pos a.2 _⟩
theorem Pri.pow_pos (P : Pri) (i : Nat) : 0 < P.n ^ i := Nat.pow_pos (by have := P.is; omega)
theorem sprP_c (a : PP P) (i j : Nat) : (sprP a i).c j = if j % P.n ^ i = 0 then a.c (j / P.n ^ i) else 0 := spr_rd (P.pow_pos i) j
theorem Tpow_c (y : PP P) : ∀ k j : Nat, (pw ppT k * y).c j = if k ≤ j then y.c (j - k) else 0
  | 0, j => by
    have e : pw (ppT : PP P) 0 * y = y := ppring.one_mul y
    rw [e, if_pos (Nat.zero_le _)]; rfl
  | k + 1, j => by
    have e : pw (ppT : PP P) (k + 1) * y = ppT * (pw ppT k * y) := by
      have : pw (ppT : PP P) (k + 1) = pw ppT k * ppT := rfl
      rw [this, ppring.mul_assoc, ppring.mul_left_comm]
    rw [e, T_c, Tpow_c y k]
    by_cases h : k + 1 ≤ j
    · rw [if_pos (by omega), if_pos (by omega), if_pos h]; congr 1; omega
    · rw [if_neg h]
      by_cases h1 : 1 ≤ j
      · rw [if_pos h1, if_neg (by omega)]
      · rw [if_neg h1]
theorem sprP_pw (a : PP P) (i : Nat) : sprP a i = pw a (P.n ^ i) := by
  have hq := P.pow_pos i
  refine pp_ind (S := fun x => sprP x i = pw x (P.n ^ i)) ?_ ?_ ?_ a
  · rw [ppring.pw_zero (by omega)]
    exact pp_eq (spr_nil _)
  · intro x hx
    rw [ppring.mul_pw, ← hx]
    refine pp_ext fun j => ?_
    rw [sprP_c, Tpow_c, T_c]
    generalize hQ : P.n ^ i = q at hq
    by_cases h1 : q ≤ j
    · rw [if_pos h1, sprP_c, hQ]
      have e1 : (j - q) % q = j % q := (Nat.mod_eq_sub_mod h1).symm
      have e2 : j / q = (j - q) / q + 1 := by rw [Nat.div_eq_sub_div hq h1]
      rw [e1, e2, Nat.add_sub_cancel, if_pos (Nat.le_add_left 1 _)]
    · have e3 : j / q = 0 := Nat.div_eq_of_lt (by omega)
      rw [if_neg h1, e3, if_neg (show ¬ 1 ≤ 0 by omega), ite_self]
  · intro x hx
    rw [ppring.frobn P.is pp_char, ppring.pw_one, ← hx]
    refine pp_ext fun j => ?_
    rw [sprP_c, add_c, add_c, sprP_c, one_c, one_c]
    generalize hQ : P.n ^ i = q at hq
    by_cases h0 : j % q = 0
    · rw [if_pos h0, if_pos h0]
      have : (j / q = 0) = (j = 0) := by
        rw [eq_iff_iff]
        constructor
        · intro h
          have := Nat.div_add_mod j q
          rw [h, h0] at this; omega
        · intro h; rw [h, Nat.zero_div]
      simp only [this]
    · rw [if_neg h0, if_neg h0, if_neg (fun h => h0 (by rw [h, Nat.zero_mod]))]
      rfl
theorem sub_pp (a b : PP P) : comb P.p a.1 b.1 (-1) = (a + -b).1 := by
  apply row_ext (comb_row P.pos _ _ _) (a + -b).2
  intro i
  show rd (comb P.p a.1 b.1 (-1)) i = (a + -b).c i
  rw [comb_rd, add_c, neg_c, Int.add_emod_emod]
  show (rd a.1 i + -1 * rd b.1 i) % P.p = (rd a.1 i + -(rd b.1 i)) % P.p
  congr 1; omega
def brkP (P : Pri) (i j : Nat) : PP P := ⟨brk P.n i j, brk_row P.ge i j⟩
theorem brkP_is (i j : Nat) : brkP P i j = pw ppT (P.n ^ i) + -pw ppT (P.n ^ j) := by
  rw [← sprP_pw, ← sprP_pw]
  exact pp_eq (sub_pp (sprP ppT i) (sprP ppT j))
theorem brkP_up (i j : Nat) : brkP P (i + 1) (j + 1) = pw (brkP P i j) P.n := by
  have hp1 : P.n ≠ 0 := by have := P.is; omega
  have hneg : ∀ y : PP P, pw (-y) P.n = -pw y P.n := fun y => by
    have h := ppring.frob P.is pp_char y (-y)
    rw [ppring.add_neg, ppring.pw_zero hp1] at h
    exact ppring.neg_of h.symm
  rw [brkP_is, brkP_is, ppring.frob P.is pp_char, hneg, ← ppring.pw_mul, ← ppring.pw_mul, Nat.pow_succ, Nat.pow_succ]
def facPj (P : Pri) (i : Nat) (second : Bool) (j : Nat) : PP P := if second then brkP P (j + 1) 0 else brkP P i j
theorem facPj_l (i : Nat) (second : Bool) (j : Nat) : (facPj P i second j).1 = facL P.n i second j := by
  unfold facPj facL
  cases second <;> rfl
/-- The first j of the i brackets, multiplied. -/
def fpj (P : Pri) (i : Nat) (second : Bool) : Nat → PP P
  | 0 => 1
  | j + 1 => fpj P i second j * facPj P i second j
theorem fpj_l (i : Nat) (second : Bool) : ∀ j, prodF P.p [1] ((List.range j).map (facL P.n i second)) = (fpj P i second j).1
  | 0 => rfl
  | j + 1 => by
    rw [List.range_succ, List.map_append, prodF_app, fpj_l i second j]
    show mul P.p (fpj P i second j).1 (facL P.n i second j) = _
    rw [← facPj_l]; rfl
theorem fpD_up (i : Nat) : ∀ j, fpj P (i + 1) false (j + 1) = brkP P (i + 1) 0 * pw (fpj P i false j) P.n
  | 0 => by
    show (1 : PP P) * brkP P (i + 1) 0 = brkP P (i + 1) 0 * pw 1 P.n
    rw [ppring.one_mul, ppring.pw_one, ppring.mul_one]
  | j + 1 => by
    show fpj P (i + 1) false (j + 1) * brkP P (i + 1) (j + 1) = brkP P (i + 1) 0 * pw (fpj P i false j * brkP P i j) P.n
    rw [fpD_up i j, brkP_up, ppring.mul_pw, ppring.mul_assoc]
theorem fpL_same (i : Nat) : ∀ j, fpj P (i + 1) true j = fpj P i true j
  | 0 => rfl
  | j + 1 => by
    show fpj P (i + 1) true j * brkP P (j + 1) 0 = fpj P i true j * brkP P (j + 1) 0
    rw [fpL_same i j]
def facP (P : Pri) (second : Bool) (i : Nat) : PP P := fpj P i second i
theorem facP_dv1 (second : Bool) (i : Nat) : Dv (facP P second i) (facP P second (i + 1)) := by
  cases second with
  | false =>
    unfold facP
    rw [fpD_up]
    refine ppring.dv_mul ?_ _
    obtain ⟨m, hm⟩ : ∃ m, P.n = m + 1 := ⟨P.n - 1, by have := P.is; omega⟩
    rw [hm, ppring.pw_add]
    refine ppring.dv_mul ?_ _
    have : pw (fpj P i false i) 1 = fpj P i false i := ppring.one_mul _
    rw [this]
    exact ppring.dv_refl _
  | true =>
    show Dv (fpj P i true i) (fpj P (i + 1) true i * brkP P (i + 1) 0)
    rw [fpL_same]
    exact ppring.dv_mul' (ppring.dv_refl _) _
theorem facP_dv (second : Bool) {i k : Nat} (h : i ≤ k) : Dv (facP P second i) (facP P second k) := by
  obtain ⟨m, rfl⟩ : ∃ m, k = i + m := ⟨k - i, by omega⟩
  clear h
  induction m with
  | zero => exact ppring.dv_refl _
  | succ m ih => exact ppring.dv_trans ih (facP_dv1 second (i + m))
theorem facPj_ne {i j : Nat} (second : Bool) (hj : j < i) : facPj P i second j ≠ 0 := fun e => by
  have h := len_zero.2 e
  have hl : (facPj P i second j).len = (facL P.n i second j).length := by show (facPj P i second j).1.length = _; rw [facPj_l]
  rw [hl] at h
  unfold facL at h
  cases second with
  | true => simp only [if_true] at h; rw [brk_len P.ge (by omega)] at h; omega
  | false => simp only [Bool.false_eq_true, if_false] at h; rw [brk_len P.ge hj] at h; omega
theorem fpj_ne (i : Nat) (second : Bool) : ∀ j, j ≤ i → fpj P i second j ≠ 0
  | 0, _ => one_ne
  | j + 1, h => fun e => by
    rcases pp_dom _ _ e with h1 | h1
    · exact fpj_ne i second j (by omega) h1
    · exact facPj_ne second (by omega) h1
theorem facP_ne (second : Bool) (i : Nat) : facP P second i ≠ 0 := fpj_ne i second i (Nat.le_refl _)
end Go.Proofs.YtkbnegemdlnncaaGreat
/- Division, in the reference. -/
namespace Go.Proofs.YtkbnegemdlnncaaGreat
open Go.Abs

theorem divS_inner {p f y : Int} (hp : 2 ≤ p ∧ p ≤ 7) {b : V64} (hb : Res p b) (hf : 0 ≤ f ∧ f < p) (hy : Int.tmod y p = f) {i m : Nat} (hi : i + m < 64) {s t : V64} (hs : Res p s) :
    ∃ s', loopM (fun q : Int × V64 => spec_l01Divide_l2 (m : Int) y p ((i + m : Nat) : Int) b t q.1 q.2) (0, s) = some (s', vset t i f) ∧ Res p s' ∧ ∀ j, j < 64 → rd s'.1 j = dstep p (rd b.1) m f i (rd s.1) j := by
  have e0 : IntKind.i64.wrap (((i + m : Nat) : Int) - (m : Int)) = (i : Int) := by rw [wrap64 (by omega) (by omega)]; omega
  by_cases h0 : f = 0
  · refine ⟨s, ?_, hs, fun j hj => ?_⟩
    · have step : spec_l01Divide_l2 (m : Int) y p ((i + m : Nat) : Int) b t 0 s = some (.inr (s, vset t i f)) := by
        simp only [spec_l01Divide_l2, hy]
        rw [if_pos (decide_eq_true (by omega))]
        simp only [Option.bind_some]
        rw [if_neg (by rw [h0]; simp), e0, Int.toNat_natCast, wrap8 (by omega) (by omega)]
      rw [loopM_eq]
      simp only [step, Option.bind_some]
    · unfold dstep
      split
      · have := hs j hj
        rw [h0, Int.zero_mul, Int.sub_zero, Int.emod_eq_of_lt this.1 this.2]
      · rfl
  · obtain ⟨s', h1, h2, h3⟩ := loopM_for (body := fun q : Int × V64 => spec_l01Divide_l2 (m : Int) y p ((i + m : Nat) : Int) b t q.1 q.2) (fun k (u : V64) => ((k : Int), u)) (fun u => (u, vset t i f)) (m + 1)
      (fun k u => Res p u ∧ ∀ j, j < 64 → rd u.1 j = if i ≤ j ∧ j < i + k then (rd s.1 j - f * rd b.1 (j - i)) % p else rd s.1 j) (fun k u hk hI => by
        obtain ⟨hur, hu⟩ := hI
        have hbk := hb k (by omega)
        have hsk := hs (i + k) (by omega)
        have hm := mul_small (x := f) (y := rd b.1 k) (by omega) (by omega)
        have e1 : IntKind.i64.wrap ((i : Int) + (k : Int)) = ((i + k : Nat) : Int) := by rw [wrap64 (by omega) (by omega)]; omega
        have huk := hu (i + k) (by omega)
        rw [if_neg (by omega)] at huk
        have ht1 := Int.lt_tmod_of_pos (rd s.1 (i + k) - f * rd b.1 k) (show 0 < p by omega)
        have ht2 := Int.tmod_lt_of_pos (rd s.1 (i + k) - f * rd b.1 k) (show 0 < p by omega)
        have hr := emod_res (show 0 < p by omega) (rd s.1 (i + k) - f * rd b.1 k)
        refine ⟨vset u (i + k) ((rd s.1 (i + k) - f * rd b.1 k) % p), ?_, fun j hj => ?_, fun j hj => ?_⟩
        · simp only [spec_l01Divide_l2, letp, hy, e0]
          rw [if_pos (decide_eq_true (by omega))]
          simp only [Option.bind_some]
          rw [if_pos (by simpa using h0), e1, ifp_pos (by omega), ifp_pos (by omega), ifp_pos (by omega), ifp_pos (by omega), ifp_pos (by omega), Int.toNat_natCast, Int.toNat_natCast, huk]
          rw [wrap64 (n := rd b.1 k) (by omega) (by omega), wrap64 (n := f * rd b.1 k) (by omega) (by omega), wrap64 (n := rd s.1 (i + k)) (by omega) (by omega), wrap64 (n := rd s.1 (i + k) - f * rd b.1 k) (by omega) (by omega), wrap64 (n := _ + p) (by omega) (by omega), tmod_fix (by omega), wrap8 (by omega) (by omega), wrap64 (by omega) (by omega)]
          rfl
        · rw [rd_vset _ _ _ _ (by omega)]
          split
          · exact hr
          · exact hur j hj
        · rw [rd_vset _ _ _ _ (by omega), hu j hj]
          by_cases e : j = i + k
          · subst e
            rw [if_pos rfl, if_pos (by omega), show i + k - i = k by omega]
          · rw [if_neg e]
            by_cases hc : i ≤ j ∧ j < i + k
            · rw [if_pos hc, if_pos (by omega)]
            · rw [if_neg hc, if_neg (by omega)]) (fun u hI => by
        simp only [spec_l01Divide_l2, hy, e0]
        rw [if_neg (by rw [decide_eq_true_eq]; omega)]
        simp only [Option.bind_some, Bool.false_eq_true, if_false]
        rw [Int.toNat_natCast, wrap8 (by omega) (by omega)]) (m + 1) 0 s (by omega) ⟨hs, fun j hj => by rw [if_neg (by omega)]⟩
    refine ⟨s', h1, h2, fun j hj => ?_⟩
    rw [h3 j hj]
    unfold dstep
    simp only [show (i ≤ j ∧ j < i + (m + 1)) = (i ≤ j ∧ j ≤ i + m) from by rw [eq_iff_iff]; omega]
theorem divS_outer {p : Int} (hp : isP p = true) {b : V64} (hb : Res p b) {m : Nat} {iv : Int} (hiv : 0 ≤ iv ∧ iv < p) : ∀ (i : Nat) (s t : V64), i + m ≤ 64 → Res p s →
    ∃ s' t', loopM (fun q : Int × V64 × V64 => spec_l01Divide_l1 (m : Int) iv p b q.1 q.2.1 q.2.2) ((i : Int) + m - 1, s, t) = some (s', t') ∧
      (∀ j, j < 64 → rd s'.1 j = drem p (rd b.1) m iv i (rd s.1) j) ∧ ∀ j, j < 64 → rd t'.1 j = if j < i then dquo p (rd b.1) m iv i (rd s.1) j else rd t.1 j
  | 0, s, t, hi, _ => by
    refine ⟨s, t, ?_, fun _ _ => rfl, fun j _ => by rw [if_neg (by omega)]⟩
    have step : spec_l01Divide_l1 (m : Int) iv p b (((0 : Nat) : Int) + m - 1) s t = some (.inr (s, t)) := by
      simp only [spec_l01Divide_l1]
      rw [if_neg (by rw [decide_eq_true_eq]; omega)]
    rw [loopM_eq]
    simp only [step, Option.bind_some]
  | i + 1, s, t, hi, hs => by
    have hp2 := isP_pos hp
    have hsx := hs (i + m) (by omega)
    have hm := mul_small (x := rd s.1 (i + m)) (y := iv) (by omega) (by omega)
    have hf := emod_res (show 0 < p by omega) (rd s.1 (i + m) * iv)
    have e0 : ((i + 1 : Nat) : Int) + m - 1 = ((i + m : Nat) : Int) := by omega
    have e1 : IntKind.i64.wrap (((i + m : Nat) : Int) - (m : Int)) = (i : Int) := by rw [wrap64 (by omega) (by omega)]; omega
    have hy : Int.tmod (rd s.1 (i + m) * iv) p = dfac p iv m i (rd s.1) := Int.tmod_eq_emod_of_nonneg hm.1
    obtain ⟨s1, g1, g2, g3⟩ := divS_inner hp2 hb (f := dfac p iv m i (rd s.1)) hf hy (i := i) (m := m) (by omega) (t := t) hs
    obtain ⟨s', t', k1, k2, k3⟩ := divS_outer hp hb (m := m) hiv i s1 (vset t i (dfac p iv m i (rd s.1))) (by omega) g2
    -- the functions agree on the places that there are
    have hz : ∀ j, 64 ≤ j → rd s1.1 j = dstep p (rd b.1) m (dfac p iv m i (rd s.1)) i (rd s.1) j := fun j hj => by
      rw [rd_ge (by rw [s1.2]; exact hj)]
      unfold dstep
      rw [if_neg (by omega), rd_ge (by rw [s.2]; exact hj)]
    have hs1 : rd s1.1 = dstep p (rd b.1) m (dfac p iv m i (rd s.1)) i (rd s.1) := funext fun j => by
      rcases Nat.lt_or_ge j 64 with h | h
      · exact g3 j h
      · exact hz j h
    refine ⟨s', t', ?_, fun j hj => ?_, fun j hj => ?_⟩
    · have step : spec_l01Divide_l1 (m : Int) iv p b (((i + 1 : Nat) : Int) + m - 1) s t = some (.inl ((i : Int) + m - 1, s1, vset t i (dfac p iv m i (rd s.1)))) := by
        rw [e0]
        simp only [spec_l01Divide_l1, letp, e1]
        rw [if_pos (decide_eq_true (by omega)), ifp_pos (by omega), Int.toNat_natCast, wrap64 (n := rd s.1 (i + m)) (by omega) (by omega), wrap64 (n := iv) (by omega) (by omega), wrap64 (n := rd s.1 (i + m) * iv) (by omega) (by omega), ifp_pos (by omega), ifp_pos (by omega), g1]
        simp only [Option.bind_some]
        rw [wrap64 (by omega) (by omega)]
        congr 3
      rw [loopM_eq]
      simp only [step, Option.bind_some]
      exact k1
    · rw [k2 j hj, hs1]; rfl
    · rw [k3 j hj, hs1]
      simp only [dquo]
      by_cases e : j = i
      · subst e
        rw [if_neg (by omega), if_pos (by omega), if_pos rfl, rd_vset _ _ _ _ hj, if_pos rfl]
      · by_cases h : j < i
        · rw [if_pos h, if_pos (by omega), if_neg e]
        · rw [if_neg h, if_neg (by omega), rd_vset _ _ _ _ (by omega), if_neg e]
theorem rd_pad_fun {l : List Int} (hl : l.length ≤ 64) : rd (pad l).1 = rd l := funext fun j => by
  rcases Nat.lt_or_ge j 64 with h | h
  · exact rd_padl l h
  · rw [rd_ge (by rw [(pad l).2]; exact h), rd_ge (by omega)]
theorem divideS_is {p : Int} (hp : isP p = true) {a b : List Int} (ha : Row p a) (hb : Row p b) (h0 : b.length ≠ 0) (la : a.length ≤ 64) (lb : b.length ≤ 64) : spec_l01Divide p (pad a) (pad b) = some (pad (quo p a b), pad (rem p a b)) := by
  have hp2 := isP_pos hp
  have hta : top (rd (pad a).1) 64 = a.length := by rw [top_congr 64 fun i hi => rd_padl a hi, ha.top la]
  have htb : top (rd (pad b).1) 64 = b.length := by rw [top_congr 64 fun i hi => rd_padl b hi, hb.top lb]
  have hlead := lead_pos (show 0 < p by omega) hb h0
  have hinv := inv_is hp hlead
  have e1 : ((b.length : Nat) : Int) - 1 = ((b.length - 1 : Nat) : Int) := by omega
  simp only [spec_l01Divide, deg_is, hta, htb, Option.bind_some, e1]
  have hl : rd (pad b).1 (b.length - 1) = lead b := by rw [rd_padl _ (by omega)]; rfl
  rw [ifp_pos (by omega), Int.toNat_natCast, hl, inverse_spec hp hlead]
  simp only [Option.bind_some]
  rcases Nat.lt_or_ge a.length b.length with h | h
  · have step : spec_l01Divide_l1 ((b.length - 1 : Nat) : Int) (inv p (lead b)) p (pad b) ((a.length : Int) - 1) (pad a) (vrep 64 0) = some (.inr (pad a, vrep 64 0)) := by
      simp only [spec_l01Divide_l1]
      rw [if_neg (by rw [decide_eq_true_eq]; omega)]
    rw [loopM_eq]
    simp only [step, Option.bind_some]
    have e2 : quo p a b = [] := by
      have := quo_len p a b
      exact List.eq_nil_of_length_eq_zero (by omega)
    have e3 : rem p a b = a := by
      unfold rem
      rw [show a.length + 1 - b.length = 0 by omega]
      exact ha.ofF (Nat.le_refl _)
    rw [e2, e3, pad_nil]
  · obtain ⟨s', t', k1, k2, k3⟩ := divS_outer hp (res_pad hb (by omega)) (m := b.length - 1) (iv := inv p (lead b)) ⟨by omega, hinv.2.1⟩ (a.length + 1 - b.length) (pad a) (vrep 64 0) (by omega) (res_pad ha (by omega))
    have e2 : ((a.length + 1 - b.length : Nat) : Int) + ((b.length - 1 : Nat) : Int) - 1 = (a.length : Int) - 1 := by omega
    rw [e2] at k1
    rw [k1]
    simp only [Option.bind_some]
    rw [rd_pad_fun la, rd_pad_fun lb] at k2 k3
    congr 2
    · refine vec_ext fun j hj => ?_
      rw [k3 j hj, rd_padl _ hj, quo_rd]
      split
      · rfl
      · rw [rd_vrep _ hj, dquo_ge _ _ _ (by omega)]
    · refine vec_ext fun j hj => ?_
      rw [k2 j hj, rd_padl _ hj, rem_rd a h0]
end Go.Proofs.YtkbnegemdlnncaaGreat
/- Sums with multiples, quotients, in the reference. -/
namespace Go.Proofs.YtkbnegemdlnncaaGreat
open Go.Abs

variable {P : Pri}
theorem divS {a b : PP P} (hb : b ≠ 0) (la : a.len ≤ 64) (lb : b.len ≤ 64) : spec_l01Divide P.p (pad a.1) (pad b.1) = some (pad (pquo a b).1, pad (prem a b).1) := divideS_is P.okp a.2 b.2 (ne_len hb) la lb
theorem degS (a : PP P) (la : a.len ≤ 64) : spec_l01Deg (pad a.1) = some ((a.len : Int) - 1) := by
  rw [deg_is, rd_pad_fun la, a.2.top la]; rfl
theorem comb_nsm (x a : PP P) (k : Nat) : comb P.p x.1 a.1 k = (x + nsm k a).1 := by
  refine row_ext (comb_row P.pos _ _ _) (x + nsm k a).2 fun i => ?_
  have h : (x + nsm k a).c i = (x.c i + (nsm k a).c i) % P.p := add_c _ _ _
  rw [comb_rd]
  show _ = (x + nsm k a).c i
  rw [h, nsm_c, Int.add_emod_emod]; rfl
theorem len_nsm (k : Nat) (a : PP P) : (nsm k a).len ≤ a.len := by
  induction k with
  | zero => show 0 ≤ _; omega
  | succ k ih =>
    have := len_add (nsm k a) a
    simp only [nsm]; omega
theorem addS {a b : PP P} (la : a.len ≤ 64) (lb : b.len ≤ 64) {k : Nat} (hk : k ≤ 1099511627776) : spec_l01Add P.p (pad a.1) (pad b.1) k = some (pad (a + nsm k b).1) := by
  rw [add_pad P.sm a.2 b.2 la lb (by omega), comb_nsm]
end Go.Proofs.YtkbnegemdlnncaaGreat
/- Monic polynomials. -/
namespace Go.Proofs.YtkbnegemdlnncaaGreat
open Go.Abs

variable {P : Pri}
def Mo (a : PP P) : Prop := lead a.1 = 1
theorem Mo.ne {a : PP P} (h : Mo a) : a ≠ 0 := fun e => by
  subst e
  have : lead ([] : List Int) = 1 := h
  simp [lead, rd] at this
theorem lead_c (a : PP P) : lead a.1 = a.c (a.len - 1) := rfl
/-- A polynomial made monic. -/
def mon (a : PP P) : PP P := nsm (inv P.p (lead a.1)).toNat a
theorem mon_eq {a : PP P} (ha : a ≠ 0) : ∃ u v : PP P, mon a = u * a ∧ a = v * mon a ∧ (mon a).len = a.len ∧ Mo (mon a) := by
  have hl := lead_pos P.pos a.2 (ne_len ha)
  have hi := inv_is P.okp hl
  obtain ⟨k, hk⟩ : ∃ k : Nat, inv P.p (lead a.1) = k := ⟨(inv P.p (lead a.1)).toNat, by omega⟩
  have e1 : mon a = nsm k a := by unfold mon; rw [hk, Int.toNat_natCast]
  have e2 : mon a = nsm k 1 * a := by rw [e1, ppring.mul_comm, ppring.mul_nsm, ppring.mul_one]
  have hc : (mon a).c (a.len - 1) = 1 := by
    rw [e1, nsm_c, ← lead_c, ← hk, Int.mul_comm, hi.2.2]
  have hle : (mon a).len ≤ a.len := by rw [e1]; exact len_nsm k a
  have hpos := len_pos ha
  have hge : a.len - 1 < (mon a).len := by
    rcases Nat.lt_or_ge (a.len - 1) (mon a).len with h | h
    · exact h
    · have h0 : (mon a).c (a.len - 1) = 0 := rd_ge h
      rw [h0] at hc; omega
  have hlen : (mon a).len = a.len := by omega
  have hmo : Mo (mon a) := by
    unfold Mo
    rw [lead_c, hlen, hc]
  obtain ⟨l, hll⟩ : ∃ l : Nat, lead a.1 = l := ⟨(lead a.1).toNat, by omega⟩
  refine ⟨nsm k 1, nsm l 1, e2, ?_, hlen, hmo⟩
  have e3 : nsm l 1 * mon a = nsm l (mon a) := by rw [ppring.mul_comm, ppring.mul_nsm, ppring.mul_one]
  rw [e3, e1]
  refine pp_ext fun i => ?_
  have hki : (l : Int) * k % P.p = 1 := by rw [← hll, ← hk]; exact hi.2.2
  rw [nsm_c, nsm_c, Int.mul_emod, Int.emod_emod, ← Int.mul_emod, ← Int.mul_assoc, Int.mul_emod, hki, Int.one_mul, Int.emod_emod, a.c_mod]
theorem mon_len {a : PP P} (ha : a ≠ 0) : (mon a).len = a.len := by obtain ⟨u, v, _, _, h, _⟩ := mon_eq ha; exact h
theorem mon_mo {a : PP P} (ha : a ≠ 0) : Mo (mon a) := by obtain ⟨u, v, _, _, _, h⟩ := mon_eq ha; exact h
theorem mon_dv {a : PP P} (ha : a ≠ 0) : Dv a (mon a) ∧ Dv (mon a) a := by obtain ⟨u, v, h1, h2, _, _⟩ := mon_eq ha; exact ⟨⟨u, h1⟩, ⟨v, h2⟩⟩
/-- Monic polynomials that divide each other are the same. -/
theorem mo_eq {a b : PP P} (ha : Mo a) (hb : Mo b) (h1 : Dv a b) (hl : a.len = b.len) : a = b := by
  obtain ⟨q, e⟩ := h1
  have hq : q ≠ 0 := fun h => hb.ne (by rw [e, h, ppring.zero_mul])
  have h2 := len_mul hq ha.ne
  rw [← e] at h2
  have h3 := len_pos hq
  have h4 := len_pos ha.ne
  have hq1 : q.len = 1 := by omega
  have e2 : b.c (b.len - 1) = q.c 0 * a.c (a.len - 1) % P.p := by
    rw [e, mul_c]
    have e3 : (q * a).len - 1 = 0 + (a.len - 1) := by rw [← e]; omega
    rw [e3, conv_lead (a := q.c) (b := a.c) (n := 0) (m := a.len - 1)]
    · intro i hi; exact rd_ge (by have : q.1.length = 1 := hq1; omega)
    · intro i hi; exact rd_ge (by show a.len ≤ i; omega)
  rw [← lead_c, ← lead_c, show lead a.1 = 1 from ha, show lead b.1 = 1 from hb, Int.mul_one, q.c_mod] at e2
  have e4 : q = 1 := pp_ext fun i => by
    rw [one_c]
    by_cases hi : i = 0
    · subst hi; rw [if_pos rfl, ← e2]
    · rw [if_neg hi]; exact rd_ge (by have : q.1.length = 1 := hq1; omega)
  rw [e, e4, ppring.one_mul]
end Go.Proofs.YtkbnegemdlnncaaGreat
/- The extended algorithm of Euclid. -/
namespace Go.Proofs.YtkbnegemdlnncaaGreat
open Go.Abs

/-- One step for a cofactor. -/
def cx (p : Int) (q s0 s1 : List Int) : List Int := comb p s0 (mul p q s1) (-1)
def ez (p : Int) : Nat → List Int → List Int → List Int → List Int → List Int → List Int → List Int × List Int × List Int
  | 0, a, _, s0, _, t0, _ => (a, s0, t0)
  | n + 1, a, b, s0, s1, t0, t1 => if b.length = 0 then (a, s0, t0) else ez p n b (rem p a b) s1 (cx p (quo p a b) s0 s1) t1 (cx p (quo p a b) t0 t1)
theorem cx_row {p : Int} (hp : 0 < p) (q s0 s1 : List Int) : Row p (cx p q s0 s1) := comb_row hp _ _ _
/-- What the cofactors keep to: M is one more than the greater of the two lengths. -/
structure EzOk (p : Int) (M : Nat) (a b s0 s1 : List Int) : Prop where
  r0 : Row p s0
  r1 : Row p s1
  h1 : s1.length + a.length ≤ M
  h2 : s0.length + b.length ≤ M
theorem EzOk.next {p : Int} (hp : isP p = true) {M : Nat} {a b s0 s1 : List Int} (h : EzOk p M a b s0 s1) (ha : Row p a) (hb : Row p b) (h0 : b.length ≠ 0) :
    EzOk p M b (rem p a b) s1 (cx p (quo p a b) s0 s1) := by
  have hp2 := isP_pos hp
  have c := comb_len p s0 (mul p (quo p a b) s1) (-1)
  have m := mul_len p (quo p a b) s1
  have q := quo_len p a b
  have r := rem_len' p a b
  have r' := rem_len hp ha hb h0
  have h1 := h.h1
  have h2 := h.h2
  refine ⟨h.r1, cx_row (by omega) _ _ _, ?_, by omega⟩
  unfold cx
  rcases Nat.eq_zero_or_pos (quo p a b).length with h3 | h3
  · have e : quo p a b = [] := List.eq_nil_of_length_eq_zero h3
    rw [e, mul_nil] at c ⊢
    simp only [List.length_nil] at c
    omega
  · omega
theorem EzOk.prod {p : Int} {M : Nat} {a b s0 s1 : List Int} (hM : M ≤ 65) (h : EzOk p M a b s0 s1) (h0 : b.length ≠ 0) : (quo p a b).length = 0 ∨ s1.length = 0 ∨ (quo p a b).length + s1.length ≤ 65 := by
  have q := quo_len p a b
  have h1 := h.h1
  omega
theorem EzOk.plen {p : Int} {M : Nat} {a b s0 s1 : List Int} (hM : M ≤ 65) (h : EzOk p M a b s0 s1) (h0 : b.length ≠ 0) : (mul p (quo p a b) s1).length ≤ 64 := by
  have q := quo_len p a b
  have h1 := h.h1
  have m := mul_len p (quo p a b) s1
  omega
theorem ezI_loop {p : Int} (hp : isP p = true) {M : Nat} (hM : M ≤ 65) : ∀ (n : Nat) (a b s0 s1 t0 t1 : List Int), Row p a → Row p b → a.length ≤ 64 → b.length ≤ n → b.length ≤ 64 → EzOk p M a b s0 s1 → EzOk p M a b t0 t1 →
    loopM (fun s : List Int × List Int × List Int × List Int × List Int × List Int => impl_prime_bezout_l1 p s.1 s.2.1 s.2.2.1 s.2.2.2.1 s.2.2.2.2.1 s.2.2.2.2.2) (a, b, s0, t0, s1, t1) = some (ez p n a b s0 s1 t0 t1) := by
  have hp2 := isP_pos hp
  have hq : 0 < p ∧ p ≤ 256 := by omega
  intro n
  induction n with
  | zero =>
    intro a b s0 s1 t0 t1 ha hb la lb lb2 hs ht
    have step : impl_prime_bezout_l1 p a b s0 t0 s1 t1 = some (.inr (a, s0, t0)) := by
      simp only [impl_prime_bezout_l1]
      rw [if_neg (by rw [decide_eq_true_eq]; omega)]
    rw [loopM_eq]
    simp only [step, Option.bind_some, ez]
  | succ n ih =>
    intro a b s0 s1 t0 t1 ha hb la lb lb2 hs ht
    by_cases h0 : b.length = 0
    · have step : impl_prime_bezout_l1 p a b s0 t0 s1 t1 = some (.inr (a, s0, t0)) := by
        simp only [impl_prime_bezout_l1]
        rw [if_neg (by rw [decide_eq_true_eq]; omega)]
      rw [loopM_eq]
      simp only [step, Option.bind_some, ez, if_pos h0]
    · have hqr := quo_row (show 0 < p by omega) a b
      have hrr := rem_row (show 0 < p by omega) ha b
      have hql := quo_len p a b
      have hrl := rem_len hp ha hb h0
      have p1 := hs.plen hM h0
      have p2 := ht.plen hM h0
      have q1 := hs.h1
      have q2 := hs.h2
      have q3 := ht.h1
      have q4 := ht.h2
      have step : impl_prime_bezout_l1 p a b s0 t0 s1 t1 = some (.inl (b, rem p a b, s1, t1, cx p (quo p a b) s0 s1, cx p (quo p a b) t0 t1)) := by
        simp only [impl_prime_bezout_l1]
        rw [if_pos (decide_eq_true (by omega)), divideI_is hp ha hb h0 (by omega) (by omega)]
        simp only [Option.bind_some]
        rw [times_is (by omega) (hqr.ent hq) (hs.r1.ent hq) (by omega) (by omega)]
        simp only [Option.bind_some]
        rw [combine_is hq (hs.r0.ent hq) ((mul_row hq.1 _ _).ent hq) (by omega) (by omega) (by omega)]
        simp only [Option.bind_some]
        rw [times_is (by omega) (hqr.ent hq) (ht.r1.ent hq) (by omega) (by omega)]
        simp only [Option.bind_some]
        rw [combine_is hq (ht.r0.ent hq) ((mul_row hq.1 _ _).ent hq) (by omega) (by omega) (by omega)]
        rfl
      rw [loopM_eq]
      simp only [step, Option.bind_some]
      rw [ih b (rem p a b) _ _ _ _ hb hrr lb2 (by omega) (by omega) (hs.next hp ha hb h0) (ht.next hp ha hb h0)]
      simp only [ez, if_neg h0]
theorem ezS_loop {p : Int} (hp : isP p = true) {M : Nat} (hM : M ≤ 65) : ∀ (n : Nat) (a b s0 s1 t0 t1 : List Int), Row p a → Row p b → a.length ≤ 64 → b.length ≤ n → b.length ≤ 64 → s0.length ≤ 64 → s1.length ≤ 64 → t0.length ≤ 64 → t1.length ≤ 64 → EzOk p M a b s0 s1 → EzOk p M a b t0 t1 →
    loopM (fun s : V64 × V64 × V64 × V64 × V64 × V64 => spec_l01Bezout_l1 p s.1 s.2.1 s.2.2.1 s.2.2.2.1 s.2.2.2.2.1 s.2.2.2.2.2) (pad a, pad b, pad s0, pad s1, pad t0, pad t1) = some (pad (ez p n a b s0 s1 t0 t1).1, pad (ez p n a b s0 s1 t0 t1).2.1, pad (ez p n a b s0 s1 t0 t1).2.2) := by
  have hp2 := isP_pos hp
  have hq : 0 < p ∧ p ≤ 256 := by omega
  have ld : ∀ {v : List Int}, Row p v → v.length ≤ 64 → spec_l01Deg (pad v) = some ((v.length : Int) - 1) := fun hv lv => by rw [deg_is, rd_pad_fun lv, hv.top lv]
  intro n
  induction n with
  | zero =>
    intro a b s0 s1 t0 t1 ha hb la lb lb2 l0 l1 m0 m1 hs ht
    have step : spec_l01Bezout_l1 p (pad a) (pad b) (pad s0) (pad s1) (pad t0) (pad t1) = some (.inr (pad a, pad s0, pad t0)) := by
      simp only [spec_l01Bezout_l1, ld hb lb2, Option.bind_some]
      rw [if_neg (by rw [decide_eq_true_eq]; omega)]
    rw [loopM_eq]
    simp only [step, Option.bind_some, ez]
  | succ n ih =>
    intro a b s0 s1 t0 t1 ha hb la lb lb2 l0 l1 m0 m1 hs ht
    by_cases h0 : b.length = 0
    · have step : spec_l01Bezout_l1 p (pad a) (pad b) (pad s0) (pad s1) (pad t0) (pad t1) = some (.inr (pad a, pad s0, pad t0)) := by
        simp only [spec_l01Bezout_l1, ld hb lb2, Option.bind_some]
        rw [if_neg (by rw [decide_eq_true_eq]; omega)]
      rw [loopM_eq]
      simp only [step, Option.bind_some, ez, if_pos h0]
    · have hqr := quo_row (show 0 < p by omega) a b
      have hrr := rem_row (show 0 < p by omega) ha b
      have hql := quo_len p a b
      have hrl := rem_len hp ha hb h0
      have p1 := hs.plen hM h0
      have p2 := ht.plen hM h0
      have c1 := comb_len p s0 (mul p (quo p a b) s1) (-1)
      have c2 := comb_len p t0 (mul p (quo p a b) t1) (-1)
      have step : spec_l01Bezout_l1 p (pad a) (pad b) (pad s0) (pad s1) (pad t0) (pad t1) = some (.inl (pad b, pad (rem p a b), pad s1, pad (cx p (quo p a b) s0 s1), pad t1, pad (cx p (quo p a b) t0 t1))) := by
        simp only [spec_l01Bezout_l1, ld hb lb2, Option.bind_some]
        rw [if_pos (decide_eq_true (by omega)), divideS_is hp ha hb h0 la lb2]
        simp only [Option.bind_some]
        rw [times_pad (by omega) hqr hs.r1 (by omega) l1 (hs.prod hM h0)]
        simp only [Option.bind_some]
        rw [times_pad (by omega) hqr ht.r1 (by omega) m1 (ht.prod hM h0)]
        simp only [Option.bind_some]
        rw [add_pad hq hs.r0 (mul_row hq.1 _ _) l0 p1 (by omega)]
        simp only [Option.bind_some]
        rw [add_pad hq ht.r0 (mul_row hq.1 _ _) m0 p2 (by omega)]
        rfl
      rw [loopM_eq]
      simp only [step, Option.bind_some]
      rw [ih b (rem p a b) _ _ _ _ hb hrr lb2 (by omega) (by omega) l1 (by unfold cx; omega) m1 (by unfold cx; omega) (hs.next hp ha hb h0) (ht.next hp ha hb h0)]
      simp only [ez, if_neg h0]
theorem ez_row {p : Int} (hp : isP p = true) {M : Nat} (hM : M ≤ 65) : ∀ (n : Nat) (a b s0 s1 t0 t1 : List Int), Row p a → Row p b → a.length ≤ 64 → b.length ≤ 64 → b.length ≤ n → (a.length ≠ 0 ∨ b.length ≠ 0) → s0.length ≤ 64 → s1.length ≤ 64 → t0.length ≤ 64 → t1.length ≤ 64 → EzOk p M a b s0 s1 → EzOk p M a b t0 t1 →
    (Row p (ez p n a b s0 s1 t0 t1).1 ∧ (ez p n a b s0 s1 t0 t1).1.length ≤ 64 ∧ (ez p n a b s0 s1 t0 t1).1.length ≠ 0) ∧ (Row p (ez p n a b s0 s1 t0 t1).2.1 ∧ (ez p n a b s0 s1 t0 t1).2.1.length ≤ 64) ∧ (Row p (ez p n a b s0 s1 t0 t1).2.2 ∧ (ez p n a b s0 s1 t0 t1).2.2.length ≤ 64)
  | 0, a, b, s0, s1, t0, t1, ha, hb, la, lb, ln, hab, l0, l1, m0, m1, hs, ht => ⟨⟨ha, la, by simp only [ez]; omega⟩, ⟨hs.r0, l0⟩, ⟨ht.r0, m0⟩⟩
  | n + 1, a, b, s0, s1, t0, t1, ha, hb, la, lb, ln, hab, l0, l1, m0, m1, hs, ht => by
    simp only [ez]
    by_cases h0 : b.length = 0
    · simp only [if_pos h0]
      exact ⟨⟨ha, la, by omega⟩, ⟨hs.r0, l0⟩, ⟨ht.r0, m0⟩⟩
    · simp only [if_neg h0]
      have hp2 := isP_pos hp
      have hrl := rem_len hp ha hb h0
      have p1 := hs.plen hM h0
      have p2 := ht.plen hM h0
      have c1 := comb_len p s0 (mul p (quo p a b) s1) (-1)
      have c2 := comb_len p t0 (mul p (quo p a b) t1) (-1)
      exact ez_row hp hM n b (rem p a b) _ _ _ _ hb (rem_row (by omega) ha b) lb (by omega) (by omega) (.inl h0) l1 (by unfold cx; omega) m1 (by unfold cx; omega) (hs.next hp ha hb h0) (ht.next hp ha hb h0)

/-- The greatest common divisor, monic, with its cofactors. -/
def eg (p : Int) (a b : List Int) : List Int × List Int × List Int := ez p 64 a b [1] [] [] [1]
def sc (p : Int) (k : Int) (l : List Int) : List Int := comb p [] l k
def bz (p : Int) (a b : List Int) : List Int × List Int × List Int := (sc p (inv p (lead (eg p a b).1)) (eg p a b).1, sc p (inv p (lead (eg p a b).1)) (eg p a b).2.1, sc p (inv p (lead (eg p a b).1)) (eg p a b).2.2)
theorem ezok_start {p : Int} (hp : 2 ≤ p) {a b : List Int} (la : a.length ≤ 64) (lb : b.length ≤ 64) : EzOk p (max a.length b.length + 1) a b [1] [] ∧ EzOk p (max a.length b.length + 1) a b [] [1] :=
  ⟨⟨row_one hp, row_nil p, by simp only [List.length_nil]; omega, by simp only [List.length_cons, List.length_nil]; omega⟩, ⟨row_nil p, row_one hp, by simp only [List.length_cons, List.length_nil]; omega, by simp only [List.length_nil]; omega⟩⟩
theorem eg_row {p : Int} (hp : isP p = true) {a b : List Int} (ha : Row p a) (hb : Row p b) (la : a.length ≤ 64) (lb : b.length ≤ 64) (hab : a.length ≠ 0 ∨ b.length ≠ 0) :
    (Row p (eg p a b).1 ∧ (eg p a b).1.length ≤ 64 ∧ (eg p a b).1.length ≠ 0) ∧ (Row p (eg p a b).2.1 ∧ (eg p a b).2.1.length ≤ 64) ∧ (Row p (eg p a b).2.2 ∧ (eg p a b).2.2.length ≤ 64) := by
  have hp2 := isP_pos hp
  obtain ⟨e1, e2⟩ := ezok_start (p := p) (by omega) la lb
  exact ez_row hp (by omega) 64 a b [1] [] [] [1] ha hb la lb lb hab (by simp) (by simp) (by simp) (by simp) e1 e2
theorem bezoutI_is {p : Int} (hp : isP p = true) {a b : List Int} (ha : Row p a) (hb : Row p b) (la : a.length ≤ 64) (lb : b.length ≤ 64) (hab : a.length ≠ 0 ∨ b.length ≠ 0) : impl_prime_bezout p a b = some (bz p a b) := by
  have hp2 := isP_pos hp
  have hq : 0 < p ∧ p ≤ 256 := by omega
  obtain ⟨e1, e2⟩ := ezok_start (p := p) (by omega) la lb
  have h := ezI_loop hp (by omega) 64 a b [1] [] [] [1] ha hb la lb lb e1 e2
  obtain ⟨⟨g1, g2, g3⟩, ⟨g4, g5⟩, g6, g7⟩ := eg_row hp ha hb la lb hab
  have h' : loopM (fun s : List Int × List Int × List Int × List Int × List Int × List Int => impl_prime_bezout_l1 p s.1 s.2.1 s.2.2.1 s.2.2.2.1 s.2.2.2.2.1 s.2.2.2.2.2) (a, b, [1], [], [], [1]) = some ((eg p a b).1, (eg p a b).2.1, (eg p a b).2.2) := h
  have hl := lead_pos (show 0 < p by omega) g1 g3
  have hi := inv_is hp hl
  simp only [impl_prime_bezout, impl_prime_scale, h', Option.bind_some, lead_is g3 (by omega), inverse_impl hp hl]
  rw [combine_is hq ((row_nil p).ent hq) (g1.ent hq) (by simp) (by omega) (by omega)]
  simp only [Option.bind_some]
  rw [combine_is hq ((row_nil p).ent hq) (g4.ent hq) (by simp) (by omega) (by omega)]
  simp only [Option.bind_some]
  rw [combine_is hq ((row_nil p).ent hq) (g6.ent hq) (by simp) (by omega) (by omega)]
  rfl
theorem bezoutS_is {p : Int} (hp : isP p = true) {a b : List Int} (ha : Row p a) (hb : Row p b) (la : a.length ≤ 64) (lb : b.length ≤ 64) (hab : a.length ≠ 0 ∨ b.length ≠ 0) : spec_l01Bezout p (pad a) (pad b) = some (pad (bz p a b).1, pad (bz p a b).2.1, pad (bz p a b).2.2) := by
  have hp2 := isP_pos hp
  have hq : 0 < p ∧ p ≤ 256 := by omega
  obtain ⟨e1, e2⟩ := ezok_start (p := p) (by omega) la lb
  have h := ezS_loop hp (by omega) 64 a b [1] [] [] [1] ha hb la lb lb (by simp) (by simp) (by simp) (by simp) e1 e2
  obtain ⟨⟨g1, g2, g3⟩, ⟨g4, g5⟩, g6, g7⟩ := eg_row hp ha hb la lb hab
  rw [pad_nil] at h
  have h' : loopM (fun s : V64 × V64 × V64 × V64 × V64 × V64 => spec_l01Bezout_l1 p s.1 s.2.1 s.2.2.1 s.2.2.2.1 s.2.2.2.2.1 s.2.2.2.2.2) (pad a, pad b, pad [1], vrep 64 0, vrep 64 0, pad [1]) = some (pad (eg p a b).1, pad (eg p a b).2.1, pad (eg p a b).2.2) := h
  have hl := lead_pos (show 0 < p by omega) g1 g3
  have hi := inv_is hp hl
  have hd : spec_l01Deg (pad (eg p a b).1) = some (((eg p a b).1.length - 1 : Nat) : Int) := by
    rw [deg_is, rd_pad_fun g2, g1.top g2]; congr 1; omega
  simp only [spec_l01Bezout, one_is, h', Option.bind_some, hd]
  rw [ifp_pos (by omega), Int.toNat_natCast, rd_padl _ (show (eg p a b).1.length - 1 < 64 by omega), show rd (eg p a b).1 ((eg p a b).1.length - 1) = lead (eg p a b).1 from rfl, inverse_spec hp hl]
  simp only [Option.bind_some]
  rw [wrap64 (by omega) (by omega), ← pad_nil, add_pad hq (row_nil p) g1 (by simp) g2 (by omega)]
  simp only [Option.bind_some]
  rw [add_pad hq (row_nil p) g4 (by simp) g5 (by omega)]
  simp only [Option.bind_some]
  rw [add_pad hq (row_nil p) g6 (by simp) g7 (by omega)]
  rfl
end Go.Proofs.YtkbnegemdlnncaaGreat
/- Greatest common divisors, and monic polynomials. -/
namespace Go.Proofs.YtkbnegemdlnncaaGreat
open Go.Abs

variable {P : Pri}
/-! The greatest common divisor. -/
theorem ez_gcd : ∀ (n : Nat) (a b : PP P) (s0 s1 t0 t1 : List Int), b.len ≤ n → ∃ g : PP P, (ez P.p n a.1 b.1 s0 s1 t0 t1).1 = g.1 ∧ ∀ d, Dv d g ↔ Dv d a ∧ Dv d b
  | 0, a, b, s0, s1, t0, t1, h => by
    have hb : b = 0 := len_zero.1 (by omega)
    refine ⟨a, by simp only [ez], fun d => ?_⟩
    rw [hb]
    exact ⟨fun h => ⟨h, ppring.dv_zero d⟩, fun h => h.1⟩
  | n + 1, a, b, s0, s1, t0, t1, h => by
    simp only [ez]
    by_cases h0 : b.1.length = 0
    · rw [if_pos h0]
      have hb : b = 0 := len_zero.1 h0
      refine ⟨a, rfl, fun d => ?_⟩
      rw [hb]
      exact ⟨fun h => ⟨h, ppring.dv_zero d⟩, fun h => h.1⟩
    · rw [if_neg h0]
      have hb : b ≠ 0 := fun e => h0 (len_zero.2 e)
      obtain ⟨h1, h2⟩ := pdiv a hb
      obtain ⟨g, e, hg⟩ := ez_gcd n b (prem a b) s1 (cx P.p (quo P.p a.1 b.1) s0 s1) t1 (cx P.p (quo P.p a.1 b.1) t0 t1) (by omega)
      refine ⟨g, e, fun d => ?_⟩
      rw [hg]
      constructor
      · rintro ⟨d1, d2⟩
        refine ⟨?_, d1⟩
        rw [h1]
        exact ppring.dv_add (ppring.dv_mul d1 _) d2
      · rintro ⟨d1, d2⟩
        refine ⟨d2, ?_⟩
        rw [h1] at d1
        exact ppring.dv_sub d1 (ppring.dv_mul d2 _)
theorem sc_nsm (a : PP P) (k : Nat) : sc P.p k a.1 = (nsm k a).1 := by
  have h := comb_nsm 0 a k
  rw [ppring.zero_add] at h
  exact h
/-- What the program and the reference compute. -/
theorem gcd_is {a b : PP P} (la : a.len ≤ 64) (lb : b.len ≤ 64) (hab : a ≠ 0 ∨ b ≠ 0) : ∃ g : PP P, (bz P.p a.1 b.1).1 = g.1 ∧ g.len ≤ 64 ∧ Mo g ∧ ∀ d, Dv d g ↔ Dv d a ∧ Dv d b := by
  obtain ⟨g, e, hg⟩ := ez_gcd 64 a b [1] [] [] [1] lb
  have hab' : a.1.length ≠ 0 ∨ b.1.length ≠ 0 := hab.imp ne_len ne_len
  obtain ⟨⟨g1, g2, g3⟩, _, _⟩ := eg_row P.okp a.2 b.2 la lb hab'
  have e' : (eg P.p a.1 b.1).1 = g.1 := e
  rw [e'] at g1 g2 g3
  have hg0 : g ≠ 0 := fun h => g3 (len_zero.2 h)
  have hl := lead_pos P.pos g.2 g3
  have hi := inv_is P.okp hl
  obtain ⟨k, hk⟩ : ∃ k : Nat, inv P.p (lead g.1) = k := ⟨(inv P.p (lead g.1)).toNat, by omega⟩
  have e2 : (bz P.p a.1 b.1).1 = (mon g).1 := by
    show sc P.p (inv P.p (lead (eg P.p a.1 b.1).1)) (eg P.p a.1 b.1).1 = _
    rw [e', hk, sc_nsm]
    unfold mon
    rw [hk, Int.toNat_natCast]
  refine ⟨mon g, e2, by rw [mon_len hg0]; exact g2, mon_mo hg0, fun d => ?_⟩
  obtain ⟨m1, m2⟩ := mon_dv hg0
  rw [← hg]
  exact ⟨fun h => ppring.dv_trans h m2, fun h => ppring.dv_trans h m1⟩
theorem gcdI {a b : PP P} (la : a.len ≤ 64) (lb : b.len ≤ 64) (hab : a ≠ 0 ∨ b ≠ 0) : ∃ g : PP P, impl_prime_gcd P.p a.1 b.1 = some g.1 ∧ g.len ≤ 64 ∧ Mo g ∧ ∀ d, Dv d g ↔ Dv d a ∧ Dv d b := by
  obtain ⟨g, e, h1, h2, h3⟩ := gcd_is la lb hab
  refine ⟨g, ?_, h1, h2, h3⟩
  simp only [impl_prime_gcd, bezoutI_is P.okp a.2 b.2 la lb (hab.imp ne_len ne_len), Option.bind_some, e]
theorem gcdS {a b : PP P} (la : a.len ≤ 64) (lb : b.len ≤ 64) (hab : a ≠ 0 ∨ b ≠ 0) : ∃ g : PP P, spec_l01Gcd P.p (pad a.1) (pad b.1) = some (pad g.1) ∧ g.len ≤ 64 ∧ Mo g ∧ ∀ d, Dv d g ↔ Dv d a ∧ Dv d b := by
  obtain ⟨g, e, h1, h2, h3⟩ := gcd_is la lb hab
  refine ⟨g, ?_, h1, h2, h3⟩
  simp only [spec_l01Gcd, degS a la, degS b lb, Option.bind_some, bezoutS_is P.okp a.2 b.2 la lb (hab.imp ne_len ne_len), e]
  by_cases ha : a.len = 0
  · have hb : b.len ≠ 0 := by
      rcases hab with h | h
      · exact absurd (len_zero.1 ha) h
      · exact fun h0 => h (len_zero.1 h0)
    rw [if_pos (decide_eq_true (by omega)), decide_eq_false (by omega)]
    rfl
  · rw [if_neg (by rw [decide_eq_true_eq]; omega)]
    rfl
end Go.Proofs.YtkbnegemdlnncaaGreat
/- A polynomial made monic, on both sides. -/
namespace Go.Proofs.YtkbnegemdlnncaaGreat
open Go.Abs

variable {P : Pri}
theorem degI (a : PP P) (la : a.len ≤ 1000000) : impl_row_degree a.1 = some ((a.len : Int) - 1) := by
  have : a.1.length = a.len := rfl
  simp only [impl_row_degree]
  rw [wrap64 (by omega) (by omega)]; rfl
theorem leadI {a : PP P} (ha : a ≠ 0) (la : a.len ≤ 1000000) : impl_row_lead a.1 = some (lead a.1) := lead_is (ne_len ha) la
theorem scaleI {a : PP P} (la : a.len ≤ 1000000) (k : Nat) (hk : k ≤ 1099511627776) : impl_prime_scale P.p a.1 k = some (nsm k a).1 := by
  have h := combine_is P.sm ((row_nil P.p).ent P.sm) a.ent (by simp) la (k := k) (by omega)
  simp only [impl_prime_scale, h, Option.bind_some]
  have h2 := comb_nsm 0 a k
  rw [ppring.zero_add] at h2
  exact congrArg some h2
end Go.Proofs.YtkbnegemdlnncaaGreat
