/- Own texts, put together. -/
import Derived.Test.YtkbnegemdlnncaaAbsX
import Derived.Test.YtkbnegemdlnncaaFn1
import Derived.Test.YtkbnegemdlnncaaFn2
import Derived.Test.YtkbnegemdlnncaaFn3
import Derived.Test.YtkbnegemdlnncaaFn4
import Derived.Test.YtkbnegemdlnncaaFn5
import Derived.Test.YtkbnegemdlnncaaFn6
import Derived.Test.YtkbnegemdlnncaaFn7
set_option linter.unusedSimpArgs false
set_option linter.unusedVariables false
/- Plain facts on loops and wraps. -/
namespace Go.Abs

/-- A loop with a measure ends, and what it leaves. -/
theorem loopM_ind {α β : Type} {body : α → Option (α ⊕ β)} (I : α → Prop) (Post : α → β → Prop) (m : α → Nat)
    (step : ∀ s, I s → (∃ s', body s = some (.inl s') ∧ I s' ∧ m s' < m s ∧ ∀ r, Post s' r → Post s r) ∨ ∃ r, body s = some (.inr r) ∧ Post s r) :
    ∀ s, I s → ∃ r, loopM body s = some r ∧ Post s r := by
  have key : ∀ n s, m s ≤ n → I s → ∃ r, loopM body s = some r ∧ Post s r := by
    intro n
    induction n with
    | zero =>
      intro s hn hs
      rcases step s hs with ⟨s', h1, h2, h3, h4⟩ | ⟨r, h1, h2⟩
      · omega
      · exact ⟨r, by rw [loopM_eq, h1]; rfl, h2⟩
    | succ n ih =>
      intro s hn hs
      rcases step s hs with ⟨s', h1, h2, h3, h4⟩ | ⟨r, h1, h2⟩
      · obtain ⟨r, k1, k2⟩ := ih s' (by omega) h2
        exact ⟨r, by rw [loopM_eq, h1]; exact k1, h4 r k2⟩
      · exact ⟨r, by rw [loopM_eq, h1]; rfl, h2⟩
  exact fun s hs => key (m s) s (Nat.le_refl _) hs

theorem wrap64 {n : Int} (h1 : -9223372036854775808 ≤ n) (h2 : n < 9223372036854775808) : IntKind.i64.wrap n = n := by
  simp only [IntKind.wrap, IntKind.signed, IntKind.bits]
  simp
  omega
theorem wrap8 {n : Int} (h1 : 0 ≤ n) (h2 : n < 256) : IntKind.u8.wrap n = n := by
  simp only [IntKind.wrap, IntKind.signed, IntKind.bits]
  simp
  omega

/-- A loop that counts from i to n. -/
theorem loopM_for {α β σ : Type} {body : α → Option (α ⊕ β)} (at' : Nat → σ → α) (out : σ → β) (n : Nat) (I : Nat → σ → Prop)
    (step : ∀ i s, i < n → I i s → ∃ s', body (at' i s) = some (.inl (at' (i + 1) s')) ∧ I (i + 1) s') (stop : ∀ s, I n s → body (at' n s) = some (.inr (out s))) :
    ∀ (m i : Nat) (s : σ), i + m = n → I i s → ∃ s', loopM body (at' i s) = some (out s') ∧ I n s'
  | 0, i, s, h, hI => by
    have : i = n := by omega
    subst this
    exact ⟨s, by rw [loopM_eq, stop s hI]; rfl, hI⟩
  | m + 1, i, s, h, hI => by
    obtain ⟨s', h1, h2⟩ := step i s (by omega) hI
    obtain ⟨s'', h3, h4⟩ := loopM_for at' out n I step stop m (i + 1) s' (by omega) h2
    exact ⟨s'', by rw [loopM_eq, h1]; exact h3, h4⟩
end Go.Abs
/- Plain facts on arrays of 64 numbers. -/
namespace Go.Abs

abbrev V64 := Vec Int 64
def pad (l : List Int) : V64 := ⟨(List.range 64).map fun j => l.getD j 0, by simp⟩

theorem pad_rd (l : List Int) {j : Nat} (h : j < 64) : rd (pad l).1 j = l.getD j 0 := by
  simp [rd, pad, h]
theorem vec_ext {n : Nat} {a b : Vec Int n} (h : ∀ j, j < n → rd a.1 j = rd b.1 j) : a = b := by
  apply Subtype.ext
  apply List.ext_getElem
  · rw [a.2, b.2]
  · intro j h1 h2
    have := h j (by rw [a.2] at h1; exact h1)
    simpa [rd, h1, h2] using this
theorem rd_vset {n : Nat} (a : Vec Int n) (i j : Nat) (d : Int) (hi : i < n) : rd (vset a i d).1 j = if j = i then d else rd a.1 j := by
  have hl : i < a.1.length := by rw [a.2]; exact hi
  by_cases h : j = i
  · subst h; simp [rd, vset, hl]
  · rw [if_neg h]
    simp [rd, vset, Ne.symm h]
theorem rd_vrep {n : Nat} (j : Nat) (h : j < n) : rd (vrep n (0 : Int)).1 j = 0 := by
  simp [rd, vrep, h]
theorem pad_nil : pad [] = vrep 64 0 := vec_ext fun j h => by rw [pad_rd _ h, rd_vrep _ h]; simp
theorem pad_set (l : List Int) (d : Int) (h : l.length < 64) : vset (pad l) l.length d = pad (l ++ [d]) := by
  refine vec_ext fun j hj => ?_
  rw [rd_vset _ _ _ _ h, pad_rd _ hj, pad_rd _ hj]
  by_cases e : j = l.length
  · subst e; simp
  · rw [if_neg e]
    rcases Nat.lt_or_ge j l.length with h1 | h1
    · simp [h1, List.getElem?_append]
    · have h2 : l.length < j := by omega
      have h3 : (l ++ [d]).length ≤ j := by simp; omega
      rw [List.getD_eq_getElem?_getD, List.getD_eq_getElem?_getD, List.getElem?_eq_none h1, List.getElem?_eq_none h3]

theorem getD_app (l k : List Int) (j : Nat) : (l ++ k).getD j 0 = if j < l.length then l.getD j 0 else k.getD (j - l.length) 0 := by
  simp only [List.getD_eq_getElem?_getD, List.getElem?_append]
  split <;> rfl

/-- Bytes. -/
def Bytes (l : List Int) : Prop := ∀ d ∈ l, 0 ≤ d ∧ d < 256
theorem getD_byte {l : List Int} (h : Bytes l) (j : Nat) : 0 ≤ l.getD j 0 ∧ l.getD j 0 < 256 := by
  rw [List.getD_eq_getElem?_getD]
  cases e : l[j]? with
  | none => simp
  | some d => simp; exact h d (List.mem_of_getElem? e)
end Go.Abs
/- Polynomials: coefficient functions, and rows of coefficients up to the leading one. -/
namespace Go.Abs

/-! How far a row reaches. -/
def top (g : Nat → Int) : Nat → Nat
  | 0 => 0
  | n + 1 => if g n = 0 then top g n else n + 1
theorem top_le (g : Nat → Int) : ∀ n, top g n ≤ n
  | 0 => Nat.le_refl _
  | n + 1 => by simp only [top]; split; exact Nat.le_succ_of_le (top_le g n); exact Nat.le_refl _
theorem top_zero (g : Nat → Int) : ∀ n i, top g n ≤ i → i < n → g i = 0
  | 0, i, _, h => by omega
  | n + 1, i, h1, h2 => by
    simp only [top] at h1
    split at h1
    · rename_i e
      by_cases hi : i = n
      · subst hi; exact e
      · exact top_zero g n i h1 (by omega)
    · omega
theorem top_lead (g : Nat → Int) : ∀ n, top g n ≠ 0 → g (top g n - 1) ≠ 0
  | 0, h => by simp [top] at h
  | n + 1, h => by
    simp only [top] at h ⊢
    split
    · rename_i e; rw [if_pos e] at h; exact top_lead g n h
    · rename_i e; simpa using e
theorem top_congr {f g : Nat → Int} : ∀ n, (∀ i, i < n → f i = g i) → top f n = top g n
  | 0, _ => rfl
  | n + 1, h => by simp only [top]; rw [h n (by omega), top_congr n fun i hi => h i (by omega)]
/-- The leading place is told by what stands there and behind. -/
theorem top_is {g : Nat → Int} {n k : Nat} (hk : k ≤ n) (hz : ∀ i, k ≤ i → i < n → g i = 0) (hl : k ≠ 0 → g (k - 1) ≠ 0) : top g n = k := by
  rcases Nat.lt_trichotomy (top g n) k with h | h | h
  · have := top_zero g n (k - 1) (by omega) (by omega)
    exact absurd this (hl (by omega))
  · exact h
  · have h1 := top_lead g n (by omega)
    have h2 := top_le g n
    exact absurd (hz (top g n - 1) (by omega) (by omega)) h1
theorem top_more {g : Nat → Int} {n m : Nat} (h : n ≤ m) (hz : ∀ i, n ≤ i → i < m → g i = 0) : top g m = top g n :=
  top_is (Nat.le_trans (top_le g n) h) (fun i h1 h2 => by
    by_cases hi : i < n
    · exact top_zero g n i h1 hi
    · exact hz i (by omega) h2) (top_lead g n)

/-! Reading rows. -/
theorem rd_nil (i : Nat) : rd ([] : List Int) i = 0 := by simp [rd]
theorem rd_lt {l : List Int} {i : Nat} (h : i < l.length) : rd l i = l[i] := by simp [rd, h]
theorem rd_ge {l : List Int} {i : Nat} (h : l.length ≤ i) : rd l i = 0 := by simp [rd, h]
theorem rd_mem {l : List Int} {i : Nat} (h : i < l.length) : rd l i ∈ l := by rw [rd_lt h]; exact List.getElem_mem _
theorem rd_ext {a b : List Int} (hl : a.length = b.length) (h : ∀ i, i < a.length → rd a i = rd b i) : a = b := by
  apply List.ext_getElem hl
  intro i h1 h2
  have := h i h1
  rwa [rd_lt h1, rd_lt h2] at this
theorem rd_take (l : List Int) (k i : Nat) : rd (l.take k) i = if i < k then rd l i else 0 := by
  by_cases h : i < k
  · rw [if_pos h]
    by_cases hl : i < l.length
    · rw [rd_lt (by simp; omega), rd_lt hl]; simp
    · rw [rd_ge (by simp; omega), rd_ge (by omega)]
  · rw [if_neg h, rd_ge (by simp; omega)]
theorem rd_app (a b : List Int) (i : Nat) : rd (a ++ b) i = if i < a.length then rd a i else rd b (i - a.length) := by
  have := getD_app a b i
  exact this
theorem rd_set (l : List Int) (k : Nat) (d : Int) (i : Nat) (hk : k < l.length) : rd (l.set k d) i = if i = k then d else rd l i := by
  by_cases h : i = k
  · subst h; simp [rd, hk]
  · rw [if_neg h]; simp [rd, Ne.symm h]
theorem rd_rep (n i : Nat) : rd (List.replicate n (0 : Int)) i = 0 := by
  by_cases h : i < n
  · rw [rd_lt (by simpa using h)]; simp
  · rw [rd_ge (by simp; omega)]
theorem rd_padl (l : List Int) {j : Nat} (h : j < 64) : rd (pad l).1 j = rd l j := by rw [pad_rd _ h]; rfl
theorem rd_map {f : Nat → Int} (n i : Nat) : rd ((List.range n).map f) i = if i < n then f i else 0 := by
  by_cases h : i < n
  · rw [if_pos h, rd_lt (by simpa using h)]; simp
  · rw [if_neg h, rd_ge (by simp; omega)]

/-! Rows of functions. -/
def ofF (n : Nat) (f : Nat → Int) : List Int := (List.range (top f n)).map f
theorem ofF_len (n : Nat) (f : Nat → Int) : (ofF n f).length = top f n := by simp [ofF]
theorem rd_ofF {n : Nat} {f : Nat → Int} (hz : ∀ i, n ≤ i → f i = 0) (i : Nat) : rd (ofF n f) i = f i := by
  rw [ofF, rd_map]
  split
  · rfl
  · by_cases h : i < n
    · exact (top_zero f n i (by omega) h).symm
    · exact (hz i (by omega)).symm
theorem rd_ofF' {n : Nat} {f : Nat → Int} (i : Nat) : rd (ofF n f) i = if i < n then f i else 0 := by
  rw [ofF, rd_map]
  have := top_le f n
  by_cases h : i < n
  · rw [if_pos h]
    split
    · rfl
    · exact (top_zero f n i (by omega) h).symm
  · rw [if_neg h, if_neg (by omega)]
theorem ofF_congr {n : Nat} {f g : Nat → Int} (h : ∀ i, i < n → f i = g i) : ofF n f = ofF n g := by
  have e := top_congr n h
  have := top_le g n
  refine rd_ext (by rw [ofF_len, ofF_len, e]) fun i hi => ?_
  rw [rd_ofF', rd_ofF']
  split
  · exact h i (by assumption)
  · rfl
theorem ofF_more {n m : Nat} {f : Nat → Int} (h : n ≤ m) (hz : ∀ i, n ≤ i → i < m → f i = 0) : ofF m f = ofF n f := by
  simp only [ofF, top_more h hz]
/-- A list without the zeros at its end. -/
theorem trim_eq (l : List Int) : l.take (top (rd l) l.length) = ofF l.length (rd l) := by
  have := top_le (rd l) l.length
  refine rd_ext (by rw [ofF_len]; simp; omega) fun i hi => ?_
  rw [rd_take, rd_ofF']
  simp at hi
  rw [if_pos (by omega), if_pos (by omega)]

/-- The coefficients of a polynomial modulo p, up to the leading one. -/
structure Row (p : Int) (l : List Int) : Prop where
  res : ∀ d ∈ l, 0 ≤ d ∧ d < p
  nrm : l.length ≠ 0 → rd l (l.length - 1) ≠ 0
theorem Row.rd {p : Int} {l : List Int} (h : Row p l) (hp : 0 < p) (i : Nat) : 0 ≤ rd l i ∧ rd l i < p := by
  by_cases hi : i < l.length
  · exact h.res _ (rd_mem hi)
  · rw [rd_ge (by omega)]; exact ⟨Int.le_refl _, hp⟩
theorem Row.bytes {p : Int} {l : List Int} (h : Row p l) (hp : p ≤ 256) : Bytes l := fun d hd => by have := h.res d hd; omega
theorem row_nil (p : Int) : Row p [] := ⟨by simp, by simp⟩
theorem row_ext {p q : Int} {a b : List Int} (ha : Row p a) (hb : Row q b) (h : ∀ i, rd a i = rd b i) : a = b := by
  have hl : a.length = b.length := by
    rcases Nat.lt_trichotomy a.length b.length with h1 | h1 | h1
    · have := hb.nrm (by omega)
      rw [← h, rd_ge (by omega)] at this
      exact absurd rfl this
    · exact h1
    · have := ha.nrm (by omega)
      rw [h, rd_ge (by omega)] at this
      exact absurd rfl this
  exact rd_ext hl fun i _ => h i
theorem row_ofF {p : Int} {n : Nat} {f : Nat → Int} (h : ∀ i, i < n → 0 ≤ f i ∧ f i < p) : Row p (ofF n f) := by
  have hle := top_le f n
  refine ⟨fun d hd => ?_, fun hn => ?_⟩
  · simp only [ofF, List.mem_map, List.mem_range] at hd
    obtain ⟨i, hi, rfl⟩ := hd
    exact h i (by omega)
  · rw [ofF_len] at hn ⊢
    rw [rd_ofF', if_pos (by omega)]
    exact top_lead f n hn
theorem Row.top {p : Int} {l : List Int} (h : Row p l) {n : Nat} (hn : l.length ≤ n) : top (Abs.rd l) n = l.length :=
  top_is hn (fun i h1 _ => rd_ge h1) h.nrm
theorem Row.ofF {p : Int} {l : List Int} (h : Row p l) {n : Nat} (hn : l.length ≤ n) : ofF n (Abs.rd l) = l := by
  refine rd_ext (by rw [ofF_len, h.top hn]) fun i hi => ?_
  rw [rd_ofF fun i hi => rd_ge (by omega)]
theorem Row.trim {p : Int} {l : List Int} (h : Row p l) : l.take (Abs.top (Abs.rd l) l.length) = l := by
  rw [trim_eq, h.ofF (Nat.le_refl _)]

/-! Arrays and rows. -/
def row (v : V64) : List Int := ofF 64 (rd v.1)
/-- Coefficients from 0 to p - 1. -/
def Res (p : Int) (v : V64) : Prop := ∀ j, j < 64 → 0 ≤ rd v.1 j ∧ rd v.1 j < p
theorem row_row {p : Int} {v : V64} (h : Res p v) : Row p (row v) := row_ofF h
theorem row_len (v : V64) : (row v).length ≤ 64 := by rw [row, ofF_len]; exact top_le _ _
theorem pad_row (v : V64) : pad (row v) = v := vec_ext fun j hj => by rw [rd_padl _ hj, row, rd_ofF', if_pos hj]
theorem row_pad {p : Int} {l : List Int} (h : Row p l) (hl : l.length ≤ 64) : row (pad l) = l := by
  rw [row, ofF_congr (g := rd l) fun i hi => rd_padl l hi, h.ofF hl]
theorem res_pad {p : Int} {l : List Int} (h : Row p l) (hp : 0 < p) : Res p (pad l) := fun j hj => by rw [rd_padl _ hj]; exact h.rd hp j
theorem pad_inj {p q : Int} {a b : List Int} (ha : Row p a) (hb : Row q b) (h1 : a.length ≤ 64) (h2 : b.length ≤ 64) (h : pad a = pad b) : a = b := by
  rw [← row_pad ha h1, ← row_pad hb h2, h]

/-! Sums and products of coefficient functions. -/
def sumTo : Nat → (Nat → Int) → Int
  | 0, _ => 0
  | n + 1, f => sumTo n f + f n
theorem sumTo_congr {f g : Nat → Int} : ∀ n, (∀ i, i < n → f i = g i) → sumTo n f = sumTo n g
  | 0, _ => rfl
  | n + 1, h => by simp only [sumTo]; rw [sumTo_congr n fun i hi => h i (by omega), h n (by omega)]
theorem sumTo_zero {f : Nat → Int} : ∀ n, (∀ i, i < n → f i = 0) → sumTo n f = 0
  | 0, _ => rfl
  | n + 1, h => by simp only [sumTo]; rw [sumTo_zero n fun i hi => h i (by omega), h n (by omega)]; rfl
theorem sumTo_more {f : Nat → Int} {n : Nat} : ∀ m, (∀ i, n ≤ i → i < n + m → f i = 0) → sumTo (n + m) f = sumTo n f
  | 0, _ => rfl
  | m + 1, h => by
    rw [← Nat.add_assoc]
    simp only [sumTo]
    rw [sumTo_more m fun i h1 h2 => h i h1 (by omega), h (n + m) (by omega) (by omega), Int.add_zero]
/-- The summand that the first n coefficients give to a product. -/
def cv (a b : Nat → Int) (n k : Nat) : Int := sumTo n fun i => if i ≤ k then a i * b (k - i) else 0
theorem cv_succ (a b : Nat → Int) (n k : Nat) : cv a b (n + 1) k = cv a b n k + (if n ≤ k then a n * b (k - n) else 0) := rfl
def conv (a b : Nat → Int) (k : Nat) : Int := cv a b (k + 1) k
theorem cv_conv {a b : Nat → Int} {n : Nat} (hz : ∀ i, n ≤ i → a i = 0) (k : Nat) : cv a b n k = conv a b k := by
  unfold conv cv
  rcases Nat.le_total n (k + 1) with h | h
  · obtain ⟨m, e⟩ : ∃ m, k + 1 = n + m := ⟨k + 1 - n, by omega⟩
    rw [e]
    refine (sumTo_more m fun i h1 h2 => ?_).symm
    rw [hz i h1]; simp
  · obtain ⟨m, rfl⟩ : ∃ m, n = k + 1 + m := ⟨n - (k + 1), by omega⟩
    exact sumTo_more m fun i h1 h2 => if_neg (by omega)
theorem conv_zero {a b : Nat → Int} {n m : Nat} (ha : ∀ i, n ≤ i → a i = 0) (hb : ∀ i, m ≤ i → b i = 0) {k : Nat} (hk : n + m ≤ k + 1) : conv a b k = 0 := by
  refine sumTo_zero _ fun i hi => ?_
  rw [if_pos (by omega)]
  by_cases h : i < n
  · rw [hb (k - i) (by omega), Int.mul_zero]
  · rw [ha i (by omega), Int.zero_mul]
/-- The leading coefficient of a product. -/
theorem conv_lead {a b : Nat → Int} {n m : Nat} (ha : ∀ i, n < i → a i = 0) (hb : ∀ i, m < i → b i = 0) : conv a b (n + m) = a n * b m := by
  have h1 : conv a b (n + m) = cv a b (n + 1) (n + m) := (cv_conv (fun i hi => ha i (by omega)) _).symm
  rw [h1]
  unfold cv
  simp only [sumTo]
  rw [sumTo_zero n fun i hi => ?_, if_pos (by omega), show n + m - n = m by omega, Int.zero_add]
  rw [if_pos (by omega), hb _ (by omega), Int.mul_zero]

/-! Operations on rows. -/
def comb (p : Int) (a b : List Int) (k : Int) : List Int := ofF (max a.length b.length) fun i => (rd a i + k * rd b i) % p
def mul (p : Int) (a b : List Int) : List Int := ofF (a.length + b.length - 1) fun i => conv (rd a) (rd b) i % p

theorem emod_res {p : Int} (hp : 0 < p) (x : Int) : 0 ≤ x % p ∧ x % p < p := ⟨Int.emod_nonneg _ (by omega), Int.emod_lt_of_pos _ hp⟩
theorem comb_row {p : Int} (hp : 0 < p) (a b : List Int) (k : Int) : Row p (comb p a b k) := row_ofF fun _ _ => emod_res hp _
theorem mul_row {p : Int} (hp : 0 < p) (a b : List Int) : Row p (mul p a b) := row_ofF fun _ _ => emod_res hp _
theorem comb_rd (p : Int) (a b : List Int) (k : Int) (i : Nat) : rd (comb p a b k) i = (rd a i + k * rd b i) % p := by
  refine rd_ofF (fun i hi => ?_) i
  rw [rd_ge (by omega), rd_ge (by omega)]; simp
theorem mul_rd (p : Int) (a b : List Int) (i : Nat) : rd (mul p a b) i = conv (rd a) (rd b) i % p := by
  refine rd_ofF (fun i hi => ?_) i
  rw [conv_zero (n := a.length) (m := b.length) (fun i hi => rd_ge hi) (fun i hi => rd_ge hi) (by omega)]; simp
theorem comb_len (p : Int) (a b : List Int) (k : Int) : (comb p a b k).length ≤ max a.length b.length := by rw [comb, ofF_len]; exact top_le _ _
theorem mul_len (p : Int) (a b : List Int) : (mul p a b).length ≤ a.length + b.length - 1 := by rw [mul, ofF_len]; exact top_le _ _
theorem mul_nil (p : Int) (b : List Int) : mul p [] b = [] := by
  have h : ∀ i, conv (rd []) (rd b) i = 0 := fun i => sumTo_zero _ fun j _ => by rw [rd_nil]; simp
  have : (mul p [] b).length = 0 := by
    rw [mul, ofF_len]
    exact top_is (Nat.zero_le _) (fun i _ _ => by rw [h]; simp) (by simp)
  exact List.eq_nil_of_length_eq_zero this
theorem mul_nil' (p : Int) (a : List Int) : mul p a [] = [] := by
  have h : ∀ i, conv (rd a) (rd []) i = 0 := fun i => sumTo_zero _ fun j _ => by rw [rd_nil]; simp
  have : (mul p a []).length = 0 := by
    rw [mul, ofF_len]
    exact top_is (Nat.zero_le _) (fun i _ _ => by rw [h]; simp) (by simp)
  exact List.eq_nil_of_length_eq_zero this

/-! Small primes. -/
def isP (p : Int) : Bool := p == 2 || p == 3 || p == 5 || p == 7
theorem isP_iff {p : Int} : isP p = true ↔ p = 2 ∨ p = 3 ∨ p = 5 ∨ p = 7 := by
  simp [isP, or_assoc]
theorem isP_pos {p : Int} (h : isP p = true) : 2 ≤ p ∧ p ≤ 7 := by
  rcases isP_iff.1 h with rfl | rfl | rfl | rfl <;> omega
theorem noz2 : ∀ x y : Fin 2, x ≠ 0 → y ≠ 0 → (x.1 * y.1) % 2 ≠ 0 := by decide
theorem noz3 : ∀ x y : Fin 3, x ≠ 0 → y ≠ 0 → (x.1 * y.1) % 3 ≠ 0 := by decide
theorem noz5 : ∀ x y : Fin 5, x ≠ 0 → y ≠ 0 → (x.1 * y.1) % 5 ≠ 0 := by decide
theorem noz7 : ∀ x y : Fin 7, x ≠ 0 → y ≠ 0 → (x.1 * y.1) % 7 ≠ 0 := by decide
theorem noz_of {n : Nat} (hn : 0 < n) (h : ∀ x y : Fin n, x.1 ≠ 0 → y.1 ≠ 0 → (x.1 * y.1) % n ≠ 0) {x y : Int} (hx : 0 < x ∧ x < n) (hy : 0 < y ∧ y < n) : x * y % n ≠ 0 := by
  obtain ⟨a, rfl⟩ : ∃ a : Nat, x = a := ⟨x.toNat, by omega⟩
  obtain ⟨b, rfl⟩ : ∃ b : Nat, y = b := ⟨y.toNat, by omega⟩
  have := h ⟨a, by omega⟩ ⟨b, by omega⟩ (by simp; omega) (by simp; omega)
  simp only at this
  rw [← Int.natCast_mul, ← Int.natCast_emod]
  omega
theorem noz {p : Int} (hp : isP p = true) {x y : Int} (hx : 0 ≤ x ∧ x < p) (hy : 0 ≤ y ∧ y < p) (h1 : x ≠ 0) (h2 : y ≠ 0) : x * y % p ≠ 0 := by
  rcases isP_iff.1 hp with rfl | rfl | rfl | rfl
  · exact noz_of (n := 2) (by omega) (fun x y a b => noz2 x y (fun e => a (by rw [e]; rfl)) (fun e => b (by rw [e]; rfl))) ⟨by omega, hx.2⟩ ⟨by omega, hy.2⟩
  · exact noz_of (n := 3) (by omega) (fun x y a b => noz3 x y (fun e => a (by rw [e]; rfl)) (fun e => b (by rw [e]; rfl))) ⟨by omega, hx.2⟩ ⟨by omega, hy.2⟩
  · exact noz_of (n := 5) (by omega) (fun x y a b => noz5 x y (fun e => a (by rw [e]; rfl)) (fun e => b (by rw [e]; rfl))) ⟨by omega, hx.2⟩ ⟨by omega, hy.2⟩
  · exact noz_of (n := 7) (by omega) (fun x y a b => noz7 x y (fun e => a (by rw [e]; rfl)) (fun e => b (by rw [e]; rfl))) ⟨by omega, hx.2⟩ ⟨by omega, hy.2⟩
theorem mul_len_is {p : Int} (hp : isP p = true) {a b : List Int} (ha : Row p a) (hb : Row p b) (h1 : a.length ≠ 0) (h2 : b.length ≠ 0) : (mul p a b).length = a.length + b.length - 1 := by
  have hp2 := isP_pos hp
  rw [mul, ofF_len]
  refine top_is (Nat.le_refl _) (fun i h3 h4 => by omega) fun _ => ?_
  have e : a.length + b.length - 1 - 1 = (a.length - 1) + (b.length - 1) := by omega
  rw [e, conv_lead (fun i hi => rd_ge (by omega)) (fun i hi => rd_ge (by omega))]
  exact noz hp (ha.rd (by omega) _) (hb.rd (by omega) _) (ha.nrm h1) (hb.nrm h2)
end Go.Abs
/- The polynomial T. -/
namespace Go.Proofs.Ytkbnegemdlnncaa
open Go.Abs

theorem row_T {p : Int} (hp : 2 ≤ p) : Row p [0, 1] := ⟨by simp; omega, by simp [rd]⟩
theorem T_is : spec_l01T = some (pad [0, 1]) := by
  unfold spec_l01T
  congr 1
end Go.Proofs.Ytkbnegemdlnncaa
/- Numbers modulo p. -/
namespace Go.Proofs.Ytkbnegemdlnncaa
open Go.Abs

theorem tmod_fix {n p : Int} (hp : 0 < p) : Int.tmod (Int.tmod n p + p) p = n % p := by
  have h1 := Int.lt_tmod_of_pos n hp
  rw [Int.tmod_eq_emod_of_nonneg (by omega), Int.tmod_def, Int.add_emod_right, Int.sub_mul_emod_self_left]

/-- Numbers that are small. -/
def Ent (l : List Int) : Prop := ∀ i, 0 ≤ rd l i ∧ rd l i < 256

theorem _root_.Go.Abs.Row.ent {p : Int} {l : List Int} (h : Row p l) (hp : 0 < p ∧ p ≤ 256) : Ent l := fun i => by have := h.rd hp.1 i; omega

def V64.Ent (v : V64) : Prop := ∀ i, i < 64 → 0 ≤ rd v.1 i ∧ rd v.1 i < 256

theorem mulk {x k : Int} (hx : 0 ≤ x ∧ x < 256) (hk : -1099511627776 ≤ k ∧ k ≤ 1099511627776) : -281474976710656 ≤ k * x ∧ k * x ≤ 281474976710656 := by
  have h1 : (-1099511627776) * x ≤ k * x := Int.mul_le_mul_of_nonneg_right hk.1 hx.1
  have h2 : k * x ≤ 1099511627776 * x := Int.mul_le_mul_of_nonneg_right hk.2 hx.1
  omega

theorem _root_.Go.Abs.Res.ent {p : Int} {v : V64} (h : Res p v) (hp : p ≤ 256) : V64.Ent v := fun i hi => by have := h i hi; omega

theorem ent_pad {p : Int} {l : List Int} (h : Row p l) (hp : 0 < p ∧ p ≤ 256) : V64.Ent (pad l) := Res.ent (res_pad h hp.1) hp.2

theorem mul_small {x y : Int} (hx : 0 ≤ x ∧ x < 256) (hy : 0 ≤ y ∧ y < 256) : 0 ≤ x * y ∧ x * y ≤ 65025 :=
  ⟨Int.mul_nonneg hx.1 hy.1, Int.mul_le_mul (c := 255) (d := 255) (by omega) (by omega) hy.1 (by omega)⟩
end Go.Proofs.Ytkbnegemdlnncaa
/- One. -/
namespace Go.Proofs.Ytkbnegemdlnncaa
open Go.Abs

theorem row_one {p : Int} (hp : 2 ≤ p) : Row p [1] := ⟨by simp; omega, by simp [rd]⟩
theorem one_is : spec_l01One = some (pad [1]) := by
  unfold spec_l01One
  congr 1
end Go.Proofs.Ytkbnegemdlnncaa
/- Primes. -/
namespace Go.Proofs.Ytkbnegemdlnncaa
open Go.Abs

theorem isPrime_spec (p : Int) : spec_l01Prime p = some (isP p) := by
  unfold spec_l01Prime isP
  by_cases h1 : p = 2 <;> by_cases h2 : p = 3 <;> by_cases h3 : p = 5 <;> simp [h1, h2, h3]

theorem isPrime_impl (p : Int) : impl_isPrime p = some (isP p) := by
  unfold impl_isPrime isP
  by_cases h1 : p = 2 <;> by_cases h2 : p = 3 <;> by_cases h3 : p = 5 <;> simp [h1, h2, h3]
end Go.Proofs.Ytkbnegemdlnncaa
/- Powers of p; one. -/
namespace Go.Proofs.Ytkbnegemdlnncaa
open Go.Abs

theorem ppow_pos {p : Nat} (hp : 2 ≤ p) (n : Nat) : 1 ≤ p ^ n := Nat.one_le_pow _ _ (by omega)
theorem ppow_mono {p : Nat} (hp : 2 ≤ p) {n m : Nat} (h : n ≤ m) : p ^ n ≤ p ^ m := Nat.pow_le_pow_right (by omega) h
/-- p to a power, at most a bit more than a limit. -/
theorem norm_is {p n most : Nat} (hp : 2 ≤ p ∧ p ≤ 7) (hn : n ≤ 1000000) (hm : most ≤ 1152921504606846976) : ∃ c : Nat, impl_prime_norm p n most = some (c : Int) ∧ ((p ^ n ≤ most ∧ c = p ^ n) ∨ (most < p ^ n ∧ most < c)) ∧ c ≤ 8070450532247928832 := by
  have key : ∀ (m i : Nat), i + m = n → (i = 0 ∨ p ^ (i - 1) ≤ most) → ∃ c : Nat, loopM (fun s : Int × Int => impl_prime_norm_l1 (n : Int) (most : Int) p s.1 s.2) (((p ^ i : Nat) : Int), (i : Int)) = some (c : Int) ∧ ((p ^ n ≤ most ∧ c = p ^ n) ∨ (most < p ^ n ∧ most < c)  ∨ (n = i ∧ c = p ^ n)) ∧ c ≤ 8070450532247928832 := by
    intro m
    induction m with
    | zero =>
      intro i hi hle
      have : i = n := by omega
      subst this
      have step : impl_prime_norm_l1 (i : Int) (most : Int) p ((p ^ i : Nat) : Int) (i : Int) = some (.inr ((p ^ i : Nat) : Int)) := by
        simp only [impl_prime_norm_l1]
        rw [if_neg (by rw [decide_eq_true_eq]; omega)]
      rw [loopM_eq]
      simp only [step, Option.bind_some]
      refine ⟨p ^ i, rfl, ?_, ?_⟩
      · exact .inr (.inr (by simp))
      · rcases hle with rfl | hle
        · simp
        · rcases Nat.eq_zero_or_pos i with rfl | h
          · simp
          · have : p ^ i = p ^ (i - 1) * p := by rw [← Nat.pow_succ]; congr 1; omega
            rw [this]
            have := Nat.mul_le_mul hle hp.2
            omega
    | succ m ih =>
      intro i hi hle
      have hmono := ppow_mono hp.1 (show i ≤ n by omega)
      by_cases h : most < p ^ i
      · have step : impl_prime_norm_l1 (n : Int) (most : Int) p ((p ^ i : Nat) : Int) (i : Int) = some (.inr ((p ^ i : Nat) : Int)) := by
          simp only [impl_prime_norm_l1]
          rw [if_pos (decide_eq_true (by omega)), if_pos (decide_eq_true (by omega))]
        rw [loopM_eq]
        simp only [step, Option.bind_some]
        refine ⟨p ^ i, rfl, .inr (.inl ⟨by omega, h⟩), ?_⟩
        rcases hle with rfl | hle
        · simp
        · rcases Nat.eq_zero_or_pos i with rfl | h
          · simp
          · have : p ^ i = p ^ (i - 1) * p := by rw [← Nat.pow_succ]; congr 1; omega
            rw [this]
            have := Nat.mul_le_mul hle hp.2
            omega
      · have hle2 := Nat.mul_le_mul (show p ^ i ≤ most by omega) hp.2
        have e1 : ((p ^ i : Nat) : Int) * (p : Int) = ((p ^ (i + 1) : Nat) : Int) := by rw [Nat.pow_succ, Int.natCast_mul]
        have e2 : p ^ (i + 1) = p ^ i * p := Nat.pow_succ ..
        have step : impl_prime_norm_l1 (n : Int) (most : Int) p ((p ^ i : Nat) : Int) (i : Int) = some (.inl (((p ^ (i + 1) : Nat) : Int), ((i + 1 : Nat) : Int))) := by
          simp only [impl_prime_norm_l1]
          rw [if_pos (decide_eq_true (by omega)), if_neg (by rw [decide_eq_true_eq]; omega), e1, wrap64 (n := ((p ^ (i + 1) : Nat) : Int)) (by omega) (by omega), wrap64 (by omega) (by omega)]
          rfl
        rw [loopM_eq]
        simp only [step, Option.bind_some]
        obtain ⟨c, h1, h2, h3⟩ := ih (i + 1) (by omega) (.inr (by simp only [Nat.add_sub_cancel]; omega))
        refine ⟨c, h1, ?_, h3⟩
        rcases h2 with h2 | h2 | ⟨h2, h4⟩
        · exact .inl h2
        · exact .inr (.inl h2)
        · by_cases h5 : p ^ n ≤ most
          · exact .inl ⟨h5, h4⟩
          · exact .inr (.inl ⟨by omega, by omega⟩)
  obtain ⟨c, h1, h2, h3⟩ := key n 0 (by omega) (.inl rfl)
  simp only [Nat.pow_zero] at h1
  refine ⟨c, ?_, ?_, h3⟩
  · have h1' : loopM (fun s : Int × Int => impl_prime_norm_l1 (n : Int) (most : Int) p s.1 s.2) (1, 0) = some (c : Int) := h1
    simp only [impl_prime_norm, h1', Option.bind_some]
  · rcases h2 with h2 | h2 | ⟨h2, h4⟩
    · exact .inl h2
    · exact .inr h2
    · by_cases h5 : p ^ n ≤ most
      · exact .inl ⟨h5, h4⟩
      · exact .inr ⟨by omega, by omega⟩
end Go.Proofs.Ytkbnegemdlnncaa
/- Degrees. -/
namespace Go.Proofs.Ytkbnegemdlnncaa
open Go.Abs

theorem deg_loop (a : V64) : ∀ s : Int, (∃ i : Nat, s = (i : Int) - 1 ∧ i ≤ 64) → ∃ r, loopM (fun s : Int => spec_l01Deg_l1 a s) s = some r ∧ ∀ i : Nat, s = (i : Int) - 1 → r = (top (rd a.1) i : Int) - 1 := by
  refine loopM_ind (fun (s : Int) => ∃ i : Nat, s = (i : Int) - 1 ∧ i ≤ 64) (fun (s : Int) (r : Int) => ∀ i : Nat, s = (i : Int) - 1 → r = (top (rd a.1) i : Int) - 1) (fun s => (s + 1).toNat) ?_
  rintro s ⟨i, rfl, hi⟩
  match i with
  | 0 =>
    right
    refine ⟨-1, by simp [spec_l01Deg_l1], fun k hk => ?_⟩
    have : k = 0 := by omega
    subst this; simp [top]
  | i + 1 =>
    have e1 : ((i + 1 : Nat) : Int) - 1 = (i : Int) := by omega
    rw [e1]
    by_cases e : rd a.1 i = 0
    · left
      refine ⟨(i : Int) - 1, ?_, ⟨i, rfl, by omega⟩, by omega, fun r hr k hk => ?_⟩
      · simp only [spec_l01Deg_l1]
        rw [if_pos (by simp), ifp_pos (by omega)]
        simp [e]
        exact wrap64 (by omega) (by omega)
      · have : k = i + 1 := by omega
        subst this
        rw [hr i rfl]; simp [top, e]
    · right
      refine ⟨(i : Int), ?_, fun k hk => ?_⟩
      · simp only [spec_l01Deg_l1]
        rw [if_pos (by simp), ifp_pos (by omega)]
        simp [e]
      · have : k = i + 1 := by omega
        subst this
        simp [top, e]

theorem deg_is (a : V64) : spec_l01Deg a = some ((top (rd a.1) 64 : Int) - 1) := by
  obtain ⟨r, h1, h2⟩ := deg_loop a 63 ⟨64, by omega, by omega⟩
  rw [h2 64 (by omega)] at h1
  simp only [spec_l01Deg, h1, Option.bind_some]
end Go.Proofs.Ytkbnegemdlnncaa
/- Products, in the reference. -/
namespace Go.Proofs.Ytkbnegemdlnncaa
open Go.Abs

/-- One row of the reference's product. -/
theorem timesS_row {p : Int} (hp : 2 ≤ p ∧ p ≤ 256) {a b : V64} (ha : Res p a) (hb : Res p b) {i db : Nat} (hi : i + db < 64) {v : V64} (hv : Res p v) :
    ∃ v', loopM (fun s : Int × V64 => spec_l01Times_l2 (db : Int) (i : Int) a b p s.1 s.2) (0, v) = some v' ∧ Res p v' ∧ ∀ k, k < 64 → rd v'.1 k = if i ≤ k ∧ k ≤ i + db then (rd v.1 k + rd a.1 i * rd b.1 (k - i)) % p else rd v.1 k := by
  by_cases h0 : rd a.1 i = 0
  · refine ⟨v, ?_, hv, fun k hk => ?_⟩
    · rw [loopM_eq]
      simp only [spec_l01Times_l2]
      rw [ifp_pos (by omega)]
      simp [h0]
    · rw [h0]
      split
      · have := hv k hk
        rw [Int.zero_mul, Int.add_zero, Int.emod_eq_of_lt this.1 this.2]
      · rfl
  · have hai := ha i (by omega)
    obtain ⟨v', h1, h2, h3⟩ := loopM_for (body := fun s : Int × V64 => spec_l01Times_l2 (db : Int) (i : Int) a b p s.1 s.2) (fun j (v : V64) => ((j : Int), v)) (fun v => v) (db + 1)
      (fun j u => Res p u ∧ ∀ k, k < 64 → rd u.1 k = if i ≤ k ∧ k < i + j then (rd v.1 k + rd a.1 i * rd b.1 (k - i)) % p else rd v.1 k) (fun j u hj hI => by
        obtain ⟨hr, hk⟩ := hI
        have hbj := hb j (by omega)
        have huj := hr (i + j) (by omega)
        have e1 : IntKind.i64.wrap ((i : Int) + (j : Int)) = ((i + j : Nat) : Int) := by rw [wrap64 (by omega) (by omega)]; omega
        have hm := mul_small (x := rd a.1 i) (y := rd b.1 j) (by omega) (by omega)
        have hmod : Int.tmod (rd u.1 (i + j) + rd a.1 i * rd b.1 j) p = (rd u.1 (i + j) + rd a.1 i * rd b.1 j) % p := Int.tmod_eq_emod_of_nonneg (by omega)
        have hlt := emod_res (show 0 < p by omega) (rd u.1 (i + j) + rd a.1 i * rd b.1 j)
        refine ⟨vset u (i + j) ((rd u.1 (i + j) + rd a.1 i * rd b.1 j) % p), ?_, fun k hk' => ?_, fun k hk' => ?_⟩
        · simp only [spec_l01Times_l2, letp]
          rw [if_pos (by simp; omega), ifp_pos (by omega)]
          simp only [Option.bind_some]
          rw [if_pos (by simpa using h0), e1]
          rw [ifp_pos (by omega), ifp_pos (by omega), ifp_pos (by omega), ifp_pos (by omega), ifp_pos (by omega)]
          simp only [Int.toNat_natCast]
          rw [wrap64 (n := rd u.1 (i + j)) (by omega) (by omega), wrap64 (n := rd a.1 i) (by omega) (by omega), wrap64 (n := rd b.1 j) (by omega) (by omega), wrap64 (n := rd a.1 i * rd b.1 j) (by omega) (by omega), wrap64 (n := rd u.1 (i + j) + rd a.1 i * rd b.1 j) (by omega) (by omega), hmod, wrap8 hlt.1 (by omega), wrap64 (by omega) (by omega)]
          rfl
        · rw [rd_vset _ _ _ _ (by omega)]
          split
          · exact hlt
          · exact hr k hk'
        · rw [rd_vset _ _ _ _ (by omega)]
          by_cases e : k = i + j
          · subst e
            rw [if_pos rfl, if_pos (by omega), hk _ hk', if_neg (by omega), show i + j - i = j by omega]
          · rw [if_neg e, hk k hk']
            by_cases hc : i ≤ k ∧ k < i + j
            · rw [if_pos hc, if_pos (by omega)]
            · rw [if_neg hc, if_neg (by omega)]) (fun u hI => by
        simp only [spec_l01Times_l2]
        rw [if_neg (by simp; omega)]
        rfl) (db + 1) 0 v (by omega) ⟨hv, fun k hk => by rw [if_neg (by omega)]⟩
    exact ⟨v', h1, h2, fun k hk => by rw [h3 k hk]; simp only [show (i ≤ k ∧ k < i + (db + 1)) = (i ≤ k ∧ k ≤ i + db) from by rw [eq_iff_iff]; omega]⟩


theorem times_pad {p : Int} (hp : 2 ≤ p ∧ p ≤ 256) {a b : List Int} (ha : Row p a) (hb : Row p b) (la : a.length ≤ 64) (lb : b.length ≤ 64) (hl : a.length = 0 ∨ b.length = 0 ∨ a.length + b.length ≤ 65) :
    spec_l01Times p (pad a) (pad b) = some (pad (mul p a b), true) := by
  have hta : top (rd (pad a).1) 64 = a.length := by rw [top_congr 64 fun i hi => rd_padl a hi, ha.top la]
  have htb : top (rd (pad b).1) 64 = b.length := by rw [top_congr 64 fun i hi => rd_padl b hi, hb.top lb]
  simp only [spec_l01Times, deg_is, Option.bind_some, hta, htb]
  by_cases h1 : a.length = 0
  · have e : a = [] := List.eq_nil_of_length_eq_zero h1
    subst e
    simp [mul_nil, pad_nil]
  by_cases h2 : b.length = 0
  · have e : b = [] := List.eq_nil_of_length_eq_zero h2
    subst e
    simp [mul_nil', pad_nil]
  have hra := res_pad ha (show 0 < p by omega)
  have hrb := res_pad hb (show 0 < p by omega)
  obtain ⟨db, hdb⟩ : ∃ db : Nat, b.length = db + 1 := ⟨b.length - 1, by omega⟩
  obtain ⟨da, hda⟩ : ∃ da : Nat, a.length = da + 1 := ⟨a.length - 1, by omega⟩
  have e1 : ((a.length : Nat) : Int) - 1 = (da : Int) := by omega
  have e2 : ((b.length : Nat) : Int) - 1 = (db : Int) := by omega
  rw [e1, e2, wrap64 (by omega) (by omega)]
  simp only [show (decide ((da : Int) < 0)) = false by simp, Bool.false_eq_true, if_false, show (decide ((db : Int) < 0)) = false by simp, show (decide ((da : Int) + (db : Int) > 63)) = false by simp; omega, Option.bind_some]
  obtain ⟨v, h3, h4, h5⟩ := loopM_for (body := fun s : Int × V64 => spec_l01Times_l1 (da : Int) (db : Int) (pad a) (pad b) p s.1 s.2) (fun i v => ((i : Int), v)) (fun v => v) (da + 1)
    (fun i v => Res p v ∧ ∀ k, k < 64 → rd v.1 k = cv (rd a) (rd b) i k % p) (fun i v hi hI => by
      obtain ⟨hv, hk⟩ := hI
      obtain ⟨v', g1, g2, g3⟩ := timesS_row hp hra hrb (i := i) (db := db) (by omega) hv
      refine ⟨v', ?_, g2, fun k hk' => ?_⟩
      · simp only [spec_l01Times_l1]
        rw [if_pos (by simp; omega), g1]
        simp only [Option.bind_some]
        rw [wrap64 (by omega) (by omega)]; rfl
      · rw [g3 k hk', hk k hk', cv_succ]
        by_cases hc : i ≤ k ∧ k ≤ i + db
        · rw [if_pos hc, if_pos hc.1, rd_padl _ (by omega), rd_padl _ (by omega), Int.emod_add_emod]
        · rw [if_neg hc]
          by_cases hik : i ≤ k
          · rw [if_pos hik, rd_ge (l := b) (by omega), Int.mul_zero, Int.add_zero]
          · rw [if_neg hik, Int.add_zero]) (fun v hI => by
      simp only [spec_l01Times_l1]
      rw [if_neg (by simp; omega)]) (da + 1) 0 (vrep 64 0) (by omega) ⟨fun j hj => by rw [rd_vrep _ hj]; omega, fun k hk => by rw [rd_vrep _ hk]; simp [cv, sumTo]⟩
  have h3' : loopM (fun s : Int × V64 => spec_l01Times_l1 (da : Int) (db : Int) (pad a) (pad b) p s.1 s.2) (0, vrep 64 0) = some v := h3
  rw [h3']
  simp only [Option.bind_some]
  congr 2
  exact vec_ext fun k hk => by rw [h5 k hk, rd_padl _ hk, mul_rd, cv_conv fun i hi => rd_ge (by omega)]

theorem times_pad_no {p : Int} {a b : List Int} (ha : Row p a) (hb : Row p b) (la : a.length ≤ 64) (lb : b.length ≤ 64) (h1 : a.length ≠ 0) (h2 : b.length ≠ 0) (hl : 65 < a.length + b.length) :
    spec_l01Times p (pad a) (pad b) = some (vrep 64 0, false) := by
  have hta : top (rd (pad a).1) 64 = a.length := by rw [top_congr 64 fun i hi => rd_padl a hi, ha.top la]
  have htb : top (rd (pad b).1) 64 = b.length := by rw [top_congr 64 fun i hi => rd_padl b hi, hb.top lb]
  simp only [spec_l01Times, deg_is, Option.bind_some, hta, htb]
  rw [wrap64 (by omega) (by omega)]
  simp only [show (decide (((a.length : Nat) : Int) - 1 < 0)) = false by simp; omega, Bool.false_eq_true, if_false, show (decide (((b.length : Nat) : Int) - 1 < 0)) = false by simp; omega, show (decide (((a.length : Nat) : Int) - 1 + (((b.length : Nat) : Int) - 1) > 63)) = true by simp; omega, Option.bind_some, if_true]
end Go.Proofs.Ytkbnegemdlnncaa
/- Rows without the zeros at their ends. -/
namespace Go.Proofs.Ytkbnegemdlnncaa
open Go.Abs

def IsB (v : V64) : Prop := ∀ d ∈ v.1, 0 ≤ d ∧ d < 256

theorem IsB.rd {v : V64} (h : IsB v) {j : Nat} (hj : j < 64) : 0 ≤ rd v.1 j ∧ rd v.1 j < 256 := by
  have hl : j < v.1.length := by rw [v.2]; exact hj
  have : Abs.rd v.1 j = v.1[j] := by simp [Abs.rd, hl]
  rw [this]; exact h _ (List.getElem_mem _)

theorem trimmed_loop {l : List Int} (hl : l.length ≤ 1000000) : ∀ s : Int, (∃ i : Nat, s = i ∧ i ≤ l.length) → ∃ r, loopM (fun s : Int => impl_row_trimmed_l1 l s) s = some r ∧ ∀ i : Nat, s = i → r = (top (rd l) i : Int) := by
  refine loopM_ind (fun (s : Int) => ∃ i : Nat, s = i ∧ i ≤ l.length) (fun (s : Int) (r : Int) => ∀ i : Nat, s = i → r = (top (rd l) i : Int)) (fun s => s.toNat) ?_
  rintro s ⟨i, rfl, hi⟩
  match i with
  | 0 =>
    right
    refine ⟨0, by simp [impl_row_trimmed_l1], fun k hk => ?_⟩
    have : k = 0 := by omega
    subst this; simp [top]
  | i + 1 =>
    have e1 : IntKind.i64.wrap (((i + 1 : Nat) : Int) - 1) = (i : Int) := by rw [wrap64 (by omega) (by omega)]; omega
    by_cases e : rd l i = 0
    · left
      refine ⟨(i : Int), ?_, ⟨i, rfl, by omega⟩, by omega, fun r hr k hk => ?_⟩
      · simp only [impl_row_trimmed_l1, e1]
        rw [if_pos (by simp), ifp_pos (by omega)]
        simp [e]
      · have : k = i + 1 := by omega
        subst this
        rw [hr i rfl]; simp [top, e]
    · right
      refine ⟨((i + 1 : Nat) : Int), ?_, fun k hk => ?_⟩
      · simp only [impl_row_trimmed_l1, e1]
        rw [if_pos (by simp), ifp_pos (by omega)]
        simp [e]
      · have : k = i + 1 := by omega
        subst this
        simp [top, e]

theorem trimmed_is {l : List Int} (hl : l.length ≤ 1000000) : impl_row_trimmed l = some (l.take (top (rd l) l.length)) := by
  obtain ⟨r, h1, h2⟩ := trimmed_loop hl (l.length : Nat) ⟨l.length, rfl, Nat.le_refl _⟩
  rw [h2 _ rfl] at h1
  have := top_le (rd l) l.length
  simp only [impl_row_trimmed, h1, Option.bind_some]
  rw [ifp_pos (by omega)]
  simp

theorem rowOf_loop {a : V64} (hb : IsB a) : ∀ s : Int × List Int, (∃ i : Nat, s.1 = i ∧ i ≤ 64 ∧ s.2 = a.1.take i) → ∃ r, loopM (fun s : Int × List Int => impl_rowOf_l1 a s.1 s.2) s = some r ∧ r = a.1 := by
  refine loopM_ind (fun (s : Int × List Int) => ∃ i : Nat, s.1 = i ∧ i ≤ 64 ∧ s.2 = a.1.take i) (fun (s : Int × List Int) (r : List Int) => r = a.1) (fun (s : Int × List Int) => 64 - s.1.toNat) ?_
  rintro ⟨x, v⟩ ⟨i, hx, hi, hv⟩
  simp only at hx hv
  subst hx hv
  by_cases h : i = 64
  · right
    subst h
    exact ⟨a.1, by simp [impl_rowOf_l1, List.take_of_length_le (Nat.le_of_eq a.2)], rfl⟩
  · left
    have hil : i < a.1.length := by rw [a.2]; omega
    have er : rd a.1 i = a.1[i] := by simp [rd, hil]
    have hbi := hb.rd (show i < 64 by omega)
    refine ⟨(((i + 1 : Nat) : Int), a.1.take (i + 1)), ?_, ⟨i + 1, rfl, by omega, rfl⟩, by simp; omega, fun r hr => hr⟩
    simp only [impl_rowOf_l1]
    rw [if_pos (by simp; omega), ifp_pos (by omega), ifp_pos (by simp; omega)]
    rw [Int.toNat_natCast, wrap64 (by omega) (by omega), wrap64 (by omega) (by omega), er, List.take_succ_eq_append_getElem hil]
    simp

theorem rowOf_is {a : V64} (hb : IsB a) : impl_rowOf a = some (a.1.take (top (rd a.1) 64)) := by
  obtain ⟨r, h1, h2⟩ := rowOf_loop hb (0, []) ⟨0, rfl, by omega, by simp⟩
  subst h2
  have h3 := trimmed_is (l := a.1) (by rw [a.2]; omega)
  rw [a.2] at h3
  simp only [impl_rowOf, h1, Option.bind_some, h3]
end Go.Proofs.Ytkbnegemdlnncaa
/- Products, in the program. -/
namespace Go.Proofs.Ytkbnegemdlnncaa
open Go.Abs


theorem cv_small {a b : Nat → Int} (ha : ∀ i, 0 ≤ a i ∧ a i < 256) (hb : ∀ i, 0 ≤ b i ∧ b i < 256) (k : Nat) : ∀ n : Nat, 0 ≤ cv a b n k ∧ cv a b n k ≤ n * 65025
  | 0 => by simp [cv, sumTo]
  | n + 1 => by
    rw [cv_succ]
    have h1 := cv_small ha hb k n
    have h2 := mul_small (ha n) (hb (k - n))
    split <;> omega

/-- The program's product. -/
theorem times_is {p : Int} (hp : 2 ≤ p ∧ p ≤ 256) {a b : List Int} (ha : Ent a) (hb : Ent b) (la : a.length ≤ 500000) (lb : b.length ≤ 500000) : impl_prime_times p a b = some (mul p a b) := by
  simp only [impl_prime_times, letp]
  by_cases h1 : a.length = 0
  · have e : a = [] := List.eq_nil_of_length_eq_zero h1
    subst e
    simp [mul_nil]
  by_cases h2 : b.length = 0
  · have e : b = [] := List.eq_nil_of_length_eq_zero h2
    subst e
    simp [mul_nil']
  obtain ⟨n, hn⟩ : ∃ n : Nat, n = a.length + b.length - 1 := ⟨_, rfl⟩
  have e0 : IntKind.i64.wrap (IntKind.i64.wrap ((a.length : Int) + (b.length : Int)) - 1) = (n : Int) := by
    rw [wrap64 (n := (a.length : Int) + (b.length : Int)) (by omega) (by omega), wrap64 (by omega) (by omega)]; omega
  rw [e0]
  have c1 : (if ((a.length : Int) == 0) = true then some true else some ((b.length : Int) == 0)) = some false := by
    rw [if_neg (by rw [beq_iff_eq]; omega)]
    congr 1
    rw [beq_eq_false_iff_ne]; omega
  rw [c1]
  simp only [Bool.false_eq_true, if_false, Option.bind_some, Int.toNat_natCast]
  rw [ifp_pos (by omega)]
  -- one row
  have hrow : ∀ (i : Nat) (s : List Int), i < a.length → s.length = n → (∀ k, rd s k = cv (rd a) (rd b) i k) →
      ∃ s', loopM (fun s : Int × List Int => impl_prime_times_l2 b (i : Int) a s.1 s.2) (0, s) = some s' ∧ s'.length = n ∧ ∀ k, rd s' k = cv (rd a) (rd b) (i + 1) k := by
    intro i s hi hsl hs
    have hai := ha i
    obtain ⟨s', g1, g2, g3⟩ := loopM_for (body := fun s : Int × List Int => impl_prime_times_l2 b (i : Int) a s.1 s.2) (fun j (u : List Int) => ((j : Int), u)) (fun u => u) b.length
      (fun j u => u.length = n ∧ ∀ k, rd u k = if i ≤ k ∧ k < i + j then cv (rd a) (rd b) (i + 1) k else cv (rd a) (rd b) i k) (fun j u hj hI => by
        obtain ⟨hul, hu⟩ := hI
        have hbj := hb j
        have hm := mul_small hai hbj
        have hc := cv_small ha hb (i + j) i
        have e1 : IntKind.i64.wrap ((i : Int) + (j : Int)) = ((i + j : Nat) : Int) := by rw [wrap64 (by omega) (by omega)]; omega
        have huj := hu (i + j)
        rw [if_neg (by omega)] at huj
        have e2 : cv (rd a) (rd b) (i + 1) (i + j) = cv (rd a) (rd b) i (i + j) + rd a i * rd b j := by
          rw [cv_succ, if_pos (by omega), show i + j - i = j by omega]
        refine ⟨u.set (i + j) (cv (rd a) (rd b) (i + 1) (i + j)), ?_, by simpa using hul, fun k => ?_⟩
        · simp only [impl_prime_times_l2, letp]
          rw [if_pos (by simp; omega), e1]
          rw [ifp_pos (by omega), ifp_pos (by omega), ifp_pos (by omega)]
          simp only [Int.toNat_natCast]
          rw [huj, wrap64 (n := rd a i * rd b j) (by omega) (by omega), wrap64 (n := cv (rd a) (rd b) i (i + j) + rd a i * rd b j) (by omega) (by omega), wrap64 (by omega) (by omega), e2]
          rfl
        · rw [rd_set _ _ _ _ (by omega)]
          by_cases e : k = i + j
          · subst e
            rw [if_pos rfl, if_pos (by omega)]
          · rw [if_neg e, hu k]
            by_cases hc : i ≤ k ∧ k < i + j
            · rw [if_pos hc, if_pos (by omega)]
            · rw [if_neg hc, if_neg (by omega)]) (fun u hI => by
        simp only [impl_prime_times_l2]
        rw [if_neg (by simp)]) b.length 0 s (by omega) ⟨hsl, fun k => by rw [hs k, if_neg (by omega)]⟩
    refine ⟨s', g1, g2, fun k => ?_⟩
    rw [g3 k]
    split
    · rfl
    · rename_i hc
      rw [cv_succ]
      by_cases hik : i ≤ k
      · rw [if_pos hik, rd_ge (l := b) (by omega), Int.mul_zero, Int.add_zero]
      · rw [if_neg hik, Int.add_zero]
  obtain ⟨s, h3, h4, h5⟩ := loopM_for (body := fun s : Int × List Int => impl_prime_times_l1 a b s.1 s.2) (fun i (u : List Int) => ((i : Int), u)) (fun u => u) a.length
    (fun i u => u.length = n ∧ ∀ k, rd u k = cv (rd a) (rd b) i k) (fun i u hi hI => by
      obtain ⟨u', g1, g2, g3⟩ := hrow i u hi hI.1 hI.2
      refine ⟨u', ?_, g2, g3⟩
      simp only [impl_prime_times_l1]
      rw [if_pos (by simp; omega), ifp_pos (by omega), g1]
      simp only [Option.bind_some]
      rw [wrap64 (by omega) (by omega)]; rfl) (fun u hI => by
      simp only [impl_prime_times_l1]
      rw [if_neg (by simp)]) a.length 0 (List.replicate n 0) (by omega) ⟨by simp, fun k => by rw [rd_rep]; simp [cv, sumTo]⟩
  have h3' : loopM (fun s : Int × List Int => impl_prime_times_l1 a b s.1 s.2) (0, List.replicate n 0) = some s := h3
  rw [h3']
  simp only [Option.bind_some]
  obtain ⟨t, h6, h7, h8⟩ := loopM_for (body := fun q : Int × List Int => impl_prime_times_l3 s p q.1 q.2) (fun i (u : List Int) => ((i : Int), u)) (fun u => u) n
    (fun i u => u.length = n ∧ ∀ k, rd u k = if k < i then cv (rd a) (rd b) a.length k % p else cv (rd a) (rd b) a.length k) (fun i u hi hI => by
      obtain ⟨hul, hu⟩ := hI
      have hui := hu i
      rw [if_neg (by omega)] at hui
      have hc := cv_small ha hb i a.length
      refine ⟨u.set i (cv (rd a) (rd b) a.length i % p), ?_, by simpa using hul, fun k => ?_⟩
      · simp only [impl_prime_times_l3]
        rw [if_pos (by simp; omega), ifp_pos (by omega), ifp_pos (by omega), ifp_pos (by omega)]
        simp only [Int.toNat_natCast]
        rw [hui, Int.tmod_eq_emod_of_nonneg hc.1, wrap64 (by omega) (by omega)]; rfl
      · rw [rd_set _ _ _ _ (by omega), hu k]
        by_cases e : k = i
        · subst e; simp
        · rw [if_neg e]
          simp only [show (k < i + 1) = (k < i) from by rw [eq_iff_iff]; omega]) (fun u hI => by
      simp only [impl_prime_times_l3]
      rw [if_neg (by simp; omega)]) n 0 s (by omega) ⟨h4, fun k => by rw [h5 k, if_neg (by omega)]⟩
  have h6' : loopM (fun q : Int × List Int => impl_prime_times_l3 s p q.1 q.2) (0, s) = some t := h6
  rw [h6']
  simp only [Option.bind_some]
  rw [trimmed_is (by omega), trim_eq, h7]
  simp only [Option.bind_some]
  congr 1
  rw [mul, ← hn]
  exact ofF_congr fun k hk => by rw [h8 k, if_pos hk, cv_conv fun i hi => rd_ge (by omega)]
end Go.Proofs.Ytkbnegemdlnncaa
/- Powers of polynomials. -/
namespace Go.Proofs.Ytkbnegemdlnncaa
open Go.Abs

def pow (p : Int) (a : List Int) : Nat → List Int
  | 0 => [1]
  | k + 1 => mul p (pow p a k) a
theorem pow_row {p : Int} (hp : 2 ≤ p) (a : List Int) : ∀ k, Row p (pow p a k)
  | 0 => row_one hp
  | k + 1 => mul_row (by omega) _ _
theorem pow_len (p : Int) (a : List Int) : ∀ k, (pow p a k).length ≤ 1 + k * (a.length - 1)
  | 0 => by simp [pow]
  | k + 1 => by
    have h1 := pow_len p a k
    have h2 := mul_len p (pow p a k) a
    rw [Nat.succ_mul]
    simp only [pow]
    rcases Nat.eq_zero_or_pos a.length with h | h
    · have e : a = [] := List.eq_nil_of_length_eq_zero h
      subst e
      rw [mul_nil']; simp
    · omega
theorem raised_is {p : Int} (hp : 2 ≤ p ∧ p ≤ 7) {a : List Int} (ha : Row p a) (la : a.length ≤ 1000) {k : Nat} (hk : k ≤ 400) : impl_prime_raised p a k = some (pow p a k) := by
  obtain ⟨s, h1, h2⟩ := loopM_for (body := fun s : List Int × Int => impl_prime_raised_l1 (k : Int) p a s.1 s.2) (fun i s => (s, (i : Int))) (fun s => s) k
    (fun i s => s = pow p a i) (fun i s hi hI => by
      subst hI
      have hl := pow_len p a i
      have hm : i * (a.length - 1) ≤ 400 * 1000 := Nat.mul_le_mul (by omega) (by omega)
      refine ⟨pow p a (i + 1), ?_, rfl⟩
      simp only [impl_prime_raised_l1]
      rw [if_pos (by simp; omega), times_is ⟨hp.1, by omega⟩ ((pow_row hp.1 a i).ent ⟨by omega, by omega⟩) (ha.ent ⟨by omega, by omega⟩) (by omega) (by omega)]
      simp only [Option.bind_some]
      rw [wrap64 (by omega) (by omega)]; rfl) (fun s hI => by
      simp only [impl_prime_raised_l1]
      rw [if_neg (by simp)]) k 0 [1] (by omega) rfl
  have h1' : loopM (fun s : List Int × Int => impl_prime_raised_l1 (k : Int) p a s.1 s.2) ([1], 0) = some s := h1
  simp only [impl_prime_raised, h1', Option.bind_some, h2]
theorem power_is {p : Int} (hp : 2 ≤ p ∧ p ≤ 7) {a : List Int} (ha : Row p a) (la : a.length ≤ 64) {k : Nat} (hk : k * (a.length - 1) ≤ 63) (hk2 : k ≤ 1000000) : spec_l08Power p (pad a) k = some (pad (pow p a k), true) := by
  have key : ∀ (m i : Nat), i + m = k → loopM (fun s : Int × V64 => spec_l08Power_l1 p (pad a) s.1 s.2) ((m : Int), pad (pow p a i)) = some (.inl (pad (pow p a k))) := by
    intro m
    induction m with
    | zero =>
      intro i hi
      have : i = k := by omega
      subst this
      have step : spec_l08Power_l1 p (pad a) ((0 : Nat) : Int) (pad (pow p a i)) = some (.inr (.inl (pad (pow p a i)))) := by simp [spec_l08Power_l1]
      rw [loopM_eq]
      simp only [step, Option.bind_some]
    | succ m ih =>
      intro i hi
      have hl := pow_len p a i
      have hm : (i + 1) * (a.length - 1) ≤ k * (a.length - 1) := Nat.mul_le_mul_right _ (by omega)
      rw [Nat.succ_mul] at hm
      have hl2 : (pow p a i).length = 0 ∨ a.length = 0 ∨ (pow p a i).length + a.length ≤ 65 := by omega
      have step : spec_l08Power_l1 p (pad a) ((m + 1 : Nat) : Int) (pad (pow p a i)) = some (.inl ((m : Int), pad (pow p a (i + 1)))) := by
        have e : IntKind.i64.wrap (((m + 1 : Nat) : Int) - 1) = (m : Int) := by rw [wrap64 (by omega) (by omega)]; omega
        simp only [spec_l08Power_l1]
        rw [if_pos (decide_eq_true (by omega)), times_pad ⟨hp.1, by omega⟩ (pow_row hp.1 a i) ha (by omega) la hl2]
        simp only [Option.bind_some, Bool.not_true, Bool.false_eq_true, if_false, e]
        rfl
      rw [loopM_eq]
      simp only [step, Option.bind_some]
      exact ih (i + 1) (by omega)
  simp only [spec_l08Power, one_is, Option.bind_some]
  have := key k 0 (by omega)
  simp only [pow] at this
  rw [this]
  rfl

/-! Powers of p. -/
end Go.Proofs.Ytkbnegemdlnncaa
/- Powers p^i of polynomials: T is replaced by T^(p^i). -/
namespace Go.Proofs.Ytkbnegemdlnncaa
open Go.Abs

def sprF (a : List Int) (q : Nat) (j : Nat) : Int := if j % q = 0 then rd a (j / q) else 0
def spr (a : List Int) (q : Nat) : List Int := ofF ((a.length - 1) * q + 1) (sprF a q)
theorem sprF_zero {a : List Int} {q : Nat} (hq : 0 < q) {j : Nat} (hj : (a.length - 1) * q + 1 ≤ j) : sprF a q j = 0 := by
  unfold sprF
  split
  · rename_i h
    rw [rd_ge]
    have h1 := Nat.div_add_mod j q
    rw [h, Nat.add_zero] at h1
    rcases Nat.lt_or_ge (j / q) a.length with h2 | h2
    · have h3 : q * (j / q) ≤ q * (a.length - 1) := Nat.mul_le_mul_left _ (by omega)
      rw [Nat.mul_comm q (a.length - 1)] at h3
      omega
    · exact h2
  · rfl
theorem spr_rd {a : List Int} {q : Nat} (hq : 0 < q) (j : Nat) : rd (spr a q) j = sprF a q j := rd_ofF (fun _ h => sprF_zero hq h) j
theorem spr_row {p : Int} (hp : 0 < p) {a : List Int} (ha : Row p a) (q : Nat) : Row p (spr a q) := row_ofF fun i _ => by
  unfold sprF
  split
  · exact ha.rd hp _
  · omega
theorem spr_len {p : Int} {a : List Int} (ha : Row p a) (h0 : a.length ≠ 0) {q : Nat} (hq : 0 < q) : (spr a q).length = (a.length - 1) * q + 1 := by
  rw [spr, ofF_len]
  refine top_is (Nat.le_refl _) (fun i h1 h2 => by omega) fun _ => ?_
  simp only [Nat.add_sub_cancel, sprF, Nat.mul_mod_left, if_true, Nat.mul_div_cancel _ hq]
  exact ha.nrm h0
theorem spr_nil (q : Nat) : spr [] q = [] := by
  simp [spr, ofF, top, sprF, rd]

theorem spread_is {p i : Nat} (hp : 2 ≤ p ∧ p ≤ 7) (hi : i ≤ 1000000) {a : List Int} (ha : Row p a) (la : a.length ≤ 1000) (hq : p ^ i ≤ 1000000) : impl_prime_spread p a i = some (spr a (p ^ i)) := by
  by_cases h0 : a.length = 0
  · have : a = [] := List.eq_nil_of_length_eq_zero h0
    subst this
    simp [impl_prime_spread, spr_nil]
  · obtain ⟨c, h1, h2, _⟩ := norm_is (n := i) (most := 1099511627776) hp hi (by omega)
    have hc : c = p ^ i := by omega
    subst hc
    have hpos := ppow_pos hp.1 i
    generalize hqq : p ^ i = q at *
    have h1' : impl_prime_norm p i 1099511627776 = some (q : Int) := h1
    have hm : (a.length - 1) * q ≤ 999 * 1000000 := Nat.mul_le_mul (by omega) hq
    have e1 : IntKind.i64.wrap ((a.length : Int) - 1) = ((a.length - 1 : Nat) : Int) := by rw [wrap64 (by omega) (by omega)]; omega
    have e2 : IntKind.i64.wrap (IntKind.i64.wrap (((a.length - 1 : Nat) : Int) * (q : Int)) + 1) = (((a.length - 1) * q + 1 : Nat) : Int) := by
      rw [← Int.natCast_mul, wrap64 (n := (((a.length - 1) * q : Nat) : Int)) (by omega) (by omega), wrap64 (by omega) (by omega)]; omega
    obtain ⟨n, hn⟩ : ∃ n : Nat, n = (a.length - 1) * q + 1 := ⟨_, rfl⟩
    simp only [impl_prime_spread]
    rw [if_neg (by rw [beq_iff_eq]; omega), h1']
    simp only [Option.bind_some, impl_row_degree]
    rw [e1, e2, ← hn, ifp_pos (by omega), Int.toNat_natCast]
    have hsmall : ∀ k : Nat, k < a.length → k * q ≤ (a.length - 1) * q := fun k hk => Nat.mul_le_mul_right _ (by omega)
    obtain ⟨s, g1, g2, g3⟩ := loopM_for (body := fun s : Int × List Int => impl_prime_spread_l1 a (q : Int) s.1 s.2) (fun i s => ((i : Int), s)) (fun s => s) a.length
      (fun k s => s.length = n ∧ ∀ j, rd s j = if j % q = 0 ∧ j / q < k then rd a (j / q) else 0) (fun k s hk hI => by
        obtain ⟨hl, hr⟩ := hI
        have h4 := hsmall k hk
        refine ⟨s.set (k * q) (rd a k), ?_, by simpa using hl, fun j => ?_⟩
        · have e3 : IntKind.i64.wrap ((k : Int) * (q : Int)) = ((k * q : Nat) : Int) := by rw [← Int.natCast_mul, wrap64 (by omega) (by omega)]
          simp only [impl_prime_spread_l1]
          rw [if_pos (decide_eq_true (by omega)), ifp_pos (by omega), e3, ifp_pos (by omega), wrap64 (by omega) (by omega)]
          rfl
        · rw [rd_set _ _ _ _ (by omega), hr j]
          by_cases e : j = k * q
          · subst e
            rw [if_pos rfl, if_pos ⟨Nat.mul_mod_left _ _, by rw [Nat.mul_div_cancel _ (by omega)]; omega⟩, Nat.mul_div_cancel _ (by omega)]
          · rw [if_neg e]
            by_cases hm0 : j % q = 0
            · have h5 := Nat.div_add_mod j q
              rw [hm0, Nat.add_zero] at h5
              have : j / q ≠ k := fun h => e (by rw [← h5, h, Nat.mul_comm])
              simp only [hm0, true_and, show (j / q < k + 1) = (j / q < k) from by rw [eq_iff_iff]; omega]
            · rw [if_neg (fun h => hm0 h.1), if_neg (fun h => hm0 h.1)]) (fun s hI => by
        simp only [impl_prime_spread_l1]
        rw [if_neg (by rw [decide_eq_true_eq]; omega)]) a.length 0 (List.replicate n 0) (by omega) ⟨by simp, fun j => by rw [rd_rep, if_neg (fun h => Nat.not_lt_zero _ h.2)]⟩
    have g1' : loopM (fun s : Int × List Int => impl_prime_spread_l1 a (q : Int) s.1 s.2) (0, List.replicate n 0) = some s := g1
    rw [g1']
    simp only [Option.bind_some]
    congr 1
    refine rd_ext (by rw [g2, hn, spr_len ha h0 (by omega)]) fun j _ => ?_
    rw [g3 j, spr_rd (by omega)]
    unfold sprF
    by_cases hm0 : j % q = 0
    · simp only [hm0, true_and, if_true]
      by_cases h5 : j / q < a.length
      · rw [if_pos h5]
      · rw [if_neg h5, rd_ge (by omega)]
    · rw [if_neg (fun h => hm0 h.1), if_neg hm0]

theorem raise_loop {p : Nat} (hp : 2 ≤ p ∧ p ≤ 7) {i : Nat} (hi : i ≤ 1000000) {k : Nat} (hk : 1 ≤ k ∧ k ≤ 63) :
    loopM (fun s : Int × Int => spec_l04Raise_l2 (i : Int) p s.1 s.2) ((k : Int), 0) = some (if k * p ^ i ≤ 63 then .inl ((k * p ^ i : Nat) : Int) else .inr (vrep 64 0, false)) := by
  have key : ∀ (m j : Nat), j + m = i → k * p ^ j ≤ 63 → loopM (fun s : Int × Int => spec_l04Raise_l2 (i : Int) p s.1 s.2) (((k * p ^ j : Nat) : Int), (j : Int)) = some (if k * p ^ i ≤ 63 then .inl ((k * p ^ i : Nat) : Int) else .inr (vrep 64 0, false)) := by
    intro m
    induction m with
    | zero =>
      intro j hj hle
      have : j = i := by omega
      subst this
      have step : spec_l04Raise_l2 (j : Int) p ((k * p ^ j : Nat) : Int) (j : Int) = some (.inr (.inl ((k * p ^ j : Nat) : Int))) := by
        simp only [spec_l04Raise_l2]
        rw [if_neg (by rw [decide_eq_true_eq]; omega)]
        rfl
      rw [loopM_eq]
      simp only [step, Option.bind_some]
      rw [if_pos hle]
    | succ m ih =>
      intro j hj hle
      have hpos : 1 ≤ k * p ^ j := by
        have := Nat.mul_le_mul hk.1 (ppow_pos hp.1 j); omega
      have e1 : ((k * p ^ j : Nat) : Int) * (p : Int) = ((k * p ^ (j + 1) : Nat) : Int) := by rw [Nat.pow_succ, ← Nat.mul_assoc, Int.natCast_mul (k * p ^ j)]
      have hb : k * p ^ (j + 1) ≤ 63 * 7 := by
        rw [Nat.pow_succ, ← Nat.mul_assoc]; exact Nat.mul_le_mul hle hp.2
      have hmono : k * p ^ (j + 1) ≤ k * p ^ i := Nat.mul_le_mul_left _ (ppow_mono hp.1 (by omega))
      by_cases h : k * p ^ (j + 1) ≤ 63
      · have step : spec_l04Raise_l2 (i : Int) p ((k * p ^ j : Nat) : Int) (j : Int) = some (.inl (((k * p ^ (j + 1) : Nat) : Int), ((j + 1 : Nat) : Int))) := by
          simp only [spec_l04Raise_l2]
          rw [if_pos (decide_eq_true (by omega))]
          simp only [Option.bind_some]
          rw [if_pos (decide_eq_true (by omega)), e1, wrap64 (n := ((k * p ^ (j + 1) : Nat) : Int)) (by omega) (by omega), if_neg (by rw [decide_eq_true_eq]; omega), wrap64 (by omega) (by omega)]
          rfl
        rw [loopM_eq]
        simp only [step, Option.bind_some]
        exact ih (j + 1) (by omega) h
      · have step : spec_l04Raise_l2 (i : Int) p ((k * p ^ j : Nat) : Int) (j : Int) = some (.inr (.inr (vrep 64 0, false))) := by
          simp only [spec_l04Raise_l2]
          rw [if_pos (decide_eq_true (by omega))]
          simp only [Option.bind_some]
          rw [if_pos (decide_eq_true (by omega)), e1, wrap64 (n := ((k * p ^ (j + 1) : Nat) : Int)) (by omega) (by omega), if_pos (decide_eq_true (by omega))]
        rw [loopM_eq]
        simp only [step, Option.bind_some]
        rw [if_neg (by omega)]
  have := key i 0 (by omega) (by simp; omega)
  simpa using this
theorem raise_loop0 {p i : Int} : loopM (fun s : Int × Int => spec_l04Raise_l2 i p s.1 s.2) (0, 0) = some (.inl 0) := by
  have step : spec_l04Raise_l2 i p 0 0 = some (.inr (.inl 0)) := by
    simp only [spec_l04Raise_l2]
    split <;> rfl
  rw [loopM_eq]
  simp only [step, Option.bind_some]

theorem raise_gen {p i : Nat} (hp : 2 ≤ p ∧ p ≤ 7) (hi : i ≤ 1000000) {a : List Int} (ha : Row p a) (la : a.length ≤ 64) :
    spec_l04Raise p (pad a) i = some (if a.length ≤ 1 ∨ (a.length - 1) * p ^ i ≤ 63 then (pad (spr a (p ^ i)), true) else (vrep 64 0, false)) := by
  have hta : top (rd (pad a).1) 64 = a.length := by rw [top_congr 64 fun i hi => rd_padl a hi, ha.top la]
  have hpos := ppow_pos hp.1 i
  generalize hqq : p ^ i = q at *
  have key : ∀ (m k : Nat) (v : V64), k + m = a.length → (∀ j, j < 64 → rd v.1 j = if j % q = 0 ∧ j / q < k then rd a (j / q) else 0) →
      loopM (fun s : Int × V64 => spec_l04Raise_l1 ((a.length : Int) - 1) (pad a) (i : Int) p s.1 s.2) ((k : Int), v) = some (if a.length ≤ 1 ∨ (a.length - 1) * q ≤ 63 then .inl (pad (spr a q)) else if m = 0 then .inl v else .inr (vrep 64 0, false)) := by
    intro m
    induction m with
    | zero =>
      intro k v hk hv
      have step : spec_l04Raise_l1 ((a.length : Int) - 1) (pad a) (i : Int) p (k : Int) v = some (.inr (.inl v)) := by
        simp only [spec_l04Raise_l1]
        rw [if_neg (by rw [decide_eq_true_eq]; omega)]
      rw [loopM_eq]
      simp only [step, Option.bind_some, if_true]
      split
      · congr 2
        refine vec_ext fun j hj => ?_
        rw [hv j hj, rd_padl _ hj, spr_rd (by omega)]
        unfold sprF
        by_cases hm0 : j % q = 0
        · simp only [hm0, true_and, if_true]
          by_cases h5 : j / q < k
          · rw [if_pos h5]
          · rw [if_neg h5, rd_ge (by omega)]
        · rw [if_neg (fun h => hm0 h.1), if_neg hm0]
      · rfl
    | succ m ih =>
      intro k v hk hv
      have hrk : rd (pad a).1 k = rd a k := rd_padl a (by omega)
      -- what stands behind the place k
      have next : ∀ v' : V64, (∀ j, j < 64 → rd v'.1 j = if j % q = 0 ∧ j / q < k + 1 then rd a (j / q) else 0) → (m = 0 → a.length ≤ 1 ∨ (a.length - 1) * q ≤ 63) →
          spec_l04Raise_l1 ((a.length : Int) - 1) (pad a) (i : Int) p (k : Int) v = some (.inl (((k + 1 : Nat) : Int), v')) →
          loopM (fun s : Int × V64 => spec_l04Raise_l1 ((a.length : Int) - 1) (pad a) (i : Int) p s.1 s.2) ((k : Int), v) = some (if a.length ≤ 1 ∨ (a.length - 1) * q ≤ 63 then .inl (pad (spr a q)) else if m + 1 = 0 then .inl v else .inr (vrep 64 0, false)) := by
        intro v' hv' hm0 step
        rw [loopM_eq]
        simp only [step, Option.bind_some]
        rw [ih (k + 1) v' (by omega) hv']
        by_cases h : a.length ≤ 1 ∨ (a.length - 1) * q ≤ 63
        · rw [if_pos h, if_pos h]
        · rw [if_neg h, if_neg h, if_neg (fun e => h (hm0 e)), if_neg (by omega)]
      have ewrap : IntKind.i64.wrap ((k : Int) + 1) = ((k + 1 : Nat) : Int) := by rw [wrap64 (by omega) (by omega)]; rfl
      by_cases hz : rd a k = 0
      · refine next v (fun j hj => ?_) (fun hm => ?_) ?_
        · rw [hv j hj]
          by_cases hm0 : j % q = 0
          · simp only [hm0, true_and]
            by_cases h5 : j / q < k
            · rw [if_pos h5, if_pos (by omega)]
            · rw [if_neg h5]
              by_cases h6 : j / q < k + 1
              · rw [if_pos h6, show j / q = k by omega, hz]
              · rw [if_neg h6]
          · rw [if_neg (fun h => hm0 h.1), if_neg (fun h => hm0 h.1)]
        · exact absurd hz (by have := ha.nrm (by omega); rwa [show a.length - 1 = k by omega] at this)
        · simp only [spec_l04Raise_l1]
          rw [if_pos (decide_eq_true (by omega)), ifp_pos (by omega), Int.toNat_natCast, hrk, hz]
          simp only [beq_self_eq_true, if_true, Option.bind_some, ewrap]
      · -- the place that it comes to
        have hset : ∀ (t : Nat), t = k * q → t ≤ 63 → (∀ j, j < 64 → rd (vset v t (rd a k)).1 j = if j % q = 0 ∧ j / q < k + 1 then rd a (j / q) else 0) := by
          intro t ht ht63 j hj
          rw [rd_vset _ _ _ _ (by omega), hv j hj]
          by_cases e : j = t
          · subst e
            subst ht
            rw [if_pos rfl, if_pos ⟨Nat.mul_mod_left _ _, by rw [Nat.mul_div_cancel _ (by omega)]; omega⟩, Nat.mul_div_cancel _ (by omega)]
          · rw [if_neg e]
            by_cases hm0 : j % q = 0
            · have h5 := Nat.div_add_mod j q
              rw [hm0, Nat.add_zero] at h5
              have : j / q ≠ k := fun h => e (by rw [← h5, h, ht, Nat.mul_comm])
              simp only [hm0, true_and, show (j / q < k + 1) = (j / q < k) from by rw [eq_iff_iff]; omega]
            · rw [if_neg (fun h => hm0 h.1), if_neg (fun h => hm0 h.1)]
        rcases Nat.eq_zero_or_pos k with hk0 | hk0
        · subst hk0
          refine next _ (hset 0 (by simp) (by omega)) (fun hm => .inl (by omega)) ?_
          have hl0 : loopM (fun s : Int × Int => spec_l04Raise_l2 (i : Int) p s.1 s.2) (((0 : Nat) : Int), 0) = some (.inl 0) := raise_loop0
          simp only [spec_l04Raise_l1]
          rw [if_pos (decide_eq_true (by omega)), ifp_pos (by omega), Int.toNat_natCast, hrk, if_neg (by rw [beq_iff_eq]; exact hz), hl0]
          simp only [Option.bind_some]
          rw [ifp_pos (by omega), ifp_pos (by omega)]
          simp only [Option.bind_some, ewrap]
          rfl
        · have hl := raise_loop hp hi (k := k) ⟨hk0, by omega⟩
          rw [hqq] at hl
          by_cases h63 : k * q ≤ 63
          · rw [if_pos h63] at hl
            refine next _ (hset (k * q) rfl h63) (fun hm => .inr (by rw [show a.length - 1 = k by omega]; exact h63)) ?_
            simp only [spec_l04Raise_l1]
            rw [if_pos (decide_eq_true (by omega)), ifp_pos (by omega), Int.toNat_natCast, hrk, if_neg (by rw [beq_iff_eq]; exact hz), hl]
            simp only [Option.bind_some]
            rw [ifp_pos (by omega), ifp_pos (by omega)]
            simp only [Option.bind_some, ewrap, Int.toNat_natCast]
          · rw [if_neg h63] at hl
            have step : spec_l04Raise_l1 ((a.length : Int) - 1) (pad a) (i : Int) p (k : Int) v = some (.inr (.inr (vrep 64 0, false))) := by
              simp only [spec_l04Raise_l1]
              rw [if_pos (decide_eq_true (by omega)), ifp_pos (by omega), Int.toNat_natCast, hrk, if_neg (by rw [beq_iff_eq]; exact hz), hl]
              rfl
            have hbig : ¬ (a.length ≤ 1 ∨ (a.length - 1) * q ≤ 63) := by
              rintro (h | h)
              · omega
              · have := Nat.mul_le_mul_right q (show k ≤ a.length - 1 by omega)
                omega
            rw [loopM_eq]
            simp only [step, Option.bind_some]
            rw [if_neg hbig, if_neg (by omega)]
  have h := key a.length 0 (vrep 64 0) (by omega) (fun j hj => by rw [rd_vrep _ hj, if_neg (fun h => Nat.not_lt_zero _ h.2)])
  simp only [spec_l04Raise, deg_is, hta, Option.bind_some]
  have h' : loopM (fun s : Int × V64 => spec_l04Raise_l1 ((a.length : Int) - 1) (pad a) (i : Int) p s.1 s.2) (0, vrep 64 0) = _ := h
  rw [h']
  by_cases hc : a.length ≤ 1 ∨ (a.length - 1) * q ≤ 63
  · simp only [if_pos hc, Option.bind_some]
  · rw [if_neg hc, if_neg hc, if_neg (by omega)]
    rfl
end Go.Proofs.Ytkbnegemdlnncaa
/- Sums, in the program. -/
namespace Go.Proofs.Ytkbnegemdlnncaa
open Go.Abs

theorem at_is (l : List Int) (i : Nat) : impl_row_at l i = some (rd l i) := by
  unfold impl_row_at
  by_cases h : i < l.length
  · rw [if_pos (by simpa using h), ifp_pos (by omega)]; simp
  · rw [if_neg (by simpa using h), rd_ge (by omega)]

theorem reduce_is {p n : Int} (hp : 0 < p ∧ p ≤ 256) (hn : -4611686018427387904 ≤ n ∧ n < 4611686018427387904) : impl_prime_reduce p n = some (n % p) := by
  unfold impl_prime_reduce
  have h1 := Int.lt_tmod_of_pos n hp.1
  have h2 := Int.tmod_lt_of_pos n hp.1
  rw [ifp_pos (by omega), ifp_pos (by omega), wrap64 (by omega) (by omega), tmod_fix hp.1]

theorem combine_is {p k : Int} {a b : List Int} (hp : 0 < p ∧ p ≤ 256) (ha : Ent a) (hb : Ent b) (la : a.length ≤ 1000000) (lb : b.length ≤ 1000000) (hk : -1099511627776 ≤ k ∧ k ≤ 1099511627776) :
    impl_prime_combine p a b k = some (comb p a b k) := by
  obtain ⟨n, hn⟩ : ∃ n : Nat, n = max a.length b.length := ⟨_, rfl⟩
  have e : (if (b.length : Int) > (a.length : Int) then (b.length : Int) else (a.length : Int)) = (n : Int) := by split <;> omega
  obtain ⟨s, h1, h2, h3⟩ := loopM_for (body := fun s : Int × List Int => impl_prime_combine_l1 (n : Int) a b p k s.1 s.2) (fun i s => ((i : Int), s)) (fun s => s) n
    (fun i s => s.length = n ∧ ∀ j, rd s j = if j < i then (rd a j + k * rd b j) % p else 0) (fun i s hi hI => by
      obtain ⟨hl, hr⟩ := hI
      have h1 := ha i
      have h2 := mulk (hb i) hk
      refine ⟨s.set i ((rd a i + k * rd b i) % p), ?_, by simpa using hl, fun j => ?_⟩
      · simp only [impl_prime_combine_l1, letp, Int.toNat_natCast, List.length_replicate]
        rw [if_pos (by simp; omega), at_is, at_is]
        simp only [Option.bind_some]
        rw [wrap64 (n := k * rd b i) (by omega) (by omega), wrap64 (n := rd a i + k * rd b i) (by omega) (by omega), reduce_is hp (by omega)]
        simp only [Option.bind_some]
        rw [ifp_pos (by omega), wrap64 (by omega) (by omega)]
        rfl
      · rw [rd_set _ _ _ _ (by omega), hr j]
        by_cases h : j = i
        · subst h; simp
        · rw [if_neg h]
          simp only [show (j < i + 1) = (j < i) from by rw [eq_iff_iff]; omega]) (fun s hI => by
      simp only [impl_prime_combine_l1, letp, Int.toNat_natCast, List.length_replicate]
      rw [if_neg (by simp)]) n 0 (List.replicate n 0) (by omega) ⟨by simp, fun j => by rw [rd_rep, if_neg (by omega)]⟩
  have hs : s.take (top (rd s) s.length) = comb p a b k := by
    rw [trim_eq, h2, comb, ← hn]
    exact ofF_congr fun i hi => by rw [h3 i, if_pos hi]
  simp only [impl_prime_combine, letp, e]
  rw [ifp_pos (by omega)]
  simp only [Int.toNat_natCast]
  have h1' : loopM (fun s : Int × List Int => impl_prime_combine_l1 (n : Int) a b p k s.1 s.2) (0, List.replicate n 0) = some s := h1
  rw [h1']
  simp only [Option.bind_some]
  rw [trimmed_is (by omega), hs]
  rfl
end Go.Proofs.Ytkbnegemdlnncaa
/- Sums, in the reference. -/
namespace Go.Proofs.Ytkbnegemdlnncaa
open Go.Abs

theorem add_is {p k : Int} {a b : V64} (hp : 0 < p ∧ p ≤ 256) (ha : V64.Ent a) (hb : V64.Ent b) (hk : -1099511627776 ≤ k ∧ k ≤ 1099511627776) :
    ∃ v, spec_l01Add p a b k = some v ∧ ∀ j, j < 64 → rd v.1 j = (rd a.1 j + k * rd b.1 j) % p := by
  obtain ⟨s, h1, h2⟩ := loopM_for (body := fun s : Int × V64 => spec_l01Add_l1 k b p s.1 s.2) (fun i s => ((i : Int), s)) (fun s => s) 64
    (fun i s => ∀ j, j < 64 → rd s.1 j = if j < i then (rd a.1 j + k * rd b.1 j) % p else rd a.1 j) (fun i s hi hI => by
      have hs := hI i hi
      rw [if_neg (by omega)] at hs
      have h1 := ha i hi
      have h0 := hb i hi
      have h2 := mulk (hb i hi) hk
      have h3 := Int.lt_tmod_of_pos (rd a.1 i + k * rd b.1 i) hp.1
      have h4 := Int.tmod_lt_of_pos (rd a.1 i + k * rd b.1 i) hp.1
      have h5 := emod_res hp.1 (rd a.1 i + k * rd b.1 i)
      refine ⟨vset s i ((rd a.1 i + k * rd b.1 i) % p), ?_, fun j hj => ?_⟩
      · simp only [spec_l01Add_l1, letp, Int.toNat_natCast, hs]
        rw [if_pos (by simp; omega), ifp_pos (by omega), ifp_pos (by omega), ifp_pos (by omega), ifp_pos (by omega), ifp_pos (by omega)]
        rw [wrap64 (n := rd b.1 i) (by omega) (by omega), wrap64 (n := rd a.1 i) (by omega) (by omega), wrap64 (n := k * rd b.1 i) (by omega) (by omega), wrap64 (n := rd a.1 i + k * rd b.1 i) (by omega) (by omega), wrap64 (n := _ + p) (by omega) (by omega), tmod_fix hp.1, wrap8 (by omega) (by omega), wrap64 (by omega) (by omega)]
        rfl
      · rw [rd_vset _ _ _ _ hi, hI j hj]
        by_cases h : j = i
        · subst h; simp
        · rw [if_neg h]
          simp only [show (j < i + 1) = (j < i) from by rw [eq_iff_iff]; omega]) (fun s hI => by
      simp only [spec_l01Add_l1, letp]
      rw [if_neg (by simp)]) 64 0 a (by omega) (fun j hj => by rw [if_neg (by omega)])
  refine ⟨s, ?_, fun j hj => by rw [h2 j hj, if_pos hj]⟩
  have h1' : loopM (fun s : Int × V64 => spec_l01Add_l1 k b p s.1 s.2) (0, a) = some s := h1
  simp only [spec_l01Add, h1', Option.bind_some]

theorem add_pad {p k : Int} {a b : List Int} (hp : 0 < p ∧ p ≤ 256) (ha : Row p a) (hb : Row p b) (la : a.length ≤ 64) (lb : b.length ≤ 64) (hk : -1099511627776 ≤ k ∧ k ≤ 1099511627776) :
    spec_l01Add p (pad a) (pad b) k = some (pad (comb p a b k)) := by
  obtain ⟨v, h1, h2⟩ := add_is hp (ent_pad ha hp) (ent_pad hb hp) hk
  rw [h1]
  congr 1
  exact vec_ext fun j hj => by rw [h2 j hj, rd_padl _ hj, rd_padl _ hj, rd_padl _ hj, comb_rd]
end Go.Proofs.Ytkbnegemdlnncaa
/- A row as an array. -/
namespace Go.Proofs.Ytkbnegemdlnncaa
open Go.Abs

theorem poly_loop {l : List Int} (hb : Bytes l) (hl : l.length ≤ 64) : ∀ s : Int × V64, (∃ i : Nat, s.1 = i ∧ i ≤ l.length ∧ s.2 = pad (l.take i)) → ∃ r, loopM (fun s : Int × V64 => impl_row_poly_l1 l s.1 s.2) s = some r ∧ r = pad l := by
  refine loopM_ind (fun (s : Int × V64) => ∃ i : Nat, s.1 = i ∧ i ≤ l.length ∧ s.2 = pad (l.take i)) (fun (s : Int × V64) r => r = pad l) (fun (s : Int × V64) => 64 - s.1.toNat) ?_
  rintro ⟨x, v⟩ ⟨i, hx, hi, hv⟩
  simp only at hx hv
  subst hx hv
  by_cases h : i = l.length
  · right
    subst h
    exact ⟨pad l, by simp [impl_row_poly_l1], rfl⟩
  · left
    have hil : i < l.length := by omega
    have er : rd l i = l[i] := by simp [rd, hil]
    have hbi := hb l[i] (List.getElem_mem _)
    refine ⟨(((i + 1 : Nat) : Int), pad (l.take (i + 1))), ?_, ⟨i + 1, rfl, by omega, rfl⟩, by simp; omega, fun r hr => hr⟩
    simp only [impl_row_poly_l1]
    rw [if_pos (by simp; omega), ifp_pos (by omega), ifp_pos (by omega)]
    simp only [Int.toNat_natCast, er]
    rw [wrap64 (by omega) (by omega), wrap8 hbi.1 hbi.2]
    have := pad_set (l.take i) l[i] (by simp; omega)
    rw [List.length_take, Nat.min_eq_left (by omega)] at this
    rw [this, List.take_succ_eq_append_getElem hil]
    simp

theorem poly_is {l : List Int} (hb : Bytes l) (hl : l.length ≤ 64) : impl_row_poly l = some (pad l) := by
  obtain ⟨r, h1, h2⟩ := poly_loop hb hl (0, pad []) ⟨0, rfl, by omega, by simp⟩
  simp only [impl_row_poly, ← pad_nil, h1, h2, Option.bind_some]
end Go.Proofs.Ytkbnegemdlnncaa
/- Polynomials from rows, told. -/
namespace Go.Proofs.Ytkbnegemdlnncaa
open Go.Abs
theorem told_is {l : List Int} (hb : Bytes l) (hl : l.length ≤ 64) : impl_told l = some (pad l, 0) := by
  simp only [impl_told, impl_row_fits, impl_row_degree, Option.bind_some, poly_is hb hl]
  rw [wrap64 (by omega) (by omega)]
  simp
  omega
end Go.Proofs.Ytkbnegemdlnncaa
/- Numbers as digits. -/
namespace Go.Proofs.Ytkbnegemdlnncaa
open Go.Abs

def digs (p n : Nat) : List Int := if n = 0 ∨ p < 2 then [] else ((n % p : Nat) : Int) :: digs p (n / p)
termination_by n
decreasing_by exact Nat.div_lt_self (by omega) (by omega)

theorem digs_zero (p : Nat) : digs p 0 = [] := by rw [digs]; simp

theorem digs_pos {p n : Nat} (hp : 2 ≤ p) (hn : 0 < n) : digs p n = ((n % p : Nat) : Int) :: digs p (n / p) := by
  rw [digs, if_neg (by omega)]

theorem digs_sum {p : Nat} : ∀ n : Nat, (∀ d ∈ digs p n, (0 : Int) ≤ d) ∧ (digs p n).sum ≤ n ∧ (digs p n).length ≤ n := by
  intro n
  induction n using Nat.strongRecOn with
  | ind n ih =>
    by_cases h : n = 0 ∨ p < 2
    · rw [digs, if_pos h]; simp
    · have hlt : n / p < n := Nat.div_lt_self (by omega) (by omega)
      have hle : n % p + n / p ≤ n := by
        have := Nat.div_add_mod n p
        have h3 : n / p ≤ p * (n / p) := Nat.le_mul_of_pos_left _ (by omega)
        omega
      obtain ⟨h1, h2, h3⟩ := ih _ hlt
      rw [digs, if_neg h]
      refine ⟨fun d hd => ?_, ?_, ?_⟩
      · rcases List.mem_cons.1 hd with rfl | hd
        · omega
        · exact h1 d hd
      · simp only [List.sum_cons]; omega
      · simp only [List.length_cons]; omega

theorem digs_lt {p : Nat} (hp : 2 ≤ p) : ∀ n : Nat, ∀ d ∈ digs p n, 0 ≤ d ∧ d < p := by
  intro n
  induction n using Nat.strongRecOn with
  | ind n ih =>
    intro d hd
    by_cases h : n = 0
    · subst h; rw [digs_zero] at hd; cases hd
    · rw [digs_pos hp (by omega)] at hd
      rcases List.mem_cons.1 hd with rfl | hd
      · have := Nat.mod_lt n (show p > 0 by omega)
        generalize n % p = x at this
        omega
      · exact ih _ (Nat.div_lt_self (by omega) hp) d hd

theorem digs_len {p : Nat} (hp : 2 ≤ p) : ∀ (k n : Nat), n < 2 ^ k → (digs p n).length ≤ k
  | 0, n, h => by
    have : n = 0 := by simpa using h
    subst this; rw [digs_zero]; simp
  | k + 1, n, h => by
    by_cases hn : n = 0
    · subst hn; rw [digs_zero]; simp
    · rw [digs_pos hp (by omega)]
      have : n / p < 2 ^ k := by
        have h1 : n / p ≤ n / 2 := Nat.div_le_div_left hp (by omega)
        have h2 : n / 2 < 2 ^ k := by rw [Nat.pow_succ] at h; omega
        omega
      have := digs_len hp k _ this
      simp only [List.length_cons]; omega

theorem digs_len40 {p n : Nat} (hp : 2 ≤ p) (hn : n ≤ 1000000000000) : (digs p n).length ≤ 40 := digs_len hp 40 n (by omega)

theorem digs_bytes {p n : Nat} (hp : 2 ≤ p) (h : p ≤ 256) : Bytes (digs p n) := fun d hd => by
  have := digs_lt hp n d hd; omega

theorem rd_cons (x : Int) (l : List Int) (i : Nat) : rd (x :: l) (i + 1) = rd l i := by simp [rd]
theorem digs_row {p : Nat} (hp : 2 ≤ p) (n : Nat) : Row p (digs p n) := by
  refine ⟨fun d hd => ?_, ?_⟩
  · have := digs_lt hp n d hd; omega
  · induction n using Nat.strongRecOn with
    | ind n ih =>
      intro h
      have hn : 0 < n := by
        rcases Nat.eq_zero_or_pos n with rfl | h'
        · rw [digs_zero] at h; simp at h
        · exact h'
      rw [digs_pos hp hn]
      simp only [List.length_cons, Nat.add_sub_cancel]
      rcases Nat.eq_zero_or_pos (n / p) with h0 | h0
      · rw [h0, digs_zero]
        have : n < p := by
          rcases Nat.lt_or_ge n p with h | h
          · exact h
          · have := Nat.div_pos h (by omega); omega
        rw [Nat.mod_eq_of_lt this]
        simp [rd]; omega
      · have hlt : n / p < n := Nat.div_lt_self hn (by omega)
        have h1 : (digs p (n / p)).length ≠ 0 := by rw [digs_pos hp h0]; simp
        have h2 := ih _ hlt h1
        obtain ⟨m, hm⟩ : ∃ m, (digs p (n / p)).length = m + 1 := ⟨(digs p (n / p)).length - 1, by omega⟩
        rw [hm] at h2 ⊢
        rw [rd_cons]
        simpa using h2
theorem digs_len_pow {p : Nat} (hp : 2 ≤ p) : ∀ (d n : Nat), p ^ d ≤ n → n < p ^ (d + 1) → (digs p n).length = d + 1
  | 0, n, h1, h2 => by
    simp only [Nat.pow_zero, Nat.zero_add, Nat.pow_one] at h1 h2
    rw [digs_pos hp (by omega), Nat.div_eq_of_lt h2, digs_zero]; rfl
  | d + 1, n, h1, h2 => by
    have hpos : 0 < p ^ (d + 1) := Nat.pow_pos (by omega)
    have h3 : p ^ d ≤ n / p := by
      rw [Nat.le_div_iff_mul_le (by omega)]
      rwa [← Nat.pow_succ]
    have h4 : n / p < p ^ (d + 1) := by
      rw [Nat.div_lt_iff_lt_mul (by omega)]
      rwa [← Nat.pow_succ]
    rw [digs_pos hp (by omega), List.length_cons, digs_len_pow hp d _ h3 h4]
theorem digs_monic_len {p : Nat} (hp : 2 ≤ p) {d i : Nat} (hi : i < p ^ d) : (digs p (p ^ d + i)).length = d + 1 := by
  refine digs_len_pow hp d _ (by omega) ?_
  have : p ^ (d + 1) = p ^ d * p := Nat.pow_succ ..
  have h2 : p ^ d * 2 ≤ p ^ d * p := Nat.mul_le_mul_left _ hp
  omega
end Go.Proofs.Ytkbnegemdlnncaa
/- Brackets and factorials. -/
namespace Go.Proofs.Ytkbnegemdlnncaa
open Go.Abs

/-- T^(p^i) - T^(p^j). -/
def brk (p i j : Nat) : List Int := comb p (spr [0, 1] (p ^ i)) (spr [0, 1] (p ^ j)) (-1)
theorem sprT_len {p : Nat} (hp : 2 ≤ p) {q : Nat} (hq : 0 < q) : (spr [0, 1] q).length = q + 1 := by
  rw [spr_len (row_T (p := p) (by omega)) (by simp) hq]; simp
theorem brk_row {p : Nat} (hp : 2 ≤ p) (i j : Nat) : Row p (brk p i j) := comb_row (by omega) _ _ _
theorem brk_len {p : Nat} (hp : 2 ≤ p) {i j : Nat} (h : j < i) : (brk p i j).length = p ^ i + 1 := by
  have h1 := ppow_pos hp i
  have h2 := ppow_pos hp j
  have hlt : p ^ j < p ^ i := Nat.pow_lt_pow_right (by omega) h
  rw [brk, comb, ofF_len, sprT_len hp (by omega), sprT_len hp (by omega)]
  refine top_is (by omega) (fun k h3 h4 => by omega) fun _ => ?_
  simp only [Nat.add_sub_cancel]
  rw [spr_rd (by omega), rd_ge (l := spr [0, 1] (p ^ j)) (by rw [sprT_len hp (by omega)]; omega)]
  have : sprF [0, 1] (p ^ i) (p ^ i) = 1 := by
    simp only [sprF, Nat.mod_self, if_true, Nat.div_self (show 0 < p ^ i by omega)]; rfl
  rw [this, Int.mul_zero, Int.add_zero, Int.emod_eq_of_lt (by omega) (by omega)]
  omega
theorem small_pow {p i : Nat} (hp : 2 ≤ p ∧ p ≤ 7) (hi : i ≤ 6) : p ^ i ≤ 400000 := by
  have h1 : p ^ i ≤ p ^ 6 := ppow_mono hp.1 hi
  have h2 : p ^ 6 ≤ 7 ^ 6 := Nat.pow_le_pow_left hp.2 6
  have h3 : (7 : Nat) ^ 6 = 117649 := by decide
  omega
theorem exp_small {p i : Nat} (hp : 2 ≤ p) (h : p ^ i ≤ 400000) : i ≤ 1000 := by
  rcases Nat.lt_or_ge 1000 i with h1 | h1
  · have h2 : p ^ 19 ≤ p ^ i := Nat.pow_le_pow_right (by omega) (by omega)
    have h3 : 2 ^ 19 ≤ p ^ 19 := Nat.pow_le_pow_left hp 19
    have h4 : (2 : Nat) ^ 19 = 524288 := by decide
    omega
  · exact h1
theorem bracket_is {p i j : Nat} (hp : 2 ≤ p ∧ p ≤ 7) (h1 : p ^ i ≤ 400000) (h2 : p ^ j ≤ 400000) : impl_prime_bracket p i j = some (brk p i j) := by
  have hT := row_T (p := (p : Int)) (by omega)
  have e : impl_letter = some [0, 1] := rfl
  have hi := exp_small hp.1 h1
  have hj := exp_small hp.1 h2
  simp only [impl_prime_bracket, e, Option.bind_some, spread_is hp (show i ≤ 1000000 by omega) hT (by simp) (show p ^ i ≤ 1000000 by omega), spread_is hp (show j ≤ 1000000 by omega) hT (by simp) (show p ^ j ≤ 1000000 by omega)]
  rw [combine_is ⟨by omega, by omega⟩ ((spr_row (by omega) hT _).ent ⟨by omega, by omega⟩) ((spr_row (by omega) hT _).ent ⟨by omega, by omega⟩) ?_ ?_ (by omega)]
  · rfl
  · rw [sprT_len hp.1 (by have := ppow_pos hp.1 i; omega)]; omega
  · rw [sprT_len hp.1 (by have := ppow_pos hp.1 j; omega)]; omega
theorem ent_zero : V64.Ent (vrep 64 0) := fun i hi => by rw [rd_vrep _ hi]; omega
theorem bracketS_is {p i j : Nat} (hp : 2 ≤ p ∧ p ≤ 7) (hi : i ≤ 1000000) (hj : j ≤ 1000000) : ∃ v, spec_l04Bracket p i j = some (v, decide (p ^ i ≤ 63 ∧ p ^ j ≤ 63)) ∧ (p ^ i ≤ 63 ∧ p ^ j ≤ 63 → v = pad (brk p i j)) := by
  have hT := row_T (p := (p : Int)) (by omega)
  have e1 := raise_gen hp hi hT (by simp)
  have e2 := raise_gen hp hj hT (by simp)
  have hs : ∀ q : Nat, (([0, 1] : List Int).length ≤ 1 ∨ (([0, 1] : List Int).length - 1) * q ≤ 63) = (q ≤ 63) := by
    intro q; rw [eq_iff_iff]; simp
  simp only [hs] at e1 e2
  simp only [spec_l04Bracket, T_is, Option.bind_some, e1, e2]
  have hp1 := ppow_pos hp.1 i
  have hp2 := ppow_pos hp.1 j
  by_cases h1 : p ^ i ≤ 63
  · by_cases h2 : p ^ j ≤ 63
    · rw [if_pos h1, if_pos h2]
      simp only
      rw [add_pad ⟨by omega, by omega⟩ (spr_row (by omega) hT _) (spr_row (by omega) hT _) (by rw [sprT_len hp.1 (by omega)]; omega) (by rw [sprT_len hp.1 (by omega)]; omega) (by omega)]
      exact ⟨_, by simp [h1, h2]; rfl, fun _ => rfl⟩
    · rw [if_pos h1, if_neg h2]
      simp only
      obtain ⟨v, h3, _⟩ := add_is (p := p) (k := -1) ⟨by omega, by omega⟩ (ent_pad (spr_row (by omega) hT (p ^ i)) ⟨by omega, by omega⟩) ent_zero (by omega)
      rw [h3]
      exact ⟨v, by simp [h2], fun h => absurd h.2 h2⟩
  · rw [if_neg h1]
    simp only
    have : ∃ v, spec_l01Add p (vrep 64 0) (if p ^ j ≤ 63 then (pad (spr [0, 1] (p ^ j)), true) else (vrep 64 0, false)).1 (-1) = some v := by
      split
      · obtain ⟨v, h3, _⟩ := add_is (p := p) (k := -1) ⟨by omega, by omega⟩ ent_zero (ent_pad (spr_row (by omega) hT (p ^ j)) ⟨by omega, by omega⟩) (by omega)
        exact ⟨v, h3⟩
      · obtain ⟨v, h3, _⟩ := add_is (p := p) (k := -1) ⟨by omega, by omega⟩ ent_zero ent_zero (by omega)
        exact ⟨v, h3⟩
    obtain ⟨v, h3⟩ := this
    rw [h3]
    exact ⟨v, by simp [h1], fun h => absurd h.1 h1⟩

/-! Products, as long as their degrees are not too great. -/
def fac (p : Int) (L : Nat → List Int) : Nat → Option (List Int)
  | 0 => some [1]
  | n + 1 => match fac p L n with
    | none => none
    | some o => if o.length + (L n).length > 65 then none else some (mul p o (L n))
theorem fac_none {p : Int} {L : Nat → List Int} {i n : Nat} (h : i ≤ n) (hi : fac p L i = none) : fac p L n = none := by
  induction n with
  | zero => have : i = 0 := by omega
            subst this; exact hi
  | succ n ih =>
    by_cases e : i = n + 1
    · subst e; exact hi
    · simp only [fac, ih (by omega)]
theorem fac_row {p : Int} (hp : isP p = true) {L : Nat → List Int} (n : Nat) (hL : ∀ j, j < n → Row p (L j) ∧ (L j).length ≠ 0) : ∀ i o, i ≤ n → fac p L i = some o → Row p o ∧ o.length ≠ 0 ∧ o.length ≤ 64
  | 0, o, _, h => by
    have hp2 := isP_pos hp
    simp only [fac, Option.some.injEq] at h
    subst h
    exact ⟨row_one (by omega), by simp, by simp⟩
  | i + 1, o, hi, h => by
    have hp2 := isP_pos hp
    simp only [fac] at h
    split at h
    · cases h
    · rename_i o' ho
      obtain ⟨h1, h2, h3⟩ := fac_row hp n hL i o' (by omega) ho
      obtain ⟨h4, h5⟩ := hL i (by omega)
      split at h
      · cases h
      · rename_i hle
        simp only [Option.some.injEq] at h
        subst h
        have h6 := mul_len_is hp h1 h4 h2 h5
        exact ⟨mul_row (by omega) _ _, by omega, by omega⟩
/-- The program's product. -/
theorem product_is {p : Int} (hp : isP p = true) {M : List (List Int)} (hM : M.length ≤ 1000000) (hL : ∀ j, j < M.length → Row p (rd M j) ∧ (rd M j).length ≠ 0 ∧ (rd M j).length ≤ 500000) :
    impl_prime_productOf p M = some (match fac p (fun j => rd M j) M.length with | none => (vrep 64 0, 3) | some o => (pad o, 0)) := by
  have hp2 := isP_pos hp
  have key : ∀ (m i : Nat) (o : List Int), i + m = M.length → fac p (fun j => rd M j) i = some o →
      loopM (fun s : List Int × Int => impl_prime_productOf_l1 M p s.1 s.2) (o, (i : Int)) = some (match fac p (fun j => rd M j) M.length with | none => .inr (vrep 64 0, 3) | some o => .inl o) := by
    intro m
    induction m with
    | zero =>
      intro i o hi ho
      have : i = M.length := by omega
      subst this
      have step : impl_prime_productOf_l1 M p o (M.length : Int) = some (.inr (.inl o)) := by
        simp only [impl_prime_productOf_l1]
        rw [if_neg (by rw [decide_eq_true_eq]; omega)]
      rw [loopM_eq]
      simp only [step, Option.bind_some, ho]
    | succ m ih =>
      intro i o hi ho
      obtain ⟨h1, h2, h3⟩ := fac_row hp M.length (fun j hj => ⟨(hL j hj).1, (hL j hj).2.1⟩) i o (by omega) ho
      obtain ⟨h4, h5, h6⟩ := hL i (by omega)
      have e1 : IntKind.i64.wrap (IntKind.i64.wrap ((o.length : Int) - 1) + IntKind.i64.wrap (((rd M i).length : Int) - 1)) = (o.length : Int) + (rd M i).length - 2 := by
        rw [wrap64 (n := (o.length : Int) - 1) (by omega) (by omega), wrap64 (n := ((rd M i).length : Int) - 1) (by omega) (by omega), wrap64 (by omega) (by omega)]; omega
      have hfac : fac p (fun j => rd M j) (i + 1) = if o.length + (rd M i).length > 65 then none else some (mul p o (rd M i)) := by simp only [fac, ho]
      by_cases hbig : o.length + (rd M i).length > 65
      · rw [if_pos hbig] at hfac
        have step : impl_prime_productOf_l1 M p o (i : Int) = some (.inr (.inr (vrep 64 0, 3))) := by
          simp only [impl_prime_productOf_l1, impl_row_degree, Option.bind_some, Int.toNat_natCast]
          rw [if_pos (decide_eq_true (by omega)), ifp_pos (by omega), e1, if_pos (decide_eq_true (by omega))]
        rw [loopM_eq]
        simp only [step, Option.bind_some, fac_none (show i + 1 ≤ M.length by omega) hfac]
      · rw [if_neg hbig] at hfac
        have step : impl_prime_productOf_l1 M p o (i : Int) = some (.inl (mul p o (rd M i), ((i + 1 : Nat) : Int))) := by
          simp only [impl_prime_productOf_l1, impl_row_degree, Option.bind_some, Int.toNat_natCast]
          rw [if_pos (decide_eq_true (by omega)), ifp_pos (by omega), e1, if_neg (by rw [decide_eq_true_eq]; omega), times_is ⟨by omega, by omega⟩ (h1.ent ⟨by omega, by omega⟩) (h4.ent ⟨by omega, by omega⟩) (by omega) h6]
          simp only [Option.bind_some]
          rw [wrap64 (by omega) (by omega)]; rfl
        rw [loopM_eq]
        simp only [step, Option.bind_some]
        exact ih (i + 1) _ (by omega) hfac
  have h := key M.length 0 [1] (by omega) rfl
  have h' : loopM (fun s : List Int × Int => impl_prime_productOf_l1 M p s.1 s.2) ([1], 0) = _ := h
  simp only [impl_prime_productOf, h', Option.bind_some]
  cases ho : fac p (fun j => rd M j) M.length with
  | none => rfl
  | some o =>
    obtain ⟨h1, h2, h3⟩ := fac_row hp M.length (fun j hj => ⟨(hL j hj).1, (hL j hj).2.1⟩) _ o (Nat.le_refl _) ho
    simp only [told_is (h1.bytes (by omega)) h3, Option.bind_some]

/-- The brackets of the factorials. -/
def facL (p i : Nat) (second : Bool) (j : Nat) : List Int := if second then brk p (j + 1) 0 else brk p i j
theorem facL_ok {p : Nat} (hp : 2 ≤ p ∧ p ≤ 7) {i : Nat} (hi : p ^ i ≤ 400000) (second : Bool) {j : Nat} (hj : j < i) : Row (p : Int) (facL p i second j) ∧ (facL p i second j).length ≠ 0 ∧ (facL p i second j).length ≤ 500000 := by
  unfold facL
  split
  · have := ppow_mono hp.1 (show j + 1 ≤ i by omega)
    exact ⟨brk_row hp.1 _ _, by rw [brk_len hp.1 (by omega)]; omega, by rw [brk_len hp.1 (by omega)]; omega⟩
  · exact ⟨brk_row hp.1 _ _, by rw [brk_len hp.1 hj]; omega, by rw [brk_len hp.1 hj]; omega⟩
/-- The reference's factorial. -/
theorem factorial_is {p i : Nat} (hp : isP p = true) (hi0 : p ^ i ≤ 400000) (second : Bool) :
    spec_l04Factorial p i second = some (match fac p (facL p i second) i with | none => (vrep 64 0, false) | some o => (pad o, true)) := by
  have hp2 := isP_pos hp
  have hpp : 2 ≤ p ∧ p ≤ 7 := by omega
  have hi := exp_small hpp.1 hi0
  have key : ∀ (m j : Nat) (o : List Int), j + m = i → fac p (facL p i second) j = some o →
      loopM (fun s : Bool × Int × V64 => spec_l04Factorial_l1 (i : Int) p s.1 s.2.1 s.2.2) (second, (j : Int), pad o) = some (match fac p (facL p i second) i with | none => .inr (vrep 64 0, false) | some o => .inl (pad o)) := by
    intro m
    induction m with
    | zero =>
      intro j o hj ho
      have : j = i := by omega
      subst this
      have step : spec_l04Factorial_l1 (j : Int) p second (j : Int) (pad o) = some (.inr (.inl (pad o))) := by
        simp only [spec_l04Factorial_l1]
        rw [if_neg (by rw [decide_eq_true_eq]; omega)]
      rw [loopM_eq]
      simp only [step, Option.bind_some, ho]
    | succ m ih =>
      intro j o hj ho
      have hLok := fun j (hj : j < i) => facL_ok hpp hi0 second hj
      obtain ⟨h1, h2, h3⟩ := fac_row hp i (fun j hj => ⟨(hLok j hj).1, (hLok j hj).2.1⟩) j o (by omega) ho
      obtain ⟨h4, h5, h6⟩ := hLok j (by omega)
      have hfac : fac p (facL p i second) (j + 1) = if o.length + (facL p i second j).length > 65 then none else some (mul p o (facL p i second j)) := by simp only [fac, ho]
      -- the bracket
      have hb : ∃ (v : V64) (e : Nat), (facL p i second j).length = p ^ e + 1 ∧ (p ^ e ≤ 63 → v = pad (facL p i second j)) ∧ spec_l04Factorial_l1 (i : Int) p second (j : Int) (pad o) =
          (if (!decide (p ^ e ≤ 63)) then (some (.inr ((.inr (((vrep 64 (0 : Int)), false)))))) else (Option.bind (spec_l01Times p (pad o) v) fun r187 => (if (!r187.2) then (some (.inr ((.inr (((vrep 64 (0 : Int)), false)))))) else (some (.inl ((second, ((j + 1 : Nat) : Int), r187.1))))))) := by
        obtain ⟨v1, g1, g2⟩ := bracketS_is (i := i) (j := j) hpp (by omega) (by omega)
        have ew : IntKind.i64.wrap ((j : Int) + 1) = ((j + 1 : Nat) : Int) := by rw [wrap64 (by omega) (by omega)]; rfl
        have hji : p ^ j ≤ p ^ i := ppow_mono hpp.1 (by omega)
        cases second with
        | false =>
          refine ⟨v1, i, by simp only [facL]; exact brk_len hpp.1 (by omega), fun h => g2 ⟨h, by omega⟩, ?_⟩
          simp only [spec_l04Factorial_l1]
          rw [if_pos (decide_eq_true (by omega)), g1]
          simp only [Option.bind_some, Bool.false_eq_true, if_false, ew]
          have : decide (p ^ i ≤ 63 ∧ p ^ j ≤ 63) = decide (p ^ i ≤ 63) := by rw [Bool.eq_iff_iff]; simp only [decide_eq_true_eq]; omega
          rw [this]
        | true =>
          obtain ⟨v2, g3, g4⟩ := bracketS_is (i := j + 1) (j := 0) hpp (by omega) (by omega)
          refine ⟨v2, j + 1, by simp only [facL]; exact brk_len hpp.1 (by omega), fun h => g4 ⟨h, by simp⟩, ?_⟩
          have g3' : spec_l04Bracket p ((j + 1 : Nat) : Int) 0 = some (v2, decide (p ^ (j + 1) ≤ 63 ∧ p ^ 0 ≤ 63)) := g3
          simp only [spec_l04Factorial_l1]
          rw [if_pos (decide_eq_true (by omega)), g1]
          simp only [Option.bind_some, if_true, ew, g3']
          have : decide (p ^ (j + 1) ≤ 63 ∧ p ^ 0 ≤ 63) = decide (p ^ (j + 1) ≤ 63) := by rw [Bool.eq_iff_iff]; simp
          rw [this]
      obtain ⟨v, e, hlen, hv, hstep⟩ := hb
      by_cases he : p ^ e ≤ 63
      · rw [hv he] at hstep
        simp only [he, decide_true, Bool.not_true, Bool.false_eq_true, if_false] at hstep
        by_cases hbig : o.length + (facL p i second j).length > 65
        · rw [if_pos hbig] at hfac
          rw [times_pad_no h1 h4 h3 (by omega) h2 h5 (by omega)] at hstep
          simp only [Option.bind_some, Bool.not_false, if_true] at hstep
          rw [loopM_eq]
          simp only [hstep, Option.bind_some, fac_none (show j + 1 ≤ i by omega) hfac]
        · rw [if_neg hbig] at hfac
          rw [times_pad ⟨by omega, by omega⟩ h1 h4 h3 (by omega) (by omega)] at hstep
          simp only [Option.bind_some, Bool.not_true, Bool.false_eq_true, if_false] at hstep
          rw [loopM_eq]
          simp only [hstep, Option.bind_some]
          exact ih (j + 1) _ (by omega) hfac
      · simp only [he, decide_false, Bool.not_false, if_true] at hstep
        rw [if_pos (by omega)] at hfac
        rw [loopM_eq]
        simp only [hstep, Option.bind_some, fac_none (show j + 1 ≤ i by omega) hfac]
  have h := key i 0 [1] (by omega) rfl
  have h' : loopM (fun s : Bool × Int × V64 => spec_l04Factorial_l1 (i : Int) p s.1 s.2.1 s.2.2) (second, 0, pad [1]) = _ := h
  simp only [spec_l04Factorial, one_is, Option.bind_some, h']
  cases fac p (facL p i second) i <;> rfl
theorem fac_congr {p : Int} {L L' : Nat → List Int} : ∀ n, (∀ j, j < n → L j = L' j) → fac p L n = fac p L' n
  | 0, _ => rfl
  | n + 1, h => by simp only [fac, fac_congr n fun j hj => h j (by omega), h n (by omega)]
theorem first_is {p i : Nat} (hp : 2 ≤ p ∧ p ≤ 7) (hi0 : p ^ i ≤ 400000) : impl_prime_first p i = some ((List.range i).map (facL p i false)) := by
  have hi := exp_small hp.1 hi0
  obtain ⟨s, g1, g2⟩ := loopM_for (body := fun s : Int × List (List Int) => impl_prime_first_l1 (i : Int) p s.1 s.2) (fun i s => ((i : Int), s)) (fun s => s) i
    (fun j s => s = (List.range j).map (facL p i false)) (fun j s hj hI => by
      subst hI
      refine ⟨_, ?_, rfl⟩
      simp only [impl_prime_first_l1]
      rw [if_pos (decide_eq_true (by omega)), bracket_is hp hi0 (Nat.le_trans (ppow_mono hp.1 (show j ≤ i by omega)) hi0)]
      simp only [Option.bind_some]
      rw [ifp_pos (by simp; omega), wrap64 (by omega) (by omega), List.range_succ, List.map_append]
      rfl) (fun s hI => by
      simp only [impl_prime_first_l1]
      rw [if_neg (by rw [decide_eq_true_eq]; omega)]) i 0 [] (by omega) rfl
  have g1' : loopM (fun s : Int × List (List Int) => impl_prime_first_l1 (i : Int) p s.1 s.2) (0, []) = some s := g1
  simp only [impl_prime_first, g1', g2, Option.bind_some]
theorem rd_range {f : Nat → List Int} {n j : Nat} (h : j < n) : rd ((List.range n).map f) j = f j := by simp [rd, h]
theorem productL_is {p i : Nat} (hp : isP p = true) (hi0 : p ^ i ≤ 400000) (second : Bool) : impl_prime_productOf p ((List.range i).map (facL p i second)) = some (match fac p (facL p i second) i with | none => (vrep 64 0, 3) | some o => (pad o, 0)) := by
  have hp2 := isP_pos hp
  have hi := exp_small (show 2 ≤ p by omega) hi0
  rw [product_is hp (by simp; omega) fun j hj => by
    simp at hj
    rw [rd_range hj]
    exact facL_ok (by omega) hi0 second hj]
  simp only [List.length_map, List.length_range]
  rw [fac_congr i fun j hj => rd_range hj]
end Go.Proofs.Ytkbnegemdlnncaa
/- Polynomials modulo p are a ring: products go along with sums, in any order. -/
namespace Go.Abs

theorem sumTo_add (f g : Nat → Int) : ∀ n, sumTo n (fun i => f i + g i) = sumTo n f + sumTo n g
  | 0 => rfl
  | n + 1 => by simp only [sumTo, sumTo_add f g n]; omega
theorem sumTo_mul (c : Int) (f : Nat → Int) : ∀ n, sumTo n (fun i => c * f i) = c * sumTo n f
  | 0 => by simp [sumTo]
  | n + 1 => by simp only [sumTo, sumTo_mul c f n, Int.mul_add]
theorem sumTo_mul' (c : Int) (f : Nat → Int) (n : Nat) : sumTo n (fun i => f i * c) = sumTo n f * c := by
  rw [Int.mul_comm, ← sumTo_mul]
  exact sumTo_congr n fun i _ => Int.mul_comm _ _
theorem sumTo_swap (f : Nat → Nat → Int) (m : Nat) : ∀ n, sumTo n (fun i => sumTo m (fun j => f i j)) = sumTo m (fun j => sumTo n (fun i => f i j))
  | 0 => (sumTo_zero m fun _ _ => rfl).symm
  | n + 1 => by simp only [sumTo]; rw [sumTo_swap f m n, ← sumTo_add]
/-- The first summand apart. -/
theorem sumTo_first (f : Nat → Int) : ∀ n, sumTo (n + 1) f = f 0 + sumTo n fun i => f (i + 1)
  | 0 => by simp [sumTo]
  | n + 1 => by
    have := sumTo_first f n
    simp only [sumTo] at this ⊢
    omega
theorem sumTo_rev (f : Nat → Int) : ∀ n, sumTo (n + 1) f = sumTo (n + 1) fun i => f (n - i)
  | 0 => rfl
  | n + 1 => by
    rw [sumTo_first (fun i => f (n + 1 - i)) (n + 1)]
    have h := sumTo_rev f n
    have e : sumTo (n + 1) (fun i => f (n + 1 - (i + 1))) = sumTo (n + 1) fun i => f (n - i) := sumTo_congr _ fun i _ => by rw [show n + 1 - (i + 1) = n - i by omega]
    rw [e, ← h]
    simp only [sumTo, Nat.sub_zero]
    omega
/-- Summands from j on. -/
theorem sumTo_from (g : Nat → Int) (j : Nat) : ∀ n, sumTo (j + n) (fun i => if j ≤ i then g (i - j) else 0) = sumTo n g
  | 0 => by rw [Nat.add_zero]; exact sumTo_zero j fun i hi => if_neg (by omega)
  | n + 1 => by
    rw [← Nat.add_assoc]
    simp only [sumTo]
    rw [sumTo_from g j n, if_pos (by omega), show j + n - j = n by omega]

theorem cv_more (a b : Nat → Int) {n k : Nat} (h : k + 1 ≤ n) : cv a b n k = conv a b k := by
  obtain ⟨m, rfl⟩ : ∃ m, n = k + 1 + m := ⟨n - (k + 1), by omega⟩
  exact sumTo_more m fun i h1 _ => if_neg (by omega)
theorem conv_comm (a b : Nat → Int) (k : Nat) : conv a b k = conv b a k := by
  unfold conv cv
  rw [sumTo_rev]
  refine sumTo_congr _ fun i hi => ?_
  rw [if_pos (by omega), if_pos (by omega), show k - (k - i) = i by omega, Int.mul_comm]
theorem conv_assoc (a b c : Nat → Int) (k : Nat) : conv (conv a b) c k = conv a (conv b c) k := by
  have h1 : conv (conv a b) c k = sumTo (k + 1) fun i => sumTo (k + 1) fun j => (if j ≤ i then a j * b (i - j) else 0) * c (k - i) := by
    unfold conv
    refine sumTo_congr _ fun i hi => ?_
    rw [if_pos (by omega), sumTo_mul']
    congr 1
    exact (cv_more a b (n := k + 1) (by omega)).symm
  have h2 : conv a (conv b c) k = sumTo (k + 1) fun j => a j * sumTo (k + 1 - j) fun l => b l * c (k - j - l) := by
    unfold conv
    refine sumTo_congr _ fun j hj => ?_
    rw [if_pos (by omega)]
    congr 1
    show sumTo (k - j + 1) (fun i => if i ≤ k - j then b i * c (k - j - i) else 0) = _
    rw [show k - j + 1 = k + 1 - j by omega]
    exact sumTo_congr _ fun l hl => if_pos (by omega)
  rw [h1, h2, sumTo_swap]
  refine sumTo_congr _ fun j hj => ?_
  rw [← sumTo_mul, ← sumTo_from (fun l => a j * (b l * c (k - j - l))) j (k + 1 - j), show j + (k + 1 - j) = k + 1 by omega]
  refine sumTo_congr _ fun i hi => ?_
  by_cases h : j ≤ i
  · rw [if_pos h, if_pos h, show k - j - (i - j) = k - i by omega, Int.mul_assoc]
  · rw [if_neg h, if_neg h, Int.zero_mul]
theorem conv_addl (a b c : Nat → Int) (s : Int) (k : Nat) : conv (fun i => a i + s * b i) c k = conv a c k + s * conv b c k := by
  unfold conv cv
  rw [← sumTo_mul, ← sumTo_add]
  refine sumTo_congr _ fun i _ => ?_
  split
  · rw [Int.add_mul, Int.mul_assoc]
  · simp

/-! Modulo p. -/
theorem sumTo_mod {p : Int} {f g : Nat → Int} : ∀ n, (∀ i, i < n → f i % p = g i % p) → sumTo n f % p = sumTo n g % p
  | 0, _ => rfl
  | n + 1, h => by
    simp only [sumTo]
    rw [Int.add_emod, sumTo_mod n fun i hi => h i (by omega), h n (by omega), ← Int.add_emod]
theorem conv_mod {p : Int} {a a' b b' : Nat → Int} (ha : ∀ i, a i % p = a' i % p) (hb : ∀ i, b i % p = b' i % p) (k : Nat) : conv a b k % p = conv a' b' k % p := by
  refine sumTo_mod _ fun i _ => ?_
  split
  · rw [Int.mul_emod, ha, hb, ← Int.mul_emod]
  · rfl
theorem Row.mod {p : Int} {l : List Int} (h : Row p l) (hp : 0 < p) (i : Nat) : Abs.rd l i % p = Abs.rd l i := Int.emod_eq_of_lt (h.rd hp i).1 (h.rd hp i).2

theorem mul_comm' (p : Int) (a b : List Int) : mul p a b = mul p b a := by
  unfold mul
  rw [Nat.add_comm]
  exact ofF_congr fun i _ => by rw [conv_comm]
theorem mul_assoc' {p : Int} (hp : 0 < p) (a b c : List Int) : mul p (mul p a b) c = mul p a (mul p b c) := by
  refine row_ext (mul_row hp _ _) (mul_row hp _ _) fun i => ?_
  rw [mul_rd, mul_rd]
  rw [conv_mod (a' := conv (rd a) (rd b)) (b' := rd c) (fun j => by rw [mul_rd, Int.emod_emod]) (fun _ => rfl), conv_assoc]
  exact conv_mod (fun _ => rfl) (fun j => by rw [mul_rd, Int.emod_emod]) i
theorem conv_one (a : Nat → Int) (i : Nat) : conv a (rd [1]) i = a i := by
  rw [conv_comm]
  unfold conv cv
  rw [sumTo_first, if_pos (by omega), sumTo_zero i fun j hj => ?_]
  · simp [rd]
  · rw [show rd ([1] : List Int) (j + 1) = 0 from rd_ge (by simp)]; simp
theorem mul_one' {p : Int} (hp : 0 < p) {a : List Int} (ha : Row p a) : mul p a [1] = a :=
  row_ext (mul_row hp _ _) ha fun i => by rw [mul_rd, conv_one, ha.mod hp]
theorem one_mul' {p : Int} (hp : 0 < p) {a : List Int} (ha : Row p a) : mul p [1] a = a := by rw [mul_comm', mul_one' hp ha]
theorem comb_mul {p : Int} (hp : 0 < p) (a b c : List Int) (k : Int) : mul p (comb p a b k) c = comb p (mul p a c) (mul p b c) k := by
  refine row_ext (mul_row hp _ _) (comb_row hp _ _ _) fun i => ?_
  rw [mul_rd, comb_rd, mul_rd, mul_rd, conv_mod (a' := fun i => rd a i + k * rd b i) (b' := rd c) (fun j => by rw [comb_rd, Int.emod_emod]) (fun _ => rfl), conv_addl]
  rw [Int.add_emod (conv (rd a) (rd c) i % p), Int.emod_emod, Int.mul_emod k (conv (rd b) (rd c) i % p), Int.emod_emod, ← Int.mul_emod, ← Int.add_emod]
theorem mul_comb {p : Int} (hp : 0 < p) (a b c : List Int) (k : Int) : mul p c (comb p a b k) = comb p (mul p c a) (mul p c b) k := by
  rw [mul_comm', comb_mul hp, mul_comm' p a, mul_comm' p b]
theorem comb_nil {p : Int} (hp : 0 < p) {a : List Int} (ha : Row p a) (k : Int) : comb p a [] k = a :=
  row_ext (comb_row hp _ _ _) ha fun i => by rw [comb_rd, rd_nil, Int.mul_zero, Int.add_zero, ha.mod hp]

/-! Products of lists, as long as their degrees are not too great. -/
def degs : List (List Int) → Nat
  | [] => 0
  | b :: M => (b.length - 1) + degs M
theorem degs_app : ∀ (M N : List (List Int)), degs (M ++ N) = degs M + degs N
  | [], N => by simp [degs]
  | b :: M, N => by simp [degs, degs_app M N]; omega
def prodF (p : Int) (o : List Int) (M : List (List Int)) : List Int := M.foldl (mul p) o
theorem prodF_row {p : Int} (hp : isP p = true) : ∀ (M : List (List Int)) (o : List Int), Row p o → o.length ≠ 0 → (∀ b ∈ M, Row p b ∧ b.length ≠ 0) → Row p (prodF p o M) ∧ (prodF p o M).length = o.length + degs M
  | [], o, ho, h0, _ => ⟨ho, by simp [prodF, degs]⟩
  | b :: M, o, ho, h0, hM => by
    have hp2 := isP_pos hp
    obtain ⟨hb, hb0⟩ := hM b (by simp)
    have hl := mul_len_is hp ho hb h0 hb0
    obtain ⟨h1, h2⟩ := prodF_row hp M (mul p o b) (mul_row (by omega) _ _) (by omega) fun c hc => hM c (by simp [hc])
    exact ⟨h1, by show (prodF p (mul p o b) M).length = _; rw [h2, hl]; simp only [degs]; omega⟩
theorem prodF_app (p : Int) (o : List Int) (M N : List (List Int)) : prodF p o (M ++ N) = prodF p (prodF p o M) N := List.foldl_append
theorem prodF_mul {p : Int} (hp : 0 < p) : ∀ (M : List (List Int)) (o q : List Int), prodF p (mul p o q) M = mul p o (prodF p q M)
  | [], _, _ => rfl
  | b :: M, o, q => by
    show prodF p (mul p (mul p o q) b) M = mul p o (prodF p (mul p q b) M)
    rw [mul_assoc' hp, prodF_mul hp M]
end Go.Abs
/- Products that are told as long as their degrees are not too great, in closed form. -/
namespace Go.Proofs.Ytkbnegemdlnncaa
open Go.Abs

theorem fac_closed {p : Int} (hp : isP p = true) (L : Nat → List Int) : ∀ n, (∀ j, j < n → Row p (L j) ∧ (L j).length ≠ 0) →
    fac p L n = if degs ((List.range n).map L) ≤ 63 then some (prodF p [1] ((List.range n).map L)) else none
  | 0, _ => by simp [fac, degs, prodF]
  | n + 1, hL => by
    have hp2 := isP_pos hp
    have ih := fac_closed hp L n fun j hj => hL j (by omega)
    obtain ⟨h1, h2⟩ := hL n (by omega)
    have hM : ∀ b ∈ (List.range n).map L, Row p b ∧ b.length ≠ 0 := by
      intro b hb
      simp only [List.mem_map, List.mem_range] at hb
      obtain ⟨j, hj, rfl⟩ := hb
      exact hL j (by omega)
    obtain ⟨h3, h4⟩ := prodF_row hp ((List.range n).map L) [1] (row_one (by omega)) (by simp) hM
    simp only [fac, ih]
    rw [List.range_succ, List.map_append, degs_app, prodF_app]
    simp only [List.map_cons, List.map_nil, degs, Nat.add_zero]
    by_cases h : degs ((List.range n).map L) ≤ 63
    · rw [if_pos h]
      simp only [h4, List.length_singleton]
      by_cases h5 : degs ((List.range n).map L) + ((L n).length - 1) ≤ 63
      · rw [if_pos h5, if_neg (by omega)]; rfl
      · rw [if_neg h5, if_pos (by omega)]
    · rw [if_neg h, if_neg (by omega)]
theorem fac_list {p : Int} (hp : isP p = true) {M : List (List Int)} (hM : ∀ b ∈ M, Row p b ∧ b.length ≠ 0) : fac p (fun j => rd M j) M.length = if degs M ≤ 63 then some (prodF p [1] M) else none := by
  have e : (List.range M.length).map (fun j => rd M j) = M := by
    apply List.ext_getElem (by simp)
    intro i h1 h2
    simp [rd, h2]
  rw [fac_closed hp _ _ fun j hj => hM _ (by rw [show rd M j = M[j] by simp [rd, hj]]; exact List.getElem_mem _), e]
end Go.Proofs.Ytkbnegemdlnncaa
/- Commutative rings, told by their laws: powers, the Frobenius, roots of polynomials, powers in finite fields. -/
namespace Go.Abs

structure IsRing (K : Type) [Add K] [Mul K] [Neg K] [Zero K] [One K] : Prop where
  add_comm : ∀ a b : K, a + b = b + a
  add_assoc : ∀ a b c : K, a + b + c = a + (b + c)
  add_zero : ∀ a : K, a + 0 = a
  add_neg : ∀ a : K, a + -a = 0
  mul_comm : ∀ a b : K, a * b = b * a
  mul_assoc : ∀ a b c : K, a * b * c = a * (b * c)
  mul_one : ∀ a : K, a * 1 = a
  mul_add : ∀ a b c : K, a * (b + c) = a * b + a * c

section
variable {K : Type} [Add K] [Mul K] [Neg K] [Zero K] [One K]

def pw (x : K) : Nat → K
  | 0 => 1
  | n + 1 => pw x n * x
def nsm : Nat → K → K
  | 0, _ => 0
  | n + 1, x => nsm n x + x

namespace IsRing
variable (R : IsRing K)
include R
theorem zero_add (a : K) : 0 + a = a := by rw [R.add_comm, R.add_zero]
theorem neg_add (a : K) : -a + a = 0 := by rw [R.add_comm, R.add_neg]
theorem add_left_comm (a b c : K) : a + (b + c) = b + (a + c) := by rw [← R.add_assoc, R.add_comm a b, R.add_assoc]
theorem mul_left_comm (a b c : K) : a * (b * c) = b * (a * c) := by rw [← R.mul_assoc, R.mul_comm a b, R.mul_assoc]
theorem one_mul (a : K) : 1 * a = a := by rw [R.mul_comm, R.mul_one]
theorem add_mul (a b c : K) : (a + b) * c = a * c + b * c := by rw [R.mul_comm, R.mul_add, R.mul_comm c a, R.mul_comm c b]
theorem cancel {a b c : K} (h : a + b = a + c) : b = c := by
  have : -a + (a + b) = -a + (a + c) := by rw [h]
  rwa [← R.add_assoc, ← R.add_assoc, R.neg_add, R.zero_add, R.zero_add] at this
theorem mul_zero (a : K) : a * 0 = 0 := by
  have h : a * 0 + a * 0 = a * 0 + 0 := by rw [← R.mul_add, R.add_zero, R.add_zero]
  exact R.cancel h
theorem zero_mul (a : K) : 0 * a = 0 := by rw [R.mul_comm, R.mul_zero]
theorem neg_of {a b : K} (h : a + b = 0) : b = -a := R.cancel (a := a) (by rw [h, R.add_neg])
theorem mul_neg (a b : K) : a * -b = -(a * b) := R.neg_of (by rw [← R.mul_add, R.add_neg, R.mul_zero])
theorem neg_neg (a : K) : - -a = a := (R.neg_of (R.neg_add a)).symm
theorem sub_zero {a b : K} (h : a + -b = 0) : a = b := by
  have h' := R.neg_of ((R.add_comm _ _).trans h)
  rw [R.neg_neg] at h'
  exact h'

/-! Powers and multiples. -/
theorem pw_one (n : Nat) : pw (1 : K) n = 1 := by
  induction n with
  | zero => rfl
  | succ n ih => simp only [pw, ih, R.mul_one]
theorem pw_zero {n : Nat} (h : n ≠ 0) : pw (0 : K) n = 0 := by
  cases n with
  | zero => exact absurd rfl h
  | succ n => simp only [pw, R.mul_zero]
theorem pw_add (x : K) (n m : Nat) : pw x (n + m) = pw x n * pw x m := by
  induction m with
  | zero => simp only [pw, Nat.add_zero, R.mul_one]
  | succ m ih => rw [← Nat.add_assoc]; simp only [pw, ih, R.mul_assoc]
theorem pw_mul (x : K) (n m : Nat) : pw x (n * m) = pw (pw x n) m := by
  induction m with
  | zero => simp only [pw, Nat.mul_zero]
  | succ m ih => rw [Nat.mul_succ, R.pw_add, ih]; rfl
theorem mul_pw (x y : K) (n : Nat) : pw (x * y) n = pw x n * pw y n := by
  induction n with
  | zero => simp only [pw, R.mul_one]
  | succ n ih => simp only [pw, ih, R.mul_assoc, R.mul_left_comm]
theorem nsm_add (n m : Nat) (x : K) : nsm (n + m) x = nsm n x + nsm m x := by
  induction m with
  | zero => simp only [nsm, Nat.add_zero, R.add_zero]
  | succ m ih => rw [← Nat.add_assoc]; simp only [nsm, ih, R.add_assoc]
theorem nsm_mul (n m : Nat) (x : K) : nsm (n * m) x = nsm n (nsm m x) := by
  induction n with
  | zero => simp only [nsm, Nat.zero_mul]
  | succ n ih => rw [Nat.succ_mul, R.nsm_add, ih]; rfl
theorem mul_nsm (n : Nat) (x y : K) : x * nsm n y = nsm n (x * y) := by
  induction n with
  | zero => simp only [nsm, R.mul_zero]
  | succ n ih => simp only [nsm, R.mul_add, ih]
theorem nsm_zero (n : Nat) : nsm n (0 : K) = 0 := by
  induction n with
  | zero => rfl
  | succ n ih => simp only [nsm, ih, R.add_zero]

end IsRing

/-- The sum of c_i x^i y^(n - i). -/
def hom (x y : K) : List Nat → K
  | [] => 0
  | c :: l => nsm c (pw y l.length) + x * hom x y l
def pasc : Nat → List Nat → List Nat
  | k, [] => [k]
  | k, c :: l => (k + c) :: pasc c l
theorem pasc_len : ∀ (k : Nat) (l : List Nat), (pasc k l).length = l.length + 1
  | _, [] => rfl
  | k, c :: l => by simp only [pasc, List.length_cons, pasc_len c l]
def pascn : Nat → List Nat
  | 0 => [1]
  | n + 1 => pasc 0 (pascn n)

namespace IsRing
variable (R : IsRing K)
include R
theorem hom_pasc (x y : K) : ∀ (l : List Nat) (k : Nat), hom x y (pasc k l) = nsm k (pw y l.length) + (x + y) * hom x y l
  | [], k => by simp only [pasc, hom, List.length_nil, pw, R.mul_zero]
  | c :: l, k => by
    simp only [pasc, hom, pasc_len, List.length_cons, hom_pasc x y l c]
    have e1 : nsm (k + c) (pw y (l.length + 1)) = nsm k (pw y (l.length + 1)) + y * nsm c (pw y l.length) := by
      rw [R.nsm_add, R.mul_nsm, R.mul_comm y]; rfl
    rw [e1]
    simp only [R.mul_add, R.add_mul, R.add_assoc, R.mul_left_comm y x]
    congr 1
    exact R.add_left_comm _ _ _
theorem pw_sum (x y : K) (n : Nat) : pw (x + y) n = hom x y (pascn n) := by
  induction n with
  | zero => simp only [pw, pascn, hom, List.length_nil, nsm, R.mul_zero, R.add_zero, R.zero_add]
  | succ n ih => simp only [pw, pascn, ih, R.hom_pasc, nsm, R.zero_add, R.mul_comm]
theorem frob {p : Nat} (hp : p = 2 ∨ p = 3 ∨ p = 5 ∨ p = 7) (hc : ∀ x : K, nsm p x = 0) (x y : K) : pw (x + y) p = pw x p + pw y p := by
  have hm : ∀ m (z : K), nsm (m * p) z = 0 := fun m z => by rw [R.nsm_mul, hc, R.nsm_zero]
  rw [R.pw_sum]
  rcases hp with rfl | rfl | rfl | rfl
  · have h := hm 1
    show hom x y [1, 2, 1] = _
    simp only [hom, List.length_cons, List.length_nil, h, nsm, R.zero_add, R.add_zero, R.mul_zero, pw, R.mul_one, R.one_mul, R.mul_assoc] at h ⊢
    rw [R.add_comm]
    simp only [h, R.zero_add]
  · have h1 := hm 1
    show hom x y [1, 3, 3, 1] = _
    have e : ∀ z : K, nsm 3 z = 0 := h1
    unfold hom hom hom hom hom
    simp only [e, List.length_cons, List.length_nil, R.zero_add]
    simp only [nsm, R.zero_add, R.add_zero, R.mul_zero, pw, R.mul_one, R.one_mul, R.mul_assoc]
    rw [R.add_comm]
  · have e1 : ∀ z : K, nsm 5 z = 0 := hm 1
    have e2 : ∀ z : K, nsm 10 z = 0 := hm 2
    show hom x y [1, 5, 10, 10, 5, 1] = _
    unfold hom hom hom hom hom hom hom
    simp only [e1, e2, List.length_cons, List.length_nil, R.zero_add]
    simp only [nsm, R.zero_add, R.add_zero, R.mul_zero, pw, R.mul_one, R.one_mul, R.mul_assoc]
    rw [R.add_comm]
  · have e1 : ∀ z : K, nsm 7 z = 0 := hm 1
    have e2 : ∀ z : K, nsm 21 z = 0 := hm 3
    have e3 : ∀ z : K, nsm 35 z = 0 := hm 5
    show hom x y [1, 7, 21, 35, 35, 21, 7, 1] = _
    unfold hom hom hom hom hom hom hom hom hom
    simp only [e1, e2, e3, List.length_cons, List.length_nil, R.zero_add]
    simp only [nsm, R.zero_add, R.add_zero, R.mul_zero, pw, R.mul_one, R.one_mul, R.mul_assoc]
    rw [R.add_comm]
theorem frobn {p : Nat} (hp : p = 2 ∨ p = 3 ∨ p = 5 ∨ p = 7) (hc : ∀ x : K, nsm p x = 0) (x y : K) (n : Nat) : pw (x + y) (p ^ n) = pw x (p ^ n) + pw y (p ^ n) := by
  induction n with
  | zero => simp only [Nat.pow_zero, pw, R.one_mul]
  | succ n ih => rw [Nat.pow_succ, R.pw_mul, R.pw_mul, R.pw_mul, ih, R.frob hp hc]
end IsRing

/-! Polynomials from the leading coefficient on. -/
def hn (x : K) : K → List K → K
  | a, [] => a
  | a, c :: l => hn x (a * x + c) l
def synd (r : K) : K → List K → List K
  | _, [] => []
  | a, c :: l => a :: synd r (a * r + c) l
omit [Neg K] [Zero K] [One K] in
theorem synd_len (r : K) : ∀ (a : K) (l : List K), (synd r a l).length = l.length
  | _, [] => rfl
  | a, c :: l => by simp only [synd, List.length_cons, synd_len r _ l]

namespace IsRing
variable (R : IsRing K)
include R
theorem hn_synd (x r : K) : ∀ (l : List K) (a y : K), hn x (a + (x + -r) * y) l = (x + -r) * hn x y (synd r a l) + hn r a l
  | [], a, y => by simp only [hn, synd]; exact R.add_comm _ _
  | c :: l, a, y => by
    simp only [hn, synd]
    rw [← hn_synd x r l (a * r + c) (y * x + a)]
    congr 1
    have e : a * x = a * r + (x + -r) * a := by
      rw [R.add_mul, R.mul_comm (-r), R.mul_neg, R.mul_comm x a, R.add_left_comm, R.add_neg, R.add_zero]
    rw [R.add_mul, e, R.mul_add, R.mul_assoc]
    simp only [R.add_assoc, R.add_comm c]
    congr 1
    rw [R.add_left_comm]
/-- A monic polynomial has no more roots than its degree. -/
theorem roots (hd : ∀ a b : K, a * b = 0 → a = 0 ∨ b = 0) (h10 : (1 : K) ≠ 0) : ∀ (n : Nat) (l L : List K), l.length = n → L.Nodup → (∀ x ∈ L, hn x 1 l = 0) → L.length ≤ n
  | _, _, [], _, _, _ => Nat.zero_le _
  | 0, l, r :: L, hl, _, hr => by
    have : l = [] := List.eq_nil_of_length_eq_zero hl
    subst this
    exact absurd (hr r (by simp)) h10
  | n + 1, [], r :: L, hl, _, _ => by simp at hl
  | n + 1, c :: l, r :: L, hl, hN, hr => by
    have hr0 : hn r 1 (c :: l) = 0 := hr r (by simp)
    have key : ∀ x ∈ L, hn x 1 (synd r (1 * r + c) l) = 0 := by
      intro x hx
      have h0 := hr x (by simp [hx])
      have h1 := R.hn_synd x r (c :: l) 1 0
      rw [R.mul_zero, R.add_zero, h0, hr0, R.add_zero] at h1
      simp only [synd, hn, R.zero_mul, R.zero_add] at h1
      rcases hd _ _ h1.symm with h | h
      · have : x = r := R.sub_zero h
        subst this
        exact absurd hx (List.nodup_cons.1 hN).1
      · exact h
    have := roots hd h10 n (synd r (1 * r + c) l) L (by rw [synd_len]; simpa using hl) (List.nodup_cons.1 hN).2 key
    simp only [List.length_cons]; omega
theorem hn_rep (x : K) (m : List K) : ∀ (k : Nat) (a : K), hn x a (List.replicate k 0 ++ m) = hn x (a * pw x k) m
  | 0, a => by simp [pw, R.mul_one]
  | k + 1, a => by
    simp only [List.replicate_succ, List.cons_append, hn, R.add_zero]
    rw [hn_rep x m k, R.mul_assoc]
    simp only [pw]
    rw [R.mul_comm x]
/-- At most N elements are their own N-th powers. -/
theorem fixed_le (hd : ∀ a b : K, a * b = 0 → a = 0 ∨ b = 0) (h10 : (1 : K) ≠ 0) {N : Nat} (hN : 2 ≤ N) {L : List K} (hL : L.Nodup) (hx : ∀ x ∈ L, pw x N = x) : L.length ≤ N := by
  obtain ⟨k, rfl⟩ : ∃ k, N = k + 2 := ⟨N - 2, by omega⟩
  refine R.roots hd h10 (k + 2) (List.replicate k 0 ++ [-1, 0]) L (by simp) hL fun x h => ?_
  have h2 := hx x h
  rw [R.hn_rep, R.one_mul]
  simp only [hn, R.add_zero]
  simp only [pw] at h2
  rw [R.add_mul, h2, R.mul_comm (-1), R.mul_neg, R.mul_one, R.add_neg]

end IsRing
theorem mem_of_len {α : Type} [DecidableEq α] : ∀ l m : List α, l.Nodup → (∀ x ∈ l, x ∈ m) → m.length ≤ l.length → ∀ y ∈ m, y ∈ l
  | [], m, _, _, h, y, hy => by
    have : m = [] := List.eq_nil_of_length_eq_zero (by simpa using h)
    subst this; exact hy
  | x :: l, m, hn, hs, h, y, hy => by
    obtain ⟨h1, h2⟩ := List.nodup_cons.1 hn
    have hx := hs x (by simp)
    by_cases e : y = x
    · subst e; simp
    · have hl := List.length_erase_of_mem hx
      refine List.mem_cons_of_mem _ (mem_of_len l (m.erase x) h2 (fun z hz => ?_) ?_ y ((List.mem_erase_of_ne e).2 hy))
      · exact (List.mem_erase_of_ne (fun e2 => h1 (by rw [← e2]; exact hz))).2 (hs z (by simp [hz]))
      · simp only [List.length_cons] at h; omega
def prd : List K → K
  | [] => 1
  | x :: l => x * prd l
namespace IsRing
variable (R : IsRing K)
include R
theorem prd_perm {l m : List K} (h : l.Perm m) : prd l = prd m := by
  induction h with
  | nil => rfl
  | cons x _ ih => simp only [prd, ih]
  | swap x y l => simp only [prd, R.mul_left_comm x y]
  | trans _ _ h1 h2 => rw [h1, h2]
theorem prd_map (x : K) : ∀ l : List K, prd (l.map (x * ·)) = pw x l.length * prd l
  | [] => by simp only [List.map_nil, prd, List.length_nil, pw, R.mul_one]
  | y :: l => by simp only [List.map_cons, prd, List.length_cons, pw, prd_map x l, R.mul_assoc, R.mul_left_comm y]; rw [R.mul_left_comm]
omit R [Add K] [Neg K] in
theorem prd_ne (hd : ∀ a b : K, a * b = 0 → a = 0 ∨ b = 0) (h10 : (1 : K) ≠ 0) : ∀ l : List K, (∀ x ∈ l, x ≠ 0) → prd l ≠ 0
  | [], _ => h10
  | y :: l, h => fun e => by
    rcases hd _ _ e with e | e
    · exact h y (by simp) e
    · exact prd_ne hd h10 l (fun x hx => h x (by simp [hx])) e
theorem mul_cancel (hd : ∀ a b : K, a * b = 0 → a = 0 ∨ b = 0) {a b c : K} (ha : a ≠ 0) (h : a * b = a * c) : b = c := by
  have : a * (b + -c) = 0 := by rw [R.mul_add, R.mul_neg, h, R.add_neg]
  rcases hd _ _ this with e | e
  · exact absurd e ha
  · exact R.sub_zero e
/-- In a finite field of q elements the power q of an element is the element. -/
theorem fermat (hd : ∀ a b : K, a * b = 0 → a = 0 ∨ b = 0) (h10 : (1 : K) ≠ 0) {E : List K} (hE : E.Nodup) (hall : ∀ x, x ∈ E) (x : K) : pw x E.length = x := by
  classical
  have hpos : E.length ≠ 0 := fun e => by have := hall x; rw [List.eq_nil_of_length_eq_zero e] at this; simp at this
  by_cases hx : x = 0
  · subst hx; exact R.pw_zero hpos
  · have hF : (E.erase 0).Nodup := hE.erase 0
    have hmem : ∀ y, y ∈ E.erase 0 ↔ y ≠ 0 := fun y => by rw [hE.mem_erase_iff]; simp [hall y]
    have hlen : (E.erase 0).length = E.length - 1 := List.length_erase_of_mem (hall 0)
    have hperm : ((E.erase 0).map (x * ·)).Perm (E.erase 0) := by
      refine (List.perm_ext_iff_of_nodup ?_ hF).2 fun y => ?_
      · refine List.Pairwise.map _ ?_ hF
        intro a b hab e
        exact hab (R.mul_cancel hd hx e)
      · rw [List.mem_map, hmem]
        constructor
        · rintro ⟨z, hz, rfl⟩ e
          rcases hd _ _ e with e | e
          · exact hx e
          · exact (hmem z).1 hz e
        · intro hy
          have hnd : ((E.erase 0).map (x * ·)).Nodup := by
            refine List.Pairwise.map _ ?_ hF
            intro a b hab e
            exact hab (R.mul_cancel hd hx e)
          have hin : ∀ z ∈ (E.erase 0).map (x * ·), z ∈ E.erase 0 := by
            intro z hz
            obtain ⟨w, hw, rfl⟩ := List.mem_map.1 hz
            refine (hmem _).2 fun e => ?_
            rcases hd _ _ e with e | e
            · exact hx e
            · exact (hmem w).1 hw e
          exact List.mem_map.1 (mem_of_len _ _ hnd hin (by simp) y ((hmem y).2 hy))
    have h1 := R.prd_perm hperm
    rw [R.prd_map] at h1
    have h2 : prd (E.erase 0) * pw x (E.erase 0).length = prd (E.erase 0) * 1 := by rw [R.mul_comm, h1, R.mul_one]
    have h3 := R.mul_cancel hd (IsRing.prd_ne hd h10 _ fun y hy => (hmem y).1 hy) h2
    have e : E.length = (E.erase 0).length + 1 := by omega
    rw [e]
    simp only [pw, h3, R.one_mul]
end IsRing
end
end Go.Abs
/- Rings: divisors, residues by an element. -/
namespace Go.Abs
section
variable {K : Type} [Add K] [Mul K] [Neg K] [Zero K] [One K]

def Dv (a b : K) : Prop := ∃ q, b = q * a
namespace IsRing
variable (R : IsRing K)
include R
theorem dv_refl (a : K) : Dv a a := ⟨1, (R.one_mul a).symm⟩
theorem dv_zero (a : K) : Dv a 0 := ⟨0, (R.zero_mul a).symm⟩
theorem dv_add {a b c : K} (h1 : Dv a b) (h2 : Dv a c) : Dv a (b + c) := by
  obtain ⟨x, rfl⟩ := h1
  obtain ⟨y, rfl⟩ := h2
  exact ⟨x + y, (R.add_mul _ _ _).symm⟩
theorem dv_mul {a b : K} (h : Dv a b) (c : K) : Dv a (c * b) := by
  obtain ⟨x, rfl⟩ := h
  exact ⟨c * x, (R.mul_assoc _ _ _).symm⟩
theorem dv_mul' {a b : K} (h : Dv a b) (c : K) : Dv a (b * c) := by rw [R.mul_comm]; exact R.dv_mul h c
theorem dv_neg {a b : K} (h : Dv a b) : Dv a (-b) := by
  obtain ⟨x, rfl⟩ := h
  exact ⟨-x, by rw [R.mul_comm (-x), R.mul_neg, R.mul_comm]⟩
theorem dv_trans {a b c : K} (h1 : Dv a b) (h2 : Dv b c) : Dv a c := by
  obtain ⟨y, rfl⟩ := h2
  exact R.dv_mul h1 y
theorem dv_one {a b : K} (h : Dv a 1) : Dv a b := by
  have := R.dv_mul h b
  rwa [R.mul_one] at this
/-- Of a sum and a part of it, the other part. -/
theorem dv_sub {a b c : K} (h1 : Dv a (b + c)) (h2 : Dv a b) : Dv a c := by
  have h := R.dv_add h1 (R.dv_neg h2)
  have e : b + c + -b = c := by rw [R.add_comm b c, R.add_assoc, R.add_neg, R.add_zero]
  rwa [e] at h
theorem neg_add' (a b : K) : -(a + b) = -a + -b := by
  refine (R.neg_of ?_).symm
  rw [R.add_assoc, R.add_left_comm b, R.add_neg, R.add_zero, R.add_neg]
theorem neg_zero : -(0 : K) = 0 := (R.neg_of (R.add_zero 0)).symm

/-! Congruence by an element. -/
theorem cong_eqv (f : K) : Equivalence fun a b : K => Dv f (a + -b) := by
  refine ⟨fun a => by rw [R.add_neg]; exact R.dv_zero f, fun {a b} h => ?_, fun {a b c} h1 h2 => ?_⟩
  · have := R.dv_neg h
    rwa [R.neg_add', R.neg_neg, R.add_comm] at this
  · have := R.dv_add h1 h2
    have e : a + -b + (b + -c) = a + -c := by rw [R.add_assoc, ← R.add_assoc (-b), R.neg_add, R.zero_add]
    rwa [e] at this
end IsRing
def sdv (R : IsRing K) (f : K) : Setoid K := ⟨fun a b => Dv f (a + -b), R.cong_eqv f⟩
def Qt (R : IsRing K) (f : K) : Type := Quotient (sdv R f)
def qm (R : IsRing K) (f a : K) : Qt R f := Quotient.mk (sdv R f) a
theorem qm_iff (R : IsRing K) {f a b : K} : qm R f a = qm R f b ↔ Dv f (a + -b) := ⟨fun h => Quotient.exact h, fun h => Quotient.sound h⟩
theorem qm_zero_iff (R : IsRing K) {f a : K} : qm R f a = qm R f 0 ↔ Dv f a := by rw [qm_iff, R.neg_zero, R.add_zero]

variable (R : IsRing K) (f : K)
instance : Add (Qt R f) := ⟨Quotient.lift₂ (fun a b => qm R f (a + b)) fun a b c d h1 h2 => by
  refine (qm_iff R).2 ?_
  have h := R.dv_add (show Dv f (a + -c) from h1) (show Dv f (b + -d) from h2)
  have e : a + -c + (b + -d) = a + b + -(c + d) := by
    rw [R.neg_add']; simp only [R.add_assoc]; rw [R.add_left_comm (-c)]
  rwa [e] at h⟩
instance : Mul (Qt R f) := ⟨Quotient.lift₂ (fun a b => qm R f (a * b)) fun a b c d h1 h2 => by
  refine (qm_iff R).2 ?_
  have h := R.dv_add (R.dv_mul' (show Dv f (a + -c) from h1) b) (R.dv_mul (show Dv f (b + -d) from h2) c)
  have e : (a + -c) * b + c * (b + -d) = a * b + -(c * d) := by
    rw [R.add_mul, R.mul_add, R.mul_neg, R.mul_comm (-c), R.mul_neg, R.mul_comm b c, R.add_assoc, ← R.add_assoc (-(c * b)), R.neg_add, R.zero_add]
  rwa [e] at h⟩
instance : Neg (Qt R f) := ⟨Quotient.lift (fun a => qm R f (-a)) fun a c h1 => by
  refine (qm_iff R).2 ?_
  have h := R.dv_neg (show Dv f (a + -c) from h1)
  rwa [R.neg_add'] at h⟩
instance : Zero (Qt R f) := ⟨qm R f 0⟩
instance : One (Qt R f) := ⟨qm R f 1⟩
theorem qm_add (a b : K) : qm R f (a + b) = qm R f a + qm R f b := rfl
theorem qm_mul (a b : K) : qm R f (a * b) = qm R f a * qm R f b := rfl
theorem qm_zero : qm R f 0 = 0 := rfl
theorem qm_one : qm R f 1 = 1 := rfl
theorem qm_pw (a : K) (n : Nat) : qm R f (pw a n) = pw (qm R f a) n := by
  induction n with
  | zero => rfl
  | succ n ih => simp only [pw, qm_mul, ih]
theorem qm_nsm (a : K) (n : Nat) : qm R f (nsm n a) = nsm n (qm R f a) := by
  induction n with
  | zero => rfl
  | succ n ih => simp only [nsm, qm_add, ih]
theorem qm_all {P : Qt R f → Prop} (h : ∀ a, P (qm R f a)) : ∀ x, P x := fun x => Quotient.ind h x
theorem qring : IsRing (Qt R f) where
  add_comm := qm_all R f fun a => qm_all R f fun b => congrArg (qm R f) (R.add_comm a b)
  add_assoc := qm_all R f fun a => qm_all R f fun b => qm_all R f fun c => congrArg (qm R f) (R.add_assoc a b c)
  add_zero := qm_all R f fun a => congrArg (qm R f) (R.add_zero a)
  add_neg := qm_all R f fun a => congrArg (qm R f) (R.add_neg a)
  mul_comm := qm_all R f fun a => qm_all R f fun b => congrArg (qm R f) (R.mul_comm a b)
  mul_assoc := qm_all R f fun a => qm_all R f fun b => qm_all R f fun c => congrArg (qm R f) (R.mul_assoc a b c)
  mul_one := qm_all R f fun a => congrArg (qm R f) (R.mul_one a)
  mul_add := qm_all R f fun a => qm_all R f fun b => qm_all R f fun c => congrArg (qm R f) (R.mul_add a b c)
end
end Go.Abs
/- Inverses modulo p. -/
namespace Go.Proofs.Ytkbnegemdlnncaa
open Go.Abs

/-- The inverse of x modulo p. -/
def inv (p x : Int) : Int := if p = 2 then 1 else if p = 3 then x else if p = 5 then (if x = 1 then 1 else if x = 2 then 3 else if x = 3 then 2 else 4) else (if x = 1 then 1 else if x = 2 then 4 else if x = 3 then 5 else if x = 4 then 2 else if x = 5 then 3 else 6)
theorem inv_cases {p x : Int} (hp : isP p = true) (hx : 0 < x ∧ x < p) : (p = 2 ∧ x = 1) ∨ (p = 3 ∧ x = 1) ∨ (p = 3 ∧ x = 2) ∨ (p = 5 ∧ x = 1) ∨ (p = 5 ∧ x = 2) ∨ (p = 5 ∧ x = 3) ∨ (p = 5 ∧ x = 4) ∨
    (p = 7 ∧ x = 1) ∨ (p = 7 ∧ x = 2) ∨ (p = 7 ∧ x = 3) ∨ (p = 7 ∧ x = 4) ∨ (p = 7 ∧ x = 5) ∨ (p = 7 ∧ x = 6) := by
  rcases isP_iff.1 hp with rfl | rfl | rfl | rfl <;> omega
theorem inv_is {p x : Int} (hp : isP p = true) (hx : 0 < x ∧ x < p) : 0 < inv p x ∧ inv p x < p ∧ x * inv p x % p = 1 := by
  rcases inv_cases hp hx with ⟨rfl, rfl⟩ | ⟨rfl, rfl⟩ | ⟨rfl, rfl⟩ | ⟨rfl, rfl⟩ | ⟨rfl, rfl⟩ | ⟨rfl, rfl⟩ | ⟨rfl, rfl⟩ | ⟨rfl, rfl⟩ | ⟨rfl, rfl⟩ | ⟨rfl, rfl⟩ | ⟨rfl, rfl⟩ | ⟨rfl, rfl⟩ | ⟨rfl, rfl⟩ <;> decide
theorem inv_first {p x : Int} (hp : isP p = true) (hx : 0 < x ∧ x < p) {j : Int} (h1 : 1 ≤ j) (h2 : j < inv p x) : j * x % p ≠ 1 := by
  rcases inv_cases hp hx with ⟨rfl, rfl⟩ | ⟨rfl, rfl⟩ | ⟨rfl, rfl⟩ | ⟨rfl, rfl⟩ | ⟨rfl, rfl⟩ | ⟨rfl, rfl⟩ | ⟨rfl, rfl⟩ | ⟨rfl, rfl⟩ | ⟨rfl, rfl⟩ | ⟨rfl, rfl⟩ | ⟨rfl, rfl⟩ | ⟨rfl, rfl⟩ | ⟨rfl, rfl⟩ <;> simp [inv] at h2 <;> omega
theorem inv_pow {p x : Int} (hp : isP p = true) (hx : 0 < x ∧ x < p) : x ^ (p - 2).toNat % p = inv p x := by
  rcases inv_cases hp hx with ⟨rfl, rfl⟩ | ⟨rfl, rfl⟩ | ⟨rfl, rfl⟩ | ⟨rfl, rfl⟩ | ⟨rfl, rfl⟩ | ⟨rfl, rfl⟩ | ⟨rfl, rfl⟩ | ⟨rfl, rfl⟩ | ⟨rfl, rfl⟩ | ⟨rfl, rfl⟩ | ⟨rfl, rfl⟩ | ⟨rfl, rfl⟩ | ⟨rfl, rfl⟩ <;> decide
end Go.Proofs.Ytkbnegemdlnncaa
/- Division of polynomials, from the leading coefficient on. -/
namespace Go.Proofs.Ytkbnegemdlnncaa
open Go.Abs

def dstep (p : Int) (b : Nat → Int) (m : Nat) (f : Int) (i : Nat) (r : Nat → Int) (j : Nat) : Int := if i ≤ j ∧ j ≤ i + m then (r j - f * b (j - i)) % p else r j
def dfac (p iv : Int) (m i : Nat) (r : Nat → Int) : Int := r (i + m) * iv % p
def drem (p : Int) (b : Nat → Int) (m : Nat) (iv : Int) : Nat → (Nat → Int) → Nat → Int
  | 0, r => r
  | i + 1, r => drem p b m iv i (dstep p b m (dfac p iv m i r) i r)
def dquo (p : Int) (b : Nat → Int) (m : Nat) (iv : Int) : Nat → (Nat → Int) → Nat → Int
  | 0, _, _ => 0
  | i + 1, r, j => if j = i then dfac p iv m i r else dquo p b m iv i (dstep p b m (dfac p iv m i r) i r) j
def lead (b : List Int) : Int := rd b (b.length - 1)
def quo (p : Int) (a b : List Int) : List Int := ofF (a.length + 1 - b.length) (dquo p (rd b) (b.length - 1) (inv p (lead b)) (a.length + 1 - b.length) (rd a))
def rem (p : Int) (a b : List Int) : List Int := ofF a.length (drem p (rd b) (b.length - 1) (inv p (lead b)) (a.length + 1 - b.length) (rd a))

section
variable {p : Int} {b : Nat → Int} {m : Nat} {iv : Int}
theorem dstep_res (hp : 0 < p) {r : Nat → Int} (hr : ∀ j, 0 ≤ r j ∧ r j < p) (f : Int) (i j : Nat) : 0 ≤ dstep p b m f i r j ∧ dstep p b m f i r j < p := by
  unfold dstep
  split
  · exact emod_res hp _
  · exact hr j
theorem drem_res (hp : 0 < p) : ∀ (i : Nat) (r : Nat → Int), (∀ j, 0 ≤ r j ∧ r j < p) → ∀ j, 0 ≤ drem p b m iv i r j ∧ drem p b m iv i r j < p
  | 0, r, hr, j => hr j
  | i + 1, r, hr, j => drem_res hp i _ (fun j => dstep_res hp hr _ i j) j
theorem dquo_res (hp : 0 < p) : ∀ (i : Nat) (r : Nat → Int) (j : Nat), 0 ≤ dquo p b m iv i r j ∧ dquo p b m iv i r j < p
  | 0, r, j => by simp only [dquo]; omega
  | i + 1, r, j => by
    simp only [dquo]
    split
    · exact emod_res hp _
    · exact dquo_res hp i _ j
theorem dquo_ge : ∀ (i : Nat) (r : Nat → Int) (j : Nat), i ≤ j → dquo p b m iv i r j = 0
  | 0, _, _, _ => rfl
  | i + 1, r, j, h => by
    simp only [dquo]
    rw [if_neg (by omega)]
    exact dquo_ge i _ j (by omega)
theorem cv_congr {f g c : Nat → Int} (k : Nat) : ∀ n, (∀ i, i < n → f i = g i) → cv f c n k = cv g c n k := fun n h => sumTo_congr n fun i hi => by rw [h i hi]
/-- The rest vanishes from the place m on. -/
theorem drem_zero (hp : 0 < p) (hb : b m * iv % p = 1 % p) : ∀ (i : Nat) (r : Nat → Int), (∀ j, 0 ≤ r j ∧ r j < p) → (∀ j, i + m ≤ j → r j = 0) → ∀ j, m ≤ j → drem p b m iv i r j = 0
  | 0, r, _, hz, j, hj => hz j (by omega)
  | i + 1, r, hr, hz, j, hj => by
    refine drem_zero hp hb i _ (fun j => dstep_res hp hr _ i j) (fun j hj => ?_) j hj
    unfold dstep
    by_cases e : j = i + m
    · subst e
      rw [if_pos (by omega), show i + m - i = m by omega]
      have h1 : (r (i + m) - dfac p iv m i r * b m) % p = 0 := by
        unfold dfac
        have h2 : (r (i + m) * iv % p) * b m % p = r (i + m) % p := by
          rw [Int.mul_emod, Int.emod_emod, ← Int.mul_emod, Int.mul_assoc, Int.mul_emod, Int.mul_comm iv, hb, ← Int.mul_emod, Int.mul_one]
        rw [Int.sub_emod, h2, Int.sub_self]; rfl
      exact h1
    · rw [if_neg (by omega)]
      exact hz j (by omega)
/-- Quotient and rest give what was divided. -/
theorem div_eq (hp : 0 < p) (hbz : ∀ j, m < j → b j = 0) : ∀ (i : Nat) (r : Nat → Int) (j : Nat), (cv (dquo p b m iv i r) b i j + drem p b m iv i r j) % p = r j % p
  | 0, r, j => by simp [cv, sumTo, drem]
  | i + 1, r, j => by
    have ih := div_eq hp hbz i (dstep p b m (dfac p iv m i r) i r) j
    simp only [drem]
    rw [cv_succ, cv_congr (g := dquo p b m iv i (dstep p b m (dfac p iv m i r) i r)) j i fun k hk => by simp only [dquo]; rw [if_neg (by omega)]]
    have e : dquo p b m iv (i + 1) r i = dfac p iv m i r := by simp only [dquo, if_true]
    rw [e]
    generalize dfac p iv m i r = f at *
    generalize cv (dquo p b m iv i (dstep p b m f i r)) b i j = c at *
    generalize drem p b m iv i (dstep p b m f i r) j = d at *
    by_cases h : i ≤ j
    · rw [if_pos h]
      by_cases h2 : j ≤ i + m
      · simp only [dstep] at ih
        rw [if_pos ⟨h, h2⟩, Int.emod_emod] at ih
        have e1 : c + f * b (j - i) + d = (c + d) + f * b (j - i) := by omega
        rw [e1, Int.add_emod, ih, ← Int.add_emod]
        congr 1
        omega
      · simp only [dstep] at ih
        rw [if_neg (by omega)] at ih
        rw [hbz (j - i) (by omega), Int.mul_zero, Int.add_zero]
        exact ih
    · simp only [dstep] at ih
      rw [if_neg (by omega)] at ih
      rw [if_neg h, Int.add_zero]
      exact ih
end

theorem lead_pos {p : Int} (hp : 0 < p) {b : List Int} (hb : Row p b) (h0 : b.length ≠ 0) : 0 < lead b ∧ lead b < p := by
  have h1 := hb.rd hp (b.length - 1)
  have h2 := hb.nrm h0
  unfold lead
  omega
theorem quo_row {p : Int} (hp : 0 < p) (a b : List Int) : Row p (quo p a b) := row_ofF fun i _ => dquo_res hp _ _ i
theorem rem_row {p : Int} (hp : 0 < p) {a : List Int} (ha : Row p a) (b : List Int) : Row p (rem p a b) := row_ofF fun i _ => drem_res hp _ _ (fun j => ha.rd hp j) i
theorem quo_len (p : Int) (a b : List Int) : (quo p a b).length ≤ a.length + 1 - b.length := by rw [quo, ofF_len]; exact top_le _ _
theorem rem_len' (p : Int) (a b : List Int) : (rem p a b).length ≤ a.length := by rw [rem, ofF_len]; exact top_le _ _
theorem quo_rd (p : Int) (a b : List Int) (j : Nat) : rd (quo p a b) j = dquo p (rd b) (b.length - 1) (inv p (lead b)) (a.length + 1 - b.length) (rd a) j := rd_ofF (fun i hi => dquo_ge _ _ _ hi) j
theorem drem_big {p : Int} {b : Nat → Int} {m : Nat} {iv : Int} : ∀ (i : Nat) (r : Nat → Int) (n : Nat), i + m ≤ n → (∀ j, n ≤ j → r j = 0) → ∀ j, n ≤ j → drem p b m iv i r j = 0
  | 0, r, n, _, hz, j, hj => hz j hj
  | i + 1, r, n, hn, hz, j, hj => drem_big i _ n (by omega) (fun j hj => by unfold dstep; rw [if_neg (by omega)]; exact hz j hj) j hj
theorem rem_rd {p : Int} (a : List Int) {b : List Int} (h0 : b.length ≠ 0) (j : Nat) : rd (rem p a b) j = drem p (rd b) (b.length - 1) (inv p (lead b)) (a.length + 1 - b.length) (rd a) j := by
  refine rd_ofF (fun i hi => ?_) j
  rcases Nat.lt_or_ge a.length b.length with h | h
  · rw [show a.length + 1 - b.length = 0 by omega]; exact rd_ge hi
  · exact drem_big _ _ a.length (by omega) (fun j hj => rd_ge hj) i hi
theorem rem_len {p : Int} (hp : isP p = true) {a b : List Int} (ha : Row p a) (hb : Row p b) (h0 : b.length ≠ 0) : (rem p a b).length < b.length := by
  have hp2 := isP_pos hp
  have hi := inv_is hp (lead_pos (show 0 < p by omega) hb h0)
  have hz : ∀ j, b.length - 1 ≤ j → rd (rem p a b) j = 0 := fun j hj => by
    rw [rem_rd a h0]
    refine drem_zero (by omega) ?_ _ _ (fun j => ha.rd (by omega) j) (fun j hj => rd_ge (by omega)) j hj
    have : (1 : Int) % p = 1 := Int.emod_eq_of_lt (by omega) (by omega)
    rw [this]
    exact hi.2.2
  rcases Nat.lt_or_ge (rem p a b).length b.length with h | h
  · exact h
  · have h1 := (rem_row (show 0 < p by omega) ha b).nrm (by omega)
    exact absurd (hz _ (by omega)) h1
/-- What is divided is quotient times divisor, plus the rest. -/
theorem divide_eq {p : Int} (hp : isP p = true) {a b : List Int} (ha : Row p a) (h0 : b.length ≠ 0) (j : Nat) : rd a j = (conv (rd (quo p a b)) (rd b) j + rd (rem p a b) j) % p := by
  have hp2 := isP_pos hp
  have h := div_eq (p := p) (b := rd b) (m := b.length - 1) (iv := inv p (lead b)) (by omega) (fun j hj => rd_ge (by omega)) (a.length + 1 - b.length) (rd a) j
  have e : conv (rd (quo p a b)) (rd b) j = cv (dquo p (rd b) (b.length - 1) (inv p (lead b)) (a.length + 1 - b.length) (rd a)) (rd b) (a.length + 1 - b.length) j := by
    rw [← cv_conv (n := a.length + 1 - b.length) fun i hi => rd_ge (Nat.le_trans (quo_len p a b) hi)]
    exact cv_congr _ _ fun i _ => quo_rd p a b i
  have hr := ha.rd (show 0 < p by omega) j
  rw [e, rem_rd a h0, h, Int.emod_eq_of_lt hr.1 hr.2]
end Go.Proofs.Ytkbnegemdlnncaa
/- The polynomials modulo p as a ring; irreducible ones. -/
namespace Go.Proofs.Ytkbnegemdlnncaa
open Go.Abs

structure Pri where
  n : Nat
  ok : isP (n : Int) = true
def Pri.p (P : Pri) : Int := P.n
theorem Pri.okp (P : Pri) : isP P.p = true := P.ok
theorem Pri.pos (P : Pri) : 0 < P.p := by have := isP_pos P.ok; unfold Pri.p; omega
theorem Pri.two (P : Pri) : 2 ≤ P.p ∧ P.p ≤ 7 := isP_pos P.ok
theorem Pri.is (P : Pri) : P.n = 2 ∨ P.n = 3 ∨ P.n = 5 ∨ P.n = 7 := by
  have := isP_iff.1 P.ok; omega
structure PP (P : Pri) where
  l : List Int
  row : Row P.p l
theorem pp_eq {P : Pri} : ∀ {a b : PP P}, a.1 = b.1 → a = b
  | ⟨_, _⟩, ⟨_, _⟩, h => by cases h; rfl
variable {P : Pri}
def PP.len (a : PP P) : Nat := a.1.length
def PP.c (a : PP P) (i : Nat) : Int := rd a.1 i
theorem PP.c_res (a : PP P) (i : Nat) : 0 ≤ a.c i ∧ a.c i < P.p := a.2.rd P.pos i
theorem PP.c_mod (a : PP P) (i : Nat) : a.c i % P.p = a.c i := a.2.mod P.pos i
theorem pp_ext {a b : PP P} (h : ∀ i, a.c i = b.c i) : a = b := pp_eq (row_ext a.2 b.2 h)
theorem row1 {p : Int} (hp : 2 ≤ p) : Row p [1] := ⟨by simp; omega, by simp [rd]⟩
theorem rowT {p : Int} (hp : 2 ≤ p) : Row p [0, 1] := ⟨by simp; omega, by simp [rd]⟩
instance : Add (PP P) := ⟨fun a b => ⟨comb P.p a.1 b.1 1, comb_row P.pos _ _ _⟩⟩
instance : Mul (PP P) := ⟨fun a b => ⟨mul P.p a.1 b.1, mul_row P.pos _ _⟩⟩
instance : Neg (PP P) := ⟨fun a => ⟨comb P.p [] a.1 (-1), comb_row P.pos _ _ _⟩⟩
instance : Zero (PP P) := ⟨⟨[], row_nil _⟩⟩
instance : One (PP P) := ⟨⟨[1], row1 P.two.1⟩⟩
def ppm (l : List Int) (h : Row P.p l) : PP P := ⟨l, h⟩
def ppT : PP P := ⟨[0, 1], rowT P.two.1⟩
theorem add_c (a b : PP P) (i : Nat) : (a + b).c i = (a.c i + b.c i) % P.p := by
  show rd (comb P.p a.1 b.1 1) i = _
  rw [comb_rd, Int.one_mul]; rfl
theorem neg_c (a : PP P) (i : Nat) : (-a).c i = (-a.c i) % P.p := by
  show rd (comb P.p [] a.1 (-1)) i = _
  rw [comb_rd, rd_nil, Int.zero_add, Int.neg_mul, Int.one_mul]; rfl
theorem mul_c (a b : PP P) (i : Nat) : (a * b).c i = conv a.c b.c i % P.p := mul_rd _ _ _ _
theorem zero_c (i : Nat) : (0 : PP P).c i = 0 := rd_nil i
theorem ppring : IsRing (PP P) where
  add_comm a b := pp_ext fun i => by rw [add_c, add_c, Int.add_comm]
  add_assoc a b c := pp_ext fun i => by simp only [add_c, Int.emod_add_emod, Int.add_emod_emod, Int.add_assoc]
  add_zero a := pp_ext fun i => by rw [add_c, zero_c, Int.add_zero, PP.c_mod]
  add_neg a := pp_ext fun i => by rw [add_c, neg_c, zero_c, Int.add_emod_emod, Int.add_right_neg]; rfl
  mul_comm a b := pp_eq (mul_comm' _ _ _)
  mul_assoc a b c := pp_eq (mul_assoc' P.pos _ _ _)
  mul_one a := pp_eq (mul_one' P.pos a.2)
  mul_add a b c := pp_eq (mul_comb P.pos _ _ _ _)

theorem len_zero {a : PP P} : a.len = 0 ↔ a = 0 := ⟨fun h => pp_eq (List.eq_nil_of_length_eq_zero h), fun h => by rw [h]; rfl⟩
theorem len_one : (1 : PP P).len = 1 := rfl
theorem one_ne : (1 : PP P) ≠ 0 := fun h => by have := len_zero.2 h; rw [len_one] at this; omega
theorem len_mul {a b : PP P} (ha : a ≠ 0) (hb : b ≠ 0) : (a * b).len = a.len + b.len - 1 :=
  mul_len_is P.ok a.2 b.2 (fun h => ha (len_zero.1 h)) (fun h => hb (len_zero.1 h))
theorem len_add (a b : PP P) : (a + b).len ≤ max a.len b.len := comb_len _ _ _ _
theorem len_neg (a : PP P) : (-a).len ≤ a.len := by
  have := comb_len P.p [] a.1 (-1)
  show (comb P.p [] a.1 (-1)).length ≤ a.1.length
  simpa using this
theorem len_pos {a : PP P} (h : a ≠ 0) : 1 ≤ a.len := by
  rcases Nat.eq_zero_or_pos a.len with h0 | h0
  · exact absurd (len_zero.1 h0) h
  · exact h0
theorem pp_dom : ∀ a b : PP P, a * b = 0 → a = 0 ∨ b = 0 := fun a b h => by
  by_cases ha : a = 0
  · exact .inl ha
  · by_cases hb : b = 0
    · exact .inr hb
    · have h1 := len_mul ha hb
      rw [h, len_zero.2 rfl] at h1
      have := len_pos ha
      have := len_pos hb
      omega
theorem nsm_c (n : Nat) (a : PP P) (i : Nat) : (nsm n a).c i = (n * a.c i) % P.p := by
  induction n with
  | zero => simp [nsm, zero_c]
  | succ n ih =>
    simp only [nsm, add_c, ih, Int.emod_add_emod]
    congr 1
    rw [Int.natCast_succ, Int.add_mul, Int.one_mul]
theorem pp_char (x : PP P) : nsm P.n x = 0 := pp_ext fun i => by
  rw [nsm_c, zero_c]
  exact Int.emod_eq_zero_of_dvd ⟨x.c i, rfl⟩

/-! Division. -/
def pquo (a b : PP P) : PP P := ⟨quo P.p a.1 b.1, quo_row P.pos _ _⟩
def prem (a b : PP P) : PP P := ⟨rem P.p a.1 b.1, rem_row P.pos a.2 _⟩
theorem pdiv (a : PP P) {b : PP P} (hb : b ≠ 0) : a = pquo a b * b + prem a b ∧ (prem a b).len < b.len := by
  have h0 : b.1.length ≠ 0 := fun h => hb (len_zero.1 h)
  refine ⟨pp_ext fun i => ?_, rem_len P.ok a.2 b.2 h0⟩
  rw [add_c, mul_c, Int.emod_add_emod]
  exact divide_eq P.ok a.2 h0 i
theorem dv_len {a b : PP P} (h : Dv a b) (hb : b ≠ 0) : a.len ≤ b.len := by
  obtain ⟨q, rfl⟩ := h
  have hq : q ≠ 0 := fun e => hb (by rw [e, ppring.zero_mul])
  have ha : a ≠ 0 := fun e => hb (by rw [e, ppring.mul_zero])
  have := len_mul hq ha
  have := len_pos hq
  omega
theorem dv_small {a b : PP P} (h : Dv a b) (hl : b.len < a.len) : b = 0 := by
  by_cases hb : b = 0
  · exact hb
  · have := dv_len h hb; omega
theorem prem_iff {a b : PP P} (hb : b ≠ 0) : prem a b = 0 ↔ Dv b a := by
  obtain ⟨h1, h2⟩ := pdiv a hb
  constructor
  · intro h
    rw [h, ppring.add_zero] at h1
    exact ⟨_, h1⟩
  · intro h
    rw [h1] at h
    exact dv_small (ppring.dv_sub h (ppring.dv_mul (ppring.dv_refl b) _)) h2
theorem quo_is {a b q r : PP P} (hb : b ≠ 0) (h : a = q * b + r) (hr : r.len < b.len) : pquo a b = q ∧ prem a b = r := by
  obtain ⟨h1, h2⟩ := pdiv a hb
  have R : IsRing (PP P) := ppring
  have e : (pquo a b + -q) * b = r + -prem a b := by
    have h3 : q * b + r = pquo a b * b + prem a b := by rw [← h, ← h1]
    rw [R.add_mul, R.mul_comm (-q), R.mul_neg, R.mul_comm b q]
    refine R.cancel (a := q * b) ?_
    rw [R.add_left_comm, R.add_neg, R.add_zero]
    refine R.cancel (a := prem a b) ?_
    rw [R.add_comm (prem a b), ← h3, R.add_left_comm (prem a b), R.add_left_comm (prem a b), R.add_neg, R.add_zero]
  have hz : r + -prem a b = 0 := by
    refine dv_small (a := b) ⟨_, e.symm⟩ ?_
    have := len_add r (-prem a b)
    have := len_neg (prem a b)
    omega
  have hr' := R.sub_zero hz
  refine ⟨?_, hr'.symm⟩
  rw [hz] at e
  rcases pp_dom _ _ e with h4 | h4
  · exact R.sub_zero h4
  · exact absurd h4 hb

/-! Units, the greatest common divisor. -/
theorem unit_of {a : PP P} (h : a.len = 1) : ∃ b, b * a = 1 := by
  have hc := a.c_res 0
  have hn : a.c 0 ≠ 0 := by
    have := a.2.nrm (by have : a.1.length = 1 := h; omega)
    have h1 : a.1.length = 1 := h
    rw [h1] at this
    exact this
  obtain ⟨i1, i2, i3⟩ := inv_is P.ok (x := a.c 0) ⟨by omega, hc.2⟩
  have hr : Row P.p [inv P.p (a.c 0)] := ⟨by simp only [List.mem_singleton, forall_eq]; exact ⟨by have : 0 < inv P.p (a.c 0) := i1; omega, i2⟩, fun _ => by simp [rd]; have : 0 < inv P.p (a.c 0) := i1; omega⟩
  refine ⟨ppm _ hr, ?_⟩
  refine pp_ext fun i => ?_
  have h1 : a.1.length = 1 := h
  rw [mul_c]
  have e1 : (1 : PP P).c i = if i = 0 then 1 else 0 := by
    show rd [1] i = _
    by_cases hi : i = 0
    · subst hi; simp [rd]
    · rw [if_neg hi, rd_ge (by simp; omega)]
  rw [e1]
  by_cases hi : i = 0
  · subst hi
    rw [if_pos rfl]
    have : conv (PP.c (ppm _ hr : PP P)) a.c 0 = inv P.p (a.c 0) * a.c 0 := by
      simp [conv, cv, sumTo, PP.c, ppm, rd]
    rw [this, Int.mul_comm]
    exact i3
  · have z1 : ∀ j, 1 ≤ j → (ppm _ hr : PP P).c j = 0 := fun j hj => rd_ge (l := [inv P.p (a.c 0)]) (by simpa using hj)
    have z2 : ∀ j, 1 ≤ j → a.c j = 0 := fun j hj => rd_ge (l := a.1) (by omega)
    rw [if_neg hi, conv_zero (n := 1) (m := 1) z1 z2 (by omega)]
    rfl
theorem dv_unit {a : PP P} (h : a.len = 1) (b : PP P) : Dv a b := by
  obtain ⟨u, hu⟩ := unit_of h
  exact ppring.dv_one ⟨u, hu.symm⟩
theorem bezout : ∀ (n : Nat) (a b : PP P), b.len ≤ n → ∃ g u v, g = u * a + v * b ∧ Dv g a ∧ Dv g b
  | 0, a, b, h => by
    have hb : b = 0 := len_zero.1 (by omega)
    subst hb
    exact ⟨a, 1, 0, by rw [ppring.one_mul, ppring.zero_mul, ppring.add_zero], ppring.dv_refl a, ppring.dv_zero a⟩
  | n + 1, a, b, h => by
    by_cases hb : b = 0
    · subst hb
      exact ⟨a, 1, 0, by rw [ppring.one_mul, ppring.zero_mul, ppring.add_zero], ppring.dv_refl a, ppring.dv_zero a⟩
    · obtain ⟨h1, h2⟩ := pdiv a hb
      obtain ⟨g, u, v, e, d1, d2⟩ := bezout n b (prem a b) (by omega)
      have R : IsRing (PP P) := ppring
      refine ⟨g, v, u + -(v * pquo a b), ?_, ?_, d1⟩
      · have e2 : v * a = v * (pquo a b * b) + v * prem a b := by rw [← R.mul_add, ← h1]
        have e3 : -(v * pquo a b) * b = -(v * (pquo a b * b)) := by rw [R.mul_comm (-(v * pquo a b)), R.mul_neg, R.mul_comm b, R.mul_assoc]
        rw [e2, R.add_mul, e3, e]
        generalize v * (pquo a b * b) = x
        generalize v * prem a b = y
        generalize u * b = z
        rw [R.add_comm z (-x), R.add_assoc x, R.add_left_comm y, ← R.add_assoc x, R.add_neg, R.zero_add, R.add_comm]
      · rw [h1]
        exact R.dv_add (R.dv_mul d1 _) d2

def Irr (f : PP P) : Prop := 2 ≤ f.len ∧ ∀ a b : PP P, f = a * b → a.len = 1 ∨ b.len = 1
theorem Irr.ne {f : PP P} (h : Irr f) : f ≠ 0 := fun e => by have := h.1; rw [len_zero.2 e] at this; omega
/-- What divides an irreducible polynomial is a unit, or is divided by it. -/
theorem Irr.dv {f g : PP P} (h : Irr f) (hg : Dv g f) : g.len = 1 ∨ Dv f g := by
  obtain ⟨q, e⟩ := hg
  rcases h.2 q g e with h1 | h1
  · obtain ⟨u, hu⟩ := unit_of h1
    exact .inr ⟨u, by rw [e, ← ppring.mul_assoc, hu, ppring.one_mul]⟩
  · exact .inl h1
theorem Irr.coprime {f a : PP P} (h : Irr f) (ha : ¬ Dv f a) : ∃ u v, u * a + v * f = 1 := by
  obtain ⟨g, u, v, e, d1, d2⟩ := bezout f.len a f (Nat.le_refl _)
  rcases h.dv d2 with h1 | h1
  · obtain ⟨w, hw⟩ := unit_of h1
    exact ⟨w * u, w * v, by rw [← hw, e, ppring.mul_add, ppring.mul_assoc, ppring.mul_assoc]⟩
  · exact absurd (ppring.dv_trans h1 d1) ha
theorem Irr.prime {f a b : PP P} (h : Irr f) (hab : Dv f (a * b)) : Dv f a ∨ Dv f b := by
  by_cases ha : Dv f a
  · exact .inl ha
  · obtain ⟨u, v, e⟩ := h.coprime ha
    refine .inr ?_
    have e2 : b = u * (a * b) + v * b * f := by
      rw [← ppring.mul_assoc, ppring.mul_assoc v b, ppring.mul_comm b f, ← ppring.mul_assoc v f, ← ppring.add_mul, e, ppring.one_mul]
    rw [e2]
    exact ppring.dv_add (ppring.dv_mul hab u) (ppring.dv_mul (ppring.dv_refl f) _)
/-- What is not irreducible has a divisor of at most half its degree. -/
theorem Irr.of_not {f : PP P} (h2 : 2 ≤ f.len) (h : ¬ Irr f) : ∃ a b, f = a * b ∧ 2 ≤ a.len ∧ 2 ≤ b.len ∧ a.len < f.len ∧ b.len < f.len ∧ a.len + b.len = f.len + 1 := by
  have h3 : ∃ a b, f = a * b ∧ ¬ (a.len = 1 ∨ b.len = 1) := Classical.byContradiction fun hn => h ⟨h2, fun a b e => Classical.byContradiction fun hc => hn ⟨a, b, e, hc⟩⟩
  obtain ⟨a, b, e, hc⟩ := h3
  have hf : f ≠ 0 := fun e0 => by rw [len_zero.2 e0] at h2; omega
  have ha : a ≠ 0 := fun e0 => hf (by rw [e, e0, ppring.zero_mul])
  have hb : b ≠ 0 := fun e0 => hf (by rw [e, e0, ppring.mul_zero])
  have h4 := len_mul ha hb
  rw [← e] at h4
  have := len_pos ha
  have := len_pos hb
  exact ⟨a, b, e, by omega, by omega, by omega, by omega, by omega⟩
theorem exists_irr : ∀ (n : Nat) (f : PP P), f.len ≤ n → 2 ≤ f.len → ∃ g, Irr g ∧ Dv g f
  | 0, f, h, h2 => by omega
  | n + 1, f, h, h2 => by
    by_cases hi : Irr f
    · exact ⟨f, hi, ppring.dv_refl f⟩
    · obtain ⟨a, b, e, h3, h4, h5, _⟩ := Irr.of_not h2 hi
      obtain ⟨g, hg, hd⟩ := exists_irr n a (by omega) h3
      exact ⟨g, hg, by rw [e]; exact ppring.dv_mul' hd b⟩
/-- One of at most half the degree. -/
theorem exists_half {f : PP P} (h2 : 2 ≤ f.len) (h : ¬ Irr f) : ∃ g, Irr g ∧ Dv g f ∧ 2 * (g.len - 1) ≤ f.len - 1 := by
  obtain ⟨a, b, e, h3, h4, h5, h6, h7⟩ := Irr.of_not h2 h
  have hne : ∀ {x : PP P}, 2 ≤ x.len → x ≠ 0 := fun h e => by rw [len_zero.2 e] at h; omega
  rcases Nat.le_total a.len b.len with hl | hl
  · obtain ⟨g, hg, hd⟩ := exists_irr a.len a (Nat.le_refl _) h3
    have := dv_len hd (hne h3)
    exact ⟨g, hg, by rw [e]; exact ppring.dv_mul' hd b, by omega⟩
  · obtain ⟨g, hg, hd⟩ := exists_irr b.len b (Nat.le_refl _) h4
    have := dv_len hd (hne h4)
    exact ⟨g, hg, by rw [e]; exact ppring.dv_mul hd a, by omega⟩
end Go.Proofs.Ytkbnegemdlnncaa
/- Irreducible polynomials modulo p: which of them divide T^(p^n) - T. -/
namespace Go.Proofs.Ytkbnegemdlnncaa
open Go.Abs

/-! Numbers of polynomials. -/
def num (p : Nat) : List Int → Nat
  | [] => 0
  | c :: l => c.toNat + p * num p l
theorem row_tail {p c : Int} {l : List Int} (h : Row p (c :: l)) : Row p l := by
  refine ⟨fun d hd => h.res d (by simp [hd]), fun hl => ?_⟩
  have := h.nrm (by simp)
  simp only [List.length_cons, Nat.add_sub_cancel] at this
  obtain ⟨m, hm⟩ : ∃ m, l.length = m + 1 := ⟨l.length - 1, by omega⟩
  rw [hm, rd_cons] at this
  rw [hm]; exact this
theorem digs_num {p : Nat} (hp : 2 ≤ p) : ∀ l : List Int, Row p l → digs p (num p l) = l
  | [], _ => digs_zero p
  | c :: l, h => by
    have hc := h.res c (by simp)
    have ih := digs_num hp l (row_tail h)
    have e1 : (c.toNat + p * num p l) % p = c.toNat := by rw [Nat.add_mul_mod_self_left, Nat.mod_eq_of_lt (by omega)]
    have e2 : (c.toNat + p * num p l) / p = num p l := by rw [Nat.add_mul_div_left _ _ (by omega), Nat.div_eq_of_lt (by omega)]; omega
    have hpos : 0 < c.toNat + p * num p l := by
      cases l with
      | nil =>
        have := h.nrm (by simp)
        simp [rd] at this
        omega
      | cons d l =>
        have : num p (d :: l) ≠ 0 := fun e => by rw [e, digs_zero] at ih; cases ih
        have : 0 < p * num p (d :: l) := Nat.mul_pos (by omega) (by omega)
        omega
    simp only [num]
    rw [digs_pos hp hpos, e1, e2, ih]
    congr 1
    omega
theorem num_lt {p : Nat} (hp : 2 ≤ p) : ∀ l : List Int, Row p l → num p l < p ^ l.length
  | [], _ => by simp [num]
  | c :: l, h => by
    have hc := h.res c (by simp)
    have ih := num_lt hp l (row_tail h)
    simp only [num, List.length_cons, Nat.pow_succ]
    have h1 : p * (num p l + 1) ≤ p * p ^ l.length := Nat.mul_le_mul_left _ ih
    rw [Nat.mul_add, Nat.mul_one] at h1
    rw [Nat.mul_comm (p ^ l.length)]
    omega
theorem num_digs {p : Nat} (hp : 2 ≤ p) (n : Nat) : num p (digs p n) = n := by
  induction n using Nat.strongRecOn with
  | ind n ih =>
    rcases Nat.eq_zero_or_pos n with rfl | h
    · rw [digs_zero]; rfl
    · rw [digs_pos hp h]
      simp only [num]
      rw [ih _ (Nat.div_lt_self h hp), Int.toNat_natCast]
      exact Nat.mod_add_div n p
theorem digs_len_lt {p : Nat} (hp : 2 ≤ p) : ∀ (d n : Nat), n < p ^ d → (digs p n).length ≤ d
  | 0, n, h => by
    have : n = 0 := by simpa using h
    subst this; rw [digs_zero]; simp
  | d + 1, n, h => by
    rcases Nat.eq_zero_or_pos n with rfl | hn
    · rw [digs_zero]; simp
    · rw [digs_pos hp hn]
      have : n / p < p ^ d := by
        rw [Nat.div_lt_iff_lt_mul (by omega), ← Nat.pow_succ]; exact h
      have := digs_len_lt hp d _ this
      simp only [List.length_cons]; omega

variable {P : Pri}
theorem Pri.ge (P : Pri) : 2 ≤ P.n := by have := P.is; omega
def ppn (P : Pri) (n : Nat) : PP P := ⟨digs P.n n, digs_row P.ge n⟩
theorem ppn_num (a : PP P) : ppn P (num P.n a.1) = a := pp_eq (digs_num P.ge _ a.2)
theorem ppn_inj {n m : Nat} (h : ppn P n = ppn P m) : n = m := by
  have : digs P.n n = digs P.n m := congrArg PP.l h
  rw [← num_digs P.ge n, this, num_digs P.ge]
theorem ppn_len {d n : Nat} (h : n < P.n ^ d) : (ppn P n).len ≤ d := digs_len_lt P.ge d n h

theorem conv_T (g : Nat → Int) (i : Nat) : conv (rd ([0, 1] : List Int)) g i = if 1 ≤ i then g (i - 1) else 0 := by
  rw [← cv_conv (n := 2) fun j hj => rd_ge (by simpa using hj)]
  simp only [cv, sumTo]
  have e0 : rd ([0, 1] : List Int) 0 = 0 := rfl
  have e1 : rd ([0, 1] : List Int) 1 = 1 := rfl
  rw [e0, e1, if_pos (Nat.zero_le i)]
  split <;> simp
theorem one_c (i : Nat) : (1 : PP P).c i = if i = 0 then 1 else 0 := by
  show rd [1] i = _
  by_cases hi : i = 0
  · subst hi; simp [rd]
  · rw [if_neg hi, rd_ge (by simp; omega)]
/-- All polynomials come from 0 by times T and plus 1. -/
theorem pp_ind {S : PP P → Prop} (h0 : S 0) (hT : ∀ x, S x → S (ppT * x)) (h1 : ∀ x, S x → S (x + 1)) (a : PP P) : S a := by
  have hk : ∀ k x, S x → S (x + nsm k 1) := by
    intro k
    induction k with
    | zero => intro x hx; simp only [nsm]; rw [ppring.add_zero]; exact hx
    | succ k ih => intro x hx; simp only [nsm]; rw [← ppring.add_assoc]; exact h1 _ (ih x hx)
  have key : ∀ (l : List Int) (h : Row P.p l), S (ppm l h) := by
    intro l
    induction l with
    | nil => intro h; exact h0
    | cons c l ih =>
      intro h
      have hc := h.res c (by simp)
      have e : (ppm (c :: l) h : PP P) = ppT * ppm l (row_tail h) + nsm c.toNat 1 := by
        refine pp_ext fun i => ?_
        rw [add_c, mul_c, nsm_c, one_c]
        have e1 : conv (PP.c (ppT : PP P)) (PP.c (ppm l (row_tail h) : PP P)) i = if 1 ≤ i then rd l (i - 1) else 0 := conv_T _ i
        rw [e1]
        cases i with
        | zero =>
          rw [if_neg (by omega), if_pos rfl, Int.mul_one, Int.emod_add_emod, Int.add_emod_emod, Int.zero_add, Int.toNat_of_nonneg hc.1, Int.emod_eq_of_lt hc.1 hc.2]
          rfl
        | succ i =>
          rw [if_pos (by omega), if_neg (by omega), Int.mul_zero, Int.emod_add_emod, Int.zero_emod, Int.add_zero, Nat.add_sub_cancel, (row_tail h).mod P.pos]
          exact rd_cons c l i
      rw [e]
      exact hk _ _ (hT _ (ih _))
  exact key a.1 a.2

/-! Residues by an irreducible polynomial. -/
section
variable {f : PP P} (hf : Irr f)
include hf
theorem q_dom : ∀ x y : Qt ppring f, x * y = 0 → x = 0 ∨ y = 0 := by
  refine qm_all _ _ fun a => qm_all _ _ fun b => fun h => ?_
  have h1 : Dv f (a * b) := (qm_zero_iff ppring).1 h
  rcases hf.prime h1 with h2 | h2
  · exact .inl ((qm_zero_iff ppring).2 h2)
  · exact .inr ((qm_zero_iff ppring).2 h2)
theorem q_one : (1 : Qt ppring f) ≠ 0 := fun h => by
  have h1 : Dv f 1 := (qm_zero_iff ppring).1 h
  have := dv_len h1 one_ne
  have := hf.1
  rw [len_one] at *
  omega
omit hf in
theorem q_char (x : Qt ppring f) : nsm P.n x = 0 := by
  refine qm_all ppring f (P := fun x => nsm P.n x = 0) (fun a => ?_) x
  rw [← qm_nsm, pp_char]; rfl
omit hf in
/-- All residues. -/
def els (f : PP P) : List (Qt ppring f) := (List.range (P.n ^ (f.len - 1))).map fun n => qm ppring f (ppn P n)
omit hf in
theorem els_len : (els f).length = P.n ^ (f.len - 1) := by simp [els]
theorem els_all (x : Qt ppring f) : x ∈ els f := by
  refine qm_all ppring f (P := fun x => x ∈ els f) (fun a => ?_) x
  obtain ⟨h1, h2⟩ := pdiv a hf.ne
  refine List.mem_map.2 ⟨num P.n (prem a f).1, List.mem_range.2 ?_, ?_⟩
  · refine Nat.lt_of_lt_of_le (num_lt P.ge _ (prem a f).2) (Nat.pow_le_pow_right (by have := P.ge; omega) ?_)
    show (prem a f).len ≤ _
    omega
  · rw [ppn_num, qm_iff]
    have R : IsRing (PP P) := ppring
    have e : prem a f + -a = -(pquo a f) * f := by
      have : a = pquo a f * f + prem a f := h1
      have h3 : -(pquo a f) * f = -(pquo a f * f) := by rw [R.mul_comm, R.mul_neg, R.mul_comm]
      rw [h3]
      refine R.neg_of ?_
      rw [← R.add_assoc, ← this, R.add_neg]
    exact ⟨_, e⟩
theorem els_nodup : (els f).Nodup := by
  refine List.pairwise_map.2 ?_
  refine List.Pairwise.imp_of_mem ?_ List.nodup_range
  intro n m hn hm hne h
  have h1 := (qm_iff ppring).1 h
  have l1 := ppn_len (P := P) (List.mem_range.1 hn)
  have l2 := ppn_len (P := P) (List.mem_range.1 hm)
  have := len_add (ppn P n) (-ppn P m)
  have := len_neg (ppn P m)
  have := hf.1
  have h2 := dv_small h1 (by omega)
  exact hne (ppn_inj (ppring.sub_zero h2))
/-- An irreducible polynomial of the degree d divides T^(p^d) - T. -/
theorem irr_dv : Dv f (pw ppT (P.n ^ (f.len - 1)) + -ppT) := by
  have h := (qring ppring f).fermat (q_dom hf) (q_one hf) (els_nodup hf) (els_all hf) (qm ppring f ppT)
  rw [els_len, ← qm_pw] at h
  exact (qm_iff ppring).1 h
/-- One that divides T^(p^n) - T has at most the degree n. -/
theorem irr_le {n : Nat} (hn : 1 ≤ n) (h : Dv f (pw ppT (P.n ^ n) + -ppT)) : f.len ≤ n + 1 := by
  have Q := qring ppring f
  have hT : pw (qm ppring f ppT) (P.n ^ n) = qm ppring f ppT := by
    rw [← qm_pw]; exact (qm_iff ppring).2 h
  have hN : 2 ≤ P.n ^ n := Nat.le_trans P.ge (Nat.le_self_pow (by omega) _)
  have hall : ∀ a : PP P, pw (qm ppring f a) (P.n ^ n) = qm ppring f a := by
    refine pp_ind ?_ (fun x hx => ?_) (fun x hx => ?_)
    · rw [qm_zero]; exact Q.pw_zero (by omega)
    · rw [qm_mul, Q.mul_pw, hT, hx]
    · rw [qm_add, Q.frobn P.is q_char, hx, qm_one, Q.pw_one]
  have h1 := Q.fixed_le (q_dom hf) (q_one hf) hN (els_nodup hf) fun x _ => qm_all ppring f (P := fun x => pw x (P.n ^ n) = x) hall x
  rw [els_len] at h1
  have := (Nat.pow_le_pow_iff_right (show 1 < P.n by have := P.ge; omega)).1 h1
  omega
end
end Go.Proofs.Ytkbnegemdlnncaa
/- Inverses modulo p, in the program and in the reference. -/
namespace Go.Proofs.Ytkbnegemdlnncaa
open Go.Abs

theorem inverse_impl {p x : Int} (hp : isP p = true) (hx : 0 < x ∧ x < p) : impl_prime_inverse p x = some (inv p x) := by
  have hp2 := isP_pos hp
  obtain ⟨n, hn⟩ : ∃ n : Nat, p - 2 = n := ⟨(p - 2).toNat, by omega⟩
  have ew : IntKind.i64.wrap (p - 2) = (n : Int) := by rw [wrap64 (by omega) (by omega), hn]
  obtain ⟨c, h1, h2⟩ := loopM_for (body := fun s : Int × Int => impl_prime_inverse_l1 p x s.1 s.2) (fun i c => (c, (i : Int))) (fun c => c) n
    (fun i c => c = x ^ i % p) (fun i c hi hI => by
      subst hI
      have h3 := emod_res (show 0 < p by omega) (x ^ i)
      have h4 := mul_small (x := x ^ i % p) (y := x) (by omega) (by omega)
      refine ⟨x ^ (i + 1) % p, ?_, rfl⟩
      simp only [impl_prime_inverse_l1]
      rw [ew, if_pos (decide_eq_true (by omega)), ifp_pos (by omega), wrap64 (n := x ^ i % p * x) (by omega) (by omega), Int.tmod_eq_emod_of_nonneg h4.1, wrap64 (by omega) (by omega)]
      have : x ^ i % p * x % p = x ^ (i + 1) % p := by rw [Int.pow_succ, Int.mul_emod (x ^ i % p), Int.emod_emod, ← Int.mul_emod]
      rw [this]; rfl) (fun c hI => by
      simp only [impl_prime_inverse_l1]
      rw [ew, if_neg (by rw [decide_eq_true_eq]; omega)]) n 0 1 (by omega) (by rw [Int.pow_zero, Int.emod_eq_of_lt (by omega) (by omega)])
  have h1' : loopM (fun s : Int × Int => impl_prime_inverse_l1 p x s.1 s.2) (1, 0) = some c := h1
  simp only [impl_prime_inverse, h1', Option.bind_some]
  rw [h2, ← inv_pow hp hx, hn, Int.toNat_natCast]
theorem inverse_spec {p x : Int} (hp : isP p = true) (hx : 0 < x ∧ x < p) : spec_l01Inverse p x = some (inv p x) := by
  have hp2 := isP_pos hp
  obtain ⟨hi1, hi2, hi3⟩ := inv_is hp hx
  have key : ∀ (m : Nat) (k : Int), 1 ≤ k → k + m = inv p x → loopM (fun s : Int => spec_l01Inverse_l1 p x s) k = some (.inr (inv p x)) := by
    intro m
    induction m with
    | zero =>
      intro k h1 h2
      have h3 := mul_small (x := k) (y := x) (by omega) (by omega)
      have e : k = inv p x := by omega
      have step : spec_l01Inverse_l1 p x k = some (.inr (.inr (inv p x))) := by
        simp only [spec_l01Inverse_l1, letp]
        rw [if_pos (decide_eq_true (by omega)), ifp_pos (by omega), wrap64 (n := x) (by omega) (by omega), wrap64 (n := k * x) (by omega) (by omega), Int.tmod_eq_emod_of_nonneg h3.1, if_pos, wrap8 (by omega) (by omega), e]
        rw [e, Int.mul_comm, hi3]; rfl
      rw [loopM_eq]
      simp only [step, Option.bind_some]
    | succ m ih =>
      intro k h1 h2
      have h3 := mul_small (x := k) (y := x) (by omega) (by omega)
      have hne := inv_first hp hx h1 (show k < inv p x by omega)
      have step : spec_l01Inverse_l1 p x k = some (.inl (k + 1)) := by
        simp only [spec_l01Inverse_l1, letp]
        rw [if_pos (decide_eq_true (by omega)), ifp_pos (by omega), wrap64 (n := x) (by omega) (by omega), wrap64 (n := k * x) (by omega) (by omega), Int.tmod_eq_emod_of_nonneg h3.1, if_neg (by rw [beq_iff_eq]; exact hne), wrap64 (by omega) (by omega)]
      rw [loopM_eq]
      simp only [step, Option.bind_some]
      exact ih (k + 1) (by omega) (by omega)
  have h := key (inv p x - 1).toNat 1 (by omega) (by omega)
  simp only [spec_l01Inverse, h, Option.bind_some]
end Go.Proofs.Ytkbnegemdlnncaa
/- Division, in the program. -/
namespace Go.Proofs.Ytkbnegemdlnncaa
open Go.Abs

theorem clone_is {a : List Int} (ha : a.length ≤ 1000000) : slices_Clone_impl_row_int64_fresh a = some a := by
  unfold slices_Clone_impl_row_int64_fresh
  rw [ifc_pos, ifp_pos]
  · simp
  · simp; omega
  · intro h
    subst h
    rw [ifp_pos (by simp)]
    simp
theorem divI_inner {p f : Int} (hp : 2 ≤ p ∧ p ≤ 7) {b : List Int} (hb : Row p b) (hf : 0 ≤ f ∧ f < p) {i : Nat} {s t : List Int} (hi : i + b.length ≤ s.length) (hl : s.length ≤ 1000000) (hs : ∀ j, 0 ≤ rd s j ∧ rd s j < p) {s0 : List Int} {x r9 : Int} (hx : Int.tmod (IntKind.i64.wrap (rd s0 x.toNat * r9)) p = f) :
    ∃ s', loopM (fun q : Int × List Int => impl_prime_divide_l2 b (i : Int) s0 x r9 p t q.1 q.2) (0, s) = some (s', t.set i f) ∧ s'.length = s.length ∧ ∀ j, rd s' j = dstep p (rd b) (b.length - 1) f i (rd s) j := by
  obtain ⟨s', h1, h2, h3⟩ := loopM_for (body := fun q : Int × List Int => impl_prime_divide_l2 b (i : Int) s0 x r9 p t q.1 q.2) (fun k u => ((k : Int), u)) (fun u => (u, t.set i f)) b.length
    (fun k u => u.length = s.length ∧ ∀ j, rd u j = if i ≤ j ∧ j < i + k then (rd s j - f * rd b (j - i)) % p else rd s j) (fun k u hk hI => by
      obtain ⟨hul, hu⟩ := hI
      have hbk := hb.rd (show 0 < p by omega) k
      have hsk := hs (i + k)
      have hm := mul_small (x := f) (y := rd b k) (by omega) (by omega)
      have e1 : IntKind.i64.wrap ((i : Int) + (k : Int)) = ((i + k : Nat) : Int) := by rw [wrap64 (by omega) (by omega)]; omega
      have huk := hu (i + k)
      rw [if_neg (by omega)] at huk
      refine ⟨u.set (i + k) ((rd s (i + k) - f * rd b k) % p), ?_, by simpa using hul, fun j => ?_⟩
      · simp only [impl_prime_divide_l2, letp, hx]
        rw [if_pos (decide_eq_true (by omega)), ifp_pos (by omega), e1, ifp_pos (by omega), Int.toNat_natCast, Int.toNat_natCast, huk, wrap64 (n := f * rd b k) (by omega) (by omega), wrap64 (n := rd s (i + k) - f * rd b k) (by omega) (by omega), reduce_is (by omega) (by omega)]
        simp only [Option.bind_some]
        rw [ifp_pos (by omega), wrap64 (by omega) (by omega)]
        rfl
      · rw [rd_set _ _ _ _ (by omega), hu j]
        by_cases e : j = i + k
        · subst e
          rw [if_pos rfl, if_pos (by omega), show i + k - i = k by omega]
        · rw [if_neg e]
          by_cases hc : i ≤ j ∧ j < i + k
          · rw [if_pos hc, if_pos (by omega)]
          · rw [if_neg hc, if_neg (by omega)]) (fun u hI => by
      simp only [impl_prime_divide_l2, hx]
      rw [if_neg (by rw [decide_eq_true_eq]; omega), Int.toNat_natCast]) b.length 0 s (by omega) ⟨rfl, fun j => by rw [if_neg (by omega)]⟩
  refine ⟨s', h1, h2, fun j => ?_⟩
  rw [h3 j]
  unfold dstep
  rcases Nat.eq_zero_or_pos b.length with h0 | h0
  · rw [if_neg (by omega)]
    split
    · have : rd b (j - i) = 0 := rd_ge (by omega)
      have := hs j
      rw [show rd b (j - i) = 0 from rd_ge (by omega), Int.mul_zero, Int.sub_zero, Int.emod_eq_of_lt this.1 this.2]
    · rfl
  · simp only [show (i ≤ j ∧ j < i + b.length) = (i ≤ j ∧ j ≤ i + (b.length - 1)) from by rw [eq_iff_iff]; omega]
theorem divI_outer {p : Int} (hp : isP p = true) {b : List Int} (hb : Row p b) (h0 : b.length ≠ 0) {n : Nat} (hn : n ≤ 500000) : ∀ (i : Nat) (s t : List Int), i + b.length - 1 ≤ s.length → i ≤ n → s.length ≤ 1000000 → t.length = n → (∀ j, 0 ≤ rd s j ∧ rd s j < p) →
    ∃ s' t', loopM (fun q : Int × List Int × List Int => impl_prime_divide_l1 b p (inv p (lead b)) q.1 q.2.1 q.2.2) ((i : Int) - 1, s, t) = some (s', t') ∧ s'.length = s.length ∧ t'.length = n ∧
      (∀ j, rd s' j = drem p (rd b) (b.length - 1) (inv p (lead b)) i (rd s) j) ∧ ∀ j, rd t' j = if j < i then dquo p (rd b) (b.length - 1) (inv p (lead b)) i (rd s) j else rd t j
  | 0, s, t, _, _, _, ht, _ => by
    refine ⟨s, t, ?_, rfl, ht, fun _ => rfl, fun j => by rw [if_neg (by omega)]⟩
    have step : impl_prime_divide_l1 b p (inv p (lead b)) (((0 : Nat) : Int) - 1) s t = some (.inr (s, t)) := by
      simp only [impl_prime_divide_l1]
      rw [if_neg (by rw [decide_eq_true_eq]; omega)]
    rw [loopM_eq]
    simp only [step, Option.bind_some]
  | i + 1, s, t, hi, hin, hsl, ht, hs => by
    have hp2 := isP_pos hp
    have hinv := inv_is hp (lead_pos (show 0 < p by omega) hb h0)
    have hsx := hs (i + (b.length - 1))
    have hm := mul_small (x := rd s (i + (b.length - 1))) (y := inv p (lead b)) (by omega) (by omega)
    have hf := emod_res (show 0 < p by omega) (rd s (i + (b.length - 1)) * inv p (lead b))
    have e0 : ((i + 1 : Nat) : Int) - 1 = (i : Int) := by omega
    have e1 : IntKind.i64.wrap (IntKind.i64.wrap ((i : Int) + (b.length : Int)) - 1) = ((i + (b.length - 1) : Nat) : Int) := by
      rw [wrap64 (n := (i : Int) + (b.length : Int)) (by omega) (by omega), wrap64 (by omega) (by omega)]; omega
    have hx : Int.tmod (IntKind.i64.wrap (rd s (((i + (b.length - 1) : Nat) : Int)).toNat * inv p (lead b))) p = dfac p (inv p (lead b)) (b.length - 1) i (rd s) := by
      rw [Int.toNat_natCast, wrap64 (by omega) (by omega), Int.tmod_eq_emod_of_nonneg hm.1]; rfl
    obtain ⟨s1, g1, g2, g3⟩ := divI_inner hp2 hb (f := dfac p (inv p (lead b)) (b.length - 1) i (rd s)) hf (i := i) (s := s) (t := t) (by omega) hsl hs hx
    have hs1 : rd s1 = dstep p (rd b) (b.length - 1) (dfac p (inv p (lead b)) (b.length - 1) i (rd s)) i (rd s) := funext g3
    obtain ⟨s', t', k1, k2, k3, k4, k5⟩ := divI_outer hp hb h0 hn i s1 (t.set i (dfac p (inv p (lead b)) (b.length - 1) i (rd s))) (by omega) (by omega) (by omega) (by simpa using ht) (fun j => by rw [hs1]; exact dstep_res (by omega) hs _ i j)
    refine ⟨s', t', ?_, by omega, k3, fun j => ?_, fun j => ?_⟩
    · have step : impl_prime_divide_l1 b p (inv p (lead b)) (((i + 1 : Nat) : Int) - 1) s t = some (.inl ((i : Int) - 1, s1, t.set i (dfac p (inv p (lead b)) (b.length - 1) i (rd s)))) := by
        rw [e0]
        simp only [impl_prime_divide_l1, letp, e1]
        rw [if_pos (decide_eq_true (by omega)), ifp_pos (by omega), ifp_pos (by omega), ifp_pos (by omega), g1]
        simp only [Option.bind_some]
        rw [wrap64 (by omega) (by omega)]
      rw [loopM_eq]
      simp only [step, Option.bind_some]
      exact k1
    · rw [k4 j, hs1]; rfl
    · rw [k5 j, hs1]
      simp only [dquo]
      by_cases e : j = i
      · subst e
        rw [if_neg (by omega), if_pos (by omega), if_pos rfl, rd_set _ _ _ _ (by omega), if_pos rfl]
      · by_cases h : j < i
        · rw [if_pos h, if_pos (by omega), if_neg e]
        · rw [if_neg h, if_neg (by omega), rd_set _ _ _ _ (by omega), if_neg e]
theorem lead_is {b : List Int} (h0 : b.length ≠ 0) (hl : b.length ≤ 1000000) : impl_row_lead b = some (lead b) := by
  unfold impl_row_lead
  have e1 : IntKind.i64.wrap ((b.length : Int) - 1) = ((b.length - 1 : Nat) : Int) := by rw [wrap64 (by omega) (by omega)]; omega
  rw [if_neg (by rw [beq_iff_eq]; omega), e1, ifp_pos (by omega), Int.toNat_natCast]; rfl
theorem divideI_is {p : Int} (hp : isP p = true) {a b : List Int} (ha : Row p a) (hb : Row p b) (h0 : b.length ≠ 0) (la : a.length ≤ 500000) (lb : b.length ≤ 500000) : impl_prime_divide p a b = some (quo p a b, rem p a b) := by
  have hp2 := isP_pos hp
  unfold impl_prime_divide
  rw [clone_is (by omega)]
  simp only [Option.bind_some]
  rcases Nat.lt_or_ge a.length b.length with h | h
  · rw [if_pos (decide_eq_true (by omega))]
    have e1 : quo p a b = [] := by
      have := quo_len p a b
      exact List.eq_nil_of_length_eq_zero (by omega)
    have e2 : rem p a b = a := by
      unfold rem
      rw [show a.length + 1 - b.length = 0 by omega]
      exact ha.ofF (Nat.le_refl _)
    rw [e1, e2]
  · rw [if_neg (by rw [decide_eq_true_eq]; omega)]
    obtain ⟨n, hn⟩ : ∃ n : Nat, n = a.length + 1 - b.length := ⟨_, rfl⟩
    have e1 : IntKind.i64.wrap (IntKind.i64.wrap ((a.length : Int) - (b.length : Int)) + 1) = (n : Int) := by
      rw [wrap64 (n := (a.length : Int) - (b.length : Int)) (by omega) (by omega), wrap64 (by omega) (by omega)]; omega
    have hlead := lead_pos (show 0 < p by omega) hb h0
    simp only [letp, e1, lead_is h0 (by omega), inverse_impl hp hlead, Option.bind_some, Int.toNat_natCast, List.length_replicate]
    rw [ifp_pos (by omega), wrap64 (by omega) (by omega)]
    obtain ⟨s', t', k1, k2, k3, k4, k5⟩ := divI_outer hp hb h0 (n := n) (by omega) n a (List.replicate n 0) (by omega) (Nat.le_refl _) (by omega) (by simp) (fun j => ha.rd (by omega) j)
    rw [k1]
    simp only [Option.bind_some]
    rw [trimmed_is (by omega), trimmed_is (by omega)]
    simp only [Option.bind_some]
    rw [trim_eq, trim_eq, k2, k3]
    congr 2
    · rw [quo, ← hn]
      exact ofF_congr fun i hi => by rw [k5 i, if_pos hi]
    · rw [rem, ← hn]
      exact ofF_congr fun i _ => k4 i
end Go.Proofs.Ytkbnegemdlnncaa
/- Rests of powers, in the program. -/
namespace Go.Proofs.Ytkbnegemdlnncaa
open Go.Abs

variable {P : Pri}
theorem Pri.sm (P : Pri) : 0 < P.p ∧ P.p ≤ 256 := by have := P.two; omega
theorem PP.ent (a : PP P) : Ent a.1 := a.2.ent P.sm
theorem ne_len {b : PP P} (hb : b ≠ 0) : b.1.length ≠ 0 := fun h => hb (len_zero.1 h)
theorem pdivI {a b : PP P} (hb : b ≠ 0) (la : a.len ≤ 500000) (lb : b.len ≤ 500000) : impl_prime_divide P.p a.1 b.1 = some ((pquo a b).1, (prem a b).1) := divideI_is P.ok a.2 b.2 (ne_len hb) la lb
theorem restI {a b : PP P} (hb : b ≠ 0) (la : a.len ≤ 500000) (lb : b.len ≤ 500000) : impl_prime_rest P.p a.1 b.1 = some (prem a b).1 := by
  simp only [impl_prime_rest, pdivI hb la lb, Option.bind_some]
theorem timesI {a b : PP P} (la : a.len ≤ 500000) (lb : b.len ≤ 500000) : impl_prime_times P.p a.1 b.1 = some (a * b).1 :=
  times_is (by have := P.two; omega) a.ent b.ent la lb

/-! Rests. -/
theorem prem_len (a : PP P) {m : PP P} (hm : m ≠ 0) : (prem a m).len < m.len := (pdiv a hm).2
theorem prem_of {a m r : PP P} (q : PP P) (hm : m ≠ 0) (h : a = q * m + r) (hr : r.len < m.len) : prem a m = r := (quo_is hm h hr).2
theorem prem_add_mul (a c : PP P) {m : PP P} (hm : m ≠ 0) : prem (a + c * m) m = prem a m := by
  refine prem_of (pquo a m + c) hm ?_ (prem_len a hm)
  have h := (pdiv a hm).1
  rw [ppring.add_mul]
  conv => lhs; rw [h]
  rw [ppring.add_assoc, ppring.add_assoc, ppring.add_comm (prem a m)]
theorem prem_small {a m : PP P} (h : a.len < m.len) : prem a m = a := by
  have hm : m ≠ 0 := fun e => by rw [len_zero.2 e] at h; omega
  exact prem_of 0 hm (by rw [ppring.zero_mul, ppring.zero_add]) h
theorem prem_mul_l (a b : PP P) {m : PP P} (hm : m ≠ 0) : prem (prem a m * b) m = prem (a * b) m := by
  have h := (pdiv a hm).1
  have e : a * b = prem a m * b + (pquo a m * b) * m := by
    conv => lhs; rw [h]
    rw [ppring.add_mul, ppring.add_comm, ppring.mul_assoc, ppring.mul_assoc, ppring.mul_comm m b]
  rw [e, prem_add_mul _ _ hm]
theorem prem_mul_r (a b : PP P) {m : PP P} (hm : m ≠ 0) : prem (a * prem b m) m = prem (a * b) m := by
  rw [ppring.mul_comm, prem_mul_l _ _ hm, ppring.mul_comm]
theorem prem_mul (a b : PP P) {m : PP P} (hm : m ≠ 0) : prem (prem a m * prem b m) m = prem (a * b) m := by
  rw [prem_mul_l _ _ hm, prem_mul_r _ _ hm]
theorem prem_add (a b : PP P) {m : PP P} (hm : m ≠ 0) : prem (a + b) m = prem a m + prem b m := by
  have h1 := (pdiv a hm).1
  have h2 := (pdiv b hm).1
  refine prem_of (pquo a m + pquo b m) hm ?_ ?_
  · conv => lhs; rw [h1, h2]
    rw [ppring.add_mul]
    simp only [ppring.add_assoc]
    rw [ppring.add_left_comm (prem a m)]
  · have := len_add (prem a m) (prem b m)
    have := prem_len a hm
    have := prem_len b hm
    omega
theorem pw_two (a : PP P) (k : Nat) : pw (a * a) k = pw a (2 * k) := by
  rw [ppring.pw_mul]
  congr 1
  simp only [pw, ppring.one_mul]
theorem prem_pw (a : PP P) {m : PP P} (hm : m ≠ 0) (k : Nat) : prem (pw (prem a m) k) m = prem (pw a k) m := by
  induction k with
  | zero => rfl
  | succ k ih => simp only [pw]; rw [prem_mul_r _ _ hm, ← prem_mul_l _ _ hm, ih, prem_mul_l _ _ hm]

theorem and_one {k : Nat} (h : k < 4611686018427387904) : IntKind.i64.wrap (BitVec.ofInt IntKind.i64.bits k &&& BitVec.ofInt IntKind.i64.bits 1).toNat = ((k % 2 : Nat) : Int) := by
  have e : (BitVec.ofInt IntKind.i64.bits (k : Int) &&& BitVec.ofInt IntKind.i64.bits 1).toNat = k % 2 := by
    rw [BitVec.toNat_and, BitVec.toNat_ofInt, BitVec.toNat_ofInt]
    have h1 : ((k : Int) % (2 ^ IntKind.i64.bits : Nat)).toNat = k := by
      rw [Int.emod_eq_of_lt (by omega) (by show (k : Int) < ((2 ^ 64 : Nat) : Int); omega)]
      omega
    have h2 : ((1 : Int) % (2 ^ IntKind.i64.bits : Nat)).toNat = 1 := by decide
    rw [h1, h2, Nat.and_one_is_mod]
  rw [e, wrap64 (by omega) (by omega)]
theorem half_is (k : Nat) : Int.fdiv (k : Int) (2 ^ (min (1 : Int).toNat IntKind.i64.bits)) = ((k / 2 : Nat) : Int) := by
  have e : (2 : Int) ^ (min (1 : Int).toNat IntKind.i64.bits) = 2 := by decide
  rw [e, Int.fdiv_eq_ediv_of_nonneg _ (by omega)]
  omega
theorem powI_loop {m : PP P} (hm : m ≠ 0) (lm : m.len ≤ 1000) : ∀ (n k : Nat) (O B : PP P), k ≤ n → k < 4611686018427387904 →
    loopM (fun s : Int × List Int × List Int => impl_prime_power_l1 P.p m.1 s.1 s.2.1 s.2.2) ((k : Int), (prem O m).1, (prem B m).1) = some (prem (O * pw B k) m).1 := by
  intro n
  induction n with
  | zero =>
    intro k O B hk _
    have : k = 0 := by omega
    subst this
    have step : impl_prime_power_l1 P.p m.1 ((0 : Nat) : Int) (prem O m).1 (prem B m).1 = some (.inr (prem O m).1) := by
      simp only [impl_prime_power_l1]
      rw [if_neg (by simp)]
    rw [loopM_eq]
    simp only [step, Option.bind_some, pw, ppring.mul_one]
  | succ n ih =>
    intro k O B hk hb
    rcases Nat.eq_zero_or_pos k with rfl | h0
    · have step : impl_prime_power_l1 P.p m.1 ((0 : Nat) : Int) (prem O m).1 (prem B m).1 = some (.inr (prem O m).1) := by
        simp only [impl_prime_power_l1]
        rw [if_neg (by simp)]
      rw [loopM_eq]
      simp only [step, Option.bind_some, pw, ppring.mul_one]
    · have lO := prem_len O hm
      have lB := prem_len B hm
      have lOB : (prem O m * prem B m).len ≤ 500000 := by
        have : (prem O m * prem B m).len ≤ (prem O m).len + (prem B m).len - 1 := mul_len _ _ _
        omega
      have lBB : (prem B m * prem B m).len ≤ 500000 := by
        have : (prem B m * prem B m).len ≤ (prem B m).len + (prem B m).len - 1 := mul_len _ _ _
        omega
      have e1 : impl_prime_times P.p (prem B m).1 (prem B m).1 = some (prem B m * prem B m).1 := timesI (by omega) (by omega)
      have e2 : impl_prime_times P.p (prem O m).1 (prem B m).1 = some (prem O m * prem B m).1 := timesI (by omega) (by omega)
      have e3 : impl_prime_rest P.p (prem B m * prem B m).1 m.1 = some (prem (B * B) m).1 := by rw [restI hm lBB (by omega), prem_mul _ _ hm]
      have e4 : impl_prime_rest P.p (prem O m * prem B m).1 m.1 = some (prem (O * B) m).1 := by rw [restI hm lOB (by omega), prem_mul _ _ hm]
      have step : impl_prime_power_l1 P.p m.1 (k : Int) (prem O m).1 (prem B m).1 = some (.inl (((k / 2 : Nat) : Int), (prem (if k % 2 = 1 then O * B else O) m).1, (prem (B * B) m).1)) := by
        simp only [impl_prime_power_l1, letp, and_one hb, half_is, e1, e2, e3, e4, Option.bind_some]
        rw [if_pos (decide_eq_true (by omega))]
        by_cases ho : k % 2 = 1
        · rw [if_pos ho, if_pos (by rw [beq_iff_eq]; omega)]; rfl
        · rw [if_neg ho, if_neg (by rw [beq_iff_eq]; omega)]; rfl
      rw [loopM_eq]
      simp only [step, Option.bind_some]
      rw [ih (k / 2) _ _ (by omega) (by omega), pw_two]
      congr 3
      by_cases ho : k % 2 = 1
      · rw [if_pos ho, ppring.mul_assoc]
        have e : k = 2 * (k / 2) + 1 := by omega
        conv => rhs; rw [e]
        simp only [pw]
        rw [ppring.mul_comm B]
      · rw [if_neg ho]
        have e : k = 2 * (k / 2) := by omega
        conv => rhs; rw [e]
theorem powI_is (a : PP P) {m : PP P} (hm : m ≠ 0) (lm : m.len ≤ 1000) (la : a.len ≤ 500000) {k : Nat} (hk : k < 4611686018427387904) : impl_prime_power P.p a.1 k m.1 = some (prem (pw a k) m).1 := by
  have h := powI_loop hm lm k k 1 a (Nat.le_refl _) hk
  have e1 : impl_prime_rest P.p [1] m.1 = some (prem 1 m).1 := restI (a := 1) hm (by rw [len_one]; omega) (by omega)
  simp only [impl_prime_power, e1, restI hm la (show m.len ≤ 500000 by omega), Option.bind_some]
  have h' : loopM (fun s : Int × List Int × List Int => impl_prime_power_l1 P.p m.1 s.1 s.2.1 s.2.2) ((k : Int), (prem 1 m).1, (prem a m).1) = some (prem (1 * pw a k) m).1 := h
  rw [h', ppring.one_mul]
  rfl
end Go.Proofs.Ytkbnegemdlnncaa
/- Division, in the reference. -/
namespace Go.Proofs.Ytkbnegemdlnncaa
open Go.Abs

theorem divS_inner {p f y : Int} (hp : 2 ≤ p ∧ p ≤ 7) {b : V64} (hb : Res p b) (hf : 0 ≤ f ∧ f < p) (hy : Int.tmod y p = f) {i m : Nat} (hi : i + m < 64) {s t : V64} (hs : Res p s) :
    ∃ s', loopM (fun q : Int × V64 => spec_l01Divide_l2 (m : Int) y p ((i + m : Nat) : Int) b t q.1 q.2) (0, s) = some (s', vset t i f) ∧ Res p s' ∧ ∀ j, j < 64 → rd s'.1 j = dstep p (rd b.1) m f i (rd s.1) j := by
  have e0 : IntKind.i64.wrap (((i + m : Nat) : Int) - (m : Int)) = (i : Int) := by rw [wrap64 (by omega) (by omega)]; omega
  by_cases h0 : f = 0
  · refine ⟨s, ?_, hs, fun j hj => ?_⟩
    · have step : spec_l01Divide_l2 (m : Int) y p ((i + m : Nat) : Int) b t 0 s = some (.inr (s, vset t i f)) := by
        simp only [spec_l01Divide_l2, hy]
        rw [if_pos (decide_eq_true (by omega))]
        simp only [Option.bind_some]
        rw [if_neg (by rw [h0]; simp), e0, Int.toNat_natCast, wrap8 (by omega) (by omega)]
      rw [loopM_eq]
      simp only [step, Option.bind_some]
    · unfold dstep
      split
      · have := hs j hj
        rw [h0, Int.zero_mul, Int.sub_zero, Int.emod_eq_of_lt this.1 this.2]
      · rfl
  · obtain ⟨s', h1, h2, h3⟩ := loopM_for (body := fun q : Int × V64 => spec_l01Divide_l2 (m : Int) y p ((i + m : Nat) : Int) b t q.1 q.2) (fun k (u : V64) => ((k : Int), u)) (fun u => (u, vset t i f)) (m + 1)
      (fun k u => Res p u ∧ ∀ j, j < 64 → rd u.1 j = if i ≤ j ∧ j < i + k then (rd s.1 j - f * rd b.1 (j - i)) % p else rd s.1 j) (fun k u hk hI => by
        obtain ⟨hur, hu⟩ := hI
        have hbk := hb k (by omega)
        have hsk := hs (i + k) (by omega)
        have hm := mul_small (x := f) (y := rd b.1 k) (by omega) (by omega)
        have e1 : IntKind.i64.wrap ((i : Int) + (k : Int)) = ((i + k : Nat) : Int) := by rw [wrap64 (by omega) (by omega)]; omega
        have huk := hu (i + k) (by omega)
        rw [if_neg (by omega)] at huk
        have ht1 := Int.lt_tmod_of_pos (rd s.1 (i + k) - f * rd b.1 k) (show 0 < p by omega)
        have ht2 := Int.tmod_lt_of_pos (rd s.1 (i + k) - f * rd b.1 k) (show 0 < p by omega)
        have hr := emod_res (show 0 < p by omega) (rd s.1 (i + k) - f * rd b.1 k)
        refine ⟨vset u (i + k) ((rd s.1 (i + k) - f * rd b.1 k) % p), ?_, fun j hj => ?_, fun j hj => ?_⟩
        · simp only [spec_l01Divide_l2, letp, hy, e0]
          rw [if_pos (decide_eq_true (by omega))]
          simp only [Option.bind_some]
          rw [if_pos (by simpa using h0), e1, ifp_pos (by omega), ifp_pos (by omega), ifp_pos (by omega), ifp_pos (by omega), ifp_pos (by omega), Int.toNat_natCast, Int.toNat_natCast, huk]
          rw [wrap64 (n := rd b.1 k) (by omega) (by omega), wrap64 (n := f * rd b.1 k) (by omega) (by omega), wrap64 (n := rd s.1 (i + k)) (by omega) (by omega), wrap64 (n := rd s.1 (i + k) - f * rd b.1 k) (by omega) (by omega), wrap64 (n := _ + p) (by omega) (by omega), tmod_fix (by omega), wrap8 (by omega) (by omega), wrap64 (by omega) (by omega)]
          rfl
        · rw [rd_vset _ _ _ _ (by omega)]
          split
          · exact hr
          · exact hur j hj
        · rw [rd_vset _ _ _ _ (by omega), hu j hj]
          by_cases e : j = i + k
          · subst e
            rw [if_pos rfl, if_pos (by omega), show i + k - i = k by omega]
          · rw [if_neg e]
            by_cases hc : i ≤ j ∧ j < i + k
            · rw [if_pos hc, if_pos (by omega)]
            · rw [if_neg hc, if_neg (by omega)]) (fun u hI => by
        simp only [spec_l01Divide_l2, hy, e0]
        rw [if_neg (by rw [decide_eq_true_eq]; omega)]
        simp only [Option.bind_some, Bool.false_eq_true, if_false]
        rw [Int.toNat_natCast, wrap8 (by omega) (by omega)]) (m + 1) 0 s (by omega) ⟨hs, fun j hj => by rw [if_neg (by omega)]⟩
    refine ⟨s', h1, h2, fun j hj => ?_⟩
    rw [h3 j hj]
    unfold dstep
    simp only [show (i ≤ j ∧ j < i + (m + 1)) = (i ≤ j ∧ j ≤ i + m) from by rw [eq_iff_iff]; omega]
theorem dstep_congr {p f : Int} {b b' r r' : Nat → Int} {m i : Nat} (hb : ∀ j, j < 64 → b j = b' j) (hr : ∀ j, j < 64 → r j = r' j) (j : Nat) (hj : j < 64) : dstep p b m f i r j = dstep p b' m f i r' j := by
  unfold dstep
  split
  · rw [hr j hj, hb (j - i) (by omega)]
  · exact hr j hj
theorem divS_outer {p : Int} (hp : isP p = true) {b : V64} (hb : Res p b) {m : Nat} {iv : Int} (hiv : 0 ≤ iv ∧ iv < p) : ∀ (i : Nat) (s t : V64), i + m ≤ 64 → Res p s →
    ∃ s' t', loopM (fun q : Int × V64 × V64 => spec_l01Divide_l1 (m : Int) iv p b q.1 q.2.1 q.2.2) ((i : Int) + m - 1, s, t) = some (s', t') ∧
      (∀ j, j < 64 → rd s'.1 j = drem p (rd b.1) m iv i (rd s.1) j) ∧ ∀ j, j < 64 → rd t'.1 j = if j < i then dquo p (rd b.1) m iv i (rd s.1) j else rd t.1 j
  | 0, s, t, hi, _ => by
    refine ⟨s, t, ?_, fun _ _ => rfl, fun j _ => by rw [if_neg (by omega)]⟩
    have step : spec_l01Divide_l1 (m : Int) iv p b (((0 : Nat) : Int) + m - 1) s t = some (.inr (s, t)) := by
      simp only [spec_l01Divide_l1]
      rw [if_neg (by rw [decide_eq_true_eq]; omega)]
    rw [loopM_eq]
    simp only [step, Option.bind_some]
  | i + 1, s, t, hi, hs => by
    have hp2 := isP_pos hp
    have hsx := hs (i + m) (by omega)
    have hm := mul_small (x := rd s.1 (i + m)) (y := iv) (by omega) (by omega)
    have hf := emod_res (show 0 < p by omega) (rd s.1 (i + m) * iv)
    have e0 : ((i + 1 : Nat) : Int) + m - 1 = ((i + m : Nat) : Int) := by omega
    have e1 : IntKind.i64.wrap (((i + m : Nat) : Int) - (m : Int)) = (i : Int) := by rw [wrap64 (by omega) (by omega)]; omega
    have hy : Int.tmod (rd s.1 (i + m) * iv) p = dfac p iv m i (rd s.1) := Int.tmod_eq_emod_of_nonneg hm.1
    obtain ⟨s1, g1, g2, g3⟩ := divS_inner hp2 hb (f := dfac p iv m i (rd s.1)) hf hy (i := i) (m := m) (by omega) (t := t) hs
    obtain ⟨s', t', k1, k2, k3⟩ := divS_outer hp hb (m := m) hiv i s1 (vset t i (dfac p iv m i (rd s.1))) (by omega) g2
    -- the functions agree on the places that there are
    have hz : ∀ j, 64 ≤ j → rd s1.1 j = dstep p (rd b.1) m (dfac p iv m i (rd s.1)) i (rd s.1) j := fun j hj => by
      rw [rd_ge (by rw [s1.2]; exact hj)]
      unfold dstep
      rw [if_neg (by omega), rd_ge (by rw [s.2]; exact hj)]
    have hs1 : rd s1.1 = dstep p (rd b.1) m (dfac p iv m i (rd s.1)) i (rd s.1) := funext fun j => by
      rcases Nat.lt_or_ge j 64 with h | h
      · exact g3 j h
      · exact hz j h
    refine ⟨s', t', ?_, fun j hj => ?_, fun j hj => ?_⟩
    · have step : spec_l01Divide_l1 (m : Int) iv p b (((i + 1 : Nat) : Int) + m - 1) s t = some (.inl ((i : Int) + m - 1, s1, vset t i (dfac p iv m i (rd s.1)))) := by
        rw [e0]
        simp only [spec_l01Divide_l1, letp, e1]
        rw [if_pos (decide_eq_true (by omega)), ifp_pos (by omega), Int.toNat_natCast, wrap64 (n := rd s.1 (i + m)) (by omega) (by omega), wrap64 (n := iv) (by omega) (by omega), wrap64 (n := rd s.1 (i + m) * iv) (by omega) (by omega), ifp_pos (by omega), ifp_pos (by omega), g1]
        simp only [Option.bind_some]
        rw [wrap64 (by omega) (by omega)]
        congr 3
      rw [loopM_eq]
      simp only [step, Option.bind_some]
      exact k1
    · rw [k2 j hj, hs1]; rfl
    · rw [k3 j hj, hs1]
      simp only [dquo]
      by_cases e : j = i
      · subst e
        rw [if_neg (by omega), if_pos (by omega), if_pos rfl, rd_vset _ _ _ _ hj, if_pos rfl]
      · by_cases h : j < i
        · rw [if_pos h, if_pos (by omega), if_neg e]
        · rw [if_neg h, if_neg (by omega), rd_vset _ _ _ _ (by omega), if_neg e]
theorem rd_pad_fun {l : List Int} (hl : l.length ≤ 64) : rd (pad l).1 = rd l := funext fun j => by
  rcases Nat.lt_or_ge j 64 with h | h
  · exact rd_padl l h
  · rw [rd_ge (by rw [(pad l).2]; exact h), rd_ge (by omega)]
theorem divideS_is {p : Int} (hp : isP p = true) {a b : List Int} (ha : Row p a) (hb : Row p b) (h0 : b.length ≠ 0) (la : a.length ≤ 64) (lb : b.length ≤ 64) : spec_l01Divide p (pad a) (pad b) = some (pad (quo p a b), pad (rem p a b)) := by
  have hp2 := isP_pos hp
  have hta : top (rd (pad a).1) 64 = a.length := by rw [top_congr 64 fun i hi => rd_padl a hi, ha.top la]
  have htb : top (rd (pad b).1) 64 = b.length := by rw [top_congr 64 fun i hi => rd_padl b hi, hb.top lb]
  have hlead := lead_pos (show 0 < p by omega) hb h0
  have hinv := inv_is hp hlead
  have e1 : ((b.length : Nat) : Int) - 1 = ((b.length - 1 : Nat) : Int) := by omega
  simp only [spec_l01Divide, deg_is, hta, htb, Option.bind_some, e1]
  have hl : rd (pad b).1 (b.length - 1) = lead b := by rw [rd_padl _ (by omega)]; rfl
  rw [ifp_pos (by omega), Int.toNat_natCast, hl, inverse_spec hp hlead]
  simp only [Option.bind_some]
  rcases Nat.lt_or_ge a.length b.length with h | h
  · have step : spec_l01Divide_l1 ((b.length - 1 : Nat) : Int) (inv p (lead b)) p (pad b) ((a.length : Int) - 1) (pad a) (vrep 64 0) = some (.inr (pad a, vrep 64 0)) := by
      simp only [spec_l01Divide_l1]
      rw [if_neg (by rw [decide_eq_true_eq]; omega)]
    rw [loopM_eq]
    simp only [step, Option.bind_some]
    have e2 : quo p a b = [] := by
      have := quo_len p a b
      exact List.eq_nil_of_length_eq_zero (by omega)
    have e3 : rem p a b = a := by
      unfold rem
      rw [show a.length + 1 - b.length = 0 by omega]
      exact ha.ofF (Nat.le_refl _)
    rw [e2, e3, pad_nil]
  · obtain ⟨s', t', k1, k2, k3⟩ := divS_outer hp (res_pad hb (by omega)) (m := b.length - 1) (iv := inv p (lead b)) ⟨by omega, hinv.2.1⟩ (a.length + 1 - b.length) (pad a) (vrep 64 0) (by omega) (res_pad ha (by omega))
    have e2 : ((a.length + 1 - b.length : Nat) : Int) + ((b.length - 1 : Nat) : Int) - 1 = (a.length : Int) - 1 := by omega
    rw [e2] at k1
    rw [k1]
    simp only [Option.bind_some]
    rw [rd_pad_fun la, rd_pad_fun lb] at k2 k3
    congr 2
    · refine vec_ext fun j hj => ?_
      rw [k3 j hj, rd_padl _ hj, quo_rd]
      split
      · rfl
      · rw [rd_vrep _ hj, dquo_ge _ _ _ (by omega)]
    · refine vec_ext fun j hj => ?_
      rw [k2 j hj, rd_padl _ hj, rem_rd a h0]
end Go.Proofs.Ytkbnegemdlnncaa
/- Rests of products and powers, in the reference. -/
namespace Go.Proofs.Ytkbnegemdlnncaa
open Go.Abs

variable {P : Pri}
theorem len_T {P : Pri} : (ppT : PP P).len = 2 := rfl
theorem divS {a b : PP P} (hb : b ≠ 0) (la : a.len ≤ 64) (lb : b.len ≤ 64) : spec_l01Divide P.p (pad a.1) (pad b.1) = some (pad (pquo a b).1, pad (prem a b).1) := divideS_is P.okp a.2 b.2 (ne_len hb) la lb
theorem modS {a b : PP P} (hb : b ≠ 0) (la : a.len ≤ 64) (lb : b.len ≤ 64) : spec_l01Mod P.p (pad a.1) (pad b.1) = some (pad (prem a b).1) := by
  simp only [spec_l01Mod, divS hb la lb, Option.bind_some]
theorem degS (a : PP P) (la : a.len ≤ 64) : spec_l01Deg (pad a.1) = some ((a.len : Int) - 1) := by
  rw [deg_is, rd_pad_fun la, a.2.top la]; rfl
theorem comb_nsm (x a : PP P) (k : Nat) : comb P.p x.1 a.1 k = (x + nsm k a).1 := by
  refine row_ext (comb_row P.pos _ _ _) (x + nsm k a).2 fun i => ?_
  have h : (x + nsm k a).c i = (x.c i + (nsm k a).c i) % P.p := add_c _ _ _
  rw [comb_rd]
  show _ = (x + nsm k a).c i
  rw [h, nsm_c, Int.add_emod_emod]; rfl
theorem len_nsm (k : Nat) (a : PP P) : (nsm k a).len ≤ a.len := by
  induction k with
  | zero => show 0 ≤ _; omega
  | succ k ih =>
    have := len_add (nsm k a) a
    simp only [nsm]; omega
theorem addS {a b : PP P} (la : a.len ≤ 64) (lb : b.len ≤ 64) {k : Nat} (hk : k ≤ 1099511627776) : spec_l01Add P.p (pad a.1) (pad b.1) k = some (pad (a + nsm k b).1) := by
  rw [add_pad P.sm a.2 b.2 la lb (by omega), comb_nsm]
theorem T_c (a : PP P) (i : Nat) : (ppT * a).c i = if 1 ≤ i then a.c (i - 1) else 0 := by
  rw [mul_c]
  have e : conv (PP.c (ppT : PP P)) a.c i = if 1 ≤ i then a.c (i - 1) else 0 := conv_T _ i
  rw [e]
  split
  · exact a.c_mod _
  · rfl
set_option maxHeartbeats 2000000 in
/-- T times a residue, less a multiple of the modulus. -/
theorem up_is {a m : PP P} (hm : m ≠ 0) (lm : m.len ≤ 64) (la : a.len < m.len) : spec_l01Up P.p (pad a.1) (pad m.1) = some (pad (prem (ppT * a) m).1) := by
  have hp := P.two
  simp only [spec_l01Up, letp, degS m lm, Option.bind_some]
  by_cases h1 : m.len = 1
  · rw [if_pos (by rw [beq_iff_eq]; omega)]
    have h := prem_len (ppT * a) hm
    have : prem (ppT * a) m = 0 := len_zero.1 (by omega)
    rw [this]
    exact congrArg some pad_nil.symm
  · have hml := len_pos hm
    obtain ⟨n, hn⟩ : ∃ n, m.len = n + 2 := ⟨m.len - 2, by omega⟩
    have e0 : ((m.len : Int) - 1) = ((n + 1 : Nat) : Int) := by omega
    rw [if_neg (by rw [beq_iff_eq]; omega), e0]
    have e1 : IntKind.i64.wrap (((n + 1 : Nat) : Int) - 1) = (n : Int) := by rw [wrap64 (by omega) (by omega)]; omega
    rw [e1, ifp_pos (by omega), Int.toNat_natCast]
    have an := a.c_res n
    have ean : rd (pad a.1).1 n = a.c n := rd_padl _ (by omega)
    simp only [Int.toNat_natCast, ean]
    rw [wrap64 (n := a.c n) (by omega) (by omega)]
    -- the shifted coefficients
    obtain ⟨v, h2, h3⟩ := loopM_for (body := fun s : Int × V64 => spec_l01Up_l1 ((n + 1 : Nat) : Int) (pad a.1) s.1 s.2) (fun i u => ((i : Int), u)) (fun u => u) (n + 1)
      (fun i u => 1 ≤ i ∧ ∀ j, j < 64 → rd u.1 j = if 1 ≤ j ∧ j < i then a.c (j - 1) else 0) (fun i u hi hI => by
        obtain ⟨hi1, hI⟩ := hI
        have e2 : IntKind.i64.wrap ((i : Int) - 1) = ((i - 1 : Nat) : Int) := by rw [wrap64 (by omega) (by omega)]; omega
        have e3 : rd (pad a.1).1 (i - 1) = a.c (i - 1) := rd_padl _ (by omega)
        refine ⟨vset u i (a.c (i - 1)), ?_, by omega, fun j hj => ?_⟩
        · simp only [spec_l01Up_l1, e2, Int.toNat_natCast, e3]
          rw [if_pos (decide_eq_true (by omega)), ifp_pos (by omega), ifp_pos (by omega), wrap64 (by omega) (by omega)]
          rfl
        · rw [rd_vset _ _ _ _ (by omega), hI j hj]
          by_cases h : j = i
          · subst h; rw [if_pos rfl, if_pos (by omega)]
          · rw [if_neg h]
            simp only [show (1 ≤ j ∧ j < i + 1) = (1 ≤ j ∧ j < i) from by rw [eq_iff_iff]; omega]) (fun u hI => by
        simp only [spec_l01Up_l1]
        rw [if_neg (by rw [decide_eq_true_eq]; omega)]) n 1 (vrep 64 0) (by omega) ⟨by omega, fun j hj => by rw [rd_vrep _ hj, if_neg (by omega)]⟩
    have h2' : loopM (fun s : Int × V64 => spec_l01Up_l1 ((n + 1 : Nat) : Int) (pad a.1) s.1 s.2) (1, vrep 64 0) = some v := h2
    have emn : rd (pad m.1).1 (n + 1) = lead m.1 := by
      rw [rd_padl _ (by omega)]
      show rd m.1 (n + 1) = rd m.1 (m.1.length - 1)
      have : m.1.length = n + 2 := hn
      rw [this]; rfl
    have hlead := lead_pos P.pos m.2 (ne_len hm)
    have hinv := inv_is P.okp hlead
    obtain ⟨f, hf⟩ : ∃ f : Nat, a.c n * inv P.p (lead m.1) % P.p = f := ⟨(a.c n * inv P.p (lead m.1) % P.p).toNat, by have := emod_res P.pos (a.c n * inv P.p (lead m.1)); omega⟩
    have hfp : (f : Int) < P.p := by rw [← hf]; exact (emod_res P.pos _).2
    have hinv' : 0 < inv P.p (lead m.1) ∧ inv P.p (lead m.1) < P.p := ⟨hinv.1, hinv.2.1⟩
    have hms := mul_small (x := a.c n) (y := inv P.p (lead m.1)) (by omega) (by omega)
    have ef : Int.tmod (IntKind.i64.wrap (a.c n * IntKind.i64.wrap (inv P.p (lead m.1)))) P.p = f := by
      rw [wrap64 (n := inv P.p (lead m.1)) (by omega) (by omega), wrap64 (n := _ * _) (by omega) (by omega), Int.tmod_eq_emod_of_nonneg hms.1, hf]
    -- less a multiple of the modulus
    obtain ⟨w, h4, h5⟩ := loopM_for (body := fun s : Int × V64 => spec_l01Up_l2 ((n + 1 : Nat) : Int) (a.c n) (inv P.p (lead m.1)) P.p (pad m.1) s.1 s.2) (fun i u => ((i : Int), u)) (fun u => u) (n + 1)
      (fun i u => ∀ j, j < 64 → rd u.1 j = if j < i then (rd v.1 j - f * m.c j) % P.p else rd v.1 j) (fun i u hi hI => by
        have hs := hI i (by omega)
        rw [if_neg (by omega)] at hs
        have hv := h3.2 i (by omega)
        have hvb : 0 ≤ rd v.1 i ∧ rd v.1 i < 256 := by
          rw [hv]
          split
          · have := a.c_res (i - 1); omega
          · omega
        have hmi := m.c_res i
        have em : rd (pad m.1).1 i = m.c i := rd_padl _ (by omega)
        have hfm := mul_small (x := (f : Int)) (y := m.c i) (by omega) (by omega)
        have h6 := Int.lt_tmod_of_pos (rd v.1 i - f * m.c i) P.pos
        have h7 := Int.tmod_lt_of_pos (rd v.1 i - f * m.c i) P.pos
        have h8 := emod_res P.pos (rd v.1 i - f * m.c i)
        refine ⟨vset u i ((rd v.1 i - f * m.c i) % P.p), ?_, fun j hj => ?_⟩
        · simp only [spec_l01Up_l2, letp, Int.toNat_natCast, hs, em, ef]
          rw [if_pos (decide_eq_true (by omega)), ifp_pos (by omega), ifp_pos (by omega), ifp_pos (by omega), ifp_pos (by omega), ifp_pos (by omega)]
          rw [wrap64 (n := m.c i) (by omega) (by omega), wrap64 (n := (f : Int) * m.c i) (by omega) (by omega), wrap64 (n := rd v.1 i) (by omega) (by omega), wrap64 (n := rd v.1 i - f * m.c i) (by omega) (by omega), wrap64 (n := _ + P.p) (by omega) (by omega), tmod_fix P.pos, wrap8 (by omega) (by omega), wrap64 (by omega) (by omega)]
          rfl
        · rw [rd_vset _ _ _ _ (by omega), hI j hj]
          by_cases h : j = i
          · subst h; rw [if_pos rfl, if_pos (by omega)]
          · rw [if_neg h]
            simp only [show (j < i + 1) = (j < i) from by rw [eq_iff_iff]; omega]) (fun u hI => by
        simp only [spec_l01Up_l2]
        rw [if_neg (by rw [decide_eq_true_eq]; omega)]) (n + 1) 0 v (by omega) (fun j hj => by rw [if_neg (by omega)])
    have h4' : loopM (fun s : Int × V64 => spec_l01Up_l2 ((n + 1 : Nat) : Int) (a.c n) (inv P.p (lead m.1)) P.p (pad m.1) s.1 s.2) (0, v) = some w := h4
    simp only [h2', Option.bind_some, emn]
    rw [ifp_pos (by omega), inverse_spec P.okp hlead]
    simp only [Option.bind_some]
    rw [ifp_pos (by omega), h4']
    simp only [Option.bind_some]
    -- it is the rest
    have hr : ∀ i, (ppT * a + -(nsm f m)).c i = ((if 1 ≤ i then a.c (i - 1) else 0) - f * m.c i) % P.p := fun i => by
      rw [add_c, neg_c, nsm_c, T_c, Int.add_emod_emod, Int.sub_eq_add_neg]
      rw [Int.add_emod, ← Int.sub_eq_add_neg]
      rw [Int.sub_eq_add_neg, ← Int.add_emod, ← Int.sub_eq_add_neg, ← Int.sub_eq_add_neg]
      exact Int.sub_emod_emod _ _ _
    have hz : ∀ i, n + 1 ≤ i → (ppT * a + -(nsm f m)).c i = 0 := fun i hi => by
      rw [hr]
      by_cases e : i = n + 1
      · subst e
        rw [if_pos (by omega), Nat.add_sub_cancel]
        have e5 : m.c (n + 1) = lead m.1 := by rw [← emn]; exact (rd_padl _ (by omega)).symm
        have e8 : (a.c n * inv P.p (lead m.1) % P.p) * lead m.1 % P.p = a.c n % P.p := by
          rw [Int.mul_emod, Int.emod_emod, ← Int.mul_emod, Int.mul_assoc, Int.mul_comm (inv P.p (lead m.1)), Int.mul_emod, hinv.2.2, Int.mul_one, Int.emod_emod]
        rw [e5, ← hf, Int.sub_emod, e8, Int.sub_self]
        rfl
      · rw [if_pos (by omega)]
        have e5 : a.c (i - 1) = 0 := rd_ge (by have : a.1.length < m.1.length := la; have : m.1.length = n + 2 := hn; omega)
        have e6 : m.c i = 0 := rd_ge (by have : m.1.length = n + 2 := hn; omega)
        rw [e5, e6]; simp
    have hl : (ppT * a + -(nsm f m)).len < m.len := by
      rcases Nat.lt_or_ge (ppT * a + -(nsm f m)).len m.len with h | h
      · exact h
      · have h0 : (ppT * a + -(nsm f m)).1.length ≠ 0 := by have : (ppT * a + -(nsm f m)).1.length = (ppT * a + -(nsm f m)).len := rfl; omega
        have h9 := (ppT * a + -(nsm f m)).2.nrm h0
        have h10 : (ppT * a + -(nsm f m)).c ((ppT * a + -(nsm f m)).len - 1) = 0 := hz _ (by omega)
        exact (h9 h10).elim
    have hrem : prem (ppT * a) m = ppT * a + -(nsm f m) := by
      refine prem_of (nsm f 1) hm ?_ hl
      have e7 : nsm f 1 * m = nsm f m := by rw [ppring.mul_comm, ppring.mul_nsm, ppring.mul_one]
      rw [e7, ppring.add_left_comm, ppring.add_neg, ppring.add_zero]
    rw [hrem]
    congr 1
    refine vec_ext fun j hj => ?_
    rw [h5 j hj, rd_padl _ hj]
    show _ = (ppT * a + -(nsm f m)).c j
    by_cases hjn : j < n + 1
    · rw [if_pos hjn, hr, h3.2 j hj]
      simp only [show (1 ≤ j ∧ j < n + 1) = (1 ≤ j) from by rw [eq_iff_iff]; omega]
    · rw [if_neg hjn, hz j (by omega), h3.2 j hj, if_neg (by omega)]

/-! Products. -/
theorem drop_row {p : Int} : ∀ (i : Nat) {l : List Int}, Row p l → Row p (l.drop i)
  | 0, _, h => h
  | _ + 1, [], h => h
  | i + 1, _ :: _, h => drop_row i (row_tail h)
def pdrop (b : PP P) (i : Nat) : PP P := ⟨b.1.drop i, drop_row i b.2⟩
theorem pdrop_c (b : PP P) (i j : Nat) : (pdrop b i).c j = b.c (i + j) := by
  show rd (b.1.drop i) j = rd b.1 (i + j)
  simp [rd]
theorem pdrop_all (b : PP P) {i : Nat} (h : b.len ≤ i) : pdrop b i = 0 := pp_eq (List.drop_eq_nil_of_le h)
theorem pdrop_step (b : PP P) (i : Nat) : pdrop b i = ppT * pdrop b (i + 1) + nsm (b.c i).toNat 1 := by
  have hb := b.c_res i
  refine pp_ext fun j => ?_
  rw [add_c, T_c, nsm_c, one_c, pdrop_c, pdrop_c, Int.toNat_of_nonneg hb.1]
  cases j with
  | zero => rw [if_neg (by omega), if_pos rfl, Int.mul_one, Int.add_emod_emod, Int.zero_add, Nat.add_zero, b.c_mod]
  | succ j =>
    rw [if_pos (by omega), if_neg (by omega), Int.mul_zero, Int.zero_emod, Int.add_zero, b.c_mod]
    congr 1; omega
theorem mulmod_loop {a b m : PP P} (hm : m ≠ 0) (lm : m.len ≤ 64) (la : a.len ≤ 64) (lb : b.len ≤ 64) : ∀ i : Nat, i ≤ b.len →
    loopM (fun s : Int × V64 => spec_l01MulMod_l1 P.p (pad m.1) (pad a.1) (pad b.1) s.1 s.2) ((i : Int) - 1, pad (prem (a * pdrop b i) m).1) = some (pad (prem (a * b) m).1) := by
  have hp := P.two
  intro i
  induction i with
  | zero =>
    intro _
    have step : spec_l01MulMod_l1 P.p (pad m.1) (pad a.1) (pad b.1) (((0 : Nat) : Int) - 1) (pad (prem (a * pdrop b 0) m).1) = some (.inr (pad (prem (a * pdrop b 0) m).1)) := by
      simp only [spec_l01MulMod_l1]
      rw [if_neg (by simp)]
    rw [loopM_eq]
    simp only [step, Option.bind_some]
    rfl
  | succ i ih =>
    intro hi
    have hbc := b.c_res i
    have l1 := prem_len (a * pdrop b (i + 1)) hm
    have l2 := prem_len (ppT * prem (a * pdrop b (i + 1)) m) hm
    have ew : IntKind.i64.wrap (((i + 1 : Nat) : Int) - 1 - 1) = (i : Int) - 1 := by rw [wrap64 (by omega) (by omega)]; omega
    have eb : rd (pad b.1).1 i = b.c i := rd_padl _ (by omega)
    obtain ⟨k, hk⟩ : ∃ k : Nat, b.c i = k := ⟨(b.c i).toNat, by omega⟩
    have e1 := up_is hm lm l1
    have e2 := addS (P := P) (a := prem (ppT * prem (a * pdrop b (i + 1)) m) m) (b := a) (by omega) la (k := k) (by omega)
    have l3 : (prem (ppT * prem (a * pdrop b (i + 1)) m) m + nsm k a).len ≤ 64 := by
      have := len_add (prem (ppT * prem (a * pdrop b (i + 1)) m) m) (nsm k a)
      have := len_nsm k a
      omega
    have e3 := modS hm l3 lm
    have e4 : prem (prem (ppT * prem (a * pdrop b (i + 1)) m) m + nsm k a) m = prem (a * pdrop b i) m := by
      rw [prem_mul_r _ _ hm]
      have h1 : prem (prem (ppT * (a * pdrop b (i + 1))) m + nsm k a) m = prem (ppT * (a * pdrop b (i + 1)) + nsm k a) m := by
        rw [prem_add _ _ hm, prem_add _ _ hm, prem_small (prem_len (ppT * (a * pdrop b (i + 1))) hm)]
      have h2 : ppT * (a * pdrop b (i + 1)) + nsm k a = a * pdrop b i := by
        rw [pdrop_step b i, ppring.mul_add, ppring.mul_left_comm a ppT, ppring.mul_nsm, ppring.mul_one, hk, Int.toNat_natCast]
      rw [h1, h2]
    have step : spec_l01MulMod_l1 P.p (pad m.1) (pad a.1) (pad b.1) (((i + 1 : Nat) : Int) - 1) (pad (prem (a * pdrop b (i + 1)) m).1) = some (.inl ((i : Int) - 1, pad (prem (a * pdrop b i) m).1)) := by
      simp only [spec_l01MulMod_l1, e1, Option.bind_some]
      rw [if_pos (decide_eq_true (by omega)), ifp_pos (by omega), ew, show (((i + 1 : Nat) : Int) - 1).toNat = i by omega, eb, wrap64 (by omega) (by omega), hk, e2]
      simp only [Option.bind_some]
      rw [e3, e4]
      rfl
    rw [loopM_eq]
    simp only [step, Option.bind_some]
    exact ih (by omega)
theorem mulmodS {a b m : PP P} (hm : m ≠ 0) (lm : m.len ≤ 64) (la : a.len ≤ 64) (lb : b.len ≤ 64) : spec_l01MulMod P.p (pad a.1) (pad b.1) (pad m.1) = some (pad (prem (a * b) m).1) := by
  have h := mulmod_loop hm lm la lb b.len (Nat.le_refl _)
  have e : prem (a * pdrop b b.len) m = 0 := by
    rw [pdrop_all b (Nat.le_refl _), ppring.mul_zero]
    exact prem_small (by have := len_pos hm; rw [len_zero.2 rfl]; omega)
  rw [e] at h
  have e2 : pad (0 : PP P).1 = vrep 64 0 := pad_nil
  rw [e2] at h
  simp only [spec_l01MulMod, degS b lb, Option.bind_some, h]

/-! Powers. -/
theorem powmod_loop {m : PP P} (hm : m ≠ 0) (lm : m.len ≤ 64) : ∀ (n k : Nat) (O B : PP P), k ≤ n → k < 4611686018427387904 →
    loopM (fun s : Int × V64 × V64 => spec_l01PowMod_l1 P.p (pad m.1) s.1 s.2.1 s.2.2) ((k : Int), pad (prem O m).1, pad (prem B m).1) = some (pad (prem (O * pw B k) m).1) := by
  intro n
  induction n with
  | zero =>
    intro k O B hk _
    have : k = 0 := by omega
    subst this
    have step : spec_l01PowMod_l1 P.p (pad m.1) ((0 : Nat) : Int) (pad (prem O m).1) (pad (prem B m).1) = some (.inr (pad (prem O m).1)) := by
      simp only [spec_l01PowMod_l1]
      rw [if_neg (by simp)]
    rw [loopM_eq]
    simp only [step, Option.bind_some, pw, ppring.mul_one]
  | succ n ih =>
    intro k O B hk hb
    rcases Nat.eq_zero_or_pos k with rfl | h0
    · have step : spec_l01PowMod_l1 P.p (pad m.1) ((0 : Nat) : Int) (pad (prem O m).1) (pad (prem B m).1) = some (.inr (pad (prem O m).1)) := by
        simp only [spec_l01PowMod_l1]
        rw [if_neg (by simp)]
      rw [loopM_eq]
      simp only [step, Option.bind_some, pw, ppring.mul_one]
    · have lO := prem_len O hm
      have lB := prem_len B hm
      have e1 : spec_l01MulMod P.p (pad (prem B m).1) (pad (prem B m).1) (pad m.1) = some (pad (prem (B * B) m).1) := by rw [mulmodS hm lm (by omega) (by omega), prem_mul _ _ hm]
      have e2 : spec_l01MulMod P.p (pad (prem O m).1) (pad (prem B m).1) (pad m.1) = some (pad (prem (O * B) m).1) := by rw [mulmodS hm lm (by omega) (by omega), prem_mul _ _ hm]
      have et : Int.tmod (k : Int) 2 = ((k % 2 : Nat) : Int) := by rw [Int.tmod_eq_emod_of_nonneg (by omega)]; omega
      have ed : IntKind.i64.wrap (Int.tdiv (k : Int) 2) = ((k / 2 : Nat) : Int) := by rw [Int.tdiv_eq_ediv_of_nonneg (by omega), wrap64 (by omega) (by omega)]; omega
      have step : spec_l01PowMod_l1 P.p (pad m.1) (k : Int) (pad (prem O m).1) (pad (prem B m).1) = some (.inl (((k / 2 : Nat) : Int), pad (prem (if k % 2 = 1 then O * B else O) m).1, pad (prem (B * B) m).1)) := by
        simp only [spec_l01PowMod_l1, e1, e2, et, ed, Option.bind_some]
        rw [if_pos (decide_eq_true (by omega))]
        by_cases ho : k % 2 = 1
        · rw [if_pos ho, if_pos (by rw [beq_iff_eq]; omega)]; rfl
        · rw [if_neg ho, if_neg (by rw [beq_iff_eq]; omega)]; rfl
      rw [loopM_eq]
      simp only [step, Option.bind_some]
      rw [ih (k / 2) _ _ (by omega) (by omega), pw_two]
      congr 4
      by_cases ho : k % 2 = 1
      · rw [if_pos ho, ppring.mul_assoc]
        have e : k = 2 * (k / 2) + 1 := by omega
        conv => rhs; rw [e]
        simp only [pw]
        rw [ppring.mul_comm B]
      · rw [if_neg ho]
        have e : k = 2 * (k / 2) := by omega
        conv => rhs; rw [e]
theorem powmodS {a m : PP P} (hm : m ≠ 0) (lm : m.len ≤ 64) (la : a.len ≤ 64) {k : Nat} (hk : k < 4611686018427387904) : spec_l01PowMod P.p (pad a.1) k (pad m.1) = some (pad (prem (pw a k) m).1) := by
  have h := powmod_loop hm lm k k 1 a (Nat.le_refl _) hk
  have e1 : spec_l01Mod P.p (pad [1]) (pad m.1) = some (pad (prem (1 : PP P) m).1) := modS (a := (1 : PP P)) hm (by rw [len_one]; omega) lm
  simp only [spec_l01PowMod, one_is, e1, modS hm la lm, Option.bind_some, h, ppring.one_mul]
end Go.Proofs.Ytkbnegemdlnncaa
/- Powers of p of polynomials, and factorials that divide one another. -/
namespace Go.Proofs.Ytkbnegemdlnncaa
open Go.Abs
variable {P : Pri}
def sprP (a : PP P) (i : Nat) : PP P := ⟨spr a.1 (P.n ^ i), spr_row P.pos a.2 _⟩
theorem Pri.pow_pos (P : Pri) (i : Nat) : 0 < P.n ^ i := Nat.pow_pos (by have := P.is; omega)
theorem sprP_c (a : PP P) (i j : Nat) : (sprP a i).c j = if j % P.n ^ i = 0 then a.c (j / P.n ^ i) else 0 := spr_rd (P.pow_pos i) j
theorem Tpow_c (y : PP P) : ∀ k j : Nat, (pw ppT k * y).c j = if k ≤ j then y.c (j - k) else 0
  | 0, j => by
    have e : pw (ppT : PP P) 0 * y = y := ppring.one_mul y
    rw [e, if_pos (Nat.zero_le _)]; rfl
  | k + 1, j => by
    have e : pw (ppT : PP P) (k + 1) * y = ppT * (pw ppT k * y) := by
      have : pw (ppT : PP P) (k + 1) = pw ppT k * ppT := rfl
      rw [this, ppring.mul_assoc, ppring.mul_left_comm]
    rw [e, T_c, Tpow_c y k]
    by_cases h : k + 1 ≤ j
    · rw [if_pos (by omega), if_pos (by omega), if_pos h]; congr 1; omega
    · rw [if_neg h]
      by_cases h1 : 1 ≤ j
      · rw [if_pos h1, if_neg (by omega)]
      · rw [if_neg h1]
theorem sprP_pw (a : PP P) (i : Nat) : sprP a i = pw a (P.n ^ i) := by
  have hq := P.pow_pos i
  refine pp_ind (S := fun x => sprP x i = pw x (P.n ^ i)) ?_ ?_ ?_ a
  · rw [ppring.pw_zero (by omega)]
    exact pp_eq (spr_nil _)
  · intro x hx
    rw [ppring.mul_pw, ← hx]
    refine pp_ext fun j => ?_
    rw [sprP_c, Tpow_c, T_c]
    generalize hQ : P.n ^ i = q at hq
    by_cases h1 : q ≤ j
    · rw [if_pos h1, sprP_c, hQ]
      have e1 : (j - q) % q = j % q := (Nat.mod_eq_sub_mod h1).symm
      have e2 : j / q = (j - q) / q + 1 := by rw [Nat.div_eq_sub_div hq h1]
      rw [e1, e2, Nat.add_sub_cancel, if_pos (Nat.le_add_left 1 _)]
    · have e3 : j / q = 0 := Nat.div_eq_of_lt (by omega)
      rw [if_neg h1, e3, if_neg (show ¬ 1 ≤ 0 by omega), ite_self]
  · intro x hx
    rw [ppring.frobn P.is pp_char, ppring.pw_one, ← hx]
    refine pp_ext fun j => ?_
    rw [sprP_c, add_c, add_c, sprP_c, one_c, one_c]
    generalize hQ : P.n ^ i = q at hq
    by_cases h0 : j % q = 0
    · rw [if_pos h0, if_pos h0]
      have : (j / q = 0) = (j = 0) := by
        rw [eq_iff_iff]
        constructor
        · intro h
          have := Nat.div_add_mod j q
          rw [h, h0] at this; omega
        · intro h; rw [h, Nat.zero_div]
      simp only [this]
    · rw [if_neg h0, if_neg h0, if_neg (fun h => h0 (by rw [h, Nat.zero_mod]))]
      rfl
theorem sub_pp (a b : PP P) : comb P.p a.1 b.1 (-1) = (a + -b).1 := by
  apply row_ext (comb_row P.pos _ _ _) (a + -b).2
  intro i
  show rd (comb P.p a.1 b.1 (-1)) i = (a + -b).c i
  rw [comb_rd, add_c, neg_c, Int.add_emod_emod]
  show (rd a.1 i + -1 * rd b.1 i) % P.p = (rd a.1 i + -(rd b.1 i)) % P.p
  congr 1; omega
def brkP (P : Pri) (i j : Nat) : PP P := ⟨brk P.n i j, brk_row P.ge i j⟩
theorem brkP_is (i j : Nat) : brkP P i j = pw ppT (P.n ^ i) + -pw ppT (P.n ^ j) := by
  rw [← sprP_pw, ← sprP_pw]
  exact pp_eq (sub_pp (sprP ppT i) (sprP ppT j))
theorem brkP_up (i j : Nat) : brkP P (i + 1) (j + 1) = pw (brkP P i j) P.n := by
  have hp1 : P.n ≠ 0 := by have := P.is; omega
  have hneg : ∀ y : PP P, pw (-y) P.n = -pw y P.n := fun y => by
    have h := ppring.frob P.is pp_char y (-y)
    rw [ppring.add_neg, ppring.pw_zero hp1] at h
    exact ppring.neg_of h.symm
  rw [brkP_is, brkP_is, ppring.frob P.is pp_char, hneg, ← ppring.pw_mul, ← ppring.pw_mul, Nat.pow_succ, Nat.pow_succ]
def facPj (P : Pri) (i : Nat) (second : Bool) (j : Nat) : PP P := if second then brkP P (j + 1) 0 else brkP P i j
theorem facPj_l (i : Nat) (second : Bool) (j : Nat) : (facPj P i second j).1 = facL P.n i second j := by
  unfold facPj facL
  cases second <;> rfl
/-- The first j of the i brackets, multiplied. -/
def fpj (P : Pri) (i : Nat) (second : Bool) : Nat → PP P
  | 0 => 1
  | j + 1 => fpj P i second j * facPj P i second j
theorem fpj_l (i : Nat) (second : Bool) : ∀ j, prodF P.p [1] ((List.range j).map (facL P.n i second)) = (fpj P i second j).1
  | 0 => rfl
  | j + 1 => by
    rw [List.range_succ, List.map_append, prodF_app, fpj_l i second j]
    show mul P.p (fpj P i second j).1 (facL P.n i second j) = _
    rw [← facPj_l]; rfl
theorem fpD_up (i : Nat) : ∀ j, fpj P (i + 1) false (j + 1) = brkP P (i + 1) 0 * pw (fpj P i false j) P.n
  | 0 => by
    show (1 : PP P) * brkP P (i + 1) 0 = brkP P (i + 1) 0 * pw 1 P.n
    rw [ppring.one_mul, ppring.pw_one, ppring.mul_one]
  | j + 1 => by
    show fpj P (i + 1) false (j + 1) * brkP P (i + 1) (j + 1) = brkP P (i + 1) 0 * pw (fpj P i false j * brkP P i j) P.n
    rw [fpD_up i j, brkP_up, ppring.mul_pw, ppring.mul_assoc]
theorem fpL_same (i : Nat) : ∀ j, fpj P (i + 1) true j = fpj P i true j
  | 0 => rfl
  | j + 1 => by
    show fpj P (i + 1) true j * brkP P (j + 1) 0 = fpj P i true j * brkP P (j + 1) 0
    rw [fpL_same i j]
def facP (P : Pri) (second : Bool) (i : Nat) : PP P := fpj P i second i
theorem facP_dv1 (second : Bool) (i : Nat) : Dv (facP P second i) (facP P second (i + 1)) := by
  cases second with
  | false =>
    unfold facP
    rw [fpD_up]
    refine ppring.dv_mul ?_ _
    obtain ⟨m, hm⟩ : ∃ m, P.n = m + 1 := ⟨P.n - 1, by have := P.is; omega⟩
    rw [hm, ppring.pw_add]
    refine ppring.dv_mul ?_ _
    have : pw (fpj P i false i) 1 = fpj P i false i := ppring.one_mul _
    rw [this]
    exact ppring.dv_refl _
  | true =>
    show Dv (fpj P i true i) (fpj P (i + 1) true i * brkP P (i + 1) 0)
    rw [fpL_same]
    exact ppring.dv_mul' (ppring.dv_refl _) _
theorem facP_dv (second : Bool) {i k : Nat} (h : i ≤ k) : Dv (facP P second i) (facP P second k) := by
  obtain ⟨m, rfl⟩ : ∃ m, k = i + m := ⟨k - i, by omega⟩
  clear h
  induction m with
  | zero => exact ppring.dv_refl _
  | succ m ih => exact ppring.dv_trans ih (facP_dv1 second (i + m))
theorem facPj_ne {i j : Nat} (second : Bool) (hj : j < i) : facPj P i second j ≠ 0 := fun e => by
  have h := len_zero.2 e
  have hl : (facPj P i second j).len = (facL P.n i second j).length := by show (facPj P i second j).1.length = _; rw [facPj_l]
  rw [hl] at h
  unfold facL at h
  cases second with
  | true => simp only [if_true] at h; rw [brk_len P.ge (by omega)] at h; omega
  | false => simp only [Bool.false_eq_true, if_false] at h; rw [brk_len P.ge hj] at h; omega
theorem fpj_ne (i : Nat) (second : Bool) : ∀ j, j ≤ i → fpj P i second j ≠ 0
  | 0, _ => one_ne
  | j + 1, h => fun e => by
    rcases pp_dom _ _ e with h1 | h1
    · exact fpj_ne i second j (by omega) h1
    · exact facPj_ne second (by omega) h1
theorem facP_ne (second : Bool) (i : Nat) : facP P second i ≠ 0 := fpj_ne i second i (Nat.le_refl _)
end Go.Proofs.Ytkbnegemdlnncaa
/- Monic polynomials. -/
namespace Go.Proofs.Ytkbnegemdlnncaa
open Go.Abs

variable {P : Pri}
def Mo (a : PP P) : Prop := lead a.1 = 1
theorem Mo.ne {a : PP P} (h : Mo a) : a ≠ 0 := fun e => by
  subst e
  have : lead ([] : List Int) = 1 := h
  simp [lead, rd] at this
theorem lead_c (a : PP P) : lead a.1 = a.c (a.len - 1) := rfl
/-- A polynomial made monic. -/
def mon (a : PP P) : PP P := nsm (inv P.p (lead a.1)).toNat a
theorem mon_eq {a : PP P} (ha : a ≠ 0) : ∃ u v : PP P, mon a = u * a ∧ a = v * mon a ∧ (mon a).len = a.len ∧ Mo (mon a) := by
  have hl := lead_pos P.pos a.2 (ne_len ha)
  have hi := inv_is P.okp hl
  obtain ⟨k, hk⟩ : ∃ k : Nat, inv P.p (lead a.1) = k := ⟨(inv P.p (lead a.1)).toNat, by omega⟩
  have e1 : mon a = nsm k a := by unfold mon; rw [hk, Int.toNat_natCast]
  have e2 : mon a = nsm k 1 * a := by rw [e1, ppring.mul_comm, ppring.mul_nsm, ppring.mul_one]
  have hc : (mon a).c (a.len - 1) = 1 := by
    rw [e1, nsm_c, ← lead_c, ← hk, Int.mul_comm, hi.2.2]
  have hle : (mon a).len ≤ a.len := by rw [e1]; exact len_nsm k a
  have hpos := len_pos ha
  have hge : a.len - 1 < (mon a).len := by
    rcases Nat.lt_or_ge (a.len - 1) (mon a).len with h | h
    · exact h
    · have h0 : (mon a).c (a.len - 1) = 0 := rd_ge h
      rw [h0] at hc; omega
  have hlen : (mon a).len = a.len := by omega
  have hmo : Mo (mon a) := by
    unfold Mo
    rw [lead_c, hlen, hc]
  obtain ⟨l, hll⟩ : ∃ l : Nat, lead a.1 = l := ⟨(lead a.1).toNat, by omega⟩
  refine ⟨nsm k 1, nsm l 1, e2, ?_, hlen, hmo⟩
  have e3 : nsm l 1 * mon a = nsm l (mon a) := by rw [ppring.mul_comm, ppring.mul_nsm, ppring.mul_one]
  rw [e3, e1]
  refine pp_ext fun i => ?_
  have hki : (l : Int) * k % P.p = 1 := by rw [← hll, ← hk]; exact hi.2.2
  rw [nsm_c, nsm_c, Int.mul_emod, Int.emod_emod, ← Int.mul_emod, ← Int.mul_assoc, Int.mul_emod, hki, Int.one_mul, Int.emod_emod, a.c_mod]
theorem mon_len {a : PP P} (ha : a ≠ 0) : (mon a).len = a.len := by obtain ⟨u, v, _, _, h, _⟩ := mon_eq ha; exact h
theorem mon_mo {a : PP P} (ha : a ≠ 0) : Mo (mon a) := by obtain ⟨u, v, _, _, _, h⟩ := mon_eq ha; exact h
theorem mon_dv {a : PP P} (ha : a ≠ 0) : Dv a (mon a) ∧ Dv (mon a) a := by obtain ⟨u, v, h1, h2, _, _⟩ := mon_eq ha; exact ⟨⟨u, h1⟩, ⟨v, h2⟩⟩
/-- Monic polynomials that divide each other are the same. -/
theorem mo_eq {a b : PP P} (ha : Mo a) (hb : Mo b) (h1 : Dv a b) (hl : a.len = b.len) : a = b := by
  obtain ⟨q, e⟩ := h1
  have hq : q ≠ 0 := fun h => hb.ne (by rw [e, h, ppring.zero_mul])
  have h2 := len_mul hq ha.ne
  rw [← e] at h2
  have h3 := len_pos hq
  have h4 := len_pos ha.ne
  have hq1 : q.len = 1 := by omega
  have e2 : b.c (b.len - 1) = q.c 0 * a.c (a.len - 1) % P.p := by
    rw [e, mul_c]
    have e3 : (q * a).len - 1 = 0 + (a.len - 1) := by rw [← e]; omega
    rw [e3, conv_lead (a := q.c) (b := a.c) (n := 0) (m := a.len - 1)]
    · intro i hi; exact rd_ge (by have : q.1.length = 1 := hq1; omega)
    · intro i hi; exact rd_ge (by show a.len ≤ i; omega)
  rw [← lead_c, ← lead_c, show lead a.1 = 1 from ha, show lead b.1 = 1 from hb, Int.mul_one, q.c_mod] at e2
  have e4 : q = 1 := pp_ext fun i => by
    rw [one_c]
    by_cases hi : i = 0
    · subst hi; rw [if_pos rfl, ← e2]
    · rw [if_neg hi]; exact rd_ge (by have : q.1.length = 1 := hq1; omega)
  rw [e, e4, ppring.one_mul]
end Go.Proofs.Ytkbnegemdlnncaa
/- The extended algorithm of Euclid. -/
namespace Go.Proofs.Ytkbnegemdlnncaa
open Go.Abs

/-- One step for a cofactor. -/
def cx (p : Int) (q s0 s1 : List Int) : List Int := comb p s0 (mul p q s1) (-1)
def ez (p : Int) : Nat → List Int → List Int → List Int → List Int → List Int → List Int → List Int × List Int × List Int
  | 0, a, _, s0, _, t0, _ => (a, s0, t0)
  | n + 1, a, b, s0, s1, t0, t1 => if b.length = 0 then (a, s0, t0) else ez p n b (rem p a b) s1 (cx p (quo p a b) s0 s1) t1 (cx p (quo p a b) t0 t1)
theorem cx_row {p : Int} (hp : 0 < p) (q s0 s1 : List Int) : Row p (cx p q s0 s1) := comb_row hp _ _ _
theorem cx_len {p : Int} {a b s0 s1 : List Int} {M : Nat} (h0 : b.length ≠ 0) (h1 : s1.length + a.length ≤ M) (h2 : s0.length + b.length ≤ M) (hab : s1.length + b.length ≤ M + 1) : (cx p (quo p a b) s0 s1).length + b.length ≤ M + 1 := by
  have c := comb_len p s0 (mul p (quo p a b) s1) (-1)
  have m := mul_len p (quo p a b) s1
  have q := quo_len p a b
  unfold cx
  rcases Nat.eq_zero_or_pos (quo p a b).length with h | h
  · have e : quo p a b = [] := List.eq_nil_of_length_eq_zero h
    rw [e, mul_nil] at c ⊢
    simp only [List.length_nil] at c
    omega
  · omega
/-- What the cofactors keep to: M is one more than the greater of the two lengths. -/
structure EzOk (p : Int) (M : Nat) (a b s0 s1 : List Int) : Prop where
  r0 : Row p s0
  r1 : Row p s1
  h1 : s1.length + a.length ≤ M
  h2 : s0.length + b.length ≤ M
theorem EzOk.next {p : Int} (hp : isP p = true) {M : Nat} {a b s0 s1 : List Int} (h : EzOk p M a b s0 s1) (ha : Row p a) (hb : Row p b) (h0 : b.length ≠ 0) :
    EzOk p M b (rem p a b) s1 (cx p (quo p a b) s0 s1) := by
  have hp2 := isP_pos hp
  have c := comb_len p s0 (mul p (quo p a b) s1) (-1)
  have m := mul_len p (quo p a b) s1
  have q := quo_len p a b
  have r := rem_len' p a b
  have r' := rem_len hp ha hb h0
  have h1 := h.h1
  have h2 := h.h2
  refine ⟨h.r1, cx_row (by omega) _ _ _, ?_, by omega⟩
  unfold cx
  rcases Nat.eq_zero_or_pos (quo p a b).length with h3 | h3
  · have e : quo p a b = [] := List.eq_nil_of_length_eq_zero h3
    rw [e, mul_nil] at c ⊢
    simp only [List.length_nil] at c
    omega
  · omega
theorem EzOk.prod {p : Int} {M : Nat} {a b s0 s1 : List Int} (hM : M ≤ 65) (h : EzOk p M a b s0 s1) (h0 : b.length ≠ 0) : (quo p a b).length = 0 ∨ s1.length = 0 ∨ (quo p a b).length + s1.length ≤ 65 := by
  have q := quo_len p a b
  have h1 := h.h1
  omega
theorem EzOk.plen {p : Int} {M : Nat} {a b s0 s1 : List Int} (hM : M ≤ 65) (h : EzOk p M a b s0 s1) (h0 : b.length ≠ 0) : (mul p (quo p a b) s1).length ≤ 64 := by
  have q := quo_len p a b
  have h1 := h.h1
  have m := mul_len p (quo p a b) s1
  omega
theorem ezI_loop {p : Int} (hp : isP p = true) {M : Nat} (hM : M ≤ 65) : ∀ (n : Nat) (a b s0 s1 t0 t1 : List Int), Row p a → Row p b → a.length ≤ 64 → b.length ≤ n → b.length ≤ 64 → EzOk p M a b s0 s1 → EzOk p M a b t0 t1 →
    loopM (fun s : List Int × List Int × List Int × List Int × List Int × List Int => impl_prime_bezout_l1 p s.1 s.2.1 s.2.2.1 s.2.2.2.1 s.2.2.2.2.1 s.2.2.2.2.2) (a, b, s0, t0, s1, t1) = some (ez p n a b s0 s1 t0 t1) := by
  have hp2 := isP_pos hp
  have hq : 0 < p ∧ p ≤ 256 := by omega
  intro n
  induction n with
  | zero =>
    intro a b s0 s1 t0 t1 ha hb la lb lb2 hs ht
    have step : impl_prime_bezout_l1 p a b s0 t0 s1 t1 = some (.inr (a, s0, t0)) := by
      simp only [impl_prime_bezout_l1]
      rw [if_neg (by rw [decide_eq_true_eq]; omega)]
    rw [loopM_eq]
    simp only [step, Option.bind_some, ez]
  | succ n ih =>
    intro a b s0 s1 t0 t1 ha hb la lb lb2 hs ht
    by_cases h0 : b.length = 0
    · have step : impl_prime_bezout_l1 p a b s0 t0 s1 t1 = some (.inr (a, s0, t0)) := by
        simp only [impl_prime_bezout_l1]
        rw [if_neg (by rw [decide_eq_true_eq]; omega)]
      rw [loopM_eq]
      simp only [step, Option.bind_some, ez, if_pos h0]
    · have hqr := quo_row (show 0 < p by omega) a b
      have hrr := rem_row (show 0 < p by omega) ha b
      have hql := quo_len p a b
      have hrl := rem_len hp ha hb h0
      have p1 := hs.plen hM h0
      have p2 := ht.plen hM h0
      have q1 := hs.h1
      have q2 := hs.h2
      have q3 := ht.h1
      have q4 := ht.h2
      have step : impl_prime_bezout_l1 p a b s0 t0 s1 t1 = some (.inl (b, rem p a b, s1, t1, cx p (quo p a b) s0 s1, cx p (quo p a b) t0 t1)) := by
        simp only [impl_prime_bezout_l1]
        rw [if_pos (decide_eq_true (by omega)), divideI_is hp ha hb h0 (by omega) (by omega)]
        simp only [Option.bind_some]
        rw [times_is (by omega) (hqr.ent hq) (hs.r1.ent hq) (by omega) (by omega)]
        simp only [Option.bind_some]
        rw [combine_is hq (hs.r0.ent hq) ((mul_row hq.1 _ _).ent hq) (by omega) (by omega) (by omega)]
        simp only [Option.bind_some]
        rw [times_is (by omega) (hqr.ent hq) (ht.r1.ent hq) (by omega) (by omega)]
        simp only [Option.bind_some]
        rw [combine_is hq (ht.r0.ent hq) ((mul_row hq.1 _ _).ent hq) (by omega) (by omega) (by omega)]
        rfl
      rw [loopM_eq]
      simp only [step, Option.bind_some]
      rw [ih b (rem p a b) _ _ _ _ hb hrr lb2 (by omega) (by omega) (hs.next hp ha hb h0) (ht.next hp ha hb h0)]
      simp only [ez, if_neg h0]
theorem ezS_loop {p : Int} (hp : isP p = true) {M : Nat} (hM : M ≤ 65) : ∀ (n : Nat) (a b s0 s1 t0 t1 : List Int), Row p a → Row p b → a.length ≤ 64 → b.length ≤ n → b.length ≤ 64 → s0.length ≤ 64 → s1.length ≤ 64 → t0.length ≤ 64 → t1.length ≤ 64 → EzOk p M a b s0 s1 → EzOk p M a b t0 t1 →
    loopM (fun s : V64 × V64 × V64 × V64 × V64 × V64 => spec_l01Bezout_l1 p s.1 s.2.1 s.2.2.1 s.2.2.2.1 s.2.2.2.2.1 s.2.2.2.2.2) (pad a, pad b, pad s0, pad s1, pad t0, pad t1) = some (pad (ez p n a b s0 s1 t0 t1).1, pad (ez p n a b s0 s1 t0 t1).2.1, pad (ez p n a b s0 s1 t0 t1).2.2) := by
  have hp2 := isP_pos hp
  have hq : 0 < p ∧ p ≤ 256 := by omega
  have ld : ∀ {v : List Int}, Row p v → v.length ≤ 64 → spec_l01Deg (pad v) = some ((v.length : Int) - 1) := fun hv lv => by rw [deg_is, rd_pad_fun lv, hv.top lv]
  intro n
  induction n with
  | zero =>
    intro a b s0 s1 t0 t1 ha hb la lb lb2 l0 l1 m0 m1 hs ht
    have step : spec_l01Bezout_l1 p (pad a) (pad b) (pad s0) (pad s1) (pad t0) (pad t1) = some (.inr (pad a, pad s0, pad t0)) := by
      simp only [spec_l01Bezout_l1, ld hb lb2, Option.bind_some]
      rw [if_neg (by rw [decide_eq_true_eq]; omega)]
    rw [loopM_eq]
    simp only [step, Option.bind_some, ez]
  | succ n ih =>
    intro a b s0 s1 t0 t1 ha hb la lb lb2 l0 l1 m0 m1 hs ht
    by_cases h0 : b.length = 0
    · have step : spec_l01Bezout_l1 p (pad a) (pad b) (pad s0) (pad s1) (pad t0) (pad t1) = some (.inr (pad a, pad s0, pad t0)) := by
        simp only [spec_l01Bezout_l1, ld hb lb2, Option.bind_some]
        rw [if_neg (by rw [decide_eq_true_eq]; omega)]
      rw [loopM_eq]
      simp only [step, Option.bind_some, ez, if_pos h0]
    · have hqr := quo_row (show 0 < p by omega) a b
      have hrr := rem_row (show 0 < p by omega) ha b
      have hql := quo_len p a b
      have hrl := rem_len hp ha hb h0
      have p1 := hs.plen hM h0
      have p2 := ht.plen hM h0
      have c1 := comb_len p s0 (mul p (quo p a b) s1) (-1)
      have c2 := comb_len p t0 (mul p (quo p a b) t1) (-1)
      have step : spec_l01Bezout_l1 p (pad a) (pad b) (pad s0) (pad s1) (pad t0) (pad t1) = some (.inl (pad b, pad (rem p a b), pad s1, pad (cx p (quo p a b) s0 s1), pad t1, pad (cx p (quo p a b) t0 t1))) := by
        simp only [spec_l01Bezout_l1, ld hb lb2, Option.bind_some]
        rw [if_pos (decide_eq_true (by omega)), divideS_is hp ha hb h0 la lb2]
        simp only [Option.bind_some]
        rw [times_pad (by omega) hqr hs.r1 (by omega) l1 (hs.prod hM h0)]
        simp only [Option.bind_some]
        rw [times_pad (by omega) hqr ht.r1 (by omega) m1 (ht.prod hM h0)]
        simp only [Option.bind_some]
        rw [add_pad hq hs.r0 (mul_row hq.1 _ _) l0 p1 (by omega)]
        simp only [Option.bind_some]
        rw [add_pad hq ht.r0 (mul_row hq.1 _ _) m0 p2 (by omega)]
        rfl
      rw [loopM_eq]
      simp only [step, Option.bind_some]
      rw [ih b (rem p a b) _ _ _ _ hb hrr lb2 (by omega) (by omega) l1 (by unfold cx; omega) m1 (by unfold cx; omega) (hs.next hp ha hb h0) (ht.next hp ha hb h0)]
      simp only [ez, if_neg h0]
theorem ez_row {p : Int} (hp : isP p = true) {M : Nat} (hM : M ≤ 65) : ∀ (n : Nat) (a b s0 s1 t0 t1 : List Int), Row p a → Row p b → a.length ≤ 64 → b.length ≤ 64 → b.length ≤ n → (a.length ≠ 0 ∨ b.length ≠ 0) → s0.length ≤ 64 → s1.length ≤ 64 → t0.length ≤ 64 → t1.length ≤ 64 → EzOk p M a b s0 s1 → EzOk p M a b t0 t1 →
    (Row p (ez p n a b s0 s1 t0 t1).1 ∧ (ez p n a b s0 s1 t0 t1).1.length ≤ 64 ∧ (ez p n a b s0 s1 t0 t1).1.length ≠ 0) ∧ (Row p (ez p n a b s0 s1 t0 t1).2.1 ∧ (ez p n a b s0 s1 t0 t1).2.1.length ≤ 64) ∧ (Row p (ez p n a b s0 s1 t0 t1).2.2 ∧ (ez p n a b s0 s1 t0 t1).2.2.length ≤ 64)
  | 0, a, b, s0, s1, t0, t1, ha, hb, la, lb, ln, hab, l0, l1, m0, m1, hs, ht => ⟨⟨ha, la, by simp only [ez]; omega⟩, ⟨hs.r0, l0⟩, ⟨ht.r0, m0⟩⟩
  | n + 1, a, b, s0, s1, t0, t1, ha, hb, la, lb, ln, hab, l0, l1, m0, m1, hs, ht => by
    simp only [ez]
    by_cases h0 : b.length = 0
    · simp only [if_pos h0]
      exact ⟨⟨ha, la, by omega⟩, ⟨hs.r0, l0⟩, ⟨ht.r0, m0⟩⟩
    · simp only [if_neg h0]
      have hp2 := isP_pos hp
      have hrl := rem_len hp ha hb h0
      have p1 := hs.plen hM h0
      have p2 := ht.plen hM h0
      have c1 := comb_len p s0 (mul p (quo p a b) s1) (-1)
      have c2 := comb_len p t0 (mul p (quo p a b) t1) (-1)
      exact ez_row hp hM n b (rem p a b) _ _ _ _ hb (rem_row (by omega) ha b) lb (by omega) (by omega) (.inl h0) l1 (by unfold cx; omega) m1 (by unfold cx; omega) (hs.next hp ha hb h0) (ht.next hp ha hb h0)

/-- The greatest common divisor, monic, with its cofactors. -/
def eg (p : Int) (a b : List Int) : List Int × List Int × List Int := ez p 64 a b [1] [] [] [1]
def sc (p : Int) (k : Int) (l : List Int) : List Int := comb p [] l k
def bz (p : Int) (a b : List Int) : List Int × List Int × List Int := (sc p (inv p (lead (eg p a b).1)) (eg p a b).1, sc p (inv p (lead (eg p a b).1)) (eg p a b).2.1, sc p (inv p (lead (eg p a b).1)) (eg p a b).2.2)
theorem ezok_start {p : Int} (hp : 2 ≤ p) {a b : List Int} (la : a.length ≤ 64) (lb : b.length ≤ 64) : EzOk p (max a.length b.length + 1) a b [1] [] ∧ EzOk p (max a.length b.length + 1) a b [] [1] :=
  ⟨⟨row_one hp, row_nil p, by simp only [List.length_nil]; omega, by simp only [List.length_cons, List.length_nil]; omega⟩, ⟨row_nil p, row_one hp, by simp only [List.length_cons, List.length_nil]; omega, by simp only [List.length_nil]; omega⟩⟩
theorem eg_row {p : Int} (hp : isP p = true) {a b : List Int} (ha : Row p a) (hb : Row p b) (la : a.length ≤ 64) (lb : b.length ≤ 64) (hab : a.length ≠ 0 ∨ b.length ≠ 0) :
    (Row p (eg p a b).1 ∧ (eg p a b).1.length ≤ 64 ∧ (eg p a b).1.length ≠ 0) ∧ (Row p (eg p a b).2.1 ∧ (eg p a b).2.1.length ≤ 64) ∧ (Row p (eg p a b).2.2 ∧ (eg p a b).2.2.length ≤ 64) := by
  have hp2 := isP_pos hp
  obtain ⟨e1, e2⟩ := ezok_start (p := p) (by omega) la lb
  exact ez_row hp (by omega) 64 a b [1] [] [] [1] ha hb la lb lb hab (by simp) (by simp) (by simp) (by simp) e1 e2
theorem sc_len {p k : Int} {l : List Int} : (sc p k l).length ≤ l.length := by
  have := comb_len p [] l k
  simpa [sc] using this
theorem bezoutI_is {p : Int} (hp : isP p = true) {a b : List Int} (ha : Row p a) (hb : Row p b) (la : a.length ≤ 64) (lb : b.length ≤ 64) (hab : a.length ≠ 0 ∨ b.length ≠ 0) : impl_prime_bezout p a b = some (bz p a b) := by
  have hp2 := isP_pos hp
  have hq : 0 < p ∧ p ≤ 256 := by omega
  obtain ⟨e1, e2⟩ := ezok_start (p := p) (by omega) la lb
  have h := ezI_loop hp (by omega) 64 a b [1] [] [] [1] ha hb la lb lb e1 e2
  obtain ⟨⟨g1, g2, g3⟩, ⟨g4, g5⟩, g6, g7⟩ := eg_row hp ha hb la lb hab
  have h' : loopM (fun s : List Int × List Int × List Int × List Int × List Int × List Int => impl_prime_bezout_l1 p s.1 s.2.1 s.2.2.1 s.2.2.2.1 s.2.2.2.2.1 s.2.2.2.2.2) (a, b, [1], [], [], [1]) = some ((eg p a b).1, (eg p a b).2.1, (eg p a b).2.2) := h
  have hl := lead_pos (show 0 < p by omega) g1 g3
  have hi := inv_is hp hl
  simp only [impl_prime_bezout, impl_prime_scale, h', Option.bind_some, lead_is g3 (by omega), inverse_impl hp hl]
  rw [combine_is hq ((row_nil p).ent hq) (g1.ent hq) (by simp) (by omega) (by omega)]
  simp only [Option.bind_some]
  rw [combine_is hq ((row_nil p).ent hq) (g4.ent hq) (by simp) (by omega) (by omega)]
  simp only [Option.bind_some]
  rw [combine_is hq ((row_nil p).ent hq) (g6.ent hq) (by simp) (by omega) (by omega)]
  rfl
theorem bezoutS_is {p : Int} (hp : isP p = true) {a b : List Int} (ha : Row p a) (hb : Row p b) (la : a.length ≤ 64) (lb : b.length ≤ 64) (hab : a.length ≠ 0 ∨ b.length ≠ 0) : spec_l01Bezout p (pad a) (pad b) = some (pad (bz p a b).1, pad (bz p a b).2.1, pad (bz p a b).2.2) := by
  have hp2 := isP_pos hp
  have hq : 0 < p ∧ p ≤ 256 := by omega
  obtain ⟨e1, e2⟩ := ezok_start (p := p) (by omega) la lb
  have h := ezS_loop hp (by omega) 64 a b [1] [] [] [1] ha hb la lb lb (by simp) (by simp) (by simp) (by simp) e1 e2
  obtain ⟨⟨g1, g2, g3⟩, ⟨g4, g5⟩, g6, g7⟩ := eg_row hp ha hb la lb hab
  rw [pad_nil] at h
  have h' : loopM (fun s : V64 × V64 × V64 × V64 × V64 × V64 => spec_l01Bezout_l1 p s.1 s.2.1 s.2.2.1 s.2.2.2.1 s.2.2.2.2.1 s.2.2.2.2.2) (pad a, pad b, pad [1], vrep 64 0, vrep 64 0, pad [1]) = some (pad (eg p a b).1, pad (eg p a b).2.1, pad (eg p a b).2.2) := h
  have hl := lead_pos (show 0 < p by omega) g1 g3
  have hi := inv_is hp hl
  have hd : spec_l01Deg (pad (eg p a b).1) = some (((eg p a b).1.length - 1 : Nat) : Int) := by
    rw [deg_is, rd_pad_fun g2, g1.top g2]; congr 1; omega
  simp only [spec_l01Bezout, one_is, h', Option.bind_some, hd]
  rw [ifp_pos (by omega), Int.toNat_natCast, rd_padl _ (show (eg p a b).1.length - 1 < 64 by omega), show rd (eg p a b).1 ((eg p a b).1.length - 1) = lead (eg p a b).1 from rfl, inverse_spec hp hl]
  simp only [Option.bind_some]
  rw [wrap64 (by omega) (by omega), ← pad_nil, add_pad hq (row_nil p) g1 (by simp) g2 (by omega)]
  simp only [Option.bind_some]
  rw [add_pad hq (row_nil p) g4 (by simp) g5 (by omega)]
  simp only [Option.bind_some]
  rw [add_pad hq (row_nil p) g6 (by simp) g7 (by omega)]
  rfl
/-- It is monic. -/
theorem bz_monic {p : Int} (hp : isP p = true) {a b : List Int} (ha : Row p a) (hb : Row p b) (la : a.length ≤ 64) (lb : b.length ≤ 64) (hab : a.length ≠ 0 ∨ b.length ≠ 0) : Row p (bz p a b).1 ∧ (bz p a b).1.length ≠ 0 ∧ (bz p a b).1.length ≤ 64 ∧ lead (bz p a b).1 = 1 := by
  have hp2 := isP_pos hp
  obtain ⟨⟨g1, g2, g3⟩, _, _⟩ := eg_row hp ha hb la lb hab
  have hl := lead_pos (show 0 < p by omega) g1 g3
  have hi := inv_is hp hl
  have hr : Row p (bz p a b).1 := comb_row (by omega) _ _ _
  have key : ∀ i, rd (bz p a b).1 i = inv p (lead (eg p a b).1) * rd (eg p a b).1 i % p := fun i => by
    show rd (comb p [] (eg p a b).1 _) i = _
    rw [comb_rd, rd_ge (l := []) (by simp), Int.zero_add]
  have h1 : rd (bz p a b).1 ((eg p a b).1.length - 1) = 1 := by
    rw [key, Int.mul_comm]; exact hi.2.2
  have h2 : (bz p a b).1.length ≤ (eg p a b).1.length := sc_len
  have h3 : (eg p a b).1.length - 1 < (bz p a b).1.length := by
    rcases Nat.lt_or_ge ((eg p a b).1.length - 1) (bz p a b).1.length with h | h
    · exact h
    · rw [rd_ge h] at h1; omega
  have h4 : (bz p a b).1.length = (eg p a b).1.length := by omega
  refine ⟨hr, by omega, by omega, ?_⟩
  unfold lead
  rw [h4, h1]
end Go.Proofs.Ytkbnegemdlnncaa
/- Greatest common divisors, and monic polynomials. -/
namespace Go.Proofs.Ytkbnegemdlnncaa
open Go.Abs

variable {P : Pri}
theorem irr_mon {g : PP P} (h : Irr g) : Irr (mon g) := by
  obtain ⟨u, v, e1, e2, hl, _⟩ := mon_eq h.ne
  refine ⟨by rw [hl]; exact h.1, fun a b e => ?_⟩
  have : g = v * a * b := by rw [e2, e, ppring.mul_assoc]
  have hv : v.len = 1 := by
    have hv0 : v ≠ 0 := fun h0 => h.ne (by rw [e2, h0, ppring.zero_mul])
    have := len_mul hv0 (show mon g ≠ 0 from fun h0 => h.ne (by rw [e2, h0, ppring.mul_zero]))
    rw [← e2, hl] at this
    have := h.1
    have := len_pos hv0
    omega
  rcases h.2 (v * a) b this with h1 | h1
  · left
    have ha0 : a ≠ 0 := fun h0 => by rw [h0, ppring.mul_zero] at h1; rw [len_zero.2 rfl] at h1; omega
    have hv0 : v ≠ 0 := fun h0 => by rw [len_zero.2 h0] at hv; omega
    have := len_mul hv0 ha0
    omega
  · exact .inr h1

/-! The greatest common divisor. -/
theorem ez_gcd : ∀ (n : Nat) (a b : PP P) (s0 s1 t0 t1 : List Int), b.len ≤ n → ∃ g : PP P, (ez P.p n a.1 b.1 s0 s1 t0 t1).1 = g.1 ∧ ∀ d, Dv d g ↔ Dv d a ∧ Dv d b
  | 0, a, b, s0, s1, t0, t1, h => by
    have hb : b = 0 := len_zero.1 (by omega)
    refine ⟨a, by simp only [ez], fun d => ?_⟩
    rw [hb]
    exact ⟨fun h => ⟨h, ppring.dv_zero d⟩, fun h => h.1⟩
  | n + 1, a, b, s0, s1, t0, t1, h => by
    simp only [ez]
    by_cases h0 : b.1.length = 0
    · rw [if_pos h0]
      have hb : b = 0 := len_zero.1 h0
      refine ⟨a, rfl, fun d => ?_⟩
      rw [hb]
      exact ⟨fun h => ⟨h, ppring.dv_zero d⟩, fun h => h.1⟩
    · rw [if_neg h0]
      have hb : b ≠ 0 := fun e => h0 (len_zero.2 e)
      obtain ⟨h1, h2⟩ := pdiv a hb
      obtain ⟨g, e, hg⟩ := ez_gcd n b (prem a b) s1 (cx P.p (quo P.p a.1 b.1) s0 s1) t1 (cx P.p (quo P.p a.1 b.1) t0 t1) (by omega)
      refine ⟨g, e, fun d => ?_⟩
      rw [hg]
      constructor
      · rintro ⟨d1, d2⟩
        refine ⟨?_, d1⟩
        rw [h1]
        exact ppring.dv_add (ppring.dv_mul d1 _) d2
      · rintro ⟨d1, d2⟩
        refine ⟨d2, ?_⟩
        rw [h1] at d1
        exact ppring.dv_sub d1 (ppring.dv_mul d2 _)
theorem sc_nsm (a : PP P) (k : Nat) : sc P.p k a.1 = (nsm k a).1 := by
  have h := comb_nsm 0 a k
  rw [ppring.zero_add] at h
  exact h
/-- What the program and the reference compute. -/
theorem gcd_is {a b : PP P} (la : a.len ≤ 64) (lb : b.len ≤ 64) (hab : a ≠ 0 ∨ b ≠ 0) : ∃ g : PP P, (bz P.p a.1 b.1).1 = g.1 ∧ g.len ≤ 64 ∧ Mo g ∧ ∀ d, Dv d g ↔ Dv d a ∧ Dv d b := by
  obtain ⟨g, e, hg⟩ := ez_gcd 64 a b [1] [] [] [1] lb
  have hab' : a.1.length ≠ 0 ∨ b.1.length ≠ 0 := hab.imp ne_len ne_len
  obtain ⟨⟨g1, g2, g3⟩, _, _⟩ := eg_row P.okp a.2 b.2 la lb hab'
  have e' : (eg P.p a.1 b.1).1 = g.1 := e
  rw [e'] at g1 g2 g3
  have hg0 : g ≠ 0 := fun h => g3 (len_zero.2 h)
  have hl := lead_pos P.pos g.2 g3
  have hi := inv_is P.okp hl
  obtain ⟨k, hk⟩ : ∃ k : Nat, inv P.p (lead g.1) = k := ⟨(inv P.p (lead g.1)).toNat, by omega⟩
  have e2 : (bz P.p a.1 b.1).1 = (mon g).1 := by
    show sc P.p (inv P.p (lead (eg P.p a.1 b.1).1)) (eg P.p a.1 b.1).1 = _
    rw [e', hk, sc_nsm]
    unfold mon
    rw [hk, Int.toNat_natCast]
  refine ⟨mon g, e2, by rw [mon_len hg0]; exact g2, mon_mo hg0, fun d => ?_⟩
  obtain ⟨m1, m2⟩ := mon_dv hg0
  rw [← hg]
  exact ⟨fun h => ppring.dv_trans h m2, fun h => ppring.dv_trans h m1⟩
theorem gcdI {a b : PP P} (la : a.len ≤ 64) (lb : b.len ≤ 64) (hab : a ≠ 0 ∨ b ≠ 0) : ∃ g : PP P, impl_prime_gcd P.p a.1 b.1 = some g.1 ∧ g.len ≤ 64 ∧ Mo g ∧ ∀ d, Dv d g ↔ Dv d a ∧ Dv d b := by
  obtain ⟨g, e, h1, h2, h3⟩ := gcd_is la lb hab
  refine ⟨g, ?_, h1, h2, h3⟩
  simp only [impl_prime_gcd, bezoutI_is P.okp a.2 b.2 la lb (hab.imp ne_len ne_len), Option.bind_some, e]
theorem gcdS {a b : PP P} (la : a.len ≤ 64) (lb : b.len ≤ 64) (hab : a ≠ 0 ∨ b ≠ 0) : ∃ g : PP P, spec_l01Gcd P.p (pad a.1) (pad b.1) = some (pad g.1) ∧ g.len ≤ 64 ∧ Mo g ∧ ∀ d, Dv d g ↔ Dv d a ∧ Dv d b := by
  obtain ⟨g, e, h1, h2, h3⟩ := gcd_is la lb hab
  refine ⟨g, ?_, h1, h2, h3⟩
  simp only [spec_l01Gcd, degS a la, degS b lb, Option.bind_some, bezoutS_is P.okp a.2 b.2 la lb (hab.imp ne_len ne_len), e]
  by_cases ha : a.len = 0
  · have hb : b.len ≠ 0 := by
      rcases hab with h | h
      · exact absurd (len_zero.1 ha) h
      · exact fun h0 => h (len_zero.1 h0)
    rw [if_pos (decide_eq_true (by omega)), decide_eq_false (by omega)]
    rfl
  · rw [if_neg (by rw [decide_eq_true_eq]; omega)]
    rfl
end Go.Proofs.Ytkbnegemdlnncaa
/- A polynomial made monic, on both sides. -/
namespace Go.Proofs.Ytkbnegemdlnncaa
open Go.Abs

variable {P : Pri}
theorem degI (a : PP P) (la : a.len ≤ 1000000) : impl_row_degree a.1 = some ((a.len : Int) - 1) := by
  have : a.1.length = a.len := rfl
  simp only [impl_row_degree]
  rw [wrap64 (by omega) (by omega)]; rfl
theorem leadI {a : PP P} (ha : a ≠ 0) (la : a.len ≤ 1000000) : impl_row_lead a.1 = some (lead a.1) := lead_is (ne_len ha) la
theorem scaleI {a : PP P} (la : a.len ≤ 1000000) (k : Nat) (hk : k ≤ 1099511627776) : impl_prime_scale P.p a.1 k = some (nsm k a).1 := by
  have h := combine_is P.sm ((row_nil P.p).ent P.sm) a.ent (by simp) la (k := k) (by omega)
  simp only [impl_prime_scale, h, Option.bind_some]
  have h2 := comb_nsm 0 a k
  rw [ppring.zero_add] at h2
  exact congrArg some h2
/-- A polynomial made monic, in the program. -/
theorem monI {a : PP P} (ha : a ≠ 0) (la : a.len ≤ 1000000) : (Option.bind (impl_row_lead a.1) fun r56 => (Option.bind (impl_prime_inverse P.p r56) fun r58 => impl_prime_scale P.p a.1 r58)) = some (mon a).1 := by
  have hl := lead_pos P.pos a.2 (ne_len ha)
  have hi := inv_is P.okp hl
  have hp := P.two
  obtain ⟨k, hk⟩ : ∃ k : Nat, inv P.p (lead a.1) = k := ⟨(inv P.p (lead a.1)).toNat, by omega⟩
  simp only [leadI ha la, inverse_impl P.okp hl, Option.bind_some]
  rw [hk, scaleI la k (by omega)]
  unfold mon
  rw [hk, Int.toNat_natCast]
theorem monS {a : PP P} (ha : a ≠ 0) (la : a.len ≤ 64) : (Option.bind (spec_l01Inverse P.p (rd (pad a.1).1 (a.len - 1))) fun r => spec_l01Add P.p (vrep 64 0) (pad a.1) (IntKind.i64.wrap r)) = some (pad (mon a).1) := by
  have hl := lead_pos P.pos a.2 (ne_len ha)
  have hi := inv_is P.okp hl
  have hp := P.two
  have hap := len_pos ha
  obtain ⟨k, hk⟩ : ∃ k : Nat, inv P.p (lead a.1) = k := ⟨(inv P.p (lead a.1)).toNat, by omega⟩
  have e1 : rd (pad a.1).1 (a.len - 1) = lead a.1 := rd_padl _ (by omega)
  rw [e1, inverse_spec P.okp hl]
  simp only [Option.bind_some]
  rw [wrap64 (by omega) (by omega), hk]
  have h := addS (P := P) (a := 0) (b := a) (by rw [len_zero.2 rfl]; omega) la (k := k) (by omega)
  have e2 : pad (0 : PP P).1 = vrep 64 0 := pad_nil
  rw [e2, ppring.zero_add] at h
  rw [h]
  unfold mon
  rw [hk, Int.toNat_natCast]
end Go.Proofs.Ytkbnegemdlnncaa
/- Sums that are cut off: the parts that both kinds share. -/
namespace Go.Proofs.Ytkbnegemdlnncaa
open Go.Abs
variable {P : Pri}
theorem pow_pw (a : PP P) : ∀ k, pow P.p a.1 k = (pw a k).1
  | 0 => rfl
  | k + 1 => by
    show mul P.p (pow P.p a.1 k) a.1 = _
    rw [pow_pw a k]; rfl
theorem pw_ne {a : PP P} (ha : a ≠ 0) : ∀ k, pw a k ≠ 0
  | 0 => one_ne
  | k + 1 => fun e => by rcases pp_dom _ _ e with h | h; exact pw_ne ha k h; exact ha h
theorem pw_len {a : PP P} (ha : a ≠ 0) : ∀ k, (pw a k).len = (a.len - 1) * k + 1
  | 0 => by show (1 : PP P).len = _; rw [len_one, Nat.mul_zero]
  | k + 1 => by
    have h1 := pw_len ha k
    have h2 : (pw a (k + 1)).len = _ := len_mul (pw_ne ha k) ha
    have h3 := len_pos ha
    rw [h2, h1, Nat.mul_succ]; omega
theorem sprP_len {a : PP P} (ha : a ≠ 0) (i : Nat) : (sprP a i).len = (a.len - 1) * P.n ^ i + 1 := by rw [sprP_pw, pw_len ha]
theorem sprP_zero (i : Nat) : sprP (0 : PP P) i = 0 := pp_eq (spr_nil _)
theorem small3 {i : Nat} (hi : i ≤ 3) : P.n ^ i ≤ 343 := by
  have h1 : P.n ^ i ≤ 7 ^ i := Nat.pow_le_pow_left (by have := P.is; omega) _
  have h2 : 7 ^ i ≤ 7 ^ 3 := Nat.pow_le_pow_right (by omega) hi
  omega
def facM (P : Pri) (second : Bool) (i : Nat) : List (List Int) := (List.range i).map (facL P.n i second)
theorem facM_ok (second : Bool) {i : Nat} (hi : i ≤ 3) : ∀ b ∈ facM P second i, Row P.p b ∧ b.length ≠ 0 ∧ b.length ≤ 500000 := fun b hb => by
  obtain ⟨j, hj, rfl⟩ := List.mem_map.1 hb
  exact facL_ok (by have := P.is; omega) (by have := small3 (P := P) hi; omega) second (List.mem_range.1 hj)
theorem facM_degs (second : Bool) {i : Nat} (hi : i ≤ 3) : (facP P second i).len = degs (facM P second i) + 1 := by
  have h := prodF_row P.okp (facM P second i) [1] (row_one P.two.1) (by simp) fun b hb => ⟨(facM_ok second hi b hb).1, (facM_ok second hi b hb).2.1⟩
  have e : prodF P.p [1] (facM P second i) = (facP P second i).1 := fpj_l i second i
  rw [e] at h
  have h2 : (facP P second i).len = ([1] : List Int).length + degs (facM P second i) := h.2
  rw [h2]; simp; omega
theorem factS (second : Bool) {i : Nat} (hi : i ≤ 3) : spec_l04Factorial P.p i second = some (if (facP P second i).len ≤ 64 then (pad (facP P second i).1, true) else (vrep 64 0, false)) := by
  have hs := small3 (P := P) hi
  have h := factorial_is (p := P.n) (i := i) P.okp (by omega) second
  have hc := fac_closed (p := P.p) P.okp (facL P.n i second) i fun j hj => by
    have := facL_ok (p := P.n) (i := i) (by have := P.is; omega) (by omega) second hj
    exact ⟨this.1, this.2.1⟩
  have hd := facM_degs (P := P) second hi
  have e : prodF P.p [1] ((List.range i).map (facL P.n i second)) = (facP P second i).1 := fpj_l i second i
  rw [e] at hc
  have h' : spec_l04Factorial P.p i second = some (match fac P.p (facL P.n i second) i with | none => (vrep 64 0, false) | some o => (pad o, true)) := h
  rw [h', hc]
  have hd' : (facP P second i).len = degs ((List.range i).map (facL P.n i second)) + 1 := hd
  by_cases hq : (facP P second i).len ≤ 64
  · rw [if_pos (by omega), if_pos hq]
  · rw [if_neg (by omega), if_neg hq]
theorem raiseS {a : PP P} (la : a.len ≤ 64) {i : Nat} (hi : i ≤ 3) : spec_l04Raise P.p (pad a.1) i = some (if a.len = 0 ∨ (a.len - 1) * P.n ^ i ≤ 63 then (pad (sprP a i).1, true) else (vrep 64 0, false)) := by
  have h : spec_l04Raise P.p (pad a.1) i = some (if a.1.length ≤ 1 ∨ (a.1.length - 1) * P.n ^ i ≤ 63 then (pad (spr a.1 (P.n ^ i)), true) else (vrep 64 0, false)) := raise_gen (p := P.n) (by have := P.is; omega) (by omega) a.2 la
  rw [h]
  congr 1
  have e : (a.1.length ≤ 1 ∨ (a.1.length - 1) * P.n ^ i ≤ 63) = (a.len = 0 ∨ (a.len - 1) * P.n ^ i ≤ 63) := by
    rw [eq_iff_iff]
    constructor
    · rintro (h1 | h1)
      · right; have : a.len - 1 = 0 := by show a.1.length - 1 = 0; omega
        rw [this, Nat.zero_mul]; omega
      · exact .inr h1
    · rintro (h1 | h1)
      · left; show a.len ≤ 1; omega
      · exact .inr h1
  simp only [e]
  rfl
/-- A product that may be too great. -/
theorem timesT {a b : PP P} (la : a.len ≤ 64) (lb : b.len ≤ 64) : ∃ v, spec_l01Times P.p (pad a.1) (pad b.1) = some (v, decide (a.len = 0 ∨ b.len = 0 ∨ a.len + b.len ≤ 65)) ∧ ((a.len = 0 ∨ b.len = 0 ∨ a.len + b.len ≤ 65) → v = pad (a * b).1) := by
  have hp := P.two
  by_cases h : a.len = 0 ∨ b.len = 0 ∨ a.len + b.len ≤ 65
  · refine ⟨pad (a * b).1, ?_, fun _ => rfl⟩
    rw [decide_eq_true h]
    exact times_pad ⟨by omega, by omega⟩ a.2 b.2 la lb h
  · refine ⟨vrep 64 0, ?_, fun h' => absurd h' h⟩
    rw [decide_eq_false h]
    exact times_pad_no a.2 b.2 la lb (fun e => h (.inl e)) (fun e => h (.inr (.inl e))) (by
      rcases Nat.lt_or_ge 65 (a.len + b.len) with h1 | h1
      · exact h1
      · exact absurd (.inr (.inr h1)) h)
theorem rowI_loop {M : List (List Int)} (hM : ∀ b ∈ M, Row P.p b ∧ b.length ≠ 0) (hd : degs M ≤ 1000) (hl : M.length ≤ 1000) : impl_prime_productRow P.p M = some (prodF P.p [1] M) := by
  have hp := P.two
  obtain ⟨s, g1, g2⟩ := loopM_for (body := fun s : List Int × Int => impl_prime_productRow_l1 M P.p s.1 s.2) (fun i s => (s, (i : Int))) (fun s => s) M.length
    (fun i s => s = prodF P.p [1] (M.take i)) (fun i s hi hI => by
      subst hI
      have hmt : ∀ b ∈ M.take i, Row P.p b ∧ b.length ≠ 0 := fun b hb => hM b (List.mem_of_mem_take hb)
      obtain ⟨q1, q2⟩ := prodF_row P.okp (M.take i) [1] (row_one P.two.1) (by simp) hmt
      have hsum : degs (M.take i) + degs (M.drop i) = degs M := by rw [← degs_app, List.take_append_drop]
      obtain ⟨b1, b2⟩ := hM M[i] (List.getElem_mem _)
      have hdi : M.drop i = M[i] :: M.drop (i + 1) := List.drop_eq_getElem_cons hi
      rw [hdi] at hsum
      simp only [degs] at hsum
      have er : rd M i = M[i] := by simp [rd, hi]
      refine ⟨prodF P.p [1] (M.take (i + 1)), ?_, rfl⟩
      simp only [impl_prime_productRow_l1, Int.toNat_natCast, er]
      rw [if_pos (decide_eq_true (by omega)), ifp_pos (by omega), times_is ⟨hp.1, by omega⟩ (q1.ent P.sm) (b1.ent P.sm) (by rw [q2]; simp; omega) (by omega)]
      simp only [Option.bind_some]
      rw [wrap64 (by omega) (by omega), List.take_succ_eq_append_getElem hi, prodF_app]
      rfl) (fun s hI => by
      simp only [impl_prime_productRow_l1]
      rw [if_neg (by rw [decide_eq_true_eq]; omega)]) M.length 0 [1] (by omega) rfl
  have g1' : loopM (fun s : List Int × Int => impl_prime_productRow_l1 M P.p s.1 s.2) ([1], 0) = some s := g1
  simp only [impl_prime_productRow, g1', g2, Option.bind_some, List.take_length]
theorem facRow (second : Bool) {i : Nat} (hi : i ≤ 3) (hl : (facP P second i).len ≤ 64) : impl_prime_productRow P.p (facM P second i) = some (facP P second i).1 := by
  have hd := facM_degs (P := P) second hi
  rw [rowI_loop (fun b hb => ⟨(facM_ok second hi b hb).1, (facM_ok second hi b hb).2.1⟩) (by omega) (by simp [facM]; omega)]
  exact congrArg some (fpj_l i second i)
theorem normI {i : Nat} (hi : i ≤ 3) : impl_prime_norm P.p (i : Int) 1099511627776 = some ((P.n ^ i : Nat) : Int) := by
  have hs := small3 (P := P) hi
  obtain ⟨c, c1, c2, _⟩ := norm_is (p := P.n) (n := i) (most := 1099511627776) (by have := P.is; omega) (by omega) (by omega)
  have : c = P.n ^ i := by omega
  rw [← this]; exact c1
theorem spreadI {a : PP P} (la : a.len ≤ 64) {i : Nat} (hi : i ≤ 3) : impl_prime_spread P.p a.1 i = some (sprP a i).1 := by
  have hs := small3 (P := P) hi
  exact spread_is (p := P.n) (by have := P.is; omega) (by omega) a.2 (show a.len ≤ 1000 by omega) (by omega)
theorem gcdB {a b : PP P} (la : a.len ≤ 64) (lb : b.len ≤ 64) (hb : b ≠ 0) : ∃ g : PP P, impl_prime_gcd P.p a.1 b.1 = some g.1 ∧ spec_l01Gcd P.p (pad a.1) (pad b.1) = some (pad g.1) ∧ g.len ≤ 64 ∧ g ≠ 0 ∧ Dv g b := by
  obtain ⟨g, i1, l1, m1, d1⟩ := gcdI la lb (.inr hb)
  obtain ⟨g', s1, l2, m2, d2⟩ := gcdS la lb (.inr hb)
  have h1 : Dv g g' := (d2 g).2 ((d1 g).1 (ppring.dv_refl g))
  have h2 : Dv g' g := (d1 g').2 ((d2 g').1 (ppring.dv_refl g'))
  have e : g = g' := mo_eq m1 m2 h1 (by
    have := dv_len h1 m2.ne
    have := dv_len h2 m1.ne
    omega)
  exact ⟨g, i1, by rw [e]; exact s1, l1, m1.ne, ((d1 g).1 (ppring.dv_refl g)).2⟩
/-- The tail of the sums: cancelled, and the denominator monic. -/
theorem cut_end {t B : PP P} (lt : t.len ≤ 64) (lB : B.len ≤ 64) (hB : B ≠ 0) : ∃ x y : V64,
    (Option.bind (impl_prime_gcd P.p t.1 B.1) fun r88 => (Option.bind (impl_prime_divide P.p t.1 r88) fun r91 => (Option.bind (impl_prime_divide P.p B.1 r88) fun r94 => (Option.bind (impl_row_lead r94.1) fun r102 => (Option.bind (impl_prime_inverse P.p r102) fun r104 => (Option.bind (impl_prime_scale P.p r91.1 r104) fun r119 => (Option.bind (impl_row_poly r119) fun r121 => (Option.bind (impl_prime_scale P.p r94.1 r104) fun r124 => (Option.bind (impl_row_poly r124) fun r126 => (some (r121, r126, (0 : Int)))))))))))) = some (x, y, 0) ∧
    (Option.bind (spec_l01Gcd P.p (pad t.1) (pad B.1)) fun r453 => (Option.bind (spec_l01Divide P.p (pad t.1) r453) fun r458 => (Option.bind (spec_l01Divide P.p (pad B.1) r453) fun r464 => (Option.bind (spec_l01Deg r464.1) fun r469 => (ifp (0 ≤ r469 ∧ r469 < ((64 : Nat) : Int)) ((Option.bind (spec_l01Inverse P.p (rd r464.1.1 r469.toNat)) fun r473 => (Option.bind (spec_l01Add P.p ((vrep 64 (0 : Int))) r458.1 (IntKind.i64.wrap r473)) fun r484 => (Option.bind (spec_l01Add P.p ((vrep 64 (0 : Int))) r464.1 (IntKind.i64.wrap r473)) fun r487 => (some (r484, r487, true))))))))))) = some (x, y, true) := by
  have hp := P.two
  obtain ⟨g, g1, g2, g3, g4, g5⟩ := gcdB lt lB hB
  have e1 := pdivI (a := t) g4 (by omega) (by omega)
  have e2 := pdivI (a := B) g4 (by omega) (by omega)
  have e3 := divS (a := t) g4 lt (by omega)
  have e4 := divS (a := B) g4 lB (by omega)
  have l1 : (pquo t g).len ≤ 64 := by
    have : (pquo t g).len ≤ t.len + 1 - g.len := quo_len P.p t.1 g.1
    have := len_pos g4; omega
  have l2 : (pquo B g).len ≤ 64 := by
    have : (pquo B g).len ≤ B.len + 1 - g.len := quo_len P.p B.1 g.1
    have := len_pos g4; omega
  have hq : pquo B g ≠ 0 := fun e => by
    have h := (pdiv B g4).1
    have hr : prem B g = 0 := (prem_iff g4).2 g5
    rw [e, hr, ppring.zero_mul, ppring.add_zero] at h
    exact hB h
  have hq1 := len_pos hq
  have hl := lead_pos P.pos (pquo B g).2 (ne_len hq)
  have hi := inv_is P.okp hl
  obtain ⟨k, hk⟩ : ∃ k : Nat, inv P.p (lead (pquo B g).1) = k := ⟨(inv P.p (lead (pquo B g).1)).toNat, by omega⟩
  have n1 := len_nsm k (pquo t g)
  have n2 := len_nsm k (pquo B g)
  refine ⟨pad (nsm k (pquo t g)).1, pad (nsm k (pquo B g)).1, ?_, ?_⟩
  · have s1 := scaleI (a := pquo t g) (show (pquo t g).len ≤ 1000000 by omega) k (by omega)
    have s2 := scaleI (a := pquo B g) (show (pquo B g).len ≤ 1000000 by omega) k (by omega)
    have p1 : impl_row_poly (nsm k (pquo t g)).1 = some (pad (nsm k (pquo t g)).1) := poly_is ((nsm k (pquo t g)).2.bytes (by omega)) (show (nsm k (pquo t g)).len ≤ 64 by omega)
    have p2 : impl_row_poly (nsm k (pquo B g)).1 = some (pad (nsm k (pquo B g)).1) := poly_is ((nsm k (pquo B g)).2.bytes (by omega)) (show (nsm k (pquo B g)).len ≤ 64 by omega)
    simp only [g1, e1, e2, leadI hq (show (pquo B g).len ≤ 1000000 by omega), inverse_impl P.okp hl, hk, s1, s2, p1, p2, Option.bind_some]
  · have hd : spec_l01Deg (pad (pquo B g).1) = some (((pquo B g).len - 1 : Nat) : Int) := by rw [degS _ l2]; congr 1; omega
    have er : rd (pad (pquo B g).1).1 ((pquo B g).len - 1) = lead (pquo B g).1 := rd_padl _ (by omega)
    have z : pad (0 : PP P).1 = vrep 64 0 := pad_nil
    have a1 := addS (P := P) (a := 0) (b := pquo t g) (by rw [len_zero.2 rfl]; omega) l1 (k := k) (by omega)
    have a2 := addS (P := P) (a := 0) (b := pquo B g) (by rw [len_zero.2 rfl]; omega) l2 (k := k) (by omega)
    rw [z, ppring.zero_add] at a1 a2
    have hw : IntKind.i64.wrap (k : Int) = k := wrap64 (by omega) (by omega)
    simp only [g2, e3, e4, hd, Option.bind_some]
    rw [ifp_pos (by omega), Int.toNat_natCast, er, inverse_spec P.okp hl]
    simp only [Option.bind_some, hk, hw, a1, a2]
end Go.Proofs.Ytkbnegemdlnncaa
/- The brackets of second factorials. -/
namespace Go.Proofs.Ytkbnegemdlnncaa
open Go.Abs

theorem second_is {p i : Nat} (hp : 2 ≤ p ∧ p ≤ 7) (hi0 : p ^ i ≤ 400000) : impl_prime_second p i = some ((List.range i).map (facL p i true)) := by
  have hi := exp_small hp.1 hi0
  obtain ⟨s, g1, g2⟩ := loopM_for (body := fun s : Int × List (List Int) => impl_prime_second_l1 (i : Int) p s.1 s.2) (fun i s => ((i : Int), s)) (fun s => s) i
    (fun j s => s = (List.range j).map (facL p i true)) (fun j s hj hI => by
      subst hI
      refine ⟨_, ?_, rfl⟩
      have ew : IntKind.i64.wrap ((j : Int) + 1) = ((j + 1 : Nat) : Int) := by rw [wrap64 (by omega) (by omega)]; rfl
      have hb : impl_prime_bracket p ((j + 1 : Nat) : Int) 0 = some (brk p (j + 1) 0) := bracket_is (i := j + 1) (j := 0) hp (Nat.le_trans (ppow_mono hp.1 (show j + 1 ≤ i by omega)) hi0) (by simp)
      simp only [impl_prime_second_l1]
      rw [if_pos (decide_eq_true (by omega)), ew, hb]
      simp only [Option.bind_some]
      rw [ifp_pos (by simp; omega), List.range_succ, List.map_append]
      rfl) (fun s hI => by
      simp only [impl_prime_second_l1]
      rw [if_neg (by rw [decide_eq_true_eq]; omega)]) i 0 [] (by omega) rfl
  have g1' : loopM (fun s : Int × List (List Int) => impl_prime_second_l1 (i : Int) p s.1 s.2) (0, []) = some s := g1
  simp only [impl_prime_second, g1', g2, Option.bind_some]
end Go.Proofs.Ytkbnegemdlnncaa
/- Sums that are cut off, with second factorials. -/
namespace Go.Proofs.Ytkbnegemdlnncaa
open Go.Abs
variable {P : Pri}
theorem listsecond {i : Nat} (hi : i ≤ 3) : impl_prime_second P.p i = some (facM P true i) := second_is (by have := P.is; omega) (by have := small3 (P := P) hi; omega)
theorem botsecond {a b : PP P} (hb : b ≠ 0) (lb : b.len ≤ 64) {k : Nat} (hk : k ≤ 3) : impl_cut_bottom_of_s_impl_prime_second P.p a.1 b.1 ((k + 1 : Nat) : Int) P.p = some (if (sprP b k * facP P true k).len ≤ 64 then ((sprP b k * facP P true k).1, true) else ([], false)) := by
  have hp := P.two
  have hs := small3 (P := P) hk
  have hq := P.pow_pos k
  have hb1 := len_pos hb
  have hdF := facM_degs (P := P) true hk
  have hdM : degs (facM P true k) ≤ 2000 := by
    have gen : ∀ M : List (List Int), (∀ x ∈ M, x.length ≤ 400) → degs M ≤ M.length * 400 := by
      intro M
      induction M with
      | nil => intro _; simp [degs]
      | cons x M ih =>
        intro h
        have h1 := ih fun y hy => h y (by simp [hy])
        have h2 := h x (by simp)
        simp only [degs, List.length_cons]; omega
    have := gen (facM P true k) fun x hx => by
      obtain ⟨j, hj, rfl⟩ := List.mem_map.1 hx
      have hj' := List.mem_range.1 hj
      have hle : ∀ e, e ≤ 3 → P.n ^ e ≤ 343 := fun e he => small3 he
      unfold facL
      simp only [if_true]
      rw [brk_len P.ge (show 0 < j + 1 by omega)]
      have := hle (j + 1) (by omega)
      omega
    have hl : (facM P true k).length = k := by simp [facM]
    rw [hl] at this; omega
  have hlen : (sprP b k * facP P true k).len = (b.len - 1) * P.n ^ k + degs (facM P true k) + 1 := by
    have hsb : sprP b k ≠ 0 := by rw [sprP_pw]; exact pw_ne hb _
    rw [len_mul hsb (facP_ne true k), sprP_len hb, hdF]; omega
  have hbq : (b.len - 1) * P.n ^ k ≤ 63 * 343 := Nat.mul_le_mul (by omega) hs
  have hr : impl_row_degree b.1 = some ((b.len - 1 : Nat) : Int) := by rw [degI b (by omega)]; congr 1; omega
  have hw : IntKind.i64.wrap (((k + 1 : Nat) : Int) - 1) = (k : Int) := by rw [wrap64 (by omega) (by omega)]; omega
  have hmul : IntKind.i64.wrap (((b.len - 1 : Nat) : Int) * ((P.n ^ k : Nat) : Int)) = (((b.len - 1) * P.n ^ k : Nat) : Int) := by
    have : ((b.len - 1 : Nat) : Int) * ((P.n ^ k : Nat) : Int) = (((b.len - 1) * P.n ^ k : Nat) : Int) := by rw [Int.natCast_mul]
    rw [this, wrap64 (by omega) (by omega)]
  obtain ⟨M, hM⟩ : ∃ M, facM P true k = M := ⟨_, rfl⟩
  have hMok : ∀ x ∈ M, x.length ≠ 0 ∧ x.length ≤ 500000 := fun x hx => by
    rw [← hM] at hx; exact ⟨(facM_ok true hk x hx).2.1, (facM_ok true hk x hx).2.2⟩
  have hMl : M.length ≤ 3 := by rw [← hM]; simp [facM]; omega
  obtain ⟨c, hc⟩ : ∃ c, (b.len - 1) * P.n ^ k = c := ⟨_, rfl⟩
  have hloop : loopM (fun s : Int × Int => impl_cut_bottom_of_s_impl_prime_second_l1 M s.1 s.2) ((c : Int), 0) = some ((c + degs M : Nat) : Int) := by
    obtain ⟨s, g1, g2⟩ := loopM_for (body := fun s : Int × Int => impl_cut_bottom_of_s_impl_prime_second_l1 M s.1 s.2) (fun i (s : Nat) => ((s : Int), (i : Int))) (fun s => (s : Int)) M.length
      (fun i s => s = c + degs (M.take i)) (fun i s hi hI => by
        subst hI
        have hsum : degs (M.take i) + degs (M.drop i) = degs M := by rw [← degs_app, List.take_append_drop]
        obtain ⟨b1, b2⟩ := hMok M[i] (List.getElem_mem _)
        have hdi : M.drop i = M[i] :: M.drop (i + 1) := List.drop_eq_getElem_cons hi
        rw [hdi] at hsum
        simp only [degs] at hsum
        have er : rd M i = M[i] := by simp [rd, hi]
        rw [hM] at hdM
        refine ⟨c + degs (M.take (i + 1)), ?_, rfl⟩
        simp only [impl_cut_bottom_of_s_impl_prime_second_l1, Int.toNat_natCast, er, impl_row_degree, Option.bind_some]
        rw [if_pos (decide_eq_true (by omega)), ifp_pos (by omega), wrap64 (n := (M[i].length : Int) - 1) (by omega) (by omega), wrap64 (by omega) (by omega), wrap64 (by omega) (by omega), List.take_succ_eq_append_getElem hi, degs_app]
        simp only [degs]
        congr 3
        omega) (fun s hI => by
        simp only [impl_cut_bottom_of_s_impl_prime_second_l1]
        rw [if_neg (by rw [decide_eq_true_eq]; omega)]) M.length 0 c (by omega) (by simp [degs])
    rw [List.take_length] at g2
    rw [← g2]; exact g1
  have hfs := listsecond (P := P) hk
  have hsp := spreadI (P := P) lb hk
  rw [hM] at hfs hdM
  rw [hM] at hlen
  simp only [impl_cut_bottom_of_s_impl_prime_second, hr, hw, normI hk, hmul, hc, hfs, hloop, Option.bind_some]
  rw [hlen, hc]
  by_cases hq2 : c + degs M + 1 ≤ 64
  · rw [if_neg (by rw [decide_eq_true_eq]; omega), if_pos hq2]
    have hF : (facP P true k).len ≤ 64 := by rw [hdF, hM]; omega
    have hpr := facRow true hk hF
    rw [hM] at hpr
    have hsl : (sprP b k).len ≤ 64 := by rw [sprP_len hb, hc]; omega
    have ht : impl_prime_times P.p (sprP b k).1 (facP P true k).1 = some (sprP b k * facP P true k).1 := timesI (by omega) (by omega)
    simp only [hsp, hpr, ht, Option.bind_some]
  · rw [if_pos (decide_eq_true (by omega)), if_neg hq2]
/-- What the denominator has more than a summand. -/
def moresecond (P : Pri) (b : PP P) (k i : Nat) : PP P := pquo (facP P true k) (facP P true i) * pw b (P.n ^ k - P.n ^ i)
theorem facq_second {i k : Nat} (h : i ≤ k) : facP P true k = pquo (facP P true k) (facP P true i) * facP P true i := by
  have h1 := (pdiv (facP P true k) (facP_ne true i)).1
  rw [(prem_iff (facP_ne true i)).2 (facP_dv true h), ppring.add_zero] at h1
  exact h1
theorem pown_le2 {i k : Nat} (h : i ≤ k) : P.n ^ i ≤ P.n ^ k := Nat.pow_le_pow_right (by have := P.is; omega) h
theorem more_second {b : PP P} {i k : Nat} (h : i ≤ k) : sprP b k * facP P true k = moresecond P b k i * (facP P true i * sprP b i) := by
  have h1 := facq_second (P := P) h
  have h2 : pw b (P.n ^ k) = pw b (P.n ^ k - P.n ^ i) * pw b (P.n ^ i) := by rw [← ppring.pw_add]; congr 1; have := pown_le2 (P := P) h; omega
  rw [sprP_pw, sprP_pw, h2]
  unfold moresecond
  generalize pquo (facP P true k) (facP P true i) = R at h1 ⊢
  rw [h1]
  simp only [ppring.mul_assoc, ppring.mul_comm, ppring.mul_left_comm]
theorem more_ne_second {b : PP P} (hb : b ≠ 0) {i k : Nat} (h : i ≤ k) : moresecond P b k i ≠ 0 := fun e => by
  have h1 := more_second (P := P) (b := b) h
  rw [e, ppring.zero_mul] at h1
  rcases pp_dom _ _ h1 with h2 | h2
  · rw [sprP_pw] at h2; exact pw_ne hb _ h2
  · exact facP_ne true k h2
theorem sumsecond {a b : PP P} (hb : b ≠ 0) (la : a.len ≤ 64) (lb : b.len ≤ 64) {i k : Nat} (hk : k ≤ 3) (hi : i ≤ k) (hB : (sprP b k * facP P true k).len ≤ 64) :
    impl_cut_summand_of_s_impl_prime_second P.p a.1 b.1 ((k + 1 : Nat) : Int) P.p (i : Int) = some (if a.len = 0 ∨ (a.len - 1) * P.n ^ i + (moresecond P b k i).len ≤ 64 then ((sprP a i * moresecond P b k i).1, true) else ([], false)) := by
  have hp := P.two
  have haa : a.1.length = a.len := rfl
  by_cases h0 : a.len = 0
  · have e := len_zero.1 h0
    subst e
    simp only [impl_cut_summand_of_s_impl_prime_second]
    rw [if_pos (by rw [beq_iff_eq]; omega), if_pos (.inl h0), sprP_zero, ppring.zero_mul]; rfl
  · have hs := small3 (P := P) hk
    have hsi := small3 (P := P) (show i ≤ 3 by omega)
    have hle := pown_le2 (P := P) hi
    have hq := P.pow_pos i
    have ha : a ≠ 0 := fun e => h0 (len_zero.2 e)
    have hb1 := len_pos hb
    have hsb : sprP b k ≠ 0 := by rw [sprP_pw]; exact pw_ne hb _
    have hl1 : (sprP b k * facP P true k).len = _ := len_mul hsb (facP_ne true k)
    have hsl := sprP_len hb k
    have hFp := len_pos (facP_ne (P := P) true k)
    have hFk : (facP P true k).len ≤ 64 := by omega
    have hFi : (facP P true i).len ≤ 64 := Nat.le_trans (dv_len (facP_dv true hi) (facP_ne true k)) hFk
    have hmn := more_ne_second (P := P) hb hi
    have hRn : pquo (facP P true k) (facP P true i) ≠ 0 := fun e => by
      apply hmn; unfold moresecond; rw [e, ppring.zero_mul]
    have hRl : (pquo (facP P true k) (facP P true i)).len ≤ 64 := by
      have : (pquo (facP P true k) (facP P true i)).len ≤ (facP P true k).len + 1 - (facP P true i).len := quo_len P.p _ _
      have := len_pos (facP_ne (P := P) true i); omega
    have hRp := len_pos hRn
    have hml : (moresecond P b k i).len = (pquo (facP P true k) (facP P true i)).len + (b.len - 1) * (P.n ^ k - P.n ^ i) := by
      unfold moresecond
      rw [len_mul hRn (pw_ne hb _), pw_len hb]; omega
    have hr : impl_row_degree b.1 = some ((b.len - 1 : Nat) : Int) := by rw [degI b (by omega)]; congr 1; omega
    have hra : impl_row_degree a.1 = some ((a.len - 1 : Nat) : Int) := by rw [degI a (by omega)]; congr 1; omega
    have hrR : impl_row_degree (pquo (facP P true k) (facP P true i)).1 = some (((pquo (facP P true k) (facP P true i)).len - 1 : Nat) : Int) := by rw [degI _ (by omega)]; congr 1; omega
    have hw : IntKind.i64.wrap (((k + 1 : Nat) : Int) - 1) = (k : Int) := by rw [wrap64 (by omega) (by omega)]; omega
    have hw2 : IntKind.i64.wrap (((P.n ^ k : Nat) : Int) - ((P.n ^ i : Nat) : Int)) = ((P.n ^ k - P.n ^ i : Nat) : Int) := by rw [wrap64 (by omega) (by omega)]; omega
    obtain ⟨x, hx⟩ : ∃ x, (a.len - 1) * P.n ^ i = x := ⟨_, rfl⟩
    obtain ⟨y, hy⟩ : ∃ y, (b.len - 1) * (P.n ^ k - P.n ^ i) = y := ⟨_, rfl⟩
    have hxb : x ≤ 63 * 343 := by rw [← hx]; exact Nat.mul_le_mul (by omega) hsi
    have hyb : y ≤ 63 * 343 := by rw [← hy]; exact Nat.mul_le_mul (by omega) (by omega)
    have hm1 : IntKind.i64.wrap (((a.len - 1 : Nat) : Int) * ((P.n ^ i : Nat) : Int)) = (x : Int) := by
      rw [← Int.natCast_mul, hx, wrap64 (by omega) (by omega)]
    have hm2 : IntKind.i64.wrap (((b.len - 1 : Nat) : Int) * ((P.n ^ k - P.n ^ i : Nat) : Int)) = (y : Int) := by
      rw [← Int.natCast_mul, hy, wrap64 (by omega) (by omega)]
    have f1 := listsecond (P := P) hk
    have f2 := listsecond (P := P) (show i ≤ 3 by omega)
    have f3 := facRow true hk hFk
    have f4 := facRow true (show i ≤ 3 by omega) hFi
    have f5 := pdivI (a := facP P true k) (facP_ne true i) (by omega) (by omega)
    simp only [impl_cut_summand_of_s_impl_prime_second]
    rw [if_neg (by rw [beq_iff_eq]; omega)]
    simp only [normI (show i ≤ 3 by omega), normI hk, hw, f1, f2, f3, f4, f5, hr, hra, hrR, hw2, hm1, hm2, letp, Option.bind_some]
    rw [wrap64 (n := (x : Int) + y) (by omega) (by omega), wrap64 (by omega) (by omega), hml, hx, hy]
    by_cases hc : x + ((pquo (facP P true k) (facP P true i)).len + y) ≤ 64
    · rw [if_neg (by rw [decide_eq_true_eq]; omega), if_pos (.inr hc)]
      have hsa := sprP_len ha i
      rw [hx] at hsa
      have g1 := spreadI (P := P) la (show i ≤ 3 by omega)
      have g2 : impl_prime_times P.p (sprP a i).1 (pquo (facP P true k) (facP P true i)).1 = some (sprP a i * pquo (facP P true k) (facP P true i)).1 := timesI (by omega) (by omega)
      have g3 : impl_prime_raised P.p b.1 ((P.n ^ k - P.n ^ i : Nat) : Int) = some (pw b (P.n ^ k - P.n ^ i)).1 := by
        rw [raised_is hp b.2 (show b.len ≤ 1000 by omega) (by omega)]
        exact congrArg some (pow_pw b _)
      have hpl := pw_len hb (P.n ^ k - P.n ^ i)
      rw [hy] at hpl
      have hsl2 : (sprP a i * pquo (facP P true k) (facP P true i)).len ≤ (sprP a i).len + (pquo (facP P true k) (facP P true i)).len - 1 := mul_len _ _ _
      have g4 : impl_prime_times P.p (sprP a i * pquo (facP P true k) (facP P true i)).1 (pw b (P.n ^ k - P.n ^ i)).1 = some (sprP a i * pquo (facP P true k) (facP P true i) * pw b (P.n ^ k - P.n ^ i)).1 := timesI (by omega) (by omega)
      simp only [g1, g2, g3, g4, Option.bind_some]
      unfold moresecond
      rw [ppring.mul_assoc]
    · rw [if_pos (decide_eq_true (by omega)), if_neg (by rintro (h | h); exact h0 h; exact hc h)]
/-- The sign of a summand. -/
def sgnsecond (i : Nat) : Int := if i % 2 = 1 then -1 else 1
theorem cutloopsecond {a b : PP P} (hb : b ≠ 0) (la : a.len ≤ 64) (lb : b.len ≤ 64) {k : Nat} (hk : k ≤ 3) (hB : (sprP b k * facP P true k).len ≤ 64) (v : Bool) : ∀ (m i : Nat) (t : PP P), i + m = k + 1 → t.len ≤ 64 →
    ∃ r : Option (PP P), (∀ t, r = some t → t.len ≤ 64) ∧
      loopM (fun s : Bool × Int × V64 => spec_l10Series_l1 ((k + 1 : Nat) : Int) P.p (pad b.1) (pad (sprP b k * facP P true k).1, v) (pad a.1) s.1 s.2.1 s.2.2) (true, (i : Int), pad t.1) = some (match r with | some t => .inl (pad t.1) | none => .inr (vrep 64 0, vrep 64 0, false)) ∧
      loopM (fun s : List Int × Int × Int => impl_cut_sum_of_s_impl_prime_second_l1 ((k + 1 : Nat) : Int) P.p a.1 b.1 P.p (-1) s.1 s.2.1 s.2.2) (t.1, sgnsecond i, (i : Int)) = some (match r with | some t => .inl t.1 | none => .inr (vrep 64 0, vrep 64 0, 3))
  | 0, i, t, hi, lt => by
    have hp := P.two
    have a1 : spec_l10Series_l1 ((k + 1 : Nat) : Int) P.p (pad b.1) (pad (sprP b k * facP P true k).1, v) (pad a.1) true (i : Int) (pad t.1) = some (.inr (.inl (pad t.1))) := by
      simp only [spec_l10Series_l1]
      rw [if_neg (by rw [decide_eq_true_eq]; omega)]
    have a2 : impl_cut_sum_of_s_impl_prime_second_l1 ((k + 1 : Nat) : Int) P.p a.1 b.1 P.p (-1) t.1 (sgnsecond i) (i : Int) = some (.inr (.inl t.1)) := by
      simp only [impl_cut_sum_of_s_impl_prime_second_l1]
      rw [if_neg (by rw [decide_eq_true_eq]; omega)]
    exact ⟨some t, fun _ h => by cases h; exact lt, by rw [loopM_eq]; simp only [a1, Option.bind_some], by rw [loopM_eq]; simp only [a2, Option.bind_some]⟩
  | m + 1, i, t, hi, lt => by
    have hp := P.two
    have hik : i ≤ k := by omega
    have hs := small3 (P := P) hk
    have hb1 := len_pos hb
    have hsb : sprP b k ≠ 0 := by rw [sprP_pw]; exact pw_ne hb _
    have hl1 : (sprP b k * facP P true k).len = _ := len_mul hsb (facP_ne true k)
    have hsl := sprP_len hb k
    have hFp := len_pos (facP_ne (P := P) true k)
    have hFk : (facP P true k).len ≤ 64 := by omega
    have hFi : (facP P true i).len ≤ 64 := Nat.le_trans (dv_len (facP_dv true hik) (facP_ne true k)) hFk
    have hFp2 := len_pos (facP_ne (P := P) true i)
    have hle := pown_le2 (P := P) hik
    have hsli := sprP_len hb i
    have hmle : (b.len - 1) * P.n ^ i ≤ (b.len - 1) * P.n ^ k := Nat.mul_le_mul_left _ hle
    have hFle : (facP P true i).len ≤ (facP P true k).len := dv_len (facP_dv true hik) (facP_ne true k)
    have hsbi : sprP b i ≠ 0 := by rw [sprP_pw]; exact pw_ne hb _
    have hshare : (facP P true i * sprP b i).len = _ := len_mul (facP_ne true i) hsbi
    have hsn : facP P true i * sprP b i ≠ 0 := fun e => by rcases pp_dom _ _ e with h | h; exact facP_ne true i h; exact hsbi h
    have hmn := more_ne_second (P := P) hb hik
    have e1 := factS (P := P) true (show i ≤ 3 by omega)
    rw [if_pos hFi] at e1
    have e2 := raiseS (P := P) lb (show i ≤ 3 by omega)
    rw [if_pos (.inr (by omega))] at e2
    have e3 : spec_l10Raised P.p (pad b.1) i = some (pad (sprP b i).1) := by simp only [spec_l10Raised, e2, Option.bind_some]
    obtain ⟨w1, e4, e5⟩ := timesT (P := P) (a := facP P true i) (b := sprP b i) hFi (by omega)
    rw [e5 (.inr (.inr (by omega)))] at e4
    have e6 := divS (a := sprP b k * facP P true k) hsn hB (by omega)
    have e7 : pquo (sprP b k * facP P true k) (facP P true i * sprP b i) = moresecond P b k i := (quo_is hsn (r := 0) (by rw [ppring.add_zero]; exact more_second hik) (by rw [len_zero.2 rfl]; have := len_pos hsn; omega)).1
    rw [e7] at e6
    have hgl : (moresecond P b k i).len ≤ 64 := by
      have hBn : sprP b k * facP P true k ≠ 0 := fun e => by rcases pp_dom _ _ e with h | h; exact hsb h; exact facP_ne true k h
      have hdv : Dv (moresecond P b k i) (sprP b k * facP P true k) := ⟨facP P true i * sprP b i, by rw [ppring.mul_comm (facP P true i * sprP b i) (moresecond P b k i)]; exact more_second hik⟩
      exact Nat.le_trans (dv_len hdv hBn) hB
    have hgp := len_pos hmn
    have e8 := raiseS (P := P) la (show i ≤ 3 by omega)
    have hsum := sumsecond (P := P) hb la lb hk hik hB
    have hsg : IntKind.i64.wrap (sgnsecond i * (-1)) = sgnsecond (i + 1) ∧ (sgnsecond i = 1 ∨ sgnsecond i = -1) := by
      have h4 : i = 0 ∨ i = 1 ∨ i = 2 ∨ i = 3 := by omega
      rcases h4 with rfl | rfl | rfl | rfl <;> exact ⟨rfl, by decide⟩
    have hspsg' : (Option.bind (α := (Bool × Bool)) ((if true = true then (some ((true, ((Int.tmod (i : Int) 2) == 1)))) else (some (false, false)))) fun z => match z with | (x434, x435) => (if x435 = true then (some (x434, (-1 : Int))) else (some (x434, (1 : Int))))) = some (true, sgnsecond i) := by
      have h4 : i = 0 ∨ i = 1 ∨ i = 2 ∨ i = 3 := by omega
      rcases h4 with rfl | rfl | rfl | rfl <;> rfl
    by_cases hc : a.len = 0 ∨ (a.len - 1) * P.n ^ i + (moresecond P b k i).len ≤ 64
    · rw [if_pos hc] at hsum
      rw [if_pos (by
        rcases hc with h | h
        · exact .inl h
        · exact .inr (by omega))] at e8
      have hsa : (sprP a i).len = 0 ∨ (moresecond P b k i).len = 0 ∨ (sprP a i).len + (moresecond P b k i).len ≤ 65 := by
        by_cases h0 : a.len = 0
        · left; rw [len_zero.1 h0, sprP_zero]; exact len_zero.2 rfl
        · right; right
          have := sprP_len (P := P) (a := a) (fun e => h0 (len_zero.2 e)) i
          rcases hc with h | h
          · exact absurd h h0
          · omega
      have hsal : (sprP a i).len ≤ 64 := by omega
      obtain ⟨w2, e9, e10⟩ := timesT (P := P) (a := sprP a i) (b := moresecond P b k i) hsal hgl
      rw [e10 hsa, decide_eq_true hsa] at e9
      have hol : (sprP a i * moresecond P b k i).len ≤ 64 := by
        have : (sprP a i * moresecond P b k i).len ≤ (sprP a i).len + (moresecond P b k i).len - 1 := mul_len _ _ _
        rcases hsa with h | h | h
        · rw [len_zero.1 h, ppring.zero_mul, len_zero.2 rfl]; omega
        · omega
        · omega
      obtain ⟨o, ho⟩ : ∃ o, sprP a i * moresecond P b k i = o := ⟨_, rfl⟩
      rw [ho] at hol hsum e9
      obtain ⟨t', ht'⟩ : ∃ t' : PP P, t'.1 = comb P.p t.1 o.1 (sgnsecond i) := ⟨⟨_, comb_row P.pos _ _ _⟩, rfl⟩
      have lt' : t'.len ≤ 64 := by
        have := comb_len P.p t.1 o.1 (sgnsecond i)
        show t'.1.length ≤ 64
        rw [ht']
        have h1 : t.1.length = t.len := rfl
        have h2 : o.1.length = o.len := rfl
        omega
      have hk1 : -1099511627776 ≤ sgnsecond i ∧ sgnsecond i ≤ 1099511627776 := by rcases hsg.2 with h | h <;> rw [h] <;> omega
      have e11 : spec_l01Add P.p (pad t.1) (pad o.1) (sgnsecond i) = some (pad t'.1) := by rw [ht']; exact add_pad P.sm t.2 o.2 lt hol hk1
      have e12 : impl_prime_combine P.p t.1 o.1 (sgnsecond i) = some t'.1 := by rw [ht']; exact combine_is P.sm t.ent o.ent (show t.len ≤ 1000000 by omega) (show o.len ≤ 1000000 by omega) hk1
      have a1 : spec_l10Series_l1 ((k + 1 : Nat) : Int) P.p (pad b.1) (pad (sprP b k * facP P true k).1, v) (pad a.1) true (i : Int) (pad t.1) = some (.inl (true, ((i + 1 : Nat) : Int), pad t'.1)) := by
        unfold spec_l10Series_l1
        rw [if_pos (decide_eq_true (by omega)), e1, Option.bind_some, e3, Option.bind_some, e4, Option.bind_some, e6, Option.bind_some, e8, Option.bind_some, e9, Option.bind_some]
        show (Option.bind (α := (Bool × Int)) (Option.bind (α := (Bool × Bool)) ((if true = true then (some ((true, ((Int.tmod (i : Int) 2) == 1)))) else (some (false, false)))) fun z => match z with | (x434, x435) => (if x435 = true then (some (x434, (-1 : Int))) else (some (x434, (1 : Int))))) fun z => match z with | (x428, x429) => (Option.bind (spec_l01Add P.p (pad t.1) (pad o.1) x429) fun r443 => (some (Sum.inl (x428, IntKind.i64.wrap ((i : Int) + 1), r443)) : Option ((Bool × Int × V64) ⊕ (V64 ⊕ (V64 × V64 × Bool)))))) = _
        rw [hspsg']
        show (Option.bind (spec_l01Add P.p (pad t.1) (pad o.1) (sgnsecond i)) fun r443 => (some (Sum.inl (true, IntKind.i64.wrap ((i : Int) + 1), r443)) : Option ((Bool × Int × V64) ⊕ (V64 ⊕ (V64 × V64 × Bool))))) = _
        rw [e11, wrap64 (by omega) (by omega)]
        rfl
      have a2 : impl_cut_sum_of_s_impl_prime_second_l1 ((k + 1 : Nat) : Int) P.p a.1 b.1 P.p (-1) t.1 (sgnsecond i) (i : Int) = some (.inl (t'.1, sgnsecond (i + 1), ((i + 1 : Nat) : Int))) := by
        simp only [impl_cut_sum_of_s_impl_prime_second_l1, hsum, e12, hsg.1, Option.bind_some, Bool.not_true, Bool.false_eq_true, if_false]
        rw [if_pos (decide_eq_true (by omega)), wrap64 (by omega) (by omega)]
        rfl
      obtain ⟨r, r1, r2, r3⟩ := cutloopsecond hb la lb hk hB v m (i + 1) t' (by omega) lt'
      exact ⟨r, r1, by rw [loopM_eq]; simp only [a1, Option.bind_some]; exact r2, by rw [loopM_eq]; simp only [a2, Option.bind_some]; exact r3⟩
    · rw [if_neg hc] at hsum
      have h0 : a.len ≠ 0 := fun h => hc (.inl h)
      have hcn : 64 < (a.len - 1) * P.n ^ i + (moresecond P b k i).len := by
        rcases Nat.lt_or_ge 64 ((a.len - 1) * P.n ^ i + (moresecond P b k i).len) with h | h
        · exact h
        · exact absurd (.inr h) hc
      have bad : ∃ (q : V64 × Bool) (q2 : V64 × Bool), spec_l04Raise P.p (pad a.1) i = some q ∧ spec_l01Times P.p q.1 (pad (moresecond P b k i).1) = some q2 ∧ (if (!q.2) then some true else some (!q2.2)) = some true := by
        by_cases hr : (a.len - 1) * P.n ^ i ≤ 63
        · rw [if_pos (.inr hr)] at e8
          have hsa := sprP_len (P := P) (a := a) (fun e => h0 (len_zero.2 e)) i
          obtain ⟨w2, e9, _⟩ := timesT (P := P) (a := sprP a i) (b := moresecond P b k i) (by omega) hgl
          refine ⟨_, _, e8, e9, ?_⟩
          rw [decide_eq_false (by omega)]; rfl
        · rw [if_neg (by rintro (h | h); exact h0 h; exact hr h)] at e8
          obtain ⟨w2, e9, _⟩ := timesT (P := P) (a := 0) (b := moresecond P b k i) (by rw [len_zero.2 rfl]; omega) hgl
          have z : pad (0 : PP P).1 = vrep 64 0 := pad_nil
          rw [z] at e9
          exact ⟨_, _, e8, e9, rfl⟩
      obtain ⟨q, q2, b1, b2, b3⟩ := bad
      have a1 : spec_l10Series_l1 ((k + 1 : Nat) : Int) P.p (pad b.1) (pad (sprP b k * facP P true k).1, v) (pad a.1) true (i : Int) (pad t.1) = some (.inr (.inr (vrep 64 0, vrep 64 0, false))) := by
        simp only [spec_l10Series_l1, e1, e3, e4, e6, b1, b2, b3, Option.bind_some]
        rw [if_pos (decide_eq_true (by omega))]; rfl
      have a2 : impl_cut_sum_of_s_impl_prime_second_l1 ((k + 1 : Nat) : Int) P.p a.1 b.1 P.p (-1) t.1 (sgnsecond i) (i : Int) = some (.inr (.inr (vrep 64 0, vrep 64 0, 3))) := by
        simp only [impl_cut_sum_of_s_impl_prime_second_l1, hsum, Option.bind_some]
        rw [if_pos (decide_eq_true (by omega))]; rfl
      exact ⟨none, (fun _ h => by cases h), by rw [loopM_eq]; simp only [a1, Option.bind_some], by rw [loopM_eq]; simp only [a2, Option.bind_some]⟩
end Go.Proofs.Ytkbnegemdlnncaa
/- Which arrays are polynomials, in the reference. -/
namespace Go.Proofs.Ytkbnegemdlnncaa
open Go.Abs

/-- All coefficients lie below p. -/
def Small (p : Int) (a : V64) : Prop := ∀ j, j < 64 → rd a.1 j < p
open Classical in
noncomputable def small (p : Int) (a : V64) : Bool := decide (Small p a)

theorem is_loop {p : Int} {a : V64} (hb : IsB a) : ∀ s : Int, (∃ i : Nat, s = i ∧ i ≤ 64 ∧ ∀ j, j < i → rd a.1 j < p) → ∃ r, loopM (fun s : Int => spec_l01Is_l1 a p s) s = some r ∧ ((r = .inl () ∧ Small p a) ∨ (r = .inr false ∧ ¬ Small p a)) := by
  refine loopM_ind (fun (s : Int) => ∃ i : Nat, s = i ∧ i ≤ 64 ∧ ∀ j, j < i → rd a.1 j < p) (fun (s : Int) (r : Unit ⊕ Bool) => (r = .inl () ∧ Small p a) ∨ (r = .inr false ∧ ¬ Small p a)) (fun s => 64 - s.toNat) ?_
  rintro s ⟨i, rfl, hi, hlt⟩
  by_cases h : i = 64
  · right
    subst h
    exact ⟨.inl (), by simp [spec_l01Is_l1], .inl ⟨rfl, hlt⟩⟩
  · have hbi := hb.rd (show i < 64 by omega)
    by_cases e : rd a.1 i < p
    · left
      refine ⟨((i + 1 : Nat) : Int), ?_, ⟨i + 1, rfl, by omega, fun j hj => ?_⟩, by simp; omega, fun r hr => hr⟩
      · simp only [spec_l01Is_l1]
        rw [if_pos (by simp; omega), ifp_pos (by omega), Int.toNat_natCast, wrap64 (by omega) (by omega), if_neg (by simp; omega), wrap64 (by omega) (by omega)]
        rfl
      · by_cases hj' : j = i
        · rw [hj']; exact e
        · exact hlt j (by omega)
    · right
      refine ⟨.inr false, ?_, .inr ⟨rfl, fun hs => e (hs i (by omega))⟩⟩
      simp only [spec_l01Is_l1]
      rw [if_pos (by simp; omega), ifp_pos (by omega), Int.toNat_natCast, wrap64 (by omega) (by omega), if_pos (by simp; omega)]
theorem is_is {p : Int} {a : V64} (hb : IsB a) : spec_l01Is p a = some (small p a && isP p) := by
  obtain ⟨r, h1, h2⟩ := is_loop (p := p) hb 0 ⟨0, rfl, by omega, fun j hj => by omega⟩
  rcases h2 with ⟨rfl, h⟩ | ⟨rfl, h⟩ <;> simp [spec_l01Is, h1, small, h, isPrime_spec]

theorem res_of_small {p : Int} {a : V64} (hb : IsB a) (h : small p a = true) : Res p a := fun j hj => by
  have h1 : Small p a := by simpa [small] using h
  exact ⟨(hb.rd hj).1, h1 j hj⟩
end Go.Proofs.Ytkbnegemdlnncaa
