/- Own texts, put together. -/
import Derived.Test.YtkbnegemdlnncaaAbsX
import Derived.Test.YtkbnegemdlnncaaFn1
import Derived.Test.YtkbnegemdlnncaaFn2
import Derived.Test.YtkbnegemdlnncaaFn3
import Derived.Test.YtkbnegemdlnncaaFn4
import Derived.Test.YtkbnegemdlnncaaFn5
import Derived.Test.YtkbnegemdlnncaaFn6
set_option linter.unusedSimpArgs false
set_option linter.unusedVariables false
/- Plain facts on loops and wraps. -/
namespace Go.Abs

/-- A loop with a measure ends, and what it leaves. -/
theorem loopM_ind {α β : Type} {body : α → Option (α ⊕ β)} (I : α → Prop) (Post : α → β → Prop) (m : α → Nat)
    (step : ∀ s, I s → (∃ s', body s = some (.inl s') ∧ I s' ∧ m s' < m s ∧ ∀ r, Post s' r → Post s r) ∨ ∃ r, body s = some (.inr r) ∧ Post s r) :
    ∀ s, I s → ∃ r, loopM body s = some r ∧ Post s r := by
  have key : ∀ n s, m s ≤ n → I s → ∃ r, loopM body s = some r ∧ Post s r := by
    intro n
    induction n with
    | zero =>
      intro s hn hs
      rcases step s hs with ⟨s', h1, h2, h3, h4⟩ | ⟨r, h1, h2⟩
      · omega
      · exact ⟨r, by rw [loopM_eq, h1]; rfl, h2⟩
    | succ n ih =>
      intro s hn hs
      rcases step s hs with ⟨s', h1, h2, h3, h4⟩ | ⟨r, h1, h2⟩
      · obtain ⟨r, k1, k2⟩ := ih s' (by omega) h2
        exact ⟨r, by rw [loopM_eq, h1]; exact k1, h4 r k2⟩
      · exact ⟨r, by rw [loopM_eq, h1]; rfl, h2⟩
  exact fun s hs => key (m s) s (Nat.le_refl _) hs

theorem wrap64 {n : Int} (h1 : -9223372036854775808 ≤ n) (h2 : n < 9223372036854775808) : IntKind.i64.wrap n = n := by
  simp only [IntKind.wrap, IntKind.signed, IntKind.bits]
  simp
  omega
theorem wrap8 {n : Int} (h1 : 0 ≤ n) (h2 : n < 256) : IntKind.u8.wrap n = n := by
  simp only [IntKind.wrap, IntKind.signed, IntKind.bits]
  simp
  omega

/-- A loop that counts from i to n. -/
theorem loopM_for {α β σ : Type} {body : α → Option (α ⊕ β)} (at' : Nat → σ → α) (out : σ → β) (n : Nat) (I : Nat → σ → Prop)
    (step : ∀ i s, i < n → I i s → ∃ s', body (at' i s) = some (.inl (at' (i + 1) s')) ∧ I (i + 1) s') (stop : ∀ s, I n s → body (at' n s) = some (.inr (out s))) :
    ∀ (m i : Nat) (s : σ), i + m = n → I i s → ∃ s', loopM body (at' i s) = some (out s') ∧ I n s'
  | 0, i, s, h, hI => by
    have : i = n := by omega
    subst this
    exact ⟨s, by rw [loopM_eq, stop s hI]; rfl, hI⟩
  | m + 1, i, s, h, hI => by
    obtain ⟨s', h1, h2⟩ := step i s (by omega) hI
    obtain ⟨s'', h3, h4⟩ := loopM_for at' out n I step stop m (i + 1) s' (by omega) h2
    exact ⟨s'', by rw [loopM_eq, h1]; exact h3, h4⟩
end Go.Abs
/- Plain facts on arrays of 64 numbers. -/
namespace Go.Abs

abbrev V64 := Vec Int 64
def pad (l : List Int) : V64 := ⟨(List.range 64).map fun j => l.getD j 0, by simp⟩

theorem pad_rd (l : List Int) {j : Nat} (h : j < 64) : rd (pad l).1 j = l.getD j 0 := by
  simp [rd, pad, h]
theorem vec_ext {n : Nat} {a b : Vec Int n} (h : ∀ j, j < n → rd a.1 j = rd b.1 j) : a = b := by
  apply Subtype.ext
  apply List.ext_getElem
  · rw [a.2, b.2]
  · intro j h1 h2
    have := h j (by rw [a.2] at h1; exact h1)
    simpa [rd, h1, h2] using this
theorem rd_vset {n : Nat} (a : Vec Int n) (i j : Nat) (d : Int) (hi : i < n) : rd (vset a i d).1 j = if j = i then d else rd a.1 j := by
  have hl : i < a.1.length := by rw [a.2]; exact hi
  by_cases h : j = i
  · subst h; simp [rd, vset, hl]
  · rw [if_neg h]
    simp [rd, vset, Ne.symm h]
theorem rd_vrep {n : Nat} (j : Nat) (h : j < n) : rd (vrep n (0 : Int)).1 j = 0 := by
  simp [rd, vrep, h]
theorem pad_nil : pad [] = vrep 64 0 := vec_ext fun j h => by rw [pad_rd _ h, rd_vrep _ h]; simp
theorem pad_set (l : List Int) (d : Int) (h : l.length < 64) : vset (pad l) l.length d = pad (l ++ [d]) := by
  refine vec_ext fun j hj => ?_
  rw [rd_vset _ _ _ _ h, pad_rd _ hj, pad_rd _ hj]
  by_cases e : j = l.length
  · subst e; simp
  · rw [if_neg e]
    rcases Nat.lt_or_ge j l.length with h1 | h1
    · simp [h1, List.getElem?_append]
    · have h2 : l.length < j := by omega
      have h3 : (l ++ [d]).length ≤ j := by simp; omega
      rw [List.getD_eq_getElem?_getD, List.getD_eq_getElem?_getD, List.getElem?_eq_none h1, List.getElem?_eq_none h3]

theorem getD_app (l k : List Int) (j : Nat) : (l ++ k).getD j 0 = if j < l.length then l.getD j 0 else k.getD (j - l.length) 0 := by
  simp only [List.getD_eq_getElem?_getD, List.getElem?_append]
  split <;> rfl

/-- Bytes. -/
def Bytes (l : List Int) : Prop := ∀ d ∈ l, 0 ≤ d ∧ d < 256
theorem getD_byte {l : List Int} (h : Bytes l) (j : Nat) : 0 ≤ l.getD j 0 ∧ l.getD j 0 < 256 := by
  rw [List.getD_eq_getElem?_getD]
  cases e : l[j]? with
  | none => simp
  | some d => simp; exact h d (List.mem_of_getElem? e)
end Go.Abs
/- Polynomials: coefficient functions, and rows of coefficients up to the leading one. -/
namespace Go.Abs

/-! How far a row reaches. -/
def top (g : Nat → Int) : Nat → Nat
  | 0 => 0
  | n + 1 => if g n = 0 then top g n else n + 1
theorem top_le (g : Nat → Int) : ∀ n, top g n ≤ n
  | 0 => Nat.le_refl _
  | n + 1 => by simp only [top]; split; exact Nat.le_succ_of_le (top_le g n); exact Nat.le_refl _
theorem top_zero (g : Nat → Int) : ∀ n i, top g n ≤ i → i < n → g i = 0
  | 0, i, _, h => by omega
  | n + 1, i, h1, h2 => by
    simp only [top] at h1
    split at h1
    · rename_i e
      by_cases hi : i = n
      · subst hi; exact e
      · exact top_zero g n i h1 (by omega)
    · omega
theorem top_lead (g : Nat → Int) : ∀ n, top g n ≠ 0 → g (top g n - 1) ≠ 0
  | 0, h => by simp [top] at h
  | n + 1, h => by
    simp only [top] at h ⊢
    split
    · rename_i e; rw [if_pos e] at h; exact top_lead g n h
    · rename_i e; simpa using e
theorem top_congr {f g : Nat → Int} : ∀ n, (∀ i, i < n → f i = g i) → top f n = top g n
  | 0, _ => rfl
  | n + 1, h => by simp only [top]; rw [h n (by omega), top_congr n fun i hi => h i (by omega)]
/-- The leading place is told by what stands there and behind. -/
theorem top_is {g : Nat → Int} {n k : Nat} (hk : k ≤ n) (hz : ∀ i, k ≤ i → i < n → g i = 0) (hl : k ≠ 0 → g (k - 1) ≠ 0) : top g n = k := by
  rcases Nat.lt_trichotomy (top g n) k with h | h | h
  · have := top_zero g n (k - 1) (by omega) (by omega)
    exact absurd this (hl (by omega))
  · exact h
  · have h1 := top_lead g n (by omega)
    have h2 := top_le g n
    exact absurd (hz (top g n - 1) (by omega) (by omega)) h1
theorem top_more {g : Nat → Int} {n m : Nat} (h : n ≤ m) (hz : ∀ i, n ≤ i → i < m → g i = 0) : top g m = top g n :=
  top_is (Nat.le_trans (top_le g n) h) (fun i h1 h2 => by
    by_cases hi : i < n
    · exact top_zero g n i h1 hi
    · exact hz i (by omega) h2) (top_lead g n)

/-! Reading rows. -/
theorem rd_nil (i : Nat) : rd ([] : List Int) i = 0 := by simp [rd]
theorem rd_lt {l : List Int} {i : Nat} (h : i < l.length) : rd l i = l[i] := by simp [rd, h]
theorem rd_ge {l : List Int} {i : Nat} (h : l.length ≤ i) : rd l i = 0 := by simp [rd, h]
theorem rd_mem {l : List Int} {i : Nat} (h : i < l.length) : rd l i ∈ l := by rw [rd_lt h]; exact List.getElem_mem _
theorem rd_ext {a b : List Int} (hl : a.length = b.length) (h : ∀ i, i < a.length → rd a i = rd b i) : a = b := by
  apply List.ext_getElem hl
  intro i h1 h2
  have := h i h1
  rwa [rd_lt h1, rd_lt h2] at this
theorem rd_take (l : List Int) (k i : Nat) : rd (l.take k) i = if i < k then rd l i else 0 := by
  by_cases h : i < k
  · rw [if_pos h]
    by_cases hl : i < l.length
    · rw [rd_lt (by simp; omega), rd_lt hl]; simp
    · rw [rd_ge (by simp; omega), rd_ge (by omega)]
  · rw [if_neg h, rd_ge (by simp; omega)]
theorem rd_app (a b : List Int) (i : Nat) : rd (a ++ b) i = if i < a.length then rd a i else rd b (i - a.length) := by
  have := getD_app a b i
  exact this
theorem rd_set (l : List Int) (k : Nat) (d : Int) (i : Nat) (hk : k < l.length) : rd (l.set k d) i = if i = k then d else rd l i := by
  by_cases h : i = k
  · subst h; simp [rd, hk]
  · rw [if_neg h]; simp [rd, Ne.symm h]
theorem rd_rep (n i : Nat) : rd (List.replicate n (0 : Int)) i = 0 := by
  by_cases h : i < n
  · rw [rd_lt (by simpa using h)]; simp
  · rw [rd_ge (by simp; omega)]
theorem rd_padl (l : List Int) {j : Nat} (h : j < 64) : rd (pad l).1 j = rd l j := by rw [pad_rd _ h]; rfl
theorem rd_map {f : Nat → Int} (n i : Nat) : rd ((List.range n).map f) i = if i < n then f i else 0 := by
  by_cases h : i < n
  · rw [if_pos h, rd_lt (by simpa using h)]; simp
  · rw [if_neg h, rd_ge (by simp; omega)]

/-! Rows of functions. -/
def ofF (n : Nat) (f : Nat → Int) : List Int := (List.range (top f n)).map f
theorem ofF_len (n : Nat) (f : Nat → Int) : (ofF n f).length = top f n := by simp [ofF]
theorem rd_ofF {n : Nat} {f : Nat → Int} (hz : ∀ i, n ≤ i → f i = 0) (i : Nat) : rd (ofF n f) i = f i := by
  rw [ofF, rd_map]
  split
  · rfl
  · by_cases h : i < n
    · exact (top_zero f n i (by omega) h).symm
    · exact (hz i (by omega)).symm
theorem rd_ofF' {n : Nat} {f : Nat → Int} (i : Nat) : rd (ofF n f) i = if i < n then f i else 0 := by
  rw [ofF, rd_map]
  have := top_le f n
  by_cases h : i < n
  · rw [if_pos h]
    split
    · rfl
    · exact (top_zero f n i (by omega) h).symm
  · rw [if_neg h, if_neg (by omega)]
theorem ofF_congr {n : Nat} {f g : Nat → Int} (h : ∀ i, i < n → f i = g i) : ofF n f = ofF n g := by
  have e := top_congr n h
  have := top_le g n
  refine rd_ext (by rw [ofF_len, ofF_len, e]) fun i hi => ?_
  rw [rd_ofF', rd_ofF']
  split
  · exact h i (by assumption)
  · rfl
theorem ofF_more {n m : Nat} {f : Nat → Int} (h : n ≤ m) (hz : ∀ i, n ≤ i → i < m → f i = 0) : ofF m f = ofF n f := by
  simp only [ofF, top_more h hz]
/-- A list without the zeros at its end. -/
theorem trim_eq (l : List Int) : l.take (top (rd l) l.length) = ofF l.length (rd l) := by
  have := top_le (rd l) l.length
  refine rd_ext (by rw [ofF_len]; simp; omega) fun i hi => ?_
  rw [rd_take, rd_ofF']
  simp at hi
  rw [if_pos (by omega), if_pos (by omega)]

/-- The coefficients of a polynomial modulo p, up to the leading one. -/
structure Row (p : Int) (l : List Int) : Prop where
  res : ∀ d ∈ l, 0 ≤ d ∧ d < p
  nrm : l.length ≠ 0 → rd l (l.length - 1) ≠ 0
theorem Row.rd {p : Int} {l : List Int} (h : Row p l) (hp : 0 < p) (i : Nat) : 0 ≤ rd l i ∧ rd l i < p := by
  by_cases hi : i < l.length
  · exact h.res _ (rd_mem hi)
  · rw [rd_ge (by omega)]; exact ⟨Int.le_refl _, hp⟩
theorem Row.bytes {p : Int} {l : List Int} (h : Row p l) (hp : p ≤ 256) : Bytes l := fun d hd => by have := h.res d hd; omega
theorem row_nil (p : Int) : Row p [] := ⟨by simp, by simp⟩
theorem row_ext {p q : Int} {a b : List Int} (ha : Row p a) (hb : Row q b) (h : ∀ i, rd a i = rd b i) : a = b := by
  have hl : a.length = b.length := by
    rcases Nat.lt_trichotomy a.length b.length with h1 | h1 | h1
    · have := hb.nrm (by omega)
      rw [← h, rd_ge (by omega)] at this
      exact absurd rfl this
    · exact h1
    · have := ha.nrm (by omega)
      rw [h, rd_ge (by omega)] at this
      exact absurd rfl this
  exact rd_ext hl fun i _ => h i
theorem row_ofF {p : Int} {n : Nat} {f : Nat → Int} (h : ∀ i, i < n → 0 ≤ f i ∧ f i < p) : Row p (ofF n f) := by
  have hle := top_le f n
  refine ⟨fun d hd => ?_, fun hn => ?_⟩
  · simp only [ofF, List.mem_map, List.mem_range] at hd
    obtain ⟨i, hi, rfl⟩ := hd
    exact h i (by omega)
  · rw [ofF_len] at hn ⊢
    rw [rd_ofF', if_pos (by omega)]
    exact top_lead f n hn
theorem Row.top {p : Int} {l : List Int} (h : Row p l) {n : Nat} (hn : l.length ≤ n) : top (Abs.rd l) n = l.length :=
  top_is hn (fun i h1 _ => rd_ge h1) h.nrm
theorem Row.ofF {p : Int} {l : List Int} (h : Row p l) {n : Nat} (hn : l.length ≤ n) : ofF n (Abs.rd l) = l := by
  refine rd_ext (by rw [ofF_len, h.top hn]) fun i hi => ?_
  rw [rd_ofF fun i hi => rd_ge (by omega)]
theorem Row.trim {p : Int} {l : List Int} (h : Row p l) : l.take (Abs.top (Abs.rd l) l.length) = l := by
  rw [trim_eq, h.ofF (Nat.le_refl _)]

/-! Arrays and rows. -/
def row (v : V64) : List Int := ofF 64 (rd v.1)
/-- Coefficients from 0 to p - 1. -/
def Res (p : Int) (v : V64) : Prop := ∀ j, j < 64 → 0 ≤ rd v.1 j ∧ rd v.1 j < p
theorem row_row {p : Int} {v : V64} (h : Res p v) : Row p (row v) := row_ofF h
theorem row_len (v : V64) : (row v).length ≤ 64 := by rw [row, ofF_len]; exact top_le _ _
theorem pad_row (v : V64) : pad (row v) = v := vec_ext fun j hj => by rw [rd_padl _ hj, row, rd_ofF', if_pos hj]
theorem row_pad {p : Int} {l : List Int} (h : Row p l) (hl : l.length ≤ 64) : row (pad l) = l := by
  rw [row, ofF_congr (g := rd l) fun i hi => rd_padl l hi, h.ofF hl]
theorem res_pad {p : Int} {l : List Int} (h : Row p l) (hp : 0 < p) : Res p (pad l) := fun j hj => by rw [rd_padl _ hj]; exact h.rd hp j
theorem pad_inj {p q : Int} {a b : List Int} (ha : Row p a) (hb : Row q b) (h1 : a.length ≤ 64) (h2 : b.length ≤ 64) (h : pad a = pad b) : a = b := by
  rw [← row_pad ha h1, ← row_pad hb h2, h]

/-! Sums and products of coefficient functions. -/
def sumTo : Nat → (Nat → Int) → Int
  | 0, _ => 0
  | n + 1, f => sumTo n f + f n
theorem sumTo_congr {f g : Nat → Int} : ∀ n, (∀ i, i < n → f i = g i) → sumTo n f = sumTo n g
  | 0, _ => rfl
  | n + 1, h => by simp only [sumTo]; rw [sumTo_congr n fun i hi => h i (by omega), h n (by omega)]
theorem sumTo_zero {f : Nat → Int} : ∀ n, (∀ i, i < n → f i = 0) → sumTo n f = 0
  | 0, _ => rfl
  | n + 1, h => by simp only [sumTo]; rw [sumTo_zero n fun i hi => h i (by omega), h n (by omega)]; rfl
theorem sumTo_more {f : Nat → Int} {n : Nat} : ∀ m, (∀ i, n ≤ i → i < n + m → f i = 0) → sumTo (n + m) f = sumTo n f
  | 0, _ => rfl
  | m + 1, h => by
    rw [← Nat.add_assoc]
    simp only [sumTo]
    rw [sumTo_more m fun i h1 h2 => h i h1 (by omega), h (n + m) (by omega) (by omega), Int.add_zero]
/-- The summand that the first n coefficients give to a product. -/
def cv (a b : Nat → Int) (n k : Nat) : Int := sumTo n fun i => if i ≤ k then a i * b (k - i) else 0
theorem cv_succ (a b : Nat → Int) (n k : Nat) : cv a b (n + 1) k = cv a b n k + (if n ≤ k then a n * b (k - n) else 0) := rfl
def conv (a b : Nat → Int) (k : Nat) : Int := cv a b (k + 1) k
theorem cv_conv {a b : Nat → Int} {n : Nat} (hz : ∀ i, n ≤ i → a i = 0) (k : Nat) : cv a b n k = conv a b k := by
  unfold conv cv
  rcases Nat.le_total n (k + 1) with h | h
  · obtain ⟨m, e⟩ : ∃ m, k + 1 = n + m := ⟨k + 1 - n, by omega⟩
    rw [e]
    refine (sumTo_more m fun i h1 h2 => ?_).symm
    rw [hz i h1]; simp
  · obtain ⟨m, rfl⟩ : ∃ m, n = k + 1 + m := ⟨n - (k + 1), by omega⟩
    exact sumTo_more m fun i h1 h2 => if_neg (by omega)
theorem conv_zero {a b : Nat → Int} {n m : Nat} (ha : ∀ i, n ≤ i → a i = 0) (hb : ∀ i, m ≤ i → b i = 0) {k : Nat} (hk : n + m ≤ k + 1) : conv a b k = 0 := by
  refine sumTo_zero _ fun i hi => ?_
  rw [if_pos (by omega)]
  by_cases h : i < n
  · rw [hb (k - i) (by omega), Int.mul_zero]
  · rw [ha i (by omega), Int.zero_mul]
/-- The leading coefficient of a product. -/
theorem conv_lead {a b : Nat → Int} {n m : Nat} (ha : ∀ i, n < i → a i = 0) (hb : ∀ i, m < i → b i = 0) : conv a b (n + m) = a n * b m := by
  have h1 : conv a b (n + m) = cv a b (n + 1) (n + m) := (cv_conv (fun i hi => ha i (by omega)) _).symm
  rw [h1]
  unfold cv
  simp only [sumTo]
  rw [sumTo_zero n fun i hi => ?_, if_pos (by omega), show n + m - n = m by omega, Int.zero_add]
  rw [if_pos (by omega), hb _ (by omega), Int.mul_zero]

/-! Operations on rows. -/
def comb (p : Int) (a b : List Int) (k : Int) : List Int := ofF (max a.length b.length) fun i => (rd a i + k * rd b i) % p
def mul (p : Int) (a b : List Int) : List Int := ofF (a.length + b.length - 1) fun i => conv (rd a) (rd b) i % p

theorem emod_res {p : Int} (hp : 0 < p) (x : Int) : 0 ≤ x % p ∧ x % p < p := ⟨Int.emod_nonneg _ (by omega), Int.emod_lt_of_pos _ hp⟩
theorem comb_row {p : Int} (hp : 0 < p) (a b : List Int) (k : Int) : Row p (comb p a b k) := row_ofF fun _ _ => emod_res hp _
theorem mul_row {p : Int} (hp : 0 < p) (a b : List Int) : Row p (mul p a b) := row_ofF fun _ _ => emod_res hp _
theorem comb_rd (p : Int) (a b : List Int) (k : Int) (i : Nat) : rd (comb p a b k) i = (rd a i + k * rd b i) % p := by
  refine rd_ofF (fun i hi => ?_) i
  rw [rd_ge (by omega), rd_ge (by omega)]; simp
theorem mul_rd (p : Int) (a b : List Int) (i : Nat) : rd (mul p a b) i = conv (rd a) (rd b) i % p := by
  refine rd_ofF (fun i hi => ?_) i
  rw [conv_zero (n := a.length) (m := b.length) (fun i hi => rd_ge hi) (fun i hi => rd_ge hi) (by omega)]; simp
theorem comb_len (p : Int) (a b : List Int) (k : Int) : (comb p a b k).length ≤ max a.length b.length := by rw [comb, ofF_len]; exact top_le _ _
theorem mul_len (p : Int) (a b : List Int) : (mul p a b).length ≤ a.length + b.length - 1 := by rw [mul, ofF_len]; exact top_le _ _
theorem mul_nil (p : Int) (b : List Int) : mul p [] b = [] := by
  have h : ∀ i, conv (rd []) (rd b) i = 0 := fun i => sumTo_zero _ fun j _ => by rw [rd_nil]; simp
  have : (mul p [] b).length = 0 := by
    rw [mul, ofF_len]
    exact top_is (Nat.zero_le _) (fun i _ _ => by rw [h]; simp) (by simp)
  exact List.eq_nil_of_length_eq_zero this
theorem mul_nil' (p : Int) (a : List Int) : mul p a [] = [] := by
  have h : ∀ i, conv (rd a) (rd []) i = 0 := fun i => sumTo_zero _ fun j _ => by rw [rd_nil]; simp
  have : (mul p a []).length = 0 := by
    rw [mul, ofF_len]
    exact top_is (Nat.zero_le _) (fun i _ _ => by rw [h]; simp) (by simp)
  exact List.eq_nil_of_length_eq_zero this

/-! Small primes. -/
def isP (p : Int) : Bool := p == 2 || p == 3 || p == 5 || p == 7
theorem isP_iff {p : Int} : isP p = true ↔ p = 2 ∨ p = 3 ∨ p = 5 ∨ p = 7 := by
  simp [isP, or_assoc]
theorem isP_pos {p : Int} (h : isP p = true) : 2 ≤ p ∧ p ≤ 7 := by
  rcases isP_iff.1 h with rfl | rfl | rfl | rfl <;> omega
theorem noz2 : ∀ x y : Fin 2, x ≠ 0 → y ≠ 0 → (x.1 * y.1) % 2 ≠ 0 := by decide
theorem noz3 : ∀ x y : Fin 3, x ≠ 0 → y ≠ 0 → (x.1 * y.1) % 3 ≠ 0 := by decide
theorem noz5 : ∀ x y : Fin 5, x ≠ 0 → y ≠ 0 → (x.1 * y.1) % 5 ≠ 0 := by decide
theorem noz7 : ∀ x y : Fin 7, x ≠ 0 → y ≠ 0 → (x.1 * y.1) % 7 ≠ 0 := by decide
theorem noz_of {n : Nat} (hn : 0 < n) (h : ∀ x y : Fin n, x.1 ≠ 0 → y.1 ≠ 0 → (x.1 * y.1) % n ≠ 0) {x y : Int} (hx : 0 < x ∧ x < n) (hy : 0 < y ∧ y < n) : x * y % n ≠ 0 := by
  obtain ⟨a, rfl⟩ : ∃ a : Nat, x = a := ⟨x.toNat, by omega⟩
  obtain ⟨b, rfl⟩ : ∃ b : Nat, y = b := ⟨y.toNat, by omega⟩
  have := h ⟨a, by omega⟩ ⟨b, by omega⟩ (by simp; omega) (by simp; omega)
  simp only at this
  rw [← Int.natCast_mul, ← Int.natCast_emod]
  omega
theorem noz {p : Int} (hp : isP p = true) {x y : Int} (hx : 0 ≤ x ∧ x < p) (hy : 0 ≤ y ∧ y < p) (h1 : x ≠ 0) (h2 : y ≠ 0) : x * y % p ≠ 0 := by
  rcases isP_iff.1 hp with rfl | rfl | rfl | rfl
  · exact noz_of (n := 2) (by omega) (fun x y a b => noz2 x y (fun e => a (by rw [e]; rfl)) (fun e => b (by rw [e]; rfl))) ⟨by omega, hx.2⟩ ⟨by omega, hy.2⟩
  · exact noz_of (n := 3) (by omega) (fun x y a b => noz3 x y (fun e => a (by rw [e]; rfl)) (fun e => b (by rw [e]; rfl))) ⟨by omega, hx.2⟩ ⟨by omega, hy.2⟩
  · exact noz_of (n := 5) (by omega) (fun x y a b => noz5 x y (fun e => a (by rw [e]; rfl)) (fun e => b (by rw [e]; rfl))) ⟨by omega, hx.2⟩ ⟨by omega, hy.2⟩
  · exact noz_of (n := 7) (by omega) (fun x y a b => noz7 x y (fun e => a (by rw [e]; rfl)) (fun e => b (by rw [e]; rfl))) ⟨by omega, hx.2⟩ ⟨by omega, hy.2⟩
theorem mul_len_is {p : Int} (hp : isP p = true) {a b : List Int} (ha : Row p a) (hb : Row p b) (h1 : a.length ≠ 0) (h2 : b.length ≠ 0) : (mul p a b).length = a.length + b.length - 1 := by
  have hp2 := isP_pos hp
  rw [mul, ofF_len]
  refine top_is (Nat.le_refl _) (fun i h3 h4 => by omega) fun _ => ?_
  have e : a.length + b.length - 1 - 1 = (a.length - 1) + (b.length - 1) := by omega
  rw [e, conv_lead (fun i hi => rd_ge (by omega)) (fun i hi => rd_ge (by omega))]
  exact noz hp (ha.rd (by omega) _) (hb.rd (by omega) _) (ha.nrm h1) (hb.nrm h2)
end Go.Abs
/- The polynomial T. -/
namespace Go.Proofs.Ytkbnegemdlnncaa
open Go.Abs

theorem row_T {p : Int} (hp : 2 ≤ p) : Row p [0, 1] := ⟨by simp; omega, by simp [rd]⟩
theorem T_is : spec_l01T = some (pad [0, 1]) := by
  unfold spec_l01T
  congr 1
end Go.Proofs.Ytkbnegemdlnncaa
/- Numbers modulo p. -/
namespace Go.Proofs.Ytkbnegemdlnncaa
open Go.Abs

theorem tmod_fix {n p : Int} (hp : 0 < p) : Int.tmod (Int.tmod n p + p) p = n % p := by
  have h1 := Int.lt_tmod_of_pos n hp
  rw [Int.tmod_eq_emod_of_nonneg (by omega), Int.tmod_def, Int.add_emod_right, Int.sub_mul_emod_self_left]

/-- Numbers that are small. -/
def Ent (l : List Int) : Prop := ∀ i, 0 ≤ rd l i ∧ rd l i < 256

theorem _root_.Go.Abs.Row.ent {p : Int} {l : List Int} (h : Row p l) (hp : 0 < p ∧ p ≤ 256) : Ent l := fun i => by have := h.rd hp.1 i; omega

def V64.Ent (v : V64) : Prop := ∀ i, i < 64 → 0 ≤ rd v.1 i ∧ rd v.1 i < 256

theorem mulk {x k : Int} (hx : 0 ≤ x ∧ x < 256) (hk : -1099511627776 ≤ k ∧ k ≤ 1099511627776) : -281474976710656 ≤ k * x ∧ k * x ≤ 281474976710656 := by
  have h1 : (-1099511627776) * x ≤ k * x := Int.mul_le_mul_of_nonneg_right hk.1 hx.1
  have h2 : k * x ≤ 1099511627776 * x := Int.mul_le_mul_of_nonneg_right hk.2 hx.1
  omega

theorem _root_.Go.Abs.Res.ent {p : Int} {v : V64} (h : Res p v) (hp : p ≤ 256) : V64.Ent v := fun i hi => by have := h i hi; omega

theorem ent_pad {p : Int} {l : List Int} (h : Row p l) (hp : 0 < p ∧ p ≤ 256) : V64.Ent (pad l) := Res.ent (res_pad h hp.1) hp.2

theorem mul_small {x y : Int} (hx : 0 ≤ x ∧ x < 256) (hy : 0 ≤ y ∧ y < 256) : 0 ≤ x * y ∧ x * y ≤ 65025 :=
  ⟨Int.mul_nonneg hx.1 hy.1, Int.mul_le_mul (c := 255) (d := 255) (by omega) (by omega) hy.1 (by omega)⟩
end Go.Proofs.Ytkbnegemdlnncaa
/- One. -/
namespace Go.Proofs.Ytkbnegemdlnncaa
open Go.Abs

theorem row_one {p : Int} (hp : 2 ≤ p) : Row p [1] := ⟨by simp; omega, by simp [rd]⟩
theorem one_is : spec_l01One = some (pad [1]) := by
  unfold spec_l01One
  congr 1
end Go.Proofs.Ytkbnegemdlnncaa
/- Primes. -/
namespace Go.Proofs.Ytkbnegemdlnncaa
open Go.Abs

theorem isPrime_spec (p : Int) : spec_l01Prime p = some (isP p) := by
  unfold spec_l01Prime isP
  by_cases h1 : p = 2 <;> by_cases h2 : p = 3 <;> by_cases h3 : p = 5 <;> simp [h1, h2, h3]

theorem isPrime_impl (p : Int) : impl_isPrime p = some (isP p) := by
  unfold impl_isPrime isP
  by_cases h1 : p = 2 <;> by_cases h2 : p = 3 <;> by_cases h3 : p = 5 <;> simp [h1, h2, h3]
end Go.Proofs.Ytkbnegemdlnncaa
/- Powers of p; one. -/
namespace Go.Proofs.Ytkbnegemdlnncaa
open Go.Abs

theorem ppow_pos {p : Nat} (hp : 2 ≤ p) (n : Nat) : 1 ≤ p ^ n := Nat.one_le_pow _ _ (by omega)
theorem ppow_mono {p : Nat} (hp : 2 ≤ p) {n m : Nat} (h : n ≤ m) : p ^ n ≤ p ^ m := Nat.pow_le_pow_right (by omega) h
/-- p to a power, at most a bit more than a limit. -/
theorem norm_is {p n most : Nat} (hp : 2 ≤ p ∧ p ≤ 7) (hn : n ≤ 1000000) (hm : most ≤ 1152921504606846976) : ∃ c : Nat, impl_prime_norm p n most = some (c : Int) ∧ ((p ^ n ≤ most ∧ c = p ^ n) ∨ (most < p ^ n ∧ most < c)) ∧ c ≤ 8070450532247928832 := by
  have key : ∀ (m i : Nat), i + m = n → (i = 0 ∨ p ^ (i - 1) ≤ most) → ∃ c : Nat, loopM (fun s : Int × Int => impl_prime_norm_l1 (n : Int) (most : Int) p s.1 s.2) (((p ^ i : Nat) : Int), (i : Int)) = some (c : Int) ∧ ((p ^ n ≤ most ∧ c = p ^ n) ∨ (most < p ^ n ∧ most < c)  ∨ (n = i ∧ c = p ^ n)) ∧ c ≤ 8070450532247928832 := by
    intro m
    induction m with
    | zero =>
      intro i hi hle
      have : i = n := by omega
      subst this
      have step : impl_prime_norm_l1 (i : Int) (most : Int) p ((p ^ i : Nat) : Int) (i : Int) = some (.inr ((p ^ i : Nat) : Int)) := by
        simp only [impl_prime_norm_l1]
        rw [if_neg (by rw [decide_eq_true_eq]; omega)]
      rw [loopM_eq]
      simp only [step, Option.bind_some]
      refine ⟨p ^ i, rfl, ?_, ?_⟩
      · exact .inr (.inr (by simp))
      · rcases hle with rfl | hle
        · simp
        · rcases Nat.eq_zero_or_pos i with rfl | h
          · simp
          · have : p ^ i = p ^ (i - 1) * p := by rw [← Nat.pow_succ]; congr 1; omega
            rw [this]
            have := Nat.mul_le_mul hle hp.2
            omega
    | succ m ih =>
      intro i hi hle
      have hmono := ppow_mono hp.1 (show i ≤ n by omega)
      by_cases h : most < p ^ i
      · have step : impl_prime_norm_l1 (n : Int) (most : Int) p ((p ^ i : Nat) : Int) (i : Int) = some (.inr ((p ^ i : Nat) : Int)) := by
          simp only [impl_prime_norm_l1]
          rw [if_pos (decide_eq_true (by omega)), if_pos (decide_eq_true (by omega))]
        rw [loopM_eq]
        simp only [step, Option.bind_some]
        refine ⟨p ^ i, rfl, .inr (.inl ⟨by omega, h⟩), ?_⟩
        rcases hle with rfl | hle
        · simp
        · rcases Nat.eq_zero_or_pos i with rfl | h
          · simp
          · have : p ^ i = p ^ (i - 1) * p := by rw [← Nat.pow_succ]; congr 1; omega
            rw [this]
            have := Nat.mul_le_mul hle hp.2
            omega
      · have hle2 := Nat.mul_le_mul (show p ^ i ≤ most by omega) hp.2
        have e1 : ((p ^ i : Nat) : Int) * (p : Int) = ((p ^ (i + 1) : Nat) : Int) := by rw [Nat.pow_succ, Int.natCast_mul]
        have e2 : p ^ (i + 1) = p ^ i * p := Nat.pow_succ ..
        have step : impl_prime_norm_l1 (n : Int) (most : Int) p ((p ^ i : Nat) : Int) (i : Int) = some (.inl (((p ^ (i + 1) : Nat) : Int), ((i + 1 : Nat) : Int))) := by
          simp only [impl_prime_norm_l1]
          rw [if_pos (decide_eq_true (by omega)), if_neg (by rw [decide_eq_true_eq]; omega), e1, wrap64 (n := ((p ^ (i + 1) : Nat) : Int)) (by omega) (by omega), wrap64 (by omega) (by omega)]
          rfl
        rw [loopM_eq]
        simp only [step, Option.bind_some]
        obtain ⟨c, h1, h2, h3⟩ := ih (i + 1) (by omega) (.inr (by simp only [Nat.add_sub_cancel]; omega))
        refine ⟨c, h1, ?_, h3⟩
        rcases h2 with h2 | h2 | ⟨h2, h4⟩
        · exact .inl h2
        · exact .inr (.inl h2)
        · by_cases h5 : p ^ n ≤ most
          · exact .inl ⟨h5, h4⟩
          · exact .inr (.inl ⟨by omega, by omega⟩)
  obtain ⟨c, h1, h2, h3⟩ := key n 0 (by omega) (.inl rfl)
  simp only [Nat.pow_zero] at h1
  refine ⟨c, ?_, ?_, h3⟩
  · have h1' : loopM (fun s : Int × Int => impl_prime_norm_l1 (n : Int) (most : Int) p s.1 s.2) (1, 0) = some (c : Int) := h1
    simp only [impl_prime_norm, h1', Option.bind_some]
  · rcases h2 with h2 | h2 | ⟨h2, h4⟩
    · exact .inl h2
    · exact .inr h2
    · by_cases h5 : p ^ n ≤ most
      · exact .inl ⟨h5, h4⟩
      · exact .inr ⟨by omega, by omega⟩
end Go.Proofs.Ytkbnegemdlnncaa
/- Degrees. -/
namespace Go.Proofs.Ytkbnegemdlnncaa
open Go.Abs

theorem deg_loop (a : V64) : ∀ s : Int, (∃ i : Nat, s = (i : Int) - 1 ∧ i ≤ 64) → ∃ r, loopM (fun s : Int => spec_l01Deg_l1 a s) s = some r ∧ ∀ i : Nat, s = (i : Int) - 1 → r = (top (rd a.1) i : Int) - 1 := by
  refine loopM_ind (fun (s : Int) => ∃ i : Nat, s = (i : Int) - 1 ∧ i ≤ 64) (fun (s : Int) (r : Int) => ∀ i : Nat, s = (i : Int) - 1 → r = (top (rd a.1) i : Int) - 1) (fun s => (s + 1).toNat) ?_
  rintro s ⟨i, rfl, hi⟩
  match i with
  | 0 =>
    right
    refine ⟨-1, by simp [spec_l01Deg_l1], fun k hk => ?_⟩
    have : k = 0 := by omega
    subst this; simp [top]
  | i + 1 =>
    have e1 : ((i + 1 : Nat) : Int) - 1 = (i : Int) := by omega
    rw [e1]
    by_cases e : rd a.1 i = 0
    · left
      refine ⟨(i : Int) - 1, ?_, ⟨i, rfl, by omega⟩, by omega, fun r hr k hk => ?_⟩
      · simp only [spec_l01Deg_l1]
        rw [if_pos (by simp), ifp_pos (by omega)]
        simp [e]
        exact wrap64 (by omega) (by omega)
      · have : k = i + 1 := by omega
        subst this
        rw [hr i rfl]; simp [top, e]
    · right
      refine ⟨(i : Int), ?_, fun k hk => ?_⟩
      · simp only [spec_l01Deg_l1]
        rw [if_pos (by simp), ifp_pos (by omega)]
        simp [e]
      · have : k = i + 1 := by omega
        subst this
        simp [top, e]

theorem deg_is (a : V64) : spec_l01Deg a = some ((top (rd a.1) 64 : Int) - 1) := by
  obtain ⟨r, h1, h2⟩ := deg_loop a 63 ⟨64, by omega, by omega⟩
  rw [h2 64 (by omega)] at h1
  simp only [spec_l01Deg, h1, Option.bind_some]
end Go.Proofs.Ytkbnegemdlnncaa
/- Products, in the reference. -/
namespace Go.Proofs.Ytkbnegemdlnncaa
open Go.Abs

/-- One row of the reference's product. -/
theorem timesS_row {p : Int} (hp : 2 ≤ p ∧ p ≤ 256) {a b : V64} (ha : Res p a) (hb : Res p b) {i db : Nat} (hi : i + db < 64) {v : V64} (hv : Res p v) :
    ∃ v', loopM (fun s : Int × V64 => spec_l01Times_l2 (db : Int) (i : Int) a b p s.1 s.2) (0, v) = some v' ∧ Res p v' ∧ ∀ k, k < 64 → rd v'.1 k = if i ≤ k ∧ k ≤ i + db then (rd v.1 k + rd a.1 i * rd b.1 (k - i)) % p else rd v.1 k := by
  by_cases h0 : rd a.1 i = 0
  · refine ⟨v, ?_, hv, fun k hk => ?_⟩
    · rw [loopM_eq]
      simp only [spec_l01Times_l2]
      rw [ifp_pos (by omega)]
      simp [h0]
    · rw [h0]
      split
      · have := hv k hk
        rw [Int.zero_mul, Int.add_zero, Int.emod_eq_of_lt this.1 this.2]
      · rfl
  · have hai := ha i (by omega)
    obtain ⟨v', h1, h2, h3⟩ := loopM_for (body := fun s : Int × V64 => spec_l01Times_l2 (db : Int) (i : Int) a b p s.1 s.2) (fun j (v : V64) => ((j : Int), v)) (fun v => v) (db + 1)
      (fun j u => Res p u ∧ ∀ k, k < 64 → rd u.1 k = if i ≤ k ∧ k < i + j then (rd v.1 k + rd a.1 i * rd b.1 (k - i)) % p else rd v.1 k) (fun j u hj hI => by
        obtain ⟨hr, hk⟩ := hI
        have hbj := hb j (by omega)
        have huj := hr (i + j) (by omega)
        have e1 : IntKind.i64.wrap ((i : Int) + (j : Int)) = ((i + j : Nat) : Int) := by rw [wrap64 (by omega) (by omega)]; omega
        have hm := mul_small (x := rd a.1 i) (y := rd b.1 j) (by omega) (by omega)
        have hmod : Int.tmod (rd u.1 (i + j) + rd a.1 i * rd b.1 j) p = (rd u.1 (i + j) + rd a.1 i * rd b.1 j) % p := Int.tmod_eq_emod_of_nonneg (by omega)
        have hlt := emod_res (show 0 < p by omega) (rd u.1 (i + j) + rd a.1 i * rd b.1 j)
        refine ⟨vset u (i + j) ((rd u.1 (i + j) + rd a.1 i * rd b.1 j) % p), ?_, fun k hk' => ?_, fun k hk' => ?_⟩
        · simp only [spec_l01Times_l2, letp]
          rw [if_pos (by simp; omega), ifp_pos (by omega)]
          simp only [Option.bind_some]
          rw [if_pos (by simpa using h0), e1]
          rw [ifp_pos (by omega), ifp_pos (by omega), ifp_pos (by omega), ifp_pos (by omega), ifp_pos (by omega)]
          simp only [Int.toNat_natCast]
          rw [wrap64 (n := rd u.1 (i + j)) (by omega) (by omega), wrap64 (n := rd a.1 i) (by omega) (by omega), wrap64 (n := rd b.1 j) (by omega) (by omega), wrap64 (n := rd a.1 i * rd b.1 j) (by omega) (by omega), wrap64 (n := rd u.1 (i + j) + rd a.1 i * rd b.1 j) (by omega) (by omega), hmod, wrap8 hlt.1 (by omega), wrap64 (by omega) (by omega)]
          rfl
        · rw [rd_vset _ _ _ _ (by omega)]
          split
          · exact hlt
          · exact hr k hk'
        · rw [rd_vset _ _ _ _ (by omega)]
          by_cases e : k = i + j
          · subst e
            rw [if_pos rfl, if_pos (by omega), hk _ hk', if_neg (by omega), show i + j - i = j by omega]
          · rw [if_neg e, hk k hk']
            by_cases hc : i ≤ k ∧ k < i + j
            · rw [if_pos hc, if_pos (by omega)]
            · rw [if_neg hc, if_neg (by omega)]) (fun u hI => by
        simp only [spec_l01Times_l2]
        rw [if_neg (by simp; omega)]
        rfl) (db + 1) 0 v (by omega) ⟨hv, fun k hk => by rw [if_neg (by omega)]⟩
    exact ⟨v', h1, h2, fun k hk => by rw [h3 k hk]; simp only [show (i ≤ k ∧ k < i + (db + 1)) = (i ≤ k ∧ k ≤ i + db) from by rw [eq_iff_iff]; omega]⟩


theorem times_pad {p : Int} (hp : 2 ≤ p ∧ p ≤ 256) {a b : List Int} (ha : Row p a) (hb : Row p b) (la : a.length ≤ 64) (lb : b.length ≤ 64) (hl : a.length = 0 ∨ b.length = 0 ∨ a.length + b.length ≤ 65) :
    spec_l01Times p (pad a) (pad b) = some (pad (mul p a b), true) := by
  have hta : top (rd (pad a).1) 64 = a.length := by rw [top_congr 64 fun i hi => rd_padl a hi, ha.top la]
  have htb : top (rd (pad b).1) 64 = b.length := by rw [top_congr 64 fun i hi => rd_padl b hi, hb.top lb]
  simp only [spec_l01Times, deg_is, Option.bind_some, hta, htb]
  by_cases h1 : a.length = 0
  · have e : a = [] := List.eq_nil_of_length_eq_zero h1
    subst e
    simp [mul_nil, pad_nil]
  by_cases h2 : b.length = 0
  · have e : b = [] := List.eq_nil_of_length_eq_zero h2
    subst e
    simp [mul_nil', pad_nil]
  have hra := res_pad ha (show 0 < p by omega)
  have hrb := res_pad hb (show 0 < p by omega)
  obtain ⟨db, hdb⟩ : ∃ db : Nat, b.length = db + 1 := ⟨b.length - 1, by omega⟩
  obtain ⟨da, hda⟩ : ∃ da : Nat, a.length = da + 1 := ⟨a.length - 1, by omega⟩
  have e1 : ((a.length : Nat) : Int) - 1 = (da : Int) := by omega
  have e2 : ((b.length : Nat) : Int) - 1 = (db : Int) := by omega
  rw [e1, e2, wrap64 (by omega) (by omega)]
  simp only [show (decide ((da : Int) < 0)) = false by simp, Bool.false_eq_true, if_false, show (decide ((db : Int) < 0)) = false by simp, show (decide ((da : Int) + (db : Int) > 63)) = false by simp; omega, Option.bind_some]
  obtain ⟨v, h3, h4, h5⟩ := loopM_for (body := fun s : Int × V64 => spec_l01Times_l1 (da : Int) (db : Int) (pad a) (pad b) p s.1 s.2) (fun i v => ((i : Int), v)) (fun v => v) (da + 1)
    (fun i v => Res p v ∧ ∀ k, k < 64 → rd v.1 k = cv (rd a) (rd b) i k % p) (fun i v hi hI => by
      obtain ⟨hv, hk⟩ := hI
      obtain ⟨v', g1, g2, g3⟩ := timesS_row hp hra hrb (i := i) (db := db) (by omega) hv
      refine ⟨v', ?_, g2, fun k hk' => ?_⟩
      · simp only [spec_l01Times_l1]
        rw [if_pos (by simp; omega), g1]
        simp only [Option.bind_some]
        rw [wrap64 (by omega) (by omega)]; rfl
      · rw [g3 k hk', hk k hk', cv_succ]
        by_cases hc : i ≤ k ∧ k ≤ i + db
        · rw [if_pos hc, if_pos hc.1, rd_padl _ (by omega), rd_padl _ (by omega), Int.emod_add_emod]
        · rw [if_neg hc]
          by_cases hik : i ≤ k
          · rw [if_pos hik, rd_ge (l := b) (by omega), Int.mul_zero, Int.add_zero]
          · rw [if_neg hik, Int.add_zero]) (fun v hI => by
      simp only [spec_l01Times_l1]
      rw [if_neg (by simp; omega)]) (da + 1) 0 (vrep 64 0) (by omega) ⟨fun j hj => by rw [rd_vrep _ hj]; omega, fun k hk => by rw [rd_vrep _ hk]; simp [cv, sumTo]⟩
  have h3' : loopM (fun s : Int × V64 => spec_l01Times_l1 (da : Int) (db : Int) (pad a) (pad b) p s.1 s.2) (0, vrep 64 0) = some v := h3
  rw [h3']
  simp only [Option.bind_some]
  congr 2
  exact vec_ext fun k hk => by rw [h5 k hk, rd_padl _ hk, mul_rd, cv_conv fun i hi => rd_ge (by omega)]

theorem times_pad_no {p : Int} {a b : List Int} (ha : Row p a) (hb : Row p b) (la : a.length ≤ 64) (lb : b.length ≤ 64) (h1 : a.length ≠ 0) (h2 : b.length ≠ 0) (hl : 65 < a.length + b.length) :
    spec_l01Times p (pad a) (pad b) = some (vrep 64 0, false) := by
  have hta : top (rd (pad a).1) 64 = a.length := by rw [top_congr 64 fun i hi => rd_padl a hi, ha.top la]
  have htb : top (rd (pad b).1) 64 = b.length := by rw [top_congr 64 fun i hi => rd_padl b hi, hb.top lb]
  simp only [spec_l01Times, deg_is, Option.bind_some, hta, htb]
  rw [wrap64 (by omega) (by omega)]
  simp only [show (decide (((a.length : Nat) : Int) - 1 < 0)) = false by simp; omega, Bool.false_eq_true, if_false, show (decide (((b.length : Nat) : Int) - 1 < 0)) = false by simp; omega, show (decide (((a.length : Nat) : Int) - 1 + (((b.length : Nat) : Int) - 1) > 63)) = true by simp; omega, Option.bind_some, if_true]
end Go.Proofs.Ytkbnegemdlnncaa
/- Rows without the zeros at their ends. -/
namespace Go.Proofs.Ytkbnegemdlnncaa
open Go.Abs

def IsB (v : V64) : Prop := ∀ d ∈ v.1, 0 ≤ d ∧ d < 256

theorem IsB.rd {v : V64} (h : IsB v) {j : Nat} (hj : j < 64) : 0 ≤ rd v.1 j ∧ rd v.1 j < 256 := by
  have hl : j < v.1.length := by rw [v.2]; exact hj
  have : Abs.rd v.1 j = v.1[j] := by simp [Abs.rd, hl]
  rw [this]; exact h _ (List.getElem_mem _)

theorem trimmed_loop {l : List Int} (hl : l.length ≤ 1000000) : ∀ s : Int, (∃ i : Nat, s = i ∧ i ≤ l.length) → ∃ r, loopM (fun s : Int => impl_row_trimmed_l1 l s) s = some r ∧ ∀ i : Nat, s = i → r = (top (rd l) i : Int) := by
  refine loopM_ind (fun (s : Int) => ∃ i : Nat, s = i ∧ i ≤ l.length) (fun (s : Int) (r : Int) => ∀ i : Nat, s = i → r = (top (rd l) i : Int)) (fun s => s.toNat) ?_
  rintro s ⟨i, rfl, hi⟩
  match i with
  | 0 =>
    right
    refine ⟨0, by simp [impl_row_trimmed_l1], fun k hk => ?_⟩
    have : k = 0 := by omega
    subst this; simp [top]
  | i + 1 =>
    have e1 : IntKind.i64.wrap (((i + 1 : Nat) : Int) - 1) = (i : Int) := by rw [wrap64 (by omega) (by omega)]; omega
    by_cases e : rd l i = 0
    · left
      refine ⟨(i : Int), ?_, ⟨i, rfl, by omega⟩, by omega, fun r hr k hk => ?_⟩
      · simp only [impl_row_trimmed_l1, e1]
        rw [if_pos (by simp), ifp_pos (by omega)]
        simp [e]
      · have : k = i + 1 := by omega
        subst this
        rw [hr i rfl]; simp [top, e]
    · right
      refine ⟨((i + 1 : Nat) : Int), ?_, fun k hk => ?_⟩
      · simp only [impl_row_trimmed_l1, e1]
        rw [if_pos (by simp), ifp_pos (by omega)]
        simp [e]
      · have : k = i + 1 := by omega
        subst this
        simp [top, e]

theorem trimmed_is {l : List Int} (hl : l.length ≤ 1000000) : impl_row_trimmed l = some (l.take (top (rd l) l.length)) := by
  obtain ⟨r, h1, h2⟩ := trimmed_loop hl (l.length : Nat) ⟨l.length, rfl, Nat.le_refl _⟩
  rw [h2 _ rfl] at h1
  have := top_le (rd l) l.length
  simp only [impl_row_trimmed, h1, Option.bind_some]
  rw [ifp_pos (by omega)]
  simp

theorem rowOf_loop {a : V64} (hb : IsB a) : ∀ s : Int × List Int, (∃ i : Nat, s.1 = i ∧ i ≤ 64 ∧ s.2 = a.1.take i) → ∃ r, loopM (fun s : Int × List Int => impl_rowOf_l1 a s.1 s.2) s = some r ∧ r = a.1 := by
  refine loopM_ind (fun (s : Int × List Int) => ∃ i : Nat, s.1 = i ∧ i ≤ 64 ∧ s.2 = a.1.take i) (fun (s : Int × List Int) (r : List Int) => r = a.1) (fun (s : Int × List Int) => 64 - s.1.toNat) ?_
  rintro ⟨x, v⟩ ⟨i, hx, hi, hv⟩
  simp only at hx hv
  subst hx hv
  by_cases h : i = 64
  · right
    subst h
    exact ⟨a.1, by simp [impl_rowOf_l1, List.take_of_length_le (Nat.le_of_eq a.2)], rfl⟩
  · left
    have hil : i < a.1.length := by rw [a.2]; omega
    have er : rd a.1 i = a.1[i] := by simp [rd, hil]
    have hbi := hb.rd (show i < 64 by omega)
    refine ⟨(((i + 1 : Nat) : Int), a.1.take (i + 1)), ?_, ⟨i + 1, rfl, by omega, rfl⟩, by simp; omega, fun r hr => hr⟩
    simp only [impl_rowOf_l1]
    rw [if_pos (by simp; omega), ifp_pos (by omega), ifp_pos (by simp; omega)]
    rw [Int.toNat_natCast, wrap64 (by omega) (by omega), wrap64 (by omega) (by omega), er, List.take_succ_eq_append_getElem hil]
    simp

theorem rowOf_is {a : V64} (hb : IsB a) : impl_rowOf a = some (a.1.take (top (rd a.1) 64)) := by
  obtain ⟨r, h1, h2⟩ := rowOf_loop hb (0, []) ⟨0, rfl, by omega, by simp⟩
  subst h2
  have h3 := trimmed_is (l := a.1) (by rw [a.2]; omega)
  rw [a.2] at h3
  simp only [impl_rowOf, h1, Option.bind_some, h3]
end Go.Proofs.Ytkbnegemdlnncaa
/- Products, in the program. -/
namespace Go.Proofs.Ytkbnegemdlnncaa
open Go.Abs


theorem cv_small {a b : Nat → Int} (ha : ∀ i, 0 ≤ a i ∧ a i < 256) (hb : ∀ i, 0 ≤ b i ∧ b i < 256) (k : Nat) : ∀ n : Nat, 0 ≤ cv a b n k ∧ cv a b n k ≤ n * 65025
  | 0 => by simp [cv, sumTo]
  | n + 1 => by
    rw [cv_succ]
    have h1 := cv_small ha hb k n
    have h2 := mul_small (ha n) (hb (k - n))
    split <;> omega

/-- The program's product. -/
theorem times_is {p : Int} (hp : 2 ≤ p ∧ p ≤ 256) {a b : List Int} (ha : Ent a) (hb : Ent b) (la : a.length ≤ 500000) (lb : b.length ≤ 500000) : impl_prime_times p a b = some (mul p a b) := by
  simp only [impl_prime_times, letp]
  by_cases h1 : a.length = 0
  · have e : a = [] := List.eq_nil_of_length_eq_zero h1
    subst e
    simp [mul_nil]
  by_cases h2 : b.length = 0
  · have e : b = [] := List.eq_nil_of_length_eq_zero h2
    subst e
    simp [mul_nil']
  obtain ⟨n, hn⟩ : ∃ n : Nat, n = a.length + b.length - 1 := ⟨_, rfl⟩
  have e0 : IntKind.i64.wrap (IntKind.i64.wrap ((a.length : Int) + (b.length : Int)) - 1) = (n : Int) := by
    rw [wrap64 (n := (a.length : Int) + (b.length : Int)) (by omega) (by omega), wrap64 (by omega) (by omega)]; omega
  rw [e0]
  have c1 : (if ((a.length : Int) == 0) = true then some true else some ((b.length : Int) == 0)) = some false := by
    rw [if_neg (by rw [beq_iff_eq]; omega)]
    congr 1
    rw [beq_eq_false_iff_ne]; omega
  rw [c1]
  simp only [Bool.false_eq_true, if_false, Option.bind_some, Int.toNat_natCast]
  rw [ifp_pos (by omega)]
  -- one row
  have hrow : ∀ (i : Nat) (s : List Int), i < a.length → s.length = n → (∀ k, rd s k = cv (rd a) (rd b) i k) →
      ∃ s', loopM (fun s : Int × List Int => impl_prime_times_l2 b (i : Int) a s.1 s.2) (0, s) = some s' ∧ s'.length = n ∧ ∀ k, rd s' k = cv (rd a) (rd b) (i + 1) k := by
    intro i s hi hsl hs
    have hai := ha i
    obtain ⟨s', g1, g2, g3⟩ := loopM_for (body := fun s : Int × List Int => impl_prime_times_l2 b (i : Int) a s.1 s.2) (fun j (u : List Int) => ((j : Int), u)) (fun u => u) b.length
      (fun j u => u.length = n ∧ ∀ k, rd u k = if i ≤ k ∧ k < i + j then cv (rd a) (rd b) (i + 1) k else cv (rd a) (rd b) i k) (fun j u hj hI => by
        obtain ⟨hul, hu⟩ := hI
        have hbj := hb j
        have hm := mul_small hai hbj
        have hc := cv_small ha hb (i + j) i
        have e1 : IntKind.i64.wrap ((i : Int) + (j : Int)) = ((i + j : Nat) : Int) := by rw [wrap64 (by omega) (by omega)]; omega
        have huj := hu (i + j)
        rw [if_neg (by omega)] at huj
        have e2 : cv (rd a) (rd b) (i + 1) (i + j) = cv (rd a) (rd b) i (i + j) + rd a i * rd b j := by
          rw [cv_succ, if_pos (by omega), show i + j - i = j by omega]
        refine ⟨u.set (i + j) (cv (rd a) (rd b) (i + 1) (i + j)), ?_, by simpa using hul, fun k => ?_⟩
        · simp only [impl_prime_times_l2, letp]
          rw [if_pos (by simp; omega), e1]
          rw [ifp_pos (by omega), ifp_pos (by omega), ifp_pos (by omega)]
          simp only [Int.toNat_natCast]
          rw [huj, wrap64 (n := rd a i * rd b j) (by omega) (by omega), wrap64 (n := cv (rd a) (rd b) i (i + j) + rd a i * rd b j) (by omega) (by omega), wrap64 (by omega) (by omega), e2]
          rfl
        · rw [rd_set _ _ _ _ (by omega)]
          by_cases e : k = i + j
          · subst e
            rw [if_pos rfl, if_pos (by omega)]
          · rw [if_neg e, hu k]
            by_cases hc : i ≤ k ∧ k < i + j
            · rw [if_pos hc, if_pos (by omega)]
            · rw [if_neg hc, if_neg (by omega)]) (fun u hI => by
        simp only [impl_prime_times_l2]
        rw [if_neg (by simp)]) b.length 0 s (by omega) ⟨hsl, fun k => by rw [hs k, if_neg (by omega)]⟩
    refine ⟨s', g1, g2, fun k => ?_⟩
    rw [g3 k]
    split
    · rfl
    · rename_i hc
      rw [cv_succ]
      by_cases hik : i ≤ k
      · rw [if_pos hik, rd_ge (l := b) (by omega), Int.mul_zero, Int.add_zero]
      · rw [if_neg hik, Int.add_zero]
  obtain ⟨s, h3, h4, h5⟩ := loopM_for (body := fun s : Int × List Int => impl_prime_times_l1 a b s.1 s.2) (fun i (u : List Int) => ((i : Int), u)) (fun u => u) a.length
    (fun i u => u.length = n ∧ ∀ k, rd u k = cv (rd a) (rd b) i k) (fun i u hi hI => by
      obtain ⟨u', g1, g2, g3⟩ := hrow i u hi hI.1 hI.2
      refine ⟨u', ?_, g2, g3⟩
      simp only [impl_prime_times_l1]
      rw [if_pos (by simp; omega), ifp_pos (by omega), g1]
      simp only [Option.bind_some]
      rw [wrap64 (by omega) (by omega)]; rfl) (fun u hI => by
      simp only [impl_prime_times_l1]
      rw [if_neg (by simp)]) a.length 0 (List.replicate n 0) (by omega) ⟨by simp, fun k => by rw [rd_rep]; simp [cv, sumTo]⟩
  have h3' : loopM (fun s : Int × List Int => impl_prime_times_l1 a b s.1 s.2) (0, List.replicate n 0) = some s := h3
  rw [h3']
  simp only [Option.bind_some]
  obtain ⟨t, h6, h7, h8⟩ := loopM_for (body := fun q : Int × List Int => impl_prime_times_l3 s p q.1 q.2) (fun i (u : List Int) => ((i : Int), u)) (fun u => u) n
    (fun i u => u.length = n ∧ ∀ k, rd u k = if k < i then cv (rd a) (rd b) a.length k % p else cv (rd a) (rd b) a.length k) (fun i u hi hI => by
      obtain ⟨hul, hu⟩ := hI
      have hui := hu i
      rw [if_neg (by omega)] at hui
      have hc := cv_small ha hb i a.length
      refine ⟨u.set i (cv (rd a) (rd b) a.length i % p), ?_, by simpa using hul, fun k => ?_⟩
      · simp only [impl_prime_times_l3]
        rw [if_pos (by simp; omega), ifp_pos (by omega), ifp_pos (by omega), ifp_pos (by omega)]
        simp only [Int.toNat_natCast]
        rw [hui, Int.tmod_eq_emod_of_nonneg hc.1, wrap64 (by omega) (by omega)]; rfl
      · rw [rd_set _ _ _ _ (by omega), hu k]
        by_cases e : k = i
        · subst e; simp
        · rw [if_neg e]
          simp only [show (k < i + 1) = (k < i) from by rw [eq_iff_iff]; omega]) (fun u hI => by
      simp only [impl_prime_times_l3]
      rw [if_neg (by simp; omega)]) n 0 s (by omega) ⟨h4, fun k => by rw [h5 k, if_neg (by omega)]⟩
  have h6' : loopM (fun q : Int × List Int => impl_prime_times_l3 s p q.1 q.2) (0, s) = some t := h6
  rw [h6']
  simp only [Option.bind_some]
  rw [trimmed_is (by omega), trim_eq, h7]
  simp only [Option.bind_some]
  congr 1
  rw [mul, ← hn]
  exact ofF_congr fun k hk => by rw [h8 k, if_pos hk, cv_conv fun i hi => rd_ge (by omega)]
end Go.Proofs.Ytkbnegemdlnncaa
/- Powers of polynomials. -/
namespace Go.Proofs.Ytkbnegemdlnncaa
open Go.Abs

def pow (p : Int) (a : List Int) : Nat → List Int
  | 0 => [1]
  | k + 1 => mul p (pow p a k) a
theorem pow_row {p : Int} (hp : 2 ≤ p) (a : List Int) : ∀ k, Row p (pow p a k)
  | 0 => row_one hp
  | k + 1 => mul_row (by omega) _ _
theorem pow_len (p : Int) (a : List Int) : ∀ k, (pow p a k).length ≤ 1 + k * (a.length - 1)
  | 0 => by simp [pow]
  | k + 1 => by
    have h1 := pow_len p a k
    have h2 := mul_len p (pow p a k) a
    rw [Nat.succ_mul]
    simp only [pow]
    rcases Nat.eq_zero_or_pos a.length with h | h
    · have e : a = [] := List.eq_nil_of_length_eq_zero h
      subst e
      rw [mul_nil']; simp
    · omega
theorem raised_is {p : Int} (hp : 2 ≤ p ∧ p ≤ 7) {a : List Int} (ha : Row p a) (la : a.length ≤ 1000) {k : Nat} (hk : k ≤ 400) : impl_prime_raised p a k = some (pow p a k) := by
  obtain ⟨s, h1, h2⟩ := loopM_for (body := fun s : List Int × Int => impl_prime_raised_l1 (k : Int) p a s.1 s.2) (fun i s => (s, (i : Int))) (fun s => s) k
    (fun i s => s = pow p a i) (fun i s hi hI => by
      subst hI
      have hl := pow_len p a i
      have hm : i * (a.length - 1) ≤ 400 * 1000 := Nat.mul_le_mul (by omega) (by omega)
      refine ⟨pow p a (i + 1), ?_, rfl⟩
      simp only [impl_prime_raised_l1]
      rw [if_pos (by simp; omega), times_is ⟨hp.1, by omega⟩ ((pow_row hp.1 a i).ent ⟨by omega, by omega⟩) (ha.ent ⟨by omega, by omega⟩) (by omega) (by omega)]
      simp only [Option.bind_some]
      rw [wrap64 (by omega) (by omega)]; rfl) (fun s hI => by
      simp only [impl_prime_raised_l1]
      rw [if_neg (by simp)]) k 0 [1] (by omega) rfl
  have h1' : loopM (fun s : List Int × Int => impl_prime_raised_l1 (k : Int) p a s.1 s.2) ([1], 0) = some s := h1
  simp only [impl_prime_raised, h1', Option.bind_some, h2]
theorem power_is {p : Int} (hp : 2 ≤ p ∧ p ≤ 7) {a : List Int} (ha : Row p a) (la : a.length ≤ 64) {k : Nat} (hk : k * (a.length - 1) ≤ 63) (hk2 : k ≤ 1000000) : spec_l08Power p (pad a) k = some (pad (pow p a k), true) := by
  have key : ∀ (m i : Nat), i + m = k → loopM (fun s : Int × V64 => spec_l08Power_l1 p (pad a) s.1 s.2) ((m : Int), pad (pow p a i)) = some (.inl (pad (pow p a k))) := by
    intro m
    induction m with
    | zero =>
      intro i hi
      have : i = k := by omega
      subst this
      have step : spec_l08Power_l1 p (pad a) ((0 : Nat) : Int) (pad (pow p a i)) = some (.inr (.inl (pad (pow p a i)))) := by simp [spec_l08Power_l1]
      rw [loopM_eq]
      simp only [step, Option.bind_some]
    | succ m ih =>
      intro i hi
      have hl := pow_len p a i
      have hm : (i + 1) * (a.length - 1) ≤ k * (a.length - 1) := Nat.mul_le_mul_right _ (by omega)
      rw [Nat.succ_mul] at hm
      have hl2 : (pow p a i).length = 0 ∨ a.length = 0 ∨ (pow p a i).length + a.length ≤ 65 := by omega
      have step : spec_l08Power_l1 p (pad a) ((m + 1 : Nat) : Int) (pad (pow p a i)) = some (.inl ((m : Int), pad (pow p a (i + 1)))) := by
        have e : IntKind.i64.wrap (((m + 1 : Nat) : Int) - 1) = (m : Int) := by rw [wrap64 (by omega) (by omega)]; omega
        simp only [spec_l08Power_l1]
        rw [if_pos (decide_eq_true (by omega)), times_pad ⟨hp.1, by omega⟩ (pow_row hp.1 a i) ha (by omega) la hl2]
        simp only [Option.bind_some, Bool.not_true, Bool.false_eq_true, if_false, e]
        rfl
      rw [loopM_eq]
      simp only [step, Option.bind_some]
      exact ih (i + 1) (by omega)
  simp only [spec_l08Power, one_is, Option.bind_some]
  have := key k 0 (by omega)
  simp only [pow] at this
  rw [this]
  rfl

/-! Powers of p. -/
end Go.Proofs.Ytkbnegemdlnncaa
/- Powers p^i of polynomials: T is replaced by T^(p^i). -/
namespace Go.Proofs.Ytkbnegemdlnncaa
open Go.Abs

def sprF (a : List Int) (q : Nat) (j : Nat) : Int := if j % q = 0 then rd a (j / q) else 0
def spr (a : List Int) (q : Nat) : List Int := ofF ((a.length - 1) * q + 1) (sprF a q)
theorem sprF_zero {a : List Int} {q : Nat} (hq : 0 < q) {j : Nat} (hj : (a.length - 1) * q + 1 ≤ j) : sprF a q j = 0 := by
  unfold sprF
  split
  · rename_i h
    rw [rd_ge]
    have h1 := Nat.div_add_mod j q
    rw [h, Nat.add_zero] at h1
    rcases Nat.lt_or_ge (j / q) a.length with h2 | h2
    · have h3 : q * (j / q) ≤ q * (a.length - 1) := Nat.mul_le_mul_left _ (by omega)
      rw [Nat.mul_comm q (a.length - 1)] at h3
      omega
    · exact h2
  · rfl
theorem spr_rd {a : List Int} {q : Nat} (hq : 0 < q) (j : Nat) : rd (spr a q) j = sprF a q j := rd_ofF (fun _ h => sprF_zero hq h) j
theorem spr_row {p : Int} (hp : 0 < p) {a : List Int} (ha : Row p a) (q : Nat) : Row p (spr a q) := row_ofF fun i _ => by
  unfold sprF
  split
  · exact ha.rd hp _
  · omega
theorem spr_len {p : Int} {a : List Int} (ha : Row p a) (h0 : a.length ≠ 0) {q : Nat} (hq : 0 < q) : (spr a q).length = (a.length - 1) * q + 1 := by
  rw [spr, ofF_len]
  refine top_is (Nat.le_refl _) (fun i h1 h2 => by omega) fun _ => ?_
  simp only [Nat.add_sub_cancel, sprF, Nat.mul_mod_left, if_true, Nat.mul_div_cancel _ hq]
  exact ha.nrm h0
theorem spr_nil (q : Nat) : spr [] q = [] := by
  simp [spr, ofF, top, sprF, rd]

theorem spread_is {p i : Nat} (hp : 2 ≤ p ∧ p ≤ 7) (hi : i ≤ 1000000) {a : List Int} (ha : Row p a) (la : a.length ≤ 1000) (hq : p ^ i ≤ 1000000) : impl_prime_spread p a i = some (spr a (p ^ i)) := by
  by_cases h0 : a.length = 0
  · have : a = [] := List.eq_nil_of_length_eq_zero h0
    subst this
    simp [impl_prime_spread, spr_nil]
  · obtain ⟨c, h1, h2, _⟩ := norm_is (n := i) (most := 1099511627776) hp hi (by omega)
    have hc : c = p ^ i := by omega
    subst hc
    have hpos := ppow_pos hp.1 i
    generalize hqq : p ^ i = q at *
    have h1' : impl_prime_norm p i 1099511627776 = some (q : Int) := h1
    have hm : (a.length - 1) * q ≤ 999 * 1000000 := Nat.mul_le_mul (by omega) hq
    have e1 : IntKind.i64.wrap ((a.length : Int) - 1) = ((a.length - 1 : Nat) : Int) := by rw [wrap64 (by omega) (by omega)]; omega
    have e2 : IntKind.i64.wrap (IntKind.i64.wrap (((a.length - 1 : Nat) : Int) * (q : Int)) + 1) = (((a.length - 1) * q + 1 : Nat) : Int) := by
      rw [← Int.natCast_mul, wrap64 (n := (((a.length - 1) * q : Nat) : Int)) (by omega) (by omega), wrap64 (by omega) (by omega)]; omega
    obtain ⟨n, hn⟩ : ∃ n : Nat, n = (a.length - 1) * q + 1 := ⟨_, rfl⟩
    simp only [impl_prime_spread]
    rw [if_neg (by rw [beq_iff_eq]; omega), h1']
    simp only [Option.bind_some, impl_row_degree]
    rw [e1, e2, ← hn, ifp_pos (by omega), Int.toNat_natCast]
    have hsmall : ∀ k : Nat, k < a.length → k * q ≤ (a.length - 1) * q := fun k hk => Nat.mul_le_mul_right _ (by omega)
    obtain ⟨s, g1, g2, g3⟩ := loopM_for (body := fun s : Int × List Int => impl_prime_spread_l1 a (q : Int) s.1 s.2) (fun i s => ((i : Int), s)) (fun s => s) a.length
      (fun k s => s.length = n ∧ ∀ j, rd s j = if j % q = 0 ∧ j / q < k then rd a (j / q) else 0) (fun k s hk hI => by
        obtain ⟨hl, hr⟩ := hI
        have h4 := hsmall k hk
        refine ⟨s.set (k * q) (rd a k), ?_, by simpa using hl, fun j => ?_⟩
        · have e3 : IntKind.i64.wrap ((k : Int) * (q : Int)) = ((k * q : Nat) : Int) := by rw [← Int.natCast_mul, wrap64 (by omega) (by omega)]
          simp only [impl_prime_spread_l1]
          rw [if_pos (decide_eq_true (by omega)), ifp_pos (by omega), e3, ifp_pos (by omega), wrap64 (by omega) (by omega)]
          rfl
        · rw [rd_set _ _ _ _ (by omega), hr j]
          by_cases e : j = k * q
          · subst e
            rw [if_pos rfl, if_pos ⟨Nat.mul_mod_left _ _, by rw [Nat.mul_div_cancel _ (by omega)]; omega⟩, Nat.mul_div_cancel _ (by omega)]
          · rw [if_neg e]
            by_cases hm0 : j % q = 0
            · have h5 := Nat.div_add_mod j q
              rw [hm0, Nat.add_zero] at h5
              have : j / q ≠ k := fun h => e (by rw [← h5, h, Nat.mul_comm])
              simp only [hm0, true_and, show (j / q < k + 1) = (j / q < k) from by rw [eq_iff_iff]; omega]
            · rw [if_neg (fun h => hm0 h.1), if_neg (fun h => hm0 h.1)]) (fun s hI => by
        simp only [impl_prime_spread_l1]
        rw [if_neg (by rw [decide_eq_true_eq]; omega)]) a.length 0 (List.replicate n 0) (by omega) ⟨by simp, fun j => by rw [rd_rep, if_neg (fun h => Nat.not_lt_zero _ h.2)]⟩
    have g1' : loopM (fun s : Int × List Int => impl_prime_spread_l1 a (q : Int) s.1 s.2) (0, List.replicate n 0) = some s := g1
    rw [g1']
    simp only [Option.bind_some]
    congr 1
    refine rd_ext (by rw [g2, hn, spr_len ha h0 (by omega)]) fun j _ => ?_
    rw [g3 j, spr_rd (by omega)]
    unfold sprF
    by_cases hm0 : j % q = 0
    · simp only [hm0, true_and, if_true]
      by_cases h5 : j / q < a.length
      · rw [if_pos h5]
      · rw [if_neg h5, rd_ge (by omega)]
    · rw [if_neg (fun h => hm0 h.1), if_neg hm0]

theorem raise_loop {p : Nat} (hp : 2 ≤ p ∧ p ≤ 7) {i : Nat} (hi : i ≤ 1000000) {k : Nat} (hk : 1 ≤ k ∧ k ≤ 63) :
    loopM (fun s : Int × Int => spec_l04Raise_l2 (i : Int) p s.1 s.2) ((k : Int), 0) = some (if k * p ^ i ≤ 63 then .inl ((k * p ^ i : Nat) : Int) else .inr (vrep 64 0, false)) := by
  have key : ∀ (m j : Nat), j + m = i → k * p ^ j ≤ 63 → loopM (fun s : Int × Int => spec_l04Raise_l2 (i : Int) p s.1 s.2) (((k * p ^ j : Nat) : Int), (j : Int)) = some (if k * p ^ i ≤ 63 then .inl ((k * p ^ i : Nat) : Int) else .inr (vrep 64 0, false)) := by
    intro m
    induction m with
    | zero =>
      intro j hj hle
      have : j = i := by omega
      subst this
      have step : spec_l04Raise_l2 (j : Int) p ((k * p ^ j : Nat) : Int) (j : Int) = some (.inr (.inl ((k * p ^ j : Nat) : Int))) := by
        simp only [spec_l04Raise_l2]
        rw [if_neg (by rw [decide_eq_true_eq]; omega)]
        rfl
      rw [loopM_eq]
      simp only [step, Option.bind_some]
      rw [if_pos hle]
    | succ m ih =>
      intro j hj hle
      have hpos : 1 ≤ k * p ^ j := by
        have := Nat.mul_le_mul hk.1 (ppow_pos hp.1 j); omega
      have e1 : ((k * p ^ j : Nat) : Int) * (p : Int) = ((k * p ^ (j + 1) : Nat) : Int) := by rw [Nat.pow_succ, ← Nat.mul_assoc, Int.natCast_mul (k * p ^ j)]
      have hb : k * p ^ (j + 1) ≤ 63 * 7 := by
        rw [Nat.pow_succ, ← Nat.mul_assoc]; exact Nat.mul_le_mul hle hp.2
      have hmono : k * p ^ (j + 1) ≤ k * p ^ i := Nat.mul_le_mul_left _ (ppow_mono hp.1 (by omega))
      by_cases h : k * p ^ (j + 1) ≤ 63
      · have step : spec_l04Raise_l2 (i : Int) p ((k * p ^ j : Nat) : Int) (j : Int) = some (.inl (((k * p ^ (j + 1) : Nat) : Int), ((j + 1 : Nat) : Int))) := by
          simp only [spec_l04Raise_l2]
          rw [if_pos (decide_eq_true (by omega))]
          simp only [Option.bind_some]
          rw [if_pos (decide_eq_true (by omega)), e1, wrap64 (n := ((k * p ^ (j + 1) : Nat) : Int)) (by omega) (by omega), if_neg (by rw [decide_eq_true_eq]; omega), wrap64 (by omega) (by omega)]
          rfl
        rw [loopM_eq]
        simp only [step, Option.bind_some]
        exact ih (j + 1) (by omega) h
      · have step : spec_l04Raise_l2 (i : Int) p ((k * p ^ j : Nat) : Int) (j : Int) = some (.inr (.inr (vrep 64 0, false))) := by
          simp only [spec_l04Raise_l2]
          rw [if_pos (decide_eq_true (by omega))]
          simp only [Option.bind_some]
          rw [if_pos (decide_eq_true (by omega)), e1, wrap64 (n := ((k * p ^ (j + 1) : Nat) : Int)) (by omega) (by omega), if_pos (decide_eq_true (by omega))]
        rw [loopM_eq]
        simp only [step, Option.bind_some]
        rw [if_neg (by omega)]
  have := key i 0 (by omega) (by simp; omega)
  simpa using this
theorem raise_loop0 {p i : Int} : loopM (fun s : Int × Int => spec_l04Raise_l2 i p s.1 s.2) (0, 0) = some (.inl 0) := by
  have step : spec_l04Raise_l2 i p 0 0 = some (.inr (.inl 0)) := by
    simp only [spec_l04Raise_l2]
    split <;> rfl
  rw [loopM_eq]
  simp only [step, Option.bind_some]

theorem raise_gen {p i : Nat} (hp : 2 ≤ p ∧ p ≤ 7) (hi : i ≤ 1000000) {a : List Int} (ha : Row p a) (la : a.length ≤ 64) :
    spec_l04Raise p (pad a) i = some (if a.length ≤ 1 ∨ (a.length - 1) * p ^ i ≤ 63 then (pad (spr a (p ^ i)), true) else (vrep 64 0, false)) := by
  have hta : top (rd (pad a).1) 64 = a.length := by rw [top_congr 64 fun i hi => rd_padl a hi, ha.top la]
  have hpos := ppow_pos hp.1 i
  generalize hqq : p ^ i = q at *
  have key : ∀ (m k : Nat) (v : V64), k + m = a.length → (∀ j, j < 64 → rd v.1 j = if j % q = 0 ∧ j / q < k then rd a (j / q) else 0) →
      loopM (fun s : Int × V64 => spec_l04Raise_l1 ((a.length : Int) - 1) (pad a) (i : Int) p s.1 s.2) ((k : Int), v) = some (if a.length ≤ 1 ∨ (a.length - 1) * q ≤ 63 then .inl (pad (spr a q)) else if m = 0 then .inl v else .inr (vrep 64 0, false)) := by
    intro m
    induction m with
    | zero =>
      intro k v hk hv
      have step : spec_l04Raise_l1 ((a.length : Int) - 1) (pad a) (i : Int) p (k : Int) v = some (.inr (.inl v)) := by
        simp only [spec_l04Raise_l1]
        rw [if_neg (by rw [decide_eq_true_eq]; omega)]
      rw [loopM_eq]
      simp only [step, Option.bind_some, if_true]
      split
      · congr 2
        refine vec_ext fun j hj => ?_
        rw [hv j hj, rd_padl _ hj, spr_rd (by omega)]
        unfold sprF
        by_cases hm0 : j % q = 0
        · simp only [hm0, true_and, if_true]
          by_cases h5 : j / q < k
          · rw [if_pos h5]
          · rw [if_neg h5, rd_ge (by omega)]
        · rw [if_neg (fun h => hm0 h.1), if_neg hm0]
      · rfl
    | succ m ih =>
      intro k v hk hv
      have hrk : rd (pad a).1 k = rd a k := rd_padl a (by omega)
      -- what stands behind the place k
      have next : ∀ v' : V64, (∀ j, j < 64 → rd v'.1 j = if j % q = 0 ∧ j / q < k + 1 then rd a (j / q) else 0) → (m = 0 → a.length ≤ 1 ∨ (a.length - 1) * q ≤ 63) →
          spec_l04Raise_l1 ((a.length : Int) - 1) (pad a) (i : Int) p (k : Int) v = some (.inl (((k + 1 : Nat) : Int), v')) →
          loopM (fun s : Int × V64 => spec_l04Raise_l1 ((a.length : Int) - 1) (pad a) (i : Int) p s.1 s.2) ((k : Int), v) = some (if a.length ≤ 1 ∨ (a.length - 1) * q ≤ 63 then .inl (pad (spr a q)) else if m + 1 = 0 then .inl v else .inr (vrep 64 0, false)) := by
        intro v' hv' hm0 step
        rw [loopM_eq]
        simp only [step, Option.bind_some]
        rw [ih (k + 1) v' (by omega) hv']
        by_cases h : a.length ≤ 1 ∨ (a.length - 1) * q ≤ 63
        · rw [if_pos h, if_pos h]
        · rw [if_neg h, if_neg h, if_neg (fun e => h (hm0 e)), if_neg (by omega)]
      have ewrap : IntKind.i64.wrap ((k : Int) + 1) = ((k + 1 : Nat) : Int) := by rw [wrap64 (by omega) (by omega)]; rfl
      by_cases hz : rd a k = 0
      · refine next v (fun j hj => ?_) (fun hm => ?_) ?_
        · rw [hv j hj]
          by_cases hm0 : j % q = 0
          · simp only [hm0, true_and]
            by_cases h5 : j / q < k
            · rw [if_pos h5, if_pos (by omega)]
            · rw [if_neg h5]
              by_cases h6 : j / q < k + 1
              · rw [if_pos h6, show j / q = k by omega, hz]
              · rw [if_neg h6]
          · rw [if_neg (fun h => hm0 h.1), if_neg (fun h => hm0 h.1)]
        · exact absurd hz (by have := ha.nrm (by omega); rwa [show a.length - 1 = k by omega] at this)
        · simp only [spec_l04Raise_l1]
          rw [if_pos (decide_eq_true (by omega)), ifp_pos (by omega), Int.toNat_natCast, hrk, hz]
          simp only [beq_self_eq_true, if_true, Option.bind_some, ewrap]
      · -- the place that it comes to
        have hset : ∀ (t : Nat), t = k * q → t ≤ 63 → (∀ j, j < 64 → rd (vset v t (rd a k)).1 j = if j % q = 0 ∧ j / q < k + 1 then rd a (j / q) else 0) := by
          intro t ht ht63 j hj
          rw [rd_vset _ _ _ _ (by omega), hv j hj]
          by_cases e : j = t
          · subst e
            subst ht
            rw [if_pos rfl, if_pos ⟨Nat.mul_mod_left _ _, by rw [Nat.mul_div_cancel _ (by omega)]; omega⟩, Nat.mul_div_cancel _ (by omega)]
          · rw [if_neg e]
            by_cases hm0 : j % q = 0
            · have h5 := Nat.div_add_mod j q
              rw [hm0, Nat.add_zero] at h5
              have : j / q ≠ k := fun h => e (by rw [← h5, h, ht, Nat.mul_comm])
              simp only [hm0, true_and, show (j / q < k + 1) = (j / q < k) from by rw [eq_iff_iff]; omega]
            · rw [if_neg (fun h => hm0 h.1), if_neg (fun h => hm0 h.1)]
        rcases Nat.eq_zero_or_pos k with hk0 | hk0
        · subst hk0
          refine next _ (hset 0 (by simp) (by omega)) (fun hm => .inl (by omega)) ?_
          have hl0 : loopM (fun s : Int × Int => spec_l04Raise_l2 (i : Int) p s.1 s.2) (((0 : Nat) : Int), 0) = some (.inl 0) := raise_loop0
          simp only [spec_l04Raise_l1]
          rw [if_pos (decide_eq_true (by omega)), ifp_pos (by omega), Int.toNat_natCast, hrk, if_neg (by rw [beq_iff_eq]; exact hz), hl0]
          simp only [Option.bind_some]
          rw [ifp_pos (by omega), ifp_pos (by omega)]
          simp only [Option.bind_some, ewrap]
          rfl
        · have hl := raise_loop hp hi (k := k) ⟨hk0, by omega⟩
          rw [hqq] at hl
          by_cases h63 : k * q ≤ 63
          · rw [if_pos h63] at hl
            refine next _ (hset (k * q) rfl h63) (fun hm => .inr (by rw [show a.length - 1 = k by omega]; exact h63)) ?_
            simp only [spec_l04Raise_l1]
            rw [if_pos (decide_eq_true (by omega)), ifp_pos (by omega), Int.toNat_natCast, hrk, if_neg (by rw [beq_iff_eq]; exact hz), hl]
            simp only [Option.bind_some]
            rw [ifp_pos (by omega), ifp_pos (by omega)]
            simp only [Option.bind_some, ewrap, Int.toNat_natCast]
          · rw [if_neg h63] at hl
            have step : spec_l04Raise_l1 ((a.length : Int) - 1) (pad a) (i : Int) p (k : Int) v = some (.inr (.inr (vrep 64 0, false))) := by
              simp only [spec_l04Raise_l1]
              rw [if_pos (decide_eq_true (by omega)), ifp_pos (by omega), Int.toNat_natCast, hrk, if_neg (by rw [beq_iff_eq]; exact hz), hl]
              rfl
            have hbig : ¬ (a.length ≤ 1 ∨ (a.length - 1) * q ≤ 63) := by
              rintro (h | h)
              · omega
              · have := Nat.mul_le_mul_right q (show k ≤ a.length - 1 by omega)
                omega
            rw [loopM_eq]
            simp only [step, Option.bind_some]
            rw [if_neg hbig, if_neg (by omega)]
  have h := key a.length 0 (vrep 64 0) (by omega) (fun j hj => by rw [rd_vrep _ hj, if_neg (fun h => Nat.not_lt_zero _ h.2)])
  simp only [spec_l04Raise, deg_is, hta, Option.bind_some]
  have h' : loopM (fun s : Int × V64 => spec_l04Raise_l1 ((a.length : Int) - 1) (pad a) (i : Int) p s.1 s.2) (0, vrep 64 0) = _ := h
  rw [h']
  by_cases hc : a.length ≤ 1 ∨ (a.length - 1) * q ≤ 63
  · simp only [if_pos hc, Option.bind_some]
  · rw [if_neg hc, if_neg hc, if_neg (by omega)]
    rfl
end Go.Proofs.Ytkbnegemdlnncaa
/- Sums, in the program. -/
namespace Go.Proofs.Ytkbnegemdlnncaa
open Go.Abs

theorem at_is (l : List Int) (i : Nat) : impl_row_at l i = some (rd l i) := by
  unfold impl_row_at
  by_cases h : i < l.length
  · rw [if_pos (by simpa using h), ifp_pos (by omega)]; simp
  · rw [if_neg (by simpa using h), rd_ge (by omega)]

theorem reduce_is {p n : Int} (hp : 0 < p ∧ p ≤ 256) (hn : -4611686018427387904 ≤ n ∧ n < 4611686018427387904) : impl_prime_reduce p n = some (n % p) := by
  unfold impl_prime_reduce
  have h1 := Int.lt_tmod_of_pos n hp.1
  have h2 := Int.tmod_lt_of_pos n hp.1
  rw [ifp_pos (by omega), ifp_pos (by omega), wrap64 (by omega) (by omega), tmod_fix hp.1]

theorem combine_is {p k : Int} {a b : List Int} (hp : 0 < p ∧ p ≤ 256) (ha : Ent a) (hb : Ent b) (la : a.length ≤ 1000000) (lb : b.length ≤ 1000000) (hk : -1099511627776 ≤ k ∧ k ≤ 1099511627776) :
    impl_prime_combine p a b k = some (comb p a b k) := by
  obtain ⟨n, hn⟩ : ∃ n : Nat, n = max a.length b.length := ⟨_, rfl⟩
  have e : (if (b.length : Int) > (a.length : Int) then (b.length : Int) else (a.length : Int)) = (n : Int) := by split <;> omega
  obtain ⟨s, h1, h2, h3⟩ := loopM_for (body := fun s : Int × List Int => impl_prime_combine_l1 (n : Int) a b p k s.1 s.2) (fun i s => ((i : Int), s)) (fun s => s) n
    (fun i s => s.length = n ∧ ∀ j, rd s j = if j < i then (rd a j + k * rd b j) % p else 0) (fun i s hi hI => by
      obtain ⟨hl, hr⟩ := hI
      have h1 := ha i
      have h2 := mulk (hb i) hk
      refine ⟨s.set i ((rd a i + k * rd b i) % p), ?_, by simpa using hl, fun j => ?_⟩
      · simp only [impl_prime_combine_l1, letp, Int.toNat_natCast, List.length_replicate]
        rw [if_pos (by simp; omega), at_is, at_is]
        simp only [Option.bind_some]
        rw [wrap64 (n := k * rd b i) (by omega) (by omega), wrap64 (n := rd a i + k * rd b i) (by omega) (by omega), reduce_is hp (by omega)]
        simp only [Option.bind_some]
        rw [ifp_pos (by omega), wrap64 (by omega) (by omega)]
        rfl
      · rw [rd_set _ _ _ _ (by omega), hr j]
        by_cases h : j = i
        · subst h; simp
        · rw [if_neg h]
          simp only [show (j < i + 1) = (j < i) from by rw [eq_iff_iff]; omega]) (fun s hI => by
      simp only [impl_prime_combine_l1, letp, Int.toNat_natCast, List.length_replicate]
      rw [if_neg (by simp)]) n 0 (List.replicate n 0) (by omega) ⟨by simp, fun j => by rw [rd_rep, if_neg (by omega)]⟩
  have hs : s.take (top (rd s) s.length) = comb p a b k := by
    rw [trim_eq, h2, comb, ← hn]
    exact ofF_congr fun i hi => by rw [h3 i, if_pos hi]
  simp only [impl_prime_combine, letp, e]
  rw [ifp_pos (by omega)]
  simp only [Int.toNat_natCast]
  have h1' : loopM (fun s : Int × List Int => impl_prime_combine_l1 (n : Int) a b p k s.1 s.2) (0, List.replicate n 0) = some s := h1
  rw [h1']
  simp only [Option.bind_some]
  rw [trimmed_is (by omega), hs]
  rfl
end Go.Proofs.Ytkbnegemdlnncaa
/- Sums, in the reference. -/
namespace Go.Proofs.Ytkbnegemdlnncaa
open Go.Abs

theorem add_is {p k : Int} {a b : V64} (hp : 0 < p ∧ p ≤ 256) (ha : V64.Ent a) (hb : V64.Ent b) (hk : -1099511627776 ≤ k ∧ k ≤ 1099511627776) :
    ∃ v, spec_l01Add p a b k = some v ∧ ∀ j, j < 64 → rd v.1 j = (rd a.1 j + k * rd b.1 j) % p := by
  obtain ⟨s, h1, h2⟩ := loopM_for (body := fun s : Int × V64 => spec_l01Add_l1 k b p s.1 s.2) (fun i s => ((i : Int), s)) (fun s => s) 64
    (fun i s => ∀ j, j < 64 → rd s.1 j = if j < i then (rd a.1 j + k * rd b.1 j) % p else rd a.1 j) (fun i s hi hI => by
      have hs := hI i hi
      rw [if_neg (by omega)] at hs
      have h1 := ha i hi
      have h0 := hb i hi
      have h2 := mulk (hb i hi) hk
      have h3 := Int.lt_tmod_of_pos (rd a.1 i + k * rd b.1 i) hp.1
      have h4 := Int.tmod_lt_of_pos (rd a.1 i + k * rd b.1 i) hp.1
      have h5 := emod_res hp.1 (rd a.1 i + k * rd b.1 i)
      refine ⟨vset s i ((rd a.1 i + k * rd b.1 i) % p), ?_, fun j hj => ?_⟩
      · simp only [spec_l01Add_l1, letp, Int.toNat_natCast, hs]
        rw [if_pos (by simp; omega), ifp_pos (by omega), ifp_pos (by omega), ifp_pos (by omega), ifp_pos (by omega), ifp_pos (by omega)]
        rw [wrap64 (n := rd b.1 i) (by omega) (by omega), wrap64 (n := rd a.1 i) (by omega) (by omega), wrap64 (n := k * rd b.1 i) (by omega) (by omega), wrap64 (n := rd a.1 i + k * rd b.1 i) (by omega) (by omega), wrap64 (n := _ + p) (by omega) (by omega), tmod_fix hp.1, wrap8 (by omega) (by omega), wrap64 (by omega) (by omega)]
        rfl
      · rw [rd_vset _ _ _ _ hi, hI j hj]
        by_cases h : j = i
        · subst h; simp
        · rw [if_neg h]
          simp only [show (j < i + 1) = (j < i) from by rw [eq_iff_iff]; omega]) (fun s hI => by
      simp only [spec_l01Add_l1, letp]
      rw [if_neg (by simp)]) 64 0 a (by omega) (fun j hj => by rw [if_neg (by omega)])
  refine ⟨s, ?_, fun j hj => by rw [h2 j hj, if_pos hj]⟩
  have h1' : loopM (fun s : Int × V64 => spec_l01Add_l1 k b p s.1 s.2) (0, a) = some s := h1
  simp only [spec_l01Add, h1', Option.bind_some]

theorem add_pad {p k : Int} {a b : List Int} (hp : 0 < p ∧ p ≤ 256) (ha : Row p a) (hb : Row p b) (la : a.length ≤ 64) (lb : b.length ≤ 64) (hk : -1099511627776 ≤ k ∧ k ≤ 1099511627776) :
    spec_l01Add p (pad a) (pad b) k = some (pad (comb p a b k)) := by
  obtain ⟨v, h1, h2⟩ := add_is hp (ent_pad ha hp) (ent_pad hb hp) hk
  rw [h1]
  congr 1
  exact vec_ext fun j hj => by rw [h2 j hj, rd_padl _ hj, rd_padl _ hj, rd_padl _ hj, comb_rd]
end Go.Proofs.Ytkbnegemdlnncaa
/- A row as an array. -/
namespace Go.Proofs.Ytkbnegemdlnncaa
open Go.Abs

theorem poly_loop {l : List Int} (hb : Bytes l) (hl : l.length ≤ 64) : ∀ s : Int × V64, (∃ i : Nat, s.1 = i ∧ i ≤ l.length ∧ s.2 = pad (l.take i)) → ∃ r, loopM (fun s : Int × V64 => impl_row_poly_l1 l s.1 s.2) s = some r ∧ r = pad l := by
  refine loopM_ind (fun (s : Int × V64) => ∃ i : Nat, s.1 = i ∧ i ≤ l.length ∧ s.2 = pad (l.take i)) (fun (s : Int × V64) r => r = pad l) (fun (s : Int × V64) => 64 - s.1.toNat) ?_
  rintro ⟨x, v⟩ ⟨i, hx, hi, hv⟩
  simp only at hx hv
  subst hx hv
  by_cases h : i = l.length
  · right
    subst h
    exact ⟨pad l, by simp [impl_row_poly_l1], rfl⟩
  · left
    have hil : i < l.length := by omega
    have er : rd l i = l[i] := by simp [rd, hil]
    have hbi := hb l[i] (List.getElem_mem _)
    refine ⟨(((i + 1 : Nat) : Int), pad (l.take (i + 1))), ?_, ⟨i + 1, rfl, by omega, rfl⟩, by simp; omega, fun r hr => hr⟩
    simp only [impl_row_poly_l1]
    rw [if_pos (by simp; omega), ifp_pos (by omega), ifp_pos (by omega)]
    simp only [Int.toNat_natCast, er]
    rw [wrap64 (by omega) (by omega), wrap8 hbi.1 hbi.2]
    have := pad_set (l.take i) l[i] (by simp; omega)
    rw [List.length_take, Nat.min_eq_left (by omega)] at this
    rw [this, List.take_succ_eq_append_getElem hil]
    simp

theorem poly_is {l : List Int} (hb : Bytes l) (hl : l.length ≤ 64) : impl_row_poly l = some (pad l) := by
  obtain ⟨r, h1, h2⟩ := poly_loop hb hl (0, pad []) ⟨0, rfl, by omega, by simp⟩
  simp only [impl_row_poly, ← pad_nil, h1, h2, Option.bind_some]
end Go.Proofs.Ytkbnegemdlnncaa
/- Polynomials from rows, told. -/
namespace Go.Proofs.Ytkbnegemdlnncaa
open Go.Abs
theorem told_is {l : List Int} (hb : Bytes l) (hl : l.length ≤ 64) : impl_told l = some (pad l, 0) := by
  simp only [impl_told, impl_row_fits, impl_row_degree, Option.bind_some, poly_is hb hl]
  rw [wrap64 (by omega) (by omega)]
  simp
  omega
end Go.Proofs.Ytkbnegemdlnncaa
/- Numbers as digits. -/
namespace Go.Proofs.Ytkbnegemdlnncaa
open Go.Abs

def digs (p n : Nat) : List Int := if n = 0 ∨ p < 2 then [] else ((n % p : Nat) : Int) :: digs p (n / p)
termination_by n
decreasing_by exact Nat.div_lt_self (by omega) (by omega)

theorem digs_zero (p : Nat) : digs p 0 = [] := by rw [digs]; simp

theorem digs_pos {p n : Nat} (hp : 2 ≤ p) (hn : 0 < n) : digs p n = ((n % p : Nat) : Int) :: digs p (n / p) := by
  rw [digs, if_neg (by omega)]

theorem digs_sum {p : Nat} : ∀ n : Nat, (∀ d ∈ digs p n, (0 : Int) ≤ d) ∧ (digs p n).sum ≤ n ∧ (digs p n).length ≤ n := by
  intro n
  induction n using Nat.strongRecOn with
  | ind n ih =>
    by_cases h : n = 0 ∨ p < 2
    · rw [digs, if_pos h]; simp
    · have hlt : n / p < n := Nat.div_lt_self (by omega) (by omega)
      have hle : n % p + n / p ≤ n := by
        have := Nat.div_add_mod n p
        have h3 : n / p ≤ p * (n / p) := Nat.le_mul_of_pos_left _ (by omega)
        omega
      obtain ⟨h1, h2, h3⟩ := ih _ hlt
      rw [digs, if_neg h]
      refine ⟨fun d hd => ?_, ?_, ?_⟩
      · rcases List.mem_cons.1 hd with rfl | hd
        · omega
        · exact h1 d hd
      · simp only [List.sum_cons]; omega
      · simp only [List.length_cons]; omega

theorem digs_lt {p : Nat} (hp : 2 ≤ p) : ∀ n : Nat, ∀ d ∈ digs p n, 0 ≤ d ∧ d < p := by
  intro n
  induction n using Nat.strongRecOn with
  | ind n ih =>
    intro d hd
    by_cases h : n = 0
    · subst h; rw [digs_zero] at hd; cases hd
    · rw [digs_pos hp (by omega)] at hd
      rcases List.mem_cons.1 hd with rfl | hd
      · have := Nat.mod_lt n (show p > 0 by omega)
        generalize n % p = x at this
        omega
      · exact ih _ (Nat.div_lt_self (by omega) hp) d hd

theorem digs_len {p : Nat} (hp : 2 ≤ p) : ∀ (k n : Nat), n < 2 ^ k → (digs p n).length ≤ k
  | 0, n, h => by
    have : n = 0 := by simpa using h
    subst this; rw [digs_zero]; simp
  | k + 1, n, h => by
    by_cases hn : n = 0
    · subst hn; rw [digs_zero]; simp
    · rw [digs_pos hp (by omega)]
      have : n / p < 2 ^ k := by
        have h1 : n / p ≤ n / 2 := Nat.div_le_div_left hp (by omega)
        have h2 : n / 2 < 2 ^ k := by rw [Nat.pow_succ] at h; omega
        omega
      have := digs_len hp k _ this
      simp only [List.length_cons]; omega

theorem digs_len40 {p n : Nat} (hp : 2 ≤ p) (hn : n ≤ 1000000000000) : (digs p n).length ≤ 40 := digs_len hp 40 n (by omega)

theorem digs_bytes {p n : Nat} (hp : 2 ≤ p) (h : p ≤ 256) : Bytes (digs p n) := fun d hd => by
  have := digs_lt hp n d hd; omega

theorem rd_cons (x : Int) (l : List Int) (i : Nat) : rd (x :: l) (i + 1) = rd l i := by simp [rd]
theorem digs_row {p : Nat} (hp : 2 ≤ p) (n : Nat) : Row p (digs p n) := by
  refine ⟨fun d hd => ?_, ?_⟩
  · have := digs_lt hp n d hd; omega
  · induction n using Nat.strongRecOn with
    | ind n ih =>
      intro h
      have hn : 0 < n := by
        rcases Nat.eq_zero_or_pos n with rfl | h'
        · rw [digs_zero] at h; simp at h
        · exact h'
      rw [digs_pos hp hn]
      simp only [List.length_cons, Nat.add_sub_cancel]
      rcases Nat.eq_zero_or_pos (n / p) with h0 | h0
      · rw [h0, digs_zero]
        have : n < p := by
          rcases Nat.lt_or_ge n p with h | h
          · exact h
          · have := Nat.div_pos h (by omega); omega
        rw [Nat.mod_eq_of_lt this]
        simp [rd]; omega
      · have hlt : n / p < n := Nat.div_lt_self hn (by omega)
        have h1 : (digs p (n / p)).length ≠ 0 := by rw [digs_pos hp h0]; simp
        have h2 := ih _ hlt h1
        obtain ⟨m, hm⟩ : ∃ m, (digs p (n / p)).length = m + 1 := ⟨(digs p (n / p)).length - 1, by omega⟩
        rw [hm] at h2 ⊢
        rw [rd_cons]
        simpa using h2
theorem digs_len_pow {p : Nat} (hp : 2 ≤ p) : ∀ (d n : Nat), p ^ d ≤ n → n < p ^ (d + 1) → (digs p n).length = d + 1
  | 0, n, h1, h2 => by
    simp only [Nat.pow_zero, Nat.zero_add, Nat.pow_one] at h1 h2
    rw [digs_pos hp (by omega), Nat.div_eq_of_lt h2, digs_zero]; rfl
  | d + 1, n, h1, h2 => by
    have hpos : 0 < p ^ (d + 1) := Nat.pow_pos (by omega)
    have h3 : p ^ d ≤ n / p := by
      rw [Nat.le_div_iff_mul_le (by omega)]
      rwa [← Nat.pow_succ]
    have h4 : n / p < p ^ (d + 1) := by
      rw [Nat.div_lt_iff_lt_mul (by omega)]
      rwa [← Nat.pow_succ]
    rw [digs_pos hp (by omega), List.length_cons, digs_len_pow hp d _ h3 h4]
theorem digs_monic_len {p : Nat} (hp : 2 ≤ p) {d i : Nat} (hi : i < p ^ d) : (digs p (p ^ d + i)).length = d + 1 := by
  refine digs_len_pow hp d _ (by omega) ?_
  have : p ^ (d + 1) = p ^ d * p := Nat.pow_succ ..
  have h2 : p ^ d * 2 ≤ p ^ d * p := Nat.mul_le_mul_left _ hp
  omega
end Go.Proofs.Ytkbnegemdlnncaa
/- Brackets and factorials. -/
namespace Go.Proofs.Ytkbnegemdlnncaa
open Go.Abs

/-- T^(p^i) - T^(p^j). -/
def brk (p i j : Nat) : List Int := comb p (spr [0, 1] (p ^ i)) (spr [0, 1] (p ^ j)) (-1)
theorem sprT_len {p : Nat} (hp : 2 ≤ p) {q : Nat} (hq : 0 < q) : (spr [0, 1] q).length = q + 1 := by
  rw [spr_len (row_T (p := p) (by omega)) (by simp) hq]; simp
theorem brk_row {p : Nat} (hp : 2 ≤ p) (i j : Nat) : Row p (brk p i j) := comb_row (by omega) _ _ _
theorem brk_len {p : Nat} (hp : 2 ≤ p) {i j : Nat} (h : j < i) : (brk p i j).length = p ^ i + 1 := by
  have h1 := ppow_pos hp i
  have h2 := ppow_pos hp j
  have hlt : p ^ j < p ^ i := Nat.pow_lt_pow_right (by omega) h
  rw [brk, comb, ofF_len, sprT_len hp (by omega), sprT_len hp (by omega)]
  refine top_is (by omega) (fun k h3 h4 => by omega) fun _ => ?_
  simp only [Nat.add_sub_cancel]
  rw [spr_rd (by omega), rd_ge (l := spr [0, 1] (p ^ j)) (by rw [sprT_len hp (by omega)]; omega)]
  have : sprF [0, 1] (p ^ i) (p ^ i) = 1 := by
    simp only [sprF, Nat.mod_self, if_true, Nat.div_self (show 0 < p ^ i by omega)]; rfl
  rw [this, Int.mul_zero, Int.add_zero, Int.emod_eq_of_lt (by omega) (by omega)]
  omega
theorem small_pow {p i : Nat} (hp : 2 ≤ p ∧ p ≤ 7) (hi : i ≤ 6) : p ^ i ≤ 400000 := by
  have h1 : p ^ i ≤ p ^ 6 := ppow_mono hp.1 hi
  have h2 : p ^ 6 ≤ 7 ^ 6 := Nat.pow_le_pow_left hp.2 6
  have h3 : (7 : Nat) ^ 6 = 117649 := by decide
  omega
theorem exp_small {p i : Nat} (hp : 2 ≤ p) (h : p ^ i ≤ 400000) : i ≤ 1000 := by
  rcases Nat.lt_or_ge 1000 i with h1 | h1
  · have h2 : p ^ 19 ≤ p ^ i := Nat.pow_le_pow_right (by omega) (by omega)
    have h3 : 2 ^ 19 ≤ p ^ 19 := Nat.pow_le_pow_left hp 19
    have h4 : (2 : Nat) ^ 19 = 524288 := by decide
    omega
  · exact h1
theorem bracket_is {p i j : Nat} (hp : 2 ≤ p ∧ p ≤ 7) (h1 : p ^ i ≤ 400000) (h2 : p ^ j ≤ 400000) : impl_prime_bracket p i j = some (brk p i j) := by
  have hT := row_T (p := (p : Int)) (by omega)
  have e : impl_letter = some [0, 1] := rfl
  have hi := exp_small hp.1 h1
  have hj := exp_small hp.1 h2
  simp only [impl_prime_bracket, e, Option.bind_some, spread_is hp (show i ≤ 1000000 by omega) hT (by simp) (show p ^ i ≤ 1000000 by omega), spread_is hp (show j ≤ 1000000 by omega) hT (by simp) (show p ^ j ≤ 1000000 by omega)]
  rw [combine_is ⟨by omega, by omega⟩ ((spr_row (by omega) hT _).ent ⟨by omega, by omega⟩) ((spr_row (by omega) hT _).ent ⟨by omega, by omega⟩) ?_ ?_ (by omega)]
  · rfl
  · rw [sprT_len hp.1 (by have := ppow_pos hp.1 i; omega)]; omega
  · rw [sprT_len hp.1 (by have := ppow_pos hp.1 j; omega)]; omega
theorem ent_zero : V64.Ent (vrep 64 0) := fun i hi => by rw [rd_vrep _ hi]; omega
theorem bracketS_is {p i j : Nat} (hp : 2 ≤ p ∧ p ≤ 7) (hi : i ≤ 1000000) (hj : j ≤ 1000000) : ∃ v, spec_l04Bracket p i j = some (v, decide (p ^ i ≤ 63 ∧ p ^ j ≤ 63)) ∧ (p ^ i ≤ 63 ∧ p ^ j ≤ 63 → v = pad (brk p i j)) := by
  have hT := row_T (p := (p : Int)) (by omega)
  have e1 := raise_gen hp hi hT (by simp)
  have e2 := raise_gen hp hj hT (by simp)
  have hs : ∀ q : Nat, (([0, 1] : List Int).length ≤ 1 ∨ (([0, 1] : List Int).length - 1) * q ≤ 63) = (q ≤ 63) := by
    intro q; rw [eq_iff_iff]; simp
  simp only [hs] at e1 e2
  simp only [spec_l04Bracket, T_is, Option.bind_some, e1, e2]
  have hp1 := ppow_pos hp.1 i
  have hp2 := ppow_pos hp.1 j
  by_cases h1 : p ^ i ≤ 63
  · by_cases h2 : p ^ j ≤ 63
    · rw [if_pos h1, if_pos h2]
      simp only
      rw [add_pad ⟨by omega, by omega⟩ (spr_row (by omega) hT _) (spr_row (by omega) hT _) (by rw [sprT_len hp.1 (by omega)]; omega) (by rw [sprT_len hp.1 (by omega)]; omega) (by omega)]
      exact ⟨_, by simp [h1, h2]; rfl, fun _ => rfl⟩
    · rw [if_pos h1, if_neg h2]
      simp only
      obtain ⟨v, h3, _⟩ := add_is (p := p) (k := -1) ⟨by omega, by omega⟩ (ent_pad (spr_row (by omega) hT (p ^ i)) ⟨by omega, by omega⟩) ent_zero (by omega)
      rw [h3]
      exact ⟨v, by simp [h2], fun h => absurd h.2 h2⟩
  · rw [if_neg h1]
    simp only
    have : ∃ v, spec_l01Add p (vrep 64 0) (if p ^ j ≤ 63 then (pad (spr [0, 1] (p ^ j)), true) else (vrep 64 0, false)).1 (-1) = some v := by
      split
      · obtain ⟨v, h3, _⟩ := add_is (p := p) (k := -1) ⟨by omega, by omega⟩ ent_zero (ent_pad (spr_row (by omega) hT (p ^ j)) ⟨by omega, by omega⟩) (by omega)
        exact ⟨v, h3⟩
      · obtain ⟨v, h3, _⟩ := add_is (p := p) (k := -1) ⟨by omega, by omega⟩ ent_zero ent_zero (by omega)
        exact ⟨v, h3⟩
    obtain ⟨v, h3⟩ := this
    rw [h3]
    exact ⟨v, by simp [h1], fun h => absurd h.1 h1⟩

/-! Products, as long as their degrees are not too great. -/
def fac (p : Int) (L : Nat → List Int) : Nat → Option (List Int)
  | 0 => some [1]
  | n + 1 => match fac p L n with
    | none => none
    | some o => if o.length + (L n).length > 65 then none else some (mul p o (L n))
theorem fac_none {p : Int} {L : Nat → List Int} {i n : Nat} (h : i ≤ n) (hi : fac p L i = none) : fac p L n = none := by
  induction n with
  | zero => have : i = 0 := by omega
            subst this; exact hi
  | succ n ih =>
    by_cases e : i = n + 1
    · subst e; exact hi
    · simp only [fac, ih (by omega)]
theorem fac_row {p : Int} (hp : isP p = true) {L : Nat → List Int} (n : Nat) (hL : ∀ j, j < n → Row p (L j) ∧ (L j).length ≠ 0) : ∀ i o, i ≤ n → fac p L i = some o → Row p o ∧ o.length ≠ 0 ∧ o.length ≤ 64
  | 0, o, _, h => by
    have hp2 := isP_pos hp
    simp only [fac, Option.some.injEq] at h
    subst h
    exact ⟨row_one (by omega), by simp, by simp⟩
  | i + 1, o, hi, h => by
    have hp2 := isP_pos hp
    simp only [fac] at h
    split at h
    · cases h
    · rename_i o' ho
      obtain ⟨h1, h2, h3⟩ := fac_row hp n hL i o' (by omega) ho
      obtain ⟨h4, h5⟩ := hL i (by omega)
      split at h
      · cases h
      · rename_i hle
        simp only [Option.some.injEq] at h
        subst h
        have h6 := mul_len_is hp h1 h4 h2 h5
        exact ⟨mul_row (by omega) _ _, by omega, by omega⟩
/-- The program's product. -/
theorem product_is {p : Int} (hp : isP p = true) {M : List (List Int)} (hM : M.length ≤ 1000000) (hL : ∀ j, j < M.length → Row p (rd M j) ∧ (rd M j).length ≠ 0 ∧ (rd M j).length ≤ 500000) :
    impl_prime_productOf p M = some (match fac p (fun j => rd M j) M.length with | none => (vrep 64 0, 3) | some o => (pad o, 0)) := by
  have hp2 := isP_pos hp
  have key : ∀ (m i : Nat) (o : List Int), i + m = M.length → fac p (fun j => rd M j) i = some o →
      loopM (fun s : List Int × Int => impl_prime_productOf_l1 M p s.1 s.2) (o, (i : Int)) = some (match fac p (fun j => rd M j) M.length with | none => .inr (vrep 64 0, 3) | some o => .inl o) := by
    intro m
    induction m with
    | zero =>
      intro i o hi ho
      have : i = M.length := by omega
      subst this
      have step : impl_prime_productOf_l1 M p o (M.length : Int) = some (.inr (.inl o)) := by
        simp only [impl_prime_productOf_l1]
        rw [if_neg (by rw [decide_eq_true_eq]; omega)]
      rw [loopM_eq]
      simp only [step, Option.bind_some, ho]
    | succ m ih =>
      intro i o hi ho
      obtain ⟨h1, h2, h3⟩ := fac_row hp M.length (fun j hj => ⟨(hL j hj).1, (hL j hj).2.1⟩) i o (by omega) ho
      obtain ⟨h4, h5, h6⟩ := hL i (by omega)
      have e1 : IntKind.i64.wrap (IntKind.i64.wrap ((o.length : Int) - 1) + IntKind.i64.wrap (((rd M i).length : Int) - 1)) = (o.length : Int) + (rd M i).length - 2 := by
        rw [wrap64 (n := (o.length : Int) - 1) (by omega) (by omega), wrap64 (n := ((rd M i).length : Int) - 1) (by omega) (by omega), wrap64 (by omega) (by omega)]; omega
      have hfac : fac p (fun j => rd M j) (i + 1) = if o.length + (rd M i).length > 65 then none else some (mul p o (rd M i)) := by simp only [fac, ho]
      by_cases hbig : o.length + (rd M i).length > 65
      · rw [if_pos hbig] at hfac
        have step : impl_prime_productOf_l1 M p o (i : Int) = some (.inr (.inr (vrep 64 0, 3))) := by
          simp only [impl_prime_productOf_l1, impl_row_degree, Option.bind_some, Int.toNat_natCast]
          rw [if_pos (decide_eq_true (by omega)), ifp_pos (by omega), e1, if_pos (decide_eq_true (by omega))]
        rw [loopM_eq]
        simp only [step, Option.bind_some, fac_none (show i + 1 ≤ M.length by omega) hfac]
      · rw [if_neg hbig] at hfac
        have step : impl_prime_productOf_l1 M p o (i : Int) = some (.inl (mul p o (rd M i), ((i + 1 : Nat) : Int))) := by
          simp only [impl_prime_productOf_l1, impl_row_degree, Option.bind_some, Int.toNat_natCast]
          rw [if_pos (decide_eq_true (by omega)), ifp_pos (by omega), e1, if_neg (by rw [decide_eq_true_eq]; omega), times_is ⟨by omega, by omega⟩ (h1.ent ⟨by omega, by omega⟩) (h4.ent ⟨by omega, by omega⟩) (by omega) h6]
          simp only [Option.bind_some]
          rw [wrap64 (by omega) (by omega)]; rfl
        rw [loopM_eq]
        simp only [step, Option.bind_some]
        exact ih (i + 1) _ (by omega) hfac
  have h := key M.length 0 [1] (by omega) rfl
  have h' : loopM (fun s : List Int × Int => impl_prime_productOf_l1 M p s.1 s.2) ([1], 0) = _ := h
  simp only [impl_prime_productOf, h', Option.bind_some]
  cases ho : fac p (fun j => rd M j) M.length with
  | none => rfl
  | some o =>
    obtain ⟨h1, h2, h3⟩ := fac_row hp M.length (fun j hj => ⟨(hL j hj).1, (hL j hj).2.1⟩) _ o (Nat.le_refl _) ho
    simp only [told_is (h1.bytes (by omega)) h3, Option.bind_some]

/-- The brackets of the factorials. -/
def facL (p i : Nat) (second : Bool) (j : Nat) : List Int := if second then brk p (j + 1) 0 else brk p i j
theorem facL_ok {p : Nat} (hp : 2 ≤ p ∧ p ≤ 7) {i : Nat} (hi : p ^ i ≤ 400000) (second : Bool) {j : Nat} (hj : j < i) : Row (p : Int) (facL p i second j) ∧ (facL p i second j).length ≠ 0 ∧ (facL p i second j).length ≤ 500000 := by
  unfold facL
  split
  · have := ppow_mono hp.1 (show j + 1 ≤ i by omega)
    exact ⟨brk_row hp.1 _ _, by rw [brk_len hp.1 (by omega)]; omega, by rw [brk_len hp.1 (by omega)]; omega⟩
  · exact ⟨brk_row hp.1 _ _, by rw [brk_len hp.1 hj]; omega, by rw [brk_len hp.1 hj]; omega⟩
/-- The reference's factorial. -/
theorem factorial_is {p i : Nat} (hp : isP p = true) (hi0 : p ^ i ≤ 400000) (second : Bool) :
    spec_l04Factorial p i second = some (match fac p (facL p i second) i with | none => (vrep 64 0, false) | some o => (pad o, true)) := by
  have hp2 := isP_pos hp
  have hpp : 2 ≤ p ∧ p ≤ 7 := by omega
  have hi := exp_small hpp.1 hi0
  have key : ∀ (m j : Nat) (o : List Int), j + m = i → fac p (facL p i second) j = some o →
      loopM (fun s : Bool × Int × V64 => spec_l04Factorial_l1 (i : Int) p s.1 s.2.1 s.2.2) (second, (j : Int), pad o) = some (match fac p (facL p i second) i with | none => .inr (vrep 64 0, false) | some o => .inl (pad o)) := by
    intro m
    induction m with
    | zero =>
      intro j o hj ho
      have : j = i := by omega
      subst this
      have step : spec_l04Factorial_l1 (j : Int) p second (j : Int) (pad o) = some (.inr (.inl (pad o))) := by
        simp only [spec_l04Factorial_l1]
        rw [if_neg (by rw [decide_eq_true_eq]; omega)]
      rw [loopM_eq]
      simp only [step, Option.bind_some, ho]
    | succ m ih =>
      intro j o hj ho
      have hLok := fun j (hj : j < i) => facL_ok hpp hi0 second hj
      obtain ⟨h1, h2, h3⟩ := fac_row hp i (fun j hj => ⟨(hLok j hj).1, (hLok j hj).2.1⟩) j o (by omega) ho
      obtain ⟨h4, h5, h6⟩ := hLok j (by omega)
      have hfac : fac p (facL p i second) (j + 1) = if o.length + (facL p i second j).length > 65 then none else some (mul p o (facL p i second j)) := by simp only [fac, ho]
      -- the bracket
      have hb : ∃ (v : V64) (e : Nat), (facL p i second j).length = p ^ e + 1 ∧ (p ^ e ≤ 63 → v = pad (facL p i second j)) ∧ spec_l04Factorial_l1 (i : Int) p second (j : Int) (pad o) =
          (if (!decide (p ^ e ≤ 63)) then (some (.inr ((.inr (((vrep 64 (0 : Int)), false)))))) else (Option.bind (spec_l01Times p (pad o) v) fun r187 => (if (!r187.2) then (some (.inr ((.inr (((vrep 64 (0 : Int)), false)))))) else (some (.inl ((second, ((j + 1 : Nat) : Int), r187.1))))))) := by
        obtain ⟨v1, g1, g2⟩ := bracketS_is (i := i) (j := j) hpp (by omega) (by omega)
        have ew : IntKind.i64.wrap ((j : Int) + 1) = ((j + 1 : Nat) : Int) := by rw [wrap64 (by omega) (by omega)]; rfl
        have hji : p ^ j ≤ p ^ i := ppow_mono hpp.1 (by omega)
        cases second with
        | false =>
          refine ⟨v1, i, by simp only [facL]; exact brk_len hpp.1 (by omega), fun h => g2 ⟨h, by omega⟩, ?_⟩
          simp only [spec_l04Factorial_l1]
          rw [if_pos (decide_eq_true (by omega)), g1]
          simp only [Option.bind_some, Bool.false_eq_true, if_false, ew]
          have : decide (p ^ i ≤ 63 ∧ p ^ j ≤ 63) = decide (p ^ i ≤ 63) := by rw [Bool.eq_iff_iff]; simp only [decide_eq_true_eq]; omega
          rw [this]
        | true =>
          obtain ⟨v2, g3, g4⟩ := bracketS_is (i := j + 1) (j := 0) hpp (by omega) (by omega)
          refine ⟨v2, j + 1, by simp only [facL]; exact brk_len hpp.1 (by omega), fun h => g4 ⟨h, by simp⟩, ?_⟩
          have g3' : spec_l04Bracket p ((j + 1 : Nat) : Int) 0 = some (v2, decide (p ^ (j + 1) ≤ 63 ∧ p ^ 0 ≤ 63)) := g3
          simp only [spec_l04Factorial_l1]
          rw [if_pos (decide_eq_true (by omega)), g1]
          simp only [Option.bind_some, if_true, ew, g3']
          have : decide (p ^ (j + 1) ≤ 63 ∧ p ^ 0 ≤ 63) = decide (p ^ (j + 1) ≤ 63) := by rw [Bool.eq_iff_iff]; simp
          rw [this]
      obtain ⟨v, e, hlen, hv, hstep⟩ := hb
      by_cases he : p ^ e ≤ 63
      · rw [hv he] at hstep
        simp only [he, decide_true, Bool.not_true, Bool.false_eq_true, if_false] at hstep
        by_cases hbig : o.length + (facL p i second j).length > 65
        · rw [if_pos hbig] at hfac
          rw [times_pad_no h1 h4 h3 (by omega) h2 h5 (by omega)] at hstep
          simp only [Option.bind_some, Bool.not_false, if_true] at hstep
          rw [loopM_eq]
          simp only [hstep, Option.bind_some, fac_none (show j + 1 ≤ i by omega) hfac]
        · rw [if_neg hbig] at hfac
          rw [times_pad ⟨by omega, by omega⟩ h1 h4 h3 (by omega) (by omega)] at hstep
          simp only [Option.bind_some, Bool.not_true, Bool.false_eq_true, if_false] at hstep
          rw [loopM_eq]
          simp only [hstep, Option.bind_some]
          exact ih (j + 1) _ (by omega) hfac
      · simp only [he, decide_false, Bool.not_false, if_true] at hstep
        rw [if_pos (by omega)] at hfac
        rw [loopM_eq]
        simp only [hstep, Option.bind_some, fac_none (show j + 1 ≤ i by omega) hfac]
  have h := key i 0 [1] (by omega) rfl
  have h' : loopM (fun s : Bool × Int × V64 => spec_l04Factorial_l1 (i : Int) p s.1 s.2.1 s.2.2) (second, 0, pad [1]) = _ := h
  simp only [spec_l04Factorial, one_is, Option.bind_some, h']
  cases fac p (facL p i second) i <;> rfl
theorem fac_congr {p : Int} {L L' : Nat → List Int} : ∀ n, (∀ j, j < n → L j = L' j) → fac p L n = fac p L' n
  | 0, _ => rfl
  | n + 1, h => by simp only [fac, fac_congr n fun j hj => h j (by omega), h n (by omega)]
theorem first_is {p i : Nat} (hp : 2 ≤ p ∧ p ≤ 7) (hi0 : p ^ i ≤ 400000) : impl_prime_first p i = some ((List.range i).map (facL p i false)) := by
  have hi := exp_small hp.1 hi0
  obtain ⟨s, g1, g2⟩ := loopM_for (body := fun s : Int × List (List Int) => impl_prime_first_l1 (i : Int) p s.1 s.2) (fun i s => ((i : Int), s)) (fun s => s) i
    (fun j s => s = (List.range j).map (facL p i false)) (fun j s hj hI => by
      subst hI
      refine ⟨_, ?_, rfl⟩
      simp only [impl_prime_first_l1]
      rw [if_pos (decide_eq_true (by omega)), bracket_is hp hi0 (Nat.le_trans (ppow_mono hp.1 (show j ≤ i by omega)) hi0)]
      simp only [Option.bind_some]
      rw [ifp_pos (by simp; omega), wrap64 (by omega) (by omega), List.range_succ, List.map_append]
      rfl) (fun s hI => by
      simp only [impl_prime_first_l1]
      rw [if_neg (by rw [decide_eq_true_eq]; omega)]) i 0 [] (by omega) rfl
  have g1' : loopM (fun s : Int × List (List Int) => impl_prime_first_l1 (i : Int) p s.1 s.2) (0, []) = some s := g1
  simp only [impl_prime_first, g1', g2, Option.bind_some]
theorem rd_range {f : Nat → List Int} {n j : Nat} (h : j < n) : rd ((List.range n).map f) j = f j := by simp [rd, h]
theorem productL_is {p i : Nat} (hp : isP p = true) (hi0 : p ^ i ≤ 400000) (second : Bool) : impl_prime_productOf p ((List.range i).map (facL p i second)) = some (match fac p (facL p i second) i with | none => (vrep 64 0, 3) | some o => (pad o, 0)) := by
  have hp2 := isP_pos hp
  have hi := exp_small (show 2 ≤ p by omega) hi0
  rw [product_is hp (by simp; omega) fun j hj => by
    simp at hj
    rw [rd_range hj]
    exact facL_ok (by omega) hi0 second hj]
  simp only [List.length_map, List.length_range]
  rw [fac_congr i fun j hj => rd_range hj]
end Go.Proofs.Ytkbnegemdlnncaa
/- Polynomials modulo p are a ring: products go along with sums, in any order. -/
namespace Go.Abs

theorem sumTo_add (f g : Nat → Int) : ∀ n, sumTo n (fun i => f i + g i) = sumTo n f + sumTo n g
  | 0 => rfl
  | n + 1 => by simp only [sumTo, sumTo_add f g n]; omega
theorem sumTo_mul (c : Int) (f : Nat → Int) : ∀ n, sumTo n (fun i => c * f i) = c * sumTo n f
  | 0 => by simp [sumTo]
  | n + 1 => by simp only [sumTo, sumTo_mul c f n, Int.mul_add]
theorem sumTo_mul' (c : Int) (f : Nat → Int) (n : Nat) : sumTo n (fun i => f i * c) = sumTo n f * c := by
  rw [Int.mul_comm, ← sumTo_mul]
  exact sumTo_congr n fun i _ => Int.mul_comm _ _
theorem sumTo_swap (f : Nat → Nat → Int) (m : Nat) : ∀ n, sumTo n (fun i => sumTo m (fun j => f i j)) = sumTo m (fun j => sumTo n (fun i => f i j))
  | 0 => (sumTo_zero m fun _ _ => rfl).symm
  | n + 1 => by simp only [sumTo]; rw [sumTo_swap f m n, ← sumTo_add]
/-- The first summand apart. -/
theorem sumTo_first (f : Nat → Int) : ∀ n, sumTo (n + 1) f = f 0 + sumTo n fun i => f (i + 1)
  | 0 => by simp [sumTo]
  | n + 1 => by
    have := sumTo_first f n
    simp only [sumTo] at this ⊢
    omega
theorem sumTo_rev (f : Nat → Int) : ∀ n, sumTo (n + 1) f = sumTo (n + 1) fun i => f (n - i)
  | 0 => rfl
  | n + 1 => by
    rw [sumTo_first (fun i => f (n + 1 - i)) (n + 1)]
    have h := sumTo_rev f n
    have e : sumTo (n + 1) (fun i => f (n + 1 - (i + 1))) = sumTo (n + 1) fun i => f (n - i) := sumTo_congr _ fun i _ => by rw [show n + 1 - (i + 1) = n - i by omega]
    rw [e, ← h]
    simp only [sumTo, Nat.sub_zero]
    omega
/-- Summands from j on. -/
theorem sumTo_from (g : Nat → Int) (j : Nat) : ∀ n, sumTo (j + n) (fun i => if j ≤ i then g (i - j) else 0) = sumTo n g
  | 0 => by rw [Nat.add_zero]; exact sumTo_zero j fun i hi => if_neg (by omega)
  | n + 1 => by
    rw [← Nat.add_assoc]
    simp only [sumTo]
    rw [sumTo_from g j n, if_pos (by omega), show j + n - j = n by omega]

theorem cv_more (a b : Nat → Int) {n k : Nat} (h : k + 1 ≤ n) : cv a b n k = conv a b k := by
  obtain ⟨m, rfl⟩ : ∃ m, n = k + 1 + m := ⟨n - (k + 1), by omega⟩
  exact sumTo_more m fun i h1 _ => if_neg (by omega)
theorem conv_comm (a b : Nat → Int) (k : Nat) : conv a b k = conv b a k := by
  unfold conv cv
  rw [sumTo_rev]
  refine sumTo_congr _ fun i hi => ?_
  rw [if_pos (by omega), if_pos (by omega), show k - (k - i) = i by omega, Int.mul_comm]
theorem conv_assoc (a b c : Nat → Int) (k : Nat) : conv (conv a b) c k = conv a (conv b c) k := by
  have h1 : conv (conv a b) c k = sumTo (k + 1) fun i => sumTo (k + 1) fun j => (if j ≤ i then a j * b (i - j) else 0) * c (k - i) := by
    unfold conv
    refine sumTo_congr _ fun i hi => ?_
    rw [if_pos (by omega), sumTo_mul']
    congr 1
    exact (cv_more a b (n := k + 1) (by omega)).symm
  have h2 : conv a (conv b c) k = sumTo (k + 1) fun j => a j * sumTo (k + 1 - j) fun l => b l * c (k - j - l) := by
    unfold conv
    refine sumTo_congr _ fun j hj => ?_
    rw [if_pos (by omega)]
    congr 1
    show sumTo (k - j + 1) (fun i => if i ≤ k - j then b i * c (k - j - i) else 0) = _
    rw [show k - j + 1 = k + 1 - j by omega]
    exact sumTo_congr _ fun l hl => if_pos (by omega)
  rw [h1, h2, sumTo_swap]
  refine sumTo_congr _ fun j hj => ?_
  rw [← sumTo_mul, ← sumTo_from (fun l => a j * (b l * c (k - j - l))) j (k + 1 - j), show j + (k + 1 - j) = k + 1 by omega]
  refine sumTo_congr _ fun i hi => ?_
  by_cases h : j ≤ i
  · rw [if_pos h, if_pos h, show k - j - (i - j) = k - i by omega, Int.mul_assoc]
  · rw [if_neg h, if_neg h, Int.zero_mul]
theorem conv_addl (a b c : Nat → Int) (s : Int) (k : Nat) : conv (fun i => a i + s * b i) c k = conv a c k + s * conv b c k := by
  unfold conv cv
  rw [← sumTo_mul, ← sumTo_add]
  refine sumTo_congr _ fun i _ => ?_
  split
  · rw [Int.add_mul, Int.mul_assoc]
  · simp

/-! Modulo p. -/
theorem sumTo_mod {p : Int} {f g : Nat → Int} : ∀ n, (∀ i, i < n → f i % p = g i % p) → sumTo n f % p = sumTo n g % p
  | 0, _ => rfl
  | n + 1, h => by
    simp only [sumTo]
    rw [Int.add_emod, sumTo_mod n fun i hi => h i (by omega), h n (by omega), ← Int.add_emod]
theorem conv_mod {p : Int} {a a' b b' : Nat → Int} (ha : ∀ i, a i % p = a' i % p) (hb : ∀ i, b i % p = b' i % p) (k : Nat) : conv a b k % p = conv a' b' k % p := by
  refine sumTo_mod _ fun i _ => ?_
  split
  · rw [Int.mul_emod, ha, hb, ← Int.mul_emod]
  · rfl
theorem Row.mod {p : Int} {l : List Int} (h : Row p l) (hp : 0 < p) (i : Nat) : Abs.rd l i % p = Abs.rd l i := Int.emod_eq_of_lt (h.rd hp i).1 (h.rd hp i).2

theorem mul_comm' (p : Int) (a b : List Int) : mul p a b = mul p b a := by
  unfold mul
  rw [Nat.add_comm]
  exact ofF_congr fun i _ => by rw [conv_comm]
theorem mul_assoc' {p : Int} (hp : 0 < p) (a b c : List Int) : mul p (mul p a b) c = mul p a (mul p b c) := by
  refine row_ext (mul_row hp _ _) (mul_row hp _ _) fun i => ?_
  rw [mul_rd, mul_rd]
  rw [conv_mod (a' := conv (rd a) (rd b)) (b' := rd c) (fun j => by rw [mul_rd, Int.emod_emod]) (fun _ => rfl), conv_assoc]
  exact conv_mod (fun _ => rfl) (fun j => by rw [mul_rd, Int.emod_emod]) i
theorem conv_one (a : Nat → Int) (i : Nat) : conv a (rd [1]) i = a i := by
  rw [conv_comm]
  unfold conv cv
  rw [sumTo_first, if_pos (by omega), sumTo_zero i fun j hj => ?_]
  · simp [rd]
  · rw [show rd ([1] : List Int) (j + 1) = 0 from rd_ge (by simp)]; simp
theorem mul_one' {p : Int} (hp : 0 < p) {a : List Int} (ha : Row p a) : mul p a [1] = a :=
  row_ext (mul_row hp _ _) ha fun i => by rw [mul_rd, conv_one, ha.mod hp]
theorem one_mul' {p : Int} (hp : 0 < p) {a : List Int} (ha : Row p a) : mul p [1] a = a := by rw [mul_comm', mul_one' hp ha]
theorem comb_mul {p : Int} (hp : 0 < p) (a b c : List Int) (k : Int) : mul p (comb p a b k) c = comb p (mul p a c) (mul p b c) k := by
  refine row_ext (mul_row hp _ _) (comb_row hp _ _ _) fun i => ?_
  rw [mul_rd, comb_rd, mul_rd, mul_rd, conv_mod (a' := fun i => rd a i + k * rd b i) (b' := rd c) (fun j => by rw [comb_rd, Int.emod_emod]) (fun _ => rfl), conv_addl]
  rw [Int.add_emod (conv (rd a) (rd c) i % p), Int.emod_emod, Int.mul_emod k (conv (rd b) (rd c) i % p), Int.emod_emod, ← Int.mul_emod, ← Int.add_emod]
theorem mul_comb {p : Int} (hp : 0 < p) (a b c : List Int) (k : Int) : mul p c (comb p a b k) = comb p (mul p c a) (mul p c b) k := by
  rw [mul_comm', comb_mul hp, mul_comm' p a, mul_comm' p b]
theorem comb_nil {p : Int} (hp : 0 < p) {a : List Int} (ha : Row p a) (k : Int) : comb p a [] k = a :=
  row_ext (comb_row hp _ _ _) ha fun i => by rw [comb_rd, rd_nil, Int.mul_zero, Int.add_zero, ha.mod hp]

/-! Products of lists, as long as their degrees are not too great. -/
def degs : List (List Int) → Nat
  | [] => 0
  | b :: M => (b.length - 1) + degs M
theorem degs_app : ∀ (M N : List (List Int)), degs (M ++ N) = degs M + degs N
  | [], N => by simp [degs]
  | b :: M, N => by simp [degs, degs_app M N]; omega
def prodF (p : Int) (o : List Int) (M : List (List Int)) : List Int := M.foldl (mul p) o
theorem prodF_row {p : Int} (hp : isP p = true) : ∀ (M : List (List Int)) (o : List Int), Row p o → o.length ≠ 0 → (∀ b ∈ M, Row p b ∧ b.length ≠ 0) → Row p (prodF p o M) ∧ (prodF p o M).length = o.length + degs M
  | [], o, ho, h0, _ => ⟨ho, by simp [prodF, degs]⟩
  | b :: M, o, ho, h0, hM => by
    have hp2 := isP_pos hp
    obtain ⟨hb, hb0⟩ := hM b (by simp)
    have hl := mul_len_is hp ho hb h0 hb0
    obtain ⟨h1, h2⟩ := prodF_row hp M (mul p o b) (mul_row (by omega) _ _) (by omega) fun c hc => hM c (by simp [hc])
    exact ⟨h1, by show (prodF p (mul p o b) M).length = _; rw [h2, hl]; simp only [degs]; omega⟩
theorem prodF_app (p : Int) (o : List Int) (M N : List (List Int)) : prodF p o (M ++ N) = prodF p (prodF p o M) N := List.foldl_append
theorem prodF_mul {p : Int} (hp : 0 < p) : ∀ (M : List (List Int)) (o q : List Int), prodF p (mul p o q) M = mul p o (prodF p q M)
  | [], _, _ => rfl
  | b :: M, o, q => by
    show prodF p (mul p (mul p o q) b) M = mul p o (prodF p (mul p q b) M)
    rw [mul_assoc' hp, prodF_mul hp M]
end Go.Abs
/- Products that are told as long as their degrees are not too great, in closed form. -/
namespace Go.Proofs.Ytkbnegemdlnncaa
open Go.Abs

theorem fac_closed {p : Int} (hp : isP p = true) (L : Nat → List Int) : ∀ n, (∀ j, j < n → Row p (L j) ∧ (L j).length ≠ 0) →
    fac p L n = if degs ((List.range n).map L) ≤ 63 then some (prodF p [1] ((List.range n).map L)) else none
  | 0, _ => by simp [fac, degs, prodF]
  | n + 1, hL => by
    have hp2 := isP_pos hp
    have ih := fac_closed hp L n fun j hj => hL j (by omega)
    obtain ⟨h1, h2⟩ := hL n (by omega)
    have hM : ∀ b ∈ (List.range n).map L, Row p b ∧ b.length ≠ 0 := by
      intro b hb
      simp only [List.mem_map, List.mem_range] at hb
      obtain ⟨j, hj, rfl⟩ := hb
      exact hL j (by omega)
    obtain ⟨h3, h4⟩ := prodF_row hp ((List.range n).map L) [1] (row_one (by omega)) (by simp) hM
    simp only [fac, ih]
    rw [List.range_succ, List.map_append, degs_app, prodF_app]
    simp only [List.map_cons, List.map_nil, degs, Nat.add_zero]
    by_cases h : degs ((List.range n).map L) ≤ 63
    · rw [if_pos h]
      simp only [h4, List.length_singleton]
      by_cases h5 : degs ((List.range n).map L) + ((L n).length - 1) ≤ 63
      · rw [if_pos h5, if_neg (by omega)]; rfl
      · rw [if_neg h5, if_pos (by omega)]
    · rw [if_neg h, if_neg (by omega)]
theorem fac_list {p : Int} (hp : isP p = true) {M : List (List Int)} (hM : ∀ b ∈ M, Row p b ∧ b.length ≠ 0) : fac p (fun j => rd M j) M.length = if degs M ≤ 63 then some (prodF p [1] M) else none := by
  have e : (List.range M.length).map (fun j => rd M j) = M := by
    apply List.ext_getElem (by simp)
    intro i h1 h2
    simp [rd, h2]
  rw [fac_closed hp _ _ fun j hj => hM _ (by rw [show rd M j = M[j] by simp [rd, hj]]; exact List.getElem_mem _), e]
end Go.Proofs.Ytkbnegemdlnncaa
/- Commutative rings, told by their laws: powers, the Frobenius, roots of polynomials, powers in finite fields. -/
namespace Go.Abs

structure IsRing (K : Type) [Add K] [Mul K] [Neg K] [Zero K] [One K] : Prop where
  add_comm : ∀ a b : K, a + b = b + a
  add_assoc : ∀ a b c : K, a + b + c = a + (b + c)
  add_zero : ∀ a : K, a + 0 = a
  add_neg : ∀ a : K, a + -a = 0
  mul_comm : ∀ a b : K, a * b = b * a
  mul_assoc : ∀ a b c : K, a * b * c = a * (b * c)
  mul_one : ∀ a : K, a * 1 = a
  mul_add : ∀ a b c : K, a * (b + c) = a * b + a * c

section
variable {K : Type} [Add K] [Mul K] [Neg K] [Zero K] [One K]

def pw (x : K) : Nat → K
  | 0 => 1
  | n + 1 => pw x n * x
def nsm : Nat → K → K
  | 0, _ => 0
  | n + 1, x => nsm n x + x

namespace IsRing
variable (R : IsRing K)
include R
theorem zero_add (a : K) : 0 + a = a := by rw [R.add_comm, R.add_zero]
theorem neg_add (a : K) : -a + a = 0 := by rw [R.add_comm, R.add_neg]
theorem add_left_comm (a b c : K) : a + (b + c) = b + (a + c) := by rw [← R.add_assoc, R.add_comm a b, R.add_assoc]
theorem mul_left_comm (a b c : K) : a * (b * c) = b * (a * c) := by rw [← R.mul_assoc, R.mul_comm a b, R.mul_assoc]
theorem one_mul (a : K) : 1 * a = a := by rw [R.mul_comm, R.mul_one]
theorem add_mul (a b c : K) : (a + b) * c = a * c + b * c := by rw [R.mul_comm, R.mul_add, R.mul_comm c a, R.mul_comm c b]
theorem cancel {a b c : K} (h : a + b = a + c) : b = c := by
  have : -a + (a + b) = -a + (a + c) := by rw [h]
  rwa [← R.add_assoc, ← R.add_assoc, R.neg_add, R.zero_add, R.zero_add] at this
theorem mul_zero (a : K) : a * 0 = 0 := by
  have h : a * 0 + a * 0 = a * 0 + 0 := by rw [← R.mul_add, R.add_zero, R.add_zero]
  exact R.cancel h
theorem zero_mul (a : K) : 0 * a = 0 := by rw [R.mul_comm, R.mul_zero]
theorem neg_of {a b : K} (h : a + b = 0) : b = -a := R.cancel (a := a) (by rw [h, R.add_neg])
theorem mul_neg (a b : K) : a * -b = -(a * b) := R.neg_of (by rw [← R.mul_add, R.add_neg, R.mul_zero])
theorem neg_neg (a : K) : - -a = a := (R.neg_of (R.neg_add a)).symm
theorem sub_zero {a b : K} (h : a + -b = 0) : a = b := by
  have h' := R.neg_of ((R.add_comm _ _).trans h)
  rw [R.neg_neg] at h'
  exact h'

/-! Powers and multiples. -/
theorem pw_one (n : Nat) : pw (1 : K) n = 1 := by
  induction n with
  | zero => rfl
  | succ n ih => simp only [pw, ih, R.mul_one]
theorem pw_zero {n : Nat} (h : n ≠ 0) : pw (0 : K) n = 0 := by
  cases n with
  | zero => exact absurd rfl h
  | succ n => simp only [pw, R.mul_zero]
theorem pw_add (x : K) (n m : Nat) : pw x (n + m) = pw x n * pw x m := by
  induction m with
  | zero => simp only [pw, Nat.add_zero, R.mul_one]
  | succ m ih => rw [← Nat.add_assoc]; simp only [pw, ih, R.mul_assoc]
theorem pw_mul (x : K) (n m : Nat) : pw x (n * m) = pw (pw x n) m := by
  induction m with
  | zero => simp only [pw, Nat.mul_zero]
  | succ m ih => rw [Nat.mul_succ, R.pw_add, ih]; rfl
theorem mul_pw (x y : K) (n : Nat) : pw (x * y) n = pw x n * pw y n := by
  induction n with
  | zero => simp only [pw, R.mul_one]
  | succ n ih => simp only [pw, ih, R.mul_assoc, R.mul_left_comm]
theorem nsm_add (n m : Nat) (x : K) : nsm (n + m) x = nsm n x + nsm m x := by
  induction m with
  | zero => simp only [nsm, Nat.add_zero, R.add_zero]
  | succ m ih => rw [← Nat.add_assoc]; simp only [nsm, ih, R.add_assoc]
theorem nsm_mul (n m : Nat) (x : K) : nsm (n * m) x = nsm n (nsm m x) := by
  induction n with
  | zero => simp only [nsm, Nat.zero_mul]
  | succ n ih => rw [Nat.succ_mul, R.nsm_add, ih]; rfl
theorem mul_nsm (n : Nat) (x y : K) : x * nsm n y = nsm n (x * y) := by
  induction n with
  | zero => simp only [nsm, R.mul_zero]
  | succ n ih => simp only [nsm, R.mul_add, ih]
theorem nsm_zero (n : Nat) : nsm n (0 : K) = 0 := by
  induction n with
  | zero => rfl
  | succ n ih => simp only [nsm, ih, R.add_zero]

end IsRing

/-- The sum of c_i x^i y^(n - i). -/
def hom (x y : K) : List Nat → K
  | [] => 0
  | c :: l => nsm c (pw y l.length) + x * hom x y l
def pasc : Nat → List Nat → List Nat
  | k, [] => [k]
  | k, c :: l => (k + c) :: pasc c l
theorem pasc_len : ∀ (k : Nat) (l : List Nat), (pasc k l).length = l.length + 1
  | _, [] => rfl
  | k, c :: l => by simp only [pasc, List.length_cons, pasc_len c l]
def pascn : Nat → List Nat
  | 0 => [1]
  | n + 1 => pasc 0 (pascn n)

namespace IsRing
variable (R : IsRing K)
include R
theorem hom_pasc (x y : K) : ∀ (l : List Nat) (k : Nat), hom x y (pasc k l) = nsm k (pw y l.length) + (x + y) * hom x y l
  | [], k => by simp only [pasc, hom, List.length_nil, pw, R.mul_zero]
  | c :: l, k => by
    simp only [pasc, hom, pasc_len, List.length_cons, hom_pasc x y l c]
    have e1 : nsm (k + c) (pw y (l.length + 1)) = nsm k (pw y (l.length + 1)) + y * nsm c (pw y l.length) := by
      rw [R.nsm_add, R.mul_nsm, R.mul_comm y]; rfl
    rw [e1]
    simp only [R.mul_add, R.add_mul, R.add_assoc, R.mul_left_comm y x]
    congr 1
    exact R.add_left_comm _ _ _
theorem pw_sum (x y : K) (n : Nat) : pw (x + y) n = hom x y (pascn n) := by
  induction n with
  | zero => simp only [pw, pascn, hom, List.length_nil, nsm, R.mul_zero, R.add_zero, R.zero_add]
  | succ n ih => simp only [pw, pascn, ih, R.hom_pasc, nsm, R.zero_add, R.mul_comm]
theorem frob {p : Nat} (hp : p = 2 ∨ p = 3 ∨ p = 5 ∨ p = 7) (hc : ∀ x : K, nsm p x = 0) (x y : K) : pw (x + y) p = pw x p + pw y p := by
  have hm : ∀ m (z : K), nsm (m * p) z = 0 := fun m z => by rw [R.nsm_mul, hc, R.nsm_zero]
  rw [R.pw_sum]
  rcases hp with rfl | rfl | rfl | rfl
  · have h := hm 1
    show hom x y [1, 2, 1] = _
    simp only [hom, List.length_cons, List.length_nil, h, nsm, R.zero_add, R.add_zero, R.mul_zero, pw, R.mul_one, R.one_mul, R.mul_assoc] at h ⊢
    rw [R.add_comm]
    simp only [h, R.zero_add]
  · have h1 := hm 1
    show hom x y [1, 3, 3, 1] = _
    have e : ∀ z : K, nsm 3 z = 0 := h1
    unfold hom hom hom hom hom
    simp only [e, List.length_cons, List.length_nil, R.zero_add]
    simp only [nsm, R.zero_add, R.add_zero, R.mul_zero, pw, R.mul_one, R.one_mul, R.mul_assoc]
    rw [R.add_comm]
  · have e1 : ∀ z : K, nsm 5 z = 0 := hm 1
    have e2 : ∀ z : K, nsm 10 z = 0 := hm 2
    show hom x y [1, 5, 10, 10, 5, 1] = _
    unfold hom hom hom hom hom hom hom
    simp only [e1, e2, List.length_cons, List.length_nil, R.zero_add]
    simp only [nsm, R.zero_add, R.add_zero, R.mul_zero, pw, R.mul_one, R.one_mul, R.mul_assoc]
    rw [R.add_comm]
  · have e1 : ∀ z : K, nsm 7 z = 0 := hm 1
    have e2 : ∀ z : K, nsm 21 z = 0 := hm 3
    have e3 : ∀ z : K, nsm 35 z = 0 := hm 5
    show hom x y [1, 7, 21, 35, 35, 21, 7, 1] = _
    unfold hom hom hom hom hom hom hom hom hom
    simp only [e1, e2, e3, List.length_cons, List.length_nil, R.zero_add]
    simp only [nsm, R.zero_add, R.add_zero, R.mul_zero, pw, R.mul_one, R.one_mul, R.mul_assoc]
    rw [R.add_comm]
theorem frobn {p : Nat} (hp : p = 2 ∨ p = 3 ∨ p = 5 ∨ p = 7) (hc : ∀ x : K, nsm p x = 0) (x y : K) (n : Nat) : pw (x + y) (p ^ n) = pw x (p ^ n) + pw y (p ^ n) := by
  induction n with
  | zero => simp only [Nat.pow_zero, pw, R.one_mul]
  | succ n ih => rw [Nat.pow_succ, R.pw_mul, R.pw_mul, R.pw_mul, ih, R.frob hp hc]
end IsRing

/-! Polynomials from the leading coefficient on. -/
def hn (x : K) : K → List K → K
  | a, [] => a
  | a, c :: l => hn x (a * x + c) l
def synd (r : K) : K → List K → List K
  | _, [] => []
  | a, c :: l => a :: synd r (a * r + c) l
omit [Neg K] [Zero K] [One K] in
theorem synd_len (r : K) : ∀ (a : K) (l : List K), (synd r a l).length = l.length
  | _, [] => rfl
  | a, c :: l => by simp only [synd, List.length_cons, synd_len r _ l]

namespace IsRing
variable (R : IsRing K)
include R
theorem hn_synd (x r : K) : ∀ (l : List K) (a y : K), hn x (a + (x + -r) * y) l = (x + -r) * hn x y (synd r a l) + hn r a l
  | [], a, y => by simp only [hn, synd]; exact R.add_comm _ _
  | c :: l, a, y => by
    simp only [hn, synd]
    rw [← hn_synd x r l (a * r + c) (y * x + a)]
    congr 1
    have e : a * x = a * r + (x + -r) * a := by
      rw [R.add_mul, R.mul_comm (-r), R.mul_neg, R.mul_comm x a, R.add_left_comm, R.add_neg, R.add_zero]
    rw [R.add_mul, e, R.mul_add, R.mul_assoc]
    simp only [R.add_assoc, R.add_comm c]
    congr 1
    rw [R.add_left_comm]
/-- A monic polynomial has no more roots than its degree. -/
theorem roots (hd : ∀ a b : K, a * b = 0 → a = 0 ∨ b = 0) (h10 : (1 : K) ≠ 0) : ∀ (n : Nat) (l L : List K), l.length = n → L.Nodup → (∀ x ∈ L, hn x 1 l = 0) → L.length ≤ n
  | _, _, [], _, _, _ => Nat.zero_le _
  | 0, l, r :: L, hl, _, hr => by
    have : l = [] := List.eq_nil_of_length_eq_zero hl
    subst this
    exact absurd (hr r (by simp)) h10
  | n + 1, [], r :: L, hl, _, _ => by simp at hl
  | n + 1, c :: l, r :: L, hl, hN, hr => by
    have hr0 : hn r 1 (c :: l) = 0 := hr r (by simp)
    have key : ∀ x ∈ L, hn x 1 (synd r (1 * r + c) l) = 0 := by
      intro x hx
      have h0 := hr x (by simp [hx])
      have h1 := R.hn_synd x r (c :: l) 1 0
      rw [R.mul_zero, R.add_zero, h0, hr0, R.add_zero] at h1
      simp only [synd, hn, R.zero_mul, R.zero_add] at h1
      rcases hd _ _ h1.symm with h | h
      · have : x = r := R.sub_zero h
        subst this
        exact absurd hx (List.nodup_cons.1 hN).1
      · exact h
    have := roots hd h10 n (synd r (1 * r + c) l) L (by rw [synd_len]; simpa using hl) (List.nodup_cons.1 hN).2 key
    simp only [List.length_cons]; omega
theorem hn_rep (x : K) (m : List K) : ∀ (k : Nat) (a : K), hn x a (List.replicate k 0 ++ m) = hn x (a * pw x k) m
  | 0, a => by simp [pw, R.mul_one]
  | k + 1, a => by
    simp only [List.replicate_succ, List.cons_append, hn, R.add_zero]
    rw [hn_rep x m k, R.mul_assoc]
    simp only [pw]
    rw [R.mul_comm x]
/-- At most N elements are their own N-th powers. -/
theorem fixed_le (hd : ∀ a b : K, a * b = 0 → a = 0 ∨ b = 0) (h10 : (1 : K) ≠ 0) {N : Nat} (hN : 2 ≤ N) {L : List K} (hL : L.Nodup) (hx : ∀ x ∈ L, pw x N = x) : L.length ≤ N := by
  obtain ⟨k, rfl⟩ : ∃ k, N = k + 2 := ⟨N - 2, by omega⟩
  refine R.roots hd h10 (k + 2) (List.replicate k 0 ++ [-1, 0]) L (by simp) hL fun x h => ?_
  have h2 := hx x h
  rw [R.hn_rep, R.one_mul]
  simp only [hn, R.add_zero]
  simp only [pw] at h2
  rw [R.add_mul, h2, R.mul_comm (-1), R.mul_neg, R.mul_one, R.add_neg]

end IsRing
theorem mem_of_len {α : Type} [DecidableEq α] : ∀ l m : List α, l.Nodup → (∀ x ∈ l, x ∈ m) → m.length ≤ l.length → ∀ y ∈ m, y ∈ l
  | [], m, _, _, h, y, hy => by
    have : m = [] := List.eq_nil_of_length_eq_zero (by simpa using h)
    subst this; exact hy
  | x :: l, m, hn, hs, h, y, hy => by
    obtain ⟨h1, h2⟩ := List.nodup_cons.1 hn
    have hx := hs x (by simp)
    by_cases e : y = x
    · subst e; simp
    · have hl := List.length_erase_of_mem hx
      refine List.mem_cons_of_mem _ (mem_of_len l (m.erase x) h2 (fun z hz => ?_) ?_ y ((List.mem_erase_of_ne e).2 hy))
      · exact (List.mem_erase_of_ne (fun e2 => h1 (by rw [← e2]; exact hz))).2 (hs z (by simp [hz]))
      · simp only [List.length_cons] at h; omega
def prd : List K → K
  | [] => 1
  | x :: l => x * prd l
namespace IsRing
variable (R : IsRing K)
include R
theorem prd_perm {l m : List K} (h : l.Perm m) : prd l = prd m := by
  induction h with
  | nil => rfl
  | cons x _ ih => simp only [prd, ih]
  | swap x y l => simp only [prd, R.mul_left_comm x y]
  | trans _ _ h1 h2 => rw [h1, h2]
theorem prd_map (x : K) : ∀ l : List K, prd (l.map (x * ·)) = pw x l.length * prd l
  | [] => by simp only [List.map_nil, prd, List.length_nil, pw, R.mul_one]
  | y :: l => by simp only [List.map_cons, prd, List.length_cons, pw, prd_map x l, R.mul_assoc, R.mul_left_comm y]; rw [R.mul_left_comm]
omit R [Add K] [Neg K] in
theorem prd_ne (hd : ∀ a b : K, a * b = 0 → a = 0 ∨ b = 0) (h10 : (1 : K) ≠ 0) : ∀ l : List K, (∀ x ∈ l, x ≠ 0) → prd l ≠ 0
  | [], _ => h10
  | y :: l, h => fun e => by
    rcases hd _ _ e with e | e
    · exact h y (by simp) e
    · exact prd_ne hd h10 l (fun x hx => h x (by simp [hx])) e
theorem mul_cancel (hd : ∀ a b : K, a * b = 0 → a = 0 ∨ b = 0) {a b c : K} (ha : a ≠ 0) (h : a * b = a * c) : b = c := by
  have : a * (b + -c) = 0 := by rw [R.mul_add, R.mul_neg, h, R.add_neg]
  rcases hd _ _ this with e | e
  · exact absurd e ha
  · exact R.sub_zero e
/-- In a finite field of q elements the power q of an element is the element. -/
theorem fermat (hd : ∀ a b : K, a * b = 0 → a = 0 ∨ b = 0) (h10 : (1 : K) ≠ 0) {E : List K} (hE : E.Nodup) (hall : ∀ x, x ∈ E) (x : K) : pw x E.length = x := by
  classical
  have hpos : E.length ≠ 0 := fun e => by have := hall x; rw [List.eq_nil_of_length_eq_zero e] at this; simp at this
  by_cases hx : x = 0
  · subst hx; exact R.pw_zero hpos
  · have hF : (E.erase 0).Nodup := hE.erase 0
    have hmem : ∀ y, y ∈ E.erase 0 ↔ y ≠ 0 := fun y => by rw [hE.mem_erase_iff]; simp [hall y]
    have hlen : (E.erase 0).length = E.length - 1 := List.length_erase_of_mem (hall 0)
    have hperm : ((E.erase 0).map (x * ·)).Perm (E.erase 0) := by
      refine (List.perm_ext_iff_of_nodup ?_ hF).2 fun y => ?_
      · refine List.Pairwise.map _ ?_ hF
        intro a b hab e
        exact hab (R.mul_cancel hd hx e)
      · rw [List.mem_map, hmem]
        constructor
        · rintro ⟨z, hz, rfl⟩ e
          rcases hd _ _ e with e | e
          · exact hx e
          · exact (hmem z).1 hz e
        · intro hy
          have hnd : ((E.erase 0).map (x * ·)).Nodup := by
            refine List.Pairwise.map _ ?_ hF
            intro a b hab e
            exact hab (R.mul_cancel hd hx e)
          have hin : ∀ z ∈ (E.erase 0).map (x * ·), z ∈ E.erase 0 := by
            intro z hz
            obtain ⟨w, hw, rfl⟩ := List.mem_map.1 hz
            refine (hmem _).2 fun e => ?_
            rcases hd _ _ e with e | e
            · exact hx e
            · exact (hmem w).1 hw e
          exact List.mem_map.1 (mem_of_len _ _ hnd hin (by simp) y ((hmem y).2 hy))
    have h1 := R.prd_perm hperm
    rw [R.prd_map] at h1
    have h2 : prd (E.erase 0) * pw x (E.erase 0).length = prd (E.erase 0) * 1 := by rw [R.mul_comm, h1, R.mul_one]
    have h3 := R.mul_cancel hd (IsRing.prd_ne hd h10 _ fun y hy => (hmem y).1 hy) h2
    have e : E.length = (E.erase 0).length + 1 := by omega
    rw [e]
    simp only [pw, h3, R.one_mul]
end IsRing
end
end Go.Abs
/- Rings: divisors, residues by an element. -/
namespace Go.Abs
section
variable {K : Type} [Add K] [Mul K] [Neg K] [Zero K] [One K]

def Dv (a b : K) : Prop := ∃ q, b = q * a
namespace IsRing
variable (R : IsRing K)
include R
theorem dv_refl (a : K) : Dv a a := ⟨1, (R.one_mul a).symm⟩
theorem dv_zero (a : K) : Dv a 0 := ⟨0, (R.zero_mul a).symm⟩
theorem dv_add {a b c : K} (h1 : Dv a b) (h2 : Dv a c) : Dv a (b + c) := by
  obtain ⟨x, rfl⟩ := h1
  obtain ⟨y, rfl⟩ := h2
  exact ⟨x + y, (R.add_mul _ _ _).symm⟩
theorem dv_mul {a b : K} (h : Dv a b) (c : K) : Dv a (c * b) := by
  obtain ⟨x, rfl⟩ := h
  exact ⟨c * x, (R.mul_assoc _ _ _).symm⟩
theorem dv_mul' {a b : K} (h : Dv a b) (c : K) : Dv a (b * c) := by rw [R.mul_comm]; exact R.dv_mul h c
theorem dv_neg {a b : K} (h : Dv a b) : Dv a (-b) := by
  obtain ⟨x, rfl⟩ := h
  exact ⟨-x, by rw [R.mul_comm (-x), R.mul_neg, R.mul_comm]⟩
theorem dv_trans {a b c : K} (h1 : Dv a b) (h2 : Dv b c) : Dv a c := by
  obtain ⟨y, rfl⟩ := h2
  exact R.dv_mul h1 y
theorem dv_one {a b : K} (h : Dv a 1) : Dv a b := by
  have := R.dv_mul h b
  rwa [R.mul_one] at this
/-- Of a sum and a part of it, the other part. -/
theorem dv_sub {a b c : K} (h1 : Dv a (b + c)) (h2 : Dv a b) : Dv a c := by
  have h := R.dv_add h1 (R.dv_neg h2)
  have e : b + c + -b = c := by rw [R.add_comm b c, R.add_assoc, R.add_neg, R.add_zero]
  rwa [e] at h
theorem neg_add' (a b : K) : -(a + b) = -a + -b := by
  refine (R.neg_of ?_).symm
  rw [R.add_assoc, R.add_left_comm b, R.add_neg, R.add_zero, R.add_neg]
theorem neg_zero : -(0 : K) = 0 := (R.neg_of (R.add_zero 0)).symm

/-! Congruence by an element. -/
theorem cong_eqv (f : K) : Equivalence fun a b : K => Dv f (a + -b) := by
  refine ⟨fun a => by rw [R.add_neg]; exact R.dv_zero f, fun {a b} h => ?_, fun {a b c} h1 h2 => ?_⟩
  · have := R.dv_neg h
    rwa [R.neg_add', R.neg_neg, R.add_comm] at this
  · have := R.dv_add h1 h2
    have e : a + -b + (b + -c) = a + -c := by rw [R.add_assoc, ← R.add_assoc (-b), R.neg_add, R.zero_add]
    rwa [e] at this
end IsRing
def sdv (R : IsRing K) (f : K) : Setoid K := ⟨fun a b => Dv f (a + -b), R.cong_eqv f⟩
def Qt (R : IsRing K) (f : K) : Type := Quotient (sdv R f)
def qm (R : IsRing K) (f a : K) : Qt R f := Quotient.mk (sdv R f) a
theorem qm_iff (R : IsRing K) {f a b : K} : qm R f a = qm R f b ↔ Dv f (a + -b) := ⟨fun h => Quotient.exact h, fun h => Quotient.sound h⟩
theorem qm_zero_iff (R : IsRing K) {f a : K} : qm R f a = qm R f 0 ↔ Dv f a := by rw [qm_iff, R.neg_zero, R.add_zero]

variable (R : IsRing K) (f : K)
instance : Add (Qt R f) := ⟨Quotient.lift₂ (fun a b => qm R f (a + b)) fun a b c d h1 h2 => by
  refine (qm_iff R).2 ?_
  have h := R.dv_add (show Dv f (a + -c) from h1) (show Dv f (b + -d) from h2)
  have e : a + -c + (b + -d) = a + b + -(c + d) := by
    rw [R.neg_add']; simp only [R.add_assoc]; rw [R.add_left_comm (-c)]
  rwa [e] at h⟩
instance : Mul (Qt R f) := ⟨Quotient.lift₂ (fun a b => qm R f (a * b)) fun a b c d h1 h2 => by
  refine (qm_iff R).2 ?_
  have h := R.dv_add (R.dv_mul' (show Dv f (a + -c) from h1) b) (R.dv_mul (show Dv f (b + -d) from h2) c)
  have e : (a + -c) * b + c * (b + -d) = a * b + -(c * d) := by
    rw [R.add_mul, R.mul_add, R.mul_neg, R.mul_comm (-c), R.mul_neg, R.mul_comm b c, R.add_assoc, ← R.add_assoc (-(c * b)), R.neg_add, R.zero_add]
  rwa [e] at h⟩
instance : Neg (Qt R f) := ⟨Quotient.lift (fun a => qm R f (-a)) fun a c h1 => by
  refine (qm_iff R).2 ?_
  have h := R.dv_neg (show Dv f (a + -c) from h1)
  rwa [R.neg_add'] at h⟩
instance : Zero (Qt R f) := ⟨qm R f 0⟩
instance : One (Qt R f) := ⟨qm R f 1⟩
theorem qm_add (a b : K) : qm R f (a + b) = qm R f a + qm R f b := rfl
theorem qm_mul (a b : K) : qm R f (a * b) = qm R f a * qm R f b := rfl
theorem qm_zero : qm R f 0 = 0 := rfl
theorem qm_one : qm R f 1 = 1 := rfl
theorem qm_pw (a : K) (n : Nat) : qm R f (pw a n) = pw (qm R f a) n := by
  induction n with
  | zero => rfl
  | succ n ih => simp only [pw, qm_mul, ih]
theorem qm_nsm (a : K) (n : Nat) : qm R f (nsm n a) = nsm n (qm R f a) := by
  induction n with
  | zero => rfl
  | succ n ih => simp only [nsm, qm_add, ih]
theorem qm_all {P : Qt R f → Prop} (h : ∀ a, P (qm R f a)) : ∀ x, P x := fun x => Quotient.ind h x
theorem qring : IsRing (Qt R f) where
  add_comm := qm_all R f fun a => qm_all R f fun b => congrArg (qm R f) (R.add_comm a b)
  add_assoc := qm_all R f fun a => qm_all R f fun b => qm_all R f fun c => congrArg (qm R f) (R.add_assoc a b c)
  add_zero := qm_all R f fun a => congrArg (qm R f) (R.add_zero a)
  add_neg := qm_all R f fun a => congrArg (qm R f) (R.add_neg a)
  mul_comm := qm_all R f fun a => qm_all R f fun b => congrArg (qm R f) (R.mul_comm a b)
  mul_assoc := qm_all R f fun a => qm_all R f fun b => qm_all R f fun c => congrArg (qm R f) (R.mul_assoc a b c)
  mul_one := qm_all R f fun a => congrArg (qm R f) (R.mul_one a)
  mul_add := qm_all R f fun a => qm_all R f fun b => qm_all R f fun c => congrArg (qm R f) (R.mul_add a b c)
end
end Go.Abs
/- Inverses modulo p. -/
namespace Go.Proofs.Ytkbnegemdlnncaa
open Go.Abs

/-- The inverse of x modulo p. -/
def inv (p x : Int) : Int := if p = 2 then 1 else if p = 3 then x else if p = 5 then (if x = 1 then 1 else if x = 2 then 3 else if x = 3 then 2 else 4) else (if x = 1 then 1 else if x = 2 then 4 else if x = 3 then 5 else if x = 4 then 2 else if x = 5 then 3 else 6)
theorem inv_cases {p x : Int} (hp : isP p = true) (hx : 0 < x ∧ x < p) : (p = 2 ∧ x = 1) ∨ (p = 3 ∧ x = 1) ∨ (p = 3 ∧ x = 2) ∨ (p = 5 ∧ x = 1) ∨ (p = 5 ∧ x = 2) ∨ (p = 5 ∧ x = 3) ∨ (p = 5 ∧ x = 4) ∨
    (p = 7 ∧ x = 1) ∨ (p = 7 ∧ x = 2) ∨ (p = 7 ∧ x = 3) ∨ (p = 7 ∧ x = 4) ∨ (p = 7 ∧ x = 5) ∨ (p = 7 ∧ x = 6) := by
  rcases isP_iff.1 hp with rfl | rfl | rfl | rfl <;> omega
theorem inv_is {p x : Int} (hp : isP p = true) (hx : 0 < x ∧ x < p) : 0 < inv p x ∧ inv p x < p ∧ x * inv p x % p = 1 := by
  rcases inv_cases hp hx with ⟨rfl, rfl⟩ | ⟨rfl, rfl⟩ | ⟨rfl, rfl⟩ | ⟨rfl, rfl⟩ | ⟨rfl, rfl⟩ | ⟨rfl, rfl⟩ | ⟨rfl, rfl⟩ | ⟨rfl, rfl⟩ | ⟨rfl, rfl⟩ | ⟨rfl, rfl⟩ | ⟨rfl, rfl⟩ | ⟨rfl, rfl⟩ | ⟨rfl, rfl⟩ <;> decide
theorem inv_first {p x : Int} (hp : isP p = true) (hx : 0 < x ∧ x < p) {j : Int} (h1 : 1 ≤ j) (h2 : j < inv p x) : j * x % p ≠ 1 := by
  rcases inv_cases hp hx with ⟨rfl, rfl⟩ | ⟨rfl, rfl⟩ | ⟨rfl, rfl⟩ | ⟨rfl, rfl⟩ | ⟨rfl, rfl⟩ | ⟨rfl, rfl⟩ | ⟨rfl, rfl⟩ | ⟨rfl, rfl⟩ | ⟨rfl, rfl⟩ | ⟨rfl, rfl⟩ | ⟨rfl, rfl⟩ | ⟨rfl, rfl⟩ | ⟨rfl, rfl⟩ <;> simp [inv] at h2 <;> omega
theorem inv_pow {p x : Int} (hp : isP p = true) (hx : 0 < x ∧ x < p) : x ^ (p - 2).toNat % p = inv p x := by
  rcases inv_cases hp hx with ⟨rfl, rfl⟩ | ⟨rfl, rfl⟩ | ⟨rfl, rfl⟩ | ⟨rfl, rfl⟩ | ⟨rfl, rfl⟩ | ⟨rfl, rfl⟩ | ⟨rfl, rfl⟩ | ⟨rfl, rfl⟩ | ⟨rfl, rfl⟩ | ⟨rfl, rfl⟩ | ⟨rfl, rfl⟩ | ⟨rfl, rfl⟩ | ⟨rfl, rfl⟩ <;> decide
end Go.Proofs.Ytkbnegemdlnncaa
/- Division of polynomials, from the leading coefficient on. -/
namespace Go.Proofs.Ytkbnegemdlnncaa
open Go.Abs

def dstep (p : Int) (b : Nat → Int) (m : Nat) (f : Int) (i : Nat) (r : Nat → Int) (j : Nat) : Int := if i ≤ j ∧ j ≤ i + m then (r j - f * b (j - i)) % p else r j
def dfac (p iv : Int) (m i : Nat) (r : Nat → Int) : Int := r (i + m) * iv % p
def drem (p : Int) (b : Nat → Int) (m : Nat) (iv : Int) : Nat → (Nat → Int) → Nat → Int
  | 0, r => r
  | i + 1, r => drem p b m iv i (dstep p b m (dfac p iv m i r) i r)
def dquo (p : Int) (b : Nat → Int) (m : Nat) (iv : Int) : Nat → (Nat → Int) → Nat → Int
  | 0, _, _ => 0
  | i + 1, r, j => if j = i then dfac p iv m i r else dquo p b m iv i (dstep p b m (dfac p iv m i r) i r) j
def lead (b : List Int) : Int := rd b (b.length - 1)
def quo (p : Int) (a b : List Int) : List Int := ofF (a.length + 1 - b.length) (dquo p (rd b) (b.length - 1) (inv p (lead b)) (a.length + 1 - b.length) (rd a))
def rem (p : Int) (a b : List Int) : List Int := ofF a.length (drem p (rd b) (b.length - 1) (inv p (lead b)) (a.length + 1 - b.length) (rd a))

section
variable {p : Int} {b : Nat → Int} {m : Nat} {iv : Int}
theorem dstep_res (hp : 0 < p) {r : Nat → Int} (hr : ∀ j, 0 ≤ r j ∧ r j < p) (f : Int) (i j : Nat) : 0 ≤ dstep p b m f i r j ∧ dstep p b m f i r j < p := by
  unfold dstep
  split
  · exact emod_res hp _
  · exact hr j
theorem drem_res (hp : 0 < p) : ∀ (i : Nat) (r : Nat → Int), (∀ j, 0 ≤ r j ∧ r j < p) → ∀ j, 0 ≤ drem p b m iv i r j ∧ drem p b m iv i r j < p
  | 0, r, hr, j => hr j
  | i + 1, r, hr, j => drem_res hp i _ (fun j => dstep_res hp hr _ i j) j
theorem dquo_res (hp : 0 < p) : ∀ (i : Nat) (r : Nat → Int) (j : Nat), 0 ≤ dquo p b m iv i r j ∧ dquo p b m iv i r j < p
  | 0, r, j => by simp only [dquo]; omega
  | i + 1, r, j => by
    simp only [dquo]
    split
    · exact emod_res hp _
    · exact dquo_res hp i _ j
theorem dquo_ge : ∀ (i : Nat) (r : Nat → Int) (j : Nat), i ≤ j → dquo p b m iv i r j = 0
  | 0, _, _, _ => rfl
  | i + 1, r, j, h => by
    simp only [dquo]
    rw [if_neg (by omega)]
    exact dquo_ge i _ j (by omega)
theorem cv_congr {f g c : Nat → Int} (k : Nat) : ∀ n, (∀ i, i < n → f i = g i) → cv f c n k = cv g c n k := fun n h => sumTo_congr n fun i hi => by rw [h i hi]
/-- The rest vanishes from the place m on. -/
theorem drem_zero (hp : 0 < p) (hb : b m * iv % p = 1 % p) : ∀ (i : Nat) (r : Nat → Int), (∀ j, 0 ≤ r j ∧ r j < p) → (∀ j, i + m ≤ j → r j = 0) → ∀ j, m ≤ j → drem p b m iv i r j = 0
  | 0, r, _, hz, j, hj => hz j (by omega)
  | i + 1, r, hr, hz, j, hj => by
    refine drem_zero hp hb i _ (fun j => dstep_res hp hr _ i j) (fun j hj => ?_) j hj
    unfold dstep
    by_cases e : j = i + m
    · subst e
      rw [if_pos (by omega), show i + m - i = m by omega]
      have h1 : (r (i + m) - dfac p iv m i r * b m) % p = 0 := by
        unfold dfac
        have h2 : (r (i + m) * iv % p) * b m % p = r (i + m) % p := by
          rw [Int.mul_emod, Int.emod_emod, ← Int.mul_emod, Int.mul_assoc, Int.mul_emod, Int.mul_comm iv, hb, ← Int.mul_emod, Int.mul_one]
        rw [Int.sub_emod, h2, Int.sub_self]; rfl
      exact h1
    · rw [if_neg (by omega)]
      exact hz j (by omega)
/-- Quotient and rest give what was divided. -/
theorem div_eq (hp : 0 < p) (hbz : ∀ j, m < j → b j = 0) : ∀ (i : Nat) (r : Nat → Int) (j : Nat), (cv (dquo p b m iv i r) b i j + drem p b m iv i r j) % p = r j % p
  | 0, r, j => by simp [cv, sumTo, drem]
  | i + 1, r, j => by
    have ih := div_eq hp hbz i (dstep p b m (dfac p iv m i r) i r) j
    simp only [drem]
    rw [cv_succ, cv_congr (g := dquo p b m iv i (dstep p b m (dfac p iv m i r) i r)) j i fun k hk => by simp only [dquo]; rw [if_neg (by omega)]]
    have e : dquo p b m iv (i + 1) r i = dfac p iv m i r := by simp only [dquo, if_true]
    rw [e]
    generalize dfac p iv m i r = f at *
    generalize cv (dquo p b m iv i (dstep p b m f i r)) b i j = c at *
    generalize drem p b m iv i (dstep p b m f i r) j = d at *
    by_cases h : i ≤ j
    · rw [if_pos h]
      by_cases h2 : j ≤ i + m
      · simp only [dstep] at ih
        rw [if_pos ⟨h, h2⟩, Int.emod_emod] at ih
        have e1 : c + f * b (j - i) + d = (c + d) + f * b (j - i) := by omega
        rw [e1, Int.add_emod, ih, ← Int.add_emod]
        congr 1
        omega
      · simp only [dstep] at ih
        rw [if_neg (by omega)] at ih
        rw [hbz (j - i) (by omega), Int.mul_zero, Int.add_zero]
        exact ih
    · simp only [dstep] at ih
      rw [if_neg (by omega)] at ih
      rw [if_neg h, Int.add_zero]
      exact ih
end

theorem lead_pos {p : Int} (hp : 0 < p) {b : List Int} (hb : Row p b) (h0 : b.length ≠ 0) : 0 < lead b ∧ lead b < p := by
  have h1 := hb.rd hp (b.length - 1)
  have h2 := hb.nrm h0
  unfold lead
  omega
theorem quo_row {p : Int} (hp : 0 < p) (a b : List Int) : Row p (quo p a b) := row_ofF fun i _ => dquo_res hp _ _ i
theorem rem_row {p : Int} (hp : 0 < p) {a : List Int} (ha : Row p a) (b : List Int) : Row p (rem p a b) := row_ofF fun i _ => drem_res hp _ _ (fun j => ha.rd hp j) i
theorem quo_len (p : Int) (a b : List Int) : (quo p a b).length ≤ a.length + 1 - b.length := by rw [quo, ofF_len]; exact top_le _ _
theorem rem_len' (p : Int) (a b : List Int) : (rem p a b).length ≤ a.length := by rw [rem, ofF_len]; exact top_le _ _
theorem quo_rd (p : Int) (a b : List Int) (j : Nat) : rd (quo p a b) j = dquo p (rd b) (b.length - 1) (inv p (lead b)) (a.length + 1 - b.length) (rd a) j := rd_ofF (fun i hi => dquo_ge _ _ _ hi) j
theorem drem_big {p : Int} {b : Nat → Int} {m : Nat} {iv : Int} : ∀ (i : Nat) (r : Nat → Int) (n : Nat), i + m ≤ n → (∀ j, n ≤ j → r j = 0) → ∀ j, n ≤ j → drem p b m iv i r j = 0
  | 0, r, n, _, hz, j, hj => hz j hj
  | i + 1, r, n, hn, hz, j, hj => drem_big i _ n (by omega) (fun j hj => by unfold dstep; rw [if_neg (by omega)]; exact hz j hj) j hj
theorem rem_rd {p : Int} (a : List Int) {b : List Int} (h0 : b.length ≠ 0) (j : Nat) : rd (rem p a b) j = drem p (rd b) (b.length - 1) (inv p (lead b)) (a.length + 1 - b.length) (rd a) j := by
  refine rd_ofF (fun i hi => ?_) j
  rcases Nat.lt_or_ge a.length b.length with h | h
  · rw [show a.length + 1 - b.length = 0 by omega]; exact rd_ge hi
  · exact drem_big _ _ a.length (by omega) (fun j hj => rd_ge hj) i hi
theorem rem_len {p : Int} (hp : isP p = true) {a b : List Int} (ha : Row p a) (hb : Row p b) (h0 : b.length ≠ 0) : (rem p a b).length < b.length := by
  have hp2 := isP_pos hp
  have hi := inv_is hp (lead_pos (show 0 < p by omega) hb h0)
  have hz : ∀ j, b.length - 1 ≤ j → rd (rem p a b) j = 0 := fun j hj => by
    rw [rem_rd a h0]
    refine drem_zero (by omega) ?_ _ _ (fun j => ha.rd (by omega) j) (fun j hj => rd_ge (by omega)) j hj
    have : (1 : Int) % p = 1 := Int.emod_eq_of_lt (by omega) (by omega)
    rw [this]
    exact hi.2.2
  rcases Nat.lt_or_ge (rem p a b).length b.length with h | h
  · exact h
  · have h1 := (rem_row (show 0 < p by omega) ha b).nrm (by omega)
    exact absurd (hz _ (by omega)) h1
/-- What is divided is quotient times divisor, plus the rest. -/
theorem divide_eq {p : Int} (hp : isP p = true) {a b : List Int} (ha : Row p a) (h0 : b.length ≠ 0) (j : Nat) : rd a j = (conv (rd (quo p a b)) (rd b) j + rd (rem p a b) j) % p := by
  have hp2 := isP_pos hp
  have h := div_eq (p := p) (b := rd b) (m := b.length - 1) (iv := inv p (lead b)) (by omega) (fun j hj => rd_ge (by omega)) (a.length + 1 - b.length) (rd a) j
  have e : conv (rd (quo p a b)) (rd b) j = cv (dquo p (rd b) (b.length - 1) (inv p (lead b)) (a.length + 1 - b.length) (rd a)) (rd b) (a.length + 1 - b.length) j := by
    rw [← cv_conv (n := a.length + 1 - b.length) fun i hi => rd_ge (Nat.le_trans (quo_len p a b) hi)]
    exact cv_congr _ _ fun i _ => quo_rd p a b i
  have hr := ha.rd (show 0 < p by omega) j
  rw [e, rem_rd a h0, h, Int.emod_eq_of_lt hr.1 hr.2]
end Go.Proofs.Ytkbnegemdlnncaa
/- The polynomials modulo p as a ring; irreducible ones. -/
namespace Go.Proofs.Ytkbnegemdlnncaa
open Go.Abs

structure Pri where
  n : Nat
  ok : isP (n : Int) = true
def Pri.p (P : Pri) : Int := P.n
theorem Pri.okp (P : Pri) : isP P.p = true := P.ok
theorem Pri.pos (P : Pri) : 0 < P.p := by have := isP_pos P.ok; unfold Pri.p; omega
theorem Pri.two (P : Pri) : 2 ≤ P.p ∧ P.p ≤ 7 := isP_pos P.ok
theorem Pri.is (P : Pri) : P.n = 2 ∨ P.n = 3 ∨ P.n = 5 ∨ P.n = 7 := by
  have := isP_iff.1 P.ok; omega
structure PP (P : Pri) where
  l : List Int
  row : Row P.p l
theorem pp_eq {P : Pri} : ∀ {a b : PP P}, a.1 = b.1 → a = b
  | ⟨_, _⟩, ⟨_, _⟩, h => by cases h; rfl
variable {P : Pri}
def PP.len (a : PP P) : Nat := a.1.length
def PP.c (a : PP P) (i : Nat) : Int := rd a.1 i
theorem PP.c_res (a : PP P) (i : Nat) : 0 ≤ a.c i ∧ a.c i < P.p := a.2.rd P.pos i
theorem PP.c_mod (a : PP P) (i : Nat) : a.c i % P.p = a.c i := a.2.mod P.pos i
theorem pp_ext {a b : PP P} (h : ∀ i, a.c i = b.c i) : a = b := pp_eq (row_ext a.2 b.2 h)
theorem row1 {p : Int} (hp : 2 ≤ p) : Row p [1] := ⟨by simp; omega, by simp [rd]⟩
theorem rowT {p : Int} (hp : 2 ≤ p) : Row p [0, 1] := ⟨by simp; omega, by simp [rd]⟩
instance : Add (PP P) := ⟨fun a b => ⟨comb P.p a.1 b.1 1, comb_row P.pos _ _ _⟩⟩
instance : Mul (PP P) := ⟨fun a b => ⟨mul P.p a.1 b.1, mul_row P.pos _ _⟩⟩
instance : Neg (PP P) := ⟨fun a => ⟨comb P.p [] a.1 (-1), comb_row P.pos _ _ _⟩⟩
instance : Zero (PP P) := ⟨⟨[], row_nil _⟩⟩
instance : One (PP P) := ⟨⟨[1], row1 P.two.1⟩⟩
def ppm (l : List Int) (h : Row P.p l) : PP P := ⟨l, h⟩
def ppT : PP P := ⟨[0, 1], rowT P.two.1⟩
theorem add_c (a b : PP P) (i : Nat) : (a + b).c i = (a.c i + b.c i) % P.p := by
  show rd (comb P.p a.1 b.1 1) i = _
  rw [comb_rd, Int.one_mul]; rfl
theorem neg_c (a : PP P) (i : Nat) : (-a).c i = (-a.c i) % P.p := by
  show rd (comb P.p [] a.1 (-1)) i = _
  rw [comb_rd, rd_nil, Int.zero_add, Int.neg_mul, Int.one_mul]; rfl
theorem mul_c (a b : PP P) (i : Nat) : (a * b).c i = conv a.c b.c i % P.p := mul_rd _ _ _ _
theorem zero_c (i : Nat) : (0 : PP P).c i = 0 := rd_nil i
theorem ppring : IsRing (PP P) where
  add_comm a b := pp_ext fun i => by rw [add_c, add_c, Int.add_comm]
  add_assoc a b c := pp_ext fun i => by simp only [add_c, Int.emod_add_emod, Int.add_emod_emod, Int.add_assoc]
  add_zero a := pp_ext fun i => by rw [add_c, zero_c, Int.add_zero, PP.c_mod]
  add_neg a := pp_ext fun i => by rw [add_c, neg_c, zero_c, Int.add_emod_emod, Int.add_right_neg]; rfl
  mul_comm a b := pp_eq (mul_comm' _ _ _)
  mul_assoc a b c := pp_eq (mul_assoc' P.pos _ _ _)
  mul_one a := pp_eq (mul_one' P.pos a.2)
  mul_add a b c := pp_eq (mul_comb P.pos _ _ _ _)

theorem len_zero {a : PP P} : a.len = 0 ↔ a = 0 := ⟨fun h => pp_eq (List.eq_nil_of_length_eq_zero h), fun h => by rw [h]; rfl⟩
theorem len_one : (1 : PP P).len = 1 := rfl
theorem one_ne : (1 : PP P) ≠ 0 := fun h => by have := len_zero.2 h; rw [len_one] at this; omega
theorem len_mul {a b : PP P} (ha : a ≠ 0) (hb : b ≠ 0) : (a * b).len = a.len + b.len - 1 :=
  mul_len_is P.ok a.2 b.2 (fun h => ha (len_zero.1 h)) (fun h => hb (len_zero.1 h))
theorem len_add (a b : PP P) : (a + b).len ≤ max a.len b.len := comb_len _ _ _ _
theorem len_neg (a : PP P) : (-a).len ≤ a.len := by
  have := comb_len P.p [] a.1 (-1)
  show (comb P.p [] a.1 (-1)).length ≤ a.1.length
  simpa using this
theorem len_pos {a : PP P} (h : a ≠ 0) : 1 ≤ a.len := by
  rcases Nat.eq_zero_or_pos a.len with h0 | h0
  · exact absurd (len_zero.1 h0) h
  · exact h0
theorem pp_dom : ∀ a b : PP P, a * b = 0 → a = 0 ∨ b = 0 := fun a b h => by
  by_cases ha : a = 0
  · exact .inl ha
  · by_cases hb : b = 0
    · exact .inr hb
    · have h1 := len_mul ha hb
      rw [h, len_zero.2 rfl] at h1
      have := len_pos ha
      have := len_pos hb
      omega
theorem nsm_c (n : Nat) (a : PP P) (i : Nat) : (nsm n a).c i = (n * a.c i) % P.p := by
  induction n with
  | zero => simp [nsm, zero_c]
  | succ n ih =>
    simp only [nsm, add_c, ih, Int.emod_add_emod]
    congr 1
    rw [Int.natCast_succ, Int.add_mul, Int.one_mul]
theorem pp_char (x : PP P) : nsm P.n x = 0 := pp_ext fun i => by
  rw [nsm_c, zero_c]
  exact Int.emod_eq_zero_of_dvd ⟨x.c i, rfl⟩

/-! Division. -/
def pquo (a b : PP P) : PP P := ⟨quo P.p a.1 b.1, quo_row P.pos _ _⟩
def prem (a b : PP P) : PP P := ⟨rem P.p a.1 b.1, rem_row P.pos a.2 _⟩
theorem pdiv (a : PP P) {b : PP P} (hb : b ≠ 0) : a = pquo a b * b + prem a b ∧ (prem a b).len < b.len := by
  have h0 : b.1.length ≠ 0 := fun h => hb (len_zero.1 h)
  refine ⟨pp_ext fun i => ?_, rem_len P.ok a.2 b.2 h0⟩
  rw [add_c, mul_c, Int.emod_add_emod]
  exact divide_eq P.ok a.2 h0 i
theorem dv_len {a b : PP P} (h : Dv a b) (hb : b ≠ 0) : a.len ≤ b.len := by
  obtain ⟨q, rfl⟩ := h
  have hq : q ≠ 0 := fun e => hb (by rw [e, ppring.zero_mul])
  have ha : a ≠ 0 := fun e => hb (by rw [e, ppring.mul_zero])
  have := len_mul hq ha
  have := len_pos hq
  omega
theorem dv_small {a b : PP P} (h : Dv a b) (hl : b.len < a.len) : b = 0 := by
  by_cases hb : b = 0
  · exact hb
  · have := dv_len h hb; omega
theorem prem_iff {a b : PP P} (hb : b ≠ 0) : prem a b = 0 ↔ Dv b a := by
  obtain ⟨h1, h2⟩ := pdiv a hb
  constructor
  · intro h
    rw [h, ppring.add_zero] at h1
    exact ⟨_, h1⟩
  · intro h
    rw [h1] at h
    exact dv_small (ppring.dv_sub h (ppring.dv_mul (ppring.dv_refl b) _)) h2
theorem quo_is {a b q r : PP P} (hb : b ≠ 0) (h : a = q * b + r) (hr : r.len < b.len) : pquo a b = q ∧ prem a b = r := by
  obtain ⟨h1, h2⟩ := pdiv a hb
  have R : IsRing (PP P) := ppring
  have e : (pquo a b + -q) * b = r + -prem a b := by
    have h3 : q * b + r = pquo a b * b + prem a b := by rw [← h, ← h1]
    rw [R.add_mul, R.mul_comm (-q), R.mul_neg, R.mul_comm b q]
    refine R.cancel (a := q * b) ?_
    rw [R.add_left_comm, R.add_neg, R.add_zero]
    refine R.cancel (a := prem a b) ?_
    rw [R.add_comm (prem a b), ← h3, R.add_left_comm (prem a b), R.add_left_comm (prem a b), R.add_neg, R.add_zero]
  have hz : r + -prem a b = 0 := by
    refine dv_small (a := b) ⟨_, e.symm⟩ ?_
    have := len_add r (-prem a b)
    have := len_neg (prem a b)
    omega
  have hr' := R.sub_zero hz
  refine ⟨?_, hr'.symm⟩
  rw [hz] at e
  rcases pp_dom _ _ e with h4 | h4
  · exact R.sub_zero h4
  · exact absurd h4 hb

/-! Units, the greatest common divisor. -/
theorem unit_of {a : PP P} (h : a.len = 1) : ∃ b, b * a = 1 := by
  have hc := a.c_res 0
  have hn : a.c 0 ≠ 0 := by
    have := a.2.nrm (by have : a.1.length = 1 := h; omega)
    have h1 : a.1.length = 1 := h
    rw [h1] at this
    exact this
  obtain ⟨i1, i2, i3⟩ := inv_is P.ok (x := a.c 0) ⟨by omega, hc.2⟩
  have hr : Row P.p [inv P.p (a.c 0)] := ⟨by simp only [List.mem_singleton, forall_eq]; exact ⟨by have : 0 < inv P.p (a.c 0) := i1; omega, i2⟩, fun _ => by simp [rd]; have : 0 < inv P.p (a.c 0) := i1; omega⟩
  refine ⟨ppm _ hr, ?_⟩
  refine pp_ext fun i => ?_
  have h1 : a.1.length = 1 := h
  rw [mul_c]
  have e1 : (1 : PP P).c i = if i = 0 then 1 else 0 := by
    show rd [1] i = _
    by_cases hi : i = 0
    · subst hi; simp [rd]
    · rw [if_neg hi, rd_ge (by simp; omega)]
  rw [e1]
  by_cases hi : i = 0
  · subst hi
    rw [if_pos rfl]
    have : conv (PP.c (ppm _ hr : PP P)) a.c 0 = inv P.p (a.c 0) * a.c 0 := by
      simp [conv, cv, sumTo, PP.c, ppm, rd]
    rw [this, Int.mul_comm]
    exact i3
  · have z1 : ∀ j, 1 ≤ j → (ppm _ hr : PP P).c j = 0 := fun j hj => rd_ge (l := [inv P.p (a.c 0)]) (by simpa using hj)
    have z2 : ∀ j, 1 ≤ j → a.c j = 0 := fun j hj => rd_ge (l := a.1) (by omega)
    rw [if_neg hi, conv_zero (n := 1) (m := 1) z1 z2 (by omega)]
    rfl
theorem dv_unit {a : PP P} (h : a.len = 1) (b : PP P) : Dv a b := by
  obtain ⟨u, hu⟩ := unit_of h
  exact ppring.dv_one ⟨u, hu.symm⟩
theorem bezout : ∀ (n : Nat) (a b : PP P), b.len ≤ n → ∃ g u v, g = u * a + v * b ∧ Dv g a ∧ Dv g b
  | 0, a, b, h => by
    have hb : b = 0 := len_zero.1 (by omega)
    subst hb
    exact ⟨a, 1, 0, by rw [ppring.one_mul, ppring.zero_mul, ppring.add_zero], ppring.dv_refl a, ppring.dv_zero a⟩
  | n + 1, a, b, h => by
    by_cases hb : b = 0
    · subst hb
      exact ⟨a, 1, 0, by rw [ppring.one_mul, ppring.zero_mul, ppring.add_zero], ppring.dv_refl a, ppring.dv_zero a⟩
    · obtain ⟨h1, h2⟩ := pdiv a hb
      obtain ⟨g, u, v, e, d1, d2⟩ := bezout n b (prem a b) (by omega)
      have R : IsRing (PP P) := ppring
      refine ⟨g, v, u + -(v * pquo a b), ?_, ?_, d1⟩
      · have e2 : v * a = v * (pquo a b * b) + v * prem a b := by rw [← R.mul_add, ← h1]
        have e3 : -(v * pquo a b) * b = -(v * (pquo a b * b)) := by rw [R.mul_comm (-(v * pquo a b)), R.mul_neg, R.mul_comm b, R.mul_assoc]
        rw [e2, R.add_mul, e3, e]
        generalize v * (pquo a b * b) = x
        generalize v * prem a b = y
        generalize u * b = z
        rw [R.add_comm z (-x), R.add_assoc x, R.add_left_comm y, ← R.add_assoc x, R.add_neg, R.zero_add, R.add_comm]
      · rw [h1]
        exact R.dv_add (R.dv_mul d1 _) d2

def Irr (f : PP P) : Prop := 2 ≤ f.len ∧ ∀ a b : PP P, f = a * b → a.len = 1 ∨ b.len = 1
theorem Irr.ne {f : PP P} (h : Irr f) : f ≠ 0 := fun e => by have := h.1; rw [len_zero.2 e] at this; omega
/-- What divides an irreducible polynomial is a unit, or is divided by it. -/
theorem Irr.dv {f g : PP P} (h : Irr f) (hg : Dv g f) : g.len = 1 ∨ Dv f g := by
  obtain ⟨q, e⟩ := hg
  rcases h.2 q g e with h1 | h1
  · obtain ⟨u, hu⟩ := unit_of h1
    exact .inr ⟨u, by rw [e, ← ppring.mul_assoc, hu, ppring.one_mul]⟩
  · exact .inl h1
theorem Irr.coprime {f a : PP P} (h : Irr f) (ha : ¬ Dv f a) : ∃ u v, u * a + v * f = 1 := by
  obtain ⟨g, u, v, e, d1, d2⟩ := bezout f.len a f (Nat.le_refl _)
  rcases h.dv d2 with h1 | h1
  · obtain ⟨w, hw⟩ := unit_of h1
    exact ⟨w * u, w * v, by rw [← hw, e, ppring.mul_add, ppring.mul_assoc, ppring.mul_assoc]⟩
  · exact absurd (ppring.dv_trans h1 d1) ha
theorem Irr.prime {f a b : PP P} (h : Irr f) (hab : Dv f (a * b)) : Dv f a ∨ Dv f b := by
  by_cases ha : Dv f a
  · exact .inl ha
  · obtain ⟨u, v, e⟩ := h.coprime ha
    refine .inr ?_
    have e2 : b = u * (a * b) + v * b * f := by
      rw [← ppring.mul_assoc, ppring.mul_assoc v b, ppring.mul_comm b f, ← ppring.mul_assoc v f, ← ppring.add_mul, e, ppring.one_mul]
    rw [e2]
    exact ppring.dv_add (ppring.dv_mul hab u) (ppring.dv_mul (ppring.dv_refl f) _)
/-- What is not irreducible has a divisor of at most half its degree. -/
theorem Irr.of_not {f : PP P} (h2 : 2 ≤ f.len) (h : ¬ Irr f) : ∃ a b, f = a * b ∧ 2 ≤ a.len ∧ 2 ≤ b.len ∧ a.len < f.len ∧ b.len < f.len ∧ a.len + b.len = f.len + 1 := by
  have h3 : ∃ a b, f = a * b ∧ ¬ (a.len = 1 ∨ b.len = 1) := Classical.byContradiction fun hn => h ⟨h2, fun a b e => Classical.byContradiction fun hc => hn ⟨a, b, e, hc⟩⟩
  obtain ⟨a, b, e, hc⟩ := h3
  have hf : f ≠ 0 := fun e0 => by rw [len_zero.2 e0] at h2; omega
  have ha : a ≠ 0 := fun e0 => hf (by rw [e, e0, ppring.zero_mul])
  have hb : b ≠ 0 := fun e0 => hf (by rw [e, e0, ppring.mul_zero])
  have h4 := len_mul ha hb
  rw [← e] at h4
  have := len_pos ha
  have := len_pos hb
  exact ⟨a, b, e, by omega, by omega, by omega, by omega, by omega⟩
theorem exists_irr : ∀ (n : Nat) (f : PP P), f.len ≤ n → 2 ≤ f.len → ∃ g, Irr g ∧ Dv g f
  | 0, f, h, h2 => by omega
  | n + 1, f, h, h2 => by
    by_cases hi : Irr f
    · exact ⟨f, hi, ppring.dv_refl f⟩
    · obtain ⟨a, b, e, h3, h4, h5, _⟩ := Irr.of_not h2 hi
      obtain ⟨g, hg, hd⟩ := exists_irr n a (by omega) h3
      exact ⟨g, hg, by rw [e]; exact ppring.dv_mul' hd b⟩
/-- One of at most half the degree. -/
theorem exists_half {f : PP P} (h2 : 2 ≤ f.len) (h : ¬ Irr f) : ∃ g, Irr g ∧ Dv g f ∧ 2 * (g.len - 1) ≤ f.len - 1 := by
  obtain ⟨a, b, e, h3, h4, h5, h6, h7⟩ := Irr.of_not h2 h
  have hne : ∀ {x : PP P}, 2 ≤ x.len → x ≠ 0 := fun h e => by rw [len_zero.2 e] at h; omega
  rcases Nat.le_total a.len b.len with hl | hl
  · obtain ⟨g, hg, hd⟩ := exists_irr a.len a (Nat.le_refl _) h3
    have := dv_len hd (hne h3)
    exact ⟨g, hg, by rw [e]; exact ppring.dv_mul' hd b, by omega⟩
  · obtain ⟨g, hg, hd⟩ := exists_irr b.len b (Nat.le_refl _) h4
    have := dv_len hd (hne h4)
    exact ⟨g, hg, by rw [e]; exact ppring.dv_mul hd a, by omega⟩
end Go.Proofs.Ytkbnegemdlnncaa
/- Irreducible polynomials modulo p: which of them divide T^(p^n) - T. -/
namespace Go.Proofs.Ytkbnegemdlnncaa
open Go.Abs

/-! Numbers of polynomials. -/
def num (p : Nat) : List Int → Nat
  | [] => 0
  | c :: l => c.toNat + p * num p l
theorem row_tail {p c : Int} {l : List Int} (h : Row p (c :: l)) : Row p l := by
  refine ⟨fun d hd => h.res d (by simp [hd]), fun hl => ?_⟩
  have := h.nrm (by simp)
  simp only [List.length_cons, Nat.add_sub_cancel] at this
  obtain ⟨m, hm⟩ : ∃ m, l.length = m + 1 := ⟨l.length - 1, by omega⟩
  rw [hm, rd_cons] at this
  rw [hm]; exact this
theorem digs_num {p : Nat} (hp : 2 ≤ p) : ∀ l : List Int, Row p l → digs p (num p l) = l
  | [], _ => digs_zero p
  | c :: l, h => by
    have hc := h.res c (by simp)
    have ih := digs_num hp l (row_tail h)
    have e1 : (c.toNat + p * num p l) % p = c.toNat := by rw [Nat.add_mul_mod_self_left, Nat.mod_eq_of_lt (by omega)]
    have e2 : (c.toNat + p * num p l) / p = num p l := by rw [Nat.add_mul_div_left _ _ (by omega), Nat.div_eq_of_lt (by omega)]; omega
    have hpos : 0 < c.toNat + p * num p l := by
      cases l with
      | nil =>
        have := h.nrm (by simp)
        simp [rd] at this
        omega
      | cons d l =>
        have : num p (d :: l) ≠ 0 := fun e => by rw [e, digs_zero] at ih; cases ih
        have : 0 < p * num p (d :: l) := Nat.mul_pos (by omega) (by omega)
        omega
    simp only [num]
    rw [digs_pos hp hpos, e1, e2, ih]
    congr 1
    omega
theorem num_lt {p : Nat} (hp : 2 ≤ p) : ∀ l : List Int, Row p l → num p l < p ^ l.length
  | [], _ => by simp [num]
  | c :: l, h => by
    have hc := h.res c (by simp)
    have ih := num_lt hp l (row_tail h)
    simp only [num, List.length_cons, Nat.pow_succ]
    have h1 : p * (num p l + 1) ≤ p * p ^ l.length := Nat.mul_le_mul_left _ ih
    rw [Nat.mul_add, Nat.mul_one] at h1
    rw [Nat.mul_comm (p ^ l.length)]
    omega
theorem num_digs {p : Nat} (hp : 2 ≤ p) (n : Nat) : num p (digs p n) = n := by
  induction n using Nat.strongRecOn with
  | ind n ih =>
    rcases Nat.eq_zero_or_pos n with rfl | h
    · rw [digs_zero]; rfl
    · rw [digs_pos hp h]
      simp only [num]
      rw [ih _ (Nat.div_lt_self h hp), Int.toNat_natCast]
      exact Nat.mod_add_div n p
theorem digs_len_lt {p : Nat} (hp : 2 ≤ p) : ∀ (d n : Nat), n < p ^ d → (digs p n).length ≤ d
  | 0, n, h => by
    have : n = 0 := by simpa using h
    subst this; rw [digs_zero]; simp
  | d + 1, n, h => by
    rcases Nat.eq_zero_or_pos n with rfl | hn
    · rw [digs_zero]; simp
    · rw [digs_pos hp hn]
      have : n / p < p ^ d := by
        rw [Nat.div_lt_iff_lt_mul (by omega), ← Nat.pow_succ]; exact h
      have := digs_len_lt hp d _ this
      simp only [List.length_cons]; omega

variable {P : Pri}
theorem Pri.ge (P : Pri) : 2 ≤ P.n := by have := P.is; omega
def ppn (P : Pri) (n : Nat) : PP P := ⟨digs P.n n, digs_row P.ge n⟩
theorem ppn_num (a : PP P) : ppn P (num P.n a.1) = a := pp_eq (digs_num P.ge _ a.2)
theorem ppn_inj {n m : Nat} (h : ppn P n = ppn P m) : n = m := by
  have : digs P.n n = digs P.n m := congrArg PP.l h
  rw [← num_digs P.ge n, this, num_digs P.ge]
theorem ppn_len {d n : Nat} (h : n < P.n ^ d) : (ppn P n).len ≤ d := digs_len_lt P.ge d n h

theorem conv_T (g : Nat → Int) (i : Nat) : conv (rd ([0, 1] : List Int)) g i = if 1 ≤ i then g (i - 1) else 0 := by
  rw [← cv_conv (n := 2) fun j hj => rd_ge (by simpa using hj)]
  simp only [cv, sumTo]
  have e0 : rd ([0, 1] : List Int) 0 = 0 := rfl
  have e1 : rd ([0, 1] : List Int) 1 = 1 := rfl
  rw [e0, e1, if_pos (Nat.zero_le i)]
  split <;> simp
theorem one_c (i : Nat) : (1 : PP P).c i = if i = 0 then 1 else 0 := by
  show rd [1] i = _
  by_cases hi : i = 0
  · subst hi; simp [rd]
  · rw [if_neg hi, rd_ge (by simp; omega)]
/-- All polynomials come from 0 by times T and plus 1. -/
theorem pp_ind {S : PP P → Prop} (h0 : S 0) (hT : ∀ x, S x → S (ppT * x)) (h1 : ∀ x, S x → S (x + 1)) (a : PP P) : S a := by
  have hk : ∀ k x, S x → S (x + nsm k 1) := by
    intro k
    induction k with
    | zero => intro x hx; simp only [nsm]; rw [ppring.add_zero]; exact hx
    | succ k ih => intro x hx; simp only [nsm]; rw [← ppring.add_assoc]; exact h1 _ (ih x hx)
  have key : ∀ (l : List Int) (h : Row P.p l), S (ppm l h) := by
    intro l
    induction l with
    | nil => intro h; exact h0
    | cons c l ih =>
      intro h
      have hc := h.res c (by simp)
      have e : (ppm (c :: l) h : PP P) = ppT * ppm l (row_tail h) + nsm c.toNat 1 := by
        refine pp_ext fun i => ?_
        rw [add_c, mul_c, nsm_c, one_c]
        have e1 : conv (PP.c (ppT : PP P)) (PP.c (ppm l (row_tail h) : PP P)) i = if 1 ≤ i then rd l (i - 1) else 0 := conv_T _ i
        rw [e1]
        cases i with
        | zero =>
          rw [if_neg (by omega), if_pos rfl, Int.mul_one, Int.emod_add_emod, Int.add_emod_emod, Int.zero_add, Int.toNat_of_nonneg hc.1, Int.emod_eq_of_lt hc.1 hc.2]
          rfl
        | succ i =>
          rw [if_pos (by omega), if_neg (by omega), Int.mul_zero, Int.emod_add_emod, Int.zero_emod, Int.add_zero, Nat.add_sub_cancel, (row_tail h).mod P.pos]
          exact rd_cons c l i
      rw [e]
      exact hk _ _ (hT _ (ih _))
  exact key a.1 a.2

/-! Residues by an irreducible polynomial. -/
section
variable {f : PP P} (hf : Irr f)
include hf
theorem q_dom : ∀ x y : Qt ppring f, x * y = 0 → x = 0 ∨ y = 0 := by
  refine qm_all _ _ fun a => qm_all _ _ fun b => fun h => ?_
  have h1 : Dv f (a * b) := (qm_zero_iff ppring).1 h
  rcases hf.prime h1 with h2 | h2
  · exact .inl ((qm_zero_iff ppring).2 h2)
  · exact .inr ((qm_zero_iff ppring).2 h2)
theorem q_one : (1 : Qt ppring f) ≠ 0 := fun h => by
  have h1 : Dv f 1 := (qm_zero_iff ppring).1 h
  have := dv_len h1 one_ne
  have := hf.1
  rw [len_one] at *
  omega
omit hf in
theorem q_char (x : Qt ppring f) : nsm P.n x = 0 := by
  refine qm_all ppring f (P := fun x => nsm P.n x = 0) (fun a => ?_) x
  rw [← qm_nsm, pp_char]; rfl
omit hf in
/-- All residues. -/
def els (f : PP P) : List (Qt ppring f) := (List.range (P.n ^ (f.len - 1))).map fun n => qm ppring f (ppn P n)
omit hf in
theorem els_len : (els f).length = P.n ^ (f.len - 1) := by simp [els]
theorem els_all (x : Qt ppring f) : x ∈ els f := by
  refine qm_all ppring f (P := fun x => x ∈ els f) (fun a => ?_) x
  obtain ⟨h1, h2⟩ := pdiv a hf.ne
  refine List.mem_map.2 ⟨num P.n (prem a f).1, List.mem_range.2 ?_, ?_⟩
  · refine Nat.lt_of_lt_of_le (num_lt P.ge _ (prem a f).2) (Nat.pow_le_pow_right (by have := P.ge; omega) ?_)
    show (prem a f).len ≤ _
    omega
  · rw [ppn_num, qm_iff]
    have R : IsRing (PP P) := ppring
    have e : prem a f + -a = -(pquo a f) * f := by
      have : a = pquo a f * f + prem a f := h1
      have h3 : -(pquo a f) * f = -(pquo a f * f) := by rw [R.mul_comm, R.mul_neg, R.mul_comm]
      rw [h3]
      refine R.neg_of ?_
      rw [← R.add_assoc, ← this, R.add_neg]
    exact ⟨_, e⟩
theorem els_nodup : (els f).Nodup := by
  refine List.pairwise_map.2 ?_
  refine List.Pairwise.imp_of_mem ?_ List.nodup_range
  intro n m hn hm hne h
  have h1 := (qm_iff ppring).1 h
  have l1 := ppn_len (P := P) (List.mem_range.1 hn)
  have l2 := ppn_len (P := P) (List.mem_range.1 hm)
  have := len_add (ppn P n) (-ppn P m)
  have := len_neg (ppn P m)
  have := hf.1
  have h2 := dv_small h1 (by omega)
  exact hne (ppn_inj (ppring.sub_zero h2))
/-- An irreducible polynomial of the degree d divides T^(p^d) - T. -/
theorem irr_dv : Dv f (pw ppT (P.n ^ (f.len - 1)) + -ppT) := by
  have h := (qring ppring f).fermat (q_dom hf) (q_one hf) (els_nodup hf) (els_all hf) (qm ppring f ppT)
  rw [els_len, ← qm_pw] at h
  exact (qm_iff ppring).1 h
/-- One that divides T^(p^n) - T has at most the degree n. -/
theorem irr_le {n : Nat} (hn : 1 ≤ n) (h : Dv f (pw ppT (P.n ^ n) + -ppT)) : f.len ≤ n + 1 := by
  have Q := qring ppring f
  have hT : pw (qm ppring f ppT) (P.n ^ n) = qm ppring f ppT := by
    rw [← qm_pw]; exact (qm_iff ppring).2 h
  have hN : 2 ≤ P.n ^ n := Nat.le_trans P.ge (Nat.le_self_pow (by omega) _)
  have hall : ∀ a : PP P, pw (qm ppring f a) (P.n ^ n) = qm ppring f a := by
    refine pp_ind ?_ (fun x hx => ?_) (fun x hx => ?_)
    · rw [qm_zero]; exact Q.pw_zero (by omega)
    · rw [qm_mul, Q.mul_pw, hT, hx]
    · rw [qm_add, Q.frobn P.is q_char, hx, qm_one, Q.pw_one]
  have h1 := Q.fixed_le (q_dom hf) (q_one hf) hN (els_nodup hf) fun x _ => qm_all ppring f (P := fun x => pw x (P.n ^ n) = x) hall x
  rw [els_len] at h1
  have := (Nat.pow_le_pow_iff_right (show 1 < P.n by have := P.ge; omega)).1 h1
  omega
end
end Go.Proofs.Ytkbnegemdlnncaa
/- T times a polynomial, coefficient by coefficient. -/
namespace Go.Proofs.Ytkbnegemdlnncaa
open Go.Abs
variable {P : Pri}
theorem T_c (a : PP P) (i : Nat) : (ppT * a).c i = if 1 ≤ i then a.c (i - 1) else 0 := by
  rw [mul_c]
  have e : conv (PP.c (ppT : PP P)) a.c i = if 1 ≤ i then a.c (i - 1) else 0 := conv_T _ i
  rw [e]
  split
  · exact a.c_mod _
  · rfl
end Go.Proofs.Ytkbnegemdlnncaa
/- Powers of p of polynomials, and factorials that divide one another. -/
namespace Go.Proofs.Ytkbnegemdlnncaa
open Go.Abs
variable {P : Pri}
def sprP (a : PP P) (i : Nat) : PP P := ⟨spr a.1 (P.n ^ i), spr_row P.pos a.2 _⟩
theorem Pri.pow_pos (P : Pri) (i : Nat) : 0 < P.n ^ i := Nat.pow_pos (by have := P.is; omega)
theorem sprP_c (a : PP P) (i j : Nat) : (sprP a i).c j = if j % P.n ^ i = 0 then a.c (j / P.n ^ i) else 0 := spr_rd (P.pow_pos i) j
theorem Tpow_c (y : PP P) : ∀ k j : Nat, (pw ppT k * y).c j = if k ≤ j then y.c (j - k) else 0
  | 0, j => by
    have e : pw (ppT : PP P) 0 * y = y := ppring.one_mul y
    rw [e, if_pos (Nat.zero_le _)]; rfl
  | k + 1, j => by
    have e : pw (ppT : PP P) (k + 1) * y = ppT * (pw ppT k * y) := by
      have : pw (ppT : PP P) (k + 1) = pw ppT k * ppT := rfl
      rw [this, ppring.mul_assoc, ppring.mul_left_comm]
    rw [e, T_c, Tpow_c y k]
    by_cases h : k + 1 ≤ j
    · rw [if_pos (by omega), if_pos (by omega), if_pos h]; congr 1; omega
    · rw [if_neg h]
      by_cases h1 : 1 ≤ j
      · rw [if_pos h1, if_neg (by omega)]
      · rw [if_neg h1]
theorem sprP_pw (a : PP P) (i : Nat) : sprP a i = pw a (P.n ^ i) := by
  have hq := P.pow_pos i
  refine pp_ind (S := fun x => sprP x i = pw x (P.n ^ i)) ?_ ?_ ?_ a
  · rw [ppring.pw_zero (by omega)]
    exact pp_eq (spr_nil _)
  · intro x hx
    rw [ppring.mul_pw, ← hx]
    refine pp_ext fun j => ?_
    rw [sprP_c, Tpow_c, T_c]
    generalize hQ : P.n ^ i = q at hq
    by_cases h1 : q ≤ j
    · rw [if_pos h1, sprP_c, hQ]
      have e1 : (j - q) % q = j % q := (Nat.mod_eq_sub_mod h1).symm
      have e2 : j / q = (j - q) / q + 1 := by rw [Nat.div_eq_sub_div hq h1]
      rw [e1, e2, Nat.add_sub_cancel, if_pos (Nat.le_add_left 1 _)]
    · have e3 : j / q = 0 := Nat.div_eq_of_lt (by omega)
      rw [if_neg h1, e3, if_neg (show ¬ 1 ≤ 0 by omega), ite_self]
  · intro x hx
    rw [ppring.frobn P.is pp_char, ppring.pw_one, ← hx]
    refine pp_ext fun j => ?_
    rw [sprP_c, add_c, add_c, sprP_c, one_c, one_c]
    generalize hQ : P.n ^ i = q at hq
    by_cases h0 : j % q = 0
    · rw [if_pos h0, if_pos h0]
      have : (j / q = 0) = (j = 0) := by
        rw [eq_iff_iff]
        constructor
        · intro h
          have := Nat.div_add_mod j q
          rw [h, h0] at this; omega
        · intro h; rw [h, Nat.zero_div]
      simp only [this]
    · rw [if_neg h0, if_neg h0, if_neg (fun h => h0 (by rw [h, Nat.zero_mod]))]
      rfl
theorem sub_pp (a b : PP P) : comb P.p a.1 b.1 (-1) = (a + -b).1 := by
  apply row_ext (comb_row P.pos _ _ _) (a + -b).2
  intro i
  show rd (comb P.p a.1 b.1 (-1)) i = (a + -b).c i
  rw [comb_rd, add_c, neg_c, Int.add_emod_emod]
  show (rd a.1 i + -1 * rd b.1 i) % P.p = (rd a.1 i + -(rd b.1 i)) % P.p
  congr 1; omega
def brkP (P : Pri) (i j : Nat) : PP P := ⟨brk P.n i j, brk_row P.ge i j⟩
theorem brkP_is (i j : Nat) : brkP P i j = pw ppT (P.n ^ i) + -pw ppT (P.n ^ j) := by
  rw [← sprP_pw, ← sprP_pw]
  exact pp_eq (sub_pp (sprP ppT i) (sprP ppT j))
theorem brkP_up (i j : Nat) : brkP P (i + 1) (j + 1) = pw (brkP P i j) P.n := by
  have hp1 : P.n ≠ 0 := by have := P.is; omega
  have hneg : ∀ y : PP P, pw (-y) P.n = -pw y P.n := fun y => by
    have h := ppring.frob P.is pp_char y (-y)
    rw [ppring.add_neg, ppring.pw_zero hp1] at h
    exact ppring.neg_of h.symm
  rw [brkP_is, brkP_is, ppring.frob P.is pp_char, hneg, ← ppring.pw_mul, ← ppring.pw_mul, Nat.pow_succ, Nat.pow_succ]
def facPj (P : Pri) (i : Nat) (second : Bool) (j : Nat) : PP P := if second then brkP P (j + 1) 0 else brkP P i j
theorem facPj_l (i : Nat) (second : Bool) (j : Nat) : (facPj P i second j).1 = facL P.n i second j := by
  unfold facPj facL
  cases second <;> rfl
/-- The first j of the i brackets, multiplied. -/
def fpj (P : Pri) (i : Nat) (second : Bool) : Nat → PP P
  | 0 => 1
  | j + 1 => fpj P i second j * facPj P i second j
theorem fpj_l (i : Nat) (second : Bool) : ∀ j, prodF P.p [1] ((List.range j).map (facL P.n i second)) = (fpj P i second j).1
  | 0 => rfl
  | j + 1 => by
    rw [List.range_succ, List.map_append, prodF_app, fpj_l i second j]
    show mul P.p (fpj P i second j).1 (facL P.n i second j) = _
    rw [← facPj_l]; rfl
theorem fpD_up (i : Nat) : ∀ j, fpj P (i + 1) false (j + 1) = brkP P (i + 1) 0 * pw (fpj P i false j) P.n
  | 0 => by
    show (1 : PP P) * brkP P (i + 1) 0 = brkP P (i + 1) 0 * pw 1 P.n
    rw [ppring.one_mul, ppring.pw_one, ppring.mul_one]
  | j + 1 => by
    show fpj P (i + 1) false (j + 1) * brkP P (i + 1) (j + 1) = brkP P (i + 1) 0 * pw (fpj P i false j * brkP P i j) P.n
    rw [fpD_up i j, brkP_up, ppring.mul_pw, ppring.mul_assoc]
theorem fpL_same (i : Nat) : ∀ j, fpj P (i + 1) true j = fpj P i true j
  | 0 => rfl
  | j + 1 => by
    show fpj P (i + 1) true j * brkP P (j + 1) 0 = fpj P i true j * brkP P (j + 1) 0
    rw [fpL_same i j]
def facP (P : Pri) (second : Bool) (i : Nat) : PP P := fpj P i second i
theorem facP_dv1 (second : Bool) (i : Nat) : Dv (facP P second i) (facP P second (i + 1)) := by
  cases second with
  | false =>
    unfold facP
    rw [fpD_up]
    refine ppring.dv_mul ?_ _
    obtain ⟨m, hm⟩ : ∃ m, P.n = m + 1 := ⟨P.n - 1, by have := P.is; omega⟩
    rw [hm, ppring.pw_add]
    refine ppring.dv_mul ?_ _
    have : pw (fpj P i false i) 1 = fpj P i false i := ppring.one_mul _
    rw [this]
    exact ppring.dv_refl _
  | true =>
    show Dv (fpj P i true i) (fpj P (i + 1) true i * brkP P (i + 1) 0)
    rw [fpL_same]
    exact ppring.dv_mul' (ppring.dv_refl _) _
theorem facP_dv (second : Bool) {i k : Nat} (h : i ≤ k) : Dv (facP P second i) (facP P second k) := by
  obtain ⟨m, rfl⟩ : ∃ m, k = i + m := ⟨k - i, by omega⟩
  clear h
  induction m with
  | zero => exact ppring.dv_refl _
  | succ m ih => exact ppring.dv_trans ih (facP_dv1 second (i + m))
theorem facPj_ne {i j : Nat} (second : Bool) (hj : j < i) : facPj P i second j ≠ 0 := fun e => by
  have h := len_zero.2 e
  have hl : (facPj P i second j).len = (facL P.n i second j).length := by show (facPj P i second j).1.length = _; rw [facPj_l]
  rw [hl] at h
  unfold facL at h
  cases second with
  | true => simp only [if_true] at h; rw [brk_len P.ge (by omega)] at h; omega
  | false => simp only [Bool.false_eq_true, if_false] at h; rw [brk_len P.ge hj] at h; omega
theorem fpj_ne (i : Nat) (second : Bool) : ∀ j, j ≤ i → fpj P i second j ≠ 0
  | 0, _ => one_ne
  | j + 1, h => fun e => by
    rcases pp_dom _ _ e with h1 | h1
    · exact fpj_ne i second j (by omega) h1
    · exact facPj_ne second (by omega) h1
theorem facP_ne (second : Bool) (i : Nat) : facP P second i ≠ 0 := fpj_ne i second i (Nat.le_refl _)
end Go.Proofs.Ytkbnegemdlnncaa
/- Inverses modulo p, in the program. -/
namespace Go.Proofs.Ytkbnegemdlnncaa
open Go.Abs

theorem inverse_impl {p x : Int} (hp : isP p = true) (hx : 0 < x ∧ x < p) : impl_prime_inverse p x = some (inv p x) := by
  have hp2 := isP_pos hp
  obtain ⟨n, hn⟩ : ∃ n : Nat, p - 2 = n := ⟨(p - 2).toNat, by omega⟩
  have ew : IntKind.i64.wrap (p - 2) = (n : Int) := by rw [wrap64 (by omega) (by omega), hn]
  obtain ⟨c, h1, h2⟩ := loopM_for (body := fun s : Int × Int => impl_prime_inverse_l1 p x s.1 s.2) (fun i c => (c, (i : Int))) (fun c => c) n
    (fun i c => c = x ^ i % p) (fun i c hi hI => by
      subst hI
      have h3 := emod_res (show 0 < p by omega) (x ^ i)
      have h4 := mul_small (x := x ^ i % p) (y := x) (by omega) (by omega)
      refine ⟨x ^ (i + 1) % p, ?_, rfl⟩
      simp only [impl_prime_inverse_l1]
      rw [ew, if_pos (decide_eq_true (by omega)), ifp_pos (by omega), wrap64 (n := x ^ i % p * x) (by omega) (by omega), Int.tmod_eq_emod_of_nonneg h4.1, wrap64 (by omega) (by omega)]
      have : x ^ i % p * x % p = x ^ (i + 1) % p := by rw [Int.pow_succ, Int.mul_emod (x ^ i % p), Int.emod_emod, ← Int.mul_emod]
      rw [this]; rfl) (fun c hI => by
      simp only [impl_prime_inverse_l1]
      rw [ew, if_neg (by rw [decide_eq_true_eq]; omega)]) n 0 1 (by omega) (by rw [Int.pow_zero, Int.emod_eq_of_lt (by omega) (by omega)])
  have h1' : loopM (fun s : Int × Int => impl_prime_inverse_l1 p x s.1 s.2) (1, 0) = some c := h1
  simp only [impl_prime_inverse, h1', Option.bind_some]
  rw [h2, ← inv_pow hp hx, hn, Int.toNat_natCast]
end Go.Proofs.Ytkbnegemdlnncaa
/- Division, in the program. -/
namespace Go.Proofs.Ytkbnegemdlnncaa
open Go.Abs

theorem clone_is {a : List Int} (ha : a.length ≤ 1000000) : slices_Clone_impl_row_int64_fresh a = some a := by
  unfold slices_Clone_impl_row_int64_fresh
  rw [ifc_pos, ifp_pos]
  · simp
  · simp; omega
  · intro h
    subst h
    rw [ifp_pos (by simp)]
    simp
theorem divI_inner {p f : Int} (hp : 2 ≤ p ∧ p ≤ 7) {b : List Int} (hb : Row p b) (hf : 0 ≤ f ∧ f < p) {i : Nat} {s t : List Int} (hi : i + b.length ≤ s.length) (hl : s.length ≤ 1000000) (hs : ∀ j, 0 ≤ rd s j ∧ rd s j < p) {s0 : List Int} {x r9 : Int} (hx : Int.tmod (IntKind.i64.wrap (rd s0 x.toNat * r9)) p = f) :
    ∃ s', loopM (fun q : Int × List Int => impl_prime_divide_l2 b (i : Int) s0 x r9 p t q.1 q.2) (0, s) = some (s', t.set i f) ∧ s'.length = s.length ∧ ∀ j, rd s' j = dstep p (rd b) (b.length - 1) f i (rd s) j := by
  obtain ⟨s', h1, h2, h3⟩ := loopM_for (body := fun q : Int × List Int => impl_prime_divide_l2 b (i : Int) s0 x r9 p t q.1 q.2) (fun k u => ((k : Int), u)) (fun u => (u, t.set i f)) b.length
    (fun k u => u.length = s.length ∧ ∀ j, rd u j = if i ≤ j ∧ j < i + k then (rd s j - f * rd b (j - i)) % p else rd s j) (fun k u hk hI => by
      obtain ⟨hul, hu⟩ := hI
      have hbk := hb.rd (show 0 < p by omega) k
      have hsk := hs (i + k)
      have hm := mul_small (x := f) (y := rd b k) (by omega) (by omega)
      have e1 : IntKind.i64.wrap ((i : Int) + (k : Int)) = ((i + k : Nat) : Int) := by rw [wrap64 (by omega) (by omega)]; omega
      have huk := hu (i + k)
      rw [if_neg (by omega)] at huk
      refine ⟨u.set (i + k) ((rd s (i + k) - f * rd b k) % p), ?_, by simpa using hul, fun j => ?_⟩
      · simp only [impl_prime_divide_l2, letp, hx]
        rw [if_pos (decide_eq_true (by omega)), ifp_pos (by omega), e1, ifp_pos (by omega), Int.toNat_natCast, Int.toNat_natCast, huk, wrap64 (n := f * rd b k) (by omega) (by omega), wrap64 (n := rd s (i + k) - f * rd b k) (by omega) (by omega), reduce_is (by omega) (by omega)]
        simp only [Option.bind_some]
        rw [ifp_pos (by omega), wrap64 (by omega) (by omega)]
        rfl
      · rw [rd_set _ _ _ _ (by omega), hu j]
        by_cases e : j = i + k
        · subst e
          rw [if_pos rfl, if_pos (by omega), show i + k - i = k by omega]
        · rw [if_neg e]
          by_cases hc : i ≤ j ∧ j < i + k
          · rw [if_pos hc, if_pos (by omega)]
          · rw [if_neg hc, if_neg (by omega)]) (fun u hI => by
      simp only [impl_prime_divide_l2, hx]
      rw [if_neg (by rw [decide_eq_true_eq]; omega), Int.toNat_natCast]) b.length 0 s (by omega) ⟨rfl, fun j => by rw [if_neg (by omega)]⟩
  refine ⟨s', h1, h2, fun j => ?_⟩
  rw [h3 j]
  unfold dstep
  rcases Nat.eq_zero_or_pos b.length with h0 | h0
  · rw [if_neg (by omega)]
    split
    · have : rd b (j - i) = 0 := rd_ge (by omega)
      have := hs j
      rw [show rd b (j - i) = 0 from rd_ge (by omega), Int.mul_zero, Int.sub_zero, Int.emod_eq_of_lt this.1 this.2]
    · rfl
  · simp only [show (i ≤ j ∧ j < i + b.length) = (i ≤ j ∧ j ≤ i + (b.length - 1)) from by rw [eq_iff_iff]; omega]
theorem divI_outer {p : Int} (hp : isP p = true) {b : List Int} (hb : Row p b) (h0 : b.length ≠ 0) {n : Nat} (hn : n ≤ 500000) : ∀ (i : Nat) (s t : List Int), i + b.length - 1 ≤ s.length → i ≤ n → s.length ≤ 1000000 → t.length = n → (∀ j, 0 ≤ rd s j ∧ rd s j < p) →
    ∃ s' t', loopM (fun q : Int × List Int × List Int => impl_prime_divide_l1 b p (inv p (lead b)) q.1 q.2.1 q.2.2) ((i : Int) - 1, s, t) = some (s', t') ∧ s'.length = s.length ∧ t'.length = n ∧
      (∀ j, rd s' j = drem p (rd b) (b.length - 1) (inv p (lead b)) i (rd s) j) ∧ ∀ j, rd t' j = if j < i then dquo p (rd b) (b.length - 1) (inv p (lead b)) i (rd s) j else rd t j
  | 0, s, t, _, _, _, ht, _ => by
    refine ⟨s, t, ?_, rfl, ht, fun _ => rfl, fun j => by rw [if_neg (by omega)]⟩
    have step : impl_prime_divide_l1 b p (inv p (lead b)) (((0 : Nat) : Int) - 1) s t = some (.inr (s, t)) := by
      simp only [impl_prime_divide_l1]
      rw [if_neg (by rw [decide_eq_true_eq]; omega)]
    rw [loopM_eq]
    simp only [step, Option.bind_some]
  | i + 1, s, t, hi, hin, hsl, ht, hs => by
    have hp2 := isP_pos hp
    have hinv := inv_is hp (lead_pos (show 0 < p by omega) hb h0)
    have hsx := hs (i + (b.length - 1))
    have hm := mul_small (x := rd s (i + (b.length - 1))) (y := inv p (lead b)) (by omega) (by omega)
    have hf := emod_res (show 0 < p by omega) (rd s (i + (b.length - 1)) * inv p (lead b))
    have e0 : ((i + 1 : Nat) : Int) - 1 = (i : Int) := by omega
    have e1 : IntKind.i64.wrap (IntKind.i64.wrap ((i : Int) + (b.length : Int)) - 1) = ((i + (b.length - 1) : Nat) : Int) := by
      rw [wrap64 (n := (i : Int) + (b.length : Int)) (by omega) (by omega), wrap64 (by omega) (by omega)]; omega
    have hx : Int.tmod (IntKind.i64.wrap (rd s (((i + (b.length - 1) : Nat) : Int)).toNat * inv p (lead b))) p = dfac p (inv p (lead b)) (b.length - 1) i (rd s) := by
      rw [Int.toNat_natCast, wrap64 (by omega) (by omega), Int.tmod_eq_emod_of_nonneg hm.1]; rfl
    obtain ⟨s1, g1, g2, g3⟩ := divI_inner hp2 hb (f := dfac p (inv p (lead b)) (b.length - 1) i (rd s)) hf (i := i) (s := s) (t := t) (by omega) hsl hs hx
    have hs1 : rd s1 = dstep p (rd b) (b.length - 1) (dfac p (inv p (lead b)) (b.length - 1) i (rd s)) i (rd s) := funext g3
    obtain ⟨s', t', k1, k2, k3, k4, k5⟩ := divI_outer hp hb h0 hn i s1 (t.set i (dfac p (inv p (lead b)) (b.length - 1) i (rd s))) (by omega) (by omega) (by omega) (by simpa using ht) (fun j => by rw [hs1]; exact dstep_res (by omega) hs _ i j)
    refine ⟨s', t', ?_, by omega, k3, fun j => ?_, fun j => ?_⟩
    · have step : impl_prime_divide_l1 b p (inv p (lead b)) (((i + 1 : Nat) : Int) - 1) s t = some (.inl ((i : Int) - 1, s1, t.set i (dfac p (inv p (lead b)) (b.length - 1) i (rd s)))) := by
        rw [e0]
        simp only [impl_prime_divide_l1, letp, e1]
        rw [if_pos (decide_eq_true (by omega)), ifp_pos (by omega), ifp_pos (by omega), ifp_pos (by omega), g1]
        simp only [Option.bind_some]
        rw [wrap64 (by omega) (by omega)]
      rw [loopM_eq]
      simp only [step, Option.bind_some]
      exact k1
    · rw [k4 j, hs1]; rfl
    · rw [k5 j, hs1]
      simp only [dquo]
      by_cases e : j = i
      · subst e
        rw [if_neg (by omega), if_pos (by omega), if_pos rfl, rd_set _ _ _ _ (by omega), if_pos rfl]
      · by_cases h : j < i
        · rw [if_pos h, if_pos (by omega), if_neg e]
        · rw [if_neg h, if_neg (by omega), rd_set _ _ _ _ (by omega), if_neg e]
theorem lead_is {b : List Int} (h0 : b.length ≠ 0) (hl : b.length ≤ 1000000) : impl_row_lead b = some (lead b) := by
  unfold impl_row_lead
  have e1 : IntKind.i64.wrap ((b.length : Int) - 1) = ((b.length - 1 : Nat) : Int) := by rw [wrap64 (by omega) (by omega)]; omega
  rw [if_neg (by rw [beq_iff_eq]; omega), e1, ifp_pos (by omega), Int.toNat_natCast]; rfl
theorem divideI_is {p : Int} (hp : isP p = true) {a b : List Int} (ha : Row p a) (hb : Row p b) (h0 : b.length ≠ 0) (la : a.length ≤ 500000) (lb : b.length ≤ 500000) : impl_prime_divide p a b = some (quo p a b, rem p a b) := by
  have hp2 := isP_pos hp
  unfold impl_prime_divide
  rw [clone_is (by omega)]
  simp only [Option.bind_some]
  rcases Nat.lt_or_ge a.length b.length with h | h
  · rw [if_pos (decide_eq_true (by omega))]
    have e1 : quo p a b = [] := by
      have := quo_len p a b
      exact List.eq_nil_of_length_eq_zero (by omega)
    have e2 : rem p a b = a := by
      unfold rem
      rw [show a.length + 1 - b.length = 0 by omega]
      exact ha.ofF (Nat.le_refl _)
    rw [e1, e2]
  · rw [if_neg (by rw [decide_eq_true_eq]; omega)]
    obtain ⟨n, hn⟩ : ∃ n : Nat, n = a.length + 1 - b.length := ⟨_, rfl⟩
    have e1 : IntKind.i64.wrap (IntKind.i64.wrap ((a.length : Int) - (b.length : Int)) + 1) = (n : Int) := by
      rw [wrap64 (n := (a.length : Int) - (b.length : Int)) (by omega) (by omega), wrap64 (by omega) (by omega)]; omega
    have hlead := lead_pos (show 0 < p by omega) hb h0
    simp only [letp, e1, lead_is h0 (by omega), inverse_impl hp hlead, Option.bind_some, Int.toNat_natCast, List.length_replicate]
    rw [ifp_pos (by omega), wrap64 (by omega) (by omega)]
    obtain ⟨s', t', k1, k2, k3, k4, k5⟩ := divI_outer hp hb h0 (n := n) (by omega) n a (List.replicate n 0) (by omega) (Nat.le_refl _) (by omega) (by simp) (fun j => ha.rd (by omega) j)
    rw [k1]
    simp only [Option.bind_some]
    rw [trimmed_is (by omega), trimmed_is (by omega)]
    simp only [Option.bind_some]
    rw [trim_eq, trim_eq, k2, k3]
    congr 2
    · rw [quo, ← hn]
      exact ofF_congr fun i hi => by rw [k5 i, if_pos hi]
    · rw [rem, ← hn]
      exact ofF_congr fun i _ => k4 i
end Go.Proofs.Ytkbnegemdlnncaa
/- Rests of powers, in the program. -/
namespace Go.Proofs.Ytkbnegemdlnncaa
open Go.Abs

variable {P : Pri}
theorem Pri.sm (P : Pri) : 0 < P.p ∧ P.p ≤ 256 := by have := P.two; omega
theorem PP.ent (a : PP P) : Ent a.1 := a.2.ent P.sm
theorem ne_len {b : PP P} (hb : b ≠ 0) : b.1.length ≠ 0 := fun h => hb (len_zero.1 h)
theorem pdivI {a b : PP P} (hb : b ≠ 0) (la : a.len ≤ 500000) (lb : b.len ≤ 500000) : impl_prime_divide P.p a.1 b.1 = some ((pquo a b).1, (prem a b).1) := divideI_is P.ok a.2 b.2 (ne_len hb) la lb
theorem restI {a b : PP P} (hb : b ≠ 0) (la : a.len ≤ 500000) (lb : b.len ≤ 500000) : impl_prime_rest P.p a.1 b.1 = some (prem a b).1 := by
  simp only [impl_prime_rest, pdivI hb la lb, Option.bind_some]
theorem timesI {a b : PP P} (la : a.len ≤ 500000) (lb : b.len ≤ 500000) : impl_prime_times P.p a.1 b.1 = some (a * b).1 :=
  times_is (by have := P.two; omega) a.ent b.ent la lb

/-! Rests. -/
theorem prem_len (a : PP P) {m : PP P} (hm : m ≠ 0) : (prem a m).len < m.len := (pdiv a hm).2
theorem prem_of {a m r : PP P} (q : PP P) (hm : m ≠ 0) (h : a = q * m + r) (hr : r.len < m.len) : prem a m = r := (quo_is hm h hr).2
theorem prem_add_mul (a c : PP P) {m : PP P} (hm : m ≠ 0) : prem (a + c * m) m = prem a m := by
  refine prem_of (pquo a m + c) hm ?_ (prem_len a hm)
  have h := (pdiv a hm).1
  rw [ppring.add_mul]
  conv => lhs; rw [h]
  rw [ppring.add_assoc, ppring.add_assoc, ppring.add_comm (prem a m)]
theorem prem_small {a m : PP P} (h : a.len < m.len) : prem a m = a := by
  have hm : m ≠ 0 := fun e => by rw [len_zero.2 e] at h; omega
  exact prem_of 0 hm (by rw [ppring.zero_mul, ppring.zero_add]) h
theorem prem_mul_l (a b : PP P) {m : PP P} (hm : m ≠ 0) : prem (prem a m * b) m = prem (a * b) m := by
  have h := (pdiv a hm).1
  have e : a * b = prem a m * b + (pquo a m * b) * m := by
    conv => lhs; rw [h]
    rw [ppring.add_mul, ppring.add_comm, ppring.mul_assoc, ppring.mul_assoc, ppring.mul_comm m b]
  rw [e, prem_add_mul _ _ hm]
theorem prem_mul_r (a b : PP P) {m : PP P} (hm : m ≠ 0) : prem (a * prem b m) m = prem (a * b) m := by
  rw [ppring.mul_comm, prem_mul_l _ _ hm, ppring.mul_comm]
theorem prem_mul (a b : PP P) {m : PP P} (hm : m ≠ 0) : prem (prem a m * prem b m) m = prem (a * b) m := by
  rw [prem_mul_l _ _ hm, prem_mul_r _ _ hm]
theorem prem_add (a b : PP P) {m : PP P} (hm : m ≠ 0) : prem (a + b) m = prem a m + prem b m := by
  have h1 := (pdiv a hm).1
  have h2 := (pdiv b hm).1
  refine prem_of (pquo a m + pquo b m) hm ?_ ?_
  · conv => lhs; rw [h1, h2]
    rw [ppring.add_mul]
    simp only [ppring.add_assoc]
    rw [ppring.add_left_comm (prem a m)]
  · have := len_add (prem a m) (prem b m)
    have := prem_len a hm
    have := prem_len b hm
    omega
theorem pw_two (a : PP P) (k : Nat) : pw (a * a) k = pw a (2 * k) := by
  rw [ppring.pw_mul]
  congr 1
  simp only [pw, ppring.one_mul]
theorem prem_pw (a : PP P) {m : PP P} (hm : m ≠ 0) (k : Nat) : prem (pw (prem a m) k) m = prem (pw a k) m := by
  induction k with
  | zero => rfl
  | succ k ih => simp only [pw]; rw [prem_mul_r _ _ hm, ← prem_mul_l _ _ hm, ih, prem_mul_l _ _ hm]

theorem and_one {k : Nat} (h : k < 4611686018427387904) : IntKind.i64.wrap (BitVec.ofInt IntKind.i64.bits k &&& BitVec.ofInt IntKind.i64.bits 1).toNat = ((k % 2 : Nat) : Int) := by
  have e : (BitVec.ofInt IntKind.i64.bits (k : Int) &&& BitVec.ofInt IntKind.i64.bits 1).toNat = k % 2 := by
    rw [BitVec.toNat_and, BitVec.toNat_ofInt, BitVec.toNat_ofInt]
    have h1 : ((k : Int) % (2 ^ IntKind.i64.bits : Nat)).toNat = k := by
      rw [Int.emod_eq_of_lt (by omega) (by show (k : Int) < ((2 ^ 64 : Nat) : Int); omega)]
      omega
    have h2 : ((1 : Int) % (2 ^ IntKind.i64.bits : Nat)).toNat = 1 := by decide
    rw [h1, h2, Nat.and_one_is_mod]
  rw [e, wrap64 (by omega) (by omega)]
theorem half_is (k : Nat) : Int.fdiv (k : Int) (2 ^ (min (1 : Int).toNat IntKind.i64.bits)) = ((k / 2 : Nat) : Int) := by
  have e : (2 : Int) ^ (min (1 : Int).toNat IntKind.i64.bits) = 2 := by decide
  rw [e, Int.fdiv_eq_ediv_of_nonneg _ (by omega)]
  omega
theorem powI_loop {m : PP P} (hm : m ≠ 0) (lm : m.len ≤ 1000) : ∀ (n k : Nat) (O B : PP P), k ≤ n → k < 4611686018427387904 →
    loopM (fun s : Int × List Int × List Int => impl_prime_power_l1 P.p m.1 s.1 s.2.1 s.2.2) ((k : Int), (prem O m).1, (prem B m).1) = some (prem (O * pw B k) m).1 := by
  intro n
  induction n with
  | zero =>
    intro k O B hk _
    have : k = 0 := by omega
    subst this
    have step : impl_prime_power_l1 P.p m.1 ((0 : Nat) : Int) (prem O m).1 (prem B m).1 = some (.inr (prem O m).1) := by
      simp only [impl_prime_power_l1]
      rw [if_neg (by simp)]
    rw [loopM_eq]
    simp only [step, Option.bind_some, pw, ppring.mul_one]
  | succ n ih =>
    intro k O B hk hb
    rcases Nat.eq_zero_or_pos k with rfl | h0
    · have step : impl_prime_power_l1 P.p m.1 ((0 : Nat) : Int) (prem O m).1 (prem B m).1 = some (.inr (prem O m).1) := by
        simp only [impl_prime_power_l1]
        rw [if_neg (by simp)]
      rw [loopM_eq]
      simp only [step, Option.bind_some, pw, ppring.mul_one]
    · have lO := prem_len O hm
      have lB := prem_len B hm
      have lOB : (prem O m * prem B m).len ≤ 500000 := by
        have : (prem O m * prem B m).len ≤ (prem O m).len + (prem B m).len - 1 := mul_len _ _ _
        omega
      have lBB : (prem B m * prem B m).len ≤ 500000 := by
        have : (prem B m * prem B m).len ≤ (prem B m).len + (prem B m).len - 1 := mul_len _ _ _
        omega
      have e1 : impl_prime_times P.p (prem B m).1 (prem B m).1 = some (prem B m * prem B m).1 := timesI (by omega) (by omega)
      have e2 : impl_prime_times P.p (prem O m).1 (prem B m).1 = some (prem O m * prem B m).1 := timesI (by omega) (by omega)
      have e3 : impl_prime_rest P.p (prem B m * prem B m).1 m.1 = some (prem (B * B) m).1 := by rw [restI hm lBB (by omega), prem_mul _ _ hm]
      have e4 : impl_prime_rest P.p (prem O m * prem B m).1 m.1 = some (prem (O * B) m).1 := by rw [restI hm lOB (by omega), prem_mul _ _ hm]
      have step : impl_prime_power_l1 P.p m.1 (k : Int) (prem O m).1 (prem B m).1 = some (.inl (((k / 2 : Nat) : Int), (prem (if k % 2 = 1 then O * B else O) m).1, (prem (B * B) m).1)) := by
        simp only [impl_prime_power_l1, letp, and_one hb, half_is, e1, e2, e3, e4, Option.bind_some]
        rw [if_pos (decide_eq_true (by omega))]
        by_cases ho : k % 2 = 1
        · rw [if_pos ho, if_pos (by rw [beq_iff_eq]; omega)]; rfl
        · rw [if_neg ho, if_neg (by rw [beq_iff_eq]; omega)]; rfl
      rw [loopM_eq]
      simp only [step, Option.bind_some]
      rw [ih (k / 2) _ _ (by omega) (by omega), pw_two]
      congr 3
      by_cases ho : k % 2 = 1
      · rw [if_pos ho, ppring.mul_assoc]
        have e : k = 2 * (k / 2) + 1 := by omega
        conv => rhs; rw [e]
        simp only [pw]
        rw [ppring.mul_comm B]
      · rw [if_neg ho]
        have e : k = 2 * (k / 2) := by omega
        conv => rhs; rw [e]
theorem powI_is (a : PP P) {m : PP P} (hm : m ≠ 0) (lm : m.len ≤ 1000) (la : a.len ≤ 500000) {k : Nat} (hk : k < 4611686018427387904) : impl_prime_power P.p a.1 k m.1 = some (prem (pw a k) m).1 := by
  have h := powI_loop hm lm k k 1 a (Nat.le_refl _) hk
  have e1 : impl_prime_rest P.p [1] m.1 = some (prem 1 m).1 := restI (a := 1) hm (by rw [len_one]; omega) (by omega)
  simp only [impl_prime_power, e1, restI hm la (show m.len ≤ 500000 by omega), Option.bind_some]
  have h' : loopM (fun s : Int × List Int × List Int => impl_prime_power_l1 P.p m.1 s.1 s.2.1 s.2.2) ((k : Int), (prem 1 m).1, (prem a m).1) = some (prem (1 * pw a k) m).1 := h
  rw [h', ppring.one_mul]
  rfl
end Go.Proofs.Ytkbnegemdlnncaa
/- Which arrays have coefficients below p. -/
namespace Go.Proofs.Ytkbnegemdlnncaa
open Go.Abs
/-- All coefficients lie below p. -/
def Small (p : Int) (a : V64) : Prop := ∀ j, j < 64 → rd a.1 j < p
open Classical in
noncomputable def small (p : Int) (a : V64) : Bool := decide (Small p a)

theorem res_of_small {p : Int} {a : V64} (hb : IsB a) (h : small p a = true) : Res p a := fun j hj => by
  have h1 : Small p a := by simpa [small] using h
  exact ⟨(hb.rd hj).1, h1 j hj⟩
end Go.Proofs.Ytkbnegemdlnncaa
/- Which arrays are polynomials, in the program. -/
namespace Go.Proofs.Ytkbnegemdlnncaa
open Go.Abs

theorem index_loop {p : Int} {a : V64} (hb : IsB a) : ∀ s : Int, (∃ i : Nat, s = i ∧ i ≤ 64 ∧ ∀ j, j < i → rd a.1 j < p) → ∃ r, loopM (fun s : Int => slices_IndexFunc_byte_byte_of_impl_areAll_byte__c1_p_l1 a.1 p s) s = some r ∧ ((r = .inl () ∧ Small p a) ∨ (∃ i : Nat, r = .inr (i : Int) ∧ ¬ Small p a)) := by
  refine loopM_ind (fun (s : Int) => ∃ i : Nat, s = i ∧ i ≤ 64 ∧ ∀ j, j < i → rd a.1 j < p) (fun (s : Int) (r : Unit ⊕ Int) => (r = .inl () ∧ Small p a) ∨ (∃ i : Nat, r = .inr (i : Int) ∧ ¬ Small p a)) (fun s => 64 - s.toNat) ?_
  rintro s ⟨i, rfl, hi, hlt⟩
  have h64 := a.2
  by_cases h : i = 64
  · right
    subst h
    exact ⟨.inl (), by simp [slices_IndexFunc_byte_byte_of_impl_areAll_byte__c1_p_l1, h64], .inl ⟨rfl, hlt⟩⟩
  · have hbi := hb.rd (show i < 64 by omega)
    have e1 : impl_areAll_byte__c1_of_p (rd a.1 i) p = some (!decide (rd a.1 i < p)) := by
      simp only [impl_areAll_byte__c1_of_p, impl_isPoly_c1_of_p, Option.bind_some]
      rw [wrap64 (by omega) (by omega)]
    by_cases e : rd a.1 i < p
    · left
      refine ⟨((i + 1 : Nat) : Int), ?_, ⟨i + 1, rfl, by omega, fun j hj => ?_⟩, by simp; omega, fun r hr => hr⟩
      · simp only [slices_IndexFunc_byte_byte_of_impl_areAll_byte__c1_p_l1, h64]
        rw [if_pos (by simp; omega), ifp_pos (by omega), Int.toNat_natCast, e1, wrap64 (by omega) (by omega)]
        simp [e]
      · by_cases hj' : j = i
        · rw [hj']; exact e
        · exact hlt j (by omega)
    · right
      refine ⟨.inr (i : Int), ?_, .inr ⟨i, rfl, fun hs => e (hs i (by omega))⟩⟩
      simp only [slices_IndexFunc_byte_byte_of_impl_areAll_byte__c1_p_l1, h64]
      rw [if_pos (by simp; omega), ifp_pos (by omega), Int.toNat_natCast, e1]
      simp [e]
theorem isPoly_is {p : Int} {a : V64} (hb : IsB a) : impl_isPoly p a = some (small p a) := by
  obtain ⟨r, h1, h2⟩ := index_loop (p := p) hb 0 ⟨0, rfl, by omega, fun j hj => by omega⟩
  simp only [impl_isPoly, impl_areAll_byte_of_impl_isPoly_c1_p, slices_ContainsFunc_byte_byte_of_impl_areAll_byte__c1_p, slices_IndexFunc_byte_byte_of_impl_areAll_byte__c1_p, h1, Option.bind_some]
  rcases h2 with ⟨rfl, h⟩ | ⟨i, rfl, h⟩ <;> simp [small, h]
end Go.Proofs.Ytkbnegemdlnncaa
/- The code for polynomials, in the program. -/
namespace Go.Proofs.Ytkbnegemdlnncaa
open Go.Abs

theorem indexP_loop {p : Int} {l : List V64} (hb : ∀ a ∈ l, IsB a) (hl : l.length ≤ 2000000) : ∀ s : Int, (∃ i : Nat, s = i ∧ i ≤ l.length ∧ ∀ a ∈ l.take i, small p a = true) → ∃ r, loopM (fun s : Int => slices_IndexFunc_impl_Poly_impl_Poly_of_impl_areAll_impl_Poly__c1_p_l1 l p s) s = some r ∧ ((r = .inl () ∧ l.all (small p) = true) ∨ (∃ i : Nat, r = .inr (i : Int) ∧ l.all (small p) = false)) := by
  refine loopM_ind (fun (s : Int) => ∃ i : Nat, s = i ∧ i ≤ l.length ∧ ∀ a ∈ l.take i, small p a = true) (fun (s : Int) (r : Unit ⊕ Int) => (r = .inl () ∧ l.all (small p) = true) ∨ (∃ i : Nat, r = .inr (i : Int) ∧ l.all (small p) = false)) (fun s => l.length - s.toNat) ?_
  rintro s ⟨i, rfl, hi, hlt⟩
  by_cases h : i = l.length
  · right
    subst h
    exact ⟨.inl (), by simp [slices_IndexFunc_impl_Poly_impl_Poly_of_impl_areAll_impl_Poly__c1_p_l1], .inl ⟨rfl, by rw [List.take_length] at hlt; simpa using hlt⟩⟩
  · have hil : i < l.length := by omega
    have er : rd l i = l[i] := by simp [rd, hil]
    have hbi := isPoly_is (p := p) (hb l[i] (List.getElem_mem _))
    have e1 : impl_areAll_impl_Poly__c1_of_p (rd l i) p = some (!small p l[i]) := by
      simp only [impl_areAll_impl_Poly__c1_of_p, impl_polysCode_c1_of_p, er, hbi, Option.bind_some]
    cases e : small p l[i] with
    | true =>
      left
      refine ⟨((i + 1 : Nat) : Int), ?_, ⟨i + 1, rfl, by omega, fun a ha => ?_⟩, by simp; omega, fun r hr => hr⟩
      · simp only [slices_IndexFunc_impl_Poly_impl_Poly_of_impl_areAll_impl_Poly__c1_p_l1]
        rw [if_pos (decide_eq_true (by omega)), ifp_pos (by omega), Int.toNat_natCast, e1, e]
        simp only [Option.bind_some, Bool.not_true, Bool.false_eq_true, if_false]
        rw [wrap64 (by omega) (by omega)]; rfl
      · rw [List.take_succ_eq_append_getElem hil] at ha
        rcases List.mem_append.1 ha with ha | ha
        · exact hlt a ha
        · have : a = l[i] := by simpa using ha
          rw [this]; exact e
    | false =>
      right
      refine ⟨.inr (i : Int), ?_, .inr ⟨i, rfl, ?_⟩⟩
      · simp only [slices_IndexFunc_impl_Poly_impl_Poly_of_impl_areAll_impl_Poly__c1_p_l1]
        rw [if_pos (decide_eq_true (by omega)), ifp_pos (by omega), Int.toNat_natCast, e1, e]
        rfl
      · rw [List.all_eq_false]
        exact ⟨l[i], List.getElem_mem _, by simp [e]⟩
theorem polysCode_is {p : Int} {l : List V64} (hb : ∀ a ∈ l, IsB a) (hl : l.length ≤ 2000000) : impl_polysCode p l = some (if isP p && l.all (small p) then 0 else 1) := by
  obtain ⟨r, h1, h2⟩ := indexP_loop (p := p) hb hl 0 ⟨0, rfl, by omega, by simp⟩
  have e : impl_areAll_impl_Poly_of_impl_polysCode_c1_p l p = some (l.all (small p)) := by
    simp only [impl_areAll_impl_Poly_of_impl_polysCode_c1_p, slices_ContainsFunc_impl_Poly_impl_Poly_of_impl_areAll_impl_Poly__c1_p, slices_IndexFunc_impl_Poly_impl_Poly_of_impl_areAll_impl_Poly__c1_p, h1, Option.bind_some]
    rcases h2 with ⟨rfl, h⟩ | ⟨i, rfl, h⟩ <;> simp [h]
  simp only [impl_polysCode, isPrime_impl, e, Option.bind_some]
  cases isP p <;> cases l.all (small p) <;> simp
end Go.Proofs.Ytkbnegemdlnncaa
/- The row of an array. -/
namespace Go.Proofs.Ytkbnegemdlnncaa
open Go.Abs
theorem row_is {d : V64} (hb : IsB d) : impl_rowOf d = some (row d) := by
  rw [rowOf_is hb]
  congr 1
  have := top_le (rd d.1) 64
  refine rd_ext (by rw [row, ofF_len]; simp; rw [d.2]; omega) fun i hi => ?_
  simp at hi
  rw [rd_take, row, rd_ofF', if_pos (by omega), if_pos (by omega)]
theorem row_length (d : V64) : (row d).length = top (rd d.1) 64 := by rw [row, ofF_len]
theorem row_rd (d : V64) {i : Nat} (hi : i < 64) : rd (row d) i = rd d.1 i := by rw [row, rd_ofF', if_pos hi]
end Go.Proofs.Ytkbnegemdlnncaa
/- PowerOf and MultiplyPolys of the program. -/
namespace Go.Proofs.Ytkbnegemdlnncaa
open Go.Abs
variable {P : Pri}
theorem isB_pp (a : PP P) : IsB (pad a.1) := fun x hx => by
  obtain ⟨i, hi, rfl⟩ := List.getElem_of_mem hx
  have h1 := res_pad a.2 P.pos i (by rw [← (pad a.1).2]; exact hi)
  have := P.two
  rw [rd_lt hi] at h1
  omega
theorem small_pp (a : PP P) : small P.p (pad a.1) = true := by
  simp only [small, decide_eq_true_eq]
  exact fun j hj => (res_pad a.2 P.pos j hj).2
theorem pcode1 (a : PP P) : impl_polysCode P.p [pad a.1] = some 0 := by
  rw [polysCode_is (fun x hx => by rw [List.mem_singleton.1 hx]; exact isB_pp a) (by simp), P.okp]
  simp [small_pp]
theorem pcode2 (a b : PP P) : impl_polysCode P.p [pad a.1, pad b.1] = some 0 := by
  rw [polysCode_is (fun x hx => by
    rcases List.mem_cons.1 hx with rfl | hx
    · exact isB_pp a
    · rw [List.mem_singleton.1 hx]; exact isB_pp b) (by simp), P.okp]
  simp [small_pp]
theorem rowI (a : PP P) (la : a.len ≤ 64) : impl_rowOf (pad a.1) = some a.1 := by rw [row_is (isB_pp a), row_pad a.2 la]
theorem fitsI (a : PP P) (la : a.len ≤ 1000000) : impl_row_fits a.1 = some (decide (a.len ≤ 64)) := by
  have h : a.1.length = a.len := rfl
  simp only [impl_row_fits, impl_row_degree, Option.bind_some]
  rw [wrap64 (by omega) (by omega), h]
  congr 1
  rw [Bool.eq_iff_iff]; simp only [decide_eq_true_eq]; omega
theorem toldI (a : PP P) (la : a.len ≤ 1000000) : impl_told a.1 = some (if a.len ≤ 64 then (pad a.1, 0) else (vrep 64 0, 3)) := by
  by_cases h : a.len ≤ 64
  · rw [if_pos h]
    exact told_is (a.2.bytes P.sm.2) h
  · rw [if_neg h]
    simp only [impl_told, fitsI a la, decide_eq_false h, Option.bind_some]
    rfl
theorem mulO {a b : PP P} (la : a.len ≤ 64) (lb : b.len ≤ 64) : impl_MultiplyPolys P.p (pad a.1) (pad b.1) = some (if (a * b).len ≤ 64 then (pad (a * b).1, 0) else (vrep 64 0, 3)) := by
  have hl : (a * b).len ≤ a.len + b.len - 1 := mul_len _ _ _
  simp only [impl_MultiplyPolys, pcode2, rowI a la, rowI b lb, timesI (a := a) (b := b) (by omega) (by omega), toldI (a * b) (by omega), Option.bind_some]
  rfl
theorem pwO_ne {a : PP P} (ha : a ≠ 0) : ∀ k, pw a k ≠ 0
  | 0 => one_ne
  | k + 1 => fun e => by
    rcases pp_dom _ _ e with h | h
    · exact pwO_ne ha k h
    · exact ha h
theorem pwO_len {a : PP P} (ha : a ≠ 0) : ∀ k, (pw a k).len = (a.len - 1) * k + 1
  | 0 => by show (1 : PP P).len = _; rw [len_one, Nat.mul_zero]
  | k + 1 => by
    have h1 := pwO_len ha k
    have h2 : (pw a (k + 1)).len = _ := len_mul (pwO_ne ha k) ha
    have h3 := len_pos ha
    rw [h2, h1, Nat.mul_succ]; omega
theorem pwO_one {a : PP P} (ha : a.len ≤ 1) : ∀ k, (pw a k).len ≤ 1
  | 0 => by show (1 : PP P).len ≤ _; rw [len_one]; omega
  | k + 1 => by
    have h1 := pwO_one ha k
    have h2 : (pw a (k + 1)).len ≤ (pw a k).len + a.len - 1 := mul_len _ _ _
    omega
theorem powO_loop {a : PP P} (ha : a ≠ 0) (la : a.len ≤ 64) {k : Nat} (hk : k ≤ 63) : ∀ (m i : Nat), i + m = k → (pw a i).len ≤ 64 →
    loopM (fun s : List Int × Int => impl_PowerOf_l1 (k : Int) P.p a.1 s.1 s.2) ((pw a i).1, (i : Int)) = some (if (pw a k).len ≤ 64 then .inl (pw a k).1 else .inr (vrep 64 0, 3))
  | 0, i, hi, hl => by
    have : i = k := by omega
    subst this
    have step : impl_PowerOf_l1 (i : Int) P.p a.1 (pw a i).1 (i : Int) = some (.inr (.inl (pw a i).1)) := by
      simp only [impl_PowerOf_l1]
      rw [if_neg (by rw [decide_eq_true_eq]; omega)]
    rw [loopM_eq]
    simp only [step, Option.bind_some, if_pos hl]
  | m + 1, i, hi, hl => by
    have e1 : impl_prime_times P.p (pw a i).1 a.1 = some (pw a (i + 1)).1 := timesI (by omega) (by omega)
    have h2 : (pw a (i + 1)).len ≤ (pw a i).len + a.len - 1 := mul_len _ _ _
    have e2 := fitsI (pw a (i + 1)) (by omega)
    have e3 : IntKind.i64.wrap ((i : Int) + 1) = ((i + 1 : Nat) : Int) := by rw [wrap64 (by omega) (by omega)]; rfl
    by_cases h : (pw a (i + 1)).len ≤ 64
    · have step : impl_PowerOf_l1 (k : Int) P.p a.1 (pw a i).1 (i : Int) = some (.inl ((pw a (i + 1)).1, ((i + 1 : Nat) : Int))) := by
        simp only [impl_PowerOf_l1, e1, e2, decide_eq_true h, e3, Option.bind_some]
        rw [if_pos (decide_eq_true (by omega))]; rfl
      rw [loopM_eq]
      simp only [step, Option.bind_some]
      exact powO_loop ha la hk m (i + 1) (by omega) h
    · have step : impl_PowerOf_l1 (k : Int) P.p a.1 (pw a i).1 (i : Int) = some (.inr (.inr (vrep 64 0, 3))) := by
        simp only [impl_PowerOf_l1, e1, e2, decide_eq_false h, Option.bind_some]
        rw [if_pos (decide_eq_true (by omega))]; rfl
      have h3 : ¬ (pw a k).len ≤ 64 := by
        have h4 : (a.len - 1) * (i + 1) ≤ (a.len - 1) * k := Nat.mul_le_mul_left _ (by omega)
        rw [pwO_len ha] at h ⊢
        omega
      rw [loopM_eq]
      simp only [step, Option.bind_some, if_neg h3]
theorem powO {a : PP P} (la : a.len ≤ 64) {k : Nat} (hk : k ≤ 63) : impl_PowerOf P.p (pad a.1) k = some (if (pw a k).len ≤ 64 then (pad (pw a k).1, 0) else (vrep 64 0, 3)) := by
  have hd : impl_row_degree a.1 = some ((a.len : Int) - 1) := by
    have h : a.1.length = a.len := rfl
    simp only [impl_row_degree]
    rw [wrap64 (by omega) (by omega), h]
  have hn : impl_isNumber (k : Int) = some true := by
    simp only [impl_isNumber, impl_within]
    rw [if_pos (decide_eq_true (by omega)), decide_eq_true (by omega)]
    rfl
  have h3 : decide ((k : Int) > 63) = false := decide_eq_false (by omega)
  simp only [impl_PowerOf, pcode1, rowI a la, hn, hd, Option.bind_some]
  by_cases h1 : a.len ≤ 1
  · have h4 := pwO_one h1 k
    have e : impl_prime_power P.p a.1 k [0, 1] = some (pw a k).1 := by
      have hT : (ppT : PP P) ≠ 0 := fun e => by have := len_zero.2 e; cases this
      have h := powI_is a (m := ppT) hT (by show 2 ≤ 1000; omega) (by omega) (k := k) (by omega)
      rw [prem_small (show (pw a k).len < (ppT : PP P).len by show _ < 2; omega)] at h
      exact h
    have c1 : decide ((a.len : Int) - 1 > 0) = false := decide_eq_false (by omega)
    have c2 : decide ((a.len : Int) - 1 ≤ 0) = true := decide_eq_true (by omega)
    simp only [c1, c2, e, toldI (pw a k) (by omega), Option.bind_some]
    rfl
  · have ha : a ≠ 0 := fun e => by rw [len_zero.2 e] at h1; omega
    have c1 : decide ((a.len : Int) - 1 > 0) = true := decide_eq_true (by omega)
    have c2 : decide ((a.len : Int) - 1 ≤ 0) = false := decide_eq_false (by omega)
    have hl : loopM (fun s : List Int × Int => impl_PowerOf_l1 (k : Int) P.p a.1 s.1 s.2) ([1], 0) = _ := powO_loop ha la hk k 0 (by omega) (by show (1 : PP P).len ≤ 64; rw [len_one]; omega)
    simp only [c1, c2, h3, hl, Option.bind_some]
    by_cases hq : (pw a k).len ≤ 64
    · simp only [if_pos hq, toldI (pw a k) (by omega)]
      rfl
    · simp only [if_neg hq]
      rfl
end Go.Proofs.Ytkbnegemdlnncaa
/- Numbers in a range. -/
namespace Go.Proofs.Ytkbnegemdlnncaa
open Go.Abs

theorem range_spec (p n a b : Int) : spec_l04Range p n a b = some (if isP p then (if a ≤ n ∧ n ≤ b then 0 else 2) else 1) := by
  unfold spec_l04Range spec_l01In
  rw [isPrime_spec]
  cases isP p <;> simp
  by_cases h1 : a ≤ n <;> by_cases h2 : n ≤ b <;> simp [h1, h2]

theorem range_impl (p n a b : Int) : impl_numberCode p n a b = some (if isP p then (if a ≤ n ∧ n ≤ b then 0 else 2) else 1) := by
  unfold impl_numberCode impl_within
  rw [isPrime_impl]
  cases isP p <;> simp
  by_cases h1 : a ≤ n <;> by_cases h2 : n ≤ b <;> simp [h1, h2]
end Go.Proofs.Ytkbnegemdlnncaa
/- The brackets of second factorials. -/
namespace Go.Proofs.Ytkbnegemdlnncaa
open Go.Abs

theorem second_is {p i : Nat} (hp : 2 ≤ p ∧ p ≤ 7) (hi0 : p ^ i ≤ 400000) : impl_prime_second p i = some ((List.range i).map (facL p i true)) := by
  have hi := exp_small hp.1 hi0
  obtain ⟨s, g1, g2⟩ := loopM_for (body := fun s : Int × List (List Int) => impl_prime_second_l1 (i : Int) p s.1 s.2) (fun i s => ((i : Int), s)) (fun s => s) i
    (fun j s => s = (List.range j).map (facL p i true)) (fun j s hj hI => by
      subst hI
      refine ⟨_, ?_, rfl⟩
      have ew : IntKind.i64.wrap ((j : Int) + 1) = ((j + 1 : Nat) : Int) := by rw [wrap64 (by omega) (by omega)]; rfl
      have hb : impl_prime_bracket p ((j + 1 : Nat) : Int) 0 = some (brk p (j + 1) 0) := bracket_is (i := j + 1) (j := 0) hp (Nat.le_trans (ppow_mono hp.1 (show j + 1 ≤ i by omega)) hi0) (by simp)
      simp only [impl_prime_second_l1]
      rw [if_pos (decide_eq_true (by omega)), ew, hb]
      simp only [Option.bind_some]
      rw [ifp_pos (by simp; omega), List.range_succ, List.map_append]
      rfl) (fun s hI => by
      simp only [impl_prime_second_l1]
      rw [if_neg (by rw [decide_eq_true_eq]; omega)]) i 0 [] (by omega) rfl
  have g1' : loopM (fun s : Int × List (List Int) => impl_prime_second_l1 (i : Int) p s.1 s.2) (0, []) = some s := g1
  simp only [impl_prime_second, g1', g2, Option.bind_some]
end Go.Proofs.Ytkbnegemdlnncaa
/- The polynomial with a number. -/
namespace Go.Proofs.Ytkbnegemdlnncaa
open Go.Abs

theorem numbered_loop {p : Nat} (hp : 2 ≤ p) : ∀ s : Int × List Int, (∃ n : Nat, s.1 = n ∧ s.2.length + n ≤ 1000000000000) → ∃ r, loopM (fun s : Int × List Int => impl_prime_numbered_l1 p s.1 s.2) s = some r ∧ ∀ n : Nat, s.1 = n → r = s.2 ++ digs p n := by
  refine loopM_ind (fun (s : Int × List Int) => ∃ n : Nat, s.1 = n ∧ s.2.length + n ≤ 1000000000000) (fun (s : Int × List Int) (r : List Int) => ∀ n : Nat, s.1 = n → r = s.2 ++ digs p n) (fun (s : Int × List Int) => s.1.toNat) ?_
  rintro ⟨x, l⟩ ⟨n, hx, h2⟩
  simp only at hx h2
  subst hx
  by_cases hn : n = 0
  · right
    subst hn
    refine ⟨l, by simp [impl_prime_numbered_l1], fun m hm => ?_⟩
    have : m = 0 := by simpa using hm.symm
    subst this
    rw [digs_zero]; simp
  · left
    have hlt : n / p < n := Nat.div_lt_self (by omega) hp
    have e1 : Int.tdiv (n : Int) p = ((n / p : Nat) : Int) := rfl
    have e2 : Int.tmod (n : Int) p = ((n % p : Nat) : Int) := rfl
    have ed := digs_pos hp (show 0 < n by omega)
    generalize n / p = q at hlt e1 ed
    generalize n % p = d at e2 ed
    refine ⟨((q : Int), l ++ [(d : Int)]), ?_, ⟨q, rfl, by simp only [List.length_append, List.length_singleton]; omega⟩, by simp only [Int.toNat_natCast]; exact hlt, fun r hr m hm => ?_⟩
    · simp only [impl_prime_numbered_l1]
      rw [if_pos (by simp; omega), ifp_pos (by omega), ifp_pos (by simp; omega), ifp_pos (by omega), e1, e2, wrap64 (by omega) (by omega)]
    · have : m = n := by have : (n : Int) = m := hm; omega
      subst this
      rw [hr q rfl, ed]
      simp

theorem numbered_is {p n : Nat} (hp : 2 ≤ p) (hn : n ≤ 1000000000000) : impl_prime_numbered p n = some (digs p n) := by
  obtain ⟨l, h3, h4⟩ := numbered_loop hp ((n : Int), []) ⟨n, rfl, by simp; omega⟩
  have e := h4 n rfl
  simp only [List.nil_append] at e
  simp [impl_prime_numbered, h3, e]

end Go.Proofs.Ytkbnegemdlnncaa
/- What both sides return: FnExactCarlitzFactorial. -/
namespace Go.Proofs.Ytkbnegemdlnncaa
open Go.Abs

def firstL (q i : Nat) : List (List Int) := (List.range i).map (facL q i false)
def repL : Nat → List (List Int) → List (List Int)
  | 0, _ => []
  | c + 1, F => F ++ repL c F
theorem repL_end : ∀ (c : Nat) (F : List (List Int)), repL (c + 1) F = repL c F ++ F
  | 0, F => by simp [repL]
  | c + 1, F => by
    have := repL_end c F
    simp only [repL] at this ⊢
    rw [this, ← List.append_assoc, this, List.append_assoc]
/-- The polynomials whose product is the factorial of a number with these digits. -/
def car (q : Nat) : Nat → List Int → List (List Int)
  | _, [] => []
  | i, d :: ds => repL d.toNat (firstL q i) ++ car q (i + 1) ds
theorem car_app (q : Nat) : ∀ (A B : List Int) (i : Nat), car q i (A ++ B) = car q i A ++ car q (i + A.length) B
  | [], B, i => by simp [car]
  | d :: A, B, i => by
    simp only [List.cons_append, car, car_app q A B (i + 1), List.length_cons, List.append_assoc]
    rw [show i + 1 + A.length = i + (A.length + 1) by omega]
theorem repL_len : ∀ (c : Nat) (F : List (List Int)), (repL c F).length = c * F.length
  | 0, _ => by simp [repL]
  | c + 1, F => by simp [repL, repL_len c F, Nat.succ_mul, Nat.add_comm]
theorem repL_mem : ∀ (c : Nat) (F : List (List Int)) (b : List Int), b ∈ repL c F → b ∈ F
  | 0, _, _, h => by simp [repL] at h
  | c + 1, F, b, h => by
    simp only [repL, List.mem_append] at h
    rcases h with h | h
    · exact h
    · exact repL_mem c F b h
theorem firstL_ok {q : Nat} (hq : 2 ≤ q ∧ q ≤ 7) {i : Nat} (hi : q ^ i ≤ 400000) : ∀ b ∈ firstL q i, Row (q : Int) b ∧ b.length ≠ 0 ∧ b.length ≤ 500000 := by
  intro b hb
  simp only [firstL, List.mem_map, List.mem_range] at hb
  obtain ⟨j, hj, rfl⟩ := hb
  exact facL_ok hq hi false hj

section
variable {q : Nat} (hp : isP (q : Int) = true)
include hp
theorem prod_step {A F : List (List Int)} (hA : ∀ b ∈ A, Row (q : Int) b ∧ b.length ≠ 0) (hF : ∀ b ∈ F, Row (q : Int) b ∧ b.length ≠ 0) : mul q (prodF q [1] A) (prodF q [1] F) = prodF q [1] (A ++ F) := by
  have hp2 := isP_pos hp
  obtain ⟨h1, _⟩ := prodF_row hp A [1] (row_one (by omega)) (by simp) hA
  rw [← prodF_mul (by omega), mul_one' (by omega) h1, prodF_app]
/-- The inner loop of the reference. -/
theorem carS_inner {i : Nat} (hi : q ^ i ≤ 400000) : ∀ (c : Nat) (A : List (List Int)), c ≤ 1000 → (∀ b ∈ A, Row (q : Int) b ∧ b.length ≠ 0) → degs A ≤ 63 →
    loopM (fun s : Int × V64 => spec_CarlitzFactorial_l2 q i s.1 s.2) ((c : Int), pad (prodF q [1] A)) = some (if degs (A ++ repL c (firstL q i)) ≤ 63 then .inl (pad (prodF q [1] (A ++ repL c (firstL q i)))) else .inr (vrep 64 0, 3))
  | 0, A, _, hA, hd => by
    have step : spec_CarlitzFactorial_l2 q i ((0 : Nat) : Int) (pad (prodF q [1] A)) = some (.inr (.inl (pad (prodF q [1] A)))) := by
      simp only [spec_CarlitzFactorial_l2]
      rw [if_neg (by rw [decide_eq_true_eq]; omega)]
    rw [loopM_eq]
    simp only [step, Option.bind_some, repL, List.append_nil, if_pos hd]
  | c + 1, A, hc, hA, hd => by
    have hp2 := isP_pos hp
    have hFo := firstL_ok (q := q) (by omega) hi
    have hF : ∀ b ∈ firstL q i, Row (q : Int) b ∧ b.length ≠ 0 := fun b hb => ⟨(hFo b hb).1, (hFo b hb).2.1⟩
    obtain ⟨h1, h2⟩ := prodF_row hp A [1] (row_one (by omega)) (by simp) hA
    obtain ⟨h3, h4⟩ := prodF_row hp (firstL q i) [1] (row_one (by omega)) (by simp) hF
    simp only [List.length_singleton] at h2 h4
    have hfac : fac q (facL q i false) i = if degs (firstL q i) ≤ 63 then some (prodF q [1] (firstL q i)) else none :=
      fac_closed hp _ i fun j hj => ⟨(facL_ok (by omega) hi false hj).1, (facL_ok (by omega) hi false hj).2.1⟩
    have hS := factorial_is hp hi false
    rw [hfac] at hS
    have hcat : A ++ repL (c + 1) (firstL q i) = (A ++ firstL q i) ++ repL c (firstL q i) := by simp [repL]
    have hbig : degs (A ++ firstL q i) ≤ degs (A ++ repL (c + 1) (firstL q i)) := by rw [hcat, degs_app (A ++ firstL q i)]; omega
    have hdapp := degs_app A (firstL q i)
    by_cases hf : degs (firstL q i) ≤ 63
    · rw [if_pos hf] at hS
      by_cases ht : degs A + degs (firstL q i) ≤ 63
      · have step : spec_CarlitzFactorial_l2 q i ((c + 1 : Nat) : Int) (pad (prodF q [1] A)) = some (.inl ((c : Int), pad (prodF q [1] (A ++ firstL q i)))) := by
          simp only [spec_CarlitzFactorial_l2]
          rw [if_pos (decide_eq_true (by omega)), hS]
          simp only [Option.bind_some, Bool.not_true, Bool.false_eq_true, if_false]
          rw [times_pad ⟨by omega, by omega⟩ h1 h3 (by omega) (by omega) (by omega), prod_step hp hA hF]
          simp only [Option.bind_some, Bool.not_true, Bool.false_eq_true, if_false]
          rw [wrap64 (by omega) (by omega)]
          congr 3
          omega
        rw [loopM_eq]
        simp only [step, Option.bind_some]
        rw [carS_inner hi c (A ++ firstL q i) (by omega) (fun b hb => by
          rcases List.mem_append.1 hb with h | h
          · exact hA b h
          · exact hF b h) (by omega), hcat]
      · have step : spec_CarlitzFactorial_l2 q i ((c + 1 : Nat) : Int) (pad (prodF q [1] A)) = some (.inr (.inr (vrep 64 0, 3))) := by
          simp only [spec_CarlitzFactorial_l2]
          rw [if_pos (decide_eq_true (by omega)), hS]
          simp only [Option.bind_some, Bool.not_true, Bool.false_eq_true, if_false]
          rw [times_pad_no h1 h3 (by omega) (by omega) (by omega) (by omega) (by omega)]
          rfl
        rw [loopM_eq]
        simp only [step, Option.bind_some]
        rw [if_neg (by omega)]
    · rw [if_neg hf] at hS
      have step : spec_CarlitzFactorial_l2 q i ((c + 1 : Nat) : Int) (pad (prodF q [1] A)) = some (.inr (.inr (vrep 64 0, 3))) := by
        simp only [spec_CarlitzFactorial_l2]
        rw [if_pos (decide_eq_true (by omega)), hS]
        rfl
      rw [loopM_eq]
      simp only [step, Option.bind_some]
      rw [if_neg (by omega)]
theorem carS_outer : ∀ (n i : Nat) (A : List (List Int)), n * q ^ i ≤ 1000 → i ≤ 1000 → (∀ b ∈ A, Row (q : Int) b ∧ b.length ≠ 0) → degs A ≤ 63 →
    loopM (fun s : Int × Int × V64 => spec_CarlitzFactorial_l1 q s.1 s.2.1 s.2.2) ((n : Int), (i : Int), pad (prodF q [1] A)) = some (if degs (A ++ car q i (digs q n)) ≤ 63 then .inl (pad (prodF q [1] (A ++ car q i (digs q n)))) else .inr (vrep 64 0, 3)) := by
  intro n
  induction n using Nat.strongRecOn with
  | ind n ih =>
    intro i A hn hi hA hd
    have hp2 := isP_pos hp
    by_cases h0 : n = 0
    · subst h0
      have step : spec_CarlitzFactorial_l1 q ((0 : Nat) : Int) (i : Int) (pad (prodF q [1] A)) = some (.inr (.inl (pad (prodF q [1] A)))) := by
        simp only [spec_CarlitzFactorial_l1]
        rw [if_neg (by rw [decide_eq_true_eq]; omega)]
      rw [loopM_eq]
      simp only [step, Option.bind_some, digs_zero, car, List.append_nil, if_pos hd]
    · have hpos : 1 ≤ q ^ i := ppow_pos (by omega) i
      have hqi : q ^ i ≤ 1000 := by
        have := Nat.mul_le_mul_right (q ^ i) (show 1 ≤ n by omega)
        omega
      have hn1000 : n ≤ 1000 := by
        have := Nat.mul_le_mul_left n hpos
        omega
      have hi9 : i ≤ 9 := by
        rcases Nat.lt_or_ge 9 i with h | h
        · have h2 : q ^ 10 ≤ q ^ i := Nat.pow_le_pow_right (by omega) h
          have h3 : 2 ^ 10 ≤ q ^ 10 := Nat.pow_le_pow_left (by omega) 10
          have h4 : (2 : Nat) ^ 10 = 1024 := by decide
          omega
        · exact h
      have hdig := digs_pos (show 2 ≤ q by omega) (show 0 < n by omega)
      have hcar : car q i (digs q n) = repL (n % q) (firstL q i) ++ car q (i + 1) (digs q (n / q)) := by
        rw [hdig]
        show repL ((n % q : Nat) : Int).toNat (firstL q i) ++ _ = _
        rw [Int.toNat_natCast]
      have hmod : n % q ≤ 1000 := Nat.le_trans (Nat.mod_le _ _) hn1000
      have hin := carS_inner hp (i := i) (by omega) (n % q) A hmod hA hd
      have e1 : Int.tmod (n : Int) q = ((n % q : Nat) : Int) := rfl
      have e2 : IntKind.i64.wrap (Int.tdiv (n : Int) q) = ((n / q : Nat) : Int) := by
        have h : Int.tdiv (n : Int) q = ((n / q : Nat) : Int) := rfl
        have hw : ∀ l : Nat, l ≤ 1000 → IntKind.i64.wrap (l : Int) = (l : Int) := fun l hl => wrap64 (by omega) (by omega)
        rw [h]
        exact hw _ (Nat.le_trans (Nat.div_le_self n q) hn1000)
      have e3 : IntKind.i64.wrap ((i : Int) + 1) = ((i + 1 : Nat) : Int) := by rw [wrap64 (by omega) (by omega)]; rfl
      have hFo := firstL_ok (q := q) (i := i) (by omega) (by omega)
      have hA2 : ∀ b ∈ A ++ repL (n % q) (firstL q i), Row (q : Int) b ∧ b.length ≠ 0 := fun b hb => by
        rcases List.mem_append.1 hb with h | h
        · exact hA b h
        · have := hFo b (repL_mem _ _ _ h); exact ⟨this.1, this.2.1⟩
      rw [hcar, ← List.append_assoc]
      have hmono : degs (A ++ repL (n % q) (firstL q i)) ≤ degs (A ++ repL (n % q) (firstL q i) ++ car q (i + 1) (digs q (n / q))) := by rw [degs_app (A ++ repL (n % q) (firstL q i))]; omega
      by_cases hok : degs (A ++ repL (n % q) (firstL q i)) ≤ 63
      · rw [if_pos hok] at hin
        have step : spec_CarlitzFactorial_l1 q (n : Int) (i : Int) (pad (prodF q [1] A)) = some (.inl (((n / q : Nat) : Int), ((i + 1 : Nat) : Int), pad (prodF q [1] (A ++ repL (n % q) (firstL q i))))) := by
          simp only [spec_CarlitzFactorial_l1]
          rw [if_pos (decide_eq_true (by omega)), ifp_pos (by omega), e1, hin]
          simp only [Option.bind_some]
          rw [ifp_pos (by omega), e2, e3]
        have hlt : n / q < n := Nat.div_lt_self (by omega) (by omega)
        rw [loopM_eq]
        simp only [step, Option.bind_some]
        refine ih (n / q) hlt (i + 1) _ ?_ (by omega) hA2 hok
        rw [Nat.pow_succ, Nat.mul_comm (q ^ i), ← Nat.mul_assoc]
        have := Nat.mul_le_mul_right (q ^ i) (Nat.div_mul_le_self n q)
        omega
      · rw [if_neg hok] at hin
        have step : spec_CarlitzFactorial_l1 q (n : Int) (i : Int) (pad (prodF q [1] A)) = some (.inr (.inr (vrep 64 0, 3))) := by
          simp only [spec_CarlitzFactorial_l1]
          rw [if_pos (decide_eq_true (by omega)), ifp_pos (by omega), e1, hin]
          rfl
        rw [loopM_eq]
        simp only [step, Option.bind_some]
        rw [if_neg (by omega)]
end

theorem digs_pow {p : Nat} (hp : 2 ≤ p) : ∀ (n i : Nat), i < (digs p n).length → p ^ i ≤ n := by
  intro n
  induction n using Nat.strongRecOn with
  | ind n ih =>
    intro i hi
    rcases Nat.eq_zero_or_pos n with rfl | h0
    · rw [digs_zero] at hi; simp at hi
    · rw [digs_pos hp h0] at hi
      simp only [List.length_cons] at hi
      rcases i with _ | i
      · rw [Nat.pow_zero]; exact h0
      · have := ih (n / p) (Nat.div_lt_self h0 (by omega)) i (by omega)
        rw [Nat.pow_succ]
        exact Nat.le_trans (Nat.mul_le_mul_right p this) (Nat.div_mul_le_self n p)
/-- The program's list. -/
theorem carI_list {q n : Nat} (hp : isP (q : Int) = true) (hn : n ≤ 1000) : loopM (fun s : Int × List (List Int) => impl_CarlitzFactorial_l1 (digs q n) q s.1 s.2) (0, []) = some (car q 0 (digs q n)) ∧ (car q 0 (digs q n)).length ≤ 1000000 ∧ ∀ b ∈ car q 0 (digs q n), Row (q : Int) b ∧ b.length ≠ 0 ∧ b.length ≤ 500000 := by
  have hp2 := isP_pos hp
  have hpow := digs_pow (p := q) (by omega) n
  have hlt := digs_lt (p := q) (by omega) n
  have hlen : (digs q n).length ≤ 10 := digs_len (by omega) 10 n (by omega)
  generalize digs q n = ds at *
  have hpi : ∀ i, i < ds.length → q ^ i ≤ 400000 := fun i hi => by have := hpow i hi; omega
  have hdig : ∀ i (hi : i < ds.length), 0 ≤ ds[i] ∧ ds[i] < 7 := fun i hi => by have := hlt ds[i] (List.getElem_mem _); omega
  obtain ⟨s, g1, g2, g3, g4⟩ := loopM_for (body := fun s : Int × List (List Int) => impl_CarlitzFactorial_l1 ds q s.1 s.2) (fun i s => ((i : Int), s)) (fun s => s) ds.length
    (fun i s => s = car q 0 (ds.take i) ∧ s.length ≤ i * 7000 ∧ ∀ b ∈ s, Row (q : Int) b ∧ b.length ≠ 0 ∧ b.length ≤ 500000) (fun i s hi hI => by
      obtain ⟨rfl, hl, hm⟩ := hI
      obtain ⟨d, hd⟩ : ∃ d : Nat, ds[i] = (d : Int) := ⟨ds[i].toNat, by have := hdig i hi; omega⟩
      have hd7 : d < 7 := by have := hdig i hi; omega
      have er : rd ds i = (d : Int) := by rw [rd_lt hi, hd]
      have hF := first_is (p := q) (i := i) (by omega) (hpi i hi)
      have hFl : (firstL q i).length = i := by simp [firstL]
      obtain ⟨u, k1, k2⟩ := loopM_for (body := fun s : Int × List (List Int) => impl_CarlitzFactorial_l2 ds (i : Int) q s.1 s.2) (fun c u => ((c : Int), u)) (fun u => u) d
        (fun c u => u = car q 0 (ds.take i) ++ repL c (firstL q i)) (fun c u hc hI => by
          subst hI
          refine ⟨_, ?_, rfl⟩
          have h1 : (repL c (firstL q i)).length ≤ 7 * 10 := by rw [repL_len, hFl]; exact Nat.mul_le_mul (by omega) (by omega)
          simp only [impl_CarlitzFactorial_l2, Int.toNat_natCast, er]
          rw [if_pos (decide_eq_true (by omega)), hF]
          simp only [Option.bind_some]
          have h2 : ((List.range i).map (facL q i false)).length = i := by simp
          rw [ifp_pos (by rw [List.length_append]; omega), wrap64 (by omega) (by omega), repL_end, ← List.append_assoc]
          rfl) (fun u hI => by
          simp only [impl_CarlitzFactorial_l2, Int.toNat_natCast, er]
          rw [if_neg (by rw [decide_eq_true_eq]; omega)]) d 0 (car q 0 (ds.take i)) (by omega) (by simp [repL])
      have k1' : loopM (fun s : Int × List (List Int) => impl_CarlitzFactorial_l2 ds (i : Int) q s.1 s.2) (0, car q 0 (ds.take i)) = some u := k1
      have hcar : u = car q 0 (ds.take (i + 1)) := by
        rw [k2, List.take_succ_eq_append_getElem hi, car_app]
        simp only [car, List.length_take, Nat.min_eq_left (Nat.le_of_lt hi), Nat.zero_add, List.append_nil, hd, Int.toNat_natCast]
      refine ⟨u, ?_, hcar, ?_, fun b hb => ?_⟩
      · simp only [impl_CarlitzFactorial_l1]
        rw [if_pos (decide_eq_true (by omega)), ifp_pos (by omega), k1']
        simp only [Option.bind_some]
        rw [wrap64 (by omega) (by omega)]; rfl
      · rw [k2, List.length_append, repL_len, hFl]
        have : d * i ≤ 7 * 10 := Nat.mul_le_mul (by omega) (by omega)
        omega
      · rw [k2] at hb
        rcases List.mem_append.1 hb with h | h
        · exact hm b h
        · exact firstL_ok (by omega) (hpi i hi) b (repL_mem _ _ _ h)) (fun s hI => by
      simp only [impl_CarlitzFactorial_l1]
      rw [if_neg (by rw [decide_eq_true_eq]; omega)]) ds.length 0 [] (by omega) ⟨by simp [car], by simp, by simp⟩
  rw [List.take_length] at g2
  subst g2
  exact ⟨g1, by omega, g4⟩

theorem carlitz_key (p n : Int) : ∃ r, spec_CarlitzFactorial p n = some r ∧ impl_CarlitzFactorial p n = some r := by
    unfold spec_CarlitzFactorial impl_CarlitzFactorial
    rw [range_spec, range_impl]
    simp only [Option.bind_some]
    cases hp : isP p with
    | false => exact ⟨_, by simp; rfl, by simp⟩
    | true =>
      have hp2 := isP_pos hp
      by_cases hn : 0 ≤ n ∧ n ≤ 1000
      · obtain ⟨q, rfl⟩ : ∃ q : Nat, p = q := ⟨p.toNat, by omega⟩
        obtain ⟨k, rfl⟩ : ∃ k : Nat, n = k := ⟨n.toNat, by omega⟩
        have hS := carS_outer hp k 0 [] (by simp; omega) (by omega) (by simp) (by simp [degs])
        have hS' : loopM (fun s : Int × Int × V64 => spec_CarlitzFactorial_l1 q s.1 s.2.1 s.2.2) ((k : Int), 0, pad [1]) = _ := hS
        obtain ⟨h1, h2, h3⟩ := carI_list hp (show k ≤ 1000 by omega)
        simp only [hn, and_self, if_true, bne_self_eq_false, Bool.false_eq_true, if_false, one_is, Option.bind_some, hS', numbered_is (show 2 ≤ q by omega) (show k ≤ 1000000000000 by omega), h1, List.nil_append]
        generalize car q 0 (digs q k) = M at *
        rw [product_is hp h2 fun j hj => h3 _ (by rw [show rd M j = M[j] by simp [rd, hj]]; exact List.getElem_mem _), fac_list hp fun b hb => ⟨(h3 b hb).1, (h3 b hb).2.1⟩]
        by_cases hd : degs M ≤ 63
        · simp only [if_pos hd, Option.bind_some]
          exact ⟨_, rfl, rfl⟩
        · simp only [if_neg hd, Option.bind_some]
          exact ⟨_, rfl, rfl⟩
      · exact ⟨_, by simp [hn]; rfl, by simp [hn]⟩
end Go.Proofs.Ytkbnegemdlnncaa
/- Brackets and factorials, told as polynomials. -/
namespace Go.Proofs.Ytkbnegemdlnncaa
open Go.Abs
variable {P : Pri}
theorem Pri.q (P : Pri) : 2 ≤ P.n ∧ P.n ≤ 7 := by have := P.is; omega
theorem brkP_len {i : Nat} (h : 0 < i) : (brkP P i 0).len = P.n ^ i + 1 := brk_len P.q.1 h
theorem brkP_ne {i : Nat} (h : 0 < i) : brkP P i 0 ≠ 0 := fun e => by
  have h1 := brkP_len (P := P) h
  rw [len_zero.2 e] at h1; omega
theorem bracketI {i : Nat} (h1 : 1 ≤ i) (h6 : i ≤ 6) : impl_BracketOf P.p i = some (if (brkP P i 0).len ≤ 64 then (pad (brkP P i 0).1, 0) else (vrep 64 0, 3)) := by
  have hs := small_pow P.q h6
  have hb := brkP_len (P := P) (show 0 < i by omega)
  have e : impl_prime_bracket P.p i 0 = some (brkP P i 0).1 := bracket_is (i := i) (j := 0) P.q hs (by simp)
  have hr : (1 : Int) ≤ (i : Int) ∧ (i : Int) ≤ 6 := by omega
  simp only [impl_BracketOf, range_impl, P.okp, if_true, if_pos hr, Option.bind_some, bne_self_eq_false, Bool.false_eq_true, if_false, e, toldI (brkP P i 0) (by omega)]
theorem facM_degsO (second : Bool) {i : Nat} (hi : i ≤ 6) : (facP P second i).len = degs ((List.range i).map (facL P.n i second)) + 1 := by
  have hs := small_pow P.q hi
  have h := prodF_row P.okp ((List.range i).map (facL P.n i second)) [1] (row_one P.two.1) (by simp) fun b hb => by
    obtain ⟨j, hj, rfl⟩ := List.mem_map.1 hb
    have := facL_ok (p := P.n) (i := i) P.q hs second (List.mem_range.1 hj)
    exact ⟨this.1, this.2.1⟩
  have e : prodF P.p [1] ((List.range i).map (facL P.n i second)) = (facP P second i).1 := fpj_l i second i
  rw [e] at h
  have h2 : (facP P second i).len = ([1] : List Int).length + degs ((List.range i).map (facL P.n i second)) := h.2
  rw [h2]; simp; omega
theorem facO (second : Bool) {i : Nat} (hi : i ≤ 6) : impl_prime_productOf P.p ((List.range i).map (facL P.n i second)) = some (if (facP P second i).len ≤ 64 then (pad (facP P second i).1, 0) else (vrep 64 0, 3)) := by
  have hs := small_pow P.q hi
  have hc := fac_closed (p := P.p) P.okp (facL P.n i second) i fun j hj => by
    have := facL_ok (p := P.n) (i := i) P.q hs second hj
    exact ⟨this.1, this.2.1⟩
  have hd := facM_degsO (P := P) second hi
  have e : prodF P.p [1] ((List.range i).map (facL P.n i second)) = (facP P second i).1 := fpj_l i second i
  rw [e] at hc
  have h' : impl_prime_productOf P.p ((List.range i).map (facL P.n i second)) = some (match fac P.p (facL P.n i second) i with | none => (vrep 64 0, 3) | some o => (pad o, 0)) := productL_is P.okp hs second
  rw [h', hc]
  by_cases hq : (facP P second i).len ≤ 64
  · rw [if_pos (by omega), if_pos hq]
  · rw [if_neg (by omega), if_neg hq]
theorem firstO {i : Nat} (hi : i ≤ 6) : impl_FirstFactorial P.p i = some (if (facP P false i).len ≤ 64 then (pad (facP P false i).1, 0) else (vrep 64 0, 3)) := by
  have hs := small_pow P.q hi
  have hr : (0 : Int) ≤ (i : Int) ∧ (i : Int) ≤ 6 := by omega
  have e : impl_prime_first P.p i = some ((List.range i).map (facL P.n i false)) := first_is P.q hs
  simp only [impl_FirstFactorial, range_impl, P.okp, if_true, if_pos hr, Option.bind_some, bne_self_eq_false, Bool.false_eq_true, if_false, e, facO false hi]
theorem secondO {i : Nat} (hi : i ≤ 6) : impl_SecondFactorial P.p i = some (if (facP P true i).len ≤ 64 then (pad (facP P true i).1, 0) else (vrep 64 0, 3)) := by
  have hs := small_pow P.q hi
  have hr : (0 : Int) ≤ (i : Int) ∧ (i : Int) ≤ 6 := by omega
  have e : impl_prime_second P.p i = some ((List.range i).map (facL P.n i true)) := second_is P.q hs
  simp only [impl_SecondFactorial, range_impl, P.okp, if_true, if_pos hr, Option.bind_some, bne_self_eq_false, Bool.false_eq_true, if_false, e, facO true hi]
/-- The digits of a power of p. -/
theorem digs_pw {p : Nat} (hp : 2 ≤ p) : ∀ i, digs p (p ^ i) = List.replicate i 0 ++ [1]
  | 0 => by
    rw [Nat.pow_zero, digs_pos hp (by omega), Nat.mod_eq_of_lt (by omega), Nat.div_eq_of_lt (by omega), digs_zero]; rfl
  | i + 1 => by
    have h0 : 0 < p ^ (i + 1) := Nat.pow_pos (by omega)
    rw [digs_pos hp h0, Nat.pow_succ, Nat.mul_mod_left, Nat.mul_div_cancel _ (by omega), digs_pw hp i]; rfl
theorem car_pw (q : Nat) : ∀ (i j : Nat), car q j (List.replicate i 0 ++ [1]) = firstL q (j + i)
  | 0, j => by simp [car, repL]
  | i + 1, j => by
    rw [List.replicate_succ, List.cons_append]
    show repL (0 : Int).toNat (firstL q j) ++ car q (j + 1) (List.replicate i 0 ++ [1]) = _
    rw [car_pw q i (j + 1)]
    show [] ++ _ = _
    rw [List.nil_append]
    congr 1; omega
theorem carlO {i : Nat} (hi : i ≤ 6) (hn : P.n ^ i ≤ 1000) : impl_CarlitzFactorial P.p ((P.n ^ i : Nat) : Int) = some (if (facP P false i).len ≤ 64 then (pad (facP P false i).1, 0) else (vrep 64 0, 3)) := by
  have hr : (0 : Int) ≤ ((P.n ^ i : Nat) : Int) ∧ ((P.n ^ i : Nat) : Int) ≤ 1000 := by omega
  obtain ⟨h1, _, _⟩ := carI_list (q := P.n) P.ok hn
  have e : car P.n 0 (digs P.n (P.n ^ i)) = (List.range i).map (facL P.n i false) := by
    rw [digs_pw P.q.1, car_pw, Nat.zero_add]; rfl
  rw [e] at h1
  have h1' : loopM (fun s : Int × List (List Int) => impl_CarlitzFactorial_l1 (digs P.n (P.n ^ i)) P.p s.1 s.2) (0, []) = some ((List.range i).map (facL P.n i false)) := h1
  have h2 : impl_prime_numbered P.p ((P.n ^ i : Nat) : Int) = some (digs P.n (P.n ^ i)) := numbered_is P.q.1 (by omega)
  simp only [impl_CarlitzFactorial, range_impl, P.okp, if_true, if_pos hr, Option.bind_some, bne_self_eq_false, Bool.false_eq_true, if_false, h2, h1', facO false hi]
/-- What a factorial without an error says. -/
theorem fac_get {f : Int → Int → Option (V64 × Int)} {second : Bool} (hf : ∀ (P : Pri) (i : Nat), i ≤ 6 → f P.p i = some (if (facP P second i).len ≤ 64 then (pad (facP P second i).1, 0) else (vrep 64 0, 3)))
    (hno : ∀ p i, (isP p = true ∧ 0 ≤ i ∧ i ≤ 6) ∨ ∃ v, f p i = some (v, 1) ∨ f p i = some (v, 2)) {p i : Int} {r : V64 × Int} (h : f p i = some r) (h0 : r.2 = 0) :
    ∃ (P : Pri) (n : Nat), p = P.p ∧ i = n ∧ n ≤ 6 ∧ (facP P second n).len ≤ 64 ∧ r = (pad (facP P second n).1, 0) := by
  rcases hno p i with ⟨h1, h2, h3⟩ | ⟨v, h1 | h1⟩
  · have hp2 := isP_pos h1
    obtain ⟨q, rfl⟩ : ∃ q : Nat, p = q := ⟨p.toNat, by omega⟩
    obtain ⟨n, rfl⟩ : ∃ n : Nat, i = n := ⟨i.toNat, by omega⟩
    have h4 := hf ⟨q, h1⟩ n (by omega)
    have h5 : f (q : Int) n = f (Pri.p ⟨q, h1⟩) n := rfl
    rw [h5, h4] at h
    refine ⟨⟨q, h1⟩, n, rfl, rfl, by omega, ?_⟩
    by_cases hl : (facP ⟨q, h1⟩ second n).len ≤ 64
    · rw [if_pos hl] at h
      exact ⟨hl, (Option.some.inj h).symm⟩
    · rw [if_neg hl] at h
      rw [← Option.some.inj h] at h0
      cases h0
  · rw [h1] at h; rw [← Option.some.inj h] at h0; cases h0
  · rw [h1] at h; rw [← Option.some.inj h] at h0; cases h0
theorem first_no (p i : Int) : (isP p = true ∧ 0 ≤ i ∧ i ≤ 6) ∨ ∃ v, impl_FirstFactorial p i = some (v, 1) ∨ impl_FirstFactorial p i = some (v, 2) := by
  by_cases h : isP p = true
  · by_cases h2 : 0 ≤ i ∧ i ≤ 6
    · exact .inl ⟨h, h2⟩
    · exact .inr ⟨vrep 64 0, .inr (by simp [impl_FirstFactorial, range_impl, h, h2])⟩
  · exact .inr ⟨vrep 64 0, .inl (by simp [impl_FirstFactorial, range_impl, h])⟩
theorem second_no (p i : Int) : (isP p = true ∧ 0 ≤ i ∧ i ≤ 6) ∨ ∃ v, impl_SecondFactorial p i = some (v, 1) ∨ impl_SecondFactorial p i = some (v, 2) := by
  by_cases h : isP p = true
  · by_cases h2 : 0 ≤ i ∧ i ≤ 6
    · exact .inl ⟨h, h2⟩
    · exact .inr ⟨vrep 64 0, .inr (by simp [impl_SecondFactorial, range_impl, h, h2])⟩
  · exact .inr ⟨vrep 64 0, .inl (by simp [impl_SecondFactorial, range_impl, h])⟩
theorem bracket_key (p i : Int) : ∃ r, spec_BracketOf p i = some r ∧ impl_BracketOf p i = some r := by
  by_cases h : isP p = true
  · by_cases h2 : 1 ≤ i ∧ i ≤ 6
    · have hp2 := isP_pos h
      obtain ⟨q, rfl⟩ : ∃ q : Nat, p = q := ⟨p.toNat, by omega⟩
      obtain ⟨n, rfl⟩ : ∃ n : Nat, i = n := ⟨i.toNat, by omega⟩
      have e := bracketI (P := ⟨q, h⟩) (i := n) (by omega) (by omega)
      have hb := brkP_len (P := ⟨q, h⟩) (show 0 < n by omega)
      have hb' : (brkP ⟨q, h⟩ n 0).len = q ^ n + 1 := hb
      obtain ⟨v, g1, g2⟩ := bracketS_is (p := q) (i := n) (j := 0) (by omega) (by omega) (by omega)
      have g1' : spec_l04Bracket q n 0 = some (v, decide (q ^ n ≤ 63 ∧ q ^ 0 ≤ 63)) := g1
      refine ⟨_, ?_, e⟩
      simp only [spec_BracketOf, range_spec, h, if_true, if_pos h2, Option.bind_some, bne_self_eq_false, Bool.false_eq_true, if_false, g1']
      by_cases hq : q ^ n ≤ 63
      · have hc : q ^ n ≤ 63 ∧ q ^ 0 ≤ 63 := ⟨hq, by rw [Nat.pow_zero]; omega⟩
        rw [if_pos (show (brkP ⟨q, h⟩ n 0).len ≤ 64 by omega), g2 hc]
        simp only [decide_eq_true hc, Bool.not_true, Bool.false_eq_true, if_false]
        rfl
      · have hc : ¬ (q ^ n ≤ 63 ∧ q ^ 0 ≤ 63) := fun hc => hq hc.1
        rw [if_neg (show ¬ (brkP ⟨q, h⟩ n 0).len ≤ 64 by omega)]
        simp only [decide_eq_false hc, Bool.not_false, if_true]
    · exact ⟨(vrep 64 0, 2), by simp [spec_BracketOf, range_spec, h, h2], by simp [impl_BracketOf, range_impl, h, h2]⟩
  · exact ⟨(vrep 64 0, 1), by simp [spec_BracketOf, range_spec, h], by simp [impl_BracketOf, range_impl, h]⟩
end Go.Proofs.Ytkbnegemdlnncaa
/- Draws: the source of numbers, in the reference. -/
namespace Go.Proofs.Ytkbnegemdlnncaa
open Go.Abs
abbrev Src := List Int × Int × Int
structure SrcOk (s : Src) : Prop where
  len : s.1.length ≤ 4096
  bytes : ∀ x ∈ s.1, 0 ≤ x ∧ x < 256
  at' : 0 ≤ s.2.1 ∧ s.2.1 ≤ 4096
theorem mask_is (b : BitVec 64) : ∃ k : Nat, k ≤ 16777215 ∧ IntKind.u64.wrap ((b &&& BitVec.ofInt 64 16777215).toNat : Int) = (k : Int) := by
  refine ⟨(b &&& BitVec.ofInt 64 16777215).toNat, ?_, ?_⟩
  · rw [BitVec.toNat_and]
    exact Nat.le_trans Nat.and_le_right (by decide)
  · have h : (b &&& BitVec.ofInt 64 16777215).toNat ≤ 16777215 := by
      rw [BitVec.toNat_and]
      exact Nat.le_trans Nat.and_le_right (by decide)
    generalize (b &&& BitVec.ofInt 64 16777215).toNat = q at h
    simp only [IntKind.wrap, IntKind.signed, IntKind.bits]
    simp
    omega
theorem next_is {s : Src} (h : SrcOk s) {n : Int} (hn : n ≤ 4611686018427387904) : ∃ (r : Int) (s' : Src), spec_l01Next_of_src s n = some (r, s') ∧ SrcOk s' ∧ 0 ≤ r ∧ (1 ≤ n → r < n) ∧ (n < 1 → r = 0) := by
  by_cases h1 : n < 1
  · refine ⟨0, s, ?_, h, by omega, fun h2 => by omega, fun _ => rfl⟩
    simp only [spec_l01Next_of_src]
    rw [if_pos (decide_eq_true h1)]
  · obtain ⟨y, hy⟩ : ∃ y, IntKind.u64.wrap (IntKind.u64.wrap (s.2.2 * 6364136223846793005) + 1442695040888963407) = y := ⟨_, rfl⟩
    obtain ⟨k, k1, k2⟩ := mask_is (BitVec.ofInt 64 (Int.fdiv y (2 ^ (min (33 : Int).toNat 64))))
    have k2' : IntKind.u64.wrap (BitVec.ofInt IntKind.u64.bits (Int.fdiv y (2 ^ (min (33 : Int).toNat IntKind.u64.bits))) &&& BitVec.ofInt IntKind.u64.bits 16777215).toNat = (k : Int) := k2
    obtain ⟨hl, hb, ha⟩ := h
    by_cases h2 : s.2.1 < (s.1.length : Int)
    · have hm : rd s.1 s.2.1.toNat ∈ s.1 := by
        have : s.2.1.toNat < s.1.length := by omega
        simp [rd, this]
      have hbb := hb _ hm
      refine ⟨Int.tmod (k + rd s.1 s.2.1.toNat) n, (s.1, s.2.1 + 1, y), ?_, ⟨hl, hb, by simp only; omega⟩, ?_, fun _ => ?_, fun h3 => absurd h3 h1⟩
      · simp only [spec_l01Next_of_src, letp, hy, k2']
        rw [if_neg (by rw [decide_eq_true_eq]; exact h1), if_pos (decide_eq_true h2), ifp_pos (by omega), wrap64 (n := (k : Int)) (by omega) (by omega), wrap64 (n := rd s.1 s.2.1.toNat) (by omega) (by omega), wrap64 (by omega) (by omega), wrap64 (by omega) (by omega)]
        simp only [Option.bind_some]
        rw [ifp_pos (by omega)]
      · rw [Int.tmod_eq_emod_of_nonneg (by omega)]; exact Int.emod_nonneg _ (by omega)
      · rw [Int.tmod_eq_emod_of_nonneg (by omega)]; exact Int.emod_lt_of_pos _ (by omega)
    · refine ⟨Int.tmod k n, (s.1, s.2.1, y), ?_, ⟨hl, hb, ha⟩, ?_, fun _ => ?_, fun h3 => absurd h3 h1⟩
      · simp only [spec_l01Next_of_src, letp, hy, k2']
        rw [if_neg (by rw [decide_eq_true_eq]; exact h1), if_neg (by rw [decide_eq_true_eq]; exact h2), wrap64 (n := (k : Int)) (by omega) (by omega)]
        simp only [Option.bind_some]
        rw [ifp_pos (by omega)]
      · rw [Int.tmod_eq_emod_of_nonneg (by omega)]; exact Int.emod_nonneg _ (by omega)
      · rw [Int.tmod_eq_emod_of_nonneg (by omega)]; exact Int.emod_lt_of_pos _ (by omega)
theorem pick_is {s : Src} (h : SrcOk s) {l : List Int} (h0 : l ≠ []) (hl : l.length ≤ 1000) : ∃ (r : Int) (s' : Src), spec_l01Pick_of_src s l = some (r, s') ∧ SrcOk s' ∧ r ∈ l := by
  have hp : 1 ≤ l.length := by
    cases l with
    | nil => exact absurd rfl h0
    | cons _ _ => simp
  obtain ⟨r, s', h1, h2, h3, h4, _⟩ := next_is h (n := (l.length : Int)) (by omega)
  have h5 := h4 (by omega)
  refine ⟨rd l r.toNat, s', ?_, h2, ?_⟩
  · simp only [spec_l01Pick_of_src, h1, Option.bind_some]
    rw [ifp_pos (by omega)]
  · have : r.toNat < l.length := by omega
    simp [rd, this]
end Go.Proofs.Ytkbnegemdlnncaa
/- The source of a code. -/
namespace Go.Proofs.Ytkbnegemdlnncaa
open Go.Abs
theorem from_step {c : List Int} (hl : c.length ≤ 4096) {i : Nat} (hi : i < c.length) (s : Src) : ∃ W, spec_l01From_l1 c (i : Int) s = some (.inl (((i + 1 : Nat) : Int), (s.1, s.2.1, W))) := by
  have h1 : decide ((i : Int) < (c.length : Int)) = true := decide_eq_true (by omega)
  have h2 : decide ((i : Int) < 4096) = true := decide_eq_true (by omega)
  have h3 : IntKind.i64.wrap ((i : Int) + 1) = ((i + 1 : Nat) : Int) := by rw [wrap64 (by omega) (by omega)]; rfl
  have h4 : 0 ≤ (i : Int) ∧ (i : Int) < ((c.length : Nat) : Int) := by omega
  simp only [spec_l01From_l1, letp, h1, h2, h3, Option.bind_some, if_true]
  rw [ifp_pos h4]
  exact ⟨_, rfl⟩
theorem from_stop {c : List Int} (s : Src) : spec_l01From_l1 c (c.length : Int) s = some (.inr s) := by
  have h1 : decide ((c.length : Int) < (c.length : Int)) = false := decide_eq_false (by omega)
  simp only [spec_l01From_l1, h1, Bool.false_eq_true, if_false, Option.bind_some]
theorem from_loop {c : List Int} (hl : c.length ≤ 4096) (y : Int) : ∃ W, loopM (fun s : Int × Src => spec_l01From_l1 c s.1 s.2) (0, (c, (0 : Int), y)) = some (c, (0 : Int), W) := by
  obtain ⟨s, h1, h2⟩ := loopM_for (body := fun s : Int × Src => spec_l01From_l1 c s.1 s.2) (fun i s => ((i : Int), s)) (fun s => s) c.length
    (fun _ s => s.1 = c ∧ s.2.1 = 0) (fun i s hi hI => by
      obtain ⟨W, hW⟩ := from_step hl hi s
      exact ⟨_, hW, hI⟩) (fun s _ => from_stop s) c.length 0 (c, 0, y) (by omega) ⟨rfl, rfl⟩
  obtain ⟨a, b, W⟩ := s
  obtain ⟨rfl, rfl⟩ : a = c ∧ b = 0 := h2
  exact ⟨W, h1⟩
theorem from_is {c : List Int} (hl : c.length ≤ 4096) (hb : ∀ x ∈ c, 0 ≤ x ∧ x < 256) : ∃ s, spec_l01From c = some s ∧ SrcOk s := by
  have key : ∀ y : Int, ∃ s : Src, (Option.bind (loopM (fun s : Int × Src => spec_l01From_l1 c s.1 s.2) (0, (c, (0 : Int), y))) fun x66 => some x66) = some s ∧ SrcOk s := fun y => by
    obtain ⟨W, hW⟩ := from_loop hl y
    exact ⟨(c, 0, W), by rw [hW, Option.bind_some], ⟨hl, hb, ⟨Int.le_refl 0, show (0 : Int) ≤ 4096 by omega⟩⟩⟩
  exact key _
theorem near_is {s : Src} (h : SrcOk s) {n : Int} (h0 : 0 ≤ n) (hn : n ≤ 1000000000000) : ∃ (r : Int) (s' : Src), spec_l01Near_of_src s n = some (r, s') ∧ SrcOk s' := by
  obtain ⟨r, s1, h1, h2, _⟩ := next_is h (n := 14) (by omega)
  have ew : IntKind.i64.wrap (n + 1) = n + 1 := wrap64 (by omega) (by omega)
  simp only [spec_l01Near_of_src, h1, Option.bind_some, ew]
  by_cases hr : r = 0
  · obtain ⟨r', s2, h3, h4, _⟩ := pick_is h2 (l := [-1, n + 1, 1099511627776, -4611686018427387904]) (by simp) (by simp)
    rw [if_pos (by rw [hr]; rfl)]
    exact ⟨r', s2, by rw [h3, Option.bind_some], h4⟩
  · obtain ⟨r', s2, h3, h4, _⟩ := next_is h2 (n := n + 1) (by omega)
    rw [if_neg (by rw [beq_iff_eq]; exact hr)]
    exact ⟨r', s2, by rw [h3, Option.bind_some], h4⟩
end Go.Proofs.Ytkbnegemdlnncaa
/- The draws of brackets and factorials. -/
namespace Go.Proofs.Ytkbnegemdlnncaa
open Go.Abs
theorem drawBracket_is {c : List Int} (hl : c.length ≤ 4096) (hb : ∀ x ∈ c, 0 ≤ x ∧ x < 256) : ∃ r, spec_DrawBracketOf c = some r := by
  obtain ⟨s, h1, h2⟩ := from_is hl hb
  obtain ⟨a, s1, h3, h4, _⟩ := pick_is h2 (l := [2, 3, 5, 7, 2, 4]) (by simp) (by simp)
  obtain ⟨b, s2, h5, h6, _⟩ := next_is h4 (n := 8) (by omega)
  exact ⟨(a, b), by simp only [spec_DrawBracketOf, h1, h3, h5, Option.bind_some]⟩
theorem drawCarlitz_is {c : List Int} (hl : c.length ≤ 4096) (hb : ∀ x ∈ c, 0 ≤ x ∧ x < 256) : ∃ r, spec_DrawCarlitzFactorial c = some r := by
  obtain ⟨s, h1, h2⟩ := from_is hl hb
  obtain ⟨a, s1, h3, h4, _⟩ := pick_is h2 (l := [2, 3, 5, 7, 4]) (by simp) (by simp)
  obtain ⟨b, s2, h5, h6, _⟩ := next_is h4 (n := 10) (by omega)
  obtain ⟨d, s3, h7, h8, _⟩ := next_is h6 (n := 30) (by omega)
  obtain ⟨e, s4, h9, h10⟩ := near_is h8 (n := 1000) (by omega) (by omega)
  obtain ⟨f, s5, h11, h12, _⟩ := pick_is h10 (l := [b, d, e]) (by simp) (by simp)
  exact ⟨(a, f), by simp only [spec_DrawCarlitzFactorial, h1, h3, h5, h7, h9, h11, Option.bind_some]⟩
end Go.Proofs.Ytkbnegemdlnncaa
/- What both sides return: FnExactFirstFactorial. -/
namespace Go.Proofs.Ytkbnegemdlnncaa
open Go.Abs

theorem firstFactorial_key (p i : Int) : ∃ r, spec_FirstFactorial p i = some r ∧ impl_FirstFactorial p i = some r := by
    unfold spec_FirstFactorial impl_FirstFactorial
    rw [range_spec, range_impl]
    simp only [Option.bind_some]
    cases hp : isP p with
    | false => exact ⟨_, by simp; rfl, by simp⟩
    | true =>
      have hp2 := isP_pos hp
      obtain ⟨q, rfl⟩ : ∃ q : Nat, p = q := ⟨p.toNat, by omega⟩
      by_cases h1 : 0 ≤ i ∧ i ≤ 6
      · obtain ⟨n, rfl⟩ : ∃ n : Nat, i = n := ⟨i.toNat, by omega⟩
        have hn := small_pow (show 2 ≤ q ∧ q ≤ 7 by omega) (show n ≤ 6 by omega)
        have hs := factorial_is hp hn false
        have hi := productL_is hp hn false
        simp only [h1, and_self, if_true, bne_self_eq_false, Bool.false_eq_true, if_false, hs, first_is (show 2 ≤ q ∧ q ≤ 7 by omega) hn, hi, Option.bind_some]
        cases fac q (facL q n false) n with
        | none => exact ⟨_, by simp; rfl, by simp⟩
        | some o => exact ⟨_, by simp; rfl, by simp⟩
      · exact ⟨_, by simp [h1]; rfl, by simp [h1]⟩
end Go.Proofs.Ytkbnegemdlnncaa
/- What both sides return: FnExactSecondFactorial. -/
namespace Go.Proofs.Ytkbnegemdlnncaa
open Go.Abs

theorem secondFactorial_key (p i : Int) : ∃ r, spec_SecondFactorial p i = some r ∧ impl_SecondFactorial p i = some r := by
    unfold spec_SecondFactorial impl_SecondFactorial
    rw [range_spec, range_impl]
    simp only [Option.bind_some]
    cases hp : isP p with
    | false => exact ⟨_, by simp; rfl, by simp⟩
    | true =>
      have hp2 := isP_pos hp
      obtain ⟨q, rfl⟩ : ∃ q : Nat, p = q := ⟨p.toNat, by omega⟩
      by_cases h1 : 0 ≤ i ∧ i ≤ 6
      · obtain ⟨n, rfl⟩ : ∃ n : Nat, i = n := ⟨i.toNat, by omega⟩
        have hn := small_pow (show 2 ≤ q ∧ q ≤ 7 by omega) (show n ≤ 6 by omega)
        have hs := factorial_is hp hn true
        have hi := productL_is hp hn true
        simp only [h1, and_self, if_true, bne_self_eq_false, Bool.false_eq_true, if_false, hs, second_is (show 2 ≤ q ∧ q ≤ 7 by omega) hn, hi, Option.bind_some]
        cases fac q (facL q n true) n with
        | none => exact ⟨_, by simp; rfl, by simp⟩
        | some o => exact ⟨_, by simp; rfl, by simp⟩
      · exact ⟨_, by simp [h1]; rfl, by simp [h1]⟩
end Go.Proofs.Ytkbnegemdlnncaa
/- FnFactorials. -/
namespace Go.Proofs.Ytkbnegemdlnncaa
open Go.Abs
variable {P : Pri}
theorem lawsBig_is (c : List Int) : laws_big c = some (decide ((c.length : Int) > 4096)) := rfl
theorem fac_up (i : Nat) : facP P false (i + 1) = brkP P (i + 1) 0 * pw (facP P false i) P.n := fpD_up i i
theorem fac_up2 (i : Nat) : facP P true (i + 1) = brkP P (i + 1) 0 * facP P true i := by
  have e : facP P true (i + 1) = fpj P (i + 1) true i * brkP P (i + 1) 0 := rfl
  rw [e, fpL_same, ppring.mul_comm]; rfl
theorem dv_le {a b c : PP P} (h : a = b * c) (ha : a ≠ 0) : b.len ≤ a.len ∧ c.len ≤ a.len :=
  ⟨dv_len ⟨c, by rw [h, ppring.mul_comm]⟩ ha, dv_len ⟨b, h⟩ ha⟩
theorem pow_loop {p i : Nat} (hp : 2 ≤ p ∧ p ≤ 7) (hi : i ≤ 6) : loopM (fun s : Int × Int => laws_FnFactorials_l1 ((p : Int), (i : Int)) s.1 s.2) (1, 0) = some ((p ^ i : Nat) : Int) := by
  obtain ⟨s, h1, h2⟩ := loopM_for (body := fun s : Int × Int => laws_FnFactorials_l1 ((p : Int), (i : Int)) s.1 s.2) (fun j s => (s, (j : Int))) (fun s => s) i
    (fun j s => s = ((p ^ j : Nat) : Int)) (fun j s hj hI => by
      subst hI
      have hs := small_pow hp (show j ≤ 6 by omega)
      have hs1 := small_pow hp (show j + 1 ≤ 6 by omega)
      have e : ((p ^ j : Nat) : Int) * (p : Int) = ((p ^ (j + 1) : Nat) : Int) := by rw [Nat.pow_succ, Int.natCast_mul]
      refine ⟨_, ?_, rfl⟩
      simp only [laws_FnFactorials_l1, e]
      rw [if_pos (decide_eq_true (by omega)), wrap64 (n := ((p ^ (j + 1) : Nat) : Int)) (by omega) (by omega), wrap64 (by omega) (by omega)]
      rfl) (fun s hI => by
      simp only [laws_FnFactorials_l1]
      rw [if_neg (by rw [decide_eq_true_eq]; omega)]) i 0 1 (by omega) (by rw [Nat.pow_zero]; rfl)
  have h1' : loopM (fun s : Int × Int => laws_FnFactorials_l1 ((p : Int), (i : Int)) s.1 s.2) (1, 0) = some s := h1
  rw [h1', h2]
theorem first_part {b : Int × Int} {rb rf : V64 × Int} (hb : impl_BracketOf b.1 b.2 = some rb) (hf : impl_FirstFactorial b.1 b.2 = some rf) (hi : ¬ b.2 < 1) (h0 : rf.2 = 0) :
    ∃ r1 r2 r3 N, impl_FirstFactorial b.1 (IntKind.i64.wrap (b.2 - 1)) = some r1 ∧ impl_PowerOf b.1 r1.1 b.1 = some r2 ∧ impl_MultiplyPolys b.1 rb.1 r2.1 = some r3 ∧ rb.2 = 0 ∧ r1.2 = 0 ∧ r2.2 = 0 ∧ r3.2 = 0 ∧ r3.1 = rf.1 ∧
      loopM (fun s : Int × Int => laws_FnFactorials_l1 b s.1 s.2) (1, 0) = some N ∧ (N ≤ 1000 → ∃ r4, impl_CarlitzFactorial b.1 N = some r4 ∧ r4.2 = 0 ∧ r4.1 = rf.1) := by
  obtain ⟨p, i⟩ := b
  obtain ⟨P, n, rfl, rfl, h6, hl, rfl⟩ := fac_get (second := false) (fun P i hi => firstO hi) first_no hf h0
  simp only at hi hb
  obtain ⟨m, rfl⟩ : ∃ m, n = m + 1 := ⟨n - 1, by omega⟩
  have hup := fac_up (P := P) m
  have hne := facP_ne (P := P) false (m + 1)
  obtain ⟨l1, l2⟩ := dv_le hup hne
  have hpn : pw (facP P false m) P.n ≠ 0 := pwO_ne (facP_ne false m) _
  have l3 : (facP P false m).len ≤ 64 := by
    refine Nat.le_trans (dv_len (facP_dv false (show m ≤ m + 1 by omega)) hne) hl
  have ew : IntKind.i64.wrap (((m + 1 : Nat) : Int) - 1) = (m : Int) := by rw [wrap64 (by omega) (by omega)]; omega
  have eb := bracketI (P := P) (i := m + 1) (Nat.le_add_left 1 m) h6
  rw [if_pos (Nat.le_trans l1 hl)] at eb
  rw [eb] at hb
  obtain rfl := Option.some.inj hb
  have e1 := firstO (P := P) (i := m) (Nat.le_of_succ_le h6)
  rw [if_pos l3] at e1
  have hq := P.q
  have e2 : impl_PowerOf P.p (pad (facP P false m).1) P.p = _ := powO (P := P) (a := facP P false m) l3 (k := P.n) (Nat.le_trans hq.2 (by decide))
  rw [if_pos (Nat.le_trans l2 hl)] at e2
  have e3 := mulO (P := P) (a := brkP P (m + 1) 0) (b := pw (facP P false m) P.n) (Nat.le_trans l1 hl) (Nat.le_trans l2 hl)
  rw [← hup, if_pos hl] at e3
  refine ⟨(pad (facP P false m).1, 0), (pad (pw (facP P false m) P.n).1, 0), (pad (facP P false (m + 1)).1, 0), ((P.n ^ (m + 1) : Nat) : Int), by rw [ew]; exact e1, e2, e3, rfl, rfl, rfl, rfl, rfl, pow_loop hq h6, fun hN => ?_⟩
  have e4 := carlO (P := P) (i := m + 1) h6 (by omega)
  rw [if_pos hl] at e4
  exact ⟨(pad (facP P false (m + 1)).1, 0), e4, rfl, rfl⟩
theorem second_part {b : Int × Int} {rb rs : V64 × Int} (hb : impl_BracketOf b.1 b.2 = some rb) (hs : impl_SecondFactorial b.1 b.2 = some rs) (hi : ¬ b.2 < 1) (h0 : rs.2 = 0) :
    ∃ r1 r2, impl_SecondFactorial b.1 (IntKind.i64.wrap (b.2 - 1)) = some r1 ∧ impl_MultiplyPolys b.1 rb.1 r1.1 = some r2 ∧ rb.2 = 0 ∧ r1.2 = 0 ∧ r2.2 = 0 ∧ r2.1 = rs.1 := by
  obtain ⟨p, i⟩ := b
  obtain ⟨P, n, rfl, rfl, h6, hl, rfl⟩ := fac_get (second := true) (fun P i hi => secondO hi) second_no hs h0
  simp only at hi hb
  obtain ⟨m, rfl⟩ : ∃ m, n = m + 1 := ⟨n - 1, by omega⟩
  have hup := fac_up2 (P := P) m
  have hne := facP_ne (P := P) true (m + 1)
  obtain ⟨l1, l3⟩ := dv_le hup hne
  have ew : IntKind.i64.wrap (((m + 1 : Nat) : Int) - 1) = (m : Int) := by rw [wrap64 (by omega) (by omega)]; omega
  have eb := bracketI (P := P) (i := m + 1) (Nat.le_add_left 1 m) h6
  rw [if_pos (Nat.le_trans l1 hl)] at eb
  rw [eb] at hb
  obtain rfl := Option.some.inj hb
  have e1 := secondO (P := P) (i := m) (Nat.le_of_succ_le h6)
  rw [if_pos (Nat.le_trans l3 hl)] at e1
  have e3 := mulO (P := P) (a := brkP P (m + 1) 0) (b := facP P true m) (Nat.le_trans l1 hl) (Nat.le_trans l3 hl)
  rw [← hup, if_pos hl] at e3
  exact ⟨(pad (facP P true m).1, 0), (pad (facP P true (m + 1)).1, 0), by rw [ew]; exact e1, e3, rfl, rfl, rfl, rfl⟩
theorem fnFactorials_law (c : List Int) (hb : ∀ x ∈ c, 0 ≤ x ∧ x < 256) (_ : c.length ≤ maxLen) : laws_FnFactorials c = some true := by
  by_cases hbig : (c.length : Int) > 4096
  · simp only [laws_FnFactorials, lawsBig_is, decide_eq_true hbig, Option.bind_some, if_true]
  · have hl : c.length ≤ 4096 := by omega
    obtain ⟨b, e1⟩ := drawBracket_is hl hb
    obtain ⟨q, e2⟩ := drawCarlitz_is hl hb
    obtain ⟨rb, b1, b2⟩ := bracket_key b.1 b.2
    obtain ⟨rf, f1, f2⟩ := firstFactorial_key b.1 b.2
    obtain ⟨rs, s1, s2⟩ := secondFactorial_key b.1 b.2
    obtain ⟨rc, c1, c2⟩ := carlitz_key q.1 q.2
    simp only [laws_FnFactorials, lawsBig_is, decide_eq_false hbig, e1, e2, b1, b2, f1, f2, s1, s2, c1, c2, Option.bind_some, bne_self_eq_false, Bool.false_eq_true, if_false, decide_true, Bool.not_true]
    by_cases hi : b.2 < 1
    · simp only [decide_eq_true hi, if_true]
    · simp only [decide_eq_false hi, Bool.false_eq_true, if_false]
      have F := first_part b2 f2 hi
      have S := second_part b2 s2 hi
      have hS : ∀ (z : Option (Unit ⊕ Bool)) , z = some (.inl ()) → (Option.bind z fun z => match z with
        | .inl _ => some true
        | .inr r => some r) = some true := fun z hz => by rw [hz]; rfl
      have second : (if (rs.2 == 0) = true then (Option.bind (impl_SecondFactorial b.1 (IntKind.i64.wrap (b.2 - 1))) fun r242 => (Option.bind (impl_MultiplyPolys b.1 rb.1 r242.1) fun r247 => (Option.bind (α := Bool) ((if (rb.2 != 0) then (some true) else (if (r242.2 != 0) then (some true) else (if (r247.2 != 0) then (some true) else (some ((!decide (r247.1 = rs.1)))))))) fun x255 => (if x255 then (some (Sum.inr false)) else (some ((Sum.inl ()))))))) else (some ((Sum.inl ()))) : Option (Unit ⊕ Bool)) = some (.inl ()) := by
        by_cases h0 : rs.2 = 0
        · obtain ⟨r1, r2, g1, g2, g3, g4, g5, g6⟩ := S h0
          simp only [h0, beq_self_eq_true, if_true, g1, g2, g3, g4, g5, g6, Option.bind_some, bne_self_eq_false, Bool.false_eq_true, if_false, decide_true, Bool.not_true]
        · rw [if_neg (by rw [beq_iff_eq]; exact h0)]
      by_cases h0 : rf.2 = 0
      · obtain ⟨r1, r2, r3, N, g1, g2, g3, g4, g5, g6, g7, g8, g9, g10⟩ := F h0
        simp only [h0, beq_self_eq_true, if_true, g1, g2, g3, g5, g6, g7, g8, g9, Option.bind_some, bne_self_eq_false, Bool.false_eq_true, if_false, decide_true, Bool.not_true]
        rw [g4] at second ⊢
        simp only [bne_self_eq_false, Bool.false_eq_true, if_false] at second ⊢
        by_cases hN : N ≤ 1000
        · obtain ⟨r4, k1, k2, k3⟩ := g10 hN
          simp only [decide_eq_true hN, if_true, k1, k2, k3, Option.bind_some, bne_self_eq_false, Bool.false_eq_true, if_false, decide_true, Bool.not_true, second]
        · simp only [decide_eq_false hN, Bool.false_eq_true, if_false, Option.bind_some, second]
      · rw [if_neg (show ¬ (rf.2 == 0) = true by rw [beq_iff_eq]; exact h0)]
        simp only [Option.bind_some]
        exact hS _ second
end Go.Proofs.Ytkbnegemdlnncaa
