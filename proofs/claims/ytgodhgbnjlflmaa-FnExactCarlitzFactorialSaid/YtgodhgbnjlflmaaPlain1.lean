/- Own texts, put together. -/
import Derived.Test.YtgodhgbnjlflmaaAbsX
import Derived.Test.YtgodhgbnjlflmaaFn1
import Derived.Test.YtgodhgbnjlflmaaFn2
import Derived.Test.YtgodhgbnjlflmaaFn3
import Derived.Test.YtgodhgbnjlflmaaFn4
import Derived.Test.YtgodhgbnjlflmaaFn5
/- Plain facts on loops and wraps. -/
namespace Go.Abs

/-- A loop with a measure ends, and what it leaves. -/
theorem loopM_ind {α β : Type} {body : α → Option (α ⊕ β)} (I : α → Prop) (Post : α → β → Prop) (m : α → Nat)
    (step : ∀ s, I s → (∃ s', body s = some (.inl s') ∧ I s' ∧ m s' < m s ∧ ∀ r, Post s' r → Post s r) ∨ ∃ r, body s = some (.inr r) ∧ Post s r) :
    ∀ s, I s → ∃ r, loopM body s = some r ∧ Post s r := by
  have key : ∀ n s, m s ≤ n → I s → ∃ r, loopM body s = some r ∧ Post s r := by
    intro n
    induction n with
    | zero =>
      intro s hn hs
      rcases step s hs with ⟨s', h1, h2, h3, h4⟩ | ⟨r, h1, h2⟩
      · omega
      · exact ⟨r, by rw [loopM_eq, h1]; rfl, h2⟩
    | succ n ih =>
      intro s hn hs
      rcases step s hs with ⟨s', h1, h2, h3, h4⟩ | ⟨r, h1, h2⟩
      · obtain ⟨r, k1, k2⟩ := ih s' (by omega) h2
        exact ⟨r, by rw [loopM_eq, h1]; exact k1, h4 r k2⟩
      · exact ⟨r, by rw [loopM_eq, h1]; rfl, h2⟩
  exact fun s hs => key (m s) s (Nat.le_refl _) hs

theorem wrap64 {n : Int} (h1 : -9223372036854775808 ≤ n) (h2 : n < 9223372036854775808) : IntKind.i64.wrap n = n := by
  simp only [IntKind.wrap, IntKind.signed, IntKind.bits]
  simp
  omega
theorem wrap8 {n : Int} (h1 : 0 ≤ n) (h2 : n < 256) : IntKind.u8.wrap n = n := by
  simp only [IntKind.wrap, IntKind.signed, IntKind.bits]
  simp
  omega

/-- A loop that counts from i to n. -/
theorem loopM_for {α β σ : Type} {body : α → Option (α ⊕ β)} (at' : Nat → σ → α) (out : σ → β) (n : Nat) (I : Nat → σ → Prop)
    (step : ∀ i s, i < n → I i s → ∃ s', body (at' i s) = some (.inl (at' (i + 1) s')) ∧ I (i + 1) s') (stop : ∀ s, I n s → body (at' n s) = some (.inr (out s))) :
    ∀ (m i : Nat) (s : σ), i + m = n → I i s → ∃ s', loopM body (at' i s) = some (out s') ∧ I n s'
  | 0, i, s, h, hI => by
    have : i = n := by omega
    subst this
    exact ⟨s, by rw [loopM_eq, stop s hI]; rfl, hI⟩
  | m + 1, i, s, h, hI => by
    obtain ⟨s', h1, h2⟩ := step i s (by omega) hI
    obtain ⟨s'', h3, h4⟩ := loopM_for at' out n I step stop m (i + 1) s' (by omega) h2
    exact ⟨s'', by rw [loopM_eq, h1]; exact h3, h4⟩
end Go.Abs
/- Plain facts on arrays of 64 numbers. -/
namespace Go.Abs

abbrev V64 := Vec Int 64
def pad (l : List Int) : V64 := ⟨(List.range 64).map fun j => l.getD j 0, by simp⟩

theorem pad_rd (l : List Int) {j : Nat} (h : j < 64) : rd (pad l).1 j = l.getD j 0 := by
  simp [rd, pad, h]
theorem vec_ext {n : Nat} {a b : Vec Int n} (h : ∀ j, j < n → rd a.1 j = rd b.1 j) : a = b := by
  apply Subtype.ext
  apply List.ext_getElem
  · rw [a.2, b.2]
  · intro j h1 h2
    have := h j (by rw [a.2] at h1; exact h1)
    simpa [rd, h1, h2] using this
theorem rd_vset {n : Nat} (a : Vec Int n) (i j : Nat) (d : Int) (hi : i < n) : rd (vset a i d).1 j = if j = i then d else rd a.1 j := by
  have hl : i < a.1.length := by rw [a.2]; exact hi
  by_cases h : j = i
  · subst h; simp [rd, vset, hl]
  · rw [if_neg h]
    simp [rd, vset, Ne.symm h]
theorem rd_vrep {n : Nat} (j : Nat) (h : j < n) : rd (vrep n (0 : Int)).1 j = 0 := by
  simp [rd, vrep, h]
theorem pad_nil : pad [] = vrep 64 0 := vec_ext fun j h => by rw [pad_rd _ h, rd_vrep _ h]; simp
theorem pad_set (l : List Int) (d : Int) (h : l.length < 64) : vset (pad l) l.length d = pad (l ++ [d]) := by
  refine vec_ext fun j hj => ?_
  rw [rd_vset _ _ _ _ h, pad_rd _ hj, pad_rd _ hj]
  by_cases e : j = l.length
  · subst e; simp
  · rw [if_neg e]
    rcases Nat.lt_or_ge j l.length with h1 | h1
    · simp [h1, List.getElem?_append]
    · have h2 : l.length < j := by omega
      have h3 : (l ++ [d]).length ≤ j := by simp; omega
      rw [List.getD_eq_getElem?_getD, List.getD_eq_getElem?_getD, List.getElem?_eq_none h1, List.getElem?_eq_none h3]

theorem getD_app (l k : List Int) (j : Nat) : (l ++ k).getD j 0 = if j < l.length then l.getD j 0 else k.getD (j - l.length) 0 := by
  simp only [List.getD_eq_getElem?_getD, List.getElem?_append]
  split <;> rfl

/-- Bytes. -/
def Bytes (l : List Int) : Prop := ∀ d ∈ l, 0 ≤ d ∧ d < 256
theorem getD_byte {l : List Int} (h : Bytes l) (j : Nat) : 0 ≤ l.getD j 0 ∧ l.getD j 0 < 256 := by
  rw [List.getD_eq_getElem?_getD]
  cases e : l[j]? with
  | none => simp
  | some d => simp; exact h d (List.mem_of_getElem? e)
end Go.Abs
/- Polynomials: coefficient functions, and rows of coefficients up to the leading one. -/
namespace Go.Abs

/-! How far a row reaches. -/
def top (g : Nat → Int) : Nat → Nat
  | 0 => 0
  | n + 1 => if g n = 0 then top g n else n + 1
theorem top_le (g : Nat → Int) : ∀ n, top g n ≤ n
  | 0 => Nat.le_refl _
  | n + 1 => by simp only [top]; split; exact Nat.le_succ_of_le (top_le g n); exact Nat.le_refl _
theorem top_zero (g : Nat → Int) : ∀ n i, top g n ≤ i → i < n → g i = 0
  | 0, i, _, h => by omega
  | n + 1, i, h1, h2 => by
    simp only [top] at h1
    split at h1
    · rename_i e
      by_cases hi : i = n
      · subst hi; exact e
      · exact top_zero g n i h1 (by omega)
    · omega
theorem top_lead (g : Nat → Int) : ∀ n, top g n ≠ 0 → g (top g n - 1) ≠ 0
  | 0, h => by simp [top] at h
  | n + 1, h => by
    simp only [top] at h ⊢
    split
    · rename_i e; rw [if_pos e] at h; exact top_lead g n h
    · rename_i e; simpa using e
theorem top_congr {f g : Nat → Int} : ∀ n, (∀ i, i < n → f i = g i) → top f n = top g n
  | 0, _ => rfl
  | n + 1, h => by simp only [top]; rw [h n (by omega), top_congr n fun i hi => h i (by omega)]
/-- The leading place is told by what stands there and behind. -/
theorem top_is {g : Nat → Int} {n k : Nat} (hk : k ≤ n) (hz : ∀ i, k ≤ i → i < n → g i = 0) (hl : k ≠ 0 → g (k - 1) ≠ 0) : top g n = k := by
  rcases Nat.lt_trichotomy (top g n) k with h | h | h
  · have := top_zero g n (k - 1) (by omega) (by omega)
    exact absurd this (hl (by omega))
  · exact h
  · have h1 := top_lead g n (by omega)
    have h2 := top_le g n
    exact absurd (hz (top g n - 1) (by omega) (by omega)) h1
theorem top_more {g : Nat → Int} {n m : Nat} (h : n ≤ m) (hz : ∀ i, n ≤ i → i < m → g i = 0) : top g m = top g n :=
  top_is (Nat.le_trans (top_le g n) h) (fun i h1 h2 => by
    by_cases hi : i < n
    · exact top_zero g n i h1 hi
    · exact hz i (by omega) h2) (top_lead g n)

/-! Reading rows. -/
theorem rd_nil (i : Nat) : rd ([] : List Int) i = 0 := by simp [rd]
theorem rd_lt {l : List Int} {i : Nat} (h : i < l.length) : rd l i = l[i] := by simp [rd, h]
theorem rd_ge {l : List Int} {i : Nat} (h : l.length ≤ i) : rd l i = 0 := by simp [rd, h]
theorem rd_mem {l : List Int} {i : Nat} (h : i < l.length) : rd l i ∈ l := by rw [rd_lt h]; exact List.getElem_mem _
theorem rd_ext {a b : List Int} (hl : a.length = b.length) (h : ∀ i, i < a.length → rd a i = rd b i) : a = b := by
  apply List.ext_getElem hl
  intro i h1 h2
  have := h i h1
  rwa [rd_lt h1, rd_lt h2] at this
theorem rd_take (l : List Int) (k i : Nat) : rd (l.take k) i = if i < k then rd l i else 0 := by
  by_cases h : i < k
  · rw [if_pos h]
    by_cases hl : i < l.length
    · rw [rd_lt (by simp; omega), rd_lt hl]; simp
    · rw [rd_ge (by simp; omega), rd_ge (by omega)]
  · rw [if_neg h, rd_ge (by simp; omega)]
theorem rd_app (a b : List Int) (i : Nat) : rd (a ++ b) i = if i < a.length then rd a i else rd b (i - a.length) := by
  have := getD_app a b i
  exact this
theorem rd_set (l : List Int) (k : Nat) (d : Int) (i : Nat) (hk : k < l.length) : rd (l.set k d) i = if i = k then d else rd l i := by
  by_cases h : i = k
  · subst h; simp [rd, hk]
  · rw [if_neg h]; simp [rd, Ne.symm h]
theorem rd_rep (n i : Nat) : rd (List.replicate n (0 : Int)) i = 0 := by
  by_cases h : i < n
  · rw [rd_lt (by simpa using h)]; simp
  · rw [rd_ge (by simp; omega)]
theorem rd_padl (l : List Int) {j : Nat} (h : j < 64) : rd (pad l).1 j = rd l j := by rw [pad_rd _ h]; rfl
theorem rd_map {f : Nat → Int} (n i : Nat) : rd ((List.range n).map f) i = if i < n then f i else 0 := by
  by_cases h : i < n
  · rw [if_pos h, rd_lt (by simpa using h)]; simp
  · rw [if_neg h, rd_ge (by simp; omega)]

/-! Rows of functions. -/
def ofF (n : Nat) (f : Nat → Int) : List Int := (List.range (top f n)).map f
theorem ofF_len (n : Nat) (f : Nat → Int) : (ofF n f).length = top f n := by simp [ofF]
theorem rd_ofF {n : Nat} {f : Nat → Int} (hz : ∀ i, n ≤ i → f i = 0) (i : Nat) : rd (ofF n f) i = f i := by
  rw [ofF, rd_map]
  split
  · rfl
  · by_cases h : i < n
    · exact (top_zero f n i (by omega) h).symm
    · exact (hz i (by omega)).symm
theorem rd_ofF' {n : Nat} {f : Nat → Int} (i : Nat) : rd (ofF n f) i = if i < n then f i else 0 := by
  rw [ofF, rd_map]
  have := top_le f n
  by_cases h : i < n
  · rw [if_pos h]
    split
    · rfl
    · exact (top_zero f n i (by omega) h).symm
  · rw [if_neg h, if_neg (by omega)]
theorem ofF_congr {n : Nat} {f g : Nat → Int} (h : ∀ i, i < n → f i = g i) : ofF n f = ofF n g := by
  have e := top_congr n h
  have := top_le g n
  refine rd_ext (by rw [ofF_len, ofF_len, e]) fun i hi => ?_
  rw [rd_ofF', rd_ofF']
  split
  · exact h i (by assumption)
  · rfl
theorem ofF_more {n m : Nat} {f : Nat → Int} (h : n ≤ m) (hz : ∀ i, n ≤ i → i < m → f i = 0) : ofF m f = ofF n f := by
  simp only [ofF, top_more h hz]
/-- A list without the zeros at its end. -/
theorem trim_eq (l : List Int) : l.take (top (rd l) l.length) = ofF l.length (rd l) := by
  have := top_le (rd l) l.length
  refine rd_ext (by rw [ofF_len]; simp; omega) fun i hi => ?_
  rw [rd_take, rd_ofF']
  simp at hi
  rw [if_pos (by omega), if_pos (by omega)]

/-- The coefficients of a polynomial modulo p, up to the leading one. -/
structure Row (p : Int) (l : List Int) : Prop where
  res : ∀ d ∈ l, 0 ≤ d ∧ d < p
  nrm : l.length ≠ 0 → rd l (l.length - 1) ≠ 0
theorem Row.rd {p : Int} {l : List Int} (h : Row p l) (hp : 0 < p) (i : Nat) : 0 ≤ rd l i ∧ rd l i < p := by
  by_cases hi : i < l.length
  · exact h.res _ (rd_mem hi)
  · rw [rd_ge (by omega)]; exact ⟨Int.le_refl _, hp⟩
theorem Row.bytes {p : Int} {l : List Int} (h : Row p l) (hp : p ≤ 256) : Bytes l := fun d hd => by have := h.res d hd; omega
theorem row_nil (p : Int) : Row p [] := ⟨by simp, by simp⟩
theorem row_ext {p q : Int} {a b : List Int} (ha : Row p a) (hb : Row q b) (h : ∀ i, rd a i = rd b i) : a = b := by
  have hl : a.length = b.length := by
    rcases Nat.lt_trichotomy a.length b.length with h1 | h1 | h1
    · have := hb.nrm (by omega)
      rw [← h, rd_ge (by omega)] at this
      exact absurd rfl this
    · exact h1
    · have := ha.nrm (by omega)
      rw [h, rd_ge (by omega)] at this
      exact absurd rfl this
  exact rd_ext hl fun i _ => h i
theorem row_ofF {p : Int} {n : Nat} {f : Nat → Int} (h : ∀ i, i < n → 0 ≤ f i ∧ f i < p) : Row p (ofF n f) := by
  have hle := top_le f n
  refine ⟨fun d hd => ?_, fun hn => ?_⟩
  · simp only [ofF, List.mem_map, List.mem_range] at hd
    obtain ⟨i, hi, rfl⟩ := hd
    exact h i (by omega)
  · rw [ofF_len] at hn ⊢
    rw [rd_ofF', if_pos (by omega)]
    exact top_lead f n hn
theorem Row.top {p : Int} {l : List Int} (h : Row p l) {n : Nat} (hn : l.length ≤ n) : top (Abs.rd l) n = l.length :=
  top_is hn (fun i h1 _ => rd_ge h1) h.nrm
theorem Row.ofF {p : Int} {l : List Int} (h : Row p l) {n : Nat} (hn : l.length ≤ n) : ofF n (Abs.rd l) = l := by
  refine rd_ext (by rw [ofF_len, h.top hn]) fun i hi => ?_
  rw [rd_ofF fun i hi => rd_ge (by omega)]
theorem Row.trim {p : Int} {l : List Int} (h : Row p l) : l.take (Abs.top (Abs.rd l) l.length) = l := by
  rw [trim_eq, h.ofF (Nat.le_refl _)]

/-! Arrays and rows. -/
def row (v : V64) : List Int := ofF 64 (rd v.1)
/-- Coefficients from 0 to p - 1. -/
def Res (p : Int) (v : V64) : Prop := ∀ j, j < 64 → 0 ≤ rd v.1 j ∧ rd v.1 j < p
theorem row_row {p : Int} {v : V64} (h : Res p v) : Row p (row v) := row_ofF h
theorem row_len (v : V64) : (row v).length ≤ 64 := by rw [row, ofF_len]; exact top_le _ _
theorem pad_row (v : V64) : pad (row v) = v := vec_ext fun j hj => by rw [rd_padl _ hj, row, rd_ofF', if_pos hj]
theorem row_pad {p : Int} {l : List Int} (h : Row p l) (hl : l.length ≤ 64) : row (pad l) = l := by
  rw [row, ofF_congr (g := rd l) fun i hi => rd_padl l hi, h.ofF hl]
theorem res_pad {p : Int} {l : List Int} (h : Row p l) (hp : 0 < p) : Res p (pad l) := fun j hj => by rw [rd_padl _ hj]; exact h.rd hp j
theorem pad_inj {p q : Int} {a b : List Int} (ha : Row p a) (hb : Row q b) (h1 : a.length ≤ 64) (h2 : b.length ≤ 64) (h : pad a = pad b) : a = b := by
  rw [← row_pad ha h1, ← row_pad hb h2, h]

/-! Sums and products of coefficient functions. -/
def sumTo : Nat → (Nat → Int) → Int
  | 0, _ => 0
  | n + 1, f => sumTo n f + f n
theorem sumTo_congr {f g : Nat → Int} : ∀ n, (∀ i, i < n → f i = g i) → sumTo n f = sumTo n g
  | 0, _ => rfl
  | n + 1, h => by simp only [sumTo]; rw [sumTo_congr n fun i hi => h i (by omega), h n (by omega)]
theorem sumTo_zero {f : Nat → Int} : ∀ n, (∀ i, i < n → f i = 0) → sumTo n f = 0
  | 0, _ => rfl
  | n + 1, h => by simp only [sumTo]; rw [sumTo_zero n fun i hi => h i (by omega), h n (by omega)]; rfl
theorem sumTo_more {f : Nat → Int} {n : Nat} : ∀ m, (∀ i, n ≤ i → i < n + m → f i = 0) → sumTo (n + m) f = sumTo n f
  | 0, _ => rfl
  | m + 1, h => by
    rw [← Nat.add_assoc]
    simp only [sumTo]
    rw [sumTo_more m fun i h1 h2 => h i h1 (by omega), h (n + m) (by omega) (by omega), Int.add_zero]
/-- The summand that the first n coefficients give to a product. -/
def cv (a b : Nat → Int) (n k : Nat) : Int := sumTo n fun i => if i ≤ k then a i * b (k - i) else 0
theorem cv_succ (a b : Nat → Int) (n k : Nat) : cv a b (n + 1) k = cv a b n k + (if n ≤ k then a n * b (k - n) else 0) := rfl
def conv (a b : Nat → Int) (k : Nat) : Int := cv a b (k + 1) k
theorem cv_conv {a b : Nat → Int} {n : Nat} (hz : ∀ i, n ≤ i → a i = 0) (k : Nat) : cv a b n k = conv a b k := by
  unfold conv cv
  rcases Nat.le_total n (k + 1) with h | h
  · obtain ⟨m, e⟩ : ∃ m, k + 1 = n + m := ⟨k + 1 - n, by omega⟩
    rw [e]
    refine (sumTo_more m fun i h1 h2 => ?_).symm
    rw [hz i h1]; simp
  · obtain ⟨m, rfl⟩ : ∃ m, n = k + 1 + m := ⟨n - (k + 1), by omega⟩
    exact sumTo_more m fun i h1 h2 => if_neg (by omega)
theorem conv_zero {a b : Nat → Int} {n m : Nat} (ha : ∀ i, n ≤ i → a i = 0) (hb : ∀ i, m ≤ i → b i = 0) {k : Nat} (hk : n + m ≤ k + 1) : conv a b k = 0 := by
  refine sumTo_zero _ fun i hi => ?_
  rw [if_pos (by omega)]
  by_cases h : i < n
  · rw [hb (k - i) (by omega), Int.mul_zero]
  · rw [ha i (by omega), Int.zero_mul]
/-- The leading coefficient of a product. -/
theorem conv_lead {a b : Nat → Int} {n m : Nat} (ha : ∀ i, n < i → a i = 0) (hb : ∀ i, m < i → b i = 0) : conv a b (n + m) = a n * b m := by
  have h1 : conv a b (n + m) = cv a b (n + 1) (n + m) := (cv_conv (fun i hi => ha i (by omega)) _).symm
  rw [h1]
  unfold cv
  simp only [sumTo]
  rw [sumTo_zero n fun i hi => ?_, if_pos (by omega), show n + m - n = m by omega, Int.zero_add]
  rw [if_pos (by omega), hb _ (by omega), Int.mul_zero]

/-! Operations on rows. -/
def comb (p : Int) (a b : List Int) (k : Int) : List Int := ofF (max a.length b.length) fun i => (rd a i + k * rd b i) % p
def mul (p : Int) (a b : List Int) : List Int := ofF (a.length + b.length - 1) fun i => conv (rd a) (rd b) i % p

theorem emod_res {p : Int} (hp : 0 < p) (x : Int) : 0 ≤ x % p ∧ x % p < p := ⟨Int.emod_nonneg _ (by omega), Int.emod_lt_of_pos _ hp⟩
theorem comb_row {p : Int} (hp : 0 < p) (a b : List Int) (k : Int) : Row p (comb p a b k) := row_ofF fun _ _ => emod_res hp _
theorem mul_row {p : Int} (hp : 0 < p) (a b : List Int) : Row p (mul p a b) := row_ofF fun _ _ => emod_res hp _
theorem comb_rd (p : Int) (a b : List Int) (k : Int) (i : Nat) : rd (comb p a b k) i = (rd a i + k * rd b i) % p := by
  refine rd_ofF (fun i hi => ?_) i
  rw [rd_ge (by omega), rd_ge (by omega)]; simp
theorem mul_rd (p : Int) (a b : List Int) (i : Nat) : rd (mul p a b) i = conv (rd a) (rd b) i % p := by
  refine rd_ofF (fun i hi => ?_) i
  rw [conv_zero (n := a.length) (m := b.length) (fun i hi => rd_ge hi) (fun i hi => rd_ge hi) (by omega)]; simp
theorem comb_len (p : Int) (a b : List Int) (k : Int) : (comb p a b k).length ≤ max a.length b.length := by rw [comb, ofF_len]; exact top_le _ _
theorem mul_len (p : Int) (a b : List Int) : (mul p a b).length ≤ a.length + b.length - 1 := by rw [mul, ofF_len]; exact top_le _ _
theorem mul_nil (p : Int) (b : List Int) : mul p [] b = [] := by
  have h : ∀ i, conv (rd []) (rd b) i = 0 := fun i => sumTo_zero _ fun j _ => by rw [rd_nil]; simp
  have : (mul p [] b).length = 0 := by
    rw [mul, ofF_len]
    exact top_is (Nat.zero_le _) (fun i _ _ => by rw [h]; simp) (by simp)
  exact List.eq_nil_of_length_eq_zero this
theorem mul_nil' (p : Int) (a : List Int) : mul p a [] = [] := by
  have h : ∀ i, conv (rd a) (rd []) i = 0 := fun i => sumTo_zero _ fun j _ => by rw [rd_nil]; simp
  have : (mul p a []).length = 0 := by
    rw [mul, ofF_len]
    exact top_is (Nat.zero_le _) (fun i _ _ => by rw [h]; simp) (by simp)
  exact List.eq_nil_of_length_eq_zero this

/-! Small primes. -/
def isP (p : Int) : Bool := p == 2 || p == 3 || p == 5 || p == 7
theorem isP_iff {p : Int} : isP p = true ↔ p = 2 ∨ p = 3 ∨ p = 5 ∨ p = 7 := by
  simp [isP, or_assoc]
theorem isP_pos {p : Int} (h : isP p = true) : 2 ≤ p ∧ p ≤ 7 := by
  rcases isP_iff.1 h with rfl | rfl | rfl | rfl <;> omega
theorem noz2 : ∀ x y : Fin 2, x ≠ 0 → y ≠ 0 → (x.1 * y.1) % 2 ≠ 0 := by decide
theorem noz3 : ∀ x y : Fin 3, x ≠ 0 → y ≠ 0 → (x.1 * y.1) % 3 ≠ 0 := by decide
theorem noz5 : ∀ x y : Fin 5, x ≠ 0 → y ≠ 0 → (x.1 * y.1) % 5 ≠ 0 := by decide
theorem noz7 : ∀ x y : Fin 7, x ≠ 0 → y ≠ 0 → (x.1 * y.1) % 7 ≠ 0 := by decide
theorem noz_of {n : Nat} (hn : 0 < n) (h : ∀ x y : Fin n, x.1 ≠ 0 → y.1 ≠ 0 → (x.1 * y.1) % n ≠ 0) {x y : Int} (hx : 0 < x ∧ x < n) (hy : 0 < y ∧ y < n) : x * y % n ≠ 0 := by
  obtain ⟨a, rfl⟩ : ∃ a : Nat, x = a := ⟨x.toNat, by omega⟩
  obtain ⟨b, rfl⟩ : ∃ b : Nat, y = b := ⟨y.toNat, by omega⟩
  have := h ⟨a, by omega⟩ ⟨b, by omega⟩ (by simp; omega) (by simp; omega)
  simp only at this
  rw [← Int.natCast_mul, ← Int.natCast_emod]
  omega
theorem noz {p : Int} (hp : isP p = true) {x y : Int} (hx : 0 ≤ x ∧ x < p) (hy : 0 ≤ y ∧ y < p) (h1 : x ≠ 0) (h2 : y ≠ 0) : x * y % p ≠ 0 := by
  rcases isP_iff.1 hp with rfl | rfl | rfl | rfl
  · exact noz_of (n := 2) (by omega) (fun x y a b => noz2 x y (fun e => a (by rw [e]; rfl)) (fun e => b (by rw [e]; rfl))) ⟨by omega, hx.2⟩ ⟨by omega, hy.2⟩
  · exact noz_of (n := 3) (by omega) (fun x y a b => noz3 x y (fun e => a (by rw [e]; rfl)) (fun e => b (by rw [e]; rfl))) ⟨by omega, hx.2⟩ ⟨by omega, hy.2⟩
  · exact noz_of (n := 5) (by omega) (fun x y a b => noz5 x y (fun e => a (by rw [e]; rfl)) (fun e => b (by rw [e]; rfl))) ⟨by omega, hx.2⟩ ⟨by omega, hy.2⟩
  · exact noz_of (n := 7) (by omega) (fun x y a b => noz7 x y (fun e => a (by rw [e]; rfl)) (fun e => b (by rw [e]; rfl))) ⟨by omega, hx.2⟩ ⟨by omega, hy.2⟩
theorem mul_len_is {p : Int} (hp : isP p = true) {a b : List Int} (ha : Row p a) (hb : Row p b) (h1 : a.length ≠ 0) (h2 : b.length ≠ 0) : (mul p a b).length = a.length + b.length - 1 := by
  have hp2 := isP_pos hp
  rw [mul, ofF_len]
  refine top_is (Nat.le_refl _) (fun i h3 h4 => by omega) fun _ => ?_
  have e : a.length + b.length - 1 - 1 = (a.length - 1) + (b.length - 1) := by omega
  rw [e, conv_lead (fun i hi => rd_ge (by omega)) (fun i hi => rd_ge (by omega))]
  exact noz hp (ha.rd (by omega) _) (hb.rd (by omega) _) (ha.nrm h1) (hb.nrm h2)
end Go.Abs
/- Numbers modulo p. -/
namespace Go.Proofs.Ytgodhgbnjlflmaa
open Go.Abs

theorem tmod_fix {n p : Int} (hp : 0 < p) : Int.tmod (Int.tmod n p + p) p = n % p := by
  have h1 := Int.lt_tmod_of_pos n hp
  rw [Int.tmod_eq_emod_of_nonneg (by omega), Int.tmod_def, Int.add_emod_right, Int.sub_mul_emod_self_left]

/-- Numbers that are small. -/
def Ent (l : List Int) : Prop := ∀ i, 0 ≤ rd l i ∧ rd l i < 256

theorem _root_.Go.Abs.Row.ent {p : Int} {l : List Int} (h : Row p l) (hp : 0 < p ∧ p ≤ 256) : Ent l := fun i => by have := h.rd hp.1 i; omega

def V64.Ent (v : V64) : Prop := ∀ i, i < 64 → 0 ≤ rd v.1 i ∧ rd v.1 i < 256

theorem mulk {x k : Int} (hx : 0 ≤ x ∧ x < 256) (hk : -1099511627776 ≤ k ∧ k ≤ 1099511627776) : -281474976710656 ≤ k * x ∧ k * x ≤ 281474976710656 := by
  have h1 : (-1099511627776) * x ≤ k * x := Int.mul_le_mul_of_nonneg_right hk.1 hx.1
  have h2 : k * x ≤ 1099511627776 * x := Int.mul_le_mul_of_nonneg_right hk.2 hx.1
  omega

theorem _root_.Go.Abs.Res.ent {p : Int} {v : V64} (h : Res p v) (hp : p ≤ 256) : V64.Ent v := fun i hi => by have := h i hi; omega

theorem ent_pad {p : Int} {l : List Int} (h : Row p l) (hp : 0 < p ∧ p ≤ 256) : V64.Ent (pad l) := Res.ent (res_pad h hp.1) hp.2

theorem mul_small {x y : Int} (hx : 0 ≤ x ∧ x < 256) (hy : 0 ≤ y ∧ y < 256) : 0 ≤ x * y ∧ x * y ≤ 65025 :=
  ⟨Int.mul_nonneg hx.1 hy.1, Int.mul_le_mul (c := 255) (d := 255) (by omega) (by omega) hy.1 (by omega)⟩
end Go.Proofs.Ytgodhgbnjlflmaa
/- Degrees. -/
namespace Go.Proofs.Ytgodhgbnjlflmaa
open Go.Abs

theorem deg_loop (a : V64) : ∀ s : Int, (∃ i : Nat, s = (i : Int) - 1 ∧ i ≤ 64) → ∃ r, loopM (fun s : Int => spec_l01Deg_l1 a s) s = some r ∧ ∀ i : Nat, s = (i : Int) - 1 → r = (top (rd a.1) i : Int) - 1 := by
  refine loopM_ind (fun (s : Int) => ∃ i : Nat, s = (i : Int) - 1 ∧ i ≤ 64) (fun (s : Int) (r : Int) => ∀ i : Nat, s = (i : Int) - 1 → r = (top (rd a.1) i : Int) - 1) (fun s => (s + 1).toNat) ?_
  rintro s ⟨i, rfl, hi⟩
  match i with
  | 0 =>
    right
    refine ⟨-1, by simp [spec_l01Deg_l1], fun k hk => ?_⟩
    have : k = 0 := by omega
    subst this; simp [top]
  | i + 1 =>
    have e1 : ((i + 1 : Nat) : Int) - 1 = (i : Int) := by omega
    rw [e1]
    by_cases e : rd a.1 i = 0
    · left
      refine ⟨(i : Int) - 1, ?_, ⟨i, rfl, by omega⟩, by omega, fun r hr k hk => ?_⟩
      · simp only [spec_l01Deg_l1]
        rw [if_pos (by simp), ifp_pos (by omega)]
        simp [e]
        exact wrap64 (by omega) (by omega)
      · have : k = i + 1 := by omega
        subst this
        rw [hr i rfl]; simp [top, e]
    · right
      refine ⟨(i : Int), ?_, fun k hk => ?_⟩
      · simp only [spec_l01Deg_l1]
        rw [if_pos (by simp), ifp_pos (by omega)]
        simp [e]
      · have : k = i + 1 := by omega
        subst this
        simp [top, e]

theorem deg_is (a : V64) : spec_l01Deg a = some ((top (rd a.1) 64 : Int) - 1) := by
  obtain ⟨r, h1, h2⟩ := deg_loop a 63 ⟨64, by omega, by omega⟩
  rw [h2 64 (by omega)] at h1
  simp only [spec_l01Deg, h1, Option.bind_some]
end Go.Proofs.Ytgodhgbnjlflmaa
/- Products, in the reference. -/
namespace Go.Proofs.Ytgodhgbnjlflmaa
open Go.Abs

/-- One row of the reference's product. -/
theorem timesS_row {p : Int} (hp : 2 ≤ p ∧ p ≤ 256) {a b : V64} (ha : Res p a) (hb : Res p b) {i db : Nat} (hi : i + db < 64) {v : V64} (hv : Res p v) :
    ∃ v', loopM (fun s : Int × V64 => spec_l01Times_l2 (db : Int) (i : Int) a b p s.1 s.2) (0, v) = some v' ∧ Res p v' ∧ ∀ k, k < 64 → rd v'.1 k = if i ≤ k ∧ k ≤ i + db then (rd v.1 k + rd a.1 i * rd b.1 (k - i)) % p else rd v.1 k := by
  by_cases h0 : rd a.1 i = 0
  · refine ⟨v, ?_, hv, fun k hk => ?_⟩
    · rw [loopM_eq]
      simp only [spec_l01Times_l2]
      rw [ifp_pos (by omega)]
      simp [h0]
    · rw [h0]
      split
      · have := hv k hk
        rw [Int.zero_mul, Int.add_zero, Int.emod_eq_of_lt this.1 this.2]
      · rfl
  · have hai := ha i (by omega)
    obtain ⟨v', h1, h2, h3⟩ := loopM_for (body := fun s : Int × V64 => spec_l01Times_l2 (db : Int) (i : Int) a b p s.1 s.2) (fun j (v : V64) => ((j : Int), v)) (fun v => v) (db + 1)
      (fun j u => Res p u ∧ ∀ k, k < 64 → rd u.1 k = if i ≤ k ∧ k < i + j then (rd v.1 k + rd a.1 i * rd b.1 (k - i)) % p else rd v.1 k) (fun j u hj hI => by
        obtain ⟨hr, hk⟩ := hI
        have hbj := hb j (by omega)
        have huj := hr (i + j) (by omega)
        have e1 : IntKind.i64.wrap ((i : Int) + (j : Int)) = ((i + j : Nat) : Int) := by rw [wrap64 (by omega) (by omega)]; omega
        have hm := mul_small (x := rd a.1 i) (y := rd b.1 j) (by omega) (by omega)
        have hmod : Int.tmod (rd u.1 (i + j) + rd a.1 i * rd b.1 j) p = (rd u.1 (i + j) + rd a.1 i * rd b.1 j) % p := Int.tmod_eq_emod_of_nonneg (by omega)
        have hlt := emod_res (show 0 < p by omega) (rd u.1 (i + j) + rd a.1 i * rd b.1 j)
        refine ⟨vset u (i + j) ((rd u.1 (i + j) + rd a.1 i * rd b.1 j) % p), ?_, fun k hk' => ?_, fun k hk' => ?_⟩
        · simp only [spec_l01Times_l2, letp]
          rw [if_pos (by simp; omega), ifp_pos (by omega)]
          simp only [Option.bind_some]
          rw [if_pos (by simpa using h0), e1]
          rw [ifp_pos (by omega), ifp_pos (by omega), ifp_pos (by omega), ifp_pos (by omega), ifp_pos (by omega)]
          simp only [Int.toNat_natCast]
          rw [wrap64 (n := rd u.1 (i + j)) (by omega) (by omega), wrap64 (n := rd a.1 i) (by omega) (by omega), wrap64 (n := rd b.1 j) (by omega) (by omega), wrap64 (n := rd a.1 i * rd b.1 j) (by omega) (by omega), wrap64 (n := rd u.1 (i + j) + rd a.1 i * rd b.1 j) (by omega) (by omega), hmod, wrap8 hlt.1 (by omega), wrap64 (by omega) (by omega)]
          rfl
        · rw [rd_vset _ _ _ _ (by omega)]
          split
          · exact hlt
          · exact hr k hk'
        · rw [rd_vset _ _ _ _ (by omega)]
          by_cases e : k = i + j
          · subst e
            rw [if_pos rfl, if_pos (by omega), hk _ hk', if_neg (by omega), show i + j - i = j by omega]
          · rw [if_neg e, hk k hk']
            by_cases hc : i ≤ k ∧ k < i + j
            · rw [if_pos hc, if_pos (by omega)]
            · rw [if_neg hc, if_neg (by omega)]) (fun u hI => by
        simp only [spec_l01Times_l2]
        rw [if_neg (by simp; omega)]
        rfl) (db + 1) 0 v (by omega) ⟨hv, fun k hk => by rw [if_neg (by omega)]⟩
    exact ⟨v', h1, h2, fun k hk => by rw [h3 k hk]; simp only [show (i ≤ k ∧ k < i + (db + 1)) = (i ≤ k ∧ k ≤ i + db) from by rw [eq_iff_iff]; omega]⟩


theorem times_pad {p : Int} (hp : 2 ≤ p ∧ p ≤ 256) {a b : List Int} (ha : Row p a) (hb : Row p b) (la : a.length ≤ 64) (lb : b.length ≤ 64) (hl : a.length = 0 ∨ b.length = 0 ∨ a.length + b.length ≤ 65) :
    spec_l01Times p (pad a) (pad b) = some (pad (mul p a b), true) := by
  have hta : top (rd (pad a).1) 64 = a.length := by rw [top_congr 64 fun i hi => rd_padl a hi, ha.top la]
  have htb : top (rd (pad b).1) 64 = b.length := by rw [top_congr 64 fun i hi => rd_padl b hi, hb.top lb]
  simp only [spec_l01Times, deg_is, Option.bind_some, hta, htb]
  by_cases h1 : a.length = 0
  · have e : a = [] := List.eq_nil_of_length_eq_zero h1
    subst e
    simp [mul_nil, pad_nil]
  by_cases h2 : b.length = 0
  · have e : b = [] := List.eq_nil_of_length_eq_zero h2
    subst e
    simp [mul_nil', pad_nil]
  have hra := res_pad ha (show 0 < p by omega)
  have hrb := res_pad hb (show 0 < p by omega)
  obtain ⟨db, hdb⟩ : ∃ db : Nat, b.length = db + 1 := ⟨b.length - 1, by omega⟩
  obtain ⟨da, hda⟩ : ∃ da : Nat, a.length = da + 1 := ⟨a.length - 1, by omega⟩
  have e1 : ((a.length : Nat) : Int) - 1 = (da : Int) := by omega
  have e2 : ((b.length : Nat) : Int) - 1 = (db : Int) := by omega
  rw [e1, e2, wrap64 (by omega) (by omega)]
  simp only [show (decide ((da : Int) < 0)) = false by simp, Bool.false_eq_true, if_false, show (decide ((db : Int) < 0)) = false by simp, show (decide ((da : Int) + (db : Int) > 63)) = false by simp; omega, Option.bind_some]
  obtain ⟨v, h3, h4, h5⟩ := loopM_for (body := fun s : Int × V64 => spec_l01Times_l1 (da : Int) (db : Int) (pad a) (pad b) p s.1 s.2) (fun i v => ((i : Int), v)) (fun v => v) (da + 1)
    (fun i v => Res p v ∧ ∀ k, k < 64 → rd v.1 k = cv (rd a) (rd b) i k % p) (fun i v hi hI => by
      obtain ⟨hv, hk⟩ := hI
      obtain ⟨v', g1, g2, g3⟩ := timesS_row hp hra hrb (i := i) (db := db) (by omega) hv
      refine ⟨v', ?_, g2, fun k hk' => ?_⟩
      · simp only [spec_l01Times_l1]
        rw [if_pos (by simp; omega), g1]
        simp only [Option.bind_some]
        rw [wrap64 (by omega) (by omega)]; rfl
      · rw [g3 k hk', hk k hk', cv_succ]
        by_cases hc : i ≤ k ∧ k ≤ i + db
        · rw [if_pos hc, if_pos hc.1, rd_padl _ (by omega), rd_padl _ (by omega), Int.emod_add_emod]
        · rw [if_neg hc]
          by_cases hik : i ≤ k
          · rw [if_pos hik, rd_ge (l := b) (by omega), Int.mul_zero, Int.add_zero]
          · rw [if_neg hik, Int.add_zero]) (fun v hI => by
      simp only [spec_l01Times_l1]
      rw [if_neg (by simp; omega)]) (da + 1) 0 (vrep 64 0) (by omega) ⟨fun j hj => by rw [rd_vrep _ hj]; omega, fun k hk => by rw [rd_vrep _ hk]; simp [cv, sumTo]⟩
  have h3' : loopM (fun s : Int × V64 => spec_l01Times_l1 (da : Int) (db : Int) (pad a) (pad b) p s.1 s.2) (0, vrep 64 0) = some v := h3
  rw [h3']
  simp only [Option.bind_some]
  congr 2
  exact vec_ext fun k hk => by rw [h5 k hk, rd_padl _ hk, mul_rd, cv_conv fun i hi => rd_ge (by omega)]

theorem times_pad_no {p : Int} {a b : List Int} (ha : Row p a) (hb : Row p b) (la : a.length ≤ 64) (lb : b.length ≤ 64) (h1 : a.length ≠ 0) (h2 : b.length ≠ 0) (hl : 65 < a.length + b.length) :
    spec_l01Times p (pad a) (pad b) = some (vrep 64 0, false) := by
  have hta : top (rd (pad a).1) 64 = a.length := by rw [top_congr 64 fun i hi => rd_padl a hi, ha.top la]
  have htb : top (rd (pad b).1) 64 = b.length := by rw [top_congr 64 fun i hi => rd_padl b hi, hb.top lb]
  simp only [spec_l01Times, deg_is, Option.bind_some, hta, htb]
  rw [wrap64 (by omega) (by omega)]
  simp only [show (decide (((a.length : Nat) : Int) - 1 < 0)) = false by simp; omega, Bool.false_eq_true, if_false, show (decide (((b.length : Nat) : Int) - 1 < 0)) = false by simp; omega, show (decide (((a.length : Nat) : Int) - 1 + (((b.length : Nat) : Int) - 1) > 63)) = true by simp; omega, Option.bind_some, if_true]
end Go.Proofs.Ytgodhgbnjlflmaa
/- Rows without the zeros at their ends. -/
namespace Go.Proofs.Ytgodhgbnjlflmaa
open Go.Abs

def IsB (v : V64) : Prop := ∀ d ∈ v.1, 0 ≤ d ∧ d < 256

theorem IsB.rd {v : V64} (h : IsB v) {j : Nat} (hj : j < 64) : 0 ≤ rd v.1 j ∧ rd v.1 j < 256 := by
  have hl : j < v.1.length := by rw [v.2]; exact hj
  have : Abs.rd v.1 j = v.1[j] := by simp [Abs.rd, hl]
  rw [this]; exact h _ (List.getElem_mem _)

theorem trimmed_loop {l : List Int} (hl : l.length ≤ 1000000) : ∀ s : Int, (∃ i : Nat, s = i ∧ i ≤ l.length) → ∃ r, loopM (fun s : Int => impl_row_trimmed_l1 l s) s = some r ∧ ∀ i : Nat, s = i → r = (top (rd l) i : Int) := by
  refine loopM_ind (fun (s : Int) => ∃ i : Nat, s = i ∧ i ≤ l.length) (fun (s : Int) (r : Int) => ∀ i : Nat, s = i → r = (top (rd l) i : Int)) (fun s => s.toNat) ?_
  rintro s ⟨i, rfl, hi⟩
  match i with
  | 0 =>
    right
    refine ⟨0, by simp [impl_row_trimmed_l1], fun k hk => ?_⟩
    have : k = 0 := by omega
    subst this; simp [top]
  | i + 1 =>
    have e1 : IntKind.i64.wrap (((i + 1 : Nat) : Int) - 1) = (i : Int) := by rw [wrap64 (by omega) (by omega)]; omega
    by_cases e : rd l i = 0
    · left
      refine ⟨(i : Int), ?_, ⟨i, rfl, by omega⟩, by omega, fun r hr k hk => ?_⟩
      · simp only [impl_row_trimmed_l1, e1]
        rw [if_pos (by simp), ifp_pos (by omega)]
        simp [e]
      · have : k = i + 1 := by omega
        subst this
        rw [hr i rfl]; simp [top, e]
    · right
      refine ⟨((i + 1 : Nat) : Int), ?_, fun k hk => ?_⟩
      · simp only [impl_row_trimmed_l1, e1]
        rw [if_pos (by simp), ifp_pos (by omega)]
        simp [e]
      · have : k = i + 1 := by omega
        subst this
        simp [top, e]

theorem trimmed_is {l : List Int} (hl : l.length ≤ 1000000) : impl_row_trimmed l = some (l.take (top (rd l) l.length)) := by
  obtain ⟨r, h1, h2⟩ := trimmed_loop hl (l.length : Nat) ⟨l.length, rfl, Nat.le_refl _⟩
  rw [h2 _ rfl] at h1
  have := top_le (rd l) l.length
  simp only [impl_row_trimmed, h1, Option.bind_some]
  rw [ifp_pos (by omega)]
  simp

theorem rowOf_loop {a : V64} (hb : IsB a) : ∀ s : Int × List Int, (∃ i : Nat, s.1 = i ∧ i ≤ 64 ∧ s.2 = a.1.take i) → ∃ r, loopM (fun s : Int × List Int => impl_rowOf_l1 a s.1 s.2) s = some r ∧ r = a.1 := by
  refine loopM_ind (fun (s : Int × List Int) => ∃ i : Nat, s.1 = i ∧ i ≤ 64 ∧ s.2 = a.1.take i) (fun (s : Int × List Int) (r : List Int) => r = a.1) (fun (s : Int × List Int) => 64 - s.1.toNat) ?_
  rintro ⟨x, v⟩ ⟨i, hx, hi, hv⟩
  simp only at hx hv
  subst hx hv
  by_cases h : i = 64
  · right
    subst h
    exact ⟨a.1, by simp [impl_rowOf_l1, List.take_of_length_le (Nat.le_of_eq a.2)], rfl⟩
  · left
    have hil : i < a.1.length := by rw [a.2]; omega
    have er : rd a.1 i = a.1[i] := by simp [rd, hil]
    have hbi := hb.rd (show i < 64 by omega)
    refine ⟨(((i + 1 : Nat) : Int), a.1.take (i + 1)), ?_, ⟨i + 1, rfl, by omega, rfl⟩, by simp; omega, fun r hr => hr⟩
    simp only [impl_rowOf_l1]
    rw [if_pos (by simp; omega), ifp_pos (by omega), ifp_pos (by simp; omega)]
    rw [Int.toNat_natCast, wrap64 (by omega) (by omega), wrap64 (by omega) (by omega), er, List.take_succ_eq_append_getElem hil]
    simp

theorem rowOf_is {a : V64} (hb : IsB a) : impl_rowOf a = some (a.1.take (top (rd a.1) 64)) := by
  obtain ⟨r, h1, h2⟩ := rowOf_loop hb (0, []) ⟨0, rfl, by omega, by simp⟩
  subst h2
  have h3 := trimmed_is (l := a.1) (by rw [a.2]; omega)
  rw [a.2] at h3
  simp only [impl_rowOf, h1, Option.bind_some, h3]
end Go.Proofs.Ytgodhgbnjlflmaa
/- Products, in the program. -/
namespace Go.Proofs.Ytgodhgbnjlflmaa
open Go.Abs


theorem cv_small {a b : Nat → Int} (ha : ∀ i, 0 ≤ a i ∧ a i < 256) (hb : ∀ i, 0 ≤ b i ∧ b i < 256) (k : Nat) : ∀ n : Nat, 0 ≤ cv a b n k ∧ cv a b n k ≤ n * 65025
  | 0 => by simp [cv, sumTo]
  | n + 1 => by
    rw [cv_succ]
    have h1 := cv_small ha hb k n
    have h2 := mul_small (ha n) (hb (k - n))
    split <;> omega

/-- The program's product. -/
theorem times_is {p : Int} (hp : 2 ≤ p ∧ p ≤ 256) {a b : List Int} (ha : Ent a) (hb : Ent b) (la : a.length ≤ 500000) (lb : b.length ≤ 500000) : impl_prime_times p a b = some (mul p a b) := by
  simp only [impl_prime_times, letp]
  by_cases h1 : a.length = 0
  · have e : a = [] := List.eq_nil_of_length_eq_zero h1
    subst e
    simp [mul_nil]
  by_cases h2 : b.length = 0
  · have e : b = [] := List.eq_nil_of_length_eq_zero h2
    subst e
    simp [mul_nil']
  obtain ⟨n, hn⟩ : ∃ n : Nat, n = a.length + b.length - 1 := ⟨_, rfl⟩
  have e0 : IntKind.i64.wrap (IntKind.i64.wrap ((a.length : Int) + (b.length : Int)) - 1) = (n : Int) := by
    rw [wrap64 (n := (a.length : Int) + (b.length : Int)) (by omega) (by omega), wrap64 (by omega) (by omega)]; omega
  rw [e0]
  have c1 : (if ((a.length : Int) == 0) = true then some true else some ((b.length : Int) == 0)) = some false := by
    rw [if_neg (by rw [beq_iff_eq]; omega)]
    congr 1
    rw [beq_eq_false_iff_ne]; omega
  rw [c1]
  simp only [Bool.false_eq_true, if_false, Option.bind_some, Int.toNat_natCast]
  rw [ifp_pos (by omega)]
  -- one row
  have hrow : ∀ (i : Nat) (s : List Int), i < a.length → s.length = n → (∀ k, rd s k = cv (rd a) (rd b) i k) →
      ∃ s', loopM (fun s : Int × List Int => impl_prime_times_l2 b (i : Int) a s.1 s.2) (0, s) = some s' ∧ s'.length = n ∧ ∀ k, rd s' k = cv (rd a) (rd b) (i + 1) k := by
    intro i s hi hsl hs
    have hai := ha i
    obtain ⟨s', g1, g2, g3⟩ := loopM_for (body := fun s : Int × List Int => impl_prime_times_l2 b (i : Int) a s.1 s.2) (fun j (u : List Int) => ((j : Int), u)) (fun u => u) b.length
      (fun j u => u.length = n ∧ ∀ k, rd u k = if i ≤ k ∧ k < i + j then cv (rd a) (rd b) (i + 1) k else cv (rd a) (rd b) i k) (fun j u hj hI => by
        obtain ⟨hul, hu⟩ := hI
        have hbj := hb j
        have hm := mul_small hai hbj
        have hc := cv_small ha hb (i + j) i
        have e1 : IntKind.i64.wrap ((i : Int) + (j : Int)) = ((i + j : Nat) : Int) := by rw [wrap64 (by omega) (by omega)]; omega
        have huj := hu (i + j)
        rw [if_neg (by omega)] at huj
        have e2 : cv (rd a) (rd b) (i + 1) (i + j) = cv (rd a) (rd b) i (i + j) + rd a i * rd b j := by
          rw [cv_succ, if_pos (by omega), show i + j - i = j by omega]
        refine ⟨u.set (i + j) (cv (rd a) (rd b) (i + 1) (i + j)), ?_, by simpa using hul, fun k => ?_⟩
        · simp only [impl_prime_times_l2, letp]
          rw [if_pos (by simp; omega), e1]
          rw [ifp_pos (by omega), ifp_pos (by omega), ifp_pos (by omega)]
          simp only [Int.toNat_natCast]
          rw [huj, wrap64 (n := rd a i * rd b j) (by omega) (by omega), wrap64 (n := cv (rd a) (rd b) i (i + j) + rd a i * rd b j) (by omega) (by omega), wrap64 (by omega) (by omega), e2]
          rfl
        · rw [rd_set _ _ _ _ (by omega)]
          by_cases e : k = i + j
          · subst e
            rw [if_pos rfl, if_pos (by omega)]
          · rw [if_neg e, hu k]
            by_cases hc : i ≤ k ∧ k < i + j
            · rw [if_pos hc, if_pos (by omega)]
            · rw [if_neg hc, if_neg (by omega)]) (fun u hI => by
        simp only [impl_prime_times_l2]
        rw [if_neg (by simp)]) b.length 0 s (by omega) ⟨hsl, fun k => by rw [hs k, if_neg (by omega)]⟩
    refine ⟨s', g1, g2, fun k => ?_⟩
    rw [g3 k]
    split
    · rfl
    · rename_i hc
      rw [cv_succ]
      by_cases hik : i ≤ k
      · rw [if_pos hik, rd_ge (l := b) (by omega), Int.mul_zero, Int.add_zero]
      · rw [if_neg hik, Int.add_zero]
  obtain ⟨s, h3, h4, h5⟩ := loopM_for (body := fun s : Int × List Int => impl_prime_times_l1 a b s.1 s.2) (fun i (u : List Int) => ((i : Int), u)) (fun u => u) a.length
    (fun i u => u.length = n ∧ ∀ k, rd u k = cv (rd a) (rd b) i k) (fun i u hi hI => by
      obtain ⟨u', g1, g2, g3⟩ := hrow i u hi hI.1 hI.2
      refine ⟨u', ?_, g2, g3⟩
      simp only [impl_prime_times_l1]
      rw [if_pos (by simp; omega), ifp_pos (by omega), g1]
      simp only [Option.bind_some]
      rw [wrap64 (by omega) (by omega)]; rfl) (fun u hI => by
      simp only [impl_prime_times_l1]
      rw [if_neg (by simp)]) a.length 0 (List.replicate n 0) (by omega) ⟨by simp, fun k => by rw [rd_rep]; simp [cv, sumTo]⟩
  have h3' : loopM (fun s : Int × List Int => impl_prime_times_l1 a b s.1 s.2) (0, List.replicate n 0) = some s := h3
  rw [h3']
  simp only [Option.bind_some]
  obtain ⟨t, h6, h7, h8⟩ := loopM_for (body := fun q : Int × List Int => impl_prime_times_l3 s p q.1 q.2) (fun i (u : List Int) => ((i : Int), u)) (fun u => u) n
    (fun i u => u.length = n ∧ ∀ k, rd u k = if k < i then cv (rd a) (rd b) a.length k % p else cv (rd a) (rd b) a.length k) (fun i u hi hI => by
      obtain ⟨hul, hu⟩ := hI
      have hui := hu i
      rw [if_neg (by omega)] at hui
      have hc := cv_small ha hb i a.length
      refine ⟨u.set i (cv (rd a) (rd b) a.length i % p), ?_, by simpa using hul, fun k => ?_⟩
      · simp only [impl_prime_times_l3]
        rw [if_pos (by simp; omega), ifp_pos (by omega), ifp_pos (by omega), ifp_pos (by omega)]
        simp only [Int.toNat_natCast]
        rw [hui, Int.tmod_eq_emod_of_nonneg hc.1, wrap64 (by omega) (by omega)]; rfl
      · rw [rd_set _ _ _ _ (by omega), hu k]
        by_cases e : k = i
        · subst e; simp
        · rw [if_neg e]
          simp only [show (k < i + 1) = (k < i) from by rw [eq_iff_iff]; omega]) (fun u hI => by
      simp only [impl_prime_times_l3]
      rw [if_neg (by simp; omega)]) n 0 s (by omega) ⟨h4, fun k => by rw [h5 k, if_neg (by omega)]⟩
  have h6' : loopM (fun q : Int × List Int => impl_prime_times_l3 s p q.1 q.2) (0, s) = some t := h6
  rw [h6']
  simp only [Option.bind_some]
  rw [trimmed_is (by omega), trim_eq, h7]
  simp only [Option.bind_some]
  congr 1
  rw [mul, ← hn]
  exact ofF_congr fun k hk => by rw [h8 k, if_pos hk, cv_conv fun i hi => rd_ge (by omega)]
end Go.Proofs.Ytgodhgbnjlflmaa
/- Powers of polynomials and of p. -/
namespace Go.Proofs.Ytgodhgbnjlflmaa
open Go.Abs

def pow (p : Int) (a : List Int) : Nat → List Int
  | 0 => [1]
  | k + 1 => mul p (pow p a k) a
theorem row_one {p : Int} (hp : 2 ≤ p) : Row p [1] := ⟨by simp; omega, by simp [rd]⟩
theorem pow_row {p : Int} (hp : 2 ≤ p) (a : List Int) : ∀ k, Row p (pow p a k)
  | 0 => row_one hp
  | k + 1 => mul_row (by omega) _ _
theorem pow_len (p : Int) (a : List Int) : ∀ k, (pow p a k).length ≤ 1 + k * (a.length - 1)
  | 0 => by simp [pow]
  | k + 1 => by
    have h1 := pow_len p a k
    have h2 := mul_len p (pow p a k) a
    rw [Nat.succ_mul]
    simp only [pow]
    rcases Nat.eq_zero_or_pos a.length with h | h
    · have e : a = [] := List.eq_nil_of_length_eq_zero h
      subst e
      rw [mul_nil']; simp
    · omega
theorem raised_is {p : Int} (hp : 2 ≤ p ∧ p ≤ 7) {a : List Int} (ha : Row p a) (la : a.length ≤ 1000) {k : Nat} (hk : k ≤ 400) : impl_prime_raised p a k = some (pow p a k) := by
  obtain ⟨s, h1, h2⟩ := loopM_for (body := fun s : List Int × Int => impl_prime_raised_l1 (k : Int) p a s.1 s.2) (fun i s => (s, (i : Int))) (fun s => s) k
    (fun i s => s = pow p a i) (fun i s hi hI => by
      subst hI
      have hl := pow_len p a i
      have hm : i * (a.length - 1) ≤ 400 * 1000 := Nat.mul_le_mul (by omega) (by omega)
      refine ⟨pow p a (i + 1), ?_, rfl⟩
      simp only [impl_prime_raised_l1]
      rw [if_pos (by simp; omega), times_is ⟨hp.1, by omega⟩ ((pow_row hp.1 a i).ent ⟨by omega, by omega⟩) (ha.ent ⟨by omega, by omega⟩) (by omega) (by omega)]
      simp only [Option.bind_some]
      rw [wrap64 (by omega) (by omega)]; rfl) (fun s hI => by
      simp only [impl_prime_raised_l1]
      rw [if_neg (by simp)]) k 0 [1] (by omega) rfl
  have h1' : loopM (fun s : List Int × Int => impl_prime_raised_l1 (k : Int) p a s.1 s.2) ([1], 0) = some s := h1
  simp only [impl_prime_raised, h1', Option.bind_some, h2]
theorem one_is : spec_l01One = some (pad [1]) := by
  unfold spec_l01One
  congr 1
theorem power_is {p : Int} (hp : 2 ≤ p ∧ p ≤ 7) {a : List Int} (ha : Row p a) (la : a.length ≤ 64) {k : Nat} (hk : k * (a.length - 1) ≤ 63) (hk2 : k ≤ 1000000) : spec_l08Power p (pad a) k = some (pad (pow p a k), true) := by
  have key : ∀ (m i : Nat), i + m = k → loopM (fun s : Int × V64 => spec_l08Power_l1 p (pad a) s.1 s.2) ((m : Int), pad (pow p a i)) = some (.inl (pad (pow p a k))) := by
    intro m
    induction m with
    | zero =>
      intro i hi
      have : i = k := by omega
      subst this
      have step : spec_l08Power_l1 p (pad a) ((0 : Nat) : Int) (pad (pow p a i)) = some (.inr (.inl (pad (pow p a i)))) := by simp [spec_l08Power_l1]
      rw [loopM_eq]
      simp only [step, Option.bind_some]
    | succ m ih =>
      intro i hi
      have hl := pow_len p a i
      have hm : (i + 1) * (a.length - 1) ≤ k * (a.length - 1) := Nat.mul_le_mul_right _ (by omega)
      rw [Nat.succ_mul] at hm
      have hl2 : (pow p a i).length = 0 ∨ a.length = 0 ∨ (pow p a i).length + a.length ≤ 65 := by omega
      have step : spec_l08Power_l1 p (pad a) ((m + 1 : Nat) : Int) (pad (pow p a i)) = some (.inl ((m : Int), pad (pow p a (i + 1)))) := by
        have e : IntKind.i64.wrap (((m + 1 : Nat) : Int) - 1) = (m : Int) := by rw [wrap64 (by omega) (by omega)]; omega
        simp only [spec_l08Power_l1]
        rw [if_pos (decide_eq_true (by omega)), times_pad ⟨hp.1, by omega⟩ (pow_row hp.1 a i) ha (by omega) la hl2]
        simp only [Option.bind_some, Bool.not_true, Bool.false_eq_true, if_false, e]
        rfl
      rw [loopM_eq]
      simp only [step, Option.bind_some]
      exact ih (i + 1) (by omega)
  simp only [spec_l08Power, one_is, Option.bind_some]
  have := key k 0 (by omega)
  simp only [pow] at this
  rw [this]
  rfl

/-! Powers of p. -/
theorem ppow_pos {p : Nat} (hp : 2 ≤ p) (n : Nat) : 1 ≤ p ^ n := Nat.one_le_pow _ _ (by omega)
theorem ppow_mono {p : Nat} (hp : 2 ≤ p) {n m : Nat} (h : n ≤ m) : p ^ n ≤ p ^ m := Nat.pow_le_pow_right (by omega) h
/-- p to a power, at most a bit more than a limit. -/
theorem norm_is {p n most : Nat} (hp : 2 ≤ p ∧ p ≤ 7) (hn : n ≤ 1000000) (hm : most ≤ 1152921504606846976) : ∃ c : Nat, impl_prime_norm p n most = some (c : Int) ∧ ((p ^ n ≤ most ∧ c = p ^ n) ∨ (most < p ^ n ∧ most < c)) ∧ c ≤ 8070450532247928832 := by
  have key : ∀ (m i : Nat), i + m = n → (i = 0 ∨ p ^ (i - 1) ≤ most) → ∃ c : Nat, loopM (fun s : Int × Int => impl_prime_norm_l1 (n : Int) (most : Int) p s.1 s.2) (((p ^ i : Nat) : Int), (i : Int)) = some (c : Int) ∧ ((p ^ n ≤ most ∧ c = p ^ n) ∨ (most < p ^ n ∧ most < c)  ∨ (n = i ∧ c = p ^ n)) ∧ c ≤ 8070450532247928832 := by
    intro m
    induction m with
    | zero =>
      intro i hi hle
      have : i = n := by omega
      subst this
      have step : impl_prime_norm_l1 (i : Int) (most : Int) p ((p ^ i : Nat) : Int) (i : Int) = some (.inr ((p ^ i : Nat) : Int)) := by
        simp only [impl_prime_norm_l1]
        rw [if_neg (by rw [decide_eq_true_eq]; omega)]
      rw [loopM_eq]
      simp only [step, Option.bind_some]
      refine ⟨p ^ i, rfl, ?_, ?_⟩
      · exact .inr (.inr (by simp))
      · rcases hle with rfl | hle
        · simp
        · rcases Nat.eq_zero_or_pos i with rfl | h
          · simp
          · have : p ^ i = p ^ (i - 1) * p := by rw [← Nat.pow_succ]; congr 1; omega
            rw [this]
            have := Nat.mul_le_mul hle hp.2
            omega
    | succ m ih =>
      intro i hi hle
      have hmono := ppow_mono hp.1 (show i ≤ n by omega)
      by_cases h : most < p ^ i
      · have step : impl_prime_norm_l1 (n : Int) (most : Int) p ((p ^ i : Nat) : Int) (i : Int) = some (.inr ((p ^ i : Nat) : Int)) := by
          simp only [impl_prime_norm_l1]
          rw [if_pos (decide_eq_true (by omega)), if_pos (decide_eq_true (by omega))]
        rw [loopM_eq]
        simp only [step, Option.bind_some]
        refine ⟨p ^ i, rfl, .inr (.inl ⟨by omega, h⟩), ?_⟩
        rcases hle with rfl | hle
        · simp
        · rcases Nat.eq_zero_or_pos i with rfl | h
          · simp
          · have : p ^ i = p ^ (i - 1) * p := by rw [← Nat.pow_succ]; congr 1; omega
            rw [this]
            have := Nat.mul_le_mul hle hp.2
            omega
      · have hle2 := Nat.mul_le_mul (show p ^ i ≤ most by omega) hp.2
        have e1 : ((p ^ i : Nat) : Int) * (p : Int) = ((p ^ (i + 1) : Nat) : Int) := by rw [Nat.pow_succ, Int.natCast_mul]
        have e2 : p ^ (i + 1) = p ^ i * p := Nat.pow_succ ..
        have step : impl_prime_norm_l1 (n : Int) (most : Int) p ((p ^ i : Nat) : Int) (i : Int) = some (.inl (((p ^ (i + 1) : Nat) : Int), ((i + 1 : Nat) : Int))) := by
          simp only [impl_prime_norm_l1]
          rw [if_pos (decide_eq_true (by omega)), if_neg (by rw [decide_eq_true_eq]; omega), e1, wrap64 (n := ((p ^ (i + 1) : Nat) : Int)) (by omega) (by omega), wrap64 (by omega) (by omega)]
          rfl
        rw [loopM_eq]
        simp only [step, Option.bind_some]
        obtain ⟨c, h1, h2, h3⟩ := ih (i + 1) (by omega) (.inr (by simp only [Nat.add_sub_cancel]; omega))
        refine ⟨c, h1, ?_, h3⟩
        rcases h2 with h2 | h2 | ⟨h2, h4⟩
        · exact .inl h2
        · exact .inr (.inl h2)
        · by_cases h5 : p ^ n ≤ most
          · exact .inl ⟨h5, h4⟩
          · exact .inr (.inl ⟨by omega, by omega⟩)
  obtain ⟨c, h1, h2, h3⟩ := key n 0 (by omega) (.inl rfl)
  simp only [Nat.pow_zero] at h1
  refine ⟨c, ?_, ?_, h3⟩
  · have h1' : loopM (fun s : Int × Int => impl_prime_norm_l1 (n : Int) (most : Int) p s.1 s.2) (1, 0) = some (c : Int) := h1
    simp only [impl_prime_norm, h1', Option.bind_some]
  · rcases h2 with h2 | h2 | ⟨h2, h4⟩
    · exact .inl h2
    · exact .inr h2
    · by_cases h5 : p ^ n ≤ most
      · exact .inl ⟨h5, h4⟩
      · exact .inr ⟨by omega, by omega⟩
/-- p to a power, and one more than the greatest number if it is greater. -/
theorem count_is {p n : Nat} (hp : 2 ≤ p ∧ p ≤ 7) (hn : n ≤ 1000000) : ∃ c : Nat, spec_l01Count p n = some (c : Int) ∧ ((p ^ n ≤ 1000000000000 ∧ c = p ^ n) ∨ (1000000000000 < p ^ n ∧ c = 1000000000001)) := by
  have key : ∀ (m i : Nat), i + m = n → (i = 0 ∨ p ^ (i - 1) ≤ 1000000000000) → ∃ c : Nat, loopM (fun s : Int × Int => spec_l01Count_l1 p s.1 s.2) ((m : Int), ((p ^ i : Nat) : Int)) = some (c : Int) ∧ ((p ^ n ≤ 1000000000000 ∧ c = p ^ n) ∨ (1000000000000 < p ^ n ∧ 1000000000000 < c)) := by
    intro m
    induction m with
    | zero =>
      intro i hi hle
      have : i = n := by omega
      subst this
      have step : spec_l01Count_l1 p ((0 : Nat) : Int) ((p ^ i : Nat) : Int) = some (.inr ((p ^ i : Nat) : Int)) := by simp [spec_l01Count_l1]
      rw [loopM_eq]
      simp only [step, Option.bind_some]
      refine ⟨p ^ i, rfl, ?_⟩
      by_cases h : p ^ i ≤ 1000000000000
      · exact .inl ⟨h, rfl⟩
      · exact .inr ⟨by omega, by omega⟩
    | succ m ih =>
      intro i hi hle
      have hmono := ppow_mono hp.1 (show i ≤ n by omega)
      by_cases h : p ^ i ≤ 1000000000000
      · have hle2 := Nat.mul_le_mul h hp.2
        have e1 : ((p ^ i : Nat) : Int) * (p : Int) = ((p ^ (i + 1) : Nat) : Int) := by rw [Nat.pow_succ, Int.natCast_mul]
        have e2 : p ^ (i + 1) = p ^ i * p := Nat.pow_succ ..
        have e3 : IntKind.i64.wrap (((m + 1 : Nat) : Int) - 1) = (m : Int) := by rw [wrap64 (by omega) (by omega)]; omega
        have step : spec_l01Count_l1 p ((m + 1 : Nat) : Int) ((p ^ i : Nat) : Int) = some (.inl ((m : Int), ((p ^ (i + 1) : Nat) : Int))) := by
          simp only [spec_l01Count_l1]
          rw [if_pos (decide_eq_true (by omega)), e3, e1, wrap64 (n := ((p ^ (i + 1) : Nat) : Int)) (by omega) (by omega)]
          simp only [Option.bind_some]
          rw [if_pos (decide_eq_true (by omega))]
        rw [loopM_eq]
        simp only [step, Option.bind_some]
        exact ih (i + 1) (by omega) (.inr (by simp only [Nat.add_sub_cancel]; omega))
      · have step : spec_l01Count_l1 p ((m + 1 : Nat) : Int) ((p ^ i : Nat) : Int) = some (.inr ((p ^ i : Nat) : Int)) := by
          simp only [spec_l01Count_l1]
          rw [if_pos (decide_eq_true (by omega))]
          simp only [Option.bind_some]
          rw [if_neg (by rw [decide_eq_true_eq]; omega)]
        rw [loopM_eq]
        simp only [step, Option.bind_some]
        exact ⟨p ^ i, rfl, .inr ⟨by omega, by omega⟩⟩
  obtain ⟨c, h1, h2⟩ := key n 0 (by omega) (.inl rfl)
  simp only [Nat.pow_zero] at h1
  have h1' : loopM (fun s : Int × Int => spec_l01Count_l1 p s.1 s.2) ((n : Int), 1) = some (c : Int) := h1
  simp only [spec_l01Count, h1', Option.bind_some]
  rcases h2 with ⟨h2, h3⟩ | ⟨h2, h3⟩
  · exact ⟨c, by rw [if_neg (by omega)], .inl ⟨h2, h3⟩⟩
  · refine ⟨1000000000001, ?_, .inr ⟨h2, rfl⟩⟩
    split
    · rfl
    · congr 1; omega
end Go.Proofs.Ytgodhgbnjlflmaa
/- Powers p^i of polynomials: T is replaced by T^(p^i). -/
namespace Go.Proofs.Ytgodhgbnjlflmaa
open Go.Abs

def sprF (a : List Int) (q : Nat) (j : Nat) : Int := if j % q = 0 then rd a (j / q) else 0
def spr (a : List Int) (q : Nat) : List Int := ofF ((a.length - 1) * q + 1) (sprF a q)
theorem sprF_zero {a : List Int} {q : Nat} (hq : 0 < q) {j : Nat} (hj : (a.length - 1) * q + 1 ≤ j) : sprF a q j = 0 := by
  unfold sprF
  split
  · rename_i h
    rw [rd_ge]
    have h1 := Nat.div_add_mod j q
    rw [h, Nat.add_zero] at h1
    rcases Nat.lt_or_ge (j / q) a.length with h2 | h2
    · have h3 : q * (j / q) ≤ q * (a.length - 1) := Nat.mul_le_mul_left _ (by omega)
      rw [Nat.mul_comm q (a.length - 1)] at h3
      omega
    · exact h2
  · rfl
theorem spr_rd {a : List Int} {q : Nat} (hq : 0 < q) (j : Nat) : rd (spr a q) j = sprF a q j := rd_ofF (fun _ h => sprF_zero hq h) j
theorem spr_row {p : Int} (hp : 0 < p) {a : List Int} (ha : Row p a) (q : Nat) : Row p (spr a q) := row_ofF fun i _ => by
  unfold sprF
  split
  · exact ha.rd hp _
  · omega
theorem spr_len {p : Int} {a : List Int} (ha : Row p a) (h0 : a.length ≠ 0) {q : Nat} (hq : 0 < q) : (spr a q).length = (a.length - 1) * q + 1 := by
  rw [spr, ofF_len]
  refine top_is (Nat.le_refl _) (fun i h1 h2 => by omega) fun _ => ?_
  simp only [Nat.add_sub_cancel, sprF, Nat.mul_mod_left, if_true, Nat.mul_div_cancel _ hq]
  exact ha.nrm h0
theorem spr_nil (q : Nat) : spr [] q = [] := by
  simp [spr, ofF, top, sprF, rd]

theorem spread_is {p i : Nat} (hp : 2 ≤ p ∧ p ≤ 7) (hi : i ≤ 1000000) {a : List Int} (ha : Row p a) (la : a.length ≤ 1000) (hq : p ^ i ≤ 1000000) : impl_prime_spread p a i = some (spr a (p ^ i)) := by
  by_cases h0 : a.length = 0
  · have : a = [] := List.eq_nil_of_length_eq_zero h0
    subst this
    simp [impl_prime_spread, spr_nil]
  · obtain ⟨c, h1, h2, _⟩ := norm_is (n := i) (most := 1099511627776) hp hi (by omega)
    have hc : c = p ^ i := by omega
    subst hc
    have hpos := ppow_pos hp.1 i
    generalize hqq : p ^ i = q at *
    have h1' : impl_prime_norm p i 1099511627776 = some (q : Int) := h1
    have hm : (a.length - 1) * q ≤ 999 * 1000000 := Nat.mul_le_mul (by omega) hq
    have e1 : IntKind.i64.wrap ((a.length : Int) - 1) = ((a.length - 1 : Nat) : Int) := by rw [wrap64 (by omega) (by omega)]; omega
    have e2 : IntKind.i64.wrap (IntKind.i64.wrap (((a.length - 1 : Nat) : Int) * (q : Int)) + 1) = (((a.length - 1) * q + 1 : Nat) : Int) := by
      rw [← Int.natCast_mul, wrap64 (n := (((a.length - 1) * q : Nat) : Int)) (by omega) (by omega), wrap64 (by omega) (by omega)]; omega
    obtain ⟨n, hn⟩ : ∃ n : Nat, n = (a.length - 1) * q + 1 := ⟨_, rfl⟩
    simp only [impl_prime_spread]
    rw [if_neg (by rw [beq_iff_eq]; omega), h1']
    simp only [Option.bind_some, impl_row_degree]
    rw [e1, e2, ← hn, ifp_pos (by omega), Int.toNat_natCast]
    have hsmall : ∀ k : Nat, k < a.length → k * q ≤ (a.length - 1) * q := fun k hk => Nat.mul_le_mul_right _ (by omega)
    obtain ⟨s, g1, g2, g3⟩ := loopM_for (body := fun s : Int × List Int => impl_prime_spread_l1 a (q : Int) s.1 s.2) (fun i s => ((i : Int), s)) (fun s => s) a.length
      (fun k s => s.length = n ∧ ∀ j, rd s j = if j % q = 0 ∧ j / q < k then rd a (j / q) else 0) (fun k s hk hI => by
        obtain ⟨hl, hr⟩ := hI
        have h4 := hsmall k hk
        refine ⟨s.set (k * q) (rd a k), ?_, by simpa using hl, fun j => ?_⟩
        · have e3 : IntKind.i64.wrap ((k : Int) * (q : Int)) = ((k * q : Nat) : Int) := by rw [← Int.natCast_mul, wrap64 (by omega) (by omega)]
          simp only [impl_prime_spread_l1]
          rw [if_pos (decide_eq_true (by omega)), ifp_pos (by omega), e3, ifp_pos (by omega), wrap64 (by omega) (by omega)]
          rfl
        · rw [rd_set _ _ _ _ (by omega), hr j]
          by_cases e : j = k * q
          · subst e
            rw [if_pos rfl, if_pos ⟨Nat.mul_mod_left _ _, by rw [Nat.mul_div_cancel _ (by omega)]; omega⟩, Nat.mul_div_cancel _ (by omega)]
          · rw [if_neg e]
            by_cases hm0 : j % q = 0
            · have h5 := Nat.div_add_mod j q
              rw [hm0, Nat.add_zero] at h5
              have : j / q ≠ k := fun h => e (by rw [← h5, h, Nat.mul_comm])
              simp only [hm0, true_and, show (j / q < k + 1) = (j / q < k) from by rw [eq_iff_iff]; omega]
            · rw [if_neg (fun h => hm0 h.1), if_neg (fun h => hm0 h.1)]) (fun s hI => by
        simp only [impl_prime_spread_l1]
        rw [if_neg (by rw [decide_eq_true_eq]; omega)]) a.length 0 (List.replicate n 0) (by omega) ⟨by simp, fun j => by rw [rd_rep, if_neg (fun h => Nat.not_lt_zero _ h.2)]⟩
    have g1' : loopM (fun s : Int × List Int => impl_prime_spread_l1 a (q : Int) s.1 s.2) (0, List.replicate n 0) = some s := g1
    rw [g1']
    simp only [Option.bind_some]
    congr 1
    refine rd_ext (by rw [g2, hn, spr_len ha h0 (by omega)]) fun j _ => ?_
    rw [g3 j, spr_rd (by omega)]
    unfold sprF
    by_cases hm0 : j % q = 0
    · simp only [hm0, true_and, if_true]
      by_cases h5 : j / q < a.length
      · rw [if_pos h5]
      · rw [if_neg h5, rd_ge (by omega)]
    · rw [if_neg (fun h => hm0 h.1), if_neg hm0]

theorem raise_loop {p : Nat} (hp : 2 ≤ p ∧ p ≤ 7) {i : Nat} (hi : i ≤ 1000000) {k : Nat} (hk : 1 ≤ k ∧ k ≤ 63) :
    loopM (fun s : Int × Int => spec_l04Raise_l2 (i : Int) p s.1 s.2) ((k : Int), 0) = some (if k * p ^ i ≤ 63 then .inl ((k * p ^ i : Nat) : Int) else .inr (vrep 64 0, false)) := by
  have key : ∀ (m j : Nat), j + m = i → k * p ^ j ≤ 63 → loopM (fun s : Int × Int => spec_l04Raise_l2 (i : Int) p s.1 s.2) (((k * p ^ j : Nat) : Int), (j : Int)) = some (if k * p ^ i ≤ 63 then .inl ((k * p ^ i : Nat) : Int) else .inr (vrep 64 0, false)) := by
    intro m
    induction m with
    | zero =>
      intro j hj hle
      have : j = i := by omega
      subst this
      have step : spec_l04Raise_l2 (j : Int) p ((k * p ^ j : Nat) : Int) (j : Int) = some (.inr (.inl ((k * p ^ j : Nat) : Int))) := by
        simp only [spec_l04Raise_l2]
        rw [if_neg (by rw [decide_eq_true_eq]; omega)]
        rfl
      rw [loopM_eq]
      simp only [step, Option.bind_some]
      rw [if_pos hle]
    | succ m ih =>
      intro j hj hle
      have hpos : 1 ≤ k * p ^ j := by
        have := Nat.mul_le_mul hk.1 (ppow_pos hp.1 j); omega
      have e1 : ((k * p ^ j : Nat) : Int) * (p : Int) = ((k * p ^ (j + 1) : Nat) : Int) := by rw [Nat.pow_succ, ← Nat.mul_assoc, Int.natCast_mul (k * p ^ j)]
      have hb : k * p ^ (j + 1) ≤ 63 * 7 := by
        rw [Nat.pow_succ, ← Nat.mul_assoc]; exact Nat.mul_le_mul hle hp.2
      have hmono : k * p ^ (j + 1) ≤ k * p ^ i := Nat.mul_le_mul_left _ (ppow_mono hp.1 (by omega))
      by_cases h : k * p ^ (j + 1) ≤ 63
      · have step : spec_l04Raise_l2 (i : Int) p ((k * p ^ j : Nat) : Int) (j : Int) = some (.inl (((k * p ^ (j + 1) : Nat) : Int), ((j + 1 : Nat) : Int))) := by
          simp only [spec_l04Raise_l2]
          rw [if_pos (decide_eq_true (by omega))]
          simp only [Option.bind_some]
          rw [if_pos (decide_eq_true (by omega)), e1, wrap64 (n := ((k * p ^ (j + 1) : Nat) : Int)) (by omega) (by omega), if_neg (by rw [decide_eq_true_eq]; omega), wrap64 (by omega) (by omega)]
          rfl
        rw [loopM_eq]
        simp only [step, Option.bind_some]
        exact ih (j + 1) (by omega) h
      · have step : spec_l04Raise_l2 (i : Int) p ((k * p ^ j : Nat) : Int) (j : Int) = some (.inr (.inr (vrep 64 0, false))) := by
          simp only [spec_l04Raise_l2]
          rw [if_pos (decide_eq_true (by omega))]
          simp only [Option.bind_some]
          rw [if_pos (decide_eq_true (by omega)), e1, wrap64 (n := ((k * p ^ (j + 1) : Nat) : Int)) (by omega) (by omega), if_pos (decide_eq_true (by omega))]
        rw [loopM_eq]
        simp only [step, Option.bind_some]
        rw [if_neg (by omega)]
  have := key i 0 (by omega) (by simp; omega)
  simpa using this
theorem raise_loop0 {p i : Int} : loopM (fun s : Int × Int => spec_l04Raise_l2 i p s.1 s.2) (0, 0) = some (.inl 0) := by
  have step : spec_l04Raise_l2 i p 0 0 = some (.inr (.inl 0)) := by
    simp only [spec_l04Raise_l2]
    split <;> rfl
  rw [loopM_eq]
  simp only [step, Option.bind_some]

theorem raise_gen {p i : Nat} (hp : 2 ≤ p ∧ p ≤ 7) (hi : i ≤ 1000000) {a : List Int} (ha : Row p a) (la : a.length ≤ 64) :
    spec_l04Raise p (pad a) i = some (if a.length ≤ 1 ∨ (a.length - 1) * p ^ i ≤ 63 then (pad (spr a (p ^ i)), true) else (vrep 64 0, false)) := by
  have hta : top (rd (pad a).1) 64 = a.length := by rw [top_congr 64 fun i hi => rd_padl a hi, ha.top la]
  have hpos := ppow_pos hp.1 i
  generalize hqq : p ^ i = q at *
  have key : ∀ (m k : Nat) (v : V64), k + m = a.length → (∀ j, j < 64 → rd v.1 j = if j % q = 0 ∧ j / q < k then rd a (j / q) else 0) →
      loopM (fun s : Int × V64 => spec_l04Raise_l1 ((a.length : Int) - 1) (pad a) (i : Int) p s.1 s.2) ((k : Int), v) = some (if a.length ≤ 1 ∨ (a.length - 1) * q ≤ 63 then .inl (pad (spr a q)) else if m = 0 then .inl v else .inr (vrep 64 0, false)) := by
    intro m
    induction m with
    | zero =>
      intro k v hk hv
      have step : spec_l04Raise_l1 ((a.length : Int) - 1) (pad a) (i : Int) p (k : Int) v = some (.inr (.inl v)) := by
        simp only [spec_l04Raise_l1]
        rw [if_neg (by rw [decide_eq_true_eq]; omega)]
      rw [loopM_eq]
      simp only [step, Option.bind_some, if_true]
      split
      · congr 2
        refine vec_ext fun j hj => ?_
        rw [hv j hj, rd_padl _ hj, spr_rd (by omega)]
        unfold sprF
        by_cases hm0 : j % q = 0
        · simp only [hm0, true_and, if_true]
          by_cases h5 : j / q < k
          · rw [if_pos h5]
          · rw [if_neg h5, rd_ge (by omega)]
        · rw [if_neg (fun h => hm0 h.1), if_neg hm0]
      · rfl
    | succ m ih =>
      intro k v hk hv
      have hrk : rd (pad a).1 k = rd a k := rd_padl a (by omega)
      -- what stands behind the place k
      have next : ∀ v' : V64, (∀ j, j < 64 → rd v'.1 j = if j % q = 0 ∧ j / q < k + 1 then rd a (j / q) else 0) → (m = 0 → a.length ≤ 1 ∨ (a.length - 1) * q ≤ 63) →
          spec_l04Raise_l1 ((a.length : Int) - 1) (pad a) (i : Int) p (k : Int) v = some (.inl (((k + 1 : Nat) : Int), v')) →
          loopM (fun s : Int × V64 => spec_l04Raise_l1 ((a.length : Int) - 1) (pad a) (i : Int) p s.1 s.2) ((k : Int), v) = some (if a.length ≤ 1 ∨ (a.length - 1) * q ≤ 63 then .inl (pad (spr a q)) else if m + 1 = 0 then .inl v else .inr (vrep 64 0, false)) := by
        intro v' hv' hm0 step
        rw [loopM_eq]
        simp only [step, Option.bind_some]
        rw [ih (k + 1) v' (by omega) hv']
        by_cases h : a.length ≤ 1 ∨ (a.length - 1) * q ≤ 63
        · rw [if_pos h, if_pos h]
        · rw [if_neg h, if_neg h, if_neg (fun e => h (hm0 e)), if_neg (by omega)]
      have ewrap : IntKind.i64.wrap ((k : Int) + 1) = ((k + 1 : Nat) : Int) := by rw [wrap64 (by omega) (by omega)]; rfl
      by_cases hz : rd a k = 0
      · refine next v (fun j hj => ?_) (fun hm => ?_) ?_
        · rw [hv j hj]
          by_cases hm0 : j % q = 0
          · simp only [hm0, true_and]
            by_cases h5 : j / q < k
            · rw [if_pos h5, if_pos (by omega)]
            · rw [if_neg h5]
              by_cases h6 : j / q < k + 1
              · rw [if_pos h6, show j / q = k by omega, hz]
              · rw [if_neg h6]
          · rw [if_neg (fun h => hm0 h.1), if_neg (fun h => hm0 h.1)]
        · exact absurd hz (by have := ha.nrm (by omega); rwa [show a.length - 1 = k by omega] at this)
        · simp only [spec_l04Raise_l1]
          rw [if_pos (decide_eq_true (by omega)), ifp_pos (by omega), Int.toNat_natCast, hrk, hz]
          simp only [beq_self_eq_true, if_true, Option.bind_some, ewrap]
      · -- the place that it comes to
        have hset : ∀ (t : Nat), t = k * q → t ≤ 63 → (∀ j, j < 64 → rd (vset v t (rd a k)).1 j = if j % q = 0 ∧ j / q < k + 1 then rd a (j / q) else 0) := by
          intro t ht ht63 j hj
          rw [rd_vset _ _ _ _ (by omega), hv j hj]
          by_cases e : j = t
          · subst e
            subst ht
            rw [if_pos rfl, if_pos ⟨Nat.mul_mod_left _ _, by rw [Nat.mul_div_cancel _ (by omega)]; omega⟩, Nat.mul_div_cancel _ (by omega)]
          · rw [if_neg e]
            by_cases hm0 : j % q = 0
            · have h5 := Nat.div_add_mod j q
              rw [hm0, Nat.add_zero] at h5
              have : j / q ≠ k := fun h => e (by rw [← h5, h, ht, Nat.mul_comm])
              simp only [hm0, true_and, show (j / q < k + 1) = (j / q < k) from by rw [eq_iff_iff]; omega]
            · rw [if_neg (fun h => hm0 h.1), if_neg (fun h => hm0 h.1)]
        rcases Nat.eq_zero_or_pos k with hk0 | hk0
        · subst hk0
          refine next _ (hset 0 (by simp) (by omega)) (fun hm => .inl (by omega)) ?_
          have hl0 : loopM (fun s : Int × Int => spec_l04Raise_l2 (i : Int) p s.1 s.2) (((0 : Nat) : Int), 0) = some (.inl 0) := raise_loop0
          simp only [spec_l04Raise_l1]
          rw [if_pos (decide_eq_true (by omega)), ifp_pos (by omega), Int.toNat_natCast, hrk, if_neg (by rw [beq_iff_eq]; exact hz), hl0]
          simp only [Option.bind_some]
          rw [ifp_pos (by omega), ifp_pos (by omega)]
          simp only [Option.bind_some, ewrap]
          rfl
        · have hl := raise_loop hp hi (k := k) ⟨hk0, by omega⟩
          rw [hqq] at hl
          by_cases h63 : k * q ≤ 63
          · rw [if_pos h63] at hl
            refine next _ (hset (k * q) rfl h63) (fun hm => .inr (by rw [show a.length - 1 = k by omega]; exact h63)) ?_
            simp only [spec_l04Raise_l1]
            rw [if_pos (decide_eq_true (by omega)), ifp_pos (by omega), Int.toNat_natCast, hrk, if_neg (by rw [beq_iff_eq]; exact hz), hl]
            simp only [Option.bind_some]
            rw [ifp_pos (by omega), ifp_pos (by omega)]
            simp only [Option.bind_some, ewrap, Int.toNat_natCast]
          · rw [if_neg h63] at hl
            have step : spec_l04Raise_l1 ((a.length : Int) - 1) (pad a) (i : Int) p (k : Int) v = some (.inr (.inr (vrep 64 0, false))) := by
              simp only [spec_l04Raise_l1]
              rw [if_pos (decide_eq_true (by omega)), ifp_pos (by omega), Int.toNat_natCast, hrk, if_neg (by rw [beq_iff_eq]; exact hz), hl]
              rfl
            have hbig : ¬ (a.length ≤ 1 ∨ (a.length - 1) * q ≤ 63) := by
              rintro (h | h)
              · omega
              · have := Nat.mul_le_mul_right q (show k ≤ a.length - 1 by omega)
                omega
            rw [loopM_eq]
            simp only [step, Option.bind_some]
            rw [if_neg hbig, if_neg (by omega)]
  have h := key a.length 0 (vrep 64 0) (by omega) (fun j hj => by rw [rd_vrep _ hj, if_neg (fun h => Nat.not_lt_zero _ h.2)])
  simp only [spec_l04Raise, deg_is, hta, Option.bind_some]
  have h' : loopM (fun s : Int × V64 => spec_l04Raise_l1 ((a.length : Int) - 1) (pad a) (i : Int) p s.1 s.2) (0, vrep 64 0) = _ := h
  rw [h']
  by_cases hc : a.length ≤ 1 ∨ (a.length - 1) * q ≤ 63
  · simp only [if_pos hc, Option.bind_some]
  · rw [if_neg hc, if_neg hc, if_neg (by omega)]
    rfl
end Go.Proofs.Ytgodhgbnjlflmaa
/- Sums, in the program. -/
namespace Go.Proofs.Ytgodhgbnjlflmaa
open Go.Abs

theorem at_is (l : List Int) (i : Nat) : impl_row_at l i = some (rd l i) := by
  unfold impl_row_at
  by_cases h : i < l.length
  · rw [if_pos (by simpa using h), ifp_pos (by omega)]; simp
  · rw [if_neg (by simpa using h), rd_ge (by omega)]

theorem reduce_is {p n : Int} (hp : 0 < p ∧ p ≤ 256) (hn : -4611686018427387904 ≤ n ∧ n < 4611686018427387904) : impl_prime_reduce p n = some (n % p) := by
  unfold impl_prime_reduce
  have h1 := Int.lt_tmod_of_pos n hp.1
  have h2 := Int.tmod_lt_of_pos n hp.1
  rw [ifp_pos (by omega), ifp_pos (by omega), wrap64 (by omega) (by omega), tmod_fix hp.1]

theorem combine_is {p k : Int} {a b : List Int} (hp : 0 < p ∧ p ≤ 256) (ha : Ent a) (hb : Ent b) (la : a.length ≤ 1000000) (lb : b.length ≤ 1000000) (hk : -1099511627776 ≤ k ∧ k ≤ 1099511627776) :
    impl_prime_combine p a b k = some (comb p a b k) := by
  obtain ⟨n, hn⟩ : ∃ n : Nat, n = max a.length b.length := ⟨_, rfl⟩
  have e : (if (b.length : Int) > (a.length : Int) then (b.length : Int) else (a.length : Int)) = (n : Int) := by split <;> omega
  obtain ⟨s, h1, h2, h3⟩ := loopM_for (body := fun s : Int × List Int => impl_prime_combine_l1 (n : Int) a b p k s.1 s.2) (fun i s => ((i : Int), s)) (fun s => s) n
    (fun i s => s.length = n ∧ ∀ j, rd s j = if j < i then (rd a j + k * rd b j) % p else 0) (fun i s hi hI => by
      obtain ⟨hl, hr⟩ := hI
      have h1 := ha i
      have h2 := mulk (hb i) hk
      refine ⟨s.set i ((rd a i + k * rd b i) % p), ?_, by simpa using hl, fun j => ?_⟩
      · simp only [impl_prime_combine_l1, letp, Int.toNat_natCast, List.length_replicate]
        rw [if_pos (by simp; omega), at_is, at_is]
        simp only [Option.bind_some]
        rw [wrap64 (n := k * rd b i) (by omega) (by omega), wrap64 (n := rd a i + k * rd b i) (by omega) (by omega), reduce_is hp (by omega)]
        simp only [Option.bind_some]
        rw [ifp_pos (by omega), wrap64 (by omega) (by omega)]
        rfl
      · rw [rd_set _ _ _ _ (by omega), hr j]
        by_cases h : j = i
        · subst h; simp
        · rw [if_neg h]
          simp only [show (j < i + 1) = (j < i) from by rw [eq_iff_iff]; omega]) (fun s hI => by
      simp only [impl_prime_combine_l1, letp, Int.toNat_natCast, List.length_replicate]
      rw [if_neg (by simp)]) n 0 (List.replicate n 0) (by omega) ⟨by simp, fun j => by rw [rd_rep, if_neg (by omega)]⟩
  have hs : s.take (top (rd s) s.length) = comb p a b k := by
    rw [trim_eq, h2, comb, ← hn]
    exact ofF_congr fun i hi => by rw [h3 i, if_pos hi]
  simp only [impl_prime_combine, letp, e]
  rw [ifp_pos (by omega)]
  simp only [Int.toNat_natCast]
  have h1' : loopM (fun s : Int × List Int => impl_prime_combine_l1 (n : Int) a b p k s.1 s.2) (0, List.replicate n 0) = some s := h1
  rw [h1']
  simp only [Option.bind_some]
  rw [trimmed_is (by omega), hs]
  rfl
end Go.Proofs.Ytgodhgbnjlflmaa
/- Sums, in the reference. -/
namespace Go.Proofs.Ytgodhgbnjlflmaa
open Go.Abs

theorem add_is {p k : Int} {a b : V64} (hp : 0 < p ∧ p ≤ 256) (ha : V64.Ent a) (hb : V64.Ent b) (hk : -1099511627776 ≤ k ∧ k ≤ 1099511627776) :
    ∃ v, spec_l01Add p a b k = some v ∧ ∀ j, j < 64 → rd v.1 j = (rd a.1 j + k * rd b.1 j) % p := by
  obtain ⟨s, h1, h2⟩ := loopM_for (body := fun s : Int × V64 => spec_l01Add_l1 k b p s.1 s.2) (fun i s => ((i : Int), s)) (fun s => s) 64
    (fun i s => ∀ j, j < 64 → rd s.1 j = if j < i then (rd a.1 j + k * rd b.1 j) % p else rd a.1 j) (fun i s hi hI => by
      have hs := hI i hi
      rw [if_neg (by omega)] at hs
      have h1 := ha i hi
      have h0 := hb i hi
      have h2 := mulk (hb i hi) hk
      have h3 := Int.lt_tmod_of_pos (rd a.1 i + k * rd b.1 i) hp.1
      have h4 := Int.tmod_lt_of_pos (rd a.1 i + k * rd b.1 i) hp.1
      have h5 := emod_res hp.1 (rd a.1 i + k * rd b.1 i)
      refine ⟨vset s i ((rd a.1 i + k * rd b.1 i) % p), ?_, fun j hj => ?_⟩
      · simp only [spec_l01Add_l1, letp, Int.toNat_natCast, hs]
        rw [if_pos (by simp; omega), ifp_pos (by omega), ifp_pos (by omega), ifp_pos (by omega), ifp_pos (by omega), ifp_pos (by omega)]
        rw [wrap64 (n := rd b.1 i) (by omega) (by omega), wrap64 (n := rd a.1 i) (by omega) (by omega), wrap64 (n := k * rd b.1 i) (by omega) (by omega), wrap64 (n := rd a.1 i + k * rd b.1 i) (by omega) (by omega), wrap64 (n := _ + p) (by omega) (by omega), tmod_fix hp.1, wrap8 (by omega) (by omega), wrap64 (by omega) (by omega)]
        rfl
      · rw [rd_vset _ _ _ _ hi, hI j hj]
        by_cases h : j = i
        · subst h; simp
        · rw [if_neg h]
          simp only [show (j < i + 1) = (j < i) from by rw [eq_iff_iff]; omega]) (fun s hI => by
      simp only [spec_l01Add_l1, letp]
      rw [if_neg (by simp)]) 64 0 a (by omega) (fun j hj => by rw [if_neg (by omega)])
  refine ⟨s, ?_, fun j hj => by rw [h2 j hj, if_pos hj]⟩
  have h1' : loopM (fun s : Int × V64 => spec_l01Add_l1 k b p s.1 s.2) (0, a) = some s := h1
  simp only [spec_l01Add, h1', Option.bind_some]

theorem add_pad {p k : Int} {a b : List Int} (hp : 0 < p ∧ p ≤ 256) (ha : Row p a) (hb : Row p b) (la : a.length ≤ 64) (lb : b.length ≤ 64) (hk : -1099511627776 ≤ k ∧ k ≤ 1099511627776) :
    spec_l01Add p (pad a) (pad b) k = some (pad (comb p a b k)) := by
  obtain ⟨v, h1, h2⟩ := add_is hp (ent_pad ha hp) (ent_pad hb hp) hk
  rw [h1]
  congr 1
  exact vec_ext fun j hj => by rw [h2 j hj, rd_padl _ hj, rd_padl _ hj, rd_padl _ hj, comb_rd]
end Go.Proofs.Ytgodhgbnjlflmaa
/- A row as an array. -/
namespace Go.Proofs.Ytgodhgbnjlflmaa
open Go.Abs

theorem poly_loop {l : List Int} (hb : Bytes l) (hl : l.length ≤ 64) : ∀ s : Int × V64, (∃ i : Nat, s.1 = i ∧ i ≤ l.length ∧ s.2 = pad (l.take i)) → ∃ r, loopM (fun s : Int × V64 => impl_row_poly_l1 l s.1 s.2) s = some r ∧ r = pad l := by
  refine loopM_ind (fun (s : Int × V64) => ∃ i : Nat, s.1 = i ∧ i ≤ l.length ∧ s.2 = pad (l.take i)) (fun (s : Int × V64) r => r = pad l) (fun (s : Int × V64) => 64 - s.1.toNat) ?_
  rintro ⟨x, v⟩ ⟨i, hx, hi, hv⟩
  simp only at hx hv
  subst hx hv
  by_cases h : i = l.length
  · right
    subst h
    exact ⟨pad l, by simp [impl_row_poly_l1], rfl⟩
  · left
    have hil : i < l.length := by omega
    have er : rd l i = l[i] := by simp [rd, hil]
    have hbi := hb l[i] (List.getElem_mem _)
    refine ⟨(((i + 1 : Nat) : Int), pad (l.take (i + 1))), ?_, ⟨i + 1, rfl, by omega, rfl⟩, by simp; omega, fun r hr => hr⟩
    simp only [impl_row_poly_l1]
    rw [if_pos (by simp; omega), ifp_pos (by omega), ifp_pos (by omega)]
    simp only [Int.toNat_natCast, er]
    rw [wrap64 (by omega) (by omega), wrap8 hbi.1 hbi.2]
    have := pad_set (l.take i) l[i] (by simp; omega)
    rw [List.length_take, Nat.min_eq_left (by omega)] at this
    rw [this, List.take_succ_eq_append_getElem hil]
    simp

theorem poly_is {l : List Int} (hb : Bytes l) (hl : l.length ≤ 64) : impl_row_poly l = some (pad l) := by
  obtain ⟨r, h1, h2⟩ := poly_loop hb hl (0, pad []) ⟨0, rfl, by omega, by simp⟩
  simp only [impl_row_poly, ← pad_nil, h1, h2, Option.bind_some]

theorem told_is {l : List Int} (hb : Bytes l) (hl : l.length ≤ 64) : impl_told l = some (pad l, 0) := by
  simp only [impl_told, impl_row_fits, impl_row_degree, Option.bind_some, poly_is hb hl]
  rw [wrap64 (by omega) (by omega)]
  simp
  omega
end Go.Proofs.Ytgodhgbnjlflmaa
/- Numbers as digits. -/
namespace Go.Proofs.Ytgodhgbnjlflmaa
open Go.Abs

def digs (p n : Nat) : List Int := if n = 0 ∨ p < 2 then [] else ((n % p : Nat) : Int) :: digs p (n / p)
termination_by n
decreasing_by exact Nat.div_lt_self (by omega) (by omega)

theorem digs_zero (p : Nat) : digs p 0 = [] := by rw [digs]; simp

theorem digs_pos {p n : Nat} (hp : 2 ≤ p) (hn : 0 < n) : digs p n = ((n % p : Nat) : Int) :: digs p (n / p) := by
  rw [digs, if_neg (by omega)]

theorem digs_sum {p : Nat} : ∀ n : Nat, (∀ d ∈ digs p n, (0 : Int) ≤ d) ∧ (digs p n).sum ≤ n ∧ (digs p n).length ≤ n := by
  intro n
  induction n using Nat.strongRecOn with
  | ind n ih =>
    by_cases h : n = 0 ∨ p < 2
    · rw [digs, if_pos h]; simp
    · have hlt : n / p < n := Nat.div_lt_self (by omega) (by omega)
      have hle : n % p + n / p ≤ n := by
        have := Nat.div_add_mod n p
        have h3 : n / p ≤ p * (n / p) := Nat.le_mul_of_pos_left _ (by omega)
        omega
      obtain ⟨h1, h2, h3⟩ := ih _ hlt
      rw [digs, if_neg h]
      refine ⟨fun d hd => ?_, ?_, ?_⟩
      · rcases List.mem_cons.1 hd with rfl | hd
        · omega
        · exact h1 d hd
      · simp only [List.sum_cons]; omega
      · simp only [List.length_cons]; omega

theorem digs_lt {p : Nat} (hp : 2 ≤ p) : ∀ n : Nat, ∀ d ∈ digs p n, 0 ≤ d ∧ d < p := by
  intro n
  induction n using Nat.strongRecOn with
  | ind n ih =>
    intro d hd
    by_cases h : n = 0
    · subst h; rw [digs_zero] at hd; cases hd
    · rw [digs_pos hp (by omega)] at hd
      rcases List.mem_cons.1 hd with rfl | hd
      · have := Nat.mod_lt n (show p > 0 by omega)
        generalize n % p = x at this
        omega
      · exact ih _ (Nat.div_lt_self (by omega) hp) d hd

theorem digs_len {p : Nat} (hp : 2 ≤ p) : ∀ (k n : Nat), n < 2 ^ k → (digs p n).length ≤ k
  | 0, n, h => by
    have : n = 0 := by simpa using h
    subst this; rw [digs_zero]; simp
  | k + 1, n, h => by
    by_cases hn : n = 0
    · subst hn; rw [digs_zero]; simp
    · rw [digs_pos hp (by omega)]
      have : n / p < 2 ^ k := by
        have h1 : n / p ≤ n / 2 := Nat.div_le_div_left hp (by omega)
        have h2 : n / 2 < 2 ^ k := by rw [Nat.pow_succ] at h; omega
        omega
      have := digs_len hp k _ this
      simp only [List.length_cons]; omega

theorem digs_len40 {p n : Nat} (hp : 2 ≤ p) (hn : n ≤ 1000000000000) : (digs p n).length ≤ 40 := digs_len hp 40 n (by omega)

theorem digs_bytes {p n : Nat} (hp : 2 ≤ p) (h : p ≤ 256) : Bytes (digs p n) := fun d hd => by
  have := digs_lt hp n d hd; omega

theorem rd_cons (x : Int) (l : List Int) (i : Nat) : rd (x :: l) (i + 1) = rd l i := by simp [rd]
theorem digs_row {p : Nat} (hp : 2 ≤ p) (n : Nat) : Row p (digs p n) := by
  refine ⟨fun d hd => ?_, ?_⟩
  · have := digs_lt hp n d hd; omega
  · induction n using Nat.strongRecOn with
    | ind n ih =>
      intro h
      have hn : 0 < n := by
        rcases Nat.eq_zero_or_pos n with rfl | h'
        · rw [digs_zero] at h; simp at h
        · exact h'
      rw [digs_pos hp hn]
      simp only [List.length_cons, Nat.add_sub_cancel]
      rcases Nat.eq_zero_or_pos (n / p) with h0 | h0
      · rw [h0, digs_zero]
        have : n < p := by
          rcases Nat.lt_or_ge n p with h | h
          · exact h
          · have := Nat.div_pos h (by omega); omega
        rw [Nat.mod_eq_of_lt this]
        simp [rd]; omega
      · have hlt : n / p < n := Nat.div_lt_self hn (by omega)
        have h1 : (digs p (n / p)).length ≠ 0 := by rw [digs_pos hp h0]; simp
        have h2 := ih _ hlt h1
        obtain ⟨m, hm⟩ : ∃ m, (digs p (n / p)).length = m + 1 := ⟨(digs p (n / p)).length - 1, by omega⟩
        rw [hm] at h2 ⊢
        rw [rd_cons]
        simpa using h2
theorem digs_len_pow {p : Nat} (hp : 2 ≤ p) : ∀ (d n : Nat), p ^ d ≤ n → n < p ^ (d + 1) → (digs p n).length = d + 1
  | 0, n, h1, h2 => by
    simp only [Nat.pow_zero, Nat.zero_add, Nat.pow_one] at h1 h2
    rw [digs_pos hp (by omega), Nat.div_eq_of_lt h2, digs_zero]; rfl
  | d + 1, n, h1, h2 => by
    have hpos : 0 < p ^ (d + 1) := Nat.pow_pos (by omega)
    have h3 : p ^ d ≤ n / p := by
      rw [Nat.le_div_iff_mul_le (by omega)]
      rwa [← Nat.pow_succ]
    have h4 : n / p < p ^ (d + 1) := by
      rw [Nat.div_lt_iff_lt_mul (by omega)]
      rwa [← Nat.pow_succ]
    rw [digs_pos hp (by omega), List.length_cons, digs_len_pow hp d _ h3 h4]
theorem digs_monic_len {p : Nat} (hp : 2 ≤ p) {d i : Nat} (hi : i < p ^ d) : (digs p (p ^ d + i)).length = d + 1 := by
  refine digs_len_pow hp d _ (by omega) ?_
  have : p ^ (d + 1) = p ^ d * p := Nat.pow_succ ..
  have h2 : p ^ d * 2 ≤ p ^ d * p := Nat.mul_le_mul_left _ hp
  omega
end Go.Proofs.Ytgodhgbnjlflmaa
/- Brackets and factorials. -/
namespace Go.Proofs.Ytgodhgbnjlflmaa
open Go.Abs

theorem row_T {p : Int} (hp : 2 ≤ p) : Row p [0, 1] := ⟨by simp; omega, by simp [rd]⟩
theorem T_is : spec_l01T = some (pad [0, 1]) := by
  unfold spec_l01T
  congr 1
/-- T^(p^i) - T^(p^j). -/
def brk (p i j : Nat) : List Int := comb p (spr [0, 1] (p ^ i)) (spr [0, 1] (p ^ j)) (-1)
theorem sprT_len {p : Nat} (hp : 2 ≤ p) {q : Nat} (hq : 0 < q) : (spr [0, 1] q).length = q + 1 := by
  rw [spr_len (row_T (p := p) (by omega)) (by simp) hq]; simp
theorem brk_row {p : Nat} (hp : 2 ≤ p) (i j : Nat) : Row p (brk p i j) := comb_row (by omega) _ _ _
theorem brk_len {p : Nat} (hp : 2 ≤ p) {i j : Nat} (h : j < i) : (brk p i j).length = p ^ i + 1 := by
  have h1 := ppow_pos hp i
  have h2 := ppow_pos hp j
  have hlt : p ^ j < p ^ i := Nat.pow_lt_pow_right (by omega) h
  rw [brk, comb, ofF_len, sprT_len hp (by omega), sprT_len hp (by omega)]
  refine top_is (by omega) (fun k h3 h4 => by omega) fun _ => ?_
  simp only [Nat.add_sub_cancel]
  rw [spr_rd (by omega), rd_ge (l := spr [0, 1] (p ^ j)) (by rw [sprT_len hp (by omega)]; omega)]
  have : sprF [0, 1] (p ^ i) (p ^ i) = 1 := by
    simp only [sprF, Nat.mod_self, if_true, Nat.div_self (show 0 < p ^ i by omega)]; rfl
  rw [this, Int.mul_zero, Int.add_zero, Int.emod_eq_of_lt (by omega) (by omega)]
  omega
theorem small_pow {p i : Nat} (hp : 2 ≤ p ∧ p ≤ 7) (hi : i ≤ 6) : p ^ i ≤ 400000 := by
  have h1 : p ^ i ≤ p ^ 6 := ppow_mono hp.1 hi
  have h2 : p ^ 6 ≤ 7 ^ 6 := Nat.pow_le_pow_left hp.2 6
  have h3 : (7 : Nat) ^ 6 = 117649 := by decide
  omega
theorem exp_small {p i : Nat} (hp : 2 ≤ p) (h : p ^ i ≤ 400000) : i ≤ 1000 := by
  rcases Nat.lt_or_ge 1000 i with h1 | h1
  · have h2 : p ^ 19 ≤ p ^ i := Nat.pow_le_pow_right (by omega) (by omega)
    have h3 : 2 ^ 19 ≤ p ^ 19 := Nat.pow_le_pow_left hp 19
    have h4 : (2 : Nat) ^ 19 = 524288 := by decide
    omega
  · exact h1
theorem bracket_is {p i j : Nat} (hp : 2 ≤ p ∧ p ≤ 7) (h1 : p ^ i ≤ 400000) (h2 : p ^ j ≤ 400000) : impl_prime_bracket p i j = some (brk p i j) := by
  have hT := row_T (p := (p : Int)) (by omega)
  have e : impl_letter = some [0, 1] := rfl
  have hi := exp_small hp.1 h1
  have hj := exp_small hp.1 h2
  simp only [impl_prime_bracket, e, Option.bind_some, spread_is hp (show i ≤ 1000000 by omega) hT (by simp) (show p ^ i ≤ 1000000 by omega), spread_is hp (show j ≤ 1000000 by omega) hT (by simp) (show p ^ j ≤ 1000000 by omega)]
  rw [combine_is ⟨by omega, by omega⟩ ((spr_row (by omega) hT _).ent ⟨by omega, by omega⟩) ((spr_row (by omega) hT _).ent ⟨by omega, by omega⟩) ?_ ?_ (by omega)]
  · rfl
  · rw [sprT_len hp.1 (by have := ppow_pos hp.1 i; omega)]; omega
  · rw [sprT_len hp.1 (by have := ppow_pos hp.1 j; omega)]; omega
theorem ent_zero : V64.Ent (vrep 64 0) := fun i hi => by rw [rd_vrep _ hi]; omega
theorem bracketS_is {p i j : Nat} (hp : 2 ≤ p ∧ p ≤ 7) (hi : i ≤ 1000000) (hj : j ≤ 1000000) : ∃ v, spec_l04Bracket p i j = some (v, decide (p ^ i ≤ 63 ∧ p ^ j ≤ 63)) ∧ (p ^ i ≤ 63 ∧ p ^ j ≤ 63 → v = pad (brk p i j)) := by
  have hT := row_T (p := (p : Int)) (by omega)
  have e1 := raise_gen hp hi hT (by simp)
  have e2 := raise_gen hp hj hT (by simp)
  have hs : ∀ q : Nat, (([0, 1] : List Int).length ≤ 1 ∨ (([0, 1] : List Int).length - 1) * q ≤ 63) = (q ≤ 63) := by
    intro q; rw [eq_iff_iff]; simp
  simp only [hs] at e1 e2
  simp only [spec_l04Bracket, T_is, Option.bind_some, e1, e2]
  have hp1 := ppow_pos hp.1 i
  have hp2 := ppow_pos hp.1 j
  by_cases h1 : p ^ i ≤ 63
  · by_cases h2 : p ^ j ≤ 63
    · rw [if_pos h1, if_pos h2]
      simp only
      rw [add_pad ⟨by omega, by omega⟩ (spr_row (by omega) hT _) (spr_row (by omega) hT _) (by rw [sprT_len hp.1 (by omega)]; omega) (by rw [sprT_len hp.1 (by omega)]; omega) (by omega)]
      exact ⟨_, by simp [h1, h2]; rfl, fun _ => rfl⟩
    · rw [if_pos h1, if_neg h2]
      simp only
      obtain ⟨v, h3, _⟩ := add_is (p := p) (k := -1) ⟨by omega, by omega⟩ (ent_pad (spr_row (by omega) hT (p ^ i)) ⟨by omega, by omega⟩) ent_zero (by omega)
      rw [h3]
      exact ⟨v, by simp [h2], fun h => absurd h.2 h2⟩
  · rw [if_neg h1]
    simp only
    have : ∃ v, spec_l01Add p (vrep 64 0) (if p ^ j ≤ 63 then (pad (spr [0, 1] (p ^ j)), true) else (vrep 64 0, false)).1 (-1) = some v := by
      split
      · obtain ⟨v, h3, _⟩ := add_is (p := p) (k := -1) ⟨by omega, by omega⟩ ent_zero (ent_pad (spr_row (by omega) hT (p ^ j)) ⟨by omega, by omega⟩) (by omega)
        exact ⟨v, h3⟩
      · obtain ⟨v, h3, _⟩ := add_is (p := p) (k := -1) ⟨by omega, by omega⟩ ent_zero ent_zero (by omega)
        exact ⟨v, h3⟩
    obtain ⟨v, h3⟩ := this
    rw [h3]
    exact ⟨v, by simp [h1], fun h => absurd h.1 h1⟩

/-! Products, as long as their degrees are not too great. -/
def fac (p : Int) (L : Nat → List Int) : Nat → Option (List Int)
  | 0 => some [1]
  | n + 1 => match fac p L n with
    | none => none
    | some o => if o.length + (L n).length > 65 then none else some (mul p o (L n))
theorem fac_none {p : Int} {L : Nat → List Int} {i n : Nat} (h : i ≤ n) (hi : fac p L i = none) : fac p L n = none := by
  induction n with
  | zero => have : i = 0 := by omega
            subst this; exact hi
  | succ n ih =>
    by_cases e : i = n + 1
    · subst e; exact hi
    · simp only [fac, ih (by omega)]
theorem fac_row {p : Int} (hp : isP p = true) {L : Nat → List Int} (n : Nat) (hL : ∀ j, j < n → Row p (L j) ∧ (L j).length ≠ 0) : ∀ i o, i ≤ n → fac p L i = some o → Row p o ∧ o.length ≠ 0 ∧ o.length ≤ 64
  | 0, o, _, h => by
    have hp2 := isP_pos hp
    simp only [fac, Option.some.injEq] at h
    subst h
    exact ⟨row_one (by omega), by simp, by simp⟩
  | i + 1, o, hi, h => by
    have hp2 := isP_pos hp
    simp only [fac] at h
    split at h
    · cases h
    · rename_i o' ho
      obtain ⟨h1, h2, h3⟩ := fac_row hp n hL i o' (by omega) ho
      obtain ⟨h4, h5⟩ := hL i (by omega)
      split at h
      · cases h
      · rename_i hle
        simp only [Option.some.injEq] at h
        subst h
        have h6 := mul_len_is hp h1 h4 h2 h5
        exact ⟨mul_row (by omega) _ _, by omega, by omega⟩
/-- The program's product. -/
theorem product_is {p : Int} (hp : isP p = true) {M : List (List Int)} (hM : M.length ≤ 1000000) (hL : ∀ j, j < M.length → Row p (rd M j) ∧ (rd M j).length ≠ 0 ∧ (rd M j).length ≤ 500000) :
    impl_prime_productOf p M = some (match fac p (fun j => rd M j) M.length with | none => (vrep 64 0, 3) | some o => (pad o, 0)) := by
  have hp2 := isP_pos hp
  have key : ∀ (m i : Nat) (o : List Int), i + m = M.length → fac p (fun j => rd M j) i = some o →
      loopM (fun s : List Int × Int => impl_prime_productOf_l1 M p s.1 s.2) (o, (i : Int)) = some (match fac p (fun j => rd M j) M.length with | none => .inr (vrep 64 0, 3) | some o => .inl o) := by
    intro m
    induction m with
    | zero =>
      intro i o hi ho
      have : i = M.length := by omega
      subst this
      have step : impl_prime_productOf_l1 M p o (M.length : Int) = some (.inr (.inl o)) := by
        simp only [impl_prime_productOf_l1]
        rw [if_neg (by rw [decide_eq_true_eq]; omega)]
      rw [loopM_eq]
      simp only [step, Option.bind_some, ho]
    | succ m ih =>
      intro i o hi ho
      obtain ⟨h1, h2, h3⟩ := fac_row hp M.length (fun j hj => ⟨(hL j hj).1, (hL j hj).2.1⟩) i o (by omega) ho
      obtain ⟨h4, h5, h6⟩ := hL i (by omega)
      have e1 : IntKind.i64.wrap (IntKind.i64.wrap ((o.length : Int) - 1) + IntKind.i64.wrap (((rd M i).length : Int) - 1)) = (o.length : Int) + (rd M i).length - 2 := by
        rw [wrap64 (n := (o.length : Int) - 1) (by omega) (by omega), wrap64 (n := ((rd M i).length : Int) - 1) (by omega) (by omega), wrap64 (by omega) (by omega)]; omega
      have hfac : fac p (fun j => rd M j) (i + 1) = if o.length + (rd M i).length > 65 then none else some (mul p o (rd M i)) := by simp only [fac, ho]
      by_cases hbig : o.length + (rd M i).length > 65
      · rw [if_pos hbig] at hfac
        have step : impl_prime_productOf_l1 M p o (i : Int) = some (.inr (.inr (vrep 64 0, 3))) := by
          simp only [impl_prime_productOf_l1, impl_row_degree, Option.bind_some, Int.toNat_natCast]
          rw [if_pos (decide_eq_true (by omega)), ifp_pos (by omega), e1, if_pos (decide_eq_true (by omega))]
        rw [loopM_eq]
        simp only [step, Option.bind_some, fac_none (show i + 1 ≤ M.length by omega) hfac]
      · rw [if_neg hbig] at hfac
        have step : impl_prime_productOf_l1 M p o (i : Int) = some (.inl (mul p o (rd M i), ((i + 1 : Nat) : Int))) := by
          simp only [impl_prime_productOf_l1, impl_row_degree, Option.bind_some, Int.toNat_natCast]
          rw [if_pos (decide_eq_true (by omega)), ifp_pos (by omega), e1, if_neg (by rw [decide_eq_true_eq]; omega), times_is ⟨by omega, by omega⟩ (h1.ent ⟨by omega, by omega⟩) (h4.ent ⟨by omega, by omega⟩) (by omega) h6]
          simp only [Option.bind_some]
          rw [wrap64 (by omega) (by omega)]; rfl
        rw [loopM_eq]
        simp only [step, Option.bind_some]
        exact ih (i + 1) _ (by omega) hfac
  have h := key M.length 0 [1] (by omega) rfl
  have h' : loopM (fun s : List Int × Int => impl_prime_productOf_l1 M p s.1 s.2) ([1], 0) = _ := h
  simp only [impl_prime_productOf, h', Option.bind_some]
  cases ho : fac p (fun j => rd M j) M.length with
  | none => rfl
  | some o =>
    obtain ⟨h1, h2, h3⟩ := fac_row hp M.length (fun j hj => ⟨(hL j hj).1, (hL j hj).2.1⟩) _ o (Nat.le_refl _) ho
    simp only [told_is (h1.bytes (by omega)) h3, Option.bind_some]

/-- The brackets of the factorials. -/
def facL (p i : Nat) (second : Bool) (j : Nat) : List Int := if second then brk p (j + 1) 0 else brk p i j
theorem facL_ok {p : Nat} (hp : 2 ≤ p ∧ p ≤ 7) {i : Nat} (hi : p ^ i ≤ 400000) (second : Bool) {j : Nat} (hj : j < i) : Row (p : Int) (facL p i second j) ∧ (facL p i second j).length ≠ 0 ∧ (facL p i second j).length ≤ 500000 := by
  unfold facL
  split
  · have := ppow_mono hp.1 (show j + 1 ≤ i by omega)
    exact ⟨brk_row hp.1 _ _, by rw [brk_len hp.1 (by omega)]; omega, by rw [brk_len hp.1 (by omega)]; omega⟩
  · exact ⟨brk_row hp.1 _ _, by rw [brk_len hp.1 hj]; omega, by rw [brk_len hp.1 hj]; omega⟩
/-- The reference's factorial. -/
theorem factorial_is {p i : Nat} (hp : isP p = true) (hi0 : p ^ i ≤ 400000) (second : Bool) :
    spec_l04Factorial p i second = some (match fac p (facL p i second) i with | none => (vrep 64 0, false) | some o => (pad o, true)) := by
  have hp2 := isP_pos hp
  have hpp : 2 ≤ p ∧ p ≤ 7 := by omega
  have hi := exp_small hpp.1 hi0
  have key : ∀ (m j : Nat) (o : List Int), j + m = i → fac p (facL p i second) j = some o →
      loopM (fun s : Bool × Int × V64 => spec_l04Factorial_l1 (i : Int) p s.1 s.2.1 s.2.2) (second, (j : Int), pad o) = some (match fac p (facL p i second) i with | none => .inr (vrep 64 0, false) | some o => .inl (pad o)) := by
    intro m
    induction m with
    | zero =>
      intro j o hj ho
      have : j = i := by omega
      subst this
      have step : spec_l04Factorial_l1 (j : Int) p second (j : Int) (pad o) = some (.inr (.inl (pad o))) := by
        simp only [spec_l04Factorial_l1]
        rw [if_neg (by rw [decide_eq_true_eq]; omega)]
      rw [loopM_eq]
      simp only [step, Option.bind_some, ho]
    | succ m ih =>
      intro j o hj ho
      have hLok := fun j (hj : j < i) => facL_ok hpp hi0 second hj
      obtain ⟨h1, h2, h3⟩ := fac_row hp i (fun j hj => ⟨(hLok j hj).1, (hLok j hj).2.1⟩) j o (by omega) ho
      obtain ⟨h4, h5, h6⟩ := hLok j (by omega)
      have hfac : fac p (facL p i second) (j + 1) = if o.length + (facL p i second j).length > 65 then none else some (mul p o (facL p i second j)) := by simp only [fac, ho]
      -- the bracket
      have hb : ∃ (v : V64) (e : Nat), (facL p i second j).length = p ^ e + 1 ∧ (p ^ e ≤ 63 → v = pad (facL p i second j)) ∧ spec_l04Factorial_l1 (i : Int) p second (j : Int) (pad o) =
          (if (!decide (p ^ e ≤ 63)) then (some (.inr ((.inr (((vrep 64 (0 : Int)), false)))))) else (Option.bind (spec_l01Times p (pad o) v) fun r187 => (if (!r187.2) then (some (.inr ((.inr (((vrep 64 (0 : Int)), false)))))) else (some (.inl ((second, ((j + 1 : Nat) : Int), r187.1))))))) := by
        obtain ⟨v1, g1, g2⟩ := bracketS_is (i := i) (j := j) hpp (by omega) (by omega)
        have ew : IntKind.i64.wrap ((j : Int) + 1) = ((j + 1 : Nat) : Int) := by rw [wrap64 (by omega) (by omega)]; rfl
        have hji : p ^ j ≤ p ^ i := ppow_mono hpp.1 (by omega)
        cases second with
        | false =>
          refine ⟨v1, i, by simp only [facL]; exact brk_len hpp.1 (by omega), fun h => g2 ⟨h, by omega⟩, ?_⟩
          simp only [spec_l04Factorial_l1]
          rw [if_pos (decide_eq_true (by omega)), g1]
          simp only [Option.bind_some, Bool.false_eq_true, if_false, ew]
          have : decide (p ^ i ≤ 63 ∧ p ^ j ≤ 63) = decide (p ^ i ≤ 63) := by rw [Bool.eq_iff_iff]; simp only [decide_eq_true_eq]; omega
          rw [this]
        | true =>
          obtain ⟨v2, g3, g4⟩ := bracketS_is (i := j + 1) (j := 0) hpp (by omega) (by omega)
          refine ⟨v2, j + 1, by simp only [facL]; exact brk_len hpp.1 (by omega), fun h => g4 ⟨h, by simp⟩, ?_⟩
          have g3' : spec_l04Bracket p ((j + 1 : Nat) : Int) 0 = some (v2, decide (p ^ (j + 1) ≤ 63 ∧ p ^ 0 ≤ 63)) := g3
          simp only [spec_l04Factorial_l1]
          rw [if_pos (decide_eq_true (by omega)), g1]
          simp only [Option.bind_some, if_true, ew, g3']
          have : decide (p ^ (j + 1) ≤ 63 ∧ p ^ 0 ≤ 63) = decide (p ^ (j + 1) ≤ 63) := by rw [Bool.eq_iff_iff]; simp
          rw [this]
      obtain ⟨v, e, hlen, hv, hstep⟩ := hb
      by_cases he : p ^ e ≤ 63
      · rw [hv he] at hstep
        simp only [he, decide_true, Bool.not_true, Bool.false_eq_true, if_false] at hstep
        by_cases hbig : o.length + (facL p i second j).length > 65
        · rw [if_pos hbig] at hfac
          rw [times_pad_no h1 h4 h3 (by omega) h2 h5 (by omega)] at hstep
          simp only [Option.bind_some, Bool.not_false, if_true] at hstep
          rw [loopM_eq]
          simp only [hstep, Option.bind_some, fac_none (show j + 1 ≤ i by omega) hfac]
        · rw [if_neg hbig] at hfac
          rw [times_pad ⟨by omega, by omega⟩ h1 h4 h3 (by omega) (by omega)] at hstep
          simp only [Option.bind_some, Bool.not_true, Bool.false_eq_true, if_false] at hstep
          rw [loopM_eq]
          simp only [hstep, Option.bind_some]
          exact ih (j + 1) _ (by omega) hfac
      · simp only [he, decide_false, Bool.not_false, if_true] at hstep
        rw [if_pos (by omega)] at hfac
        rw [loopM_eq]
        simp only [hstep, Option.bind_some, fac_none (show j + 1 ≤ i by omega) hfac]
  have h := key i 0 [1] (by omega) rfl
  have h' : loopM (fun s : Bool × Int × V64 => spec_l04Factorial_l1 (i : Int) p s.1 s.2.1 s.2.2) (second, 0, pad [1]) = _ := h
  simp only [spec_l04Factorial, one_is, Option.bind_some, h']
  cases fac p (facL p i second) i <;> rfl
theorem fac_congr {p : Int} {L L' : Nat → List Int} : ∀ n, (∀ j, j < n → L j = L' j) → fac p L n = fac p L' n
  | 0, _ => rfl
  | n + 1, h => by simp only [fac, fac_congr n fun j hj => h j (by omega), h n (by omega)]
theorem first_is {p i : Nat} (hp : 2 ≤ p ∧ p ≤ 7) (hi0 : p ^ i ≤ 400000) : impl_prime_first p i = some ((List.range i).map (facL p i false)) := by
  have hi := exp_small hp.1 hi0
  obtain ⟨s, g1, g2⟩ := loopM_for (body := fun s : Int × List (List Int) => impl_prime_first_l1 (i : Int) p s.1 s.2) (fun i s => ((i : Int), s)) (fun s => s) i
    (fun j s => s = (List.range j).map (facL p i false)) (fun j s hj hI => by
      subst hI
      refine ⟨_, ?_, rfl⟩
      simp only [impl_prime_first_l1]
      rw [if_pos (decide_eq_true (by omega)), bracket_is hp hi0 (Nat.le_trans (ppow_mono hp.1 (show j ≤ i by omega)) hi0)]
      simp only [Option.bind_some]
      rw [ifp_pos (by simp; omega), wrap64 (by omega) (by omega), List.range_succ, List.map_append]
      rfl) (fun s hI => by
      simp only [impl_prime_first_l1]
      rw [if_neg (by rw [decide_eq_true_eq]; omega)]) i 0 [] (by omega) rfl
  have g1' : loopM (fun s : Int × List (List Int) => impl_prime_first_l1 (i : Int) p s.1 s.2) (0, []) = some s := g1
  simp only [impl_prime_first, g1', g2, Option.bind_some]
theorem rd_range {f : Nat → List Int} {n j : Nat} (h : j < n) : rd ((List.range n).map f) j = f j := by simp [rd, h]
theorem productL_is {p i : Nat} (hp : isP p = true) (hi0 : p ^ i ≤ 400000) (second : Bool) : impl_prime_productOf p ((List.range i).map (facL p i second)) = some (match fac p (facL p i second) i with | none => (vrep 64 0, 3) | some o => (pad o, 0)) := by
  have hp2 := isP_pos hp
  have hi := exp_small (show 2 ≤ p by omega) hi0
  rw [product_is hp (by simp; omega) fun j hj => by
    simp at hj
    rw [rd_range hj]
    exact facL_ok (by omega) hi0 second hj]
  simp only [List.length_map, List.length_range]
  rw [fac_congr i fun j hj => rd_range hj]
end Go.Proofs.Ytgodhgbnjlflmaa
/- Polynomials modulo p are a ring: products go along with sums, in any order. -/
namespace Go.Abs

theorem sumTo_add (f g : Nat → Int) : ∀ n, sumTo n (fun i => f i + g i) = sumTo n f + sumTo n g
  | 0 => rfl
  | n + 1 => by simp only [sumTo, sumTo_add f g n]; omega
theorem sumTo_mul (c : Int) (f : Nat → Int) : ∀ n, sumTo n (fun i => c * f i) = c * sumTo n f
  | 0 => by simp [sumTo]
  | n + 1 => by simp only [sumTo, sumTo_mul c f n, Int.mul_add]
theorem sumTo_mul' (c : Int) (f : Nat → Int) (n : Nat) : sumTo n (fun i => f i * c) = sumTo n f * c := by
  rw [Int.mul_comm, ← sumTo_mul]
  exact sumTo_congr n fun i _ => Int.mul_comm _ _
theorem sumTo_swap (f : Nat → Nat → Int) (m : Nat) : ∀ n, sumTo n (fun i => sumTo m (fun j => f i j)) = sumTo m (fun j => sumTo n (fun i => f i j))
  | 0 => (sumTo_zero m fun _ _ => rfl).symm
  | n + 1 => by simp only [sumTo]; rw [sumTo_swap f m n, ← sumTo_add]
/-- The first summand apart. -/
theorem sumTo_first (f : Nat → Int) : ∀ n, sumTo (n + 1) f = f 0 + sumTo n fun i => f (i + 1)
  | 0 => by simp [sumTo]
  | n + 1 => by
    have := sumTo_first f n
    simp only [sumTo] at this ⊢
    omega
theorem sumTo_rev (f : Nat → Int) : ∀ n, sumTo (n + 1) f = sumTo (n + 1) fun i => f (n - i)
  | 0 => rfl
  | n + 1 => by
    rw [sumTo_first (fun i => f (n + 1 - i)) (n + 1)]
    have h := sumTo_rev f n
    have e : sumTo (n + 1) (fun i => f (n + 1 - (i + 1))) = sumTo (n + 1) fun i => f (n - i) := sumTo_congr _ fun i _ => by rw [show n + 1 - (i + 1) = n - i by omega]
    rw [e, ← h]
    simp only [sumTo, Nat.sub_zero]
    omega
/-- Summands from j on. -/
theorem sumTo_from (g : Nat → Int) (j : Nat) : ∀ n, sumTo (j + n) (fun i => if j ≤ i then g (i - j) else 0) = sumTo n g
  | 0 => by rw [Nat.add_zero]; exact sumTo_zero j fun i hi => if_neg (by omega)
  | n + 1 => by
    rw [← Nat.add_assoc]
    simp only [sumTo]
    rw [sumTo_from g j n, if_pos (by omega), show j + n - j = n by omega]

theorem cv_more (a b : Nat → Int) {n k : Nat} (h : k + 1 ≤ n) : cv a b n k = conv a b k := by
  obtain ⟨m, rfl⟩ : ∃ m, n = k + 1 + m := ⟨n - (k + 1), by omega⟩
  exact sumTo_more m fun i h1 _ => if_neg (by omega)
theorem conv_comm (a b : Nat → Int) (k : Nat) : conv a b k = conv b a k := by
  unfold conv cv
  rw [sumTo_rev]
  refine sumTo_congr _ fun i hi => ?_
  rw [if_pos (by omega), if_pos (by omega), show k - (k - i) = i by omega, Int.mul_comm]
theorem conv_assoc (a b c : Nat → Int) (k : Nat) : conv (conv a b) c k = conv a (conv b c) k := by
  have h1 : conv (conv a b) c k = sumTo (k + 1) fun i => sumTo (k + 1) fun j => (if j ≤ i then a j * b (i - j) else 0) * c (k - i) := by
    unfold conv
    refine sumTo_congr _ fun i hi => ?_
    rw [if_pos (by omega), sumTo_mul']
    congr 1
    exact (cv_more a b (n := k + 1) (by omega)).symm
  have h2 : conv a (conv b c) k = sumTo (k + 1) fun j => a j * sumTo (k + 1 - j) fun l => b l * c (k - j - l) := by
    unfold conv
    refine sumTo_congr _ fun j hj => ?_
    rw [if_pos (by omega)]
    congr 1
    show sumTo (k - j + 1) (fun i => if i ≤ k - j then b i * c (k - j - i) else 0) = _
    rw [show k - j + 1 = k + 1 - j by omega]
    exact sumTo_congr _ fun l hl => if_pos (by omega)
  rw [h1, h2, sumTo_swap]
  refine sumTo_congr _ fun j hj => ?_
  rw [← sumTo_mul, ← sumTo_from (fun l => a j * (b l * c (k - j - l))) j (k + 1 - j), show j + (k + 1 - j) = k + 1 by omega]
  refine sumTo_congr _ fun i hi => ?_
  by_cases h : j ≤ i
  · rw [if_pos h, if_pos h, show k - j - (i - j) = k - i by omega, Int.mul_assoc]
  · rw [if_neg h, if_neg h, Int.zero_mul]
theorem conv_addl (a b c : Nat → Int) (s : Int) (k : Nat) : conv (fun i => a i + s * b i) c k = conv a c k + s * conv b c k := by
  unfold conv cv
  rw [← sumTo_mul, ← sumTo_add]
  refine sumTo_congr _ fun i _ => ?_
  split
  · rw [Int.add_mul, Int.mul_assoc]
  · simp

/-! Modulo p. -/
theorem sumTo_mod {p : Int} {f g : Nat → Int} : ∀ n, (∀ i, i < n → f i % p = g i % p) → sumTo n f % p = sumTo n g % p
  | 0, _ => rfl
  | n + 1, h => by
    simp only [sumTo]
    rw [Int.add_emod, sumTo_mod n fun i hi => h i (by omega), h n (by omega), ← Int.add_emod]
theorem conv_mod {p : Int} {a a' b b' : Nat → Int} (ha : ∀ i, a i % p = a' i % p) (hb : ∀ i, b i % p = b' i % p) (k : Nat) : conv a b k % p = conv a' b' k % p := by
  refine sumTo_mod _ fun i _ => ?_
  split
  · rw [Int.mul_emod, ha, hb, ← Int.mul_emod]
  · rfl
theorem Row.mod {p : Int} {l : List Int} (h : Row p l) (hp : 0 < p) (i : Nat) : Abs.rd l i % p = Abs.rd l i := Int.emod_eq_of_lt (h.rd hp i).1 (h.rd hp i).2

theorem mul_comm' (p : Int) (a b : List Int) : mul p a b = mul p b a := by
  unfold mul
  rw [Nat.add_comm]
  exact ofF_congr fun i _ => by rw [conv_comm]
theorem mul_assoc' {p : Int} (hp : 0 < p) (a b c : List Int) : mul p (mul p a b) c = mul p a (mul p b c) := by
  refine row_ext (mul_row hp _ _) (mul_row hp _ _) fun i => ?_
  rw [mul_rd, mul_rd]
  rw [conv_mod (a' := conv (rd a) (rd b)) (b' := rd c) (fun j => by rw [mul_rd, Int.emod_emod]) (fun _ => rfl), conv_assoc]
  exact conv_mod (fun _ => rfl) (fun j => by rw [mul_rd, Int.emod_emod]) i
theorem conv_one (a : Nat → Int) (i : Nat) : conv a (rd [1]) i = a i := by
  rw [conv_comm]
  unfold conv cv
  rw [sumTo_first, if_pos (by omega), sumTo_zero i fun j hj => ?_]
  · simp [rd]
  · rw [show rd ([1] : List Int) (j + 1) = 0 from rd_ge (by simp)]; simp
theorem mul_one' {p : Int} (hp : 0 < p) {a : List Int} (ha : Row p a) : mul p a [1] = a :=
  row_ext (mul_row hp _ _) ha fun i => by rw [mul_rd, conv_one, ha.mod hp]
theorem one_mul' {p : Int} (hp : 0 < p) {a : List Int} (ha : Row p a) : mul p [1] a = a := by rw [mul_comm', mul_one' hp ha]
theorem comb_mul {p : Int} (hp : 0 < p) (a b c : List Int) (k : Int) : mul p (comb p a b k) c = comb p (mul p a c) (mul p b c) k := by
  refine row_ext (mul_row hp _ _) (comb_row hp _ _ _) fun i => ?_
  rw [mul_rd, comb_rd, mul_rd, mul_rd, conv_mod (a' := fun i => rd a i + k * rd b i) (b' := rd c) (fun j => by rw [comb_rd, Int.emod_emod]) (fun _ => rfl), conv_addl]
  rw [Int.add_emod (conv (rd a) (rd c) i % p), Int.emod_emod, Int.mul_emod k (conv (rd b) (rd c) i % p), Int.emod_emod, ← Int.mul_emod, ← Int.add_emod]
theorem mul_comb {p : Int} (hp : 0 < p) (a b c : List Int) (k : Int) : mul p c (comb p a b k) = comb p (mul p c a) (mul p c b) k := by
  rw [mul_comm', comb_mul hp, mul_comm' p a, mul_comm' p b]
theorem comb_nil {p : Int} (hp : 0 < p) {a : List Int} (ha : Row p a) (k : Int) : comb p a [] k = a :=
  row_ext (comb_row hp _ _ _) ha fun i => by rw [comb_rd, rd_nil, Int.mul_zero, Int.add_zero, ha.mod hp]

/-! Products of lists, as long as their degrees are not too great. -/
def degs : List (List Int) → Nat
  | [] => 0
  | b :: M => (b.length - 1) + degs M
theorem degs_app : ∀ (M N : List (List Int)), degs (M ++ N) = degs M + degs N
  | [], N => by simp [degs]
  | b :: M, N => by simp [degs, degs_app M N]; omega
def prodF (p : Int) (o : List Int) (M : List (List Int)) : List Int := M.foldl (mul p) o
theorem prodF_row {p : Int} (hp : isP p = true) : ∀ (M : List (List Int)) (o : List Int), Row p o → o.length ≠ 0 → (∀ b ∈ M, Row p b ∧ b.length ≠ 0) → Row p (prodF p o M) ∧ (prodF p o M).length = o.length + degs M
  | [], o, ho, h0, _ => ⟨ho, by simp [prodF, degs]⟩
  | b :: M, o, ho, h0, hM => by
    have hp2 := isP_pos hp
    obtain ⟨hb, hb0⟩ := hM b (by simp)
    have hl := mul_len_is hp ho hb h0 hb0
    obtain ⟨h1, h2⟩ := prodF_row hp M (mul p o b) (mul_row (by omega) _ _) (by omega) fun c hc => hM c (by simp [hc])
    exact ⟨h1, by show (prodF p (mul p o b) M).length = _; rw [h2, hl]; simp only [degs]; omega⟩
theorem prodF_app (p : Int) (o : List Int) (M N : List (List Int)) : prodF p o (M ++ N) = prodF p (prodF p o M) N := List.foldl_append
theorem prodF_mul {p : Int} (hp : 0 < p) : ∀ (M : List (List Int)) (o q : List Int), prodF p (mul p o q) M = mul p o (prodF p q M)
  | [], _, _ => rfl
  | b :: M, o, q => by
    show prodF p (mul p (mul p o q) b) M = mul p o (prodF p (mul p q b) M)
    rw [mul_assoc' hp, prodF_mul hp M]
end Go.Abs
/- Products that are told as long as their degrees are not too great, in closed form. -/
namespace Go.Proofs.Ytgodhgbnjlflmaa
open Go.Abs

theorem fac_closed {p : Int} (hp : isP p = true) (L : Nat → List Int) : ∀ n, (∀ j, j < n → Row p (L j) ∧ (L j).length ≠ 0) →
    fac p L n = if degs ((List.range n).map L) ≤ 63 then some (prodF p [1] ((List.range n).map L)) else none
  | 0, _ => by simp [fac, degs, prodF]
  | n + 1, hL => by
    have hp2 := isP_pos hp
    have ih := fac_closed hp L n fun j hj => hL j (by omega)
    obtain ⟨h1, h2⟩ := hL n (by omega)
    have hM : ∀ b ∈ (List.range n).map L, Row p b ∧ b.length ≠ 0 := by
      intro b hb
      simp only [List.mem_map, List.mem_range] at hb
      obtain ⟨j, hj, rfl⟩ := hb
      exact hL j (by omega)
    obtain ⟨h3, h4⟩ := prodF_row hp ((List.range n).map L) [1] (row_one (by omega)) (by simp) hM
    simp only [fac, ih]
    rw [List.range_succ, List.map_append, degs_app, prodF_app]
    simp only [List.map_cons, List.map_nil, degs, Nat.add_zero]
    by_cases h : degs ((List.range n).map L) ≤ 63
    · rw [if_pos h]
      simp only [h4, List.length_singleton]
      by_cases h5 : degs ((List.range n).map L) + ((L n).length - 1) ≤ 63
      · rw [if_pos h5, if_neg (by omega)]; rfl
      · rw [if_neg h5, if_pos (by omega)]
    · rw [if_neg h, if_neg (by omega)]
theorem fac_list {p : Int} (hp : isP p = true) {M : List (List Int)} (hM : ∀ b ∈ M, Row p b ∧ b.length ≠ 0) : fac p (fun j => rd M j) M.length = if degs M ≤ 63 then some (prodF p [1] M) else none := by
  have e : (List.range M.length).map (fun j => rd M j) = M := by
    apply List.ext_getElem (by simp)
    intro i h1 h2
    simp [rd, h2]
  rw [fac_closed hp _ _ fun j hj => hM _ (by rw [show rd M j = M[j] by simp [rd, hj]]; exact List.getElem_mem _), e]
end Go.Proofs.Ytgodhgbnjlflmaa
/- The polynomial with a number. -/
namespace Go.Proofs.Ytgodhgbnjlflmaa
open Go.Abs

theorem numbered_loop {p : Nat} (hp : 2 ≤ p) : ∀ s : Int × List Int, (∃ n : Nat, s.1 = n ∧ s.2.length + n ≤ 1000000000000) → ∃ r, loopM (fun s : Int × List Int => impl_prime_numbered_l1 p s.1 s.2) s = some r ∧ ∀ n : Nat, s.1 = n → r = s.2 ++ digs p n := by
  refine loopM_ind (fun (s : Int × List Int) => ∃ n : Nat, s.1 = n ∧ s.2.length + n ≤ 1000000000000) (fun (s : Int × List Int) (r : List Int) => ∀ n : Nat, s.1 = n → r = s.2 ++ digs p n) (fun (s : Int × List Int) => s.1.toNat) ?_
  rintro ⟨x, l⟩ ⟨n, hx, h2⟩
  simp only at hx h2
  subst hx
  by_cases hn : n = 0
  · right
    subst hn
    refine ⟨l, by simp [impl_prime_numbered_l1], fun m hm => ?_⟩
    have : m = 0 := by simpa using hm.symm
    subst this
    rw [digs_zero]; simp
  · left
    have hlt : n / p < n := Nat.div_lt_self (by omega) hp
    have e1 : Int.tdiv (n : Int) p = ((n / p : Nat) : Int) := rfl
    have e2 : Int.tmod (n : Int) p = ((n % p : Nat) : Int) := rfl
    have ed := digs_pos hp (show 0 < n by omega)
    generalize n / p = q at hlt e1 ed
    generalize n % p = d at e2 ed
    refine ⟨((q : Int), l ++ [(d : Int)]), ?_, ⟨q, rfl, by simp only [List.length_append, List.length_singleton]; omega⟩, by simp only [Int.toNat_natCast]; exact hlt, fun r hr m hm => ?_⟩
    · simp only [impl_prime_numbered_l1]
      rw [if_pos (by simp; omega), ifp_pos (by omega), ifp_pos (by simp; omega), ifp_pos (by omega), e1, e2, wrap64 (by omega) (by omega)]
    · have : m = n := by have : (n : Int) = m := hm; omega
      subst this
      rw [hr q rfl, ed]
      simp

theorem numbered_is {p n : Nat} (hp : 2 ≤ p) (hn : n ≤ 1000000000000) : impl_prime_numbered p n = some (digs p n) := by
  obtain ⟨l, h3, h4⟩ := numbered_loop hp ((n : Int), []) ⟨n, rfl, by simp; omega⟩
  have e := h4 n rfl
  simp only [List.nil_append] at e
  simp [impl_prime_numbered, h3, e]

theorem of_loop {p : Nat} (hp : 2 ≤ p) (hp2 : p ≤ 256) : ∀ s : Int × Int × V64, (∃ (n : Nat) (l : List Int), s.1 = n ∧ n ≤ 1000000000000 ∧ s.2.1 = (l.length : Nat) ∧ s.2.2 = pad l ∧ l.length + (digs p n).length ≤ 64) →
    ∃ r, loopM (fun s : Int × Int × V64 => spec_l01Of_l1 p s.1 s.2.1 s.2.2) s = some r ∧ ∀ (n : Nat) (l : List Int), s.1 = n → s.2.1 = (l.length : Nat) → s.2.2 = pad l → r = pad (l ++ digs p n) := by
  refine loopM_ind (fun (s : Int × Int × V64) => ∃ (n : Nat) (l : List Int), s.1 = n ∧ n ≤ 1000000000000 ∧ s.2.1 = (l.length : Nat) ∧ s.2.2 = pad l ∧ l.length + (digs p n).length ≤ 64)
    (fun (s : Int × Int × V64) (r : V64) => ∀ (n : Nat) (l : List Int), s.1 = n → s.2.1 = (l.length : Nat) → s.2.2 = pad l → r = pad (l ++ digs p n)) (fun (s : Int × Int × V64) => s.1.toNat) ?_
  rintro ⟨x, i, v⟩ ⟨n, l, hx, hn, hi, hv, hl⟩
  simp only at hx hi hv
  subst hx hi hv
  by_cases h : n = 0
  · right
    subst h
    refine ⟨pad l, by simp [spec_l01Of_l1], fun m k hm hk hv => ?_⟩
    have : m = 0 := by have : ((0 : Nat) : Int) = m := hm; omega
    subst this
    rw [digs_zero, List.append_nil]; exact hv
  · left
    have hlt : n / p < n := Nat.div_lt_self (by omega) hp
    have e1 : Int.tdiv (n : Int) p = ((n / p : Nat) : Int) := rfl
    have e2 : Int.tmod (n : Int) p = ((n % p : Nat) : Int) := rfl
    have ed := digs_pos hp (show 0 < n by omega)
    have hm := Nat.mod_lt n (show p > 0 by omega)
    generalize n / p = q at hlt e1 ed
    generalize n % p = d at e2 ed hm
    rw [ed] at hl
    simp only [List.length_cons] at hl
    refine ⟨((q : Int), ((l ++ [(d : Int)]).length : Nat), pad (l ++ [(d : Int)])), ?_, ⟨q, l ++ [(d : Int)], rfl, by omega, rfl, rfl, by simp; omega⟩, by simp only [Int.toNat_natCast]; exact hlt, fun r hr m k hm hk hv => ?_⟩
    · simp only [spec_l01Of_l1]
      rw [if_pos (by simp; omega), ifp_pos (by omega), ifp_pos (by omega), ifp_pos (by omega), e1, e2, wrap64 (by omega) (by omega), wrap64 (by omega) (by omega), wrap8 (by omega) (by omega)]
      rw [Int.toNat_natCast, pad_set l d (by omega)]
      simp
    · have : m = n := by have : (n : Int) = m := hm; omega
      subst this
      have h1 := hr q (l ++ [(d : Int)]) rfl rfl rfl
      rw [h1, ed]
      simp only at hv hk
      have hkl : k.length = l.length := by omega
      refine vec_ext fun j hj => ?_
      rw [pad_rd _ hj, pad_rd _ hj, List.append_assoc]
      simp only [List.singleton_append]
      have hv' : ∀ j, j < 64 → l.getD j 0 = k.getD j 0 := fun j hj => by
        have := congrArg (fun v : V64 => rd v.1 j) hv
        simp only [pad_rd _ hj] at this
        exact this
      rw [getD_app, getD_app, hkl]
      split
      · exact hv' j hj
      · rfl

theorem of_is {p n : Nat} (hp : 2 ≤ p) (hp2 : p ≤ 256) (hn : n ≤ 1000000000000) : spec_l01Of p n = some (pad (digs p n)) := by
  have hl := digs_len40 hp hn
  obtain ⟨r, h1, h2⟩ := of_loop hp hp2 ((n : Int), 0, pad []) ⟨n, [], rfl, hn, rfl, rfl, by simp; omega⟩
  have e := h2 n [] rfl rfl rfl
  simp only [spec_l01Of, ← pad_nil, h1, e, Option.bind_some, List.nil_append]
end Go.Proofs.Ytgodhgbnjlflmaa
/- Primes. -/
namespace Go.Proofs.Ytgodhgbnjlflmaa
open Go.Abs

theorem isPrime_spec (p : Int) : spec_l01Prime p = some (isP p) := by
  unfold spec_l01Prime isP
  by_cases h1 : p = 2 <;> by_cases h2 : p = 3 <;> by_cases h3 : p = 5 <;> simp [h1, h2, h3]

theorem isPrime_impl (p : Int) : impl_isPrime p = some (isP p) := by
  unfold impl_isPrime isP
  by_cases h1 : p = 2 <;> by_cases h2 : p = 3 <;> by_cases h3 : p = 5 <;> simp [h1, h2, h3]
end Go.Proofs.Ytgodhgbnjlflmaa
/- Numbers in a range. -/
namespace Go.Proofs.Ytgodhgbnjlflmaa
open Go.Abs

theorem range_spec (p n a b : Int) : spec_l04Range p n a b = some (if isP p then (if a ≤ n ∧ n ≤ b then 0 else 2) else 1) := by
  unfold spec_l04Range spec_l01In
  rw [isPrime_spec]
  cases isP p <;> simp
  by_cases h1 : a ≤ n <;> by_cases h2 : n ≤ b <;> simp [h1, h2]

theorem range_impl (p n a b : Int) : impl_numberCode p n a b = some (if isP p then (if a ≤ n ∧ n ≤ b then 0 else 2) else 1) := by
  unfold impl_numberCode impl_within
  rw [isPrime_impl]
  cases isP p <;> simp
  by_cases h1 : a ≤ n <;> by_cases h2 : n ≤ b <;> simp [h1, h2]
end Go.Proofs.Ytgodhgbnjlflmaa
/- Comparing polynomials. -/
namespace Go.Proofs.Ytgodhgbnjlflmaa
open Go.Abs

theorem eqPoly_loop (a b : V64) : ∀ s : Int, (∃ i : Nat, s = i ∧ i ≤ 64) → ∃ r, loopM (fun s : Int => laws_eqPoly_l1 a b s) s = some r ∧ ∀ i : Nat, s = i → (r = .inl () ∧ ∀ j, i ≤ j → j < 64 → rd a.1 j = rd b.1 j) ∨ (r = .inr false ∧ ∃ j, j < 64 ∧ rd a.1 j ≠ rd b.1 j) := by
  refine loopM_ind (fun (s : Int) => ∃ i : Nat, s = i ∧ i ≤ 64) (fun (s : Int) (r : Unit ⊕ Bool) => ∀ i : Nat, s = i → (r = .inl () ∧ ∀ j, i ≤ j → j < 64 → rd a.1 j = rd b.1 j) ∨ (r = .inr false ∧ ∃ j, j < 64 ∧ rd a.1 j ≠ rd b.1 j)) (fun s => 64 - s.toNat) ?_
  rintro s ⟨i, rfl, hi⟩
  by_cases h : i = 64
  · subst h
    right
    refine ⟨.inl (), by simp [laws_eqPoly_l1], fun k hk => .inl ⟨rfl, fun j h1 h2 => by omega⟩⟩
  · by_cases e : rd a.1 i = rd b.1 i
    · left
      refine ⟨((i + 1 : Nat) : Int), ?_, ⟨i + 1, rfl, by omega⟩, by simp; omega, fun r hr k hk => ?_⟩
      · simp only [laws_eqPoly_l1]
        rw [if_pos (by simp; omega), ifp_pos (by omega), ifp_pos (by omega)]
        simp only [Int.toNat_natCast, e, bne_self_eq_false, Bool.false_eq_true, if_false]
        rw [wrap64 (by omega) (by omega)]; rfl
      · have hki : k = i := by omega
        subst hki
        rcases hr (k + 1) rfl with ⟨h1, h2⟩ | h1
        · refine .inl ⟨h1, fun j h3 h4 => ?_⟩
          by_cases hj : j = k
          · subst hj; exact e
          · exact h2 j (by omega) h4
        · exact .inr h1
    · right
      refine ⟨.inr false, ?_, fun k hk => .inr ⟨rfl, i, by omega, e⟩⟩
      simp only [laws_eqPoly_l1]
      rw [if_pos (by simp; omega), ifp_pos (by omega), ifp_pos (by omega)]
      simp [e]

theorem eqPoly_is (a b : V64) : laws_eqPoly a b = some (decide (a = b)) := by
  obtain ⟨r, h1, h2⟩ := eqPoly_loop a b 0 ⟨0, rfl, by omega⟩
  unfold laws_eqPoly
  rcases h2 0 rfl with ⟨rfl, h⟩ | ⟨rfl, j, h3, h4⟩
  · have : a = b := vec_ext fun j hj => h j (by omega) hj
    rw [h1]; simp [this]
  · have : a ≠ b := fun e => h4 (by rw [e])
    rw [h1]; simp [this]
end Go.Proofs.Ytgodhgbnjlflmaa
/- FnExactCarlitzFactorial. -/
namespace Go.Proofs.Ytgodhgbnjlflmaa
open Go.Abs

def firstL (q i : Nat) : List (List Int) := (List.range i).map (facL q i false)
def repL : Nat → List (List Int) → List (List Int)
  | 0, _ => []
  | c + 1, F => F ++ repL c F
theorem repL_end : ∀ (c : Nat) (F : List (List Int)), repL (c + 1) F = repL c F ++ F
  | 0, F => by simp [repL]
  | c + 1, F => by
    have := repL_end c F
    simp only [repL] at this ⊢
    rw [this, ← List.append_assoc, this, List.append_assoc]
/-- The polynomials whose product is the factorial of a number with these digits. -/
def car (q : Nat) : Nat → List Int → List (List Int)
  | _, [] => []
  | i, d :: ds => repL d.toNat (firstL q i) ++ car q (i + 1) ds
theorem car_app (q : Nat) : ∀ (A B : List Int) (i : Nat), car q i (A ++ B) = car q i A ++ car q (i + A.length) B
  | [], B, i => by simp [car]
  | d :: A, B, i => by
    simp only [List.cons_append, car, car_app q A B (i + 1), List.length_cons, List.append_assoc]
    rw [show i + 1 + A.length = i + (A.length + 1) by omega]
theorem repL_len : ∀ (c : Nat) (F : List (List Int)), (repL c F).length = c * F.length
  | 0, _ => by simp [repL]
  | c + 1, F => by simp [repL, repL_len c F, Nat.succ_mul, Nat.add_comm]
theorem repL_mem : ∀ (c : Nat) (F : List (List Int)) (b : List Int), b ∈ repL c F → b ∈ F
  | 0, _, _, h => by simp [repL] at h
  | c + 1, F, b, h => by
    simp only [repL, List.mem_append] at h
    rcases h with h | h
    · exact h
    · exact repL_mem c F b h
theorem firstL_ok {q : Nat} (hq : 2 ≤ q ∧ q ≤ 7) {i : Nat} (hi : q ^ i ≤ 400000) : ∀ b ∈ firstL q i, Row (q : Int) b ∧ b.length ≠ 0 ∧ b.length ≤ 500000 := by
  intro b hb
  simp only [firstL, List.mem_map, List.mem_range] at hb
  obtain ⟨j, hj, rfl⟩ := hb
  exact facL_ok hq hi false hj

section
variable {q : Nat} (hp : isP (q : Int) = true)
include hp
theorem prod_step {A F : List (List Int)} (hA : ∀ b ∈ A, Row (q : Int) b ∧ b.length ≠ 0) (hF : ∀ b ∈ F, Row (q : Int) b ∧ b.length ≠ 0) : mul q (prodF q [1] A) (prodF q [1] F) = prodF q [1] (A ++ F) := by
  have hp2 := isP_pos hp
  obtain ⟨h1, _⟩ := prodF_row hp A [1] (row_one (by omega)) (by simp) hA
  rw [← prodF_mul (by omega), mul_one' (by omega) h1, prodF_app]
/-- The inner loop of the reference. -/
theorem carS_inner {i : Nat} (hi : q ^ i ≤ 400000) : ∀ (c : Nat) (A : List (List Int)), c ≤ 1000 → (∀ b ∈ A, Row (q : Int) b ∧ b.length ≠ 0) → degs A ≤ 63 →
    loopM (fun s : Int × V64 => spec_CarlitzFactorial_l2 q i s.1 s.2) ((c : Int), pad (prodF q [1] A)) = some (if degs (A ++ repL c (firstL q i)) ≤ 63 then .inl (pad (prodF q [1] (A ++ repL c (firstL q i)))) else .inr (vrep 64 0, 3))
  | 0, A, _, hA, hd => by
    have step : spec_CarlitzFactorial_l2 q i ((0 : Nat) : Int) (pad (prodF q [1] A)) = some (.inr (.inl (pad (prodF q [1] A)))) := by
      simp only [spec_CarlitzFactorial_l2]
      rw [if_neg (by rw [decide_eq_true_eq]; omega)]
    rw [loopM_eq]
    simp only [step, Option.bind_some, repL, List.append_nil, if_pos hd]
  | c + 1, A, hc, hA, hd => by
    have hp2 := isP_pos hp
    have hFo := firstL_ok (q := q) (by omega) hi
    have hF : ∀ b ∈ firstL q i, Row (q : Int) b ∧ b.length ≠ 0 := fun b hb => ⟨(hFo b hb).1, (hFo b hb).2.1⟩
    obtain ⟨h1, h2⟩ := prodF_row hp A [1] (row_one (by omega)) (by simp) hA
    obtain ⟨h3, h4⟩ := prodF_row hp (firstL q i) [1] (row_one (by omega)) (by simp) hF
    simp only [List.length_singleton] at h2 h4
    have hfac : fac q (facL q i false) i = if degs (firstL q i) ≤ 63 then some (prodF q [1] (firstL q i)) else none :=
      fac_closed hp _ i fun j hj => ⟨(facL_ok (by omega) hi false hj).1, (facL_ok (by omega) hi false hj).2.1⟩
    have hS := factorial_is hp hi false
    rw [hfac] at hS
    have hcat : A ++ repL (c + 1) (firstL q i) = (A ++ firstL q i) ++ repL c (firstL q i) := by simp [repL]
    have hbig : degs (A ++ firstL q i) ≤ degs (A ++ repL (c + 1) (firstL q i)) := by rw [hcat, degs_app (A ++ firstL q i)]; omega
    have hdapp := degs_app A (firstL q i)
    by_cases hf : degs (firstL q i) ≤ 63
    · rw [if_pos hf] at hS
      by_cases ht : degs A + degs (firstL q i) ≤ 63
      · have step : spec_CarlitzFactorial_l2 q i ((c + 1 : Nat) : Int) (pad (prodF q [1] A)) = some (.inl ((c : Int), pad (prodF q [1] (A ++ firstL q i)))) := by
          simp only [spec_CarlitzFactorial_l2]
          rw [if_pos (decide_eq_true (by omega)), hS]
          simp only [Option.bind_some, Bool.not_true, Bool.false_eq_true, if_false]
          rw [times_pad ⟨by omega, by omega⟩ h1 h3 (by omega) (by omega) (by omega), prod_step hp hA hF]
          simp only [Option.bind_some, Bool.not_true, Bool.false_eq_true, if_false]
          rw [wrap64 (by omega) (by omega)]
          congr 3
          omega
        rw [loopM_eq]
        simp only [step, Option.bind_some]
        rw [carS_inner hi c (A ++ firstL q i) (by omega) (fun b hb => by
          rcases List.mem_append.1 hb with h | h
          · exact hA b h
          · exact hF b h) (by omega), hcat]
      · have step : spec_CarlitzFactorial_l2 q i ((c + 1 : Nat) : Int) (pad (prodF q [1] A)) = some (.inr (.inr (vrep 64 0, 3))) := by
          simp only [spec_CarlitzFactorial_l2]
          rw [if_pos (decide_eq_true (by omega)), hS]
          simp only [Option.bind_some, Bool.not_true, Bool.false_eq_true, if_false]
          rw [times_pad_no h1 h3 (by omega) (by omega) (by omega) (by omega) (by omega)]
          rfl
        rw [loopM_eq]
        simp only [step, Option.bind_some]
        rw [if_neg (by omega)]
    · rw [if_neg hf] at hS
      have step : spec_CarlitzFactorial_l2 q i ((c + 1 : Nat) : Int) (pad (prodF q [1] A)) = some (.inr (.inr (vrep 64 0, 3))) := by
        simp only [spec_CarlitzFactorial_l2]
        rw [if_pos (decide_eq_true (by omega)), hS]
        rfl
      rw [loopM_eq]
      simp only [step, Option.bind_some]
      rw [if_neg (by omega)]
theorem carS_outer : ∀ (n i : Nat) (A : List (List Int)), n * q ^ i ≤ 1000 → i ≤ 1000 → (∀ b ∈ A, Row (q : Int) b ∧ b.length ≠ 0) → degs A ≤ 63 →
    loopM (fun s : Int × Int × V64 => spec_CarlitzFactorial_l1 q s.1 s.2.1 s.2.2) ((n : Int), (i : Int), pad (prodF q [1] A)) = some (if degs (A ++ car q i (digs q n)) ≤ 63 then .inl (pad (prodF q [1] (A ++ car q i (digs q n)))) else .inr (vrep 64 0, 3)) := by
  intro n
  induction n using Nat.strongRecOn with
  | ind n ih =>
    intro i A hn hi hA hd
    have hp2 := isP_pos hp
    by_cases h0 : n = 0
    · subst h0
      have step : spec_CarlitzFactorial_l1 q ((0 : Nat) : Int) (i : Int) (pad (prodF q [1] A)) = some (.inr (.inl (pad (prodF q [1] A)))) := by
        simp only [spec_CarlitzFactorial_l1]
        rw [if_neg (by rw [decide_eq_true_eq]; omega)]
      rw [loopM_eq]
      simp only [step, Option.bind_some, digs_zero, car, List.append_nil, if_pos hd]
    · have hpos : 1 ≤ q ^ i := ppow_pos (by omega) i
      have hqi : q ^ i ≤ 1000 := by
        have := Nat.mul_le_mul_right (q ^ i) (show 1 ≤ n by omega)
        omega
      have hn1000 : n ≤ 1000 := by
        have := Nat.mul_le_mul_left n hpos
        omega
      have hi9 : i ≤ 9 := by
        rcases Nat.lt_or_ge 9 i with h | h
        · have h2 : q ^ 10 ≤ q ^ i := Nat.pow_le_pow_right (by omega) h
          have h3 : 2 ^ 10 ≤ q ^ 10 := Nat.pow_le_pow_left (by omega) 10
          have h4 : (2 : Nat) ^ 10 = 1024 := by decide
          omega
        · exact h
      have hdig := digs_pos (show 2 ≤ q by omega) (show 0 < n by omega)
      have hcar : car q i (digs q n) = repL (n % q) (firstL q i) ++ car q (i + 1) (digs q (n / q)) := by
        rw [hdig]
        show repL ((n % q : Nat) : Int).toNat (firstL q i) ++ _ = _
        rw [Int.toNat_natCast]
      have hmod : n % q ≤ 1000 := Nat.le_trans (Nat.mod_le _ _) hn1000
      have hin := carS_inner hp (i := i) (by omega) (n % q) A hmod hA hd
      have e1 : Int.tmod (n : Int) q = ((n % q : Nat) : Int) := rfl
      have e2 : IntKind.i64.wrap (Int.tdiv (n : Int) q) = ((n / q : Nat) : Int) := by
        have h : Int.tdiv (n : Int) q = ((n / q : Nat) : Int) := rfl
        have hw : ∀ l : Nat, l ≤ 1000 → IntKind.i64.wrap (l : Int) = (l : Int) := fun l hl => wrap64 (by omega) (by omega)
        rw [h]
        exact hw _ (Nat.le_trans (Nat.div_le_self n q) hn1000)
      have e3 : IntKind.i64.wrap ((i : Int) + 1) = ((i + 1 : Nat) : Int) := by rw [wrap64 (by omega) (by omega)]; rfl
      have hFo := firstL_ok (q := q) (i := i) (by omega) (by omega)
      have hA2 : ∀ b ∈ A ++ repL (n % q) (firstL q i), Row (q : Int) b ∧ b.length ≠ 0 := fun b hb => by
        rcases List.mem_append.1 hb with h | h
        · exact hA b h
        · have := hFo b (repL_mem _ _ _ h); exact ⟨this.1, this.2.1⟩
      rw [hcar, ← List.append_assoc]
      have hmono : degs (A ++ repL (n % q) (firstL q i)) ≤ degs (A ++ repL (n % q) (firstL q i) ++ car q (i + 1) (digs q (n / q))) := by rw [degs_app (A ++ repL (n % q) (firstL q i))]; omega
      by_cases hok : degs (A ++ repL (n % q) (firstL q i)) ≤ 63
      · rw [if_pos hok] at hin
        have step : spec_CarlitzFactorial_l1 q (n : Int) (i : Int) (pad (prodF q [1] A)) = some (.inl (((n / q : Nat) : Int), ((i + 1 : Nat) : Int), pad (prodF q [1] (A ++ repL (n % q) (firstL q i))))) := by
          simp only [spec_CarlitzFactorial_l1]
          rw [if_pos (decide_eq_true (by omega)), ifp_pos (by omega), e1, hin]
          simp only [Option.bind_some]
          rw [ifp_pos (by omega), e2, e3]
        have hlt : n / q < n := Nat.div_lt_self (by omega) (by omega)
        rw [loopM_eq]
        simp only [step, Option.bind_some]
        refine ih (n / q) hlt (i + 1) _ ?_ (by omega) hA2 hok
        rw [Nat.pow_succ, Nat.mul_comm (q ^ i), ← Nat.mul_assoc]
        have := Nat.mul_le_mul_right (q ^ i) (Nat.div_mul_le_self n q)
        omega
      · rw [if_neg hok] at hin
        have step : spec_CarlitzFactorial_l1 q (n : Int) (i : Int) (pad (prodF q [1] A)) = some (.inr (.inr (vrep 64 0, 3))) := by
          simp only [spec_CarlitzFactorial_l1]
          rw [if_pos (decide_eq_true (by omega)), ifp_pos (by omega), e1, hin]
          rfl
        rw [loopM_eq]
        simp only [step, Option.bind_some]
        rw [if_neg (by omega)]
end

theorem digs_pow {p : Nat} (hp : 2 ≤ p) : ∀ (n i : Nat), i < (digs p n).length → p ^ i ≤ n := by
  intro n
  induction n using Nat.strongRecOn with
  | ind n ih =>
    intro i hi
    rcases Nat.eq_zero_or_pos n with rfl | h0
    · rw [digs_zero] at hi; simp at hi
    · rw [digs_pos hp h0] at hi
      simp only [List.length_cons] at hi
      rcases i with _ | i
      · rw [Nat.pow_zero]; exact h0
      · have := ih (n / p) (Nat.div_lt_self h0 (by omega)) i (by omega)
        rw [Nat.pow_succ]
        exact Nat.le_trans (Nat.mul_le_mul_right p this) (Nat.div_mul_le_self n p)
/-- The program's list. -/
theorem carI_list {q n : Nat} (hp : isP (q : Int) = true) (hn : n ≤ 1000) : loopM (fun s : Int × List (List Int) => impl_CarlitzFactorial_l1 (digs q n) q s.1 s.2) (0, []) = some (car q 0 (digs q n)) ∧ (car q 0 (digs q n)).length ≤ 1000000 ∧ ∀ b ∈ car q 0 (digs q n), Row (q : Int) b ∧ b.length ≠ 0 ∧ b.length ≤ 500000 := by
  have hp2 := isP_pos hp
  have hpow := digs_pow (p := q) (by omega) n
  have hlt := digs_lt (p := q) (by omega) n
  have hlen : (digs q n).length ≤ 10 := digs_len (by omega) 10 n (by omega)
  generalize digs q n = ds at *
  have hpi : ∀ i, i < ds.length → q ^ i ≤ 400000 := fun i hi => by have := hpow i hi; omega
  have hdig : ∀ i (hi : i < ds.length), 0 ≤ ds[i] ∧ ds[i] < 7 := fun i hi => by have := hlt ds[i] (List.getElem_mem _); omega
  obtain ⟨s, g1, g2, g3, g4⟩ := loopM_for (body := fun s : Int × List (List Int) => impl_CarlitzFactorial_l1 ds q s.1 s.2) (fun i s => ((i : Int), s)) (fun s => s) ds.length
    (fun i s => s = car q 0 (ds.take i) ∧ s.length ≤ i * 7000 ∧ ∀ b ∈ s, Row (q : Int) b ∧ b.length ≠ 0 ∧ b.length ≤ 500000) (fun i s hi hI => by
      obtain ⟨rfl, hl, hm⟩ := hI
      obtain ⟨d, hd⟩ : ∃ d : Nat, ds[i] = (d : Int) := ⟨ds[i].toNat, by have := hdig i hi; omega⟩
      have hd7 : d < 7 := by have := hdig i hi; omega
      have er : rd ds i = (d : Int) := by rw [rd_lt hi, hd]
      have hF := first_is (p := q) (i := i) (by omega) (hpi i hi)
      have hFl : (firstL q i).length = i := by simp [firstL]
      obtain ⟨u, k1, k2⟩ := loopM_for (body := fun s : Int × List (List Int) => impl_CarlitzFactorial_l2 ds (i : Int) q s.1 s.2) (fun c u => ((c : Int), u)) (fun u => u) d
        (fun c u => u = car q 0 (ds.take i) ++ repL c (firstL q i)) (fun c u hc hI => by
          subst hI
          refine ⟨_, ?_, rfl⟩
          have h1 : (repL c (firstL q i)).length ≤ 7 * 10 := by rw [repL_len, hFl]; exact Nat.mul_le_mul (by omega) (by omega)
          simp only [impl_CarlitzFactorial_l2, Int.toNat_natCast, er]
          rw [if_pos (decide_eq_true (by omega)), hF]
          simp only [Option.bind_some]
          have h2 : ((List.range i).map (facL q i false)).length = i := by simp
          rw [ifp_pos (by rw [List.length_append]; omega), wrap64 (by omega) (by omega), repL_end, ← List.append_assoc]
          rfl) (fun u hI => by
          simp only [impl_CarlitzFactorial_l2, Int.toNat_natCast, er]
          rw [if_neg (by rw [decide_eq_true_eq]; omega)]) d 0 (car q 0 (ds.take i)) (by omega) (by simp [repL])
      have k1' : loopM (fun s : Int × List (List Int) => impl_CarlitzFactorial_l2 ds (i : Int) q s.1 s.2) (0, car q 0 (ds.take i)) = some u := k1
      have hcar : u = car q 0 (ds.take (i + 1)) := by
        rw [k2, List.take_succ_eq_append_getElem hi, car_app]
        simp only [car, List.length_take, Nat.min_eq_left (Nat.le_of_lt hi), Nat.zero_add, List.append_nil, hd, Int.toNat_natCast]
      refine ⟨u, ?_, hcar, ?_, fun b hb => ?_⟩
      · simp only [impl_CarlitzFactorial_l1]
        rw [if_pos (decide_eq_true (by omega)), ifp_pos (by omega), k1']
        simp only [Option.bind_some]
        rw [wrap64 (by omega) (by omega)]; rfl
      · rw [k2, List.length_append, repL_len, hFl]
        have : d * i ≤ 7 * 10 := Nat.mul_le_mul (by omega) (by omega)
        omega
      · rw [k2] at hb
        rcases List.mem_append.1 hb with h | h
        · exact hm b h
        · exact firstL_ok (by omega) (hpi i hi) b (repL_mem _ _ _ h)) (fun s hI => by
      simp only [impl_CarlitzFactorial_l1]
      rw [if_neg (by rw [decide_eq_true_eq]; omega)]) ds.length 0 [] (by omega) ⟨by simp [car], by simp, by simp⟩
  rw [List.take_length] at g2
  subst g2
  exact ⟨g1, by omega, g4⟩

theorem carlitz_law (p n : Int) : laws_FnExactCarlitzFactorial p n = some true := by
  have key : ∃ r, spec_CarlitzFactorial p n = some r ∧ impl_CarlitzFactorial p n = some r := by
    unfold spec_CarlitzFactorial impl_CarlitzFactorial
    rw [range_spec, range_impl]
    simp only [Option.bind_some]
    cases hp : isP p with
    | false => exact ⟨_, by simp; rfl, by simp⟩
    | true =>
      have hp2 := isP_pos hp
      by_cases hn : 0 ≤ n ∧ n ≤ 1000
      · obtain ⟨q, rfl⟩ : ∃ q : Nat, p = q := ⟨p.toNat, by omega⟩
        obtain ⟨k, rfl⟩ : ∃ k : Nat, n = k := ⟨n.toNat, by omega⟩
        have hS := carS_outer hp k 0 [] (by simp; omega) (by omega) (by simp) (by simp [degs])
        have hS' : loopM (fun s : Int × Int × V64 => spec_CarlitzFactorial_l1 q s.1 s.2.1 s.2.2) ((k : Int), 0, pad [1]) = _ := hS
        obtain ⟨h1, h2, h3⟩ := carI_list hp (show k ≤ 1000 by omega)
        simp only [hn, and_self, if_true, bne_self_eq_false, Bool.false_eq_true, if_false, one_is, Option.bind_some, hS', numbered_is (show 2 ≤ q by omega) (show k ≤ 1000000000000 by omega), h1, List.nil_append]
        generalize car q 0 (digs q k) = M at *
        rw [product_is hp h2 fun j hj => h3 _ (by rw [show rd M j = M[j] by simp [rd, hj]]; exact List.getElem_mem _), fac_list hp fun b hb => ⟨(h3 b hb).1, (h3 b hb).2.1⟩]
        by_cases hd : degs M ≤ 63
        · simp only [if_pos hd, Option.bind_some]
          exact ⟨_, rfl, rfl⟩
        · simp only [if_neg hd, Option.bind_some]
          exact ⟨_, rfl, rfl⟩
      · exact ⟨_, by simp [hn]; rfl, by simp [hn]⟩
  obtain ⟨r, h1, h2⟩ := key
  unfold laws_FnExactCarlitzFactorial
  rw [h1, h2]
  simp [eqPoly_is]
end Go.Proofs.Ytgodhgbnjlflmaa
