/- Own texts, put together. -/
import Derived.Test.YtpjdjfhbfcekaaaAbsX
import Derived.Test.YtpjdjfhbfcekaaaFn1
import Derived.Test.YtpjdjfhbfcekaaaFn2
import Derived.Test.YtpjdjfhbfcekaaaFn3
import Derived.Test.YtpjdjfhbfcekaaaFn4
import Derived.Test.YtpjdjfhbfcekaaaFn5
import Derived.Test.YtpjdjfhbfcekaaaFn6
set_option linter.unusedSimpArgs false
set_option linter.unusedVariables false
/- Plain facts on loops and wraps. -/
namespace Go.Abs

/-- A loop with a measure ends, and what it leaves. -/
theorem loopM_ind {α β : Type} {body : α → Option (α ⊕ β)} (I : α → Prop) (Post : α → β → Prop) (m : α → Nat)
    (step : ∀ s, I s → (∃ s', body s = some (.inl s') ∧ I s' ∧ m s' < m s ∧ ∀ r, Post s' r → Post s r) ∨ ∃ r, body s = some (.inr r) ∧ Post s r) :
    ∀ s, I s → ∃ r, loopM body s = some r ∧ Post s r := by
  have key : ∀ n s, m s ≤ n → I s → ∃ r, loopM body s = some r ∧ Post s r := by
    intro n
    induction n with
    | zero =>
      intro s hn hs
      rcases step s hs with ⟨s', h1, h2, h3, h4⟩ | ⟨r, h1, h2⟩
      · omega
      · exact ⟨r, by rw [loopM_eq, h1]; rfl, h2⟩
    | succ n ih =>
      intro s hn hs
      rcases step s hs with ⟨s', h1, h2, h3, h4⟩ | ⟨r, h1, h2⟩
      · obtain ⟨r, k1, k2⟩ := ih s' (by omega) h2
        exact ⟨r, by rw [loopM_eq, h1]; exact k1, h4 r k2⟩
      · exact ⟨r, by rw [loopM_eq, h1]; rfl, h2⟩
  exact fun s hs => key (m s) s (Nat.le_refl _) hs

theorem wrap64 {n : Int} (h1 : -9223372036854775808 ≤ n) (h2 : n < 9223372036854775808) : IntKind.i64.wrap n = n := by
  simp only [IntKind.wrap, IntKind.signed, IntKind.bits]
  simp
  omega
theorem wrap8 {n : Int} (h1 : 0 ≤ n) (h2 : n < 256) : IntKind.u8.wrap n = n := by
  simp only [IntKind.wrap, IntKind.signed, IntKind.bits]
  simp
  omega

/-- A loop that counts from i to n. -/
theorem loopM_for {α β σ : Type} {body : α → Option (α ⊕ β)} (at' : Nat → σ → α) (out : σ → β) (n : Nat) (I : Nat → σ → Prop)
    (step : ∀ i s, i < n → I i s → ∃ s', body (at' i s) = some (.inl (at' (i + 1) s')) ∧ I (i + 1) s') (stop : ∀ s, I n s → body (at' n s) = some (.inr (out s))) :
    ∀ (m i : Nat) (s : σ), i + m = n → I i s → ∃ s', loopM body (at' i s) = some (out s') ∧ I n s'
  | 0, i, s, h, hI => by
    have : i = n := by omega
    subst this
    exact ⟨s, by rw [loopM_eq, stop s hI]; rfl, hI⟩
  | m + 1, i, s, h, hI => by
    obtain ⟨s', h1, h2⟩ := step i s (by omega) hI
    obtain ⟨s'', h3, h4⟩ := loopM_for at' out n I step stop m (i + 1) s' (by omega) h2
    exact ⟨s'', by rw [loopM_eq, h1]; exact h3, h4⟩
end Go.Abs
/- Plain facts on arrays of 64 numbers. -/
namespace Go.Abs

abbrev V64 := Vec Int 64
def pad (l : List Int) : V64 := ⟨(List.range 64).map fun j => l.getD j 0, by simp⟩

theorem pad_rd (l : List Int) {j : Nat} (h : j < 64) : rd (pad l).1 j = l.getD j 0 := by
  simp [rd, pad, h]
theorem vec_ext {n : Nat} {a b : Vec Int n} (h : ∀ j, j < n → rd a.1 j = rd b.1 j) : a = b := by
  apply Subtype.ext
  apply List.ext_getElem
  · rw [a.2, b.2]
  · intro j h1 h2
    have := h j (by rw [a.2] at h1; exact h1)
    simpa [rd, h1, h2] using this
theorem rd_vset {n : Nat} (a : Vec Int n) (i j : Nat) (d : Int) (hi : i < n) : rd (vset a i d).1 j = if j = i then d else rd a.1 j := by
  have hl : i < a.1.length := by rw [a.2]; exact hi
  by_cases h : j = i
  · subst h; simp [rd, vset, hl]
  · rw [if_neg h]
    simp [rd, vset, Ne.symm h]
theorem rd_vrep {n : Nat} (j : Nat) (h : j < n) : rd (vrep n (0 : Int)).1 j = 0 := by
  simp [rd, vrep, h]
theorem pad_nil : pad [] = vrep 64 0 := vec_ext fun j h => by rw [pad_rd _ h, rd_vrep _ h]; simp
theorem pad_set (l : List Int) (d : Int) (h : l.length < 64) : vset (pad l) l.length d = pad (l ++ [d]) := by
  refine vec_ext fun j hj => ?_
  rw [rd_vset _ _ _ _ h, pad_rd _ hj, pad_rd _ hj]
  by_cases e : j = l.length
  · subst e; simp
  · rw [if_neg e]
    rcases Nat.lt_or_ge j l.length with h1 | h1
    · simp [h1, List.getElem?_append]
    · have h2 : l.length < j := by omega
      have h3 : (l ++ [d]).length ≤ j := by simp; omega
      rw [List.getD_eq_getElem?_getD, List.getD_eq_getElem?_getD, List.getElem?_eq_none h1, List.getElem?_eq_none h3]

theorem getD_app (l k : List Int) (j : Nat) : (l ++ k).getD j 0 = if j < l.length then l.getD j 0 else k.getD (j - l.length) 0 := by
  simp only [List.getD_eq_getElem?_getD, List.getElem?_append]
  split <;> rfl

/-- Bytes. -/
def Bytes (l : List Int) : Prop := ∀ d ∈ l, 0 ≤ d ∧ d < 256
theorem getD_byte {l : List Int} (h : Bytes l) (j : Nat) : 0 ≤ l.getD j 0 ∧ l.getD j 0 < 256 := by
  rw [List.getD_eq_getElem?_getD]
  cases e : l[j]? with
  | none => simp
  | some d => simp; exact h d (List.mem_of_getElem? e)
end Go.Abs
/- Polynomials: coefficient functions, and rows of coefficients up to the leading one. -/
namespace Go.Abs

/-! How far a row reaches. -/
def top (g : Nat → Int) : Nat → Nat
  | 0 => 0
  | n + 1 => if g n = 0 then top g n else n + 1
theorem top_le (g : Nat → Int) : ∀ n, top g n ≤ n
  | 0 => Nat.le_refl _
  | n + 1 => by simp only [top]; split; exact Nat.le_succ_of_le (top_le g n); exact Nat.le_refl _
theorem top_zero (g : Nat → Int) : ∀ n i, top g n ≤ i → i < n → g i = 0
  | 0, i, _, h => by omega
  | n + 1, i, h1, h2 => by
    simp only [top] at h1
    split at h1
    · rename_i e
      by_cases hi : i = n
      · subst hi; exact e
      · exact top_zero g n i h1 (by omega)
    · omega
theorem top_lead (g : Nat → Int) : ∀ n, top g n ≠ 0 → g (top g n - 1) ≠ 0
  | 0, h => by simp [top] at h
  | n + 1, h => by
    simp only [top] at h ⊢
    split
    · rename_i e; rw [if_pos e] at h; exact top_lead g n h
    · rename_i e; simpa using e
theorem top_congr {f g : Nat → Int} : ∀ n, (∀ i, i < n → f i = g i) → top f n = top g n
  | 0, _ => rfl
  | n + 1, h => by simp only [top]; rw [h n (by omega), top_congr n fun i hi => h i (by omega)]
/-- The leading place is told by what stands there and behind. -/
theorem top_is {g : Nat → Int} {n k : Nat} (hk : k ≤ n) (hz : ∀ i, k ≤ i → i < n → g i = 0) (hl : k ≠ 0 → g (k - 1) ≠ 0) : top g n = k := by
  rcases Nat.lt_trichotomy (top g n) k with h | h | h
  · have := top_zero g n (k - 1) (by omega) (by omega)
    exact absurd this (hl (by omega))
  · exact h
  · have h1 := top_lead g n (by omega)
    have h2 := top_le g n
    exact absurd (hz (top g n - 1) (by omega) (by omega)) h1
theorem top_more {g : Nat → Int} {n m : Nat} (h : n ≤ m) (hz : ∀ i, n ≤ i → i < m → g i = 0) : top g m = top g n :=
  top_is (Nat.le_trans (top_le g n) h) (fun i h1 h2 => by
    by_cases hi : i < n
    · exact top_zero g n i h1 hi
    · exact hz i (by omega) h2) (top_lead g n)

/-! Reading rows. -/
theorem rd_nil (i : Nat) : rd ([] : List Int) i = 0 := by simp [rd]
theorem rd_lt {l : List Int} {i : Nat} (h : i < l.length) : rd l i = l[i] := by simp [rd, h]
theorem rd_ge {l : List Int} {i : Nat} (h : l.length ≤ i) : rd l i = 0 := by simp [rd, h]
theorem rd_mem {l : List Int} {i : Nat} (h : i < l.length) : rd l i ∈ l := by rw [rd_lt h]; exact List.getElem_mem _
theorem rd_ext {a b : List Int} (hl : a.length = b.length) (h : ∀ i, i < a.length → rd a i = rd b i) : a = b := by
  apply List.ext_getElem hl
  intro i h1 h2
  have := h i h1
  rwa [rd_lt h1, rd_lt h2] at this
theorem rd_take (l : List Int) (k i : Nat) : rd (l.take k) i = if i < k then rd l i else 0 := by
  by_cases h : i < k
  · rw [if_pos h]
    by_cases hl : i < l.length
    · rw [rd_lt (by simp; omega), rd_lt hl]; simp
    · rw [rd_ge (by simp; omega), rd_ge (by omega)]
  · rw [if_neg h, rd_ge (by simp; omega)]
theorem rd_app (a b : List Int) (i : Nat) : rd (a ++ b) i = if i < a.length then rd a i else rd b (i - a.length) := by
  have := getD_app a b i
  exact this
theorem rd_set (l : List Int) (k : Nat) (d : Int) (i : Nat) (hk : k < l.length) : rd (l.set k d) i = if i = k then d else rd l i := by
  by_cases h : i = k
  · subst h; simp [rd, hk]
  · rw [if_neg h]; simp [rd, Ne.symm h]
theorem rd_rep (n i : Nat) : rd (List.replicate n (0 : Int)) i = 0 := by
  by_cases h : i < n
  · rw [rd_lt (by simpa using h)]; simp
  · rw [rd_ge (by simp; omega)]
theorem rd_padl (l : List Int) {j : Nat} (h : j < 64) : rd (pad l).1 j = rd l j := by rw [pad_rd _ h]; rfl
theorem rd_map {f : Nat → Int} (n i : Nat) : rd ((List.range n).map f) i = if i < n then f i else 0 := by
  by_cases h : i < n
  · rw [if_pos h, rd_lt (by simpa using h)]; simp
  · rw [if_neg h, rd_ge (by simp; omega)]

/-! Rows of functions. -/
def ofF (n : Nat) (f : Nat → Int) : List Int := (List.range (top f n)).map f
theorem ofF_len (n : Nat) (f : Nat → Int) : (ofF n f).length = top f n := by simp [ofF]
theorem rd_ofF {n : Nat} {f : Nat → Int} (hz : ∀ i, n ≤ i → f i = 0) (i : Nat) : rd (ofF n f) i = f i := by
  rw [ofF, rd_map]
  split
  · rfl
  · by_cases h : i < n
    · exact (top_zero f n i (by omega) h).symm
    · exact (hz i (by omega)).symm
theorem rd_ofF' {n : Nat} {f : Nat → Int} (i : Nat) : rd (ofF n f) i = if i < n then f i else 0 := by
  rw [ofF, rd_map]
  have := top_le f n
  by_cases h : i < n
  · rw [if_pos h]
    split
    · rfl
    · exact (top_zero f n i (by omega) h).symm
  · rw [if_neg h, if_neg (by omega)]
theorem ofF_congr {n : Nat} {f g : Nat → Int} (h : ∀ i, i < n → f i = g i) : ofF n f = ofF n g := by
  have e := top_congr n h
  have := top_le g n
  refine rd_ext (by rw [ofF_len, ofF_len, e]) fun i hi => ?_
  rw [rd_ofF', rd_ofF']
  split
  · exact h i (by assumption)
  · rfl
theorem ofF_more {n m : Nat} {f : Nat → Int} (h : n ≤ m) (hz : ∀ i, n ≤ i → i < m → f i = 0) : ofF m f = ofF n f := by
  simp only [ofF, top_more h hz]
/-- A list without the zeros at its end. -/
theorem trim_eq (l : List Int) : l.take (top (rd l) l.length) = ofF l.length (rd l) := by
  have := top_le (rd l) l.length
  refine rd_ext (by rw [ofF_len]; simp; omega) fun i hi => ?_
  rw [rd_take, rd_ofF']
  simp at hi
  rw [if_pos (by omega), if_pos (by omega)]

/-- The coefficients of a polynomial modulo p, up to the leading one. -/
structure Row (p : Int) (l : List Int) : Prop where
  res : ∀ d ∈ l, 0 ≤ d ∧ d < p
  nrm : l.length ≠ 0 → rd l (l.length - 1) ≠ 0
theorem Row.rd {p : Int} {l : List Int} (h : Row p l) (hp : 0 < p) (i : Nat) : 0 ≤ rd l i ∧ rd l i < p := by
  by_cases hi : i < l.length
  · exact h.res _ (rd_mem hi)
  · rw [rd_ge (by omega)]; exact ⟨Int.le_refl _, hp⟩
theorem Row.bytes {p : Int} {l : List Int} (h : Row p l) (hp : p ≤ 256) : Bytes l := fun d hd => by have := h.res d hd; omega
theorem row_nil (p : Int) : Row p [] := ⟨by simp, by simp⟩
theorem row_ext {p q : Int} {a b : List Int} (ha : Row p a) (hb : Row q b) (h : ∀ i, rd a i = rd b i) : a = b := by
  have hl : a.length = b.length := by
    rcases Nat.lt_trichotomy a.length b.length with h1 | h1 | h1
    · have := hb.nrm (by omega)
      rw [← h, rd_ge (by omega)] at this
      exact absurd rfl this
    · exact h1
    · have := ha.nrm (by omega)
      rw [h, rd_ge (by omega)] at this
      exact absurd rfl this
  exact rd_ext hl fun i _ => h i
theorem row_ofF {p : Int} {n : Nat} {f : Nat → Int} (h : ∀ i, i < n → 0 ≤ f i ∧ f i < p) : Row p (ofF n f) := by
  have hle := top_le f n
  refine ⟨fun d hd => ?_, fun hn => ?_⟩
  · simp only [ofF, List.mem_map, List.mem_range] at hd
    obtain ⟨i, hi, rfl⟩ := hd
    exact h i (by omega)
  · rw [ofF_len] at hn ⊢
    rw [rd_ofF', if_pos (by omega)]
    exact top_lead f n hn
theorem Row.top {p : Int} {l : List Int} (h : Row p l) {n : Nat} (hn : l.length ≤ n) : top (Abs.rd l) n = l.length :=
  top_is hn (fun i h1 _ => rd_ge h1) h.nrm
theorem Row.ofF {p : Int} {l : List Int} (h : Row p l) {n : Nat} (hn : l.length ≤ n) : ofF n (Abs.rd l) = l := by
  refine rd_ext (by rw [ofF_len, h.top hn]) fun i hi => ?_
  rw [rd_ofF fun i hi => rd_ge (by omega)]
theorem Row.trim {p : Int} {l : List Int} (h : Row p l) : l.take (Abs.top (Abs.rd l) l.length) = l := by
  rw [trim_eq, h.ofF (Nat.le_refl _)]

/-! Arrays and rows. -/
def row (v : V64) : List Int := ofF 64 (rd v.1)
/-- Coefficients from 0 to p - 1. -/
def Res (p : Int) (v : V64) : Prop := ∀ j, j < 64 → 0 ≤ rd v.1 j ∧ rd v.1 j < p
theorem row_row {p : Int} {v : V64} (h : Res p v) : Row p (row v) := row_ofF h
theorem row_len (v : V64) : (row v).length ≤ 64 := by rw [row, ofF_len]; exact top_le _ _
theorem pad_row (v : V64) : pad (row v) = v := vec_ext fun j hj => by rw [rd_padl _ hj, row, rd_ofF', if_pos hj]
theorem row_pad {p : Int} {l : List Int} (h : Row p l) (hl : l.length ≤ 64) : row (pad l) = l := by
  rw [row, ofF_congr (g := rd l) fun i hi => rd_padl l hi, h.ofF hl]
theorem res_pad {p : Int} {l : List Int} (h : Row p l) (hp : 0 < p) : Res p (pad l) := fun j hj => by rw [rd_padl _ hj]; exact h.rd hp j
theorem pad_inj {p q : Int} {a b : List Int} (ha : Row p a) (hb : Row q b) (h1 : a.length ≤ 64) (h2 : b.length ≤ 64) (h : pad a = pad b) : a = b := by
  rw [← row_pad ha h1, ← row_pad hb h2, h]

/-! Sums and products of coefficient functions. -/
def sumTo : Nat → (Nat → Int) → Int
  | 0, _ => 0
  | n + 1, f => sumTo n f + f n
theorem sumTo_congr {f g : Nat → Int} : ∀ n, (∀ i, i < n → f i = g i) → sumTo n f = sumTo n g
  | 0, _ => rfl
  | n + 1, h => by simp only [sumTo]; rw [sumTo_congr n fun i hi => h i (by omega), h n (by omega)]
theorem sumTo_zero {f : Nat → Int} : ∀ n, (∀ i, i < n → f i = 0) → sumTo n f = 0
  | 0, _ => rfl
  | n + 1, h => by simp only [sumTo]; rw [sumTo_zero n fun i hi => h i (by omega), h n (by omega)]; rfl
theorem sumTo_more {f : Nat → Int} {n : Nat} : ∀ m, (∀ i, n ≤ i → i < n + m → f i = 0) → sumTo (n + m) f = sumTo n f
  | 0, _ => rfl
  | m + 1, h => by
    rw [← Nat.add_assoc]
    simp only [sumTo]
    rw [sumTo_more m fun i h1 h2 => h i h1 (by omega), h (n + m) (by omega) (by omega), Int.add_zero]
/-- The summand that the first n coefficients give to a product. -/
def cv (a b : Nat → Int) (n k : Nat) : Int := sumTo n fun i => if i ≤ k then a i * b (k - i) else 0
theorem cv_succ (a b : Nat → Int) (n k : Nat) : cv a b (n + 1) k = cv a b n k + (if n ≤ k then a n * b (k - n) else 0) := rfl
def conv (a b : Nat → Int) (k : Nat) : Int := cv a b (k + 1) k
theorem cv_conv {a b : Nat → Int} {n : Nat} (hz : ∀ i, n ≤ i → a i = 0) (k : Nat) : cv a b n k = conv a b k := by
  unfold conv cv
  rcases Nat.le_total n (k + 1) with h | h
  · obtain ⟨m, e⟩ : ∃ m, k + 1 = n + m := ⟨k + 1 - n, by omega⟩
    rw [e]
    refine (sumTo_more m fun i h1 h2 => ?_).symm
    rw [hz i h1]; simp
  · obtain ⟨m, rfl⟩ : ∃ m, n = k + 1 + m := ⟨n - (k + 1), by omega⟩
    exact sumTo_more m fun i h1 h2 => if_neg (by omega)
theorem conv_zero {a b : Nat → Int} {n m : Nat} (ha : ∀ i, n ≤ i → a i = 0) (hb : ∀ i, m ≤ i → b i = 0) {k : Nat} (hk : n + m ≤ k + 1) : conv a b k = 0 := by
  refine sumTo_zero _ fun i hi => ?_
  rw [if_pos (by omega)]
  by_cases h : i < n
  · rw [hb (k - i) (by omega), Int.mul_zero]
  · rw [ha i (by omega), Int.zero_mul]
/-- The leading coefficient of a product. -/
theorem conv_lead {a b : Nat → Int} {n m : Nat} (ha : ∀ i, n < i → a i = 0) (hb : ∀ i, m < i → b i = 0) : conv a b (n + m) = a n * b m := by
  have h1 : conv a b (n + m) = cv a b (n + 1) (n + m) := (cv_conv (fun i hi => ha i (by omega)) _).symm
  rw [h1]
  unfold cv
  simp only [sumTo]
  rw [sumTo_zero n fun i hi => ?_, if_pos (by omega), show n + m - n = m by omega, Int.zero_add]
  rw [if_pos (by omega), hb _ (by omega), Int.mul_zero]

/-! Operations on rows. -/
def comb (p : Int) (a b : List Int) (k : Int) : List Int := ofF (max a.length b.length) fun i => (rd a i + k * rd b i) % p
def mul (p : Int) (a b : List Int) : List Int := ofF (a.length + b.length - 1) fun i => conv (rd a) (rd b) i % p

theorem emod_res {p : Int} (hp : 0 < p) (x : Int) : 0 ≤ x % p ∧ x % p < p := ⟨Int.emod_nonneg _ (by omega), Int.emod_lt_of_pos _ hp⟩
theorem comb_row {p : Int} (hp : 0 < p) (a b : List Int) (k : Int) : Row p (comb p a b k) := row_ofF fun _ _ => emod_res hp _
theorem mul_row {p : Int} (hp : 0 < p) (a b : List Int) : Row p (mul p a b) := row_ofF fun _ _ => emod_res hp _
theorem comb_rd (p : Int) (a b : List Int) (k : Int) (i : Nat) : rd (comb p a b k) i = (rd a i + k * rd b i) % p := by
  refine rd_ofF (fun i hi => ?_) i
  rw [rd_ge (by omega), rd_ge (by omega)]; simp
theorem mul_rd (p : Int) (a b : List Int) (i : Nat) : rd (mul p a b) i = conv (rd a) (rd b) i % p := by
  refine rd_ofF (fun i hi => ?_) i
  rw [conv_zero (n := a.length) (m := b.length) (fun i hi => rd_ge hi) (fun i hi => rd_ge hi) (by omega)]; simp
theorem comb_len (p : Int) (a b : List Int) (k : Int) : (comb p a b k).length ≤ max a.length b.length := by rw [comb, ofF_len]; exact top_le _ _
theorem mul_len (p : Int) (a b : List Int) : (mul p a b).length ≤ a.length + b.length - 1 := by rw [mul, ofF_len]; exact top_le _ _
theorem mul_nil (p : Int) (b : List Int) : mul p [] b = [] := by
  have h : ∀ i, conv (rd []) (rd b) i = 0 := fun i => sumTo_zero _ fun j _ => by rw [rd_nil]; simp
  have : (mul p [] b).length = 0 := by
    rw [mul, ofF_len]
    exact top_is (Nat.zero_le _) (fun i _ _ => by rw [h]; simp) (by simp)
  exact List.eq_nil_of_length_eq_zero this
theorem mul_nil' (p : Int) (a : List Int) : mul p a [] = [] := by
  have h : ∀ i, conv (rd a) (rd []) i = 0 := fun i => sumTo_zero _ fun j _ => by rw [rd_nil]; simp
  have : (mul p a []).length = 0 := by
    rw [mul, ofF_len]
    exact top_is (Nat.zero_le _) (fun i _ _ => by rw [h]; simp) (by simp)
  exact List.eq_nil_of_length_eq_zero this

/-! Small primes. -/
def isP (p : Int) : Bool := p == 2 || p == 3 || p == 5 || p == 7
theorem isP_iff {p : Int} : isP p = true ↔ p = 2 ∨ p = 3 ∨ p = 5 ∨ p = 7 := by
  simp [isP, or_assoc]
theorem isP_pos {p : Int} (h : isP p = true) : 2 ≤ p ∧ p ≤ 7 := by
  rcases isP_iff.1 h with rfl | rfl | rfl | rfl <;> omega
theorem noz2 : ∀ x y : Fin 2, x ≠ 0 → y ≠ 0 → (x.1 * y.1) % 2 ≠ 0 := by decide
theorem noz3 : ∀ x y : Fin 3, x ≠ 0 → y ≠ 0 → (x.1 * y.1) % 3 ≠ 0 := by decide
theorem noz5 : ∀ x y : Fin 5, x ≠ 0 → y ≠ 0 → (x.1 * y.1) % 5 ≠ 0 := by decide
theorem noz7 : ∀ x y : Fin 7, x ≠ 0 → y ≠ 0 → (x.1 * y.1) % 7 ≠ 0 := by decide
theorem noz_of {n : Nat} (hn : 0 < n) (h : ∀ x y : Fin n, x.1 ≠ 0 → y.1 ≠ 0 → (x.1 * y.1) % n ≠ 0) {x y : Int} (hx : 0 < x ∧ x < n) (hy : 0 < y ∧ y < n) : x * y % n ≠ 0 := by
  obtain ⟨a, rfl⟩ : ∃ a : Nat, x = a := ⟨x.toNat, by omega⟩
  obtain ⟨b, rfl⟩ : ∃ b : Nat, y = b := ⟨y.toNat, by omega⟩
  have := h ⟨a, by omega⟩ ⟨b, by omega⟩ (by simp; omega) (by simp; omega)
  simp only at this
  rw [← Int.natCast_mul, ← Int.natCast_emod]
  omega
theorem noz {p : Int} (hp : isP p = true) {x y : Int} (hx : 0 ≤ x ∧ x < p) (hy : 0 ≤ y ∧ y < p) (h1 : x ≠ 0) (h2 : y ≠ 0) : x * y % p ≠ 0 := by
  rcases isP_iff.1 hp with rfl | rfl | rfl | rfl
  · exact noz_of (n := 2) (by omega) (fun x y a b => noz2 x y (fun e => a (by rw [e]; rfl)) (fun e => b (by rw [e]; rfl))) ⟨by omega, hx.2⟩ ⟨by omega, hy.2⟩
  · exact noz_of (n := 3) (by omega) (fun x y a b => noz3 x y (fun e => a (by rw [e]; rfl)) (fun e => b (by rw [e]; rfl))) ⟨by omega, hx.2⟩ ⟨by omega, hy.2⟩
  · exact noz_of (n := 5) (by omega) (fun x y a b => noz5 x y (fun e => a (by rw [e]; rfl)) (fun e => b (by rw [e]; rfl))) ⟨by omega, hx.2⟩ ⟨by omega, hy.2⟩
  · exact noz_of (n := 7) (by omega) (fun x y a b => noz7 x y (fun e => a (by rw [e]; rfl)) (fun e => b (by rw [e]; rfl))) ⟨by omega, hx.2⟩ ⟨by omega, hy.2⟩
theorem mul_len_is {p : Int} (hp : isP p = true) {a b : List Int} (ha : Row p a) (hb : Row p b) (h1 : a.length ≠ 0) (h2 : b.length ≠ 0) : (mul p a b).length = a.length + b.length - 1 := by
  have hp2 := isP_pos hp
  rw [mul, ofF_len]
  refine top_is (Nat.le_refl _) (fun i h3 h4 => by omega) fun _ => ?_
  have e : a.length + b.length - 1 - 1 = (a.length - 1) + (b.length - 1) := by omega
  rw [e, conv_lead (fun i hi => rd_ge (by omega)) (fun i hi => rd_ge (by omega))]
  exact noz hp (ha.rd (by omega) _) (hb.rd (by omega) _) (ha.nrm h1) (hb.nrm h2)
end Go.Abs
/- slices.DeleteFunc leaves what the function does not strike. -/
namespace Go.Proofs.Ytpjdjfhbfcekaaa
open Go.Abs
theorem take_lset {α : Type} : ∀ (l : List α) (i : Nat) (x : α), i < l.length → (l.set i x).take (i + 1) = l.take i ++ [x]
  | [], _, _, h => by simp at h
  | a :: l, 0, x, _ => by simp
  | a :: l, i + 1, x, h => by
    have := take_lset l i x (by simpa using h)
    simp [this]
theorem rd_lset' {α : Type} [Inhabited α] (l : List α) (k : Nat) (d : α) {i : Nat} (h : i ≠ k) : rd (l.set k d) i = rd l i := by simp [rd, Ne.symm h]
section
variable {M : List (List Int)} {p : Int} {q : List Int → Bool} (hl : M.length ≤ 1000000) (hq : ∀ l ∈ M, impl_IrreduciblesOf_c1_of_p l p = some (!q l))
include hl hq
theorem indexF_is : ∃ r, slices_IndexFunc_impl_row_impl_row_of_impl_IrreduciblesOf_c1_p M p = some r ∧ ((r = -1 ∧ ∀ l ∈ M, q l = true) ∨ ∃ i : Nat, r = (i : Int) ∧ i < M.length ∧ q (rd M i) = false ∧ ∀ l ∈ M.take i, q l = true) := by
  have key : ∀ (m i : Nat), i + m = M.length → (∀ l ∈ M.take i, q l = true) → ∃ r, loopM (fun s : Int => slices_IndexFunc_impl_row_impl_row_of_impl_IrreduciblesOf_c1_p_l1 M p s) (i : Int) = some r ∧ ((r = .inl () ∧ ∀ l ∈ M, q l = true) ∨ ∃ i : Nat, r = .inr (i : Int) ∧ i < M.length ∧ q (rd M i) = false ∧ ∀ l ∈ M.take i, q l = true) := by
    intro m
    induction m with
    | zero =>
      intro i hi ha
      have : i = M.length := by omega
      subst this
      have step : slices_IndexFunc_impl_row_impl_row_of_impl_IrreduciblesOf_c1_p_l1 M p (M.length : Int) = some (.inr (.inl ())) := by
        simp only [slices_IndexFunc_impl_row_impl_row_of_impl_IrreduciblesOf_c1_p_l1]
        rw [if_neg (by rw [decide_eq_true_eq]; omega)]
      rw [List.take_length] at ha
      exact ⟨.inl (), by rw [loopM_eq, step]; rfl, .inl ⟨rfl, ha⟩⟩
    | succ m ih =>
      intro i hi ha
      have hil : i < M.length := by omega
      have er : rd M i = M[i] := by simp [rd, hil]
      have h1 := hq M[i] (List.getElem_mem _)
      cases hv : q M[i] with
      | true =>
        have step : slices_IndexFunc_impl_row_impl_row_of_impl_IrreduciblesOf_c1_p_l1 M p (i : Int) = some (.inl ((i + 1 : Nat) : Int)) := by
          simp only [slices_IndexFunc_impl_row_impl_row_of_impl_IrreduciblesOf_c1_p_l1]
          rw [if_pos (decide_eq_true (by omega)), ifp_pos (by omega), Int.toNat_natCast, er, h1, hv]
          simp only [Option.bind_some, Bool.not_true, Bool.false_eq_true, if_false]
          rw [wrap64 (by omega) (by omega)]; rfl
        obtain ⟨r, g1, g2⟩ := ih (i + 1) (by omega) (fun l hl => by
          rw [List.take_succ_eq_append_getElem hil] at hl
          rcases List.mem_append.1 hl with hl | hl
          · exact ha l hl
          · rw [List.mem_singleton.1 hl]; exact hv)
        exact ⟨r, by rw [loopM_eq, step]; exact g1, g2⟩
      | false =>
        have step : slices_IndexFunc_impl_row_impl_row_of_impl_IrreduciblesOf_c1_p_l1 M p (i : Int) = some (.inr (.inr (i : Int))) := by
          simp only [slices_IndexFunc_impl_row_impl_row_of_impl_IrreduciblesOf_c1_p_l1]
          rw [if_pos (decide_eq_true (by omega)), ifp_pos (by omega), Int.toNat_natCast, er, h1, hv]
          rfl
        exact ⟨.inr (i : Int), by rw [loopM_eq, step]; rfl, .inr ⟨i, rfl, hil, by rw [er]; exact hv, ha⟩⟩
  obtain ⟨r, h1, h2⟩ := key M.length 0 (by omega) (by simp)
  have h1' : loopM (fun s : Int => slices_IndexFunc_impl_row_impl_row_of_impl_IrreduciblesOf_c1_p_l1 M p s) 0 = some r := h1
  simp only [slices_IndexFunc_impl_row_impl_row_of_impl_IrreduciblesOf_c1_p, h1', Option.bind_some]
  rcases h2 with ⟨rfl, h⟩ | ⟨i, rfl, h⟩
  · exact ⟨-1, rfl, .inl ⟨rfl, h⟩⟩
  · exact ⟨(i : Int), rfl, .inr ⟨i, rfl, h⟩⟩
theorem delete_is : slices_DeleteFunc_impl_row_impl_row_of_giv_impl_IrreduciblesOf_c1_p M p = some (M.filter q) := by
  obtain ⟨r, h1, h2⟩ := indexF_is hl hq
  simp only [slices_DeleteFunc_impl_row_impl_row_of_giv_impl_IrreduciblesOf_c1_p, h1, Option.bind_some]
  rcases h2 with ⟨rfl, h⟩ | ⟨i0, rfl, hi0, hq0, ha⟩
  · rw [if_pos (by rfl), List.filter_eq_self.2 h]
  · have e0 : rd M i0 = M[i0] := by simp [rd, hi0]
    rw [if_neg (by rw [beq_iff_eq]; omega)]
    have ew : IntKind.i64.wrap ((i0 : Int) + 1) = ((i0 + 1 : Nat) : Int) := by rw [wrap64 (by omega) (by omega)]; rfl
    obtain ⟨s, g1, i, g2, g3, g4, g5, _⟩ := loopM_for (body := fun s : Int × Int × List (List Int) => slices_DeleteFunc_impl_row_impl_row_of_giv_impl_IrreduciblesOf_c1_p_l1 p s.1 s.2.1 s.2.2) (fun j (s : Int × List (List Int)) => (s.1, (j : Int), s.2)) (fun s => s) M.length
      (fun j s => ∃ i : Nat, s.1 = (i : Int) ∧ i < j ∧ s.2.length = M.length ∧ s.2.take i = (M.take j).filter q ∧ ∀ k, j ≤ k → rd s.2 k = rd M k) (fun j s hj hI => by
        obtain ⟨a, N⟩ := s
        obtain ⟨i, rfl, k1, k2, k3, k4⟩ := hI
        simp only at k2 k3 k4
        have er : rd N j = M[j] := by rw [k4 j (Nat.le_refl _)]; simp [rd, hj]
        have h1 := hq M[j] (List.getElem_mem _)
        have ej : IntKind.i64.wrap ((j : Int) + 1) = ((j + 1 : Nat) : Int) := by rw [wrap64 (by omega) (by omega)]; rfl
        have ei : IntKind.i64.wrap ((i : Int) + 1) = ((i + 1 : Nat) : Int) := by rw [wrap64 (by omega) (by omega)]; rfl
        have et : (M.take (j + 1)).filter q = (M.take j).filter q ++ [M[j]].filter q := by rw [List.take_succ_eq_append_getElem hj, List.filter_append]
        cases hv : q M[j] with
        | true =>
          refine ⟨(((i + 1 : Nat) : Int), N.set i M[j]), ?_, i + 1, rfl, by omega, by simpa using k2, ?_, fun k hk => ?_⟩
          · simp only [slices_DeleteFunc_impl_row_impl_row_of_giv_impl_IrreduciblesOf_c1_p_l1]
            rw [if_pos (decide_eq_true (by omega)), ifp_pos (by omega), Int.toNat_natCast, er, h1, hv]
            simp only [Option.bind_some, Bool.not_true, Bool.not_false, if_true]
            rw [ifp_pos (by omega), Int.toNat_natCast]
            simp only [Option.bind_some, ei, ej]
          · rw [et, ← k3]
            show (N.set i M[j]).take (i + 1) = _
            rw [take_lset N i _ (by omega)]
            simp [hv]
          · show rd (N.set i M[j]) k = rd M k
            rw [rd_lset' _ _ _ (by omega)]
            exact k4 k (by omega)
        | false =>
          refine ⟨((i : Int), N), ?_, i, rfl, by omega, k2, ?_, fun k hk => k4 k (by omega)⟩
          · simp only [slices_DeleteFunc_impl_row_impl_row_of_giv_impl_IrreduciblesOf_c1_p_l1]
            rw [if_pos (decide_eq_true (by omega)), ifp_pos (by omega), Int.toNat_natCast, er, h1, hv]
            simp only [Option.bind_some, Bool.not_true, Bool.not_false, Bool.false_eq_true, if_false, ej]
          · rw [et]
            show N.take i = _
            rw [k3]
            simp [hv]) (fun s hI => by
        obtain ⟨a, N⟩ := s
        obtain ⟨i, rfl, k1, k2, k3, k4⟩ := hI
        simp only at k2
        simp only [slices_DeleteFunc_impl_row_impl_row_of_giv_impl_IrreduciblesOf_c1_p_l1]
        rw [if_neg (by rw [decide_eq_true_eq]; omega)]) (M.length - (i0 + 1)) (i0 + 1) ((i0 : Int), M) (by omega) ⟨i0, rfl, by omega, rfl, by
          have et : M.take (i0 + 1) = M.take i0 ++ [M[i0]] := List.take_succ_eq_append_getElem hi0
          show M.take i0 = _
          rw [et, List.filter_append, List.filter_eq_self.2 ha, ← e0]
          simp [hq0], fun _ _ => rfl⟩
    have g1' : loopM (fun s : Int × Int × List (List Int) => slices_DeleteFunc_impl_row_impl_row_of_giv_impl_IrreduciblesOf_c1_p_l1 p s.1 s.2.1 s.2.2) ((i0 : Int), ((i0 + 1 : Nat) : Int), M) = some s := g1
    obtain ⟨a, N⟩ := s
    simp only at g2 g4 g5
    subst g2
    rw [ew, g1']
    simp only [Option.bind_some]
    rw [ifp_pos (by omega), Int.toNat_natCast, g5, List.take_length]
end
end Go.Proofs.Ytpjdjfhbfcekaaa
/- Commutative rings, told by their laws: powers, the Frobenius, roots of polynomials, powers in finite fields. -/
namespace Go.Abs

structure IsRing (K : Type) [Add K] [Mul K] [Neg K] [Zero K] [One K] : Prop where
  add_comm : ∀ a b : K, a + b = b + a
  add_assoc : ∀ a b c : K, a + b + c = a + (b + c)
  add_zero : ∀ a : K, a + 0 = a
  add_neg : ∀ a : K, a + -a = 0
  mul_comm : ∀ a b : K, a * b = b * a
  mul_assoc : ∀ a b c : K, a * b * c = a * (b * c)
  mul_one : ∀ a : K, a * 1 = a
  mul_add : ∀ a b c : K, a * (b + c) = a * b + a * c

section
variable {K : Type} [Add K] [Mul K] [Neg K] [Zero K] [One K]

def pw (x : K) : Nat → K
  | 0 => 1
  | n + 1 => pw x n * x
def nsm : Nat → K → K
  | 0, _ => 0
  | n + 1, x => nsm n x + x

namespace IsRing
variable (R : IsRing K)
include R
theorem zero_add (a : K) : 0 + a = a := by rw [R.add_comm, R.add_zero]
theorem neg_add (a : K) : -a + a = 0 := by rw [R.add_comm, R.add_neg]
theorem add_left_comm (a b c : K) : a + (b + c) = b + (a + c) := by rw [← R.add_assoc, R.add_comm a b, R.add_assoc]
theorem mul_left_comm (a b c : K) : a * (b * c) = b * (a * c) := by rw [← R.mul_assoc, R.mul_comm a b, R.mul_assoc]
theorem one_mul (a : K) : 1 * a = a := by rw [R.mul_comm, R.mul_one]
theorem add_mul (a b c : K) : (a + b) * c = a * c + b * c := by rw [R.mul_comm, R.mul_add, R.mul_comm c a, R.mul_comm c b]
theorem cancel {a b c : K} (h : a + b = a + c) : b = c := by
  have : -a + (a + b) = -a + (a + c) := by rw [h]
  rwa [← R.add_assoc, ← R.add_assoc, R.neg_add, R.zero_add, R.zero_add] at this
theorem mul_zero (a : K) : a * 0 = 0 := by
  have h : a * 0 + a * 0 = a * 0 + 0 := by rw [← R.mul_add, R.add_zero, R.add_zero]
  exact R.cancel h
theorem zero_mul (a : K) : 0 * a = 0 := by rw [R.mul_comm, R.mul_zero]
theorem neg_of {a b : K} (h : a + b = 0) : b = -a := R.cancel (a := a) (by rw [h, R.add_neg])
theorem mul_neg (a b : K) : a * -b = -(a * b) := R.neg_of (by rw [← R.mul_add, R.add_neg, R.mul_zero])
theorem neg_neg (a : K) : - -a = a := (R.neg_of (R.neg_add a)).symm
theorem sub_zero {a b : K} (h : a + -b = 0) : a = b := by
  have h' := R.neg_of ((R.add_comm _ _).trans h)
  rw [R.neg_neg] at h'
  exact h'

/-! Powers and multiples. -/
theorem pw_one (n : Nat) : pw (1 : K) n = 1 := by
  induction n with
  | zero => rfl
  | succ n ih => simp only [pw, ih, R.mul_one]
theorem pw_zero {n : Nat} (h : n ≠ 0) : pw (0 : K) n = 0 := by
  cases n with
  | zero => exact absurd rfl h
  | succ n => simp only [pw, R.mul_zero]
theorem pw_add (x : K) (n m : Nat) : pw x (n + m) = pw x n * pw x m := by
  induction m with
  | zero => simp only [pw, Nat.add_zero, R.mul_one]
  | succ m ih => rw [← Nat.add_assoc]; simp only [pw, ih, R.mul_assoc]
theorem pw_mul (x : K) (n m : Nat) : pw x (n * m) = pw (pw x n) m := by
  induction m with
  | zero => simp only [pw, Nat.mul_zero]
  | succ m ih => rw [Nat.mul_succ, R.pw_add, ih]; rfl
theorem mul_pw (x y : K) (n : Nat) : pw (x * y) n = pw x n * pw y n := by
  induction n with
  | zero => simp only [pw, R.mul_one]
  | succ n ih => simp only [pw, ih, R.mul_assoc, R.mul_left_comm]
theorem nsm_add (n m : Nat) (x : K) : nsm (n + m) x = nsm n x + nsm m x := by
  induction m with
  | zero => simp only [nsm, Nat.add_zero, R.add_zero]
  | succ m ih => rw [← Nat.add_assoc]; simp only [nsm, ih, R.add_assoc]
theorem nsm_mul (n m : Nat) (x : K) : nsm (n * m) x = nsm n (nsm m x) := by
  induction n with
  | zero => simp only [nsm, Nat.zero_mul]
  | succ n ih => rw [Nat.succ_mul, R.nsm_add, ih]; rfl
theorem mul_nsm (n : Nat) (x y : K) : x * nsm n y = nsm n (x * y) := by
  induction n with
  | zero => simp only [nsm, R.mul_zero]
  | succ n ih => simp only [nsm, R.mul_add, ih]
theorem nsm_zero (n : Nat) : nsm n (0 : K) = 0 := by
  induction n with
  | zero => rfl
  | succ n ih => simp only [nsm, ih, R.add_zero]

end IsRing

/-- The sum of c_i x^i y^(n - i). -/
def hom (x y : K) : List Nat → K
  | [] => 0
  | c :: l => nsm c (pw y l.length) + x * hom x y l
def pasc : Nat → List Nat → List Nat
  | k, [] => [k]
  | k, c :: l => (k + c) :: pasc c l
theorem pasc_len : ∀ (k : Nat) (l : List Nat), (pasc k l).length = l.length + 1
  | _, [] => rfl
  | k, c :: l => by simp only [pasc, List.length_cons, pasc_len c l]
def pascn : Nat → List Nat
  | 0 => [1]
  | n + 1 => pasc 0 (pascn n)

namespace IsRing
variable (R : IsRing K)
include R
theorem hom_pasc (x y : K) : ∀ (l : List Nat) (k : Nat), hom x y (pasc k l) = nsm k (pw y l.length) + (x + y) * hom x y l
  | [], k => by simp only [pasc, hom, List.length_nil, pw, R.mul_zero]
  | c :: l, k => by
    simp only [pasc, hom, pasc_len, List.length_cons, hom_pasc x y l c]
    have e1 : nsm (k + c) (pw y (l.length + 1)) = nsm k (pw y (l.length + 1)) + y * nsm c (pw y l.length) := by
      rw [R.nsm_add, R.mul_nsm, R.mul_comm y]; rfl
    rw [e1]
    simp only [R.mul_add, R.add_mul, R.add_assoc, R.mul_left_comm y x]
    congr 1
    exact R.add_left_comm _ _ _
theorem pw_sum (x y : K) (n : Nat) : pw (x + y) n = hom x y (pascn n) := by
  induction n with
  | zero => simp only [pw, pascn, hom, List.length_nil, nsm, R.mul_zero, R.add_zero, R.zero_add]
  | succ n ih => simp only [pw, pascn, ih, R.hom_pasc, nsm, R.zero_add, R.mul_comm]
theorem frob {p : Nat} (hp : p = 2 ∨ p = 3 ∨ p = 5 ∨ p = 7) (hc : ∀ x : K, nsm p x = 0) (x y : K) : pw (x + y) p = pw x p + pw y p := by
  have hm : ∀ m (z : K), nsm (m * p) z = 0 := fun m z => by rw [R.nsm_mul, hc, R.nsm_zero]
  rw [R.pw_sum]
  rcases hp with rfl | rfl | rfl | rfl
  · have h := hm 1
    show hom x y [1, 2, 1] = _
    simp only [hom, List.length_cons, List.length_nil, h, nsm, R.zero_add, R.add_zero, R.mul_zero, pw, R.mul_one, R.one_mul, R.mul_assoc] at h ⊢
    rw [R.add_comm]
    simp only [h, R.zero_add]
  · have h1 := hm 1
    show hom x y [1, 3, 3, 1] = _
    have e : ∀ z : K, nsm 3 z = 0 := h1
    unfold hom hom hom hom hom
    simp only [e, List.length_cons, List.length_nil, R.zero_add]
    simp only [nsm, R.zero_add, R.add_zero, R.mul_zero, pw, R.mul_one, R.one_mul, R.mul_assoc]
    rw [R.add_comm]
  · have e1 : ∀ z : K, nsm 5 z = 0 := hm 1
    have e2 : ∀ z : K, nsm 10 z = 0 := hm 2
    show hom x y [1, 5, 10, 10, 5, 1] = _
    unfold hom hom hom hom hom hom hom
    simp only [e1, e2, List.length_cons, List.length_nil, R.zero_add]
    simp only [nsm, R.zero_add, R.add_zero, R.mul_zero, pw, R.mul_one, R.one_mul, R.mul_assoc]
    rw [R.add_comm]
  · have e1 : ∀ z : K, nsm 7 z = 0 := hm 1
    have e2 : ∀ z : K, nsm 21 z = 0 := hm 3
    have e3 : ∀ z : K, nsm 35 z = 0 := hm 5
    show hom x y [1, 7, 21, 35, 35, 21, 7, 1] = _
    unfold hom hom hom hom hom hom hom hom hom
    simp only [e1, e2, e3, List.length_cons, List.length_nil, R.zero_add]
    simp only [nsm, R.zero_add, R.add_zero, R.mul_zero, pw, R.mul_one, R.one_mul, R.mul_assoc]
    rw [R.add_comm]
theorem frobn {p : Nat} (hp : p = 2 ∨ p = 3 ∨ p = 5 ∨ p = 7) (hc : ∀ x : K, nsm p x = 0) (x y : K) (n : Nat) : pw (x + y) (p ^ n) = pw x (p ^ n) + pw y (p ^ n) := by
  induction n with
  | zero => simp only [Nat.pow_zero, pw, R.one_mul]
  | succ n ih => rw [Nat.pow_succ, R.pw_mul, R.pw_mul, R.pw_mul, ih, R.frob hp hc]
end IsRing

/-! Polynomials from the leading coefficient on. -/
def hn (x : K) : K → List K → K
  | a, [] => a
  | a, c :: l => hn x (a * x + c) l
def synd (r : K) : K → List K → List K
  | _, [] => []
  | a, c :: l => a :: synd r (a * r + c) l
omit [Neg K] [Zero K] [One K] in
theorem synd_len (r : K) : ∀ (a : K) (l : List K), (synd r a l).length = l.length
  | _, [] => rfl
  | a, c :: l => by simp only [synd, List.length_cons, synd_len r _ l]

namespace IsRing
variable (R : IsRing K)
include R
theorem hn_synd (x r : K) : ∀ (l : List K) (a y : K), hn x (a + (x + -r) * y) l = (x + -r) * hn x y (synd r a l) + hn r a l
  | [], a, y => by simp only [hn, synd]; exact R.add_comm _ _
  | c :: l, a, y => by
    simp only [hn, synd]
    rw [← hn_synd x r l (a * r + c) (y * x + a)]
    congr 1
    have e : a * x = a * r + (x + -r) * a := by
      rw [R.add_mul, R.mul_comm (-r), R.mul_neg, R.mul_comm x a, R.add_left_comm, R.add_neg, R.add_zero]
    rw [R.add_mul, e, R.mul_add, R.mul_assoc]
    simp only [R.add_assoc, R.add_comm c]
    congr 1
    rw [R.add_left_comm]
/-- A monic polynomial has no more roots than its degree. -/
theorem roots (hd : ∀ a b : K, a * b = 0 → a = 0 ∨ b = 0) (h10 : (1 : K) ≠ 0) : ∀ (n : Nat) (l L : List K), l.length = n → L.Nodup → (∀ x ∈ L, hn x 1 l = 0) → L.length ≤ n
  | _, _, [], _, _, _ => Nat.zero_le _
  | 0, l, r :: L, hl, _, hr => by
    have : l = [] := List.eq_nil_of_length_eq_zero hl
    subst this
    exact absurd (hr r (by simp)) h10
  | n + 1, [], r :: L, hl, _, _ => by simp at hl
  | n + 1, c :: l, r :: L, hl, hN, hr => by
    have hr0 : hn r 1 (c :: l) = 0 := hr r (by simp)
    have key : ∀ x ∈ L, hn x 1 (synd r (1 * r + c) l) = 0 := by
      intro x hx
      have h0 := hr x (by simp [hx])
      have h1 := R.hn_synd x r (c :: l) 1 0
      rw [R.mul_zero, R.add_zero, h0, hr0, R.add_zero] at h1
      simp only [synd, hn, R.zero_mul, R.zero_add] at h1
      rcases hd _ _ h1.symm with h | h
      · have : x = r := R.sub_zero h
        subst this
        exact absurd hx (List.nodup_cons.1 hN).1
      · exact h
    have := roots hd h10 n (synd r (1 * r + c) l) L (by rw [synd_len]; simpa using hl) (List.nodup_cons.1 hN).2 key
    simp only [List.length_cons]; omega
theorem hn_rep (x : K) (m : List K) : ∀ (k : Nat) (a : K), hn x a (List.replicate k 0 ++ m) = hn x (a * pw x k) m
  | 0, a => by simp [pw, R.mul_one]
  | k + 1, a => by
    simp only [List.replicate_succ, List.cons_append, hn, R.add_zero]
    rw [hn_rep x m k, R.mul_assoc]
    simp only [pw]
    rw [R.mul_comm x]
/-- At most N elements are their own N-th powers. -/
theorem fixed_le (hd : ∀ a b : K, a * b = 0 → a = 0 ∨ b = 0) (h10 : (1 : K) ≠ 0) {N : Nat} (hN : 2 ≤ N) {L : List K} (hL : L.Nodup) (hx : ∀ x ∈ L, pw x N = x) : L.length ≤ N := by
  obtain ⟨k, rfl⟩ : ∃ k, N = k + 2 := ⟨N - 2, by omega⟩
  refine R.roots hd h10 (k + 2) (List.replicate k 0 ++ [-1, 0]) L (by simp) hL fun x h => ?_
  have h2 := hx x h
  rw [R.hn_rep, R.one_mul]
  simp only [hn, R.add_zero]
  simp only [pw] at h2
  rw [R.add_mul, h2, R.mul_comm (-1), R.mul_neg, R.mul_one, R.add_neg]

end IsRing
theorem mem_of_len {α : Type} [DecidableEq α] : ∀ l m : List α, l.Nodup → (∀ x ∈ l, x ∈ m) → m.length ≤ l.length → ∀ y ∈ m, y ∈ l
  | [], m, _, _, h, y, hy => by
    have : m = [] := List.eq_nil_of_length_eq_zero (by simpa using h)
    subst this; exact hy
  | x :: l, m, hn, hs, h, y, hy => by
    obtain ⟨h1, h2⟩ := List.nodup_cons.1 hn
    have hx := hs x (by simp)
    by_cases e : y = x
    · subst e; simp
    · have hl := List.length_erase_of_mem hx
      refine List.mem_cons_of_mem _ (mem_of_len l (m.erase x) h2 (fun z hz => ?_) ?_ y ((List.mem_erase_of_ne e).2 hy))
      · exact (List.mem_erase_of_ne (fun e2 => h1 (by rw [← e2]; exact hz))).2 (hs z (by simp [hz]))
      · simp only [List.length_cons] at h; omega
def prd : List K → K
  | [] => 1
  | x :: l => x * prd l
namespace IsRing
variable (R : IsRing K)
include R
theorem prd_perm {l m : List K} (h : l.Perm m) : prd l = prd m := by
  induction h with
  | nil => rfl
  | cons x _ ih => simp only [prd, ih]
  | swap x y l => simp only [prd, R.mul_left_comm x y]
  | trans _ _ h1 h2 => rw [h1, h2]
theorem prd_map (x : K) : ∀ l : List K, prd (l.map (x * ·)) = pw x l.length * prd l
  | [] => by simp only [List.map_nil, prd, List.length_nil, pw, R.mul_one]
  | y :: l => by simp only [List.map_cons, prd, List.length_cons, pw, prd_map x l, R.mul_assoc, R.mul_left_comm y]; rw [R.mul_left_comm]
omit R [Add K] [Neg K] in
theorem prd_ne (hd : ∀ a b : K, a * b = 0 → a = 0 ∨ b = 0) (h10 : (1 : K) ≠ 0) : ∀ l : List K, (∀ x ∈ l, x ≠ 0) → prd l ≠ 0
  | [], _ => h10
  | y :: l, h => fun e => by
    rcases hd _ _ e with e | e
    · exact h y (by simp) e
    · exact prd_ne hd h10 l (fun x hx => h x (by simp [hx])) e
theorem mul_cancel (hd : ∀ a b : K, a * b = 0 → a = 0 ∨ b = 0) {a b c : K} (ha : a ≠ 0) (h : a * b = a * c) : b = c := by
  have : a * (b + -c) = 0 := by rw [R.mul_add, R.mul_neg, h, R.add_neg]
  rcases hd _ _ this with e | e
  · exact absurd e ha
  · exact R.sub_zero e
/-- In a finite field of q elements the power q of an element is the element. -/
theorem fermat (hd : ∀ a b : K, a * b = 0 → a = 0 ∨ b = 0) (h10 : (1 : K) ≠ 0) {E : List K} (hE : E.Nodup) (hall : ∀ x, x ∈ E) (x : K) : pw x E.length = x := by
  classical
  have hpos : E.length ≠ 0 := fun e => by have := hall x; rw [List.eq_nil_of_length_eq_zero e] at this; simp at this
  by_cases hx : x = 0
  · subst hx; exact R.pw_zero hpos
  · have hF : (E.erase 0).Nodup := hE.erase 0
    have hmem : ∀ y, y ∈ E.erase 0 ↔ y ≠ 0 := fun y => by rw [hE.mem_erase_iff]; simp [hall y]
    have hlen : (E.erase 0).length = E.length - 1 := List.length_erase_of_mem (hall 0)
    have hperm : ((E.erase 0).map (x * ·)).Perm (E.erase 0) := by
      refine (List.perm_ext_iff_of_nodup ?_ hF).2 fun y => ?_
      · refine List.Pairwise.map _ ?_ hF
        intro a b hab e
        exact hab (R.mul_cancel hd hx e)
      · rw [List.mem_map, hmem]
        constructor
        · rintro ⟨z, hz, rfl⟩ e
          rcases hd _ _ e with e | e
          · exact hx e
          · exact (hmem z).1 hz e
        · intro hy
          have hnd : ((E.erase 0).map (x * ·)).Nodup := by
            refine List.Pairwise.map _ ?_ hF
            intro a b hab e
            exact hab (R.mul_cancel hd hx e)
          have hin : ∀ z ∈ (E.erase 0).map (x * ·), z ∈ E.erase 0 := by
            intro z hz
            obtain ⟨w, hw, rfl⟩ := List.mem_map.1 hz
            refine (hmem _).2 fun e => ?_
            rcases hd _ _ e with e | e
            · exact hx e
            · exact (hmem w).1 hw e
          exact List.mem_map.1 (mem_of_len _ _ hnd hin (by simp) y ((hmem y).2 hy))
    have h1 := R.prd_perm hperm
    rw [R.prd_map] at h1
    have h2 : prd (E.erase 0) * pw x (E.erase 0).length = prd (E.erase 0) * 1 := by rw [R.mul_comm, h1, R.mul_one]
    have h3 := R.mul_cancel hd (IsRing.prd_ne hd h10 _ fun y hy => (hmem y).1 hy) h2
    have e : E.length = (E.erase 0).length + 1 := by omega
    rw [e]
    simp only [pw, h3, R.one_mul]
end IsRing
end
end Go.Abs
/- Rings: divisors, residues by an element. -/
namespace Go.Abs
section
variable {K : Type} [Add K] [Mul K] [Neg K] [Zero K] [One K]

def Dv (a b : K) : Prop := ∃ q, b = q * a
namespace IsRing
variable (R : IsRing K)
include R
theorem dv_refl (a : K) : Dv a a := ⟨1, (R.one_mul a).symm⟩
theorem dv_zero (a : K) : Dv a 0 := ⟨0, (R.zero_mul a).symm⟩
theorem dv_add {a b c : K} (h1 : Dv a b) (h2 : Dv a c) : Dv a (b + c) := by
  obtain ⟨x, rfl⟩ := h1
  obtain ⟨y, rfl⟩ := h2
  exact ⟨x + y, (R.add_mul _ _ _).symm⟩
theorem dv_mul {a b : K} (h : Dv a b) (c : K) : Dv a (c * b) := by
  obtain ⟨x, rfl⟩ := h
  exact ⟨c * x, (R.mul_assoc _ _ _).symm⟩
theorem dv_mul' {a b : K} (h : Dv a b) (c : K) : Dv a (b * c) := by rw [R.mul_comm]; exact R.dv_mul h c
theorem dv_neg {a b : K} (h : Dv a b) : Dv a (-b) := by
  obtain ⟨x, rfl⟩ := h
  exact ⟨-x, by rw [R.mul_comm (-x), R.mul_neg, R.mul_comm]⟩
theorem dv_trans {a b c : K} (h1 : Dv a b) (h2 : Dv b c) : Dv a c := by
  obtain ⟨y, rfl⟩ := h2
  exact R.dv_mul h1 y
theorem dv_one {a b : K} (h : Dv a 1) : Dv a b := by
  have := R.dv_mul h b
  rwa [R.mul_one] at this
/-- Of a sum and a part of it, the other part. -/
theorem dv_sub {a b c : K} (h1 : Dv a (b + c)) (h2 : Dv a b) : Dv a c := by
  have h := R.dv_add h1 (R.dv_neg h2)
  have e : b + c + -b = c := by rw [R.add_comm b c, R.add_assoc, R.add_neg, R.add_zero]
  rwa [e] at h
theorem neg_add' (a b : K) : -(a + b) = -a + -b := by
  refine (R.neg_of ?_).symm
  rw [R.add_assoc, R.add_left_comm b, R.add_neg, R.add_zero, R.add_neg]
theorem neg_zero : -(0 : K) = 0 := (R.neg_of (R.add_zero 0)).symm

/-! Congruence by an element. -/
theorem cong_eqv (f : K) : Equivalence fun a b : K => Dv f (a + -b) := by
  refine ⟨fun a => by rw [R.add_neg]; exact R.dv_zero f, fun {a b} h => ?_, fun {a b c} h1 h2 => ?_⟩
  · have := R.dv_neg h
    rwa [R.neg_add', R.neg_neg, R.add_comm] at this
  · have := R.dv_add h1 h2
    have e : a + -b + (b + -c) = a + -c := by rw [R.add_assoc, ← R.add_assoc (-b), R.neg_add, R.zero_add]
    rwa [e] at this
end IsRing
def sdv (R : IsRing K) (f : K) : Setoid K := ⟨fun a b => Dv f (a + -b), R.cong_eqv f⟩
def Qt (R : IsRing K) (f : K) : Type := Quotient (sdv R f)
def qm (R : IsRing K) (f a : K) : Qt R f := Quotient.mk (sdv R f) a
theorem qm_iff (R : IsRing K) {f a b : K} : qm R f a = qm R f b ↔ Dv f (a + -b) := ⟨fun h => Quotient.exact h, fun h => Quotient.sound h⟩
theorem qm_zero_iff (R : IsRing K) {f a : K} : qm R f a = qm R f 0 ↔ Dv f a := by rw [qm_iff, R.neg_zero, R.add_zero]

variable (R : IsRing K) (f : K)
instance : Add (Qt R f) := ⟨Quotient.lift₂ (fun a b => qm R f (a + b)) fun a b c d h1 h2 => by
  refine (qm_iff R).2 ?_
  have h := R.dv_add (show Dv f (a + -c) from h1) (show Dv f (b + -d) from h2)
  have e : a + -c + (b + -d) = a + b + -(c + d) := by
    rw [R.neg_add']; simp only [R.add_assoc]; rw [R.add_left_comm (-c)]
  rwa [e] at h⟩
instance : Mul (Qt R f) := ⟨Quotient.lift₂ (fun a b => qm R f (a * b)) fun a b c d h1 h2 => by
  refine (qm_iff R).2 ?_
  have h := R.dv_add (R.dv_mul' (show Dv f (a + -c) from h1) b) (R.dv_mul (show Dv f (b + -d) from h2) c)
  have e : (a + -c) * b + c * (b + -d) = a * b + -(c * d) := by
    rw [R.add_mul, R.mul_add, R.mul_neg, R.mul_comm (-c), R.mul_neg, R.mul_comm b c, R.add_assoc, ← R.add_assoc (-(c * b)), R.neg_add, R.zero_add]
  rwa [e] at h⟩
instance : Neg (Qt R f) := ⟨Quotient.lift (fun a => qm R f (-a)) fun a c h1 => by
  refine (qm_iff R).2 ?_
  have h := R.dv_neg (show Dv f (a + -c) from h1)
  rwa [R.neg_add'] at h⟩
instance : Zero (Qt R f) := ⟨qm R f 0⟩
instance : One (Qt R f) := ⟨qm R f 1⟩
theorem qm_add (a b : K) : qm R f (a + b) = qm R f a + qm R f b := rfl
theorem qm_mul (a b : K) : qm R f (a * b) = qm R f a * qm R f b := rfl
theorem qm_zero : qm R f 0 = 0 := rfl
theorem qm_one : qm R f 1 = 1 := rfl
theorem qm_pw (a : K) (n : Nat) : qm R f (pw a n) = pw (qm R f a) n := by
  induction n with
  | zero => rfl
  | succ n ih => simp only [pw, qm_mul, ih]
theorem qm_nsm (a : K) (n : Nat) : qm R f (nsm n a) = nsm n (qm R f a) := by
  induction n with
  | zero => rfl
  | succ n ih => simp only [nsm, qm_add, ih]
theorem qm_all {P : Qt R f → Prop} (h : ∀ a, P (qm R f a)) : ∀ x, P x := fun x => Quotient.ind h x
theorem qring : IsRing (Qt R f) where
  add_comm := qm_all R f fun a => qm_all R f fun b => congrArg (qm R f) (R.add_comm a b)
  add_assoc := qm_all R f fun a => qm_all R f fun b => qm_all R f fun c => congrArg (qm R f) (R.add_assoc a b c)
  add_zero := qm_all R f fun a => congrArg (qm R f) (R.add_zero a)
  add_neg := qm_all R f fun a => congrArg (qm R f) (R.add_neg a)
  mul_comm := qm_all R f fun a => qm_all R f fun b => congrArg (qm R f) (R.mul_comm a b)
  mul_assoc := qm_all R f fun a => qm_all R f fun b => qm_all R f fun c => congrArg (qm R f) (R.mul_assoc a b c)
  mul_one := qm_all R f fun a => congrArg (qm R f) (R.mul_one a)
  mul_add := qm_all R f fun a => qm_all R f fun b => qm_all R f fun c => congrArg (qm R f) (R.mul_add a b c)
end
end Go.Abs
/- Polynomials modulo p are a ring: products go along with sums, in any order. -/
namespace Go.Abs

theorem sumTo_add (f g : Nat → Int) : ∀ n, sumTo n (fun i => f i + g i) = sumTo n f + sumTo n g
  | 0 => rfl
  | n + 1 => by simp only [sumTo, sumTo_add f g n]; omega
theorem sumTo_mul (c : Int) (f : Nat → Int) : ∀ n, sumTo n (fun i => c * f i) = c * sumTo n f
  | 0 => by simp [sumTo]
  | n + 1 => by simp only [sumTo, sumTo_mul c f n, Int.mul_add]
theorem sumTo_mul' (c : Int) (f : Nat → Int) (n : Nat) : sumTo n (fun i => f i * c) = sumTo n f * c := by
  rw [Int.mul_comm, ← sumTo_mul]
  exact sumTo_congr n fun i _ => Int.mul_comm _ _
theorem sumTo_swap (f : Nat → Nat → Int) (m : Nat) : ∀ n, sumTo n (fun i => sumTo m (fun j => f i j)) = sumTo m (fun j => sumTo n (fun i => f i j))
  | 0 => (sumTo_zero m fun _ _ => rfl).symm
  | n + 1 => by simp only [sumTo]; rw [sumTo_swap f m n, ← sumTo_add]
/-- The first summand apart. -/
theorem sumTo_first (f : Nat → Int) : ∀ n, sumTo (n + 1) f = f 0 + sumTo n fun i => f (i + 1)
  | 0 => by simp [sumTo]
  | n + 1 => by
    have := sumTo_first f n
    simp only [sumTo] at this ⊢
    omega
theorem sumTo_rev (f : Nat → Int) : ∀ n, sumTo (n + 1) f = sumTo (n + 1) fun i => f (n - i)
  | 0 => rfl
  | n + 1 => by
    rw [sumTo_first (fun i => f (n + 1 - i)) (n + 1)]
    have h := sumTo_rev f n
    have e : sumTo (n + 1) (fun i => f (n + 1 - (i + 1))) = sumTo (n + 1) fun i => f (n - i) := sumTo_congr _ fun i _ => by rw [show n + 1 - (i + 1) = n - i by omega]
    rw [e, ← h]
    simp only [sumTo, Nat.sub_zero]
    omega
/-- Summands from j on. -/
theorem sumTo_from (g : Nat → Int) (j : Nat) : ∀ n, sumTo (j + n) (fun i => if j ≤ i then g (i - j) else 0) = sumTo n g
  | 0 => by rw [Nat.add_zero]; exact sumTo_zero j fun i hi => if_neg (by omega)
  | n + 1 => by
    rw [← Nat.add_assoc]
    simp only [sumTo]
    rw [sumTo_from g j n, if_pos (by omega), show j + n - j = n by omega]

theorem cv_more (a b : Nat → Int) {n k : Nat} (h : k + 1 ≤ n) : cv a b n k = conv a b k := by
  obtain ⟨m, rfl⟩ : ∃ m, n = k + 1 + m := ⟨n - (k + 1), by omega⟩
  exact sumTo_more m fun i h1 _ => if_neg (by omega)
theorem conv_comm (a b : Nat → Int) (k : Nat) : conv a b k = conv b a k := by
  unfold conv cv
  rw [sumTo_rev]
  refine sumTo_congr _ fun i hi => ?_
  rw [if_pos (by omega), if_pos (by omega), show k - (k - i) = i by omega, Int.mul_comm]
theorem conv_assoc (a b c : Nat → Int) (k : Nat) : conv (conv a b) c k = conv a (conv b c) k := by
  have h1 : conv (conv a b) c k = sumTo (k + 1) fun i => sumTo (k + 1) fun j => (if j ≤ i then a j * b (i - j) else 0) * c (k - i) := by
    unfold conv
    refine sumTo_congr _ fun i hi => ?_
    rw [if_pos (by omega), sumTo_mul']
    congr 1
    exact (cv_more a b (n := k + 1) (by omega)).symm
  have h2 : conv a (conv b c) k = sumTo (k + 1) fun j => a j * sumTo (k + 1 - j) fun l => b l * c (k - j - l) := by
    unfold conv
    refine sumTo_congr _ fun j hj => ?_
    rw [if_pos (by omega)]
    congr 1
    show sumTo (k - j + 1) (fun i => if i ≤ k - j then b i * c (k - j - i) else 0) = _
    rw [show k - j + 1 = k + 1 - j by omega]
    exact sumTo_congr _ fun l hl => if_pos (by omega)
  rw [h1, h2, sumTo_swap]
  refine sumTo_congr _ fun j hj => ?_
  rw [← sumTo_mul, ← sumTo_from (fun l => a j * (b l * c (k - j - l))) j (k + 1 - j), show j + (k + 1 - j) = k + 1 by omega]
  refine sumTo_congr _ fun i hi => ?_
  by_cases h : j ≤ i
  · rw [if_pos h, if_pos h, show k - j - (i - j) = k - i by omega, Int.mul_assoc]
  · rw [if_neg h, if_neg h, Int.zero_mul]
theorem conv_addl (a b c : Nat → Int) (s : Int) (k : Nat) : conv (fun i => a i + s * b i) c k = conv a c k + s * conv b c k := by
  unfold conv cv
  rw [← sumTo_mul, ← sumTo_add]
  refine sumTo_congr _ fun i _ => ?_
  split
  · rw [Int.add_mul, Int.mul_assoc]
  · simp

/-! Modulo p. -/
theorem sumTo_mod {p : Int} {f g : Nat → Int} : ∀ n, (∀ i, i < n → f i % p = g i % p) → sumTo n f % p = sumTo n g % p
  | 0, _ => rfl
  | n + 1, h => by
    simp only [sumTo]
    rw [Int.add_emod, sumTo_mod n fun i hi => h i (by omega), h n (by omega), ← Int.add_emod]
theorem conv_mod {p : Int} {a a' b b' : Nat → Int} (ha : ∀ i, a i % p = a' i % p) (hb : ∀ i, b i % p = b' i % p) (k : Nat) : conv a b k % p = conv a' b' k % p := by
  refine sumTo_mod _ fun i _ => ?_
  split
  · rw [Int.mul_emod, ha, hb, ← Int.mul_emod]
  · rfl
theorem Row.mod {p : Int} {l : List Int} (h : Row p l) (hp : 0 < p) (i : Nat) : Abs.rd l i % p = Abs.rd l i := Int.emod_eq_of_lt (h.rd hp i).1 (h.rd hp i).2

theorem mul_comm' (p : Int) (a b : List Int) : mul p a b = mul p b a := by
  unfold mul
  rw [Nat.add_comm]
  exact ofF_congr fun i _ => by rw [conv_comm]
theorem mul_assoc' {p : Int} (hp : 0 < p) (a b c : List Int) : mul p (mul p a b) c = mul p a (mul p b c) := by
  refine row_ext (mul_row hp _ _) (mul_row hp _ _) fun i => ?_
  rw [mul_rd, mul_rd]
  rw [conv_mod (a' := conv (rd a) (rd b)) (b' := rd c) (fun j => by rw [mul_rd, Int.emod_emod]) (fun _ => rfl), conv_assoc]
  exact conv_mod (fun _ => rfl) (fun j => by rw [mul_rd, Int.emod_emod]) i
theorem conv_one (a : Nat → Int) (i : Nat) : conv a (rd [1]) i = a i := by
  rw [conv_comm]
  unfold conv cv
  rw [sumTo_first, if_pos (by omega), sumTo_zero i fun j hj => ?_]
  · simp [rd]
  · rw [show rd ([1] : List Int) (j + 1) = 0 from rd_ge (by simp)]; simp
theorem mul_one' {p : Int} (hp : 0 < p) {a : List Int} (ha : Row p a) : mul p a [1] = a :=
  row_ext (mul_row hp _ _) ha fun i => by rw [mul_rd, conv_one, ha.mod hp]
theorem one_mul' {p : Int} (hp : 0 < p) {a : List Int} (ha : Row p a) : mul p [1] a = a := by rw [mul_comm', mul_one' hp ha]
theorem comb_mul {p : Int} (hp : 0 < p) (a b c : List Int) (k : Int) : mul p (comb p a b k) c = comb p (mul p a c) (mul p b c) k := by
  refine row_ext (mul_row hp _ _) (comb_row hp _ _ _) fun i => ?_
  rw [mul_rd, comb_rd, mul_rd, mul_rd, conv_mod (a' := fun i => rd a i + k * rd b i) (b' := rd c) (fun j => by rw [comb_rd, Int.emod_emod]) (fun _ => rfl), conv_addl]
  rw [Int.add_emod (conv (rd a) (rd c) i % p), Int.emod_emod, Int.mul_emod k (conv (rd b) (rd c) i % p), Int.emod_emod, ← Int.mul_emod, ← Int.add_emod]
theorem mul_comb {p : Int} (hp : 0 < p) (a b c : List Int) (k : Int) : mul p c (comb p a b k) = comb p (mul p c a) (mul p c b) k := by
  rw [mul_comm', comb_mul hp, mul_comm' p a, mul_comm' p b]
theorem comb_nil {p : Int} (hp : 0 < p) {a : List Int} (ha : Row p a) (k : Int) : comb p a [] k = a :=
  row_ext (comb_row hp _ _ _) ha fun i => by rw [comb_rd, rd_nil, Int.mul_zero, Int.add_zero, ha.mod hp]

/-! Products of lists, as long as their degrees are not too great. -/
def degs : List (List Int) → Nat
  | [] => 0
  | b :: M => (b.length - 1) + degs M
theorem degs_app : ∀ (M N : List (List Int)), degs (M ++ N) = degs M + degs N
  | [], N => by simp [degs]
  | b :: M, N => by simp [degs, degs_app M N]; omega
def prodF (p : Int) (o : List Int) (M : List (List Int)) : List Int := M.foldl (mul p) o
theorem prodF_row {p : Int} (hp : isP p = true) : ∀ (M : List (List Int)) (o : List Int), Row p o → o.length ≠ 0 → (∀ b ∈ M, Row p b ∧ b.length ≠ 0) → Row p (prodF p o M) ∧ (prodF p o M).length = o.length + degs M
  | [], o, ho, h0, _ => ⟨ho, by simp [prodF, degs]⟩
  | b :: M, o, ho, h0, hM => by
    have hp2 := isP_pos hp
    obtain ⟨hb, hb0⟩ := hM b (by simp)
    have hl := mul_len_is hp ho hb h0 hb0
    obtain ⟨h1, h2⟩ := prodF_row hp M (mul p o b) (mul_row (by omega) _ _) (by omega) fun c hc => hM c (by simp [hc])
    exact ⟨h1, by show (prodF p (mul p o b) M).length = _; rw [h2, hl]; simp only [degs]; omega⟩
theorem prodF_app (p : Int) (o : List Int) (M N : List (List Int)) : prodF p o (M ++ N) = prodF p (prodF p o M) N := List.foldl_append
theorem prodF_mul {p : Int} (hp : 0 < p) : ∀ (M : List (List Int)) (o q : List Int), prodF p (mul p o q) M = mul p o (prodF p q M)
  | [], _, _ => rfl
  | b :: M, o, q => by
    show prodF p (mul p (mul p o q) b) M = mul p o (prodF p (mul p q b) M)
    rw [mul_assoc' hp, prodF_mul hp M]
end Go.Abs
/- Numbers modulo p. -/
namespace Go.Proofs.Ytpjdjfhbfcekaaa
open Go.Abs

theorem tmod_fix {n p : Int} (hp : 0 < p) : Int.tmod (Int.tmod n p + p) p = n % p := by
  have h1 := Int.lt_tmod_of_pos n hp
  rw [Int.tmod_eq_emod_of_nonneg (by omega), Int.tmod_def, Int.add_emod_right, Int.sub_mul_emod_self_left]

/-- Numbers that are small. -/
def Ent (l : List Int) : Prop := ∀ i, 0 ≤ rd l i ∧ rd l i < 256

theorem _root_.Go.Abs.Row.ent {p : Int} {l : List Int} (h : Row p l) (hp : 0 < p ∧ p ≤ 256) : Ent l := fun i => by have := h.rd hp.1 i; omega

def V64.Ent (v : V64) : Prop := ∀ i, i < 64 → 0 ≤ rd v.1 i ∧ rd v.1 i < 256

theorem mulk {x k : Int} (hx : 0 ≤ x ∧ x < 256) (hk : -1099511627776 ≤ k ∧ k ≤ 1099511627776) : -281474976710656 ≤ k * x ∧ k * x ≤ 281474976710656 := by
  have h1 : (-1099511627776) * x ≤ k * x := Int.mul_le_mul_of_nonneg_right hk.1 hx.1
  have h2 : k * x ≤ 1099511627776 * x := Int.mul_le_mul_of_nonneg_right hk.2 hx.1
  omega

theorem _root_.Go.Abs.Res.ent {p : Int} {v : V64} (h : Res p v) (hp : p ≤ 256) : V64.Ent v := fun i hi => by have := h i hi; omega

theorem ent_pad {p : Int} {l : List Int} (h : Row p l) (hp : 0 < p ∧ p ≤ 256) : V64.Ent (pad l) := Res.ent (res_pad h hp.1) hp.2

theorem mul_small {x y : Int} (hx : 0 ≤ x ∧ x < 256) (hy : 0 ≤ y ∧ y < 256) : 0 ≤ x * y ∧ x * y ≤ 65025 :=
  ⟨Int.mul_nonneg hx.1 hy.1, Int.mul_le_mul (c := 255) (d := 255) (by omega) (by omega) hy.1 (by omega)⟩
end Go.Proofs.Ytpjdjfhbfcekaaa
/- Inverses modulo p. -/
namespace Go.Proofs.Ytpjdjfhbfcekaaa
open Go.Abs

/-- The inverse of x modulo p. -/
def inv (p x : Int) : Int := if p = 2 then 1 else if p = 3 then x else if p = 5 then (if x = 1 then 1 else if x = 2 then 3 else if x = 3 then 2 else 4) else (if x = 1 then 1 else if x = 2 then 4 else if x = 3 then 5 else if x = 4 then 2 else if x = 5 then 3 else 6)
theorem inv_cases {p x : Int} (hp : isP p = true) (hx : 0 < x ∧ x < p) : (p = 2 ∧ x = 1) ∨ (p = 3 ∧ x = 1) ∨ (p = 3 ∧ x = 2) ∨ (p = 5 ∧ x = 1) ∨ (p = 5 ∧ x = 2) ∨ (p = 5 ∧ x = 3) ∨ (p = 5 ∧ x = 4) ∨
    (p = 7 ∧ x = 1) ∨ (p = 7 ∧ x = 2) ∨ (p = 7 ∧ x = 3) ∨ (p = 7 ∧ x = 4) ∨ (p = 7 ∧ x = 5) ∨ (p = 7 ∧ x = 6) := by
  rcases isP_iff.1 hp with rfl | rfl | rfl | rfl <;> omega
theorem inv_is {p x : Int} (hp : isP p = true) (hx : 0 < x ∧ x < p) : 0 < inv p x ∧ inv p x < p ∧ x * inv p x % p = 1 := by
  rcases inv_cases hp hx with ⟨rfl, rfl⟩ | ⟨rfl, rfl⟩ | ⟨rfl, rfl⟩ | ⟨rfl, rfl⟩ | ⟨rfl, rfl⟩ | ⟨rfl, rfl⟩ | ⟨rfl, rfl⟩ | ⟨rfl, rfl⟩ | ⟨rfl, rfl⟩ | ⟨rfl, rfl⟩ | ⟨rfl, rfl⟩ | ⟨rfl, rfl⟩ | ⟨rfl, rfl⟩ <;> decide
theorem inv_first {p x : Int} (hp : isP p = true) (hx : 0 < x ∧ x < p) {j : Int} (h1 : 1 ≤ j) (h2 : j < inv p x) : j * x % p ≠ 1 := by
  rcases inv_cases hp hx with ⟨rfl, rfl⟩ | ⟨rfl, rfl⟩ | ⟨rfl, rfl⟩ | ⟨rfl, rfl⟩ | ⟨rfl, rfl⟩ | ⟨rfl, rfl⟩ | ⟨rfl, rfl⟩ | ⟨rfl, rfl⟩ | ⟨rfl, rfl⟩ | ⟨rfl, rfl⟩ | ⟨rfl, rfl⟩ | ⟨rfl, rfl⟩ | ⟨rfl, rfl⟩ <;> simp [inv] at h2 <;> omega
theorem inv_pow {p x : Int} (hp : isP p = true) (hx : 0 < x ∧ x < p) : x ^ (p - 2).toNat % p = inv p x := by
  rcases inv_cases hp hx with ⟨rfl, rfl⟩ | ⟨rfl, rfl⟩ | ⟨rfl, rfl⟩ | ⟨rfl, rfl⟩ | ⟨rfl, rfl⟩ | ⟨rfl, rfl⟩ | ⟨rfl, rfl⟩ | ⟨rfl, rfl⟩ | ⟨rfl, rfl⟩ | ⟨rfl, rfl⟩ | ⟨rfl, rfl⟩ | ⟨rfl, rfl⟩ | ⟨rfl, rfl⟩ <;> decide
end Go.Proofs.Ytpjdjfhbfcekaaa
/- Division of polynomials, from the leading coefficient on. -/
namespace Go.Proofs.Ytpjdjfhbfcekaaa
open Go.Abs

def dstep (p : Int) (b : Nat → Int) (m : Nat) (f : Int) (i : Nat) (r : Nat → Int) (j : Nat) : Int := if i ≤ j ∧ j ≤ i + m then (r j - f * b (j - i)) % p else r j
def dfac (p iv : Int) (m i : Nat) (r : Nat → Int) : Int := r (i + m) * iv % p
def drem (p : Int) (b : Nat → Int) (m : Nat) (iv : Int) : Nat → (Nat → Int) → Nat → Int
  | 0, r => r
  | i + 1, r => drem p b m iv i (dstep p b m (dfac p iv m i r) i r)
def dquo (p : Int) (b : Nat → Int) (m : Nat) (iv : Int) : Nat → (Nat → Int) → Nat → Int
  | 0, _, _ => 0
  | i + 1, r, j => if j = i then dfac p iv m i r else dquo p b m iv i (dstep p b m (dfac p iv m i r) i r) j
def lead (b : List Int) : Int := rd b (b.length - 1)
def quo (p : Int) (a b : List Int) : List Int := ofF (a.length + 1 - b.length) (dquo p (rd b) (b.length - 1) (inv p (lead b)) (a.length + 1 - b.length) (rd a))
def rem (p : Int) (a b : List Int) : List Int := ofF a.length (drem p (rd b) (b.length - 1) (inv p (lead b)) (a.length + 1 - b.length) (rd a))

section
variable {p : Int} {b : Nat → Int} {m : Nat} {iv : Int}
theorem dstep_res (hp : 0 < p) {r : Nat → Int} (hr : ∀ j, 0 ≤ r j ∧ r j < p) (f : Int) (i j : Nat) : 0 ≤ dstep p b m f i r j ∧ dstep p b m f i r j < p := by
  unfold dstep
  split
  · exact emod_res hp _
  · exact hr j
theorem drem_res (hp : 0 < p) : ∀ (i : Nat) (r : Nat → Int), (∀ j, 0 ≤ r j ∧ r j < p) → ∀ j, 0 ≤ drem p b m iv i r j ∧ drem p b m iv i r j < p
  | 0, r, hr, j => hr j
  | i + 1, r, hr, j => drem_res hp i _ (fun j => dstep_res hp hr _ i j) j
theorem dquo_res (hp : 0 < p) : ∀ (i : Nat) (r : Nat → Int) (j : Nat), 0 ≤ dquo p b m iv i r j ∧ dquo p b m iv i r j < p
  | 0, r, j => by simp only [dquo]; omega
  | i + 1, r, j => by
    simp only [dquo]
    split
    · exact emod_res hp _
    · exact dquo_res hp i _ j
theorem dquo_ge : ∀ (i : Nat) (r : Nat → Int) (j : Nat), i ≤ j → dquo p b m iv i r j = 0
  | 0, _, _, _ => rfl
  | i + 1, r, j, h => by
    simp only [dquo]
    rw [if_neg (by omega)]
    exact dquo_ge i _ j (by omega)
theorem cv_congr {f g c : Nat → Int} (k : Nat) : ∀ n, (∀ i, i < n → f i = g i) → cv f c n k = cv g c n k := fun n h => sumTo_congr n fun i hi => by rw [h i hi]
/-- The rest vanishes from the place m on. -/
theorem drem_zero (hp : 0 < p) (hb : b m * iv % p = 1 % p) : ∀ (i : Nat) (r : Nat → Int), (∀ j, 0 ≤ r j ∧ r j < p) → (∀ j, i + m ≤ j → r j = 0) → ∀ j, m ≤ j → drem p b m iv i r j = 0
  | 0, r, _, hz, j, hj => hz j (by omega)
  | i + 1, r, hr, hz, j, hj => by
    refine drem_zero hp hb i _ (fun j => dstep_res hp hr _ i j) (fun j hj => ?_) j hj
    unfold dstep
    by_cases e : j = i + m
    · subst e
      rw [if_pos (by omega), show i + m - i = m by omega]
      have h1 : (r (i + m) - dfac p iv m i r * b m) % p = 0 := by
        unfold dfac
        have h2 : (r (i + m) * iv % p) * b m % p = r (i + m) % p := by
          rw [Int.mul_emod, Int.emod_emod, ← Int.mul_emod, Int.mul_assoc, Int.mul_emod, Int.mul_comm iv, hb, ← Int.mul_emod, Int.mul_one]
        rw [Int.sub_emod, h2, Int.sub_self]; rfl
      exact h1
    · rw [if_neg (by omega)]
      exact hz j (by omega)
/-- Quotient and rest give what was divided. -/
theorem div_eq (hp : 0 < p) (hbz : ∀ j, m < j → b j = 0) : ∀ (i : Nat) (r : Nat → Int) (j : Nat), (cv (dquo p b m iv i r) b i j + drem p b m iv i r j) % p = r j % p
  | 0, r, j => by simp [cv, sumTo, drem]
  | i + 1, r, j => by
    have ih := div_eq hp hbz i (dstep p b m (dfac p iv m i r) i r) j
    simp only [drem]
    rw [cv_succ, cv_congr (g := dquo p b m iv i (dstep p b m (dfac p iv m i r) i r)) j i fun k hk => by simp only [dquo]; rw [if_neg (by omega)]]
    have e : dquo p b m iv (i + 1) r i = dfac p iv m i r := by simp only [dquo, if_true]
    rw [e]
    generalize dfac p iv m i r = f at *
    generalize cv (dquo p b m iv i (dstep p b m f i r)) b i j = c at *
    generalize drem p b m iv i (dstep p b m f i r) j = d at *
    by_cases h : i ≤ j
    · rw [if_pos h]
      by_cases h2 : j ≤ i + m
      · simp only [dstep] at ih
        rw [if_pos ⟨h, h2⟩, Int.emod_emod] at ih
        have e1 : c + f * b (j - i) + d = (c + d) + f * b (j - i) := by omega
        rw [e1, Int.add_emod, ih, ← Int.add_emod]
        congr 1
        omega
      · simp only [dstep] at ih
        rw [if_neg (by omega)] at ih
        rw [hbz (j - i) (by omega), Int.mul_zero, Int.add_zero]
        exact ih
    · simp only [dstep] at ih
      rw [if_neg (by omega)] at ih
      rw [if_neg h, Int.add_zero]
      exact ih
end

theorem lead_pos {p : Int} (hp : 0 < p) {b : List Int} (hb : Row p b) (h0 : b.length ≠ 0) : 0 < lead b ∧ lead b < p := by
  have h1 := hb.rd hp (b.length - 1)
  have h2 := hb.nrm h0
  unfold lead
  omega
theorem quo_row {p : Int} (hp : 0 < p) (a b : List Int) : Row p (quo p a b) := row_ofF fun i _ => dquo_res hp _ _ i
theorem rem_row {p : Int} (hp : 0 < p) {a : List Int} (ha : Row p a) (b : List Int) : Row p (rem p a b) := row_ofF fun i _ => drem_res hp _ _ (fun j => ha.rd hp j) i
theorem quo_len (p : Int) (a b : List Int) : (quo p a b).length ≤ a.length + 1 - b.length := by rw [quo, ofF_len]; exact top_le _ _
theorem rem_len' (p : Int) (a b : List Int) : (rem p a b).length ≤ a.length := by rw [rem, ofF_len]; exact top_le _ _
theorem quo_rd (p : Int) (a b : List Int) (j : Nat) : rd (quo p a b) j = dquo p (rd b) (b.length - 1) (inv p (lead b)) (a.length + 1 - b.length) (rd a) j := rd_ofF (fun i hi => dquo_ge _ _ _ hi) j
theorem drem_big {p : Int} {b : Nat → Int} {m : Nat} {iv : Int} : ∀ (i : Nat) (r : Nat → Int) (n : Nat), i + m ≤ n → (∀ j, n ≤ j → r j = 0) → ∀ j, n ≤ j → drem p b m iv i r j = 0
  | 0, r, n, _, hz, j, hj => hz j hj
  | i + 1, r, n, hn, hz, j, hj => drem_big i _ n (by omega) (fun j hj => by unfold dstep; rw [if_neg (by omega)]; exact hz j hj) j hj
theorem rem_rd {p : Int} (a : List Int) {b : List Int} (h0 : b.length ≠ 0) (j : Nat) : rd (rem p a b) j = drem p (rd b) (b.length - 1) (inv p (lead b)) (a.length + 1 - b.length) (rd a) j := by
  refine rd_ofF (fun i hi => ?_) j
  rcases Nat.lt_or_ge a.length b.length with h | h
  · rw [show a.length + 1 - b.length = 0 by omega]; exact rd_ge hi
  · exact drem_big _ _ a.length (by omega) (fun j hj => rd_ge hj) i hi
theorem rem_len {p : Int} (hp : isP p = true) {a b : List Int} (ha : Row p a) (hb : Row p b) (h0 : b.length ≠ 0) : (rem p a b).length < b.length := by
  have hp2 := isP_pos hp
  have hi := inv_is hp (lead_pos (show 0 < p by omega) hb h0)
  have hz : ∀ j, b.length - 1 ≤ j → rd (rem p a b) j = 0 := fun j hj => by
    rw [rem_rd a h0]
    refine drem_zero (by omega) ?_ _ _ (fun j => ha.rd (by omega) j) (fun j hj => rd_ge (by omega)) j hj
    have : (1 : Int) % p = 1 := Int.emod_eq_of_lt (by omega) (by omega)
    rw [this]
    exact hi.2.2
  rcases Nat.lt_or_ge (rem p a b).length b.length with h | h
  · exact h
  · have h1 := (rem_row (show 0 < p by omega) ha b).nrm (by omega)
    exact absurd (hz _ (by omega)) h1
/-- What is divided is quotient times divisor, plus the rest. -/
theorem divide_eq {p : Int} (hp : isP p = true) {a b : List Int} (ha : Row p a) (h0 : b.length ≠ 0) (j : Nat) : rd a j = (conv (rd (quo p a b)) (rd b) j + rd (rem p a b) j) % p := by
  have hp2 := isP_pos hp
  have h := div_eq (p := p) (b := rd b) (m := b.length - 1) (iv := inv p (lead b)) (by omega) (fun j hj => rd_ge (by omega)) (a.length + 1 - b.length) (rd a) j
  have e : conv (rd (quo p a b)) (rd b) j = cv (dquo p (rd b) (b.length - 1) (inv p (lead b)) (a.length + 1 - b.length) (rd a)) (rd b) (a.length + 1 - b.length) j := by
    rw [← cv_conv (n := a.length + 1 - b.length) fun i hi => rd_ge (Nat.le_trans (quo_len p a b) hi)]
    exact cv_congr _ _ fun i _ => quo_rd p a b i
  have hr := ha.rd (show 0 < p by omega) j
  rw [e, rem_rd a h0, h, Int.emod_eq_of_lt hr.1 hr.2]
end Go.Proofs.Ytpjdjfhbfcekaaa
/- Numbers as digits. -/
namespace Go.Proofs.Ytpjdjfhbfcekaaa
open Go.Abs

def digs (p n : Nat) : List Int := if n = 0 ∨ p < 2 then [] else ((n % p : Nat) : Int) :: digs p (n / p)
termination_by n
decreasing_by exact Nat.div_lt_self (by omega) (by omega)

theorem digs_zero (p : Nat) : digs p 0 = [] := by rw [digs]; simp

theorem digs_pos {p n : Nat} (hp : 2 ≤ p) (hn : 0 < n) : digs p n = ((n % p : Nat) : Int) :: digs p (n / p) := by
  rw [digs, if_neg (by omega)]

theorem digs_sum {p : Nat} : ∀ n : Nat, (∀ d ∈ digs p n, (0 : Int) ≤ d) ∧ (digs p n).sum ≤ n ∧ (digs p n).length ≤ n := by
  intro n
  induction n using Nat.strongRecOn with
  | ind n ih =>
    by_cases h : n = 0 ∨ p < 2
    · rw [digs, if_pos h]; simp
    · have hlt : n / p < n := Nat.div_lt_self (by omega) (by omega)
      have hle : n % p + n / p ≤ n := by
        have := Nat.div_add_mod n p
        have h3 : n / p ≤ p * (n / p) := Nat.le_mul_of_pos_left _ (by omega)
        omega
      obtain ⟨h1, h2, h3⟩ := ih _ hlt
      rw [digs, if_neg h]
      refine ⟨fun d hd => ?_, ?_, ?_⟩
      · rcases List.mem_cons.1 hd with rfl | hd
        · omega
        · exact h1 d hd
      · simp only [List.sum_cons]; omega
      · simp only [List.length_cons]; omega

theorem digs_lt {p : Nat} (hp : 2 ≤ p) : ∀ n : Nat, ∀ d ∈ digs p n, 0 ≤ d ∧ d < p := by
  intro n
  induction n using Nat.strongRecOn with
  | ind n ih =>
    intro d hd
    by_cases h : n = 0
    · subst h; rw [digs_zero] at hd; cases hd
    · rw [digs_pos hp (by omega)] at hd
      rcases List.mem_cons.1 hd with rfl | hd
      · have := Nat.mod_lt n (show p > 0 by omega)
        generalize n % p = x at this
        omega
      · exact ih _ (Nat.div_lt_self (by omega) hp) d hd

theorem digs_len {p : Nat} (hp : 2 ≤ p) : ∀ (k n : Nat), n < 2 ^ k → (digs p n).length ≤ k
  | 0, n, h => by
    have : n = 0 := by simpa using h
    subst this; rw [digs_zero]; simp
  | k + 1, n, h => by
    by_cases hn : n = 0
    · subst hn; rw [digs_zero]; simp
    · rw [digs_pos hp (by omega)]
      have : n / p < 2 ^ k := by
        have h1 : n / p ≤ n / 2 := Nat.div_le_div_left hp (by omega)
        have h2 : n / 2 < 2 ^ k := by rw [Nat.pow_succ] at h; omega
        omega
      have := digs_len hp k _ this
      simp only [List.length_cons]; omega

theorem digs_len40 {p n : Nat} (hp : 2 ≤ p) (hn : n ≤ 1000000000000) : (digs p n).length ≤ 40 := digs_len hp 40 n (by omega)

theorem digs_bytes {p n : Nat} (hp : 2 ≤ p) (h : p ≤ 256) : Bytes (digs p n) := fun d hd => by
  have := digs_lt hp n d hd; omega

theorem rd_cons (x : Int) (l : List Int) (i : Nat) : rd (x :: l) (i + 1) = rd l i := by simp [rd]
theorem digs_row {p : Nat} (hp : 2 ≤ p) (n : Nat) : Row p (digs p n) := by
  refine ⟨fun d hd => ?_, ?_⟩
  · have := digs_lt hp n d hd; omega
  · induction n using Nat.strongRecOn with
    | ind n ih =>
      intro h
      have hn : 0 < n := by
        rcases Nat.eq_zero_or_pos n with rfl | h'
        · rw [digs_zero] at h; simp at h
        · exact h'
      rw [digs_pos hp hn]
      simp only [List.length_cons, Nat.add_sub_cancel]
      rcases Nat.eq_zero_or_pos (n / p) with h0 | h0
      · rw [h0, digs_zero]
        have : n < p := by
          rcases Nat.lt_or_ge n p with h | h
          · exact h
          · have := Nat.div_pos h (by omega); omega
        rw [Nat.mod_eq_of_lt this]
        simp [rd]; omega
      · have hlt : n / p < n := Nat.div_lt_self hn (by omega)
        have h1 : (digs p (n / p)).length ≠ 0 := by rw [digs_pos hp h0]; simp
        have h2 := ih _ hlt h1
        obtain ⟨m, hm⟩ : ∃ m, (digs p (n / p)).length = m + 1 := ⟨(digs p (n / p)).length - 1, by omega⟩
        rw [hm] at h2 ⊢
        rw [rd_cons]
        simpa using h2
theorem digs_len_pow {p : Nat} (hp : 2 ≤ p) : ∀ (d n : Nat), p ^ d ≤ n → n < p ^ (d + 1) → (digs p n).length = d + 1
  | 0, n, h1, h2 => by
    simp only [Nat.pow_zero, Nat.zero_add, Nat.pow_one] at h1 h2
    rw [digs_pos hp (by omega), Nat.div_eq_of_lt h2, digs_zero]; rfl
  | d + 1, n, h1, h2 => by
    have hpos : 0 < p ^ (d + 1) := Nat.pow_pos (by omega)
    have h3 : p ^ d ≤ n / p := by
      rw [Nat.le_div_iff_mul_le (by omega)]
      rwa [← Nat.pow_succ]
    have h4 : n / p < p ^ (d + 1) := by
      rw [Nat.div_lt_iff_lt_mul (by omega)]
      rwa [← Nat.pow_succ]
    rw [digs_pos hp (by omega), List.length_cons, digs_len_pow hp d _ h3 h4]
theorem digs_monic_len {p : Nat} (hp : 2 ≤ p) {d i : Nat} (hi : i < p ^ d) : (digs p (p ^ d + i)).length = d + 1 := by
  refine digs_len_pow hp d _ (by omega) ?_
  have : p ^ (d + 1) = p ^ d * p := Nat.pow_succ ..
  have h2 : p ^ d * 2 ≤ p ^ d * p := Nat.mul_le_mul_left _ hp
  omega
end Go.Proofs.Ytpjdjfhbfcekaaa
/- The polynomials modulo p as a ring; irreducible ones. -/
namespace Go.Proofs.Ytpjdjfhbfcekaaa
open Go.Abs

structure Pri where
  n : Nat
  ok : isP (n : Int) = true
def Pri.p (P : Pri) : Int := P.n
theorem Pri.okp (P : Pri) : isP P.p = true := P.ok
theorem Pri.pos (P : Pri) : 0 < P.p := by have := isP_pos P.ok; unfold Pri.p; omega
theorem Pri.two (P : Pri) : 2 ≤ P.p ∧ P.p ≤ 7 := isP_pos P.ok
theorem Pri.is (P : Pri) : P.n = 2 ∨ P.n = 3 ∨ P.n = 5 ∨ P.n = 7 := by
  have := isP_iff.1 P.ok; omega
structure PP (P : Pri) where
  l : List Int
  row : Row P.p l
theorem pp_eq {P : Pri} : ∀ {a b : PP P}, a.1 = b.1 → a = b
  | ⟨_, _⟩, ⟨_, _⟩, h => by cases h; rfl
variable {P : Pri}
def PP.len (a : PP P) : Nat := a.1.length
def PP.c (a : PP P) (i : Nat) : Int := rd a.1 i
theorem PP.c_res (a : PP P) (i : Nat) : 0 ≤ a.c i ∧ a.c i < P.p := a.2.rd P.pos i
theorem PP.c_mod (a : PP P) (i : Nat) : a.c i % P.p = a.c i := a.2.mod P.pos i
theorem pp_ext {a b : PP P} (h : ∀ i, a.c i = b.c i) : a = b := pp_eq (row_ext a.2 b.2 h)
theorem row1 {p : Int} (hp : 2 ≤ p) : Row p [1] := ⟨by simp; omega, by simp [rd]⟩
theorem rowT {p : Int} (hp : 2 ≤ p) : Row p [0, 1] := ⟨by simp; omega, by simp [rd]⟩
instance : Add (PP P) := ⟨fun a b => ⟨comb P.p a.1 b.1 1, comb_row P.pos _ _ _⟩⟩
instance : Mul (PP P) := ⟨fun a b => ⟨mul P.p a.1 b.1, mul_row P.pos _ _⟩⟩
instance : Neg (PP P) := ⟨fun a => ⟨comb P.p [] a.1 (-1), comb_row P.pos _ _ _⟩⟩
instance : Zero (PP P) := ⟨⟨[], row_nil _⟩⟩
instance : One (PP P) := ⟨⟨[1], row1 P.two.1⟩⟩
def ppm (l : List Int) (h : Row P.p l) : PP P := ⟨l, h⟩
def ppT : PP P := ⟨[0, 1], rowT P.two.1⟩
theorem add_c (a b : PP P) (i : Nat) : (a + b).c i = (a.c i + b.c i) % P.p := by
  show rd (comb P.p a.1 b.1 1) i = _
  rw [comb_rd, Int.one_mul]; rfl
theorem neg_c (a : PP P) (i : Nat) : (-a).c i = (-a.c i) % P.p := by
  show rd (comb P.p [] a.1 (-1)) i = _
  rw [comb_rd, rd_nil, Int.zero_add, Int.neg_mul, Int.one_mul]; rfl
theorem mul_c (a b : PP P) (i : Nat) : (a * b).c i = conv a.c b.c i % P.p := mul_rd _ _ _ _
theorem zero_c (i : Nat) : (0 : PP P).c i = 0 := rd_nil i
theorem ppring : IsRing (PP P) where
  add_comm a b := pp_ext fun i => by rw [add_c, add_c, Int.add_comm]
  add_assoc a b c := pp_ext fun i => by simp only [add_c, Int.emod_add_emod, Int.add_emod_emod, Int.add_assoc]
  add_zero a := pp_ext fun i => by rw [add_c, zero_c, Int.add_zero, PP.c_mod]
  add_neg a := pp_ext fun i => by rw [add_c, neg_c, zero_c, Int.add_emod_emod, Int.add_right_neg]; rfl
  mul_comm a b := pp_eq (mul_comm' _ _ _)
  mul_assoc a b c := pp_eq (mul_assoc' P.pos _ _ _)
  mul_one a := pp_eq (mul_one' P.pos a.2)
  mul_add a b c := pp_eq (mul_comb P.pos _ _ _ _)

theorem len_zero {a : PP P} : a.len = 0 ↔ a = 0 := ⟨fun h => pp_eq (List.eq_nil_of_length_eq_zero h), fun h => by rw [h]; rfl⟩
theorem len_one : (1 : PP P).len = 1 := rfl
theorem one_ne : (1 : PP P) ≠ 0 := fun h => by have := len_zero.2 h; rw [len_one] at this; omega
theorem len_mul {a b : PP P} (ha : a ≠ 0) (hb : b ≠ 0) : (a * b).len = a.len + b.len - 1 :=
  mul_len_is P.ok a.2 b.2 (fun h => ha (len_zero.1 h)) (fun h => hb (len_zero.1 h))
theorem len_add (a b : PP P) : (a + b).len ≤ max a.len b.len := comb_len _ _ _ _
theorem len_neg (a : PP P) : (-a).len ≤ a.len := by
  have := comb_len P.p [] a.1 (-1)
  show (comb P.p [] a.1 (-1)).length ≤ a.1.length
  simpa using this
theorem len_pos {a : PP P} (h : a ≠ 0) : 1 ≤ a.len := by
  rcases Nat.eq_zero_or_pos a.len with h0 | h0
  · exact absurd (len_zero.1 h0) h
  · exact h0
theorem pp_dom : ∀ a b : PP P, a * b = 0 → a = 0 ∨ b = 0 := fun a b h => by
  by_cases ha : a = 0
  · exact .inl ha
  · by_cases hb : b = 0
    · exact .inr hb
    · have h1 := len_mul ha hb
      rw [h, len_zero.2 rfl] at h1
      have := len_pos ha
      have := len_pos hb
      omega
theorem nsm_c (n : Nat) (a : PP P) (i : Nat) : (nsm n a).c i = (n * a.c i) % P.p := by
  induction n with
  | zero => simp [nsm, zero_c]
  | succ n ih =>
    simp only [nsm, add_c, ih, Int.emod_add_emod]
    congr 1
    rw [Int.natCast_succ, Int.add_mul, Int.one_mul]
theorem pp_char (x : PP P) : nsm P.n x = 0 := pp_ext fun i => by
  rw [nsm_c, zero_c]
  exact Int.emod_eq_zero_of_dvd ⟨x.c i, rfl⟩

/-! Division. -/
def pquo (a b : PP P) : PP P := ⟨quo P.p a.1 b.1, quo_row P.pos _ _⟩
def prem (a b : PP P) : PP P := ⟨rem P.p a.1 b.1, rem_row P.pos a.2 _⟩
theorem pdiv (a : PP P) {b : PP P} (hb : b ≠ 0) : a = pquo a b * b + prem a b ∧ (prem a b).len < b.len := by
  have h0 : b.1.length ≠ 0 := fun h => hb (len_zero.1 h)
  refine ⟨pp_ext fun i => ?_, rem_len P.ok a.2 b.2 h0⟩
  rw [add_c, mul_c, Int.emod_add_emod]
  exact divide_eq P.ok a.2 h0 i
theorem dv_len {a b : PP P} (h : Dv a b) (hb : b ≠ 0) : a.len ≤ b.len := by
  obtain ⟨q, rfl⟩ := h
  have hq : q ≠ 0 := fun e => hb (by rw [e, ppring.zero_mul])
  have ha : a ≠ 0 := fun e => hb (by rw [e, ppring.mul_zero])
  have := len_mul hq ha
  have := len_pos hq
  omega
theorem dv_small {a b : PP P} (h : Dv a b) (hl : b.len < a.len) : b = 0 := by
  by_cases hb : b = 0
  · exact hb
  · have := dv_len h hb; omega
theorem prem_iff {a b : PP P} (hb : b ≠ 0) : prem a b = 0 ↔ Dv b a := by
  obtain ⟨h1, h2⟩ := pdiv a hb
  constructor
  · intro h
    rw [h, ppring.add_zero] at h1
    exact ⟨_, h1⟩
  · intro h
    rw [h1] at h
    exact dv_small (ppring.dv_sub h (ppring.dv_mul (ppring.dv_refl b) _)) h2
theorem quo_is {a b q r : PP P} (hb : b ≠ 0) (h : a = q * b + r) (hr : r.len < b.len) : pquo a b = q ∧ prem a b = r := by
  obtain ⟨h1, h2⟩ := pdiv a hb
  have R : IsRing (PP P) := ppring
  have e : (pquo a b + -q) * b = r + -prem a b := by
    have h3 : q * b + r = pquo a b * b + prem a b := by rw [← h, ← h1]
    rw [R.add_mul, R.mul_comm (-q), R.mul_neg, R.mul_comm b q]
    refine R.cancel (a := q * b) ?_
    rw [R.add_left_comm, R.add_neg, R.add_zero]
    refine R.cancel (a := prem a b) ?_
    rw [R.add_comm (prem a b), ← h3, R.add_left_comm (prem a b), R.add_left_comm (prem a b), R.add_neg, R.add_zero]
  have hz : r + -prem a b = 0 := by
    refine dv_small (a := b) ⟨_, e.symm⟩ ?_
    have := len_add r (-prem a b)
    have := len_neg (prem a b)
    omega
  have hr' := R.sub_zero hz
  refine ⟨?_, hr'.symm⟩
  rw [hz] at e
  rcases pp_dom _ _ e with h4 | h4
  · exact R.sub_zero h4
  · exact absurd h4 hb

/-! Units, the greatest common divisor. -/
theorem unit_of {a : PP P} (h : a.len = 1) : ∃ b, b * a = 1 := by
  have hc := a.c_res 0
  have hn : a.c 0 ≠ 0 := by
    have := a.2.nrm (by have : a.1.length = 1 := h; omega)
    have h1 : a.1.length = 1 := h
    rw [h1] at this
    exact this
  obtain ⟨i1, i2, i3⟩ := inv_is P.ok (x := a.c 0) ⟨by omega, hc.2⟩
  have hr : Row P.p [inv P.p (a.c 0)] := ⟨by simp only [List.mem_singleton, forall_eq]; exact ⟨by have : 0 < inv P.p (a.c 0) := i1; omega, i2⟩, fun _ => by simp [rd]; have : 0 < inv P.p (a.c 0) := i1; omega⟩
  refine ⟨ppm _ hr, ?_⟩
  refine pp_ext fun i => ?_
  have h1 : a.1.length = 1 := h
  rw [mul_c]
  have e1 : (1 : PP P).c i = if i = 0 then 1 else 0 := by
    show rd [1] i = _
    by_cases hi : i = 0
    · subst hi; simp [rd]
    · rw [if_neg hi, rd_ge (by simp; omega)]
  rw [e1]
  by_cases hi : i = 0
  · subst hi
    rw [if_pos rfl]
    have : conv (PP.c (ppm _ hr : PP P)) a.c 0 = inv P.p (a.c 0) * a.c 0 := by
      simp [conv, cv, sumTo, PP.c, ppm, rd]
    rw [this, Int.mul_comm]
    exact i3
  · have z1 : ∀ j, 1 ≤ j → (ppm _ hr : PP P).c j = 0 := fun j hj => rd_ge (l := [inv P.p (a.c 0)]) (by simpa using hj)
    have z2 : ∀ j, 1 ≤ j → a.c j = 0 := fun j hj => rd_ge (l := a.1) (by omega)
    rw [if_neg hi, conv_zero (n := 1) (m := 1) z1 z2 (by omega)]
    rfl
theorem dv_unit {a : PP P} (h : a.len = 1) (b : PP P) : Dv a b := by
  obtain ⟨u, hu⟩ := unit_of h
  exact ppring.dv_one ⟨u, hu.symm⟩
theorem bezout : ∀ (n : Nat) (a b : PP P), b.len ≤ n → ∃ g u v, g = u * a + v * b ∧ Dv g a ∧ Dv g b
  | 0, a, b, h => by
    have hb : b = 0 := len_zero.1 (by omega)
    subst hb
    exact ⟨a, 1, 0, by rw [ppring.one_mul, ppring.zero_mul, ppring.add_zero], ppring.dv_refl a, ppring.dv_zero a⟩
  | n + 1, a, b, h => by
    by_cases hb : b = 0
    · subst hb
      exact ⟨a, 1, 0, by rw [ppring.one_mul, ppring.zero_mul, ppring.add_zero], ppring.dv_refl a, ppring.dv_zero a⟩
    · obtain ⟨h1, h2⟩ := pdiv a hb
      obtain ⟨g, u, v, e, d1, d2⟩ := bezout n b (prem a b) (by omega)
      have R : IsRing (PP P) := ppring
      refine ⟨g, v, u + -(v * pquo a b), ?_, ?_, d1⟩
      · have e2 : v * a = v * (pquo a b * b) + v * prem a b := by rw [← R.mul_add, ← h1]
        have e3 : -(v * pquo a b) * b = -(v * (pquo a b * b)) := by rw [R.mul_comm (-(v * pquo a b)), R.mul_neg, R.mul_comm b, R.mul_assoc]
        rw [e2, R.add_mul, e3, e]
        generalize v * (pquo a b * b) = x
        generalize v * prem a b = y
        generalize u * b = z
        rw [R.add_comm z (-x), R.add_assoc x, R.add_left_comm y, ← R.add_assoc x, R.add_neg, R.zero_add, R.add_comm]
      · rw [h1]
        exact R.dv_add (R.dv_mul d1 _) d2

def Irr (f : PP P) : Prop := 2 ≤ f.len ∧ ∀ a b : PP P, f = a * b → a.len = 1 ∨ b.len = 1
theorem Irr.ne {f : PP P} (h : Irr f) : f ≠ 0 := fun e => by have := h.1; rw [len_zero.2 e] at this; omega
/-- What divides an irreducible polynomial is a unit, or is divided by it. -/
theorem Irr.dv {f g : PP P} (h : Irr f) (hg : Dv g f) : g.len = 1 ∨ Dv f g := by
  obtain ⟨q, e⟩ := hg
  rcases h.2 q g e with h1 | h1
  · obtain ⟨u, hu⟩ := unit_of h1
    exact .inr ⟨u, by rw [e, ← ppring.mul_assoc, hu, ppring.one_mul]⟩
  · exact .inl h1
theorem Irr.coprime {f a : PP P} (h : Irr f) (ha : ¬ Dv f a) : ∃ u v, u * a + v * f = 1 := by
  obtain ⟨g, u, v, e, d1, d2⟩ := bezout f.len a f (Nat.le_refl _)
  rcases h.dv d2 with h1 | h1
  · obtain ⟨w, hw⟩ := unit_of h1
    exact ⟨w * u, w * v, by rw [← hw, e, ppring.mul_add, ppring.mul_assoc, ppring.mul_assoc]⟩
  · exact absurd (ppring.dv_trans h1 d1) ha
theorem Irr.prime {f a b : PP P} (h : Irr f) (hab : Dv f (a * b)) : Dv f a ∨ Dv f b := by
  by_cases ha : Dv f a
  · exact .inl ha
  · obtain ⟨u, v, e⟩ := h.coprime ha
    refine .inr ?_
    have e2 : b = u * (a * b) + v * b * f := by
      rw [← ppring.mul_assoc, ppring.mul_assoc v b, ppring.mul_comm b f, ← ppring.mul_assoc v f, ← ppring.add_mul, e, ppring.one_mul]
    rw [e2]
    exact ppring.dv_add (ppring.dv_mul hab u) (ppring.dv_mul (ppring.dv_refl f) _)
/-- What is not irreducible has a divisor of at most half its degree. -/
theorem Irr.of_not {f : PP P} (h2 : 2 ≤ f.len) (h : ¬ Irr f) : ∃ a b, f = a * b ∧ 2 ≤ a.len ∧ 2 ≤ b.len ∧ a.len < f.len ∧ b.len < f.len ∧ a.len + b.len = f.len + 1 := by
  have h3 : ∃ a b, f = a * b ∧ ¬ (a.len = 1 ∨ b.len = 1) := Classical.byContradiction fun hn => h ⟨h2, fun a b e => Classical.byContradiction fun hc => hn ⟨a, b, e, hc⟩⟩
  obtain ⟨a, b, e, hc⟩ := h3
  have hf : f ≠ 0 := fun e0 => by rw [len_zero.2 e0] at h2; omega
  have ha : a ≠ 0 := fun e0 => hf (by rw [e, e0, ppring.zero_mul])
  have hb : b ≠ 0 := fun e0 => hf (by rw [e, e0, ppring.mul_zero])
  have h4 := len_mul ha hb
  rw [← e] at h4
  have := len_pos ha
  have := len_pos hb
  exact ⟨a, b, e, by omega, by omega, by omega, by omega, by omega⟩
theorem exists_irr : ∀ (n : Nat) (f : PP P), f.len ≤ n → 2 ≤ f.len → ∃ g, Irr g ∧ Dv g f
  | 0, f, h, h2 => by omega
  | n + 1, f, h, h2 => by
    by_cases hi : Irr f
    · exact ⟨f, hi, ppring.dv_refl f⟩
    · obtain ⟨a, b, e, h3, h4, h5, _⟩ := Irr.of_not h2 hi
      obtain ⟨g, hg, hd⟩ := exists_irr n a (by omega) h3
      exact ⟨g, hg, by rw [e]; exact ppring.dv_mul' hd b⟩
/-- One of at most half the degree. -/
theorem exists_half {f : PP P} (h2 : 2 ≤ f.len) (h : ¬ Irr f) : ∃ g, Irr g ∧ Dv g f ∧ 2 * (g.len - 1) ≤ f.len - 1 := by
  obtain ⟨a, b, e, h3, h4, h5, h6, h7⟩ := Irr.of_not h2 h
  have hne : ∀ {x : PP P}, 2 ≤ x.len → x ≠ 0 := fun h e => by rw [len_zero.2 e] at h; omega
  rcases Nat.le_total a.len b.len with hl | hl
  · obtain ⟨g, hg, hd⟩ := exists_irr a.len a (Nat.le_refl _) h3
    have := dv_len hd (hne h3)
    exact ⟨g, hg, by rw [e]; exact ppring.dv_mul' hd b, by omega⟩
  · obtain ⟨g, hg, hd⟩ := exists_irr b.len b (Nat.le_refl _) h4
    have := dv_len hd (hne h4)
    exact ⟨g, hg, by rw [e]; exact ppring.dv_mul hd a, by omega⟩
end Go.Proofs.Ytpjdjfhbfcekaaa
/- Irreducible polynomials modulo p: which of them divide T^(p^n) - T. -/
namespace Go.Proofs.Ytpjdjfhbfcekaaa
open Go.Abs

/-! Numbers of polynomials. -/
def num (p : Nat) : List Int → Nat
  | [] => 0
  | c :: l => c.toNat + p * num p l
theorem row_tail {p c : Int} {l : List Int} (h : Row p (c :: l)) : Row p l := by
  refine ⟨fun d hd => h.res d (by simp [hd]), fun hl => ?_⟩
  have := h.nrm (by simp)
  simp only [List.length_cons, Nat.add_sub_cancel] at this
  obtain ⟨m, hm⟩ : ∃ m, l.length = m + 1 := ⟨l.length - 1, by omega⟩
  rw [hm, rd_cons] at this
  rw [hm]; exact this
theorem digs_num {p : Nat} (hp : 2 ≤ p) : ∀ l : List Int, Row p l → digs p (num p l) = l
  | [], _ => digs_zero p
  | c :: l, h => by
    have hc := h.res c (by simp)
    have ih := digs_num hp l (row_tail h)
    have e1 : (c.toNat + p * num p l) % p = c.toNat := by rw [Nat.add_mul_mod_self_left, Nat.mod_eq_of_lt (by omega)]
    have e2 : (c.toNat + p * num p l) / p = num p l := by rw [Nat.add_mul_div_left _ _ (by omega), Nat.div_eq_of_lt (by omega)]; omega
    have hpos : 0 < c.toNat + p * num p l := by
      cases l with
      | nil =>
        have := h.nrm (by simp)
        simp [rd] at this
        omega
      | cons d l =>
        have : num p (d :: l) ≠ 0 := fun e => by rw [e, digs_zero] at ih; cases ih
        have : 0 < p * num p (d :: l) := Nat.mul_pos (by omega) (by omega)
        omega
    simp only [num]
    rw [digs_pos hp hpos, e1, e2, ih]
    congr 1
    omega
theorem num_lt {p : Nat} (hp : 2 ≤ p) : ∀ l : List Int, Row p l → num p l < p ^ l.length
  | [], _ => by simp [num]
  | c :: l, h => by
    have hc := h.res c (by simp)
    have ih := num_lt hp l (row_tail h)
    simp only [num, List.length_cons, Nat.pow_succ]
    have h1 : p * (num p l + 1) ≤ p * p ^ l.length := Nat.mul_le_mul_left _ ih
    rw [Nat.mul_add, Nat.mul_one] at h1
    rw [Nat.mul_comm (p ^ l.length)]
    omega
theorem num_digs {p : Nat} (hp : 2 ≤ p) (n : Nat) : num p (digs p n) = n := by
  induction n using Nat.strongRecOn with
  | ind n ih =>
    rcases Nat.eq_zero_or_pos n with rfl | h
    · rw [digs_zero]; rfl
    · rw [digs_pos hp h]
      simp only [num]
      rw [ih _ (Nat.div_lt_self h hp), Int.toNat_natCast]
      exact Nat.mod_add_div n p
theorem digs_len_lt {p : Nat} (hp : 2 ≤ p) : ∀ (d n : Nat), n < p ^ d → (digs p n).length ≤ d
  | 0, n, h => by
    have : n = 0 := by simpa using h
    subst this; rw [digs_zero]; simp
  | d + 1, n, h => by
    rcases Nat.eq_zero_or_pos n with rfl | hn
    · rw [digs_zero]; simp
    · rw [digs_pos hp hn]
      have : n / p < p ^ d := by
        rw [Nat.div_lt_iff_lt_mul (by omega), ← Nat.pow_succ]; exact h
      have := digs_len_lt hp d _ this
      simp only [List.length_cons]; omega

variable {P : Pri}
theorem Pri.ge (P : Pri) : 2 ≤ P.n := by have := P.is; omega
def ppn (P : Pri) (n : Nat) : PP P := ⟨digs P.n n, digs_row P.ge n⟩
theorem ppn_num (a : PP P) : ppn P (num P.n a.1) = a := pp_eq (digs_num P.ge _ a.2)
theorem ppn_inj {n m : Nat} (h : ppn P n = ppn P m) : n = m := by
  have : digs P.n n = digs P.n m := congrArg PP.l h
  rw [← num_digs P.ge n, this, num_digs P.ge]
theorem ppn_len {d n : Nat} (h : n < P.n ^ d) : (ppn P n).len ≤ d := digs_len_lt P.ge d n h

theorem conv_T (g : Nat → Int) (i : Nat) : conv (rd ([0, 1] : List Int)) g i = if 1 ≤ i then g (i - 1) else 0 := by
  rw [← cv_conv (n := 2) fun j hj => rd_ge (by simpa using hj)]
  simp only [cv, sumTo]
  have e0 : rd ([0, 1] : List Int) 0 = 0 := rfl
  have e1 : rd ([0, 1] : List Int) 1 = 1 := rfl
  rw [e0, e1, if_pos (Nat.zero_le i)]
  split <;> simp
theorem one_c (i : Nat) : (1 : PP P).c i = if i = 0 then 1 else 0 := by
  show rd [1] i = _
  by_cases hi : i = 0
  · subst hi; simp [rd]
  · rw [if_neg hi, rd_ge (by simp; omega)]
/-- All polynomials come from 0 by times T and plus 1. -/
theorem pp_ind {S : PP P → Prop} (h0 : S 0) (hT : ∀ x, S x → S (ppT * x)) (h1 : ∀ x, S x → S (x + 1)) (a : PP P) : S a := by
  have hk : ∀ k x, S x → S (x + nsm k 1) := by
    intro k
    induction k with
    | zero => intro x hx; simp only [nsm]; rw [ppring.add_zero]; exact hx
    | succ k ih => intro x hx; simp only [nsm]; rw [← ppring.add_assoc]; exact h1 _ (ih x hx)
  have key : ∀ (l : List Int) (h : Row P.p l), S (ppm l h) := by
    intro l
    induction l with
    | nil => intro h; exact h0
    | cons c l ih =>
      intro h
      have hc := h.res c (by simp)
      have e : (ppm (c :: l) h : PP P) = ppT * ppm l (row_tail h) + nsm c.toNat 1 := by
        refine pp_ext fun i => ?_
        rw [add_c, mul_c, nsm_c, one_c]
        have e1 : conv (PP.c (ppT : PP P)) (PP.c (ppm l (row_tail h) : PP P)) i = if 1 ≤ i then rd l (i - 1) else 0 := conv_T _ i
        rw [e1]
        cases i with
        | zero =>
          rw [if_neg (by omega), if_pos rfl, Int.mul_one, Int.emod_add_emod, Int.add_emod_emod, Int.zero_add, Int.toNat_of_nonneg hc.1, Int.emod_eq_of_lt hc.1 hc.2]
          rfl
        | succ i =>
          rw [if_pos (by omega), if_neg (by omega), Int.mul_zero, Int.emod_add_emod, Int.zero_emod, Int.add_zero, Nat.add_sub_cancel, (row_tail h).mod P.pos]
          exact rd_cons c l i
      rw [e]
      exact hk _ _ (hT _ (ih _))
  exact key a.1 a.2

/-! Residues by an irreducible polynomial. -/
section
variable {f : PP P} (hf : Irr f)
include hf
theorem q_dom : ∀ x y : Qt ppring f, x * y = 0 → x = 0 ∨ y = 0 := by
  refine qm_all _ _ fun a => qm_all _ _ fun b => fun h => ?_
  have h1 : Dv f (a * b) := (qm_zero_iff ppring).1 h
  rcases hf.prime h1 with h2 | h2
  · exact .inl ((qm_zero_iff ppring).2 h2)
  · exact .inr ((qm_zero_iff ppring).2 h2)
theorem q_one : (1 : Qt ppring f) ≠ 0 := fun h => by
  have h1 : Dv f 1 := (qm_zero_iff ppring).1 h
  have := dv_len h1 one_ne
  have := hf.1
  rw [len_one] at *
  omega
omit hf in
theorem q_char (x : Qt ppring f) : nsm P.n x = 0 := by
  refine qm_all ppring f (P := fun x => nsm P.n x = 0) (fun a => ?_) x
  rw [← qm_nsm, pp_char]; rfl
omit hf in
/-- All residues. -/
def els (f : PP P) : List (Qt ppring f) := (List.range (P.n ^ (f.len - 1))).map fun n => qm ppring f (ppn P n)
omit hf in
theorem els_len : (els f).length = P.n ^ (f.len - 1) := by simp [els]
theorem els_all (x : Qt ppring f) : x ∈ els f := by
  refine qm_all ppring f (P := fun x => x ∈ els f) (fun a => ?_) x
  obtain ⟨h1, h2⟩ := pdiv a hf.ne
  refine List.mem_map.2 ⟨num P.n (prem a f).1, List.mem_range.2 ?_, ?_⟩
  · refine Nat.lt_of_lt_of_le (num_lt P.ge _ (prem a f).2) (Nat.pow_le_pow_right (by have := P.ge; omega) ?_)
    show (prem a f).len ≤ _
    omega
  · rw [ppn_num, qm_iff]
    have R : IsRing (PP P) := ppring
    have e : prem a f + -a = -(pquo a f) * f := by
      have : a = pquo a f * f + prem a f := h1
      have h3 : -(pquo a f) * f = -(pquo a f * f) := by rw [R.mul_comm, R.mul_neg, R.mul_comm]
      rw [h3]
      refine R.neg_of ?_
      rw [← R.add_assoc, ← this, R.add_neg]
    exact ⟨_, e⟩
theorem els_nodup : (els f).Nodup := by
  refine List.pairwise_map.2 ?_
  refine List.Pairwise.imp_of_mem ?_ List.nodup_range
  intro n m hn hm hne h
  have h1 := (qm_iff ppring).1 h
  have l1 := ppn_len (P := P) (List.mem_range.1 hn)
  have l2 := ppn_len (P := P) (List.mem_range.1 hm)
  have := len_add (ppn P n) (-ppn P m)
  have := len_neg (ppn P m)
  have := hf.1
  have h2 := dv_small h1 (by omega)
  exact hne (ppn_inj (ppring.sub_zero h2))
/-- An irreducible polynomial of the degree d divides T^(p^d) - T. -/
theorem irr_dv : Dv f (pw ppT (P.n ^ (f.len - 1)) + -ppT) := by
  have h := (qring ppring f).fermat (q_dom hf) (q_one hf) (els_nodup hf) (els_all hf) (qm ppring f ppT)
  rw [els_len, ← qm_pw] at h
  exact (qm_iff ppring).1 h
/-- One that divides T^(p^n) - T has at most the degree n. -/
theorem irr_le {n : Nat} (hn : 1 ≤ n) (h : Dv f (pw ppT (P.n ^ n) + -ppT)) : f.len ≤ n + 1 := by
  have Q := qring ppring f
  have hT : pw (qm ppring f ppT) (P.n ^ n) = qm ppring f ppT := by
    rw [← qm_pw]; exact (qm_iff ppring).2 h
  have hN : 2 ≤ P.n ^ n := Nat.le_trans P.ge (Nat.le_self_pow (by omega) _)
  have hall : ∀ a : PP P, pw (qm ppring f a) (P.n ^ n) = qm ppring f a := by
    refine pp_ind ?_ (fun x hx => ?_) (fun x hx => ?_)
    · rw [qm_zero]; exact Q.pw_zero (by omega)
    · rw [qm_mul, Q.mul_pw, hT, hx]
    · rw [qm_add, Q.frobn P.is q_char, hx, qm_one, Q.pw_one]
  have h1 := Q.fixed_le (q_dom hf) (q_one hf) hN (els_nodup hf) fun x _ => qm_all ppring f (P := fun x => pw x (P.n ^ n) = x) hall x
  rw [els_len] at h1
  have := (Nat.pow_le_pow_iff_right (show 1 < P.n by have := P.ge; omega)).1 h1
  omega
end
end Go.Proofs.Ytpjdjfhbfcekaaa
/- Inverses modulo p, in the program. -/
namespace Go.Proofs.Ytpjdjfhbfcekaaa
open Go.Abs

theorem inverse_impl {p x : Int} (hp : isP p = true) (hx : 0 < x ∧ x < p) : impl_prime_inverse p x = some (inv p x) := by
  have hp2 := isP_pos hp
  obtain ⟨n, hn⟩ : ∃ n : Nat, p - 2 = n := ⟨(p - 2).toNat, by omega⟩
  have ew : IntKind.i64.wrap (p - 2) = (n : Int) := by rw [wrap64 (by omega) (by omega), hn]
  obtain ⟨c, h1, h2⟩ := loopM_for (body := fun s : Int × Int => impl_prime_inverse_l1 p x s.1 s.2) (fun i c => (c, (i : Int))) (fun c => c) n
    (fun i c => c = x ^ i % p) (fun i c hi hI => by
      subst hI
      have h3 := emod_res (show 0 < p by omega) (x ^ i)
      have h4 := mul_small (x := x ^ i % p) (y := x) (by omega) (by omega)
      refine ⟨x ^ (i + 1) % p, ?_, rfl⟩
      simp only [impl_prime_inverse_l1]
      rw [ew, if_pos (decide_eq_true (by omega)), ifp_pos (by omega), wrap64 (n := x ^ i % p * x) (by omega) (by omega), Int.tmod_eq_emod_of_nonneg h4.1, wrap64 (by omega) (by omega)]
      have : x ^ i % p * x % p = x ^ (i + 1) % p := by rw [Int.pow_succ, Int.mul_emod (x ^ i % p), Int.emod_emod, ← Int.mul_emod]
      rw [this]; rfl) (fun c hI => by
      simp only [impl_prime_inverse_l1]
      rw [ew, if_neg (by rw [decide_eq_true_eq]; omega)]) n 0 1 (by omega) (by rw [Int.pow_zero, Int.emod_eq_of_lt (by omega) (by omega)])
  have h1' : loopM (fun s : Int × Int => impl_prime_inverse_l1 p x s.1 s.2) (1, 0) = some c := h1
  simp only [impl_prime_inverse, h1', Option.bind_some]
  rw [h2, ← inv_pow hp hx, hn, Int.toNat_natCast]
end Go.Proofs.Ytpjdjfhbfcekaaa
/- Rows without the zeros at their ends. -/
namespace Go.Proofs.Ytpjdjfhbfcekaaa
open Go.Abs

def IsB (v : V64) : Prop := ∀ d ∈ v.1, 0 ≤ d ∧ d < 256

theorem IsB.rd {v : V64} (h : IsB v) {j : Nat} (hj : j < 64) : 0 ≤ rd v.1 j ∧ rd v.1 j < 256 := by
  have hl : j < v.1.length := by rw [v.2]; exact hj
  have : Abs.rd v.1 j = v.1[j] := by simp [Abs.rd, hl]
  rw [this]; exact h _ (List.getElem_mem _)

theorem trimmed_loop {l : List Int} (hl : l.length ≤ 1000000) : ∀ s : Int, (∃ i : Nat, s = i ∧ i ≤ l.length) → ∃ r, loopM (fun s : Int => impl_row_trimmed_l1 l s) s = some r ∧ ∀ i : Nat, s = i → r = (top (rd l) i : Int) := by
  refine loopM_ind (fun (s : Int) => ∃ i : Nat, s = i ∧ i ≤ l.length) (fun (s : Int) (r : Int) => ∀ i : Nat, s = i → r = (top (rd l) i : Int)) (fun s => s.toNat) ?_
  rintro s ⟨i, rfl, hi⟩
  match i with
  | 0 =>
    right
    refine ⟨0, by simp [impl_row_trimmed_l1], fun k hk => ?_⟩
    have : k = 0 := by omega
    subst this; simp [top]
  | i + 1 =>
    have e1 : IntKind.i64.wrap (((i + 1 : Nat) : Int) - 1) = (i : Int) := by rw [wrap64 (by omega) (by omega)]; omega
    by_cases e : rd l i = 0
    · left
      refine ⟨(i : Int), ?_, ⟨i, rfl, by omega⟩, by omega, fun r hr k hk => ?_⟩
      · simp only [impl_row_trimmed_l1, e1]
        rw [if_pos (by simp), ifp_pos (by omega)]
        simp [e]
      · have : k = i + 1 := by omega
        subst this
        rw [hr i rfl]; simp [top, e]
    · right
      refine ⟨((i + 1 : Nat) : Int), ?_, fun k hk => ?_⟩
      · simp only [impl_row_trimmed_l1, e1]
        rw [if_pos (by simp), ifp_pos (by omega)]
        simp [e]
      · have : k = i + 1 := by omega
        subst this
        simp [top, e]

theorem trimmed_is {l : List Int} (hl : l.length ≤ 1000000) : impl_row_trimmed l = some (l.take (top (rd l) l.length)) := by
  obtain ⟨r, h1, h2⟩ := trimmed_loop hl (l.length : Nat) ⟨l.length, rfl, Nat.le_refl _⟩
  rw [h2 _ rfl] at h1
  have := top_le (rd l) l.length
  simp only [impl_row_trimmed, h1, Option.bind_some]
  rw [ifp_pos (by omega)]
  simp

end Go.Proofs.Ytpjdjfhbfcekaaa
/- Sums, in the program. -/
namespace Go.Proofs.Ytpjdjfhbfcekaaa
open Go.Abs

theorem at_is (l : List Int) (i : Nat) : impl_row_at l i = some (rd l i) := by
  unfold impl_row_at
  by_cases h : i < l.length
  · rw [if_pos (by simpa using h), ifp_pos (by omega)]; simp
  · rw [if_neg (by simpa using h), rd_ge (by omega)]

theorem reduce_is {p n : Int} (hp : 0 < p ∧ p ≤ 256) (hn : -4611686018427387904 ≤ n ∧ n < 4611686018427387904) : impl_prime_reduce p n = some (n % p) := by
  unfold impl_prime_reduce
  have h1 := Int.lt_tmod_of_pos n hp.1
  have h2 := Int.tmod_lt_of_pos n hp.1
  rw [ifp_pos (by omega), ifp_pos (by omega), wrap64 (by omega) (by omega), tmod_fix hp.1]

theorem combine_is {p k : Int} {a b : List Int} (hp : 0 < p ∧ p ≤ 256) (ha : Ent a) (hb : Ent b) (la : a.length ≤ 1000000) (lb : b.length ≤ 1000000) (hk : -1099511627776 ≤ k ∧ k ≤ 1099511627776) :
    impl_prime_combine p a b k = some (comb p a b k) := by
  obtain ⟨n, hn⟩ : ∃ n : Nat, n = max a.length b.length := ⟨_, rfl⟩
  have e : (if (b.length : Int) > (a.length : Int) then (b.length : Int) else (a.length : Int)) = (n : Int) := by split <;> omega
  obtain ⟨s, h1, h2, h3⟩ := loopM_for (body := fun s : Int × List Int => impl_prime_combine_l1 (n : Int) a b p k s.1 s.2) (fun i s => ((i : Int), s)) (fun s => s) n
    (fun i s => s.length = n ∧ ∀ j, rd s j = if j < i then (rd a j + k * rd b j) % p else 0) (fun i s hi hI => by
      obtain ⟨hl, hr⟩ := hI
      have h1 := ha i
      have h2 := mulk (hb i) hk
      refine ⟨s.set i ((rd a i + k * rd b i) % p), ?_, by simpa using hl, fun j => ?_⟩
      · simp only [impl_prime_combine_l1, letp, Int.toNat_natCast, List.length_replicate]
        rw [if_pos (by simp; omega), at_is, at_is]
        simp only [Option.bind_some]
        rw [wrap64 (n := k * rd b i) (by omega) (by omega), wrap64 (n := rd a i + k * rd b i) (by omega) (by omega), reduce_is hp (by omega)]
        simp only [Option.bind_some]
        rw [ifp_pos (by omega), wrap64 (by omega) (by omega)]
        rfl
      · rw [rd_set _ _ _ _ (by omega), hr j]
        by_cases h : j = i
        · subst h; simp
        · rw [if_neg h]
          simp only [show (j < i + 1) = (j < i) from by rw [eq_iff_iff]; omega]) (fun s hI => by
      simp only [impl_prime_combine_l1, letp, Int.toNat_natCast, List.length_replicate]
      rw [if_neg (by simp)]) n 0 (List.replicate n 0) (by omega) ⟨by simp, fun j => by rw [rd_rep, if_neg (by omega)]⟩
  have hs : s.take (top (rd s) s.length) = comb p a b k := by
    rw [trim_eq, h2, comb, ← hn]
    exact ofF_congr fun i hi => by rw [h3 i, if_pos hi]
  simp only [impl_prime_combine, letp, e]
  rw [ifp_pos (by omega)]
  simp only [Int.toNat_natCast]
  have h1' : loopM (fun s : Int × List Int => impl_prime_combine_l1 (n : Int) a b p k s.1 s.2) (0, List.replicate n 0) = some s := h1
  rw [h1']
  simp only [Option.bind_some]
  rw [trimmed_is (by omega), hs]
  rfl
end Go.Proofs.Ytpjdjfhbfcekaaa
/- Division, in the program. -/
namespace Go.Proofs.Ytpjdjfhbfcekaaa
open Go.Abs

theorem clone_is {a : List Int} (ha : a.length ≤ 1000000) : slices_Clone_impl_row_int64_fresh a = some a := by
  unfold slices_Clone_impl_row_int64_fresh
  rw [ifc_pos, ifp_pos]
  · simp
  · simp; omega
  · intro h
    subst h
    rw [ifp_pos (by simp)]
    simp
theorem divI_inner {p f : Int} (hp : 2 ≤ p ∧ p ≤ 7) {b : List Int} (hb : Row p b) (hf : 0 ≤ f ∧ f < p) {i : Nat} {s t : List Int} (hi : i + b.length ≤ s.length) (hl : s.length ≤ 1000000) (hs : ∀ j, 0 ≤ rd s j ∧ rd s j < p) {s0 : List Int} {x r9 : Int} (hx : Int.tmod (IntKind.i64.wrap (rd s0 x.toNat * r9)) p = f) :
    ∃ s', loopM (fun q : Int × List Int => impl_prime_divide_l2 b (i : Int) s0 x r9 p t q.1 q.2) (0, s) = some (s', t.set i f) ∧ s'.length = s.length ∧ ∀ j, rd s' j = dstep p (rd b) (b.length - 1) f i (rd s) j := by
  obtain ⟨s', h1, h2, h3⟩ := loopM_for (body := fun q : Int × List Int => impl_prime_divide_l2 b (i : Int) s0 x r9 p t q.1 q.2) (fun k u => ((k : Int), u)) (fun u => (u, t.set i f)) b.length
    (fun k u => u.length = s.length ∧ ∀ j, rd u j = if i ≤ j ∧ j < i + k then (rd s j - f * rd b (j - i)) % p else rd s j) (fun k u hk hI => by
      obtain ⟨hul, hu⟩ := hI
      have hbk := hb.rd (show 0 < p by omega) k
      have hsk := hs (i + k)
      have hm := mul_small (x := f) (y := rd b k) (by omega) (by omega)
      have e1 : IntKind.i64.wrap ((i : Int) + (k : Int)) = ((i + k : Nat) : Int) := by rw [wrap64 (by omega) (by omega)]; omega
      have huk := hu (i + k)
      rw [if_neg (by omega)] at huk
      refine ⟨u.set (i + k) ((rd s (i + k) - f * rd b k) % p), ?_, by simpa using hul, fun j => ?_⟩
      · simp only [impl_prime_divide_l2, letp, hx]
        rw [if_pos (decide_eq_true (by omega)), ifp_pos (by omega), e1, ifp_pos (by omega), Int.toNat_natCast, Int.toNat_natCast, huk, wrap64 (n := f * rd b k) (by omega) (by omega), wrap64 (n := rd s (i + k) - f * rd b k) (by omega) (by omega), reduce_is (by omega) (by omega)]
        simp only [Option.bind_some]
        rw [ifp_pos (by omega), wrap64 (by omega) (by omega)]
        rfl
      · rw [rd_set _ _ _ _ (by omega), hu j]
        by_cases e : j = i + k
        · subst e
          rw [if_pos rfl, if_pos (by omega), show i + k - i = k by omega]
        · rw [if_neg e]
          by_cases hc : i ≤ j ∧ j < i + k
          · rw [if_pos hc, if_pos (by omega)]
          · rw [if_neg hc, if_neg (by omega)]) (fun u hI => by
      simp only [impl_prime_divide_l2, hx]
      rw [if_neg (by rw [decide_eq_true_eq]; omega), Int.toNat_natCast]) b.length 0 s (by omega) ⟨rfl, fun j => by rw [if_neg (by omega)]⟩
  refine ⟨s', h1, h2, fun j => ?_⟩
  rw [h3 j]
  unfold dstep
  rcases Nat.eq_zero_or_pos b.length with h0 | h0
  · rw [if_neg (by omega)]
    split
    · have : rd b (j - i) = 0 := rd_ge (by omega)
      have := hs j
      rw [show rd b (j - i) = 0 from rd_ge (by omega), Int.mul_zero, Int.sub_zero, Int.emod_eq_of_lt this.1 this.2]
    · rfl
  · simp only [show (i ≤ j ∧ j < i + b.length) = (i ≤ j ∧ j ≤ i + (b.length - 1)) from by rw [eq_iff_iff]; omega]
theorem divI_outer {p : Int} (hp : isP p = true) {b : List Int} (hb : Row p b) (h0 : b.length ≠ 0) {n : Nat} (hn : n ≤ 500000) : ∀ (i : Nat) (s t : List Int), i + b.length - 1 ≤ s.length → i ≤ n → s.length ≤ 1000000 → t.length = n → (∀ j, 0 ≤ rd s j ∧ rd s j < p) →
    ∃ s' t', loopM (fun q : Int × List Int × List Int => impl_prime_divide_l1 b p (inv p (lead b)) q.1 q.2.1 q.2.2) ((i : Int) - 1, s, t) = some (s', t') ∧ s'.length = s.length ∧ t'.length = n ∧
      (∀ j, rd s' j = drem p (rd b) (b.length - 1) (inv p (lead b)) i (rd s) j) ∧ ∀ j, rd t' j = if j < i then dquo p (rd b) (b.length - 1) (inv p (lead b)) i (rd s) j else rd t j
  | 0, s, t, _, _, _, ht, _ => by
    refine ⟨s, t, ?_, rfl, ht, fun _ => rfl, fun j => by rw [if_neg (by omega)]⟩
    have step : impl_prime_divide_l1 b p (inv p (lead b)) (((0 : Nat) : Int) - 1) s t = some (.inr (s, t)) := by
      simp only [impl_prime_divide_l1]
      rw [if_neg (by rw [decide_eq_true_eq]; omega)]
    rw [loopM_eq]
    simp only [step, Option.bind_some]
  | i + 1, s, t, hi, hin, hsl, ht, hs => by
    have hp2 := isP_pos hp
    have hinv := inv_is hp (lead_pos (show 0 < p by omega) hb h0)
    have hsx := hs (i + (b.length - 1))
    have hm := mul_small (x := rd s (i + (b.length - 1))) (y := inv p (lead b)) (by omega) (by omega)
    have hf := emod_res (show 0 < p by omega) (rd s (i + (b.length - 1)) * inv p (lead b))
    have e0 : ((i + 1 : Nat) : Int) - 1 = (i : Int) := by omega
    have e1 : IntKind.i64.wrap (IntKind.i64.wrap ((i : Int) + (b.length : Int)) - 1) = ((i + (b.length - 1) : Nat) : Int) := by
      rw [wrap64 (n := (i : Int) + (b.length : Int)) (by omega) (by omega), wrap64 (by omega) (by omega)]; omega
    have hx : Int.tmod (IntKind.i64.wrap (rd s (((i + (b.length - 1) : Nat) : Int)).toNat * inv p (lead b))) p = dfac p (inv p (lead b)) (b.length - 1) i (rd s) := by
      rw [Int.toNat_natCast, wrap64 (by omega) (by omega), Int.tmod_eq_emod_of_nonneg hm.1]; rfl
    obtain ⟨s1, g1, g2, g3⟩ := divI_inner hp2 hb (f := dfac p (inv p (lead b)) (b.length - 1) i (rd s)) hf (i := i) (s := s) (t := t) (by omega) hsl hs hx
    have hs1 : rd s1 = dstep p (rd b) (b.length - 1) (dfac p (inv p (lead b)) (b.length - 1) i (rd s)) i (rd s) := funext g3
    obtain ⟨s', t', k1, k2, k3, k4, k5⟩ := divI_outer hp hb h0 hn i s1 (t.set i (dfac p (inv p (lead b)) (b.length - 1) i (rd s))) (by omega) (by omega) (by omega) (by simpa using ht) (fun j => by rw [hs1]; exact dstep_res (by omega) hs _ i j)
    refine ⟨s', t', ?_, by omega, k3, fun j => ?_, fun j => ?_⟩
    · have step : impl_prime_divide_l1 b p (inv p (lead b)) (((i + 1 : Nat) : Int) - 1) s t = some (.inl ((i : Int) - 1, s1, t.set i (dfac p (inv p (lead b)) (b.length - 1) i (rd s)))) := by
        rw [e0]
        simp only [impl_prime_divide_l1, letp, e1]
        rw [if_pos (decide_eq_true (by omega)), ifp_pos (by omega), ifp_pos (by omega), ifp_pos (by omega), g1]
        simp only [Option.bind_some]
        rw [wrap64 (by omega) (by omega)]
      rw [loopM_eq]
      simp only [step, Option.bind_some]
      exact k1
    · rw [k4 j, hs1]; rfl
    · rw [k5 j, hs1]
      simp only [dquo]
      by_cases e : j = i
      · subst e
        rw [if_neg (by omega), if_pos (by omega), if_pos rfl, rd_set _ _ _ _ (by omega), if_pos rfl]
      · by_cases h : j < i
        · rw [if_pos h, if_pos (by omega), if_neg e]
        · rw [if_neg h, if_neg (by omega), rd_set _ _ _ _ (by omega), if_neg e]
theorem lead_is {b : List Int} (h0 : b.length ≠ 0) (hl : b.length ≤ 1000000) : impl_row_lead b = some (lead b) := by
  unfold impl_row_lead
  have e1 : IntKind.i64.wrap ((b.length : Int) - 1) = ((b.length - 1 : Nat) : Int) := by rw [wrap64 (by omega) (by omega)]; omega
  rw [if_neg (by rw [beq_iff_eq]; omega), e1, ifp_pos (by omega), Int.toNat_natCast]; rfl
theorem divideI_is {p : Int} (hp : isP p = true) {a b : List Int} (ha : Row p a) (hb : Row p b) (h0 : b.length ≠ 0) (la : a.length ≤ 500000) (lb : b.length ≤ 500000) : impl_prime_divide p a b = some (quo p a b, rem p a b) := by
  have hp2 := isP_pos hp
  unfold impl_prime_divide
  rw [clone_is (by omega)]
  simp only [Option.bind_some]
  rcases Nat.lt_or_ge a.length b.length with h | h
  · rw [if_pos (decide_eq_true (by omega))]
    have e1 : quo p a b = [] := by
      have := quo_len p a b
      exact List.eq_nil_of_length_eq_zero (by omega)
    have e2 : rem p a b = a := by
      unfold rem
      rw [show a.length + 1 - b.length = 0 by omega]
      exact ha.ofF (Nat.le_refl _)
    rw [e1, e2]
  · rw [if_neg (by rw [decide_eq_true_eq]; omega)]
    obtain ⟨n, hn⟩ : ∃ n : Nat, n = a.length + 1 - b.length := ⟨_, rfl⟩
    have e1 : IntKind.i64.wrap (IntKind.i64.wrap ((a.length : Int) - (b.length : Int)) + 1) = (n : Int) := by
      rw [wrap64 (n := (a.length : Int) - (b.length : Int)) (by omega) (by omega), wrap64 (by omega) (by omega)]; omega
    have hlead := lead_pos (show 0 < p by omega) hb h0
    simp only [letp, e1, lead_is h0 (by omega), inverse_impl hp hlead, Option.bind_some, Int.toNat_natCast, List.length_replicate]
    rw [ifp_pos (by omega), wrap64 (by omega) (by omega)]
    obtain ⟨s', t', k1, k2, k3, k4, k5⟩ := divI_outer hp hb h0 (n := n) (by omega) n a (List.replicate n 0) (by omega) (Nat.le_refl _) (by omega) (by simp) (fun j => ha.rd (by omega) j)
    rw [k1]
    simp only [Option.bind_some]
    rw [trimmed_is (by omega), trimmed_is (by omega)]
    simp only [Option.bind_some]
    rw [trim_eq, trim_eq, k2, k3]
    congr 2
    · rw [quo, ← hn]
      exact ofF_congr fun i hi => by rw [k5 i, if_pos hi]
    · rw [rem, ← hn]
      exact ofF_congr fun i _ => k4 i
end Go.Proofs.Ytpjdjfhbfcekaaa
/- Products, in the program. -/
namespace Go.Proofs.Ytpjdjfhbfcekaaa
open Go.Abs


theorem cv_small {a b : Nat → Int} (ha : ∀ i, 0 ≤ a i ∧ a i < 256) (hb : ∀ i, 0 ≤ b i ∧ b i < 256) (k : Nat) : ∀ n : Nat, 0 ≤ cv a b n k ∧ cv a b n k ≤ n * 65025
  | 0 => by simp [cv, sumTo]
  | n + 1 => by
    rw [cv_succ]
    have h1 := cv_small ha hb k n
    have h2 := mul_small (ha n) (hb (k - n))
    split <;> omega

/-- The program's product. -/
theorem times_is {p : Int} (hp : 2 ≤ p ∧ p ≤ 256) {a b : List Int} (ha : Ent a) (hb : Ent b) (la : a.length ≤ 500000) (lb : b.length ≤ 500000) : impl_prime_times p a b = some (mul p a b) := by
  simp only [impl_prime_times, letp]
  by_cases h1 : a.length = 0
  · have e : a = [] := List.eq_nil_of_length_eq_zero h1
    subst e
    simp [mul_nil]
  by_cases h2 : b.length = 0
  · have e : b = [] := List.eq_nil_of_length_eq_zero h2
    subst e
    simp [mul_nil']
  obtain ⟨n, hn⟩ : ∃ n : Nat, n = a.length + b.length - 1 := ⟨_, rfl⟩
  have e0 : IntKind.i64.wrap (IntKind.i64.wrap ((a.length : Int) + (b.length : Int)) - 1) = (n : Int) := by
    rw [wrap64 (n := (a.length : Int) + (b.length : Int)) (by omega) (by omega), wrap64 (by omega) (by omega)]; omega
  rw [e0]
  have c1 : (if ((a.length : Int) == 0) = true then some true else some ((b.length : Int) == 0)) = some false := by
    rw [if_neg (by rw [beq_iff_eq]; omega)]
    congr 1
    rw [beq_eq_false_iff_ne]; omega
  rw [c1]
  simp only [Bool.false_eq_true, if_false, Option.bind_some, Int.toNat_natCast]
  rw [ifp_pos (by omega)]
  -- one row
  have hrow : ∀ (i : Nat) (s : List Int), i < a.length → s.length = n → (∀ k, rd s k = cv (rd a) (rd b) i k) →
      ∃ s', loopM (fun s : Int × List Int => impl_prime_times_l2 b (i : Int) a s.1 s.2) (0, s) = some s' ∧ s'.length = n ∧ ∀ k, rd s' k = cv (rd a) (rd b) (i + 1) k := by
    intro i s hi hsl hs
    have hai := ha i
    obtain ⟨s', g1, g2, g3⟩ := loopM_for (body := fun s : Int × List Int => impl_prime_times_l2 b (i : Int) a s.1 s.2) (fun j (u : List Int) => ((j : Int), u)) (fun u => u) b.length
      (fun j u => u.length = n ∧ ∀ k, rd u k = if i ≤ k ∧ k < i + j then cv (rd a) (rd b) (i + 1) k else cv (rd a) (rd b) i k) (fun j u hj hI => by
        obtain ⟨hul, hu⟩ := hI
        have hbj := hb j
        have hm := mul_small hai hbj
        have hc := cv_small ha hb (i + j) i
        have e1 : IntKind.i64.wrap ((i : Int) + (j : Int)) = ((i + j : Nat) : Int) := by rw [wrap64 (by omega) (by omega)]; omega
        have huj := hu (i + j)
        rw [if_neg (by omega)] at huj
        have e2 : cv (rd a) (rd b) (i + 1) (i + j) = cv (rd a) (rd b) i (i + j) + rd a i * rd b j := by
          rw [cv_succ, if_pos (by omega), show i + j - i = j by omega]
        refine ⟨u.set (i + j) (cv (rd a) (rd b) (i + 1) (i + j)), ?_, by simpa using hul, fun k => ?_⟩
        · simp only [impl_prime_times_l2, letp]
          rw [if_pos (by simp; omega), e1]
          rw [ifp_pos (by omega), ifp_pos (by omega), ifp_pos (by omega)]
          simp only [Int.toNat_natCast]
          rw [huj, wrap64 (n := rd a i * rd b j) (by omega) (by omega), wrap64 (n := cv (rd a) (rd b) i (i + j) + rd a i * rd b j) (by omega) (by omega), wrap64 (by omega) (by omega), e2]
          rfl
        · rw [rd_set _ _ _ _ (by omega)]
          by_cases e : k = i + j
          · subst e
            rw [if_pos rfl, if_pos (by omega)]
          · rw [if_neg e, hu k]
            by_cases hc : i ≤ k ∧ k < i + j
            · rw [if_pos hc, if_pos (by omega)]
            · rw [if_neg hc, if_neg (by omega)]) (fun u hI => by
        simp only [impl_prime_times_l2]
        rw [if_neg (by simp)]) b.length 0 s (by omega) ⟨hsl, fun k => by rw [hs k, if_neg (by omega)]⟩
    refine ⟨s', g1, g2, fun k => ?_⟩
    rw [g3 k]
    split
    · rfl
    · rename_i hc
      rw [cv_succ]
      by_cases hik : i ≤ k
      · rw [if_pos hik, rd_ge (l := b) (by omega), Int.mul_zero, Int.add_zero]
      · rw [if_neg hik, Int.add_zero]
  obtain ⟨s, h3, h4, h5⟩ := loopM_for (body := fun s : Int × List Int => impl_prime_times_l1 a b s.1 s.2) (fun i (u : List Int) => ((i : Int), u)) (fun u => u) a.length
    (fun i u => u.length = n ∧ ∀ k, rd u k = cv (rd a) (rd b) i k) (fun i u hi hI => by
      obtain ⟨u', g1, g2, g3⟩ := hrow i u hi hI.1 hI.2
      refine ⟨u', ?_, g2, g3⟩
      simp only [impl_prime_times_l1]
      rw [if_pos (by simp; omega), ifp_pos (by omega), g1]
      simp only [Option.bind_some]
      rw [wrap64 (by omega) (by omega)]; rfl) (fun u hI => by
      simp only [impl_prime_times_l1]
      rw [if_neg (by simp)]) a.length 0 (List.replicate n 0) (by omega) ⟨by simp, fun k => by rw [rd_rep]; simp [cv, sumTo]⟩
  have h3' : loopM (fun s : Int × List Int => impl_prime_times_l1 a b s.1 s.2) (0, List.replicate n 0) = some s := h3
  rw [h3']
  simp only [Option.bind_some]
  obtain ⟨t, h6, h7, h8⟩ := loopM_for (body := fun q : Int × List Int => impl_prime_times_l3 s p q.1 q.2) (fun i (u : List Int) => ((i : Int), u)) (fun u => u) n
    (fun i u => u.length = n ∧ ∀ k, rd u k = if k < i then cv (rd a) (rd b) a.length k % p else cv (rd a) (rd b) a.length k) (fun i u hi hI => by
      obtain ⟨hul, hu⟩ := hI
      have hui := hu i
      rw [if_neg (by omega)] at hui
      have hc := cv_small ha hb i a.length
      refine ⟨u.set i (cv (rd a) (rd b) a.length i % p), ?_, by simpa using hul, fun k => ?_⟩
      · simp only [impl_prime_times_l3]
        rw [if_pos (by simp; omega), ifp_pos (by omega), ifp_pos (by omega), ifp_pos (by omega)]
        simp only [Int.toNat_natCast]
        rw [hui, Int.tmod_eq_emod_of_nonneg hc.1, wrap64 (by omega) (by omega)]; rfl
      · rw [rd_set _ _ _ _ (by omega), hu k]
        by_cases e : k = i
        · subst e; simp
        · rw [if_neg e]
          simp only [show (k < i + 1) = (k < i) from by rw [eq_iff_iff]; omega]) (fun u hI => by
      simp only [impl_prime_times_l3]
      rw [if_neg (by simp; omega)]) n 0 s (by omega) ⟨h4, fun k => by rw [h5 k, if_neg (by omega)]⟩
  have h6' : loopM (fun q : Int × List Int => impl_prime_times_l3 s p q.1 q.2) (0, s) = some t := h6
  rw [h6']
  simp only [Option.bind_some]
  rw [trimmed_is (by omega), trim_eq, h7]
  simp only [Option.bind_some]
  congr 1
  rw [mul, ← hn]
  exact ofF_congr fun k hk => by rw [h8 k, if_pos hk, cv_conv fun i hi => rd_ge (by omega)]
end Go.Proofs.Ytpjdjfhbfcekaaa
/- Rests of powers, in the program. -/
namespace Go.Proofs.Ytpjdjfhbfcekaaa
open Go.Abs

variable {P : Pri}
theorem Pri.sm (P : Pri) : 0 < P.p ∧ P.p ≤ 256 := by have := P.two; omega
theorem PP.ent (a : PP P) : Ent a.1 := a.2.ent P.sm
theorem ne_len {b : PP P} (hb : b ≠ 0) : b.1.length ≠ 0 := fun h => hb (len_zero.1 h)
theorem pdivI {a b : PP P} (hb : b ≠ 0) (la : a.len ≤ 500000) (lb : b.len ≤ 500000) : impl_prime_divide P.p a.1 b.1 = some ((pquo a b).1, (prem a b).1) := divideI_is P.ok a.2 b.2 (ne_len hb) la lb
theorem restI {a b : PP P} (hb : b ≠ 0) (la : a.len ≤ 500000) (lb : b.len ≤ 500000) : impl_prime_rest P.p a.1 b.1 = some (prem a b).1 := by
  simp only [impl_prime_rest, pdivI hb la lb, Option.bind_some]
theorem timesI {a b : PP P} (la : a.len ≤ 500000) (lb : b.len ≤ 500000) : impl_prime_times P.p a.1 b.1 = some (a * b).1 :=
  times_is (by have := P.two; omega) a.ent b.ent la lb

/-! Rests. -/
theorem prem_len (a : PP P) {m : PP P} (hm : m ≠ 0) : (prem a m).len < m.len := (pdiv a hm).2
theorem prem_of {a m r : PP P} (q : PP P) (hm : m ≠ 0) (h : a = q * m + r) (hr : r.len < m.len) : prem a m = r := (quo_is hm h hr).2
theorem prem_add_mul (a c : PP P) {m : PP P} (hm : m ≠ 0) : prem (a + c * m) m = prem a m := by
  refine prem_of (pquo a m + c) hm ?_ (prem_len a hm)
  have h := (pdiv a hm).1
  rw [ppring.add_mul]
  conv => lhs; rw [h]
  rw [ppring.add_assoc, ppring.add_assoc, ppring.add_comm (prem a m)]
theorem prem_small {a m : PP P} (h : a.len < m.len) : prem a m = a := by
  have hm : m ≠ 0 := fun e => by rw [len_zero.2 e] at h; omega
  exact prem_of 0 hm (by rw [ppring.zero_mul, ppring.zero_add]) h
theorem prem_mul_l (a b : PP P) {m : PP P} (hm : m ≠ 0) : prem (prem a m * b) m = prem (a * b) m := by
  have h := (pdiv a hm).1
  have e : a * b = prem a m * b + (pquo a m * b) * m := by
    conv => lhs; rw [h]
    rw [ppring.add_mul, ppring.add_comm, ppring.mul_assoc, ppring.mul_assoc, ppring.mul_comm m b]
  rw [e, prem_add_mul _ _ hm]
theorem prem_mul_r (a b : PP P) {m : PP P} (hm : m ≠ 0) : prem (a * prem b m) m = prem (a * b) m := by
  rw [ppring.mul_comm, prem_mul_l _ _ hm, ppring.mul_comm]
theorem prem_mul (a b : PP P) {m : PP P} (hm : m ≠ 0) : prem (prem a m * prem b m) m = prem (a * b) m := by
  rw [prem_mul_l _ _ hm, prem_mul_r _ _ hm]
theorem prem_add (a b : PP P) {m : PP P} (hm : m ≠ 0) : prem (a + b) m = prem a m + prem b m := by
  have h1 := (pdiv a hm).1
  have h2 := (pdiv b hm).1
  refine prem_of (pquo a m + pquo b m) hm ?_ ?_
  · conv => lhs; rw [h1, h2]
    rw [ppring.add_mul]
    simp only [ppring.add_assoc]
    rw [ppring.add_left_comm (prem a m)]
  · have := len_add (prem a m) (prem b m)
    have := prem_len a hm
    have := prem_len b hm
    omega
theorem pw_two (a : PP P) (k : Nat) : pw (a * a) k = pw a (2 * k) := by
  rw [ppring.pw_mul]
  congr 1
  simp only [pw, ppring.one_mul]
theorem prem_pw (a : PP P) {m : PP P} (hm : m ≠ 0) (k : Nat) : prem (pw (prem a m) k) m = prem (pw a k) m := by
  induction k with
  | zero => rfl
  | succ k ih => simp only [pw]; rw [prem_mul_r _ _ hm, ← prem_mul_l _ _ hm, ih, prem_mul_l _ _ hm]

theorem and_one {k : Nat} (h : k < 4611686018427387904) : IntKind.i64.wrap (BitVec.ofInt IntKind.i64.bits k &&& BitVec.ofInt IntKind.i64.bits 1).toNat = ((k % 2 : Nat) : Int) := by
  have e : (BitVec.ofInt IntKind.i64.bits (k : Int) &&& BitVec.ofInt IntKind.i64.bits 1).toNat = k % 2 := by
    rw [BitVec.toNat_and, BitVec.toNat_ofInt, BitVec.toNat_ofInt]
    have h1 : ((k : Int) % (2 ^ IntKind.i64.bits : Nat)).toNat = k := by
      rw [Int.emod_eq_of_lt (by omega) (by show (k : Int) < ((2 ^ 64 : Nat) : Int); omega)]
      omega
    have h2 : ((1 : Int) % (2 ^ IntKind.i64.bits : Nat)).toNat = 1 := by decide
    rw [h1, h2, Nat.and_one_is_mod]
  rw [e, wrap64 (by omega) (by omega)]
theorem half_is (k : Nat) : Int.fdiv (k : Int) (2 ^ (min (1 : Int).toNat IntKind.i64.bits)) = ((k / 2 : Nat) : Int) := by
  have e : (2 : Int) ^ (min (1 : Int).toNat IntKind.i64.bits) = 2 := by decide
  rw [e, Int.fdiv_eq_ediv_of_nonneg _ (by omega)]
  omega
theorem powI_loop {m : PP P} (hm : m ≠ 0) (lm : m.len ≤ 1000) : ∀ (n k : Nat) (O B : PP P), k ≤ n → k < 4611686018427387904 →
    loopM (fun s : Int × List Int × List Int => impl_prime_power_l1 P.p m.1 s.1 s.2.1 s.2.2) ((k : Int), (prem O m).1, (prem B m).1) = some (prem (O * pw B k) m).1 := by
  intro n
  induction n with
  | zero =>
    intro k O B hk _
    have : k = 0 := by omega
    subst this
    have step : impl_prime_power_l1 P.p m.1 ((0 : Nat) : Int) (prem O m).1 (prem B m).1 = some (.inr (prem O m).1) := by
      simp only [impl_prime_power_l1]
      rw [if_neg (by simp)]
    rw [loopM_eq]
    simp only [step, Option.bind_some, pw, ppring.mul_one]
  | succ n ih =>
    intro k O B hk hb
    rcases Nat.eq_zero_or_pos k with rfl | h0
    · have step : impl_prime_power_l1 P.p m.1 ((0 : Nat) : Int) (prem O m).1 (prem B m).1 = some (.inr (prem O m).1) := by
        simp only [impl_prime_power_l1]
        rw [if_neg (by simp)]
      rw [loopM_eq]
      simp only [step, Option.bind_some, pw, ppring.mul_one]
    · have lO := prem_len O hm
      have lB := prem_len B hm
      have lOB : (prem O m * prem B m).len ≤ 500000 := by
        have : (prem O m * prem B m).len ≤ (prem O m).len + (prem B m).len - 1 := mul_len _ _ _
        omega
      have lBB : (prem B m * prem B m).len ≤ 500000 := by
        have : (prem B m * prem B m).len ≤ (prem B m).len + (prem B m).len - 1 := mul_len _ _ _
        omega
      have e1 : impl_prime_times P.p (prem B m).1 (prem B m).1 = some (prem B m * prem B m).1 := timesI (by omega) (by omega)
      have e2 : impl_prime_times P.p (prem O m).1 (prem B m).1 = some (prem O m * prem B m).1 := timesI (by omega) (by omega)
      have e3 : impl_prime_rest P.p (prem B m * prem B m).1 m.1 = some (prem (B * B) m).1 := by rw [restI hm lBB (by omega), prem_mul _ _ hm]
      have e4 : impl_prime_rest P.p (prem O m * prem B m).1 m.1 = some (prem (O * B) m).1 := by rw [restI hm lOB (by omega), prem_mul _ _ hm]
      have step : impl_prime_power_l1 P.p m.1 (k : Int) (prem O m).1 (prem B m).1 = some (.inl (((k / 2 : Nat) : Int), (prem (if k % 2 = 1 then O * B else O) m).1, (prem (B * B) m).1)) := by
        simp only [impl_prime_power_l1, letp, and_one hb, half_is, e1, e2, e3, e4, Option.bind_some]
        rw [if_pos (decide_eq_true (by omega))]
        by_cases ho : k % 2 = 1
        · rw [if_pos ho, if_pos (by rw [beq_iff_eq]; omega)]; rfl
        · rw [if_neg ho, if_neg (by rw [beq_iff_eq]; omega)]; rfl
      rw [loopM_eq]
      simp only [step, Option.bind_some]
      rw [ih (k / 2) _ _ (by omega) (by omega), pw_two]
      congr 3
      by_cases ho : k % 2 = 1
      · rw [if_pos ho, ppring.mul_assoc]
        have e : k = 2 * (k / 2) + 1 := by omega
        conv => rhs; rw [e]
        simp only [pw]
        rw [ppring.mul_comm B]
      · rw [if_neg ho]
        have e : k = 2 * (k / 2) := by omega
        conv => rhs; rw [e]
theorem powI_is (a : PP P) {m : PP P} (hm : m ≠ 0) (lm : m.len ≤ 1000) (la : a.len ≤ 500000) {k : Nat} (hk : k < 4611686018427387904) : impl_prime_power P.p a.1 k m.1 = some (prem (pw a k) m).1 := by
  have h := powI_loop hm lm k k 1 a (Nat.le_refl _) hk
  have e1 : impl_prime_rest P.p [1] m.1 = some (prem 1 m).1 := restI (a := 1) hm (by rw [len_one]; omega) (by omega)
  simp only [impl_prime_power, e1, restI hm la (show m.len ≤ 500000 by omega), Option.bind_some]
  have h' : loopM (fun s : Int × List Int × List Int => impl_prime_power_l1 P.p m.1 s.1 s.2.1 s.2.2) ((k : Int), (prem 1 m).1, (prem a m).1) = some (prem (1 * pw a k) m).1 := h
  rw [h', ppring.one_mul]
  rfl
end Go.Proofs.Ytpjdjfhbfcekaaa
/- T times a polynomial, coefficient by coefficient. -/
namespace Go.Proofs.Ytpjdjfhbfcekaaa
open Go.Abs
variable {P : Pri}
theorem T_c (a : PP P) (i : Nat) : (ppT * a).c i = if 1 ≤ i then a.c (i - 1) else 0 := by
  rw [mul_c]
  have e : conv (PP.c (ppT : PP P)) a.c i = if 1 ≤ i then a.c (i - 1) else 0 := conv_T _ i
  rw [e]
  split
  · exact a.c_mod _
  · rfl
end Go.Proofs.Ytpjdjfhbfcekaaa
/- Inverses modulo p, in the reference. -/
namespace Go.Proofs.Ytpjdjfhbfcekaaa
open Go.Abs

theorem inverse_spec {p x : Int} (hp : isP p = true) (hx : 0 < x ∧ x < p) : spec_l01Inverse p x = some (inv p x) := by
  have hp2 := isP_pos hp
  obtain ⟨hi1, hi2, hi3⟩ := inv_is hp hx
  have key : ∀ (m : Nat) (k : Int), 1 ≤ k → k + m = inv p x → loopM (fun s : Int => spec_l01Inverse_l1 p x s) k = some (.inr (inv p x)) := by
    intro m
    induction m with
    | zero =>
      intro k h1 h2
      have h3 := mul_small (x := k) (y := x) (by omega) (by omega)
      have e : k = inv p x := by omega
      have step : spec_l01Inverse_l1 p x k = some (.inr (.inr (inv p x))) := by
        simp only [spec_l01Inverse_l1, letp]
        rw [if_pos (decide_eq_true (by omega)), ifp_pos (by omega), wrap64 (n := x) (by omega) (by omega), wrap64 (n := k * x) (by omega) (by omega), Int.tmod_eq_emod_of_nonneg h3.1, if_pos, wrap8 (by omega) (by omega), e]
        rw [e, Int.mul_comm, hi3]; rfl
      rw [loopM_eq]
      simp only [step, Option.bind_some]
    | succ m ih =>
      intro k h1 h2
      have h3 := mul_small (x := k) (y := x) (by omega) (by omega)
      have hne := inv_first hp hx h1 (show k < inv p x by omega)
      have step : spec_l01Inverse_l1 p x k = some (.inl (k + 1)) := by
        simp only [spec_l01Inverse_l1, letp]
        rw [if_pos (decide_eq_true (by omega)), ifp_pos (by omega), wrap64 (n := x) (by omega) (by omega), wrap64 (n := k * x) (by omega) (by omega), Int.tmod_eq_emod_of_nonneg h3.1, if_neg (by rw [beq_iff_eq]; exact hne), wrap64 (by omega) (by omega)]
      rw [loopM_eq]
      simp only [step, Option.bind_some]
      exact ih (k + 1) (by omega) (by omega)
  have h := key (inv p x - 1).toNat 1 (by omega) (by omega)
  simp only [spec_l01Inverse, h, Option.bind_some]
end Go.Proofs.Ytpjdjfhbfcekaaa
/- Degrees. -/
namespace Go.Proofs.Ytpjdjfhbfcekaaa
open Go.Abs

theorem deg_loop (a : V64) : ∀ s : Int, (∃ i : Nat, s = (i : Int) - 1 ∧ i ≤ 64) → ∃ r, loopM (fun s : Int => spec_l01Deg_l1 a s) s = some r ∧ ∀ i : Nat, s = (i : Int) - 1 → r = (top (rd a.1) i : Int) - 1 := by
  refine loopM_ind (fun (s : Int) => ∃ i : Nat, s = (i : Int) - 1 ∧ i ≤ 64) (fun (s : Int) (r : Int) => ∀ i : Nat, s = (i : Int) - 1 → r = (top (rd a.1) i : Int) - 1) (fun s => (s + 1).toNat) ?_
  rintro s ⟨i, rfl, hi⟩
  match i with
  | 0 =>
    right
    refine ⟨-1, by simp [spec_l01Deg_l1], fun k hk => ?_⟩
    have : k = 0 := by omega
    subst this; simp [top]
  | i + 1 =>
    have e1 : ((i + 1 : Nat) : Int) - 1 = (i : Int) := by omega
    rw [e1]
    by_cases e : rd a.1 i = 0
    · left
      refine ⟨(i : Int) - 1, ?_, ⟨i, rfl, by omega⟩, by omega, fun r hr k hk => ?_⟩
      · simp only [spec_l01Deg_l1]
        rw [if_pos (by simp), ifp_pos (by omega)]
        simp [e]
        exact wrap64 (by omega) (by omega)
      · have : k = i + 1 := by omega
        subst this
        rw [hr i rfl]; simp [top, e]
    · right
      refine ⟨(i : Int), ?_, fun k hk => ?_⟩
      · simp only [spec_l01Deg_l1]
        rw [if_pos (by simp), ifp_pos (by omega)]
        simp [e]
      · have : k = i + 1 := by omega
        subst this
        simp [top, e]

theorem deg_is (a : V64) : spec_l01Deg a = some ((top (rd a.1) 64 : Int) - 1) := by
  obtain ⟨r, h1, h2⟩ := deg_loop a 63 ⟨64, by omega, by omega⟩
  rw [h2 64 (by omega)] at h1
  simp only [spec_l01Deg, h1, Option.bind_some]
end Go.Proofs.Ytpjdjfhbfcekaaa
/- Division, in the reference. -/
namespace Go.Proofs.Ytpjdjfhbfcekaaa
open Go.Abs

theorem divS_inner {p f y : Int} (hp : 2 ≤ p ∧ p ≤ 7) {b : V64} (hb : Res p b) (hf : 0 ≤ f ∧ f < p) (hy : Int.tmod y p = f) {i m : Nat} (hi : i + m < 64) {s t : V64} (hs : Res p s) :
    ∃ s', loopM (fun q : Int × V64 => spec_l01Divide_l2 (m : Int) y p ((i + m : Nat) : Int) b t q.1 q.2) (0, s) = some (s', vset t i f) ∧ Res p s' ∧ ∀ j, j < 64 → rd s'.1 j = dstep p (rd b.1) m f i (rd s.1) j := by
  have e0 : IntKind.i64.wrap (((i + m : Nat) : Int) - (m : Int)) = (i : Int) := by rw [wrap64 (by omega) (by omega)]; omega
  by_cases h0 : f = 0
  · refine ⟨s, ?_, hs, fun j hj => ?_⟩
    · have step : spec_l01Divide_l2 (m : Int) y p ((i + m : Nat) : Int) b t 0 s = some (.inr (s, vset t i f)) := by
        simp only [spec_l01Divide_l2, hy]
        rw [if_pos (decide_eq_true (by omega))]
        simp only [Option.bind_some]
        rw [if_neg (by rw [h0]; simp), e0, Int.toNat_natCast, wrap8 (by omega) (by omega)]
      rw [loopM_eq]
      simp only [step, Option.bind_some]
    · unfold dstep
      split
      · have := hs j hj
        rw [h0, Int.zero_mul, Int.sub_zero, Int.emod_eq_of_lt this.1 this.2]
      · rfl
  · obtain ⟨s', h1, h2, h3⟩ := loopM_for (body := fun q : Int × V64 => spec_l01Divide_l2 (m : Int) y p ((i + m : Nat) : Int) b t q.1 q.2) (fun k (u : V64) => ((k : Int), u)) (fun u => (u, vset t i f)) (m + 1)
      (fun k u => Res p u ∧ ∀ j, j < 64 → rd u.1 j = if i ≤ j ∧ j < i + k then (rd s.1 j - f * rd b.1 (j - i)) % p else rd s.1 j) (fun k u hk hI => by
        obtain ⟨hur, hu⟩ := hI
        have hbk := hb k (by omega)
        have hsk := hs (i + k) (by omega)
        have hm := mul_small (x := f) (y := rd b.1 k) (by omega) (by omega)
        have e1 : IntKind.i64.wrap ((i : Int) + (k : Int)) = ((i + k : Nat) : Int) := by rw [wrap64 (by omega) (by omega)]; omega
        have huk := hu (i + k) (by omega)
        rw [if_neg (by omega)] at huk
        have ht1 := Int.lt_tmod_of_pos (rd s.1 (i + k) - f * rd b.1 k) (show 0 < p by omega)
        have ht2 := Int.tmod_lt_of_pos (rd s.1 (i + k) - f * rd b.1 k) (show 0 < p by omega)
        have hr := emod_res (show 0 < p by omega) (rd s.1 (i + k) - f * rd b.1 k)
        refine ⟨vset u (i + k) ((rd s.1 (i + k) - f * rd b.1 k) % p), ?_, fun j hj => ?_, fun j hj => ?_⟩
        · simp only [spec_l01Divide_l2, letp, hy, e0]
          rw [if_pos (decide_eq_true (by omega))]
          simp only [Option.bind_some]
          rw [if_pos (by simpa using h0), e1, ifp_pos (by omega), ifp_pos (by omega), ifp_pos (by omega), ifp_pos (by omega), ifp_pos (by omega), Int.toNat_natCast, Int.toNat_natCast, huk]
          rw [wrap64 (n := rd b.1 k) (by omega) (by omega), wrap64 (n := f * rd b.1 k) (by omega) (by omega), wrap64 (n := rd s.1 (i + k)) (by omega) (by omega), wrap64 (n := rd s.1 (i + k) - f * rd b.1 k) (by omega) (by omega), wrap64 (n := _ + p) (by omega) (by omega), tmod_fix (by omega), wrap8 (by omega) (by omega), wrap64 (by omega) (by omega)]
          rfl
        · rw [rd_vset _ _ _ _ (by omega)]
          split
          · exact hr
          · exact hur j hj
        · rw [rd_vset _ _ _ _ (by omega), hu j hj]
          by_cases e : j = i + k
          · subst e
            rw [if_pos rfl, if_pos (by omega), show i + k - i = k by omega]
          · rw [if_neg e]
            by_cases hc : i ≤ j ∧ j < i + k
            · rw [if_pos hc, if_pos (by omega)]
            · rw [if_neg hc, if_neg (by omega)]) (fun u hI => by
        simp only [spec_l01Divide_l2, hy, e0]
        rw [if_neg (by rw [decide_eq_true_eq]; omega)]
        simp only [Option.bind_some, Bool.false_eq_true, if_false]
        rw [Int.toNat_natCast, wrap8 (by omega) (by omega)]) (m + 1) 0 s (by omega) ⟨hs, fun j hj => by rw [if_neg (by omega)]⟩
    refine ⟨s', h1, h2, fun j hj => ?_⟩
    rw [h3 j hj]
    unfold dstep
    simp only [show (i ≤ j ∧ j < i + (m + 1)) = (i ≤ j ∧ j ≤ i + m) from by rw [eq_iff_iff]; omega]
theorem dstep_congr {p f : Int} {b b' r r' : Nat → Int} {m i : Nat} (hb : ∀ j, j < 64 → b j = b' j) (hr : ∀ j, j < 64 → r j = r' j) (j : Nat) (hj : j < 64) : dstep p b m f i r j = dstep p b' m f i r' j := by
  unfold dstep
  split
  · rw [hr j hj, hb (j - i) (by omega)]
  · exact hr j hj
theorem divS_outer {p : Int} (hp : isP p = true) {b : V64} (hb : Res p b) {m : Nat} {iv : Int} (hiv : 0 ≤ iv ∧ iv < p) : ∀ (i : Nat) (s t : V64), i + m ≤ 64 → Res p s →
    ∃ s' t', loopM (fun q : Int × V64 × V64 => spec_l01Divide_l1 (m : Int) iv p b q.1 q.2.1 q.2.2) ((i : Int) + m - 1, s, t) = some (s', t') ∧
      (∀ j, j < 64 → rd s'.1 j = drem p (rd b.1) m iv i (rd s.1) j) ∧ ∀ j, j < 64 → rd t'.1 j = if j < i then dquo p (rd b.1) m iv i (rd s.1) j else rd t.1 j
  | 0, s, t, hi, _ => by
    refine ⟨s, t, ?_, fun _ _ => rfl, fun j _ => by rw [if_neg (by omega)]⟩
    have step : spec_l01Divide_l1 (m : Int) iv p b (((0 : Nat) : Int) + m - 1) s t = some (.inr (s, t)) := by
      simp only [spec_l01Divide_l1]
      rw [if_neg (by rw [decide_eq_true_eq]; omega)]
    rw [loopM_eq]
    simp only [step, Option.bind_some]
  | i + 1, s, t, hi, hs => by
    have hp2 := isP_pos hp
    have hsx := hs (i + m) (by omega)
    have hm := mul_small (x := rd s.1 (i + m)) (y := iv) (by omega) (by omega)
    have hf := emod_res (show 0 < p by omega) (rd s.1 (i + m) * iv)
    have e0 : ((i + 1 : Nat) : Int) + m - 1 = ((i + m : Nat) : Int) := by omega
    have e1 : IntKind.i64.wrap (((i + m : Nat) : Int) - (m : Int)) = (i : Int) := by rw [wrap64 (by omega) (by omega)]; omega
    have hy : Int.tmod (rd s.1 (i + m) * iv) p = dfac p iv m i (rd s.1) := Int.tmod_eq_emod_of_nonneg hm.1
    obtain ⟨s1, g1, g2, g3⟩ := divS_inner hp2 hb (f := dfac p iv m i (rd s.1)) hf hy (i := i) (m := m) (by omega) (t := t) hs
    obtain ⟨s', t', k1, k2, k3⟩ := divS_outer hp hb (m := m) hiv i s1 (vset t i (dfac p iv m i (rd s.1))) (by omega) g2
    -- the functions agree on the places that there are
    have hz : ∀ j, 64 ≤ j → rd s1.1 j = dstep p (rd b.1) m (dfac p iv m i (rd s.1)) i (rd s.1) j := fun j hj => by
      rw [rd_ge (by rw [s1.2]; exact hj)]
      unfold dstep
      rw [if_neg (by omega), rd_ge (by rw [s.2]; exact hj)]
    have hs1 : rd s1.1 = dstep p (rd b.1) m (dfac p iv m i (rd s.1)) i (rd s.1) := funext fun j => by
      rcases Nat.lt_or_ge j 64 with h | h
      · exact g3 j h
      · exact hz j h
    refine ⟨s', t', ?_, fun j hj => ?_, fun j hj => ?_⟩
    · have step : spec_l01Divide_l1 (m : Int) iv p b (((i + 1 : Nat) : Int) + m - 1) s t = some (.inl ((i : Int) + m - 1, s1, vset t i (dfac p iv m i (rd s.1)))) := by
        rw [e0]
        simp only [spec_l01Divide_l1, letp, e1]
        rw [if_pos (decide_eq_true (by omega)), ifp_pos (by omega), Int.toNat_natCast, wrap64 (n := rd s.1 (i + m)) (by omega) (by omega), wrap64 (n := iv) (by omega) (by omega), wrap64 (n := rd s.1 (i + m) * iv) (by omega) (by omega), ifp_pos (by omega), ifp_pos (by omega), g1]
        simp only [Option.bind_some]
        rw [wrap64 (by omega) (by omega)]
        congr 3
      rw [loopM_eq]
      simp only [step, Option.bind_some]
      exact k1
    · rw [k2 j hj, hs1]; rfl
    · rw [k3 j hj, hs1]
      simp only [dquo]
      by_cases e : j = i
      · subst e
        rw [if_neg (by omega), if_pos (by omega), if_pos rfl, rd_vset _ _ _ _ hj, if_pos rfl]
      · by_cases h : j < i
        · rw [if_pos h, if_pos (by omega), if_neg e]
        · rw [if_neg h, if_neg (by omega), rd_vset _ _ _ _ (by omega), if_neg e]
theorem rd_pad_fun {l : List Int} (hl : l.length ≤ 64) : rd (pad l).1 = rd l := funext fun j => by
  rcases Nat.lt_or_ge j 64 with h | h
  · exact rd_padl l h
  · rw [rd_ge (by rw [(pad l).2]; exact h), rd_ge (by omega)]
theorem divideS_is {p : Int} (hp : isP p = true) {a b : List Int} (ha : Row p a) (hb : Row p b) (h0 : b.length ≠ 0) (la : a.length ≤ 64) (lb : b.length ≤ 64) : spec_l01Divide p (pad a) (pad b) = some (pad (quo p a b), pad (rem p a b)) := by
  have hp2 := isP_pos hp
  have hta : top (rd (pad a).1) 64 = a.length := by rw [top_congr 64 fun i hi => rd_padl a hi, ha.top la]
  have htb : top (rd (pad b).1) 64 = b.length := by rw [top_congr 64 fun i hi => rd_padl b hi, hb.top lb]
  have hlead := lead_pos (show 0 < p by omega) hb h0
  have hinv := inv_is hp hlead
  have e1 : ((b.length : Nat) : Int) - 1 = ((b.length - 1 : Nat) : Int) := by omega
  simp only [spec_l01Divide, deg_is, hta, htb, Option.bind_some, e1]
  have hl : rd (pad b).1 (b.length - 1) = lead b := by rw [rd_padl _ (by omega)]; rfl
  rw [ifp_pos (by omega), Int.toNat_natCast, hl, inverse_spec hp hlead]
  simp only [Option.bind_some]
  rcases Nat.lt_or_ge a.length b.length with h | h
  · have step : spec_l01Divide_l1 ((b.length - 1 : Nat) : Int) (inv p (lead b)) p (pad b) ((a.length : Int) - 1) (pad a) (vrep 64 0) = some (.inr (pad a, vrep 64 0)) := by
      simp only [spec_l01Divide_l1]
      rw [if_neg (by rw [decide_eq_true_eq]; omega)]
    rw [loopM_eq]
    simp only [step, Option.bind_some]
    have e2 : quo p a b = [] := by
      have := quo_len p a b
      exact List.eq_nil_of_length_eq_zero (by omega)
    have e3 : rem p a b = a := by
      unfold rem
      rw [show a.length + 1 - b.length = 0 by omega]
      exact ha.ofF (Nat.le_refl _)
    rw [e2, e3, pad_nil]
  · obtain ⟨s', t', k1, k2, k3⟩ := divS_outer hp (res_pad hb (by omega)) (m := b.length - 1) (iv := inv p (lead b)) ⟨by omega, hinv.2.1⟩ (a.length + 1 - b.length) (pad a) (vrep 64 0) (by omega) (res_pad ha (by omega))
    have e2 : ((a.length + 1 - b.length : Nat) : Int) + ((b.length - 1 : Nat) : Int) - 1 = (a.length : Int) - 1 := by omega
    rw [e2] at k1
    rw [k1]
    simp only [Option.bind_some]
    rw [rd_pad_fun la, rd_pad_fun lb] at k2 k3
    congr 2
    · refine vec_ext fun j hj => ?_
      rw [k3 j hj, rd_padl _ hj, quo_rd]
      split
      · rfl
      · rw [rd_vrep _ hj, dquo_ge _ _ _ (by omega)]
    · refine vec_ext fun j hj => ?_
      rw [k2 j hj, rd_padl _ hj, rem_rd a h0]
end Go.Proofs.Ytpjdjfhbfcekaaa
/- Sums, in the reference. -/
namespace Go.Proofs.Ytpjdjfhbfcekaaa
open Go.Abs

theorem add_is {p k : Int} {a b : V64} (hp : 0 < p ∧ p ≤ 256) (ha : V64.Ent a) (hb : V64.Ent b) (hk : -1099511627776 ≤ k ∧ k ≤ 1099511627776) :
    ∃ v, spec_l01Add p a b k = some v ∧ ∀ j, j < 64 → rd v.1 j = (rd a.1 j + k * rd b.1 j) % p := by
  obtain ⟨s, h1, h2⟩ := loopM_for (body := fun s : Int × V64 => spec_l01Add_l1 k b p s.1 s.2) (fun i s => ((i : Int), s)) (fun s => s) 64
    (fun i s => ∀ j, j < 64 → rd s.1 j = if j < i then (rd a.1 j + k * rd b.1 j) % p else rd a.1 j) (fun i s hi hI => by
      have hs := hI i hi
      rw [if_neg (by omega)] at hs
      have h1 := ha i hi
      have h0 := hb i hi
      have h2 := mulk (hb i hi) hk
      have h3 := Int.lt_tmod_of_pos (rd a.1 i + k * rd b.1 i) hp.1
      have h4 := Int.tmod_lt_of_pos (rd a.1 i + k * rd b.1 i) hp.1
      have h5 := emod_res hp.1 (rd a.1 i + k * rd b.1 i)
      refine ⟨vset s i ((rd a.1 i + k * rd b.1 i) % p), ?_, fun j hj => ?_⟩
      · simp only [spec_l01Add_l1, letp, Int.toNat_natCast, hs]
        rw [if_pos (by simp; omega), ifp_pos (by omega), ifp_pos (by omega), ifp_pos (by omega), ifp_pos (by omega), ifp_pos (by omega)]
        rw [wrap64 (n := rd b.1 i) (by omega) (by omega), wrap64 (n := rd a.1 i) (by omega) (by omega), wrap64 (n := k * rd b.1 i) (by omega) (by omega), wrap64 (n := rd a.1 i + k * rd b.1 i) (by omega) (by omega), wrap64 (n := _ + p) (by omega) (by omega), tmod_fix hp.1, wrap8 (by omega) (by omega), wrap64 (by omega) (by omega)]
        rfl
      · rw [rd_vset _ _ _ _ hi, hI j hj]
        by_cases h : j = i
        · subst h; simp
        · rw [if_neg h]
          simp only [show (j < i + 1) = (j < i) from by rw [eq_iff_iff]; omega]) (fun s hI => by
      simp only [spec_l01Add_l1, letp]
      rw [if_neg (by simp)]) 64 0 a (by omega) (fun j hj => by rw [if_neg (by omega)])
  refine ⟨s, ?_, fun j hj => by rw [h2 j hj, if_pos hj]⟩
  have h1' : loopM (fun s : Int × V64 => spec_l01Add_l1 k b p s.1 s.2) (0, a) = some s := h1
  simp only [spec_l01Add, h1', Option.bind_some]

theorem add_pad {p k : Int} {a b : List Int} (hp : 0 < p ∧ p ≤ 256) (ha : Row p a) (hb : Row p b) (la : a.length ≤ 64) (lb : b.length ≤ 64) (hk : -1099511627776 ≤ k ∧ k ≤ 1099511627776) :
    spec_l01Add p (pad a) (pad b) k = some (pad (comb p a b k)) := by
  obtain ⟨v, h1, h2⟩ := add_is hp (ent_pad ha hp) (ent_pad hb hp) hk
  rw [h1]
  congr 1
  exact vec_ext fun j hj => by rw [h2 j hj, rd_padl _ hj, rd_padl _ hj, rd_padl _ hj, comb_rd]
end Go.Proofs.Ytpjdjfhbfcekaaa
/- One. -/
namespace Go.Proofs.Ytpjdjfhbfcekaaa
open Go.Abs

theorem row_one {p : Int} (hp : 2 ≤ p) : Row p [1] := ⟨by simp; omega, by simp [rd]⟩
theorem one_is : spec_l01One = some (pad [1]) := by
  unfold spec_l01One
  congr 1
end Go.Proofs.Ytpjdjfhbfcekaaa
/- Primes. -/
namespace Go.Proofs.Ytpjdjfhbfcekaaa
open Go.Abs

theorem isPrime_spec (p : Int) : spec_l01Prime p = some (isP p) := by
  unfold spec_l01Prime isP
  by_cases h1 : p = 2 <;> by_cases h2 : p = 3 <;> by_cases h3 : p = 5 <;> simp [h1, h2, h3]

theorem isPrime_impl (p : Int) : impl_isPrime p = some (isP p) := by
  unfold impl_isPrime isP
  by_cases h1 : p = 2 <;> by_cases h2 : p = 3 <;> by_cases h3 : p = 5 <;> simp [h1, h2, h3]
end Go.Proofs.Ytpjdjfhbfcekaaa
/- Powers of p; one. -/
namespace Go.Proofs.Ytpjdjfhbfcekaaa
open Go.Abs

theorem ppow_pos {p : Nat} (hp : 2 ≤ p) (n : Nat) : 1 ≤ p ^ n := Nat.one_le_pow _ _ (by omega)
theorem ppow_mono {p : Nat} (hp : 2 ≤ p) {n m : Nat} (h : n ≤ m) : p ^ n ≤ p ^ m := Nat.pow_le_pow_right (by omega) h
/-- p to a power, at most a bit more than a limit. -/
theorem norm_is {p n most : Nat} (hp : 2 ≤ p ∧ p ≤ 7) (hn : n ≤ 1000000) (hm : most ≤ 1152921504606846976) : ∃ c : Nat, impl_prime_norm p n most = some (c : Int) ∧ ((p ^ n ≤ most ∧ c = p ^ n) ∨ (most < p ^ n ∧ most < c)) ∧ c ≤ 8070450532247928832 := by
  have key : ∀ (m i : Nat), i + m = n → (i = 0 ∨ p ^ (i - 1) ≤ most) → ∃ c : Nat, loopM (fun s : Int × Int => impl_prime_norm_l1 (n : Int) (most : Int) p s.1 s.2) (((p ^ i : Nat) : Int), (i : Int)) = some (c : Int) ∧ ((p ^ n ≤ most ∧ c = p ^ n) ∨ (most < p ^ n ∧ most < c)  ∨ (n = i ∧ c = p ^ n)) ∧ c ≤ 8070450532247928832 := by
    intro m
    induction m with
    | zero =>
      intro i hi hle
      have : i = n := by omega
      subst this
      have step : impl_prime_norm_l1 (i : Int) (most : Int) p ((p ^ i : Nat) : Int) (i : Int) = some (.inr ((p ^ i : Nat) : Int)) := by
        simp only [impl_prime_norm_l1]
        rw [if_neg (by rw [decide_eq_true_eq]; omega)]
      rw [loopM_eq]
      simp only [step, Option.bind_some]
      refine ⟨p ^ i, rfl, ?_, ?_⟩
      · exact .inr (.inr (by simp))
      · rcases hle with rfl | hle
        · simp
        · rcases Nat.eq_zero_or_pos i with rfl | h
          · simp
          · have : p ^ i = p ^ (i - 1) * p := by rw [← Nat.pow_succ]; congr 1; omega
            rw [this]
            have := Nat.mul_le_mul hle hp.2
            omega
    | succ m ih =>
      intro i hi hle
      have hmono := ppow_mono hp.1 (show i ≤ n by omega)
      by_cases h : most < p ^ i
      · have step : impl_prime_norm_l1 (n : Int) (most : Int) p ((p ^ i : Nat) : Int) (i : Int) = some (.inr ((p ^ i : Nat) : Int)) := by
          simp only [impl_prime_norm_l1]
          rw [if_pos (decide_eq_true (by omega)), if_pos (decide_eq_true (by omega))]
        rw [loopM_eq]
        simp only [step, Option.bind_some]
        refine ⟨p ^ i, rfl, .inr (.inl ⟨by omega, h⟩), ?_⟩
        rcases hle with rfl | hle
        · simp
        · rcases Nat.eq_zero_or_pos i with rfl | h
          · simp
          · have : p ^ i = p ^ (i - 1) * p := by rw [← Nat.pow_succ]; congr 1; omega
            rw [this]
            have := Nat.mul_le_mul hle hp.2
            omega
      · have hle2 := Nat.mul_le_mul (show p ^ i ≤ most by omega) hp.2
        have e1 : ((p ^ i : Nat) : Int) * (p : Int) = ((p ^ (i + 1) : Nat) : Int) := by rw [Nat.pow_succ, Int.natCast_mul]
        have e2 : p ^ (i + 1) = p ^ i * p := Nat.pow_succ ..
        have step : impl_prime_norm_l1 (n : Int) (most : Int) p ((p ^ i : Nat) : Int) (i : Int) = some (.inl (((p ^ (i + 1) : Nat) : Int), ((i + 1 : Nat) : Int))) := by
          simp only [impl_prime_norm_l1]
          rw [if_pos (decide_eq_true (by omega)), if_neg (by rw [decide_eq_true_eq]; omega), e1, wrap64 (n := ((p ^ (i + 1) : Nat) : Int)) (by omega) (by omega), wrap64 (by omega) (by omega)]
          rfl
        rw [loopM_eq]
        simp only [step, Option.bind_some]
        obtain ⟨c, h1, h2, h3⟩ := ih (i + 1) (by omega) (.inr (by simp only [Nat.add_sub_cancel]; omega))
        refine ⟨c, h1, ?_, h3⟩
        rcases h2 with h2 | h2 | ⟨h2, h4⟩
        · exact .inl h2
        · exact .inr (.inl h2)
        · by_cases h5 : p ^ n ≤ most
          · exact .inl ⟨h5, h4⟩
          · exact .inr (.inl ⟨by omega, by omega⟩)
  obtain ⟨c, h1, h2, h3⟩ := key n 0 (by omega) (.inl rfl)
  simp only [Nat.pow_zero] at h1
  refine ⟨c, ?_, ?_, h3⟩
  · have h1' : loopM (fun s : Int × Int => impl_prime_norm_l1 (n : Int) (most : Int) p s.1 s.2) (1, 0) = some (c : Int) := h1
    simp only [impl_prime_norm, h1', Option.bind_some]
  · rcases h2 with h2 | h2 | ⟨h2, h4⟩
    · exact .inl h2
    · exact .inr h2
    · by_cases h5 : p ^ n ≤ most
      · exact .inl ⟨h5, h4⟩
      · exact .inr ⟨by omega, by omega⟩
end Go.Proofs.Ytpjdjfhbfcekaaa
/- Rests of products and powers, in the reference. -/
namespace Go.Proofs.Ytpjdjfhbfcekaaa
open Go.Abs

variable {P : Pri}
theorem len_T {P : Pri} : (ppT : PP P).len = 2 := rfl
theorem divS {a b : PP P} (hb : b ≠ 0) (la : a.len ≤ 64) (lb : b.len ≤ 64) : spec_l01Divide P.p (pad a.1) (pad b.1) = some (pad (pquo a b).1, pad (prem a b).1) := divideS_is P.okp a.2 b.2 (ne_len hb) la lb
theorem modS {a b : PP P} (hb : b ≠ 0) (la : a.len ≤ 64) (lb : b.len ≤ 64) : spec_l01Mod P.p (pad a.1) (pad b.1) = some (pad (prem a b).1) := by
  simp only [spec_l01Mod, divS hb la lb, Option.bind_some]
theorem degS (a : PP P) (la : a.len ≤ 64) : spec_l01Deg (pad a.1) = some ((a.len : Int) - 1) := by
  rw [deg_is, rd_pad_fun la, a.2.top la]; rfl
theorem comb_nsm (x a : PP P) (k : Nat) : comb P.p x.1 a.1 k = (x + nsm k a).1 := by
  refine row_ext (comb_row P.pos _ _ _) (x + nsm k a).2 fun i => ?_
  have h : (x + nsm k a).c i = (x.c i + (nsm k a).c i) % P.p := add_c _ _ _
  rw [comb_rd]
  show _ = (x + nsm k a).c i
  rw [h, nsm_c, Int.add_emod_emod]; rfl
theorem len_nsm (k : Nat) (a : PP P) : (nsm k a).len ≤ a.len := by
  induction k with
  | zero => show 0 ≤ _; omega
  | succ k ih =>
    have := len_add (nsm k a) a
    simp only [nsm]; omega
theorem addS {a b : PP P} (la : a.len ≤ 64) (lb : b.len ≤ 64) {k : Nat} (hk : k ≤ 1099511627776) : spec_l01Add P.p (pad a.1) (pad b.1) k = some (pad (a + nsm k b).1) := by
  rw [add_pad P.sm a.2 b.2 la lb (by omega), comb_nsm]
set_option maxHeartbeats 2000000 in
/-- T times a residue, less a multiple of the modulus. -/
theorem up_is {a m : PP P} (hm : m ≠ 0) (lm : m.len ≤ 64) (la : a.len < m.len) : spec_l01Up P.p (pad a.1) (pad m.1) = some (pad (prem (ppT * a) m).1) := by
  have hp := P.two
  simp only [spec_l01Up, letp, degS m lm, Option.bind_some]
  by_cases h1 : m.len = 1
  · rw [if_pos (by rw [beq_iff_eq]; omega)]
    have h := prem_len (ppT * a) hm
    have : prem (ppT * a) m = 0 := len_zero.1 (by omega)
    rw [this]
    exact congrArg some pad_nil.symm
  · have hml := len_pos hm
    obtain ⟨n, hn⟩ : ∃ n, m.len = n + 2 := ⟨m.len - 2, by omega⟩
    have e0 : ((m.len : Int) - 1) = ((n + 1 : Nat) : Int) := by omega
    rw [if_neg (by rw [beq_iff_eq]; omega), e0]
    have e1 : IntKind.i64.wrap (((n + 1 : Nat) : Int) - 1) = (n : Int) := by rw [wrap64 (by omega) (by omega)]; omega
    rw [e1, ifp_pos (by omega), Int.toNat_natCast]
    have an := a.c_res n
    have ean : rd (pad a.1).1 n = a.c n := rd_padl _ (by omega)
    simp only [Int.toNat_natCast, ean]
    rw [wrap64 (n := a.c n) (by omega) (by omega)]
    -- the shifted coefficients
    obtain ⟨v, h2, h3⟩ := loopM_for (body := fun s : Int × V64 => spec_l01Up_l1 ((n + 1 : Nat) : Int) (pad a.1) s.1 s.2) (fun i u => ((i : Int), u)) (fun u => u) (n + 1)
      (fun i u => 1 ≤ i ∧ ∀ j, j < 64 → rd u.1 j = if 1 ≤ j ∧ j < i then a.c (j - 1) else 0) (fun i u hi hI => by
        obtain ⟨hi1, hI⟩ := hI
        have e2 : IntKind.i64.wrap ((i : Int) - 1) = ((i - 1 : Nat) : Int) := by rw [wrap64 (by omega) (by omega)]; omega
        have e3 : rd (pad a.1).1 (i - 1) = a.c (i - 1) := rd_padl _ (by omega)
        refine ⟨vset u i (a.c (i - 1)), ?_, by omega, fun j hj => ?_⟩
        · simp only [spec_l01Up_l1, e2, Int.toNat_natCast, e3]
          rw [if_pos (decide_eq_true (by omega)), ifp_pos (by omega), ifp_pos (by omega), wrap64 (by omega) (by omega)]
          rfl
        · rw [rd_vset _ _ _ _ (by omega), hI j hj]
          by_cases h : j = i
          · subst h; rw [if_pos rfl, if_pos (by omega)]
          · rw [if_neg h]
            simp only [show (1 ≤ j ∧ j < i + 1) = (1 ≤ j ∧ j < i) from by rw [eq_iff_iff]; omega]) (fun u hI => by
        simp only [spec_l01Up_l1]
        rw [if_neg (by rw [decide_eq_true_eq]; omega)]) n 1 (vrep 64 0) (by omega) ⟨by omega, fun j hj => by rw [rd_vrep _ hj, if_neg (by omega)]⟩
    have h2' : loopM (fun s : Int × V64 => spec_l01Up_l1 ((n + 1 : Nat) : Int) (pad a.1) s.1 s.2) (1, vrep 64 0) = some v := h2
    have emn : rd (pad m.1).1 (n + 1) = lead m.1 := by
      rw [rd_padl _ (by omega)]
      show rd m.1 (n + 1) = rd m.1 (m.1.length - 1)
      have : m.1.length = n + 2 := hn
      rw [this]; rfl
    have hlead := lead_pos P.pos m.2 (ne_len hm)
    have hinv := inv_is P.okp hlead
    obtain ⟨f, hf⟩ : ∃ f : Nat, a.c n * inv P.p (lead m.1) % P.p = f := ⟨(a.c n * inv P.p (lead m.1) % P.p).toNat, by have := emod_res P.pos (a.c n * inv P.p (lead m.1)); omega⟩
    have hfp : (f : Int) < P.p := by rw [← hf]; exact (emod_res P.pos _).2
    have hinv' : 0 < inv P.p (lead m.1) ∧ inv P.p (lead m.1) < P.p := ⟨hinv.1, hinv.2.1⟩
    have hms := mul_small (x := a.c n) (y := inv P.p (lead m.1)) (by omega) (by omega)
    have ef : Int.tmod (IntKind.i64.wrap (a.c n * IntKind.i64.wrap (inv P.p (lead m.1)))) P.p = f := by
      rw [wrap64 (n := inv P.p (lead m.1)) (by omega) (by omega), wrap64 (n := _ * _) (by omega) (by omega), Int.tmod_eq_emod_of_nonneg hms.1, hf]
    -- less a multiple of the modulus
    obtain ⟨w, h4, h5⟩ := loopM_for (body := fun s : Int × V64 => spec_l01Up_l2 ((n + 1 : Nat) : Int) (a.c n) (inv P.p (lead m.1)) P.p (pad m.1) s.1 s.2) (fun i u => ((i : Int), u)) (fun u => u) (n + 1)
      (fun i u => ∀ j, j < 64 → rd u.1 j = if j < i then (rd v.1 j - f * m.c j) % P.p else rd v.1 j) (fun i u hi hI => by
        have hs := hI i (by omega)
        rw [if_neg (by omega)] at hs
        have hv := h3.2 i (by omega)
        have hvb : 0 ≤ rd v.1 i ∧ rd v.1 i < 256 := by
          rw [hv]
          split
          · have := a.c_res (i - 1); omega
          · omega
        have hmi := m.c_res i
        have em : rd (pad m.1).1 i = m.c i := rd_padl _ (by omega)
        have hfm := mul_small (x := (f : Int)) (y := m.c i) (by omega) (by omega)
        have h6 := Int.lt_tmod_of_pos (rd v.1 i - f * m.c i) P.pos
        have h7 := Int.tmod_lt_of_pos (rd v.1 i - f * m.c i) P.pos
        have h8 := emod_res P.pos (rd v.1 i - f * m.c i)
        refine ⟨vset u i ((rd v.1 i - f * m.c i) % P.p), ?_, fun j hj => ?_⟩
        · simp only [spec_l01Up_l2, letp, Int.toNat_natCast, hs, em, ef]
          rw [if_pos (decide_eq_true (by omega)), ifp_pos (by omega), ifp_pos (by omega), ifp_pos (by omega), ifp_pos (by omega), ifp_pos (by omega)]
          rw [wrap64 (n := m.c i) (by omega) (by omega), wrap64 (n := (f : Int) * m.c i) (by omega) (by omega), wrap64 (n := rd v.1 i) (by omega) (by omega), wrap64 (n := rd v.1 i - f * m.c i) (by omega) (by omega), wrap64 (n := _ + P.p) (by omega) (by omega), tmod_fix P.pos, wrap8 (by omega) (by omega), wrap64 (by omega) (by omega)]
          rfl
        · rw [rd_vset _ _ _ _ (by omega), hI j hj]
          by_cases h : j = i
          · subst h; rw [if_pos rfl, if_pos (by omega)]
          · rw [if_neg h]
            simp only [show (j < i + 1) = (j < i) from by rw [eq_iff_iff]; omega]) (fun u hI => by
        simp only [spec_l01Up_l2]
        rw [if_neg (by rw [decide_eq_true_eq]; omega)]) (n + 1) 0 v (by omega) (fun j hj => by rw [if_neg (by omega)])
    have h4' : loopM (fun s : Int × V64 => spec_l01Up_l2 ((n + 1 : Nat) : Int) (a.c n) (inv P.p (lead m.1)) P.p (pad m.1) s.1 s.2) (0, v) = some w := h4
    simp only [h2', Option.bind_some, emn]
    rw [ifp_pos (by omega), inverse_spec P.okp hlead]
    simp only [Option.bind_some]
    rw [ifp_pos (by omega), h4']
    simp only [Option.bind_some]
    -- it is the rest
    have hr : ∀ i, (ppT * a + -(nsm f m)).c i = ((if 1 ≤ i then a.c (i - 1) else 0) - f * m.c i) % P.p := fun i => by
      rw [add_c, neg_c, nsm_c, T_c, Int.add_emod_emod, Int.sub_eq_add_neg]
      rw [Int.add_emod, ← Int.sub_eq_add_neg]
      rw [Int.sub_eq_add_neg, ← Int.add_emod, ← Int.sub_eq_add_neg, ← Int.sub_eq_add_neg]
      exact Int.sub_emod_emod _ _ _
    have hz : ∀ i, n + 1 ≤ i → (ppT * a + -(nsm f m)).c i = 0 := fun i hi => by
      rw [hr]
      by_cases e : i = n + 1
      · subst e
        rw [if_pos (by omega), Nat.add_sub_cancel]
        have e5 : m.c (n + 1) = lead m.1 := by rw [← emn]; exact (rd_padl _ (by omega)).symm
        have e8 : (a.c n * inv P.p (lead m.1) % P.p) * lead m.1 % P.p = a.c n % P.p := by
          rw [Int.mul_emod, Int.emod_emod, ← Int.mul_emod, Int.mul_assoc, Int.mul_comm (inv P.p (lead m.1)), Int.mul_emod, hinv.2.2, Int.mul_one, Int.emod_emod]
        rw [e5, ← hf, Int.sub_emod, e8, Int.sub_self]
        rfl
      · rw [if_pos (by omega)]
        have e5 : a.c (i - 1) = 0 := rd_ge (by have : a.1.length < m.1.length := la; have : m.1.length = n + 2 := hn; omega)
        have e6 : m.c i = 0 := rd_ge (by have : m.1.length = n + 2 := hn; omega)
        rw [e5, e6]; simp
    have hl : (ppT * a + -(nsm f m)).len < m.len := by
      rcases Nat.lt_or_ge (ppT * a + -(nsm f m)).len m.len with h | h
      · exact h
      · have h0 : (ppT * a + -(nsm f m)).1.length ≠ 0 := by have : (ppT * a + -(nsm f m)).1.length = (ppT * a + -(nsm f m)).len := rfl; omega
        have h9 := (ppT * a + -(nsm f m)).2.nrm h0
        have h10 : (ppT * a + -(nsm f m)).c ((ppT * a + -(nsm f m)).len - 1) = 0 := hz _ (by omega)
        exact (h9 h10).elim
    have hrem : prem (ppT * a) m = ppT * a + -(nsm f m) := by
      refine prem_of (nsm f 1) hm ?_ hl
      have e7 : nsm f 1 * m = nsm f m := by rw [ppring.mul_comm, ppring.mul_nsm, ppring.mul_one]
      rw [e7, ppring.add_left_comm, ppring.add_neg, ppring.add_zero]
    rw [hrem]
    congr 1
    refine vec_ext fun j hj => ?_
    rw [h5 j hj, rd_padl _ hj]
    show _ = (ppT * a + -(nsm f m)).c j
    by_cases hjn : j < n + 1
    · rw [if_pos hjn, hr, h3.2 j hj]
      simp only [show (1 ≤ j ∧ j < n + 1) = (1 ≤ j) from by rw [eq_iff_iff]; omega]
    · rw [if_neg hjn, hz j (by omega), h3.2 j hj, if_neg (by omega)]

/-! Products. -/
theorem drop_row {p : Int} : ∀ (i : Nat) {l : List Int}, Row p l → Row p (l.drop i)
  | 0, _, h => h
  | _ + 1, [], h => h
  | i + 1, _ :: _, h => drop_row i (row_tail h)
def pdrop (b : PP P) (i : Nat) : PP P := ⟨b.1.drop i, drop_row i b.2⟩
theorem pdrop_c (b : PP P) (i j : Nat) : (pdrop b i).c j = b.c (i + j) := by
  show rd (b.1.drop i) j = rd b.1 (i + j)
  simp [rd]
theorem pdrop_all (b : PP P) {i : Nat} (h : b.len ≤ i) : pdrop b i = 0 := pp_eq (List.drop_eq_nil_of_le h)
theorem pdrop_step (b : PP P) (i : Nat) : pdrop b i = ppT * pdrop b (i + 1) + nsm (b.c i).toNat 1 := by
  have hb := b.c_res i
  refine pp_ext fun j => ?_
  rw [add_c, T_c, nsm_c, one_c, pdrop_c, pdrop_c, Int.toNat_of_nonneg hb.1]
  cases j with
  | zero => rw [if_neg (by omega), if_pos rfl, Int.mul_one, Int.add_emod_emod, Int.zero_add, Nat.add_zero, b.c_mod]
  | succ j =>
    rw [if_pos (by omega), if_neg (by omega), Int.mul_zero, Int.zero_emod, Int.add_zero, b.c_mod]
    congr 1; omega
theorem mulmod_loop {a b m : PP P} (hm : m ≠ 0) (lm : m.len ≤ 64) (la : a.len ≤ 64) (lb : b.len ≤ 64) : ∀ i : Nat, i ≤ b.len →
    loopM (fun s : Int × V64 => spec_l01MulMod_l1 P.p (pad m.1) (pad a.1) (pad b.1) s.1 s.2) ((i : Int) - 1, pad (prem (a * pdrop b i) m).1) = some (pad (prem (a * b) m).1) := by
  have hp := P.two
  intro i
  induction i with
  | zero =>
    intro _
    have step : spec_l01MulMod_l1 P.p (pad m.1) (pad a.1) (pad b.1) (((0 : Nat) : Int) - 1) (pad (prem (a * pdrop b 0) m).1) = some (.inr (pad (prem (a * pdrop b 0) m).1)) := by
      simp only [spec_l01MulMod_l1]
      rw [if_neg (by simp)]
    rw [loopM_eq]
    simp only [step, Option.bind_some]
    rfl
  | succ i ih =>
    intro hi
    have hbc := b.c_res i
    have l1 := prem_len (a * pdrop b (i + 1)) hm
    have l2 := prem_len (ppT * prem (a * pdrop b (i + 1)) m) hm
    have ew : IntKind.i64.wrap (((i + 1 : Nat) : Int) - 1 - 1) = (i : Int) - 1 := by rw [wrap64 (by omega) (by omega)]; omega
    have eb : rd (pad b.1).1 i = b.c i := rd_padl _ (by omega)
    obtain ⟨k, hk⟩ : ∃ k : Nat, b.c i = k := ⟨(b.c i).toNat, by omega⟩
    have e1 := up_is hm lm l1
    have e2 := addS (P := P) (a := prem (ppT * prem (a * pdrop b (i + 1)) m) m) (b := a) (by omega) la (k := k) (by omega)
    have l3 : (prem (ppT * prem (a * pdrop b (i + 1)) m) m + nsm k a).len ≤ 64 := by
      have := len_add (prem (ppT * prem (a * pdrop b (i + 1)) m) m) (nsm k a)
      have := len_nsm k a
      omega
    have e3 := modS hm l3 lm
    have e4 : prem (prem (ppT * prem (a * pdrop b (i + 1)) m) m + nsm k a) m = prem (a * pdrop b i) m := by
      rw [prem_mul_r _ _ hm]
      have h1 : prem (prem (ppT * (a * pdrop b (i + 1))) m + nsm k a) m = prem (ppT * (a * pdrop b (i + 1)) + nsm k a) m := by
        rw [prem_add _ _ hm, prem_add _ _ hm, prem_small (prem_len (ppT * (a * pdrop b (i + 1))) hm)]
      have h2 : ppT * (a * pdrop b (i + 1)) + nsm k a = a * pdrop b i := by
        rw [pdrop_step b i, ppring.mul_add, ppring.mul_left_comm a ppT, ppring.mul_nsm, ppring.mul_one, hk, Int.toNat_natCast]
      rw [h1, h2]
    have step : spec_l01MulMod_l1 P.p (pad m.1) (pad a.1) (pad b.1) (((i + 1 : Nat) : Int) - 1) (pad (prem (a * pdrop b (i + 1)) m).1) = some (.inl ((i : Int) - 1, pad (prem (a * pdrop b i) m).1)) := by
      simp only [spec_l01MulMod_l1, e1, Option.bind_some]
      rw [if_pos (decide_eq_true (by omega)), ifp_pos (by omega), ew, show (((i + 1 : Nat) : Int) - 1).toNat = i by omega, eb, wrap64 (by omega) (by omega), hk, e2]
      simp only [Option.bind_some]
      rw [e3, e4]
      rfl
    rw [loopM_eq]
    simp only [step, Option.bind_some]
    exact ih (by omega)
theorem mulmodS {a b m : PP P} (hm : m ≠ 0) (lm : m.len ≤ 64) (la : a.len ≤ 64) (lb : b.len ≤ 64) : spec_l01MulMod P.p (pad a.1) (pad b.1) (pad m.1) = some (pad (prem (a * b) m).1) := by
  have h := mulmod_loop hm lm la lb b.len (Nat.le_refl _)
  have e : prem (a * pdrop b b.len) m = 0 := by
    rw [pdrop_all b (Nat.le_refl _), ppring.mul_zero]
    exact prem_small (by have := len_pos hm; rw [len_zero.2 rfl]; omega)
  rw [e] at h
  have e2 : pad (0 : PP P).1 = vrep 64 0 := pad_nil
  rw [e2] at h
  simp only [spec_l01MulMod, degS b lb, Option.bind_some, h]

/-! Powers. -/
theorem powmod_loop {m : PP P} (hm : m ≠ 0) (lm : m.len ≤ 64) : ∀ (n k : Nat) (O B : PP P), k ≤ n → k < 4611686018427387904 →
    loopM (fun s : Int × V64 × V64 => spec_l01PowMod_l1 P.p (pad m.1) s.1 s.2.1 s.2.2) ((k : Int), pad (prem O m).1, pad (prem B m).1) = some (pad (prem (O * pw B k) m).1) := by
  intro n
  induction n with
  | zero =>
    intro k O B hk _
    have : k = 0 := by omega
    subst this
    have step : spec_l01PowMod_l1 P.p (pad m.1) ((0 : Nat) : Int) (pad (prem O m).1) (pad (prem B m).1) = some (.inr (pad (prem O m).1)) := by
      simp only [spec_l01PowMod_l1]
      rw [if_neg (by simp)]
    rw [loopM_eq]
    simp only [step, Option.bind_some, pw, ppring.mul_one]
  | succ n ih =>
    intro k O B hk hb
    rcases Nat.eq_zero_or_pos k with rfl | h0
    · have step : spec_l01PowMod_l1 P.p (pad m.1) ((0 : Nat) : Int) (pad (prem O m).1) (pad (prem B m).1) = some (.inr (pad (prem O m).1)) := by
        simp only [spec_l01PowMod_l1]
        rw [if_neg (by simp)]
      rw [loopM_eq]
      simp only [step, Option.bind_some, pw, ppring.mul_one]
    · have lO := prem_len O hm
      have lB := prem_len B hm
      have e1 : spec_l01MulMod P.p (pad (prem B m).1) (pad (prem B m).1) (pad m.1) = some (pad (prem (B * B) m).1) := by rw [mulmodS hm lm (by omega) (by omega), prem_mul _ _ hm]
      have e2 : spec_l01MulMod P.p (pad (prem O m).1) (pad (prem B m).1) (pad m.1) = some (pad (prem (O * B) m).1) := by rw [mulmodS hm lm (by omega) (by omega), prem_mul _ _ hm]
      have et : Int.tmod (k : Int) 2 = ((k % 2 : Nat) : Int) := by rw [Int.tmod_eq_emod_of_nonneg (by omega)]; omega
      have ed : IntKind.i64.wrap (Int.tdiv (k : Int) 2) = ((k / 2 : Nat) : Int) := by rw [Int.tdiv_eq_ediv_of_nonneg (by omega), wrap64 (by omega) (by omega)]; omega
      have step : spec_l01PowMod_l1 P.p (pad m.1) (k : Int) (pad (prem O m).1) (pad (prem B m).1) = some (.inl (((k / 2 : Nat) : Int), pad (prem (if k % 2 = 1 then O * B else O) m).1, pad (prem (B * B) m).1)) := by
        simp only [spec_l01PowMod_l1, e1, e2, et, ed, Option.bind_some]
        rw [if_pos (decide_eq_true (by omega))]
        by_cases ho : k % 2 = 1
        · rw [if_pos ho, if_pos (by rw [beq_iff_eq]; omega)]; rfl
        · rw [if_neg ho, if_neg (by rw [beq_iff_eq]; omega)]; rfl
      rw [loopM_eq]
      simp only [step, Option.bind_some]
      rw [ih (k / 2) _ _ (by omega) (by omega), pw_two]
      congr 4
      by_cases ho : k % 2 = 1
      · rw [if_pos ho, ppring.mul_assoc]
        have e : k = 2 * (k / 2) + 1 := by omega
        conv => rhs; rw [e]
        simp only [pw]
        rw [ppring.mul_comm B]
      · rw [if_neg ho]
        have e : k = 2 * (k / 2) := by omega
        conv => rhs; rw [e]
theorem powmodS {a m : PP P} (hm : m ≠ 0) (lm : m.len ≤ 64) (la : a.len ≤ 64) {k : Nat} (hk : k < 4611686018427387904) : spec_l01PowMod P.p (pad a.1) k (pad m.1) = some (pad (prem (pw a k) m).1) := by
  have h := powmod_loop hm lm k k 1 a (Nat.le_refl _) hk
  have e1 : spec_l01Mod P.p (pad [1]) (pad m.1) = some (pad (prem (1 : PP P) m).1) := modS (a := (1 : PP P)) hm (by rw [len_one]; omega) lm
  simp only [spec_l01PowMod, one_is, e1, modS hm la lm, Option.bind_some, h, ppring.one_mul]
end Go.Proofs.Ytpjdjfhbfcekaaa
/- Monic polynomials. -/
namespace Go.Proofs.Ytpjdjfhbfcekaaa
open Go.Abs

variable {P : Pri}
def Mo (a : PP P) : Prop := lead a.1 = 1
theorem Mo.ne {a : PP P} (h : Mo a) : a ≠ 0 := fun e => by
  subst e
  have : lead ([] : List Int) = 1 := h
  simp [lead, rd] at this
theorem lead_c (a : PP P) : lead a.1 = a.c (a.len - 1) := rfl
/-- A polynomial made monic. -/
def mon (a : PP P) : PP P := nsm (inv P.p (lead a.1)).toNat a
theorem mon_eq {a : PP P} (ha : a ≠ 0) : ∃ u v : PP P, mon a = u * a ∧ a = v * mon a ∧ (mon a).len = a.len ∧ Mo (mon a) := by
  have hl := lead_pos P.pos a.2 (ne_len ha)
  have hi := inv_is P.okp hl
  obtain ⟨k, hk⟩ : ∃ k : Nat, inv P.p (lead a.1) = k := ⟨(inv P.p (lead a.1)).toNat, by omega⟩
  have e1 : mon a = nsm k a := by unfold mon; rw [hk, Int.toNat_natCast]
  have e2 : mon a = nsm k 1 * a := by rw [e1, ppring.mul_comm, ppring.mul_nsm, ppring.mul_one]
  have hc : (mon a).c (a.len - 1) = 1 := by
    rw [e1, nsm_c, ← lead_c, ← hk, Int.mul_comm, hi.2.2]
  have hle : (mon a).len ≤ a.len := by rw [e1]; exact len_nsm k a
  have hpos := len_pos ha
  have hge : a.len - 1 < (mon a).len := by
    rcases Nat.lt_or_ge (a.len - 1) (mon a).len with h | h
    · exact h
    · have h0 : (mon a).c (a.len - 1) = 0 := rd_ge h
      rw [h0] at hc; omega
  have hlen : (mon a).len = a.len := by omega
  have hmo : Mo (mon a) := by
    unfold Mo
    rw [lead_c, hlen, hc]
  obtain ⟨l, hll⟩ : ∃ l : Nat, lead a.1 = l := ⟨(lead a.1).toNat, by omega⟩
  refine ⟨nsm k 1, nsm l 1, e2, ?_, hlen, hmo⟩
  have e3 : nsm l 1 * mon a = nsm l (mon a) := by rw [ppring.mul_comm, ppring.mul_nsm, ppring.mul_one]
  rw [e3, e1]
  refine pp_ext fun i => ?_
  have hki : (l : Int) * k % P.p = 1 := by rw [← hll, ← hk]; exact hi.2.2
  rw [nsm_c, nsm_c, Int.mul_emod, Int.emod_emod, ← Int.mul_emod, ← Int.mul_assoc, Int.mul_emod, hki, Int.one_mul, Int.emod_emod, a.c_mod]
theorem mon_len {a : PP P} (ha : a ≠ 0) : (mon a).len = a.len := by obtain ⟨u, v, _, _, h, _⟩ := mon_eq ha; exact h
theorem mon_mo {a : PP P} (ha : a ≠ 0) : Mo (mon a) := by obtain ⟨u, v, _, _, _, h⟩ := mon_eq ha; exact h
theorem mon_dv {a : PP P} (ha : a ≠ 0) : Dv a (mon a) ∧ Dv (mon a) a := by obtain ⟨u, v, h1, h2, _, _⟩ := mon_eq ha; exact ⟨⟨u, h1⟩, ⟨v, h2⟩⟩
/-- Monic polynomials that divide each other are the same. -/
theorem mo_eq {a b : PP P} (ha : Mo a) (hb : Mo b) (h1 : Dv a b) (hl : a.len = b.len) : a = b := by
  obtain ⟨q, e⟩ := h1
  have hq : q ≠ 0 := fun h => hb.ne (by rw [e, h, ppring.zero_mul])
  have h2 := len_mul hq ha.ne
  rw [← e] at h2
  have h3 := len_pos hq
  have h4 := len_pos ha.ne
  have hq1 : q.len = 1 := by omega
  have e2 : b.c (b.len - 1) = q.c 0 * a.c (a.len - 1) % P.p := by
    rw [e, mul_c]
    have e3 : (q * a).len - 1 = 0 + (a.len - 1) := by rw [← e]; omega
    rw [e3, conv_lead (a := q.c) (b := a.c) (n := 0) (m := a.len - 1)]
    · intro i hi; exact rd_ge (by have : q.1.length = 1 := hq1; omega)
    · intro i hi; exact rd_ge (by show a.len ≤ i; omega)
  rw [← lead_c, ← lead_c, show lead a.1 = 1 from ha, show lead b.1 = 1 from hb, Int.mul_one, q.c_mod] at e2
  have e4 : q = 1 := pp_ext fun i => by
    rw [one_c]
    by_cases hi : i = 0
    · subst hi; rw [if_pos rfl, ← e2]
    · rw [if_neg hi]; exact rd_ge (by have : q.1.length = 1 := hq1; omega)
  rw [e, e4, ppring.one_mul]
end Go.Proofs.Ytpjdjfhbfcekaaa
/- Products, in the reference. -/
namespace Go.Proofs.Ytpjdjfhbfcekaaa
open Go.Abs

/-- One row of the reference's product. -/
theorem timesS_row {p : Int} (hp : 2 ≤ p ∧ p ≤ 256) {a b : V64} (ha : Res p a) (hb : Res p b) {i db : Nat} (hi : i + db < 64) {v : V64} (hv : Res p v) :
    ∃ v', loopM (fun s : Int × V64 => spec_l01Times_l2 (db : Int) (i : Int) a b p s.1 s.2) (0, v) = some v' ∧ Res p v' ∧ ∀ k, k < 64 → rd v'.1 k = if i ≤ k ∧ k ≤ i + db then (rd v.1 k + rd a.1 i * rd b.1 (k - i)) % p else rd v.1 k := by
  by_cases h0 : rd a.1 i = 0
  · refine ⟨v, ?_, hv, fun k hk => ?_⟩
    · rw [loopM_eq]
      simp only [spec_l01Times_l2]
      rw [ifp_pos (by omega)]
      simp [h0]
    · rw [h0]
      split
      · have := hv k hk
        rw [Int.zero_mul, Int.add_zero, Int.emod_eq_of_lt this.1 this.2]
      · rfl
  · have hai := ha i (by omega)
    obtain ⟨v', h1, h2, h3⟩ := loopM_for (body := fun s : Int × V64 => spec_l01Times_l2 (db : Int) (i : Int) a b p s.1 s.2) (fun j (v : V64) => ((j : Int), v)) (fun v => v) (db + 1)
      (fun j u => Res p u ∧ ∀ k, k < 64 → rd u.1 k = if i ≤ k ∧ k < i + j then (rd v.1 k + rd a.1 i * rd b.1 (k - i)) % p else rd v.1 k) (fun j u hj hI => by
        obtain ⟨hr, hk⟩ := hI
        have hbj := hb j (by omega)
        have huj := hr (i + j) (by omega)
        have e1 : IntKind.i64.wrap ((i : Int) + (j : Int)) = ((i + j : Nat) : Int) := by rw [wrap64 (by omega) (by omega)]; omega
        have hm := mul_small (x := rd a.1 i) (y := rd b.1 j) (by omega) (by omega)
        have hmod : Int.tmod (rd u.1 (i + j) + rd a.1 i * rd b.1 j) p = (rd u.1 (i + j) + rd a.1 i * rd b.1 j) % p := Int.tmod_eq_emod_of_nonneg (by omega)
        have hlt := emod_res (show 0 < p by omega) (rd u.1 (i + j) + rd a.1 i * rd b.1 j)
        refine ⟨vset u (i + j) ((rd u.1 (i + j) + rd a.1 i * rd b.1 j) % p), ?_, fun k hk' => ?_, fun k hk' => ?_⟩
        · simp only [spec_l01Times_l2, letp]
          rw [if_pos (by simp; omega), ifp_pos (by omega)]
          simp only [Option.bind_some]
          rw [if_pos (by simpa using h0), e1]
          rw [ifp_pos (by omega), ifp_pos (by omega), ifp_pos (by omega), ifp_pos (by omega), ifp_pos (by omega)]
          simp only [Int.toNat_natCast]
          rw [wrap64 (n := rd u.1 (i + j)) (by omega) (by omega), wrap64 (n := rd a.1 i) (by omega) (by omega), wrap64 (n := rd b.1 j) (by omega) (by omega), wrap64 (n := rd a.1 i * rd b.1 j) (by omega) (by omega), wrap64 (n := rd u.1 (i + j) + rd a.1 i * rd b.1 j) (by omega) (by omega), hmod, wrap8 hlt.1 (by omega), wrap64 (by omega) (by omega)]
          rfl
        · rw [rd_vset _ _ _ _ (by omega)]
          split
          · exact hlt
          · exact hr k hk'
        · rw [rd_vset _ _ _ _ (by omega)]
          by_cases e : k = i + j
          · subst e
            rw [if_pos rfl, if_pos (by omega), hk _ hk', if_neg (by omega), show i + j - i = j by omega]
          · rw [if_neg e, hk k hk']
            by_cases hc : i ≤ k ∧ k < i + j
            · rw [if_pos hc, if_pos (by omega)]
            · rw [if_neg hc, if_neg (by omega)]) (fun u hI => by
        simp only [spec_l01Times_l2]
        rw [if_neg (by simp; omega)]
        rfl) (db + 1) 0 v (by omega) ⟨hv, fun k hk => by rw [if_neg (by omega)]⟩
    exact ⟨v', h1, h2, fun k hk => by rw [h3 k hk]; simp only [show (i ≤ k ∧ k < i + (db + 1)) = (i ≤ k ∧ k ≤ i + db) from by rw [eq_iff_iff]; omega]⟩


theorem times_pad {p : Int} (hp : 2 ≤ p ∧ p ≤ 256) {a b : List Int} (ha : Row p a) (hb : Row p b) (la : a.length ≤ 64) (lb : b.length ≤ 64) (hl : a.length = 0 ∨ b.length = 0 ∨ a.length + b.length ≤ 65) :
    spec_l01Times p (pad a) (pad b) = some (pad (mul p a b), true) := by
  have hta : top (rd (pad a).1) 64 = a.length := by rw [top_congr 64 fun i hi => rd_padl a hi, ha.top la]
  have htb : top (rd (pad b).1) 64 = b.length := by rw [top_congr 64 fun i hi => rd_padl b hi, hb.top lb]
  simp only [spec_l01Times, deg_is, Option.bind_some, hta, htb]
  by_cases h1 : a.length = 0
  · have e : a = [] := List.eq_nil_of_length_eq_zero h1
    subst e
    simp [mul_nil, pad_nil]
  by_cases h2 : b.length = 0
  · have e : b = [] := List.eq_nil_of_length_eq_zero h2
    subst e
    simp [mul_nil', pad_nil]
  have hra := res_pad ha (show 0 < p by omega)
  have hrb := res_pad hb (show 0 < p by omega)
  obtain ⟨db, hdb⟩ : ∃ db : Nat, b.length = db + 1 := ⟨b.length - 1, by omega⟩
  obtain ⟨da, hda⟩ : ∃ da : Nat, a.length = da + 1 := ⟨a.length - 1, by omega⟩
  have e1 : ((a.length : Nat) : Int) - 1 = (da : Int) := by omega
  have e2 : ((b.length : Nat) : Int) - 1 = (db : Int) := by omega
  rw [e1, e2, wrap64 (by omega) (by omega)]
  simp only [show (decide ((da : Int) < 0)) = false by simp, Bool.false_eq_true, if_false, show (decide ((db : Int) < 0)) = false by simp, show (decide ((da : Int) + (db : Int) > 63)) = false by simp; omega, Option.bind_some]
  obtain ⟨v, h3, h4, h5⟩ := loopM_for (body := fun s : Int × V64 => spec_l01Times_l1 (da : Int) (db : Int) (pad a) (pad b) p s.1 s.2) (fun i v => ((i : Int), v)) (fun v => v) (da + 1)
    (fun i v => Res p v ∧ ∀ k, k < 64 → rd v.1 k = cv (rd a) (rd b) i k % p) (fun i v hi hI => by
      obtain ⟨hv, hk⟩ := hI
      obtain ⟨v', g1, g2, g3⟩ := timesS_row hp hra hrb (i := i) (db := db) (by omega) hv
      refine ⟨v', ?_, g2, fun k hk' => ?_⟩
      · simp only [spec_l01Times_l1]
        rw [if_pos (by simp; omega), g1]
        simp only [Option.bind_some]
        rw [wrap64 (by omega) (by omega)]; rfl
      · rw [g3 k hk', hk k hk', cv_succ]
        by_cases hc : i ≤ k ∧ k ≤ i + db
        · rw [if_pos hc, if_pos hc.1, rd_padl _ (by omega), rd_padl _ (by omega), Int.emod_add_emod]
        · rw [if_neg hc]
          by_cases hik : i ≤ k
          · rw [if_pos hik, rd_ge (l := b) (by omega), Int.mul_zero, Int.add_zero]
          · rw [if_neg hik, Int.add_zero]) (fun v hI => by
      simp only [spec_l01Times_l1]
      rw [if_neg (by simp; omega)]) (da + 1) 0 (vrep 64 0) (by omega) ⟨fun j hj => by rw [rd_vrep _ hj]; omega, fun k hk => by rw [rd_vrep _ hk]; simp [cv, sumTo]⟩
  have h3' : loopM (fun s : Int × V64 => spec_l01Times_l1 (da : Int) (db : Int) (pad a) (pad b) p s.1 s.2) (0, vrep 64 0) = some v := h3
  rw [h3']
  simp only [Option.bind_some]
  congr 2
  exact vec_ext fun k hk => by rw [h5 k hk, rd_padl _ hk, mul_rd, cv_conv fun i hi => rd_ge (by omega)]

theorem times_pad_no {p : Int} {a b : List Int} (ha : Row p a) (hb : Row p b) (la : a.length ≤ 64) (lb : b.length ≤ 64) (h1 : a.length ≠ 0) (h2 : b.length ≠ 0) (hl : 65 < a.length + b.length) :
    spec_l01Times p (pad a) (pad b) = some (vrep 64 0, false) := by
  have hta : top (rd (pad a).1) 64 = a.length := by rw [top_congr 64 fun i hi => rd_padl a hi, ha.top la]
  have htb : top (rd (pad b).1) 64 = b.length := by rw [top_congr 64 fun i hi => rd_padl b hi, hb.top lb]
  simp only [spec_l01Times, deg_is, Option.bind_some, hta, htb]
  rw [wrap64 (by omega) (by omega)]
  simp only [show (decide (((a.length : Nat) : Int) - 1 < 0)) = false by simp; omega, Bool.false_eq_true, if_false, show (decide (((b.length : Nat) : Int) - 1 < 0)) = false by simp; omega, show (decide (((a.length : Nat) : Int) - 1 + (((b.length : Nat) : Int) - 1) > 63)) = true by simp; omega, Option.bind_some, if_true]
end Go.Proofs.Ytpjdjfhbfcekaaa
/- The extended algorithm of Euclid. -/
namespace Go.Proofs.Ytpjdjfhbfcekaaa
open Go.Abs

/-- One step for a cofactor. -/
def cx (p : Int) (q s0 s1 : List Int) : List Int := comb p s0 (mul p q s1) (-1)
def ez (p : Int) : Nat → List Int → List Int → List Int → List Int → List Int → List Int → List Int × List Int × List Int
  | 0, a, _, s0, _, t0, _ => (a, s0, t0)
  | n + 1, a, b, s0, s1, t0, t1 => if b.length = 0 then (a, s0, t0) else ez p n b (rem p a b) s1 (cx p (quo p a b) s0 s1) t1 (cx p (quo p a b) t0 t1)
theorem cx_row {p : Int} (hp : 0 < p) (q s0 s1 : List Int) : Row p (cx p q s0 s1) := comb_row hp _ _ _
theorem cx_len {p : Int} {a b s0 s1 : List Int} {M : Nat} (h0 : b.length ≠ 0) (h1 : s1.length + a.length ≤ M) (h2 : s0.length + b.length ≤ M) (hab : s1.length + b.length ≤ M + 1) : (cx p (quo p a b) s0 s1).length + b.length ≤ M + 1 := by
  have c := comb_len p s0 (mul p (quo p a b) s1) (-1)
  have m := mul_len p (quo p a b) s1
  have q := quo_len p a b
  unfold cx
  rcases Nat.eq_zero_or_pos (quo p a b).length with h | h
  · have e : quo p a b = [] := List.eq_nil_of_length_eq_zero h
    rw [e, mul_nil] at c ⊢
    simp only [List.length_nil] at c
    omega
  · omega
/-- What the cofactors keep to: M is one more than the greater of the two lengths. -/
structure EzOk (p : Int) (M : Nat) (a b s0 s1 : List Int) : Prop where
  r0 : Row p s0
  r1 : Row p s1
  h1 : s1.length + a.length ≤ M
  h2 : s0.length + b.length ≤ M
theorem EzOk.next {p : Int} (hp : isP p = true) {M : Nat} {a b s0 s1 : List Int} (h : EzOk p M a b s0 s1) (ha : Row p a) (hb : Row p b) (h0 : b.length ≠ 0) :
    EzOk p M b (rem p a b) s1 (cx p (quo p a b) s0 s1) := by
  have hp2 := isP_pos hp
  have c := comb_len p s0 (mul p (quo p a b) s1) (-1)
  have m := mul_len p (quo p a b) s1
  have q := quo_len p a b
  have r := rem_len' p a b
  have r' := rem_len hp ha hb h0
  have h1 := h.h1
  have h2 := h.h2
  refine ⟨h.r1, cx_row (by omega) _ _ _, ?_, by omega⟩
  unfold cx
  rcases Nat.eq_zero_or_pos (quo p a b).length with h3 | h3
  · have e : quo p a b = [] := List.eq_nil_of_length_eq_zero h3
    rw [e, mul_nil] at c ⊢
    simp only [List.length_nil] at c
    omega
  · omega
theorem EzOk.prod {p : Int} {M : Nat} {a b s0 s1 : List Int} (hM : M ≤ 65) (h : EzOk p M a b s0 s1) (h0 : b.length ≠ 0) : (quo p a b).length = 0 ∨ s1.length = 0 ∨ (quo p a b).length + s1.length ≤ 65 := by
  have q := quo_len p a b
  have h1 := h.h1
  omega
theorem EzOk.plen {p : Int} {M : Nat} {a b s0 s1 : List Int} (hM : M ≤ 65) (h : EzOk p M a b s0 s1) (h0 : b.length ≠ 0) : (mul p (quo p a b) s1).length ≤ 64 := by
  have q := quo_len p a b
  have h1 := h.h1
  have m := mul_len p (quo p a b) s1
  omega
theorem ezI_loop {p : Int} (hp : isP p = true) {M : Nat} (hM : M ≤ 65) : ∀ (n : Nat) (a b s0 s1 t0 t1 : List Int), Row p a → Row p b → a.length ≤ 64 → b.length ≤ n → b.length ≤ 64 → EzOk p M a b s0 s1 → EzOk p M a b t0 t1 →
    loopM (fun s : List Int × List Int × List Int × List Int × List Int × List Int => impl_prime_bezout_l1 p s.1 s.2.1 s.2.2.1 s.2.2.2.1 s.2.2.2.2.1 s.2.2.2.2.2) (a, b, s0, t0, s1, t1) = some (ez p n a b s0 s1 t0 t1) := by
  have hp2 := isP_pos hp
  have hq : 0 < p ∧ p ≤ 256 := by omega
  intro n
  induction n with
  | zero =>
    intro a b s0 s1 t0 t1 ha hb la lb lb2 hs ht
    have step : impl_prime_bezout_l1 p a b s0 t0 s1 t1 = some (.inr (a, s0, t0)) := by
      simp only [impl_prime_bezout_l1]
      rw [if_neg (by rw [decide_eq_true_eq]; omega)]
    rw [loopM_eq]
    simp only [step, Option.bind_some, ez]
  | succ n ih =>
    intro a b s0 s1 t0 t1 ha hb la lb lb2 hs ht
    by_cases h0 : b.length = 0
    · have step : impl_prime_bezout_l1 p a b s0 t0 s1 t1 = some (.inr (a, s0, t0)) := by
        simp only [impl_prime_bezout_l1]
        rw [if_neg (by rw [decide_eq_true_eq]; omega)]
      rw [loopM_eq]
      simp only [step, Option.bind_some, ez, if_pos h0]
    · have hqr := quo_row (show 0 < p by omega) a b
      have hrr := rem_row (show 0 < p by omega) ha b
      have hql := quo_len p a b
      have hrl := rem_len hp ha hb h0
      have p1 := hs.plen hM h0
      have p2 := ht.plen hM h0
      have q1 := hs.h1
      have q2 := hs.h2
      have q3 := ht.h1
      have q4 := ht.h2
      have step : impl_prime_bezout_l1 p a b s0 t0 s1 t1 = some (.inl (b, rem p a b, s1, t1, cx p (quo p a b) s0 s1, cx p (quo p a b) t0 t1)) := by
        simp only [impl_prime_bezout_l1]
        rw [if_pos (decide_eq_true (by omega)), divideI_is hp ha hb h0 (by omega) (by omega)]
        simp only [Option.bind_some]
        rw [times_is (by omega) (hqr.ent hq) (hs.r1.ent hq) (by omega) (by omega)]
        simp only [Option.bind_some]
        rw [combine_is hq (hs.r0.ent hq) ((mul_row hq.1 _ _).ent hq) (by omega) (by omega) (by omega)]
        simp only [Option.bind_some]
        rw [times_is (by omega) (hqr.ent hq) (ht.r1.ent hq) (by omega) (by omega)]
        simp only [Option.bind_some]
        rw [combine_is hq (ht.r0.ent hq) ((mul_row hq.1 _ _).ent hq) (by omega) (by omega) (by omega)]
        rfl
      rw [loopM_eq]
      simp only [step, Option.bind_some]
      rw [ih b (rem p a b) _ _ _ _ hb hrr lb2 (by omega) (by omega) (hs.next hp ha hb h0) (ht.next hp ha hb h0)]
      simp only [ez, if_neg h0]
theorem ezS_loop {p : Int} (hp : isP p = true) {M : Nat} (hM : M ≤ 65) : ∀ (n : Nat) (a b s0 s1 t0 t1 : List Int), Row p a → Row p b → a.length ≤ 64 → b.length ≤ n → b.length ≤ 64 → s0.length ≤ 64 → s1.length ≤ 64 → t0.length ≤ 64 → t1.length ≤ 64 → EzOk p M a b s0 s1 → EzOk p M a b t0 t1 →
    loopM (fun s : V64 × V64 × V64 × V64 × V64 × V64 => spec_l01Bezout_l1 p s.1 s.2.1 s.2.2.1 s.2.2.2.1 s.2.2.2.2.1 s.2.2.2.2.2) (pad a, pad b, pad s0, pad s1, pad t0, pad t1) = some (pad (ez p n a b s0 s1 t0 t1).1, pad (ez p n a b s0 s1 t0 t1).2.1, pad (ez p n a b s0 s1 t0 t1).2.2) := by
  have hp2 := isP_pos hp
  have hq : 0 < p ∧ p ≤ 256 := by omega
  have ld : ∀ {v : List Int}, Row p v → v.length ≤ 64 → spec_l01Deg (pad v) = some ((v.length : Int) - 1) := fun hv lv => by rw [deg_is, rd_pad_fun lv, hv.top lv]
  intro n
  induction n with
  | zero =>
    intro a b s0 s1 t0 t1 ha hb la lb lb2 l0 l1 m0 m1 hs ht
    have step : spec_l01Bezout_l1 p (pad a) (pad b) (pad s0) (pad s1) (pad t0) (pad t1) = some (.inr (pad a, pad s0, pad t0)) := by
      simp only [spec_l01Bezout_l1, ld hb lb2, Option.bind_some]
      rw [if_neg (by rw [decide_eq_true_eq]; omega)]
    rw [loopM_eq]
    simp only [step, Option.bind_some, ez]
  | succ n ih =>
    intro a b s0 s1 t0 t1 ha hb la lb lb2 l0 l1 m0 m1 hs ht
    by_cases h0 : b.length = 0
    · have step : spec_l01Bezout_l1 p (pad a) (pad b) (pad s0) (pad s1) (pad t0) (pad t1) = some (.inr (pad a, pad s0, pad t0)) := by
        simp only [spec_l01Bezout_l1, ld hb lb2, Option.bind_some]
        rw [if_neg (by rw [decide_eq_true_eq]; omega)]
      rw [loopM_eq]
      simp only [step, Option.bind_some, ez, if_pos h0]
    · have hqr := quo_row (show 0 < p by omega) a b
      have hrr := rem_row (show 0 < p by omega) ha b
      have hql := quo_len p a b
      have hrl := rem_len hp ha hb h0
      have p1 := hs.plen hM h0
      have p2 := ht.plen hM h0
      have c1 := comb_len p s0 (mul p (quo p a b) s1) (-1)
      have c2 := comb_len p t0 (mul p (quo p a b) t1) (-1)
      have step : spec_l01Bezout_l1 p (pad a) (pad b) (pad s0) (pad s1) (pad t0) (pad t1) = some (.inl (pad b, pad (rem p a b), pad s1, pad (cx p (quo p a b) s0 s1), pad t1, pad (cx p (quo p a b) t0 t1))) := by
        simp only [spec_l01Bezout_l1, ld hb lb2, Option.bind_some]
        rw [if_pos (decide_eq_true (by omega)), divideS_is hp ha hb h0 la lb2]
        simp only [Option.bind_some]
        rw [times_pad (by omega) hqr hs.r1 (by omega) l1 (hs.prod hM h0)]
        simp only [Option.bind_some]
        rw [times_pad (by omega) hqr ht.r1 (by omega) m1 (ht.prod hM h0)]
        simp only [Option.bind_some]
        rw [add_pad hq hs.r0 (mul_row hq.1 _ _) l0 p1 (by omega)]
        simp only [Option.bind_some]
        rw [add_pad hq ht.r0 (mul_row hq.1 _ _) m0 p2 (by omega)]
        rfl
      rw [loopM_eq]
      simp only [step, Option.bind_some]
      rw [ih b (rem p a b) _ _ _ _ hb hrr lb2 (by omega) (by omega) l1 (by unfold cx; omega) m1 (by unfold cx; omega) (hs.next hp ha hb h0) (ht.next hp ha hb h0)]
      simp only [ez, if_neg h0]
theorem ez_row {p : Int} (hp : isP p = true) {M : Nat} (hM : M ≤ 65) : ∀ (n : Nat) (a b s0 s1 t0 t1 : List Int), Row p a → Row p b → a.length ≤ 64 → b.length ≤ 64 → b.length ≤ n → (a.length ≠ 0 ∨ b.length ≠ 0) → s0.length ≤ 64 → s1.length ≤ 64 → t0.length ≤ 64 → t1.length ≤ 64 → EzOk p M a b s0 s1 → EzOk p M a b t0 t1 →
    (Row p (ez p n a b s0 s1 t0 t1).1 ∧ (ez p n a b s0 s1 t0 t1).1.length ≤ 64 ∧ (ez p n a b s0 s1 t0 t1).1.length ≠ 0) ∧ (Row p (ez p n a b s0 s1 t0 t1).2.1 ∧ (ez p n a b s0 s1 t0 t1).2.1.length ≤ 64) ∧ (Row p (ez p n a b s0 s1 t0 t1).2.2 ∧ (ez p n a b s0 s1 t0 t1).2.2.length ≤ 64)
  | 0, a, b, s0, s1, t0, t1, ha, hb, la, lb, ln, hab, l0, l1, m0, m1, hs, ht => ⟨⟨ha, la, by simp only [ez]; omega⟩, ⟨hs.r0, l0⟩, ⟨ht.r0, m0⟩⟩
  | n + 1, a, b, s0, s1, t0, t1, ha, hb, la, lb, ln, hab, l0, l1, m0, m1, hs, ht => by
    simp only [ez]
    by_cases h0 : b.length = 0
    · simp only [if_pos h0]
      exact ⟨⟨ha, la, by omega⟩, ⟨hs.r0, l0⟩, ⟨ht.r0, m0⟩⟩
    · simp only [if_neg h0]
      have hp2 := isP_pos hp
      have hrl := rem_len hp ha hb h0
      have p1 := hs.plen hM h0
      have p2 := ht.plen hM h0
      have c1 := comb_len p s0 (mul p (quo p a b) s1) (-1)
      have c2 := comb_len p t0 (mul p (quo p a b) t1) (-1)
      exact ez_row hp hM n b (rem p a b) _ _ _ _ hb (rem_row (by omega) ha b) lb (by omega) (by omega) (.inl h0) l1 (by unfold cx; omega) m1 (by unfold cx; omega) (hs.next hp ha hb h0) (ht.next hp ha hb h0)

/-- The greatest common divisor, monic, with its cofactors. -/
def eg (p : Int) (a b : List Int) : List Int × List Int × List Int := ez p 64 a b [1] [] [] [1]
def sc (p : Int) (k : Int) (l : List Int) : List Int := comb p [] l k
def bz (p : Int) (a b : List Int) : List Int × List Int × List Int := (sc p (inv p (lead (eg p a b).1)) (eg p a b).1, sc p (inv p (lead (eg p a b).1)) (eg p a b).2.1, sc p (inv p (lead (eg p a b).1)) (eg p a b).2.2)
theorem ezok_start {p : Int} (hp : 2 ≤ p) {a b : List Int} (la : a.length ≤ 64) (lb : b.length ≤ 64) : EzOk p (max a.length b.length + 1) a b [1] [] ∧ EzOk p (max a.length b.length + 1) a b [] [1] :=
  ⟨⟨row_one hp, row_nil p, by simp only [List.length_nil]; omega, by simp only [List.length_cons, List.length_nil]; omega⟩, ⟨row_nil p, row_one hp, by simp only [List.length_cons, List.length_nil]; omega, by simp only [List.length_nil]; omega⟩⟩
theorem eg_row {p : Int} (hp : isP p = true) {a b : List Int} (ha : Row p a) (hb : Row p b) (la : a.length ≤ 64) (lb : b.length ≤ 64) (hab : a.length ≠ 0 ∨ b.length ≠ 0) :
    (Row p (eg p a b).1 ∧ (eg p a b).1.length ≤ 64 ∧ (eg p a b).1.length ≠ 0) ∧ (Row p (eg p a b).2.1 ∧ (eg p a b).2.1.length ≤ 64) ∧ (Row p (eg p a b).2.2 ∧ (eg p a b).2.2.length ≤ 64) := by
  have hp2 := isP_pos hp
  obtain ⟨e1, e2⟩ := ezok_start (p := p) (by omega) la lb
  exact ez_row hp (by omega) 64 a b [1] [] [] [1] ha hb la lb lb hab (by simp) (by simp) (by simp) (by simp) e1 e2
theorem sc_len {p k : Int} {l : List Int} : (sc p k l).length ≤ l.length := by
  have := comb_len p [] l k
  simpa [sc] using this
theorem bezoutI_is {p : Int} (hp : isP p = true) {a b : List Int} (ha : Row p a) (hb : Row p b) (la : a.length ≤ 64) (lb : b.length ≤ 64) (hab : a.length ≠ 0 ∨ b.length ≠ 0) : impl_prime_bezout p a b = some (bz p a b) := by
  have hp2 := isP_pos hp
  have hq : 0 < p ∧ p ≤ 256 := by omega
  obtain ⟨e1, e2⟩ := ezok_start (p := p) (by omega) la lb
  have h := ezI_loop hp (by omega) 64 a b [1] [] [] [1] ha hb la lb lb e1 e2
  obtain ⟨⟨g1, g2, g3⟩, ⟨g4, g5⟩, g6, g7⟩ := eg_row hp ha hb la lb hab
  have h' : loopM (fun s : List Int × List Int × List Int × List Int × List Int × List Int => impl_prime_bezout_l1 p s.1 s.2.1 s.2.2.1 s.2.2.2.1 s.2.2.2.2.1 s.2.2.2.2.2) (a, b, [1], [], [], [1]) = some ((eg p a b).1, (eg p a b).2.1, (eg p a b).2.2) := h
  have hl := lead_pos (show 0 < p by omega) g1 g3
  have hi := inv_is hp hl
  simp only [impl_prime_bezout, impl_prime_scale, h', Option.bind_some, lead_is g3 (by omega), inverse_impl hp hl]
  rw [combine_is hq ((row_nil p).ent hq) (g1.ent hq) (by simp) (by omega) (by omega)]
  simp only [Option.bind_some]
  rw [combine_is hq ((row_nil p).ent hq) (g4.ent hq) (by simp) (by omega) (by omega)]
  simp only [Option.bind_some]
  rw [combine_is hq ((row_nil p).ent hq) (g6.ent hq) (by simp) (by omega) (by omega)]
  rfl
theorem bezoutS_is {p : Int} (hp : isP p = true) {a b : List Int} (ha : Row p a) (hb : Row p b) (la : a.length ≤ 64) (lb : b.length ≤ 64) (hab : a.length ≠ 0 ∨ b.length ≠ 0) : spec_l01Bezout p (pad a) (pad b) = some (pad (bz p a b).1, pad (bz p a b).2.1, pad (bz p a b).2.2) := by
  have hp2 := isP_pos hp
  have hq : 0 < p ∧ p ≤ 256 := by omega
  obtain ⟨e1, e2⟩ := ezok_start (p := p) (by omega) la lb
  have h := ezS_loop hp (by omega) 64 a b [1] [] [] [1] ha hb la lb lb (by simp) (by simp) (by simp) (by simp) e1 e2
  obtain ⟨⟨g1, g2, g3⟩, ⟨g4, g5⟩, g6, g7⟩ := eg_row hp ha hb la lb hab
  rw [pad_nil] at h
  have h' : loopM (fun s : V64 × V64 × V64 × V64 × V64 × V64 => spec_l01Bezout_l1 p s.1 s.2.1 s.2.2.1 s.2.2.2.1 s.2.2.2.2.1 s.2.2.2.2.2) (pad a, pad b, pad [1], vrep 64 0, vrep 64 0, pad [1]) = some (pad (eg p a b).1, pad (eg p a b).2.1, pad (eg p a b).2.2) := h
  have hl := lead_pos (show 0 < p by omega) g1 g3
  have hi := inv_is hp hl
  have hd : spec_l01Deg (pad (eg p a b).1) = some (((eg p a b).1.length - 1 : Nat) : Int) := by
    rw [deg_is, rd_pad_fun g2, g1.top g2]; congr 1; omega
  simp only [spec_l01Bezout, one_is, h', Option.bind_some, hd]
  rw [ifp_pos (by omega), Int.toNat_natCast, rd_padl _ (show (eg p a b).1.length - 1 < 64 by omega), show rd (eg p a b).1 ((eg p a b).1.length - 1) = lead (eg p a b).1 from rfl, inverse_spec hp hl]
  simp only [Option.bind_some]
  rw [wrap64 (by omega) (by omega), ← pad_nil, add_pad hq (row_nil p) g1 (by simp) g2 (by omega)]
  simp only [Option.bind_some]
  rw [add_pad hq (row_nil p) g4 (by simp) g5 (by omega)]
  simp only [Option.bind_some]
  rw [add_pad hq (row_nil p) g6 (by simp) g7 (by omega)]
  rfl
/-- It is monic. -/
theorem bz_monic {p : Int} (hp : isP p = true) {a b : List Int} (ha : Row p a) (hb : Row p b) (la : a.length ≤ 64) (lb : b.length ≤ 64) (hab : a.length ≠ 0 ∨ b.length ≠ 0) : Row p (bz p a b).1 ∧ (bz p a b).1.length ≠ 0 ∧ (bz p a b).1.length ≤ 64 ∧ lead (bz p a b).1 = 1 := by
  have hp2 := isP_pos hp
  obtain ⟨⟨g1, g2, g3⟩, _, _⟩ := eg_row hp ha hb la lb hab
  have hl := lead_pos (show 0 < p by omega) g1 g3
  have hi := inv_is hp hl
  have hr : Row p (bz p a b).1 := comb_row (by omega) _ _ _
  have key : ∀ i, rd (bz p a b).1 i = inv p (lead (eg p a b).1) * rd (eg p a b).1 i % p := fun i => by
    show rd (comb p [] (eg p a b).1 _) i = _
    rw [comb_rd, rd_ge (l := []) (by simp), Int.zero_add]
  have h1 : rd (bz p a b).1 ((eg p a b).1.length - 1) = 1 := by
    rw [key, Int.mul_comm]; exact hi.2.2
  have h2 : (bz p a b).1.length ≤ (eg p a b).1.length := sc_len
  have h3 : (eg p a b).1.length - 1 < (bz p a b).1.length := by
    rcases Nat.lt_or_ge ((eg p a b).1.length - 1) (bz p a b).1.length with h | h
    · exact h
    · rw [rd_ge h] at h1; omega
  have h4 : (bz p a b).1.length = (eg p a b).1.length := by omega
  refine ⟨hr, by omega, by omega, ?_⟩
  unfold lead
  rw [h4, h1]
end Go.Proofs.Ytpjdjfhbfcekaaa
/- Greatest common divisors, and monic polynomials. -/
namespace Go.Proofs.Ytpjdjfhbfcekaaa
open Go.Abs

variable {P : Pri}
theorem irr_mon {g : PP P} (h : Irr g) : Irr (mon g) := by
  obtain ⟨u, v, e1, e2, hl, _⟩ := mon_eq h.ne
  refine ⟨by rw [hl]; exact h.1, fun a b e => ?_⟩
  have : g = v * a * b := by rw [e2, e, ppring.mul_assoc]
  have hv : v.len = 1 := by
    have hv0 : v ≠ 0 := fun h0 => h.ne (by rw [e2, h0, ppring.zero_mul])
    have := len_mul hv0 (show mon g ≠ 0 from fun h0 => h.ne (by rw [e2, h0, ppring.mul_zero]))
    rw [← e2, hl] at this
    have := h.1
    have := len_pos hv0
    omega
  rcases h.2 (v * a) b this with h1 | h1
  · left
    have ha0 : a ≠ 0 := fun h0 => by rw [h0, ppring.mul_zero] at h1; rw [len_zero.2 rfl] at h1; omega
    have hv0 : v ≠ 0 := fun h0 => by rw [len_zero.2 h0] at hv; omega
    have := len_mul hv0 ha0
    omega
  · exact .inr h1

/-! The greatest common divisor. -/
theorem ez_gcd : ∀ (n : Nat) (a b : PP P) (s0 s1 t0 t1 : List Int), b.len ≤ n → ∃ g : PP P, (ez P.p n a.1 b.1 s0 s1 t0 t1).1 = g.1 ∧ ∀ d, Dv d g ↔ Dv d a ∧ Dv d b
  | 0, a, b, s0, s1, t0, t1, h => by
    have hb : b = 0 := len_zero.1 (by omega)
    refine ⟨a, by simp only [ez], fun d => ?_⟩
    rw [hb]
    exact ⟨fun h => ⟨h, ppring.dv_zero d⟩, fun h => h.1⟩
  | n + 1, a, b, s0, s1, t0, t1, h => by
    simp only [ez]
    by_cases h0 : b.1.length = 0
    · rw [if_pos h0]
      have hb : b = 0 := len_zero.1 h0
      refine ⟨a, rfl, fun d => ?_⟩
      rw [hb]
      exact ⟨fun h => ⟨h, ppring.dv_zero d⟩, fun h => h.1⟩
    · rw [if_neg h0]
      have hb : b ≠ 0 := fun e => h0 (len_zero.2 e)
      obtain ⟨h1, h2⟩ := pdiv a hb
      obtain ⟨g, e, hg⟩ := ez_gcd n b (prem a b) s1 (cx P.p (quo P.p a.1 b.1) s0 s1) t1 (cx P.p (quo P.p a.1 b.1) t0 t1) (by omega)
      refine ⟨g, e, fun d => ?_⟩
      rw [hg]
      constructor
      · rintro ⟨d1, d2⟩
        refine ⟨?_, d1⟩
        rw [h1]
        exact ppring.dv_add (ppring.dv_mul d1 _) d2
      · rintro ⟨d1, d2⟩
        refine ⟨d2, ?_⟩
        rw [h1] at d1
        exact ppring.dv_sub d1 (ppring.dv_mul d2 _)
theorem sc_nsm (a : PP P) (k : Nat) : sc P.p k a.1 = (nsm k a).1 := by
  have h := comb_nsm 0 a k
  rw [ppring.zero_add] at h
  exact h
/-- What the program and the reference compute. -/
theorem gcd_is {a b : PP P} (la : a.len ≤ 64) (lb : b.len ≤ 64) (hab : a ≠ 0 ∨ b ≠ 0) : ∃ g : PP P, (bz P.p a.1 b.1).1 = g.1 ∧ g.len ≤ 64 ∧ Mo g ∧ ∀ d, Dv d g ↔ Dv d a ∧ Dv d b := by
  obtain ⟨g, e, hg⟩ := ez_gcd 64 a b [1] [] [] [1] lb
  have hab' : a.1.length ≠ 0 ∨ b.1.length ≠ 0 := hab.imp ne_len ne_len
  obtain ⟨⟨g1, g2, g3⟩, _, _⟩ := eg_row P.okp a.2 b.2 la lb hab'
  have e' : (eg P.p a.1 b.1).1 = g.1 := e
  rw [e'] at g1 g2 g3
  have hg0 : g ≠ 0 := fun h => g3 (len_zero.2 h)
  have hl := lead_pos P.pos g.2 g3
  have hi := inv_is P.okp hl
  obtain ⟨k, hk⟩ : ∃ k : Nat, inv P.p (lead g.1) = k := ⟨(inv P.p (lead g.1)).toNat, by omega⟩
  have e2 : (bz P.p a.1 b.1).1 = (mon g).1 := by
    show sc P.p (inv P.p (lead (eg P.p a.1 b.1).1)) (eg P.p a.1 b.1).1 = _
    rw [e', hk, sc_nsm]
    unfold mon
    rw [hk, Int.toNat_natCast]
  refine ⟨mon g, e2, by rw [mon_len hg0]; exact g2, mon_mo hg0, fun d => ?_⟩
  obtain ⟨m1, m2⟩ := mon_dv hg0
  rw [← hg]
  exact ⟨fun h => ppring.dv_trans h m2, fun h => ppring.dv_trans h m1⟩
theorem gcdI {a b : PP P} (la : a.len ≤ 64) (lb : b.len ≤ 64) (hab : a ≠ 0 ∨ b ≠ 0) : ∃ g : PP P, impl_prime_gcd P.p a.1 b.1 = some g.1 ∧ g.len ≤ 64 ∧ Mo g ∧ ∀ d, Dv d g ↔ Dv d a ∧ Dv d b := by
  obtain ⟨g, e, h1, h2, h3⟩ := gcd_is la lb hab
  refine ⟨g, ?_, h1, h2, h3⟩
  simp only [impl_prime_gcd, bezoutI_is P.okp a.2 b.2 la lb (hab.imp ne_len ne_len), Option.bind_some, e]
theorem gcdS {a b : PP P} (la : a.len ≤ 64) (lb : b.len ≤ 64) (hab : a ≠ 0 ∨ b ≠ 0) : ∃ g : PP P, spec_l01Gcd P.p (pad a.1) (pad b.1) = some (pad g.1) ∧ g.len ≤ 64 ∧ Mo g ∧ ∀ d, Dv d g ↔ Dv d a ∧ Dv d b := by
  obtain ⟨g, e, h1, h2, h3⟩ := gcd_is la lb hab
  refine ⟨g, ?_, h1, h2, h3⟩
  simp only [spec_l01Gcd, degS a la, degS b lb, Option.bind_some, bezoutS_is P.okp a.2 b.2 la lb (hab.imp ne_len ne_len), e]
  by_cases ha : a.len = 0
  · have hb : b.len ≠ 0 := by
      rcases hab with h | h
      · exact absurd (len_zero.1 ha) h
      · exact fun h0 => h (len_zero.1 h0)
    rw [if_pos (decide_eq_true (by omega)), decide_eq_false (by omega)]
    rfl
  · rw [if_neg (by rw [decide_eq_true_eq]; omega)]
    rfl
end Go.Proofs.Ytpjdjfhbfcekaaa
/- The polynomial T. -/
namespace Go.Proofs.Ytpjdjfhbfcekaaa
open Go.Abs

theorem row_T {p : Int} (hp : 2 ≤ p) : Row p [0, 1] := ⟨by simp; omega, by simp [rd]⟩
theorem T_is : spec_l01T = some (pad [0, 1]) := by
  unfold spec_l01T
  congr 1
end Go.Proofs.Ytpjdjfhbfcekaaa
/- Irreducible polynomials, in the reference. -/
namespace Go.Proofs.Ytpjdjfhbfcekaaa
open Go.Abs

variable {P : Pri}
theorem comb_sub (a b : PP P) : comb P.p a.1 b.1 (-1) = (a + -b).1 := by
  refine row_ext (comb_row P.pos _ _ _) (a + -b).2 fun i => ?_
  have h : (a + -b).c i = (a.c i + (-b).c i) % P.p := add_c _ _ _
  rw [comb_rd]
  show _ = (a + -b).c i
  rw [h, neg_c, Int.add_emod_emod, Int.neg_mul, Int.one_mul]; rfl
theorem subS {a b : PP P} (la : a.len ≤ 64) (lb : b.len ≤ 64) : spec_l01Add P.p (pad a.1) (pad b.1) (-1) = some (pad (a + -b).1) := by
  rw [add_pad P.sm a.2 b.2 la lb (by omega), comb_sub]
/-- T to the power p^k, less T. -/
def fro (P : Pri) (k : Nat) : PP P := pw ppT (P.n ^ k) + -ppT
theorem fro_dv {m d : PP P} (hm : m ≠ 0) (k : Nat) (hd : Dv d m) : Dv d (prem (pw ppT (P.n ^ k)) m + -ppT) ↔ Dv d (fro P k) := by
  have h := (pdiv (pw (ppT : PP P) (P.n ^ k)) hm).1
  have e : fro P k = pquo (pw ppT (P.n ^ k)) m * m + (prem (pw ppT (P.n ^ k)) m + -ppT) := by
    unfold fro
    conv => lhs; rw [h]
    rw [ppring.add_assoc]
  rw [e]
  exact ⟨fun h => ppring.dv_add (ppring.dv_mul hd _) h, fun h => ppring.dv_sub h (ppring.dv_mul hd _)⟩
theorem pw_fro (m : PP P) (hm : m ≠ 0) (k : Nat) : prem (pw (prem (pw ppT (P.n ^ k)) m) P.n) m = prem (pw ppT (P.n ^ (k + 1))) m := by
  rw [prem_pw _ hm, ← ppring.pw_mul, ← Nat.pow_succ]
theorem irrS_loop {m : PP P} (h2 : 2 ≤ m.len) (lm : m.len ≤ 64) : ∀ (n k : Nat), k + n = 64 → 1 ≤ k → (∀ g, Irr g → Dv g m → k + 1 ≤ g.len) →
    ∃ r, loopM (fun s : Int × V64 => spec_l01Irreducible_l1 ((m.len : Int) - 1) P.p (pad m.1) s.1 s.2) ((k : Int), pad (prem (pw ppT (P.n ^ (k - 1))) m).1) = some r ∧ ((r = .inl () ∧ Irr m) ∨ (r = .inr false ∧ ¬ Irr m)) := by
  have hm : m ≠ 0 := fun e => by rw [len_zero.2 e] at h2; omega
  have hp := P.two
  intro n
  induction n with
  | zero =>
    intro k hk hk1 hb
    have step : spec_l01Irreducible_l1 ((m.len : Int) - 1) P.p (pad m.1) (k : Int) (pad (prem (pw ppT (P.n ^ (k - 1))) m).1) = some (.inr (.inl ())) := by
      simp only [spec_l01Irreducible_l1]
      rw [if_neg (by rw [decide_eq_true_eq, wrap64 (by omega) (by omega)]; omega)]
    refine ⟨.inl (), by rw [loopM_eq]; simp only [step, Option.bind_some], .inl ⟨rfl, ?_⟩⟩
    refine Classical.byContradiction fun hn => ?_
    obtain ⟨g, hg, hd, hl⟩ := exists_half h2 hn
    have := hb g hg hd
    omega
  | succ n ih =>
    intro k hk hk1 hb
    by_cases h : 2 * k ≤ m.len - 1
    · have l1 := prem_len (pw ppT (P.n ^ (k - 1))) hm
      have l2 := prem_len (pw ppT (P.n ^ k)) hm
      have e1 : spec_l01PowMod P.p (pad (prem (pw ppT (P.n ^ (k - 1))) m).1) P.p (pad m.1) = some (pad (prem (pw ppT (P.n ^ k)) m).1) := by
        have h3 := powmodS (a := prem (pw ppT (P.n ^ (k - 1))) m) hm lm (by omega) (k := P.n) (by have := P.is; omega)
        rw [pw_fro m hm, show k - 1 + 1 = k by omega] at h3
        exact h3
      have e2 : spec_l01Add P.p (pad (prem (pw ppT (P.n ^ k)) m).1) (pad [0, 1]) (-1) = some (pad (prem (pw ppT (P.n ^ k)) m + -ppT).1) := subS (b := ppT) (by omega) (by rw [len_T]; omega)
      have l3 : (prem (pw ppT (P.n ^ k)) m + -ppT : PP P).len ≤ 64 := by
        have := len_add (prem (pw ppT (P.n ^ k)) m) (-ppT : PP P)
        have := len_neg (ppT : PP P)
        rw [len_T] at this
        omega
      obtain ⟨g, e3, lg, hmo, hg⟩ := gcdS lm l3 (.inl hm)
      have e4 := degS g lg
      have hgp := len_pos hmo.ne
      have step : spec_l01Irreducible_l1 ((m.len : Int) - 1) P.p (pad m.1) (k : Int) (pad (prem (pw ppT (P.n ^ (k - 1))) m).1) = some (if g.len = 1 then .inl (((k + 1 : Nat) : Int), pad (prem (pw ppT (P.n ^ k)) m).1) else .inr (.inr false)) := by
        simp only [spec_l01Irreducible_l1, e1, T_is, e2, e3, e4, Option.bind_some]
        rw [if_pos (decide_eq_true (by rw [wrap64 (by omega) (by omega)]; omega))]
        by_cases h1 : g.len = 1
        · rw [if_pos h1, if_neg (by simp; omega), wrap64 (by omega) (by omega)]; rfl
        · rw [if_neg h1, if_pos (by simp; omega)]
      rw [loopM_eq]
      by_cases h1 : g.len = 1
      · rw [if_pos h1] at step
        simp only [step, Option.bind_some]
        refine ih (k + 1) (by omega) (by omega) fun f hf hd => ?_
        have h4 := hb f hf hd
        rcases Nat.lt_or_ge (k + 1) f.len with h5 | h5
        · omega
        · exfalso
          have h6 : f.len - 1 = k := by omega
          have h7 := irr_dv hf
          rw [h6] at h7
          have h8 := (hg f).2 ⟨hd, (fro_dv hm k hd).2 h7⟩
          have h9 := dv_len h8 hmo.ne
          have := hf.1
          omega
      · rw [if_neg h1] at step
        simp only [step, Option.bind_some]
        refine ⟨_, rfl, .inr ⟨rfl, fun hi => ?_⟩⟩
        obtain ⟨d1, d2⟩ := (hg g).1 (ppring.dv_refl g)
        rcases hi.dv d1 with h5 | h5
        · exact h1 h5
        · have h6 := (fro_dv hm k (ppring.dv_refl m)).1 (ppring.dv_trans h5 d2)
          have h7 := irr_le hi hk1 h6
          omega
    · have step : spec_l01Irreducible_l1 ((m.len : Int) - 1) P.p (pad m.1) (k : Int) (pad (prem (pw ppT (P.n ^ (k - 1))) m).1) = some (.inr (.inl ())) := by
        simp only [spec_l01Irreducible_l1]
        rw [if_neg (by rw [decide_eq_true_eq, wrap64 (by omega) (by omega)]; omega)]
      refine ⟨.inl (), by rw [loopM_eq]; simp only [step, Option.bind_some], .inl ⟨rfl, ?_⟩⟩
      refine Classical.byContradiction fun hn => ?_
      obtain ⟨g, hg, hd, hl⟩ := exists_half h2 hn
      have := hb g hg hd
      omega
open Classical in
theorem irrS {m : PP P} (lm : m.len ≤ 64) (hm : m ≠ 0) : spec_l01Irreducible P.p (pad m.1) = some (decide (Irr m)) := by
  have e1 : spec_l01Mod P.p (pad [0, 1]) (pad m.1) = some (pad (prem ppT m).1) := modS (a := ppT) hm (by rw [len_T]; omega) lm
  have hml := len_pos hm
  simp only [spec_l01Irreducible, degS m lm, T_is, e1, Option.bind_some]
  by_cases h1 : m.len = 1
  · rw [if_pos (decide_eq_true (by omega)), decide_eq_false (fun hi : Irr m => by have := hi.1; omega)]
  · rw [if_neg (by rw [decide_eq_true_eq]; omega)]
    obtain ⟨r, h3, h4⟩ := irrS_loop (by omega) lm 63 1 (by omega) (by omega) (fun g hg _ => hg.1)
    have h3' : loopM (fun s : Int × V64 => spec_l01Irreducible_l1 ((m.len : Int) - 1) P.p (pad m.1) s.1 s.2) (1, pad (prem ppT m).1) = some r := by
      have e : pw (ppT : PP P) (P.n ^ (1 - 1)) = ppT := by
        show pw ppT (P.n ^ 0) = ppT
        rw [Nat.pow_zero]; simp only [pw]; rw [ppring.one_mul]
      rw [e] at h3
      exact h3
    simp only [h3', Option.bind_some]
    rcases h4 with ⟨rfl, h⟩ | ⟨rfl, h⟩
    · rw [decide_eq_true h]
    · rw [decide_eq_false h]
end Go.Proofs.Ytpjdjfhbfcekaaa
/- Comparing polynomials by their numbers, in the program. -/
namespace Go.Proofs.Ytpjdjfhbfcekaaa
open Go.Abs

theorem num_ge {p : Nat} (hp : 2 ≤ p) : ∀ l : List Int, Row p l → l ≠ [] → p ^ (l.length - 1) ≤ num p l
  | [], _, h => absurd rfl h
  | [c], h, _ => by
    have hc := h.res c (by simp)
    have := h.nrm (by simp)
    simp [rd] at this
    simp [num]; omega
  | c :: d :: l, h, _ => by
    have ih := num_ge hp (d :: l) (row_tail h) (by simp)
    simp only [num, List.length_cons, Nat.add_sub_cancel] at ih ⊢
    have h1 : p * p ^ l.length ≤ p * (d.toNat + p * num p l) := Nat.mul_le_mul_left _ ih
    rw [Nat.pow_succ, Nat.mul_comm (p ^ l.length)]
    omega
theorem num_lt_len {p : Nat} (hp : 2 ≤ p) {a b : List Int} (ha : Row p a) (hb : Row p b) (h : a.length < b.length) : num p a < num p b := by
  have h1 := num_lt hp a ha
  have h2 := num_ge hp b hb (fun e => by rw [e] at h; simp at h)
  have h3 : p ^ a.length ≤ p ^ (b.length - 1) := Nat.pow_le_pow_right (by omega) (by omega)
  omega
/-- Digits above decide. -/
theorem num_cons_lt {p : Nat} {c d : Int} {a b : List Int} (hc : 0 ≤ c ∧ c < p) (hd : 0 ≤ d ∧ d < p) (h : num p a < num p b) : num p (c :: a) < num p (d :: b) := by
  simp only [num]
  have : p * (num p a + 1) ≤ p * num p b := Nat.mul_le_mul_left _ h
  rw [Nat.mul_add, Nat.mul_one] at this
  omega
theorem num_drop_lt {p : Nat} : ∀ (i : Nat) (a b : List Int), (∀ d ∈ a, 0 ≤ d ∧ d < (p : Int)) → (∀ d ∈ b, 0 ≤ d ∧ d < (p : Int)) → a.length = b.length → num p (a.drop i) < num p (b.drop i) → num p a < num p b
  | 0, _, _, _, _, _, h => h
  | i + 1, [], b, _, _, hl, h => by
    have : b = [] := List.eq_nil_of_length_eq_zero (by simpa using hl.symm)
    subst this; exact h
  | i + 1, c :: a, [], _, _, hl, h => by simp at hl
  | i + 1, c :: a, d :: b, ha, hb, hl, h => num_cons_lt (ha c (by simp)) (hb d (by simp)) (num_drop_lt i a b (fun x hx => ha x (by simp [hx])) (fun x hx => hb x (by simp [hx])) (by simpa using hl) h)
theorem drop_rd (l : List Int) {i : Nat} (h : i < l.length) : l.drop i = rd l i :: l.drop (i + 1) := by
  rw [List.drop_eq_getElem_cons h, rd_lt h]

theorem cmpI_is (a b : Int) : cmp_Compare_int a b = some (if a < b then -1 else if a > b then 1 else 0) := by
  simp only [cmp_Compare_int, cmp_isNaN_int, Option.bind_some, bne_self_eq_false, Bool.false_eq_true, if_false]
  by_cases h : a < b
  · simp [h]
  · by_cases h2 : a > b
    · simp [h, h2]
    · simp [h, h2]
theorem cmp64_is (a b : Int) : cmp_Compare_int64 a b = some (if a < b then -1 else if a > b then 1 else 0) := by
  simp only [cmp_Compare_int64, cmp_isNaN_int64, Option.bind_some, bne_self_eq_false, Bool.false_eq_true, if_false]
  by_cases h : a < b
  · simp [h]
  · by_cases h2 : a > b
    · simp [h, h2]
    · simp [h, h2]
theorem compare_loop {p : Nat} {a b : List Int} (ha : ∀ d ∈ a, 0 ≤ d ∧ d < (p : Int)) (hb : ∀ d ∈ b, 0 ≤ d ∧ d < (p : Int)) (hl : a.length = b.length) (hs : a.length ≤ 1000000) : ∀ i : Nat, i ≤ a.length → a.drop i = b.drop i →
    ∃ r, loopM (fun s : Int => impl_compare_l1 a b s) ((i : Int) - 1) = some r ∧ ((r = .inl () ∧ a = b) ∨ (r = .inr (-1) ∧ num p a < num p b) ∨ (r = .inr 1 ∧ num p b < num p a)) := by
  intro i
  induction i with
  | zero =>
    intro _ h
    have step : impl_compare_l1 a b (((0 : Nat) : Int) - 1) = some (.inr (.inl ())) := by
      simp only [impl_compare_l1]
      rw [if_neg (by rw [decide_eq_true_eq]; omega)]
    exact ⟨.inl (), by rw [loopM_eq]; simp only [step, Option.bind_some], .inl ⟨rfl, h⟩⟩
  | succ i ih =>
    intro hi h
    have e1 : ((i + 1 : Nat) : Int) - 1 = (i : Int) := by omega
    have ea := drop_rd a (show i < a.length by omega)
    have eb := drop_rd b (show i < b.length by omega)
    have step : impl_compare_l1 a b (((i + 1 : Nat) : Int) - 1) = some (if rd a i < rd b i then .inr (.inr (-1)) else if rd a i > rd b i then .inr (.inr 1) else .inl ((i : Int) - 1)) := by
      simp only [impl_compare_l1, e1, Int.toNat_natCast, cmp64_is, Option.bind_some]
      rw [if_pos (decide_eq_true (by omega)), ifp_pos (by omega), ifp_pos (by omega), wrap64 (by omega) (by omega)]
      by_cases h1 : rd a i < rd b i
      · simp [h1]
      · by_cases h2 : rd a i > rd b i
        · simp [h1, h2]
        · simp [h1, h2]
    have hra := ha _ (rd_mem (show i < a.length by omega))
    have hrb := hb _ (rd_mem (show i < b.length by omega))
    rw [loopM_eq]
    by_cases h1 : rd a i < rd b i
    · rw [if_pos h1] at step
      refine ⟨.inr (-1), by simp only [step, Option.bind_some], .inr (.inl ⟨rfl, num_drop_lt i a b ha hb hl ?_⟩)⟩
      rw [ea, eb, h]
      simp only [num]; omega
    · by_cases h2 : rd a i > rd b i
      · rw [if_neg h1, if_pos h2] at step
        refine ⟨.inr 1, by simp only [step, Option.bind_some], .inr (.inr ⟨rfl, num_drop_lt i b a hb ha hl.symm ?_⟩)⟩
        rw [ea, eb, h]
        simp only [num]; omega
      · rw [if_neg h1, if_neg h2] at step
        simp only [step, Option.bind_some]
        refine ih (by omega) ?_
        rw [ea, eb, h, show rd a i = rd b i by omega]
theorem compare_is {P : Pri} (a b : PP P) (la : a.len ≤ 1000000) (lb : b.len ≤ 1000000) : ∃ c, impl_compare a.1 b.1 = some c ∧ (c < 0 ↔ num P.n a.1 < num P.n b.1) := by
  simp only [impl_compare, cmpI_is, Option.bind_some]
  have la' : a.1.length ≤ 1000000 := la
  have lb' : b.1.length ≤ 1000000 := lb
  by_cases h1 : a.1.length < b.1.length
  · have e : (if (a.1.length : Int) < (b.1.length : Int) then (-1 : Int) else if (a.1.length : Int) > (b.1.length : Int) then 1 else 0) = -1 := if_pos (by omega)
    exact ⟨-1, by rw [e]; rfl, by have := num_lt_len P.ge a.2 b.2 h1; omega⟩
  · by_cases h2 : b.1.length < a.1.length
    · have e : (if (a.1.length : Int) < (b.1.length : Int) then (-1 : Int) else if (a.1.length : Int) > (b.1.length : Int) then 1 else 0) = 1 := by rw [if_neg (by omega), if_pos (by omega)]
      exact ⟨1, by rw [e]; rfl, by have := num_lt_len P.ge b.2 a.2 h2; omega⟩
    · have hl : a.1.length = b.1.length := by omega
      obtain ⟨r, h3, h4⟩ := compare_loop (p := P.n) a.2.res b.2.res hl la' a.1.length (Nat.le_refl _) (by rw [List.drop_eq_nil_of_le (Nat.le_refl _), List.drop_eq_nil_of_le (by omega)])
      have e : (if (a.1.length : Int) < (b.1.length : Int) then (-1 : Int) else if (a.1.length : Int) > (b.1.length : Int) then 1 else 0) = 0 := by rw [if_neg (by omega), if_neg (by omega)]
      rw [e, if_neg (by simp), wrap64 (by omega) (by omega), h3]
      simp only [Option.bind_some]
      rcases h4 with ⟨rfl, h⟩ | ⟨rfl, h⟩ | ⟨rfl, h⟩
      · exact ⟨0, rfl, by rw [h]; omega⟩
      · exact ⟨-1, rfl, by omega⟩
      · exact ⟨1, rfl, by omega⟩
end Go.Proofs.Ytpjdjfhbfcekaaa
/- Factors of polynomials: what a list of them is, and that there is one. -/
namespace Go.Proofs.Ytpjdjfhbfcekaaa
open Go.Abs

variable {P : Pri}
theorem pw_len {g : PP P} (hg : g ≠ 0) (k : Nat) : pw g k ≠ 0 ∧ (pw g k).len = 1 + k * (g.len - 1) := by
  have hp := len_pos hg
  induction k with
  | zero => exact ⟨one_ne, by simp only [pw, Nat.zero_mul, Nat.add_zero]; exact len_one⟩
  | succ k ih =>
    have h0 : pw g k * g ≠ 0 := fun e => by
      rcases pp_dom _ _ e with e | e
      · exact ih.1 e
      · exact hg e
    refine ⟨h0, ?_⟩
    simp only [pw]
    rw [len_mul ih.1 hg, ih.2, Nat.succ_mul]
    omega
/-- A power of an irreducible polynomial that divides a product, and not the one factor, divides the other one. -/
theorem cop {g b : PP P} (hg : Irr g) (hb : ¬ Dv g b) : ∀ (i : Nat) (c : PP P), Dv (pw g i) (c * b) → Dv (pw g i) c
  | 0, c, _ => ⟨c, (ppring.mul_one c).symm⟩
  | i + 1, c, h => by
    have h1 : Dv (pw g i) (c * b) := by
      refine ppring.dv_trans ?_ h
      exact ⟨g, by simp only [pw]; rw [ppring.mul_comm]⟩
    obtain ⟨c1, e1⟩ := cop hg hb i c h1
    obtain ⟨q, e2⟩ := h
    have h2 : pw g i * (c1 * b) = pw g i * (q * g) := by
      rw [← ppring.mul_assoc, ppring.mul_comm (pw g i) c1, ← e1, e2]
      simp only [pw]
      rw [ppring.mul_left_comm]
    have h3 := ppring.mul_cancel pp_dom (pw_len hg.ne i).1 h2
    have h4 : Dv g (c1 * b) := ⟨q, h3⟩
    rcases hg.prime h4 with ⟨c2, e3⟩ | h5
    · refine ⟨c2, ?_⟩
      rw [e1, e3]
      simp only [pw]
      rw [ppring.mul_assoc, ppring.mul_comm g]
    · exact absurd h5 hb
theorem cop_pw {g b : PP P} (hg : Irr g) (hb : ¬ Dv g b) (k i : Nat) (c : PP P) (h : Dv (pw g i) (c * pw b k)) : Dv (pw g i) c := by
  induction k with
  | zero => simp only [pw] at h; rwa [ppring.mul_one] at h
  | succ k ih =>
    simp only [pw] at h
    rw [← ppring.mul_assoc] at h
    exact ih (cop hg hb i _ h)
theorem irr_one {g b : PP P} (hg : Irr g) (hb : Irr b) (mg : Mo g) (mb : Mo b) (h : g ≠ b) : ¬ Dv g b := fun hd => by
  rcases hb.dv hd with h1 | h1
  · have := hg.1; omega
  · have l1 := dv_len hd hb.ne
    have l2 := dv_len h1 hg.ne
    exact h (mo_eq mg mb hd (by omega))
theorem dv_pw1 (g a : PP P) : Dv (pw g 1) a ↔ Dv g a := by
  have : pw g 1 = g := by simp only [pw]; rw [ppring.one_mul]
  rw [this]
theorem dv_pw_le {g a : PP P} {i j : Nat} (h : i ≤ j) (hd : Dv (pw g j) a) : Dv (pw g i) a := by
  refine ppring.dv_trans ?_ hd
  obtain ⟨m, rfl⟩ : ∃ m, j = i + m := ⟨j - i, by omega⟩
  exact ⟨pw g m, by rw [ppring.pw_add, ppring.mul_comm]⟩

abbrev FL := List (List Int × Int)
/-- (g, k) is a factor of a with its power. -/
def FacOf (a : PP P) (x : List Int × Int) : Prop := ∃ (g : PP P) (k : Nat), x = (g.1, (k : Int)) ∧ Irr g ∧ Mo g ∧ 1 ≤ k ∧ Dv (pw g k) a ∧ ¬ Dv (pw g (k + 1)) a
def key (P : Pri) (x : List Int × Int) : Nat := num P.n x.1
/-- The list of all factors, in the order of their numbers. -/
structure IsFac (a : PP P) (L : FL) : Prop where
  ok : ∀ x ∈ L, FacOf a x
  all : ∀ g : PP P, Irr g → Mo g → Dv g a → ∃ k, (g.1, k) ∈ L
  sorted : L.Pairwise fun x y => key P x < key P y
theorem facof_eq {a : PP P} {x y : List Int × Int} (hx : FacOf a x) (hy : FacOf a y) (h : x.1 = y.1) : x = y := by
  obtain ⟨g, k, rfl, hg, mg, hk, d1, d2⟩ := hx
  obtain ⟨g', k', rfl, hg', mg', hk', d1', d2'⟩ := hy
  have e : g = g' := pp_eq h
  subst e
  have : k = k' := by
    rcases Nat.lt_trichotomy k k' with h | h | h
    · exact absurd (dv_pw_le (show k + 1 ≤ k' by omega) d1') d2
    · exact h
    · exact absurd (dv_pw_le (show k' + 1 ≤ k by omega) d1) d2'
  rw [this]
theorem sorted_eq {α : Type} (f : α → Nat) : ∀ (L M : List α), L.Pairwise (fun x y => f x < f y) → M.Pairwise (fun x y => f x < f y) → (∀ x, x ∈ L ↔ x ∈ M) → L = M
  | [], [], _, _, _ => rfl
  | [], y :: M, _, _, h => by have := (h y).2 (by simp); simp at this
  | x :: L, [], _, _, h => by have := (h x).1 (by simp); simp at this
  | x :: L, y :: M, hL, hM, h => by
    obtain ⟨h1, h2⟩ := List.pairwise_cons.1 hL
    obtain ⟨h3, h4⟩ := List.pairwise_cons.1 hM
    have e : x = y := by
      rcases List.mem_cons.1 ((h x).1 (by simp)) with e | hx
      · exact e
      · rcases List.mem_cons.1 ((h y).2 (by simp)) with e | hy
        · exact e.symm
        · have := h3 x hx
          have := h1 y hy
          omega
    subst e
    congr 1
    refine sorted_eq f L M h2 h4 fun z => ?_
    constructor
    · intro hz
      rcases List.mem_cons.1 ((h z).1 (by simp [hz])) with e | hz'
      · subst e; have := h1 _ hz; omega
      · exact hz'
    · intro hz
      rcases List.mem_cons.1 ((h z).2 (by simp [hz])) with e | hz'
      · subst e; have := h3 _ hz; omega
      · exact hz'
theorem isfac_eq {a : PP P} {L M : FL} (hL : IsFac a L) (hM : IsFac a M) : L = M := by
  refine sorted_eq (key P) L M hL.sorted hM.sorted fun x => ?_
  have key : ∀ {L M : FL}, IsFac a L → IsFac a M → ∀ x ∈ L, x ∈ M := by
    intro L M hL hM x hx
    have hx' := hL.ok x hx
    obtain ⟨g, k, e, hg, mg, hk, d1, _⟩ := hx'
    obtain ⟨k', h'⟩ := hM.all g hg mg ((dv_pw1 g a).1 (dv_pw_le hk d1))
    have := facof_eq (hL.ok x hx) (hM.ok _ h') (by rw [e])
    rw [this]; exact h'
  exact ⟨key hL hM x, key hM hL x⟩

/-! While factors are taken away. -/
structure Going (a0 a : PP P) (L : FL) : Prop where
  ne : a ≠ 0
  ok : ∀ x ∈ L, FacOf a0 x
  nodup : (L.map (·.1)).Nodup
  rest : ∀ g : PP P, Irr g → Mo g → g.1 ∉ L.map (·.1) → ∀ k, Dv (pw g k) a0 ↔ Dv (pw g k) a
  gone : ∀ g : PP P, Irr g → Mo g → g.1 ∈ L.map (·.1) → ¬ Dv g a
  len : L.length + a.len ≤ a0.len
  sub : Dv a a0
theorem Going.start {a : PP P} (h : a ≠ 0) : Going a a [] := ⟨h, by simp, by simp, fun _ _ _ _ _ => Iff.rfl, fun _ _ _ h => by simp at h, by simp, ppring.dv_refl a⟩
theorem Going.step {a0 a a' b : PP P} {L : FL} (h : Going a0 a L) (hb : Irr b) (mb : Mo b) (hd : Dv b a) {k : Nat} (e : a = a' * pw b k) (hn : ¬ Dv b a') : 1 ≤ k ∧ Going a0 a' (L ++ [(b.1, (k : Int))]) := by
  have ha' : a' ≠ 0 := fun e0 => h.ne (by rw [e, e0, ppring.zero_mul])
  have hk : 1 ≤ k := by
    rcases Nat.eq_zero_or_pos k with h0 | h0
    · subst h0
      simp only [pw] at e
      rw [ppring.mul_one] at e
      exact absurd (by rw [← e]; exact hd) hn
    · exact h0
  have hbL : b.1 ∉ L.map (·.1) := fun hm => h.gone b hb mb hm hd
  have hnk : ¬ Dv (pw b (k + 1)) a := fun hdk => by
    obtain ⟨q, e2⟩ := hdk
    have : pw b k * a' = pw b k * (q * b) := by
      rw [ppring.mul_comm, ← e, e2]; simp only [pw]; rw [ppring.mul_left_comm]
    exact hn ⟨q, ppring.mul_cancel pp_dom (pw_len hb.ne k).1 this⟩
  refine ⟨hk, ha', ?_, ?_, ?_, ?_, ?_, ?_⟩
  · intro x hx
    rcases List.mem_append.1 hx with hx | hx
    · exact h.ok x hx
    · simp only [List.mem_singleton] at hx
      subst hx
      refine ⟨b, k, rfl, hb, mb, hk, (h.rest b hb mb hbL k).2 ⟨a', e⟩, fun hdk => hnk ((h.rest b hb mb hbL (k + 1)).1 hdk)⟩
  · rw [List.map_append]
    refine List.nodup_append.2 ⟨h.nodup, by simp, ?_⟩
    intro x hx y hy hxy
    simp only [List.map_cons, List.map_nil, List.mem_singleton] at hy
    subst hy; subst hxy
    exact hbL hx
  · intro g hg mg hgL i
    rw [List.map_append, List.mem_append] at hgL
    have h1 : g.1 ∉ L.map (·.1) := fun hm => hgL (.inl hm)
    have h2 : g ≠ b := fun e0 => hgL (.inr (by simp [e0]))
    rw [h.rest g hg mg h1 i, e]
    exact ⟨fun hd => cop_pw hg (irr_one hg hb mg mb h2) k i a' hd, fun hd => ppring.dv_mul' hd _⟩
  · intro g hg mg hgL hdg
    rw [List.map_append, List.mem_append] at hgL
    rcases hgL with hm | hm
    · exact h.gone g hg mg hm (by rw [e]; exact ppring.dv_mul' hdg _)
    · simp only [List.map_cons, List.map_nil, List.mem_singleton] at hm
      have : g = b := pp_eq hm
      subst this
      exact hn hdg
  · have h1 := h.len
    have h2 := len_mul ha' (pw_len hb.ne k).1
    rw [← e, (pw_len hb.ne k).2] at h2
    have h3 := hb.1
    have h4 : 1 * 1 ≤ k * (b.len - 1) := Nat.mul_le_mul hk (by omega)
    have := len_pos ha'
    simp only [List.length_append, List.length_cons, List.length_nil]
    omega
  · exact ppring.dv_trans ⟨pw b k, by rw [e, ppring.mul_comm]⟩ h.sub
/-- Nothing is left. -/
theorem Going.done {a0 a : PP P} {L : FL} (h : Going a0 a L) (hl : a.len = 1) : ∀ g : PP P, Irr g → Mo g → Dv g a0 → ∃ k, (g.1, k) ∈ L := by
  intro g hg mg hd
  refine Classical.byContradiction fun hn => ?_
  have h1 : g.1 ∉ L.map (·.1) := fun hm => by
    obtain ⟨x, hx, e⟩ := List.mem_map.1 hm
    exact hn ⟨x.2, by rw [← e]; exact hx⟩
  have h2 := (h.rest g hg mg h1 1).1 ((dv_pw1 g a0).2 hd)
  have h3 := dv_len ((dv_pw1 g a).1 h2) h.ne
  have := hg.1
  omega
/-- An irreducible one is left. -/
theorem Going.last {a0 a : PP P} {L : FL} (h : Going a0 a L) (hi : Irr a) : mon a ≠ 0 ∧ (mon a).1 ∉ L.map (·.1) ∧ (∀ x ∈ L ++ [((mon a).1, 1)], FacOf a0 x) ∧ ((L ++ [((mon a).1, (1 : Int))]).map (·.1)).Nodup ∧ ∀ g : PP P, Irr g → Mo g → Dv g a0 → ∃ k, (g.1, k) ∈ L ++ [((mon a).1, 1)] := by
  have hm := irr_mon hi
  have mm := mon_mo hi.ne
  obtain ⟨m1, m2⟩ := mon_dv hi.ne
  obtain ⟨u, v, e1, e2, hl, _⟩ := mon_eq hi.ne
  have hv : v.len = 1 := by
    have hv0 : v ≠ 0 := fun h0 => hi.ne (by rw [e2, h0, ppring.zero_mul])
    have := len_mul hv0 hm.ne
    rw [← e2, hl] at this
    have := hi.1
    have := len_pos hv0
    omega
  have e3 : a = v * pw (mon a) 1 := by simp only [pw]; rw [ppring.one_mul]; exact e2
  have hn : ¬ Dv (mon a) v := fun hd => by
    have hv0 : v ≠ 0 := fun h0 => by rw [len_zero.2 h0] at hv; omega
    have := dv_len hd hv0
    have := hm.1
    omega
  obtain ⟨_, h2⟩ := h.step hm mm m2 e3 hn
  refine ⟨hm.ne, fun hc => h.gone _ hm mm hc m2, h2.ok, h2.nodup, h2.done hv⟩
/-- A sorted list of what was found. -/
theorem isfac_of {a : PP P} {L M : FL} (hp : M.Perm L) (ok : ∀ x ∈ L, FacOf a x) (all : ∀ g : PP P, Irr g → Mo g → Dv g a → ∃ k, (g.1, k) ∈ L) (hs : M.Pairwise fun x y => key P x < key P y) : IsFac a M :=
  ⟨fun x hx => ok x (hp.mem_iff.1 hx), fun g hg mg hd => by obtain ⟨k, hk⟩ := all g hg mg hd; exact ⟨k, hp.mem_iff.2 hk⟩, hs⟩
/-- What a list of one factor says. -/
theorem irr_fac {m : PP P} (mm : Mo m) (h2 : 2 ≤ m.len) {L : FL} (hL : IsFac m L) : Irr m ↔ ∃ x, L = [x] ∧ x.2 = 1 := by
  constructor
  · intro hi
    have h1 : IsFac m [(m.1, 1)] := by
      refine ⟨fun x hx => ?_, fun g hg mg hd => ?_, by simp⟩
      · simp only [List.mem_singleton] at hx
        refine ⟨m, 1, hx, hi, mm, Nat.le_refl _, (dv_pw1 m m).2 (ppring.dv_refl m), fun hd => ?_⟩
        have := dv_len hd hi.ne
        rw [(pw_len hi.ne (1 + 1)).2] at this
        omega
      · have : g = m := Classical.byContradiction fun hne => irr_one hg hi mg mm hne hd
        exact ⟨1, by rw [this]; simp⟩
    rw [isfac_eq hL h1]
    exact ⟨_, rfl, rfl⟩
  · rintro ⟨x, rfl, hx⟩
    refine Classical.byContradiction fun hn => ?_
    obtain ⟨a, b, e, ha, hb, _, _, _⟩ := Irr.of_not h2 hn
    obtain ⟨g, k, ex, hg, mg, hk, d1, d2⟩ := hL.ok x (by simp)
    have hk1 : k = 1 := by rw [ex] at hx; simp only at hx; omega
    subst hk1
    have only : ∀ f : PP P, Irr f → Mo f → Dv f m → f = g := fun f hf mf hd => by
      obtain ⟨k, h⟩ := hL.all f hf mf hd
      simp only [List.mem_singleton, ex] at h
      exact pp_eq (Prod.mk.inj h).1
    have part : ∀ c : PP P, 2 ≤ c.len → Dv c m → Dv g c := fun c hc hd => by
      obtain ⟨f, hf, hd2⟩ := exists_irr c.len c (Nat.le_refl _) hc
      have h3 := (mon_dv hf.ne).2
      have := only (mon f) (irr_mon hf) (mon_mo hf.ne) (ppring.dv_trans h3 (ppring.dv_trans hd2 hd))
      rw [← this]
      exact ppring.dv_trans h3 hd2
    obtain ⟨x1, e1⟩ := part a ha ⟨b, by rw [e, ppring.mul_comm]⟩
    obtain ⟨x2, e2⟩ := part b hb ⟨a, e⟩
    refine d2 ⟨x1 * x2, ?_⟩
    rw [e, e1, e2]
    simp only [pw, ppring.one_mul, ppring.mul_assoc]
    rw [ppring.mul_left_comm g x2]
end Go.Proofs.Ytpjdjfhbfcekaaa
/- Sorting factors, in the program. -/
namespace Go.Proofs.Ytpjdjfhbfcekaaa
open Go.Abs

variable {P : Pri}
/-- Rows that may be compared. -/
def Okk (P : Pri) (x : List Int × Int) : Prop := Row P.p x.1 ∧ x.1.length ≤ 1000000
theorem cmpF {x y : List Int × Int} (hx : Okk P x) (hy : Okk P y) : ∃ c, impl_prime_factors_c1 x y = some c ∧ (c < 0 ↔ key P x < key P y) := by
  obtain ⟨c, h1, h2⟩ := compare_is (P := P) ⟨x.1, hx.1⟩ ⟨y.1, hy.1⟩ hx.2 hy.2
  refine ⟨c, ?_, h2⟩
  simp only [impl_prime_factors_c1]
  have h1' : impl_compare x.1 y.1 = some c := h1
  rw [h1']; rfl

theorem rd_mid {α : Type} [Inhabited α] (A : List α) (y : α) (B : List α) : rd (A ++ y :: B) A.length = y := by simp [rd]
theorem rd_mid1 {α : Type} [Inhabited α] (A : List α) (y e : α) (B : List α) : rd (A ++ y :: e :: B) (A.length + 1) = e := by
  simp [rd]
theorem set_mid {α : Type} (A : List α) (y z : α) (B : List α) : (A ++ y :: B).set A.length z = A ++ z :: B := by simp
theorem set_mid1 {α : Type} (A : List α) (y e z : α) (B : List α) : (A ++ y :: e :: B).set (A.length + 1) z = A ++ y :: z :: B := by
  rw [List.set_append_right _ _ (by omega)]
  simp
/-- One element goes down to its place. -/
theorem down_loop {e : List Int × Int} (he : Okk P e) : ∀ (n : Nat) (A B : FL), A.length = n → n + B.length ≤ 1000 → (∀ x ∈ A, Okk P x) →
    ∃ A1 A2, A = A1 ++ A2 ∧ (∀ x ∈ A2, key P e < key P x) ∧ (∀ y A', A1 = A' ++ [y] → ¬ key P e < key P y) ∧
      loopM (fun s : Int × FL => slices_insertionSortCmpFunc_impl_factor_of_mut_impl_prime_factors_c1_l2 0 s.1 s.2) ((n : Int), A ++ e :: B) = some (A1 ++ e :: (A2 ++ B)) := by
  intro n
  induction n with
  | zero =>
    intro A B hA _ _
    have : A = [] := List.eq_nil_of_length_eq_zero hA
    subst this
    refine ⟨[], [], rfl, by simp, fun y A' h => by simp at h, ?_⟩
    have step : slices_insertionSortCmpFunc_impl_factor_of_mut_impl_prime_factors_c1_l2 0 ((0 : Nat) : Int) (e :: B) = some (.inr (e :: B)) := by
      simp [slices_insertionSortCmpFunc_impl_factor_of_mut_impl_prime_factors_c1_l2]
    rw [List.nil_append, List.nil_append, List.nil_append, loopM_eq]
    simp only [step, Option.bind_some]
  | succ n ih =>
    intro A B hA hn hok
    obtain ⟨A', y, rfl⟩ : ∃ A' y, A = A' ++ [y] := by
      refine ⟨A.dropLast, A.getLast (fun h => by rw [h] at hA; simp at hA), (List.dropLast_concat_getLast _).symm⟩
    have hA' : A'.length = n := by simpa using hA
    obtain ⟨c, h1, h2⟩ := cmpF he (hok y (by simp))
    have eL : A' ++ [y] ++ e :: B = A' ++ y :: e :: B := by simp
    have e1 : IntKind.i64.wrap (((n + 1 : Nat) : Int) - 1) = (n : Int) := by rw [wrap64 (by omega) (by omega)]; omega
    have r1 : rd (A' ++ y :: e :: B) n = y := by rw [← hA']; exact rd_mid A' y (e :: B)
    have r2 : rd (A' ++ y :: e :: B) (n + 1) = e := by rw [← hA']; exact rd_mid1 A' y e B
    have s1 : (A' ++ y :: e :: B).set (n + 1) y = A' ++ y :: y :: B := by rw [← hA']; exact set_mid1 A' y e y B
    have s2 : (A' ++ y :: y :: B).set n e = A' ++ e :: y :: B := by rw [← hA']; exact set_mid A' y e (y :: B)
    have hlen : (A' ++ y :: e :: B).length = n + B.length + 2 := by simp; omega
    have hlen2 : (A' ++ y :: y :: B).length = n + B.length + 2 := by simp; omega
    have step : slices_insertionSortCmpFunc_impl_factor_of_mut_impl_prime_factors_c1_l2 0 ((n + 1 : Nat) : Int) (A' ++ [y] ++ e :: B) = some (if c < 0 then .inl ((n : Int), A' ++ e :: y :: B) else .inr (A' ++ y :: e :: B)) := by
      rw [eL]
      simp only [slices_insertionSortCmpFunc_impl_factor_of_mut_impl_prime_factors_c1_l2, e1, Int.toNat_natCast, r1, r2, s1, s2, hlen, hlen2, h1, Option.bind_some]
      rw [if_pos (decide_eq_true (by omega)), ifp_pos (by omega), ifp_pos (by omega)]
      simp only [Option.bind_some]
      by_cases hc : c < 0
      · rw [if_pos (decide_eq_true hc), if_pos hc, ifp_pos (by omega), ifp_pos (by omega), ifp_pos (by omega), ifp_pos (by omega)]
      · rw [if_neg (by rw [decide_eq_true_eq]; exact hc), if_neg hc]
    rw [loopM_eq]
    by_cases hc : c < 0
    · rw [if_pos hc] at step
      simp only [step, Option.bind_some]
      obtain ⟨A1, A2, e2, h3, h4, h5⟩ := ih A' (y :: B) hA' (by simp only [List.length_cons]; omega) (fun x hx => hok x (by simp [hx]))
      refine ⟨A1, A2 ++ [y], by rw [e2]; simp, fun x hx => ?_, h4, ?_⟩
      · rcases List.mem_append.1 hx with hx | hx
        · exact h3 x hx
        · simp only [List.mem_singleton] at hx; subst hx; exact h2.1 hc
      · rw [h5]; simp
    · rw [if_neg hc] at step
      simp only [step, Option.bind_some]
      refine ⟨A' ++ [y], [], by simp, by simp, fun z A'' hz => ?_, by simp⟩
      have := List.append_inj_right' hz rfl
      simp only [List.cons.injEq, and_true] at this
      subst this
      exact fun h => hc (h2.2 h)

theorem key_ne {x y : List Int × Int} (hx : Okk P x) (hy : Okk P y) (h : x.1 ≠ y.1) : key P x ≠ key P y := fun e => by
  have h1 := digs_num P.ge x.1 hx.1
  have h2 := digs_num P.ge y.1 hy.1
  exact h (by rw [← h1, ← h2]; exact congrArg _ e)
theorem pair_last {α : Type} {R : α → α → Prop} {A : List α} {y x : α} (h : (A ++ [y]).Pairwise R) (hx : x ∈ A) : R x y := by
  exact (List.pairwise_append.1 h).2.2 x hx y (by simp)
theorem sort_outer : ∀ (m : Nat) (S B : FL), B.length = m → S.length + B.length ≤ 1000 → (∀ x ∈ S ++ B, Okk P x) → ((S ++ B).map (·.1)).Nodup → S.Pairwise (fun x y => key P x < key P y) →
    1 ≤ S.length → ∃ L, loopM (fun s : Int × FL => slices_insertionSortCmpFunc_impl_factor_of_mut_impl_prime_factors_c1_l1 ((S.length + B.length : Nat) : Int) 0 s.1 s.2) ((S.length : Int), S ++ B) = some L ∧ L.Perm (S ++ B) ∧ L.Pairwise (fun x y => key P x < key P y) := by
  intro m
  induction m with
  | zero =>
    intro S B hB hl hok hn hs h1
    have : B = [] := List.eq_nil_of_length_eq_zero hB
    subst this
    have step : slices_insertionSortCmpFunc_impl_factor_of_mut_impl_prime_factors_c1_l1 ((S.length + 0 : Nat) : Int) 0 (S.length : Int) S = some (.inr S) := by
      simp only [slices_insertionSortCmpFunc_impl_factor_of_mut_impl_prime_factors_c1_l1]
      rw [if_neg (by rw [decide_eq_true_eq]; omega)]
    refine ⟨S, ?_, by simp, hs⟩
    rw [List.append_nil, loopM_eq]
    simp only [List.length_nil, step, Option.bind_some]
  | succ m ih =>
    intro S B hB hl hok hn hs h1
    obtain ⟨e, B', rfl⟩ : ∃ e B', B = e :: B' := by
      cases B with
      | nil => simp at hB
      | cons e B' => exact ⟨e, B', rfl⟩
    simp only [List.length_cons] at hB hl
    have hoe : Okk P e := hok e (by simp)
    obtain ⟨A1, A2, e1, h3, h4, h5⟩ := down_loop hoe S.length S B' rfl (by omega) (fun x hx => hok x (by simp [hx]))
    have step : slices_insertionSortCmpFunc_impl_factor_of_mut_impl_prime_factors_c1_l1 ((S.length + (B'.length + 1) : Nat) : Int) 0 (S.length : Int) (S ++ e :: B') = some (.inl (((S.length + 1 : Nat) : Int), A1 ++ e :: A2 ++ B')) := by
      simp only [slices_insertionSortCmpFunc_impl_factor_of_mut_impl_prime_factors_c1_l1]
      rw [if_pos (decide_eq_true (by omega)), h5]
      simp only [Option.bind_some]
      rw [wrap64 (by omega) (by omega)]
      simp
    have hlS : (A1 ++ e :: A2).length = S.length + 1 := by rw [e1]; simp; omega
    have hperm : (A1 ++ e :: A2 ++ B').Perm (S ++ e :: B') := by
      rw [e1]
      simp only [List.append_assoc, List.cons_append]
      refine List.Perm.append_left _ ?_
      exact List.perm_middle.symm
    have hne : ∀ x ∈ S, key P e ≠ key P x := fun x hx => by
      refine key_ne hoe (hok x (by simp [hx])) fun h => ?_
      rw [List.map_append] at hn
      exact (List.nodup_append.1 hn).2.2 x.1 (List.mem_map.2 ⟨x, hx, rfl⟩) e.1 (by simp) h.symm
    have hsort : (A1 ++ e :: A2).Pairwise (fun x y => key P x < key P y) := by
      rw [e1] at hs
      obtain ⟨p1, p2, p3⟩ := List.pairwise_append.1 hs
      refine List.pairwise_append.2 ⟨p1, List.pairwise_cons.2 ⟨h3, p2⟩, fun x hx y hy => ?_⟩
      rcases List.mem_cons.1 hy with rfl | hy
      · have hne' := hne x (by rw [e1]; simp [hx])
        obtain ⟨A', z, hz⟩ : ∃ A' z, A1 = A' ++ [z] := ⟨A1.dropLast, A1.getLast (fun h => by rw [h] at hx; cases hx), (List.dropLast_concat_getLast _).symm⟩
        have h6 := h4 z A' hz
        have h7 := hne z (by rw [e1, hz]; simp)
        have h8 : key P x ≤ key P z := by
          rw [hz] at hx p1
          rcases List.mem_append.1 hx with hx | hx
          · exact Nat.le_of_lt (pair_last (R := fun x y => key P x < key P y) p1 hx)
          · simp only [List.mem_singleton] at hx; subst hx; exact Nat.le_refl _
        omega
      · exact p3 x hx y hy
    obtain ⟨L, k1, k2, k3⟩ := ih (A1 ++ e :: A2) B' (by omega) (by omega) (fun x hx => hok x (hperm.mem_iff.1 hx)) ((hperm.map _).nodup_iff.2 hn) hsort (by omega)
    refine ⟨L, ?_, k2.trans hperm, k3⟩
    rw [loopM_eq]
    simp only [List.length_cons, step, Option.bind_some]
    rw [hlS] at k1
    have e9 : S.length + 1 + B'.length = S.length + (B'.length + 1) := by omega
    rw [e9] at k1
    exact k1
theorem sortI {L : FL} (hl : L.length ≤ 12) (hok : ∀ x ∈ L, Okk P x) (hn : (L.map (·.1)).Nodup) : ∃ M, slices_SortFunc_impl_factor_impl_factor_of_mut_impl_prime_factors_c1 L = some M ∧ M.length = L.length ∧ M.Perm L ∧ M.Pairwise (fun x y => key P x < key P y) := by
  have key : ∃ M, slices_insertionSortCmpFunc_impl_factor_of_mut_impl_prime_factors_c1 L 0 (L.length : Int) = some M ∧ M.Perm L ∧ M.Pairwise (fun x y => key P x < key P y) := by
    simp only [slices_insertionSortCmpFunc_impl_factor_of_mut_impl_prime_factors_c1]
    cases L with
    | nil =>
      have step : slices_insertionSortCmpFunc_impl_factor_of_mut_impl_prime_factors_c1_l1 (([] : FL).length : Int) 0 (IntKind.i64.wrap (0 + 1)) [] = some (.inr []) := by
        simp only [slices_insertionSortCmpFunc_impl_factor_of_mut_impl_prime_factors_c1_l1]
        rw [if_neg (by rw [decide_eq_true_eq, wrap64 (by omega) (by omega)]; simp)]
      refine ⟨[], ?_, .refl _, .nil⟩
      rw [loopM_eq]
      simp only [step, Option.bind_some]
    | cons e B =>
      simp only [List.length_cons] at hl
      obtain ⟨M, h1, h2, h3⟩ := sort_outer B.length [e] B rfl (by simp; omega) (by simpa using hok) (by simpa using hn) (by simp) (by simp)
      refine ⟨M, ?_, h2, h3⟩
      rw [wrap64 (by omega) (by omega)]
      have e1 : (([e].length + B.length : Nat) : Int) = ((e :: B).length : Int) := by simp; omega
      rw [e1] at h1
      exact h1
  obtain ⟨M, h1, h2, h3⟩ := key
  have hM := h2.length_eq
  have hlen : math_bits_Len (IntKind.u64.wrap (L.length : Int)) = math_bits_Len (L.length : Int) := by
    congr 1
    simp only [IntKind.wrap, IntKind.signed, IntKind.bits]
    simp
    omega
  have hbits : ∃ r, math_bits_Len (L.length : Int) = some r := by
    obtain ⟨n, hn⟩ : ∃ n, L.length = n := ⟨_, rfl⟩
    rw [hn]
    have hn12 : n ≤ 12 := by omega
    have hw : IntKind.u8.wrap (n : Int) = n := wrap8 (by omega) (by omega)
    have h64 : ∃ r, math_bits_Len64 (n : Int) = some r := by
      unfold math_bits_Len64
      rw [if_neg (by rw [decide_eq_true_eq]; omega), if_neg (by rw [decide_eq_true_eq]; omega), if_neg (by rw [decide_eq_true_eq]; omega)]
      refine ⟨_, (ifp_pos ?_ _).trans rfl⟩
      rw [hw]
      refine ⟨by omega, Int.lt_of_lt_of_le (b := 256) (by omega) (Int.le_of_eq ?_)⟩
      kernel_rfl
    obtain ⟨r, hr⟩ := h64
    exact ⟨r, by unfold math_bits_Len; rw [hr]; rfl⟩
  obtain ⟨r, hr⟩ := hbits
  have hpdq : slices_pdqsortCmpFunc_impl_factor_of_mut_impl_prime_factors_c1 L 0 (L.length : Int) r = some M := by
    simp only [slices_pdqsortCmpFunc_impl_factor_of_mut_impl_prime_factors_c1]
    have step : slices_pdqsortCmpFunc_impl_factor_of_mut_impl_prime_factors_c1_l1 (L.length : Int) 0 L () = some (.inr M) := by
      simp only [slices_pdqsortCmpFunc_impl_factor_of_mut_impl_prime_factors_c1_l1, h1, Option.bind_some]
      rw [if_pos (decide_eq_true (by rw [wrap64 (by omega) (by omega)]; omega)), ifp_pos hM]
    rw [loopM_eq]
    simp only [step, Option.bind_some]
  refine ⟨M, ?_, hM, h2, h3⟩
  simp only [slices_SortFunc_impl_factor_impl_factor_of_mut_impl_prime_factors_c1, hlen, hr, Option.bind_some, hpdq]
  rw [ifp_pos hM]
end Go.Proofs.Ytpjdjfhbfcekaaa
/- A polynomial made monic, on both sides. -/
namespace Go.Proofs.Ytpjdjfhbfcekaaa
open Go.Abs

variable {P : Pri}
theorem degI (a : PP P) (la : a.len ≤ 1000000) : impl_row_degree a.1 = some ((a.len : Int) - 1) := by
  have : a.1.length = a.len := rfl
  simp only [impl_row_degree]
  rw [wrap64 (by omega) (by omega)]; rfl
theorem leadI {a : PP P} (ha : a ≠ 0) (la : a.len ≤ 1000000) : impl_row_lead a.1 = some (lead a.1) := lead_is (ne_len ha) la
theorem scaleI {a : PP P} (la : a.len ≤ 1000000) (k : Nat) (hk : k ≤ 1099511627776) : impl_prime_scale P.p a.1 k = some (nsm k a).1 := by
  have h := combine_is P.sm ((row_nil P.p).ent P.sm) a.ent (by simp) la (k := k) (by omega)
  simp only [impl_prime_scale, h, Option.bind_some]
  have h2 := comb_nsm 0 a k
  rw [ppring.zero_add] at h2
  exact congrArg some h2
/-- A polynomial made monic, in the program. -/
theorem monI {a : PP P} (ha : a ≠ 0) (la : a.len ≤ 1000000) : (Option.bind (impl_row_lead a.1) fun r56 => (Option.bind (impl_prime_inverse P.p r56) fun r58 => impl_prime_scale P.p a.1 r58)) = some (mon a).1 := by
  have hl := lead_pos P.pos a.2 (ne_len ha)
  have hi := inv_is P.okp hl
  have hp := P.two
  obtain ⟨k, hk⟩ : ∃ k : Nat, inv P.p (lead a.1) = k := ⟨(inv P.p (lead a.1)).toNat, by omega⟩
  simp only [leadI ha la, inverse_impl P.okp hl, Option.bind_some]
  rw [hk, scaleI la k (by omega)]
  unfold mon
  rw [hk, Int.toNat_natCast]
theorem monS {a : PP P} (ha : a ≠ 0) (la : a.len ≤ 64) : (Option.bind (spec_l01Inverse P.p (rd (pad a.1).1 (a.len - 1))) fun r => spec_l01Add P.p (vrep 64 0) (pad a.1) (IntKind.i64.wrap r)) = some (pad (mon a).1) := by
  have hl := lead_pos P.pos a.2 (ne_len ha)
  have hi := inv_is P.okp hl
  have hp := P.two
  have hap := len_pos ha
  obtain ⟨k, hk⟩ : ∃ k : Nat, inv P.p (lead a.1) = k := ⟨(inv P.p (lead a.1)).toNat, by omega⟩
  have e1 : rd (pad a.1).1 (a.len - 1) = lead a.1 := rd_padl _ (by omega)
  rw [e1, inverse_spec P.okp hl]
  simp only [Option.bind_some]
  rw [wrap64 (by omega) (by omega), hk]
  have h := addS (P := P) (a := 0) (b := a) (by rw [len_zero.2 rfl]; omega) la (k := k) (by omega)
  have e2 : pad (0 : PP P).1 = vrep 64 0 := pad_nil
  rw [e2, ppring.zero_add] at h
  rw [h]
  unfold mon
  rw [hk, Int.toNat_natCast]
end Go.Proofs.Ytpjdjfhbfcekaaa
/- The polynomial with a number. -/
namespace Go.Proofs.Ytpjdjfhbfcekaaa
open Go.Abs

theorem numbered_loop {p : Nat} (hp : 2 ≤ p) : ∀ s : Int × List Int, (∃ n : Nat, s.1 = n ∧ s.2.length + n ≤ 1000000000000) → ∃ r, loopM (fun s : Int × List Int => impl_prime_numbered_l1 p s.1 s.2) s = some r ∧ ∀ n : Nat, s.1 = n → r = s.2 ++ digs p n := by
  refine loopM_ind (fun (s : Int × List Int) => ∃ n : Nat, s.1 = n ∧ s.2.length + n ≤ 1000000000000) (fun (s : Int × List Int) (r : List Int) => ∀ n : Nat, s.1 = n → r = s.2 ++ digs p n) (fun (s : Int × List Int) => s.1.toNat) ?_
  rintro ⟨x, l⟩ ⟨n, hx, h2⟩
  simp only at hx h2
  subst hx
  by_cases hn : n = 0
  · right
    subst hn
    refine ⟨l, by simp [impl_prime_numbered_l1], fun m hm => ?_⟩
    have : m = 0 := by simpa using hm.symm
    subst this
    rw [digs_zero]; simp
  · left
    have hlt : n / p < n := Nat.div_lt_self (by omega) hp
    have e1 : Int.tdiv (n : Int) p = ((n / p : Nat) : Int) := rfl
    have e2 : Int.tmod (n : Int) p = ((n % p : Nat) : Int) := rfl
    have ed := digs_pos hp (show 0 < n by omega)
    generalize n / p = q at hlt e1 ed
    generalize n % p = d at e2 ed
    refine ⟨((q : Int), l ++ [(d : Int)]), ?_, ⟨q, rfl, by simp only [List.length_append, List.length_singleton]; omega⟩, by simp only [Int.toNat_natCast]; exact hlt, fun r hr m hm => ?_⟩
    · simp only [impl_prime_numbered_l1]
      rw [if_pos (by simp; omega), ifp_pos (by omega), ifp_pos (by simp; omega), ifp_pos (by omega), e1, e2, wrap64 (by omega) (by omega)]
    · have : m = n := by have : (n : Int) = m := hm; omega
      subst this
      rw [hr q rfl, ed]
      simp

theorem numbered_is {p n : Nat} (hp : 2 ≤ p) (hn : n ≤ 1000000000000) : impl_prime_numbered p n = some (digs p n) := by
  obtain ⟨l, h3, h4⟩ := numbered_loop hp ((n : Int), []) ⟨n, rfl, by simp; omega⟩
  have e := h4 n rfl
  simp only [List.nil_append] at e
  simp [impl_prime_numbered, h3, e]

end Go.Proofs.Ytpjdjfhbfcekaaa
/- Digits of numbers, one by one. -/
namespace Go.Proofs.Ytpjdjfhbfcekaaa
open Go.Abs

theorem digs_rd {p : Nat} (hp : 2 ≤ p) : ∀ (j n : Nat), rd (digs p n) j = ((n / p ^ j % p : Nat) : Int)
  | 0, n => by
    rcases Nat.eq_zero_or_pos n with rfl | h
    · rw [digs_zero]; simp [rd]
    · rw [digs_pos hp h]; simp [rd]
  | j + 1, n => by
    rcases Nat.eq_zero_or_pos n with rfl | h
    · rw [digs_zero]; simp [rd]
    · rw [digs_pos hp h, rd_cons, digs_rd hp j, Nat.pow_succ, Nat.mul_comm (p ^ j), Nat.div_div_eq_div_mul]
theorem digs_monic {p g i : Nat} (hp : 2 ≤ p) (hi : i < p ^ g) : rd (digs p (p ^ g + i)) g = 1 := by
  have hpos : 0 < p ^ g := Nat.pow_pos (by omega)
  rw [digs_rd hp, Nat.add_div_left _ hpos, Nat.div_eq_of_lt hi]
  have : (0 + 1) % p = 1 := Nat.mod_eq_of_lt (by omega)
  rw [this]; rfl
end Go.Proofs.Ytpjdjfhbfcekaaa
/- Factors of polynomials, in the program. -/
namespace Go.Proofs.Ytpjdjfhbfcekaaa
open Go.Abs

variable {P : Pri}
/-! As often as it can. -/
theorem strip_loop {b : PP P} (hb : 2 ≤ b.len) (lb : b.len ≤ 1000) : ∀ (n : Nat) (a : PP P) (x : Nat), a.len ≤ n → a ≠ 0 → a.len ≤ 1000 → x + a.len ≤ 100000 →
    ∃ (a' : PP P) (k : Nat), loopM (fun s : List Int × Int => impl_prime_strip_l1 P.p b.1 s.1 s.2) (a.1, (x : Int)) = some (a'.1, ((x + k : Nat) : Int)) ∧ a = a' * pw b k ∧ ¬ Dv b a'
  | 0, a, x, h, ha, _, _ => absurd (len_zero.1 (by omega)) ha
  | n + 1, a, x, h, ha, la, hx => by
    have hb0 : b ≠ 0 := fun e => by rw [len_zero.2 e] at hb; omega
    obtain ⟨h1, h2⟩ := pdiv a hb0
    by_cases hd : Dv b a
    · have hr := (prem_iff (a := a) hb0).2 hd
      have step : impl_prime_strip_l1 P.p b.1 a.1 (x : Int) = some (.inl ((pquo a b).1, ((x + 1 : Nat) : Int))) := by
        have e0 : (prem a b).1.length = 0 := len_zero.2 hr
        simp only [impl_prime_strip_l1, pdivI hb0 (show a.len ≤ 500000 by omega) (show b.len ≤ 500000 by omega), Option.bind_some]
        rw [if_neg (by rw [decide_eq_true_eq]; omega), wrap64 (by omega) (by omega)]; rfl
      rw [hr, ppring.add_zero] at h1
      have hq : pquo a b ≠ 0 := fun e => ha (by rw [h1, e, ppring.zero_mul])
      have h3 := len_mul hq hb0
      rw [← h1] at h3
      have h4 := len_pos hq
      obtain ⟨a', k, k1, k2, k3⟩ := strip_loop hb lb n (pquo a b) (x + 1) (by omega) hq (by omega) (by omega)
      refine ⟨a', k + 1, ?_, ?_, k3⟩
      · rw [loopM_eq]
        simp only [step, Option.bind_some]
        rw [k1]
        congr 3
        omega
      · simp only [pw]
        rw [← ppring.mul_assoc, ← k2, ← h1]
    · have hr : prem a b ≠ 0 := fun e => hd ((prem_iff hb0).1 e)
      have step : impl_prime_strip_l1 P.p b.1 a.1 (x : Int) = some (.inr (a.1, (x : Int))) := by
        have e0 : (prem a b).1.length ≠ 0 := ne_len hr
        simp only [impl_prime_strip_l1, pdivI hb0 (show a.len ≤ 500000 by omega) (show b.len ≤ 500000 by omega), Option.bind_some]
        rw [if_pos (decide_eq_true (by omega))]
      refine ⟨a, 0, ?_, by simp only [pw]; rw [ppring.mul_one], hd⟩
      rw [loopM_eq]
      simp only [step, Option.bind_some]
      rfl
theorem stripI {a b : PP P} (hb : 2 ≤ b.len) (lb : b.len ≤ 1000) (ha : a ≠ 0) (la : a.len ≤ 1000) : ∃ (a' : PP P) (k : Nat), impl_prime_strip P.p a.1 b.1 = some (a'.1, (k : Int)) ∧ a = a' * pw b k ∧ ¬ Dv b a' := by
  obtain ⟨a', k, h1, h2, h3⟩ := strip_loop hb lb a.len a 0 (Nat.le_refl _) ha la (by omega)
  refine ⟨a', k, ?_, h2, h3⟩
  rw [Nat.zero_add] at h1
  exact h1

/-! A factor of a degree. -/
theorem num_monic {p : Nat} (hp : 2 ≤ p) : ∀ (l : List Int) (n : Nat), Row p l → l.length = n + 1 → lead l = 1 → p ^ n ≤ num p l ∧ num p l < 2 * p ^ n
  | [], n, _, h, _ => by simp at h
  | c :: l, 0, h, hl, h1 => by
    have : l = [] := List.eq_nil_of_length_eq_zero (by simpa using hl)
    subst this
    have hc : c = 1 := by simpa [lead, rd] using h1
    subst hc
    simp [num]
  | c :: l, n + 1, h, hl, h1 => by
    have hc := h.res c (by simp)
    have hl' : l.length = n + 1 := by simpa using hl
    have h2 : lead l = 1 := by
      unfold lead at h1 ⊢
      rw [hl'] ; rw [hl] at h1
      simp only [Nat.add_sub_cancel] at h1 ⊢
      rw [rd_cons] at h1
      exact h1
    obtain ⟨k1, k2⟩ := num_monic hp l n (row_tail h) hl' h2
    simp only [num]
    have h3 : p * p ^ n ≤ p * num p l := Nat.mul_le_mul_left _ k1
    have h4 : p * (num p l + 1) ≤ p * (2 * p ^ n) := Nat.mul_le_mul_left _ k2
    rw [Nat.mul_add, Nat.mul_one] at h4
    have h5 : p * (2 * p ^ n) = 2 * (p * p ^ n) := Nat.mul_left_comm _ _ _
    rw [Nat.pow_succ, Nat.mul_comm (p ^ n)]
    omega
theorem monic_digs {p n k : Nat} (hp : 2 ≤ p) (h1 : p ^ n ≤ k) (h2 : k < 2 * p ^ n) : (digs p k).length = n + 1 ∧ lead (digs p k) = 1 := by
  obtain ⟨i, rfl⟩ : ∃ i, k = p ^ n + i := ⟨k - p ^ n, by omega⟩
  have hl := digs_monic_len hp (show i < p ^ n by omega)
  refine ⟨hl, ?_⟩
  unfold lead
  rw [hl, Nat.add_sub_cancel]
  exact digs_monic hp (by omega)
theorem irr_of_len {b g : PP P} (hg : Irr g) (hd : Dv g b) (hb : b ≠ 0) (hl : g.len = b.len) : Irr b := by
  obtain ⟨u, e⟩ := hd
  have hu : u ≠ 0 := fun h => hb (by rw [e, h, ppring.zero_mul])
  have h1 := len_mul hu hg.ne
  rw [← e] at h1
  have h2 := hg.1
  have h3 := len_pos hu
  obtain ⟨w, hw⟩ := unit_of (show u.len = 1 by omega)
  have hw0 : w ≠ 0 := fun h => one_ne (P := P) (by rw [← hw, h, ppring.zero_mul])
  refine ⟨by omega, fun x y exy => ?_⟩
  have e2 : g = w * x * y := by rw [ppring.mul_assoc, ← exy, e, ← ppring.mul_assoc, hw, ppring.one_mul]
  rcases hg.2 (w * x) y e2 with h | h
  · left
    have hx0 : x ≠ 0 := fun h0 => by rw [h0, ppring.mul_zero] at h; rw [len_zero.2 rfl] at h; omega
    have := len_mul hw0 hx0
    have := len_pos hw0
    have := len_pos hx0
    omega
  · exact .inr h
theorem wd_loop {a : PP P} (la : a.len ≤ 1000) {n N : Nat} (hN : N = P.n ^ n) (hs : N ≤ 1000000000) : ∀ (m k : Nat), k + m = 2 * N → N ≤ k → (∃ j, k ≤ j ∧ j < 2 * N ∧ Dv (ppn P j) a) →
    ∃ j, N ≤ j ∧ j < 2 * N ∧ Dv (ppn P j) a ∧ loopM (fun s : Int => impl_prime_withDegree_l1 (N : Int) P.p a.1 s) (k : Int) = some (.inr (ppn P j).1)
  | 0, k, h, _, hj => by obtain ⟨j, h1, h2, _⟩ := hj; omega
  | m + 1, k, h, hk, hj => by
    have hkl := (monic_digs P.ge (n := n) (k := k) (by omega) (by omega)).1
    have hk0 : ppn P k ≠ 0 := fun e => by have : (ppn P k).1.length = 0 := len_zero.2 e; have h2 : (ppn P k).1.length = n + 1 := hkl; omega
    have hn30 : n ≤ 1000 := by
      have : 2 ^ n ≤ P.n ^ n := Nat.pow_le_pow_left P.ge n
      have h2 : n < 2 ^ n := Nat.lt_two_pow_self
      rcases Nat.lt_or_ge n 30 with h | h
      · omega
      · exfalso
        have : 2 ^ 30 ≤ 2 ^ n := Nat.pow_le_pow_right (by omega) h
        have h4 : 1000000000 < 2 ^ 30 := by decide
        omega
    have hlk : (ppn P k).len ≤ 500000 := by have : (ppn P k).len = n + 1 := hkl; omega
    have e1 : impl_prime_numbered P.p (k : Int) = some (ppn P k).1 := numbered_is P.ge (by omega)
    have step : impl_prime_withDegree_l1 (N : Int) P.p a.1 (k : Int) = some (if (prem a (ppn P k)).1.length = 0 then .inr (.inr (ppn P k).1) else .inl ((k + 1 : Nat) : Int)) := by
      simp only [impl_prime_withDegree_l1, e1, restI hk0 (show a.len ≤ 500000 by omega) hlk, Option.bind_some]
      rw [if_pos (decide_eq_true (by rw [wrap64 (by omega) (by omega)]; omega))]
      by_cases h0 : (prem a (ppn P k)).1.length = 0
      · rw [if_pos h0, if_pos (by rw [beq_iff_eq]; omega)]
      · rw [if_neg h0, if_neg (by rw [beq_iff_eq]; omega), wrap64 (by omega) (by omega)]; rfl
    rw [loopM_eq]
    by_cases h0 : (prem a (ppn P k)).1.length = 0
    · rw [if_pos h0] at step
      simp only [step, Option.bind_some]
      exact ⟨k, hk, by omega, (prem_iff hk0).1 (len_zero.1 h0), rfl⟩
    · rw [if_neg h0] at step
      simp only [step, Option.bind_some]
      refine wd_loop la hN hs m (k + 1) (by omega) (by omega) ?_
      obtain ⟨j, h1, h2, h3⟩ := hj
      refine ⟨j, ?_, h2, h3⟩
      rcases Nat.lt_or_ge k j with h | h
      · omega
      · have : j = k := by omega
        subst this
        exact absurd (len_zero.2 ((prem_iff hk0).2 h3)) h0
theorem withDegreeI {a : PP P} {n : Nat} (hn : 1 ≤ n) (hn6 : P.n ^ n ≤ 1000000000) (h2 : 2 ≤ a.len) (la : a.len ≤ 1000) (hall : ∀ g, Irr g → Dv g a → g.len = n + 1) :
    ∃ b : PP P, impl_prime_withDegree P.p a.1 n = some b.1 ∧ Irr b ∧ Mo b ∧ b.len = n + 1 ∧ Dv b a := by
  have ha : a ≠ 0 := fun e => by rw [len_zero.2 e] at h2; omega
  have hn40 : n ≤ 1000 := by
    rcases Nat.lt_or_ge n 30 with h | h
    · omega
    · exfalso
      have : 2 ^ 30 ≤ 2 ^ n := Nat.pow_le_pow_right (by omega) h
      have h3 : 2 ^ n ≤ P.n ^ n := Nat.pow_le_pow_left P.ge n
      have h4 : 1000000000 < 2 ^ 30 := by decide
      omega
  obtain ⟨g, hg, hd⟩ := exists_irr a.len a (Nat.le_refl _) h2
  have hgl := hall g hg hd
  have hp := P.two
  simp only [impl_prime_withDegree, degI a (by omega), Option.bind_some]
  by_cases h1 : a.len = n + 1
  · refine ⟨mon a, ?_, irr_mon (irr_of_len hg hd ha (by omega)), mon_mo ha, by rw [mon_len ha]; exact h1, (mon_dv ha).2⟩
    rw [if_pos (by rw [beq_iff_eq]; omega)]
    have h := monI ha (show a.len ≤ 1000000 by omega)
    have hl := lead_pos P.pos a.2 (ne_len ha)
    simp only [leadI ha (show a.len ≤ 1000000 by omega), inverse_impl P.okp hl, Option.bind_some] at h ⊢
    rw [h]; rfl
  · obtain ⟨c, k1, k2, _⟩ := norm_is (p := P.n) (n := n) (most := 1099511627776) (by have := P.is; omega) (by omega) (by omega)
    have hc : c = P.n ^ n := by rcases k2 with ⟨_, h⟩ | ⟨h, _⟩ <;> omega
    have k1' : impl_prime_norm P.p (n : Int) 1099511627776 = some (c : Int) := k1
    rw [if_neg (by rw [beq_iff_eq]; omega), k1']
    simp only [Option.bind_some]
    have hmg := mon_mo hg.ne
    have hml : (mon g).1.length = n + 1 := by rw [← hgl]; exact mon_len hg.ne
    obtain ⟨m1, m2⟩ := num_monic P.ge (mon g).1 n (mon g).2 hml hmg
    obtain ⟨j, j1, j2, j3, j4⟩ := wd_loop la hc (by omega) c c (by omega) (Nat.le_refl _) ⟨num P.n (mon g).1, by omega, by omega, by rw [ppn_num]; exact ppring.dv_trans (mon_dv hg.ne).2 hd⟩
    have hjl := monic_digs P.ge (n := n) (k := j) (by omega) (by omega)
    have hj0 : ppn P j ≠ 0 := fun e => by have : (ppn P j).1.length = 0 := len_zero.2 e; have h2 : (ppn P j).1.length = n + 1 := hjl.1; omega
    have hjlen : (ppn P j).len = n + 1 := hjl.1
    obtain ⟨f, hf, hfd⟩ := exists_irr (ppn P j).len (ppn P j) (Nat.le_refl _) (by omega)
    have hfl := hall f hf (ppring.dv_trans hfd j3)
    refine ⟨ppn P j, ?_, irr_of_len hf hfd hj0 (by omega), hjl.2, hjlen, j3⟩
    rw [j4]; rfl
end Go.Proofs.Ytpjdjfhbfcekaaa
/- The list of factors, in the program; irreducible polynomials. -/
namespace Go.Proofs.Ytpjdjfhbfcekaaa
open Go.Abs

variable {P : Pri}
theorem subI {a b : PP P} (la : a.len ≤ 1000000) (lb : b.len ≤ 1000000) : impl_prime_combine P.p a.1 b.1 (-1) = some (a + -b).1 := by
  rw [combine_is P.sm a.ent b.ent la lb (by omega), comb_sub]
theorem fro_dvx {x m d : PP P} (hm : m ≠ 0) (k : Nat) (hx : prem x m = prem (pw ppT (P.n ^ k)) m) (hd : Dv d m) : Dv d (x + -ppT) ↔ Dv d (fro P k) := by
  rw [← fro_dv hm k hd, ← hx]
  have h := (pdiv x hm).1
  have e : x + -ppT = pquo x m * m + (prem x m + -ppT) := by
    conv => lhs; rw [h]
    rw [ppring.add_assoc]
  rw [e]
  exact ⟨fun h => ppring.dv_sub h (ppring.dv_mul hd _), fun h => ppring.dv_add (ppring.dv_mul hd _) h⟩
theorem fro_loop {a : PP P} (ha : a ≠ 0) (la : a.len ≤ 64) {n : Nat} (hn : n ≤ 1000) : ∀ (m i : Nat) (x : PP P), i + m = n → x.len ≤ 64 → prem x a = prem (pw ppT (P.n ^ i)) a →
    ∃ y : PP P, loopM (fun s : List Int × Int => impl_prime_factors_l2 (n : Int) P.p a.1 s.1 s.2) (x.1, (i : Int)) = some y.1 ∧ y.len ≤ 64 ∧ prem y a = prem (pw ppT (P.n ^ n)) a
  | 0, i, x, h, hl, hx => by
    have : i = n := by omega
    subst this
    have step : impl_prime_factors_l2 (i : Int) P.p a.1 x.1 (i : Int) = some (.inr x.1) := by
      simp only [impl_prime_factors_l2]
      rw [if_neg (by rw [decide_eq_true_eq]; omega)]
    exact ⟨x, by rw [loopM_eq]; simp only [step, Option.bind_some], hl, hx⟩
  | m + 1, i, x, h, hl, hx => by
    have e1 : impl_prime_power P.p x.1 P.p a.1 = some (prem (pw x P.n) a).1 := powI_is x ha (by omega) (by omega) (k := P.n) (by have := P.is; omega)
    have step : impl_prime_factors_l2 (n : Int) P.p a.1 x.1 (i : Int) = some (.inl ((prem (pw x P.n) a).1, ((i + 1 : Nat) : Int))) := by
      simp only [impl_prime_factors_l2, e1, Option.bind_some]
      rw [if_pos (decide_eq_true (by omega)), wrap64 (by omega) (by omega)]; rfl
    have l1 := prem_len (pw x P.n) ha
    have e2 : prem (prem (pw x P.n) a) a = prem (pw ppT (P.n ^ (i + 1))) a := by
      rw [prem_small l1, ← prem_pw x ha, hx, pw_fro a ha]
    rw [loopM_eq]
    simp only [step, Option.bind_some]
    exact fro_loop ha la hn m (i + 1) _ (by omega) (by omega) e2

theorem dv_mon {g a : PP P} (hg : g ≠ 0) : Dv (mon g) a ↔ Dv g a :=
  ⟨fun h => ppring.dv_trans (mon_dv hg).1 h, fun h => ppring.dv_trans (mon_dv hg).2 h⟩
/-- All factors of one degree. -/
theorem fac_inner {a0 : PP P} (l0 : a0.len ≤ 64) {n : Nat} (hn : 1 ≤ n) (hn6 : P.n ^ n ≤ 1000000000) : ∀ (m : Nat) (a all : PP P) (L : FL), all.len ≤ m → Going a0 a L → all ≠ 0 → all.len ≤ 64 → (∀ g, Irr g → Dv g a → n + 1 ≤ g.len) →
    (∀ g, Irr g → Mo g → (Dv g all ↔ Dv g a ∧ g.len = n + 1)) →
    ∃ (a' : PP P) (L' : FL), loopM (fun s : List Int × List Int × FL => impl_prime_factors_l3 P.p (n : Int) s.1 s.2.1 s.2.2) (a.1, all.1, L) = some (.inl (a'.1, L')) ∧ Going a0 a' L' ∧ ∀ g, Irr g → Dv g a' → n + 2 ≤ g.len := by
  intro m
  induction m with
  | zero => intro a all L h _ h0; exact absurd (len_zero.1 (by omega)) h0
  | succ m ih =>
    intro a all L hm hG h0 hlall hbig hall
    have hla := dv_len hG.sub (fun e => by have := hG.len; have := len_pos hG.ne; rw [len_zero.2 e] at *; omega)
    have hL := hG.len
    have hap := len_pos h0
    by_cases h1 : all.len = 1
    · have step : impl_prime_factors_l3 P.p (n : Int) a.1 all.1 L = some (.inr (.inl (a.1, L))) := by
        simp only [impl_prime_factors_l3, degI all (by omega), Option.bind_some]
        rw [if_neg (by rw [decide_eq_true_eq]; omega)]
      refine ⟨a, L, by rw [loopM_eq]; simp only [step, Option.bind_some], hG, fun g hg hd => ?_⟩
      have h2 := hbig g hg hd
      rcases Nat.lt_or_ge (n + 1) g.len with h3 | h3
      · omega
      · exfalso
        have h4 := (hall (mon g) (irr_mon hg) (mon_mo hg.ne)).2 ⟨(dv_mon hg.ne).2 hd, by rw [mon_len hg.ne]; omega⟩
        have h5 := dv_len h4 h0
        rw [mon_len hg.ne] at h5
        have := hg.1
        omega
    · have hall' : ∀ g, Irr g → Dv g all → g.len = n + 1 := fun g hg hd => by
        have h2 := (hall (mon g) (irr_mon hg) (mon_mo hg.ne)).1 ((dv_mon hg.ne).2 hd)
        rw [mon_len hg.ne] at h2
        exact h2.2
      obtain ⟨b, e1, hb, mb, hbl, hbd⟩ := withDegreeI hn hn6 (show 2 ≤ all.len by omega) (by omega) hall'
      have hba : Dv b a := ((hall b hb mb).1 hbd).1
      obtain ⟨a', k, e2, h2, h3⟩ := stripI (show 2 ≤ b.len by omega) (by have := dv_len hba hG.ne; omega) hG.ne (by omega)
      obtain ⟨all', j, e3, h4, h5⟩ := stripI (show 2 ≤ b.len by omega) (by have := dv_len hba hG.ne; omega) h0 (by omega)
      obtain ⟨hk, hG'⟩ := hG.step hb mb hba h2 h3
      have hall0 : all' ≠ 0 := fun e => h0 (by rw [h4, e, ppring.zero_mul])
      have hj : 1 ≤ j := by
        rcases Nat.eq_zero_or_pos j with e | e
        · subst e
          simp only [pw] at h4
          rw [ppring.mul_one] at h4
          exact absurd (by rw [← h4]; exact hbd) h5
        · exact e
      have hlen : all'.len < all.len := by
        have h6 := len_mul hall0 (pw_len hb.ne j).1
        rw [← h4, (pw_len hb.ne j).2] at h6
        have h7 : 1 * 1 ≤ j * (b.len - 1) := Nat.mul_le_mul hj (by omega)
        have := len_pos hall0
        omega
      have step : impl_prime_factors_l3 P.p (n : Int) a.1 all.1 L = some (.inl (a'.1, all'.1, L ++ [(b.1, (k : Int))])) := by
        simp only [impl_prime_factors_l3, degI all (by omega), e1, e2, e3, Option.bind_some]
        rw [if_pos (decide_eq_true (by omega)), ifp_pos (by simp; omega)]
      rw [loopM_eq]
      simp only [step, Option.bind_some]
      have key : ∀ g, Irr g → Mo g → (Dv g all' ↔ Dv g a' ∧ g.len = n + 1) := by
        intro g hg mg
        constructor
        · intro hd
          have h6 : Dv g all := by rw [h4]; exact ppring.dv_mul' hd _
          obtain ⟨h7, h8⟩ := (hall g hg mg).1 h6
          refine ⟨?_, h8⟩
          have hne : g ≠ b := fun e => h5 (by rw [← e]; exact hd)
          have h9 := cop_pw hg (irr_one hg hb mg mb hne) k 1 a' ((dv_pw1 _ _).2 (by rw [← h2]; exact h7))
          exact (dv_pw1 _ _).1 h9
        · rintro ⟨hd, h8⟩
          have h6 : Dv g a := by rw [h2]; exact ppring.dv_mul' hd _
          have h7 := (hall g hg mg).2 ⟨h6, h8⟩
          have hne : g ≠ b := fun e => h3 (by rw [← e]; exact hd)
          have h9 := cop_pw hg (irr_one hg hb mg mb hne) j 1 all' ((dv_pw1 _ _).2 (by rw [← h4]; exact h7))
          exact (dv_pw1 _ _).1 h9
      exact ih a' all' _ (by omega) hG' hall0 (by omega) (fun g hg hd => hbig g hg (by rw [h2]; exact ppring.dv_mul' hd _)) key
theorem small_exp {P : Pri} {n m : Nat} (h : n ≤ m) (hm : m ≤ 10) : P.n ^ n ≤ 1000000000 := by
  have h1 : P.n ^ n ≤ 7 ^ n := Nat.pow_le_pow_left (by have := P.is; omega) n
  have h2 : 7 ^ n ≤ 7 ^ 10 := Nat.pow_le_pow_right (by omega) (by omega)
  omega
theorem letter_eq : impl_letter = some (ppT : PP P).1 := rfl
theorem fac_outer {a0 : PP P} (l0 : a0.len ≤ 13) : ∀ (m n : Nat) (a : PP P) (L : FL), m + n = 14 → 1 ≤ n → Going a0 a L → (∀ g, Irr g → Dv g a → n + 1 ≤ g.len) →
    ∃ L' : FL, loopM (fun s : List Int × Int × FL => impl_prime_factors_l1 P.p s.1 s.2.1 s.2.2) (a.1, (n : Int), L) = some L' ∧ (∀ x ∈ L', FacOf a0 x) ∧ (L'.map (·.1)).Nodup ∧ L'.length ≤ 12 ∧ ∀ g : PP P, Irr g → Mo g → Dv g a0 → ∃ k, (g.1, k) ∈ L' := by
  intro m
  induction m with
  | zero =>
    intro n a L h hn hG hbig
    have hla := hG.len
    have hap := len_pos hG.ne
    have h1 : a.len = 1 := by
      rcases Nat.lt_or_ge a.len 2 with h | h2
      · omega
      · obtain ⟨g, hg, hd⟩ := exists_irr a.len a (Nat.le_refl _) h2
        have := hbig g hg hd
        have := dv_len hd hG.ne
        omega
    have step : impl_prime_factors_l1 P.p a.1 (n : Int) L = some (.inr L) := by
      simp only [impl_prime_factors_l1, degI a (by omega), Option.bind_some]
      rw [if_neg (by rw [decide_eq_true_eq]; omega)]
    exact ⟨L, by rw [loopM_eq]; simp only [step, Option.bind_some], hG.ok, hG.nodup, by omega, hG.done h1⟩
  | succ m ih =>
    intro n a L h hn hG hbig
    have hla := hG.len
    have hap := len_pos hG.ne
    by_cases h1 : a.len = 1
    · have step : impl_prime_factors_l1 P.p a.1 (n : Int) L = some (.inr L) := by
        simp only [impl_prime_factors_l1, degI a (by omega), Option.bind_some]
        rw [if_neg (by rw [decide_eq_true_eq]; omega)]
      exact ⟨L, by rw [loopM_eq]; simp only [step, Option.bind_some], hG.ok, hG.nodup, by omega, hG.done h1⟩
    · by_cases h2 : (a.len : Int) - 1 < 2 * n
      · have hi : Irr a := Classical.byContradiction fun hn' => by
          obtain ⟨g, hg, hd, hl⟩ := exists_half (show 2 ≤ a.len by omega) hn'
          have := hbig g hg hd
          omega
        obtain ⟨_, _, k1, k2, k3⟩ := hG.last hi
        have hmon := monI hG.ne (show a.len ≤ 1000000 by omega)
        have hl := lead_pos P.pos a.2 (ne_len hG.ne)
        simp only [leadI hG.ne (show a.len ≤ 1000000 by omega), inverse_impl P.okp hl, Option.bind_some] at hmon
        have step : impl_prime_factors_l1 P.p a.1 (n : Int) L = some (.inr (L ++ [((mon a).1, 1)])) := by
          simp only [impl_prime_factors_l1, degI a (show a.len ≤ 1000000 by omega), leadI hG.ne (show a.len ≤ 1000000 by omega), inverse_impl P.okp hl, hmon, Option.bind_some]
          rw [if_pos (decide_eq_true (by omega)), if_pos (decide_eq_true (by rw [wrap64 (by omega) (by omega)]; omega)), ifp_pos (by simp; omega)]
          rfl
        exact ⟨_, by rw [loopM_eq]; simp only [step, Option.bind_some], k1, k2, by simp; omega, k3⟩
      · obtain ⟨y, e1, ly, hy⟩ := fro_loop hG.ne (by omega) (show n ≤ 1000 by omega) n 0 ppT (by omega) (by rw [len_T]; omega) (by rw [Nat.pow_zero]; simp only [pw]; rw [ppring.one_mul])
        have e1' : loopM (fun s : List Int × Int => impl_prime_factors_l2 (n : Int) P.p a.1 s.1 s.2) ((ppT : PP P).1, 0) = some y.1 := e1
        have e2 : impl_prime_combine P.p y.1 (ppT : PP P).1 (-1) = some (y + -ppT).1 := subI (by omega) (by rw [len_T]; omega)
        have ly2 : (y + -ppT).len ≤ 64 := by
          have := len_add y (-ppT)
          have := len_neg (ppT : PP P)
          rw [len_T] at this
          omega
        obtain ⟨g, e3, lg, mg, hg⟩ := gcdI ly2 (show a.len ≤ 64 by omega) (.inr hG.ne)
        have hall : ∀ f, Irr f → Mo f → (Dv f g ↔ Dv f a ∧ f.len = n + 1) := by
          intro f hf mf
          rw [hg]
          constructor
          · rintro ⟨d1, d2⟩
            have h3 := (fro_dvx hG.ne n hy d2).1 d1
            have h4 := irr_le hf hn h3
            have := hbig f hf d2
            exact ⟨d2, by omega⟩
          · rintro ⟨d2, h3⟩
            refine ⟨(fro_dvx hG.ne n hy d2).2 ?_, d2⟩
            have h4 := irr_dv hf
            rw [show f.len - 1 = n by omega] at h4
            exact h4
        obtain ⟨a', L', k1, k2, k3⟩ := fac_inner (by omega) hn (small_exp (Nat.le_refl n) (by omega)) g.len a g L (Nat.le_refl _) hG mg.ne lg hbig hall
        have step : impl_prime_factors_l1 P.p a.1 (n : Int) L = some (.inl (a'.1, ((n + 1 : Nat) : Int), L')) := by
          simp only [impl_prime_factors_l1, degI a (show a.len ≤ 1000000 by omega), Option.bind_some]
          rw [if_pos (decide_eq_true (by omega)), if_neg (by rw [decide_eq_true_eq, wrap64 (by omega) (by omega)]; omega), letter_eq (P := P)]
          simp only [Option.bind_some, e1', e2, e3, k1]
          rw [wrap64 (by omega) (by omega)]; rfl
        rw [loopM_eq]
        simp only [step, Option.bind_some]
        exact ih (n + 1) a' L' (by omega) (by omega) k2 (fun f hf hd => by have := k3 f hf hd; omega)
/-- What the program computes. -/
theorem factorsI {a : PP P} (ha : a ≠ 0) (la : a.len ≤ 13) : ∃ L : FL, impl_prime_factors P.p a.1 = some L ∧ IsFac a L ∧ L.length ≤ 12 := by
  obtain ⟨L, h1, h2, h3, h4, h5⟩ := fac_outer la 13 1 a [] (by omega) (by omega) (Going.start ha) (fun g hg _ => hg.1)
  have hok : ∀ x ∈ L, Okk P x := fun x hx => by
    obtain ⟨g, k, rfl, hg, _, hk, d1, _⟩ := h2 x hx
    have := dv_len ((dv_pw1 g a).1 (dv_pw_le hk d1)) ha
    exact ⟨g.2, by show g.len ≤ 1000000; omega⟩
  obtain ⟨M, k1, k2, k3, k4⟩ := sortI h4 hok h3
  have h1' : loopM (fun s : List Int × Int × FL => impl_prime_factors_l1 P.p s.1 s.2.1 s.2.2) (a.1, 1, []) = some L := h1
  refine ⟨M, ?_, isfac_of k3 h2 h5 k4, by omega⟩
  simp only [impl_prime_factors, h1', Option.bind_some, k1]
  rw [ifp_pos k2]
open Classical in
theorem irrI {m : PP P} (lm : m.len ≤ 13) : impl_prime_isIrreducible P.p m.1 = some (decide (Mo m ∧ Irr m)) := by
  simp only [impl_prime_isIrreducible]
  have hlead : impl_row_lead m.1 = some (lead m.1) := by
    by_cases h0 : m = 0
    · subst h0; rfl
    · exact leadI h0 (by omega)
  rw [hlead]
  simp only [Option.bind_some, degI m (show m.len ≤ 1000000 by omega)]
  by_cases h1 : Mo m
  · have h1' : lead m.1 = 1 := h1
    rw [h1', if_neg (by simp)]
    simp only [Option.bind_some]
    by_cases h2 : m.len < 2
    · rw [if_pos (decide_eq_true (by omega)), decide_eq_false (fun h => by have := h.2.1; omega)]
    · rw [if_neg (by rw [decide_eq_true_eq]; omega)]
      obtain ⟨L, k1, k2, k3⟩ := factorsI h1.ne lm
      have h3 := irr_fac h1 (show 2 ≤ m.len by omega) k2
      rw [k1]
      simp only [Option.bind_some]
      by_cases h4 : L.length = 1
      · obtain ⟨x, rfl⟩ : ∃ x, L = [x] := List.length_eq_one_iff.1 h4
        rw [if_pos (by simp), ifp_pos (by simp)]
        congr 1
        have e : (rd [x] (0 : Int).toNat) = x := rfl
        rw [e, Bool.eq_iff_iff, decide_eq_true_eq, beq_iff_eq]
        constructor
        · intro hx; exact ⟨h1, h3.2 ⟨x, rfl, hx⟩⟩
        · rintro ⟨_, hi⟩
          obtain ⟨y, e1, e2⟩ := h3.1 hi
          simp only [List.cons.injEq, and_true] at e1
          rw [e1]; exact e2
      · rw [if_neg (by rw [beq_iff_eq]; omega), decide_eq_false (fun h => by
          obtain ⟨y, e1, _⟩ := h3.1 h.2
          rw [e1] at h4; simp at h4)]
  · have h1' : lead m.1 ≠ 1 := h1
    rw [if_pos (by rw [bne_iff_ne]; exact h1')]
    simp only [Option.bind_some, if_true]
    rw [decide_eq_false (fun h => h1 h.1)]
end Go.Proofs.Ytpjdjfhbfcekaaa
/- Powers of p, counted by the reference. -/
namespace Go.Proofs.Ytpjdjfhbfcekaaa
open Go.Abs
/-- p to a power, and one more than the greatest number if it is greater. -/
theorem count_is {p n : Nat} (hp : 2 ≤ p ∧ p ≤ 7) (hn : n ≤ 1000000) : ∃ c : Nat, spec_l01Count p n = some (c : Int) ∧ ((p ^ n ≤ 1000000000000 ∧ c = p ^ n) ∨ (1000000000000 < p ^ n ∧ c = 1000000000001)) := by
  have key : ∀ (m i : Nat), i + m = n → (i = 0 ∨ p ^ (i - 1) ≤ 1000000000000) → ∃ c : Nat, loopM (fun s : Int × Int => spec_l01Count_l1 p s.1 s.2) ((m : Int), ((p ^ i : Nat) : Int)) = some (c : Int) ∧ ((p ^ n ≤ 1000000000000 ∧ c = p ^ n) ∨ (1000000000000 < p ^ n ∧ 1000000000000 < c)) := by
    intro m
    induction m with
    | zero =>
      intro i hi hle
      have : i = n := by omega
      subst this
      have step : spec_l01Count_l1 p ((0 : Nat) : Int) ((p ^ i : Nat) : Int) = some (.inr ((p ^ i : Nat) : Int)) := by simp [spec_l01Count_l1]
      rw [loopM_eq]
      simp only [step, Option.bind_some]
      refine ⟨p ^ i, rfl, ?_⟩
      by_cases h : p ^ i ≤ 1000000000000
      · exact .inl ⟨h, rfl⟩
      · exact .inr ⟨by omega, by omega⟩
    | succ m ih =>
      intro i hi hle
      have hmono := ppow_mono hp.1 (show i ≤ n by omega)
      by_cases h : p ^ i ≤ 1000000000000
      · have hle2 := Nat.mul_le_mul h hp.2
        have e1 : ((p ^ i : Nat) : Int) * (p : Int) = ((p ^ (i + 1) : Nat) : Int) := by rw [Nat.pow_succ, Int.natCast_mul]
        have e2 : p ^ (i + 1) = p ^ i * p := Nat.pow_succ ..
        have e3 : IntKind.i64.wrap (((m + 1 : Nat) : Int) - 1) = (m : Int) := by rw [wrap64 (by omega) (by omega)]; omega
        have step : spec_l01Count_l1 p ((m + 1 : Nat) : Int) ((p ^ i : Nat) : Int) = some (.inl ((m : Int), ((p ^ (i + 1) : Nat) : Int))) := by
          simp only [spec_l01Count_l1]
          rw [if_pos (decide_eq_true (by omega)), e3, e1, wrap64 (n := ((p ^ (i + 1) : Nat) : Int)) (by omega) (by omega)]
          simp only [Option.bind_some]
          rw [if_pos (decide_eq_true (by omega))]
        rw [loopM_eq]
        simp only [step, Option.bind_some]
        exact ih (i + 1) (by omega) (.inr (by simp only [Nat.add_sub_cancel]; omega))
      · have step : spec_l01Count_l1 p ((m + 1 : Nat) : Int) ((p ^ i : Nat) : Int) = some (.inr ((p ^ i : Nat) : Int)) := by
          simp only [spec_l01Count_l1]
          rw [if_pos (decide_eq_true (by omega))]
          simp only [Option.bind_some]
          rw [if_neg (by rw [decide_eq_true_eq]; omega)]
        rw [loopM_eq]
        simp only [step, Option.bind_some]
        exact ⟨p ^ i, rfl, .inr ⟨by omega, by omega⟩⟩
  obtain ⟨c, h1, h2⟩ := key n 0 (by omega) (.inl rfl)
  simp only [Nat.pow_zero] at h1
  have h1' : loopM (fun s : Int × Int => spec_l01Count_l1 p s.1 s.2) ((n : Int), 1) = some (c : Int) := h1
  simp only [spec_l01Count, h1', Option.bind_some]
  rcases h2 with ⟨h2, h3⟩ | ⟨h2, h3⟩
  · exact ⟨c, by rw [if_neg (by omega)], .inl ⟨h2, h3⟩⟩
  · refine ⟨1000000000001, ?_, .inr ⟨h2, rfl⟩⟩
    split
    · rfl
    · congr 1; omega
end Go.Proofs.Ytpjdjfhbfcekaaa
/- The polynomial of a number, in the reference. -/
namespace Go.Proofs.Ytpjdjfhbfcekaaa
open Go.Abs
theorem of_loop {p : Nat} (hp : 2 ≤ p) (hp2 : p ≤ 256) : ∀ s : Int × Int × V64, (∃ (n : Nat) (l : List Int), s.1 = n ∧ n ≤ 1000000000000 ∧ s.2.1 = (l.length : Nat) ∧ s.2.2 = pad l ∧ l.length + (digs p n).length ≤ 64) →
    ∃ r, loopM (fun s : Int × Int × V64 => spec_l01Of_l1 p s.1 s.2.1 s.2.2) s = some r ∧ ∀ (n : Nat) (l : List Int), s.1 = n → s.2.1 = (l.length : Nat) → s.2.2 = pad l → r = pad (l ++ digs p n) := by
  refine loopM_ind (fun (s : Int × Int × V64) => ∃ (n : Nat) (l : List Int), s.1 = n ∧ n ≤ 1000000000000 ∧ s.2.1 = (l.length : Nat) ∧ s.2.2 = pad l ∧ l.length + (digs p n).length ≤ 64)
    (fun (s : Int × Int × V64) (r : V64) => ∀ (n : Nat) (l : List Int), s.1 = n → s.2.1 = (l.length : Nat) → s.2.2 = pad l → r = pad (l ++ digs p n)) (fun (s : Int × Int × V64) => s.1.toNat) ?_
  rintro ⟨x, i, v⟩ ⟨n, l, hx, hn, hi, hv, hl⟩
  simp only at hx hi hv
  subst hx hi hv
  by_cases h : n = 0
  · right
    subst h
    refine ⟨pad l, by simp [spec_l01Of_l1], fun m k hm hk hv => ?_⟩
    have : m = 0 := by have : ((0 : Nat) : Int) = m := hm; omega
    subst this
    rw [digs_zero, List.append_nil]; exact hv
  · left
    have hlt : n / p < n := Nat.div_lt_self (by omega) hp
    have e1 : Int.tdiv (n : Int) p = ((n / p : Nat) : Int) := rfl
    have e2 : Int.tmod (n : Int) p = ((n % p : Nat) : Int) := rfl
    have ed := digs_pos hp (show 0 < n by omega)
    have hm := Nat.mod_lt n (show p > 0 by omega)
    generalize n / p = q at hlt e1 ed
    generalize n % p = d at e2 ed hm
    rw [ed] at hl
    simp only [List.length_cons] at hl
    refine ⟨((q : Int), ((l ++ [(d : Int)]).length : Nat), pad (l ++ [(d : Int)])), ?_, ⟨q, l ++ [(d : Int)], rfl, by omega, rfl, rfl, by simp; omega⟩, by simp only [Int.toNat_natCast]; exact hlt, fun r hr m k hm hk hv => ?_⟩
    · simp only [spec_l01Of_l1]
      rw [if_pos (by simp; omega), ifp_pos (by omega), ifp_pos (by omega), ifp_pos (by omega), e1, e2, wrap64 (by omega) (by omega), wrap64 (by omega) (by omega), wrap8 (by omega) (by omega)]
      rw [Int.toNat_natCast, pad_set l d (by omega)]
      simp
    · have : m = n := by have : (n : Int) = m := hm; omega
      subst this
      have h1 := hr q (l ++ [(d : Int)]) rfl rfl rfl
      rw [h1, ed]
      simp only at hv hk
      have hkl : k.length = l.length := by omega
      refine vec_ext fun j hj => ?_
      rw [pad_rd _ hj, pad_rd _ hj, List.append_assoc]
      simp only [List.singleton_append]
      have hv' : ∀ j, j < 64 → l.getD j 0 = k.getD j 0 := fun j hj => by
        have := congrArg (fun v : V64 => rd v.1 j) hv
        simp only [pad_rd _ hj] at this
        exact this
      rw [getD_app, getD_app, hkl]
      split
      · exact hv' j hj
      · rfl

theorem of_is {p n : Nat} (hp : 2 ≤ p) (hp2 : p ≤ 256) (hn : n ≤ 1000000000000) : spec_l01Of p n = some (pad (digs p n)) := by
  have hl := digs_len40 hp hn
  obtain ⟨r, h1, h2⟩ := of_loop hp hp2 ((n : Int), 0, pad []) ⟨n, [], rfl, hn, rfl, rfl, by simp; omega⟩
  have e := h2 n [] rfl rfl rfl
  simp only [spec_l01Of, ← pad_nil, h1, e, Option.bind_some, List.nil_append]
end Go.Proofs.Ytpjdjfhbfcekaaa
/- Monic polynomials, in the program. -/
namespace Go.Proofs.Ytpjdjfhbfcekaaa
open Go.Abs

/-- The monic polynomials of degree d. -/
def monicL (p d : Nat) (n : Nat) : List (List Int) := (List.range n).map fun i => digs p (p ^ d + i)
theorem monics_is {p d : Nat} (hp : 2 ≤ p ∧ p ≤ 7) (hd : d ≤ 1000000) (hm : p ^ d ≤ 343) : impl_prime_monics p d = some (monicL p d (p ^ d)) := by
  obtain ⟨c, h1, h2, _⟩ := norm_is (n := d) (most := 343) hp hd (by omega)
  have hc : c = p ^ d := by omega
  subst hc
  have h1' : impl_prime_norm p d 343 = some ((p ^ d : Nat) : Int) := h1
  simp only [impl_prime_monics, h1', Option.bind_some]
  generalize hn : p ^ d = n at *
  obtain ⟨s, g1, g2⟩ := loopM_for (body := fun s : Int × List (List Int) => impl_prime_monics_l1 (n : Int) p s.1 s.2) (fun i s => ((i : Int), s)) (fun s => s) n
    (fun i s => s = (List.range i).map fun i => digs p (n + i)) (fun i s hi hI => by
      subst hI
      refine ⟨_, ?_, rfl⟩
      simp only [impl_prime_monics_l1]
      have e : IntKind.i64.wrap ((n : Int) + (i : Int)) = ((n + i : Nat) : Int) := by rw [wrap64 (by omega) (by omega)]; omega
      rw [if_pos (decide_eq_true (by omega)), e, numbered_is hp.1 (by omega)]
      simp only [Option.bind_some]
      rw [ifp_pos (by simp; omega), wrap64 (by omega) (by omega), List.range_succ, List.map_append]
      rfl) (fun s hI => by
      simp only [impl_prime_monics_l1]
      rw [if_neg (by rw [decide_eq_true_eq]; omega)]) n 0 [] (by omega) rfl
  have g1' : loopM (fun s : Int × List (List Int) => impl_prime_monics_l1 (n : Int) p s.1 s.2) (0, []) = some s := g1
  rw [g1', g2, monicL, hn]
  rfl
end Go.Proofs.Ytpjdjfhbfcekaaa
/- A row as an array. -/
namespace Go.Proofs.Ytpjdjfhbfcekaaa
open Go.Abs

theorem poly_loop {l : List Int} (hb : Bytes l) (hl : l.length ≤ 64) : ∀ s : Int × V64, (∃ i : Nat, s.1 = i ∧ i ≤ l.length ∧ s.2 = pad (l.take i)) → ∃ r, loopM (fun s : Int × V64 => impl_row_poly_l1 l s.1 s.2) s = some r ∧ r = pad l := by
  refine loopM_ind (fun (s : Int × V64) => ∃ i : Nat, s.1 = i ∧ i ≤ l.length ∧ s.2 = pad (l.take i)) (fun (s : Int × V64) r => r = pad l) (fun (s : Int × V64) => 64 - s.1.toNat) ?_
  rintro ⟨x, v⟩ ⟨i, hx, hi, hv⟩
  simp only at hx hv
  subst hx hv
  by_cases h : i = l.length
  · right
    subst h
    exact ⟨pad l, by simp [impl_row_poly_l1], rfl⟩
  · left
    have hil : i < l.length := by omega
    have er : rd l i = l[i] := by simp [rd, hil]
    have hbi := hb l[i] (List.getElem_mem _)
    refine ⟨(((i + 1 : Nat) : Int), pad (l.take (i + 1))), ?_, ⟨i + 1, rfl, by omega, rfl⟩, by simp; omega, fun r hr => hr⟩
    simp only [impl_row_poly_l1]
    rw [if_pos (by simp; omega), ifp_pos (by omega), ifp_pos (by omega)]
    simp only [Int.toNat_natCast, er]
    rw [wrap64 (by omega) (by omega), wrap8 hbi.1 hbi.2]
    have := pad_set (l.take i) l[i] (by simp; omega)
    rw [List.length_take, Nat.min_eq_left (by omega)] at this
    rw [this, List.take_succ_eq_append_getElem hil]
    simp

theorem poly_is {l : List Int} (hb : Bytes l) (hl : l.length ≤ 64) : impl_row_poly l = some (pad l) := by
  obtain ⟨r, h1, h2⟩ := poly_loop hb hl (0, pad []) ⟨0, rfl, by omega, by simp⟩
  simp only [impl_row_poly, ← pad_nil, h1, h2, Option.bind_some]
end Go.Proofs.Ytpjdjfhbfcekaaa
/- Rows as arrays, a list of them. -/
namespace Go.Proofs.Ytpjdjfhbfcekaaa
open Go.Abs
theorem polys_is {M : List (List Int)} (hM : M.length ≤ 1000000) (hb : ∀ l ∈ M, Bytes l ∧ l.length ≤ 64) : impl_polys M = some (M.map pad) := by
  obtain ⟨s, g1, g2⟩ := loopM_for (body := fun s : Int × List V64 => impl_polys_l1 M s.1 s.2) (fun i s => ((i : Int), s)) (fun s => s) M.length
    (fun i s => s = (M.take i).map pad) (fun i s hi hI => by
      subst hI
      have er : rd M i = M[i] := by simp [rd, hi]
      obtain ⟨h1, h2⟩ := hb M[i] (List.getElem_mem _)
      refine ⟨_, ?_, rfl⟩
      simp only [impl_polys_l1]
      rw [if_pos (decide_eq_true (by omega)), ifp_pos (by omega), Int.toNat_natCast, er, poly_is h1 h2]
      simp only [Option.bind_some]
      rw [ifp_pos (by simp; omega), wrap64 (by omega) (by omega), List.take_succ_eq_append_getElem hi, List.map_append]
      rfl) (fun s hI => by
      simp only [impl_polys_l1]
      rw [if_neg (by rw [decide_eq_true_eq]; omega)]) M.length 0 [] (by omega) rfl
  have g1' : loopM (fun s : Int × List V64 => impl_polys_l1 M s.1 s.2) (0, []) = some s := g1
  simp only [impl_polys, g1', g2, Option.bind_some, List.take_length]
theorem polys_fresh : impl_polys_fresh = impl_polys := rfl
end Go.Proofs.Ytpjdjfhbfcekaaa
/- Comparing polynomials. -/
namespace Go.Proofs.Ytpjdjfhbfcekaaa
open Go.Abs

theorem eqPoly_loop (a b : V64) : ∀ s : Int, (∃ i : Nat, s = i ∧ i ≤ 64) → ∃ r, loopM (fun s : Int => laws_eqPoly_l1 a b s) s = some r ∧ ∀ i : Nat, s = i → (r = .inl () ∧ ∀ j, i ≤ j → j < 64 → rd a.1 j = rd b.1 j) ∨ (r = .inr false ∧ ∃ j, j < 64 ∧ rd a.1 j ≠ rd b.1 j) := by
  refine loopM_ind (fun (s : Int) => ∃ i : Nat, s = i ∧ i ≤ 64) (fun (s : Int) (r : Unit ⊕ Bool) => ∀ i : Nat, s = i → (r = .inl () ∧ ∀ j, i ≤ j → j < 64 → rd a.1 j = rd b.1 j) ∨ (r = .inr false ∧ ∃ j, j < 64 ∧ rd a.1 j ≠ rd b.1 j)) (fun s => 64 - s.toNat) ?_
  rintro s ⟨i, rfl, hi⟩
  by_cases h : i = 64
  · subst h
    right
    refine ⟨.inl (), by simp [laws_eqPoly_l1], fun k hk => .inl ⟨rfl, fun j h1 h2 => by omega⟩⟩
  · by_cases e : rd a.1 i = rd b.1 i
    · left
      refine ⟨((i + 1 : Nat) : Int), ?_, ⟨i + 1, rfl, by omega⟩, by simp; omega, fun r hr k hk => ?_⟩
      · simp only [laws_eqPoly_l1]
        rw [if_pos (by simp; omega), ifp_pos (by omega), ifp_pos (by omega)]
        simp only [Int.toNat_natCast, e, bne_self_eq_false, Bool.false_eq_true, if_false]
        rw [wrap64 (by omega) (by omega)]; rfl
      · have hki : k = i := by omega
        subst hki
        rcases hr (k + 1) rfl with ⟨h1, h2⟩ | h1
        · refine .inl ⟨h1, fun j h3 h4 => ?_⟩
          by_cases hj : j = k
          · subst hj; exact e
          · exact h2 j (by omega) h4
        · exact .inr h1
    · right
      refine ⟨.inr false, ?_, fun k hk => .inr ⟨rfl, i, by omega, e⟩⟩
      simp only [laws_eqPoly_l1]
      rw [if_pos (by simp; omega), ifp_pos (by omega), ifp_pos (by omega)]
      simp [e]

theorem eqPoly_is (a b : V64) : laws_eqPoly a b = some (decide (a = b)) := by
  obtain ⟨r, h1, h2⟩ := eqPoly_loop a b 0 ⟨0, rfl, by omega⟩
  unfold laws_eqPoly
  rcases h2 0 rfl with ⟨rfl, h⟩ | ⟨rfl, j, h3, h4⟩
  · have : a = b := vec_ext fun j hj => h j (by omega) hj
    rw [h1]; simp [this]
  · have : a ≠ b := fun e => h4 (by rw [e])
    rw [h1]; simp [this]
end Go.Proofs.Ytpjdjfhbfcekaaa
