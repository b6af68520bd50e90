/- Own texts, put together. -/
import Derived.Test.YtdhcpekngpndnaaAbsX
import Derived.Test.YtdhcpekngpndnaaFn1
import Derived.Test.YtdhcpekngpndnaaFn2
import Derived.Test.YtdhcpekngpndnaaFn3
import Derived.Test.YtdhcpekngpndnaaFn4
import Derived.Test.YtdhcpekngpndnaaFn5
import Derived.Test.YtdhcpekngpndnaaFn6
import Derived.Test.YtdhcpekngpndnaaFn7
set_option linter.unusedSimpArgs false
set_option linter.unusedVariables false
/- Plain facts on loops and wraps. -/
namespace Go.Abs

/-- A loop with a measure ends, and what it leaves. -/
theorem loopM_ind {α β : Type} {body : α → Option (α ⊕ β)} (I : α → Prop) (Post : α → β → Prop) (m : α → Nat)
    (step : ∀ s, I s → (∃ s', body s = some (.inl s') ∧ I s' ∧ m s' < m s ∧ ∀ r, Post s' r → Post s r) ∨ ∃ r, body s = some (.inr r) ∧ Post s r) :
    ∀ s, I s → ∃ r, loopM body s = some r ∧ Post s r := by
  have key : ∀ n s, m s ≤ n → I s → ∃ r, loopM body s = some r ∧ Post s r := by
    intro n
    induction n with
    | zero =>
      intro s hn hs
      rcases step s hs with ⟨s', h1, h2, h3, h4⟩ | ⟨r, h1, h2⟩
      · omega
      · exact ⟨r, by rw [loopM_eq, h1]; rfl, h2⟩
    | succ n ih =>
      intro s hn hs
      rcases step s hs with ⟨s', h1, h2, h3, h4⟩ | ⟨r, h1, h2⟩
      · obtain ⟨r, k1, k2⟩ := ih s' (by omega) h2
        exact ⟨r, by rw [loopM_eq, h1]; exact k1, h4 r k2⟩
      · exact ⟨r, by rw [loopM_eq, h1]; rfl, h2⟩
  exact fun s hs => key (m s) s (Nat.le_refl _) hs

theorem wrap64 {n : Int} (h1 : -9223372036854775808 ≤ n) (h2 : n < 9223372036854775808) : IntKind.i64.wrap n = n := by
  simp only [IntKind.wrap, IntKind.signed, IntKind.bits]
  simp
  omega
theorem wrap8 {n : Int} (h1 : 0 ≤ n) (h2 : n < 256) : IntKind.u8.wrap n = n := by
  simp only [IntKind.wrap, IntKind.signed, IntKind.bits]
  simp
  omega

/-- A loop that counts from i to n. -/
theorem loopM_for {α β σ : Type} {body : α → Option (α ⊕ β)} (at' : Nat → σ → α) (out : σ → β) (n : Nat) (I : Nat → σ → Prop)
    (step : ∀ i s, i < n → I i s → ∃ s', body (at' i s) = some (.inl (at' (i + 1) s')) ∧ I (i + 1) s') (stop : ∀ s, I n s → body (at' n s) = some (.inr (out s))) :
    ∀ (m i : Nat) (s : σ), i + m = n → I i s → ∃ s', loopM body (at' i s) = some (out s') ∧ I n s'
  | 0, i, s, h, hI => by
    have : i = n := by omega
    subst this
    exact ⟨s, by rw [loopM_eq, stop s hI]; rfl, hI⟩
  | m + 1, i, s, h, hI => by
    obtain ⟨s', h1, h2⟩ := step i s (by omega) hI
    obtain ⟨s'', h3, h4⟩ := loopM_for at' out n I step stop m (i + 1) s' (by omega) h2
    exact ⟨s'', by rw [loopM_eq, h1]; exact h3, h4⟩
end Go.Abs
/- Plain facts on arrays of 64 numbers. -/
namespace Go.Abs

abbrev V64 := Vec Int 64
def pad (l : List Int) : V64 := ⟨(List.range 64).map fun j => l.getD j 0, by simp⟩

theorem pad_rd (l : List Int) {j : Nat} (h : j < 64) : rd (pad l).1 j = l.getD j 0 := by
  simp [rd, pad, h]
theorem vec_ext {n : Nat} {a b : Vec Int n} (h : ∀ j, j < n → rd a.1 j = rd b.1 j) : a = b := by
  apply Subtype.ext
  apply List.ext_getElem
  · rw [a.2, b.2]
  · intro j h1 h2
    have := h j (by rw [a.2] at h1; exact h1)
    simpa [rd, h1, h2] using this
theorem rd_vset {n : Nat} (a : Vec Int n) (i j : Nat) (d : Int) (hi : i < n) : rd (vset a i d).1 j = if j = i then d else rd a.1 j := by
  have hl : i < a.1.length := by rw [a.2]; exact hi
  by_cases h : j = i
  · subst h; simp [rd, vset, hl]
  · rw [if_neg h]
    simp [rd, vset, Ne.symm h]
theorem rd_vrep {n : Nat} (j : Nat) (h : j < n) : rd (vrep n (0 : Int)).1 j = 0 := by
  simp [rd, vrep, h]
theorem pad_nil : pad [] = vrep 64 0 := vec_ext fun j h => by rw [pad_rd _ h, rd_vrep _ h]; simp
theorem pad_set (l : List Int) (d : Int) (h : l.length < 64) : vset (pad l) l.length d = pad (l ++ [d]) := by
  refine vec_ext fun j hj => ?_
  rw [rd_vset _ _ _ _ h, pad_rd _ hj, pad_rd _ hj]
  by_cases e : j = l.length
  · subst e; simp
  · rw [if_neg e]
    rcases Nat.lt_or_ge j l.length with h1 | h1
    · simp [h1, List.getElem?_append]
    · have h2 : l.length < j := by omega
      have h3 : (l ++ [d]).length ≤ j := by simp; omega
      rw [List.getD_eq_getElem?_getD, List.getD_eq_getElem?_getD, List.getElem?_eq_none h1, List.getElem?_eq_none h3]

theorem getD_app (l k : List Int) (j : Nat) : (l ++ k).getD j 0 = if j < l.length then l.getD j 0 else k.getD (j - l.length) 0 := by
  simp only [List.getD_eq_getElem?_getD, List.getElem?_append]
  split <;> rfl

/-- Bytes. -/
def Bytes (l : List Int) : Prop := ∀ d ∈ l, 0 ≤ d ∧ d < 256
theorem getD_byte {l : List Int} (h : Bytes l) (j : Nat) : 0 ≤ l.getD j 0 ∧ l.getD j 0 < 256 := by
  rw [List.getD_eq_getElem?_getD]
  cases e : l[j]? with
  | none => simp
  | some d => simp; exact h d (List.mem_of_getElem? e)
end Go.Abs
/- Polynomials: coefficient functions, and rows of coefficients up to the leading one. -/
namespace Go.Abs

/-! How far a row reaches. -/
def top (g : Nat → Int) : Nat → Nat
  | 0 => 0
  | n + 1 => if g n = 0 then top g n else n + 1
theorem top_le (g : Nat → Int) : ∀ n, top g n ≤ n
  | 0 => Nat.le_refl _
  | n + 1 => by simp only [top]; split; exact Nat.le_succ_of_le (top_le g n); exact Nat.le_refl _
theorem top_zero (g : Nat → Int) : ∀ n i, top g n ≤ i → i < n → g i = 0
  | 0, i, _, h => by omega
  | n + 1, i, h1, h2 => by
    simp only [top] at h1
    split at h1
    · rename_i e
      by_cases hi : i = n
      · subst hi; exact e
      · exact top_zero g n i h1 (by omega)
    · omega
theorem top_lead (g : Nat → Int) : ∀ n, top g n ≠ 0 → g (top g n - 1) ≠ 0
  | 0, h => by simp [top] at h
  | n + 1, h => by
    simp only [top] at h ⊢
    split
    · rename_i e; rw [if_pos e] at h; exact top_lead g n h
    · rename_i e; simpa using e
theorem top_congr {f g : Nat → Int} : ∀ n, (∀ i, i < n → f i = g i) → top f n = top g n
  | 0, _ => rfl
  | n + 1, h => by simp only [top]; rw [h n (by omega), top_congr n fun i hi => h i (by omega)]
/-- The leading place is told by what stands there and behind. -/
theorem top_is {g : Nat → Int} {n k : Nat} (hk : k ≤ n) (hz : ∀ i, k ≤ i → i < n → g i = 0) (hl : k ≠ 0 → g (k - 1) ≠ 0) : top g n = k := by
  rcases Nat.lt_trichotomy (top g n) k with h | h | h
  · have := top_zero g n (k - 1) (by omega) (by omega)
    exact absurd this (hl (by omega))
  · exact h
  · have h1 := top_lead g n (by omega)
    have h2 := top_le g n
    exact absurd (hz (top g n - 1) (by omega) (by omega)) h1
theorem top_more {g : Nat → Int} {n m : Nat} (h : n ≤ m) (hz : ∀ i, n ≤ i → i < m → g i = 0) : top g m = top g n :=
  top_is (Nat.le_trans (top_le g n) h) (fun i h1 h2 => by
    by_cases hi : i < n
    · exact top_zero g n i h1 hi
    · exact hz i (by omega) h2) (top_lead g n)

/-! Reading rows. -/
theorem rd_nil (i : Nat) : rd ([] : List Int) i = 0 := by simp [rd]
theorem rd_lt {l : List Int} {i : Nat} (h : i < l.length) : rd l i = l[i] := by simp [rd, h]
theorem rd_ge {l : List Int} {i : Nat} (h : l.length ≤ i) : rd l i = 0 := by simp [rd, h]
theorem rd_mem {l : List Int} {i : Nat} (h : i < l.length) : rd l i ∈ l := by rw [rd_lt h]; exact List.getElem_mem _
theorem rd_ext {a b : List Int} (hl : a.length = b.length) (h : ∀ i, i < a.length → rd a i = rd b i) : a = b := by
  apply List.ext_getElem hl
  intro i h1 h2
  have := h i h1
  rwa [rd_lt h1, rd_lt h2] at this
theorem rd_take (l : List Int) (k i : Nat) : rd (l.take k) i = if i < k then rd l i else 0 := by
  by_cases h : i < k
  · rw [if_pos h]
    by_cases hl : i < l.length
    · rw [rd_lt (by simp; omega), rd_lt hl]; simp
    · rw [rd_ge (by simp; omega), rd_ge (by omega)]
  · rw [if_neg h, rd_ge (by simp; omega)]
theorem rd_app (a b : List Int) (i : Nat) : rd (a ++ b) i = if i < a.length then rd a i else rd b (i - a.length) := by
  have := getD_app a b i
  exact this
theorem rd_set (l : List Int) (k : Nat) (d : Int) (i : Nat) (hk : k < l.length) : rd (l.set k d) i = if i = k then d else rd l i := by
  by_cases h : i = k
  · subst h; simp [rd, hk]
  · rw [if_neg h]; simp [rd, Ne.symm h]
theorem rd_rep (n i : Nat) : rd (List.replicate n (0 : Int)) i = 0 := by
  by_cases h : i < n
  · rw [rd_lt (by simpa using h)]; simp
  · rw [rd_ge (by simp; omega)]
theorem rd_padl (l : List Int) {j : Nat} (h : j < 64) : rd (pad l).1 j = rd l j := by rw [pad_rd _ h]; rfl
theorem rd_map {f : Nat → Int} (n i : Nat) : rd ((List.range n).map f) i = if i < n then f i else 0 := by
  by_cases h : i < n
  · rw [if_pos h, rd_lt (by simpa using h)]; simp
  · rw [if_neg h, rd_ge (by simp; omega)]

/-! Rows of functions. -/
def ofF (n : Nat) (f : Nat → Int) : List Int := (List.range (top f n)).map f
theorem ofF_len (n : Nat) (f : Nat → Int) : (ofF n f).length = top f n := by simp [ofF]
theorem rd_ofF {n : Nat} {f : Nat → Int} (hz : ∀ i, n ≤ i → f i = 0) (i : Nat) : rd (ofF n f) i = f i := by
  rw [ofF, rd_map]
  split
  · rfl
  · by_cases h : i < n
    · exact (top_zero f n i (by omega) h).symm
    · exact (hz i (by omega)).symm
theorem rd_ofF' {n : Nat} {f : Nat → Int} (i : Nat) : rd (ofF n f) i = if i < n then f i else 0 := by
  rw [ofF, rd_map]
  have := top_le f n
  by_cases h : i < n
  · rw [if_pos h]
    split
    · rfl
    · exact (top_zero f n i (by omega) h).symm
  · rw [if_neg h, if_neg (by omega)]
theorem ofF_congr {n : Nat} {f g : Nat → Int} (h : ∀ i, i < n → f i = g i) : ofF n f = ofF n g := by
  have e := top_congr n h
  have := top_le g n
  refine rd_ext (by rw [ofF_len, ofF_len, e]) fun i hi => ?_
  rw [rd_ofF', rd_ofF']
  split
  · exact h i (by assumption)
  · rfl
theorem ofF_more {n m : Nat} {f : Nat → Int} (h : n ≤ m) (hz : ∀ i, n ≤ i → i < m → f i = 0) : ofF m f = ofF n f := by
  simp only [ofF, top_more h hz]
/-- A list without the zeros at its end. -/
theorem trim_eq (l : List Int) : l.take (top (rd l) l.length) = ofF l.length (rd l) := by
  have := top_le (rd l) l.length
  refine rd_ext (by rw [ofF_len]; simp; omega) fun i hi => ?_
  rw [rd_take, rd_ofF']
  simp at hi
  rw [if_pos (by omega), if_pos (by omega)]

/-- The coefficients of a polynomial modulo p, up to the leading one. -/
structure Row (p : Int) (l : List Int) : Prop where
  res : ∀ d ∈ l, 0 ≤ d ∧ d < p
  nrm : l.length ≠ 0 → rd l (l.length - 1) ≠ 0
theorem Row.rd {p : Int} {l : List Int} (h : Row p l) (hp : 0 < p) (i : Nat) : 0 ≤ rd l i ∧ rd l i < p := by
  by_cases hi : i < l.length
  · exact h.res _ (rd_mem hi)
  · rw [rd_ge (by omega)]; exact ⟨Int.le_refl _, hp⟩
theorem Row.bytes {p : Int} {l : List Int} (h : Row p l) (hp : p ≤ 256) : Bytes l := fun d hd => by have := h.res d hd; omega
theorem row_nil (p : Int) : Row p [] := ⟨by simp, by simp⟩
theorem row_ext {p q : Int} {a b : List Int} (ha : Row p a) (hb : Row q b) (h : ∀ i, rd a i = rd b i) : a = b := by
  have hl : a.length = b.length := by
    rcases Nat.lt_trichotomy a.length b.length with h1 | h1 | h1
    · have := hb.nrm (by omega)
      rw [← h, rd_ge (by omega)] at this
      exact absurd rfl this
    · exact h1
    · have := ha.nrm (by omega)
      rw [h, rd_ge (by omega)] at this
      exact absurd rfl this
  exact rd_ext hl fun i _ => h i
theorem row_ofF {p : Int} {n : Nat} {f : Nat → Int} (h : ∀ i, i < n → 0 ≤ f i ∧ f i < p) : Row p (ofF n f) := by
  have hle := top_le f n
  refine ⟨fun d hd => ?_, fun hn => ?_⟩
  · simp only [ofF, List.mem_map, List.mem_range] at hd
    obtain ⟨i, hi, rfl⟩ := hd
    exact h i (by omega)
  · rw [ofF_len] at hn ⊢
    rw [rd_ofF', if_pos (by omega)]
    exact top_lead f n hn
theorem Row.top {p : Int} {l : List Int} (h : Row p l) {n : Nat} (hn : l.length ≤ n) : top (Abs.rd l) n = l.length :=
  top_is hn (fun i h1 _ => rd_ge h1) h.nrm
theorem Row.ofF {p : Int} {l : List Int} (h : Row p l) {n : Nat} (hn : l.length ≤ n) : ofF n (Abs.rd l) = l := by
  refine rd_ext (by rw [ofF_len, h.top hn]) fun i hi => ?_
  rw [rd_ofF fun i hi => rd_ge (by omega)]
theorem Row.trim {p : Int} {l : List Int} (h : Row p l) : l.take (Abs.top (Abs.rd l) l.length) = l := by
  rw [trim_eq, h.ofF (Nat.le_refl _)]

/-! Arrays and rows. -/
def row (v : V64) : List Int := ofF 64 (rd v.1)
/-- Coefficients from 0 to p - 1. -/
def Res (p : Int) (v : V64) : Prop := ∀ j, j < 64 → 0 ≤ rd v.1 j ∧ rd v.1 j < p
theorem row_row {p : Int} {v : V64} (h : Res p v) : Row p (row v) := row_ofF h
theorem row_len (v : V64) : (row v).length ≤ 64 := by rw [row, ofF_len]; exact top_le _ _
theorem pad_row (v : V64) : pad (row v) = v := vec_ext fun j hj => by rw [rd_padl _ hj, row, rd_ofF', if_pos hj]
theorem row_pad {p : Int} {l : List Int} (h : Row p l) (hl : l.length ≤ 64) : row (pad l) = l := by
  rw [row, ofF_congr (g := rd l) fun i hi => rd_padl l hi, h.ofF hl]
theorem res_pad {p : Int} {l : List Int} (h : Row p l) (hp : 0 < p) : Res p (pad l) := fun j hj => by rw [rd_padl _ hj]; exact h.rd hp j
theorem pad_inj {p q : Int} {a b : List Int} (ha : Row p a) (hb : Row q b) (h1 : a.length ≤ 64) (h2 : b.length ≤ 64) (h : pad a = pad b) : a = b := by
  rw [← row_pad ha h1, ← row_pad hb h2, h]

/-! Sums and products of coefficient functions. -/
def sumTo : Nat → (Nat → Int) → Int
  | 0, _ => 0
  | n + 1, f => sumTo n f + f n
theorem sumTo_congr {f g : Nat → Int} : ∀ n, (∀ i, i < n → f i = g i) → sumTo n f = sumTo n g
  | 0, _ => rfl
  | n + 1, h => by simp only [sumTo]; rw [sumTo_congr n fun i hi => h i (by omega), h n (by omega)]
theorem sumTo_zero {f : Nat → Int} : ∀ n, (∀ i, i < n → f i = 0) → sumTo n f = 0
  | 0, _ => rfl
  | n + 1, h => by simp only [sumTo]; rw [sumTo_zero n fun i hi => h i (by omega), h n (by omega)]; rfl
theorem sumTo_more {f : Nat → Int} {n : Nat} : ∀ m, (∀ i, n ≤ i → i < n + m → f i = 0) → sumTo (n + m) f = sumTo n f
  | 0, _ => rfl
  | m + 1, h => by
    rw [← Nat.add_assoc]
    simp only [sumTo]
    rw [sumTo_more m fun i h1 h2 => h i h1 (by omega), h (n + m) (by omega) (by omega), Int.add_zero]
/-- The summand that the first n coefficients give to a product. -/
def cv (a b : Nat → Int) (n k : Nat) : Int := sumTo n fun i => if i ≤ k then a i * b (k - i) else 0
theorem cv_succ (a b : Nat → Int) (n k : Nat) : cv a b (n + 1) k = cv a b n k + (if n ≤ k then a n * b (k - n) else 0) := rfl
def conv (a b : Nat → Int) (k : Nat) : Int := cv a b (k + 1) k
theorem cv_conv {a b : Nat → Int} {n : Nat} (hz : ∀ i, n ≤ i → a i = 0) (k : Nat) : cv a b n k = conv a b k := by
  unfold conv cv
  rcases Nat.le_total n (k + 1) with h | h
  · obtain ⟨m, e⟩ : ∃ m, k + 1 = n + m := ⟨k + 1 - n, by omega⟩
    rw [e]
    refine (sumTo_more m fun i h1 h2 => ?_).symm
    rw [hz i h1]; simp
  · obtain ⟨m, rfl⟩ : ∃ m, n = k + 1 + m := ⟨n - (k + 1), by omega⟩
    exact sumTo_more m fun i h1 h2 => if_neg (by omega)
theorem conv_zero {a b : Nat → Int} {n m : Nat} (ha : ∀ i, n ≤ i → a i = 0) (hb : ∀ i, m ≤ i → b i = 0) {k : Nat} (hk : n + m ≤ k + 1) : conv a b k = 0 := by
  refine sumTo_zero _ fun i hi => ?_
  rw [if_pos (by omega)]
  by_cases h : i < n
  · rw [hb (k - i) (by omega), Int.mul_zero]
  · rw [ha i (by omega), Int.zero_mul]
/-- The leading coefficient of a product. -/
theorem conv_lead {a b : Nat → Int} {n m : Nat} (ha : ∀ i, n < i → a i = 0) (hb : ∀ i, m < i → b i = 0) : conv a b (n + m) = a n * b m := by
  have h1 : conv a b (n + m) = cv a b (n + 1) (n + m) := (cv_conv (fun i hi => ha i (by omega)) _).symm
  rw [h1]
  unfold cv
  simp only [sumTo]
  rw [sumTo_zero n fun i hi => ?_, if_pos (by omega), show n + m - n = m by omega, Int.zero_add]
  rw [if_pos (by omega), hb _ (by omega), Int.mul_zero]

/-! Operations on rows. -/
def comb (p : Int) (a b : List Int) (k : Int) : List Int := ofF (max a.length b.length) fun i => (rd a i + k * rd b i) % p
def mul (p : Int) (a b : List Int) : List Int := ofF (a.length + b.length - 1) fun i => conv (rd a) (rd b) i % p

theorem emod_res {p : Int} (hp : 0 < p) (x : Int) : 0 ≤ x % p ∧ x % p < p := ⟨Int.emod_nonneg _ (by omega), Int.emod_lt_of_pos _ hp⟩
theorem comb_row {p : Int} (hp : 0 < p) (a b : List Int) (k : Int) : Row p (comb p a b k) := row_ofF fun _ _ => emod_res hp _
theorem mul_row {p : Int} (hp : 0 < p) (a b : List Int) : Row p (mul p a b) := row_ofF fun _ _ => emod_res hp _
theorem comb_rd (p : Int) (a b : List Int) (k : Int) (i : Nat) : rd (comb p a b k) i = (rd a i + k * rd b i) % p := by
  refine rd_ofF (fun i hi => ?_) i
  rw [rd_ge (by omega), rd_ge (by omega)]; simp
theorem mul_rd (p : Int) (a b : List Int) (i : Nat) : rd (mul p a b) i = conv (rd a) (rd b) i % p := by
  refine rd_ofF (fun i hi => ?_) i
  rw [conv_zero (n := a.length) (m := b.length) (fun i hi => rd_ge hi) (fun i hi => rd_ge hi) (by omega)]; simp
theorem comb_len (p : Int) (a b : List Int) (k : Int) : (comb p a b k).length ≤ max a.length b.length := by rw [comb, ofF_len]; exact top_le _ _
theorem mul_len (p : Int) (a b : List Int) : (mul p a b).length ≤ a.length + b.length - 1 := by rw [mul, ofF_len]; exact top_le _ _
theorem mul_nil (p : Int) (b : List Int) : mul p [] b = [] := by
  have h : ∀ i, conv (rd []) (rd b) i = 0 := fun i => sumTo_zero _ fun j _ => by rw [rd_nil]; simp
  have : (mul p [] b).length = 0 := by
    rw [mul, ofF_len]
    exact top_is (Nat.zero_le _) (fun i _ _ => by rw [h]; simp) (by simp)
  exact List.eq_nil_of_length_eq_zero this
theorem mul_nil' (p : Int) (a : List Int) : mul p a [] = [] := by
  have h : ∀ i, conv (rd a) (rd []) i = 0 := fun i => sumTo_zero _ fun j _ => by rw [rd_nil]; simp
  have : (mul p a []).length = 0 := by
    rw [mul, ofF_len]
    exact top_is (Nat.zero_le _) (fun i _ _ => by rw [h]; simp) (by simp)
  exact List.eq_nil_of_length_eq_zero this

/-! Small primes. -/
def isP (p : Int) : Bool := p == 2 || p == 3 || p == 5 || p == 7
theorem isP_iff {p : Int} : isP p = true ↔ p = 2 ∨ p = 3 ∨ p = 5 ∨ p = 7 := by
  simp [isP, or_assoc]
theorem isP_pos {p : Int} (h : isP p = true) : 2 ≤ p ∧ p ≤ 7 := by
  rcases isP_iff.1 h with rfl | rfl | rfl | rfl <;> omega
theorem noz2 : ∀ x y : Fin 2, x ≠ 0 → y ≠ 0 → (x.1 * y.1) % 2 ≠ 0 := by decide
theorem noz3 : ∀ x y : Fin 3, x ≠ 0 → y ≠ 0 → (x.1 * y.1) % 3 ≠ 0 := by decide
theorem noz5 : ∀ x y : Fin 5, x ≠ 0 → y ≠ 0 → (x.1 * y.1) % 5 ≠ 0 := by decide
theorem noz7 : ∀ x y : Fin 7, x ≠ 0 → y ≠ 0 → (x.1 * y.1) % 7 ≠ 0 := by decide
theorem noz_of {n : Nat} (hn : 0 < n) (h : ∀ x y : Fin n, x.1 ≠ 0 → y.1 ≠ 0 → (x.1 * y.1) % n ≠ 0) {x y : Int} (hx : 0 < x ∧ x < n) (hy : 0 < y ∧ y < n) : x * y % n ≠ 0 := by
  obtain ⟨a, rfl⟩ : ∃ a : Nat, x = a := ⟨x.toNat, by omega⟩
  obtain ⟨b, rfl⟩ : ∃ b : Nat, y = b := ⟨y.toNat, by omega⟩
  have := h ⟨a, by omega⟩ ⟨b, by omega⟩ (by simp; omega) (by simp; omega)
  simp only at this
  rw [← Int.natCast_mul, ← Int.natCast_emod]
  omega
theorem noz {p : Int} (hp : isP p = true) {x y : Int} (hx : 0 ≤ x ∧ x < p) (hy : 0 ≤ y ∧ y < p) (h1 : x ≠ 0) (h2 : y ≠ 0) : x * y % p ≠ 0 := by
  rcases isP_iff.1 hp with rfl | rfl | rfl | rfl
  · exact noz_of (n := 2) (by omega) (fun x y a b => noz2 x y (fun e => a (by rw [e]; rfl)) (fun e => b (by rw [e]; rfl))) ⟨by omega, hx.2⟩ ⟨by omega, hy.2⟩
  · exact noz_of (n := 3) (by omega) (fun x y a b => noz3 x y (fun e => a (by rw [e]; rfl)) (fun e => b (by rw [e]; rfl))) ⟨by omega, hx.2⟩ ⟨by omega, hy.2⟩
  · exact noz_of (n := 5) (by omega) (fun x y a b => noz5 x y (fun e => a (by rw [e]; rfl)) (fun e => b (by rw [e]; rfl))) ⟨by omega, hx.2⟩ ⟨by omega, hy.2⟩
  · exact noz_of (n := 7) (by omega) (fun x y a b => noz7 x y (fun e => a (by rw [e]; rfl)) (fun e => b (by rw [e]; rfl))) ⟨by omega, hx.2⟩ ⟨by omega, hy.2⟩
theorem mul_len_is {p : Int} (hp : isP p = true) {a b : List Int} (ha : Row p a) (hb : Row p b) (h1 : a.length ≠ 0) (h2 : b.length ≠ 0) : (mul p a b).length = a.length + b.length - 1 := by
  have hp2 := isP_pos hp
  rw [mul, ofF_len]
  refine top_is (Nat.le_refl _) (fun i h3 h4 => by omega) fun _ => ?_
  have e : a.length + b.length - 1 - 1 = (a.length - 1) + (b.length - 1) := by omega
  rw [e, conv_lead (fun i hi => rd_ge (by omega)) (fun i hi => rd_ge (by omega))]
  exact noz hp (ha.rd (by omega) _) (hb.rd (by omega) _) (ha.nrm h1) (hb.nrm h2)
end Go.Abs
/- Numbers modulo p. -/
namespace Go.Proofs.Ytdhcpekngpndnaa
open Go.Abs

theorem tmod_fix {n p : Int} (hp : 0 < p) : Int.tmod (Int.tmod n p + p) p = n % p := by
  have h1 := Int.lt_tmod_of_pos n hp
  rw [Int.tmod_eq_emod_of_nonneg (by omega), Int.tmod_def, Int.add_emod_right, Int.sub_mul_emod_self_left]

/-- Numbers that are small. -/
def Ent (l : List Int) : Prop := ∀ i, 0 ≤ rd l i ∧ rd l i < 256

theorem _root_.Go.Abs.Row.ent {p : Int} {l : List Int} (h : Row p l) (hp : 0 < p ∧ p ≤ 256) : Ent l := fun i => by have := h.rd hp.1 i; omega

def V64.Ent (v : V64) : Prop := ∀ i, i < 64 → 0 ≤ rd v.1 i ∧ rd v.1 i < 256

theorem mulk {x k : Int} (hx : 0 ≤ x ∧ x < 256) (hk : -1099511627776 ≤ k ∧ k ≤ 1099511627776) : -281474976710656 ≤ k * x ∧ k * x ≤ 281474976710656 := by
  have h1 : (-1099511627776) * x ≤ k * x := Int.mul_le_mul_of_nonneg_right hk.1 hx.1
  have h2 : k * x ≤ 1099511627776 * x := Int.mul_le_mul_of_nonneg_right hk.2 hx.1
  omega

theorem _root_.Go.Abs.Res.ent {p : Int} {v : V64} (h : Res p v) (hp : p ≤ 256) : V64.Ent v := fun i hi => by have := h i hi; omega

theorem ent_pad {p : Int} {l : List Int} (h : Row p l) (hp : 0 < p ∧ p ≤ 256) : V64.Ent (pad l) := Res.ent (res_pad h hp.1) hp.2

theorem mul_small {x y : Int} (hx : 0 ≤ x ∧ x < 256) (hy : 0 ≤ y ∧ y < 256) : 0 ≤ x * y ∧ x * y ≤ 65025 :=
  ⟨Int.mul_nonneg hx.1 hy.1, Int.mul_le_mul (c := 255) (d := 255) (by omega) (by omega) hy.1 (by omega)⟩
end Go.Proofs.Ytdhcpekngpndnaa
/- Inverses modulo p. -/
namespace Go.Proofs.Ytdhcpekngpndnaa
open Go.Abs

/-- The inverse of x modulo p. -/
def inv (p x : Int) : Int := if p = 2 then 1 else if p = 3 then x else if p = 5 then (if x = 1 then 1 else if x = 2 then 3 else if x = 3 then 2 else 4) else (if x = 1 then 1 else if x = 2 then 4 else if x = 3 then 5 else if x = 4 then 2 else if x = 5 then 3 else 6)
theorem inv_cases {p x : Int} (hp : isP p = true) (hx : 0 < x ∧ x < p) : (p = 2 ∧ x = 1) ∨ (p = 3 ∧ x = 1) ∨ (p = 3 ∧ x = 2) ∨ (p = 5 ∧ x = 1) ∨ (p = 5 ∧ x = 2) ∨ (p = 5 ∧ x = 3) ∨ (p = 5 ∧ x = 4) ∨
    (p = 7 ∧ x = 1) ∨ (p = 7 ∧ x = 2) ∨ (p = 7 ∧ x = 3) ∨ (p = 7 ∧ x = 4) ∨ (p = 7 ∧ x = 5) ∨ (p = 7 ∧ x = 6) := by
  rcases isP_iff.1 hp with rfl | rfl | rfl | rfl <;> omega
theorem inv_is {p x : Int} (hp : isP p = true) (hx : 0 < x ∧ x < p) : 0 < inv p x ∧ inv p x < p ∧ x * inv p x % p = 1 := by
  rcases inv_cases hp hx with ⟨rfl, rfl⟩ | ⟨rfl, rfl⟩ | ⟨rfl, rfl⟩ | ⟨rfl, rfl⟩ | ⟨rfl, rfl⟩ | ⟨rfl, rfl⟩ | ⟨rfl, rfl⟩ | ⟨rfl, rfl⟩ | ⟨rfl, rfl⟩ | ⟨rfl, rfl⟩ | ⟨rfl, rfl⟩ | ⟨rfl, rfl⟩ | ⟨rfl, rfl⟩ <;> decide
theorem inv_first {p x : Int} (hp : isP p = true) (hx : 0 < x ∧ x < p) {j : Int} (h1 : 1 ≤ j) (h2 : j < inv p x) : j * x % p ≠ 1 := by
  rcases inv_cases hp hx with ⟨rfl, rfl⟩ | ⟨rfl, rfl⟩ | ⟨rfl, rfl⟩ | ⟨rfl, rfl⟩ | ⟨rfl, rfl⟩ | ⟨rfl, rfl⟩ | ⟨rfl, rfl⟩ | ⟨rfl, rfl⟩ | ⟨rfl, rfl⟩ | ⟨rfl, rfl⟩ | ⟨rfl, rfl⟩ | ⟨rfl, rfl⟩ | ⟨rfl, rfl⟩ <;> simp [inv] at h2 <;> omega
theorem inv_pow {p x : Int} (hp : isP p = true) (hx : 0 < x ∧ x < p) : x ^ (p - 2).toNat % p = inv p x := by
  rcases inv_cases hp hx with ⟨rfl, rfl⟩ | ⟨rfl, rfl⟩ | ⟨rfl, rfl⟩ | ⟨rfl, rfl⟩ | ⟨rfl, rfl⟩ | ⟨rfl, rfl⟩ | ⟨rfl, rfl⟩ | ⟨rfl, rfl⟩ | ⟨rfl, rfl⟩ | ⟨rfl, rfl⟩ | ⟨rfl, rfl⟩ | ⟨rfl, rfl⟩ | ⟨rfl, rfl⟩ <;> decide
end Go.Proofs.Ytdhcpekngpndnaa
/- Division of polynomials, from the leading coefficient on. -/
namespace Go.Proofs.Ytdhcpekngpndnaa
open Go.Abs

def dstep (p : Int) (b : Nat → Int) (m : Nat) (f : Int) (i : Nat) (r : Nat → Int) (j : Nat) : Int := if i ≤ j ∧ j ≤ i + m then (r j - f * b (j - i)) % p else r j
def dfac (p iv : Int) (m i : Nat) (r : Nat → Int) : Int := r (i + m) * iv % p
def drem (p : Int) (b : Nat → Int) (m : Nat) (iv : Int) : Nat → (Nat → Int) → Nat → Int
  | 0, r => r
  | i + 1, r => drem p b m iv i (dstep p b m (dfac p iv m i r) i r)
def dquo (p : Int) (b : Nat → Int) (m : Nat) (iv : Int) : Nat → (Nat → Int) → Nat → Int
  | 0, _, _ => 0
  | i + 1, r, j => if j = i then dfac p iv m i r else dquo p b m iv i (dstep p b m (dfac p iv m i r) i r) j
def lead (b : List Int) : Int := rd b (b.length - 1)
def quo (p : Int) (a b : List Int) : List Int := ofF (a.length + 1 - b.length) (dquo p (rd b) (b.length - 1) (inv p (lead b)) (a.length + 1 - b.length) (rd a))
def rem (p : Int) (a b : List Int) : List Int := ofF a.length (drem p (rd b) (b.length - 1) (inv p (lead b)) (a.length + 1 - b.length) (rd a))

section
variable {p : Int} {b : Nat → Int} {m : Nat} {iv : Int}
theorem dstep_res (hp : 0 < p) {r : Nat → Int} (hr : ∀ j, 0 ≤ r j ∧ r j < p) (f : Int) (i j : Nat) : 0 ≤ dstep p b m f i r j ∧ dstep p b m f i r j < p := by
  unfold dstep
  split
  · exact emod_res hp _
  · exact hr j
theorem drem_res (hp : 0 < p) : ∀ (i : Nat) (r : Nat → Int), (∀ j, 0 ≤ r j ∧ r j < p) → ∀ j, 0 ≤ drem p b m iv i r j ∧ drem p b m iv i r j < p
  | 0, r, hr, j => hr j
  | i + 1, r, hr, j => drem_res hp i _ (fun j => dstep_res hp hr _ i j) j
theorem dquo_res (hp : 0 < p) : ∀ (i : Nat) (r : Nat → Int) (j : Nat), 0 ≤ dquo p b m iv i r j ∧ dquo p b m iv i r j < p
  | 0, r, j => by simp only [dquo]; omega
  | i + 1, r, j => by
    simp only [dquo]
    split
    · exact emod_res hp _
    · exact dquo_res hp i _ j
theorem dquo_ge : ∀ (i : Nat) (r : Nat → Int) (j : Nat), i ≤ j → dquo p b m iv i r j = 0
  | 0, _, _, _ => rfl
  | i + 1, r, j, h => by
    simp only [dquo]
    rw [if_neg (by omega)]
    exact dquo_ge i _ j (by omega)
theorem cv_congr {f g c : Nat → Int} (k : Nat) : ∀ n, (∀ i, i < n → f i = g i) → cv f c n k = cv g c n k := fun n h => sumTo_congr n fun i hi => by rw [h i hi]
/-- The rest vanishes from the place m on. -/
theorem drem_zero (hp : 0 < p) (hb : b m * iv % p = 1 % p) : ∀ (i : Nat) (r : Nat → Int), (∀ j, 0 ≤ r j ∧ r j < p) → (∀ j, i + m ≤ j → r j = 0) → ∀ j, m ≤ j → drem p b m iv i r j = 0
  | 0, r, _, hz, j, hj => hz j (by omega)
  | i + 1, r, hr, hz, j, hj => by
    refine drem_zero hp hb i _ (fun j => dstep_res hp hr _ i j) (fun j hj => ?_) j hj
    unfold dstep
    by_cases e : j = i + m
    · subst e
      rw [if_pos (by omega), show i + m - i = m by omega]
      have h1 : (r (i + m) - dfac p iv m i r * b m) % p = 0 := by
        unfold dfac
        have h2 : (r (i + m) * iv % p) * b m % p = r (i + m) % p := by
          rw [Int.mul_emod, Int.emod_emod, ← Int.mul_emod, Int.mul_assoc, Int.mul_emod, Int.mul_comm iv, hb, ← Int.mul_emod, Int.mul_one]
        rw [Int.sub_emod, h2, Int.sub_self]; rfl
      exact h1
    · rw [if_neg (by omega)]
      exact hz j (by omega)
/-- Quotient and rest give what was divided. -/
theorem div_eq (hp : 0 < p) (hbz : ∀ j, m < j → b j = 0) : ∀ (i : Nat) (r : Nat → Int) (j : Nat), (cv (dquo p b m iv i r) b i j + drem p b m iv i r j) % p = r j % p
  | 0, r, j => by simp [cv, sumTo, drem]
  | i + 1, r, j => by
    have ih := div_eq hp hbz i (dstep p b m (dfac p iv m i r) i r) j
    simp only [drem]
    rw [cv_succ, cv_congr (g := dquo p b m iv i (dstep p b m (dfac p iv m i r) i r)) j i fun k hk => by simp only [dquo]; rw [if_neg (by omega)]]
    have e : dquo p b m iv (i + 1) r i = dfac p iv m i r := by simp only [dquo, if_true]
    rw [e]
    generalize dfac p iv m i r = f at *
    generalize cv (dquo p b m iv i (dstep p b m f i r)) b i j = c at *
    generalize drem p b m iv i (dstep p b m f i r) j = d at *
    by_cases h : i ≤ j
    · rw [if_pos h]
      by_cases h2 : j ≤ i + m
      · simp only [dstep] at ih
        rw [if_pos ⟨h, h2⟩, Int.emod_emod] at ih
        have e1 : c + f * b (j - i) + d = (c + d) + f * b (j - i) := by omega
        rw [e1, Int.add_emod, ih, ← Int.add_emod]
        congr 1
        omega
      · simp only [dstep] at ih
        rw [if_neg (by omega)] at ih
        rw [hbz (j - i) (by omega), Int.mul_zero, Int.add_zero]
        exact ih
    · simp only [dstep] at ih
      rw [if_neg (by omega)] at ih
      rw [if_neg h, Int.add_zero]
      exact ih
end

theorem lead_pos {p : Int} (hp : 0 < p) {b : List Int} (hb : Row p b) (h0 : b.length ≠ 0) : 0 < lead b ∧ lead b < p := by
  have h1 := hb.rd hp (b.length - 1)
  have h2 := hb.nrm h0
  unfold lead
  omega
theorem quo_row {p : Int} (hp : 0 < p) (a b : List Int) : Row p (quo p a b) := row_ofF fun i _ => dquo_res hp _ _ i
theorem rem_row {p : Int} (hp : 0 < p) {a : List Int} (ha : Row p a) (b : List Int) : Row p (rem p a b) := row_ofF fun i _ => drem_res hp _ _ (fun j => ha.rd hp j) i
theorem quo_len (p : Int) (a b : List Int) : (quo p a b).length ≤ a.length + 1 - b.length := by rw [quo, ofF_len]; exact top_le _ _
theorem rem_len' (p : Int) (a b : List Int) : (rem p a b).length ≤ a.length := by rw [rem, ofF_len]; exact top_le _ _
theorem quo_rd (p : Int) (a b : List Int) (j : Nat) : rd (quo p a b) j = dquo p (rd b) (b.length - 1) (inv p (lead b)) (a.length + 1 - b.length) (rd a) j := rd_ofF (fun i hi => dquo_ge _ _ _ hi) j
theorem drem_big {p : Int} {b : Nat → Int} {m : Nat} {iv : Int} : ∀ (i : Nat) (r : Nat → Int) (n : Nat), i + m ≤ n → (∀ j, n ≤ j → r j = 0) → ∀ j, n ≤ j → drem p b m iv i r j = 0
  | 0, r, n, _, hz, j, hj => hz j hj
  | i + 1, r, n, hn, hz, j, hj => drem_big i _ n (by omega) (fun j hj => by unfold dstep; rw [if_neg (by omega)]; exact hz j hj) j hj
theorem rem_rd {p : Int} (a : List Int) {b : List Int} (h0 : b.length ≠ 0) (j : Nat) : rd (rem p a b) j = drem p (rd b) (b.length - 1) (inv p (lead b)) (a.length + 1 - b.length) (rd a) j := by
  refine rd_ofF (fun i hi => ?_) j
  rcases Nat.lt_or_ge a.length b.length with h | h
  · rw [show a.length + 1 - b.length = 0 by omega]; exact rd_ge hi
  · exact drem_big _ _ a.length (by omega) (fun j hj => rd_ge hj) i hi
theorem rem_len {p : Int} (hp : isP p = true) {a b : List Int} (ha : Row p a) (hb : Row p b) (h0 : b.length ≠ 0) : (rem p a b).length < b.length := by
  have hp2 := isP_pos hp
  have hi := inv_is hp (lead_pos (show 0 < p by omega) hb h0)
  have hz : ∀ j, b.length - 1 ≤ j → rd (rem p a b) j = 0 := fun j hj => by
    rw [rem_rd a h0]
    refine drem_zero (by omega) ?_ _ _ (fun j => ha.rd (by omega) j) (fun j hj => rd_ge (by omega)) j hj
    have : (1 : Int) % p = 1 := Int.emod_eq_of_lt (by omega) (by omega)
    rw [this]
    exact hi.2.2
  rcases Nat.lt_or_ge (rem p a b).length b.length with h | h
  · exact h
  · have h1 := (rem_row (show 0 < p by omega) ha b).nrm (by omega)
    exact absurd (hz _ (by omega)) h1
/-- What is divided is quotient times divisor, plus the rest. -/
theorem divide_eq {p : Int} (hp : isP p = true) {a b : List Int} (ha : Row p a) (h0 : b.length ≠ 0) (j : Nat) : rd a j = (conv (rd (quo p a b)) (rd b) j + rd (rem p a b) j) % p := by
  have hp2 := isP_pos hp
  have h := div_eq (p := p) (b := rd b) (m := b.length - 1) (iv := inv p (lead b)) (by omega) (fun j hj => rd_ge (by omega)) (a.length + 1 - b.length) (rd a) j
  have e : conv (rd (quo p a b)) (rd b) j = cv (dquo p (rd b) (b.length - 1) (inv p (lead b)) (a.length + 1 - b.length) (rd a)) (rd b) (a.length + 1 - b.length) j := by
    rw [← cv_conv (n := a.length + 1 - b.length) fun i hi => rd_ge (Nat.le_trans (quo_len p a b) hi)]
    exact cv_congr _ _ fun i _ => quo_rd p a b i
  have hr := ha.rd (show 0 < p by omega) j
  rw [e, rem_rd a h0, h, Int.emod_eq_of_lt hr.1 hr.2]
end Go.Proofs.Ytdhcpekngpndnaa
/- Inverses modulo p, in the program and in the reference. -/
namespace Go.Proofs.Ytdhcpekngpndnaa
open Go.Abs

theorem inverse_impl {p x : Int} (hp : isP p = true) (hx : 0 < x ∧ x < p) : impl_prime_inverse p x = some (inv p x) := by
  have hp2 := isP_pos hp
  obtain ⟨n, hn⟩ : ∃ n : Nat, p - 2 = n := ⟨(p - 2).toNat, by omega⟩
  have ew : IntKind.i64.wrap (p - 2) = (n : Int) := by rw [wrap64 (by omega) (by omega), hn]
  obtain ⟨c, h1, h2⟩ := loopM_for (body := fun s : Int × Int => impl_prime_inverse_l1 p x s.1 s.2) (fun i c => (c, (i : Int))) (fun c => c) n
    (fun i c => c = x ^ i % p) (fun i c hi hI => by
      subst hI
      have h3 := emod_res (show 0 < p by omega) (x ^ i)
      have h4 := mul_small (x := x ^ i % p) (y := x) (by omega) (by omega)
      refine ⟨x ^ (i + 1) % p, ?_, rfl⟩
      simp only [impl_prime_inverse_l1]
      rw [ew, if_pos (decide_eq_true (by omega)), ifp_pos (by omega), wrap64 (n := x ^ i % p * x) (by omega) (by omega), Int.tmod_eq_emod_of_nonneg h4.1, wrap64 (by omega) (by omega)]
      have : x ^ i % p * x % p = x ^ (i + 1) % p := by rw [Int.pow_succ, Int.mul_emod (x ^ i % p), Int.emod_emod, ← Int.mul_emod]
      rw [this]; rfl) (fun c hI => by
      simp only [impl_prime_inverse_l1]
      rw [ew, if_neg (by rw [decide_eq_true_eq]; omega)]) n 0 1 (by omega) (by rw [Int.pow_zero, Int.emod_eq_of_lt (by omega) (by omega)])
  have h1' : loopM (fun s : Int × Int => impl_prime_inverse_l1 p x s.1 s.2) (1, 0) = some c := h1
  simp only [impl_prime_inverse, h1', Option.bind_some]
  rw [h2, ← inv_pow hp hx, hn, Int.toNat_natCast]
theorem inverse_spec {p x : Int} (hp : isP p = true) (hx : 0 < x ∧ x < p) : spec_l01Inverse p x = some (inv p x) := by
  have hp2 := isP_pos hp
  obtain ⟨hi1, hi2, hi3⟩ := inv_is hp hx
  have key : ∀ (m : Nat) (k : Int), 1 ≤ k → k + m = inv p x → loopM (fun s : Int => spec_l01Inverse_l1 p x s) k = some (.inr (inv p x)) := by
    intro m
    induction m with
    | zero =>
      intro k h1 h2
      have h3 := mul_small (x := k) (y := x) (by omega) (by omega)
      have e : k = inv p x := by omega
      have step : spec_l01Inverse_l1 p x k = some (.inr (.inr (inv p x))) := by
        simp only [spec_l01Inverse_l1, letp]
        rw [if_pos (decide_eq_true (by omega)), ifp_pos (by omega), wrap64 (n := x) (by omega) (by omega), wrap64 (n := k * x) (by omega) (by omega), Int.tmod_eq_emod_of_nonneg h3.1, if_pos, wrap8 (by omega) (by omega), e]
        rw [e, Int.mul_comm, hi3]; rfl
      rw [loopM_eq]
      simp only [step, Option.bind_some]
    | succ m ih =>
      intro k h1 h2
      have h3 := mul_small (x := k) (y := x) (by omega) (by omega)
      have hne := inv_first hp hx h1 (show k < inv p x by omega)
      have step : spec_l01Inverse_l1 p x k = some (.inl (k + 1)) := by
        simp only [spec_l01Inverse_l1, letp]
        rw [if_pos (decide_eq_true (by omega)), ifp_pos (by omega), wrap64 (n := x) (by omega) (by omega), wrap64 (n := k * x) (by omega) (by omega), Int.tmod_eq_emod_of_nonneg h3.1, if_neg (by rw [beq_iff_eq]; exact hne), wrap64 (by omega) (by omega)]
      rw [loopM_eq]
      simp only [step, Option.bind_some]
      exact ih (k + 1) (by omega) (by omega)
  have h := key (inv p x - 1).toNat 1 (by omega) (by omega)
  simp only [spec_l01Inverse, h, Option.bind_some]
end Go.Proofs.Ytdhcpekngpndnaa
/- Rows without the zeros at their ends. -/
namespace Go.Proofs.Ytdhcpekngpndnaa
open Go.Abs

def IsB (v : V64) : Prop := ∀ d ∈ v.1, 0 ≤ d ∧ d < 256

theorem IsB.rd {v : V64} (h : IsB v) {j : Nat} (hj : j < 64) : 0 ≤ rd v.1 j ∧ rd v.1 j < 256 := by
  have hl : j < v.1.length := by rw [v.2]; exact hj
  have : Abs.rd v.1 j = v.1[j] := by simp [Abs.rd, hl]
  rw [this]; exact h _ (List.getElem_mem _)

theorem trimmed_loop {l : List Int} (hl : l.length ≤ 1000000) : ∀ s : Int, (∃ i : Nat, s = i ∧ i ≤ l.length) → ∃ r, loopM (fun s : Int => impl_row_trimmed_l1 l s) s = some r ∧ ∀ i : Nat, s = i → r = (top (rd l) i : Int) := by
  refine loopM_ind (fun (s : Int) => ∃ i : Nat, s = i ∧ i ≤ l.length) (fun (s : Int) (r : Int) => ∀ i : Nat, s = i → r = (top (rd l) i : Int)) (fun s => s.toNat) ?_
  rintro s ⟨i, rfl, hi⟩
  match i with
  | 0 =>
    right
    refine ⟨0, by simp [impl_row_trimmed_l1], fun k hk => ?_⟩
    have : k = 0 := by omega
    subst this; simp [top]
  | i + 1 =>
    have e1 : IntKind.i64.wrap (((i + 1 : Nat) : Int) - 1) = (i : Int) := by rw [wrap64 (by omega) (by omega)]; omega
    by_cases e : rd l i = 0
    · left
      refine ⟨(i : Int), ?_, ⟨i, rfl, by omega⟩, by omega, fun r hr k hk => ?_⟩
      · simp only [impl_row_trimmed_l1, e1]
        rw [if_pos (by simp), ifp_pos (by omega)]
        simp [e]
      · have : k = i + 1 := by omega
        subst this
        rw [hr i rfl]; simp [top, e]
    · right
      refine ⟨((i + 1 : Nat) : Int), ?_, fun k hk => ?_⟩
      · simp only [impl_row_trimmed_l1, e1]
        rw [if_pos (by simp), ifp_pos (by omega)]
        simp [e]
      · have : k = i + 1 := by omega
        subst this
        simp [top, e]

theorem trimmed_is {l : List Int} (hl : l.length ≤ 1000000) : impl_row_trimmed l = some (l.take (top (rd l) l.length)) := by
  obtain ⟨r, h1, h2⟩ := trimmed_loop hl (l.length : Nat) ⟨l.length, rfl, Nat.le_refl _⟩
  rw [h2 _ rfl] at h1
  have := top_le (rd l) l.length
  simp only [impl_row_trimmed, h1, Option.bind_some]
  rw [ifp_pos (by omega)]
  simp

theorem rowOf_loop {a : V64} (hb : IsB a) : ∀ s : Int × List Int, (∃ i : Nat, s.1 = i ∧ i ≤ 64 ∧ s.2 = a.1.take i) → ∃ r, loopM (fun s : Int × List Int => impl_rowOf_l1 a s.1 s.2) s = some r ∧ r = a.1 := by
  refine loopM_ind (fun (s : Int × List Int) => ∃ i : Nat, s.1 = i ∧ i ≤ 64 ∧ s.2 = a.1.take i) (fun (s : Int × List Int) (r : List Int) => r = a.1) (fun (s : Int × List Int) => 64 - s.1.toNat) ?_
  rintro ⟨x, v⟩ ⟨i, hx, hi, hv⟩
  simp only at hx hv
  subst hx hv
  by_cases h : i = 64
  · right
    subst h
    exact ⟨a.1, by simp [impl_rowOf_l1, List.take_of_length_le (Nat.le_of_eq a.2)], rfl⟩
  · left
    have hil : i < a.1.length := by rw [a.2]; omega
    have er : rd a.1 i = a.1[i] := by simp [rd, hil]
    have hbi := hb.rd (show i < 64 by omega)
    refine ⟨(((i + 1 : Nat) : Int), a.1.take (i + 1)), ?_, ⟨i + 1, rfl, by omega, rfl⟩, by simp; omega, fun r hr => hr⟩
    simp only [impl_rowOf_l1]
    rw [if_pos (by simp; omega), ifp_pos (by omega), ifp_pos (by simp; omega)]
    rw [Int.toNat_natCast, wrap64 (by omega) (by omega), wrap64 (by omega) (by omega), er, List.take_succ_eq_append_getElem hil]
    simp

theorem rowOf_is {a : V64} (hb : IsB a) : impl_rowOf a = some (a.1.take (top (rd a.1) 64)) := by
  obtain ⟨r, h1, h2⟩ := rowOf_loop hb (0, []) ⟨0, rfl, by omega, by simp⟩
  subst h2
  have h3 := trimmed_is (l := a.1) (by rw [a.2]; omega)
  rw [a.2] at h3
  simp only [impl_rowOf, h1, Option.bind_some, h3]
end Go.Proofs.Ytdhcpekngpndnaa
/- Sums, in the program. -/
namespace Go.Proofs.Ytdhcpekngpndnaa
open Go.Abs

theorem at_is (l : List Int) (i : Nat) : impl_row_at l i = some (rd l i) := by
  unfold impl_row_at
  by_cases h : i < l.length
  · rw [if_pos (by simpa using h), ifp_pos (by omega)]; simp
  · rw [if_neg (by simpa using h), rd_ge (by omega)]

theorem reduce_is {p n : Int} (hp : 0 < p ∧ p ≤ 256) (hn : -4611686018427387904 ≤ n ∧ n < 4611686018427387904) : impl_prime_reduce p n = some (n % p) := by
  unfold impl_prime_reduce
  have h1 := Int.lt_tmod_of_pos n hp.1
  have h2 := Int.tmod_lt_of_pos n hp.1
  rw [ifp_pos (by omega), ifp_pos (by omega), wrap64 (by omega) (by omega), tmod_fix hp.1]

theorem combine_is {p k : Int} {a b : List Int} (hp : 0 < p ∧ p ≤ 256) (ha : Ent a) (hb : Ent b) (la : a.length ≤ 1000000) (lb : b.length ≤ 1000000) (hk : -1099511627776 ≤ k ∧ k ≤ 1099511627776) :
    impl_prime_combine p a b k = some (comb p a b k) := by
  obtain ⟨n, hn⟩ : ∃ n : Nat, n = max a.length b.length := ⟨_, rfl⟩
  have e : (if (b.length : Int) > (a.length : Int) then (b.length : Int) else (a.length : Int)) = (n : Int) := by split <;> omega
  obtain ⟨s, h1, h2, h3⟩ := loopM_for (body := fun s : Int × List Int => impl_prime_combine_l1 (n : Int) a b p k s.1 s.2) (fun i s => ((i : Int), s)) (fun s => s) n
    (fun i s => s.length = n ∧ ∀ j, rd s j = if j < i then (rd a j + k * rd b j) % p else 0) (fun i s hi hI => by
      obtain ⟨hl, hr⟩ := hI
      have h1 := ha i
      have h2 := mulk (hb i) hk
      refine ⟨s.set i ((rd a i + k * rd b i) % p), ?_, by simpa using hl, fun j => ?_⟩
      · simp only [impl_prime_combine_l1, letp, Int.toNat_natCast, List.length_replicate]
        rw [if_pos (by simp; omega), at_is, at_is]
        simp only [Option.bind_some]
        rw [wrap64 (n := k * rd b i) (by omega) (by omega), wrap64 (n := rd a i + k * rd b i) (by omega) (by omega), reduce_is hp (by omega)]
        simp only [Option.bind_some]
        rw [ifp_pos (by omega), wrap64 (by omega) (by omega)]
        rfl
      · rw [rd_set _ _ _ _ (by omega), hr j]
        by_cases h : j = i
        · subst h; simp
        · rw [if_neg h]
          simp only [show (j < i + 1) = (j < i) from by rw [eq_iff_iff]; omega]) (fun s hI => by
      simp only [impl_prime_combine_l1, letp, Int.toNat_natCast, List.length_replicate]
      rw [if_neg (by simp)]) n 0 (List.replicate n 0) (by omega) ⟨by simp, fun j => by rw [rd_rep, if_neg (by omega)]⟩
  have hs : s.take (top (rd s) s.length) = comb p a b k := by
    rw [trim_eq, h2, comb, ← hn]
    exact ofF_congr fun i hi => by rw [h3 i, if_pos hi]
  simp only [impl_prime_combine, letp, e]
  rw [ifp_pos (by omega)]
  simp only [Int.toNat_natCast]
  have h1' : loopM (fun s : Int × List Int => impl_prime_combine_l1 (n : Int) a b p k s.1 s.2) (0, List.replicate n 0) = some s := h1
  rw [h1']
  simp only [Option.bind_some]
  rw [trimmed_is (by omega), hs]
  rfl
end Go.Proofs.Ytdhcpekngpndnaa
/- Division, in the program. -/
namespace Go.Proofs.Ytdhcpekngpndnaa
open Go.Abs

theorem clone_is {a : List Int} (ha : a.length ≤ 1000000) : slices_Clone_impl_row_int64_fresh a = some a := by
  unfold slices_Clone_impl_row_int64_fresh
  rw [ifc_pos, ifp_pos]
  · simp
  · simp; omega
  · intro h
    subst h
    rw [ifp_pos (by simp)]
    simp
theorem divI_inner {p f : Int} (hp : 2 ≤ p ∧ p ≤ 7) {b : List Int} (hb : Row p b) (hf : 0 ≤ f ∧ f < p) {i : Nat} {s t : List Int} (hi : i + b.length ≤ s.length) (hl : s.length ≤ 1000000) (hs : ∀ j, 0 ≤ rd s j ∧ rd s j < p) {s0 : List Int} {x r9 : Int} (hx : Int.tmod (IntKind.i64.wrap (rd s0 x.toNat * r9)) p = f) :
    ∃ s', loopM (fun q : Int × List Int => impl_prime_divide_l2 b (i : Int) s0 x r9 p t q.1 q.2) (0, s) = some (s', t.set i f) ∧ s'.length = s.length ∧ ∀ j, rd s' j = dstep p (rd b) (b.length - 1) f i (rd s) j := by
  obtain ⟨s', h1, h2, h3⟩ := loopM_for (body := fun q : Int × List Int => impl_prime_divide_l2 b (i : Int) s0 x r9 p t q.1 q.2) (fun k u => ((k : Int), u)) (fun u => (u, t.set i f)) b.length
    (fun k u => u.length = s.length ∧ ∀ j, rd u j = if i ≤ j ∧ j < i + k then (rd s j - f * rd b (j - i)) % p else rd s j) (fun k u hk hI => by
      obtain ⟨hul, hu⟩ := hI
      have hbk := hb.rd (show 0 < p by omega) k
      have hsk := hs (i + k)
      have hm := mul_small (x := f) (y := rd b k) (by omega) (by omega)
      have e1 : IntKind.i64.wrap ((i : Int) + (k : Int)) = ((i + k : Nat) : Int) := by rw [wrap64 (by omega) (by omega)]; omega
      have huk := hu (i + k)
      rw [if_neg (by omega)] at huk
      refine ⟨u.set (i + k) ((rd s (i + k) - f * rd b k) % p), ?_, by simpa using hul, fun j => ?_⟩
      · simp only [impl_prime_divide_l2, letp, hx]
        rw [if_pos (decide_eq_true (by omega)), ifp_pos (by omega), e1, ifp_pos (by omega), Int.toNat_natCast, Int.toNat_natCast, huk, wrap64 (n := f * rd b k) (by omega) (by omega), wrap64 (n := rd s (i + k) - f * rd b k) (by omega) (by omega), reduce_is (by omega) (by omega)]
        simp only [Option.bind_some]
        rw [ifp_pos (by omega), wrap64 (by omega) (by omega)]
        rfl
      · rw [rd_set _ _ _ _ (by omega), hu j]
        by_cases e : j = i + k
        · subst e
          rw [if_pos rfl, if_pos (by omega), show i + k - i = k by omega]
        · rw [if_neg e]
          by_cases hc : i ≤ j ∧ j < i + k
          · rw [if_pos hc, if_pos (by omega)]
          · rw [if_neg hc, if_neg (by omega)]) (fun u hI => by
      simp only [impl_prime_divide_l2, hx]
      rw [if_neg (by rw [decide_eq_true_eq]; omega), Int.toNat_natCast]) b.length 0 s (by omega) ⟨rfl, fun j => by rw [if_neg (by omega)]⟩
  refine ⟨s', h1, h2, fun j => ?_⟩
  rw [h3 j]
  unfold dstep
  rcases Nat.eq_zero_or_pos b.length with h0 | h0
  · rw [if_neg (by omega)]
    split
    · have : rd b (j - i) = 0 := rd_ge (by omega)
      have := hs j
      rw [show rd b (j - i) = 0 from rd_ge (by omega), Int.mul_zero, Int.sub_zero, Int.emod_eq_of_lt this.1 this.2]
    · rfl
  · simp only [show (i ≤ j ∧ j < i + b.length) = (i ≤ j ∧ j ≤ i + (b.length - 1)) from by rw [eq_iff_iff]; omega]
theorem divI_outer {p : Int} (hp : isP p = true) {b : List Int} (hb : Row p b) (h0 : b.length ≠ 0) {n : Nat} (hn : n ≤ 500000) : ∀ (i : Nat) (s t : List Int), i + b.length - 1 ≤ s.length → i ≤ n → s.length ≤ 1000000 → t.length = n → (∀ j, 0 ≤ rd s j ∧ rd s j < p) →
    ∃ s' t', loopM (fun q : Int × List Int × List Int => impl_prime_divide_l1 b p (inv p (lead b)) q.1 q.2.1 q.2.2) ((i : Int) - 1, s, t) = some (s', t') ∧ s'.length = s.length ∧ t'.length = n ∧
      (∀ j, rd s' j = drem p (rd b) (b.length - 1) (inv p (lead b)) i (rd s) j) ∧ ∀ j, rd t' j = if j < i then dquo p (rd b) (b.length - 1) (inv p (lead b)) i (rd s) j else rd t j
  | 0, s, t, _, _, _, ht, _ => by
    refine ⟨s, t, ?_, rfl, ht, fun _ => rfl, fun j => by rw [if_neg (by omega)]⟩
    have step : impl_prime_divide_l1 b p (inv p (lead b)) (((0 : Nat) : Int) - 1) s t = some (.inr (s, t)) := by
      simp only [impl_prime_divide_l1]
      rw [if_neg (by rw [decide_eq_true_eq]; omega)]
    rw [loopM_eq]
    simp only [step, Option.bind_some]
  | i + 1, s, t, hi, hin, hsl, ht, hs => by
    have hp2 := isP_pos hp
    have hinv := inv_is hp (lead_pos (show 0 < p by omega) hb h0)
    have hsx := hs (i + (b.length - 1))
    have hm := mul_small (x := rd s (i + (b.length - 1))) (y := inv p (lead b)) (by omega) (by omega)
    have hf := emod_res (show 0 < p by omega) (rd s (i + (b.length - 1)) * inv p (lead b))
    have e0 : ((i + 1 : Nat) : Int) - 1 = (i : Int) := by omega
    have e1 : IntKind.i64.wrap (IntKind.i64.wrap ((i : Int) + (b.length : Int)) - 1) = ((i + (b.length - 1) : Nat) : Int) := by
      rw [wrap64 (n := (i : Int) + (b.length : Int)) (by omega) (by omega), wrap64 (by omega) (by omega)]; omega
    have hx : Int.tmod (IntKind.i64.wrap (rd s (((i + (b.length - 1) : Nat) : Int)).toNat * inv p (lead b))) p = dfac p (inv p (lead b)) (b.length - 1) i (rd s) := by
      rw [Int.toNat_natCast, wrap64 (by omega) (by omega), Int.tmod_eq_emod_of_nonneg hm.1]; rfl
    obtain ⟨s1, g1, g2, g3⟩ := divI_inner hp2 hb (f := dfac p (inv p (lead b)) (b.length - 1) i (rd s)) hf (i := i) (s := s) (t := t) (by omega) hsl hs hx
    have hs1 : rd s1 = dstep p (rd b) (b.length - 1) (dfac p (inv p (lead b)) (b.length - 1) i (rd s)) i (rd s) := funext g3
    obtain ⟨s', t', k1, k2, k3, k4, k5⟩ := divI_outer hp hb h0 hn i s1 (t.set i (dfac p (inv p (lead b)) (b.length - 1) i (rd s))) (by omega) (by omega) (by omega) (by simpa using ht) (fun j => by rw [hs1]; exact dstep_res (by omega) hs _ i j)
    refine ⟨s', t', ?_, by omega, k3, fun j => ?_, fun j => ?_⟩
    · have step : impl_prime_divide_l1 b p (inv p (lead b)) (((i + 1 : Nat) : Int) - 1) s t = some (.inl ((i : Int) - 1, s1, t.set i (dfac p (inv p (lead b)) (b.length - 1) i (rd s)))) := by
        rw [e0]
        simp only [impl_prime_divide_l1, letp, e1]
        rw [if_pos (decide_eq_true (by omega)), ifp_pos (by omega), ifp_pos (by omega), ifp_pos (by omega), g1]
        simp only [Option.bind_some]
        rw [wrap64 (by omega) (by omega)]
      rw [loopM_eq]
      simp only [step, Option.bind_some]
      exact k1
    · rw [k4 j, hs1]; rfl
    · rw [k5 j, hs1]
      simp only [dquo]
      by_cases e : j = i
      · subst e
        rw [if_neg (by omega), if_pos (by omega), if_pos rfl, rd_set _ _ _ _ (by omega), if_pos rfl]
      · by_cases h : j < i
        · rw [if_pos h, if_pos (by omega), if_neg e]
        · rw [if_neg h, if_neg (by omega), rd_set _ _ _ _ (by omega), if_neg e]
theorem lead_is {b : List Int} (h0 : b.length ≠ 0) (hl : b.length ≤ 1000000) : impl_row_lead b = some (lead b) := by
  unfold impl_row_lead
  have e1 : IntKind.i64.wrap ((b.length : Int) - 1) = ((b.length - 1 : Nat) : Int) := by rw [wrap64 (by omega) (by omega)]; omega
  rw [if_neg (by rw [beq_iff_eq]; omega), e1, ifp_pos (by omega), Int.toNat_natCast]; rfl
theorem divideI_is {p : Int} (hp : isP p = true) {a b : List Int} (ha : Row p a) (hb : Row p b) (h0 : b.length ≠ 0) (la : a.length ≤ 500000) (lb : b.length ≤ 500000) : impl_prime_divide p a b = some (quo p a b, rem p a b) := by
  have hp2 := isP_pos hp
  unfold impl_prime_divide
  rw [clone_is (by omega)]
  simp only [Option.bind_some]
  rcases Nat.lt_or_ge a.length b.length with h | h
  · rw [if_pos (decide_eq_true (by omega))]
    have e1 : quo p a b = [] := by
      have := quo_len p a b
      exact List.eq_nil_of_length_eq_zero (by omega)
    have e2 : rem p a b = a := by
      unfold rem
      rw [show a.length + 1 - b.length = 0 by omega]
      exact ha.ofF (Nat.le_refl _)
    rw [e1, e2]
  · rw [if_neg (by rw [decide_eq_true_eq]; omega)]
    obtain ⟨n, hn⟩ : ∃ n : Nat, n = a.length + 1 - b.length := ⟨_, rfl⟩
    have e1 : IntKind.i64.wrap (IntKind.i64.wrap ((a.length : Int) - (b.length : Int)) + 1) = (n : Int) := by
      rw [wrap64 (n := (a.length : Int) - (b.length : Int)) (by omega) (by omega), wrap64 (by omega) (by omega)]; omega
    have hlead := lead_pos (show 0 < p by omega) hb h0
    simp only [letp, e1, lead_is h0 (by omega), inverse_impl hp hlead, Option.bind_some, Int.toNat_natCast, List.length_replicate]
    rw [ifp_pos (by omega), wrap64 (by omega) (by omega)]
    obtain ⟨s', t', k1, k2, k3, k4, k5⟩ := divI_outer hp hb h0 (n := n) (by omega) n a (List.replicate n 0) (by omega) (Nat.le_refl _) (by omega) (by simp) (fun j => ha.rd (by omega) j)
    rw [k1]
    simp only [Option.bind_some]
    rw [trimmed_is (by omega), trimmed_is (by omega)]
    simp only [Option.bind_some]
    rw [trim_eq, trim_eq, k2, k3]
    congr 2
    · rw [quo, ← hn]
      exact ofF_congr fun i hi => by rw [k5 i, if_pos hi]
    · rw [rem, ← hn]
      exact ofF_congr fun i _ => k4 i
end Go.Proofs.Ytdhcpekngpndnaa
/- Degrees. -/
namespace Go.Proofs.Ytdhcpekngpndnaa
open Go.Abs

theorem deg_loop (a : V64) : ∀ s : Int, (∃ i : Nat, s = (i : Int) - 1 ∧ i ≤ 64) → ∃ r, loopM (fun s : Int => spec_l01Deg_l1 a s) s = some r ∧ ∀ i : Nat, s = (i : Int) - 1 → r = (top (rd a.1) i : Int) - 1 := by
  refine loopM_ind (fun (s : Int) => ∃ i : Nat, s = (i : Int) - 1 ∧ i ≤ 64) (fun (s : Int) (r : Int) => ∀ i : Nat, s = (i : Int) - 1 → r = (top (rd a.1) i : Int) - 1) (fun s => (s + 1).toNat) ?_
  rintro s ⟨i, rfl, hi⟩
  match i with
  | 0 =>
    right
    refine ⟨-1, by simp [spec_l01Deg_l1], fun k hk => ?_⟩
    have : k = 0 := by omega
    subst this; simp [top]
  | i + 1 =>
    have e1 : ((i + 1 : Nat) : Int) - 1 = (i : Int) := by omega
    rw [e1]
    by_cases e : rd a.1 i = 0
    · left
      refine ⟨(i : Int) - 1, ?_, ⟨i, rfl, by omega⟩, by omega, fun r hr k hk => ?_⟩
      · simp only [spec_l01Deg_l1]
        rw [if_pos (by simp), ifp_pos (by omega)]
        simp [e]
        exact wrap64 (by omega) (by omega)
      · have : k = i + 1 := by omega
        subst this
        rw [hr i rfl]; simp [top, e]
    · right
      refine ⟨(i : Int), ?_, fun k hk => ?_⟩
      · simp only [spec_l01Deg_l1]
        rw [if_pos (by simp), ifp_pos (by omega)]
        simp [e]
      · have : k = i + 1 := by omega
        subst this
        simp [top, e]

theorem deg_is (a : V64) : spec_l01Deg a = some ((top (rd a.1) 64 : Int) - 1) := by
  obtain ⟨r, h1, h2⟩ := deg_loop a 63 ⟨64, by omega, by omega⟩
  rw [h2 64 (by omega)] at h1
  simp only [spec_l01Deg, h1, Option.bind_some]
end Go.Proofs.Ytdhcpekngpndnaa
/- Division, in the reference. -/
namespace Go.Proofs.Ytdhcpekngpndnaa
open Go.Abs

theorem divS_inner {p f y : Int} (hp : 2 ≤ p ∧ p ≤ 7) {b : V64} (hb : Res p b) (hf : 0 ≤ f ∧ f < p) (hy : Int.tmod y p = f) {i m : Nat} (hi : i + m < 64) {s t : V64} (hs : Res p s) :
    ∃ s', loopM (fun q : Int × V64 => spec_l01Divide_l2 (m : Int) y p ((i + m : Nat) : Int) b t q.1 q.2) (0, s) = some (s', vset t i f) ∧ Res p s' ∧ ∀ j, j < 64 → rd s'.1 j = dstep p (rd b.1) m f i (rd s.1) j := by
  have e0 : IntKind.i64.wrap (((i + m : Nat) : Int) - (m : Int)) = (i : Int) := by rw [wrap64 (by omega) (by omega)]; omega
  by_cases h0 : f = 0
  · refine ⟨s, ?_, hs, fun j hj => ?_⟩
    · have step : spec_l01Divide_l2 (m : Int) y p ((i + m : Nat) : Int) b t 0 s = some (.inr (s, vset t i f)) := by
        simp only [spec_l01Divide_l2, hy]
        rw [if_pos (decide_eq_true (by omega))]
        simp only [Option.bind_some]
        rw [if_neg (by rw [h0]; simp), e0, Int.toNat_natCast, wrap8 (by omega) (by omega)]
      rw [loopM_eq]
      simp only [step, Option.bind_some]
    · unfold dstep
      split
      · have := hs j hj
        rw [h0, Int.zero_mul, Int.sub_zero, Int.emod_eq_of_lt this.1 this.2]
      · rfl
  · obtain ⟨s', h1, h2, h3⟩ := loopM_for (body := fun q : Int × V64 => spec_l01Divide_l2 (m : Int) y p ((i + m : Nat) : Int) b t q.1 q.2) (fun k (u : V64) => ((k : Int), u)) (fun u => (u, vset t i f)) (m + 1)
      (fun k u => Res p u ∧ ∀ j, j < 64 → rd u.1 j = if i ≤ j ∧ j < i + k then (rd s.1 j - f * rd b.1 (j - i)) % p else rd s.1 j) (fun k u hk hI => by
        obtain ⟨hur, hu⟩ := hI
        have hbk := hb k (by omega)
        have hsk := hs (i + k) (by omega)
        have hm := mul_small (x := f) (y := rd b.1 k) (by omega) (by omega)
        have e1 : IntKind.i64.wrap ((i : Int) + (k : Int)) = ((i + k : Nat) : Int) := by rw [wrap64 (by omega) (by omega)]; omega
        have huk := hu (i + k) (by omega)
        rw [if_neg (by omega)] at huk
        have ht1 := Int.lt_tmod_of_pos (rd s.1 (i + k) - f * rd b.1 k) (show 0 < p by omega)
        have ht2 := Int.tmod_lt_of_pos (rd s.1 (i + k) - f * rd b.1 k) (show 0 < p by omega)
        have hr := emod_res (show 0 < p by omega) (rd s.1 (i + k) - f * rd b.1 k)
        refine ⟨vset u (i + k) ((rd s.1 (i + k) - f * rd b.1 k) % p), ?_, fun j hj => ?_, fun j hj => ?_⟩
        · simp only [spec_l01Divide_l2, letp, hy, e0]
          rw [if_pos (decide_eq_true (by omega))]
          simp only [Option.bind_some]
          rw [if_pos (by simpa using h0), e1, ifp_pos (by omega), ifp_pos (by omega), ifp_pos (by omega), ifp_pos (by omega), ifp_pos (by omega), Int.toNat_natCast, Int.toNat_natCast, huk]
          rw [wrap64 (n := rd b.1 k) (by omega) (by omega), wrap64 (n := f * rd b.1 k) (by omega) (by omega), wrap64 (n := rd s.1 (i + k)) (by omega) (by omega), wrap64 (n := rd s.1 (i + k) - f * rd b.1 k) (by omega) (by omega), wrap64 (n := _ + p) (by omega) (by omega), tmod_fix (by omega), wrap8 (by omega) (by omega), wrap64 (by omega) (by omega)]
          rfl
        · rw [rd_vset _ _ _ _ (by omega)]
          split
          · exact hr
          · exact hur j hj
        · rw [rd_vset _ _ _ _ (by omega), hu j hj]
          by_cases e : j = i + k
          · subst e
            rw [if_pos rfl, if_pos (by omega), show i + k - i = k by omega]
          · rw [if_neg e]
            by_cases hc : i ≤ j ∧ j < i + k
            · rw [if_pos hc, if_pos (by omega)]
            · rw [if_neg hc, if_neg (by omega)]) (fun u hI => by
        simp only [spec_l01Divide_l2, hy, e0]
        rw [if_neg (by rw [decide_eq_true_eq]; omega)]
        simp only [Option.bind_some, Bool.false_eq_true, if_false]
        rw [Int.toNat_natCast, wrap8 (by omega) (by omega)]) (m + 1) 0 s (by omega) ⟨hs, fun j hj => by rw [if_neg (by omega)]⟩
    refine ⟨s', h1, h2, fun j hj => ?_⟩
    rw [h3 j hj]
    unfold dstep
    simp only [show (i ≤ j ∧ j < i + (m + 1)) = (i ≤ j ∧ j ≤ i + m) from by rw [eq_iff_iff]; omega]
theorem dstep_congr {p f : Int} {b b' r r' : Nat → Int} {m i : Nat} (hb : ∀ j, j < 64 → b j = b' j) (hr : ∀ j, j < 64 → r j = r' j) (j : Nat) (hj : j < 64) : dstep p b m f i r j = dstep p b' m f i r' j := by
  unfold dstep
  split
  · rw [hr j hj, hb (j - i) (by omega)]
  · exact hr j hj
theorem divS_outer {p : Int} (hp : isP p = true) {b : V64} (hb : Res p b) {m : Nat} {iv : Int} (hiv : 0 ≤ iv ∧ iv < p) : ∀ (i : Nat) (s t : V64), i + m ≤ 64 → Res p s →
    ∃ s' t', loopM (fun q : Int × V64 × V64 => spec_l01Divide_l1 (m : Int) iv p b q.1 q.2.1 q.2.2) ((i : Int) + m - 1, s, t) = some (s', t') ∧
      (∀ j, j < 64 → rd s'.1 j = drem p (rd b.1) m iv i (rd s.1) j) ∧ ∀ j, j < 64 → rd t'.1 j = if j < i then dquo p (rd b.1) m iv i (rd s.1) j else rd t.1 j
  | 0, s, t, hi, _ => by
    refine ⟨s, t, ?_, fun _ _ => rfl, fun j _ => by rw [if_neg (by omega)]⟩
    have step : spec_l01Divide_l1 (m : Int) iv p b (((0 : Nat) : Int) + m - 1) s t = some (.inr (s, t)) := by
      simp only [spec_l01Divide_l1]
      rw [if_neg (by rw [decide_eq_true_eq]; omega)]
    rw [loopM_eq]
    simp only [step, Option.bind_some]
  | i + 1, s, t, hi, hs => by
    have hp2 := isP_pos hp
    have hsx := hs (i + m) (by omega)
    have hm := mul_small (x := rd s.1 (i + m)) (y := iv) (by omega) (by omega)
    have hf := emod_res (show 0 < p by omega) (rd s.1 (i + m) * iv)
    have e0 : ((i + 1 : Nat) : Int) + m - 1 = ((i + m : Nat) : Int) := by omega
    have e1 : IntKind.i64.wrap (((i + m : Nat) : Int) - (m : Int)) = (i : Int) := by rw [wrap64 (by omega) (by omega)]; omega
    have hy : Int.tmod (rd s.1 (i + m) * iv) p = dfac p iv m i (rd s.1) := Int.tmod_eq_emod_of_nonneg hm.1
    obtain ⟨s1, g1, g2, g3⟩ := divS_inner hp2 hb (f := dfac p iv m i (rd s.1)) hf hy (i := i) (m := m) (by omega) (t := t) hs
    obtain ⟨s', t', k1, k2, k3⟩ := divS_outer hp hb (m := m) hiv i s1 (vset t i (dfac p iv m i (rd s.1))) (by omega) g2
    -- the functions agree on the places that there are
    have hz : ∀ j, 64 ≤ j → rd s1.1 j = dstep p (rd b.1) m (dfac p iv m i (rd s.1)) i (rd s.1) j := fun j hj => by
      rw [rd_ge (by rw [s1.2]; exact hj)]
      unfold dstep
      rw [if_neg (by omega), rd_ge (by rw [s.2]; exact hj)]
    have hs1 : rd s1.1 = dstep p (rd b.1) m (dfac p iv m i (rd s.1)) i (rd s.1) := funext fun j => by
      rcases Nat.lt_or_ge j 64 with h | h
      · exact g3 j h
      · exact hz j h
    refine ⟨s', t', ?_, fun j hj => ?_, fun j hj => ?_⟩
    · have step : spec_l01Divide_l1 (m : Int) iv p b (((i + 1 : Nat) : Int) + m - 1) s t = some (.inl ((i : Int) + m - 1, s1, vset t i (dfac p iv m i (rd s.1)))) := by
        rw [e0]
        simp only [spec_l01Divide_l1, letp, e1]
        rw [if_pos (decide_eq_true (by omega)), ifp_pos (by omega), Int.toNat_natCast, wrap64 (n := rd s.1 (i + m)) (by omega) (by omega), wrap64 (n := iv) (by omega) (by omega), wrap64 (n := rd s.1 (i + m) * iv) (by omega) (by omega), ifp_pos (by omega), ifp_pos (by omega), g1]
        simp only [Option.bind_some]
        rw [wrap64 (by omega) (by omega)]
        congr 3
      rw [loopM_eq]
      simp only [step, Option.bind_some]
      exact k1
    · rw [k2 j hj, hs1]; rfl
    · rw [k3 j hj, hs1]
      simp only [dquo]
      by_cases e : j = i
      · subst e
        rw [if_neg (by omega), if_pos (by omega), if_pos rfl, rd_vset _ _ _ _ hj, if_pos rfl]
      · by_cases h : j < i
        · rw [if_pos h, if_pos (by omega), if_neg e]
        · rw [if_neg h, if_neg (by omega), rd_vset _ _ _ _ (by omega), if_neg e]
theorem rd_pad_fun {l : List Int} (hl : l.length ≤ 64) : rd (pad l).1 = rd l := funext fun j => by
  rcases Nat.lt_or_ge j 64 with h | h
  · exact rd_padl l h
  · rw [rd_ge (by rw [(pad l).2]; exact h), rd_ge (by omega)]
theorem divideS_is {p : Int} (hp : isP p = true) {a b : List Int} (ha : Row p a) (hb : Row p b) (h0 : b.length ≠ 0) (la : a.length ≤ 64) (lb : b.length ≤ 64) : spec_l01Divide p (pad a) (pad b) = some (pad (quo p a b), pad (rem p a b)) := by
  have hp2 := isP_pos hp
  have hta : top (rd (pad a).1) 64 = a.length := by rw [top_congr 64 fun i hi => rd_padl a hi, ha.top la]
  have htb : top (rd (pad b).1) 64 = b.length := by rw [top_congr 64 fun i hi => rd_padl b hi, hb.top lb]
  have hlead := lead_pos (show 0 < p by omega) hb h0
  have hinv := inv_is hp hlead
  have e1 : ((b.length : Nat) : Int) - 1 = ((b.length - 1 : Nat) : Int) := by omega
  simp only [spec_l01Divide, deg_is, hta, htb, Option.bind_some, e1]
  have hl : rd (pad b).1 (b.length - 1) = lead b := by rw [rd_padl _ (by omega)]; rfl
  rw [ifp_pos (by omega), Int.toNat_natCast, hl, inverse_spec hp hlead]
  simp only [Option.bind_some]
  rcases Nat.lt_or_ge a.length b.length with h | h
  · have step : spec_l01Divide_l1 ((b.length - 1 : Nat) : Int) (inv p (lead b)) p (pad b) ((a.length : Int) - 1) (pad a) (vrep 64 0) = some (.inr (pad a, vrep 64 0)) := by
      simp only [spec_l01Divide_l1]
      rw [if_neg (by rw [decide_eq_true_eq]; omega)]
    rw [loopM_eq]
    simp only [step, Option.bind_some]
    have e2 : quo p a b = [] := by
      have := quo_len p a b
      exact List.eq_nil_of_length_eq_zero (by omega)
    have e3 : rem p a b = a := by
      unfold rem
      rw [show a.length + 1 - b.length = 0 by omega]
      exact ha.ofF (Nat.le_refl _)
    rw [e2, e3, pad_nil]
  · obtain ⟨s', t', k1, k2, k3⟩ := divS_outer hp (res_pad hb (by omega)) (m := b.length - 1) (iv := inv p (lead b)) ⟨by omega, hinv.2.1⟩ (a.length + 1 - b.length) (pad a) (vrep 64 0) (by omega) (res_pad ha (by omega))
    have e2 : ((a.length + 1 - b.length : Nat) : Int) + ((b.length - 1 : Nat) : Int) - 1 = (a.length : Int) - 1 := by omega
    rw [e2] at k1
    rw [k1]
    simp only [Option.bind_some]
    rw [rd_pad_fun la, rd_pad_fun lb] at k2 k3
    congr 2
    · refine vec_ext fun j hj => ?_
      rw [k3 j hj, rd_padl _ hj, quo_rd]
      split
      · rfl
      · rw [rd_vrep _ hj, dquo_ge _ _ _ (by omega)]
    · refine vec_ext fun j hj => ?_
      rw [k2 j hj, rd_padl _ hj, rem_rd a h0]
end Go.Proofs.Ytdhcpekngpndnaa
/- Products, in the reference. -/
namespace Go.Proofs.Ytdhcpekngpndnaa
open Go.Abs

/-- One row of the reference's product. -/
theorem timesS_row {p : Int} (hp : 2 ≤ p ∧ p ≤ 256) {a b : V64} (ha : Res p a) (hb : Res p b) {i db : Nat} (hi : i + db < 64) {v : V64} (hv : Res p v) :
    ∃ v', loopM (fun s : Int × V64 => spec_l01Times_l2 (db : Int) (i : Int) a b p s.1 s.2) (0, v) = some v' ∧ Res p v' ∧ ∀ k, k < 64 → rd v'.1 k = if i ≤ k ∧ k ≤ i + db then (rd v.1 k + rd a.1 i * rd b.1 (k - i)) % p else rd v.1 k := by
  by_cases h0 : rd a.1 i = 0
  · refine ⟨v, ?_, hv, fun k hk => ?_⟩
    · rw [loopM_eq]
      simp only [spec_l01Times_l2]
      rw [ifp_pos (by omega)]
      simp [h0]
    · rw [h0]
      split
      · have := hv k hk
        rw [Int.zero_mul, Int.add_zero, Int.emod_eq_of_lt this.1 this.2]
      · rfl
  · have hai := ha i (by omega)
    obtain ⟨v', h1, h2, h3⟩ := loopM_for (body := fun s : Int × V64 => spec_l01Times_l2 (db : Int) (i : Int) a b p s.1 s.2) (fun j (v : V64) => ((j : Int), v)) (fun v => v) (db + 1)
      (fun j u => Res p u ∧ ∀ k, k < 64 → rd u.1 k = if i ≤ k ∧ k < i + j then (rd v.1 k + rd a.1 i * rd b.1 (k - i)) % p else rd v.1 k) (fun j u hj hI => by
        obtain ⟨hr, hk⟩ := hI
        have hbj := hb j (by omega)
        have huj := hr (i + j) (by omega)
        have e1 : IntKind.i64.wrap ((i : Int) + (j : Int)) = ((i + j : Nat) : Int) := by rw [wrap64 (by omega) (by omega)]; omega
        have hm := mul_small (x := rd a.1 i) (y := rd b.1 j) (by omega) (by omega)
        have hmod : Int.tmod (rd u.1 (i + j) + rd a.1 i * rd b.1 j) p = (rd u.1 (i + j) + rd a.1 i * rd b.1 j) % p := Int.tmod_eq_emod_of_nonneg (by omega)
        have hlt := emod_res (show 0 < p by omega) (rd u.1 (i + j) + rd a.1 i * rd b.1 j)
        refine ⟨vset u (i + j) ((rd u.1 (i + j) + rd a.1 i * rd b.1 j) % p), ?_, fun k hk' => ?_, fun k hk' => ?_⟩
        · simp only [spec_l01Times_l2, letp]
          rw [if_pos (by simp; omega), ifp_pos (by omega)]
          simp only [Option.bind_some]
          rw [if_pos (by simpa using h0), e1]
          rw [ifp_pos (by omega), ifp_pos (by omega), ifp_pos (by omega), ifp_pos (by omega), ifp_pos (by omega)]
          simp only [Int.toNat_natCast]
          rw [wrap64 (n := rd u.1 (i + j)) (by omega) (by omega), wrap64 (n := rd a.1 i) (by omega) (by omega), wrap64 (n := rd b.1 j) (by omega) (by omega), wrap64 (n := rd a.1 i * rd b.1 j) (by omega) (by omega), wrap64 (n := rd u.1 (i + j) + rd a.1 i * rd b.1 j) (by omega) (by omega), hmod, wrap8 hlt.1 (by omega), wrap64 (by omega) (by omega)]
          rfl
        · rw [rd_vset _ _ _ _ (by omega)]
          split
          · exact hlt
          · exact hr k hk'
        · rw [rd_vset _ _ _ _ (by omega)]
          by_cases e : k = i + j
          · subst e
            rw [if_pos rfl, if_pos (by omega), hk _ hk', if_neg (by omega), show i + j - i = j by omega]
          · rw [if_neg e, hk k hk']
            by_cases hc : i ≤ k ∧ k < i + j
            · rw [if_pos hc, if_pos (by omega)]
            · rw [if_neg hc, if_neg (by omega)]) (fun u hI => by
        simp only [spec_l01Times_l2]
        rw [if_neg (by simp; omega)]
        rfl) (db + 1) 0 v (by omega) ⟨hv, fun k hk => by rw [if_neg (by omega)]⟩
    exact ⟨v', h1, h2, fun k hk => by rw [h3 k hk]; simp only [show (i ≤ k ∧ k < i + (db + 1)) = (i ≤ k ∧ k ≤ i + db) from by rw [eq_iff_iff]; omega]⟩


theorem times_pad {p : Int} (hp : 2 ≤ p ∧ p ≤ 256) {a b : List Int} (ha : Row p a) (hb : Row p b) (la : a.length ≤ 64) (lb : b.length ≤ 64) (hl : a.length = 0 ∨ b.length = 0 ∨ a.length + b.length ≤ 65) :
    spec_l01Times p (pad a) (pad b) = some (pad (mul p a b), true) := by
  have hta : top (rd (pad a).1) 64 = a.length := by rw [top_congr 64 fun i hi => rd_padl a hi, ha.top la]
  have htb : top (rd (pad b).1) 64 = b.length := by rw [top_congr 64 fun i hi => rd_padl b hi, hb.top lb]
  simp only [spec_l01Times, deg_is, Option.bind_some, hta, htb]
  by_cases h1 : a.length = 0
  · have e : a = [] := List.eq_nil_of_length_eq_zero h1
    subst e
    simp [mul_nil, pad_nil]
  by_cases h2 : b.length = 0
  · have e : b = [] := List.eq_nil_of_length_eq_zero h2
    subst e
    simp [mul_nil', pad_nil]
  have hra := res_pad ha (show 0 < p by omega)
  have hrb := res_pad hb (show 0 < p by omega)
  obtain ⟨db, hdb⟩ : ∃ db : Nat, b.length = db + 1 := ⟨b.length - 1, by omega⟩
  obtain ⟨da, hda⟩ : ∃ da : Nat, a.length = da + 1 := ⟨a.length - 1, by omega⟩
  have e1 : ((a.length : Nat) : Int) - 1 = (da : Int) := by omega
  have e2 : ((b.length : Nat) : Int) - 1 = (db : Int) := by omega
  rw [e1, e2, wrap64 (by omega) (by omega)]
  simp only [show (decide ((da : Int) < 0)) = false by simp, Bool.false_eq_true, if_false, show (decide ((db : Int) < 0)) = false by simp, show (decide ((da : Int) + (db : Int) > 63)) = false by simp; omega, Option.bind_some]
  obtain ⟨v, h3, h4, h5⟩ := loopM_for (body := fun s : Int × V64 => spec_l01Times_l1 (da : Int) (db : Int) (pad a) (pad b) p s.1 s.2) (fun i v => ((i : Int), v)) (fun v => v) (da + 1)
    (fun i v => Res p v ∧ ∀ k, k < 64 → rd v.1 k = cv (rd a) (rd b) i k % p) (fun i v hi hI => by
      obtain ⟨hv, hk⟩ := hI
      obtain ⟨v', g1, g2, g3⟩ := timesS_row hp hra hrb (i := i) (db := db) (by omega) hv
      refine ⟨v', ?_, g2, fun k hk' => ?_⟩
      · simp only [spec_l01Times_l1]
        rw [if_pos (by simp; omega), g1]
        simp only [Option.bind_some]
        rw [wrap64 (by omega) (by omega)]; rfl
      · rw [g3 k hk', hk k hk', cv_succ]
        by_cases hc : i ≤ k ∧ k ≤ i + db
        · rw [if_pos hc, if_pos hc.1, rd_padl _ (by omega), rd_padl _ (by omega), Int.emod_add_emod]
        · rw [if_neg hc]
          by_cases hik : i ≤ k
          · rw [if_pos hik, rd_ge (l := b) (by omega), Int.mul_zero, Int.add_zero]
          · rw [if_neg hik, Int.add_zero]) (fun v hI => by
      simp only [spec_l01Times_l1]
      rw [if_neg (by simp; omega)]) (da + 1) 0 (vrep 64 0) (by omega) ⟨fun j hj => by rw [rd_vrep _ hj]; omega, fun k hk => by rw [rd_vrep _ hk]; simp [cv, sumTo]⟩
  have h3' : loopM (fun s : Int × V64 => spec_l01Times_l1 (da : Int) (db : Int) (pad a) (pad b) p s.1 s.2) (0, vrep 64 0) = some v := h3
  rw [h3']
  simp only [Option.bind_some]
  congr 2
  exact vec_ext fun k hk => by rw [h5 k hk, rd_padl _ hk, mul_rd, cv_conv fun i hi => rd_ge (by omega)]

theorem times_pad_no {p : Int} {a b : List Int} (ha : Row p a) (hb : Row p b) (la : a.length ≤ 64) (lb : b.length ≤ 64) (h1 : a.length ≠ 0) (h2 : b.length ≠ 0) (hl : 65 < a.length + b.length) :
    spec_l01Times p (pad a) (pad b) = some (vrep 64 0, false) := by
  have hta : top (rd (pad a).1) 64 = a.length := by rw [top_congr 64 fun i hi => rd_padl a hi, ha.top la]
  have htb : top (rd (pad b).1) 64 = b.length := by rw [top_congr 64 fun i hi => rd_padl b hi, hb.top lb]
  simp only [spec_l01Times, deg_is, Option.bind_some, hta, htb]
  rw [wrap64 (by omega) (by omega)]
  simp only [show (decide (((a.length : Nat) : Int) - 1 < 0)) = false by simp; omega, Bool.false_eq_true, if_false, show (decide (((b.length : Nat) : Int) - 1 < 0)) = false by simp; omega, show (decide (((a.length : Nat) : Int) - 1 + (((b.length : Nat) : Int) - 1) > 63)) = true by simp; omega, Option.bind_some, if_true]
end Go.Proofs.Ytdhcpekngpndnaa
/- Products, in the program. -/
namespace Go.Proofs.Ytdhcpekngpndnaa
open Go.Abs


theorem cv_small {a b : Nat → Int} (ha : ∀ i, 0 ≤ a i ∧ a i < 256) (hb : ∀ i, 0 ≤ b i ∧ b i < 256) (k : Nat) : ∀ n : Nat, 0 ≤ cv a b n k ∧ cv a b n k ≤ n * 65025
  | 0 => by simp [cv, sumTo]
  | n + 1 => by
    rw [cv_succ]
    have h1 := cv_small ha hb k n
    have h2 := mul_small (ha n) (hb (k - n))
    split <;> omega

/-- The program's product. -/
theorem times_is {p : Int} (hp : 2 ≤ p ∧ p ≤ 256) {a b : List Int} (ha : Ent a) (hb : Ent b) (la : a.length ≤ 500000) (lb : b.length ≤ 500000) : impl_prime_times p a b = some (mul p a b) := by
  simp only [impl_prime_times, letp]
  by_cases h1 : a.length = 0
  · have e : a = [] := List.eq_nil_of_length_eq_zero h1
    subst e
    simp [mul_nil]
  by_cases h2 : b.length = 0
  · have e : b = [] := List.eq_nil_of_length_eq_zero h2
    subst e
    simp [mul_nil']
  obtain ⟨n, hn⟩ : ∃ n : Nat, n = a.length + b.length - 1 := ⟨_, rfl⟩
  have e0 : IntKind.i64.wrap (IntKind.i64.wrap ((a.length : Int) + (b.length : Int)) - 1) = (n : Int) := by
    rw [wrap64 (n := (a.length : Int) + (b.length : Int)) (by omega) (by omega), wrap64 (by omega) (by omega)]; omega
  rw [e0]
  have c1 : (if ((a.length : Int) == 0) = true then some true else some ((b.length : Int) == 0)) = some false := by
    rw [if_neg (by rw [beq_iff_eq]; omega)]
    congr 1
    rw [beq_eq_false_iff_ne]; omega
  rw [c1]
  simp only [Bool.false_eq_true, if_false, Option.bind_some, Int.toNat_natCast]
  rw [ifp_pos (by omega)]
  -- one row
  have hrow : ∀ (i : Nat) (s : List Int), i < a.length → s.length = n → (∀ k, rd s k = cv (rd a) (rd b) i k) →
      ∃ s', loopM (fun s : Int × List Int => impl_prime_times_l2 b (i : Int) a s.1 s.2) (0, s) = some s' ∧ s'.length = n ∧ ∀ k, rd s' k = cv (rd a) (rd b) (i + 1) k := by
    intro i s hi hsl hs
    have hai := ha i
    obtain ⟨s', g1, g2, g3⟩ := loopM_for (body := fun s : Int × List Int => impl_prime_times_l2 b (i : Int) a s.1 s.2) (fun j (u : List Int) => ((j : Int), u)) (fun u => u) b.length
      (fun j u => u.length = n ∧ ∀ k, rd u k = if i ≤ k ∧ k < i + j then cv (rd a) (rd b) (i + 1) k else cv (rd a) (rd b) i k) (fun j u hj hI => by
        obtain ⟨hul, hu⟩ := hI
        have hbj := hb j
        have hm := mul_small hai hbj
        have hc := cv_small ha hb (i + j) i
        have e1 : IntKind.i64.wrap ((i : Int) + (j : Int)) = ((i + j : Nat) : Int) := by rw [wrap64 (by omega) (by omega)]; omega
        have huj := hu (i + j)
        rw [if_neg (by omega)] at huj
        have e2 : cv (rd a) (rd b) (i + 1) (i + j) = cv (rd a) (rd b) i (i + j) + rd a i * rd b j := by
          rw [cv_succ, if_pos (by omega), show i + j - i = j by omega]
        refine ⟨u.set (i + j) (cv (rd a) (rd b) (i + 1) (i + j)), ?_, by simpa using hul, fun k => ?_⟩
        · simp only [impl_prime_times_l2, letp]
          rw [if_pos (by simp; omega), e1]
          rw [ifp_pos (by omega), ifp_pos (by omega), ifp_pos (by omega)]
          simp only [Int.toNat_natCast]
          rw [huj, wrap64 (n := rd a i * rd b j) (by omega) (by omega), wrap64 (n := cv (rd a) (rd b) i (i + j) + rd a i * rd b j) (by omega) (by omega), wrap64 (by omega) (by omega), e2]
          rfl
        · rw [rd_set _ _ _ _ (by omega)]
          by_cases e : k = i + j
          · subst e
            rw [if_pos rfl, if_pos (by omega)]
          · rw [if_neg e, hu k]
            by_cases hc : i ≤ k ∧ k < i + j
            · rw [if_pos hc, if_pos (by omega)]
            · rw [if_neg hc, if_neg (by omega)]) (fun u hI => by
        simp only [impl_prime_times_l2]
        rw [if_neg (by simp)]) b.length 0 s (by omega) ⟨hsl, fun k => by rw [hs k, if_neg (by omega)]⟩
    refine ⟨s', g1, g2, fun k => ?_⟩
    rw [g3 k]
    split
    · rfl
    · rename_i hc
      rw [cv_succ]
      by_cases hik : i ≤ k
      · rw [if_pos hik, rd_ge (l := b) (by omega), Int.mul_zero, Int.add_zero]
      · rw [if_neg hik, Int.add_zero]
  obtain ⟨s, h3, h4, h5⟩ := loopM_for (body := fun s : Int × List Int => impl_prime_times_l1 a b s.1 s.2) (fun i (u : List Int) => ((i : Int), u)) (fun u => u) a.length
    (fun i u => u.length = n ∧ ∀ k, rd u k = cv (rd a) (rd b) i k) (fun i u hi hI => by
      obtain ⟨u', g1, g2, g3⟩ := hrow i u hi hI.1 hI.2
      refine ⟨u', ?_, g2, g3⟩
      simp only [impl_prime_times_l1]
      rw [if_pos (by simp; omega), ifp_pos (by omega), g1]
      simp only [Option.bind_some]
      rw [wrap64 (by omega) (by omega)]; rfl) (fun u hI => by
      simp only [impl_prime_times_l1]
      rw [if_neg (by simp)]) a.length 0 (List.replicate n 0) (by omega) ⟨by simp, fun k => by rw [rd_rep]; simp [cv, sumTo]⟩
  have h3' : loopM (fun s : Int × List Int => impl_prime_times_l1 a b s.1 s.2) (0, List.replicate n 0) = some s := h3
  rw [h3']
  simp only [Option.bind_some]
  obtain ⟨t, h6, h7, h8⟩ := loopM_for (body := fun q : Int × List Int => impl_prime_times_l3 s p q.1 q.2) (fun i (u : List Int) => ((i : Int), u)) (fun u => u) n
    (fun i u => u.length = n ∧ ∀ k, rd u k = if k < i then cv (rd a) (rd b) a.length k % p else cv (rd a) (rd b) a.length k) (fun i u hi hI => by
      obtain ⟨hul, hu⟩ := hI
      have hui := hu i
      rw [if_neg (by omega)] at hui
      have hc := cv_small ha hb i a.length
      refine ⟨u.set i (cv (rd a) (rd b) a.length i % p), ?_, by simpa using hul, fun k => ?_⟩
      · simp only [impl_prime_times_l3]
        rw [if_pos (by simp; omega), ifp_pos (by omega), ifp_pos (by omega), ifp_pos (by omega)]
        simp only [Int.toNat_natCast]
        rw [hui, Int.tmod_eq_emod_of_nonneg hc.1, wrap64 (by omega) (by omega)]; rfl
      · rw [rd_set _ _ _ _ (by omega), hu k]
        by_cases e : k = i
        · subst e; simp
        · rw [if_neg e]
          simp only [show (k < i + 1) = (k < i) from by rw [eq_iff_iff]; omega]) (fun u hI => by
      simp only [impl_prime_times_l3]
      rw [if_neg (by simp; omega)]) n 0 s (by omega) ⟨h4, fun k => by rw [h5 k, if_neg (by omega)]⟩
  have h6' : loopM (fun q : Int × List Int => impl_prime_times_l3 s p q.1 q.2) (0, s) = some t := h6
  rw [h6']
  simp only [Option.bind_some]
  rw [trimmed_is (by omega), trim_eq, h7]
  simp only [Option.bind_some]
  congr 1
  rw [mul, ← hn]
  exact ofF_congr fun k hk => by rw [h8 k, if_pos hk, cv_conv fun i hi => rd_ge (by omega)]
end Go.Proofs.Ytdhcpekngpndnaa
/- Sums, in the reference. -/
namespace Go.Proofs.Ytdhcpekngpndnaa
open Go.Abs

theorem add_is {p k : Int} {a b : V64} (hp : 0 < p ∧ p ≤ 256) (ha : V64.Ent a) (hb : V64.Ent b) (hk : -1099511627776 ≤ k ∧ k ≤ 1099511627776) :
    ∃ v, spec_l01Add p a b k = some v ∧ ∀ j, j < 64 → rd v.1 j = (rd a.1 j + k * rd b.1 j) % p := by
  obtain ⟨s, h1, h2⟩ := loopM_for (body := fun s : Int × V64 => spec_l01Add_l1 k b p s.1 s.2) (fun i s => ((i : Int), s)) (fun s => s) 64
    (fun i s => ∀ j, j < 64 → rd s.1 j = if j < i then (rd a.1 j + k * rd b.1 j) % p else rd a.1 j) (fun i s hi hI => by
      have hs := hI i hi
      rw [if_neg (by omega)] at hs
      have h1 := ha i hi
      have h0 := hb i hi
      have h2 := mulk (hb i hi) hk
      have h3 := Int.lt_tmod_of_pos (rd a.1 i + k * rd b.1 i) hp.1
      have h4 := Int.tmod_lt_of_pos (rd a.1 i + k * rd b.1 i) hp.1
      have h5 := emod_res hp.1 (rd a.1 i + k * rd b.1 i)
      refine ⟨vset s i ((rd a.1 i + k * rd b.1 i) % p), ?_, fun j hj => ?_⟩
      · simp only [spec_l01Add_l1, letp, Int.toNat_natCast, hs]
        rw [if_pos (by simp; omega), ifp_pos (by omega), ifp_pos (by omega), ifp_pos (by omega), ifp_pos (by omega), ifp_pos (by omega)]
        rw [wrap64 (n := rd b.1 i) (by omega) (by omega), wrap64 (n := rd a.1 i) (by omega) (by omega), wrap64 (n := k * rd b.1 i) (by omega) (by omega), wrap64 (n := rd a.1 i + k * rd b.1 i) (by omega) (by omega), wrap64 (n := _ + p) (by omega) (by omega), tmod_fix hp.1, wrap8 (by omega) (by omega), wrap64 (by omega) (by omega)]
        rfl
      · rw [rd_vset _ _ _ _ hi, hI j hj]
        by_cases h : j = i
        · subst h; simp
        · rw [if_neg h]
          simp only [show (j < i + 1) = (j < i) from by rw [eq_iff_iff]; omega]) (fun s hI => by
      simp only [spec_l01Add_l1, letp]
      rw [if_neg (by simp)]) 64 0 a (by omega) (fun j hj => by rw [if_neg (by omega)])
  refine ⟨s, ?_, fun j hj => by rw [h2 j hj, if_pos hj]⟩
  have h1' : loopM (fun s : Int × V64 => spec_l01Add_l1 k b p s.1 s.2) (0, a) = some s := h1
  simp only [spec_l01Add, h1', Option.bind_some]

theorem add_pad {p k : Int} {a b : List Int} (hp : 0 < p ∧ p ≤ 256) (ha : Row p a) (hb : Row p b) (la : a.length ≤ 64) (lb : b.length ≤ 64) (hk : -1099511627776 ≤ k ∧ k ≤ 1099511627776) :
    spec_l01Add p (pad a) (pad b) k = some (pad (comb p a b k)) := by
  obtain ⟨v, h1, h2⟩ := add_is hp (ent_pad ha hp) (ent_pad hb hp) hk
  rw [h1]
  congr 1
  exact vec_ext fun j hj => by rw [h2 j hj, rd_padl _ hj, rd_padl _ hj, rd_padl _ hj, comb_rd]
end Go.Proofs.Ytdhcpekngpndnaa
/- One. -/
namespace Go.Proofs.Ytdhcpekngpndnaa
open Go.Abs

theorem row_one {p : Int} (hp : 2 ≤ p) : Row p [1] := ⟨by simp; omega, by simp [rd]⟩
theorem one_is : spec_l01One = some (pad [1]) := by
  unfold spec_l01One
  congr 1
end Go.Proofs.Ytdhcpekngpndnaa
/- Primes. -/
namespace Go.Proofs.Ytdhcpekngpndnaa
open Go.Abs

theorem isPrime_spec (p : Int) : spec_l01Prime p = some (isP p) := by
  unfold spec_l01Prime isP
  by_cases h1 : p = 2 <;> by_cases h2 : p = 3 <;> by_cases h3 : p = 5 <;> simp [h1, h2, h3]

theorem isPrime_impl (p : Int) : impl_isPrime p = some (isP p) := by
  unfold impl_isPrime isP
  by_cases h1 : p = 2 <;> by_cases h2 : p = 3 <;> by_cases h3 : p = 5 <;> simp [h1, h2, h3]
end Go.Proofs.Ytdhcpekngpndnaa
/- Powers of p; one. -/
namespace Go.Proofs.Ytdhcpekngpndnaa
open Go.Abs

theorem ppow_pos {p : Nat} (hp : 2 ≤ p) (n : Nat) : 1 ≤ p ^ n := Nat.one_le_pow _ _ (by omega)
theorem ppow_mono {p : Nat} (hp : 2 ≤ p) {n m : Nat} (h : n ≤ m) : p ^ n ≤ p ^ m := Nat.pow_le_pow_right (by omega) h
/-- p to a power, at most a bit more than a limit. -/
theorem norm_is {p n most : Nat} (hp : 2 ≤ p ∧ p ≤ 7) (hn : n ≤ 1000000) (hm : most ≤ 1152921504606846976) : ∃ c : Nat, impl_prime_norm p n most = some (c : Int) ∧ ((p ^ n ≤ most ∧ c = p ^ n) ∨ (most < p ^ n ∧ most < c)) ∧ c ≤ 8070450532247928832 := by
  have key : ∀ (m i : Nat), i + m = n → (i = 0 ∨ p ^ (i - 1) ≤ most) → ∃ c : Nat, loopM (fun s : Int × Int => impl_prime_norm_l1 (n : Int) (most : Int) p s.1 s.2) (((p ^ i : Nat) : Int), (i : Int)) = some (c : Int) ∧ ((p ^ n ≤ most ∧ c = p ^ n) ∨ (most < p ^ n ∧ most < c)  ∨ (n = i ∧ c = p ^ n)) ∧ c ≤ 8070450532247928832 := by
    intro m
    induction m with
    | zero =>
      intro i hi hle
      have : i = n := by omega
      subst this
      have step : impl_prime_norm_l1 (i : Int) (most : Int) p ((p ^ i : Nat) : Int) (i : Int) = some (.inr ((p ^ i : Nat) : Int)) := by
        simp only [impl_prime_norm_l1]
        rw [if_neg (by rw [decide_eq_true_eq]; omega)]
      rw [loopM_eq]
      simp only [step, Option.bind_some]
      refine ⟨p ^ i, rfl, ?_, ?_⟩
      · exact .inr (.inr (by simp))
      · rcases hle with rfl | hle
        · simp
        · rcases Nat.eq_zero_or_pos i with rfl | h
          · simp
          · have : p ^ i = p ^ (i - 1) * p := by rw [← Nat.pow_succ]; congr 1; omega
            rw [this]
            have := Nat.mul_le_mul hle hp.2
            omega
    | succ m ih =>
      intro i hi hle
      have hmono := ppow_mono hp.1 (show i ≤ n by omega)
      by_cases h : most < p ^ i
      · have step : impl_prime_norm_l1 (n : Int) (most : Int) p ((p ^ i : Nat) : Int) (i : Int) = some (.inr ((p ^ i : Nat) : Int)) := by
          simp only [impl_prime_norm_l1]
          rw [if_pos (decide_eq_true (by omega)), if_pos (decide_eq_true (by omega))]
        rw [loopM_eq]
        simp only [step, Option.bind_some]
        refine ⟨p ^ i, rfl, .inr (.inl ⟨by omega, h⟩), ?_⟩
        rcases hle with rfl | hle
        · simp
        · rcases Nat.eq_zero_or_pos i with rfl | h
          · simp
          · have : p ^ i = p ^ (i - 1) * p := by rw [← Nat.pow_succ]; congr 1; omega
            rw [this]
            have := Nat.mul_le_mul hle hp.2
            omega
      · have hle2 := Nat.mul_le_mul (show p ^ i ≤ most by omega) hp.2
        have e1 : ((p ^ i : Nat) : Int) * (p : Int) = ((p ^ (i + 1) : Nat) : Int) := by rw [Nat.pow_succ, Int.natCast_mul]
        have e2 : p ^ (i + 1) = p ^ i * p := Nat.pow_succ ..
        have step : impl_prime_norm_l1 (n : Int) (most : Int) p ((p ^ i : Nat) : Int) (i : Int) = some (.inl (((p ^ (i + 1) : Nat) : Int), ((i + 1 : Nat) : Int))) := by
          simp only [impl_prime_norm_l1]
          rw [if_pos (decide_eq_true (by omega)), if_neg (by rw [decide_eq_true_eq]; omega), e1, wrap64 (n := ((p ^ (i + 1) : Nat) : Int)) (by omega) (by omega), wrap64 (by omega) (by omega)]
          rfl
        rw [loopM_eq]
        simp only [step, Option.bind_some]
        obtain ⟨c, h1, h2, h3⟩ := ih (i + 1) (by omega) (.inr (by simp only [Nat.add_sub_cancel]; omega))
        refine ⟨c, h1, ?_, h3⟩
        rcases h2 with h2 | h2 | ⟨h2, h4⟩
        · exact .inl h2
        · exact .inr (.inl h2)
        · by_cases h5 : p ^ n ≤ most
          · exact .inl ⟨h5, h4⟩
          · exact .inr (.inl ⟨by omega, by omega⟩)
  obtain ⟨c, h1, h2, h3⟩ := key n 0 (by omega) (.inl rfl)
  simp only [Nat.pow_zero] at h1
  refine ⟨c, ?_, ?_, h3⟩
  · have h1' : loopM (fun s : Int × Int => impl_prime_norm_l1 (n : Int) (most : Int) p s.1 s.2) (1, 0) = some (c : Int) := h1
    simp only [impl_prime_norm, h1', Option.bind_some]
  · rcases h2 with h2 | h2 | ⟨h2, h4⟩
    · exact .inl h2
    · exact .inr h2
    · by_cases h5 : p ^ n ≤ most
      · exact .inl ⟨h5, h4⟩
      · exact .inr ⟨by omega, by omega⟩
/-- p to a power, and one more than the greatest number if it is greater. -/
theorem count_is {p n : Nat} (hp : 2 ≤ p ∧ p ≤ 7) (hn : n ≤ 1000000) : ∃ c : Nat, spec_l01Count p n = some (c : Int) ∧ ((p ^ n ≤ 1000000000000 ∧ c = p ^ n) ∨ (1000000000000 < p ^ n ∧ c = 1000000000001)) := by
  have key : ∀ (m i : Nat), i + m = n → (i = 0 ∨ p ^ (i - 1) ≤ 1000000000000) → ∃ c : Nat, loopM (fun s : Int × Int => spec_l01Count_l1 p s.1 s.2) ((m : Int), ((p ^ i : Nat) : Int)) = some (c : Int) ∧ ((p ^ n ≤ 1000000000000 ∧ c = p ^ n) ∨ (1000000000000 < p ^ n ∧ 1000000000000 < c)) := by
    intro m
    induction m with
    | zero =>
      intro i hi hle
      have : i = n := by omega
      subst this
      have step : spec_l01Count_l1 p ((0 : Nat) : Int) ((p ^ i : Nat) : Int) = some (.inr ((p ^ i : Nat) : Int)) := by simp [spec_l01Count_l1]
      rw [loopM_eq]
      simp only [step, Option.bind_some]
      refine ⟨p ^ i, rfl, ?_⟩
      by_cases h : p ^ i ≤ 1000000000000
      · exact .inl ⟨h, rfl⟩
      · exact .inr ⟨by omega, by omega⟩
    | succ m ih =>
      intro i hi hle
      have hmono := ppow_mono hp.1 (show i ≤ n by omega)
      by_cases h : p ^ i ≤ 1000000000000
      · have hle2 := Nat.mul_le_mul h hp.2
        have e1 : ((p ^ i : Nat) : Int) * (p : Int) = ((p ^ (i + 1) : Nat) : Int) := by rw [Nat.pow_succ, Int.natCast_mul]
        have e2 : p ^ (i + 1) = p ^ i * p := Nat.pow_succ ..
        have e3 : IntKind.i64.wrap (((m + 1 : Nat) : Int) - 1) = (m : Int) := by rw [wrap64 (by omega) (by omega)]; omega
        have step : spec_l01Count_l1 p ((m + 1 : Nat) : Int) ((p ^ i : Nat) : Int) = some (.inl ((m : Int), ((p ^ (i + 1) : Nat) : Int))) := by
          simp only [spec_l01Count_l1]
          rw [if_pos (decide_eq_true (by omega)), e3, e1, wrap64 (n := ((p ^ (i + 1) : Nat) : Int)) (by omega) (by omega)]
          simp only [Option.bind_some]
          rw [if_pos (decide_eq_true (by omega))]
        rw [loopM_eq]
        simp only [step, Option.bind_some]
        exact ih (i + 1) (by omega) (.inr (by simp only [Nat.add_sub_cancel]; omega))
      · have step : spec_l01Count_l1 p ((m + 1 : Nat) : Int) ((p ^ i : Nat) : Int) = some (.inr ((p ^ i : Nat) : Int)) := by
          simp only [spec_l01Count_l1]
          rw [if_pos (decide_eq_true (by omega))]
          simp only [Option.bind_some]
          rw [if_neg (by rw [decide_eq_true_eq]; omega)]
        rw [loopM_eq]
        simp only [step, Option.bind_some]
        exact ⟨p ^ i, rfl, .inr ⟨by omega, by omega⟩⟩
  obtain ⟨c, h1, h2⟩ := key n 0 (by omega) (.inl rfl)
  simp only [Nat.pow_zero] at h1
  have h1' : loopM (fun s : Int × Int => spec_l01Count_l1 p s.1 s.2) ((n : Int), 1) = some (c : Int) := h1
  simp only [spec_l01Count, h1', Option.bind_some]
  rcases h2 with ⟨h2, h3⟩ | ⟨h2, h3⟩
  · exact ⟨c, by rw [if_neg (by omega)], .inl ⟨h2, h3⟩⟩
  · refine ⟨1000000000001, ?_, .inr ⟨h2, rfl⟩⟩
    split
    · rfl
    · congr 1; omega
end Go.Proofs.Ytdhcpekngpndnaa
/- The extended algorithm of Euclid. -/
namespace Go.Proofs.Ytdhcpekngpndnaa
open Go.Abs

/-- One step for a cofactor. -/
def cx (p : Int) (q s0 s1 : List Int) : List Int := comb p s0 (mul p q s1) (-1)
def ez (p : Int) : Nat → List Int → List Int → List Int → List Int → List Int → List Int → List Int × List Int × List Int
  | 0, a, _, s0, _, t0, _ => (a, s0, t0)
  | n + 1, a, b, s0, s1, t0, t1 => if b.length = 0 then (a, s0, t0) else ez p n b (rem p a b) s1 (cx p (quo p a b) s0 s1) t1 (cx p (quo p a b) t0 t1)
theorem cx_row {p : Int} (hp : 0 < p) (q s0 s1 : List Int) : Row p (cx p q s0 s1) := comb_row hp _ _ _
theorem cx_len {p : Int} {a b s0 s1 : List Int} {M : Nat} (h0 : b.length ≠ 0) (h1 : s1.length + a.length ≤ M) (h2 : s0.length + b.length ≤ M) (hab : s1.length + b.length ≤ M + 1) : (cx p (quo p a b) s0 s1).length + b.length ≤ M + 1 := by
  have c := comb_len p s0 (mul p (quo p a b) s1) (-1)
  have m := mul_len p (quo p a b) s1
  have q := quo_len p a b
  unfold cx
  rcases Nat.eq_zero_or_pos (quo p a b).length with h | h
  · have e : quo p a b = [] := List.eq_nil_of_length_eq_zero h
    rw [e, mul_nil] at c ⊢
    simp only [List.length_nil] at c
    omega
  · omega
/-- What the cofactors keep to: M is one more than the greater of the two lengths. -/
structure EzOk (p : Int) (M : Nat) (a b s0 s1 : List Int) : Prop where
  r0 : Row p s0
  r1 : Row p s1
  h1 : s1.length + a.length ≤ M
  h2 : s0.length + b.length ≤ M
theorem EzOk.next {p : Int} (hp : isP p = true) {M : Nat} {a b s0 s1 : List Int} (h : EzOk p M a b s0 s1) (ha : Row p a) (hb : Row p b) (h0 : b.length ≠ 0) :
    EzOk p M b (rem p a b) s1 (cx p (quo p a b) s0 s1) := by
  have hp2 := isP_pos hp
  have c := comb_len p s0 (mul p (quo p a b) s1) (-1)
  have m := mul_len p (quo p a b) s1
  have q := quo_len p a b
  have r := rem_len' p a b
  have r' := rem_len hp ha hb h0
  have h1 := h.h1
  have h2 := h.h2
  refine ⟨h.r1, cx_row (by omega) _ _ _, ?_, by omega⟩
  unfold cx
  rcases Nat.eq_zero_or_pos (quo p a b).length with h3 | h3
  · have e : quo p a b = [] := List.eq_nil_of_length_eq_zero h3
    rw [e, mul_nil] at c ⊢
    simp only [List.length_nil] at c
    omega
  · omega
theorem EzOk.prod {p : Int} {M : Nat} {a b s0 s1 : List Int} (hM : M ≤ 65) (h : EzOk p M a b s0 s1) (h0 : b.length ≠ 0) : (quo p a b).length = 0 ∨ s1.length = 0 ∨ (quo p a b).length + s1.length ≤ 65 := by
  have q := quo_len p a b
  have h1 := h.h1
  omega
theorem EzOk.plen {p : Int} {M : Nat} {a b s0 s1 : List Int} (hM : M ≤ 65) (h : EzOk p M a b s0 s1) (h0 : b.length ≠ 0) : (mul p (quo p a b) s1).length ≤ 64 := by
  have q := quo_len p a b
  have h1 := h.h1
  have m := mul_len p (quo p a b) s1
  omega
theorem ezI_loop {p : Int} (hp : isP p = true) {M : Nat} (hM : M ≤ 65) : ∀ (n : Nat) (a b s0 s1 t0 t1 : List Int), Row p a → Row p b → a.length ≤ 64 → b.length ≤ n → b.length ≤ 64 → EzOk p M a b s0 s1 → EzOk p M a b t0 t1 →
    loopM (fun s : List Int × List Int × List Int × List Int × List Int × List Int => impl_prime_bezout_l1 p s.1 s.2.1 s.2.2.1 s.2.2.2.1 s.2.2.2.2.1 s.2.2.2.2.2) (a, b, s0, t0, s1, t1) = some (ez p n a b s0 s1 t0 t1) := by
  have hp2 := isP_pos hp
  have hq : 0 < p ∧ p ≤ 256 := by omega
  intro n
  induction n with
  | zero =>
    intro a b s0 s1 t0 t1 ha hb la lb lb2 hs ht
    have step : impl_prime_bezout_l1 p a b s0 t0 s1 t1 = some (.inr (a, s0, t0)) := by
      simp only [impl_prime_bezout_l1]
      rw [if_neg (by rw [decide_eq_true_eq]; omega)]
    rw [loopM_eq]
    simp only [step, Option.bind_some, ez]
  | succ n ih =>
    intro a b s0 s1 t0 t1 ha hb la lb lb2 hs ht
    by_cases h0 : b.length = 0
    · have step : impl_prime_bezout_l1 p a b s0 t0 s1 t1 = some (.inr (a, s0, t0)) := by
        simp only [impl_prime_bezout_l1]
        rw [if_neg (by rw [decide_eq_true_eq]; omega)]
      rw [loopM_eq]
      simp only [step, Option.bind_some, ez, if_pos h0]
    · have hqr := quo_row (show 0 < p by omega) a b
      have hrr := rem_row (show 0 < p by omega) ha b
      have hql := quo_len p a b
      have hrl := rem_len hp ha hb h0
      have p1 := hs.plen hM h0
      have p2 := ht.plen hM h0
      have q1 := hs.h1
      have q2 := hs.h2
      have q3 := ht.h1
      have q4 := ht.h2
      have step : impl_prime_bezout_l1 p a b s0 t0 s1 t1 = some (.inl (b, rem p a b, s1, t1, cx p (quo p a b) s0 s1, cx p (quo p a b) t0 t1)) := by
        simp only [impl_prime_bezout_l1]
        rw [if_pos (decide_eq_true (by omega)), divideI_is hp ha hb h0 (by omega) (by omega)]
        simp only [Option.bind_some]
        rw [times_is (by omega) (hqr.ent hq) (hs.r1.ent hq) (by omega) (by omega)]
        simp only [Option.bind_some]
        rw [combine_is hq (hs.r0.ent hq) ((mul_row hq.1 _ _).ent hq) (by omega) (by omega) (by omega)]
        simp only [Option.bind_some]
        rw [times_is (by omega) (hqr.ent hq) (ht.r1.ent hq) (by omega) (by omega)]
        simp only [Option.bind_some]
        rw [combine_is hq (ht.r0.ent hq) ((mul_row hq.1 _ _).ent hq) (by omega) (by omega) (by omega)]
        rfl
      rw [loopM_eq]
      simp only [step, Option.bind_some]
      rw [ih b (rem p a b) _ _ _ _ hb hrr lb2 (by omega) (by omega) (hs.next hp ha hb h0) (ht.next hp ha hb h0)]
      simp only [ez, if_neg h0]
theorem ezS_loop {p : Int} (hp : isP p = true) {M : Nat} (hM : M ≤ 65) : ∀ (n : Nat) (a b s0 s1 t0 t1 : List Int), Row p a → Row p b → a.length ≤ 64 → b.length ≤ n → b.length ≤ 64 → s0.length ≤ 64 → s1.length ≤ 64 → t0.length ≤ 64 → t1.length ≤ 64 → EzOk p M a b s0 s1 → EzOk p M a b t0 t1 →
    loopM (fun s : V64 × V64 × V64 × V64 × V64 × V64 => spec_l01Bezout_l1 p s.1 s.2.1 s.2.2.1 s.2.2.2.1 s.2.2.2.2.1 s.2.2.2.2.2) (pad a, pad b, pad s0, pad s1, pad t0, pad t1) = some (pad (ez p n a b s0 s1 t0 t1).1, pad (ez p n a b s0 s1 t0 t1).2.1, pad (ez p n a b s0 s1 t0 t1).2.2) := by
  have hp2 := isP_pos hp
  have hq : 0 < p ∧ p ≤ 256 := by omega
  have ld : ∀ {v : List Int}, Row p v → v.length ≤ 64 → spec_l01Deg (pad v) = some ((v.length : Int) - 1) := fun hv lv => by rw [deg_is, rd_pad_fun lv, hv.top lv]
  intro n
  induction n with
  | zero =>
    intro a b s0 s1 t0 t1 ha hb la lb lb2 l0 l1 m0 m1 hs ht
    have step : spec_l01Bezout_l1 p (pad a) (pad b) (pad s0) (pad s1) (pad t0) (pad t1) = some (.inr (pad a, pad s0, pad t0)) := by
      simp only [spec_l01Bezout_l1, ld hb lb2, Option.bind_some]
      rw [if_neg (by rw [decide_eq_true_eq]; omega)]
    rw [loopM_eq]
    simp only [step, Option.bind_some, ez]
  | succ n ih =>
    intro a b s0 s1 t0 t1 ha hb la lb lb2 l0 l1 m0 m1 hs ht
    by_cases h0 : b.length = 0
    · have step : spec_l01Bezout_l1 p (pad a) (pad b) (pad s0) (pad s1) (pad t0) (pad t1) = some (.inr (pad a, pad s0, pad t0)) := by
        simp only [spec_l01Bezout_l1, ld hb lb2, Option.bind_some]
        rw [if_neg (by rw [decide_eq_true_eq]; omega)]
      rw [loopM_eq]
      simp only [step, Option.bind_some, ez, if_pos h0]
    · have hqr := quo_row (show 0 < p by omega) a b
      have hrr := rem_row (show 0 < p by omega) ha b
      have hql := quo_len p a b
      have hrl := rem_len hp ha hb h0
      have p1 := hs.plen hM h0
      have p2 := ht.plen hM h0
      have c1 := comb_len p s0 (mul p (quo p a b) s1) (-1)
      have c2 := comb_len p t0 (mul p (quo p a b) t1) (-1)
      have step : spec_l01Bezout_l1 p (pad a) (pad b) (pad s0) (pad s1) (pad t0) (pad t1) = some (.inl (pad b, pad (rem p a b), pad s1, pad (cx p (quo p a b) s0 s1), pad t1, pad (cx p (quo p a b) t0 t1))) := by
        simp only [spec_l01Bezout_l1, ld hb lb2, Option.bind_some]
        rw [if_pos (decide_eq_true (by omega)), divideS_is hp ha hb h0 la lb2]
        simp only [Option.bind_some]
        rw [times_pad (by omega) hqr hs.r1 (by omega) l1 (hs.prod hM h0)]
        simp only [Option.bind_some]
        rw [times_pad (by omega) hqr ht.r1 (by omega) m1 (ht.prod hM h0)]
        simp only [Option.bind_some]
        rw [add_pad hq hs.r0 (mul_row hq.1 _ _) l0 p1 (by omega)]
        simp only [Option.bind_some]
        rw [add_pad hq ht.r0 (mul_row hq.1 _ _) m0 p2 (by omega)]
        rfl
      rw [loopM_eq]
      simp only [step, Option.bind_some]
      rw [ih b (rem p a b) _ _ _ _ hb hrr lb2 (by omega) (by omega) l1 (by unfold cx; omega) m1 (by unfold cx; omega) (hs.next hp ha hb h0) (ht.next hp ha hb h0)]
      simp only [ez, if_neg h0]
theorem ez_row {p : Int} (hp : isP p = true) {M : Nat} (hM : M ≤ 65) : ∀ (n : Nat) (a b s0 s1 t0 t1 : List Int), Row p a → Row p b → a.length ≤ 64 → b.length ≤ 64 → b.length ≤ n → (a.length ≠ 0 ∨ b.length ≠ 0) → s0.length ≤ 64 → s1.length ≤ 64 → t0.length ≤ 64 → t1.length ≤ 64 → EzOk p M a b s0 s1 → EzOk p M a b t0 t1 →
    (Row p (ez p n a b s0 s1 t0 t1).1 ∧ (ez p n a b s0 s1 t0 t1).1.length ≤ 64 ∧ (ez p n a b s0 s1 t0 t1).1.length ≠ 0) ∧ (Row p (ez p n a b s0 s1 t0 t1).2.1 ∧ (ez p n a b s0 s1 t0 t1).2.1.length ≤ 64) ∧ (Row p (ez p n a b s0 s1 t0 t1).2.2 ∧ (ez p n a b s0 s1 t0 t1).2.2.length ≤ 64)
  | 0, a, b, s0, s1, t0, t1, ha, hb, la, lb, ln, hab, l0, l1, m0, m1, hs, ht => ⟨⟨ha, la, by simp only [ez]; omega⟩, ⟨hs.r0, l0⟩, ⟨ht.r0, m0⟩⟩
  | n + 1, a, b, s0, s1, t0, t1, ha, hb, la, lb, ln, hab, l0, l1, m0, m1, hs, ht => by
    simp only [ez]
    by_cases h0 : b.length = 0
    · simp only [if_pos h0]
      exact ⟨⟨ha, la, by omega⟩, ⟨hs.r0, l0⟩, ⟨ht.r0, m0⟩⟩
    · simp only [if_neg h0]
      have hp2 := isP_pos hp
      have hrl := rem_len hp ha hb h0
      have p1 := hs.plen hM h0
      have p2 := ht.plen hM h0
      have c1 := comb_len p s0 (mul p (quo p a b) s1) (-1)
      have c2 := comb_len p t0 (mul p (quo p a b) t1) (-1)
      exact ez_row hp hM n b (rem p a b) _ _ _ _ hb (rem_row (by omega) ha b) lb (by omega) (by omega) (.inl h0) l1 (by unfold cx; omega) m1 (by unfold cx; omega) (hs.next hp ha hb h0) (ht.next hp ha hb h0)

/-- The greatest common divisor, monic, with its cofactors. -/
def eg (p : Int) (a b : List Int) : List Int × List Int × List Int := ez p 64 a b [1] [] [] [1]
def sc (p : Int) (k : Int) (l : List Int) : List Int := comb p [] l k
def bz (p : Int) (a b : List Int) : List Int × List Int × List Int := (sc p (inv p (lead (eg p a b).1)) (eg p a b).1, sc p (inv p (lead (eg p a b).1)) (eg p a b).2.1, sc p (inv p (lead (eg p a b).1)) (eg p a b).2.2)
theorem ezok_start {p : Int} (hp : 2 ≤ p) {a b : List Int} (la : a.length ≤ 64) (lb : b.length ≤ 64) : EzOk p (max a.length b.length + 1) a b [1] [] ∧ EzOk p (max a.length b.length + 1) a b [] [1] :=
  ⟨⟨row_one hp, row_nil p, by simp only [List.length_nil]; omega, by simp only [List.length_cons, List.length_nil]; omega⟩, ⟨row_nil p, row_one hp, by simp only [List.length_cons, List.length_nil]; omega, by simp only [List.length_nil]; omega⟩⟩
theorem eg_row {p : Int} (hp : isP p = true) {a b : List Int} (ha : Row p a) (hb : Row p b) (la : a.length ≤ 64) (lb : b.length ≤ 64) (hab : a.length ≠ 0 ∨ b.length ≠ 0) :
    (Row p (eg p a b).1 ∧ (eg p a b).1.length ≤ 64 ∧ (eg p a b).1.length ≠ 0) ∧ (Row p (eg p a b).2.1 ∧ (eg p a b).2.1.length ≤ 64) ∧ (Row p (eg p a b).2.2 ∧ (eg p a b).2.2.length ≤ 64) := by
  have hp2 := isP_pos hp
  obtain ⟨e1, e2⟩ := ezok_start (p := p) (by omega) la lb
  exact ez_row hp (by omega) 64 a b [1] [] [] [1] ha hb la lb lb hab (by simp) (by simp) (by simp) (by simp) e1 e2
theorem sc_len {p k : Int} {l : List Int} : (sc p k l).length ≤ l.length := by
  have := comb_len p [] l k
  simpa [sc] using this
theorem bezoutI_is {p : Int} (hp : isP p = true) {a b : List Int} (ha : Row p a) (hb : Row p b) (la : a.length ≤ 64) (lb : b.length ≤ 64) (hab : a.length ≠ 0 ∨ b.length ≠ 0) : impl_prime_bezout p a b = some (bz p a b) := by
  have hp2 := isP_pos hp
  have hq : 0 < p ∧ p ≤ 256 := by omega
  obtain ⟨e1, e2⟩ := ezok_start (p := p) (by omega) la lb
  have h := ezI_loop hp (by omega) 64 a b [1] [] [] [1] ha hb la lb lb e1 e2
  obtain ⟨⟨g1, g2, g3⟩, ⟨g4, g5⟩, g6, g7⟩ := eg_row hp ha hb la lb hab
  have h' : loopM (fun s : List Int × List Int × List Int × List Int × List Int × List Int => impl_prime_bezout_l1 p s.1 s.2.1 s.2.2.1 s.2.2.2.1 s.2.2.2.2.1 s.2.2.2.2.2) (a, b, [1], [], [], [1]) = some ((eg p a b).1, (eg p a b).2.1, (eg p a b).2.2) := h
  have hl := lead_pos (show 0 < p by omega) g1 g3
  have hi := inv_is hp hl
  simp only [impl_prime_bezout, impl_prime_scale, h', Option.bind_some, lead_is g3 (by omega), inverse_impl hp hl]
  rw [combine_is hq ((row_nil p).ent hq) (g1.ent hq) (by simp) (by omega) (by omega)]
  simp only [Option.bind_some]
  rw [combine_is hq ((row_nil p).ent hq) (g4.ent hq) (by simp) (by omega) (by omega)]
  simp only [Option.bind_some]
  rw [combine_is hq ((row_nil p).ent hq) (g6.ent hq) (by simp) (by omega) (by omega)]
  rfl
theorem bezoutS_is {p : Int} (hp : isP p = true) {a b : List Int} (ha : Row p a) (hb : Row p b) (la : a.length ≤ 64) (lb : b.length ≤ 64) (hab : a.length ≠ 0 ∨ b.length ≠ 0) : spec_l01Bezout p (pad a) (pad b) = some (pad (bz p a b).1, pad (bz p a b).2.1, pad (bz p a b).2.2) := by
  have hp2 := isP_pos hp
  have hq : 0 < p ∧ p ≤ 256 := by omega
  obtain ⟨e1, e2⟩ := ezok_start (p := p) (by omega) la lb
  have h := ezS_loop hp (by omega) 64 a b [1] [] [] [1] ha hb la lb lb (by simp) (by simp) (by simp) (by simp) e1 e2
  obtain ⟨⟨g1, g2, g3⟩, ⟨g4, g5⟩, g6, g7⟩ := eg_row hp ha hb la lb hab
  rw [pad_nil] at h
  have h' : loopM (fun s : V64 × V64 × V64 × V64 × V64 × V64 => spec_l01Bezout_l1 p s.1 s.2.1 s.2.2.1 s.2.2.2.1 s.2.2.2.2.1 s.2.2.2.2.2) (pad a, pad b, pad [1], vrep 64 0, vrep 64 0, pad [1]) = some (pad (eg p a b).1, pad (eg p a b).2.1, pad (eg p a b).2.2) := h
  have hl := lead_pos (show 0 < p by omega) g1 g3
  have hi := inv_is hp hl
  have hd : spec_l01Deg (pad (eg p a b).1) = some (((eg p a b).1.length - 1 : Nat) : Int) := by
    rw [deg_is, rd_pad_fun g2, g1.top g2]; congr 1; omega
  simp only [spec_l01Bezout, one_is, h', Option.bind_some, hd]
  rw [ifp_pos (by omega), Int.toNat_natCast, rd_padl _ (show (eg p a b).1.length - 1 < 64 by omega), show rd (eg p a b).1 ((eg p a b).1.length - 1) = lead (eg p a b).1 from rfl, inverse_spec hp hl]
  simp only [Option.bind_some]
  rw [wrap64 (by omega) (by omega), ← pad_nil, add_pad hq (row_nil p) g1 (by simp) g2 (by omega)]
  simp only [Option.bind_some]
  rw [add_pad hq (row_nil p) g4 (by simp) g5 (by omega)]
  simp only [Option.bind_some]
  rw [add_pad hq (row_nil p) g6 (by simp) g7 (by omega)]
  rfl
/-- It is monic. -/
theorem bz_monic {p : Int} (hp : isP p = true) {a b : List Int} (ha : Row p a) (hb : Row p b) (la : a.length ≤ 64) (lb : b.length ≤ 64) (hab : a.length ≠ 0 ∨ b.length ≠ 0) : Row p (bz p a b).1 ∧ (bz p a b).1.length ≠ 0 ∧ (bz p a b).1.length ≤ 64 ∧ lead (bz p a b).1 = 1 := by
  have hp2 := isP_pos hp
  obtain ⟨⟨g1, g2, g3⟩, _, _⟩ := eg_row hp ha hb la lb hab
  have hl := lead_pos (show 0 < p by omega) g1 g3
  have hi := inv_is hp hl
  have hr : Row p (bz p a b).1 := comb_row (by omega) _ _ _
  have key : ∀ i, rd (bz p a b).1 i = inv p (lead (eg p a b).1) * rd (eg p a b).1 i % p := fun i => by
    show rd (comb p [] (eg p a b).1 _) i = _
    rw [comb_rd, rd_ge (l := []) (by simp), Int.zero_add]
  have h1 : rd (bz p a b).1 ((eg p a b).1.length - 1) = 1 := by
    rw [key, Int.mul_comm]; exact hi.2.2
  have h2 : (bz p a b).1.length ≤ (eg p a b).1.length := sc_len
  have h3 : (eg p a b).1.length - 1 < (bz p a b).1.length := by
    rcases Nat.lt_or_ge ((eg p a b).1.length - 1) (bz p a b).1.length with h | h
    · exact h
    · rw [rd_ge h] at h1; omega
  have h4 : (bz p a b).1.length = (eg p a b).1.length := by omega
  refine ⟨hr, by omega, by omega, ?_⟩
  unfold lead
  rw [h4, h1]
end Go.Proofs.Ytdhcpekngpndnaa
/- Which arrays are polynomials, in the reference. -/
namespace Go.Proofs.Ytdhcpekngpndnaa
open Go.Abs

/-- All coefficients lie below p. -/
def Small (p : Int) (a : V64) : Prop := ∀ j, j < 64 → rd a.1 j < p
open Classical in
noncomputable def small (p : Int) (a : V64) : Bool := decide (Small p a)

theorem is_loop {p : Int} {a : V64} (hb : IsB a) : ∀ s : Int, (∃ i : Nat, s = i ∧ i ≤ 64 ∧ ∀ j, j < i → rd a.1 j < p) → ∃ r, loopM (fun s : Int => spec_l01Is_l1 a p s) s = some r ∧ ((r = .inl () ∧ Small p a) ∨ (r = .inr false ∧ ¬ Small p a)) := by
  refine loopM_ind (fun (s : Int) => ∃ i : Nat, s = i ∧ i ≤ 64 ∧ ∀ j, j < i → rd a.1 j < p) (fun (s : Int) (r : Unit ⊕ Bool) => (r = .inl () ∧ Small p a) ∨ (r = .inr false ∧ ¬ Small p a)) (fun s => 64 - s.toNat) ?_
  rintro s ⟨i, rfl, hi, hlt⟩
  by_cases h : i = 64
  · right
    subst h
    exact ⟨.inl (), by simp [spec_l01Is_l1], .inl ⟨rfl, hlt⟩⟩
  · have hbi := hb.rd (show i < 64 by omega)
    by_cases e : rd a.1 i < p
    · left
      refine ⟨((i + 1 : Nat) : Int), ?_, ⟨i + 1, rfl, by omega, fun j hj => ?_⟩, by simp; omega, fun r hr => hr⟩
      · simp only [spec_l01Is_l1]
        rw [if_pos (by simp; omega), ifp_pos (by omega), Int.toNat_natCast, wrap64 (by omega) (by omega), if_neg (by simp; omega), wrap64 (by omega) (by omega)]
        rfl
      · by_cases hj' : j = i
        · rw [hj']; exact e
        · exact hlt j (by omega)
    · right
      refine ⟨.inr false, ?_, .inr ⟨rfl, fun hs => e (hs i (by omega))⟩⟩
      simp only [spec_l01Is_l1]
      rw [if_pos (by simp; omega), ifp_pos (by omega), Int.toNat_natCast, wrap64 (by omega) (by omega), if_pos (by simp; omega)]
theorem is_is {p : Int} {a : V64} (hb : IsB a) : spec_l01Is p a = some (small p a && isP p) := by
  obtain ⟨r, h1, h2⟩ := is_loop (p := p) hb 0 ⟨0, rfl, by omega, fun j hj => by omega⟩
  rcases h2 with ⟨rfl, h⟩ | ⟨rfl, h⟩ <;> simp [spec_l01Is, h1, small, h, isPrime_spec]

theorem code_loop {p : Int} {l : List V64} (hb : ∀ a ∈ l, IsB a) (hl : l.length ≤ 2000000) (hp : isP p = true) : ∀ s : Int, (∃ i : Nat, s = i ∧ i ≤ l.length ∧ ∀ a ∈ l.take i, small p a = true) → ∃ r, loopM (fun s : Int => spec_l01Code_l1 l p s) s = some r ∧ ((r = .inl () ∧ l.all (small p) = true) ∨ (r = .inr 1 ∧ l.all (small p) = false)) := by
  refine loopM_ind (fun (s : Int) => ∃ i : Nat, s = i ∧ i ≤ l.length ∧ ∀ a ∈ l.take i, small p a = true) (fun (s : Int) (r : Unit ⊕ Int) => (r = .inl () ∧ l.all (small p) = true) ∨ (r = .inr 1 ∧ l.all (small p) = false)) (fun s => l.length - s.toNat) ?_
  rintro s ⟨i, rfl, hi, hlt⟩
  by_cases h : i = l.length
  · right
    subst h
    exact ⟨.inl (), by simp [spec_l01Code_l1], .inl ⟨rfl, by rw [List.take_length] at hlt; simpa using hlt⟩⟩
  · have hil : i < l.length := by omega
    have er : rd l i = l[i] := by simp [rd, hil]
    have hbi := is_is (p := p) (hb l[i] (List.getElem_mem _))
    rw [hp, Bool.and_true] at hbi
    cases e : small p l[i] with
    | true =>
      left
      refine ⟨((i + 1 : Nat) : Int), ?_, ⟨i + 1, rfl, by omega, fun a ha => ?_⟩, by simp; omega, fun r hr => hr⟩
      · simp only [spec_l01Code_l1]
        rw [if_pos (by simp; omega), ifp_pos (by omega), Int.toNat_natCast, er, hbi, e]
        simp only [Option.bind_some, Bool.not_true, Bool.false_eq_true, if_false]
        rw [wrap64 (by omega) (by omega)]; rfl
      · rw [List.take_succ_eq_append_getElem hil] at ha
        rcases List.mem_append.1 ha with ha | ha
        · exact hlt a ha
        · have : a = l[i] := by simpa using ha
          rw [this]; exact e
    | false =>
      right
      refine ⟨.inr 1, ?_, .inr ⟨rfl, ?_⟩⟩
      · simp only [spec_l01Code_l1]
        rw [if_pos (by simp; omega), ifp_pos (by omega), Int.toNat_natCast, er, hbi, e]
        rfl
      · rw [List.all_eq_false]
        exact ⟨l[i], List.getElem_mem _, by simp [e]⟩
theorem code_is {p : Int} {l : List V64} (hb : ∀ a ∈ l, IsB a) (hl : l.length ≤ 2000000) : spec_l01Code p l = some (if isP p && l.all (small p) then 0 else 1) := by
  unfold spec_l01Code
  rw [isPrime_spec]
  cases hp : isP p with
  | false => simp
  | true =>
    obtain ⟨r, h1, h2⟩ := code_loop hb hl hp 0 ⟨0, rfl, by omega, by simp⟩
    simp only [Option.bind_some, Bool.not_true, Bool.false_eq_true, if_false, h1, Bool.true_and]
    rcases h2 with ⟨rfl, h⟩ | ⟨rfl, h⟩ <;> simp [h]

theorem res_of_small {p : Int} {a : V64} (hb : IsB a) (h : small p a = true) : Res p a := fun j hj => by
  have h1 : Small p a := by simpa [small] using h
  exact ⟨(hb.rd hj).1, h1 j hj⟩
end Go.Proofs.Ytdhcpekngpndnaa
/- Which arrays are polynomials, in the program. -/
namespace Go.Proofs.Ytdhcpekngpndnaa
open Go.Abs

theorem index_loop {p : Int} {a : V64} (hb : IsB a) : ∀ s : Int, (∃ i : Nat, s = i ∧ i ≤ 64 ∧ ∀ j, j < i → rd a.1 j < p) → ∃ r, loopM (fun s : Int => slices_IndexFunc_byte_byte_of_impl_areAll_byte__c1_p_l1 a.1 p s) s = some r ∧ ((r = .inl () ∧ Small p a) ∨ (∃ i : Nat, r = .inr (i : Int) ∧ ¬ Small p a)) := by
  refine loopM_ind (fun (s : Int) => ∃ i : Nat, s = i ∧ i ≤ 64 ∧ ∀ j, j < i → rd a.1 j < p) (fun (s : Int) (r : Unit ⊕ Int) => (r = .inl () ∧ Small p a) ∨ (∃ i : Nat, r = .inr (i : Int) ∧ ¬ Small p a)) (fun s => 64 - s.toNat) ?_
  rintro s ⟨i, rfl, hi, hlt⟩
  have h64 := a.2
  by_cases h : i = 64
  · right
    subst h
    exact ⟨.inl (), by simp [slices_IndexFunc_byte_byte_of_impl_areAll_byte__c1_p_l1, h64], .inl ⟨rfl, hlt⟩⟩
  · have hbi := hb.rd (show i < 64 by omega)
    have e1 : impl_areAll_byte__c1_of_p (rd a.1 i) p = some (!decide (rd a.1 i < p)) := by
      simp only [impl_areAll_byte__c1_of_p, impl_isPoly_c1_of_p, Option.bind_some]
      rw [wrap64 (by omega) (by omega)]
    by_cases e : rd a.1 i < p
    · left
      refine ⟨((i + 1 : Nat) : Int), ?_, ⟨i + 1, rfl, by omega, fun j hj => ?_⟩, by simp; omega, fun r hr => hr⟩
      · simp only [slices_IndexFunc_byte_byte_of_impl_areAll_byte__c1_p_l1, h64]
        rw [if_pos (by simp; omega), ifp_pos (by omega), Int.toNat_natCast, e1, wrap64 (by omega) (by omega)]
        simp [e]
      · by_cases hj' : j = i
        · rw [hj']; exact e
        · exact hlt j (by omega)
    · right
      refine ⟨.inr (i : Int), ?_, .inr ⟨i, rfl, fun hs => e (hs i (by omega))⟩⟩
      simp only [slices_IndexFunc_byte_byte_of_impl_areAll_byte__c1_p_l1, h64]
      rw [if_pos (by simp; omega), ifp_pos (by omega), Int.toNat_natCast, e1]
      simp [e]
theorem isPoly_is {p : Int} {a : V64} (hb : IsB a) : impl_isPoly p a = some (small p a) := by
  obtain ⟨r, h1, h2⟩ := index_loop (p := p) hb 0 ⟨0, rfl, by omega, fun j hj => by omega⟩
  simp only [impl_isPoly, impl_areAll_byte_of_impl_isPoly_c1_p, slices_ContainsFunc_byte_byte_of_impl_areAll_byte__c1_p, slices_IndexFunc_byte_byte_of_impl_areAll_byte__c1_p, h1, Option.bind_some]
  rcases h2 with ⟨rfl, h⟩ | ⟨i, rfl, h⟩ <;> simp [small, h]
end Go.Proofs.Ytdhcpekngpndnaa
/- The row of an array. -/
namespace Go.Proofs.Ytdhcpekngpndnaa
open Go.Abs
theorem row_is {d : V64} (hb : IsB d) : impl_rowOf d = some (row d) := by
  rw [rowOf_is hb]
  congr 1
  have := top_le (rd d.1) 64
  refine rd_ext (by rw [row, ofF_len]; simp; rw [d.2]; omega) fun i hi => ?_
  simp at hi
  rw [rd_take, row, rd_ofF', if_pos (by omega), if_pos (by omega)]
theorem row_length (d : V64) : (row d).length = top (rd d.1) 64 := by rw [row, ofF_len]
theorem row_rd (d : V64) {i : Nat} (hi : i < 64) : rd (row d) i = rd d.1 i := by rw [row, rd_ofF', if_pos hi]
end Go.Proofs.Ytdhcpekngpndnaa
/- The code for polynomials, in the program. -/
namespace Go.Proofs.Ytdhcpekngpndnaa
open Go.Abs

theorem indexP_loop {p : Int} {l : List V64} (hb : ∀ a ∈ l, IsB a) (hl : l.length ≤ 2000000) : ∀ s : Int, (∃ i : Nat, s = i ∧ i ≤ l.length ∧ ∀ a ∈ l.take i, small p a = true) → ∃ r, loopM (fun s : Int => slices_IndexFunc_impl_Poly_impl_Poly_of_impl_areAll_impl_Poly__c1_p_l1 l p s) s = some r ∧ ((r = .inl () ∧ l.all (small p) = true) ∨ (∃ i : Nat, r = .inr (i : Int) ∧ l.all (small p) = false)) := by
  refine loopM_ind (fun (s : Int) => ∃ i : Nat, s = i ∧ i ≤ l.length ∧ ∀ a ∈ l.take i, small p a = true) (fun (s : Int) (r : Unit ⊕ Int) => (r = .inl () ∧ l.all (small p) = true) ∨ (∃ i : Nat, r = .inr (i : Int) ∧ l.all (small p) = false)) (fun s => l.length - s.toNat) ?_
  rintro s ⟨i, rfl, hi, hlt⟩
  by_cases h : i = l.length
  · right
    subst h
    exact ⟨.inl (), by simp [slices_IndexFunc_impl_Poly_impl_Poly_of_impl_areAll_impl_Poly__c1_p_l1], .inl ⟨rfl, by rw [List.take_length] at hlt; simpa using hlt⟩⟩
  · have hil : i < l.length := by omega
    have er : rd l i = l[i] := by simp [rd, hil]
    have hbi := isPoly_is (p := p) (hb l[i] (List.getElem_mem _))
    have e1 : impl_areAll_impl_Poly__c1_of_p (rd l i) p = some (!small p l[i]) := by
      simp only [impl_areAll_impl_Poly__c1_of_p, impl_polysCode_c1_of_p, er, hbi, Option.bind_some]
    cases e : small p l[i] with
    | true =>
      left
      refine ⟨((i + 1 : Nat) : Int), ?_, ⟨i + 1, rfl, by omega, fun a ha => ?_⟩, by simp; omega, fun r hr => hr⟩
      · simp only [slices_IndexFunc_impl_Poly_impl_Poly_of_impl_areAll_impl_Poly__c1_p_l1]
        rw [if_pos (decide_eq_true (by omega)), ifp_pos (by omega), Int.toNat_natCast, e1, e]
        simp only [Option.bind_some, Bool.not_true, Bool.false_eq_true, if_false]
        rw [wrap64 (by omega) (by omega)]; rfl
      · rw [List.take_succ_eq_append_getElem hil] at ha
        rcases List.mem_append.1 ha with ha | ha
        · exact hlt a ha
        · have : a = l[i] := by simpa using ha
          rw [this]; exact e
    | false =>
      right
      refine ⟨.inr (i : Int), ?_, .inr ⟨i, rfl, ?_⟩⟩
      · simp only [slices_IndexFunc_impl_Poly_impl_Poly_of_impl_areAll_impl_Poly__c1_p_l1]
        rw [if_pos (decide_eq_true (by omega)), ifp_pos (by omega), Int.toNat_natCast, e1, e]
        rfl
      · rw [List.all_eq_false]
        exact ⟨l[i], List.getElem_mem _, by simp [e]⟩
theorem polysCode_is {p : Int} {l : List V64} (hb : ∀ a ∈ l, IsB a) (hl : l.length ≤ 2000000) : impl_polysCode p l = some (if isP p && l.all (small p) then 0 else 1) := by
  obtain ⟨r, h1, h2⟩ := indexP_loop (p := p) hb hl 0 ⟨0, rfl, by omega, by simp⟩
  have e : impl_areAll_impl_Poly_of_impl_polysCode_c1_p l p = some (l.all (small p)) := by
    simp only [impl_areAll_impl_Poly_of_impl_polysCode_c1_p, slices_ContainsFunc_impl_Poly_impl_Poly_of_impl_areAll_impl_Poly__c1_p, slices_IndexFunc_impl_Poly_impl_Poly_of_impl_areAll_impl_Poly__c1_p, h1, Option.bind_some]
    rcases h2 with ⟨rfl, h⟩ | ⟨i, rfl, h⟩ <;> simp [h]
  simp only [impl_polysCode, isPrime_impl, e, Option.bind_some]
  cases isP p <;> cases l.all (small p) <;> simp
end Go.Proofs.Ytdhcpekngpndnaa
/- Discriminants. -/
namespace Go.Proofs.Ytdhcpekngpndnaa
open Go.Abs

theorem isb_rd {a : V64} (ha : IsB a) {i : Nat} (hi : i < 64) : 0 ≤ rd a.1 i ∧ rd a.1 i < 256 := ha _ (rd_mem (by rw [a.2]; exact hi))
/-- One round of the derivative. -/
theorem der_val {p x v : Int} (hp : 2 ≤ p ∧ p ≤ 7) (hx : 0 ≤ x ∧ x < 64) (hv : 0 ≤ v ∧ v < 256) :
    IntKind.i64.wrap (Int.tmod x p * IntKind.i64.wrap v) = x % p * v ∧ IntKind.i64.wrap (x * IntKind.i64.wrap v) = x * v ∧ Int.tmod (x % p * v) p = x * v % p ∧ Int.tmod (x * v) p = x * v % p := by
  have e1 : Int.tmod x p = x % p := Int.tmod_eq_emod_of_nonneg hx.1
  have e2 := Int.emod_nonneg x (show p ≠ 0 by omega)
  have e3 := Int.emod_lt_of_pos x (show 0 < p by omega)
  have m1 : 0 ≤ x % p * v := Int.mul_nonneg e2 hv.1
  have m2 : x % p * v ≤ 7 * 256 := Int.mul_le_mul (by omega) (by omega) hv.1 (by omega)
  have m3 : 0 ≤ x * v := Int.mul_nonneg hx.1 hv.1
  have m4 : x * v ≤ 64 * 256 := Int.mul_le_mul (by omega) (by omega) hv.1 (by omega)
  refine ⟨?_, ?_, ?_, ?_⟩
  · rw [e1, wrap64 (n := v) (by omega) (by omega), wrap64 (by omega) (by omega)]
  · rw [wrap64 (n := v) (by omega) (by omega), wrap64 (by omega) (by omega)]
  · rw [Int.tmod_eq_emod_of_nonneg m1, Int.mul_emod, Int.emod_emod, ← Int.mul_emod]
  · rw [Int.tmod_eq_emod_of_nonneg m3]
theorem derS_step {p : Int} (hp : 2 ≤ p ∧ p ≤ 7) {a : V64} (ha : IsB a) {i : Nat} (hi : i < 63) (s : V64) :
    spec_DerivativeOf_l1 p a ((i + 1 : Nat) : Int) s = some (.inl (((i + 1 + 1 : Nat) : Int), vset s i (((i + 1 : Nat) : Int) * rd a.1 (i + 1) % p))) := by
  obtain ⟨v1, v2, v3, v4⟩ := der_val hp (x := ((i + 1 : Nat) : Int)) (by omega) (isb_rd ha (show i + 1 < 64 by omega))
  have r1 := Int.emod_nonneg (((i + 1 : Nat) : Int) * rd a.1 (i + 1)) (show p ≠ 0 by omega)
  have r2 := Int.emod_lt_of_pos (((i + 1 : Nat) : Int) * rd a.1 (i + 1)) (show 0 < p by omega)
  have w : IntKind.i64.wrap (((i + 1 : Nat) : Int) - 1) = (i : Int) := by rw [wrap64 (by omega) (by omega)]; omega
  simp only [spec_DerivativeOf_l1, letp]
  rw [if_pos (decide_eq_true (by omega)), ifp_pos (by omega), ifp_pos (by omega), Int.toNat_natCast, v1, ifp_pos (by omega), w, ifp_pos (by omega), v3, wrap8 (by omega) (by omega), wrap64 (by omega) (by omega), Int.toNat_natCast]
  rfl
theorem derI_step {p : Int} (hp : 2 ≤ p ∧ p ≤ 7) {a : V64} (ha : IsB a) {i : Nat} (hi : i < 63) (s : V64) :
    impl_DerivativeOf_l1 a p ((i + 1 : Nat) : Int) s = some (.inl (((i + 1 + 1 : Nat) : Int), vset s i (((i + 1 : Nat) : Int) * rd a.1 (i + 1) % p))) := by
  obtain ⟨v1, v2, v3, v4⟩ := der_val hp (x := ((i + 1 : Nat) : Int)) (by omega) (isb_rd ha (show i + 1 < 64 by omega))
  have r1 := Int.emod_nonneg (((i + 1 : Nat) : Int) * rd a.1 (i + 1)) (show p ≠ 0 by omega)
  have r2 := Int.emod_lt_of_pos (((i + 1 : Nat) : Int) * rd a.1 (i + 1)) (show 0 < p by omega)
  have w : IntKind.i64.wrap (((i + 1 : Nat) : Int) - 1) = (i : Int) := by rw [wrap64 (by omega) (by omega)]; omega
  simp only [impl_DerivativeOf_l1, letp]
  rw [if_pos (decide_eq_true (by omega)), ifp_pos (by omega), Int.toNat_natCast, v2, ifp_pos (by omega), w, ifp_pos (by omega), v4, wrap8 (by omega) (by omega), wrap64 (by omega) (by omega), Int.toNat_natCast]
  rfl
/-- The derivative. -/
def dvl (p : Int) (a : V64) : Nat → V64
  | 0 => vrep 64 0
  | i + 1 => vset (dvl p a i) i (((i + 1 : Nat) : Int) * rd a.1 (i + 1) % p)
theorem dvl_res {p : Int} (hp : 2 ≤ p) (a : V64) : ∀ i, i ≤ 63 → Res p (dvl p a i)
  | 0, _ => fun j hj => by rw [dvl, rd_vrep _ hj]; omega
  | i + 1, h => fun j hj => by
    rw [dvl, rd_vset _ _ _ _ (by omega)]
    split
    · exact ⟨Int.emod_nonneg _ (by omega), Int.emod_lt_of_pos _ (by omega)⟩
    · exact dvl_res hp a i (by omega) j hj
def dv (p : Int) (a : V64) : V64 := dvl p a 63
theorem dv_res {p : Int} (hp : 2 ≤ p) (a : V64) : Res p (dv p a) := dvl_res hp a 63 (Nat.le_refl _)
theorem derS_is {p : Int} (hp : isP p = true) {a : V64} (ha : IsB a) (hs : small p a = true) : spec_DerivativeOf p a = some (dv p a, 0) := by
  have hp2 := isP_pos hp
  obtain ⟨s, g1, g2⟩ := loopM_for (body := fun s : Int × V64 => spec_DerivativeOf_l1 p a s.1 s.2) (fun i s => (((i + 1 : Nat) : Int), s)) (fun s => s) 63
    (fun i s => s = dvl p a i) (fun i s hi hI => by
      subst hI
      exact ⟨_, derS_step hp2 ha hi _, rfl⟩) (fun s hI => by
      simp only [spec_DerivativeOf_l1]
      rw [if_neg (by rw [decide_eq_true_eq]; omega)]) 63 0 (vrep 64 0) (by omega) rfl
  have g1' : loopM (fun s : Int × V64 => spec_DerivativeOf_l1 p a s.1 s.2) (1, vrep 64 0) = some s := g1
  simp only [spec_DerivativeOf, code_is (p := p) (l := [a]) (by simp [ha]) (by simp), List.all_cons, List.all_nil, hp, hs, Bool.and_true, if_true, Option.bind_some, bne_self_eq_false, Bool.false_eq_true, if_false, g1', g2, dv]
theorem derI_is {p : Int} (hp : isP p = true) {a : V64} (ha : IsB a) (hs : small p a = true) : impl_DerivativeOf p a = some (dv p a, 0) := by
  have hp2 := isP_pos hp
  obtain ⟨s, g1, g2⟩ := loopM_for (body := fun s : Int × V64 => impl_DerivativeOf_l1 a p s.1 s.2) (fun i s => (((i + 1 : Nat) : Int), s)) (fun s => s) 63
    (fun i s => s = dvl p a i) (fun i s hi hI => by
      subst hI
      exact ⟨_, derI_step hp2 ha hi _, rfl⟩) (fun s hI => by
      simp only [impl_DerivativeOf_l1]
      rw [if_neg (by rw [decide_eq_true_eq]; omega)]) 63 0 (vrep 64 0) (by omega) rfl
  have g1' : loopM (fun s : Int × V64 => impl_DerivativeOf_l1 a p s.1 s.2) (1, vrep 64 0) = some s := g1
  simp only [impl_DerivativeOf, polysCode_is (p := p) (l := [a]) (by simp [ha]) (by simp), List.all_cons, List.all_nil, hp, hs, Bool.and_true, if_true, Option.bind_some, bne_self_eq_false, Bool.false_eq_true, if_false, g1', g2, dv]
attribute [irreducible] dv
theorem isOne_is (l : List Int) : impl_isOne l = some (decide (l.length = 1 ∧ rd l 0 = 1)) := by
  simp only [impl_isOne]
  by_cases h : l.length = 1
  · rw [if_pos (by simp [h]), ifp_pos (by omega)]
    congr 1
    rw [Bool.eq_iff_iff]
    simp [h]
  · rw [if_neg (by simp; omega)]
    simp [h]
/-- A discriminant. -/
noncomputable def disc (p : Int) (d : V64) : Bool :=
  isP p && small p d && decide (p ≠ 2) && decide ((row d).length = 2 ∨ (row d).length = 4 ∨ (row d).length = 6) && decide ((bz p (row d) (row (dv p d))).1.length = 1)
theorem degS_row' (v : V64) : spec_l01Deg v = some (((row v).length : Int) - 1) := by rw [deg_is, row_length]
theorem degI_row' (v : V64) : impl_row_degree (row v) = some (((row v).length : Int) - 1) := by
  have := row_len v
  simp only [impl_row_degree]
  rw [wrap64 (by omega) (by omega)]
theorem deg_pad {p : Int} {l : List Int} (hl : Row p l) (h : l.length ≤ 64) : spec_l01Deg (pad l) = some ((l.length : Int) - 1) := by rw [deg_is, rd_pad_fun h, hl.top h]
theorem discS_is {p : Int} {d : V64} (hd : IsB d) : spec_l07Is p d = some (disc p d) := by
  simp only [spec_l07Is, is_is hd, Option.bind_some, degS_row']
  by_cases hok : (isP p && small p d) = true
  · obtain ⟨hp, hs⟩ : isP p = true ∧ small p d = true := by simpa using hok
    have hp2 := isP_pos hp
    by_cases h2 : p = 2
    · simp [disc, hp, hs, h2]
    · by_cases h3 : (row d).length = 2 ∨ (row d).length = 4 ∨ (row d).length = 6
      · have hrd := row_row (res_of_small hd hs)
        have hrv := row_row (dv_res hp2.1 d)
        have hl := row_len d
        have hb := bezoutS_is hp hrd hrv (row_len d) (row_len _) (.inl (by omega))
        rw [pad_row, pad_row] at hb
        obtain ⟨b1, b2, b3, b4⟩ := bz_monic hp hrd hrv (row_len d) (row_len _) (.inl (by omega))
        have hg : spec_l01Gcd p d (dv p d) = some (pad (bz p (row d) (row (dv p d))).1) := by
          simp only [spec_l01Gcd, degS_row', Option.bind_some]
          rw [if_neg (by rw [decide_eq_true_eq]; omega)]
          simp only [Option.bind_some, Bool.false_eq_true, if_false, hb]
        have e1 : ((if (((row d).length : Int) - 1 != 1) = true then if (((row d).length : Int) - 1 != 3) = true then some (((row d).length : Int) - 1 != 5) else some false else some false) : Option Bool) = some false := by
          rcases h3 with h | h | h <;> rw [h] <;> rfl
        have e2 : (p == 2) = false := by simp [h2]
        simp only [hp, hs, Bool.and_true, Bool.not_true, Bool.false_eq_true, if_false, Option.bind_some, e2, e1, derS_is hp hd hs, hg, deg_pad b1 b3]
        refine congrArg some ?_
        have key : disc p d = decide ((bz p (row d) (row (dv p d))).1.length = 1) := by
          simp only [disc, hp, hs, decide_eq_true (show p ≠ 2 from h2), decide_eq_true h3, Bool.and_self, Bool.true_and]
        rw [key, Bool.eq_iff_iff, beq_iff_eq, decide_eq_true_eq]
        rw [row_pad b1 b3]
        omega
      · have e2 : (p == 2) = false := by simp [h2]
        have e1 : ((if (((row d).length : Int) - 1 != 1) = true then if (((row d).length : Int) - 1 != 3) = true then some (((row d).length : Int) - 1 != 5) else some false else some false) : Option Bool) = some true := by
          rw [if_pos (by rw [bne_iff_ne]; omega), if_pos (by rw [bne_iff_ne]; omega)]
          congr 1
          rw [bne_iff_ne]; omega
        simp only [hp, hs, Bool.and_true, Bool.not_true, Bool.false_eq_true, if_false, if_true, Option.bind_some, e2, e1]
        simp [disc, h3]
  · have hok : (isP p && small p d) = false := by simpa using hok
    have hok' : (small p d && isP p) = false := by rw [Bool.and_comm]; exact hok
    simp [hok', disc, hok]
theorem discI_is {p : Int} {d : V64} (hd : IsB d) : impl_IsDiscriminant p d = some (disc p d) := by
  have hI : impl_IsPoly p d = some (isP p && small p d) := by
    simp only [impl_IsPoly, isPrime_impl, isPoly_is hd, Option.bind_some]
    cases isP p <;> simp
  simp only [impl_IsDiscriminant, hI, row_is hd, Option.bind_some, degI_row']
  by_cases hok : (isP p && small p d) = true
  · obtain ⟨hp, hs⟩ : isP p = true ∧ small p d = true := by simpa using hok
    have hp2 := isP_pos hp
    by_cases h2 : p = 2
    · simp [disc, hp, hs, h2]
    · by_cases h3 : (row d).length = 2 ∨ (row d).length = 4 ∨ (row d).length = 6
      · have hrd := row_row (res_of_small hd hs)
        have hrv := row_row (dv_res hp2.1 d)
        have hl := row_len d
        have hv : IsB (dv p d) := fun x hx => by
          obtain ⟨i, hi, rfl⟩ := List.getElem_of_mem hx
          have h1 := (dv_res hp2.1 d) i (by rw [← (dv p d).2]; exact hi)
          rw [rd_lt hi] at h1
          omega
        have hb := bezoutI_is hp hrd hrv (row_len d) (row_len _) (.inl (by omega))
        obtain ⟨b1, b2, b3, b4⟩ := bz_monic hp hrd hrv (row_len d) (row_len _) (.inl (by omega))
        have e1 : ((if (((row d).length : Int) - 1 != 1) = true then if (((row d).length : Int) - 1 != 3) = true then some (((row d).length : Int) - 1 != 5) else some false else some false) : Option Bool) = some false := by
          rcases h3 with h | h | h <;> rw [h] <;> rfl
        have e2 : (p == 2) = false := by simp [h2]
        simp only [hp, hs, Bool.and_true, Bool.not_true, Bool.false_eq_true, if_false, Option.bind_some, e2, e1, derI_is hp hd hs, row_is hv, impl_prime_gcd, hb, isOne_is]
        refine congrArg some ?_
        have key : disc p d = decide ((bz p (row d) (row (dv p d))).1.length = 1) := by
          simp only [disc, hp, hs, decide_eq_true (show p ≠ 2 from h2), decide_eq_true h3, Bool.and_self, Bool.true_and]
        rw [key, Bool.eq_iff_iff, decide_eq_true_eq, decide_eq_true_eq]
        constructor
        · exact fun h => h.1
        · intro h
          refine ⟨h, ?_⟩
          unfold lead at b4
          rw [h] at b4
          exact b4
      · have e2 : (p == 2) = false := by simp [h2]
        have e1 : ((if (((row d).length : Int) - 1 != 1) = true then if (((row d).length : Int) - 1 != 3) = true then some (((row d).length : Int) - 1 != 5) else some false else some false) : Option Bool) = some true := by
          rw [if_pos (by rw [bne_iff_ne]; omega), if_pos (by rw [bne_iff_ne]; omega)]
          congr 1
          rw [bne_iff_ne]; omega
        simp only [hp, hs, Bool.and_true, Bool.not_true, Bool.false_eq_true, if_false, if_true, Option.bind_some, e2, e1]
        simp [disc, h3]
  · have hok : (isP p && small p d) = false := by simpa using hok
    simp [disc, hok]
end Go.Proofs.Ytdhcpekngpndnaa
/- Numbers as digits. -/
namespace Go.Proofs.Ytdhcpekngpndnaa
open Go.Abs

def digs (p n : Nat) : List Int := if n = 0 ∨ p < 2 then [] else ((n % p : Nat) : Int) :: digs p (n / p)
termination_by n
decreasing_by exact Nat.div_lt_self (by omega) (by omega)

theorem digs_zero (p : Nat) : digs p 0 = [] := by rw [digs]; simp

theorem digs_pos {p n : Nat} (hp : 2 ≤ p) (hn : 0 < n) : digs p n = ((n % p : Nat) : Int) :: digs p (n / p) := by
  rw [digs, if_neg (by omega)]

theorem digs_sum {p : Nat} : ∀ n : Nat, (∀ d ∈ digs p n, (0 : Int) ≤ d) ∧ (digs p n).sum ≤ n ∧ (digs p n).length ≤ n := by
  intro n
  induction n using Nat.strongRecOn with
  | ind n ih =>
    by_cases h : n = 0 ∨ p < 2
    · rw [digs, if_pos h]; simp
    · have hlt : n / p < n := Nat.div_lt_self (by omega) (by omega)
      have hle : n % p + n / p ≤ n := by
        have := Nat.div_add_mod n p
        have h3 : n / p ≤ p * (n / p) := Nat.le_mul_of_pos_left _ (by omega)
        omega
      obtain ⟨h1, h2, h3⟩ := ih _ hlt
      rw [digs, if_neg h]
      refine ⟨fun d hd => ?_, ?_, ?_⟩
      · rcases List.mem_cons.1 hd with rfl | hd
        · omega
        · exact h1 d hd
      · simp only [List.sum_cons]; omega
      · simp only [List.length_cons]; omega

theorem digs_lt {p : Nat} (hp : 2 ≤ p) : ∀ n : Nat, ∀ d ∈ digs p n, 0 ≤ d ∧ d < p := by
  intro n
  induction n using Nat.strongRecOn with
  | ind n ih =>
    intro d hd
    by_cases h : n = 0
    · subst h; rw [digs_zero] at hd; cases hd
    · rw [digs_pos hp (by omega)] at hd
      rcases List.mem_cons.1 hd with rfl | hd
      · have := Nat.mod_lt n (show p > 0 by omega)
        generalize n % p = x at this
        omega
      · exact ih _ (Nat.div_lt_self (by omega) hp) d hd

theorem digs_len {p : Nat} (hp : 2 ≤ p) : ∀ (k n : Nat), n < 2 ^ k → (digs p n).length ≤ k
  | 0, n, h => by
    have : n = 0 := by simpa using h
    subst this; rw [digs_zero]; simp
  | k + 1, n, h => by
    by_cases hn : n = 0
    · subst hn; rw [digs_zero]; simp
    · rw [digs_pos hp (by omega)]
      have : n / p < 2 ^ k := by
        have h1 : n / p ≤ n / 2 := Nat.div_le_div_left hp (by omega)
        have h2 : n / 2 < 2 ^ k := by rw [Nat.pow_succ] at h; omega
        omega
      have := digs_len hp k _ this
      simp only [List.length_cons]; omega

theorem digs_len40 {p n : Nat} (hp : 2 ≤ p) (hn : n ≤ 1000000000000) : (digs p n).length ≤ 40 := digs_len hp 40 n (by omega)

theorem digs_bytes {p n : Nat} (hp : 2 ≤ p) (h : p ≤ 256) : Bytes (digs p n) := fun d hd => by
  have := digs_lt hp n d hd; omega

theorem rd_cons (x : Int) (l : List Int) (i : Nat) : rd (x :: l) (i + 1) = rd l i := by simp [rd]
theorem digs_row {p : Nat} (hp : 2 ≤ p) (n : Nat) : Row p (digs p n) := by
  refine ⟨fun d hd => ?_, ?_⟩
  · have := digs_lt hp n d hd; omega
  · induction n using Nat.strongRecOn with
    | ind n ih =>
      intro h
      have hn : 0 < n := by
        rcases Nat.eq_zero_or_pos n with rfl | h'
        · rw [digs_zero] at h; simp at h
        · exact h'
      rw [digs_pos hp hn]
      simp only [List.length_cons, Nat.add_sub_cancel]
      rcases Nat.eq_zero_or_pos (n / p) with h0 | h0
      · rw [h0, digs_zero]
        have : n < p := by
          rcases Nat.lt_or_ge n p with h | h
          · exact h
          · have := Nat.div_pos h (by omega); omega
        rw [Nat.mod_eq_of_lt this]
        simp [rd]; omega
      · have hlt : n / p < n := Nat.div_lt_self hn (by omega)
        have h1 : (digs p (n / p)).length ≠ 0 := by rw [digs_pos hp h0]; simp
        have h2 := ih _ hlt h1
        obtain ⟨m, hm⟩ : ∃ m, (digs p (n / p)).length = m + 1 := ⟨(digs p (n / p)).length - 1, by omega⟩
        rw [hm] at h2 ⊢
        rw [rd_cons]
        simpa using h2
theorem digs_len_pow {p : Nat} (hp : 2 ≤ p) : ∀ (d n : Nat), p ^ d ≤ n → n < p ^ (d + 1) → (digs p n).length = d + 1
  | 0, n, h1, h2 => by
    simp only [Nat.pow_zero, Nat.zero_add, Nat.pow_one] at h1 h2
    rw [digs_pos hp (by omega), Nat.div_eq_of_lt h2, digs_zero]; rfl
  | d + 1, n, h1, h2 => by
    have hpos : 0 < p ^ (d + 1) := Nat.pow_pos (by omega)
    have h3 : p ^ d ≤ n / p := by
      rw [Nat.le_div_iff_mul_le (by omega)]
      rwa [← Nat.pow_succ]
    have h4 : n / p < p ^ (d + 1) := by
      rw [Nat.div_lt_iff_lt_mul (by omega)]
      rwa [← Nat.pow_succ]
    rw [digs_pos hp (by omega), List.length_cons, digs_len_pow hp d _ h3 h4]
theorem digs_monic_len {p : Nat} (hp : 2 ≤ p) {d i : Nat} (hi : i < p ^ d) : (digs p (p ^ d + i)).length = d + 1 := by
  refine digs_len_pow hp d _ (by omega) ?_
  have : p ^ (d + 1) = p ^ d * p := Nat.pow_succ ..
  have h2 : p ^ d * 2 ≤ p ^ d * p := Nat.mul_le_mul_left _ hp
  omega
end Go.Proofs.Ytdhcpekngpndnaa
/- The polynomial with a number. -/
namespace Go.Proofs.Ytdhcpekngpndnaa
open Go.Abs

theorem numbered_loop {p : Nat} (hp : 2 ≤ p) : ∀ s : Int × List Int, (∃ n : Nat, s.1 = n ∧ s.2.length + n ≤ 1000000000000) → ∃ r, loopM (fun s : Int × List Int => impl_prime_numbered_l1 p s.1 s.2) s = some r ∧ ∀ n : Nat, s.1 = n → r = s.2 ++ digs p n := by
  refine loopM_ind (fun (s : Int × List Int) => ∃ n : Nat, s.1 = n ∧ s.2.length + n ≤ 1000000000000) (fun (s : Int × List Int) (r : List Int) => ∀ n : Nat, s.1 = n → r = s.2 ++ digs p n) (fun (s : Int × List Int) => s.1.toNat) ?_
  rintro ⟨x, l⟩ ⟨n, hx, h2⟩
  simp only at hx h2
  subst hx
  by_cases hn : n = 0
  · right
    subst hn
    refine ⟨l, by simp [impl_prime_numbered_l1], fun m hm => ?_⟩
    have : m = 0 := by simpa using hm.symm
    subst this
    rw [digs_zero]; simp
  · left
    have hlt : n / p < n := Nat.div_lt_self (by omega) hp
    have e1 : Int.tdiv (n : Int) p = ((n / p : Nat) : Int) := rfl
    have e2 : Int.tmod (n : Int) p = ((n % p : Nat) : Int) := rfl
    have ed := digs_pos hp (show 0 < n by omega)
    generalize n / p = q at hlt e1 ed
    generalize n % p = d at e2 ed
    refine ⟨((q : Int), l ++ [(d : Int)]), ?_, ⟨q, rfl, by simp only [List.length_append, List.length_singleton]; omega⟩, by simp only [Int.toNat_natCast]; exact hlt, fun r hr m hm => ?_⟩
    · simp only [impl_prime_numbered_l1]
      rw [if_pos (by simp; omega), ifp_pos (by omega), ifp_pos (by simp; omega), ifp_pos (by omega), e1, e2, wrap64 (by omega) (by omega)]
    · have : m = n := by have : (n : Int) = m := hm; omega
      subst this
      rw [hr q rfl, ed]
      simp

theorem numbered_is {p n : Nat} (hp : 2 ≤ p) (hn : n ≤ 1000000000000) : impl_prime_numbered p n = some (digs p n) := by
  obtain ⟨l, h3, h4⟩ := numbered_loop hp ((n : Int), []) ⟨n, rfl, by simp; omega⟩
  have e := h4 n rfl
  simp only [List.nil_append] at e
  simp [impl_prime_numbered, h3, e]

theorem of_loop {p : Nat} (hp : 2 ≤ p) (hp2 : p ≤ 256) : ∀ s : Int × Int × V64, (∃ (n : Nat) (l : List Int), s.1 = n ∧ n ≤ 1000000000000 ∧ s.2.1 = (l.length : Nat) ∧ s.2.2 = pad l ∧ l.length + (digs p n).length ≤ 64) →
    ∃ r, loopM (fun s : Int × Int × V64 => spec_l01Of_l1 p s.1 s.2.1 s.2.2) s = some r ∧ ∀ (n : Nat) (l : List Int), s.1 = n → s.2.1 = (l.length : Nat) → s.2.2 = pad l → r = pad (l ++ digs p n) := by
  refine loopM_ind (fun (s : Int × Int × V64) => ∃ (n : Nat) (l : List Int), s.1 = n ∧ n ≤ 1000000000000 ∧ s.2.1 = (l.length : Nat) ∧ s.2.2 = pad l ∧ l.length + (digs p n).length ≤ 64)
    (fun (s : Int × Int × V64) (r : V64) => ∀ (n : Nat) (l : List Int), s.1 = n → s.2.1 = (l.length : Nat) → s.2.2 = pad l → r = pad (l ++ digs p n)) (fun (s : Int × Int × V64) => s.1.toNat) ?_
  rintro ⟨x, i, v⟩ ⟨n, l, hx, hn, hi, hv, hl⟩
  simp only at hx hi hv
  subst hx hi hv
  by_cases h : n = 0
  · right
    subst h
    refine ⟨pad l, by simp [spec_l01Of_l1], fun m k hm hk hv => ?_⟩
    have : m = 0 := by have : ((0 : Nat) : Int) = m := hm; omega
    subst this
    rw [digs_zero, List.append_nil]; exact hv
  · left
    have hlt : n / p < n := Nat.div_lt_self (by omega) hp
    have e1 : Int.tdiv (n : Int) p = ((n / p : Nat) : Int) := rfl
    have e2 : Int.tmod (n : Int) p = ((n % p : Nat) : Int) := rfl
    have ed := digs_pos hp (show 0 < n by omega)
    have hm := Nat.mod_lt n (show p > 0 by omega)
    generalize n / p = q at hlt e1 ed
    generalize n % p = d at e2 ed hm
    rw [ed] at hl
    simp only [List.length_cons] at hl
    refine ⟨((q : Int), ((l ++ [(d : Int)]).length : Nat), pad (l ++ [(d : Int)])), ?_, ⟨q, l ++ [(d : Int)], rfl, by omega, rfl, rfl, by simp; omega⟩, by simp only [Int.toNat_natCast]; exact hlt, fun r hr m k hm hk hv => ?_⟩
    · simp only [spec_l01Of_l1]
      rw [if_pos (by simp; omega), ifp_pos (by omega), ifp_pos (by omega), ifp_pos (by omega), e1, e2, wrap64 (by omega) (by omega), wrap64 (by omega) (by omega), wrap8 (by omega) (by omega)]
      rw [Int.toNat_natCast, pad_set l d (by omega)]
      simp
    · have : m = n := by have : (n : Int) = m := hm; omega
      subst this
      have h1 := hr q (l ++ [(d : Int)]) rfl rfl rfl
      rw [h1, ed]
      simp only at hv hk
      have hkl : k.length = l.length := by omega
      refine vec_ext fun j hj => ?_
      rw [pad_rd _ hj, pad_rd _ hj, List.append_assoc]
      simp only [List.singleton_append]
      have hv' : ∀ j, j < 64 → l.getD j 0 = k.getD j 0 := fun j hj => by
        have := congrArg (fun v : V64 => rd v.1 j) hv
        simp only [pad_rd _ hj] at this
        exact this
      rw [getD_app, getD_app, hkl]
      split
      · exact hv' j hj
      · rfl

theorem of_is {p n : Nat} (hp : 2 ≤ p) (hp2 : p ≤ 256) (hn : n ≤ 1000000000000) : spec_l01Of p n = some (pad (digs p n)) := by
  have hl := digs_len40 hp hn
  obtain ⟨r, h1, h2⟩ := of_loop hp hp2 ((n : Int), 0, pad []) ⟨n, [], rfl, hn, rfl, rfl, by simp; omega⟩
  have e := h2 n [] rfl rfl rfl
  simp only [spec_l01Of, ← pad_nil, h1, e, Option.bind_some, List.nil_append]
end Go.Proofs.Ytdhcpekngpndnaa
/- Monic polynomials, in the program. -/
namespace Go.Proofs.Ytdhcpekngpndnaa
open Go.Abs

/-- The monic polynomials of degree d. -/
def monicL (p d : Nat) (n : Nat) : List (List Int) := (List.range n).map fun i => digs p (p ^ d + i)
theorem monics_is {p d : Nat} (hp : 2 ≤ p ∧ p ≤ 7) (hd : d ≤ 1000000) (hm : p ^ d ≤ 343) : impl_prime_monics p d = some (monicL p d (p ^ d)) := by
  obtain ⟨c, h1, h2, _⟩ := norm_is (n := d) (most := 343) hp hd (by omega)
  have hc : c = p ^ d := by omega
  subst hc
  have h1' : impl_prime_norm p d 343 = some ((p ^ d : Nat) : Int) := h1
  simp only [impl_prime_monics, h1', Option.bind_some]
  generalize hn : p ^ d = n at *
  obtain ⟨s, g1, g2⟩ := loopM_for (body := fun s : Int × List (List Int) => impl_prime_monics_l1 (n : Int) p s.1 s.2) (fun i s => ((i : Int), s)) (fun s => s) n
    (fun i s => s = (List.range i).map fun i => digs p (n + i)) (fun i s hi hI => by
      subst hI
      refine ⟨_, ?_, rfl⟩
      simp only [impl_prime_monics_l1]
      have e : IntKind.i64.wrap ((n : Int) + (i : Int)) = ((n + i : Nat) : Int) := by rw [wrap64 (by omega) (by omega)]; omega
      rw [if_pos (decide_eq_true (by omega)), e, numbered_is hp.1 (by omega)]
      simp only [Option.bind_some]
      rw [ifp_pos (by simp; omega), wrap64 (by omega) (by omega), List.range_succ, List.map_append]
      rfl) (fun s hI => by
      simp only [impl_prime_monics_l1]
      rw [if_neg (by rw [decide_eq_true_eq]; omega)]) n 0 [] (by omega) rfl
  have g1' : loopM (fun s : Int × List (List Int) => impl_prime_monics_l1 (n : Int) p s.1 s.2) (0, []) = some s := g1
  rw [g1', g2, monicL, hn]
  rfl
end Go.Proofs.Ytdhcpekngpndnaa
/- Digits of numbers, one by one. -/
namespace Go.Proofs.Ytdhcpekngpndnaa
open Go.Abs

theorem digs_rd {p : Nat} (hp : 2 ≤ p) : ∀ (j n : Nat), rd (digs p n) j = ((n / p ^ j % p : Nat) : Int)
  | 0, n => by
    rcases Nat.eq_zero_or_pos n with rfl | h
    · rw [digs_zero]; simp [rd]
    · rw [digs_pos hp h]; simp [rd]
  | j + 1, n => by
    rcases Nat.eq_zero_or_pos n with rfl | h
    · rw [digs_zero]; simp [rd]
    · rw [digs_pos hp h, rd_cons, digs_rd hp j, Nat.pow_succ, Nat.mul_comm (p ^ j), Nat.div_div_eq_div_mul]
theorem digs_monic {p g i : Nat} (hp : 2 ≤ p) (hi : i < p ^ g) : rd (digs p (p ^ g + i)) g = 1 := by
  have hpos : 0 < p ^ g := Nat.pow_pos (by omega)
  rw [digs_rd hp, Nat.add_div_left _ hpos, Nat.div_eq_of_lt hi]
  have : (0 + 1) % p = 1 := Nat.mod_eq_of_lt (by omega)
  rw [this]; rfl
end Go.Proofs.Ytdhcpekngpndnaa
/- Monic polynomials from their numbers. -/
namespace Go.Proofs.Ytdhcpekngpndnaa
open Go.Abs

theorem monic_pad {p n k : Nat} (hp : 2 ≤ p) (hn : n < 64) (hk : k < p ^ n) : vset (pad (digs p k)) n 1 = pad (digs p (p ^ n + k)) := by
  refine vec_ext fun j hj => ?_
  rw [rd_vset _ _ _ _ hn, rd_padl _ hj, rd_padl _ hj, digs_rd hp, digs_rd hp]
  have hpos : ∀ e, 0 < p ^ e := fun e => Nat.pow_pos (by omega)
  rcases Nat.lt_trichotomy j n with h | h | h
  · rw [if_neg (by omega)]
    have e1 : p ^ n = p ^ j * (p * p ^ (n - j - 1)) := by
      rw [← Nat.mul_assoc, ← Nat.pow_succ, ← Nat.pow_add]; congr 1; omega
    rw [e1, Nat.mul_add_div (hpos j), Nat.mul_add_mod]
  · subst h
    rw [if_pos rfl, Nat.add_div_left _ (hpos j), Nat.div_eq_of_lt hk]
    have : (0 + 1) % p = 1 := Nat.mod_eq_of_lt (by omega)
    simp [this]
  · rw [if_neg (by omega)]
    have h1 : p ^ n * 2 ≤ p ^ j := by
      have : p ^ (n + 1) ≤ p ^ j := Nat.pow_le_pow_right (by omega) h
      rw [Nat.pow_succ] at this
      have := Nat.mul_le_mul_left (p ^ n) hp
      omega
    rw [Nat.div_eq_of_lt (show k < p ^ j by omega), Nat.div_eq_of_lt (show p ^ n + k < p ^ j by omega)]
theorem digs_short {p g j : Nat} (hp : 2 ≤ p) (hj : j < p ^ g) : (digs p j).length ≤ g := by
  rcases Nat.lt_or_ge g (digs p j).length with h | h
  · have h1 := (digs_row hp j).nrm (by omega)
    rw [digs_rd hp] at h1
    have h2 : p ^ g ≤ p ^ ((digs p j).length - 1) := Nat.pow_le_pow_right (by omega) (by omega)
    rw [Nat.div_eq_of_lt (by omega)] at h1
    exact absurd (by simp) h1
  · exact h
end Go.Proofs.Ytdhcpekngpndnaa
/- The leading coefficient. -/
namespace Go.Proofs.Ytdhcpekngpndnaa
open Go.Abs

theorem lead_any {b : List Int} (hl : b.length ≤ 1000000) : impl_row_lead b = some (lead b) := by
  by_cases h : b.length = 0
  · have e : b = [] := List.eq_nil_of_length_eq_zero h
    subst e
    rfl
  · exact lead_is h hl
theorem degI_row (v : V64) : impl_row_degree (row v) = some (((row v).length : Int) - 1) := by
  have := row_len v
  simp only [impl_row_degree]
  rw [wrap64 (by omega) (by omega)]
theorem degS_row (v : V64) : spec_l01Deg v = some (((row v).length : Int) - 1) := by rw [deg_is, row_length]
theorem lead_nil : lead [] = 0 := rfl
theorem monicS_is (v : V64) : spec_l01Monic v = some (decide (lead (row v) = 1)) := by
  have hl := row_len v
  simp only [spec_l01Monic, degS_row, Option.bind_some]
  by_cases h : (row v).length = 0
  · have e : row v = [] := List.eq_nil_of_length_eq_zero h
    rw [e, lead_nil]
    simp
  · have e : ((row v).length : Int) - 1 = (((row v).length - 1 : Nat) : Int) := by omega
    rw [e, if_pos (decide_eq_true (by omega)), ifp_pos (by omega), Int.toNat_natCast, ← row_rd v (by omega)]
    congr 1
end Go.Proofs.Ytdhcpekngpndnaa
/- Reduced forms. -/
namespace Go.Proofs.Ytdhcpekngpndnaa
open Go.Abs

/-- Does A divide B B - D? -/
def isF (p : Int) (D A B : List Int) : Bool := decide ((rem p (comb p (mul p B B) D (-1)) A).length = 0)
theorem isb_res {p : Int} (hp : p ≤ 256) {v : V64} (h : Res p v) : IsB v := fun x hx => by
  obtain ⟨i, hi, rfl⟩ := List.getElem_of_mem hx
  have h1 := h i (by rw [← v.2]; exact hi)
  rw [rd_lt hi] at h1
  omega
theorem small_res {p : Int} {v : V64} (h : Res p v) : small p v = true := by
  simp only [small, decide_eq_true_eq]
  exact fun j hj => (h j hj).2
theorem isPad {p : Int} (hp : isP p = true) {A : List Int} (hA : Row p A) : spec_l01Is p (pad A) = some true := by
  have hp2 := isP_pos hp
  have h := res_pad hA (show 0 < p by omega)
  rw [is_is (isb_res (by omega) h), small_res h, hp, Bool.and_self]
theorem formS_is {p : Int} (hp : isP p = true) {d : V64} (hd : Res p d) (ld : (row d).length ≤ 6) {A B : List Int} (hA : Row p A) (hB : Row p B) (h1 : lead A = 1) (lA : A.length ≤ 13) (lB : B.length < A.length) :
    spec_l07Form p d (pad A, pad B) = some (isF p (row d) A B) := by
  have hp2 := isP_pos hp
  have hq : 0 < p ∧ p ≤ 256 := by omega
  have hrd := row_row hd
  have m1 := mul_len p B B
  have c1 := comb_len p (mul p B B) (row d) (-1)
  have hm : spec_l01Monic (pad A) = some true := by rw [monicS_is, row_pad hA (by omega), h1, decide_eq_true rfl]
  have hsq : spec_l07Square p d (pad B) = some (pad (comb p (mul p B B) (row d) (-1))) := by
    simp only [spec_l07Square]
    rw [times_pad (by omega) hB hB (by omega) (by omega) (.inr (.inr (by omega)))]
    simp only [Option.bind_some]
    have := add_pad hq (mul_row hq.1 B B) hrd (by omega) (by omega) (show -1099511627776 ≤ (-1 : Int) ∧ (-1 : Int) ≤ 1099511627776 by omega)
    rw [pad_row] at this
    simp only [this, Option.bind_some]
  have hmod : spec_l01Mod p (pad (comb p (mul p B B) (row d) (-1))) (pad A) = some (pad (rem p (comb p (mul p B B) (row d) (-1)) A)) := by
    simp only [spec_l01Mod]
    rw [divideS_is hp (comb_row hq.1 _ _ _) hA (by omega) (by omega) (by omega), Option.bind_some]
  have hrem := rem_row hq.1 (comb_row hq.1 (mul p B B) (row d) (-1)) A
  have lrem := rem_len' p (comb p (mul p B B) (row d) (-1)) A
  simp only [spec_l07Form, isPad hp hA, isPad hp hB, hm, Option.bind_some, Bool.not_true, Bool.false_eq_true, if_false, deg_pad hA (by omega), deg_pad hB (by omega)]
  rw [if_neg (by rw [decide_eq_true_eq]; omega)]
  rw [show decide ((B.length : Int) - 1 ≥ (A.length : Int) - 1) = false from decide_eq_false (by omega)]
  simp only [Option.bind_some, Bool.false_eq_true, if_false, hsq, hmod, deg_pad hrem (by omega)]
  refine congrArg some ?_
  rw [isF, Bool.eq_iff_iff]
  simp only [decide_eq_true_eq]
  omega
theorem formI_is {p : Int} (hp : isP p = true) {D A B : List Int} (hD : Row p D) (ld : D.length ≤ 6) (hA : Row p A) (hB : Row p B) (h1 : lead A = 1) (lA : A.length ≤ 13) (lB : B.length < A.length) :
    impl_curve_isForm (p, D) (A, B) = some (isF p D A B) := by
  have hp2 := isP_pos hp
  have hq : 0 < p ∧ p ≤ 256 := by omega
  have m1 := mul_len p B B
  have c1 := comb_len p (mul p B B) D (-1)
  have dg : ∀ l : List Int, l.length ≤ 1000 → impl_row_degree l = some ((l.length : Int) - 1) := fun l hl => by
    simp only [impl_row_degree]
    rw [wrap64 (by omega) (by omega)]
  have hrest : impl_prime_rest p (comb p (mul p B B) D (-1)) A = some (rem p (comb p (mul p B B) D (-1)) A) := by
    simp only [impl_prime_rest]
    rw [divideI_is hp (comb_row hq.1 _ _ _) hA (by omega) (by omega) (by omega), Option.bind_some]
  simp only [impl_curve_isForm, lead_any (show A.length ≤ 1000000 by omega), h1, Option.bind_some, beq_self_eq_true, if_true, dg A (by omega), dg B (by omega)]
  rw [if_pos (decide_eq_true (by omega)), if_pos (decide_eq_true (by omega)), times_is (by omega) (hB.ent hq) (hB.ent hq) (by omega) (by omega)]
  simp only [Option.bind_some]
  rw [combine_is hq ((mul_row hq.1 _ _).ent hq) (hD.ent hq) (by omega) (by omega) (by omega)]
  simp only [Option.bind_some, hrest, isOne_is]
  have hrl := rem_len hp (comb_row hq.1 (mul p B B) D (-1)) hA (by omega)
  unfold isF
  by_cases h0 : (rem p (comb p (mul p B B) D (-1)) A).length = 0
  · rw [if_pos (by rw [beq_iff_eq]; omega), decide_eq_true h0]
  · have : ¬ (A.length = 1 ∧ rd A 0 = 1) := fun h => by omega
    rw [if_neg (by rw [beq_iff_eq]; omega), decide_eq_false this, decide_eq_false h0]
    rfl

/-- The forms. -/
def f3 (p : Nat) (D A : List Int) : Nat → List (List Int × List Int)
  | 0 => []
  | j + 1 => if isF p D A (digs p j) then f3 p D A j ++ [(A, digs p j)] else f3 p D A j
def f2 (p : Nat) (D : List Int) (g : Nat) : Nat → List (List Int × List Int)
  | 0 => []
  | i + 1 => f2 p D g i ++ f3 p D (digs p (p ^ g + i)) (p ^ g)
def f1 (p : Nat) (D : List Int) : Nat → List (List Int × List Int)
  | 0 => []
  | g + 1 => f1 p D g ++ f2 p D g (p ^ g)
theorem f3_len (p : Nat) (D A : List Int) : ∀ j, (f3 p D A j).length ≤ j
  | 0 => Nat.le_refl _
  | j + 1 => by
    have := f3_len p D A j
    simp only [f3]
    split
    · simp; omega
    · omega
theorem f2_len (p : Nat) (D : List Int) (g : Nat) : ∀ i, (f2 p D g i).length ≤ i * p ^ g
  | 0 => by simp [f2]
  | i + 1 => by
    have h1 := f2_len p D g i
    have h2 := f3_len p D (digs p (p ^ g + i)) (p ^ g)
    simp only [f2, List.length_append, Nat.add_mul, Nat.one_mul]
    omega
def pp (q : List Int × List Int) : V64 × V64 := (pad q.1, pad q.2)

theorem l3S {p g i : Nat} (hp : isP p = true) (hg : p ^ g ≤ 343) (hg2 : g ≤ 8) (hi : i < p ^ g) {d : V64} (hd : Res p d) (ld : (row d).length ≤ 6) (l0 : List (V64 × V64)) (hl0 : l0.length ≤ 1000000) :
    loopM (fun s : Int × List (V64 × V64) => spec_l07All_l3 p g d (pad (digs p i)) s.1 s.2) (0, l0) = some (l0 ++ (f3 p (row d) (digs p (p ^ g + i)) (p ^ g)).map pp) := by
  have hp2 := isP_pos hp
  have hpn : 2 ≤ p ∧ p ≤ 7 := by omega
  obtain ⟨c, h1, h2⟩ := count_is (n := g) hpn (by omega)
  have hc : c = p ^ g := by omega
  subst hc
  have hA := digs_row hpn.1 (p ^ g + i)
  have lA := digs_monic_len hpn.1 hi
  have leadA : lead (digs p (p ^ g + i)) = 1 := by
    unfold lead
    rw [lA]
    exact digs_monic hpn.1 hi
  obtain ⟨s, g1, g2⟩ := loopM_for (body := fun s : Int × List (V64 × V64) => spec_l07All_l3 p g d (pad (digs p i)) s.1 s.2) (fun j s => ((j : Int), s)) (fun s => s) (p ^ g)
    (fun j s => s = l0 ++ (f3 p (row d) (digs p (p ^ g + i)) j).map pp) (fun j s hj hI => by
      subst hI
      refine ⟨_, ?_, rfl⟩
      have hfl := f3_len p (row d) (digs p (p ^ g + i)) j
      have lB := digs_short hpn.1 hj
      have hf := formS_is hp hd ld hA (digs_row hpn.1 j) leadA (by omega) (show (digs p j).length < _ by omega)
      simp only [spec_l07All_l3, h1, Option.bind_some]
      rw [if_pos (decide_eq_true (by omega)), of_is hpn.1 (by omega) (by omega)]
      simp only [Option.bind_some, Int.toNat_natCast]
      rw [monic_pad hpn.1 (by omega) hi, hf]
      simp only [Option.bind_some, f3]
      rw [wrap64 (by omega) (by omega)]
      cases isF p (row d) (digs p (p ^ g + i)) (digs p j) with
      | false => rfl
      | true =>
        simp only [if_true]
        rw [ifp_pos (by simp; omega)]
        simp only [Option.bind_some, List.map_append, List.append_assoc]
        rfl) (fun s hI => by
      simp only [spec_l07All_l3, h1, Option.bind_some]
      rw [if_neg (by rw [decide_eq_true_eq]; omega)]) (p ^ g) 0 l0 (by omega) (by simp [f3])
  have g1' : loopM (fun s : Int × List (V64 × V64) => spec_l07All_l3 p g d (pad (digs p i)) s.1 s.2) (0, l0) = some s := g1
  rw [g1', g2]
theorem l2S {p g : Nat} (hp : isP p = true) (hg : p ^ g ≤ 343) (hg2 : g ≤ 8) {d : V64} (hd : Res p d) (ld : (row d).length ≤ 6) (l0 : List (V64 × V64)) (hl0 : l0.length ≤ 500000) :
    loopM (fun s : Int × List (V64 × V64) => spec_l07All_l2 p g d s.1 s.2) (0, l0) = some (l0 ++ (f2 p (row d) g (p ^ g)).map pp) := by
  have hp2 := isP_pos hp
  have hpn : 2 ≤ p ∧ p ≤ 7 := by omega
  obtain ⟨c, h1, h2⟩ := count_is (n := g) hpn (by omega)
  have hc : c = p ^ g := by omega
  subst hc
  obtain ⟨s, g1, g2⟩ := loopM_for (body := fun s : Int × List (V64 × V64) => spec_l07All_l2 p g d s.1 s.2) (fun j s => ((j : Int), s)) (fun s => s) (p ^ g)
    (fun j s => s = l0 ++ (f2 p (row d) g j).map pp) (fun j s hj hI => by
      subst hI
      refine ⟨_, ?_, rfl⟩
      have hfl := f2_len p (row d) g j
      have hfl2 : j * p ^ g ≤ 343 * 343 := Nat.mul_le_mul (by omega) hg
      have h3 := l3S hp hg hg2 hj hd ld (l0 ++ (f2 p (row d) g j).map pp) (by simp; omega)
      simp only [spec_l07All_l2, h1, Option.bind_some]
      rw [if_pos (decide_eq_true (by omega)), of_is hpn.1 (by omega) (by omega)]
      simp only [Option.bind_some]
      rw [ifp_pos (by omega), h3]
      simp only [Option.bind_some, f2, List.map_append, List.append_assoc]
      rw [wrap64 (by omega) (by omega)]
      rfl) (fun s hI => by
      simp only [spec_l07All_l2, h1, Option.bind_some]
      rw [if_neg (by rw [decide_eq_true_eq]; omega)]) (p ^ g) 0 l0 (by omega) (by simp [f2])
  have g1' : loopM (fun s : Int × List (V64 × V64) => spec_l07All_l2 p g d s.1 s.2) (0, l0) = some s := g1
  rw [g1', g2]
theorem l3I {p g i : Nat} (hp : isP p = true) (hg : p ^ g ≤ 343) (hg2 : g ≤ 8) (hi : i < p ^ g) {D : List Int} (hd : Row p D) (ld : D.length ≤ 6) (l0 : List (List Int × List Int)) (hl0 : l0.length ≤ 1000000) :
    loopM (fun s : Int × List (List Int × List Int) => impl_curve_forms_l3 ((p ^ g : Nat) : Int) ((p : Int), D) (monicL p g (p ^ g)) (i : Int) s.1 s.2) (0, l0) = some (l0 ++ f3 p D (digs p (p ^ g + i)) (p ^ g)) := by
  have hp2 := isP_pos hp
  have hpn : 2 ≤ p ∧ p ≤ 7 := by omega
  have hA := digs_row hpn.1 (p ^ g + i)
  have lA := digs_monic_len hpn.1 hi
  have leadA : lead (digs p (p ^ g + i)) = 1 := by
    unfold lead
    rw [lA]
    exact digs_monic hpn.1 hi
  have hrd : rd (monicL p g (p ^ g)) i = digs p (p ^ g + i) := by simp [rd, monicL, hi]
  generalize hM : monicL p g (p ^ g) = M at *
  obtain ⟨s, g1, g2⟩ := loopM_for (body := fun s : Int × List (List Int × List Int) => impl_curve_forms_l3 ((p ^ g : Nat) : Int) ((p : Int), D) M (i : Int) s.1 s.2) (fun j s => ((j : Int), s)) (fun s => s) (p ^ g)
    (fun j s => s = l0 ++ f3 p D (digs p (p ^ g + i)) j) (fun j s hj hI => by
      subst hI
      refine ⟨_, ?_, rfl⟩
      have hfl := f3_len p D (digs p (p ^ g + i)) j
      have lB := digs_short hpn.1 hj
      have hf := formI_is hp hd ld hA (digs_row hpn.1 j) leadA (by omega) (show (digs p j).length < _ by omega)
      simp only [impl_curve_forms_l3]
      rw [if_pos (decide_eq_true (by omega)), numbered_is hpn.1 (by omega)]
      simp only [Option.bind_some, Int.toNat_natCast, hrd]
      rw [hf]
      simp only [Option.bind_some, f3]
      rw [wrap64 (by omega) (by omega)]
      cases isF p D (digs p (p ^ g + i)) (digs p j) with
      | false => rfl
      | true =>
        simp only [if_true]
        rw [ifp_pos (by simp; omega)]
        simp only [Option.bind_some, List.append_assoc]
        rfl) (fun s hI => by
      simp only [impl_curve_forms_l3]
      rw [if_neg (by rw [decide_eq_true_eq]; omega)]) (p ^ g) 0 l0 (by omega) (by simp [f3])
  have g1' : loopM (fun s : Int × List (List Int × List Int) => impl_curve_forms_l3 ((p ^ g : Nat) : Int) ((p : Int), D) M (i : Int) s.1 s.2) (0, l0) = some s := g1
  rw [g1', g2]
theorem l2I {p g : Nat} (hp : isP p = true) (hg : p ^ g ≤ 343) (hg2 : g ≤ 8) {D : List Int} (hd : Row p D) (ld : D.length ≤ 6) (l0 : List (List Int × List Int)) (hl0 : l0.length ≤ 500000) :
    loopM (fun s : Int × List (List Int × List Int) => impl_curve_forms_l2 (monicL p g (p ^ g)) ((p : Int), D) (g : Int) s.1 s.2) (0, l0) = some (l0 ++ f2 p D g (p ^ g)) := by
  have hp2 := isP_pos hp
  have hpn : 2 ≤ p ∧ p ≤ 7 := by omega
  obtain ⟨c, h1, h2, _⟩ := norm_is (n := g) (most := 1099511627776) hpn (by omega) (by omega)
  have hc : c = p ^ g := by omega
  subst hc
  have h1' : impl_prime_norm p g 1099511627776 = some ((p ^ g : Nat) : Int) := h1
  have hml : (monicL p g (p ^ g)).length = p ^ g := by simp [monicL]
  obtain ⟨s, g1, g2⟩ := loopM_for (body := fun s : Int × List (List Int × List Int) => impl_curve_forms_l2 (monicL p g (p ^ g)) ((p : Int), D) (g : Int) s.1 s.2) (fun j s => ((j : Int), s)) (fun s => s) (p ^ g)
    (fun j s => s = l0 ++ f2 p D g j) (fun j s hj hI => by
      subst hI
      refine ⟨_, ?_, rfl⟩
      have hfl := f2_len p D g j
      have hfl2 : j * p ^ g ≤ 343 * 343 := Nat.mul_le_mul (by omega) hg
      have h3 := l3I hp hg hg2 hj hd ld (l0 ++ f2 p D g j) (by simp; omega)
      simp only [impl_curve_forms_l2, hml]
      rw [if_pos (decide_eq_true (by omega)), ifp_pos (by omega), h1']
      simp only [Option.bind_some, h3, f2, List.append_assoc]
      rw [wrap64 (by omega) (by omega)]
      rfl) (fun s hI => by
      simp only [impl_curve_forms_l2, hml]
      rw [if_neg (by rw [decide_eq_true_eq]; omega)]) (p ^ g) 0 l0 (by omega) (by simp [f2])
  have g1' : loopM (fun s : Int × List (List Int × List Int) => impl_curve_forms_l2 (monicL p g (p ^ g)) ((p : Int), D) (g : Int) s.1 s.2) (0, l0) = some s := g1
  rw [g1', g2]
end Go.Proofs.Ytdhcpekngpndnaa
/- A row as an array. -/
namespace Go.Proofs.Ytdhcpekngpndnaa
open Go.Abs

theorem poly_loop {l : List Int} (hb : Bytes l) (hl : l.length ≤ 64) : ∀ s : Int × V64, (∃ i : Nat, s.1 = i ∧ i ≤ l.length ∧ s.2 = pad (l.take i)) → ∃ r, loopM (fun s : Int × V64 => impl_row_poly_l1 l s.1 s.2) s = some r ∧ r = pad l := by
  refine loopM_ind (fun (s : Int × V64) => ∃ i : Nat, s.1 = i ∧ i ≤ l.length ∧ s.2 = pad (l.take i)) (fun (s : Int × V64) r => r = pad l) (fun (s : Int × V64) => 64 - s.1.toNat) ?_
  rintro ⟨x, v⟩ ⟨i, hx, hi, hv⟩
  simp only at hx hv
  subst hx hv
  by_cases h : i = l.length
  · right
    subst h
    exact ⟨pad l, by simp [impl_row_poly_l1], rfl⟩
  · left
    have hil : i < l.length := by omega
    have er : rd l i = l[i] := by simp [rd, hil]
    have hbi := hb l[i] (List.getElem_mem _)
    refine ⟨(((i + 1 : Nat) : Int), pad (l.take (i + 1))), ?_, ⟨i + 1, rfl, by omega, rfl⟩, by simp; omega, fun r hr => hr⟩
    simp only [impl_row_poly_l1]
    rw [if_pos (by simp; omega), ifp_pos (by omega), ifp_pos (by omega)]
    simp only [Int.toNat_natCast, er]
    rw [wrap64 (by omega) (by omega), wrap8 hbi.1 hbi.2]
    have := pad_set (l.take i) l[i] (by simp; omega)
    rw [List.length_take, Nat.min_eq_left (by omega)] at this
    rw [this, List.take_succ_eq_append_getElem hil]
    simp

theorem poly_is {l : List Int} (hb : Bytes l) (hl : l.length ≤ 64) : impl_row_poly l = some (pad l) := by
  obtain ⟨r, h1, h2⟩ := poly_loop hb hl (0, pad []) ⟨0, rfl, by omega, by simp⟩
  simp only [impl_row_poly, ← pad_nil, h1, h2, Option.bind_some]
end Go.Proofs.Ytdhcpekngpndnaa
/- The list of reduced forms on both sides. -/
namespace Go.Proofs.Ytdhcpekngpndnaa
open Go.Abs

theorem f1_len {p : Nat} (D : List Int) : ∀ g, (∀ i, i < g → p ^ i ≤ 343) → (f1 p D g).length ≤ g * 117649
  | 0, _ => by simp [f1]
  | g + 1, h => by
    have h1 := f1_len (p := p) D g fun i hi => h i (by omega)
    have h2 := f2_len p D g (p ^ g)
    have h3 := h g (by omega)
    have h4 : p ^ g * p ^ g ≤ 343 * 343 := Nat.mul_le_mul h3 h3
    simp only [f1, List.length_append]
    omega
theorem few2 {p g : Nat} (hp : p ≤ 7) (hg : g ≤ 2) : p ^ g ≤ 343 := by
  have h1 : p ^ g ≤ 7 ^ g := Nat.pow_le_pow_left hp g
  have h2 : 7 ^ g ≤ 7 ^ 2 := Nat.pow_le_pow_right (by omega) hg
  omega
/-- Rows of at most 64 coefficients. -/
def Fine (p : Int) (q : List Int × List Int) : Prop := (Row p q.1 ∧ q.1.length ≤ 64) ∧ (Row p q.2 ∧ q.2.length ≤ 64)
theorem f3_fine {p : Nat} (hp : 2 ≤ p) {D A : List Int} (hA : Row p A ∧ A.length ≤ 64) {g : Nat} (hg : g ≤ 64) : ∀ j, j ≤ p ^ g → ∀ q ∈ f3 p D A j, Fine p q
  | 0, _ => by simp [f3]
  | j + 1, h => by
    have ih := f3_fine (D := D) hp hA hg j (by omega)
    intro q hq
    simp only [f3] at hq
    split at hq
    · rcases List.mem_append.1 hq with h1 | h1
      · exact ih q h1
      · have e : q = (A, digs p j) := by simpa using h1
        subst e
        have := digs_short hp (show j < p ^ g by omega)
        exact ⟨hA, digs_row hp j, by simp only; omega⟩
    · exact ih q hq
theorem f2_fine {p : Nat} (hp : 2 ≤ p) {D : List Int} {g : Nat} (hg : g ≤ 60) : ∀ i, i ≤ p ^ g → ∀ q ∈ f2 p D g i, Fine p q
  | 0, _ => by simp [f2]
  | i + 1, h => by
    intro q hq
    simp only [f2] at hq
    rcases List.mem_append.1 hq with h1 | h1
    · exact f2_fine hp hg i (by omega) q h1
    · have := digs_monic_len hp (show i < p ^ g by omega)
      exact f3_fine hp ⟨digs_row hp _, by omega⟩ (by omega) _ (Nat.le_refl _) q h1
theorem f1_fine {p : Nat} (hp : 2 ≤ p) {D : List Int} : ∀ g, g ≤ 60 → ∀ q ∈ f1 p D g, Fine p q
  | 0, _ => by simp [f1]
  | g + 1, h => by
    intro q hq
    simp only [f1] at hq
    rcases List.mem_append.1 hq with h1 | h1
    · exact f1_fine hp g (by omega) q h1
    · exact f2_fine hp (by omega) _ (Nat.le_refl _) q h1
theorem gen_val {l G : Nat} (hG : l = 2 * G + 2) (hs : G ≤ 2) : IntKind.i64.wrap (Int.tdiv (IntKind.i64.wrap ((l : Int) - 1 - 1)) 2) = (G : Int) := by
  have e : (l : Int) - 1 - 1 = 2 * (G : Int) := by omega
  rw [e, wrap64 (n := 2 * (G : Int)) (by omega) (by omega), Int.tdiv_eq_ediv_of_nonneg (by omega), show 2 * (G : Int) / 2 = (G : Int) by omega, wrap64 (by omega) (by omega)]
theorem allS {p G : Nat} (hp : isP p = true) {d : V64} (hd : Res p d) (hG : (row d).length = 2 * G + 2) (hs : G ≤ 2) : spec_l07All p d = some ((f1 p (row d) (G + 1)).map pp) := by
  have hp2 := isP_pos hp
  have hgen : spec_l07Genus d = some (G : Int) := by simp only [spec_l07Genus, degS_row', Option.bind_some, gen_val hG hs]
  obtain ⟨s, g1, g2⟩ := loopM_for (body := fun s : Int × List (V64 × V64) => spec_l07All_l1 d p s.1 s.2) (fun i s => ((i : Int), s)) (fun s => s) (G + 1)
    (fun i s => s = (f1 p (row d) i).map pp) (fun i s hi hI => by
      subst hI
      refine ⟨_, ?_, rfl⟩
      have hl := f1_len (p := p) (row d) i fun j hj => few2 (by omega) (by omega)
      have h2 := l2S (p := p) (g := i) hp (few2 (by omega) (by omega)) (by omega) hd (by omega) ((f1 p (row d) i).map pp) (by simp; omega)
      simp only [spec_l07All_l1, hgen, Option.bind_some]
      rw [if_pos (decide_eq_true (by omega)), h2]
      simp only [Option.bind_some, f1, List.map_append]
      rw [wrap64 (by omega) (by omega)]
      rfl) (fun s hI => by
      simp only [spec_l07All_l1, hgen, Option.bind_some]
      rw [if_neg (by rw [decide_eq_true_eq]; omega)]) (G + 1) 0 [] (by omega) (by simp [f1])
  have g1' : loopM (fun s : Int × List (V64 × V64) => spec_l07All_l1 d p s.1 s.2) (0, []) = some s := g1
  simp only [spec_l07All, g1', g2, Option.bind_some]
theorem formsI {p G : Nat} (hp : isP p = true) {D : List Int} (hd : Row p D) (hG : D.length = 2 * G + 2) (hs : G ≤ 2) : impl_curve_forms ((p : Int), D) = some (f1 p D (G + 1)) := by
  have hp2 := isP_pos hp
  have hgen : impl_curve_genus ((p : Int), D) = some (G : Int) := by
    simp only [impl_curve_genus, impl_row_degree, Option.bind_some]
    rw [wrap64 (n := (D.length : Int) - 1) (by omega) (by omega), gen_val hG hs]
  obtain ⟨s, g1, g2⟩ := loopM_for (body := fun s : Int × List (List Int × List Int) => impl_curve_forms_l1 (G : Int) ((p : Int), D) s.1 s.2) (fun i s => ((i : Int), s)) (fun s => s) (G + 1)
    (fun i s => s = f1 p D i) (fun i s hi hI => by
      subst hI
      refine ⟨_, ?_, rfl⟩
      have hl := f1_len (p := p) D i fun j hj => few2 (by omega) (by omega)
      have h2 := l2I (p := p) (g := i) hp (few2 (by omega) (by omega)) (by omega) hd (by omega) (f1 p D i) (by omega)
      simp only [impl_curve_forms_l1]
      rw [wrap64 (n := (G : Int) + 1) (by omega) (by omega), if_pos (decide_eq_true (by omega)), monics_is (by omega) (by omega) (few2 (by omega) (by omega))]
      simp only [Option.bind_some, h2, f1]
      rw [wrap64 (by omega) (by omega)]
      rfl) (fun s hI => by
      simp only [impl_curve_forms_l1]
      rw [wrap64 (n := (G : Int) + 1) (by omega) (by omega), if_neg (by rw [decide_eq_true_eq]; omega)]) (G + 1) 0 [] (by omega) (by simp [f1])
  have g1' : loopM (fun s : Int × List (List Int × List Int) => impl_curve_forms_l1 (G : Int) ((p : Int), D) s.1 s.2) (0, []) = some s := g1
  simp only [impl_curve_forms, hgen, g1', g2, Option.bind_some]
theorem toldL {p : Int} (hp : p ≤ 256) {L : List (List Int × List Int)} (hL : ∀ q ∈ L, Fine p q) (hl : L.length ≤ 1000000) : loopM (fun s : Int × List (V64 × V64) => impl_ReducedForms_l1 L s.1 s.2) (0, []) = some (L.map pp) := by
  obtain ⟨s, g1, g2⟩ := loopM_for (body := fun s : Int × List (V64 × V64) => impl_ReducedForms_l1 L s.1 s.2) (fun i s => ((i : Int), s)) (fun s => s) L.length
    (fun i s => s = (L.take i).map pp) (fun i s hi hI => by
      subst hI
      refine ⟨_, ?_, rfl⟩
      have hrd : rd L i = L[i] := by simp [rd, hi]
      obtain ⟨⟨q1, q2⟩, q3, q4⟩ := hL L[i] (List.getElem_mem _)
      have ht : impl_form_told L[i] = some (pp L[i]) := by
        simp only [impl_form_told, poly_is (q1.bytes hp) q2, poly_is (q3.bytes hp) q4, Option.bind_some]
        rfl
      simp only [impl_ReducedForms_l1, Int.toNat_natCast, hrd, ht, Option.bind_some]
      rw [if_pos (decide_eq_true (by omega)), ifp_pos (by omega), ifp_pos (by simp; omega), wrap64 (by omega) (by omega), ← List.take_append_getElem hi, List.map_append]
      rfl) (fun s hI => by
      simp only [impl_ReducedForms_l1]
      rw [if_neg (by rw [decide_eq_true_eq]; omega)]) L.length 0 [] (by omega) rfl
  have g1' : loopM (fun s : Int × List (V64 × V64) => impl_ReducedForms_l1 L s.1 s.2) (0, []) = some s := g1
  rw [g1', g2, List.take_length]
theorem noForms (p : Int) (d : V64) : impl_areAll_impl_Form_of_impl_formCode_c1_p_p [] p d = some true := by
  have step : slices_IndexFunc_impl_Form_impl_Form_of_impl_areAll_impl_Form__c1_p_formCode_c1_l1 [] p d 0 = some (.inr (.inl ())) := rfl
  have h : loopM (fun s : Int => slices_IndexFunc_impl_Form_impl_Form_of_impl_areAll_impl_Form__c1_p_formCode_c1_l1 [] p d s) 0 = some (.inl ()) := by
    rw [loopM_eq]
    simp only [step, Option.bind_some]
  simp only [impl_areAll_impl_Form_of_impl_formCode_c1_p_p, slices_ContainsFunc_impl_Form_impl_Form_of_impl_areAll_impl_Form__c1_p_formCode_c1, slices_IndexFunc_impl_Form_impl_Form_of_impl_areAll_impl_Form__c1_p_formCode_c1, h, Option.bind_some]
  rfl
theorem disc_spec {p : Int} {d : V64} (h : disc p d = true) : isP p = true ∧ small p d = true ∧ ∃ G : Nat, (row d).length = 2 * G + 2 ∧ G ≤ 2 := by
  simp only [disc, Bool.and_eq_true, decide_eq_true_eq] at h
  obtain ⟨⟨⟨⟨h1, h2⟩, _⟩, h3⟩, _⟩ := h
  exact ⟨h1, h2, ((row d).length - 2) / 2, by omega, by omega⟩
theorem reduced_is {p : Int} {d : V64} (hb : IsB d) : ∃ L : List (V64 × V64), impl_ReducedForms p d = some (if disc p d then (L, 0) else ([], 1)) ∧ (disc p d = true → spec_l07All p d = some L) ∧ L.length ≤ 1000000 := by
  simp only [impl_ReducedForms, impl_formCode, discI_is hb, noForms, Option.bind_some]
  cases hD : disc p d with
  | false => exact ⟨[], by simp, by simp, by simp⟩
  | true =>
    obtain ⟨hp, hs, G, hG, hG2⟩ := disc_spec hD
    have hp2 := isP_pos hp
    obtain ⟨q, rfl⟩ : ∃ q : Nat, p = q := ⟨p.toNat, by omega⟩
    have hr := res_of_small hb hs
    have h1 := formsI hp (row_row hr) hG hG2
    have h2 := f1_fine (p := q) (by omega) (D := row d) (G + 1) (by omega)
    have h3 := f1_len (p := q) (row d) (G + 1) fun j hj => few2 (by omega) (by omega)
    have h4 := toldL (p := q) (by omega) h2 (by omega)
    refine ⟨(f1 q (row d) (G + 1)).map pp, ?_, fun _ => allS hp hr hG hG2, by rw [List.length_map]; omega⟩
    simp only [impl_curveOf, row_is hb, Option.bind_some, Bool.not_true, Bool.false_eq_true, if_false, bne_self_eq_false, h1, h4, if_true]
end Go.Proofs.Ytdhcpekngpndnaa
/- Comparing polynomials. -/
namespace Go.Proofs.Ytdhcpekngpndnaa
open Go.Abs

theorem eqPoly_loop (a b : V64) : ∀ s : Int, (∃ i : Nat, s = i ∧ i ≤ 64) → ∃ r, loopM (fun s : Int => laws_eqPoly_l1 a b s) s = some r ∧ ∀ i : Nat, s = i → (r = .inl () ∧ ∀ j, i ≤ j → j < 64 → rd a.1 j = rd b.1 j) ∨ (r = .inr false ∧ ∃ j, j < 64 ∧ rd a.1 j ≠ rd b.1 j) := by
  refine loopM_ind (fun (s : Int) => ∃ i : Nat, s = i ∧ i ≤ 64) (fun (s : Int) (r : Unit ⊕ Bool) => ∀ i : Nat, s = i → (r = .inl () ∧ ∀ j, i ≤ j → j < 64 → rd a.1 j = rd b.1 j) ∨ (r = .inr false ∧ ∃ j, j < 64 ∧ rd a.1 j ≠ rd b.1 j)) (fun s => 64 - s.toNat) ?_
  rintro s ⟨i, rfl, hi⟩
  by_cases h : i = 64
  · subst h
    right
    refine ⟨.inl (), by simp [laws_eqPoly_l1], fun k hk => .inl ⟨rfl, fun j h1 h2 => by omega⟩⟩
  · by_cases e : rd a.1 i = rd b.1 i
    · left
      refine ⟨((i + 1 : Nat) : Int), ?_, ⟨i + 1, rfl, by omega⟩, by simp; omega, fun r hr k hk => ?_⟩
      · simp only [laws_eqPoly_l1]
        rw [if_pos (by simp; omega), ifp_pos (by omega), ifp_pos (by omega)]
        simp only [Int.toNat_natCast, e, bne_self_eq_false, Bool.false_eq_true, if_false]
        rw [wrap64 (by omega) (by omega)]; rfl
      · have hki : k = i := by omega
        subst hki
        rcases hr (k + 1) rfl with ⟨h1, h2⟩ | h1
        · refine .inl ⟨h1, fun j h3 h4 => ?_⟩
          by_cases hj : j = k
          · subst hj; exact e
          · exact h2 j (by omega) h4
        · exact .inr h1
    · right
      refine ⟨.inr false, ?_, fun k hk => .inr ⟨rfl, i, by omega, e⟩⟩
      simp only [laws_eqPoly_l1]
      rw [if_pos (by simp; omega), ifp_pos (by omega), ifp_pos (by omega)]
      simp [e]

theorem eqPoly_is (a b : V64) : laws_eqPoly a b = some (decide (a = b)) := by
  obtain ⟨r, h1, h2⟩ := eqPoly_loop a b 0 ⟨0, rfl, by omega⟩
  unfold laws_eqPoly
  rcases h2 0 rfl with ⟨rfl, h⟩ | ⟨rfl, j, h3, h4⟩
  · have : a = b := vec_ext fun j hj => h j (by omega) hj
    rw [h1]; simp [this]
  · have : a ≠ b := fun e => h4 (by rw [e])
    rw [h1]; simp [this]
end Go.Proofs.Ytdhcpekngpndnaa
/- Lists of forms: comparing, marking, and whether the marks are held. -/
namespace Go.Proofs.Ytdhcpekngpndnaa
open Go.Abs
abbrev VW := V64 × V64
theorem rd_lset'' {α : Type} [Inhabited α] (l : List α) (k : Nat) (d : α) (i : Nat) (hk : k < l.length) : rd (l.set k d) i = if i = k then d else rd l i := by
  by_cases h : i = k
  · subst h; simp [rd, hk]
  · rw [if_neg h]; simp [rd, Ne.symm h]
theorem eqForm_is (a b : VW) : laws_eqForm a b = some (decide (a = b)) := by
  obtain ⟨a1, a2⟩ := a
  obtain ⟨b1, b2⟩ := b
  simp only [laws_eqForm, eqPoly_is, Option.bind_some]
  by_cases h1 : a1 = b1
  · by_cases h2 : a2 = b2
    · simp [h1, h2]
    · simp [h1, h2]
  · simp [h1]
theorem eqFormS_is {a b : List VW} (ha : a.length ≤ 1000000) (hb : b.length ≤ 1000000) : laws_eqFormS a b = some (decide (a = b)) := by
  unfold laws_eqFormS
  by_cases hl : a.length = b.length
  · rw [if_neg (by rw [bne_iff_ne]; simp; omega)]
    have key : ∀ (m i : Nat), i + m = a.length → (∀ j, j < i → rd a j = rd b j) → ∃ r, loopM (fun s : Int => laws_eqFormS_l1 a b s) (i : Int) = some r ∧ ((r = .inl () ∧ a = b) ∨ (r = .inr false ∧ a ≠ b)) := by
      intro m
      induction m with
      | zero =>
        intro i hi hlt
        have : i = a.length := by omega
        subst this
        have step : laws_eqFormS_l1 a b (a.length : Int) = some (.inr (.inl ())) := by
          simp only [laws_eqFormS_l1]
          rw [if_neg (by rw [decide_eq_true_eq]; omega)]
        refine ⟨.inl (), by rw [loopM_eq]; simp only [step, Option.bind_some], .inl ⟨rfl, ?_⟩⟩
        apply List.ext_getElem hl
        intro j h1 h2
        have := hlt j h1
        simpa [rd, h1, h2] using this
      | succ m ih =>
        intro i hi hlt
        have step : laws_eqFormS_l1 a b (i : Int) = some (if rd a i = rd b i then .inl ((i + 1 : Nat) : Int) else .inr (.inr false)) := by
          simp only [laws_eqFormS_l1, Int.toNat_natCast, eqForm_is, Option.bind_some]
          rw [if_pos (decide_eq_true (by omega)), ifp_pos (by omega), ifp_pos (by omega), wrap64 (by omega) (by omega)]
          by_cases e : rd a i = rd b i
          · rw [if_pos e, decide_eq_true e]; rfl
          · rw [if_neg e, decide_eq_false e]; rfl
        by_cases e : rd a i = rd b i
        · rw [if_pos e] at step
          obtain ⟨r, k1, k2⟩ := ih (i + 1) (by omega) (fun j hj => by
            by_cases hj' : j = i
            · rw [hj']; exact e
            · exact hlt j (by omega))
          exact ⟨r, by rw [loopM_eq]; simp only [step, Option.bind_some]; exact k1, k2⟩
        · rw [if_neg e] at step
          exact ⟨.inr false, by rw [loopM_eq]; simp only [step, Option.bind_some], .inr ⟨rfl, fun h => e (by rw [h])⟩⟩
    obtain ⟨r, h1, h2⟩ := key a.length 0 (by omega) (fun j hj => by omega)
    have h1' : loopM (fun s : Int => laws_eqFormS_l1 a b s) 0 = some r := h1
    rw [h1']
    rcases h2 with ⟨rfl, h⟩ | ⟨rfl, h⟩ <;> simp [h]
  · rw [if_pos (by rw [bne_iff_ne]; simp; omega)]
    have : a ≠ b := fun h => hl (by rw [h])
    simp [this]
/-- The marks from k on. -/
def MarkedM (k : Nat) (m : List VW) : Prop := ∀ i, i < m.length → (∀ j, j < 64 → rd (rd m i).1.1 j = IntKind.u8.wrap ((k + 128 * i + 0 + j : Nat) : Int)) ∧ ∀ j, j < 64 → rd (rd m i).2.1 j = IntKind.u8.wrap ((k + 128 * i + 64 + j : Nat) : Int)
theorem markM_is {l : List VW} {k : Nat} (hl : l.length ≤ 1000000) (hk : k ≤ 1000000000) : ∃ m, laws_markFormS_of_mut l k = some (((k + 128 * l.length : Nat) : Int), m) ∧ m.length = l.length ∧ MarkedM k m := by
  have inner1 : ∀ (i : Nat) (u : List VW), i < u.length → u.length = l.length → ∃ u', loopM (fun s : Int × Int × List VW => laws_markFormS_of_mut_l2 (i : Int) s.1 s.2.1 s.2.2) (((k + 128 * i + 0 : Nat) : Int), 0, u) = some (((k + 128 * i + 64 : Nat) : Int), u') ∧
      u'.length = u.length ∧ (∀ j, j < 64 → rd (rd u' i).1.1 j = IntKind.u8.wrap ((k + 128 * i + 0 + j : Nat) : Int)) ∧ (rd u' i).2 = (rd u i).2 ∧ ∀ i', i' ≠ i → rd u' i' = rd u i' := by
    intro i u hi hul
    obtain ⟨u', h1, h2, h3, h4, h5⟩ := loopM_for (body := fun s : Int × Int × List VW => laws_markFormS_of_mut_l2 (i : Int) s.1 s.2.1 s.2.2) (fun j u => (((k + 128 * i + 0 + j : Nat) : Int), (j : Int), u)) (fun u => (((k + 128 * i + 64 : Nat) : Int), u)) 64
      (fun j v => v.length = u.length ∧ (∀ j', j' < j → rd (rd v i).1.1 j' = IntKind.u8.wrap ((k + 128 * i + 0 + j' : Nat) : Int)) ∧ (rd v i).2 = (rd u i).2 ∧ ∀ i', i' ≠ i → rd v i' = rd u i') (fun j v hj hI => by
        obtain ⟨h2, h3, h4, h5⟩ := hI
        refine ⟨v.set i (vset (rd v i).1 j (IntKind.u8.wrap ((k + 128 * i + 0 + j : Nat) : Int)), (rd v i).2), ?_, by simpa using h2, fun j' hj' => ?_, ?_, fun i' hi' => ?_⟩
        · simp only [laws_markFormS_of_mut_l2]
          rw [if_pos (decide_eq_true (by omega)), ifp_pos (by omega), ifp_pos (by omega), wrap64 (by omega) (by omega), wrap64 (by omega) (by omega)]
          rfl
        · rw [rd_lset'' _ _ _ _ (by omega), if_pos rfl]
          simp only
          rw [rd_vset _ _ _ _ (by omega)]
          by_cases e : j' = j
          · subst e; rw [if_pos rfl]
          · rw [if_neg e]; exact h3 j' (by omega)
        · rw [rd_lset'' _ _ _ _ (by omega), if_pos rfl]; exact h4
        · rw [rd_lset'' _ _ _ _ (by omega), if_neg hi']; exact h5 i' hi') (fun v hI => by
        simp only [laws_markFormS_of_mut_l2]
        rw [if_neg (by rw [decide_eq_true_eq]; omega)]) 64 0 u (by omega) ⟨rfl, fun j' hj' => by omega, rfl, fun _ _ => rfl⟩
    exact ⟨u', h1, h2, fun j hj => h3 j hj, h4, h5⟩
  have inner2 : ∀ (i : Nat) (u : List VW), i < u.length → u.length = l.length → ∃ u', loopM (fun s : Int × Int × List VW => laws_markFormS_of_mut_l3 (i : Int) s.1 s.2.1 s.2.2) (((k + 128 * i + 64 : Nat) : Int), 0, u) = some (((k + 128 * i + 128 : Nat) : Int), u') ∧
      u'.length = u.length ∧ (∀ j, j < 64 → rd (rd u' i).2.1 j = IntKind.u8.wrap ((k + 128 * i + 64 + j : Nat) : Int)) ∧ (rd u' i).1 = (rd u i).1 ∧ ∀ i', i' ≠ i → rd u' i' = rd u i' := by
    intro i u hi hul
    obtain ⟨u', h1, h2, h3, h4, h5⟩ := loopM_for (body := fun s : Int × Int × List VW => laws_markFormS_of_mut_l3 (i : Int) s.1 s.2.1 s.2.2) (fun j u => (((k + 128 * i + 64 + j : Nat) : Int), (j : Int), u)) (fun u => (((k + 128 * i + 128 : Nat) : Int), u)) 64
      (fun j v => v.length = u.length ∧ (∀ j', j' < j → rd (rd v i).2.1 j' = IntKind.u8.wrap ((k + 128 * i + 64 + j' : Nat) : Int)) ∧ (rd v i).1 = (rd u i).1 ∧ ∀ i', i' ≠ i → rd v i' = rd u i') (fun j v hj hI => by
        obtain ⟨h2, h3, h4, h5⟩ := hI
        refine ⟨v.set i ((rd v i).1, vset (rd v i).2 j (IntKind.u8.wrap ((k + 128 * i + 64 + j : Nat) : Int))), ?_, by simpa using h2, fun j' hj' => ?_, ?_, fun i' hi' => ?_⟩
        · simp only [laws_markFormS_of_mut_l3]
          rw [if_pos (decide_eq_true (by omega)), ifp_pos (by omega), ifp_pos (by omega), wrap64 (by omega) (by omega), wrap64 (by omega) (by omega)]
          rfl
        · rw [rd_lset'' _ _ _ _ (by omega), if_pos rfl]
          simp only
          rw [rd_vset _ _ _ _ (by omega)]
          by_cases e : j' = j
          · subst e; rw [if_pos rfl]
          · rw [if_neg e]; exact h3 j' (by omega)
        · rw [rd_lset'' _ _ _ _ (by omega), if_pos rfl]; exact h4
        · rw [rd_lset'' _ _ _ _ (by omega), if_neg hi']; exact h5 i' hi') (fun v hI => by
        simp only [laws_markFormS_of_mut_l3]
        rw [if_neg (by rw [decide_eq_true_eq]; omega)]) 64 0 u (by omega) ⟨rfl, fun j' hj' => by omega, rfl, fun _ _ => rfl⟩
    exact ⟨u', h1, h2, fun j hj => h3 j hj, h4, h5⟩
  obtain ⟨m, h1, h2, h3⟩ := loopM_for (body := fun s : Int × Int × List VW => laws_markFormS_of_mut_l1 s.1 s.2.1 s.2.2) (fun i u => (((k + 128 * i + 0 : Nat) : Int), (i : Int), u)) (fun u => (((k + 128 * l.length : Nat) : Int), u)) l.length
    (fun i u => u.length = l.length ∧ ∀ i', i' < i → (∀ j, j < 64 → rd (rd u i').1.1 j = IntKind.u8.wrap ((k + 128 * i' + 0 + j : Nat) : Int)) ∧ ∀ j, j < 64 → rd (rd u i').2.1 j = IntKind.u8.wrap ((k + 128 * i' + 64 + j : Nat) : Int)) (fun i u hi hI => by
      obtain ⟨h2, h3⟩ := hI
      obtain ⟨u1, g1, g2, g3, g4, g5⟩ := inner1 i u (by omega) h2
      obtain ⟨u2, e1, e2, e3, e4, e5⟩ := inner2 i u1 (by omega) (by omega)
      refine ⟨u2, ?_, by omega, fun i' hi' => ?_⟩
      · simp only [laws_markFormS_of_mut_l1]
        rw [if_pos (decide_eq_true (by omega)), g1]
        simp only [Option.bind_some]
        have g1e : ((k + 128 * i + 0 + 64 : Nat) : Int) = ((k + 128 * i + 64 : Nat) : Int) := rfl
        rw [e1]
        simp only [Option.bind_some]
        rw [wrap64 (n := (i : Int) + 1) (by omega) (by omega)]
        have e : ((k + 128 * i + (64 + 64) : Nat) : Int) = ((k + 128 * (i + 1) + 0 : Nat) : Int) := by omega
        rw [e]; rfl
      · by_cases e : i' = i
        · subst e
          exact ⟨by rw [e4]; exact g3, e3⟩
        · rw [e5 i' e, g5 i' e]; exact h3 i' (by omega)) (fun u hI => by
      simp only [laws_markFormS_of_mut_l1]
      rw [if_neg (by rw [decide_eq_true_eq]; omega)]; rfl) l.length 0 l (by omega) ⟨rfl, fun i' hi' => by omega⟩
  have h1' : loopM (fun s : Int × Int × List VW => laws_markFormS_of_mut_l1 s.1 s.2.1 s.2.2) ((k : Int), 0, l) = _ := h1
  refine ⟨m, ?_, h2, fun i hi => h3 i (by omega)⟩
  simp only [laws_markFormS_of_mut, h1', Option.bind_some]
theorem heldM_is {m : List VW} {k : Nat} (hl : m.length ≤ 1000000) (hk : k ≤ 1000000000) (hm : MarkedM k m) : laws_heldFormS m k = some ((k + 128 * m.length : Nat) : Int) := by
  have inner1 : ∀ (i : Nat), i < m.length → loopM (fun s : Int × Int => laws_heldFormS_l2 (i : Int) m s.1 s.2) (((k + 128 * i + 0 : Nat) : Int), 0) = some (.inl ((k + 128 * i + 64 : Nat) : Int)) := by
    intro i hi
    obtain ⟨u', h1, _⟩ := loopM_for (body := fun s : Int × Int => laws_heldFormS_l2 (i : Int) m s.1 s.2) (fun j (_ : Unit) => (((k + 128 * i + 0 + j : Nat) : Int), (j : Int))) (fun _ => .inl ((k + 128 * i + 64 : Nat) : Int)) 64
      (fun _ _ => True) (fun j _ hj _ => by
        refine ⟨(), ?_, trivial⟩
        simp only [laws_heldFormS_l2, letp]
        rw [if_pos (decide_eq_true (by omega)), ifp_pos (by omega), ifp_pos (by omega), Int.toNat_natCast, Int.toNat_natCast, (hm i hi).1 j hj, if_neg (by simp), wrap64 (by omega) (by omega), wrap64 (by omega) (by omega)]
        rfl) (fun _ _ => by
        simp only [laws_heldFormS_l2, letp]
        rw [if_neg (by rw [decide_eq_true_eq]; omega)]) 64 0 () (by omega) trivial
    exact h1
  have inner2 : ∀ (i : Nat), i < m.length → loopM (fun s : Int × Int => laws_heldFormS_l3 (i : Int) m s.1 s.2) (((k + 128 * i + 64 : Nat) : Int), 0) = some (.inl ((k + 128 * i + 128 : Nat) : Int)) := by
    intro i hi
    obtain ⟨u', h1, _⟩ := loopM_for (body := fun s : Int × Int => laws_heldFormS_l3 (i : Int) m s.1 s.2) (fun j (_ : Unit) => (((k + 128 * i + 64 + j : Nat) : Int), (j : Int))) (fun _ => .inl ((k + 128 * i + 128 : Nat) : Int)) 64
      (fun _ _ => True) (fun j _ hj _ => by
        refine ⟨(), ?_, trivial⟩
        simp only [laws_heldFormS_l3, letp]
        rw [if_pos (decide_eq_true (by omega)), ifp_pos (by omega), ifp_pos (by omega), Int.toNat_natCast, Int.toNat_natCast, (hm i hi).2 j hj, if_neg (by simp), wrap64 (by omega) (by omega), wrap64 (by omega) (by omega)]
        rfl) (fun _ _ => by
        simp only [laws_heldFormS_l3, letp]
        rw [if_neg (by rw [decide_eq_true_eq]; omega)]) 64 0 () (by omega) trivial
    exact h1
  obtain ⟨u', h1, _⟩ := loopM_for (body := fun s : Int × Int => laws_heldFormS_l1 m s.1 s.2) (fun i (_ : Unit) => (((k + 128 * i + 0 : Nat) : Int), (i : Int))) (fun _ => .inl ((k + 128 * m.length : Nat) : Int)) m.length
    (fun _ _ => True) (fun i _ hi _ => by
      refine ⟨(), ?_, trivial⟩
      simp only [laws_heldFormS_l1]
      rw [if_pos (decide_eq_true (by omega)), inner1 i hi]
      simp only [Option.bind_some]
      rw [inner2 i hi]
      simp only [Option.bind_some]
      rw [wrap64 (n := (i : Int) + 1) (by omega) (by omega)]
      have e : ((k + 128 * i + (64 + 64) : Nat) : Int) = ((k + 128 * (i + 1) + 0 : Nat) : Int) := by omega
      rw [e]; rfl) (fun _ _ => by
      simp only [laws_heldFormS_l1]
      rw [if_neg (by rw [decide_eq_true_eq]; omega)]; rfl) m.length 0 () (by omega) trivial
  have h1' : loopM (fun s : Int × Int => laws_heldFormS_l1 m s.1 s.2) ((k : Int), 0) = _ := h1
  simp only [laws_heldFormS, h1', Option.bind_some]
end Go.Proofs.Ytdhcpekngpndnaa
/- A copy of a polynomial. -/
namespace Go.Proofs.Ytdhcpekngpndnaa
open Go.Abs

theorem toPoly_loop (a : V64) : ∀ s : Int × V64, (∃ i : Nat, s.1 = i ∧ i ≤ 64 ∧ ∀ j, j < i → rd s.2.1 j = rd a.1 j) → ∃ r, loopM (fun s : Int × V64 => laws_toPoly_l1 a s.1 s.2) s = some r ∧ r = a := by
  refine loopM_ind (fun (s : Int × V64) => ∃ i : Nat, s.1 = i ∧ i ≤ 64 ∧ ∀ j, j < i → rd s.2.1 j = rd a.1 j) (fun (s : Int × V64) (r : V64) => r = a) (fun (s : Int × V64) => 64 - s.1.toNat) ?_
  rintro ⟨x, v⟩ ⟨i, hx, hi, hv⟩
  simp only at hx hv
  subst hx
  by_cases h : i = 64
  · right
    subst h
    exact ⟨v, by simp [laws_toPoly_l1], vec_ext hv⟩
  · left
    refine ⟨(((i + 1 : Nat) : Int), vset v i (rd a.1 i)), ?_, ⟨i + 1, rfl, by omega, fun j hj => ?_⟩, by simp; omega, fun r hr => hr⟩
    · simp only [laws_toPoly_l1]
      rw [if_pos (by simp; omega), ifp_pos (by omega), ifp_pos (by omega), wrap64 (by omega) (by omega)]
      simp
    · rw [rd_vset _ _ _ _ (by omega)]
      by_cases e : j = i
      · rw [if_pos e, e]
      · rw [if_neg e]; exact hv j (by omega)

theorem toPoly_is (a : V64) : laws_toPoly a = some a := by
  obtain ⟨r, h1, h2⟩ := toPoly_loop a (0, vrep 64 0) ⟨0, rfl, by omega, fun j hj => by omega⟩
  simp only [laws_toPoly, h1, h2, Option.bind_some]
end Go.Proofs.Ytdhcpekngpndnaa
/- Polynomials from rows, told. -/
namespace Go.Proofs.Ytdhcpekngpndnaa
open Go.Abs
theorem told_is {l : List Int} (hb : Bytes l) (hl : l.length ≤ 64) : impl_told l = some (pad l, 0) := by
  simp only [impl_told, impl_row_fits, impl_row_degree, Option.bind_some, poly_is hb hl]
  rw [wrap64 (by omega) (by omega)]
  simp
  omega
end Go.Proofs.Ytdhcpekngpndnaa
/- FnExactReducedForms. -/
namespace Go.Proofs.Ytdhcpekngpndnaa
open Go.Abs
theorem redForms_fresh : impl_ReducedForms_fresh = impl_ReducedForms := rfl
theorem redF_law (p : Int) (d : V64) (hb : IsB d) : laws_FnExactReducedForms p d = some true := by
  have key : ∃ (l : List VW) (c : Int), spec_ReducedForms p d = some (l, c) ∧ impl_ReducedForms p d = some (l, c) ∧ l.length ≤ 1000000 := by
    obtain ⟨L, h1, h2, h3⟩ := reduced_is (p := p) hb
    simp only [spec_ReducedForms, h1, discS_is hb, Option.bind_some]
    cases hD : disc p d with
    | false => exact ⟨[], 1, by simp, by simp, by simp⟩
    | true => exact ⟨L, 0, by simp [h2 hD], by simp, h3⟩
  obtain ⟨l, c, h1, h2, h3⟩ := key
  obtain ⟨m, m1, m2, m3⟩ := markM_is (l := l) (k := 1) (by omega) (by omega)
  have m1' : laws_markFormS_of_mut l 1 = some (((1 + 128 * l.length : Nat) : Int), m) := m1
  have hh := heldM_is (m := m) (k := 1) (by omega) (by omega) m3
  have hh' : laws_heldFormS m 1 = some ((1 + 128 * m.length : Nat) : Int) := hh
  rw [m2] at hh'
  simp only [laws_FnExactReducedForms, toPoly_is, redForms_fresh, h1, h2, Option.bind_some, eqFormS_is (show l.length ≤ 1000000 by omega) (show l.length ≤ 1000000 by omega), decide_true, Bool.not_true, Bool.false_eq_true, if_false, bne_self_eq_false, m1', hh']
  rw [ifp_pos m2, if_neg (by rw [decide_eq_true_eq]; omega), if_neg (by rw [decide_eq_true_eq]; omega)]
end Go.Proofs.Ytdhcpekngpndnaa
