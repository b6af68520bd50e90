/- Own texts, put together. -/
import Derived.Test.YtdhcpekngpndnaaAbsX
import Derived.Test.YtdhcpekngpndnaaFn1
import Derived.Test.YtdhcpekngpndnaaFn2
import Derived.Test.YtdhcpekngpndnaaFn3
import Derived.Test.YtdhcpekngpndnaaFn4
set_option linter.unusedSimpArgs false
set_option linter.unusedVariables false
/- Plain facts on loops and wraps. -/
namespace Go.Abs

/-- A loop with a measure ends, and what it leaves. -/
theorem loopM_ind {α β : Type} {body : α → Option (α ⊕ β)} (I : α → Prop) (Post : α → β → Prop) (m : α → Nat)
    (step : ∀ s, I s → (∃ s', body s = some (.inl s') ∧ I s' ∧ m s' < m s ∧ ∀ r, Post s' r → Post s r) ∨ ∃ r, body s = some (.inr r) ∧ Post s r) :
    ∀ s, I s → ∃ r, loopM body s = some r ∧ Post s r := by
  have key : ∀ n s, m s ≤ n → I s → ∃ r, loopM body s = some r ∧ Post s r := by
    intro n
    induction n with
    | zero =>
      intro s hn hs
      rcases step s hs with ⟨s', h1, h2, h3, h4⟩ | ⟨r, h1, h2⟩
      · omega
      · exact ⟨r, by rw [loopM_eq, h1]; rfl, h2⟩
    | succ n ih =>
      intro s hn hs
      rcases step s hs with ⟨s', h1, h2, h3, h4⟩ | ⟨r, h1, h2⟩
      · obtain ⟨r, k1, k2⟩ := ih s' (by omega) h2
        exact ⟨r, by rw [loopM_eq, h1]; exact k1, h4 r k2⟩
      · exact ⟨r, by rw [loopM_eq, h1]; rfl, h2⟩
  exact fun s hs => key (m s) s (Nat.le_refl _) hs

theorem wrap64 {n : Int} (h1 : -9223372036854775808 ≤ n) (h2 : n < 9223372036854775808) : IntKind.i64.wrap n = n := by
  simp only [IntKind.wrap, IntKind.signed, IntKind.bits]
  simp
  omega
theorem wrap8 {n : Int} (h1 : 0 ≤ n) (h2 : n < 256) : IntKind.u8.wrap n = n := by
  simp only [IntKind.wrap, IntKind.signed, IntKind.bits]
  simp
  omega

/-- A loop that counts from i to n. -/
theorem loopM_for {α β σ : Type} {body : α → Option (α ⊕ β)} (at' : Nat → σ → α) (out : σ → β) (n : Nat) (I : Nat → σ → Prop)
    (step : ∀ i s, i < n → I i s → ∃ s', body (at' i s) = some (.inl (at' (i + 1) s')) ∧ I (i + 1) s') (stop : ∀ s, I n s → body (at' n s) = some (.inr (out s))) :
    ∀ (m i : Nat) (s : σ), i + m = n → I i s → ∃ s', loopM body (at' i s) = some (out s') ∧ I n s'
  | 0, i, s, h, hI => by
    have : i = n := by omega
    subst this
    exact ⟨s, by rw [loopM_eq, stop s hI]; rfl, hI⟩
  | m + 1, i, s, h, hI => by
    obtain ⟨s', h1, h2⟩ := step i s (by omega) hI
    obtain ⟨s'', h3, h4⟩ := loopM_for at' out n I step stop m (i + 1) s' (by omega) h2
    exact ⟨s'', by rw [loopM_eq, h1]; exact h3, h4⟩
end Go.Abs
/- Plain facts on arrays of 64 numbers. -/
namespace Go.Abs

abbrev V64 := Vec Int 64
def pad (l : List Int) : V64 := ⟨(List.range 64).map fun j => l.getD j 0, by simp⟩

theorem pad_rd (l : List Int) {j : Nat} (h : j < 64) : rd (pad l).1 j = l.getD j 0 := by
  simp [rd, pad, h]
theorem vec_ext {n : Nat} {a b : Vec Int n} (h : ∀ j, j < n → rd a.1 j = rd b.1 j) : a = b := by
  apply Subtype.ext
  apply List.ext_getElem
  · rw [a.2, b.2]
  · intro j h1 h2
    have := h j (by rw [a.2] at h1; exact h1)
    simpa [rd, h1, h2] using this
theorem rd_vset {n : Nat} (a : Vec Int n) (i j : Nat) (d : Int) (hi : i < n) : rd (vset a i d).1 j = if j = i then d else rd a.1 j := by
  have hl : i < a.1.length := by rw [a.2]; exact hi
  by_cases h : j = i
  · subst h; simp [rd, vset, hl]
  · rw [if_neg h]
    simp [rd, vset, Ne.symm h]
theorem rd_vrep {n : Nat} (j : Nat) (h : j < n) : rd (vrep n (0 : Int)).1 j = 0 := by
  simp [rd, vrep, h]
theorem pad_nil : pad [] = vrep 64 0 := vec_ext fun j h => by rw [pad_rd _ h, rd_vrep _ h]; simp
theorem pad_set (l : List Int) (d : Int) (h : l.length < 64) : vset (pad l) l.length d = pad (l ++ [d]) := by
  refine vec_ext fun j hj => ?_
  rw [rd_vset _ _ _ _ h, pad_rd _ hj, pad_rd _ hj]
  by_cases e : j = l.length
  · subst e; simp
  · rw [if_neg e]
    rcases Nat.lt_or_ge j l.length with h1 | h1
    · simp [h1, List.getElem?_append]
    · have h2 : l.length < j := by omega
      have h3 : (l ++ [d]).length ≤ j := by simp; omega
      rw [List.getD_eq_getElem?_getD, List.getD_eq_getElem?_getD, List.getElem?_eq_none h1, List.getElem?_eq_none h3]

theorem getD_app (l k : List Int) (j : Nat) : (l ++ k).getD j 0 = if j < l.length then l.getD j 0 else k.getD (j - l.length) 0 := by
  simp only [List.getD_eq_getElem?_getD, List.getElem?_append]
  split <;> rfl

/-- Bytes. -/
def Bytes (l : List Int) : Prop := ∀ d ∈ l, 0 ≤ d ∧ d < 256
theorem getD_byte {l : List Int} (h : Bytes l) (j : Nat) : 0 ≤ l.getD j 0 ∧ l.getD j 0 < 256 := by
  rw [List.getD_eq_getElem?_getD]
  cases e : l[j]? with
  | none => simp
  | some d => simp; exact h d (List.mem_of_getElem? e)
end Go.Abs
/- Polynomials: coefficient functions, and rows of coefficients up to the leading one. -/
namespace Go.Abs

/-! How far a row reaches. -/
def top (g : Nat → Int) : Nat → Nat
  | 0 => 0
  | n + 1 => if g n = 0 then top g n else n + 1
theorem top_le (g : Nat → Int) : ∀ n, top g n ≤ n
  | 0 => Nat.le_refl _
  | n + 1 => by simp only [top]; split; exact Nat.le_succ_of_le (top_le g n); exact Nat.le_refl _
theorem top_zero (g : Nat → Int) : ∀ n i, top g n ≤ i → i < n → g i = 0
  | 0, i, _, h => by omega
  | n + 1, i, h1, h2 => by
    simp only [top] at h1
    split at h1
    · rename_i e
      by_cases hi : i = n
      · subst hi; exact e
      · exact top_zero g n i h1 (by omega)
    · omega
theorem top_lead (g : Nat → Int) : ∀ n, top g n ≠ 0 → g (top g n - 1) ≠ 0
  | 0, h => by simp [top] at h
  | n + 1, h => by
    simp only [top] at h ⊢
    split
    · rename_i e; rw [if_pos e] at h; exact top_lead g n h
    · rename_i e; simpa using e
theorem top_congr {f g : Nat → Int} : ∀ n, (∀ i, i < n → f i = g i) → top f n = top g n
  | 0, _ => rfl
  | n + 1, h => by simp only [top]; rw [h n (by omega), top_congr n fun i hi => h i (by omega)]
/-- The leading place is told by what stands there and behind. -/
theorem top_is {g : Nat → Int} {n k : Nat} (hk : k ≤ n) (hz : ∀ i, k ≤ i → i < n → g i = 0) (hl : k ≠ 0 → g (k - 1) ≠ 0) : top g n = k := by
  rcases Nat.lt_trichotomy (top g n) k with h | h | h
  · have := top_zero g n (k - 1) (by omega) (by omega)
    exact absurd this (hl (by omega))
  · exact h
  · have h1 := top_lead g n (by omega)
    have h2 := top_le g n
    exact absurd (hz (top g n - 1) (by omega) (by omega)) h1
theorem top_more {g : Nat → Int} {n m : Nat} (h : n ≤ m) (hz : ∀ i, n ≤ i → i < m → g i = 0) : top g m = top g n :=
  top_is (Nat.le_trans (top_le g n) h) (fun i h1 h2 => by
    by_cases hi : i < n
    · exact top_zero g n i h1 hi
    · exact hz i (by omega) h2) (top_lead g n)

/-! Reading rows. -/
theorem rd_nil (i : Nat) : rd ([] : List Int) i = 0 := by simp [rd]
theorem rd_lt {l : List Int} {i : Nat} (h : i < l.length) : rd l i = l[i] := by simp [rd, h]
theorem rd_ge {l : List Int} {i : Nat} (h : l.length ≤ i) : rd l i = 0 := by simp [rd, h]
theorem rd_mem {l : List Int} {i : Nat} (h : i < l.length) : rd l i ∈ l := by rw [rd_lt h]; exact List.getElem_mem _
theorem rd_ext {a b : List Int} (hl : a.length = b.length) (h : ∀ i, i < a.length → rd a i = rd b i) : a = b := by
  apply List.ext_getElem hl
  intro i h1 h2
  have := h i h1
  rwa [rd_lt h1, rd_lt h2] at this
theorem rd_take (l : List Int) (k i : Nat) : rd (l.take k) i = if i < k then rd l i else 0 := by
  by_cases h : i < k
  · rw [if_pos h]
    by_cases hl : i < l.length
    · rw [rd_lt (by simp; omega), rd_lt hl]; simp
    · rw [rd_ge (by simp; omega), rd_ge (by omega)]
  · rw [if_neg h, rd_ge (by simp; omega)]
theorem rd_app (a b : List Int) (i : Nat) : rd (a ++ b) i = if i < a.length then rd a i else rd b (i - a.length) := by
  have := getD_app a b i
  exact this
theorem rd_set (l : List Int) (k : Nat) (d : Int) (i : Nat) (hk : k < l.length) : rd (l.set k d) i = if i = k then d else rd l i := by
  by_cases h : i = k
  · subst h; simp [rd, hk]
  · rw [if_neg h]; simp [rd, Ne.symm h]
theorem rd_rep (n i : Nat) : rd (List.replicate n (0 : Int)) i = 0 := by
  by_cases h : i < n
  · rw [rd_lt (by simpa using h)]; simp
  · rw [rd_ge (by simp; omega)]
theorem rd_padl (l : List Int) {j : Nat} (h : j < 64) : rd (pad l).1 j = rd l j := by rw [pad_rd _ h]; rfl
theorem rd_map {f : Nat → Int} (n i : Nat) : rd ((List.range n).map f) i = if i < n then f i else 0 := by
  by_cases h : i < n
  · rw [if_pos h, rd_lt (by simpa using h)]; simp
  · rw [if_neg h, rd_ge (by simp; omega)]

/-! Rows of functions. -/
def ofF (n : Nat) (f : Nat → Int) : List Int := (List.range (top f n)).map f
theorem ofF_len (n : Nat) (f : Nat → Int) : (ofF n f).length = top f n := by simp [ofF]
theorem rd_ofF {n : Nat} {f : Nat → Int} (hz : ∀ i, n ≤ i → f i = 0) (i : Nat) : rd (ofF n f) i = f i := by
  rw [ofF, rd_map]
  split
  · rfl
  · by_cases h : i < n
    · exact (top_zero f n i (by omega) h).symm
    · exact (hz i (by omega)).symm
theorem rd_ofF' {n : Nat} {f : Nat → Int} (i : Nat) : rd (ofF n f) i = if i < n then f i else 0 := by
  rw [ofF, rd_map]
  have := top_le f n
  by_cases h : i < n
  · rw [if_pos h]
    split
    · rfl
    · exact (top_zero f n i (by omega) h).symm
  · rw [if_neg h, if_neg (by omega)]
theorem ofF_congr {n : Nat} {f g : Nat → Int} (h : ∀ i, i < n → f i = g i) : ofF n f = ofF n g := by
  have e := top_congr n h
  have := top_le g n
  refine rd_ext (by rw [ofF_len, ofF_len, e]) fun i hi => ?_
  rw [rd_ofF', rd_ofF']
  split
  · exact h i (by assumption)
  · rfl
theorem ofF_more {n m : Nat} {f : Nat → Int} (h : n ≤ m) (hz : ∀ i, n ≤ i → i < m → f i = 0) : ofF m f = ofF n f := by
  simp only [ofF, top_more h hz]
/-- A list without the zeros at its end. -/
theorem trim_eq (l : List Int) : l.take (top (rd l) l.length) = ofF l.length (rd l) := by
  have := top_le (rd l) l.length
  refine rd_ext (by rw [ofF_len]; simp; omega) fun i hi => ?_
  rw [rd_take, rd_ofF']
  simp at hi
  rw [if_pos (by omega), if_pos (by omega)]

/-- The coefficients of a polynomial modulo p, up to the leading one. -/
structure Row (p : Int) (l : List Int) : Prop where
  res : ∀ d ∈ l, 0 ≤ d ∧ d < p
  nrm : l.length ≠ 0 → rd l (l.length - 1) ≠ 0
theorem Row.rd {p : Int} {l : List Int} (h : Row p l) (hp : 0 < p) (i : Nat) : 0 ≤ rd l i ∧ rd l i < p := by
  by_cases hi : i < l.length
  · exact h.res _ (rd_mem hi)
  · rw [rd_ge (by omega)]; exact ⟨Int.le_refl _, hp⟩
theorem Row.bytes {p : Int} {l : List Int} (h : Row p l) (hp : p ≤ 256) : Bytes l := fun d hd => by have := h.res d hd; omega
theorem row_nil (p : Int) : Row p [] := ⟨by simp, by simp⟩
theorem row_ext {p q : Int} {a b : List Int} (ha : Row p a) (hb : Row q b) (h : ∀ i, rd a i = rd b i) : a = b := by
  have hl : a.length = b.length := by
    rcases Nat.lt_trichotomy a.length b.length with h1 | h1 | h1
    · have := hb.nrm (by omega)
      rw [← h, rd_ge (by omega)] at this
      exact absurd rfl this
    · exact h1
    · have := ha.nrm (by omega)
      rw [h, rd_ge (by omega)] at this
      exact absurd rfl this
  exact rd_ext hl fun i _ => h i
theorem row_ofF {p : Int} {n : Nat} {f : Nat → Int} (h : ∀ i, i < n → 0 ≤ f i ∧ f i < p) : Row p (ofF n f) := by
  have hle := top_le f n
  refine ⟨fun d hd => ?_, fun hn => ?_⟩
  · simp only [ofF, List.mem_map, List.mem_range] at hd
    obtain ⟨i, hi, rfl⟩ := hd
    exact h i (by omega)
  · rw [ofF_len] at hn ⊢
    rw [rd_ofF', if_pos (by omega)]
    exact top_lead f n hn
theorem Row.top {p : Int} {l : List Int} (h : Row p l) {n : Nat} (hn : l.length ≤ n) : top (Abs.rd l) n = l.length :=
  top_is hn (fun i h1 _ => rd_ge h1) h.nrm
theorem Row.ofF {p : Int} {l : List Int} (h : Row p l) {n : Nat} (hn : l.length ≤ n) : ofF n (Abs.rd l) = l := by
  refine rd_ext (by rw [ofF_len, h.top hn]) fun i hi => ?_
  rw [rd_ofF fun i hi => rd_ge (by omega)]
theorem Row.trim {p : Int} {l : List Int} (h : Row p l) : l.take (Abs.top (Abs.rd l) l.length) = l := by
  rw [trim_eq, h.ofF (Nat.le_refl _)]

/-! Arrays and rows. -/
def row (v : V64) : List Int := ofF 64 (rd v.1)
/-- Coefficients from 0 to p - 1. -/
def Res (p : Int) (v : V64) : Prop := ∀ j, j < 64 → 0 ≤ rd v.1 j ∧ rd v.1 j < p
theorem row_row {p : Int} {v : V64} (h : Res p v) : Row p (row v) := row_ofF h
theorem row_len (v : V64) : (row v).length ≤ 64 := by rw [row, ofF_len]; exact top_le _ _
theorem pad_row (v : V64) : pad (row v) = v := vec_ext fun j hj => by rw [rd_padl _ hj, row, rd_ofF', if_pos hj]
theorem row_pad {p : Int} {l : List Int} (h : Row p l) (hl : l.length ≤ 64) : row (pad l) = l := by
  rw [row, ofF_congr (g := rd l) fun i hi => rd_padl l hi, h.ofF hl]
theorem res_pad {p : Int} {l : List Int} (h : Row p l) (hp : 0 < p) : Res p (pad l) := fun j hj => by rw [rd_padl _ hj]; exact h.rd hp j
theorem pad_inj {p q : Int} {a b : List Int} (ha : Row p a) (hb : Row q b) (h1 : a.length ≤ 64) (h2 : b.length ≤ 64) (h : pad a = pad b) : a = b := by
  rw [← row_pad ha h1, ← row_pad hb h2, h]

/-! Sums and products of coefficient functions. -/
def sumTo : Nat → (Nat → Int) → Int
  | 0, _ => 0
  | n + 1, f => sumTo n f + f n
theorem sumTo_congr {f g : Nat → Int} : ∀ n, (∀ i, i < n → f i = g i) → sumTo n f = sumTo n g
  | 0, _ => rfl
  | n + 1, h => by simp only [sumTo]; rw [sumTo_congr n fun i hi => h i (by omega), h n (by omega)]
theorem sumTo_zero {f : Nat → Int} : ∀ n, (∀ i, i < n → f i = 0) → sumTo n f = 0
  | 0, _ => rfl
  | n + 1, h => by simp only [sumTo]; rw [sumTo_zero n fun i hi => h i (by omega), h n (by omega)]; rfl
theorem sumTo_more {f : Nat → Int} {n : Nat} : ∀ m, (∀ i, n ≤ i → i < n + m → f i = 0) → sumTo (n + m) f = sumTo n f
  | 0, _ => rfl
  | m + 1, h => by
    rw [← Nat.add_assoc]
    simp only [sumTo]
    rw [sumTo_more m fun i h1 h2 => h i h1 (by omega), h (n + m) (by omega) (by omega), Int.add_zero]
/-- The summand that the first n coefficients give to a product. -/
def cv (a b : Nat → Int) (n k : Nat) : Int := sumTo n fun i => if i ≤ k then a i * b (k - i) else 0
theorem cv_succ (a b : Nat → Int) (n k : Nat) : cv a b (n + 1) k = cv a b n k + (if n ≤ k then a n * b (k - n) else 0) := rfl
def conv (a b : Nat → Int) (k : Nat) : Int := cv a b (k + 1) k
theorem cv_conv {a b : Nat → Int} {n : Nat} (hz : ∀ i, n ≤ i → a i = 0) (k : Nat) : cv a b n k = conv a b k := by
  unfold conv cv
  rcases Nat.le_total n (k + 1) with h | h
  · obtain ⟨m, e⟩ : ∃ m, k + 1 = n + m := ⟨k + 1 - n, by omega⟩
    rw [e]
    refine (sumTo_more m fun i h1 h2 => ?_).symm
    rw [hz i h1]; simp
  · obtain ⟨m, rfl⟩ : ∃ m, n = k + 1 + m := ⟨n - (k + 1), by omega⟩
    exact sumTo_more m fun i h1 h2 => if_neg (by omega)
theorem conv_zero {a b : Nat → Int} {n m : Nat} (ha : ∀ i, n ≤ i → a i = 0) (hb : ∀ i, m ≤ i → b i = 0) {k : Nat} (hk : n + m ≤ k + 1) : conv a b k = 0 := by
  refine sumTo_zero _ fun i hi => ?_
  rw [if_pos (by omega)]
  by_cases h : i < n
  · rw [hb (k - i) (by omega), Int.mul_zero]
  · rw [ha i (by omega), Int.zero_mul]
/-- The leading coefficient of a product. -/
theorem conv_lead {a b : Nat → Int} {n m : Nat} (ha : ∀ i, n < i → a i = 0) (hb : ∀ i, m < i → b i = 0) : conv a b (n + m) = a n * b m := by
  have h1 : conv a b (n + m) = cv a b (n + 1) (n + m) := (cv_conv (fun i hi => ha i (by omega)) _).symm
  rw [h1]
  unfold cv
  simp only [sumTo]
  rw [sumTo_zero n fun i hi => ?_, if_pos (by omega), show n + m - n = m by omega, Int.zero_add]
  rw [if_pos (by omega), hb _ (by omega), Int.mul_zero]

/-! Operations on rows. -/
def comb (p : Int) (a b : List Int) (k : Int) : List Int := ofF (max a.length b.length) fun i => (rd a i + k * rd b i) % p
def mul (p : Int) (a b : List Int) : List Int := ofF (a.length + b.length - 1) fun i => conv (rd a) (rd b) i % p

theorem emod_res {p : Int} (hp : 0 < p) (x : Int) : 0 ≤ x % p ∧ x % p < p := ⟨Int.emod_nonneg _ (by omega), Int.emod_lt_of_pos _ hp⟩
theorem comb_row {p : Int} (hp : 0 < p) (a b : List Int) (k : Int) : Row p (comb p a b k) := row_ofF fun _ _ => emod_res hp _
theorem mul_row {p : Int} (hp : 0 < p) (a b : List Int) : Row p (mul p a b) := row_ofF fun _ _ => emod_res hp _
theorem comb_rd (p : Int) (a b : List Int) (k : Int) (i : Nat) : rd (comb p a b k) i = (rd a i + k * rd b i) % p := by
  refine rd_ofF (fun i hi => ?_) i
  rw [rd_ge (by omega), rd_ge (by omega)]; simp
theorem mul_rd (p : Int) (a b : List Int) (i : Nat) : rd (mul p a b) i = conv (rd a) (rd b) i % p := by
  refine rd_ofF (fun i hi => ?_) i
  rw [conv_zero (n := a.length) (m := b.length) (fun i hi => rd_ge hi) (fun i hi => rd_ge hi) (by omega)]; simp
theorem comb_len (p : Int) (a b : List Int) (k : Int) : (comb p a b k).length ≤ max a.length b.length := by rw [comb, ofF_len]; exact top_le _ _
theorem mul_len (p : Int) (a b : List Int) : (mul p a b).length ≤ a.length + b.length - 1 := by rw [mul, ofF_len]; exact top_le _ _
theorem mul_nil (p : Int) (b : List Int) : mul p [] b = [] := by
  have h : ∀ i, conv (rd []) (rd b) i = 0 := fun i => sumTo_zero _ fun j _ => by rw [rd_nil]; simp
  have : (mul p [] b).length = 0 := by
    rw [mul, ofF_len]
    exact top_is (Nat.zero_le _) (fun i _ _ => by rw [h]; simp) (by simp)
  exact List.eq_nil_of_length_eq_zero this
theorem mul_nil' (p : Int) (a : List Int) : mul p a [] = [] := by
  have h : ∀ i, conv (rd a) (rd []) i = 0 := fun i => sumTo_zero _ fun j _ => by rw [rd_nil]; simp
  have : (mul p a []).length = 0 := by
    rw [mul, ofF_len]
    exact top_is (Nat.zero_le _) (fun i _ _ => by rw [h]; simp) (by simp)
  exact List.eq_nil_of_length_eq_zero this

/-! Small primes. -/
def isP (p : Int) : Bool := p == 2 || p == 3 || p == 5 || p == 7
theorem isP_iff {p : Int} : isP p = true ↔ p = 2 ∨ p = 3 ∨ p = 5 ∨ p = 7 := by
  simp [isP, or_assoc]
theorem isP_pos {p : Int} (h : isP p = true) : 2 ≤ p ∧ p ≤ 7 := by
  rcases isP_iff.1 h with rfl | rfl | rfl | rfl <;> omega
theorem noz2 : ∀ x y : Fin 2, x ≠ 0 → y ≠ 0 → (x.1 * y.1) % 2 ≠ 0 := by decide
theorem noz3 : ∀ x y : Fin 3, x ≠ 0 → y ≠ 0 → (x.1 * y.1) % 3 ≠ 0 := by decide
theorem noz5 : ∀ x y : Fin 5, x ≠ 0 → y ≠ 0 → (x.1 * y.1) % 5 ≠ 0 := by decide
theorem noz7 : ∀ x y : Fin 7, x ≠ 0 → y ≠ 0 → (x.1 * y.1) % 7 ≠ 0 := by decide
theorem noz_of {n : Nat} (hn : 0 < n) (h : ∀ x y : Fin n, x.1 ≠ 0 → y.1 ≠ 0 → (x.1 * y.1) % n ≠ 0) {x y : Int} (hx : 0 < x ∧ x < n) (hy : 0 < y ∧ y < n) : x * y % n ≠ 0 := by
  obtain ⟨a, rfl⟩ : ∃ a : Nat, x = a := ⟨x.toNat, by omega⟩
  obtain ⟨b, rfl⟩ : ∃ b : Nat, y = b := ⟨y.toNat, by omega⟩
  have := h ⟨a, by omega⟩ ⟨b, by omega⟩ (by simp; omega) (by simp; omega)
  simp only at this
  rw [← Int.natCast_mul, ← Int.natCast_emod]
  omega
theorem noz {p : Int} (hp : isP p = true) {x y : Int} (hx : 0 ≤ x ∧ x < p) (hy : 0 ≤ y ∧ y < p) (h1 : x ≠ 0) (h2 : y ≠ 0) : x * y % p ≠ 0 := by
  rcases isP_iff.1 hp with rfl | rfl | rfl | rfl
  · exact noz_of (n := 2) (by omega) (fun x y a b => noz2 x y (fun e => a (by rw [e]; rfl)) (fun e => b (by rw [e]; rfl))) ⟨by omega, hx.2⟩ ⟨by omega, hy.2⟩
  · exact noz_of (n := 3) (by omega) (fun x y a b => noz3 x y (fun e => a (by rw [e]; rfl)) (fun e => b (by rw [e]; rfl))) ⟨by omega, hx.2⟩ ⟨by omega, hy.2⟩
  · exact noz_of (n := 5) (by omega) (fun x y a b => noz5 x y (fun e => a (by rw [e]; rfl)) (fun e => b (by rw [e]; rfl))) ⟨by omega, hx.2⟩ ⟨by omega, hy.2⟩
  · exact noz_of (n := 7) (by omega) (fun x y a b => noz7 x y (fun e => a (by rw [e]; rfl)) (fun e => b (by rw [e]; rfl))) ⟨by omega, hx.2⟩ ⟨by omega, hy.2⟩
theorem mul_len_is {p : Int} (hp : isP p = true) {a b : List Int} (ha : Row p a) (hb : Row p b) (h1 : a.length ≠ 0) (h2 : b.length ≠ 0) : (mul p a b).length = a.length + b.length - 1 := by
  have hp2 := isP_pos hp
  rw [mul, ofF_len]
  refine top_is (Nat.le_refl _) (fun i h3 h4 => by omega) fun _ => ?_
  have e : a.length + b.length - 1 - 1 = (a.length - 1) + (b.length - 1) := by omega
  rw [e, conv_lead (fun i hi => rd_ge (by omega)) (fun i hi => rd_ge (by omega))]
  exact noz hp (ha.rd (by omega) _) (hb.rd (by omega) _) (ha.nrm h1) (hb.nrm h2)
end Go.Abs
/- Numbers modulo p. -/
namespace Go.Proofs.Ytdhcpekngpndnaa
open Go.Abs

theorem tmod_fix {n p : Int} (hp : 0 < p) : Int.tmod (Int.tmod n p + p) p = n % p := by
  have h1 := Int.lt_tmod_of_pos n hp
  rw [Int.tmod_eq_emod_of_nonneg (by omega), Int.tmod_def, Int.add_emod_right, Int.sub_mul_emod_self_left]

/-- Numbers that are small. -/
def Ent (l : List Int) : Prop := ∀ i, 0 ≤ rd l i ∧ rd l i < 256

theorem _root_.Go.Abs.Row.ent {p : Int} {l : List Int} (h : Row p l) (hp : 0 < p ∧ p ≤ 256) : Ent l := fun i => by have := h.rd hp.1 i; omega

def V64.Ent (v : V64) : Prop := ∀ i, i < 64 → 0 ≤ rd v.1 i ∧ rd v.1 i < 256

theorem mulk {x k : Int} (hx : 0 ≤ x ∧ x < 256) (hk : -1099511627776 ≤ k ∧ k ≤ 1099511627776) : -281474976710656 ≤ k * x ∧ k * x ≤ 281474976710656 := by
  have h1 : (-1099511627776) * x ≤ k * x := Int.mul_le_mul_of_nonneg_right hk.1 hx.1
  have h2 : k * x ≤ 1099511627776 * x := Int.mul_le_mul_of_nonneg_right hk.2 hx.1
  omega

theorem _root_.Go.Abs.Res.ent {p : Int} {v : V64} (h : Res p v) (hp : p ≤ 256) : V64.Ent v := fun i hi => by have := h i hi; omega

theorem ent_pad {p : Int} {l : List Int} (h : Row p l) (hp : 0 < p ∧ p ≤ 256) : V64.Ent (pad l) := Res.ent (res_pad h hp.1) hp.2

theorem mul_small {x y : Int} (hx : 0 ≤ x ∧ x < 256) (hy : 0 ≤ y ∧ y < 256) : 0 ≤ x * y ∧ x * y ≤ 65025 :=
  ⟨Int.mul_nonneg hx.1 hy.1, Int.mul_le_mul (c := 255) (d := 255) (by omega) (by omega) hy.1 (by omega)⟩
end Go.Proofs.Ytdhcpekngpndnaa
/- Degrees. -/
namespace Go.Proofs.Ytdhcpekngpndnaa
open Go.Abs

theorem deg_loop (a : V64) : ∀ s : Int, (∃ i : Nat, s = (i : Int) - 1 ∧ i ≤ 64) → ∃ r, loopM (fun s : Int => spec_l01Deg_l1 a s) s = some r ∧ ∀ i : Nat, s = (i : Int) - 1 → r = (top (rd a.1) i : Int) - 1 := by
  refine loopM_ind (fun (s : Int) => ∃ i : Nat, s = (i : Int) - 1 ∧ i ≤ 64) (fun (s : Int) (r : Int) => ∀ i : Nat, s = (i : Int) - 1 → r = (top (rd a.1) i : Int) - 1) (fun s => (s + 1).toNat) ?_
  rintro s ⟨i, rfl, hi⟩
  match i with
  | 0 =>
    right
    refine ⟨-1, by simp [spec_l01Deg_l1], fun k hk => ?_⟩
    have : k = 0 := by omega
    subst this; simp [top]
  | i + 1 =>
    have e1 : ((i + 1 : Nat) : Int) - 1 = (i : Int) := by omega
    rw [e1]
    by_cases e : rd a.1 i = 0
    · left
      refine ⟨(i : Int) - 1, ?_, ⟨i, rfl, by omega⟩, by omega, fun r hr k hk => ?_⟩
      · simp only [spec_l01Deg_l1]
        rw [if_pos (by simp), ifp_pos (by omega)]
        simp [e]
        exact wrap64 (by omega) (by omega)
      · have : k = i + 1 := by omega
        subst this
        rw [hr i rfl]; simp [top, e]
    · right
      refine ⟨(i : Int), ?_, fun k hk => ?_⟩
      · simp only [spec_l01Deg_l1]
        rw [if_pos (by simp), ifp_pos (by omega)]
        simp [e]
      · have : k = i + 1 := by omega
        subst this
        simp [top, e]

theorem deg_is (a : V64) : spec_l01Deg a = some ((top (rd a.1) 64 : Int) - 1) := by
  obtain ⟨r, h1, h2⟩ := deg_loop a 63 ⟨64, by omega, by omega⟩
  rw [h2 64 (by omega)] at h1
  simp only [spec_l01Deg, h1, Option.bind_some]
end Go.Proofs.Ytdhcpekngpndnaa
/- Products, in the reference. -/
namespace Go.Proofs.Ytdhcpekngpndnaa
open Go.Abs

/-- One row of the reference's product. -/
theorem timesS_row {p : Int} (hp : 2 ≤ p ∧ p ≤ 256) {a b : V64} (ha : Res p a) (hb : Res p b) {i db : Nat} (hi : i + db < 64) {v : V64} (hv : Res p v) :
    ∃ v', loopM (fun s : Int × V64 => spec_l01Times_l2 (db : Int) (i : Int) a b p s.1 s.2) (0, v) = some v' ∧ Res p v' ∧ ∀ k, k < 64 → rd v'.1 k = if i ≤ k ∧ k ≤ i + db then (rd v.1 k + rd a.1 i * rd b.1 (k - i)) % p else rd v.1 k := by
  by_cases h0 : rd a.1 i = 0
  · refine ⟨v, ?_, hv, fun k hk => ?_⟩
    · rw [loopM_eq]
      simp only [spec_l01Times_l2]
      rw [ifp_pos (by omega)]
      simp [h0]
    · rw [h0]
      split
      · have := hv k hk
        rw [Int.zero_mul, Int.add_zero, Int.emod_eq_of_lt this.1 this.2]
      · rfl
  · have hai := ha i (by omega)
    obtain ⟨v', h1, h2, h3⟩ := loopM_for (body := fun s : Int × V64 => spec_l01Times_l2 (db : Int) (i : Int) a b p s.1 s.2) (fun j (v : V64) => ((j : Int), v)) (fun v => v) (db + 1)
      (fun j u => Res p u ∧ ∀ k, k < 64 → rd u.1 k = if i ≤ k ∧ k < i + j then (rd v.1 k + rd a.1 i * rd b.1 (k - i)) % p else rd v.1 k) (fun j u hj hI => by
        obtain ⟨hr, hk⟩ := hI
        have hbj := hb j (by omega)
        have huj := hr (i + j) (by omega)
        have e1 : IntKind.i64.wrap ((i : Int) + (j : Int)) = ((i + j : Nat) : Int) := by rw [wrap64 (by omega) (by omega)]; omega
        have hm := mul_small (x := rd a.1 i) (y := rd b.1 j) (by omega) (by omega)
        have hmod : Int.tmod (rd u.1 (i + j) + rd a.1 i * rd b.1 j) p = (rd u.1 (i + j) + rd a.1 i * rd b.1 j) % p := Int.tmod_eq_emod_of_nonneg (by omega)
        have hlt := emod_res (show 0 < p by omega) (rd u.1 (i + j) + rd a.1 i * rd b.1 j)
        refine ⟨vset u (i + j) ((rd u.1 (i + j) + rd a.1 i * rd b.1 j) % p), ?_, fun k hk' => ?_, fun k hk' => ?_⟩
        · simp only [spec_l01Times_l2, letp]
          rw [if_pos (by simp; omega), ifp_pos (by omega)]
          simp only [Option.bind_some]
          rw [if_pos (by simpa using h0), e1]
          rw [ifp_pos (by omega), ifp_pos (by omega), ifp_pos (by omega), ifp_pos (by omega), ifp_pos (by omega)]
          simp only [Int.toNat_natCast]
          rw [wrap64 (n := rd u.1 (i + j)) (by omega) (by omega), wrap64 (n := rd a.1 i) (by omega) (by omega), wrap64 (n := rd b.1 j) (by omega) (by omega), wrap64 (n := rd a.1 i * rd b.1 j) (by omega) (by omega), wrap64 (n := rd u.1 (i + j) + rd a.1 i * rd b.1 j) (by omega) (by omega), hmod, wrap8 hlt.1 (by omega), wrap64 (by omega) (by omega)]
          rfl
        · rw [rd_vset _ _ _ _ (by omega)]
          split
          · exact hlt
          · exact hr k hk'
        · rw [rd_vset _ _ _ _ (by omega)]
          by_cases e : k = i + j
          · subst e
            rw [if_pos rfl, if_pos (by omega), hk _ hk', if_neg (by omega), show i + j - i = j by omega]
          · rw [if_neg e, hk k hk']
            by_cases hc : i ≤ k ∧ k < i + j
            · rw [if_pos hc, if_pos (by omega)]
            · rw [if_neg hc, if_neg (by omega)]) (fun u hI => by
        simp only [spec_l01Times_l2]
        rw [if_neg (by simp; omega)]
        rfl) (db + 1) 0 v (by omega) ⟨hv, fun k hk => by rw [if_neg (by omega)]⟩
    exact ⟨v', h1, h2, fun k hk => by rw [h3 k hk]; simp only [show (i ≤ k ∧ k < i + (db + 1)) = (i ≤ k ∧ k ≤ i + db) from by rw [eq_iff_iff]; omega]⟩


theorem times_pad {p : Int} (hp : 2 ≤ p ∧ p ≤ 256) {a b : List Int} (ha : Row p a) (hb : Row p b) (la : a.length ≤ 64) (lb : b.length ≤ 64) (hl : a.length = 0 ∨ b.length = 0 ∨ a.length + b.length ≤ 65) :
    spec_l01Times p (pad a) (pad b) = some (pad (mul p a b), true) := by
  have hta : top (rd (pad a).1) 64 = a.length := by rw [top_congr 64 fun i hi => rd_padl a hi, ha.top la]
  have htb : top (rd (pad b).1) 64 = b.length := by rw [top_congr 64 fun i hi => rd_padl b hi, hb.top lb]
  simp only [spec_l01Times, deg_is, Option.bind_some, hta, htb]
  by_cases h1 : a.length = 0
  · have e : a = [] := List.eq_nil_of_length_eq_zero h1
    subst e
    simp [mul_nil, pad_nil]
  by_cases h2 : b.length = 0
  · have e : b = [] := List.eq_nil_of_length_eq_zero h2
    subst e
    simp [mul_nil', pad_nil]
  have hra := res_pad ha (show 0 < p by omega)
  have hrb := res_pad hb (show 0 < p by omega)
  obtain ⟨db, hdb⟩ : ∃ db : Nat, b.length = db + 1 := ⟨b.length - 1, by omega⟩
  obtain ⟨da, hda⟩ : ∃ da : Nat, a.length = da + 1 := ⟨a.length - 1, by omega⟩
  have e1 : ((a.length : Nat) : Int) - 1 = (da : Int) := by omega
  have e2 : ((b.length : Nat) : Int) - 1 = (db : Int) := by omega
  rw [e1, e2, wrap64 (by omega) (by omega)]
  simp only [show (decide ((da : Int) < 0)) = false by simp, Bool.false_eq_true, if_false, show (decide ((db : Int) < 0)) = false by simp, show (decide ((da : Int) + (db : Int) > 63)) = false by simp; omega, Option.bind_some]
  obtain ⟨v, h3, h4, h5⟩ := loopM_for (body := fun s : Int × V64 => spec_l01Times_l1 (da : Int) (db : Int) (pad a) (pad b) p s.1 s.2) (fun i v => ((i : Int), v)) (fun v => v) (da + 1)
    (fun i v => Res p v ∧ ∀ k, k < 64 → rd v.1 k = cv (rd a) (rd b) i k % p) (fun i v hi hI => by
      obtain ⟨hv, hk⟩ := hI
      obtain ⟨v', g1, g2, g3⟩ := timesS_row hp hra hrb (i := i) (db := db) (by omega) hv
      refine ⟨v', ?_, g2, fun k hk' => ?_⟩
      · simp only [spec_l01Times_l1]
        rw [if_pos (by simp; omega), g1]
        simp only [Option.bind_some]
        rw [wrap64 (by omega) (by omega)]; rfl
      · rw [g3 k hk', hk k hk', cv_succ]
        by_cases hc : i ≤ k ∧ k ≤ i + db
        · rw [if_pos hc, if_pos hc.1, rd_padl _ (by omega), rd_padl _ (by omega), Int.emod_add_emod]
        · rw [if_neg hc]
          by_cases hik : i ≤ k
          · rw [if_pos hik, rd_ge (l := b) (by omega), Int.mul_zero, Int.add_zero]
          · rw [if_neg hik, Int.add_zero]) (fun v hI => by
      simp only [spec_l01Times_l1]
      rw [if_neg (by simp; omega)]) (da + 1) 0 (vrep 64 0) (by omega) ⟨fun j hj => by rw [rd_vrep _ hj]; omega, fun k hk => by rw [rd_vrep _ hk]; simp [cv, sumTo]⟩
  have h3' : loopM (fun s : Int × V64 => spec_l01Times_l1 (da : Int) (db : Int) (pad a) (pad b) p s.1 s.2) (0, vrep 64 0) = some v := h3
  rw [h3']
  simp only [Option.bind_some]
  congr 2
  exact vec_ext fun k hk => by rw [h5 k hk, rd_padl _ hk, mul_rd, cv_conv fun i hi => rd_ge (by omega)]

theorem times_pad_no {p : Int} {a b : List Int} (ha : Row p a) (hb : Row p b) (la : a.length ≤ 64) (lb : b.length ≤ 64) (h1 : a.length ≠ 0) (h2 : b.length ≠ 0) (hl : 65 < a.length + b.length) :
    spec_l01Times p (pad a) (pad b) = some (vrep 64 0, false) := by
  have hta : top (rd (pad a).1) 64 = a.length := by rw [top_congr 64 fun i hi => rd_padl a hi, ha.top la]
  have htb : top (rd (pad b).1) 64 = b.length := by rw [top_congr 64 fun i hi => rd_padl b hi, hb.top lb]
  simp only [spec_l01Times, deg_is, Option.bind_some, hta, htb]
  rw [wrap64 (by omega) (by omega)]
  simp only [show (decide (((a.length : Nat) : Int) - 1 < 0)) = false by simp; omega, Bool.false_eq_true, if_false, show (decide (((b.length : Nat) : Int) - 1 < 0)) = false by simp; omega, show (decide (((a.length : Nat) : Int) - 1 + (((b.length : Nat) : Int) - 1) > 63)) = true by simp; omega, Option.bind_some, if_true]
end Go.Proofs.Ytdhcpekngpndnaa
/- Rows without the zeros at their ends. -/
namespace Go.Proofs.Ytdhcpekngpndnaa
open Go.Abs

def IsB (v : V64) : Prop := ∀ d ∈ v.1, 0 ≤ d ∧ d < 256

theorem IsB.rd {v : V64} (h : IsB v) {j : Nat} (hj : j < 64) : 0 ≤ rd v.1 j ∧ rd v.1 j < 256 := by
  have hl : j < v.1.length := by rw [v.2]; exact hj
  have : Abs.rd v.1 j = v.1[j] := by simp [Abs.rd, hl]
  rw [this]; exact h _ (List.getElem_mem _)

theorem trimmed_loop {l : List Int} (hl : l.length ≤ 1000000) : ∀ s : Int, (∃ i : Nat, s = i ∧ i ≤ l.length) → ∃ r, loopM (fun s : Int => impl_row_trimmed_l1 l s) s = some r ∧ ∀ i : Nat, s = i → r = (top (rd l) i : Int) := by
  refine loopM_ind (fun (s : Int) => ∃ i : Nat, s = i ∧ i ≤ l.length) (fun (s : Int) (r : Int) => ∀ i : Nat, s = i → r = (top (rd l) i : Int)) (fun s => s.toNat) ?_
  rintro s ⟨i, rfl, hi⟩
  match i with
  | 0 =>
    right
    refine ⟨0, by simp [impl_row_trimmed_l1], fun k hk => ?_⟩
    have : k = 0 := by omega
    subst this; simp [top]
  | i + 1 =>
    have e1 : IntKind.i64.wrap (((i + 1 : Nat) : Int) - 1) = (i : Int) := by rw [wrap64 (by omega) (by omega)]; omega
    by_cases e : rd l i = 0
    · left
      refine ⟨(i : Int), ?_, ⟨i, rfl, by omega⟩, by omega, fun r hr k hk => ?_⟩
      · simp only [impl_row_trimmed_l1, e1]
        rw [if_pos (by simp), ifp_pos (by omega)]
        simp [e]
      · have : k = i + 1 := by omega
        subst this
        rw [hr i rfl]; simp [top, e]
    · right
      refine ⟨((i + 1 : Nat) : Int), ?_, fun k hk => ?_⟩
      · simp only [impl_row_trimmed_l1, e1]
        rw [if_pos (by simp), ifp_pos (by omega)]
        simp [e]
      · have : k = i + 1 := by omega
        subst this
        simp [top, e]

theorem trimmed_is {l : List Int} (hl : l.length ≤ 1000000) : impl_row_trimmed l = some (l.take (top (rd l) l.length)) := by
  obtain ⟨r, h1, h2⟩ := trimmed_loop hl (l.length : Nat) ⟨l.length, rfl, Nat.le_refl _⟩
  rw [h2 _ rfl] at h1
  have := top_le (rd l) l.length
  simp only [impl_row_trimmed, h1, Option.bind_some]
  rw [ifp_pos (by omega)]
  simp

theorem rowOf_loop {a : V64} (hb : IsB a) : ∀ s : Int × List Int, (∃ i : Nat, s.1 = i ∧ i ≤ 64 ∧ s.2 = a.1.take i) → ∃ r, loopM (fun s : Int × List Int => impl_rowOf_l1 a s.1 s.2) s = some r ∧ r = a.1 := by
  refine loopM_ind (fun (s : Int × List Int) => ∃ i : Nat, s.1 = i ∧ i ≤ 64 ∧ s.2 = a.1.take i) (fun (s : Int × List Int) (r : List Int) => r = a.1) (fun (s : Int × List Int) => 64 - s.1.toNat) ?_
  rintro ⟨x, v⟩ ⟨i, hx, hi, hv⟩
  simp only at hx hv
  subst hx hv
  by_cases h : i = 64
  · right
    subst h
    exact ⟨a.1, by simp [impl_rowOf_l1, List.take_of_length_le (Nat.le_of_eq a.2)], rfl⟩
  · left
    have hil : i < a.1.length := by rw [a.2]; omega
    have er : rd a.1 i = a.1[i] := by simp [rd, hil]
    have hbi := hb.rd (show i < 64 by omega)
    refine ⟨(((i + 1 : Nat) : Int), a.1.take (i + 1)), ?_, ⟨i + 1, rfl, by omega, rfl⟩, by simp; omega, fun r hr => hr⟩
    simp only [impl_rowOf_l1]
    rw [if_pos (by simp; omega), ifp_pos (by omega), ifp_pos (by simp; omega)]
    rw [Int.toNat_natCast, wrap64 (by omega) (by omega), wrap64 (by omega) (by omega), er, List.take_succ_eq_append_getElem hil]
    simp

theorem rowOf_is {a : V64} (hb : IsB a) : impl_rowOf a = some (a.1.take (top (rd a.1) 64)) := by
  obtain ⟨r, h1, h2⟩ := rowOf_loop hb (0, []) ⟨0, rfl, by omega, by simp⟩
  subst h2
  have h3 := trimmed_is (l := a.1) (by rw [a.2]; omega)
  rw [a.2] at h3
  simp only [impl_rowOf, h1, Option.bind_some, h3]
end Go.Proofs.Ytdhcpekngpndnaa
/- Products, in the program. -/
namespace Go.Proofs.Ytdhcpekngpndnaa
open Go.Abs


theorem cv_small {a b : Nat → Int} (ha : ∀ i, 0 ≤ a i ∧ a i < 256) (hb : ∀ i, 0 ≤ b i ∧ b i < 256) (k : Nat) : ∀ n : Nat, 0 ≤ cv a b n k ∧ cv a b n k ≤ n * 65025
  | 0 => by simp [cv, sumTo]
  | n + 1 => by
    rw [cv_succ]
    have h1 := cv_small ha hb k n
    have h2 := mul_small (ha n) (hb (k - n))
    split <;> omega

/-- The program's product. -/
theorem times_is {p : Int} (hp : 2 ≤ p ∧ p ≤ 256) {a b : List Int} (ha : Ent a) (hb : Ent b) (la : a.length ≤ 500000) (lb : b.length ≤ 500000) : impl_prime_times p a b = some (mul p a b) := by
  simp only [impl_prime_times, letp]
  by_cases h1 : a.length = 0
  · have e : a = [] := List.eq_nil_of_length_eq_zero h1
    subst e
    simp [mul_nil]
  by_cases h2 : b.length = 0
  · have e : b = [] := List.eq_nil_of_length_eq_zero h2
    subst e
    simp [mul_nil']
  obtain ⟨n, hn⟩ : ∃ n : Nat, n = a.length + b.length - 1 := ⟨_, rfl⟩
  have e0 : IntKind.i64.wrap (IntKind.i64.wrap ((a.length : Int) + (b.length : Int)) - 1) = (n : Int) := by
    rw [wrap64 (n := (a.length : Int) + (b.length : Int)) (by omega) (by omega), wrap64 (by omega) (by omega)]; omega
  rw [e0]
  have c1 : (if ((a.length : Int) == 0) = true then some true else some ((b.length : Int) == 0)) = some false := by
    rw [if_neg (by rw [beq_iff_eq]; omega)]
    congr 1
    rw [beq_eq_false_iff_ne]; omega
  rw [c1]
  simp only [Bool.false_eq_true, if_false, Option.bind_some, Int.toNat_natCast]
  rw [ifp_pos (by omega)]
  -- one row
  have hrow : ∀ (i : Nat) (s : List Int), i < a.length → s.length = n → (∀ k, rd s k = cv (rd a) (rd b) i k) →
      ∃ s', loopM (fun s : Int × List Int => impl_prime_times_l2 b (i : Int) a s.1 s.2) (0, s) = some s' ∧ s'.length = n ∧ ∀ k, rd s' k = cv (rd a) (rd b) (i + 1) k := by
    intro i s hi hsl hs
    have hai := ha i
    obtain ⟨s', g1, g2, g3⟩ := loopM_for (body := fun s : Int × List Int => impl_prime_times_l2 b (i : Int) a s.1 s.2) (fun j (u : List Int) => ((j : Int), u)) (fun u => u) b.length
      (fun j u => u.length = n ∧ ∀ k, rd u k = if i ≤ k ∧ k < i + j then cv (rd a) (rd b) (i + 1) k else cv (rd a) (rd b) i k) (fun j u hj hI => by
        obtain ⟨hul, hu⟩ := hI
        have hbj := hb j
        have hm := mul_small hai hbj
        have hc := cv_small ha hb (i + j) i
        have e1 : IntKind.i64.wrap ((i : Int) + (j : Int)) = ((i + j : Nat) : Int) := by rw [wrap64 (by omega) (by omega)]; omega
        have huj := hu (i + j)
        rw [if_neg (by omega)] at huj
        have e2 : cv (rd a) (rd b) (i + 1) (i + j) = cv (rd a) (rd b) i (i + j) + rd a i * rd b j := by
          rw [cv_succ, if_pos (by omega), show i + j - i = j by omega]
        refine ⟨u.set (i + j) (cv (rd a) (rd b) (i + 1) (i + j)), ?_, by simpa using hul, fun k => ?_⟩
        · simp only [impl_prime_times_l2, letp]
          rw [if_pos (by simp; omega), e1]
          rw [ifp_pos (by omega), ifp_pos (by omega), ifp_pos (by omega)]
          simp only [Int.toNat_natCast]
          rw [huj, wrap64 (n := rd a i * rd b j) (by omega) (by omega), wrap64 (n := cv (rd a) (rd b) i (i + j) + rd a i * rd b j) (by omega) (by omega), wrap64 (by omega) (by omega), e2]
          rfl
        · rw [rd_set _ _ _ _ (by omega)]
          by_cases e : k = i + j
          · subst e
            rw [if_pos rfl, if_pos (by omega)]
          · rw [if_neg e, hu k]
            by_cases hc : i ≤ k ∧ k < i + j
            · rw [if_pos hc, if_pos (by omega)]
            · rw [if_neg hc, if_neg (by omega)]) (fun u hI => by
        simp only [impl_prime_times_l2]
        rw [if_neg (by simp)]) b.length 0 s (by omega) ⟨hsl, fun k => by rw [hs k, if_neg (by omega)]⟩
    refine ⟨s', g1, g2, fun k => ?_⟩
    rw [g3 k]
    split
    · rfl
    · rename_i hc
      rw [cv_succ]
      by_cases hik : i ≤ k
      · rw [if_pos hik, rd_ge (l := b) (by omega), Int.mul_zero, Int.add_zero]
      · rw [if_neg hik, Int.add_zero]
  obtain ⟨s, h3, h4, h5⟩ := loopM_for (body := fun s : Int × List Int => impl_prime_times_l1 a b s.1 s.2) (fun i (u : List Int) => ((i : Int), u)) (fun u => u) a.length
    (fun i u => u.length = n ∧ ∀ k, rd u k = cv (rd a) (rd b) i k) (fun i u hi hI => by
      obtain ⟨u', g1, g2, g3⟩ := hrow i u hi hI.1 hI.2
      refine ⟨u', ?_, g2, g3⟩
      simp only [impl_prime_times_l1]
      rw [if_pos (by simp; omega), ifp_pos (by omega), g1]
      simp only [Option.bind_some]
      rw [wrap64 (by omega) (by omega)]; rfl) (fun u hI => by
      simp only [impl_prime_times_l1]
      rw [if_neg (by simp)]) a.length 0 (List.replicate n 0) (by omega) ⟨by simp, fun k => by rw [rd_rep]; simp [cv, sumTo]⟩
  have h3' : loopM (fun s : Int × List Int => impl_prime_times_l1 a b s.1 s.2) (0, List.replicate n 0) = some s := h3
  rw [h3']
  simp only [Option.bind_some]
  obtain ⟨t, h6, h7, h8⟩ := loopM_for (body := fun q : Int × List Int => impl_prime_times_l3 s p q.1 q.2) (fun i (u : List Int) => ((i : Int), u)) (fun u => u) n
    (fun i u => u.length = n ∧ ∀ k, rd u k = if k < i then cv (rd a) (rd b) a.length k % p else cv (rd a) (rd b) a.length k) (fun i u hi hI => by
      obtain ⟨hul, hu⟩ := hI
      have hui := hu i
      rw [if_neg (by omega)] at hui
      have hc := cv_small ha hb i a.length
      refine ⟨u.set i (cv (rd a) (rd b) a.length i % p), ?_, by simpa using hul, fun k => ?_⟩
      · simp only [impl_prime_times_l3]
        rw [if_pos (by simp; omega), ifp_pos (by omega), ifp_pos (by omega), ifp_pos (by omega)]
        simp only [Int.toNat_natCast]
        rw [hui, Int.tmod_eq_emod_of_nonneg hc.1, wrap64 (by omega) (by omega)]; rfl
      · rw [rd_set _ _ _ _ (by omega), hu k]
        by_cases e : k = i
        · subst e; simp
        · rw [if_neg e]
          simp only [show (k < i + 1) = (k < i) from by rw [eq_iff_iff]; omega]) (fun u hI => by
      simp only [impl_prime_times_l3]
      rw [if_neg (by simp; omega)]) n 0 s (by omega) ⟨h4, fun k => by rw [h5 k, if_neg (by omega)]⟩
  have h6' : loopM (fun q : Int × List Int => impl_prime_times_l3 s p q.1 q.2) (0, s) = some t := h6
  rw [h6']
  simp only [Option.bind_some]
  rw [trimmed_is (by omega), trim_eq, h7]
  simp only [Option.bind_some]
  congr 1
  rw [mul, ← hn]
  exact ofF_congr fun k hk => by rw [h8 k, if_pos hk, cv_conv fun i hi => rd_ge (by omega)]
end Go.Proofs.Ytdhcpekngpndnaa
/- Sums, in the program. -/
namespace Go.Proofs.Ytdhcpekngpndnaa
open Go.Abs

theorem at_is (l : List Int) (i : Nat) : impl_row_at l i = some (rd l i) := by
  unfold impl_row_at
  by_cases h : i < l.length
  · rw [if_pos (by simpa using h), ifp_pos (by omega)]; simp
  · rw [if_neg (by simpa using h), rd_ge (by omega)]

theorem reduce_is {p n : Int} (hp : 0 < p ∧ p ≤ 256) (hn : -4611686018427387904 ≤ n ∧ n < 4611686018427387904) : impl_prime_reduce p n = some (n % p) := by
  unfold impl_prime_reduce
  have h1 := Int.lt_tmod_of_pos n hp.1
  have h2 := Int.tmod_lt_of_pos n hp.1
  rw [ifp_pos (by omega), ifp_pos (by omega), wrap64 (by omega) (by omega), tmod_fix hp.1]

theorem combine_is {p k : Int} {a b : List Int} (hp : 0 < p ∧ p ≤ 256) (ha : Ent a) (hb : Ent b) (la : a.length ≤ 1000000) (lb : b.length ≤ 1000000) (hk : -1099511627776 ≤ k ∧ k ≤ 1099511627776) :
    impl_prime_combine p a b k = some (comb p a b k) := by
  obtain ⟨n, hn⟩ : ∃ n : Nat, n = max a.length b.length := ⟨_, rfl⟩
  have e : (if (b.length : Int) > (a.length : Int) then (b.length : Int) else (a.length : Int)) = (n : Int) := by split <;> omega
  obtain ⟨s, h1, h2, h3⟩ := loopM_for (body := fun s : Int × List Int => impl_prime_combine_l1 (n : Int) a b p k s.1 s.2) (fun i s => ((i : Int), s)) (fun s => s) n
    (fun i s => s.length = n ∧ ∀ j, rd s j = if j < i then (rd a j + k * rd b j) % p else 0) (fun i s hi hI => by
      obtain ⟨hl, hr⟩ := hI
      have h1 := ha i
      have h2 := mulk (hb i) hk
      refine ⟨s.set i ((rd a i + k * rd b i) % p), ?_, by simpa using hl, fun j => ?_⟩
      · simp only [impl_prime_combine_l1, letp, Int.toNat_natCast, List.length_replicate]
        rw [if_pos (by simp; omega), at_is, at_is]
        simp only [Option.bind_some]
        rw [wrap64 (n := k * rd b i) (by omega) (by omega), wrap64 (n := rd a i + k * rd b i) (by omega) (by omega), reduce_is hp (by omega)]
        simp only [Option.bind_some]
        rw [ifp_pos (by omega), wrap64 (by omega) (by omega)]
        rfl
      · rw [rd_set _ _ _ _ (by omega), hr j]
        by_cases h : j = i
        · subst h; simp
        · rw [if_neg h]
          simp only [show (j < i + 1) = (j < i) from by rw [eq_iff_iff]; omega]) (fun s hI => by
      simp only [impl_prime_combine_l1, letp, Int.toNat_natCast, List.length_replicate]
      rw [if_neg (by simp)]) n 0 (List.replicate n 0) (by omega) ⟨by simp, fun j => by rw [rd_rep, if_neg (by omega)]⟩
  have hs : s.take (top (rd s) s.length) = comb p a b k := by
    rw [trim_eq, h2, comb, ← hn]
    exact ofF_congr fun i hi => by rw [h3 i, if_pos hi]
  simp only [impl_prime_combine, letp, e]
  rw [ifp_pos (by omega)]
  simp only [Int.toNat_natCast]
  have h1' : loopM (fun s : Int × List Int => impl_prime_combine_l1 (n : Int) a b p k s.1 s.2) (0, List.replicate n 0) = some s := h1
  rw [h1']
  simp only [Option.bind_some]
  rw [trimmed_is (by omega), hs]
  rfl
end Go.Proofs.Ytdhcpekngpndnaa
/- Sums, in the reference. -/
namespace Go.Proofs.Ytdhcpekngpndnaa
open Go.Abs

theorem add_is {p k : Int} {a b : V64} (hp : 0 < p ∧ p ≤ 256) (ha : V64.Ent a) (hb : V64.Ent b) (hk : -1099511627776 ≤ k ∧ k ≤ 1099511627776) :
    ∃ v, spec_l01Add p a b k = some v ∧ ∀ j, j < 64 → rd v.1 j = (rd a.1 j + k * rd b.1 j) % p := by
  obtain ⟨s, h1, h2⟩ := loopM_for (body := fun s : Int × V64 => spec_l01Add_l1 k b p s.1 s.2) (fun i s => ((i : Int), s)) (fun s => s) 64
    (fun i s => ∀ j, j < 64 → rd s.1 j = if j < i then (rd a.1 j + k * rd b.1 j) % p else rd a.1 j) (fun i s hi hI => by
      have hs := hI i hi
      rw [if_neg (by omega)] at hs
      have h1 := ha i hi
      have h0 := hb i hi
      have h2 := mulk (hb i hi) hk
      have h3 := Int.lt_tmod_of_pos (rd a.1 i + k * rd b.1 i) hp.1
      have h4 := Int.tmod_lt_of_pos (rd a.1 i + k * rd b.1 i) hp.1
      have h5 := emod_res hp.1 (rd a.1 i + k * rd b.1 i)
      refine ⟨vset s i ((rd a.1 i + k * rd b.1 i) % p), ?_, fun j hj => ?_⟩
      · simp only [spec_l01Add_l1, letp, Int.toNat_natCast, hs]
        rw [if_pos (by simp; omega), ifp_pos (by omega), ifp_pos (by omega), ifp_pos (by omega), ifp_pos (by omega), ifp_pos (by omega)]
        rw [wrap64 (n := rd b.1 i) (by omega) (by omega), wrap64 (n := rd a.1 i) (by omega) (by omega), wrap64 (n := k * rd b.1 i) (by omega) (by omega), wrap64 (n := rd a.1 i + k * rd b.1 i) (by omega) (by omega), wrap64 (n := _ + p) (by omega) (by omega), tmod_fix hp.1, wrap8 (by omega) (by omega), wrap64 (by omega) (by omega)]
        rfl
      · rw [rd_vset _ _ _ _ hi, hI j hj]
        by_cases h : j = i
        · subst h; simp
        · rw [if_neg h]
          simp only [show (j < i + 1) = (j < i) from by rw [eq_iff_iff]; omega]) (fun s hI => by
      simp only [spec_l01Add_l1, letp]
      rw [if_neg (by simp)]) 64 0 a (by omega) (fun j hj => by rw [if_neg (by omega)])
  refine ⟨s, ?_, fun j hj => by rw [h2 j hj, if_pos hj]⟩
  have h1' : loopM (fun s : Int × V64 => spec_l01Add_l1 k b p s.1 s.2) (0, a) = some s := h1
  simp only [spec_l01Add, h1', Option.bind_some]

theorem add_pad {p k : Int} {a b : List Int} (hp : 0 < p ∧ p ≤ 256) (ha : Row p a) (hb : Row p b) (la : a.length ≤ 64) (lb : b.length ≤ 64) (hk : -1099511627776 ≤ k ∧ k ≤ 1099511627776) :
    spec_l01Add p (pad a) (pad b) k = some (pad (comb p a b k)) := by
  obtain ⟨v, h1, h2⟩ := add_is hp (ent_pad ha hp) (ent_pad hb hp) hk
  rw [h1]
  congr 1
  exact vec_ext fun j hj => by rw [h2 j hj, rd_padl _ hj, rd_padl _ hj, rd_padl _ hj, comb_rd]
end Go.Proofs.Ytdhcpekngpndnaa
/- One. -/
namespace Go.Proofs.Ytdhcpekngpndnaa
open Go.Abs

theorem row_one {p : Int} (hp : 2 ≤ p) : Row p [1] := ⟨by simp; omega, by simp [rd]⟩
theorem one_is : spec_l01One = some (pad [1]) := by
  unfold spec_l01One
  congr 1
end Go.Proofs.Ytdhcpekngpndnaa
/- Primes. -/
namespace Go.Proofs.Ytdhcpekngpndnaa
open Go.Abs

theorem isPrime_spec (p : Int) : spec_l01Prime p = some (isP p) := by
  unfold spec_l01Prime isP
  by_cases h1 : p = 2 <;> by_cases h2 : p = 3 <;> by_cases h3 : p = 5 <;> simp [h1, h2, h3]

theorem isPrime_impl (p : Int) : impl_isPrime p = some (isP p) := by
  unfold impl_isPrime isP
  by_cases h1 : p = 2 <;> by_cases h2 : p = 3 <;> by_cases h3 : p = 5 <;> simp [h1, h2, h3]
end Go.Proofs.Ytdhcpekngpndnaa
/- Convergents. -/
namespace Go.Proofs.Ytdhcpekngpndnaa
open Go.Abs

def nx (p : Int) (q t t2 : List Int) : List Int := comb p (mul p q t) t2 1
/-- Tops, bottoms, and whether no degree was too great. -/
def cvR (p : Int) : List (List Int) → List Int → List Int → List Int → List Int → List (List Int) × List (List Int) × Bool
  | [], _, _, _, _ => ([], [], true)
  | q :: M, t, t2, b, b2 =>
    if (nx p q t t2).length ≤ 64 ∧ (nx p q b b2).length ≤ 64 then
      (nx p q t t2 :: (cvR p M (nx p q t t2) t (nx p q b b2) b).1, nx p q b b2 :: (cvR p M (nx p q t t2) t (nx p q b b2) b).2.1, (cvR p M (nx p q t t2) t (nx p q b b2) b).2.2)
    else ([], [], false)
theorem comb_big {p : Int} (hp : 2 ≤ p) {a b : List Int} (ha : Row p a) (h : b.length < a.length) : (comb p a b 1).length = a.length := by
  rw [comb, ofF_len]
  refine top_is (by omega) (fun i h1 h2 => by rw [rd_ge (by omega), rd_ge (by omega)]; simp) fun _ => ?_
  have h1 := ha.rd (show 0 < p by omega) (a.length - 1)
  have h2 := ha.nrm (by omega)
  rw [rd_ge (l := b) (by omega), Int.mul_zero, Int.add_zero, Int.emod_eq_of_lt h1.1 h1.2]
  exact h2
theorem nx_row {p : Int} (hp : 0 < p) (q t t2 : List Int) : Row p (nx p q t t2) := comb_row hp _ _ _
/-- The product fits, or what arises does not. -/
theorem nx_fits {p : Int} (hp : isP p = true) {q t t2 : List Int} (hq : Row p q) (ht : Row p t) (l2 : t2.length ≤ 64) : (nx p q t t2).length ≤ 64 ↔ (q.length = 0 ∨ t.length = 0 ∨ q.length + t.length ≤ 65) := by
  have hp2 := isP_pos hp
  have hml := mul_len p q t
  have hcl := comb_len p (mul p q t) t2 1
  constructor
  · intro h
    by_cases h1 : q.length = 0
    · exact .inl h1
    by_cases h2 : t.length = 0
    · exact .inr (.inl h2)
    · have h3 := mul_len_is hp hq ht h1 h2
      rcases Nat.lt_or_ge 65 (q.length + t.length) with h4 | h4
      · have := comb_big (by omega) (mul_row (show 0 < p by omega) q t) (b := t2) (by omega)
        unfold nx at h
        omega
      · exact .inr (.inr h4)
  · rintro (h | h | h)
    · have e : q = [] := List.eq_nil_of_length_eq_zero h
      subst e
      unfold nx
      rw [mul_nil] at hcl ⊢
      simp at hcl
      omega
    · have e : t = [] := List.eq_nil_of_length_eq_zero h
      subst e
      unfold nx
      rw [mul_nil'] at hcl ⊢
      simp at hcl
      omega
    · unfold nx
      omega
theorem cvR_row {p : Int} (hp : 0 < p) : ∀ (M : List (List Int)) (t t2 b b2 : List Int), (∀ x ∈ (cvR p M t t2 b b2).1, Row p x ∧ x.length ≤ 64) ∧ (∀ x ∈ (cvR p M t t2 b b2).2.1, Row p x ∧ x.length ≤ 64) ∧ (cvR p M t t2 b b2).1.length ≤ M.length ∧ (cvR p M t t2 b b2).2.1.length = (cvR p M t t2 b b2).1.length ∧ ((cvR p M t t2 b b2).2.2 = true ↔ (cvR p M t t2 b b2).1.length = M.length)
  | [], _, _, _, _ => by simp [cvR]
  | q :: M, t, t2, b, b2 => by
    simp only [cvR]
    by_cases h : (nx p q t t2).length ≤ 64 ∧ (nx p q b b2).length ≤ 64
    · obtain ⟨h1, h2, h3, h4, h5⟩ := cvR_row hp M (nx p q t t2) t (nx p q b b2) b
      simp only [if_pos h]
      refine ⟨fun x hx => ?_, fun x hx => ?_, by simp; omega, by simp; omega, by simp [h5]⟩
      · rcases List.mem_cons.1 hx with rfl | hx
        · exact ⟨nx_row hp _ _ _, h.1⟩
        · exact h1 x hx
      · rcases List.mem_cons.1 hx with rfl | hx
        · exact ⟨nx_row hp _ _ _, h.2⟩
        · exact h2 x hx
    · simp only [if_neg h]
      refine ⟨by simp, by simp, by simp, by simp, by simp⟩
theorem fits_is {l : List Int} (hl : l.length ≤ 1000000) : impl_row_fits l = some (decide (l.length ≤ 64)) := by
  simp only [impl_row_fits, impl_row_degree, Option.bind_some]
  rw [wrap64 (by omega) (by omega)]
  congr 1
  rw [Bool.eq_iff_iff]; simp only [decide_eq_true_eq]; omega

theorem convI_loop {p : Int} (hp : isP p = true) {L : List (List Int)} (hL : ∀ q ∈ L, Row p q ∧ q.length ≤ 64) (hLl : L.length ≤ 1000) : ∀ (m i : Nat) (t t2 b b2 : List Int) (T B : List (List Int)), i + m = L.length → Row p t → Row p t2 → Row p b → Row p b2 →
    t.length ≤ 64 → t2.length ≤ 64 → b.length ≤ 64 → b2.length ≤ 64 → T.length ≤ i → B.length ≤ i →
    loopM (fun s : List Int × List Int × List Int × List Int × Int × List (List Int) × List (List Int) => impl_prime_convergents_l1 L p s.1 s.2.1 s.2.2.1 s.2.2.2.1 s.2.2.2.2.1 s.2.2.2.2.2.1 s.2.2.2.2.2.2) (t, b, t2, b2, (i : Int), T, B) =
      some (T ++ (cvR p (L.drop i) t t2 b b2).1, B ++ (cvR p (L.drop i) t t2 b b2).2.1) := by
  intro m
  induction m with
  | zero =>
    intro i t t2 b b2 T B hi _ _ _ _ _ _ _ _ _ _
    have step : impl_prime_convergents_l1 L p t b t2 b2 (i : Int) T B = some (.inr (T, B)) := by
      simp only [impl_prime_convergents_l1]
      rw [if_neg (by rw [decide_eq_true_eq]; omega)]
    rw [loopM_eq]
    simp only [step, Option.bind_some]
    rw [List.drop_eq_nil_of_le (by omega)]
    simp [cvR]
  | succ m ih =>
    intro i t t2 b b2 T B hi ht ht2 hb hb2 lt lt2 lb lb2 hT hB
    have hp2 := isP_pos hp
    have hil : i < L.length := by omega
    obtain ⟨hq, hql⟩ := hL L[i] (List.getElem_mem _)
    have er : rd L i = L[i] := by simp [rd, hil]
    have e1 := times_is (p := p) ⟨by omega, by omega⟩ (hq.ent ⟨by omega, by omega⟩) (ht.ent ⟨by omega, by omega⟩) (by omega) (by omega)
    have e2 := times_is (p := p) ⟨by omega, by omega⟩ (hq.ent ⟨by omega, by omega⟩) (hb.ent ⟨by omega, by omega⟩) (by omega) (by omega)
    have m1 := mul_len p L[i] t
    have m2 := mul_len p L[i] b
    have c1 := comb_len p (mul p L[i] t) t2 1
    have c2 := comb_len p (mul p L[i] b) b2 1
    have e3 : impl_prime_combine p (mul p L[i] t) t2 1 = some (nx p L[i] t t2) := combine_is ⟨by omega, by omega⟩ ((mul_row (by omega) _ _).ent ⟨by omega, by omega⟩) (ht2.ent ⟨by omega, by omega⟩) (by omega) (by omega) (by omega)
    have e4 : impl_prime_combine p (mul p L[i] b) b2 1 = some (nx p L[i] b b2) := combine_is ⟨by omega, by omega⟩ ((mul_row (by omega) _ _).ent ⟨by omega, by omega⟩) (hb2.ent ⟨by omega, by omega⟩) (by omega) (by omega) (by omega)
    have f1 : impl_row_fits (nx p L[i] t t2) = some (decide ((nx p L[i] t t2).length ≤ 64)) := fits_is (by unfold nx; omega)
    have f2 : impl_row_fits (nx p L[i] b b2) = some (decide ((nx p L[i] b b2).length ≤ 64)) := fits_is (by unfold nx; omega)
    have ed : L.drop i = L[i] :: L.drop (i + 1) := List.drop_eq_getElem_cons hil
    by_cases h : (nx p L[i] t t2).length ≤ 64 ∧ (nx p L[i] b b2).length ≤ 64
    · have step : impl_prime_convergents_l1 L p t b t2 b2 (i : Int) T B = some (.inl (nx p L[i] t t2, nx p L[i] b b2, t, b, ((i + 1 : Nat) : Int), T ++ [nx p L[i] t t2], B ++ [nx p L[i] b b2])) := by
        simp only [impl_prime_convergents_l1]
        rw [if_pos (decide_eq_true (by omega)), ifp_pos (by omega), Int.toNat_natCast, er, e1]
        simp only [Option.bind_some, e2, e3, e4, f1, f2, h.1, h.2, decide_true, Bool.not_true, Bool.false_eq_true, if_false]
        rw [ifp_pos (by simp; omega), ifp_pos (by simp; omega), wrap64 (by omega) (by omega)]
        rfl
      rw [loopM_eq]
      simp only [step, Option.bind_some]
      rw [ih (i + 1) _ _ _ _ _ _ (by omega) (nx_row (by omega) _ _ _) ht (nx_row (by omega) _ _ _) hb h.1 lt h.2 lb (by simp; omega) (by simp; omega), ed]
      simp only [cvR, if_pos h, List.append_assoc, List.singleton_append]
    · have step : impl_prime_convergents_l1 L p t b t2 b2 (i : Int) T B = some (.inr (T, B)) := by
        simp only [impl_prime_convergents_l1]
        rw [if_pos (decide_eq_true (by omega)), ifp_pos (by omega), Int.toNat_natCast, er, e1]
        simp only [Option.bind_some, e2, e3, e4, f1, f2]
        by_cases h1 : (nx p L[i] t t2).length ≤ 64
        · have h2 : ¬ (nx p L[i] b b2).length ≤ 64 := fun h2 => h ⟨h1, h2⟩
          simp [h1, h2]
        · simp [h1]
      rw [loopM_eq]
      simp only [step, Option.bind_some, ed, cvR, if_neg h, List.append_nil]
theorem convI_is {p : Int} (hp : isP p = true) {L : List (List Int)} (hL : ∀ q ∈ L, Row p q ∧ q.length ≤ 64) (hLl : L.length ≤ 1000) : impl_prime_convergents p L = some ((cvR p L [1] [] [] [1]).1, (cvR p L [1] [] [] [1]).2.1) := by
  have hp2 := isP_pos hp
  have h1 := row_one (p := p) (by omega)
  have h := convI_loop hp hL hLl L.length 0 [1] [] [] [1] [] [] (by omega) h1 (row_nil _) (row_nil _) h1 (by simp) (by simp) (by simp) (by simp) (by simp) (by simp)
  have h' : loopM (fun s : List Int × List Int × List Int × List Int × Int × List (List Int) × List (List Int) => impl_prime_convergents_l1 L p s.1 s.2.1 s.2.2.1 s.2.2.2.1 s.2.2.2.2.1 s.2.2.2.2.2.1 s.2.2.2.2.2.2) ([1], [], [], [1], 0, [], []) = _ := h
  simp only [impl_prime_convergents, h', Option.bind_some, List.drop_zero, List.nil_append]

theorem convS_loop {p : Int} (hp : isP p = true) {L : List (List Int)} (hL : ∀ q ∈ L, Row p q ∧ q.length ≤ 64) (hLl : L.length ≤ 1000) : ∀ (m i : Nat) (t t2 b b2 : List Int) (T B : List V64), i + m = L.length → Row p t → Row p t2 → Row p b → Row p b2 →
    t.length ≤ 64 → t2.length ≤ 64 → b.length ≤ 64 → b2.length ≤ 64 → T.length ≤ i → B.length ≤ i →
    loopM (fun s : Int × List V64 × List V64 × V64 × V64 × V64 × V64 => spec_l10Convergents_l1 (L.map pad) p s.1 s.2.1 s.2.2.1 s.2.2.2.1 s.2.2.2.2.1 s.2.2.2.2.2.1 s.2.2.2.2.2.2) ((i : Int), T, B, pad t, pad t2, pad b, pad b2) =
      some (if (cvR p (L.drop i) t t2 b b2).2.2 then .inl (T ++ (cvR p (L.drop i) t t2 b b2).1.map pad, B ++ (cvR p (L.drop i) t t2 b b2).2.1.map pad) else .inr ([], [], false)) := by
  intro m
  induction m with
  | zero =>
    intro i t t2 b b2 T B hi _ _ _ _ _ _ _ _ _ _
    have step : spec_l10Convergents_l1 (L.map pad) p (i : Int) T B (pad t) (pad t2) (pad b) (pad b2) = some (.inr (.inl (T, B))) := by
      simp only [spec_l10Convergents_l1, List.length_map]
      rw [if_neg (by rw [decide_eq_true_eq]; omega)]
    rw [loopM_eq]
    simp only [step, Option.bind_some]
    rw [List.drop_eq_nil_of_le (by omega)]
    simp [cvR]
  | succ m ih =>
    intro i t t2 b b2 T B hi ht ht2 hb hb2 lt lt2 lb lb2 hT hB
    have hp2 := isP_pos hp
    have hil : i < L.length := by omega
    obtain ⟨hq, hql⟩ := hL L[i] (List.getElem_mem _)
    have er : rd (L.map pad) i = pad L[i] := by simp [rd, hil]
    have ed : L.drop i = L[i] :: L.drop (i + 1) := List.drop_eq_getElem_cons hil
    have F1 := nx_fits hp hq ht lt2
    have F2 := nx_fits hp hq hb lb2
    have tms : ∀ x : List Int, Row p x → x.length ≤ 64 → ∃ v, spec_l01Times p (pad L[i]) (pad x) = some (v, decide (L[i].length = 0 ∨ x.length = 0 ∨ L[i].length + x.length ≤ 65)) ∧ ((L[i].length = 0 ∨ x.length = 0 ∨ L[i].length + x.length ≤ 65) → v = pad (mul p L[i] x)) := by
      intro x hx lx
      by_cases h : L[i].length = 0 ∨ x.length = 0 ∨ L[i].length + x.length ≤ 65
      · exact ⟨_, by rw [times_pad ⟨by omega, by omega⟩ hq hx hql lx h, decide_eq_true h], fun _ => rfl⟩
      · refine ⟨vrep 64 0, ?_, fun h' => absurd h' h⟩
        rw [times_pad_no hq hx hql lx (fun e => h (.inl e)) (fun e => h (.inr (.inl e))) (by
          rcases Nat.lt_or_ge 65 (L[i].length + x.length) with h1 | h1
          · exact h1
          · exact absurd (.inr (.inr h1)) h), decide_eq_false h]
    obtain ⟨v1, g1, g2⟩ := tms t ht lt
    obtain ⟨v2, g3, g4⟩ := tms b hb lb
    by_cases h : (nx p L[i] t t2).length ≤ 64 ∧ (nx p L[i] b b2).length ≤ 64
    · have h1 := F1.1 h.1
      have h2 := F2.1 h.2
      rw [g2 h1, decide_eq_true h1] at g1
      rw [g4 h2, decide_eq_true h2] at g3
      have m1 := mul_len p L[i] t
      have m2 := mul_len p L[i] b
      have ml1 : (mul p L[i] t).length ≤ 64 := by
        rcases h1 with h1 | h1 | h1
        · have e : L[i] = [] := List.eq_nil_of_length_eq_zero h1
          rw [e, mul_nil]; simp
        · have e : t = [] := List.eq_nil_of_length_eq_zero h1
          rw [e, mul_nil']; simp
        · omega
      have ml2 : (mul p L[i] b).length ≤ 64 := by
        rcases h2 with h2 | h2 | h2
        · have e : L[i] = [] := List.eq_nil_of_length_eq_zero h2
          rw [e, mul_nil]; simp
        · have e : b = [] := List.eq_nil_of_length_eq_zero h2
          rw [e, mul_nil']; simp
        · omega
      have a1 : spec_l01Add p (pad (mul p L[i] t)) (pad t2) 1 = some (pad (nx p L[i] t t2)) := add_pad ⟨by omega, by omega⟩ (mul_row (by omega) _ _) ht2 ml1 lt2 (by omega)
      have a2 : spec_l01Add p (pad (mul p L[i] b)) (pad b2) 1 = some (pad (nx p L[i] b b2)) := add_pad ⟨by omega, by omega⟩ (mul_row (by omega) _ _) hb2 ml2 lb2 (by omega)
      have step : spec_l10Convergents_l1 (L.map pad) p (i : Int) T B (pad t) (pad t2) (pad b) (pad b2) = some (.inl (((i + 1 : Nat) : Int), T ++ [pad (nx p L[i] t t2)], B ++ [pad (nx p L[i] b b2)], pad (nx p L[i] t t2), pad t, pad (nx p L[i] b b2), pad b)) := by
        simp only [spec_l10Convergents_l1, List.length_map]
        rw [if_pos (decide_eq_true (by omega)), ifp_pos (by omega), Int.toNat_natCast, er, g1]
        simp only [Option.bind_some]
        rw [ifp_pos (by omega), g3]
        simp only [Option.bind_some, Bool.not_true, Bool.false_eq_true, if_false, a1, a2]
        rw [ifp_pos (by simp; omega), ifp_pos (by simp; omega), wrap64 (by omega) (by omega)]
        rfl
      rw [loopM_eq]
      simp only [step, Option.bind_some]
      rw [ih (i + 1) _ _ _ _ _ _ (by omega) (nx_row (by omega) _ _ _) ht (nx_row (by omega) _ _ _) hb h.1 lt h.2 lb (by simp; omega) (by simp; omega), ed]
      simp only [cvR, if_pos h, List.append_assoc, List.singleton_append, List.map_cons]
    · have step : spec_l10Convergents_l1 (L.map pad) p (i : Int) T B (pad t) (pad t2) (pad b) (pad b2) = some (.inr (.inr ([], [], false))) := by
        simp only [spec_l10Convergents_l1, List.length_map]
        rw [if_pos (decide_eq_true (by omega)), ifp_pos (by omega), Int.toNat_natCast, er, g1]
        simp only [Option.bind_some]
        rw [ifp_pos (by omega), g3]
        simp only [Option.bind_some]
        by_cases h1 : (nx p L[i] t t2).length ≤ 64
        · have h2 : ¬ (nx p L[i] b b2).length ≤ 64 := fun h2 => h ⟨h1, h2⟩
          rw [decide_eq_true (F1.1 h1), decide_eq_false fun h3 => h2 (F2.2 h3)]
          rfl
        · rw [decide_eq_false fun h3 => h1 (F1.2 h3)]
          rfl
      rw [loopM_eq]
      simp only [step, Option.bind_some, ed, cvR, if_neg h, Bool.false_eq_true, if_false]
theorem convS_is {p : Int} (hp : isP p = true) {L : List (List Int)} (hL : ∀ q ∈ L, Row p q ∧ q.length ≤ 64) (hLl : L.length ≤ 1000) : spec_l10Convergents p (L.map pad) = some (if (cvR p L [1] [] [] [1]).2.2 then ((cvR p L [1] [] [] [1]).1.map pad, (cvR p L [1] [] [] [1]).2.1.map pad, true) else ([], [], false)) := by
  have hp2 := isP_pos hp
  have h1 := row_one (p := p) (by omega)
  have h := convS_loop hp hL hLl L.length 0 [1] [] [] [1] [] [] (by omega) h1 (row_nil _) (row_nil _) h1 (by simp) (by simp) (by simp) (by simp) (by simp) (by simp)
  rw [pad_nil] at h
  have h' : loopM (fun s : Int × List V64 × List V64 × V64 × V64 × V64 × V64 => spec_l10Convergents_l1 (L.map pad) p s.1 s.2.1 s.2.2.1 s.2.2.2.1 s.2.2.2.2.1 s.2.2.2.2.2.1 s.2.2.2.2.2.2) (0, [], [], pad [1], vrep 64 0, vrep 64 0, pad [1]) = _ := h
  simp only [spec_l10Convergents, one_is, Option.bind_some, h', List.drop_zero, List.nil_append]
  by_cases hb : (cvR p L [1] [] [] [1]).2.2 = true
  · simp only [if_pos hb]
  · simp only [if_neg hb]
end Go.Proofs.Ytdhcpekngpndnaa
/- Which arrays are polynomials, in the reference. -/
namespace Go.Proofs.Ytdhcpekngpndnaa
open Go.Abs

/-- All coefficients lie below p. -/
def Small (p : Int) (a : V64) : Prop := ∀ j, j < 64 → rd a.1 j < p
open Classical in
noncomputable def small (p : Int) (a : V64) : Bool := decide (Small p a)

theorem is_loop {p : Int} {a : V64} (hb : IsB a) : ∀ s : Int, (∃ i : Nat, s = i ∧ i ≤ 64 ∧ ∀ j, j < i → rd a.1 j < p) → ∃ r, loopM (fun s : Int => spec_l01Is_l1 a p s) s = some r ∧ ((r = .inl () ∧ Small p a) ∨ (r = .inr false ∧ ¬ Small p a)) := by
  refine loopM_ind (fun (s : Int) => ∃ i : Nat, s = i ∧ i ≤ 64 ∧ ∀ j, j < i → rd a.1 j < p) (fun (s : Int) (r : Unit ⊕ Bool) => (r = .inl () ∧ Small p a) ∨ (r = .inr false ∧ ¬ Small p a)) (fun s => 64 - s.toNat) ?_
  rintro s ⟨i, rfl, hi, hlt⟩
  by_cases h : i = 64
  · right
    subst h
    exact ⟨.inl (), by simp [spec_l01Is_l1], .inl ⟨rfl, hlt⟩⟩
  · have hbi := hb.rd (show i < 64 by omega)
    by_cases e : rd a.1 i < p
    · left
      refine ⟨((i + 1 : Nat) : Int), ?_, ⟨i + 1, rfl, by omega, fun j hj => ?_⟩, by simp; omega, fun r hr => hr⟩
      · simp only [spec_l01Is_l1]
        rw [if_pos (by simp; omega), ifp_pos (by omega), Int.toNat_natCast, wrap64 (by omega) (by omega), if_neg (by simp; omega), wrap64 (by omega) (by omega)]
        rfl
      · by_cases hj' : j = i
        · rw [hj']; exact e
        · exact hlt j (by omega)
    · right
      refine ⟨.inr false, ?_, .inr ⟨rfl, fun hs => e (hs i (by omega))⟩⟩
      simp only [spec_l01Is_l1]
      rw [if_pos (by simp; omega), ifp_pos (by omega), Int.toNat_natCast, wrap64 (by omega) (by omega), if_pos (by simp; omega)]
theorem is_is {p : Int} {a : V64} (hb : IsB a) : spec_l01Is p a = some (small p a && isP p) := by
  obtain ⟨r, h1, h2⟩ := is_loop (p := p) hb 0 ⟨0, rfl, by omega, fun j hj => by omega⟩
  rcases h2 with ⟨rfl, h⟩ | ⟨rfl, h⟩ <;> simp [spec_l01Is, h1, small, h, isPrime_spec]

theorem code_loop {p : Int} {l : List V64} (hb : ∀ a ∈ l, IsB a) (hl : l.length ≤ 2000000) (hp : isP p = true) : ∀ s : Int, (∃ i : Nat, s = i ∧ i ≤ l.length ∧ ∀ a ∈ l.take i, small p a = true) → ∃ r, loopM (fun s : Int => spec_l01Code_l1 l p s) s = some r ∧ ((r = .inl () ∧ l.all (small p) = true) ∨ (r = .inr 1 ∧ l.all (small p) = false)) := by
  refine loopM_ind (fun (s : Int) => ∃ i : Nat, s = i ∧ i ≤ l.length ∧ ∀ a ∈ l.take i, small p a = true) (fun (s : Int) (r : Unit ⊕ Int) => (r = .inl () ∧ l.all (small p) = true) ∨ (r = .inr 1 ∧ l.all (small p) = false)) (fun s => l.length - s.toNat) ?_
  rintro s ⟨i, rfl, hi, hlt⟩
  by_cases h : i = l.length
  · right
    subst h
    exact ⟨.inl (), by simp [spec_l01Code_l1], .inl ⟨rfl, by rw [List.take_length] at hlt; simpa using hlt⟩⟩
  · have hil : i < l.length := by omega
    have er : rd l i = l[i] := by simp [rd, hil]
    have hbi := is_is (p := p) (hb l[i] (List.getElem_mem _))
    rw [hp, Bool.and_true] at hbi
    cases e : small p l[i] with
    | true =>
      left
      refine ⟨((i + 1 : Nat) : Int), ?_, ⟨i + 1, rfl, by omega, fun a ha => ?_⟩, by simp; omega, fun r hr => hr⟩
      · simp only [spec_l01Code_l1]
        rw [if_pos (by simp; omega), ifp_pos (by omega), Int.toNat_natCast, er, hbi, e]
        simp only [Option.bind_some, Bool.not_true, Bool.false_eq_true, if_false]
        rw [wrap64 (by omega) (by omega)]; rfl
      · rw [List.take_succ_eq_append_getElem hil] at ha
        rcases List.mem_append.1 ha with ha | ha
        · exact hlt a ha
        · have : a = l[i] := by simpa using ha
          rw [this]; exact e
    | false =>
      right
      refine ⟨.inr 1, ?_, .inr ⟨rfl, ?_⟩⟩
      · simp only [spec_l01Code_l1]
        rw [if_pos (by simp; omega), ifp_pos (by omega), Int.toNat_natCast, er, hbi, e]
        rfl
      · rw [List.all_eq_false]
        exact ⟨l[i], List.getElem_mem _, by simp [e]⟩
theorem code_is {p : Int} {l : List V64} (hb : ∀ a ∈ l, IsB a) (hl : l.length ≤ 2000000) : spec_l01Code p l = some (if isP p && l.all (small p) then 0 else 1) := by
  unfold spec_l01Code
  rw [isPrime_spec]
  cases hp : isP p with
  | false => simp
  | true =>
    obtain ⟨r, h1, h2⟩ := code_loop hb hl hp 0 ⟨0, rfl, by omega, by simp⟩
    simp only [Option.bind_some, Bool.not_true, Bool.false_eq_true, if_false, h1, Bool.true_and]
    rcases h2 with ⟨rfl, h⟩ | ⟨rfl, h⟩ <;> simp [h]

theorem res_of_small {p : Int} {a : V64} (hb : IsB a) (h : small p a = true) : Res p a := fun j hj => by
  have h1 : Small p a := by simpa [small] using h
  exact ⟨(hb.rd hj).1, h1 j hj⟩
end Go.Proofs.Ytdhcpekngpndnaa
/- Which arrays are polynomials, in the program. -/
namespace Go.Proofs.Ytdhcpekngpndnaa
open Go.Abs

theorem index_loop {p : Int} {a : V64} (hb : IsB a) : ∀ s : Int, (∃ i : Nat, s = i ∧ i ≤ 64 ∧ ∀ j, j < i → rd a.1 j < p) → ∃ r, loopM (fun s : Int => slices_IndexFunc_byte_byte_of_impl_areAll_byte__c1_p_l1 a.1 p s) s = some r ∧ ((r = .inl () ∧ Small p a) ∨ (∃ i : Nat, r = .inr (i : Int) ∧ ¬ Small p a)) := by
  refine loopM_ind (fun (s : Int) => ∃ i : Nat, s = i ∧ i ≤ 64 ∧ ∀ j, j < i → rd a.1 j < p) (fun (s : Int) (r : Unit ⊕ Int) => (r = .inl () ∧ Small p a) ∨ (∃ i : Nat, r = .inr (i : Int) ∧ ¬ Small p a)) (fun s => 64 - s.toNat) ?_
  rintro s ⟨i, rfl, hi, hlt⟩
  have h64 := a.2
  by_cases h : i = 64
  · right
    subst h
    exact ⟨.inl (), by simp [slices_IndexFunc_byte_byte_of_impl_areAll_byte__c1_p_l1, h64], .inl ⟨rfl, hlt⟩⟩
  · have hbi := hb.rd (show i < 64 by omega)
    have e1 : impl_areAll_byte__c1_of_p (rd a.1 i) p = some (!decide (rd a.1 i < p)) := by
      simp only [impl_areAll_byte__c1_of_p, impl_isPoly_c1_of_p, Option.bind_some]
      rw [wrap64 (by omega) (by omega)]
    by_cases e : rd a.1 i < p
    · left
      refine ⟨((i + 1 : Nat) : Int), ?_, ⟨i + 1, rfl, by omega, fun j hj => ?_⟩, by simp; omega, fun r hr => hr⟩
      · simp only [slices_IndexFunc_byte_byte_of_impl_areAll_byte__c1_p_l1, h64]
        rw [if_pos (by simp; omega), ifp_pos (by omega), Int.toNat_natCast, e1, wrap64 (by omega) (by omega)]
        simp [e]
      · by_cases hj' : j = i
        · rw [hj']; exact e
        · exact hlt j (by omega)
    · right
      refine ⟨.inr (i : Int), ?_, .inr ⟨i, rfl, fun hs => e (hs i (by omega))⟩⟩
      simp only [slices_IndexFunc_byte_byte_of_impl_areAll_byte__c1_p_l1, h64]
      rw [if_pos (by simp; omega), ifp_pos (by omega), Int.toNat_natCast, e1]
      simp [e]
theorem isPoly_is {p : Int} {a : V64} (hb : IsB a) : impl_isPoly p a = some (small p a) := by
  obtain ⟨r, h1, h2⟩ := index_loop (p := p) hb 0 ⟨0, rfl, by omega, fun j hj => by omega⟩
  simp only [impl_isPoly, impl_areAll_byte_of_impl_isPoly_c1_p, slices_ContainsFunc_byte_byte_of_impl_areAll_byte__c1_p, slices_IndexFunc_byte_byte_of_impl_areAll_byte__c1_p, h1, Option.bind_some]
  rcases h2 with ⟨rfl, h⟩ | ⟨i, rfl, h⟩ <;> simp [small, h]
end Go.Proofs.Ytdhcpekngpndnaa
/- The code for polynomials, in the program. -/
namespace Go.Proofs.Ytdhcpekngpndnaa
open Go.Abs

theorem indexP_loop {p : Int} {l : List V64} (hb : ∀ a ∈ l, IsB a) (hl : l.length ≤ 2000000) : ∀ s : Int, (∃ i : Nat, s = i ∧ i ≤ l.length ∧ ∀ a ∈ l.take i, small p a = true) → ∃ r, loopM (fun s : Int => slices_IndexFunc_impl_Poly_impl_Poly_of_impl_areAll_impl_Poly__c1_p_l1 l p s) s = some r ∧ ((r = .inl () ∧ l.all (small p) = true) ∨ (∃ i : Nat, r = .inr (i : Int) ∧ l.all (small p) = false)) := by
  refine loopM_ind (fun (s : Int) => ∃ i : Nat, s = i ∧ i ≤ l.length ∧ ∀ a ∈ l.take i, small p a = true) (fun (s : Int) (r : Unit ⊕ Int) => (r = .inl () ∧ l.all (small p) = true) ∨ (∃ i : Nat, r = .inr (i : Int) ∧ l.all (small p) = false)) (fun s => l.length - s.toNat) ?_
  rintro s ⟨i, rfl, hi, hlt⟩
  by_cases h : i = l.length
  · right
    subst h
    exact ⟨.inl (), by simp [slices_IndexFunc_impl_Poly_impl_Poly_of_impl_areAll_impl_Poly__c1_p_l1], .inl ⟨rfl, by rw [List.take_length] at hlt; simpa using hlt⟩⟩
  · have hil : i < l.length := by omega
    have er : rd l i = l[i] := by simp [rd, hil]
    have hbi := isPoly_is (p := p) (hb l[i] (List.getElem_mem _))
    have e1 : impl_areAll_impl_Poly__c1_of_p (rd l i) p = some (!small p l[i]) := by
      simp only [impl_areAll_impl_Poly__c1_of_p, impl_polysCode_c1_of_p, er, hbi, Option.bind_some]
    cases e : small p l[i] with
    | true =>
      left
      refine ⟨((i + 1 : Nat) : Int), ?_, ⟨i + 1, rfl, by omega, fun a ha => ?_⟩, by simp; omega, fun r hr => hr⟩
      · simp only [slices_IndexFunc_impl_Poly_impl_Poly_of_impl_areAll_impl_Poly__c1_p_l1]
        rw [if_pos (decide_eq_true (by omega)), ifp_pos (by omega), Int.toNat_natCast, e1, e]
        simp only [Option.bind_some, Bool.not_true, Bool.false_eq_true, if_false]
        rw [wrap64 (by omega) (by omega)]; rfl
      · rw [List.take_succ_eq_append_getElem hil] at ha
        rcases List.mem_append.1 ha with ha | ha
        · exact hlt a ha
        · have : a = l[i] := by simpa using ha
          rw [this]; exact e
    | false =>
      right
      refine ⟨.inr (i : Int), ?_, .inr ⟨i, rfl, ?_⟩⟩
      · simp only [slices_IndexFunc_impl_Poly_impl_Poly_of_impl_areAll_impl_Poly__c1_p_l1]
        rw [if_pos (decide_eq_true (by omega)), ifp_pos (by omega), Int.toNat_natCast, e1, e]
        rfl
      · rw [List.all_eq_false]
        exact ⟨l[i], List.getElem_mem _, by simp [e]⟩
theorem polysCode_is {p : Int} {l : List V64} (hb : ∀ a ∈ l, IsB a) (hl : l.length ≤ 2000000) : impl_polysCode p l = some (if isP p && l.all (small p) then 0 else 1) := by
  obtain ⟨r, h1, h2⟩ := indexP_loop (p := p) hb hl 0 ⟨0, rfl, by omega, by simp⟩
  have e : impl_areAll_impl_Poly_of_impl_polysCode_c1_p l p = some (l.all (small p)) := by
    simp only [impl_areAll_impl_Poly_of_impl_polysCode_c1_p, slices_ContainsFunc_impl_Poly_impl_Poly_of_impl_areAll_impl_Poly__c1_p, slices_IndexFunc_impl_Poly_impl_Poly_of_impl_areAll_impl_Poly__c1_p, h1, Option.bind_some]
    rcases h2 with ⟨rfl, h⟩ | ⟨i, rfl, h⟩ <;> simp [h]
  simp only [impl_polysCode, isPrime_impl, e, Option.bind_some]
  cases isP p <;> cases l.all (small p) <;> simp
end Go.Proofs.Ytdhcpekngpndnaa
/- A row as an array. -/
namespace Go.Proofs.Ytdhcpekngpndnaa
open Go.Abs

theorem poly_loop {l : List Int} (hb : Bytes l) (hl : l.length ≤ 64) : ∀ s : Int × V64, (∃ i : Nat, s.1 = i ∧ i ≤ l.length ∧ s.2 = pad (l.take i)) → ∃ r, loopM (fun s : Int × V64 => impl_row_poly_l1 l s.1 s.2) s = some r ∧ r = pad l := by
  refine loopM_ind (fun (s : Int × V64) => ∃ i : Nat, s.1 = i ∧ i ≤ l.length ∧ s.2 = pad (l.take i)) (fun (s : Int × V64) r => r = pad l) (fun (s : Int × V64) => 64 - s.1.toNat) ?_
  rintro ⟨x, v⟩ ⟨i, hx, hi, hv⟩
  simp only at hx hv
  subst hx hv
  by_cases h : i = l.length
  · right
    subst h
    exact ⟨pad l, by simp [impl_row_poly_l1], rfl⟩
  · left
    have hil : i < l.length := by omega
    have er : rd l i = l[i] := by simp [rd, hil]
    have hbi := hb l[i] (List.getElem_mem _)
    refine ⟨(((i + 1 : Nat) : Int), pad (l.take (i + 1))), ?_, ⟨i + 1, rfl, by omega, rfl⟩, by simp; omega, fun r hr => hr⟩
    simp only [impl_row_poly_l1]
    rw [if_pos (by simp; omega), ifp_pos (by omega), ifp_pos (by omega)]
    simp only [Int.toNat_natCast, er]
    rw [wrap64 (by omega) (by omega), wrap8 hbi.1 hbi.2]
    have := pad_set (l.take i) l[i] (by simp; omega)
    rw [List.length_take, Nat.min_eq_left (by omega)] at this
    rw [this, List.take_succ_eq_append_getElem hil]
    simp

theorem poly_is {l : List Int} (hb : Bytes l) (hl : l.length ≤ 64) : impl_row_poly l = some (pad l) := by
  obtain ⟨r, h1, h2⟩ := poly_loop hb hl (0, pad []) ⟨0, rfl, by omega, by simp⟩
  simp only [impl_row_poly, ← pad_nil, h1, h2, Option.bind_some]
end Go.Proofs.Ytdhcpekngpndnaa
/- Polynomials from rows, told. -/
namespace Go.Proofs.Ytdhcpekngpndnaa
open Go.Abs
theorem told_is {l : List Int} (hb : Bytes l) (hl : l.length ≤ 64) : impl_told l = some (pad l, 0) := by
  simp only [impl_told, impl_row_fits, impl_row_degree, Option.bind_some, poly_is hb hl]
  rw [wrap64 (by omega) (by omega)]
  simp
  omega
end Go.Proofs.Ytdhcpekngpndnaa
/- Rows as arrays, a list of them. -/
namespace Go.Proofs.Ytdhcpekngpndnaa
open Go.Abs
theorem polys_is {M : List (List Int)} (hM : M.length ≤ 1000000) (hb : ∀ l ∈ M, Bytes l ∧ l.length ≤ 64) : impl_polys M = some (M.map pad) := by
  obtain ⟨s, g1, g2⟩ := loopM_for (body := fun s : Int × List V64 => impl_polys_l1 M s.1 s.2) (fun i s => ((i : Int), s)) (fun s => s) M.length
    (fun i s => s = (M.take i).map pad) (fun i s hi hI => by
      subst hI
      have er : rd M i = M[i] := by simp [rd, hi]
      obtain ⟨h1, h2⟩ := hb M[i] (List.getElem_mem _)
      refine ⟨_, ?_, rfl⟩
      simp only [impl_polys_l1]
      rw [if_pos (decide_eq_true (by omega)), ifp_pos (by omega), Int.toNat_natCast, er, poly_is h1 h2]
      simp only [Option.bind_some]
      rw [ifp_pos (by simp; omega), wrap64 (by omega) (by omega), List.take_succ_eq_append_getElem hi, List.map_append]
      rfl) (fun s hI => by
      simp only [impl_polys_l1]
      rw [if_neg (by rw [decide_eq_true_eq]; omega)]) M.length 0 [] (by omega) rfl
  have g1' : loopM (fun s : Int × List V64 => impl_polys_l1 M s.1 s.2) (0, []) = some s := g1
  simp only [impl_polys, g1', g2, Option.bind_some, List.take_length]
theorem polys_fresh : impl_polys_fresh = impl_polys := rfl
end Go.Proofs.Ytdhcpekngpndnaa
/- Comparing polynomials. -/
namespace Go.Proofs.Ytdhcpekngpndnaa
open Go.Abs

theorem eqPoly_loop (a b : V64) : ∀ s : Int, (∃ i : Nat, s = i ∧ i ≤ 64) → ∃ r, loopM (fun s : Int => laws_eqPoly_l1 a b s) s = some r ∧ ∀ i : Nat, s = i → (r = .inl () ∧ ∀ j, i ≤ j → j < 64 → rd a.1 j = rd b.1 j) ∨ (r = .inr false ∧ ∃ j, j < 64 ∧ rd a.1 j ≠ rd b.1 j) := by
  refine loopM_ind (fun (s : Int) => ∃ i : Nat, s = i ∧ i ≤ 64) (fun (s : Int) (r : Unit ⊕ Bool) => ∀ i : Nat, s = i → (r = .inl () ∧ ∀ j, i ≤ j → j < 64 → rd a.1 j = rd b.1 j) ∨ (r = .inr false ∧ ∃ j, j < 64 ∧ rd a.1 j ≠ rd b.1 j)) (fun s => 64 - s.toNat) ?_
  rintro s ⟨i, rfl, hi⟩
  by_cases h : i = 64
  · subst h
    right
    refine ⟨.inl (), by simp [laws_eqPoly_l1], fun k hk => .inl ⟨rfl, fun j h1 h2 => by omega⟩⟩
  · by_cases e : rd a.1 i = rd b.1 i
    · left
      refine ⟨((i + 1 : Nat) : Int), ?_, ⟨i + 1, rfl, by omega⟩, by simp; omega, fun r hr k hk => ?_⟩
      · simp only [laws_eqPoly_l1]
        rw [if_pos (by simp; omega), ifp_pos (by omega), ifp_pos (by omega)]
        simp only [Int.toNat_natCast, e, bne_self_eq_false, Bool.false_eq_true, if_false]
        rw [wrap64 (by omega) (by omega)]; rfl
      · have hki : k = i := by omega
        subst hki
        rcases hr (k + 1) rfl with ⟨h1, h2⟩ | h1
        · refine .inl ⟨h1, fun j h3 h4 => ?_⟩
          by_cases hj : j = k
          · subst hj; exact e
          · exact h2 j (by omega) h4
        · exact .inr h1
    · right
      refine ⟨.inr false, ?_, fun k hk => .inr ⟨rfl, i, by omega, e⟩⟩
      simp only [laws_eqPoly_l1]
      rw [if_pos (by simp; omega), ifp_pos (by omega), ifp_pos (by omega)]
      simp [e]

theorem eqPoly_is (a b : V64) : laws_eqPoly a b = some (decide (a = b)) := by
  obtain ⟨r, h1, h2⟩ := eqPoly_loop a b 0 ⟨0, rfl, by omega⟩
  unfold laws_eqPoly
  rcases h2 0 rfl with ⟨rfl, h⟩ | ⟨rfl, j, h3, h4⟩
  · have : a = b := vec_ext fun j hj => h j (by omega) hj
    rw [h1]; simp [this]
  · have : a ≠ b := fun e => h4 (by rw [e])
    rw [h1]; simp [this]
end Go.Proofs.Ytdhcpekngpndnaa
/- Lists of polynomials: comparing, marking, and whether the marks are held. -/
namespace Go.Proofs.Ytdhcpekngpndnaa
open Go.Abs

theorem eqPolyS_is {a b : List V64} (ha : a.length ≤ 2000000) (hb : b.length ≤ 2000000) : laws_eqPolyS a b = some (decide (a = b)) := by
  unfold laws_eqPolyS
  by_cases hl : a.length = b.length
  · rw [if_neg (by rw [bne_iff_ne]; simp; omega)]
    have key : ∀ s : Int, (∃ i : Nat, s = i ∧ i ≤ a.length ∧ ∀ j, j < i → rd a j = rd b j) → ∃ r, loopM (fun s : Int => laws_eqPolyS_l1 a b s) s = some r ∧ ((r = .inl () ∧ a = b) ∨ (r = .inr false ∧ a ≠ b)) := by
      refine loopM_ind (fun (s : Int) => ∃ i : Nat, s = i ∧ i ≤ a.length ∧ ∀ j, j < i → rd a j = rd b j) (fun (s : Int) (r : Unit ⊕ Bool) => (r = .inl () ∧ a = b) ∨ (r = .inr false ∧ a ≠ b)) (fun s => a.length - s.toNat) ?_
      rintro s ⟨i, rfl, hi, hlt⟩
      by_cases h : i = a.length
      · right
        subst h
        refine ⟨.inl (), by simp [laws_eqPolyS_l1], .inl ⟨rfl, ?_⟩⟩
        apply List.ext_getElem hl
        intro j h1 h2
        have := hlt j h1
        simpa [rd, h1, h2] using this
      · by_cases e : rd a i = rd b i
        · left
          refine ⟨((i + 1 : Nat) : Int), ?_, ⟨i + 1, rfl, by omega, fun j hj => ?_⟩, by simp; omega, fun r hr => hr⟩
          · simp only [laws_eqPolyS_l1]
            rw [if_pos (decide_eq_true (by omega)), ifp_pos (by omega), ifp_pos (by omega), Int.toNat_natCast, eqPoly_is, e]
            simp only [decide_true, Option.bind_some, Bool.not_true, Bool.false_eq_true, if_false]
            rw [wrap64 (by omega) (by omega)]; rfl
          · by_cases hj' : j = i
            · rw [hj']; exact e
            · exact hlt j (by omega)
        · right
          refine ⟨.inr false, ?_, .inr ⟨rfl, fun h => e (by rw [h])⟩⟩
          simp only [laws_eqPolyS_l1]
          rw [if_pos (decide_eq_true (by omega)), ifp_pos (by omega), ifp_pos (by omega), Int.toNat_natCast, eqPoly_is, decide_eq_false e]
          rfl
    obtain ⟨r, h1, h2⟩ := key 0 ⟨0, rfl, by omega, fun j hj => by omega⟩
    rw [h1]
    rcases h2 with ⟨rfl, h⟩ | ⟨rfl, h⟩ <;> simp [h]
  · rw [if_pos (by rw [bne_iff_ne]; simp; omega)]
    have : a ≠ b := fun h => hl (by rw [h])
    simp [this]

/-- The marks from k on. -/
def MarkedP (k : Nat) (m : List V64) : Prop := ∀ i, i < m.length → ∀ j, j < 64 → rd (rd m i).1 j = IntKind.u8.wrap ((k + 64 * i + j : Nat) : Int)
theorem rd_lset {α : Type} [Inhabited α] (l : List α) (k : Nat) (d : α) (i : Nat) (hk : k < l.length) : rd (l.set k d) i = if i = k then d else rd l i := by
  by_cases h : i = k
  · subst h; simp [rd, hk]
  · rw [if_neg h]; simp [rd, Ne.symm h]
theorem markP_is {l : List V64} {k : Nat} (hl : l.length ≤ 2000000) (hk : k ≤ 1000000000) : ∃ m, laws_markPolyS_of_mut l k = some (((k + 64 * l.length : Nat) : Int), m) ∧ m.length = l.length ∧ MarkedP k m := by
  have inner : ∀ (i : Nat) (u : List V64), i < u.length → u.length = l.length → ∃ u', loopM (fun s : Int × Int × List V64 => laws_markPolyS_of_mut_l2 (i : Int) s.1 s.2.1 s.2.2) (((k + 64 * i : Nat) : Int), 0, u) = some (((k + 64 * (i + 1) : Nat) : Int), u') ∧
      u'.length = u.length ∧ (∀ j, j < 64 → rd (rd u' i).1 j = IntKind.u8.wrap ((k + 64 * i + j : Nat) : Int)) ∧ ∀ i', i' ≠ i → rd u' i' = rd u i' := by
    intro i u hi hul
    obtain ⟨u', h1, h2, h3, h4⟩ := loopM_for (body := fun s : Int × Int × List V64 => laws_markPolyS_of_mut_l2 (i : Int) s.1 s.2.1 s.2.2) (fun j u => (((k + 64 * i + j : Nat) : Int), (j : Int), u)) (fun u => (((k + 64 * (i + 1) : Nat) : Int), u)) 64
      (fun j v => v.length = u.length ∧ (∀ j', j' < j → rd (rd v i).1 j' = IntKind.u8.wrap ((k + 64 * i + j' : Nat) : Int)) ∧ ∀ i', i' ≠ i → rd v i' = rd u i') (fun j v hj hI => by
        obtain ⟨h2, h3, h4⟩ := hI
        refine ⟨v.set i (vset (rd v i) j (IntKind.u8.wrap ((k + 64 * i + j : Nat) : Int))), ?_, by simpa using h2, fun j' hj' => ?_, fun i' hi' => ?_⟩
        · simp only [laws_markPolyS_of_mut_l2]
          rw [if_pos (decide_eq_true (by omega)), ifp_pos (by omega), ifp_pos (by omega), wrap64 (by omega) (by omega), wrap64 (by omega) (by omega)]
          rfl
        · rw [rd_lset _ _ _ _ (by omega), if_pos rfl, rd_vset _ _ _ _ (by omega)]
          by_cases e : j' = j
          · subst e; rw [if_pos rfl]
          · rw [if_neg e]; exact h3 j' (by omega)
        · rw [rd_lset _ _ _ _ (by omega), if_neg hi']; exact h4 i' hi') (fun v hI => by
        simp only [laws_markPolyS_of_mut_l2]
        rw [if_neg (by rw [decide_eq_true_eq]; omega)]
        rfl) 64 0 u (by omega) ⟨rfl, fun j' hj' => by omega, fun _ _ => rfl⟩
    exact ⟨u', h1, h2, fun j hj => h3 j hj, h4⟩
  obtain ⟨m, h1, h2, h3⟩ := loopM_for (body := fun s : Int × Int × List V64 => laws_markPolyS_of_mut_l1 s.1 s.2.1 s.2.2) (fun i u => (((k + 64 * i : Nat) : Int), (i : Int), u)) (fun u => (((k + 64 * l.length : Nat) : Int), u)) l.length
    (fun i u => u.length = l.length ∧ ∀ i', i' < i → ∀ j, j < 64 → rd (rd u i').1 j = IntKind.u8.wrap ((k + 64 * i' + j : Nat) : Int)) (fun i u hi hI => by
      obtain ⟨h2, h3⟩ := hI
      obtain ⟨u', g1, g2, g3, g4⟩ := inner i u (by omega) h2
      refine ⟨u', ?_, by omega, fun i' hi' j hj => ?_⟩
      · simp only [laws_markPolyS_of_mut_l1]
        rw [if_pos (decide_eq_true (by omega)), g1]
        simp only [Option.bind_some]
        rw [wrap64 (by omega) (by omega)]; rfl
      · by_cases e : i' = i
        · subst e; exact g3 j hj
        · rw [g4 i' e]; exact h3 i' (by omega) j hj) (fun u hI => by
      simp only [laws_markPolyS_of_mut_l1]
      rw [if_neg (by rw [decide_eq_true_eq]; omega)]) l.length 0 l (by omega) ⟨rfl, fun i' hi' => by omega⟩
  have h1' : loopM (fun s : Int × Int × List V64 => laws_markPolyS_of_mut_l1 s.1 s.2.1 s.2.2) ((k : Int), 0, l) = _ := h1
  refine ⟨m, ?_, h2, fun i hi j hj => h3 i (by omega) j hj⟩
  simp only [laws_markPolyS_of_mut, h1', Option.bind_some]
theorem heldP_is {m : List V64} {k : Nat} (hl : m.length ≤ 2000000) (hk : k ≤ 1000000000) (hm : MarkedP k m) : laws_heldPolyS m k = some ((k + 64 * m.length : Nat) : Int) := by
  have inner : ∀ (i : Nat), i < m.length → loopM (fun s : Int × Int => laws_heldPolyS_l2 (i : Int) m s.1 s.2) (((k + 64 * i : Nat) : Int), 0) = some (.inl ((k + 64 * (i + 1) : Nat) : Int)) := by
    intro i hi
    obtain ⟨u', h1, _⟩ := loopM_for (body := fun s : Int × Int => laws_heldPolyS_l2 (i : Int) m s.1 s.2) (fun j (_ : Unit) => (((k + 64 * i + j : Nat) : Int), (j : Int))) (fun _ => .inl ((k + 64 * (i + 1) : Nat) : Int)) 64
      (fun _ _ => True) (fun j _ hj _ => by
        refine ⟨(), ?_, trivial⟩
        simp only [laws_heldPolyS_l2, letp]
        rw [if_pos (decide_eq_true (by omega)), ifp_pos (by omega), ifp_pos (by omega), Int.toNat_natCast, Int.toNat_natCast, hm i hi j hj, if_neg (by simp), wrap64 (by omega) (by omega), wrap64 (by omega) (by omega)]
        rfl) (fun _ _ => by
        simp only [laws_heldPolyS_l2, letp]
        rw [if_neg (by rw [decide_eq_true_eq]; omega)]
        rfl) 64 0 () (by omega) trivial
    exact h1
  obtain ⟨u', h1, _⟩ := loopM_for (body := fun s : Int × Int => laws_heldPolyS_l1 m s.1 s.2) (fun i (_ : Unit) => (((k + 64 * i : Nat) : Int), (i : Int))) (fun _ => .inl ((k + 64 * m.length : Nat) : Int)) m.length
    (fun _ _ => True) (fun i _ hi _ => by
      refine ⟨(), ?_, trivial⟩
      simp only [laws_heldPolyS_l1]
      rw [if_pos (decide_eq_true (by omega)), inner i hi]
      simp only [Option.bind_some]
      rw [wrap64 (by omega) (by omega)]; rfl) (fun _ _ => by
      simp only [laws_heldPolyS_l1]
      rw [if_neg (by rw [decide_eq_true_eq]; omega)]) m.length 0 () (by omega) trivial
  have h1' : loopM (fun s : Int × Int => laws_heldPolyS_l1 m s.1 s.2) ((k : Int), 0) = _ := h1
  simp only [laws_heldPolyS, h1', Option.bind_some]
end Go.Proofs.Ytdhcpekngpndnaa
/- The row of an array. -/
namespace Go.Proofs.Ytdhcpekngpndnaa
open Go.Abs
theorem row_is {d : V64} (hb : IsB d) : impl_rowOf d = some (row d) := by
  rw [rowOf_is hb]
  congr 1
  have := top_le (rd d.1) 64
  refine rd_ext (by rw [row, ofF_len]; simp; rw [d.2]; omega) fun i hi => ?_
  simp at hi
  rw [rd_take, row, rd_ofF', if_pos (by omega), if_pos (by omega)]
theorem row_length (d : V64) : (row d).length = top (rd d.1) 64 := by rw [row, ofF_len]
theorem row_rd (d : V64) {i : Nat} (hi : i < 64) : rd (row d) i = rd d.1 i := by rw [row, rd_ofF', if_pos hi]
end Go.Proofs.Ytdhcpekngpndnaa
/- A copy of a polynomial. -/
namespace Go.Proofs.Ytdhcpekngpndnaa
open Go.Abs

theorem toPoly_loop (a : V64) : ∀ s : Int × V64, (∃ i : Nat, s.1 = i ∧ i ≤ 64 ∧ ∀ j, j < i → rd s.2.1 j = rd a.1 j) → ∃ r, loopM (fun s : Int × V64 => laws_toPoly_l1 a s.1 s.2) s = some r ∧ r = a := by
  refine loopM_ind (fun (s : Int × V64) => ∃ i : Nat, s.1 = i ∧ i ≤ 64 ∧ ∀ j, j < i → rd s.2.1 j = rd a.1 j) (fun (s : Int × V64) (r : V64) => r = a) (fun (s : Int × V64) => 64 - s.1.toNat) ?_
  rintro ⟨x, v⟩ ⟨i, hx, hi, hv⟩
  simp only at hx hv
  subst hx
  by_cases h : i = 64
  · right
    subst h
    exact ⟨v, by simp [laws_toPoly_l1], vec_ext hv⟩
  · left
    refine ⟨(((i + 1 : Nat) : Int), vset v i (rd a.1 i)), ?_, ⟨i + 1, rfl, by omega, fun j hj => ?_⟩, by simp; omega, fun r hr => hr⟩
    · simp only [laws_toPoly_l1]
      rw [if_pos (by simp; omega), ifp_pos (by omega), ifp_pos (by omega), wrap64 (by omega) (by omega)]
      simp
    · rw [rd_vset _ _ _ _ (by omega)]
      by_cases e : j = i
      · rw [if_pos e, e]
      · rw [if_neg e]; exact hv j (by omega)

theorem toPoly_is (a : V64) : laws_toPoly a = some a := by
  obtain ⟨r, h1, h2⟩ := toPoly_loop a (0, vrep 64 0) ⟨0, rfl, by omega, fun j hj => by omega⟩
  simp only [laws_toPoly, h1, h2, Option.bind_some]
end Go.Proofs.Ytdhcpekngpndnaa
/- FnExactConvergentsOf. -/
namespace Go.Proofs.Ytdhcpekngpndnaa
open Go.Abs
theorem toPolyS_is {l : List V64} (hl : l.length ≤ 2000000) : laws_toPolyS l = some l := by
  obtain ⟨v, h1, h2, h3⟩ := loopM_for (body := fun s : Int × List V64 => laws_toPolyS_l1 l s.1 s.2) (fun i u => ((i : Int), u)) (fun u => u) l.length
    (fun i u => u.length = l.length ∧ ∀ j, j < i → rd u j = rd l j) (fun i u hi hI => by
      obtain ⟨h2, h3⟩ := hI
      refine ⟨u.set i (rd l i), ?_, by simpa using h2, fun j hj => ?_⟩
      · simp only [laws_toPolyS_l1, toPoly_is, Option.bind_some, Int.toNat_natCast]
        rw [if_pos (decide_eq_true (by omega)), ifp_pos (by omega), ifp_pos (by omega), wrap64 (by omega) (by omega)]
        rfl
      · rw [rd_lset _ _ _ _ (by omega)]
        by_cases e : j = i
        · subst e; rw [if_pos rfl]
        · rw [if_neg e]; exact h3 j (by omega)) (fun u hI => by
      simp only [laws_toPolyS_l1]
      rw [if_neg (by rw [decide_eq_true_eq]; omega)]) l.length 0 (List.replicate l.length (vrep 64 0)) (by omega) ⟨by simp, fun j hj => by omega⟩
  have hv : v = l := by
    apply List.ext_getElem h2
    intro j h1 h2'
    have := h3 j h2'
    simpa [rd, h1, h2'] using this
  have h1' : loopM (fun s : Int × List V64 => laws_toPolyS_l1 l s.1 s.2) (0, List.replicate ((l.length : Int).toNat) (vrep 64 (0 : Int))) = some v := by rw [Int.toNat_natCast]; exact h1
  unfold laws_toPolyS
  rw [ifp_pos (by omega), h1', hv]; rfl
theorem toPolyS_fresh_is : laws_toPolyS_fresh = laws_toPolyS := rfl
theorem conv_fresh : impl_ConvergentsOf_fresh = impl_ConvergentsOf := rfl
theorem rowsI_is {l : List V64} (hl : l.length ≤ 1000) (hb : ∀ a ∈ l, IsB a) : impl_rows l = some (l.map row) := by
  obtain ⟨s, g1, g2⟩ := loopM_for (body := fun s : Int × List (List Int) => impl_rows_l1 l s.1 s.2) (fun i s => ((i : Int), s)) (fun s => s) l.length
    (fun i s => s = (l.take i).map row) (fun i s hi hI => by
      subst hI
      have er : rd l i = l[i] := by simp [rd, hi]
      refine ⟨_, ?_, rfl⟩
      simp only [impl_rows_l1]
      rw [if_pos (decide_eq_true (by omega)), ifp_pos (by omega), Int.toNat_natCast, er, row_is (hb _ (List.getElem_mem _))]
      simp only [Option.bind_some]
      rw [ifp_pos (by simp; omega), wrap64 (by omega) (by omega), List.take_succ_eq_append_getElem hi, List.map_append]
      rfl) (fun s hI => by
      simp only [impl_rows_l1]
      rw [if_neg (by rw [decide_eq_true_eq]; omega)]) l.length 0 [] (by omega) rfl
  have g1' : loopM (fun s : Int × List (List Int) => impl_rows_l1 l s.1 s.2) (0, []) = some s := g1
  simp only [impl_rows, g1', g2, Option.bind_some, List.take_length]
theorem conv_both {p : Int} {l : List V64} (hb : ∀ a ∈ l, IsB a) (hl : l.length ≤ 2000000) : ∃ (A B : List V64) (c : Int), spec_ConvergentsOf p l = some (A, B, c) ∧ impl_ConvergentsOf p l = some (A, B, c) ∧ A.length ≤ 1000 ∧ B.length ≤ 1000 := by
  simp only [spec_ConvergentsOf, impl_ConvergentsOf, code_is hb hl, polysCode_is hb hl, Option.bind_some]
  by_cases hc : (isP p && l.all (small p)) = true
  · obtain ⟨hp, hs⟩ : isP p = true ∧ l.all (small p) = true := by simpa using hc
    rw [hc]
    simp only [if_true, bne_self_eq_false, Bool.false_eq_true, if_false]
    have hp2 := isP_pos hp
    by_cases h1 : l.length < 1 ∨ l.length > 30
    · refine ⟨[], [], 2, ?_, ?_, by simp, by simp⟩
      · rcases h1 with h | h
        · rw [if_pos (decide_eq_true (by omega))]; rfl
        · rw [if_neg (by rw [decide_eq_true_eq]; omega), decide_eq_true (by omega)]; rfl
      · rcases h1 with h | h
        · rw [if_pos (decide_eq_true (by omega))]; rfl
        · rw [if_neg (by rw [decide_eq_true_eq]; omega), decide_eq_true (by omega)]; rfl
    · have ef : (if decide ((l.length : Int) < 1) = true then some true else some (decide ((l.length : Int) > 30))) = some false := by
        rw [if_neg (by rw [decide_eq_true_eq]; omega), decide_eq_false (by omega)]
      simp only [ef, Option.bind_some, Bool.false_eq_true, if_false]
      have hrow : ∀ q ∈ l.map row, Row p q ∧ q.length ≤ 64 := by
        intro q hq
        obtain ⟨a, ha, rfl⟩ := List.mem_map.1 hq
        exact ⟨row_row (res_of_small (hb a ha) (List.all_eq_true.1 hs a ha)), row_len a⟩
      have hll : (l.map row).length ≤ 1000 := by rw [List.length_map]; omega
      have e0 : (l.map row).map pad = l := by
        rw [List.map_map]
        conv => rhs; rw [← List.map_id l]
        exact List.map_congr_left fun a _ => pad_row a
      have s1 := convS_is hp hrow hll
      rw [e0] at s1
      have i1 := convI_is hp hrow hll
      have hr := rowsI_is (show l.length ≤ 1000 by omega) hb
      obtain ⟨c1, c2, c3, c4, c5⟩ := cvR_row (show 0 < p by omega) (l.map row) [1] [] [] [1]
      rw [List.length_map] at c3 c5
      simp only [s1, i1, hr, Option.bind_some]
      by_cases hf : (cvR p (l.map row) [1] [] [] [1]).2.2 = true
      · have hle := c5.1 hf
        have p1 := polys_is (M := (cvR p (l.map row) [1] [] [] [1]).1) (by omega) fun x hx => ⟨(c1 x hx).1.bytes (by omega), (c1 x hx).2⟩
        have p2 := polys_is (M := (cvR p (l.map row) [1] [] [] [1]).2.1) (by omega) fun x hx => ⟨(c2 x hx).1.bytes (by omega), (c2 x hx).2⟩
        refine ⟨(cvR p (l.map row) [1] [] [] [1]).1.map pad, (cvR p (l.map row) [1] [] [] [1]).2.1.map pad, 0, ?_, ?_, ?_, ?_⟩
        · simp only [hf, if_true, Bool.not_true, Bool.false_eq_true, if_false]
        · rw [if_neg (by rw [decide_eq_true_eq]; omega), p1]
          simp only [Option.bind_some, p2]
        · rw [List.length_map]; omega
        · rw [List.length_map]; omega
      · refine ⟨[], [], 3, ?_, ?_, by simp, by simp⟩
        · rw [if_neg hf]; rfl
        · rw [if_pos (decide_eq_true (by
            have : (cvR p (l.map row) [1] [] [] [1]).1.length ≠ l.length := fun h => hf (c5.2 h)
            omega))]
  · rw [if_neg hc]
    exact ⟨[], [], 1, by simp, by simp, by simp, by simp⟩
theorem conv_law (p : Int) (l : List V64) (hb : ∀ a ∈ l, IsB a) (hl : l.length ≤ maxLen) : laws_FnExactConvergentsOf p l = some true := by
  have hm : maxLen = 9223372036854775807 := rfl
  by_cases hbig : 1048576 < l.length
  · have e : laws_szPolyS l 1048576 = some (-1) := by
      unfold laws_szPolyS
      rw [wrap64 (by omega) (by omega), if_pos (decide_eq_true (by omega))]
    simp [laws_FnExactConvergentsOf, e]
  · have e : laws_szPolyS l 1048576 = some (1048576 - (l.length : Int)) := by
      unfold laws_szPolyS
      rw [wrap64 (by omega) (by omega), if_neg (by rw [decide_eq_true_eq]; omega)]
    have hl2 : l.length ≤ 2000000 := by omega
    obtain ⟨A, B, c, h1, h2, hA, hB⟩ := conv_both (p := p) hb hl2
    obtain ⟨m0, k1, k2, _⟩ := markP_is (l := l) (k := 1) hl2 (by omega)
    obtain ⟨mA, a1, a2, a3⟩ := markP_is (l := A) (k := 1) (by omega) (by omega)
    obtain ⟨mB, b1, b2, b3⟩ := markP_is (l := B) (k := 1 + 64 * A.length) (by omega) (by omega)
    have hA' := heldP_is (m := mA) (k := 1) (by omega) (by omega) a3
    have hB' := heldP_is (m := mB) (k := 1 + 64 * A.length) (by omega) (by omega) b3
    rw [a2] at hA'
    rw [b2] at hB'
    have k1' : laws_markPolyS_of_mut l 1 = some (((1 + 64 * l.length : Nat) : Int), m0) := k1
    have a1' : laws_markPolyS_of_mut A 1 = some (((1 + 64 * A.length : Nat) : Int), mA) := a1
    have hA'' : laws_heldPolyS mA 1 = some ((1 + 64 * A.length : Nat) : Int) := hA'
    have n1 : ∀ n : Nat, decide ((n : Int) < 0) = false := fun n => decide_eq_false (by omega)
    simp only [laws_FnExactConvergentsOf, e, Option.bind_some]
    rw [if_neg (by rw [decide_eq_true_eq]; omega)]
    simp only [toPolyS_fresh_is, conv_fresh, toPolyS_is hl2, h1, h2, Option.bind_some, eqPolyS_is (show A.length ≤ 2000000 by omega) (show A.length ≤ 2000000 by omega), eqPolyS_is (show B.length ≤ 2000000 by omega) (show B.length ≤ 2000000 by omega), eqPolyS_is hl2 hl2, decide_true, Bool.not_true, Bool.false_eq_true, if_false, bne_self_eq_false, k1', a1', n1]
    rw [ifp_pos k2, ifp_pos a2]
    simp only [b1, Option.bind_some]
    rw [ifp_pos b2]
    simp only [hA'', Option.bind_some, n1, hB', Bool.false_eq_true, if_false, bne_self_eq_false]
end Go.Proofs.Ytdhcpekngpndnaa
