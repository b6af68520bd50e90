/- Own texts, put together. -/
import Derived.Test.YtebfhlnfmkhmcaaPlain1
import Derived.Test.YtebfhlnfmkhmcaaFn1
import Derived.Test.YtebfhlnfmkhmcaaFn2
import Derived.Test.YtebfhlnfmkhmcaaFn3
import Derived.Test.YtebfhlnfmkhmcaaFn4
import Derived.Test.YtebfhlnfmkhmcaaFn5
import Derived.Test.YtebfhlnfmkhmcaaFn6
import Derived.Test.YtebfhlnfmkhmcaaFn7
import Derived.Test.YtebfhlnfmkhmcaaFn8
set_option linter.unusedSimpArgs false
set_option linter.unusedVariables false
/- Reduction and composition of forms on both sides. -/
namespace Go.Proofs.Ytebfhlnfmkhmcaa
open Go.Abs
variable {P : Pri}
theorem pr256 (P : Pri) : 0 < P.p ∧ P.p ≤ 256 := by have := P.two; omega
theorem pr256' (P : Pri) : 2 ≤ P.p ∧ P.p ≤ 256 := by have := P.two; omega
theorem len_mul_le (a b : PP P) : (a * b).len ≤ a.len + b.len - 1 := mul_len _ _ _
theorem iMul (a b : PP P) (la : a.len ≤ 400) (lb : b.len ≤ 400) : impl_prime_times P.p a.1 b.1 = some (a * b).1 :=
  times_is (pr256' P) (a.2.ent (pr256 P)) (b.2.ent (pr256 P)) (by show a.len ≤ _; omega) (by show b.len ≤ _; omega)
theorem iAdd (a b : PP P) (la : a.len ≤ 400) (lb : b.len ≤ 400) : impl_prime_combine P.p a.1 b.1 1 = some (a + b).1 :=
  combine_is (pr256 P) (a.2.ent (pr256 P)) (b.2.ent (pr256 P)) (by show a.len ≤ _; omega) (by show b.len ≤ _; omega) (by omega)
theorem iSub (a b : PP P) (la : a.len ≤ 400) (lb : b.len ≤ 400) : impl_prime_combine P.p a.1 b.1 (-1) = some (a + -b).1 := by
  rw [combine_is (pr256 P) (a.2.ent (pr256 P)) (b.2.ent (pr256 P)) (by show a.len ≤ _; omega) (by show b.len ≤ _; omega) (by omega), sub_row]
theorem iNeg (a : PP P) (la : a.len ≤ 400) : impl_prime_scale P.p a.1 (-1) = some (-a).1 := by
  simp only [impl_prime_scale]
  rw [combine_is (pr256 P) ((row_nil P.p).ent (pr256 P)) (a.2.ent (pr256 P)) (by simp) (by show a.len ≤ _; omega) (by omega)]
  rfl
theorem iDiv (a : PP P) {b : PP P} (hb : b ≠ 0) (la : a.len ≤ 400) (lb : b.len ≤ 400) : impl_prime_divide P.p a.1 b.1 = some ((pquo a b).1, (prem a b).1) :=
  divideI_is P.okp a.2 b.2 (ne_len hb) (by show a.len ≤ _; omega) (by show b.len ≤ _; omega)
theorem iRem (a : PP P) {b : PP P} (hb : b ≠ 0) (la : a.len ≤ 400) (lb : b.len ≤ 400) : impl_prime_rest P.p a.1 b.1 = some (prem a b).1 := by
  simp only [impl_prime_rest, iDiv a hb la lb, Option.bind_some]
theorem mon_sc {q : PP P} (hq : q ≠ 0) : comb P.p [] q.1 (inv P.p (lead q.1)) = (mon q).1 ∧ 0 < lead q.1 ∧ lead q.1 < P.p ∧ 0 ≤ inv P.p (lead q.1) ∧ inv P.p (lead q.1) < P.p := by
  have hl := lead_pos P.pos q.2 (ne_len hq)
  have hi := inv_is P.okp hl
  obtain ⟨k, hk⟩ : ∃ k : Nat, inv P.p (lead q.1) = k := ⟨(inv P.p (lead q.1)).toNat, by omega⟩
  refine ⟨?_, hl.1, hl.2, by omega, hi.2.1⟩
  have h := sc_nsm q k
  unfold mon
  rw [hk, Int.toNat_natCast]
  exact h
theorem iMon {q : PP P} (hq : q ≠ 0) (lq : q.len ≤ 400) : impl_row_lead q.1 = some (lead q.1) ∧ impl_prime_inverse P.p (lead q.1) = some (inv P.p (lead q.1)) ∧ impl_prime_scale P.p q.1 (inv P.p (lead q.1)) = some (mon q).1 := by
  obtain ⟨h1, h2, h3, h4, h5⟩ := mon_sc hq
  have := P.two
  refine ⟨lead_is (ne_len hq) (by show q.len ≤ _; omega), inverse_impl P.okp ⟨h2, h3⟩, ?_⟩
  simp only [impl_prime_scale]
  rw [combine_is (pr256 P) ((row_nil P.p).ent (pr256 P)) (q.2.ent (pr256 P)) (by simp) (by show q.len ≤ _; omega) (by omega), h1]
  rfl
/-! The reference's. -/
theorem sMul (a b : PP P) (h : a.len + b.len ≤ 65) (la : a.len ≤ 64) (lb : b.len ≤ 64) : spec_l01Times P.p (pad a.1) (pad b.1) = some (pad (a * b).1, true) :=
  times_pad (pr256' P) a.2 b.2 la lb (.inr (.inr h))
theorem sAdd (a b : PP P) (la : a.len ≤ 64) (lb : b.len ≤ 64) : spec_l01Add P.p (pad a.1) (pad b.1) 1 = some (pad (a + b).1) :=
  add_pad (pr256 P) a.2 b.2 la lb (by omega)
theorem sSub (a b : PP P) (la : a.len ≤ 64) (lb : b.len ≤ 64) : spec_l01Add P.p (pad a.1) (pad b.1) (-1) = some (pad (a + -b).1) := by
  rw [add_pad (pr256 P) a.2 b.2 la lb (by omega), sub_row]
theorem sNeg (a : PP P) (la : a.len ≤ 64) : spec_l01Add P.p (vrep 64 0) (pad a.1) (-1) = some (pad (-a).1) := by
  rw [← pad_nil, add_pad (pr256 P) (row_nil P.p) a.2 (by simp) la (by omega)]
  rfl
theorem sDiv (a : PP P) {b : PP P} (hb : b ≠ 0) (la : a.len ≤ 64) (lb : b.len ≤ 64) : spec_l01Divide P.p (pad a.1) (pad b.1) = some (pad (pquo a b).1, pad (prem a b).1) := divS hb la lb
theorem sRem (a : PP P) {b : PP P} (hb : b ≠ 0) (la : a.len ≤ 64) (lb : b.len ≤ 64) : spec_l01Mod P.p (pad a.1) (pad b.1) = some (pad (prem a b).1) := by
  simp only [spec_l01Mod, divS hb la lb, Option.bind_some]
theorem sMon {q : PP P} (hq : q ≠ 0) (lq : q.len ≤ 64) : spec_l07Monic P.p (pad q.1) = some (pad (mon q).1) := by
  obtain ⟨h1, h2, h3, h4, h5⟩ := mon_sc hq
  have := P.two
  have hp := len_pos hq
  have hl : rd (pad q.1).1 (q.len - 1) = lead q.1 := rd_padl _ (by omega)
  simp only [spec_l07Monic, degS q lq, Option.bind_some]
  rw [ifp_pos (by omega), show ((q.len : Int) - 1).toNat = q.len - 1 by omega, hl, inverse_spec P.okp ⟨h2, h3⟩]
  simp only [Option.bind_some]
  rw [wrap64 (by omega) (by omega), ← pad_nil, add_pad (pr256 P) (row_nil P.p) q.2 (by simp) lq (by omega), h1]
  rfl
theorem sOpp (a : PP P) {b : PP P} (hb : b ≠ 0) (la : a.len ≤ 64) (lb : b.len ≤ 64) : spec_l07Opposite P.p (pad a.1) (pad b.1) = some (pad (prem (-a) b).1) := by
  have := len_neg a
  simp only [spec_l07Opposite, sNeg a la, Option.bind_some, sRem (-a) hb (by omega) lb]
theorem pquo_ex {a b : PP P} (hb : b ≠ 0) (h : Dv b a) : a = b * pquo a b := by
  have h1 := (pdiv a hb).1
  rw [(prem_iff hb).2 h, ppring.add_zero] at h1
  rw [ppring.mul_comm]
  exact h1
theorem pquo_of {a b q : PP P} (hb : b ≠ 0) (h : a = b * q) : pquo a b = q := (quo_is hb (r := 0) (by rw [ppring.add_zero, h, ppring.mul_comm]) (by have := len_pos hb; have : (0 : PP P).len = 0 := rfl; omega)).1
theorem Fm.dvs {D a b : PP P} (h : Fm D a b) : Dv a (D + -(b * b)) ∧ Dv a (b * b + -D) := by
  have R : IsRing (PP P) := ppring
  obtain ⟨c, hc⟩ := h.dv
  have e : b * b + -D = c * a := hc.trans (R.mul_comm a c)
  exact ⟨⟨-c, by rw [neg_mul' R, ← e, R.neg_add', R.neg_neg, R.add_comm]⟩, ⟨c, e⟩⟩
theorem lenM {a b : PP P} {m n : Nat} (ha : a.len ≤ m) (hb : b.len ≤ n) : (a * b).len ≤ m + n := Nat.le_trans (len_mul_le a b) (by omega)
theorem lenA {a b : PP P} {m n : Nat} (ha : a.len ≤ m) (hb : b.len ≤ n) : (a + b).len ≤ max m n := Nat.le_trans (len_add a b) (by omega)
theorem iMul' {a b : PP P} {m n : Nat} (ha : a.len ≤ m) (hb : b.len ≤ n) (h : m ≤ 400 ∧ n ≤ 400) : impl_prime_times P.p a.1 b.1 = some (a * b).1 := iMul a b (Nat.le_trans ha h.1) (Nat.le_trans hb h.2)
theorem iAdd' {a b : PP P} {m n : Nat} (ha : a.len ≤ m) (hb : b.len ≤ n) (h : m ≤ 400 ∧ n ≤ 400) : impl_prime_combine P.p a.1 b.1 1 = some (a + b).1 := iAdd a b (Nat.le_trans ha h.1) (Nat.le_trans hb h.2)
theorem sMul' {a b : PP P} {m n : Nat} (ha : a.len ≤ m) (hb : b.len ≤ n) (h : m + n ≤ 64) : spec_l01Times P.p (pad a.1) (pad b.1) = some (pad (a * b).1, true) := sMul a b (by omega) (by omega) (by omega)
theorem sAdd' {a b : PP P} {m n : Nat} (ha : a.len ≤ m) (hb : b.len ≤ n) (h : m ≤ 64 ∧ n ≤ 64) : spec_l01Add P.p (pad a.1) (pad b.1) 1 = some (pad (a + b).1) := sAdd a b (Nat.le_trans ha h.1) (Nat.le_trans hb h.2)
/-- What is known of a composition. -/
structure Cmpo (D a b a' b' o u v d w t A B : PP P) : Prop where
  la : a.len ≤ 3
  lb : b.len ≤ 3
  la' : a'.len ≤ 3
  lb' : b'.len ≤ 3
  lD : D.len ≤ 6
  lu : u.len ≤ 4
  lv : v.len ≤ 4
  lw : w.len ≤ 4
  lt : t.len ≤ 4
  ld : d.len ≤ 3
  lA : A.len ≤ 6
  lB : B.len ≤ 30
  nd : d ≠ 0
  nA : A ≠ 0
  h1 : a * a' = d * d * A
  h2 : w * u * a * b' + w * v * a' * b + t * (b * b' + D) = d * B
theorem compI_core {D a b a' b' o u v d w t A B : PP P} (h : Cmpo D a b a' b' o u v d w t A B) (c1 : impl_prime_bezout P.p a.1 a'.1 = some (o.1, u.1, v.1)) (c2 : impl_prime_bezout P.p o.1 (b + b').1 = some (d.1, w.1, t.1)) :
    impl_curve_compose (P.p, D.1) (a.1, b.1) (a'.1, b'.1) = impl_curve_reduced (P.p, D.1) (A.1, (prem B A).1) := by
  have ndd : d * d ≠ 0 := fun e => by rcases pp_dom _ _ e with h' | h' <;> exact h.nd h'
  have k1 := lenM h.lw h.lu
  have k2 := lenM h.lw h.lv
  have k3 := lenM h.la h.la'
  have k4 := lenM h.ld h.ld
  have k5 := lenM k1 h.la
  have k6 := lenM k5 h.lb'
  have k7 := lenM k2 h.la'
  have k8 := lenM k7 h.lb
  have k9 := lenM h.lb h.lb'
  have k10 := lenA k9 h.lD
  have k11 := lenM h.lt k10
  have k12 := lenA k6 k8
  have k13 := lenA k12 k11
  have f1 := iAdd' h.lb h.lb' (by decide)
  have f2 := iMul' h.lw h.lu (by decide)
  have f3 := iMul' h.lw h.lv (by decide)
  have f4 := iMul' h.la h.la' (by decide)
  have f5 := iMul' h.ld h.ld (by decide)
  have f6 := iMul' k1 h.la (by decide)
  have f7 := iMul' k5 h.lb' (by decide)
  have f8 := iMul' k2 h.la' (by decide)
  have f9 := iMul' k7 h.lb (by decide)
  have f10 := iAdd' k6 k8 (by decide)
  have f11 := iMul' h.lb h.lb' (by decide)
  have f12 := iAdd' k9 h.lD (by decide)
  have f13 := iMul' h.lt k10 (by decide)
  have f14 := iAdd' k12 k11 (by decide)
  have f15 := iDiv (a * a') ndd (Nat.le_trans k3 (by decide)) (Nat.le_trans k4 (by decide))
  have f16 := iDiv (w * u * a * b' + w * v * a' * b + t * (b * b' + D)) h.nd (Nat.le_trans k13 (by decide)) (Nat.le_trans h.ld (by decide))
  have f17 := iRem B h.nA (Nat.le_trans h.lB (by decide)) (Nat.le_trans h.lA (by decide))
  rw [pquo_of ndd h.h1] at f15
  rw [pquo_of h.nd h.h2] at f16
  simp only [impl_curve_compose, c1, f1, c2, f2, f3, f4, f5, f6, f7, f8, f9, f10, f11, f12, f13, f14, f15, f16, f17, Option.bind_some]
  cases impl_curve_reduced (P.p, D.1) (A.1, (prem B A).1) <;> rfl
theorem compS_core {D a b a' b' o u v d w t A B : PP P} (h : Cmpo D a b a' b' o u v d w t A B) (c1 : spec_l01Bezout P.p (pad a.1) (pad a'.1) = some (pad o.1, pad u.1, pad v.1)) (c2 : spec_l01Bezout P.p (pad o.1) (pad (b + b').1) = some (pad d.1, pad w.1, pad t.1)) :
    spec_l07Compose P.p (pad D.1) (pad a.1, pad b.1) (pad a'.1, pad b'.1) = spec_l07Reduce P.p (pad D.1) (pad A.1, pad (prem B A).1) := by
  have ndd : d * d ≠ 0 := fun e => by rcases pp_dom _ _ e with h' | h' <;> exact h.nd h'
  have k1 := lenM h.lw h.lu
  have k2 := lenM h.lw h.lv
  have k3 := lenM h.la h.la'
  have k4 := lenM h.ld h.ld
  have k5 := lenM k1 h.la
  have k6 := lenM k5 h.lb'
  have k7 := lenM k2 h.la'
  have k8 := lenM k7 h.lb
  have k9 := lenM h.lb h.lb'
  have k10 := lenA k9 h.lD
  have k11 := lenM h.lt k10
  have k12 := lenA k6 k8
  have k13 := lenA k12 k11
  have f1 := sAdd' h.lb h.lb' (by decide)
  have f2 := sMul' h.lw h.lu (by decide)
  have f3 := sMul' h.lw h.lv (by decide)
  have f4 := sMul' h.la h.la' (by decide)
  have f5 := sMul' h.ld h.ld (by decide)
  have f6 := sMul' k1 h.la (by decide)
  have f7 := sMul' k5 h.lb' (by decide)
  have f8 := sMul' k2 h.la' (by decide)
  have f9 := sMul' k7 h.lb (by decide)
  have f10 := sAdd' k6 k8 (by decide)
  have f11 := sMul' h.lb h.lb' (by decide)
  have f12 := sAdd' k9 h.lD (by decide)
  have f13 := sMul' h.lt k10 (by decide)
  have f14 := sAdd' k12 k11 (by decide)
  have f15 := sDiv (a * a') ndd (Nat.le_trans k3 (by decide)) (Nat.le_trans k4 (by decide))
  have f16 := sDiv (w * u * a * b' + w * v * a' * b + t * (b * b' + D)) h.nd (Nat.le_trans k13 (by decide)) (Nat.le_trans h.ld (by decide))
  have f17 := sRem B h.nA (Nat.le_trans h.lB (by decide)) (Nat.le_trans h.lA (by decide))
  rw [pquo_of ndd h.h1] at f15
  rw [pquo_of h.nd h.h2] at f16
  simp only [spec_l07Compose, spec_l07Product, c1, f1, c2, f2, f3, f4, f5, f6, f7, f8, f9, f10, f11, f12, f13, f14, f15, f16, f17, Option.bind_some]
  cases spec_l07Reduce P.p (pad D.1) (pad A.1, pad (prem B A).1) <;> rfl
section
variable {D : PP P} {G : Nat} (hD : Dsc D G) (hG : G ≤ 2)
include hD hG
omit hD in
theorem genI (hl : D.len = 2 * G + 2) : impl_curve_genus (P.p, D.1) = some (G : Int) := by
  have e : D.1.length = 2 * G + 2 := hl
  simp only [impl_curve_genus, impl_row_degree, Option.bind_some]
  rw [wrap64 (n := (D.1.length : Int) - 1) (by omega) (by omega), gen_val e hG]
omit hD in
theorem genS (hl : D.len = 2 * G + 2) : spec_l07Genus (pad D.1) = some (G : Int) := by
  simp only [spec_l07Genus, degS D (by omega), Option.bind_some, gen_val hl hG]
theorem redI_step {a b : PP P} (h : Fm D a b) (la : a.len ≤ 100) :
    impl_curve_reduced_l1 (P.p, D.1) (a.1, b.1) = if a.len ≤ G + 1 then some (.inr (a.1, b.1)) else some (.inl ((mon (pquo (D + -(b * b)) a)).1, (prem (-b) (mon (pquo (D + -(b * b)) a))).1)) := by
  have hDl := hD.len
  have hb := h.len
  have e0 : a.1.length = a.len := rfl
  have hr : impl_curve_isReduced (P.p, D.1) (a.1, b.1) = some (decide (a.len ≤ G + 1)) := by
    simp only [impl_curve_isReduced, impl_row_degree, genI hG hDl, Option.bind_some]
    rw [e0, wrap64 (by omega) (by omega)]
    congr 1
    rw [Bool.eq_iff_iff, decide_eq_true_eq, decide_eq_true_eq]
    omega
  simp only [impl_curve_reduced_l1, hr, Option.bind_some]
  by_cases hl : a.len ≤ G + 1
  · rw [decide_eq_true hl, if_pos hl]
    rfl
  · rw [decide_eq_false hl, if_neg hl]
    have m1 := len_mul_le b b
    have s1 := len_add D (-(b * b))
    have s2 := len_neg (b * b)
    have s3 := len_neg b
    have hdv := h.dvs.1
    obtain ⟨k1, k2, k3, k4⟩ := red_step hD h (by omega) (.inr (pquo_ex h.mo.ne hdv))
    obtain ⟨i1, i2, i3⟩ := iMon k1 (by omega)
    have hm := mon_len k1
    have hmm := (mon_mo k1).ne
    simp only [Bool.not_false, if_true, iMul b b (by omega) (by omega), iSub D (b * b) (by omega) (by omega), iDiv (D + -(b * b)) h.mo.ne (by omega) (by omega), Option.bind_some, i1, i2, i3, iNeg b (by omega), iRem (-b) hmm (by omega) (by omega)]
theorem redI : ∀ (n : Nat) (a b : PP P), a.len ≤ n → n ≤ 100 → Fm D a b → ∃ r : Rf D G, loopM (fun s : List Int × List Int => impl_curve_reduced_l1 (P.p, D.1) s) (a.1, b.1) = some (r.a.1, r.b.1) ∧ Cl (FI D a b) r.I
  | 0, a, b, hn, _, h => by have := len_pos h.mo.ne; omega
  | n + 1, a, b, hn, hn2, h => by
    have step := redI_step hD hG h (by omega)
    by_cases hl : a.len ≤ G + 1
    · rw [if_pos hl] at step
      refine ⟨⟨a, b, h, hl⟩, ?_, cl_of rfl⟩
      rw [loopM_eq]
      simp only [step, Option.bind_some]
    · rw [if_neg hl] at step
      have hdv := h.dvs.1
      obtain ⟨k1, k2, k3, k4⟩ := red_step hD h (by omega) (.inr (pquo_ex h.mo.ne hdv))
      obtain ⟨r, hr, hc⟩ := redI n _ _ (by rw [mon_len k1]; omega) (by omega) k3
      refine ⟨r, ?_, cl_trans hD k4 hc⟩
      rw [loopM_eq]
      simp only [step, Option.bind_some, hr]
theorem redS_step {a b : PP P} (h : Fm D a b) (la : a.len ≤ 30) :
    spec_l07Reduce_l1 (pad D.1) P.p (pad a.1, pad b.1) = if a.len ≤ G + 1 then some (.inr (pad a.1, pad b.1)) else some (.inl (pad (mon (pquo (b * b + -D) a)).1, pad (prem (-b) (mon (pquo (b * b + -D) a))).1)) := by
  have hDl := hD.len
  have hb := h.len
  simp only [spec_l07Reduce_l1, degS a (by omega), genS hG hDl, Option.bind_some]
  by_cases hl : a.len ≤ G + 1
  · rw [if_neg (by rw [decide_eq_true_eq]; omega), if_pos hl]
  · rw [if_pos (decide_eq_true (by omega)), if_neg hl]
    have m1 := len_mul_le b b
    have s1 := len_add (b * b) (-D)
    have s2 := len_neg D
    have hdv := h.dvs.2
    obtain ⟨k1, k2, k3, k4⟩ := red_step hD h (by omega) (.inl (pquo_ex h.mo.ne hdv))
    have hm := mon_len k1
    have hmm := (mon_mo k1).ne
    have hsq : spec_l07Square P.p (pad D.1) (pad b.1) = some (pad (b * b + -D).1) := by
      simp only [spec_l07Square, sMul b b (by omega) (by omega) (by omega), Option.bind_some, sSub (b * b) D (by omega) (by omega)]
    simp only [hsq, sDiv (b * b + -D) h.mo.ne (by omega) (show a.len ≤ 64 by omega), Option.bind_some, sMon k1 (by omega), sOpp b hmm (by omega) (by omega)]
theorem redS : ∀ (n : Nat) (a b : PP P), a.len ≤ n → n ≤ 30 → Fm D a b → ∃ r : Rf D G, loopM (fun s : V64 × V64 => spec_l07Reduce_l1 (pad D.1) P.p s) (pad a.1, pad b.1) = some (pad r.a.1, pad r.b.1) ∧ Cl (FI D a b) r.I
  | 0, a, b, hn, _, h => by have := len_pos h.mo.ne; omega
  | n + 1, a, b, hn, hn2, h => by
    have step := redS_step hD hG h (by omega)
    by_cases hl : a.len ≤ G + 1
    · rw [if_pos hl] at step
      refine ⟨⟨a, b, h, hl⟩, ?_, cl_of rfl⟩
      rw [loopM_eq]
      simp only [step, Option.bind_some]
    · rw [if_neg hl] at step
      have hdv := h.dvs.2
      obtain ⟨k1, k2, k3, k4⟩ := red_step hD h (by omega) (.inl (pquo_ex h.mo.ne hdv))
      obtain ⟨r, hr, hc⟩ := redS n _ _ (by rw [mon_len k1]; omega) (by omega) k3
      refine ⟨r, ?_, cl_trans hD k4 hc⟩
      rw [loopM_eq]
      simp only [step, Option.bind_some, hr]
def Rf.i (x : Rf D G) : List Int × List Int := (x.a.1, x.b.1)
def Rf.s (x : Rf D G) : V64 × V64 := (pad x.a.1, pad x.b.1)
theorem cmpo (x y : Rf D G) : ∃ o u v d w t A B : PP P, Cmpo D x.a x.b y.a y.b o u v d w t A B ∧ bz P.p x.a.1 y.a.1 = (o.1, u.1, v.1) ∧ bz P.p o.1 (x.b + y.b).1 = (d.1, w.1, t.1) ∧ o ≠ 0 ∧ o.len ≤ 64 ∧ Fm D A (prem B A) ∧ Cl (Pr x.I y.I) (FI D A (prem B A)) := by
  have hDl := hD.len
  have hx1 := x.sm
  have hx2 := x.fm.len
  have hy1 := y.sm
  have hy2 := y.fm.len
  have nx := x.fm.mo.ne
  have ny := y.fm.mo.ne
  have la : x.a.len ≤ 3 := by omega
  have la' : y.a.len ≤ 3 := by omega
  have lb : x.b.len ≤ 3 := by omega
  have lb' : y.b.len ≤ 3 := by omega
  have lD : D.len ≤ 6 := by omega
  obtain ⟨o, u, v, e1, m1, b1, d1, d1', lu, lv⟩ := bz_bez (a := x.a) (b := y.a) (by omega) (by omega) (.inl nx)
  have lo : o.len ≤ 3 := Nat.le_trans (dv_len d1 nx) la
  have ls : (x.b + y.b).len ≤ 3 := Nat.le_trans (len_add x.b y.b) (by omega)
  obtain ⟨d, w, t, e2, m2, b2, d2, d2', lw, lt⟩ := bz_bez (a := o) (b := x.b + y.b) (by omega) (by omega) (.inl m1.ne)
  have ld : d.len ≤ 3 := Nat.le_trans (dv_len d2 m1.ne) lo
  have lu' : u.len ≤ 4 := by omega
  have lv' : v.len ≤ 4 := by omega
  have lw' : w.len ≤ 4 := by omega
  have lt' : t.len ≤ 4 := by omega
  clear lu lv lw lt
  obtain ⟨A, B, h1, h2, h3, h4⟩ := comp_fm hD (r := w * u) (s := w * v) (t := t) x.fm y.fm m2 (ppring.dv_trans d2 d1) (ppring.dv_trans d2 d1') d2' (by rw [← bz3_id ppring, ← b1]; exact b2)
  have nd := m2.ne
  have kA : A.len ≤ 6 := Nat.le_trans (dv_len (a := A) (b := x.a * y.a) ⟨d * d, h1⟩ (fun e => (pp_dom _ _ e).elim nx ny)) (lenM la la')
  have kB : B.len ≤ 30 := by
    by_cases hB : B = 0
    · rw [hB]; exact Nat.zero_le _
    · refine Nat.le_trans (dv_len (a := B) (b := d * B) ⟨d, rfl⟩ (fun e => (pp_dom _ _ e).elim nd hB)) ?_
      rw [← h2]
      exact Nat.le_trans (lenA (lenA (lenM (lenM (lenM lw' lu') la) lb') (lenM (lenM (lenM lw' lv') la') lb)) (lenM lt' (lenA (lenM lb lb') lD))) (show max (max (4 + 4 + 3 + 3) (4 + 4 + 3 + 3)) (4 + max (3 + 3) 6) ≤ 30 by decide)
  exact ⟨o, u, v, d, w, t, A, B, ⟨la, lb, la', lb', lD, lu', lv', lw', lt', ld, kA, kB, nd, h3.mo.ne, h1, h2⟩, e1, e2, m1.ne, by omega, h3, h4⟩
theorem compBoth (x y : Rf D G) : impl_curve_compose (P.p, D.1) x.i y.i = some (rop hD x y).i ∧ spec_l07Compose P.p (pad D.1) x.s y.s = some (rop hD x y).s := by
  obtain ⟨o, u, v, d, w, t, A, B, h, hz1, hz2, no, lo, h3, h4⟩ := cmpo hD hG x y
  have ls : (x.b + y.b).len ≤ 64 := Nat.le_trans (lenA h.lb h.lb') (by decide)
  have lx : x.a.len ≤ 64 := Nat.le_trans h.la (by decide)
  have ly : y.a.len ≤ 64 := Nat.le_trans h.la' (by decide)
  have nx := ne_len x.fm.mo.ne
  have no' := ne_len no
  have c1 := bezoutI_is P.okp x.a.2 y.a.2 lx ly (.inl nx)
  have c2 := bezoutI_is P.okp o.2 (x.b + y.b).2 lo ls (.inl no')
  have c3 := bezoutS_is P.okp x.a.2 y.a.2 lx ly (.inl nx)
  have c4 := bezoutS_is P.okp o.2 (x.b + y.b).2 lo ls (.inl no')
  rw [hz1] at c1 c3
  rw [hz2] at c2 c4
  have lA10 : A.len ≤ 10 := Nat.le_trans h.lA (by decide)
  obtain ⟨r, r1, r2⟩ := redI hD hG 10 A (prem B A) lA10 (by decide) h3
  obtain ⟨r', r1', r2'⟩ := redS hD hG 10 A (prem B A) lA10 (by decide) h3
  rw [rop_is hD (cl_trans hD h4 r2)] at r1
  rw [rop_is hD (cl_trans hD h4 r2')] at r1'
  refine ⟨(compI_core h c1 c2).trans ?_, (compS_core h c3 c4).trans ?_⟩
  · simp only [impl_curve_reduced, r1, Option.bind_some]
    rfl
  · simp only [spec_l07Reduce, r1', Option.bind_some]
    rfl
end
end Go.Proofs.Ytebfhlnfmkhmcaa
/- The list of all reduced forms; orders. -/
namespace Go.Proofs.Ytebfhlnfmkhmcaa
open Go.Abs
variable {P : Pri}
theorem mem_f3 {p : Nat} {D A : List Int} {q : List Int × List Int} : ∀ j, q ∈ f3 p D A j ↔ ∃ k, k < j ∧ isF p D A (digs p k) = true ∧ q = (A, digs p k)
  | 0 => by simp [f3]
  | j + 1 => by
    have ih := mem_f3 (D := D) (A := A) (q := q) (p := p) j
    simp only [f3]
    constructor
    · intro h
      split at h
      · rcases List.mem_append.1 h with h1 | h1
        · obtain ⟨k, a, b⟩ := ih.1 h1
          exact ⟨k, by omega, b⟩
        · exact ⟨j, by omega, by assumption, by simpa using h1⟩
      · obtain ⟨k, a, b⟩ := ih.1 h
        exact ⟨k, by omega, b⟩
    · rintro ⟨k, a, b, c⟩
      by_cases hk : k = j
      · subst hk
        rw [if_pos b]
        exact List.mem_append.2 (.inr (by simpa using c))
      · have h1 := ih.2 ⟨k, by omega, b, c⟩
        split
        · exact List.mem_append.2 (.inl h1)
        · exact h1
theorem mem_f2 {p : Nat} {D : List Int} {g : Nat} {q : List Int × List Int} : ∀ i, q ∈ f2 p D g i ↔ ∃ k, k < i ∧ q ∈ f3 p D (digs p (p ^ g + k)) (p ^ g)
  | 0 => by simp [f2]
  | i + 1 => by
    have ih := mem_f2 (D := D) (g := g) (q := q) (p := p) i
    simp only [f2, List.mem_append, ih]
    constructor
    · rintro (⟨k, a, b⟩ | h)
      · exact ⟨k, by omega, b⟩
      · exact ⟨i, by omega, h⟩
    · rintro ⟨k, a, b⟩
      by_cases hk : k = i
      · subst hk; exact .inr b
      · exact .inl ⟨k, by omega, b⟩
theorem mem_f1 {p : Nat} {D : List Int} {q : List Int × List Int} : ∀ n, q ∈ f1 p D n ↔ ∃ g, g < n ∧ q ∈ f2 p D g (p ^ g)
  | 0 => by simp [f1]
  | n + 1 => by
    have ih := mem_f1 (D := D) (q := q) (p := p) n
    simp only [f1, List.mem_append, ih]
    constructor
    · rintro (⟨k, a, b⟩ | h)
      · exact ⟨k, by omega, b⟩
      · exact ⟨n, by omega, h⟩
    · rintro ⟨k, a, b⟩
      by_cases hk : k = n
      · subst hk; exact .inr b
      · exact .inl ⟨k, by omega, b⟩
theorem digs_inj {p : Nat} (hp : 2 ≤ p) {n m : Nat} (h : digs p n = digs p m) : n = m := by
  rw [← num_digs hp n, h, num_digs hp]
theorem f3_nodup {p : Nat} (hp : 2 ≤ p) {D A : List Int} : ∀ j, (f3 p D A j).Nodup
  | 0 => by simp [f3]
  | j + 1 => by
    have ih := f3_nodup hp (D := D) (A := A) j
    simp only [f3]
    split
    · unfold List.Nodup
      rw [List.pairwise_append]
      refine ⟨ih, List.pairwise_singleton .., fun a ha b hb e => ?_⟩
      obtain ⟨k, h1, _, h2⟩ := (mem_f3 j).1 ha
      have h3 : b = (A, digs p j) := by simpa using hb
      rw [h2, h3] at e
      have := digs_inj hp (Prod.mk.inj e).2
      omega
    · exact ih
theorem f2_nodup {p : Nat} (hp : 2 ≤ p) {D : List Int} {g : Nat} : ∀ i, (f2 p D g i).Nodup
  | 0 => by simp [f2]
  | i + 1 => by
    simp only [f2]
    unfold List.Nodup
    rw [List.pairwise_append]
    refine ⟨f2_nodup hp i, f3_nodup hp _, fun a ha b hb e => ?_⟩
    obtain ⟨k, h1, h2⟩ := (mem_f2 i).1 ha
    obtain ⟨j, _, _, h3⟩ := (mem_f3 _).1 h2
    obtain ⟨j', _, _, h4⟩ := (mem_f3 _).1 hb
    rw [h3, h4] at e
    have := digs_inj hp (Prod.mk.inj e).1
    omega
theorem f1_nodup {p : Nat} (hp : 2 ≤ p) {D : List Int} : ∀ n, (f1 p D n).Nodup
  | 0 => by simp [f1]
  | n + 1 => by
    simp only [f1]
    unfold List.Nodup
    rw [List.pairwise_append]
    refine ⟨f1_nodup hp n, f2_nodup hp _, fun a ha b hb e => ?_⟩
    obtain ⟨g, hg, ha'⟩ := (mem_f1 n).1 ha
    obtain ⟨k, h1, h2⟩ := (mem_f2 _).1 ha'
    obtain ⟨j, _, _, h3⟩ := (mem_f3 _).1 h2
    obtain ⟨k', h1', h2'⟩ := (mem_f2 _).1 hb
    obtain ⟨j', _, _, h4⟩ := (mem_f3 _).1 h2'
    rw [h3, h4] at e
    have e1 := congrArg List.length (Prod.mk.inj e).1
    rw [digs_monic_len hp h1, digs_monic_len hp h1'] at e1
    omega
/-- The number of a monic polynomial. -/
theorem num_mono {p : Nat} (hp : 2 ≤ p) : ∀ (g : Nat) (l : List Int), Row p l → l.length = g + 1 → lead l = 1 → num p l < 2 * p ^ g
  | g, [], _, h, _ => by simp at h
  | 0, [c], _, _, h => by
    have hc : c = 1 := h
    subst hc
    simp [num]
  | 0, c :: d :: l, _, h, _ => by simp at h
  | g + 1, [c], _, h, _ => by simp at h
  | g + 1, c :: d :: l, hr, h, hl => by
    have h1 := row_tail hr
    have hl' : lead (d :: l) = 1 := by
      rw [← hl]
      unfold lead
      simp only [List.length_cons, Nat.add_sub_cancel]
      rw [rd_cons]
    have h2 := num_mono hp g (d :: l) h1 (by simpa using h) hl'
    have h3 := hr.res c (List.mem_cons_self ..)
    have e : num p (c :: d :: l) = c.toNat + p * num p (d :: l) := rfl
    rw [e, Nat.pow_succ]
    have h4 : p * (num p (d :: l) + 1) ≤ p * (2 * p ^ g) := Nat.mul_le_mul_left p h2
    have h5 : p * (2 * p ^ g) = 2 * (p ^ g * p) := by rw [Nat.mul_left_comm, Nat.mul_comm p]
    rw [Nat.mul_add, h5] at h4
    omega
theorem isF_iff {D A B : PP P} (hA : A ≠ 0) : isF P.n D.1 A.1 B.1 = true ↔ ∃ c, B * B + -D = A * c := by
  have e1 : rem P.n (comb P.n (mul P.n B.1 B.1) D.1 (-1)) A.1 = (prem (B * B + -D) A).1 := by
    have : comb P.p (mul P.p B.1 B.1) D.1 (-1) = (B * B + -D).1 := sub_row (B * B) D
    show rem P.p (comb P.p (mul P.p B.1 B.1) D.1 (-1)) A.1 = _
    rw [this]
    rfl
  unfold isF
  rw [decide_eq_true_eq, e1]
  show (prem (B * B + -D) A).len = 0 ↔ _
  rw [len_zero, prem_iff hA]
  exact ⟨fun ⟨c, hc⟩ => ⟨c, by rw [ppring.mul_comm A]; exact hc⟩, fun ⟨c, hc⟩ => ⟨c, by rw [ppring.mul_comm c]; exact hc⟩⟩
section
variable {D : PP P} {G : Nat} (hD : Dsc D G) (hG : G ≤ 2)
theorem f1_all (x : Rf D G) : x.i ∈ f1 P.n D.1 (G + 1) := by
  have h1 := len_pos x.fm.mo.ne
  have h2 := x.sm
  have h3 := x.fm.len
  have hp := P.ge
  obtain ⟨g, hg⟩ : ∃ g, x.a.len = g + 1 := ⟨x.a.len - 1, by omega⟩
  have ea := digs_num hp _ x.a.2
  have eb := digs_num hp _ x.b.2
  have k1 : P.n ^ g ≤ num P.n x.a.1 := by
    rcases Nat.lt_or_ge (num P.n x.a.1) (P.n ^ g) with h | h
    · have := digs_len_lt hp g _ h
      rw [ea] at this
      have : x.a.len ≤ g := this
      omega
    · exact h
  have k2 := num_mono hp g _ x.a.2 hg x.fm.mo
  have k3 := num_lt hp _ x.b.2
  have k4 : P.n ^ x.b.len ≤ P.n ^ g := Nat.pow_le_pow_right (by omega) (by omega)
  have k3' : num P.n x.b.1 < P.n ^ x.b.len := k3
  refine (mem_f1 _).2 ⟨g, by omega, (mem_f2 _).2 ⟨num P.n x.a.1 - P.n ^ g, by omega, (mem_f3 _).2 ⟨num P.n x.b.1, by omega, ?_, ?_⟩⟩⟩
  · rw [show P.n ^ g + (num P.n x.a.1 - P.n ^ g) = num P.n x.a.1 by omega, ea, eb]
    exact (isF_iff x.fm.mo.ne).2 x.fm.dv
  · rw [show P.n ^ g + (num P.n x.a.1 - P.n ^ g) = num P.n x.a.1 by omega, ea, eb]
    rfl
theorem f1_rf {q : List Int × List Int} (h : q ∈ f1 P.n D.1 (G + 1)) : ∃ x : Rf D G, x.i = q := by
  have hp := P.ge
  obtain ⟨g, hg, h1⟩ := (mem_f1 _).1 h
  obtain ⟨k, hk, h2⟩ := (mem_f2 _).1 h1
  obtain ⟨j, hj, hF, rfl⟩ := (mem_f3 _).1 h2
  have la := digs_monic_len hp hk
  have lb := digs_short hp hj
  have hm : Mo (ppn P (P.n ^ g + k)) := by
    show lead (digs P.n (P.n ^ g + k)) = 1
    unfold lead
    rw [la]
    exact digs_monic hp hk
  have hF' : isF P.n D.1 (ppn P (P.n ^ g + k)).1 (ppn P j).1 = true := hF
  have la' : (ppn P (P.n ^ g + k)).len = g + 1 := la
  have lb' : (ppn P j).len ≤ g := lb
  exact ⟨⟨ppn P (P.n ^ g + k), ppn P j, ⟨hm, by omega, (isF_iff hm.ne).1 hF'⟩, by omega⟩, rfl⟩
theorem lift_list {α β : Type} {f : α → β} : ∀ l : List β, (∀ q ∈ l, ∃ x, f x = q) → ∃ L : List α, L.map f = l
  | [], _ => ⟨[], rfl⟩
  | q :: l, h => by
    obtain ⟨x, hx⟩ := h q (List.mem_cons_self ..)
    obtain ⟨L, hL⟩ := lift_list l fun q hq => h q (List.mem_cons_of_mem _ hq)
    exact ⟨x :: L, by rw [List.map_cons, hx, hL]⟩
theorem rf_i_inj {x y : Rf D G} (h : x.i = y.i) : x = y := by
  have h1 := Prod.mk.inj h
  exact rf_ext (pp_eq h1.1) (pp_eq h1.2)
include hG in
theorem forms_list : ∃ L : List (Rf D G), L.map Rf.i = f1 P.n D.1 (G + 1) ∧ L.Nodup ∧ (∀ x, x ∈ L) ∧ L.length ≤ 1000000 := by
  obtain ⟨L, hL⟩ := lift_list (f := Rf.i (D := D) (G := G)) _ fun q hq => f1_rf hq
  have hn := f1_nodup P.ge (D := D.1) (G + 1)
  rw [← hL] at hn
  have hl := f1_len (p := P.n) D.1 (G + 1) fun i hi => few2 (by have := P.is; omega) (by omega)
  rw [← hL, List.length_map] at hl
  refine ⟨L, hL, ?_, fun x => ?_, by omega⟩
  · unfold List.Nodup at hn ⊢
    rw [List.pairwise_map] at hn
    exact hn.imp fun h e => h (by rw [e])
  · have := f1_all x
    rw [← hL] at this
    obtain ⟨y, hy, e⟩ := List.mem_map.1 this
    rw [← rf_i_inj e]
    exact hy
/-! Orders. -/
theorem unit_iff (x : Rf D G) : (x.a.1.length = 1 ∧ rd x.a.1 0 = 1) ↔ x = runit := by
  constructor
  · rintro ⟨h1, h2⟩
    have ha : x.a = 1 := pp_eq (by
      refine row_ext x.a.2 (1 : PP P).2 fun i => ?_
      show rd x.a.1 i = rd [1] i
      by_cases hi : i = 0
      · rw [hi, h2]; rfl
      · rw [rd_ge (by omega), rd_ge (by simp; omega)])
    have hb : x.b = 0 := len_zero.1 (by have := x.fm.len; rw [ha, len_one] at this; omega)
    exact rf_ext ha hb
  · rintro rfl
    exact ⟨rfl, rfl⟩
theorem rf_s_inj {x y : Rf D G} (hG : G ≤ 2) (h : x.s = y.s) : x = y := by
  have h1 := Prod.mk.inj h
  have a1 := x.sm
  have a2 := y.sm
  have a3 := x.fm.len
  have a4 := y.fm.len
  exact rf_ext (pp_eq (pad_inj x.a.2 y.a.2 (by show x.a.len ≤ _; omega) (by show y.a.len ≤ _; omega) h1.1)) (pp_eq (pad_inj x.b.2 y.b.2 (by show x.b.len ≤ _; omega) (by show y.b.len ≤ _; omega) h1.2))
include hD hG
theorem ord_both (x : Rf D G) {k : Nat} (h1 : 1 ≤ k) (hk : k ≤ 1000000) (h2 : (rgroup hD).pw x k = runit) (h3 : ∀ j, 1 ≤ j → j < k → (rgroup hD).pw x j ≠ runit) :
    impl_curve_orderOf (P.p, D.1) x.i = some (k : Int) ∧ spec_l07Order P.p (pad D.1) x.s = some (k : Int) := by
  have e1 : (rgroup hD).pw x 1 = x := (rgroup hD).pw_one x
  have key : ∀ j, (rgroup hD).pw x (j + 1) = rop hD ((rgroup hD).pw x j) x := fun _ => rfl
  constructor
  · obtain ⟨s, g1, g2⟩ := loopM_for (body := fun s : Int × (List Int × List Int) => impl_curve_orderOf_l1 (P.p, D.1) x.i s.1 s.2) (fun i (s : List Int × List Int) => (((i + 1 : Nat) : Int), s)) (fun _ => (k : Int)) (k - 1)
      (fun i s => s = ((rgroup hD).pw x (i + 1)).i) (fun i s hi hI => by
        subst hI
        refine ⟨_, ?_, rfl⟩
        have hne := h3 (i + 1) (by omega) (by omega)
        have hu : decide (((rgroup hD).pw x (i + 1)).a.1.length = 1 ∧ rd ((rgroup hD).pw x (i + 1)).a.1 0 = 1) = false := decide_eq_false fun h => hne ((unit_iff _).1 h)
        have hc := (compBoth hD hG ((rgroup hD).pw x (i + 1)) x).1
        simp only [impl_curve_orderOf_l1, Rf.i, isOne_is, hu, Option.bind_some] at hc ⊢
        simp only [Bool.not_false, if_true, hc, Option.bind_some]
        rw [wrap64 (by omega) (by omega), key (i + 1)]
        rfl) (fun s hI => by
        subst hI
        have hu : decide (((rgroup hD).pw x (k - 1 + 1)).a.1.length = 1 ∧ rd ((rgroup hD).pw x (k - 1 + 1)).a.1 0 = 1) = true := decide_eq_true ((unit_iff _).2 (by rw [show k - 1 + 1 = k by omega]; exact h2))
        simp only [impl_curve_orderOf_l1, Rf.i, isOne_is, hu, Option.bind_some]
        simp only [Bool.not_true, Bool.false_eq_true, if_false]
        rw [show k - 1 + 1 = k by omega]) (k - 1) 0 x.i (by omega) (by rw [show 0 + 1 = 1 from rfl, e1])
    have g1' : loopM (fun s : Int × (List Int × List Int) => impl_curve_orderOf_l1 (P.p, D.1) x.i s.1 s.2) (1, x.i) = some (k : Int) := g1
    simp only [impl_curve_orderOf, g1', Option.bind_some]
  · have hunit : spec_l07Unit = some (runit (D := D) (G := G)).s := by
      simp only [spec_l07Unit, one_is, Option.bind_some, Rf.s, runit]
      rw [← pad_nil]
      rfl
    obtain ⟨s, g1, g2⟩ := loopM_for (body := fun s : Int × (V64 × V64) => spec_l07Order_l1 P.p (pad D.1) x.s s.1 s.2) (fun i (s : V64 × V64) => (((i + 1 : Nat) : Int), s)) (fun _ => (k : Int)) (k - 1)
      (fun i s => s = ((rgroup hD).pw x (i + 1)).s) (fun i s hi hI => by
        subst hI
        refine ⟨_, ?_, rfl⟩
        have hne := h3 (i + 1) (by omega) (by omega)
        have hu : decide (((rgroup hD).pw x (i + 1)).s = (runit (D := D) (G := G)).s) = false := decide_eq_false fun h => hne (rf_s_inj hG h)
        have hc := (compBoth hD hG ((rgroup hD).pw x (i + 1)) x).2
        simp only [spec_l07Order_l1, hunit, Option.bind_some, hu, Bool.not_false, if_true, hc]
        rw [wrap64 (by omega) (by omega), key (i + 1)]
        rfl) (fun s hI => by
        subst hI
        have hu : decide (((rgroup hD).pw x (k - 1 + 1)).s = (runit (D := D) (G := G)).s) = true := decide_eq_true (by rw [show k - 1 + 1 = k by omega, h2])
        simp only [spec_l07Order_l1, hunit, Option.bind_some, hu, Bool.not_true, Bool.false_eq_true, if_false]
        rw [show k - 1 + 1 = k by omega]) (k - 1) 0 x.s (by omega) (by rw [show 0 + 1 = 1 from rfl, e1])
    have g1' : loopM (fun s : Int × (V64 × V64) => spec_l07Order_l1 P.p (pad D.1) x.s s.1 s.2) (1, x.s) = some (k : Int) := g1
    simp only [spec_l07Order, g1', Option.bind_some]
theorem order_ex (x : Rf D G) : ∃ k : Nat, 1 ≤ k ∧ k ≤ 1000000 ∧ (rgroup hD).pw x k = runit ∧ (∀ j, 1 ≤ j → j < k → (rgroup hD).pw x j ≠ runit) ∧ (f1 P.n D.1 (G + 1)).length % k = 0 := by
  obtain ⟨L, hL, hn, ha, hl⟩ := forms_list (D := D) hG
  obtain ⟨k, h1, h2, h3, h4, h5⟩ := (rgroup hD).order hn ha x
  refine ⟨k, h1, by omega, h3, h4, ?_⟩
  rw [← hL, List.length_map]
  exact h5
end
end Go.Proofs.Ytebfhlnfmkhmcaa
/- A discriminant has no square factors. -/
namespace Go.Proofs.Ytebfhlnfmkhmcaa
open Go.Abs
variable {P : Pri}
def ddc (a : Nat → Int) (i : Nat) : Int := ((i + 1 : Nat) : Int) * a (i + 1)
theorem conv_der (a b : Nat → Int) (k : Nat) : ((k + 1 : Nat) : Int) * conv a b (k + 1) = conv (ddc a) b k + conv a (ddc b) k := by
  have h1 : ((k + 1 : Nat) : Int) * conv a b (k + 1) = sumTo (k + 2) (fun i => (i : Int) * a i * b (k + 1 - i)) + sumTo (k + 2) (fun i => a i * (((k + 1 - i : Nat) : Int) * b (k + 1 - i))) := by
    unfold conv cv
    rw [← sumTo_mul, ← sumTo_add]
    refine sumTo_congr _ fun i hi => ?_
    rw [if_pos (by omega)]
    have e : ((k + 1 : Nat) : Int) = (i : Int) + ((k + 1 - i : Nat) : Int) := by omega
    rw [e, Int.add_mul, Int.mul_assoc, Int.mul_left_comm (a i)]
  have h2 : sumTo (k + 2) (fun i => (i : Int) * a i * b (k + 1 - i)) = conv (ddc a) b k := by
    rw [sumTo_first]
    unfold conv cv
    rw [show ((0 : Nat) : Int) * a 0 * b (k + 1 - 0) = 0 by simp, Int.zero_add]
    refine sumTo_congr _ fun i hi => ?_
    rw [if_pos (by omega), show k + 1 - (i + 1) = k - i by omega]
    rfl
  have h3 : sumTo (k + 2) (fun i => a i * (((k + 1 - i : Nat) : Int) * b (k + 1 - i))) = conv a (ddc b) k := by
    simp only [sumTo]
    unfold conv cv
    simp only [sumTo]
    rw [show k + 1 - (k + 1) = 0 by omega]
    have e : a (k + 1) * (((0 : Nat) : Int) * b 0) = 0 := by simp
    rw [e, Int.add_zero]
    congr 1
    · refine sumTo_congr _ fun i hi => ?_
      rw [if_pos (by omega), show k + 1 - i = k - i + 1 by omega]
      rfl
    · rw [if_pos (by omega), show k + 1 - k = k - k + 1 by omega]
      rfl
  rw [h1, h2, h3]
/-- The derivative. -/
def dx (a : PP P) : PP P := ⟨ofF a.len fun i => ddc a.c i % P.p, row_ofF fun _ _ => ⟨Int.emod_nonneg _ (by have := P.pos; omega), Int.emod_lt_of_pos _ P.pos⟩⟩
theorem dx_c (a : PP P) (i : Nat) : (dx a).c i = ddc a.c i % P.p := by
  show rd (ofF a.len fun i => ddc a.c i % P.p) i = _
  rw [rd_ofF]
  intro j hj
  have : a.c (j + 1) = 0 := rd_ge (by have : a.1.length ≤ j := hj; omega)
  unfold ddc
  rw [this, Int.mul_zero]
  rfl
theorem dx_mul (x y : PP P) : dx (x * y) = dx x * y + x * dx y := pp_ext fun k => by
  rw [dx_c, add_c, mul_c, mul_c]
  have h1 : conv (dx x).c y.c k % P.p = conv (ddc x.c) y.c k % P.p := conv_mod (fun i => by rw [dx_c, Int.emod_emod]) (fun _ => rfl) k
  have h2 : conv x.c (dx y).c k % P.p = conv x.c (ddc y.c) k % P.p := conv_mod (fun _ => rfl) (fun i => by rw [dx_c, Int.emod_emod]) k
  rw [h1, h2, ← Int.add_emod, ← conv_der]
  unfold ddc
  rw [mul_c, Int.mul_emod, Int.emod_emod, ← Int.mul_emod]
theorem dvl_rd (p : Int) (a : V64) : ∀ i, i ≤ 63 → ∀ j, j < 64 → rd (dvl p a i).1 j = if j < i then ((j + 1 : Nat) : Int) * rd a.1 (j + 1) % p else 0
  | 0, _, j, hj => by rw [if_neg (by omega), dvl, rd_vrep _ hj]
  | i + 1, h, j, hj => by
    rw [dvl, rd_vset _ _ _ _ (by omega), dvl_rd p a i (by omega) j hj]
    by_cases h1 : j = i
    · rw [if_pos h1, if_pos (by omega), h1]
    · rw [if_neg h1]
      by_cases h2 : j < i
      · rw [if_pos h2, if_pos (by omega)]
      · rw [if_neg h2, if_neg (by omega)]
theorem disc_dsc {d : V64} (hb : IsB d) (h : disc P.p d = true) : ∃ (D : PP P) (G : Nat), row d = D.1 ∧ Dsc D G ∧ G ≤ 2 := by
  simp only [disc, Bool.and_eq_true, decide_eq_true_eq] at h
  obtain ⟨⟨⟨⟨_, hs⟩, h2⟩, h3⟩, h4⟩ := h
  have hr := res_of_small hb hs
  have hrr := row_row hr
  have hv := row_row (dv_res P.two.1 d)
  let D : PP P := ⟨row d, hrr⟩
  let E : PP P := ⟨row (dv P.p d), hv⟩
  have hD0 : D ≠ 0 := fun e => by
    have : D.1.length = 0 := by rw [e]; rfl
    have : (row d).length = 0 := this
    omega
  obtain ⟨g, hg, _, _, hdv⟩ := gcd_is (a := D) (b := E) (row_len d) (row_len _) (.inl hD0)
  have hg1 : g.1.length = 1 := by rw [← hg]; exact h4
  have hE : E = dx D := pp_ext fun i => by
    rw [dx_c]
    show rd (row (dv P.p d)) i = ((i + 1 : Nat) : Int) * rd (row d) (i + 1) % P.p
    by_cases hi : i < 63
    · rw [row_rd _ (by omega), row_rd _ (by omega)]
      unfold dv
      rw [dvl_rd _ _ 63 (Nat.le_refl _) i (by omega), if_pos hi]
    · have e0 : rd (row d) (i + 1) = 0 := rd_ge (by have := row_len d; omega)
      rw [e0, Int.mul_zero, Int.zero_emod]
      by_cases hi' : i = 63
      · rw [row_rd _ (by omega)]
        unfold dv
        rw [dvl_rd _ _ 63 (Nat.le_refl _) i (by omega), if_neg hi]
      · exact rd_ge (by have := row_len (dv P.p d); omega)
  refine ⟨D, ((row d).length - 2) / 2, rfl, ⟨?_, ?_, ?_⟩, by omega⟩
  · show (row d).length = _
    omega
  · intro π hπ hd
    obtain ⟨w, hw⟩ := hd
    rw [← ppring.mul_assoc] at hw
    have k1 : Dv π D := ⟨w * π, hw⟩
    have k2 : Dv π E := by
      rw [hE, hw, dx_mul]
      exact ppring.dv_add (ppring.dv_mul (ppring.dv_refl π) _) (ppring.dv_mul' (ppring.dv_mul (ppring.dv_refl π) w) _)
    have k3 := dv_len ((hdv π).2 ⟨k1, k2⟩) (fun e => by
      rw [e] at hg1
      have : (0 : PP P).1.length = 0 := rfl
      omega)
    have k4 : g.len = 1 := hg1
    have := hπ.1
    omega
  · intro e
    apply h2
    show (P.n : Int) = 2
    rw [e]
    rfl
end Go.Proofs.Ytebfhlnfmkhmcaa
/- Lists of numbers: comparing, marking, and whether the marks are held. -/
namespace Go.Proofs.Ytebfhlnfmkhmcaa
open Go.Abs

theorem eqIntS_is {a b : List Int} (ha : a.length ≤ 1000000) (hb : b.length ≤ 1000000) : laws_eqInt64S a b = some (decide (a = b)) := by
  unfold laws_eqInt64S
  by_cases hl : a.length = b.length
  · rw [if_neg (by rw [bne_iff_ne]; simp; omega)]
    have key : ∀ s : Int, (∃ i : Nat, s = i ∧ i ≤ a.length ∧ ∀ j, j < i → rd a j = rd b j) → ∃ r, loopM (fun s : Int => laws_eqInt64S_l1 a b s) s = some r ∧ ((r = .inl () ∧ a = b) ∨ (r = .inr false ∧ a ≠ b)) := by
      refine loopM_ind (fun (s : Int) => ∃ i : Nat, s = i ∧ i ≤ a.length ∧ ∀ j, j < i → rd a j = rd b j) (fun (s : Int) (r : Unit ⊕ Bool) => (r = .inl () ∧ a = b) ∨ (r = .inr false ∧ a ≠ b)) (fun s => a.length - s.toNat) ?_
      rintro s ⟨i, rfl, hi, hlt⟩
      by_cases h : i = a.length
      · right
        subst h
        exact ⟨.inl (), by simp [laws_eqInt64S_l1], .inl ⟨rfl, rd_ext hl hlt⟩⟩
      · by_cases e : rd a i = rd b i
        · left
          refine ⟨((i + 1 : Nat) : Int), ?_, ⟨i + 1, rfl, by omega, fun j hj => ?_⟩, by simp; omega, fun r hr => hr⟩
          · simp only [laws_eqInt64S_l1]
            rw [if_pos (decide_eq_true (by omega)), ifp_pos (by omega), ifp_pos (by omega), Int.toNat_natCast, if_neg (by rw [bne_iff_ne]; simpa using e), wrap64 (by omega) (by omega)]; rfl
          · by_cases hj' : j = i
            · rw [hj']; exact e
            · exact hlt j (by omega)
        · right
          refine ⟨.inr false, ?_, .inr ⟨rfl, fun h => e (by rw [h])⟩⟩
          simp only [laws_eqInt64S_l1]
          rw [if_pos (decide_eq_true (by omega)), ifp_pos (by omega), ifp_pos (by omega), Int.toNat_natCast, if_pos (by rw [bne_iff_ne]; exact e)]
    obtain ⟨r, h1, h2⟩ := key 0 ⟨0, rfl, by omega, fun j hj => by omega⟩
    rw [h1]
    rcases h2 with ⟨rfl, h⟩ | ⟨rfl, h⟩ <;> simp [h]
  · rw [if_pos (by rw [bne_iff_ne]; simp; omega)]
    have : a ≠ b := fun h => hl (by rw [h])
    simp [this]
/-- The marks from k on. -/
def MarkedI (k : Nat) (m : List Int) : Prop := ∀ i, i < m.length → rd m i = ((k + i : Nat) : Int)
theorem markI_is {l : List Int} {k : Nat} (hl : l.length ≤ 1000000) (hk : k ≤ 1000000000) : ∃ m, laws_markInt64S_of_mut l k = some (((k + l.length : Nat) : Int), m) ∧ m.length = l.length ∧ MarkedI k m := by
  obtain ⟨m, h1, h2, h3⟩ := loopM_for (body := fun s : Int × Int × List Int => laws_markInt64S_of_mut_l1 s.1 s.2.1 s.2.2) (fun i u => (((k + i : Nat) : Int), (i : Int), u)) (fun u => (((k + l.length : Nat) : Int), u)) l.length
    (fun i u => u.length = l.length ∧ ∀ i', i' < i → rd u i' = ((k + i' : Nat) : Int)) (fun i u hi hI => by
      obtain ⟨h2, h3⟩ := hI
      refine ⟨u.set i ((k + i : Nat) : Int), ?_, by simpa using h2, fun i' hi' => ?_⟩
      · simp only [laws_markInt64S_of_mut_l1]
        rw [if_pos (decide_eq_true (by omega)), ifp_pos (by omega), wrap64 (by omega) (by omega), wrap64 (by omega) (by omega)]; rfl
      · rw [rd_set _ _ _ _ (by omega)]
        by_cases e : i' = i
        · subst e; rw [if_pos rfl]
        · rw [if_neg e]; exact h3 i' (by omega)) (fun u hI => by
      simp only [laws_markInt64S_of_mut_l1]
      rw [if_neg (by rw [decide_eq_true_eq]; omega)]) l.length 0 l (by omega) ⟨rfl, fun i' hi' => by omega⟩
  have h1' : loopM (fun s : Int × Int × List Int => laws_markInt64S_of_mut_l1 s.1 s.2.1 s.2.2) ((k : Int), 0, l) = _ := h1
  refine ⟨m, ?_, h2, fun i hi => h3 i (by omega)⟩
  simp only [laws_markInt64S_of_mut, h1', Option.bind_some]
theorem heldI_is {m : List Int} {k : Nat} (hl : m.length ≤ 1000000) (hk : k ≤ 1000000000) (hm : MarkedI k m) : laws_heldInt64S m k = some ((k + m.length : Nat) : Int) := by
  obtain ⟨u', h1, _⟩ := loopM_for (body := fun s : Int × Int => laws_heldInt64S_l1 m s.1 s.2) (fun i (_ : Unit) => (((k + i : Nat) : Int), (i : Int))) (fun _ => .inl ((k + m.length : Nat) : Int)) m.length
    (fun _ _ => True) (fun i _ hi _ => by
      refine ⟨(), ?_, trivial⟩
      simp only [laws_heldInt64S_l1]
      rw [if_pos (decide_eq_true (by omega)), ifp_pos (by omega), Int.toNat_natCast, hm i hi, if_neg (by simp), wrap64 (by omega) (by omega), wrap64 (by omega) (by omega)]; rfl) (fun _ _ => by
      simp only [laws_heldInt64S_l1]
      rw [if_neg (by rw [decide_eq_true_eq]; omega)]) m.length 0 () (by omega) trivial
  have h1' : loopM (fun s : Int × Int => laws_heldInt64S_l1 m s.1 s.2) ((k : Int), 0) = _ := h1
  simp only [laws_heldInt64S, h1', Option.bind_some]
end Go.Proofs.Ytebfhlnfmkhmcaa
/- A copy of a polynomial. -/
namespace Go.Proofs.Ytebfhlnfmkhmcaa
open Go.Abs

theorem toPoly_loop (a : V64) : ∀ s : Int × V64, (∃ i : Nat, s.1 = i ∧ i ≤ 64 ∧ ∀ j, j < i → rd s.2.1 j = rd a.1 j) → ∃ r, loopM (fun s : Int × V64 => laws_toPoly_l1 a s.1 s.2) s = some r ∧ r = a := by
  refine loopM_ind (fun (s : Int × V64) => ∃ i : Nat, s.1 = i ∧ i ≤ 64 ∧ ∀ j, j < i → rd s.2.1 j = rd a.1 j) (fun (s : Int × V64) (r : V64) => r = a) (fun (s : Int × V64) => 64 - s.1.toNat) ?_
  rintro ⟨x, v⟩ ⟨i, hx, hi, hv⟩
  simp only at hx hv
  subst hx
  by_cases h : i = 64
  · right
    subst h
    exact ⟨v, by simp [laws_toPoly_l1], vec_ext hv⟩
  · left
    refine ⟨(((i + 1 : Nat) : Int), vset v i (rd a.1 i)), ?_, ⟨i + 1, rfl, by omega, fun j hj => ?_⟩, by simp; omega, fun r hr => hr⟩
    · simp only [laws_toPoly_l1]
      rw [if_pos (by simp; omega), ifp_pos (by omega), ifp_pos (by omega), wrap64 (by omega) (by omega)]
      simp
    · rw [rd_vset _ _ _ _ (by omega)]
      by_cases e : j = i
      · rw [if_pos e, e]
      · rw [if_neg e]; exact hv j (by omega)

theorem toPoly_is (a : V64) : laws_toPoly a = some a := by
  obtain ⟨r, h1, h2⟩ := toPoly_loop a (0, vrep 64 0) ⟨0, rfl, by omega, fun j hj => by omega⟩
  simp only [laws_toPoly, h1, h2, Option.bind_some]
end Go.Proofs.Ytebfhlnfmkhmcaa
/- Polynomials from rows, told. -/
namespace Go.Proofs.Ytebfhlnfmkhmcaa
open Go.Abs
end Go.Proofs.Ytebfhlnfmkhmcaa
/- FnExactGroupOrders. -/
namespace Go.Proofs.Ytebfhlnfmkhmcaa
open Go.Abs
theorem gro_fresh : impl_GroupOrders_fresh = impl_GroupOrders := rfl
theorem gro_both {p : Int} {d : V64} (hb : IsB d) : ∃ (l : List Int) (c : Int), spec_GroupOrders p d = some (l, c) ∧ impl_GroupOrders p d = some (l, c) ∧ l.length ≤ 1000000 := by
  simp only [spec_GroupOrders, impl_GroupOrders, impl_formCode, discS_is hb, discI_is hb, noForms, Option.bind_some]
  cases hD0 : disc p d with
  | false => exact ⟨[], 1, by simp, by simp, by simp⟩
  | true =>
    obtain ⟨hp, hs, _⟩ := disc_spec hD0
    have hp2 := isP_pos hp
    obtain ⟨n, rfl⟩ : ∃ n : Nat, p = n := ⟨p.toNat, by omega⟩
    let P : Pri := ⟨n, hp⟩
    obtain ⟨D, G, e, hD, hG⟩ := disc_dsc (P := P) hb hD0
    have hr := res_of_small hb hs
    have hl : (row d).length = 2 * G + 2 := by rw [e]; exact hD.len
    have h1 := formsI hp (row_row hr) hl hG
    have h2 := allS hp hr hl hG
    have epad : pad D.1 = d := by rw [← e, pad_row]
    obtain ⟨L, hL, hn, ha, hll⟩ := forms_list (D := D) hG
    have ord : ∀ x : Rf D G, ∃ k : Int, impl_curve_orderOf (P.p, D.1) x.i = some k ∧ spec_l07Order P.p (pad D.1) x.s = some k := fun x => by
      obtain ⟨k, k1, k2, k3, k4, _⟩ := order_ex hD hG x
      exact ⟨k, ord_both hD hG x k1 k2 k3 k4⟩
    let o : Rf D G → Int := fun x => Classical.choose (ord x)
    have oI : ∀ x, impl_curve_orderOf (P.p, D.1) x.i = some (o x) := fun x => (Classical.choose_spec (ord x)).1
    have oS : ∀ x, spec_l07Order P.p (pad D.1) x.s = some (o x) := fun x => (Classical.choose_spec (ord x)).2
    have eL : f1 n (row d) (G + 1) = L.map Rf.i := by rw [e]; exact hL.symm
    have eS : (L.map Rf.i).map pp = L.map Rf.s := by rw [List.map_map]; rfl
    rw [eL] at h1 h2
    rw [eS] at h2
    have lS : ∃ s, loopM (fun s : Int × List Int => spec_GroupOrders_l1 (L.map Rf.s) (n : Int) d s.1 s.2) (0, []) = some s ∧ s = (L.take L.length).map o := by
      refine loopM_for (body := fun s : Int × List Int => spec_GroupOrders_l1 (L.map Rf.s) (n : Int) d s.1 s.2) (fun i s => ((i : Int), s)) (fun s => s) L.length (fun i s => s = (L.take i).map o) (fun i s hi hI => ?_) (fun s hI => ?_) L.length 0 [] (by omega) rfl
      · subst hI
        refine ⟨_, ?_, rfl⟩
        have hrd : rd (L.map Rf.s) i = (L[i]).s := by simp [rd, hi]
        have h3 := oS L[i]
        rw [epad] at h3
        have h3' : spec_l07Order (n : Int) d (L[i]).s = some (o L[i]) := h3
        simp only [spec_GroupOrders_l1, Int.toNat_natCast, hrd, h3', Option.bind_some, List.length_map]
        rw [if_pos (decide_eq_true (by omega)), ifp_pos (by omega), ifp_pos (by simp; omega), wrap64 (by omega) (by omega), ← List.take_append_getElem hi, List.map_append]
        rfl
      · simp only [spec_GroupOrders_l1, List.length_map]
        rw [if_neg (by rw [decide_eq_true_eq]; omega)]
    have lI : ∃ s, loopM (fun s : Int × List Int => impl_GroupOrders_l1 (L.map Rf.i) ((n : Int), row d) s.1 s.2) (0, []) = some s ∧ s = (L.take L.length).map o := by
      refine loopM_for (body := fun s : Int × List Int => impl_GroupOrders_l1 (L.map Rf.i) ((n : Int), row d) s.1 s.2) (fun i s => ((i : Int), s)) (fun s => s) L.length (fun i s => s = (L.take i).map o) (fun i s hi hI => ?_) (fun s hI => ?_) L.length 0 [] (by omega) rfl
      · subst hI
        refine ⟨_, ?_, rfl⟩
        have hrd : rd (L.map Rf.i) i = (L[i]).i := by simp [rd, hi]
        have h3 := oI L[i]
        rw [← e] at h3
        have h3' : impl_curve_orderOf ((n : Int), row d) (L[i]).i = some (o L[i]) := h3
        simp only [impl_GroupOrders_l1, Int.toNat_natCast, hrd, h3', Option.bind_some, List.length_map]
        rw [if_pos (decide_eq_true (by omega)), ifp_pos (by omega), ifp_pos (by simp; omega), wrap64 (by omega) (by omega), ← List.take_append_getElem hi, List.map_append]
        rfl
      · simp only [impl_GroupOrders_l1, List.length_map]
        rw [if_neg (by rw [decide_eq_true_eq]; omega)]
    obtain ⟨s1, a1, a2⟩ := lS
    obtain ⟨s2, b1, b2⟩ := lI
    refine ⟨L.map o, 0, ?_, ?_, by rw [List.length_map]; exact hll⟩
    · simp only [h2, Option.bind_some, a1, a2, List.take_length, Bool.not_true, Bool.false_eq_true, if_false]
    · simp only [impl_curveOf, row_is hb, Option.bind_some, Bool.not_true, Bool.false_eq_true, if_false, bne_self_eq_false, h1, b1, b2, List.take_length]
theorem gro_law (p : Int) (d : V64) (hb : IsB d) : laws_FnExactGroupOrders p d = some true := by
  obtain ⟨l, c, h1, h2, h3⟩ := gro_both (p := p) hb
  obtain ⟨m, h4, h5, h6⟩ := markI_is (l := l) (k := 1) (by omega) (by omega)
  have h7 := heldI_is (m := m) (k := 1) (by omega) (by omega) h6
  have h4' : laws_markInt64S_of_mut l 1 = _ := h4
  have h7' : laws_heldInt64S m 1 = _ := h7
  unfold laws_FnExactGroupOrders
  simp only [toPoly_is, Option.bind_some, gro_fresh, h1, h2, eqIntS_is (show l.length ≤ 1000000 by omega) (show l.length ≤ 1000000 by omega), decide_true, Bool.not_true, Bool.false_eq_true, if_false, bne_self_eq_false, h4']
  rw [ifp_pos h5, h7', h5]
  have hneg : decide (((1 + l.length : Nat) : Int) < 0) = false := decide_eq_false (by omega)
  simp only [Option.bind_some, bne_self_eq_false, Bool.false_eq_true, if_false, hneg]
end Go.Proofs.Ytebfhlnfmkhmcaa
