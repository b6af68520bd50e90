/- Own texts, put together. -/
import Derived.Test.YtkbnegemdlnncaaGreatPlain1
import Derived.Test.YtkbnegemdlnncaaGreatFn1
import Derived.Test.YtkbnegemdlnncaaGreatFn2
import Derived.Test.YtkbnegemdlnncaaGreatFn3
import Derived.Test.YtkbnegemdlnncaaGreatFn4
import Derived.Test.YtkbnegemdlnncaaGreatFn5
import Derived.Test.YtkbnegemdlnncaaGreatFn6
import Derived.Test.YtkbnegemdlnncaaGreatFn7
import Derived.Test.YtkbnegemdlnncaaGreatFn8
import Derived.Test.YtkbnegemdlnncaaGreatFn9
import Derived.Test.YtkbnegemdlnncaaGreatFn10
set_option linter.unusedSimpArgs false
set_option linter.unusedVariables false
/- Sums that are cut off: the parts that both kinds share. -/
namespace Go.Proofs.YtkbnegemdlnncaaGreat
open Go.Abs
variable {P : Pri}
theorem pow_pw (a : PP P) : ∀ k, pow P.p a.1 k = (pw a k).1
  | 0 => rfl
  | k + 1 => by
    show mul P.p (pow P.p a.1 k) a.1 = _
    rw [pow_pw a k]; rfl
theorem pw_ne {a : PP P} (ha : a ≠ 0) : ∀ k, pw a k ≠ 0
  | 0 => one_ne
  | k + 1 => fun e => by rcases pp_dom _ _ e with h | h; exact pw_ne ha k h; exact ha h
theorem pw_len {a : PP P} (ha : a ≠ 0) : ∀ k, (pw a k).len = (a.len - 1) * k + 1
  | 0 => by show (1 : PP P).len = _; rw [len_one, Nat.mul_zero]
  | k + 1 => by
    have h1 := pw_len ha k
    have h2 : (pw a (k + 1)).len = _ := len_mul (pw_ne ha k) ha
    have h3 := len_pos ha
    rw [h2, h1, Nat.mul_succ]; omega
theorem sprP_len {a : PP P} (ha : a ≠ 0) (i : Nat) : (sprP a i).len = (a.len - 1) * P.n ^ i + 1 := by rw [sprP_pw, pw_len ha]
theorem sprP_zero (i : Nat) : sprP (0 : PP P) i = 0 := pp_eq (spr_nil _)
theorem small3 {i : Nat} (hi : i ≤ 3) : P.n ^ i ≤ 343 := by
  have h1 : P.n ^ i ≤ 7 ^ i := Nat.pow_le_pow_left (by have := P.is; omega) _
  have h2 : 7 ^ i ≤ 7 ^ 3 := Nat.pow_le_pow_right (by omega) hi
  omega
def facM (P : Pri) (second : Bool) (i : Nat) : List (List Int) := (List.range i).map (facL P.n i second)
theorem facM_ok (second : Bool) {i : Nat} (hi : i ≤ 3) : ∀ b ∈ facM P second i, Row P.p b ∧ b.length ≠ 0 ∧ b.length ≤ 500000 := fun b hb => by
  obtain ⟨j, hj, rfl⟩ := List.mem_map.1 hb
  exact facL_ok (by have := P.is; omega) (by have := small3 (P := P) hi; omega) second (List.mem_range.1 hj)
theorem facM_degs (second : Bool) {i : Nat} (hi : i ≤ 3) : (facP P second i).len = degs (facM P second i) + 1 := by
  have h := prodF_row P.okp (facM P second i) [1] (row_one P.two.1) (by simp) fun b hb => ⟨(facM_ok second hi b hb).1, (facM_ok second hi b hb).2.1⟩
  have e : prodF P.p [1] (facM P second i) = (facP P second i).1 := fpj_l i second i
  rw [e] at h
  have h2 : (facP P second i).len = ([1] : List Int).length + degs (facM P second i) := h.2
  rw [h2]; simp; omega
theorem factS (second : Bool) {i : Nat} (hi : i ≤ 3) : spec_l04Factorial P.p i second = some (if (facP P second i).len ≤ 64 then (pad (facP P second i).1, true) else (vrep 64 0, false)) := by
  have hs := small3 (P := P) hi
  have h := factorial_is (p := P.n) (i := i) P.okp (by omega) second
  have hc := fac_closed (p := P.p) P.okp (facL P.n i second) i fun j hj => by
    have := facL_ok (p := P.n) (i := i) (by have := P.is; omega) (by omega) second hj
    exact ⟨this.1, this.2.1⟩
  have hd := facM_degs (P := P) second hi
  have e : prodF P.p [1] ((List.range i).map (facL P.n i second)) = (facP P second i).1 := fpj_l i second i
  rw [e] at hc
  have h' : spec_l04Factorial P.p i second = some (match fac P.p (facL P.n i second) i with | none => (vrep 64 0, false) | some o => (pad o, true)) := h
  rw [h', hc]
  have hd' : (facP P second i).len = degs ((List.range i).map (facL P.n i second)) + 1 := hd
  by_cases hq : (facP P second i).len ≤ 64
  · rw [if_pos (by omega), if_pos hq]
  · rw [if_neg (by omega), if_neg hq]
theorem raiseS {a : PP P} (la : a.len ≤ 64) {i : Nat} (hi : i ≤ 3) : spec_l04Raise P.p (pad a.1) i = some (if a.len = 0 ∨ (a.len - 1) * P.n ^ i ≤ 63 then (pad (sprP a i).1, true) else (vrep 64 0, false)) := by
  have h : spec_l04Raise P.p (pad a.1) i = some (if a.1.length ≤ 1 ∨ (a.1.length - 1) * P.n ^ i ≤ 63 then (pad (spr a.1 (P.n ^ i)), true) else (vrep 64 0, false)) := raise_gen (p := P.n) (by have := P.is; omega) (by omega) a.2 la
  rw [h]
  congr 1
  have e : (a.1.length ≤ 1 ∨ (a.1.length - 1) * P.n ^ i ≤ 63) = (a.len = 0 ∨ (a.len - 1) * P.n ^ i ≤ 63) := by
    rw [eq_iff_iff]
    constructor
    · rintro (h1 | h1)
      · right; have : a.len - 1 = 0 := by show a.1.length - 1 = 0; omega
        rw [this, Nat.zero_mul]; omega
      · exact .inr h1
    · rintro (h1 | h1)
      · left; show a.len ≤ 1; omega
      · exact .inr h1
  simp only [e]
  rfl
/-- A product that may be too great. -/
theorem timesT {a b : PP P} (la : a.len ≤ 64) (lb : b.len ≤ 64) : ∃ v, spec_l01Times P.p (pad a.1) (pad b.1) = some (v, decide (a.len = 0 ∨ b.len = 0 ∨ a.len + b.len ≤ 65)) ∧ ((a.len = 0 ∨ b.len = 0 ∨ a.len + b.len ≤ 65) → v = pad (a * b).1) := by
  have hp := P.two
  by_cases h : a.len = 0 ∨ b.len = 0 ∨ a.len + b.len ≤ 65
  · refine ⟨pad (a * b).1, ?_, fun _ => rfl⟩
    rw [decide_eq_true h]
    exact times_pad ⟨by omega, by omega⟩ a.2 b.2 la lb h
  · refine ⟨vrep 64 0, ?_, fun h' => absurd h' h⟩
    rw [decide_eq_false h]
    exact times_pad_no a.2 b.2 la lb (fun e => h (.inl e)) (fun e => h (.inr (.inl e))) (by
      rcases Nat.lt_or_ge 65 (a.len + b.len) with h1 | h1
      · exact h1
      · exact absurd (.inr (.inr h1)) h)
theorem rowI_loop {M : List (List Int)} (hM : ∀ b ∈ M, Row P.p b ∧ b.length ≠ 0) (hd : degs M ≤ 1000) (hl : M.length ≤ 1000) : impl_prime_productRow P.p M = some (prodF P.p [1] M) := by
  have hp := P.two
  obtain ⟨s, g1, g2⟩ := loopM_for (body := fun s : List Int × Int => impl_prime_productRow_l1 M P.p s.1 s.2) (fun i s => (s, (i : Int))) (fun s => s) M.length
    (fun i s => s = prodF P.p [1] (M.take i)) (fun i s hi hI => by
      subst hI
      have hmt : ∀ b ∈ M.take i, Row P.p b ∧ b.length ≠ 0 := fun b hb => hM b (List.mem_of_mem_take hb)
      obtain ⟨q1, q2⟩ := prodF_row P.okp (M.take i) [1] (row_one P.two.1) (by simp) hmt
      have hsum : degs (M.take i) + degs (M.drop i) = degs M := by rw [← degs_app, List.take_append_drop]
      obtain ⟨b1, b2⟩ := hM M[i] (List.getElem_mem _)
      have hdi : M.drop i = M[i] :: M.drop (i + 1) := List.drop_eq_getElem_cons hi
      rw [hdi] at hsum
      simp only [degs] at hsum
      have er : rd M i = M[i] := by simp [rd, hi]
      refine ⟨prodF P.p [1] (M.take (i + 1)), ?_, rfl⟩
      simp only [impl_prime_productRow_l1, Int.toNat_natCast, er]
      rw [if_pos (decide_eq_true (by omega)), ifp_pos (by omega), times_is ⟨hp.1, by omega⟩ (q1.ent P.sm) (b1.ent P.sm) (by rw [q2]; simp; omega) (by omega)]
      simp only [Option.bind_some]
      rw [wrap64 (by omega) (by omega), List.take_succ_eq_append_getElem hi, prodF_app]
      rfl) (fun s hI => by
      simp only [impl_prime_productRow_l1]
      rw [if_neg (by rw [decide_eq_true_eq]; omega)]) M.length 0 [1] (by omega) rfl
  have g1' : loopM (fun s : List Int × Int => impl_prime_productRow_l1 M P.p s.1 s.2) ([1], 0) = some s := g1
  simp only [impl_prime_productRow, g1', g2, Option.bind_some, List.take_length]
theorem facRow (second : Bool) {i : Nat} (hi : i ≤ 3) (hl : (facP P second i).len ≤ 64) : impl_prime_productRow P.p (facM P second i) = some (facP P second i).1 := by
  have hd := facM_degs (P := P) second hi
  rw [rowI_loop (fun b hb => ⟨(facM_ok second hi b hb).1, (facM_ok second hi b hb).2.1⟩) (by omega) (by simp [facM]; omega)]
  exact congrArg some (fpj_l i second i)
theorem normI {i : Nat} (hi : i ≤ 3) : impl_prime_norm P.p (i : Int) 1099511627776 = some ((P.n ^ i : Nat) : Int) := by
  have hs := small3 (P := P) hi
  obtain ⟨c, c1, c2, _⟩ := norm_is (p := P.n) (n := i) (most := 1099511627776) (by have := P.is; omega) (by omega) (by omega)
  have : c = P.n ^ i := by omega
  rw [← this]; exact c1
theorem spreadI {a : PP P} (la : a.len ≤ 64) {i : Nat} (hi : i ≤ 3) : impl_prime_spread P.p a.1 i = some (sprP a i).1 := by
  have hs := small3 (P := P) hi
  exact spread_is (p := P.n) (by have := P.is; omega) (by omega) a.2 (show a.len ≤ 1000 by omega) (by omega)
theorem gcdB {a b : PP P} (la : a.len ≤ 64) (lb : b.len ≤ 64) (hb : b ≠ 0) : ∃ g : PP P, impl_prime_gcd P.p a.1 b.1 = some g.1 ∧ spec_l01Gcd P.p (pad a.1) (pad b.1) = some (pad g.1) ∧ g.len ≤ 64 ∧ g ≠ 0 ∧ Dv g b := by
  obtain ⟨g, i1, l1, m1, d1⟩ := gcdI la lb (.inr hb)
  obtain ⟨g', s1, l2, m2, d2⟩ := gcdS la lb (.inr hb)
  have h1 : Dv g g' := (d2 g).2 ((d1 g).1 (ppring.dv_refl g))
  have h2 : Dv g' g := (d1 g').2 ((d2 g').1 (ppring.dv_refl g'))
  have e : g = g' := mo_eq m1 m2 h1 (by
    have := dv_len h1 m2.ne
    have := dv_len h2 m1.ne
    omega)
  exact ⟨g, i1, by rw [e]; exact s1, l1, m1.ne, ((d1 g).1 (ppring.dv_refl g)).2⟩
/-- The tail of the sums: cancelled, and the denominator monic. -/
theorem cut_end {t B : PP P} (lt : t.len ≤ 64) (lB : B.len ≤ 64) (hB : B ≠ 0) : ∃ x y : V64,
    (Option.bind (impl_prime_gcd P.p t.1 B.1) fun r88 => (Option.bind (impl_prime_divide P.p t.1 r88) fun r91 => (Option.bind (impl_prime_divide P.p B.1 r88) fun r94 => (Option.bind (impl_row_lead r94.1) fun r102 => (Option.bind (impl_prime_inverse P.p r102) fun r104 => (Option.bind (impl_prime_scale P.p r91.1 r104) fun r119 => (Option.bind (impl_row_poly r119) fun r121 => (Option.bind (impl_prime_scale P.p r94.1 r104) fun r124 => (Option.bind (impl_row_poly r124) fun r126 => (some (r121, r126, (0 : Int)))))))))))) = some (x, y, 0) ∧
    (Option.bind (spec_l01Gcd P.p (pad t.1) (pad B.1)) fun r453 => (Option.bind (spec_l01Divide P.p (pad t.1) r453) fun r458 => (Option.bind (spec_l01Divide P.p (pad B.1) r453) fun r464 => (Option.bind (spec_l01Deg r464.1) fun r469 => (ifp (0 ≤ r469 ∧ r469 < ((64 : Nat) : Int)) ((Option.bind (spec_l01Inverse P.p (rd r464.1.1 r469.toNat)) fun r473 => (Option.bind (spec_l01Add P.p ((vrep 64 (0 : Int))) r458.1 (IntKind.i64.wrap r473)) fun r484 => (Option.bind (spec_l01Add P.p ((vrep 64 (0 : Int))) r464.1 (IntKind.i64.wrap r473)) fun r487 => (some (r484, r487, true))))))))))) = some (x, y, true) := by
  have hp := P.two
  obtain ⟨g, g1, g2, g3, g4, g5⟩ := gcdB lt lB hB
  have e1 := pdivI (a := t) g4 (by omega) (by omega)
  have e2 := pdivI (a := B) g4 (by omega) (by omega)
  have e3 := divS (a := t) g4 lt (by omega)
  have e4 := divS (a := B) g4 lB (by omega)
  have l1 : (pquo t g).len ≤ 64 := by
    have : (pquo t g).len ≤ t.len + 1 - g.len := quo_len P.p t.1 g.1
    have := len_pos g4; omega
  have l2 : (pquo B g).len ≤ 64 := by
    have : (pquo B g).len ≤ B.len + 1 - g.len := quo_len P.p B.1 g.1
    have := len_pos g4; omega
  have hq : pquo B g ≠ 0 := fun e => by
    have h := (pdiv B g4).1
    have hr : prem B g = 0 := (prem_iff g4).2 g5
    rw [e, hr, ppring.zero_mul, ppring.add_zero] at h
    exact hB h
  have hq1 := len_pos hq
  have hl := lead_pos P.pos (pquo B g).2 (ne_len hq)
  have hi := inv_is P.okp hl
  obtain ⟨k, hk⟩ : ∃ k : Nat, inv P.p (lead (pquo B g).1) = k := ⟨(inv P.p (lead (pquo B g).1)).toNat, by omega⟩
  have n1 := len_nsm k (pquo t g)
  have n2 := len_nsm k (pquo B g)
  refine ⟨pad (nsm k (pquo t g)).1, pad (nsm k (pquo B g)).1, ?_, ?_⟩
  · have s1 := scaleI (a := pquo t g) (show (pquo t g).len ≤ 1000000 by omega) k (by omega)
    have s2 := scaleI (a := pquo B g) (show (pquo B g).len ≤ 1000000 by omega) k (by omega)
    have p1 : impl_row_poly (nsm k (pquo t g)).1 = some (pad (nsm k (pquo t g)).1) := poly_is ((nsm k (pquo t g)).2.bytes (by omega)) (show (nsm k (pquo t g)).len ≤ 64 by omega)
    have p2 : impl_row_poly (nsm k (pquo B g)).1 = some (pad (nsm k (pquo B g)).1) := poly_is ((nsm k (pquo B g)).2.bytes (by omega)) (show (nsm k (pquo B g)).len ≤ 64 by omega)
    simp only [g1, e1, e2, leadI hq (show (pquo B g).len ≤ 1000000 by omega), inverse_impl P.okp hl, hk, s1, s2, p1, p2, Option.bind_some]
  · have hd : spec_l01Deg (pad (pquo B g).1) = some (((pquo B g).len - 1 : Nat) : Int) := by rw [degS _ l2]; congr 1; omega
    have er : rd (pad (pquo B g).1).1 ((pquo B g).len - 1) = lead (pquo B g).1 := rd_padl _ (by omega)
    have z : pad (0 : PP P).1 = vrep 64 0 := pad_nil
    have a1 := addS (P := P) (a := 0) (b := pquo t g) (by rw [len_zero.2 rfl]; omega) l1 (k := k) (by omega)
    have a2 := addS (P := P) (a := 0) (b := pquo B g) (by rw [len_zero.2 rfl]; omega) l2 (k := k) (by omega)
    rw [z, ppring.zero_add] at a1 a2
    have hw : IntKind.i64.wrap (k : Int) = k := wrap64 (by omega) (by omega)
    simp only [g2, e3, e4, hd, Option.bind_some]
    rw [ifp_pos (by omega), Int.toNat_natCast, er, inverse_spec P.okp hl]
    simp only [Option.bind_some, hk, hw, a1, a2]
end Go.Proofs.YtkbnegemdlnncaaGreat
/- Sums that are cut off, with first factorials. -/
namespace Go.Proofs.YtkbnegemdlnncaaGreat
open Go.Abs
variable {P : Pri}
theorem listfirst {i : Nat} (hi : i ≤ 3) : impl_prime_first P.p i = some (facM P false i) := first_is (by have := P.is; omega) (by have := small3 (P := P) hi; omega)
theorem botfirst {a b : PP P} (hb : b ≠ 0) (lb : b.len ≤ 64) {k : Nat} (hk : k ≤ 3) : impl_cut_bottom_of_s_impl_prime_first P.p a.1 b.1 ((k + 1 : Nat) : Int) P.p = some (if (sprP b k * facP P false k).len ≤ 64 then ((sprP b k * facP P false k).1, true) else ([], false)) := by
  have hp := P.two
  have hs := small3 (P := P) hk
  have hq := P.pow_pos k
  have hb1 := len_pos hb
  have hdF := facM_degs (P := P) false hk
  have hdM : degs (facM P false k) ≤ 2000 := by
    have gen : ∀ M : List (List Int), (∀ x ∈ M, x.length ≤ 400) → degs M ≤ M.length * 400 := by
      intro M
      induction M with
      | nil => intro _; simp [degs]
      | cons x M ih =>
        intro h
        have h1 := ih fun y hy => h y (by simp [hy])
        have h2 := h x (by simp)
        simp only [degs, List.length_cons]; omega
    have := gen (facM P false k) fun x hx => by
      obtain ⟨j, hj, rfl⟩ := List.mem_map.1 hx
      have hj' := List.mem_range.1 hj
      have hle : ∀ e, e ≤ 3 → P.n ^ e ≤ 343 := fun e he => small3 he
      unfold facL
      simp only [Bool.false_eq_true, if_false]
      rw [brk_len P.ge hj']
      have := hle k (by omega)
      omega
    have hl : (facM P false k).length = k := by simp [facM]
    rw [hl] at this; omega
  have hlen : (sprP b k * facP P false k).len = (b.len - 1) * P.n ^ k + degs (facM P false k) + 1 := by
    have hsb : sprP b k ≠ 0 := by rw [sprP_pw]; exact pw_ne hb _
    rw [len_mul hsb (facP_ne false k), sprP_len hb, hdF]; omega
  have hbq : (b.len - 1) * P.n ^ k ≤ 63 * 343 := Nat.mul_le_mul (by omega) hs
  have hr : impl_row_degree b.1 = some ((b.len - 1 : Nat) : Int) := by rw [degI b (by omega)]; congr 1; omega
  have hw : IntKind.i64.wrap (((k + 1 : Nat) : Int) - 1) = (k : Int) := by rw [wrap64 (by omega) (by omega)]; omega
  have hmul : IntKind.i64.wrap (((b.len - 1 : Nat) : Int) * ((P.n ^ k : Nat) : Int)) = (((b.len - 1) * P.n ^ k : Nat) : Int) := by
    have : ((b.len - 1 : Nat) : Int) * ((P.n ^ k : Nat) : Int) = (((b.len - 1) * P.n ^ k : Nat) : Int) := by rw [Int.natCast_mul]
    rw [this, wrap64 (by omega) (by omega)]
  obtain ⟨M, hM⟩ : ∃ M, facM P false k = M := ⟨_, rfl⟩
  have hMok : ∀ x ∈ M, x.length ≠ 0 ∧ x.length ≤ 500000 := fun x hx => by
    rw [← hM] at hx; exact ⟨(facM_ok false hk x hx).2.1, (facM_ok false hk x hx).2.2⟩
  have hMl : M.length ≤ 3 := by rw [← hM]; simp [facM]; omega
  obtain ⟨c, hc⟩ : ∃ c, (b.len - 1) * P.n ^ k = c := ⟨_, rfl⟩
  have hloop : loopM (fun s : Int × Int => impl_cut_bottom_of_s_impl_prime_first_l1 M s.1 s.2) ((c : Int), 0) = some ((c + degs M : Nat) : Int) := by
    obtain ⟨s, g1, g2⟩ := loopM_for (body := fun s : Int × Int => impl_cut_bottom_of_s_impl_prime_first_l1 M s.1 s.2) (fun i (s : Nat) => ((s : Int), (i : Int))) (fun s => (s : Int)) M.length
      (fun i s => s = c + degs (M.take i)) (fun i s hi hI => by
        subst hI
        have hsum : degs (M.take i) + degs (M.drop i) = degs M := by rw [← degs_app, List.take_append_drop]
        obtain ⟨b1, b2⟩ := hMok M[i] (List.getElem_mem _)
        have hdi : M.drop i = M[i] :: M.drop (i + 1) := List.drop_eq_getElem_cons hi
        rw [hdi] at hsum
        simp only [degs] at hsum
        have er : rd M i = M[i] := by simp [rd, hi]
        rw [hM] at hdM
        refine ⟨c + degs (M.take (i + 1)), ?_, rfl⟩
        simp only [impl_cut_bottom_of_s_impl_prime_first_l1, Int.toNat_natCast, er, impl_row_degree, Option.bind_some]
        rw [if_pos (decide_eq_true (by omega)), ifp_pos (by omega), wrap64 (n := (M[i].length : Int) - 1) (by omega) (by omega), wrap64 (by omega) (by omega), wrap64 (by omega) (by omega), List.take_succ_eq_append_getElem hi, degs_app]
        simp only [degs]
        congr 3
        omega) (fun s hI => by
        simp only [impl_cut_bottom_of_s_impl_prime_first_l1]
        rw [if_neg (by rw [decide_eq_true_eq]; omega)]) M.length 0 c (by omega) (by simp [degs])
    rw [List.take_length] at g2
    rw [← g2]; exact g1
  have hfs := listfirst (P := P) hk
  have hsp := spreadI (P := P) lb hk
  rw [hM] at hfs hdM
  rw [hM] at hlen
  simp only [impl_cut_bottom_of_s_impl_prime_first, hr, hw, normI hk, hmul, hc, hfs, hloop, Option.bind_some]
  rw [hlen, hc]
  by_cases hq2 : c + degs M + 1 ≤ 64
  · rw [if_neg (by rw [decide_eq_true_eq]; omega), if_pos hq2]
    have hF : (facP P false k).len ≤ 64 := by rw [hdF, hM]; omega
    have hpr := facRow false hk hF
    rw [hM] at hpr
    have hsl : (sprP b k).len ≤ 64 := by rw [sprP_len hb, hc]; omega
    have ht : impl_prime_times P.p (sprP b k).1 (facP P false k).1 = some (sprP b k * facP P false k).1 := timesI (by omega) (by omega)
    simp only [hsp, hpr, ht, Option.bind_some]
  · rw [if_pos (decide_eq_true (by omega)), if_neg hq2]
/-- What the denominator has more than a summand. -/
def morefirst (P : Pri) (b : PP P) (k i : Nat) : PP P := pquo (facP P false k) (facP P false i) * pw b (P.n ^ k - P.n ^ i)
theorem facq_first {i k : Nat} (h : i ≤ k) : facP P false k = pquo (facP P false k) (facP P false i) * facP P false i := by
  have h1 := (pdiv (facP P false k) (facP_ne false i)).1
  rw [(prem_iff (facP_ne false i)).2 (facP_dv false h), ppring.add_zero] at h1
  exact h1
theorem pown_le {i k : Nat} (h : i ≤ k) : P.n ^ i ≤ P.n ^ k := Nat.pow_le_pow_right (by have := P.is; omega) h
theorem more_first {b : PP P} {i k : Nat} (h : i ≤ k) : sprP b k * facP P false k = morefirst P b k i * (facP P false i * sprP b i) := by
  have h1 := facq_first (P := P) h
  have h2 : pw b (P.n ^ k) = pw b (P.n ^ k - P.n ^ i) * pw b (P.n ^ i) := by rw [← ppring.pw_add]; congr 1; have := pown_le (P := P) h; omega
  rw [sprP_pw, sprP_pw, h2]
  unfold morefirst
  generalize pquo (facP P false k) (facP P false i) = R at h1 ⊢
  rw [h1]
  simp only [ppring.mul_assoc, ppring.mul_comm, ppring.mul_left_comm]
theorem more_ne_first {b : PP P} (hb : b ≠ 0) {i k : Nat} (h : i ≤ k) : morefirst P b k i ≠ 0 := fun e => by
  have h1 := more_first (P := P) (b := b) h
  rw [e, ppring.zero_mul] at h1
  rcases pp_dom _ _ h1 with h2 | h2
  · rw [sprP_pw] at h2; exact pw_ne hb _ h2
  · exact facP_ne false k h2
theorem sumfirst {a b : PP P} (hb : b ≠ 0) (la : a.len ≤ 64) (lb : b.len ≤ 64) {i k : Nat} (hk : k ≤ 3) (hi : i ≤ k) (hB : (sprP b k * facP P false k).len ≤ 64) :
    impl_cut_summand_of_s_impl_prime_first P.p a.1 b.1 ((k + 1 : Nat) : Int) P.p (i : Int) = some (if a.len = 0 ∨ (a.len - 1) * P.n ^ i + (morefirst P b k i).len ≤ 64 then ((sprP a i * morefirst P b k i).1, true) else ([], false)) := by
  have hp := P.two
  have haa : a.1.length = a.len := rfl
  by_cases h0 : a.len = 0
  · have e := len_zero.1 h0
    subst e
    simp only [impl_cut_summand_of_s_impl_prime_first]
    rw [if_pos (by rw [beq_iff_eq]; omega), if_pos (.inl h0), sprP_zero, ppring.zero_mul]; rfl
  · have hs := small3 (P := P) hk
    have hsi := small3 (P := P) (show i ≤ 3 by omega)
    have hle := pown_le (P := P) hi
    have hq := P.pow_pos i
    have ha : a ≠ 0 := fun e => h0 (len_zero.2 e)
    have hb1 := len_pos hb
    have hsb : sprP b k ≠ 0 := by rw [sprP_pw]; exact pw_ne hb _
    have hl1 : (sprP b k * facP P false k).len = _ := len_mul hsb (facP_ne false k)
    have hsl := sprP_len hb k
    have hFp := len_pos (facP_ne (P := P) false k)
    have hFk : (facP P false k).len ≤ 64 := by omega
    have hFi : (facP P false i).len ≤ 64 := Nat.le_trans (dv_len (facP_dv false hi) (facP_ne false k)) hFk
    have hmn := more_ne_first (P := P) hb hi
    have hRn : pquo (facP P false k) (facP P false i) ≠ 0 := fun e => by
      apply hmn; unfold morefirst; rw [e, ppring.zero_mul]
    have hRl : (pquo (facP P false k) (facP P false i)).len ≤ 64 := by
      have : (pquo (facP P false k) (facP P false i)).len ≤ (facP P false k).len + 1 - (facP P false i).len := quo_len P.p _ _
      have := len_pos (facP_ne (P := P) false i); omega
    have hRp := len_pos hRn
    have hml : (morefirst P b k i).len = (pquo (facP P false k) (facP P false i)).len + (b.len - 1) * (P.n ^ k - P.n ^ i) := by
      unfold morefirst
      rw [len_mul hRn (pw_ne hb _), pw_len hb]; omega
    have hr : impl_row_degree b.1 = some ((b.len - 1 : Nat) : Int) := by rw [degI b (by omega)]; congr 1; omega
    have hra : impl_row_degree a.1 = some ((a.len - 1 : Nat) : Int) := by rw [degI a (by omega)]; congr 1; omega
    have hrR : impl_row_degree (pquo (facP P false k) (facP P false i)).1 = some (((pquo (facP P false k) (facP P false i)).len - 1 : Nat) : Int) := by rw [degI _ (by omega)]; congr 1; omega
    have hw : IntKind.i64.wrap (((k + 1 : Nat) : Int) - 1) = (k : Int) := by rw [wrap64 (by omega) (by omega)]; omega
    have hw2 : IntKind.i64.wrap (((P.n ^ k : Nat) : Int) - ((P.n ^ i : Nat) : Int)) = ((P.n ^ k - P.n ^ i : Nat) : Int) := by rw [wrap64 (by omega) (by omega)]; omega
    obtain ⟨x, hx⟩ : ∃ x, (a.len - 1) * P.n ^ i = x := ⟨_, rfl⟩
    obtain ⟨y, hy⟩ : ∃ y, (b.len - 1) * (P.n ^ k - P.n ^ i) = y := ⟨_, rfl⟩
    have hxb : x ≤ 63 * 343 := by rw [← hx]; exact Nat.mul_le_mul (by omega) hsi
    have hyb : y ≤ 63 * 343 := by rw [← hy]; exact Nat.mul_le_mul (by omega) (by omega)
    have hm1 : IntKind.i64.wrap (((a.len - 1 : Nat) : Int) * ((P.n ^ i : Nat) : Int)) = (x : Int) := by
      rw [← Int.natCast_mul, hx, wrap64 (by omega) (by omega)]
    have hm2 : IntKind.i64.wrap (((b.len - 1 : Nat) : Int) * ((P.n ^ k - P.n ^ i : Nat) : Int)) = (y : Int) := by
      rw [← Int.natCast_mul, hy, wrap64 (by omega) (by omega)]
    have f1 := listfirst (P := P) hk
    have f2 := listfirst (P := P) (show i ≤ 3 by omega)
    have f3 := facRow false hk hFk
    have f4 := facRow false (show i ≤ 3 by omega) hFi
    have f5 := pdivI (a := facP P false k) (facP_ne false i) (by omega) (by omega)
    simp only [impl_cut_summand_of_s_impl_prime_first]
    rw [if_neg (by rw [beq_iff_eq]; omega)]
    simp only [normI (show i ≤ 3 by omega), normI hk, hw, f1, f2, f3, f4, f5, hr, hra, hrR, hw2, hm1, hm2, letp, Option.bind_some]
    rw [wrap64 (n := (x : Int) + y) (by omega) (by omega), wrap64 (by omega) (by omega), hml, hx, hy]
    by_cases hc : x + ((pquo (facP P false k) (facP P false i)).len + y) ≤ 64
    · rw [if_neg (by rw [decide_eq_true_eq]; omega), if_pos (.inr hc)]
      have hsa := sprP_len ha i
      rw [hx] at hsa
      have g1 := spreadI (P := P) la (show i ≤ 3 by omega)
      have g2 : impl_prime_times P.p (sprP a i).1 (pquo (facP P false k) (facP P false i)).1 = some (sprP a i * pquo (facP P false k) (facP P false i)).1 := timesI (by omega) (by omega)
      have g3 : impl_prime_raised P.p b.1 ((P.n ^ k - P.n ^ i : Nat) : Int) = some (pw b (P.n ^ k - P.n ^ i)).1 := by
        rw [raised_is hp b.2 (show b.len ≤ 1000 by omega) (by omega)]
        exact congrArg some (pow_pw b _)
      have hpl := pw_len hb (P.n ^ k - P.n ^ i)
      rw [hy] at hpl
      have hsl2 : (sprP a i * pquo (facP P false k) (facP P false i)).len ≤ (sprP a i).len + (pquo (facP P false k) (facP P false i)).len - 1 := mul_len _ _ _
      have g4 : impl_prime_times P.p (sprP a i * pquo (facP P false k) (facP P false i)).1 (pw b (P.n ^ k - P.n ^ i)).1 = some (sprP a i * pquo (facP P false k) (facP P false i) * pw b (P.n ^ k - P.n ^ i)).1 := timesI (by omega) (by omega)
      simp only [g1, g2, g3, g4, Option.bind_some]
      unfold morefirst
      rw [ppring.mul_assoc]
    · rw [if_pos (decide_eq_true (by omega)), if_neg (by rintro (h | h); exact h0 h; exact hc h)]
/-- The sign of a summand. -/
def sgnfirst (i : Nat) : Int := 1
theorem cutloopfirst {a b : PP P} (hb : b ≠ 0) (la : a.len ≤ 64) (lb : b.len ≤ 64) {k : Nat} (hk : k ≤ 3) (hB : (sprP b k * facP P false k).len ≤ 64) (v : Bool) : ∀ (m i : Nat) (t : PP P), i + m = k + 1 → t.len ≤ 64 →
    ∃ r : Option (PP P), (∀ t, r = some t → t.len ≤ 64) ∧
      loopM (fun s : Bool × Int × V64 => spec_l10Series_l1 ((k + 1 : Nat) : Int) P.p (pad b.1) (pad (sprP b k * facP P false k).1, v) (pad a.1) s.1 s.2.1 s.2.2) (false, (i : Int), pad t.1) = some (match r with | some t => .inl (pad t.1) | none => .inr (vrep 64 0, vrep 64 0, false)) ∧
      loopM (fun s : List Int × Int × Int => impl_cut_sum_of_s_impl_prime_first_l1 ((k + 1 : Nat) : Int) P.p a.1 b.1 P.p 1 s.1 s.2.1 s.2.2) (t.1, sgnfirst i, (i : Int)) = some (match r with | some t => .inl t.1 | none => .inr (vrep 64 0, vrep 64 0, 3))
  | 0, i, t, hi, lt => by
    have hp := P.two
    have a1 : spec_l10Series_l1 ((k + 1 : Nat) : Int) P.p (pad b.1) (pad (sprP b k * facP P false k).1, v) (pad a.1) false (i : Int) (pad t.1) = some (.inr (.inl (pad t.1))) := by
      simp only [spec_l10Series_l1]
      rw [if_neg (by rw [decide_eq_true_eq]; omega)]
    have a2 : impl_cut_sum_of_s_impl_prime_first_l1 ((k + 1 : Nat) : Int) P.p a.1 b.1 P.p 1 t.1 (sgnfirst i) (i : Int) = some (.inr (.inl t.1)) := by
      simp only [impl_cut_sum_of_s_impl_prime_first_l1]
      rw [if_neg (by rw [decide_eq_true_eq]; omega)]
    exact ⟨some t, fun _ h => by cases h; exact lt, by rw [loopM_eq]; simp only [a1, Option.bind_some], by rw [loopM_eq]; simp only [a2, Option.bind_some]⟩
  | m + 1, i, t, hi, lt => by
    have hp := P.two
    have hik : i ≤ k := by omega
    have hs := small3 (P := P) hk
    have hb1 := len_pos hb
    have hsb : sprP b k ≠ 0 := by rw [sprP_pw]; exact pw_ne hb _
    have hl1 : (sprP b k * facP P false k).len = _ := len_mul hsb (facP_ne false k)
    have hsl := sprP_len hb k
    have hFp := len_pos (facP_ne (P := P) false k)
    have hFk : (facP P false k).len ≤ 64 := by omega
    have hFi : (facP P false i).len ≤ 64 := Nat.le_trans (dv_len (facP_dv false hik) (facP_ne false k)) hFk
    have hFp2 := len_pos (facP_ne (P := P) false i)
    have hle := pown_le (P := P) hik
    have hsli := sprP_len hb i
    have hmle : (b.len - 1) * P.n ^ i ≤ (b.len - 1) * P.n ^ k := Nat.mul_le_mul_left _ hle
    have hFle : (facP P false i).len ≤ (facP P false k).len := dv_len (facP_dv false hik) (facP_ne false k)
    have hsbi : sprP b i ≠ 0 := by rw [sprP_pw]; exact pw_ne hb _
    have hshare : (facP P false i * sprP b i).len = _ := len_mul (facP_ne false i) hsbi
    have hsn : facP P false i * sprP b i ≠ 0 := fun e => by rcases pp_dom _ _ e with h | h; exact facP_ne false i h; exact hsbi h
    have hmn := more_ne_first (P := P) hb hik
    have e1 := factS (P := P) false (show i ≤ 3 by omega)
    rw [if_pos hFi] at e1
    have e2 := raiseS (P := P) lb (show i ≤ 3 by omega)
    rw [if_pos (.inr (by omega))] at e2
    have e3 : spec_l10Raised P.p (pad b.1) i = some (pad (sprP b i).1) := by simp only [spec_l10Raised, e2, Option.bind_some]
    obtain ⟨w1, e4, e5⟩ := timesT (P := P) (a := facP P false i) (b := sprP b i) hFi (by omega)
    rw [e5 (.inr (.inr (by omega)))] at e4
    have e6 := divS (a := sprP b k * facP P false k) hsn hB (by omega)
    have e7 : pquo (sprP b k * facP P false k) (facP P false i * sprP b i) = morefirst P b k i := (quo_is hsn (r := 0) (by rw [ppring.add_zero]; exact more_first hik) (by rw [len_zero.2 rfl]; have := len_pos hsn; omega)).1
    rw [e7] at e6
    have hgl : (morefirst P b k i).len ≤ 64 := by
      have hBn : sprP b k * facP P false k ≠ 0 := fun e => by rcases pp_dom _ _ e with h | h; exact hsb h; exact facP_ne false k h
      have hdv : Dv (morefirst P b k i) (sprP b k * facP P false k) := ⟨facP P false i * sprP b i, by rw [ppring.mul_comm (facP P false i * sprP b i) (morefirst P b k i)]; exact more_first hik⟩
      exact Nat.le_trans (dv_len hdv hBn) hB
    have hgp := len_pos hmn
    have e8 := raiseS (P := P) la (show i ≤ 3 by omega)
    have hsum := sumfirst (P := P) hb la lb hk hik hB
    have hsg : IntKind.i64.wrap (sgnfirst i * 1) = sgnfirst (i + 1) ∧ (sgnfirst i = 1 ∨ sgnfirst i = -1) := by
      have h4 : i = 0 ∨ i = 1 ∨ i = 2 ∨ i = 3 := by omega
      rcases h4 with rfl | rfl | rfl | rfl <;> exact ⟨rfl, by decide⟩
    have hspsg' : (Option.bind (α := (Bool × Bool)) ((if false = true then (some ((true, ((Int.tmod (i : Int) 2) == 1)))) else (some (false, false)))) fun z => match z with | (x434, x435) => (if x435 = true then (some (x434, (-1 : Int))) else (some (x434, (1 : Int))))) = some (false, sgnfirst i) := by
      have h4 : i = 0 ∨ i = 1 ∨ i = 2 ∨ i = 3 := by omega
      rcases h4 with rfl | rfl | rfl | rfl <;> rfl
    by_cases hc : a.len = 0 ∨ (a.len - 1) * P.n ^ i + (morefirst P b k i).len ≤ 64
    · rw [if_pos hc] at hsum
      rw [if_pos (by
        rcases hc with h | h
        · exact .inl h
        · exact .inr (by omega))] at e8
      have hsa : (sprP a i).len = 0 ∨ (morefirst P b k i).len = 0 ∨ (sprP a i).len + (morefirst P b k i).len ≤ 65 := by
        by_cases h0 : a.len = 0
        · left; rw [len_zero.1 h0, sprP_zero]; exact len_zero.2 rfl
        · right; right
          have := sprP_len (P := P) (a := a) (fun e => h0 (len_zero.2 e)) i
          rcases hc with h | h
          · exact absurd h h0
          · omega
      have hsal : (sprP a i).len ≤ 64 := by omega
      obtain ⟨w2, e9, e10⟩ := timesT (P := P) (a := sprP a i) (b := morefirst P b k i) hsal hgl
      rw [e10 hsa, decide_eq_true hsa] at e9
      have hol : (sprP a i * morefirst P b k i).len ≤ 64 := by
        have : (sprP a i * morefirst P b k i).len ≤ (sprP a i).len + (morefirst P b k i).len - 1 := mul_len _ _ _
        rcases hsa with h | h | h
        · rw [len_zero.1 h, ppring.zero_mul, len_zero.2 rfl]; omega
        · omega
        · omega
      obtain ⟨o, ho⟩ : ∃ o, sprP a i * morefirst P b k i = o := ⟨_, rfl⟩
      rw [ho] at hol hsum e9
      obtain ⟨t', ht'⟩ : ∃ t' : PP P, t'.1 = comb P.p t.1 o.1 (sgnfirst i) := ⟨⟨_, comb_row P.pos _ _ _⟩, rfl⟩
      have lt' : t'.len ≤ 64 := by
        have := comb_len P.p t.1 o.1 (sgnfirst i)
        show t'.1.length ≤ 64
        rw [ht']
        have h1 : t.1.length = t.len := rfl
        have h2 : o.1.length = o.len := rfl
        omega
      have hk1 : -1099511627776 ≤ sgnfirst i ∧ sgnfirst i ≤ 1099511627776 := by rcases hsg.2 with h | h <;> rw [h] <;> omega
      have e11 : spec_l01Add P.p (pad t.1) (pad o.1) (sgnfirst i) = some (pad t'.1) := by rw [ht']; exact add_pad P.sm t.2 o.2 lt hol hk1
      have e12 : impl_prime_combine P.p t.1 o.1 (sgnfirst i) = some t'.1 := by rw [ht']; exact combine_is P.sm t.ent o.ent (show t.len ≤ 1000000 by omega) (show o.len ≤ 1000000 by omega) hk1
      have a1 : spec_l10Series_l1 ((k + 1 : Nat) : Int) P.p (pad b.1) (pad (sprP b k * facP P false k).1, v) (pad a.1) false (i : Int) (pad t.1) = some (.inl (false, ((i + 1 : Nat) : Int), pad t'.1)) := by
        unfold spec_l10Series_l1
        rw [if_pos (decide_eq_true (by omega)), e1, Option.bind_some, e3, Option.bind_some, e4, Option.bind_some, e6, Option.bind_some, e8, Option.bind_some, e9, Option.bind_some]
        show (Option.bind (α := (Bool × Int)) (Option.bind (α := (Bool × Bool)) ((if false = true then (some ((true, ((Int.tmod (i : Int) 2) == 1)))) else (some (false, false)))) fun z => match z with | (x434, x435) => (if x435 = true then (some (x434, (-1 : Int))) else (some (x434, (1 : Int))))) fun z => match z with | (x428, x429) => (Option.bind (spec_l01Add P.p (pad t.1) (pad o.1) x429) fun r443 => (some (Sum.inl (x428, IntKind.i64.wrap ((i : Int) + 1), r443)) : Option ((Bool × Int × V64) ⊕ (V64 ⊕ (V64 × V64 × Bool)))))) = _
        rw [hspsg']
        show (Option.bind (spec_l01Add P.p (pad t.1) (pad o.1) (sgnfirst i)) fun r443 => (some (Sum.inl (false, IntKind.i64.wrap ((i : Int) + 1), r443)) : Option ((Bool × Int × V64) ⊕ (V64 ⊕ (V64 × V64 × Bool))))) = _
        rw [e11, wrap64 (by omega) (by omega)]
        rfl
      have a2 : impl_cut_sum_of_s_impl_prime_first_l1 ((k + 1 : Nat) : Int) P.p a.1 b.1 P.p 1 t.1 (sgnfirst i) (i : Int) = some (.inl (t'.1, sgnfirst (i + 1), ((i + 1 : Nat) : Int))) := by
        simp only [impl_cut_sum_of_s_impl_prime_first_l1, hsum, e12, hsg.1, Option.bind_some, Bool.not_true, Bool.false_eq_true, if_false]
        rw [if_pos (decide_eq_true (by omega)), wrap64 (by omega) (by omega)]
        rfl
      obtain ⟨r, r1, r2, r3⟩ := cutloopfirst hb la lb hk hB v m (i + 1) t' (by omega) lt'
      exact ⟨r, r1, by rw [loopM_eq]; simp only [a1, Option.bind_some]; exact r2, by rw [loopM_eq]; simp only [a2, Option.bind_some]; exact r3⟩
    · rw [if_neg hc] at hsum
      have h0 : a.len ≠ 0 := fun h => hc (.inl h)
      have hcn : 64 < (a.len - 1) * P.n ^ i + (morefirst P b k i).len := by
        rcases Nat.lt_or_ge 64 ((a.len - 1) * P.n ^ i + (morefirst P b k i).len) with h | h
        · exact h
        · exact absurd (.inr h) hc
      have bad : ∃ (q : V64 × Bool) (q2 : V64 × Bool), spec_l04Raise P.p (pad a.1) i = some q ∧ spec_l01Times P.p q.1 (pad (morefirst P b k i).1) = some q2 ∧ (if (!q.2) then some true else some (!q2.2)) = some true := by
        by_cases hr : (a.len - 1) * P.n ^ i ≤ 63
        · rw [if_pos (.inr hr)] at e8
          have hsa := sprP_len (P := P) (a := a) (fun e => h0 (len_zero.2 e)) i
          obtain ⟨w2, e9, _⟩ := timesT (P := P) (a := sprP a i) (b := morefirst P b k i) (by omega) hgl
          refine ⟨_, _, e8, e9, ?_⟩
          rw [decide_eq_false (by omega)]; rfl
        · rw [if_neg (by rintro (h | h); exact h0 h; exact hr h)] at e8
          obtain ⟨w2, e9, _⟩ := timesT (P := P) (a := 0) (b := morefirst P b k i) (by rw [len_zero.2 rfl]; omega) hgl
          have z : pad (0 : PP P).1 = vrep 64 0 := pad_nil
          rw [z] at e9
          exact ⟨_, _, e8, e9, rfl⟩
      obtain ⟨q, q2, b1, b2, b3⟩ := bad
      have a1 : spec_l10Series_l1 ((k + 1 : Nat) : Int) P.p (pad b.1) (pad (sprP b k * facP P false k).1, v) (pad a.1) false (i : Int) (pad t.1) = some (.inr (.inr (vrep 64 0, vrep 64 0, false))) := by
        simp only [spec_l10Series_l1, e1, e3, e4, e6, b1, b2, b3, Option.bind_some]
        rw [if_pos (decide_eq_true (by omega))]; rfl
      have a2 : impl_cut_sum_of_s_impl_prime_first_l1 ((k + 1 : Nat) : Int) P.p a.1 b.1 P.p 1 t.1 (sgnfirst i) (i : Int) = some (.inr (.inr (vrep 64 0, vrep 64 0, 3))) := by
        simp only [impl_cut_sum_of_s_impl_prime_first_l1, hsum, Option.bind_some]
        rw [if_pos (decide_eq_true (by omega))]; rfl
      exact ⟨none, (fun _ h => by cases h), by rw [loopM_eq]; simp only [a1, Option.bind_some], by rw [loopM_eq]; simp only [a2, Option.bind_some]⟩
end Go.Proofs.YtkbnegemdlnncaaGreat
/- Polynomials in arrays. -/
namespace Go.Proofs.YtkbnegemdlnncaaGreat
open Go.Abs

theorem pri_of {p : Int} (h : isP p = true) : ∃ P : Pri, p = P.p := by
  have hp := isP_pos h
  obtain ⟨n, hn⟩ : ∃ n : Nat, p = n := ⟨p.toNat, by omega⟩
  subst hn
  exact ⟨⟨n, h⟩, rfl⟩
/-- The polynomial in an array. -/
def ppv {P : Pri} (v : V64) (hb : IsB v) (hs : small P.p v = true) : PP P := ⟨row v, row_row (res_of_small hb hs)⟩
theorem ppv_len {P : Pri} {v : V64} {hb : IsB v} {hs : small P.p v = true} : (ppv v hb hs).len ≤ 64 := row_len v
theorem ppv_pad {P : Pri} {v : V64} {hb : IsB v} {hs : small P.p v = true} : pad (ppv v hb hs).1 = v := pad_row v
end Go.Proofs.YtkbnegemdlnncaaGreat
/- Numbers in a range. -/
namespace Go.Proofs.YtkbnegemdlnncaaGreat
open Go.Abs

theorem within_is (a b c : Int) : impl_within a b c = some (decide (b ≤ a ∧ a ≤ c)) := by
  simp only [impl_within]
  by_cases h : b ≤ a <;> simp [h]
theorem inS_is (a b c : Int) : spec_l01In a b c = some (decide (b ≤ a ∧ a ≤ c)) := by
  simp only [spec_l01In]
  by_cases h : b ≤ a <;> simp [h]
end Go.Proofs.YtkbnegemdlnncaaGreat
/- ExponentialUpTo: what both sides return. -/
namespace Go.Proofs.YtkbnegemdlnncaaGreat
open Go.Abs
theorem cutfirst {P : Pri} {a b : PP P} {k : Nat} (hb : b ≠ 0) (la : a.len ≤ 64) (lb : b.len ≤ 64) (hk : k ≤ 3) : ∃ (x y : V64) (c : Int) (ok : Bool) (x' y' : V64), impl_cut_sum_of_s_impl_prime_first P.p a.1 b.1 ((k + 1 : Nat) : Int) P.p 1 = some (x, y, c) ∧ spec_l10Series P.p (pad a.1) (pad b.1) ((k + 1 : Nat) : Int) false = some (x', y', ok) ∧
    ((ok = true ∧ c = 0 ∧ x' = x ∧ y' = y) ∨ (ok = false ∧ c = 3 ∧ x = vrep 64 0 ∧ y = vrep 64 0)) := by
  have hp := P.two
  have hw : IntKind.i64.wrap (((k + 1 : Nat) : Int) - 1) = (k : Int) := by rw [wrap64 (by omega) (by omega)]; omega
  have hsb : sprP b k ≠ 0 := by rw [sprP_pw]; exact pw_ne hb _
  have hl1 : (sprP b k * facP P false k).len = _ := len_mul hsb (facP_ne false k)
  have hsl := sprP_len hb k
  have hFp := len_pos (facP_ne (P := P) false k)
  have hb1 := len_pos hb
  have hbot := botfirst (a := a) hb lb hk
  have e1 := factS (P := P) false hk
  have e2 := raiseS (P := P) lb hk
  by_cases hB : (sprP b k * facP P false k).len ≤ 64
  · rw [if_pos hB] at hbot
    rw [if_pos (by omega)] at e1
    rw [if_pos (.inr (by omega))] at e2
    obtain ⟨w1, e3, e4⟩ := timesT (P := P) (a := facP P false k) (b := sprP b k) (by omega) (by omega)
    rw [e4 (.inr (.inr (by omega))), decide_eq_true (by omega), ppring.mul_comm] at e3
    obtain ⟨r, r1, r2, r3⟩ := cutloopfirst hb la lb hk hB true (k + 1) 0 0 (by omega) (by rw [len_zero.2 rfl]; omega)
    have z : pad (0 : PP P).1 = vrep 64 0 := pad_nil
    rw [z] at r2
    have r2' : loopM (fun s : Bool × Int × V64 => spec_l10Series_l1 ((k + 1 : Nat) : Int) P.p (pad b.1) (pad (sprP b k * facP P false k).1, true) (pad a.1) s.1 s.2.1 s.2.2) (false, 0, vrep 64 0) = _ := r2
    have r3' : loopM (fun s : List Int × Int × Int => impl_cut_sum_of_s_impl_prime_first_l1 ((k + 1 : Nat) : Int) P.p a.1 b.1 P.p 1 s.1 s.2.1 s.2.2) ([], 1, 0) = _ := r3
    cases r with
    | none =>
      refine ⟨vrep 64 0, vrep 64 0, 3, false, vrep 64 0, vrep 64 0, ?_, ?_, .inr ⟨rfl, rfl, rfl, rfl⟩⟩
      · simp only [impl_cut_sum_of_s_impl_prime_first, hbot, r3', Option.bind_some, Bool.not_true, Bool.false_eq_true, if_false]
      · simp only [spec_l10Series, hw, e1, e2, e3, r2', Option.bind_some, Bool.not_true, Bool.false_eq_true, if_false]
    | some t =>
      have lt := r1 t rfl
      have hBn : sprP b k * facP P false k ≠ 0 := fun e => by rcases pp_dom _ _ e with h | h; exact hsb h; exact facP_ne false k h
      obtain ⟨x, y, f1, f2⟩ := cut_end lt hB hBn
      refine ⟨x, y, 0, true, x, y, ?_, ?_, .inl ⟨rfl, rfl, rfl, rfl⟩⟩
      · simp only [impl_cut_sum_of_s_impl_prime_first, hbot, r3', Option.bind_some, Bool.not_true, Bool.false_eq_true, if_false]
        exact f1
      · simp only [spec_l10Series, hw, e1, e2, e3, r2', Option.bind_some, Bool.not_true, Bool.false_eq_true, if_false]
        exact f2
  · rw [if_neg hB] at hbot
    refine ⟨vrep 64 0, vrep 64 0, 3, false, vrep 64 0, vrep 64 0, ?_, ?_, .inr ⟨rfl, rfl, rfl, rfl⟩⟩
    · simp only [impl_cut_sum_of_s_impl_prime_first, hbot, Option.bind_some, Bool.not_false, if_true]
    · have bad : ∃ (q q2 q3 : V64 × Bool), spec_l04Factorial P.p k false = some q ∧ spec_l04Raise P.p (pad b.1) k = some q2 ∧ spec_l01Times P.p q.1 q2.1 = some q3 ∧ (if (!q.2) then (some true) else (if (!q2.2) then (some true) else (some (!q3.2)))) = some true := by
        have z : pad (0 : PP P).1 = vrep 64 0 := pad_nil
        have zl : (0 : PP P).len ≤ 64 := by rw [len_zero.2 rfl]; omega
        by_cases h1 : (facP P false k).len ≤ 64
        · rw [if_pos h1] at e1
          by_cases h2 : b.len = 0 ∨ (b.len - 1) * P.n ^ k ≤ 63
          · rw [if_pos h2] at e2
            obtain ⟨w1, e3, _⟩ := timesT (P := P) (a := facP P false k) (b := sprP b k) h1 (by omega)
            refine ⟨_, _, _, e1, e2, e3, ?_⟩
            rw [decide_eq_false (by omega)]; rfl
          · rw [if_neg h2] at e2
            obtain ⟨w1, e3, _⟩ := timesT (P := P) (a := facP P false k) (b := 0) h1 zl
            rw [z] at e3
            exact ⟨_, _, _, e1, e2, e3, rfl⟩
        · rw [if_neg h1] at e1
          by_cases h2 : b.len = 0 ∨ (b.len - 1) * P.n ^ k ≤ 63
          · rw [if_pos h2] at e2
            obtain ⟨w1, e3, _⟩ := timesT (P := P) (a := 0) (b := sprP b k) zl (by omega)
            rw [z] at e3
            exact ⟨_, _, _, e1, e2, e3, rfl⟩
          · rw [if_neg h2] at e2
            obtain ⟨w1, e3, _⟩ := timesT (P := P) (a := 0) (b := 0) zl zl
            rw [z] at e3
            exact ⟨_, _, _, e1, e2, e3, rfl⟩
      obtain ⟨q, q2, q3, c1, c2, c3, c4⟩ := bad
      simp only [spec_l10Series, hw, c1, c2, c3, c4, Option.bind_some, if_true]
theorem expo_both {p : Int} {a b : V64} {n : Int} (ha : IsB a) (hb : IsB b) : ∃ r, spec_ExponentialUpTo p a b n = some r ∧ impl_ExponentialUpTo p a b n = some r := by
  have hinI : impl_within n 1 4 = some (decide (1 ≤ n ∧ n ≤ 4)) := within_is n 1 4
  have hinS : spec_l01In n 1 4 = some (decide (1 ≤ n ∧ n ≤ 4)) := inS_is n 1 4
  simp only [spec_ExponentialUpTo, impl_ExponentialUpTo, spec_l10Cut, spec_l10Code, impl_quotientCode, hinI, hinS, Option.bind_some]
  rw [code_is (by simp [ha, hb]) (by simp), polysCode_is (by simp [ha, hb]) (by simp)]
  simp only [List.all_cons, List.all_nil, Bool.and_true, Option.bind_some]
  by_cases hok : isP p = true ∧ small p a = true ∧ small p b = true
  · obtain ⟨hp, h1, h2⟩ := hok
    obtain ⟨P, rfl⟩ := pri_of hp
    rw [hp, h1, h2]
    simp only [Bool.and_self, if_true, bne_self_eq_false, Bool.false_eq_true, if_false]
    by_cases hn : 1 ≤ n ∧ n ≤ 4
    · by_cases hz : b = vrep 64 0
      · exact ⟨(vrep 64 0, vrep 64 0, 5), by simp [hz, hn], by simp [hz, hn]⟩
      · obtain ⟨k, rfl⟩ : ∃ k : Nat, n = ((k + 1 : Nat) : Int) := ⟨(n - 1).toNat, by omega⟩
        have hbn : ppv b hb h2 ≠ 0 := fun e => hz (by
          have h3 : (row b).length = 0 := len_zero.2 e
          rw [← pad_row b, List.eq_nil_of_length_eq_zero h3, pad_nil])
        obtain ⟨x, y, c, ok, x', y', f1, f2, f3⟩ := cutfirst (P := P) (a := ppv a ha h1) (b := ppv b hb h2) (k := k) hbn ppv_len ppv_len (by omega)
        rw [ppv_pad, ppv_pad] at f2
        have f1' : impl_cut_sum_of_s_impl_prime_first P.p (row a) (row b) ((k + 1 : Nat) : Int) P.p 1 = some (x, y, c) := f1
        refine ⟨(x, y, c), ?_, ?_⟩
        · rw [decide_eq_true hn, decide_eq_false hz]
          simp only [Bool.not_true, Bool.false_eq_true, if_false, Option.bind_some, f2]
          rcases f3 with ⟨rfl, rfl, rfl, rfl⟩ | ⟨rfl, rfl, rfl, rfl⟩ <;> rfl
        · rw [decide_eq_true hn, decide_eq_false hz]
          simp only [Bool.not_true, Bool.false_eq_true, if_false, Option.bind_some, row_is ha, row_is hb, f1']
          rfl
    · by_cases hz : b = vrep 64 0
      · exact ⟨(vrep 64 0, vrep 64 0, 2), by simp [hz, hn], by simp [hz, hn]⟩
      · exact ⟨(vrep 64 0, vrep 64 0, 2), by simp [hz, hn], by simp [hz, hn]⟩
  · have h : (isP p && (small p a && small p b)) = false := by
      cases h1 : isP p <;> cases h2 : small p a <;> cases h3 : small p b <;> simp_all
    rw [h]
    exact ⟨(vrep 64 0, vrep 64 0, 1), by simp, by simp⟩
end Go.Proofs.YtkbnegemdlnncaaGreat
/- The brackets of second factorials. -/
namespace Go.Proofs.YtkbnegemdlnncaaGreat
open Go.Abs

theorem second_is {p i : Nat} (hp : 2 ≤ p ∧ p ≤ 7) (hi0 : p ^ i ≤ 400000) : impl_prime_second p i = some ((List.range i).map (facL p i true)) := by
  have hi := exp_small hp.1 hi0
  obtain ⟨s, g1, g2⟩ := loopM_for (body := fun s : Int × List (List Int) => impl_prime_second_l1 (i : Int) p s.1 s.2) (fun i s => ((i : Int), s)) (fun s => s) i
    (fun j s => s = (List.range j).map (facL p i true)) (fun j s hj hI => by
      subst hI
      refine ⟨_, ?_, rfl⟩
      have ew : IntKind.i64.wrap ((j : Int) + 1) = ((j + 1 : Nat) : Int) := by rw [wrap64 (by omega) (by omega)]; rfl
      have hb : impl_prime_bracket p ((j + 1 : Nat) : Int) 0 = some (brk p (j + 1) 0) := bracket_is (i := j + 1) (j := 0) hp (Nat.le_trans (ppow_mono hp.1 (show j + 1 ≤ i by omega)) hi0) (by simp)
      simp only [impl_prime_second_l1]
      rw [if_pos (decide_eq_true (by omega)), ew, hb]
      simp only [Option.bind_some]
      rw [ifp_pos (by simp; omega), List.range_succ, List.map_append]
      rfl) (fun s hI => by
      simp only [impl_prime_second_l1]
      rw [if_neg (by rw [decide_eq_true_eq]; omega)]) i 0 [] (by omega) rfl
  have g1' : loopM (fun s : Int × List (List Int) => impl_prime_second_l1 (i : Int) p s.1 s.2) (0, []) = some s := g1
  simp only [impl_prime_second, g1', g2, Option.bind_some]
end Go.Proofs.YtkbnegemdlnncaaGreat
/- Sums that are cut off, with second factorials. -/
namespace Go.Proofs.YtkbnegemdlnncaaGreat
open Go.Abs
variable {P : Pri}
theorem listsecond {i : Nat} (hi : i ≤ 3) : impl_prime_second P.p i = some (facM P true i) := second_is (by have := P.is; omega) (by have := small3 (P := P) hi; omega)
theorem botsecond {a b : PP P} (hb : b ≠ 0) (lb : b.len ≤ 64) {k : Nat} (hk : k ≤ 3) : impl_cut_bottom_of_s_impl_prime_second P.p a.1 b.1 ((k + 1 : Nat) : Int) P.p = some (if (sprP b k * facP P true k).len ≤ 64 then ((sprP b k * facP P true k).1, true) else ([], false)) := by
  have hp := P.two
  have hs := small3 (P := P) hk
  have hq := P.pow_pos k
  have hb1 := len_pos hb
  have hdF := facM_degs (P := P) true hk
  have hdM : degs (facM P true k) ≤ 2000 := by
    have gen : ∀ M : List (List Int), (∀ x ∈ M, x.length ≤ 400) → degs M ≤ M.length * 400 := by
      intro M
      induction M with
      | nil => intro _; simp [degs]
      | cons x M ih =>
        intro h
        have h1 := ih fun y hy => h y (by simp [hy])
        have h2 := h x (by simp)
        simp only [degs, List.length_cons]; omega
    have := gen (facM P true k) fun x hx => by
      obtain ⟨j, hj, rfl⟩ := List.mem_map.1 hx
      have hj' := List.mem_range.1 hj
      have hle : ∀ e, e ≤ 3 → P.n ^ e ≤ 343 := fun e he => small3 he
      unfold facL
      simp only [if_true]
      rw [brk_len P.ge (show 0 < j + 1 by omega)]
      have := hle (j + 1) (by omega)
      omega
    have hl : (facM P true k).length = k := by simp [facM]
    rw [hl] at this; omega
  have hlen : (sprP b k * facP P true k).len = (b.len - 1) * P.n ^ k + degs (facM P true k) + 1 := by
    have hsb : sprP b k ≠ 0 := by rw [sprP_pw]; exact pw_ne hb _
    rw [len_mul hsb (facP_ne true k), sprP_len hb, hdF]; omega
  have hbq : (b.len - 1) * P.n ^ k ≤ 63 * 343 := Nat.mul_le_mul (by omega) hs
  have hr : impl_row_degree b.1 = some ((b.len - 1 : Nat) : Int) := by rw [degI b (by omega)]; congr 1; omega
  have hw : IntKind.i64.wrap (((k + 1 : Nat) : Int) - 1) = (k : Int) := by rw [wrap64 (by omega) (by omega)]; omega
  have hmul : IntKind.i64.wrap (((b.len - 1 : Nat) : Int) * ((P.n ^ k : Nat) : Int)) = (((b.len - 1) * P.n ^ k : Nat) : Int) := by
    have : ((b.len - 1 : Nat) : Int) * ((P.n ^ k : Nat) : Int) = (((b.len - 1) * P.n ^ k : Nat) : Int) := by rw [Int.natCast_mul]
    rw [this, wrap64 (by omega) (by omega)]
  obtain ⟨M, hM⟩ : ∃ M, facM P true k = M := ⟨_, rfl⟩
  have hMok : ∀ x ∈ M, x.length ≠ 0 ∧ x.length ≤ 500000 := fun x hx => by
    rw [← hM] at hx; exact ⟨(facM_ok true hk x hx).2.1, (facM_ok true hk x hx).2.2⟩
  have hMl : M.length ≤ 3 := by rw [← hM]; simp [facM]; omega
  obtain ⟨c, hc⟩ : ∃ c, (b.len - 1) * P.n ^ k = c := ⟨_, rfl⟩
  have hloop : loopM (fun s : Int × Int => impl_cut_bottom_of_s_impl_prime_second_l1 M s.1 s.2) ((c : Int), 0) = some ((c + degs M : Nat) : Int) := by
    obtain ⟨s, g1, g2⟩ := loopM_for (body := fun s : Int × Int => impl_cut_bottom_of_s_impl_prime_second_l1 M s.1 s.2) (fun i (s : Nat) => ((s : Int), (i : Int))) (fun s => (s : Int)) M.length
      (fun i s => s = c + degs (M.take i)) (fun i s hi hI => by
        subst hI
        have hsum : degs (M.take i) + degs (M.drop i) = degs M := by rw [← degs_app, List.take_append_drop]
        obtain ⟨b1, b2⟩ := hMok M[i] (List.getElem_mem _)
        have hdi : M.drop i = M[i] :: M.drop (i + 1) := List.drop_eq_getElem_cons hi
        rw [hdi] at hsum
        simp only [degs] at hsum
        have er : rd M i = M[i] := by simp [rd, hi]
        rw [hM] at hdM
        refine ⟨c + degs (M.take (i + 1)), ?_, rfl⟩
        simp only [impl_cut_bottom_of_s_impl_prime_second_l1, Int.toNat_natCast, er, impl_row_degree, Option.bind_some]
        rw [if_pos (decide_eq_true (by omega)), ifp_pos (by omega), wrap64 (n := (M[i].length : Int) - 1) (by omega) (by omega), wrap64 (by omega) (by omega), wrap64 (by omega) (by omega), List.take_succ_eq_append_getElem hi, degs_app]
        simp only [degs]
        congr 3
        omega) (fun s hI => by
        simp only [impl_cut_bottom_of_s_impl_prime_second_l1]
        rw [if_neg (by rw [decide_eq_true_eq]; omega)]) M.length 0 c (by omega) (by simp [degs])
    rw [List.take_length] at g2
    rw [← g2]; exact g1
  have hfs := listsecond (P := P) hk
  have hsp := spreadI (P := P) lb hk
  rw [hM] at hfs hdM
  rw [hM] at hlen
  simp only [impl_cut_bottom_of_s_impl_prime_second, hr, hw, normI hk, hmul, hc, hfs, hloop, Option.bind_some]
  rw [hlen, hc]
  by_cases hq2 : c + degs M + 1 ≤ 64
  · rw [if_neg (by rw [decide_eq_true_eq]; omega), if_pos hq2]
    have hF : (facP P true k).len ≤ 64 := by rw [hdF, hM]; omega
    have hpr := facRow true hk hF
    rw [hM] at hpr
    have hsl : (sprP b k).len ≤ 64 := by rw [sprP_len hb, hc]; omega
    have ht : impl_prime_times P.p (sprP b k).1 (facP P true k).1 = some (sprP b k * facP P true k).1 := timesI (by omega) (by omega)
    simp only [hsp, hpr, ht, Option.bind_some]
  · rw [if_pos (decide_eq_true (by omega)), if_neg hq2]
/-- What the denominator has more than a summand. -/
def moresecond (P : Pri) (b : PP P) (k i : Nat) : PP P := pquo (facP P true k) (facP P true i) * pw b (P.n ^ k - P.n ^ i)
theorem facq_second {i k : Nat} (h : i ≤ k) : facP P true k = pquo (facP P true k) (facP P true i) * facP P true i := by
  have h1 := (pdiv (facP P true k) (facP_ne true i)).1
  rw [(prem_iff (facP_ne true i)).2 (facP_dv true h), ppring.add_zero] at h1
  exact h1
theorem pown_le2 {i k : Nat} (h : i ≤ k) : P.n ^ i ≤ P.n ^ k := Nat.pow_le_pow_right (by have := P.is; omega) h
theorem more_second {b : PP P} {i k : Nat} (h : i ≤ k) : sprP b k * facP P true k = moresecond P b k i * (facP P true i * sprP b i) := by
  have h1 := facq_second (P := P) h
  have h2 : pw b (P.n ^ k) = pw b (P.n ^ k - P.n ^ i) * pw b (P.n ^ i) := by rw [← ppring.pw_add]; congr 1; have := pown_le2 (P := P) h; omega
  rw [sprP_pw, sprP_pw, h2]
  unfold moresecond
  generalize pquo (facP P true k) (facP P true i) = R at h1 ⊢
  rw [h1]
  simp only [ppring.mul_assoc, ppring.mul_comm, ppring.mul_left_comm]
theorem more_ne_second {b : PP P} (hb : b ≠ 0) {i k : Nat} (h : i ≤ k) : moresecond P b k i ≠ 0 := fun e => by
  have h1 := more_second (P := P) (b := b) h
  rw [e, ppring.zero_mul] at h1
  rcases pp_dom _ _ h1 with h2 | h2
  · rw [sprP_pw] at h2; exact pw_ne hb _ h2
  · exact facP_ne true k h2
theorem sumsecond {a b : PP P} (hb : b ≠ 0) (la : a.len ≤ 64) (lb : b.len ≤ 64) {i k : Nat} (hk : k ≤ 3) (hi : i ≤ k) (hB : (sprP b k * facP P true k).len ≤ 64) :
    impl_cut_summand_of_s_impl_prime_second P.p a.1 b.1 ((k + 1 : Nat) : Int) P.p (i : Int) = some (if a.len = 0 ∨ (a.len - 1) * P.n ^ i + (moresecond P b k i).len ≤ 64 then ((sprP a i * moresecond P b k i).1, true) else ([], false)) := by
  have hp := P.two
  have haa : a.1.length = a.len := rfl
  by_cases h0 : a.len = 0
  · have e := len_zero.1 h0
    subst e
    simp only [impl_cut_summand_of_s_impl_prime_second]
    rw [if_pos (by rw [beq_iff_eq]; omega), if_pos (.inl h0), sprP_zero, ppring.zero_mul]; rfl
  · have hs := small3 (P := P) hk
    have hsi := small3 (P := P) (show i ≤ 3 by omega)
    have hle := pown_le2 (P := P) hi
    have hq := P.pow_pos i
    have ha : a ≠ 0 := fun e => h0 (len_zero.2 e)
    have hb1 := len_pos hb
    have hsb : sprP b k ≠ 0 := by rw [sprP_pw]; exact pw_ne hb _
    have hl1 : (sprP b k * facP P true k).len = _ := len_mul hsb (facP_ne true k)
    have hsl := sprP_len hb k
    have hFp := len_pos (facP_ne (P := P) true k)
    have hFk : (facP P true k).len ≤ 64 := by omega
    have hFi : (facP P true i).len ≤ 64 := Nat.le_trans (dv_len (facP_dv true hi) (facP_ne true k)) hFk
    have hmn := more_ne_second (P := P) hb hi
    have hRn : pquo (facP P true k) (facP P true i) ≠ 0 := fun e => by
      apply hmn; unfold moresecond; rw [e, ppring.zero_mul]
    have hRl : (pquo (facP P true k) (facP P true i)).len ≤ 64 := by
      have : (pquo (facP P true k) (facP P true i)).len ≤ (facP P true k).len + 1 - (facP P true i).len := quo_len P.p _ _
      have := len_pos (facP_ne (P := P) true i); omega
    have hRp := len_pos hRn
    have hml : (moresecond P b k i).len = (pquo (facP P true k) (facP P true i)).len + (b.len - 1) * (P.n ^ k - P.n ^ i) := by
      unfold moresecond
      rw [len_mul hRn (pw_ne hb _), pw_len hb]; omega
    have hr : impl_row_degree b.1 = some ((b.len - 1 : Nat) : Int) := by rw [degI b (by omega)]; congr 1; omega
    have hra : impl_row_degree a.1 = some ((a.len - 1 : Nat) : Int) := by rw [degI a (by omega)]; congr 1; omega
    have hrR : impl_row_degree (pquo (facP P true k) (facP P true i)).1 = some (((pquo (facP P true k) (facP P true i)).len - 1 : Nat) : Int) := by rw [degI _ (by omega)]; congr 1; omega
    have hw : IntKind.i64.wrap (((k + 1 : Nat) : Int) - 1) = (k : Int) := by rw [wrap64 (by omega) (by omega)]; omega
    have hw2 : IntKind.i64.wrap (((P.n ^ k : Nat) : Int) - ((P.n ^ i : Nat) : Int)) = ((P.n ^ k - P.n ^ i : Nat) : Int) := by rw [wrap64 (by omega) (by omega)]; omega
    obtain ⟨x, hx⟩ : ∃ x, (a.len - 1) * P.n ^ i = x := ⟨_, rfl⟩
    obtain ⟨y, hy⟩ : ∃ y, (b.len - 1) * (P.n ^ k - P.n ^ i) = y := ⟨_, rfl⟩
    have hxb : x ≤ 63 * 343 := by rw [← hx]; exact Nat.mul_le_mul (by omega) hsi
    have hyb : y ≤ 63 * 343 := by rw [← hy]; exact Nat.mul_le_mul (by omega) (by omega)
    have hm1 : IntKind.i64.wrap (((a.len - 1 : Nat) : Int) * ((P.n ^ i : Nat) : Int)) = (x : Int) := by
      rw [← Int.natCast_mul, hx, wrap64 (by omega) (by omega)]
    have hm2 : IntKind.i64.wrap (((b.len - 1 : Nat) : Int) * ((P.n ^ k - P.n ^ i : Nat) : Int)) = (y : Int) := by
      rw [← Int.natCast_mul, hy, wrap64 (by omega) (by omega)]
    have f1 := listsecond (P := P) hk
    have f2 := listsecond (P := P) (show i ≤ 3 by omega)
    have f3 := facRow true hk hFk
    have f4 := facRow true (show i ≤ 3 by omega) hFi
    have f5 := pdivI (a := facP P true k) (facP_ne true i) (by omega) (by omega)
    simp only [impl_cut_summand_of_s_impl_prime_second]
    rw [if_neg (by rw [beq_iff_eq]; omega)]
    simp only [normI (show i ≤ 3 by omega), normI hk, hw, f1, f2, f3, f4, f5, hr, hra, hrR, hw2, hm1, hm2, letp, Option.bind_some]
    rw [wrap64 (n := (x : Int) + y) (by omega) (by omega), wrap64 (by omega) (by omega), hml, hx, hy]
    by_cases hc : x + ((pquo (facP P true k) (facP P true i)).len + y) ≤ 64
    · rw [if_neg (by rw [decide_eq_true_eq]; omega), if_pos (.inr hc)]
      have hsa := sprP_len ha i
      rw [hx] at hsa
      have g1 := spreadI (P := P) la (show i ≤ 3 by omega)
      have g2 : impl_prime_times P.p (sprP a i).1 (pquo (facP P true k) (facP P true i)).1 = some (sprP a i * pquo (facP P true k) (facP P true i)).1 := timesI (by omega) (by omega)
      have g3 : impl_prime_raised P.p b.1 ((P.n ^ k - P.n ^ i : Nat) : Int) = some (pw b (P.n ^ k - P.n ^ i)).1 := by
        rw [raised_is hp b.2 (show b.len ≤ 1000 by omega) (by omega)]
        exact congrArg some (pow_pw b _)
      have hpl := pw_len hb (P.n ^ k - P.n ^ i)
      rw [hy] at hpl
      have hsl2 : (sprP a i * pquo (facP P true k) (facP P true i)).len ≤ (sprP a i).len + (pquo (facP P true k) (facP P true i)).len - 1 := mul_len _ _ _
      have g4 : impl_prime_times P.p (sprP a i * pquo (facP P true k) (facP P true i)).1 (pw b (P.n ^ k - P.n ^ i)).1 = some (sprP a i * pquo (facP P true k) (facP P true i) * pw b (P.n ^ k - P.n ^ i)).1 := timesI (by omega) (by omega)
      simp only [g1, g2, g3, g4, Option.bind_some]
      unfold moresecond
      rw [ppring.mul_assoc]
    · rw [if_pos (decide_eq_true (by omega)), if_neg (by rintro (h | h); exact h0 h; exact hc h)]
/-- The sign of a summand. -/
def sgnsecond (i : Nat) : Int := if i % 2 = 1 then -1 else 1
theorem cutloopsecond {a b : PP P} (hb : b ≠ 0) (la : a.len ≤ 64) (lb : b.len ≤ 64) {k : Nat} (hk : k ≤ 3) (hB : (sprP b k * facP P true k).len ≤ 64) (v : Bool) : ∀ (m i : Nat) (t : PP P), i + m = k + 1 → t.len ≤ 64 →
    ∃ r : Option (PP P), (∀ t, r = some t → t.len ≤ 64) ∧
      loopM (fun s : Bool × Int × V64 => spec_l10Series_l1 ((k + 1 : Nat) : Int) P.p (pad b.1) (pad (sprP b k * facP P true k).1, v) (pad a.1) s.1 s.2.1 s.2.2) (true, (i : Int), pad t.1) = some (match r with | some t => .inl (pad t.1) | none => .inr (vrep 64 0, vrep 64 0, false)) ∧
      loopM (fun s : List Int × Int × Int => impl_cut_sum_of_s_impl_prime_second_l1 ((k + 1 : Nat) : Int) P.p a.1 b.1 P.p (-1) s.1 s.2.1 s.2.2) (t.1, sgnsecond i, (i : Int)) = some (match r with | some t => .inl t.1 | none => .inr (vrep 64 0, vrep 64 0, 3))
  | 0, i, t, hi, lt => by
    have hp := P.two
    have a1 : spec_l10Series_l1 ((k + 1 : Nat) : Int) P.p (pad b.1) (pad (sprP b k * facP P true k).1, v) (pad a.1) true (i : Int) (pad t.1) = some (.inr (.inl (pad t.1))) := by
      simp only [spec_l10Series_l1]
      rw [if_neg (by rw [decide_eq_true_eq]; omega)]
    have a2 : impl_cut_sum_of_s_impl_prime_second_l1 ((k + 1 : Nat) : Int) P.p a.1 b.1 P.p (-1) t.1 (sgnsecond i) (i : Int) = some (.inr (.inl t.1)) := by
      simp only [impl_cut_sum_of_s_impl_prime_second_l1]
      rw [if_neg (by rw [decide_eq_true_eq]; omega)]
    exact ⟨some t, fun _ h => by cases h; exact lt, by rw [loopM_eq]; simp only [a1, Option.bind_some], by rw [loopM_eq]; simp only [a2, Option.bind_some]⟩
  | m + 1, i, t, hi, lt => by
    have hp := P.two
    have hik : i ≤ k := by omega
    have hs := small3 (P := P) hk
    have hb1 := len_pos hb
    have hsb : sprP b k ≠ 0 := by rw [sprP_pw]; exact pw_ne hb _
    have hl1 : (sprP b k * facP P true k).len = _ := len_mul hsb (facP_ne true k)
    have hsl := sprP_len hb k
    have hFp := len_pos (facP_ne (P := P) true k)
    have hFk : (facP P true k).len ≤ 64 := by omega
    have hFi : (facP P true i).len ≤ 64 := Nat.le_trans (dv_len (facP_dv true hik) (facP_ne true k)) hFk
    have hFp2 := len_pos (facP_ne (P := P) true i)
    have hle := pown_le2 (P := P) hik
    have hsli := sprP_len hb i
    have hmle : (b.len - 1) * P.n ^ i ≤ (b.len - 1) * P.n ^ k := Nat.mul_le_mul_left _ hle
    have hFle : (facP P true i).len ≤ (facP P true k).len := dv_len (facP_dv true hik) (facP_ne true k)
    have hsbi : sprP b i ≠ 0 := by rw [sprP_pw]; exact pw_ne hb _
    have hshare : (facP P true i * sprP b i).len = _ := len_mul (facP_ne true i) hsbi
    have hsn : facP P true i * sprP b i ≠ 0 := fun e => by rcases pp_dom _ _ e with h | h; exact facP_ne true i h; exact hsbi h
    have hmn := more_ne_second (P := P) hb hik
    have e1 := factS (P := P) true (show i ≤ 3 by omega)
    rw [if_pos hFi] at e1
    have e2 := raiseS (P := P) lb (show i ≤ 3 by omega)
    rw [if_pos (.inr (by omega))] at e2
    have e3 : spec_l10Raised P.p (pad b.1) i = some (pad (sprP b i).1) := by simp only [spec_l10Raised, e2, Option.bind_some]
    obtain ⟨w1, e4, e5⟩ := timesT (P := P) (a := facP P true i) (b := sprP b i) hFi (by omega)
    rw [e5 (.inr (.inr (by omega)))] at e4
    have e6 := divS (a := sprP b k * facP P true k) hsn hB (by omega)
    have e7 : pquo (sprP b k * facP P true k) (facP P true i * sprP b i) = moresecond P b k i := (quo_is hsn (r := 0) (by rw [ppring.add_zero]; exact more_second hik) (by rw [len_zero.2 rfl]; have := len_pos hsn; omega)).1
    rw [e7] at e6
    have hgl : (moresecond P b k i).len ≤ 64 := by
      have hBn : sprP b k * facP P true k ≠ 0 := fun e => by rcases pp_dom _ _ e with h | h; exact hsb h; exact facP_ne true k h
      have hdv : Dv (moresecond P b k i) (sprP b k * facP P true k) := ⟨facP P true i * sprP b i, by rw [ppring.mul_comm (facP P true i * sprP b i) (moresecond P b k i)]; exact more_second hik⟩
      exact Nat.le_trans (dv_len hdv hBn) hB
    have hgp := len_pos hmn
    have e8 := raiseS (P := P) la (show i ≤ 3 by omega)
    have hsum := sumsecond (P := P) hb la lb hk hik hB
    have hsg : IntKind.i64.wrap (sgnsecond i * (-1)) = sgnsecond (i + 1) ∧ (sgnsecond i = 1 ∨ sgnsecond i = -1) := by
      have h4 : i = 0 ∨ i = 1 ∨ i = 2 ∨ i = 3 := by omega
      rcases h4 with rfl | rfl | rfl | rfl <;> exact ⟨rfl, by decide⟩
    have hspsg' : (Option.bind (α := (Bool × Bool)) ((if true = true then (some ((true, ((Int.tmod (i : Int) 2) == 1)))) else (some (false, false)))) fun z => match z with | (x434, x435) => (if x435 = true then (some (x434, (-1 : Int))) else (some (x434, (1 : Int))))) = some (true, sgnsecond i) := by
      have h4 : i = 0 ∨ i = 1 ∨ i = 2 ∨ i = 3 := by omega
      rcases h4 with rfl | rfl | rfl | rfl <;> rfl
    by_cases hc : a.len = 0 ∨ (a.len - 1) * P.n ^ i + (moresecond P b k i).len ≤ 64
    · rw [if_pos hc] at hsum
      rw [if_pos (by
        rcases hc with h | h
        · exact .inl h
        · exact .inr (by omega))] at e8
      have hsa : (sprP a i).len = 0 ∨ (moresecond P b k i).len = 0 ∨ (sprP a i).len + (moresecond P b k i).len ≤ 65 := by
        by_cases h0 : a.len = 0
        · left; rw [len_zero.1 h0, sprP_zero]; exact len_zero.2 rfl
        · right; right
          have := sprP_len (P := P) (a := a) (fun e => h0 (len_zero.2 e)) i
          rcases hc with h | h
          · exact absurd h h0
          · omega
      have hsal : (sprP a i).len ≤ 64 := by omega
      obtain ⟨w2, e9, e10⟩ := timesT (P := P) (a := sprP a i) (b := moresecond P b k i) hsal hgl
      rw [e10 hsa, decide_eq_true hsa] at e9
      have hol : (sprP a i * moresecond P b k i).len ≤ 64 := by
        have : (sprP a i * moresecond P b k i).len ≤ (sprP a i).len + (moresecond P b k i).len - 1 := mul_len _ _ _
        rcases hsa with h | h | h
        · rw [len_zero.1 h, ppring.zero_mul, len_zero.2 rfl]; omega
        · omega
        · omega
      obtain ⟨o, ho⟩ : ∃ o, sprP a i * moresecond P b k i = o := ⟨_, rfl⟩
      rw [ho] at hol hsum e9
      obtain ⟨t', ht'⟩ : ∃ t' : PP P, t'.1 = comb P.p t.1 o.1 (sgnsecond i) := ⟨⟨_, comb_row P.pos _ _ _⟩, rfl⟩
      have lt' : t'.len ≤ 64 := by
        have := comb_len P.p t.1 o.1 (sgnsecond i)
        show t'.1.length ≤ 64
        rw [ht']
        have h1 : t.1.length = t.len := rfl
        have h2 : o.1.length = o.len := rfl
        omega
      have hk1 : -1099511627776 ≤ sgnsecond i ∧ sgnsecond i ≤ 1099511627776 := by rcases hsg.2 with h | h <;> rw [h] <;> omega
      have e11 : spec_l01Add P.p (pad t.1) (pad o.1) (sgnsecond i) = some (pad t'.1) := by rw [ht']; exact add_pad P.sm t.2 o.2 lt hol hk1
      have e12 : impl_prime_combine P.p t.1 o.1 (sgnsecond i) = some t'.1 := by rw [ht']; exact combine_is P.sm t.ent o.ent (show t.len ≤ 1000000 by omega) (show o.len ≤ 1000000 by omega) hk1
      have a1 : spec_l10Series_l1 ((k + 1 : Nat) : Int) P.p (pad b.1) (pad (sprP b k * facP P true k).1, v) (pad a.1) true (i : Int) (pad t.1) = some (.inl (true, ((i + 1 : Nat) : Int), pad t'.1)) := by
        unfold spec_l10Series_l1
        rw [if_pos (decide_eq_true (by omega)), e1, Option.bind_some, e3, Option.bind_some, e4, Option.bind_some, e6, Option.bind_some, e8, Option.bind_some, e9, Option.bind_some]
        show (Option.bind (α := (Bool × Int)) (Option.bind (α := (Bool × Bool)) ((if true = true then (some ((true, ((Int.tmod (i : Int) 2) == 1)))) else (some (false, false)))) fun z => match z with | (x434, x435) => (if x435 = true then (some (x434, (-1 : Int))) else (some (x434, (1 : Int))))) fun z => match z with | (x428, x429) => (Option.bind (spec_l01Add P.p (pad t.1) (pad o.1) x429) fun r443 => (some (Sum.inl (x428, IntKind.i64.wrap ((i : Int) + 1), r443)) : Option ((Bool × Int × V64) ⊕ (V64 ⊕ (V64 × V64 × Bool)))))) = _
        rw [hspsg']
        show (Option.bind (spec_l01Add P.p (pad t.1) (pad o.1) (sgnsecond i)) fun r443 => (some (Sum.inl (true, IntKind.i64.wrap ((i : Int) + 1), r443)) : Option ((Bool × Int × V64) ⊕ (V64 ⊕ (V64 × V64 × Bool))))) = _
        rw [e11, wrap64 (by omega) (by omega)]
        rfl
      have a2 : impl_cut_sum_of_s_impl_prime_second_l1 ((k + 1 : Nat) : Int) P.p a.1 b.1 P.p (-1) t.1 (sgnsecond i) (i : Int) = some (.inl (t'.1, sgnsecond (i + 1), ((i + 1 : Nat) : Int))) := by
        simp only [impl_cut_sum_of_s_impl_prime_second_l1, hsum, e12, hsg.1, Option.bind_some, Bool.not_true, Bool.false_eq_true, if_false]
        rw [if_pos (decide_eq_true (by omega)), wrap64 (by omega) (by omega)]
        rfl
      obtain ⟨r, r1, r2, r3⟩ := cutloopsecond hb la lb hk hB v m (i + 1) t' (by omega) lt'
      exact ⟨r, r1, by rw [loopM_eq]; simp only [a1, Option.bind_some]; exact r2, by rw [loopM_eq]; simp only [a2, Option.bind_some]; exact r3⟩
    · rw [if_neg hc] at hsum
      have h0 : a.len ≠ 0 := fun h => hc (.inl h)
      have hcn : 64 < (a.len - 1) * P.n ^ i + (moresecond P b k i).len := by
        rcases Nat.lt_or_ge 64 ((a.len - 1) * P.n ^ i + (moresecond P b k i).len) with h | h
        · exact h
        · exact absurd (.inr h) hc
      have bad : ∃ (q : V64 × Bool) (q2 : V64 × Bool), spec_l04Raise P.p (pad a.1) i = some q ∧ spec_l01Times P.p q.1 (pad (moresecond P b k i).1) = some q2 ∧ (if (!q.2) then some true else some (!q2.2)) = some true := by
        by_cases hr : (a.len - 1) * P.n ^ i ≤ 63
        · rw [if_pos (.inr hr)] at e8
          have hsa := sprP_len (P := P) (a := a) (fun e => h0 (len_zero.2 e)) i
          obtain ⟨w2, e9, _⟩ := timesT (P := P) (a := sprP a i) (b := moresecond P b k i) (by omega) hgl
          refine ⟨_, _, e8, e9, ?_⟩
          rw [decide_eq_false (by omega)]; rfl
        · rw [if_neg (by rintro (h | h); exact h0 h; exact hr h)] at e8
          obtain ⟨w2, e9, _⟩ := timesT (P := P) (a := 0) (b := moresecond P b k i) (by rw [len_zero.2 rfl]; omega) hgl
          have z : pad (0 : PP P).1 = vrep 64 0 := pad_nil
          rw [z] at e9
          exact ⟨_, _, e8, e9, rfl⟩
      obtain ⟨q, q2, b1, b2, b3⟩ := bad
      have a1 : spec_l10Series_l1 ((k + 1 : Nat) : Int) P.p (pad b.1) (pad (sprP b k * facP P true k).1, v) (pad a.1) true (i : Int) (pad t.1) = some (.inr (.inr (vrep 64 0, vrep 64 0, false))) := by
        simp only [spec_l10Series_l1, e1, e3, e4, e6, b1, b2, b3, Option.bind_some]
        rw [if_pos (decide_eq_true (by omega))]; rfl
      have a2 : impl_cut_sum_of_s_impl_prime_second_l1 ((k + 1 : Nat) : Int) P.p a.1 b.1 P.p (-1) t.1 (sgnsecond i) (i : Int) = some (.inr (.inr (vrep 64 0, vrep 64 0, 3))) := by
        simp only [impl_cut_sum_of_s_impl_prime_second_l1, hsum, Option.bind_some]
        rw [if_pos (decide_eq_true (by omega))]; rfl
      exact ⟨none, (fun _ h => by cases h), by rw [loopM_eq]; simp only [a1, Option.bind_some], by rw [loopM_eq]; simp only [a2, Option.bind_some]⟩
end Go.Proofs.YtkbnegemdlnncaaGreat
/- LogarithmUpTo: what both sides return. -/
namespace Go.Proofs.YtkbnegemdlnncaaGreat
open Go.Abs
theorem cutsecond {P : Pri} {a b : PP P} {k : Nat} (hb : b ≠ 0) (la : a.len ≤ 64) (lb : b.len ≤ 64) (hk : k ≤ 3) : ∃ (x y : V64) (c : Int) (ok : Bool) (x' y' : V64), impl_cut_sum_of_s_impl_prime_second P.p a.1 b.1 ((k + 1 : Nat) : Int) P.p (-1) = some (x, y, c) ∧ spec_l10Series P.p (pad a.1) (pad b.1) ((k + 1 : Nat) : Int) true = some (x', y', ok) ∧
    ((ok = true ∧ c = 0 ∧ x' = x ∧ y' = y) ∨ (ok = false ∧ c = 3 ∧ x = vrep 64 0 ∧ y = vrep 64 0)) := by
  have hp := P.two
  have hw : IntKind.i64.wrap (((k + 1 : Nat) : Int) - 1) = (k : Int) := by rw [wrap64 (by omega) (by omega)]; omega
  have hsb : sprP b k ≠ 0 := by rw [sprP_pw]; exact pw_ne hb _
  have hl1 : (sprP b k * facP P true k).len = _ := len_mul hsb (facP_ne true k)
  have hsl := sprP_len hb k
  have hFp := len_pos (facP_ne (P := P) true k)
  have hb1 := len_pos hb
  have hbot := botsecond (a := a) hb lb hk
  have e1 := factS (P := P) true hk
  have e2 := raiseS (P := P) lb hk
  by_cases hB : (sprP b k * facP P true k).len ≤ 64
  · rw [if_pos hB] at hbot
    rw [if_pos (by omega)] at e1
    rw [if_pos (.inr (by omega))] at e2
    obtain ⟨w1, e3, e4⟩ := timesT (P := P) (a := facP P true k) (b := sprP b k) (by omega) (by omega)
    rw [e4 (.inr (.inr (by omega))), decide_eq_true (by omega), ppring.mul_comm] at e3
    obtain ⟨r, r1, r2, r3⟩ := cutloopsecond hb la lb hk hB true (k + 1) 0 0 (by omega) (by rw [len_zero.2 rfl]; omega)
    have z : pad (0 : PP P).1 = vrep 64 0 := pad_nil
    rw [z] at r2
    have r2' : loopM (fun s : Bool × Int × V64 => spec_l10Series_l1 ((k + 1 : Nat) : Int) P.p (pad b.1) (pad (sprP b k * facP P true k).1, true) (pad a.1) s.1 s.2.1 s.2.2) (true, 0, vrep 64 0) = _ := r2
    have r3' : loopM (fun s : List Int × Int × Int => impl_cut_sum_of_s_impl_prime_second_l1 ((k + 1 : Nat) : Int) P.p a.1 b.1 P.p (-1) s.1 s.2.1 s.2.2) ([], 1, 0) = _ := r3
    cases r with
    | none =>
      refine ⟨vrep 64 0, vrep 64 0, 3, false, vrep 64 0, vrep 64 0, ?_, ?_, .inr ⟨rfl, rfl, rfl, rfl⟩⟩
      · simp only [impl_cut_sum_of_s_impl_prime_second, hbot, r3', Option.bind_some, Bool.not_true, Bool.false_eq_true, if_false]
      · simp only [spec_l10Series, hw, e1, e2, e3, r2', Option.bind_some, Bool.not_true, Bool.false_eq_true, if_false]
    | some t =>
      have lt := r1 t rfl
      have hBn : sprP b k * facP P true k ≠ 0 := fun e => by rcases pp_dom _ _ e with h | h; exact hsb h; exact facP_ne true k h
      obtain ⟨x, y, f1, f2⟩ := cut_end lt hB hBn
      refine ⟨x, y, 0, true, x, y, ?_, ?_, .inl ⟨rfl, rfl, rfl, rfl⟩⟩
      · simp only [impl_cut_sum_of_s_impl_prime_second, hbot, r3', Option.bind_some, Bool.not_true, Bool.false_eq_true, if_false]
        exact f1
      · simp only [spec_l10Series, hw, e1, e2, e3, r2', Option.bind_some, Bool.not_true, Bool.false_eq_true, if_false]
        exact f2
  · rw [if_neg hB] at hbot
    refine ⟨vrep 64 0, vrep 64 0, 3, false, vrep 64 0, vrep 64 0, ?_, ?_, .inr ⟨rfl, rfl, rfl, rfl⟩⟩
    · simp only [impl_cut_sum_of_s_impl_prime_second, hbot, Option.bind_some, Bool.not_false, if_true]
    · have bad : ∃ (q q2 q3 : V64 × Bool), spec_l04Factorial P.p k true = some q ∧ spec_l04Raise P.p (pad b.1) k = some q2 ∧ spec_l01Times P.p q.1 q2.1 = some q3 ∧ (if (!q.2) then (some true) else (if (!q2.2) then (some true) else (some (!q3.2)))) = some true := by
        have z : pad (0 : PP P).1 = vrep 64 0 := pad_nil
        have zl : (0 : PP P).len ≤ 64 := by rw [len_zero.2 rfl]; omega
        by_cases h1 : (facP P true k).len ≤ 64
        · rw [if_pos h1] at e1
          by_cases h2 : b.len = 0 ∨ (b.len - 1) * P.n ^ k ≤ 63
          · rw [if_pos h2] at e2
            obtain ⟨w1, e3, _⟩ := timesT (P := P) (a := facP P true k) (b := sprP b k) h1 (by omega)
            refine ⟨_, _, _, e1, e2, e3, ?_⟩
            rw [decide_eq_false (by omega)]; rfl
          · rw [if_neg h2] at e2
            obtain ⟨w1, e3, _⟩ := timesT (P := P) (a := facP P true k) (b := 0) h1 zl
            rw [z] at e3
            exact ⟨_, _, _, e1, e2, e3, rfl⟩
        · rw [if_neg h1] at e1
          by_cases h2 : b.len = 0 ∨ (b.len - 1) * P.n ^ k ≤ 63
          · rw [if_pos h2] at e2
            obtain ⟨w1, e3, _⟩ := timesT (P := P) (a := 0) (b := sprP b k) zl (by omega)
            rw [z] at e3
            exact ⟨_, _, _, e1, e2, e3, rfl⟩
          · rw [if_neg h2] at e2
            obtain ⟨w1, e3, _⟩ := timesT (P := P) (a := 0) (b := 0) zl zl
            rw [z] at e3
            exact ⟨_, _, _, e1, e2, e3, rfl⟩
      obtain ⟨q, q2, q3, c1, c2, c3, c4⟩ := bad
      simp only [spec_l10Series, hw, c1, c2, c3, c4, Option.bind_some, if_true]
theorem loga_both {p : Int} {a b : V64} {n : Int} (ha : IsB a) (hb : IsB b) : ∃ r, spec_LogarithmUpTo p a b n = some r ∧ impl_LogarithmUpTo p a b n = some r := by
  have hinI : impl_within n 1 4 = some (decide (1 ≤ n ∧ n ≤ 4)) := within_is n 1 4
  have hinS : spec_l01In n 1 4 = some (decide (1 ≤ n ∧ n ≤ 4)) := inS_is n 1 4
  simp only [spec_LogarithmUpTo, impl_LogarithmUpTo, spec_l10Cut, spec_l10Code, impl_quotientCode, hinI, hinS, Option.bind_some]
  rw [code_is (by simp [ha, hb]) (by simp), polysCode_is (by simp [ha, hb]) (by simp)]
  simp only [List.all_cons, List.all_nil, Bool.and_true, Option.bind_some]
  by_cases hok : isP p = true ∧ small p a = true ∧ small p b = true
  · obtain ⟨hp, h1, h2⟩ := hok
    obtain ⟨P, rfl⟩ := pri_of hp
    rw [hp, h1, h2]
    simp only [Bool.and_self, if_true, bne_self_eq_false, Bool.false_eq_true, if_false]
    by_cases hn : 1 ≤ n ∧ n ≤ 4
    · by_cases hz : b = vrep 64 0
      · exact ⟨(vrep 64 0, vrep 64 0, 5), by simp [hz, hn], by simp [hz, hn]⟩
      · obtain ⟨k, rfl⟩ : ∃ k : Nat, n = ((k + 1 : Nat) : Int) := ⟨(n - 1).toNat, by omega⟩
        have hbn : ppv b hb h2 ≠ 0 := fun e => hz (by
          have h3 : (row b).length = 0 := len_zero.2 e
          rw [← pad_row b, List.eq_nil_of_length_eq_zero h3, pad_nil])
        obtain ⟨x, y, c, ok, x', y', f1, f2, f3⟩ := cutsecond (P := P) (a := ppv a ha h1) (b := ppv b hb h2) (k := k) hbn ppv_len ppv_len (by omega)
        rw [ppv_pad, ppv_pad] at f2
        have f1' : impl_cut_sum_of_s_impl_prime_second P.p (row a) (row b) ((k + 1 : Nat) : Int) P.p (-1) = some (x, y, c) := f1
        refine ⟨(x, y, c), ?_, ?_⟩
        · rw [decide_eq_true hn, decide_eq_false hz]
          simp only [Bool.not_true, Bool.false_eq_true, if_false, Option.bind_some, f2]
          rcases f3 with ⟨rfl, rfl, rfl, rfl⟩ | ⟨rfl, rfl, rfl, rfl⟩ <;> rfl
        · rw [decide_eq_true hn, decide_eq_false hz]
          simp only [Bool.not_true, Bool.false_eq_true, if_false, Option.bind_some, row_is ha, row_is hb, f1']
          rfl
    · by_cases hz : b = vrep 64 0
      · exact ⟨(vrep 64 0, vrep 64 0, 2), by simp [hz, hn], by simp [hz, hn]⟩
      · exact ⟨(vrep 64 0, vrep 64 0, 2), by simp [hz, hn], by simp [hz, hn]⟩
  · have h : (isP p && (small p a && small p b)) = false := by
      cases h1 : isP p <;> cases h2 : small p a <;> cases h3 : small p b <;> simp_all
    rw [h]
    exact ⟨(vrep 64 0, vrep 64 0, 1), by simp, by simp⟩
end Go.Proofs.YtkbnegemdlnncaaGreat
/- Exponentials that are cut off: what they are, and that of the double. -/
namespace Go.Proofs.YtkbnegemdlnncaaGreat
open Go.Abs
variable {P : Pri}
/-- The common denominator. -/
def cutB (b : PP P) (k : Nat) : PP P := sprP b k * facP P false k
/-- The sum of the first summands. -/
def serT (a b : PP P) (k : Nat) : Nat → PP P
  | 0 => 0
  | i + 1 => serT a b k i + sprP a i * morefirst P b k i
def okS (a b : PP P) (k i : Nat) : Prop := a.len = 0 ∨ (a.len - 1) * P.n ^ i + (morefirst P b k i).len ≤ 64
theorem sprP_add (a a' : PP P) (i : Nat) : sprP (a + a') i = sprP a i + sprP a' i := by
  rw [sprP_pw, sprP_pw, sprP_pw]
  exact ppring.frobn P.is pp_char a a' i
theorem add4 (x y u v : PP P) : (x + y) + (u + v) = (x + u) + (y + v) := by
  rw [ppring.add_assoc, ppring.add_assoc, ppring.add_left_comm y]
theorem serT_add (a a' b : PP P) (k : Nat) : ∀ i, serT (a + a') b k i = serT a b k i + serT a' b k i
  | 0 => by show (0 : PP P) = 0 + 0; rw [ppring.add_zero]
  | i + 1 => by
    show serT (a + a') b k i + sprP (a + a') i * morefirst P b k i = (serT a b k i + sprP a i * morefirst P b k i) + (serT a' b k i + sprP a' i * morefirst P b k i)
    rw [serT_add a a' b k i, sprP_add, ppring.add_mul, add4]
theorem serT_len {a b : PP P} {k : Nat} : ∀ i, (∀ j, j < i → okS a b k j) → (serT a b k i).len ≤ 64
  | 0, _ => Nat.zero_le _
  | i + 1, h => by
    have ih := serT_len i fun j hj => h j (by omega)
    have h1 := len_add (serT a b k i) (sprP a i * morefirst P b k i)
    have h2 : (sprP a i * morefirst P b k i).len ≤ (sprP a i).len + (morefirst P b k i).len - 1 := mul_len _ _ _
    have h3 : (sprP a i * morefirst P b k i).len ≤ 64 := by
      rcases h i (by omega) with h0 | h0
      · have : sprP a i = 0 := by rw [len_zero.1 h0, sprP_zero]
        rw [this, ppring.zero_mul, len_zero.2 rfl]; omega
      · by_cases ha : a.len = 0
        · have : sprP a i = 0 := by rw [len_zero.1 ha, sprP_zero]
          rw [this, ppring.zero_mul, len_zero.2 rfl]; omega
        · have := sprP_len (P := P) (a := a) (fun e => ha (len_zero.2 e)) i
          omega
    show (serT a b k i + sprP a i * morefirst P b k i).len ≤ 64
    omega
theorem cutV_loop {a b : PP P} (hb : b ≠ 0) (la : a.len ≤ 64) (lb : b.len ≤ 64) {k : Nat} (hk : k ≤ 3) (hB : (cutB b k).len ≤ 64) : ∀ (m i : Nat), i + m = k + 1 → (∀ j, j < i → okS a b k j) →
    ((∀ j, j ≤ k → okS a b k j) ∧ loopM (fun s : List Int × Int × Int => impl_cut_sum_of_s_impl_prime_first_l1 ((k + 1 : Nat) : Int) P.p a.1 b.1 P.p 1 s.1 s.2.1 s.2.2) ((serT a b k i).1, 1, (i : Int)) = some (.inl (serT a b k (k + 1)).1)) ∨
    ((∃ j, j ≤ k ∧ ¬ okS a b k j) ∧ loopM (fun s : List Int × Int × Int => impl_cut_sum_of_s_impl_prime_first_l1 ((k + 1 : Nat) : Int) P.p a.1 b.1 P.p 1 s.1 s.2.1 s.2.2) ((serT a b k i).1, 1, (i : Int)) = some (.inr (vrep 64 0, vrep 64 0, 3)))
  | 0, i, hi, hok => by
    left
    have : i = k + 1 := by omega
    subst this
    have step : impl_cut_sum_of_s_impl_prime_first_l1 ((k + 1 : Nat) : Int) P.p a.1 b.1 P.p 1 (serT a b k (k + 1)).1 1 ((k + 1 : Nat) : Int) = some (.inr (.inl (serT a b k (k + 1)).1)) := by
      simp only [impl_cut_sum_of_s_impl_prime_first_l1]
      rw [if_neg (by rw [decide_eq_true_eq]; omega)]
    exact ⟨fun j hj => hok j (by omega), by rw [loopM_eq]; simp only [step, Option.bind_some]⟩
  | m + 1, i, hi, hok => by
    have hsum := sumfirst (P := P) hb la lb hk (show i ≤ k by omega) hB
    have lt := serT_len i hok
    by_cases hc : okS a b k i
    · have hpos : a.len = 0 ∨ (a.len - 1) * P.n ^ i + (morefirst P b k i).len ≤ 64 := hc
      rw [if_pos hpos] at hsum
      have lt' := serT_len (a := a) (b := b) (k := k) (i + 1) fun j hj => by
        by_cases hji : j = i
        · rw [hji]; exact hc
        · exact hok j (by omega)
      have lo : (sprP a i * morefirst P b k i).len ≤ 64 := by
        have h1 := serT_len (a := a) (b := b) (k := k) i hok
        have h2 : (sprP a i * morefirst P b k i).len ≤ (sprP a i).len + (morefirst P b k i).len - 1 := mul_len _ _ _
        rcases hc with h0 | h0
        · have : sprP a i = 0 := by rw [len_zero.1 h0, sprP_zero]
          rw [this, ppring.zero_mul, len_zero.2 rfl]; omega
        · by_cases ha : a.len = 0
          · have : sprP a i = 0 := by rw [len_zero.1 ha, sprP_zero]
            rw [this, ppring.zero_mul, len_zero.2 rfl]; omega
          · have := sprP_len (P := P) (a := a) (fun e => ha (len_zero.2 e)) i
            omega
      have ecmb : impl_prime_combine P.p (serT a b k i).1 (sprP a i * morefirst P b k i).1 1 = some (serT a b k (i + 1)).1 :=
        combine_is P.sm (PP.ent _) (PP.ent _) (Nat.le_trans lt (by omega)) (Nat.le_trans lo (by omega)) (by omega)
      have step : impl_cut_sum_of_s_impl_prime_first_l1 ((k + 1 : Nat) : Int) P.p a.1 b.1 P.p 1 (serT a b k i).1 1 (i : Int) = some (.inl ((serT a b k (i + 1)).1, 1, ((i + 1 : Nat) : Int))) := by
        simp only [impl_cut_sum_of_s_impl_prime_first_l1, hsum, ecmb, Option.bind_some, Bool.not_true, Bool.false_eq_true, if_false]
        rw [if_pos (decide_eq_true (by omega)), wrap64 (by omega) (by omega), wrap64 (by omega) (by omega)]
        rfl
      rw [loopM_eq]
      simp only [step, Option.bind_some]
      exact cutV_loop hb la lb hk hB m (i + 1) (by omega) fun j hj => by
        by_cases hji : j = i
        · rw [hji]; exact hc
        · exact hok j (by omega)
    · right
      have hneg : ¬ (a.len = 0 ∨ (a.len - 1) * P.n ^ i + (morefirst P b k i).len ≤ 64) := hc
      rw [if_neg hneg] at hsum
      refine ⟨⟨i, by omega, hc⟩, ?_⟩
      have step : impl_cut_sum_of_s_impl_prime_first_l1 ((k + 1 : Nat) : Int) P.p a.1 b.1 P.p 1 (serT a b k i).1 1 (i : Int) = some (.inr (.inr (vrep 64 0, vrep 64 0, 3))) := by
        simp only [impl_cut_sum_of_s_impl_prime_first_l1, hsum, Option.bind_some, Bool.not_false, if_true]
        rw [if_pos (decide_eq_true (by omega))]
      rw [loopM_eq]
      simp only [step, Option.bind_some]
/-- The tail: numerator and denominator, cancelled. -/
theorem cutV_end {t B : PP P} (lt : t.len ≤ 64) (lB : B.len ≤ 64) (hB : B ≠ 0) : ∃ X Y : PP P, X.len ≤ 64 ∧ Y.len ≤ 64 ∧ X * B = Y * t ∧
    (Option.bind (impl_prime_gcd P.p t.1 B.1) fun r88 => (Option.bind (impl_prime_divide P.p t.1 r88) fun r91 => (Option.bind (impl_prime_divide P.p B.1 r88) fun r94 => (Option.bind (impl_row_lead r94.1) fun r102 => (Option.bind (impl_prime_inverse P.p r102) fun r104 => (Option.bind (impl_prime_scale P.p r91.1 r104) fun r119 => (Option.bind (impl_row_poly r119) fun r121 => (Option.bind (impl_prime_scale P.p r94.1 r104) fun r124 => (Option.bind (impl_row_poly r124) fun r126 => (some (r121, r126, (0 : Int)))))))))))) = some (pad X.1, pad Y.1, 0) := by
  have hp := P.two
  obtain ⟨g, g1, g3, m1, d1⟩ := gcdI lt lB (.inr hB)
  have g4 := m1.ne
  have g5 := ((d1 g).1 (ppring.dv_refl g)).2
  have g6 := ((d1 g).1 (ppring.dv_refl g)).1
  have e1 := pdivI (a := t) g4 (by omega) (by omega)
  have e2 := pdivI (a := B) g4 (by omega) (by omega)
  have l1 : (pquo t g).len ≤ 64 := by
    have : (pquo t g).len ≤ t.len + 1 - g.len := quo_len P.p t.1 g.1
    have := len_pos g4; omega
  have l2 : (pquo B g).len ≤ 64 := by
    have : (pquo B g).len ≤ B.len + 1 - g.len := quo_len P.p B.1 g.1
    have := len_pos g4; omega
  have ht := (pdiv t g4).1
  rw [(prem_iff g4).2 g6, ppring.add_zero] at ht
  have hBe := (pdiv B g4).1
  rw [(prem_iff g4).2 g5, ppring.add_zero] at hBe
  have hq : pquo B g ≠ 0 := fun e => by
    rw [e, ppring.zero_mul] at hBe
    exact hB hBe
  have hq1 := len_pos hq
  have hl := lead_pos P.pos (pquo B g).2 (ne_len hq)
  have hi := inv_is P.okp hl
  obtain ⟨k, hk⟩ : ∃ k : Nat, inv P.p (lead (pquo B g).1) = k := ⟨(inv P.p (lead (pquo B g).1)).toNat, by omega⟩
  have n1 := len_nsm k (pquo t g)
  have n2 := len_nsm k (pquo B g)
  have s1 := scaleI (a := pquo t g) (show (pquo t g).len ≤ 1000000 by omega) k (by omega)
  have s2 := scaleI (a := pquo B g) (show (pquo B g).len ≤ 1000000 by omega) k (by omega)
  have p1 : impl_row_poly (nsm k (pquo t g)).1 = some (pad (nsm k (pquo t g)).1) := poly_is ((nsm k (pquo t g)).2.bytes (by omega)) (show (nsm k (pquo t g)).len ≤ 64 by omega)
  have p2 : impl_row_poly (nsm k (pquo B g)).1 = some (pad (nsm k (pquo B g)).1) := poly_is ((nsm k (pquo B g)).2.bytes (by omega)) (show (nsm k (pquo B g)).len ≤ 64 by omega)
  refine ⟨nsm k (pquo t g), nsm k (pquo B g), by omega, by omega, ?_, ?_⟩
  · have a1 : nsm k (pquo t g) * B = nsm k (pquo t g * B) := by rw [ppring.mul_comm, ppring.mul_nsm, ppring.mul_comm B]
    have a2 : nsm k (pquo B g) * t = nsm k (pquo B g * t) := by rw [ppring.mul_comm, ppring.mul_nsm, ppring.mul_comm t]
    have a3 : pquo t g * B = pquo B g * t := by
      conv => lhs; rw [hBe]
      conv => rhs; rw [ht]
      rw [← ppring.mul_assoc, ← ppring.mul_assoc, ppring.mul_comm (pquo t g) (pquo B g)]
    rw [a1, a2, a3]
  · simp only [g1, e1, e2, leadI hq (show (pquo B g).len ≤ 1000000 by omega), inverse_impl P.okp hl, hk, s1, s2, p1, p2, Option.bind_some]
theorem cutB_ne {b : PP P} (hb : b ≠ 0) (k : Nat) : cutB b k ≠ 0 := fun e => by
  rcases pp_dom _ _ e with h | h
  · rw [sprP_pw] at h; exact pw_ne hb _ h
  · exact facP_ne false k h
/-- What the program's sum is. -/
theorem cutV {a b : PP P} (hb : b ≠ 0) (la : a.len ≤ 64) (lb : b.len ≤ 64) {k : Nat} (hk : k ≤ 3) :
    ((((cutB b k).len ≤ 64 ∧ ∀ j, j ≤ k → okS a b k j) ∧ ∃ X Y : PP P, X.len ≤ 64 ∧ Y.len ≤ 64 ∧ X * cutB b k = Y * serT a b k (k + 1) ∧ impl_cut_sum_of_s_impl_prime_first P.p a.1 b.1 ((k + 1 : Nat) : Int) P.p 1 = some (pad X.1, pad Y.1, 0)) ∨
    (¬ ((cutB b k).len ≤ 64 ∧ ∀ j, j ≤ k → okS a b k j) ∧ impl_cut_sum_of_s_impl_prime_first P.p a.1 b.1 ((k + 1 : Nat) : Int) P.p 1 = some (vrep 64 0, vrep 64 0, 3))) := by
  have hbot := botfirst (a := a) hb lb hk
  by_cases hB : (cutB b k).len ≤ 64
  · rw [if_pos (show (sprP b k * facP P false k).len ≤ 64 from hB)] at hbot
    rcases cutV_loop hb la lb hk hB (k + 1) 0 (by omega) (fun j hj => absurd hj (by omega)) with ⟨h1, h2⟩ | ⟨⟨j, h1, h1'⟩, h2⟩
    · left
      have lt := serT_len (a := a) (b := b) (k := k) (k + 1) fun j hj => h1 j (by omega)
      obtain ⟨X, Y, x1, x2, x3, x4⟩ := cutV_end lt hB (cutB_ne hb k)
      refine ⟨⟨hB, h1⟩, X, Y, x1, x2, x3, ?_⟩
      have h2' : loopM (fun s : List Int × Int × Int => impl_cut_sum_of_s_impl_prime_first_l1 ((k + 1 : Nat) : Int) P.p a.1 b.1 P.p 1 s.1 s.2.1 s.2.2) ([], 1, 0) = _ := h2
      simp only [impl_cut_sum_of_s_impl_prime_first, hbot, h2', Option.bind_some, Bool.not_true, Bool.false_eq_true, if_false]
      exact x4
    · right
      have h2' : loopM (fun s : List Int × Int × Int => impl_cut_sum_of_s_impl_prime_first_l1 ((k + 1 : Nat) : Int) P.p a.1 b.1 P.p 1 s.1 s.2.1 s.2.2) ([], 1, 0) = _ := h2
      refine ⟨fun h => h1' (h.2 j h1), ?_⟩
      simp only [impl_cut_sum_of_s_impl_prime_first, hbot, h2', Option.bind_some, Bool.not_true, Bool.false_eq_true, if_false]
  · right
    rw [if_neg (show ¬ (sprP b k * facP P false k).len ≤ 64 from hB)] at hbot
    refine ⟨fun h => hB h.1, ?_⟩
    simp only [impl_cut_sum_of_s_impl_prime_first, hbot, Option.bind_some, Bool.not_false, if_true]
theorem okS_add {a b : PP P} {k j : Nat} (h : okS a b k j) : okS (a + a) b k j := by
  have h1 := len_add a a
  unfold okS at h ⊢
  rcases h with h | h
  · left; omega
  · right
    have : ((a + a).len - 1) * P.n ^ j ≤ (a.len - 1) * P.n ^ j := Nat.mul_le_mul_right _ (by omega)
    omega
/-- The exponential of the double. -/
theorem double_eq {B S X Y X' Y' : PP P} (hB : B ≠ 0) (h1 : X * B = Y * S) (h2 : X' * B = Y' * (S + S)) : (X + X) * Y' = X' * Y := by
  have e : (X + X) * Y' * B = X' * Y * B := by
    have e1 : (X + X) * Y' * B = Y' * (Y * S + Y * S) := by
      rw [ppring.mul_assoc, ppring.mul_comm Y' B, ← ppring.mul_assoc, ppring.add_mul, h1, ppring.mul_comm]
    have e2 : X' * Y * B = Y' * (Y * S + Y * S) := by
      rw [ppring.mul_assoc, ppring.mul_comm Y B, ← ppring.mul_assoc, h2, ppring.mul_assoc, ppring.mul_comm (S + S) Y, ppring.mul_add]
    rw [e1, e2]
  have h0 : ((X + X) * Y' + -(X' * Y)) * B = 0 := by
    have : ((X + X) * Y' + -(X' * Y)) * B = (X + X) * Y' * B + -(X' * Y * B) := by
      rw [ppring.add_mul, ppring.mul_comm (-(X' * Y)) B, ppring.mul_neg, ppring.mul_comm B]
    rw [this, e, ppring.add_neg]
  rcases pp_dom _ _ h0 with h | h
  · exact ppring.sub_zero h
  · exact absurd h hB
end Go.Proofs.YtkbnegemdlnncaaGreat
/- FnRootsAndSeries. -/
namespace Go.Proofs.YtkbnegemdlnncaaGreat
open Go.Abs
theorem likeInts_is {l : List Int} (hl : l.length ≤ 1000000) : laws_likeInts l l = some true := by
  obtain ⟨u, h1, _⟩ := loopM_for (body := fun s : Int => laws_likeInts_l1 l l s) (fun i (_ : Unit) => (i : Int)) (fun _ => (.inl () : Unit ⊕ Bool)) l.length (fun _ _ => True) (fun i _ hi _ => by
    refine ⟨(), ?_, trivial⟩
    simp only [laws_likeInts_l1]
    rw [if_pos (decide_eq_true (by omega)), ifp_pos (by omega), ifp_pos (by omega), wrap64 (by omega) (by omega)]
    simp only [bne_self_eq_false, Bool.false_eq_true, if_false]
    rfl) (fun _ _ => by
    simp only [laws_likeInts_l1]
    rw [if_neg (by rw [decide_eq_true_eq]; omega)]) l.length 0 () (by omega) trivial
  have h1' : loopM (fun s : Int => laws_likeInts_l1 l l s) 0 = _ := h1
  simp only [laws_likeInts, h1', Option.bind_some, bne_self_eq_false, Bool.false_eq_true, if_false]
theorem addO' {P : Pri} {a b : PP P} (la : a.len ≤ 64) (lb : b.len ≤ 64) : impl_AddPolys P.p (pad a.1) (pad b.1) = some (pad (a + b).1, 0) := by
  have hl := len_add a b
  have e : impl_prime_combine P.p a.1 b.1 1 = some (a + b).1 := combine_is P.sm a.ent b.ent (Nat.le_trans la (by omega)) (Nat.le_trans lb (by omega)) (by omega)
  simp only [impl_AddPolys, pcode2, rowI a la, rowI b lb, e, toldI (a + b) (by omega), if_pos (show (a + b).len ≤ 64 by omega), Option.bind_some]
  rfl
theorem quotO {P : Pri} {a b : PP P} (lb : b.len ≤ 64) (hb : b ≠ 0) : impl_quotientCode P.p (pad a.1) (pad b.1) true = some 0 := by
  have hz : decide (pad b.1 = vrep 64 0) = false := decide_eq_false fun h => hb (by
    rw [← pad_nil] at h
    exact pp_eq (pad_inj b.2 (row_nil P.p) lb (Nat.zero_le 64) h))
  simp only [impl_quotientCode, pcode2, hz, Option.bind_some]
  rfl
theorem expO {P : Pri} {a b : PP P} (la : a.len ≤ 64) (lb : b.len ≤ 64) (hb : b ≠ 0) {k : Nat} (hk : k ≤ 3) : impl_ExponentialUpTo P.p (pad a.1) (pad b.1) ((k + 1 : Nat) : Int) = impl_cut_sum_of_s_impl_prime_first P.p a.1 b.1 ((k + 1 : Nat) : Int) P.p 1 := by
  have hin : impl_within ((k + 1 : Nat) : Int) 1 4 = some true := by
    rw [within_is, decide_eq_true (by omega)]
  simp only [impl_ExponentialUpTo, hin, quotO lb hb, rowI a la, rowI b lb, Option.bind_some, bne_self_eq_false, Bool.false_eq_true, if_false]
  cases impl_cut_sum_of_s_impl_prime_first P.p a.1 b.1 ((k + 1 : Nat) : Int) P.p 1 with
  | none => rfl
  | some r => rfl
/-- What is left of the law, of the exponentials. -/
theorem exp_part {p : Int} {a b : V64} (ha : IsB a) (hb : IsB b) (n : Int) : ∃ (x y : V64) (e : Int), impl_ExponentialUpTo p a b n = some (x, y, e) ∧ spec_ExponentialUpTo p a b n = some (x, y, e) ∧
    (if (e != 0) then (if (decide (x = ((vrep 64 (0 : Int))))) then (some ((decide (y = ((vrep 64 (0 : Int))))))) else (some false)) else (Option.bind (impl_AddPolys p a a) fun r232 => (Option.bind (impl_ExponentialUpTo p r232.1 b n) fun r237 => (Option.bind (α := Bool) ((if (r232.2 != 0) then (some true) else (some (r237.2.2 != 0)))) fun x242 => (if x242 then (some false) else (Option.bind (impl_AddPolys p x x) fun r250 => (Option.bind (impl_MultiplyPolys p r250.1 r237.2.1) fun r255 => (Option.bind (impl_MultiplyPolys p r237.1 y) fun r260 => (if (r250.2 == 0) then (if (r255.2 != 0) then (some true) else (if (r260.2 != 0) then (some true) else (some ((decide (r255.1 = r260.1)))))) else (some false)))))))))) = some true := by
  obtain ⟨⟨x, y, e⟩, h1, h2⟩ := expo_both (p := p) (n := n) ha hb
  refine ⟨x, y, e, h2, h1, ?_⟩
  have bad' : ∀ X : Option Bool, (x = vrep 64 0 ∧ y = vrep 64 0 ∧ e ≠ 0) → (if (e != 0) = true then (if (decide (x = ((vrep 64 (0 : Int))))) = true then (some ((decide (y = ((vrep 64 (0 : Int))))))) else (some false)) else X) = some true := by
    rintro X ⟨rfl, rfl, h⟩
    rw [if_pos (by rw [bne_iff_ne]; exact h), if_pos (decide_eq_true rfl), decide_eq_true rfl]
  have hinI : impl_within n 1 4 = some (decide (1 ≤ n ∧ n ≤ 4)) := within_is n 1 4
  have hm : ∀ z ∈ [a, b], IsB z := fun z hz => by
    rcases List.mem_cons.1 hz with rfl | hz
    · exact ha
    · rw [List.mem_singleton.1 hz]; exact hb
  by_cases hok : (isP p && [a, b].all (small p)) = true
  · have h' : isP p = true ∧ small p a = true ∧ small p b = true := by simpa using hok
    obtain ⟨k1, k2, k3⟩ := h'
    obtain ⟨P, rfl⟩ := pri_of_i k1
    obtain ⟨A, rfl, la⟩ : ∃ A : PP P, a = pad A.1 ∧ A.len ≤ 64 := ⟨⟨row a, row_row (res_of_small ha k2)⟩, (pad_row a).symm, row_len a⟩
    obtain ⟨B, rfl, lb⟩ : ∃ B : PP P, b = pad B.1 ∧ B.len ≤ 64 := ⟨⟨row b, row_row (res_of_small hb k3)⟩, (pad_row b).symm, row_len b⟩
    by_cases hn : 1 ≤ n ∧ n ≤ 4
    · by_cases h0 : B = 0
      · refine bad' _ ?_
        have e0 : pad B.1 = vrep 64 0 := by rw [h0]; exact pad_nil
        have e1 : impl_quotientCode P.p (pad A.1) (pad B.1) true = some 5 := by
          have hz : decide (pad B.1 = vrep 64 0) = true := decide_eq_true e0
          simp only [impl_quotientCode, pcode2, hz, Option.bind_some]
          rfl
        simp only [impl_ExponentialUpTo, hinI, decide_eq_true hn, e1, Option.bind_some] at h2
        have h3 := Option.some.inj h2
        cases h3
        exact ⟨rfl, rfl, by decide⟩
      · obtain ⟨k, rfl⟩ : ∃ k : Nat, n = ((k + 1 : Nat) : Int) := ⟨(n - 1).toNat, by omega⟩
        have hk : k ≤ 3 := by omega
        rw [expO la lb h0 hk] at h2
        rcases cutV (P := P) (a := A) (b := B) h0 la lb hk with ⟨⟨c1, c2⟩, X, Y, x1, x2, x3, x4⟩ | ⟨_, x4⟩
        · rw [x4] at h2
          have h3 := Option.some.inj h2
          cases h3
          have la2 : (A + A).len ≤ 64 := by have := len_add A A; omega
          have lx2 : (X + X).len ≤ 64 := by have := len_add X X; omega
          rcases cutV (P := P) (a := A + A) (b := B) h0 la2 lb hk with ⟨_, X', Y', y1, y2, y3, y4⟩ | ⟨y0, _⟩
          · rw [serT_add] at y3
            have hd := double_eq (cutB_ne h0 k) x3 y3
            simp only [bne_self_eq_false, Bool.false_eq_true, if_false, addO' la la, Option.bind_some, expO la2 lb h0 hk, y4, addO' x1 x1, mulO lx2 y2, mulO y1 x2, hd, beq_self_eq_true, if_true]
            by_cases hq : (X' * Y).len ≤ 64
            · rw [if_pos hq]
              simp only [bne_self_eq_false, Bool.false_eq_true, if_false, decide_true]
            · rw [if_neg hq]
              rfl
          · exact absurd ⟨c1, fun j hj => okS_add (c2 j hj)⟩ y0
        · refine bad' _ ?_
          rw [x4] at h2
          have h3 := Option.some.inj h2
          cases h3
          exact ⟨rfl, rfl, by decide⟩
    · refine bad' _ ?_
      have e1 : impl_quotientCode P.p (pad A.1) (pad B.1) false = some 2 := by
        simp only [impl_quotientCode, pcode2, Option.bind_some]
        rfl
      simp only [impl_ExponentialUpTo, hinI, decide_eq_false hn, e1, Option.bind_some] at h2
      have h3 := Option.some.inj h2
      cases h3
      exact ⟨rfl, rfl, by decide⟩
  · refine bad' _ ?_
    have e1 : ∀ r, impl_quotientCode p a b r = some 1 := fun r => by
      simp only [impl_quotientCode, polysCode_is hm (by simp), if_neg hok, Option.bind_some]
      rfl
    simp only [impl_ExponentialUpTo, hinI, e1, Option.bind_some] at h2
    have h3 := Option.some.inj h2
    cases h3
    exact ⟨rfl, rfl, by decide⟩
theorem fnRootsAndSeries_law (c : List Int) (hb : ∀ x ∈ c, 0 ≤ x ∧ x < 256) (_ : c.length ≤ maxLen) : laws_FnRootsAndSeries c = some true := by
  have big : laws_big c = some (decide ((c.length : Int) > 4096)) := rfl
  by_cases hbig : (c.length : Int) > 4096
  · simp only [laws_FnRootsAndSeries, big, decide_eq_true hbig, Option.bind_some, if_true]
  · have hl : c.length ≤ 4096 := by omega
    obtain ⟨p, d, d1, hd⟩ := drawSq_is hl hb
    obtain ⟨q, f, n, d2, hf⟩ := drawDR_is hl hb
    obtain ⟨r, a, b, k, d3, ha, hb1⟩ := drawEx_is hl hb
    obtain ⟨y, e, v, e2, i1, s1, i2, s2, g1⟩ := root_part (p := p) hd
    obtain ⟨l, z, s3, i3, hlen, g2⟩ := digit_part (p := q) hf n
    obtain ⟨x, w, e4, i4, s4, g3⟩ := exp_part (p := r) ha hb1 k
    obtain ⟨⟨x5, w5, e5⟩, s5, i5⟩ := loga_both (p := r) (n := k) ha hb1
    simp only [laws_FnRootsAndSeries, big, decide_eq_false hbig, d1, d2, d3, i1, s1, i2, s2, i3, s3, i4, s4, i5, s5, likeInts_is (show l.length ≤ 1000000 by omega), Option.bind_some, bne_self_eq_false, Bool.false_eq_true, if_false, decide_true, Bool.not_true, beq_self_eq_true, g1, g2]
    exact g3
end Go.Proofs.YtkbnegemdlnncaaGreat
