/- Own texts, put together. -/
import Derived.Test.YtdhcpekngpndnaaPlain1
import Derived.Test.YtdhcpekngpndnaaFn1
import Derived.Test.YtdhcpekngpndnaaFn2
import Derived.Test.YtdhcpekngpndnaaFn3
import Derived.Test.YtdhcpekngpndnaaFn4
import Derived.Test.YtdhcpekngpndnaaFn5
import Derived.Test.YtdhcpekngpndnaaFn6
set_option linter.unusedSimpArgs false
set_option linter.unusedVariables false
/- The whole list of factors, in the reference. -/
namespace Go.Proofs.Ytdhcpekngpndnaa
open Go.Abs

variable {P : Pri}
/-- Factors to come have at least the degree n, or more than half the degree. -/
def Wide (n : Nat) (a : PP P) : Prop := ∀ g : PP P, Irr g → Dv g a → n + 1 ≤ g.len ∨ (a.len : Int) - 1 < 2 * ((g.len : Int) - 1)
theorem monS {a : PP P} (ha : a ≠ 0) (la : a.len ≤ 64) : (Option.bind (spec_l01Inverse P.p (rd (pad a.1).1 (a.len - 1))) fun r => spec_l01Add P.p (vrep 64 0) (pad a.1) (IntKind.i64.wrap r)) = some (pad (mon a).1) := by
  have hl := lead_pos P.pos a.2 (ne_len ha)
  have hi := inv_is P.okp hl
  have hp := P.two
  have hap := len_pos ha
  obtain ⟨k, hk⟩ : ∃ k : Nat, inv P.p (lead a.1) = k := ⟨(inv P.p (lead a.1)).toNat, by omega⟩
  have e1 : rd (pad a.1).1 (a.len - 1) = lead a.1 := rd_padl _ (by omega)
  rw [e1, inverse_spec P.okp hl]
  simp only [Option.bind_some]
  rw [wrap64 (by omega) (by omega), hk]
  have h := addS (P := P) (a := 0) (b := a) (by rw [len_zero.2 rfl]; omega) la (k := k) (by omega)
  have e2 : pad (0 : PP P).1 = vrep 64 0 := pad_nil
  rw [e2, ppring.zero_add] at h
  rw [h]
  unfold mon
  rw [hk, Int.toNat_natCast]
theorem split_outer {a0 : PP P} (l0 : a0.len ≤ 13) : ∀ (m n B : Nat) (a : PP P) (L : FL), m + n = 14 → 1 ≤ n → Going a0 a L → Bnd a L B → B ≤ P.n ^ n → Wide n a →
    ∃ (a' : PP P) (L' : FL) (B' : Nat), loopM (fun s : Int × V64 × List (V64 × Int) => spec_l02Split_l1 P.p s.1 s.2.1 s.2.2) ((n : Int), pad a.1, flS L) = some (pad a'.1, flS L') ∧ Going a0 a' L' ∧ Bnd a' L' B' ∧ (2 ≤ a'.len → Irr a') := by
  intro m
  induction m with
  | zero =>
    intro n B a L h hn hG hB _ hW
    have hla := hG.len
    have step : spec_l02Split_l1 P.p (n : Int) (pad a.1) (flS L) = some (.inr (pad a.1, flS L)) := by
      simp only [spec_l02Split_l1, degS a (by omega), Option.bind_some]
      rw [if_neg (by rw [decide_eq_true_eq, wrap64 (by omega) (by omega)]; omega)]
    refine ⟨a, L, B, by rw [loopM_eq]; simp only [step, Option.bind_some], hG, hB, fun h2 => ?_⟩
    refine Classical.byContradiction fun hn' => ?_
    obtain ⟨g, hg, hd, hl⟩ := exists_half h2 hn'
    rcases hW g hg hd with h3 | h3 <;> omega
  | succ m ih =>
    intro n B a L h hn hG hB hBn hW
    have hla := hG.len
    by_cases h2 : 2 * n ≤ a.len - 1
    · have hn6 := small_exp (P := P) (show n ≤ 6 by omega) (by omega)
      have hbig : ∀ g : PP P, Irr g → Mo g → Dv g a → P.n ^ n ≤ num P.n g.1 := fun g hg mg hd => by
        have h3 : n + 1 ≤ g.len := by rcases hW g hg hd with h3 | h3 <;> omega
        have h4 := (num_monic P.ge g.1 (g.len - 1) g.2 (by show g.len = _; omega) mg).1
        have h5 : P.n ^ n ≤ P.n ^ (g.len - 1) := Nat.pow_le_pow_right (by have := P.ge; omega) (by omega)
        omega
      have hB' : Bnd a L (P.n ^ n) := ⟨fun x hx => by have := hB.lt x hx; omega, hbig, hB.sorted⟩
      obtain ⟨a', L', B', k1, k2, k3, k4, k5, k6⟩ := split_inner l0 hn hn6 (by omega) (P.n ^ n) (P.n ^ n) a L (by omega) (Nat.le_refl _) hG hB'
      have step : spec_l02Split_l1 P.p (n : Int) (pad a.1) (flS L) = some (.inl (((n + 1 : Nat) : Int), pad a'.1, flS L')) := by
        simp only [spec_l02Split_l1, degS a (by omega), countS P (show n ≤ 1000000 by omega) (by omega), k1, Option.bind_some]
        rw [if_pos (decide_eq_true (by rw [wrap64 (by omega) (by omega)]; omega)), wrap64 (by omega) (by omega)]; rfl
      have h5 : 2 * P.n ^ n ≤ P.n ^ (n + 1) := by rw [Nat.pow_succ, Nat.mul_comm]; exact Nat.mul_le_mul_left _ P.ge
      have hW' : Wide (n + 1) a' := fun g hg hd => by
        have h6 := k3.ge (mon g) (irr_mon hg) (mon_mo hg.ne) ((dv_mon hg.ne).2 hd)
        have h7 : (mon g).1.length = g.len := mon_len hg.ne
        have h8 := num_lt P.ge (mon g).1 (mon g).2
        rw [h7] at h8
        have hg2 := hg.1
        have h10 := (num_monic P.ge (mon g).1 (g.len - 1) (mon g).2 (by rw [h7]; omega) (mon_mo hg.ne)).2
        have h11 : n ≤ g.len - 1 := by
          rcases Nat.lt_or_ge (g.len - 1) n with h | h
          · exfalso
            have : P.n ^ g.len ≤ P.n ^ n := Nat.pow_le_pow_right (by have := P.ge; omega) (by omega)
            omega
          · exact h
        rcases k6 with h9 | h9
        · left
          rcases Nat.lt_or_ge n (g.len - 1) with h | h
          · omega
          · exfalso
            have : P.n ^ (g.len - 1) ≤ P.n ^ n := Nat.pow_le_pow_right (by have := P.ge; omega) (by omega)
            omega
        · right; omega
      rw [loopM_eq]
      simp only [step, Option.bind_some]
      exact ih (n + 1) B' a' L' (by omega) (by omega) k2 k3 (by omega) hW'
    · have step : spec_l02Split_l1 P.p (n : Int) (pad a.1) (flS L) = some (.inr (pad a.1, flS L)) := by
        simp only [spec_l02Split_l1, degS a (by omega), Option.bind_some]
        rw [if_neg (by rw [decide_eq_true_eq, wrap64 (by omega) (by omega)]; omega)]
      refine ⟨a, L, B, by rw [loopM_eq]; simp only [step, Option.bind_some], hG, hB, fun h2 => ?_⟩
      refine Classical.byContradiction fun hn' => ?_
      obtain ⟨g, hg, hd, hl⟩ := exists_half h2 hn'
      rcases hW g hg hd with h3 | h3 <;> omega
theorem splitS {a : PP P} (ha : a ≠ 0) (la : a.len ≤ 13) : ∃ L : FL, spec_l02Split P.p (pad a.1) = some (flS L) ∧ IsFac a L ∧ L.length ≤ 12 := by
  obtain ⟨a', L, B, k1, hG, hB, hi⟩ := split_outer la 13 1 0 a [] (by omega) (by omega) (Going.start ha) ⟨by simp, fun _ _ _ _ => Nat.zero_le _, .nil⟩ (Nat.zero_le _) (fun g hg _ => .inl hg.1)
  have k1' : loopM (fun s : Int × V64 × List (V64 × Int) => spec_l02Split_l1 P.p s.1 s.2.1 s.2.2) (1, pad a.1, []) = some (pad a'.1, flS L) := k1
  have hla := hG.len
  have hap := len_pos hG.ne
  simp only [spec_l02Split, k1', Option.bind_some, degS a' (show a'.len ≤ 64 by omega)]
  by_cases h1 : a'.len = 1
  · rw [if_neg (by rw [decide_eq_true_eq]; omega)]
    exact ⟨L, rfl, isfac_of (.refl _) hG.ok (hG.done h1) hB.sorted, by omega⟩
  · have hirr := hi (by omega)
    obtain ⟨hm0, hmL, l1, l2, l3⟩ := hG.last hirr
    have hmon := monS hG.ne (show a'.len ≤ 64 by omega)
    have e1 : ((a'.len : Int) - 1).toNat = a'.len - 1 := by omega
    have hkey : ∀ x ∈ L, key P x < num P.n (mon a').1 := fun x hx => by
      have h3 := hB.lt x hx
      have h4 := hB.ge (mon a') (irr_mon hirr) (mon_mo hG.ne) (mon_dv hG.ne).2
      omega
    have hlm : (mon a').len ≤ 64 := by rw [mon_len hG.ne]; omega
    rw [if_pos (decide_eq_true (by omega)), ifp_pos (by omega), e1]
    have hinv := inverse_spec P.okp (lead_pos P.pos a'.2 (ne_len hG.ne))
    have e2 : rd (pad a'.1).1 (a'.len - 1) = lead a'.1 := rd_padl _ (by omega)
    rw [e2, hinv] at hmon
    simp only [Option.bind_some] at hmon
    rw [e2, hinv]
    simp only [Option.bind_some, hmon, letp]
    have hlen : (flS L).length = L.length := flS_len L
    have hlast : ((if (decide ((IntKind.i64.wrap (((flS L).length : Int) - 1)) ≥ 0)) then (ifp (0 ≤ IntKind.i64.wrap (((flS L).length : Int) - 1) ∧ IntKind.i64.wrap (((flS L).length : Int) - 1) < (((flS L).length : Nat) : Int)) (some ((decide ((rd (flS L) (IntKind.i64.wrap (((flS L).length : Int) - 1)).toNat).1 = pad (mon a').1))))) else (some false)) : Option Bool) = some false := by
      rw [wrap64 (by omega) (by omega), hlen]
      by_cases h0 : L.length = 0
      · rw [if_neg (by rw [decide_eq_true_eq]; omega)]
      · rw [if_pos (decide_eq_true (by omega)), ifp_pos (by omega), show ((L.length : Int) - 1).toNat = L.length - 1 by omega]
        congr 1
        refine decide_eq_false fun he => ?_
        have hx : L.length - 1 < L.length := by omega
        have e3 : rd (flS L) (L.length - 1) = (pad L[L.length - 1].1, L[L.length - 1].2) := by simp [rd, flS, hx]
        rw [e3] at he
        have hmem := List.getElem_mem hx
        obtain ⟨g, k, e4, hg, _, hk, d1, _⟩ := hG.ok _ hmem
        have h5 := hkey _ hmem
        have hgl := dv_len ((dv_pw1 g a).1 (dv_pw_le hk d1)) ha
        rw [e4] at he h5
        have h6 := pad_inj g.2 (mon a').2 (by show g.len ≤ 64; omega) hlm he
        have : num P.n g.1 < num P.n (mon a').1 := h5
        rw [h6] at this
        omega
    refine ⟨L ++ [((mon a').1, 1)], ?_, isfac_of (.refl _) l1 l3 ?_, by simp; omega⟩
    · rw [hlast]
      simp only [Option.bind_some]
      rw [if_neg (by simp), ifp_pos (by simp only [List.length_cons, List.length_nil]; omega), flS_app]; rfl
    · refine List.pairwise_append.2 ⟨hB.sorted, by simp, fun x hx y hy => ?_⟩
      simp only [List.mem_singleton] at hy
      subst hy
      exact hkey x hx
end Go.Proofs.Ytdhcpekngpndnaa
/- Lists of factors, in the program and in the reference. -/
namespace Go.Proofs.Ytdhcpekngpndnaa
open Go.Abs
/-- One list for both. -/
theorem fac_both {P : Pri} {a : PP P} (ha : a ≠ 0) (la : a.len ≤ 13) : ∃ L : FL, impl_prime_factors P.p a.1 = some L ∧ spec_l02Split P.p (pad a.1) = some (flS L) ∧ L.length ≤ 12 ∧ IsFac a L := by
  obtain ⟨L, h1, h2, h3⟩ := factorsI ha la
  obtain ⟨M, k1, k2, _⟩ := splitS ha la
  have := isfac_eq k2 h2
  subst this
  exact ⟨M, h1, k1, h3, h2⟩
theorem fac_bound {P : Pri} {a : PP P} (ha : a ≠ 0) (la : a.len ≤ 13) {x : List Int × Int} (h : FacOf a x) : ∃ (g : PP P) (k : Nat), x = (g.1, (k : Int)) ∧ 2 ≤ g.len ∧ g.len ≤ 13 ∧ 1 ≤ k ∧ k ≤ 12 ∧ Mo g ∧ Irr g := by
  obtain ⟨g, k, e, hg, mg, hk, d1, _⟩ := h
  have h1 := dv_len d1 ha
  rw [(pw_len hg.ne k).2] at h1
  have h2 := hg.1
  have h3 : k * 1 ≤ k * (g.len - 1) := Nat.mul_le_mul_left _ (by omega)
  have h4 : 1 * (g.len - 1) ≤ k * (g.len - 1) := Nat.mul_le_mul_right _ hk
  exact ⟨g, k, e, h2, by omega, hk, by omega, mg, hg⟩
theorem flS_rd (L : FL) {i : Nat} (h : i < L.length) : rd (flS L) i = (pad (rd L i).1, (rd L i).2) := by simp [rd, flS, h]
theorem pow_bound {P : Pri} {n : Nat} (h : n ≤ 12) : P.n ^ n ≤ 13841287201 := by
  have h1 : P.n ^ n ≤ 7 ^ n := Nat.pow_le_pow_left (by have := P.is; omega) n
  have h2 : 7 ^ n ≤ 7 ^ 12 := Nat.pow_le_pow_right (by omega) h
  omega
end Go.Proofs.Ytdhcpekngpndnaa
/- Powers of whole numbers, in the reference. -/
namespace Go.Proofs.Ytdhcpekngpndnaa
open Go.Abs
/-! Arithmetic of whole numbers that wraps around. -/
theorem wrap_eq (a : Int) : ∃ k : Int, IntKind.i64.wrap a = a + 18446744073709551616 * k := by
  simp only [IntKind.wrap, IntKind.signed, IntKind.bits]
  simp
  refine ⟨(IntKind.i64.wrap a - a) / 18446744073709551616, ?_⟩
  simp only [IntKind.wrap, IntKind.signed, IntKind.bits]
  simp
  omega
theorem wrap_cong {a b k : Int} (h : a = b + 18446744073709551616 * k) : IntKind.i64.wrap a = IntKind.i64.wrap b := by
  subst h
  simp only [IntKind.wrap, IntKind.signed, IntKind.bits]
  simp
theorem wrap_mul_l (a b : Int) : IntKind.i64.wrap (IntKind.i64.wrap a * b) = IntKind.i64.wrap (a * b) := by
  obtain ⟨k, hk⟩ := wrap_eq a
  exact wrap_cong (k := k * b) (by rw [hk, Int.add_mul, Int.mul_assoc])
theorem wrap_mul_r (a b : Int) : IntKind.i64.wrap (a * IntKind.i64.wrap b) = IntKind.i64.wrap (a * b) := by
  rw [Int.mul_comm, wrap_mul_l, Int.mul_comm]
theorem powS_loop (b : Int) : ∀ (n : Nat) (x : Int), n ≤ 1000 → loopM (fun s : Int × Int => spec_l02Power_l1 b s.1 s.2) ((n : Int), IntKind.i64.wrap x) = some (IntKind.i64.wrap (x * b ^ n))
  | 0, x, _ => by
    have step : spec_l02Power_l1 b ((0 : Nat) : Int) (IntKind.i64.wrap x) = some (.inr (IntKind.i64.wrap x)) := by
      simp [spec_l02Power_l1]
    rw [loopM_eq]
    simp only [step, Option.bind_some, Int.pow_zero, Int.mul_one]
  | n + 1, x, h => by
    have step : spec_l02Power_l1 b ((n + 1 : Nat) : Int) (IntKind.i64.wrap x) = some (.inl ((n : Int), IntKind.i64.wrap (x * b))) := by
      simp only [spec_l02Power_l1]
      rw [if_pos (decide_eq_true (by omega)), wrap_mul_l, wrap64 (n := _ - 1) (by omega) (by omega)]
      congr 4; omega
    rw [loopM_eq]
    simp only [step, Option.bind_some]
    rw [powS_loop b n (x * b) (by omega), Int.pow_succ, Int.mul_assoc, Int.mul_comm b]
theorem powS_is (b : Int) {n : Nat} (hn : n ≤ 1000) : spec_l02Power b n = some (IntKind.i64.wrap (b ^ n)) := by
  have h := powS_loop b n 1 hn
  rw [wrap64 (n := 1) (by omega) (by omega), Int.one_mul] at h
  simp only [spec_l02Power, h, Option.bind_some]
end Go.Proofs.Ytdhcpekngpndnaa
/- Symbols of polynomials, in the program and in the reference. -/
namespace Go.Proofs.Ytdhcpekngpndnaa
open Go.Abs
theorem ppat_is {P : Pri} (a : PP P) (i : Nat) : impl_row_at a.1 (i : Int) = some (a.c i) := by
  simp only [impl_row_at]
  by_cases h : i < a.1.length
  · rw [if_pos (decide_eq_true (by omega)), ifp_pos (by omega), Int.toNat_natCast]; rfl
  · rw [if_neg (by rw [decide_eq_true_eq]; omega)]
    have : a.c i = 0 := rd_ge (by omega)
    rw [this]
section
variable {P : Pri} {y : Int} (hy : 0 ≤ y ∧ y < P.p)
include hy
theorem sy_step {x : Int} (hx : 0 ≤ x ∧ x < P.p) : Int.tmod (IntKind.i64.wrap (x * y)) P.p = x * y % P.p := by
  have hp := P.two
  have h := mul_small (x := x) (y := y) (by omega) (by omega)
  rw [wrap64 (by omega) (by omega), Int.tmod_eq_emod_of_nonneg h.1]
theorem syI_loop {L : FL} {i k : Nat} (hk : (rd L i).2 = k) (hk2 : k ≤ 1000) : ∀ (m j : Nat) (x : Int), j + m = k → 0 ≤ x ∧ x < P.p → loopM (fun s : Int × Int => impl_prime_symbol_l2 L (i : Int) P.p y s.1 s.2) (x, (j : Int)) = some (x * y ^ m % P.p)
  | 0, j, x, h, hx => by
    have step : impl_prime_symbol_l2 L (i : Int) P.p y x (j : Int) = some (.inr x) := by
      simp only [impl_prime_symbol_l2, Int.toNat_natCast, hk]
      rw [if_neg (by rw [decide_eq_true_eq]; omega)]
    rw [loopM_eq]
    simp only [step, Option.bind_some, Int.pow_zero, Int.mul_one]
    rw [Int.emod_eq_of_lt hx.1 hx.2]
  | m + 1, j, x, h, hx => by
    have hp := P.two
    have step : impl_prime_symbol_l2 L (i : Int) P.p y x (j : Int) = some (.inl (x * y % P.p, ((j + 1 : Nat) : Int))) := by
      simp only [impl_prime_symbol_l2, Int.toNat_natCast, hk]
      rw [if_pos (decide_eq_true (by omega)), ifp_pos (by omega), sy_step hy hx, wrap64 (by omega) (by omega)]; rfl
    rw [loopM_eq]
    simp only [step, Option.bind_some]
    rw [syI_loop hk hk2 m (j + 1) (x * y % P.p) (by omega) (emod_res P.pos _), Int.mul_emod, Int.emod_emod, ← Int.mul_emod, Int.pow_succ, Int.mul_assoc, Int.mul_comm y]
theorem syS_loop {v : V64} (hv : rd v.1 0 = y) : ∀ (m : Nat) (x : Int), m ≤ 1000 → 0 ≤ x ∧ x < P.p → loopM (fun s : Int × Int => spec_l02Symbol_l2 v P.p s.1 s.2) (x, (m : Int)) = some (x * y ^ m % P.p)
  | 0, x, h, hx => by
    have step : spec_l02Symbol_l2 v P.p x ((0 : Nat) : Int) = some (.inr x) := by
      simp only [spec_l02Symbol_l2]
      rw [if_neg (by simp)]
    rw [loopM_eq]
    simp only [step, Option.bind_some, Int.pow_zero, Int.mul_one]
    rw [Int.emod_eq_of_lt hx.1 hx.2]
  | m + 1, x, h, hx => by
    have hp := P.two
    have e0 : rd v.1 (0 : Int).toNat = y := hv
    have step : spec_l02Symbol_l2 v P.p x ((m + 1 : Nat) : Int) = some (.inl (x * y % P.p, (m : Int))) := by
      simp only [spec_l02Symbol_l2, letp, e0]
      rw [if_pos (decide_eq_true (by omega)), ifp_pos (by omega), ifp_pos (by omega), wrap64 (n := y) (by omega) (by omega), sy_step hy hx, wrap64 (by omega) (by omega)]
      congr 4; omega
    rw [loopM_eq]
    simp only [step, Option.bind_some]
    rw [syS_loop hv m (x * y % P.p) (by omega) (emod_res P.pos _), Int.mul_emod, Int.emod_emod, ← Int.mul_emod, Int.pow_succ, Int.mul_assoc, Int.mul_comm y]
end
theorem sy_loop {P : Pri} {a m0 : PP P} (la : a.len ≤ 64) (ha : m0 ≠ 0) (lm : m0.len ≤ 13) {L : FL} (hL : ∀ x ∈ L, FacOf m0 x) (hl : L.length ≤ 1000) : ∀ (m i : Nat) (x : Int), i + m = L.length → 0 ≤ x ∧ x < P.p →
    ∃ r, loopM (fun s : Int × Int => impl_prime_symbol_l1 L P.p a.1 s.1 s.2) (x, (i : Int)) = some r ∧ loopM (fun s : Int × Int => spec_l02Symbol_l1 (flS L) P.p (pad a.1) s.1 s.2) (x, (i : Int)) = some r ∧ 0 ≤ r ∧ r < P.p
  | 0, i, x, h, hx => by
    have s1 : impl_prime_symbol_l1 L P.p a.1 x (i : Int) = some (.inr x) := by
      simp only [impl_prime_symbol_l1]
      rw [if_neg (by rw [decide_eq_true_eq]; omega)]
    have s2 : spec_l02Symbol_l1 (flS L) P.p (pad a.1) x (i : Int) = some (.inr x) := by
      simp only [spec_l02Symbol_l1, flS_len]
      rw [if_neg (by rw [decide_eq_true_eq]; omega)]
    exact ⟨x, by rw [loopM_eq]; simp only [s1, Option.bind_some], by rw [loopM_eq]; simp only [s2, Option.bind_some], hx⟩
  | m + 1, i, x, h, hx => by
    have hp := P.two
    have hi : i < L.length := by omega
    have er : rd L i = L[i] := by simp [rd, hi]
    obtain ⟨g, k, e, g1, g2, k1, k2, mg, _⟩ := fac_bound ha lm (hL L[i] (List.getElem_mem _))
    rw [← er] at e
    have hgk : (rd L i).2 = (k : Int) := by rw [e]
    have hg1 : (rd L i).1 = g.1 := by rw [e]
    have hb := pow_bound (P := P) (show g.len - 1 ≤ 12 by omega)
    have hd : impl_row_degree g.1 = some ((g.len - 1 : Nat) : Int) := by rw [degI g (by omega)]; congr 1; omega
    have hd2 : spec_l01Deg (pad g.1) = some ((g.len - 1 : Nat) : Int) := by rw [degS g (by omega)]; congr 1; omega
    obtain ⟨c, n1, n2, _⟩ := norm_is (p := P.n) (n := g.len - 1) (most := 1152921504606846976) (by have := P.is; omega) (by omega) (by omega)
    have hc : c = P.n ^ (g.len - 1) := by rcases n2 with ⟨_, h⟩ | ⟨h', _⟩ <;> omega
    have n1' : impl_prime_norm P.p ((g.len - 1 : Nat) : Int) 1152921504606846976 = some (c : Int) := n1
    have hc1 : 1 ≤ c := by rw [hc]; exact Nat.one_le_pow _ _ (by have := P.ge; omega)
    have hpw : spec_l02Power P.p ((g.len - 1 : Nat) : Int) = some (c : Int) := by
      rw [powS_is _ (by omega)]
      have : P.p ^ (g.len - 1) = (c : Int) := by rw [hc]; exact (Int.natCast_pow _ _).symm
      rw [this, wrap64 (by omega) (by omega)]
    obtain ⟨K, hK⟩ : ∃ K : Nat, Int.tdiv ((c : Int) - 1) (P.p - 1) = K := ⟨(Int.tdiv ((c : Int) - 1) (P.p - 1)).toNat, by
      rw [Int.tdiv_eq_ediv_of_nonneg (by omega)]
      have := Int.ediv_nonneg (show (0 : Int) ≤ (c : Int) - 1 by omega) (show (0 : Int) ≤ P.p - 1 by omega)
      omega⟩
    have hK2 : (K : Int) ≤ (c : Int) - 1 := by
      rw [← hK, Int.tdiv_eq_ediv_of_nonneg (by omega)]
      exact Int.ediv_le_self _ (by omega)
    have hg0 := mg.ne
    have hres := (prem (pw a K) g).c_res 0
    have e1 := powI_is a hg0 (by omega) (by omega) (k := K) (by omega)
    have e2 := powmodS (a := a) hg0 (by omega) la (k := K) (by omega)
    have e3 : impl_row_at (prem (pw a K) g).1 0 = some ((prem (pw a K) g).c 0) := ppat_is _ 0
    have e4 : rd (pad (prem (pw a K) g).1).1 0 = (prem (pw a K) g).c 0 := rd_padl _ (by omega)
    have q1 := syI_loop (P := P) hres hgk (by omega) k 0 x (by omega) hx
    have q1' : loopM (fun s : Int × Int => impl_prime_symbol_l2 L (i : Int) P.p ((prem (pw a K) g).c 0) s.1 s.2) (x, 0) = _ := q1
    have q2 := syS_loop (P := P) hres e4 k x (by omega) hx
    have s1 : impl_prime_symbol_l1 L P.p a.1 x (i : Int) = some (.inl (x * (prem (pw a K) g).c 0 ^ k % P.p, ((i + 1 : Nat) : Int))) := by
      simp only [impl_prime_symbol_l1, Int.toNat_natCast, hg1, hd, n1', Option.bind_some, letp]
      rw [wrap64 (n := P.p - 1) (by omega) (by omega), wrap64 (n := (c : Int) - 1) (by omega) (by omega), hK, wrap64 (n := (K : Int)) (by omega) (by omega), if_pos (decide_eq_true (by omega)), ifp_pos (by omega), ifp_pos (by omega), e1]
      simp only [Option.bind_some, e3, q1']
      rw [wrap64 (by omega) (by omega)]; rfl
    have s2 : spec_l02Symbol_l1 (flS L) P.p (pad a.1) x (i : Int) = some (.inl (x * (prem (pw a K) g).c 0 ^ k % P.p, ((i + 1 : Nat) : Int))) := by
      simp only [spec_l02Symbol_l1, Int.toNat_natCast, flS_len, flS_rd L hi, hg1, hgk, hd2, hpw, Option.bind_some, letp]
      rw [wrap64 (n := P.p - 1) (by omega) (by omega), wrap64 (n := (c : Int) - 1) (by omega) (by omega), hK, wrap64 (n := (K : Int)) (by omega) (by omega), if_pos (decide_eq_true (by omega)), ifp_pos (by omega), ifp_pos (by omega), e2]
      simp only [Option.bind_some]
      rw [ifp_pos (by omega), q2]
      simp only [Option.bind_some]
      rw [wrap64 (by omega) (by omega)]; rfl
    obtain ⟨r, r1, r2, r3⟩ := sy_loop la ha lm hL hl m (i + 1) (x * (prem (pw a K) g).c 0 ^ k % P.p) (by omega) (emod_res P.pos _)
    exact ⟨r, by rw [loopM_eq]; simp only [s1, Option.bind_some]; exact r1, by rw [loopM_eq]; simp only [s2, Option.bind_some]; exact r2, r3⟩
theorem symbol_both {P : Pri} {a m : PP P} (la : a.len ≤ 64) (hm : m ≠ 0) (lm : m.len ≤ 13) : ∃ r, impl_prime_symbol P.p a.1 m.1 = some r ∧ spec_l02Symbol P.p (pad a.1) (pad m.1) = some r ∧ 0 ≤ r ∧ r < P.p := by
  have hp := P.two
  obtain ⟨L, f1, f2, f3, f4⟩ := fac_both hm lm
  obtain ⟨r, r1, r2, r3⟩ := sy_loop la hm lm f4.ok (by omega) L.length 0 1 (by omega) (by omega)
  have r1' : loopM (fun s : Int × Int => impl_prime_symbol_l1 L P.p a.1 s.1 s.2) (1, 0) = some r := r1
  have r2' : loopM (fun s : Int × Int => spec_l02Symbol_l1 (flS L) P.p (pad a.1) s.1 s.2) (1, 0) = some r := r2
  refine ⟨r, ?_, ?_, r3⟩
  · simp only [impl_prime_symbol, f1, r1', Option.bind_some]
  · simp only [spec_l02Symbol, f2, r2', Option.bind_some]
end Go.Proofs.Ytdhcpekngpndnaa
/- A copy of a polynomial. -/
namespace Go.Proofs.Ytdhcpekngpndnaa
open Go.Abs

theorem toPoly_loop (a : V64) : ∀ s : Int × V64, (∃ i : Nat, s.1 = i ∧ i ≤ 64 ∧ ∀ j, j < i → rd s.2.1 j = rd a.1 j) → ∃ r, loopM (fun s : Int × V64 => laws_toPoly_l1 a s.1 s.2) s = some r ∧ r = a := by
  refine loopM_ind (fun (s : Int × V64) => ∃ i : Nat, s.1 = i ∧ i ≤ 64 ∧ ∀ j, j < i → rd s.2.1 j = rd a.1 j) (fun (s : Int × V64) (r : V64) => r = a) (fun (s : Int × V64) => 64 - s.1.toNat) ?_
  rintro ⟨x, v⟩ ⟨i, hx, hi, hv⟩
  simp only at hx hv
  subst hx
  by_cases h : i = 64
  · right
    subst h
    exact ⟨v, by simp [laws_toPoly_l1], vec_ext hv⟩
  · left
    refine ⟨(((i + 1 : Nat) : Int), vset v i (rd a.1 i)), ?_, ⟨i + 1, rfl, by omega, fun j hj => ?_⟩, by simp; omega, fun r hr => hr⟩
    · simp only [laws_toPoly_l1]
      rw [if_pos (by simp; omega), ifp_pos (by omega), ifp_pos (by omega), wrap64 (by omega) (by omega)]
      simp
    · rw [rd_vset _ _ _ _ (by omega)]
      by_cases e : j = i
      · rw [if_pos e, e]
      · rw [if_neg e]; exact hv j (by omega)

theorem toPoly_is (a : V64) : laws_toPoly a = some a := by
  obtain ⟨r, h1, h2⟩ := toPoly_loop a (0, vrep 64 0) ⟨0, rfl, by omega, fun j hj => by omega⟩
  simp only [laws_toPoly, h1, h2, Option.bind_some]
end Go.Proofs.Ytdhcpekngpndnaa
/- Which arrays are polynomials, in the reference. -/
namespace Go.Proofs.Ytdhcpekngpndnaa
open Go.Abs

/-- All coefficients lie below p. -/
def Small (p : Int) (a : V64) : Prop := ∀ j, j < 64 → rd a.1 j < p
open Classical in
noncomputable def small (p : Int) (a : V64) : Bool := decide (Small p a)

theorem is_loop {p : Int} {a : V64} (hb : IsB a) : ∀ s : Int, (∃ i : Nat, s = i ∧ i ≤ 64 ∧ ∀ j, j < i → rd a.1 j < p) → ∃ r, loopM (fun s : Int => spec_l01Is_l1 a p s) s = some r ∧ ((r = .inl () ∧ Small p a) ∨ (r = .inr false ∧ ¬ Small p a)) := by
  refine loopM_ind (fun (s : Int) => ∃ i : Nat, s = i ∧ i ≤ 64 ∧ ∀ j, j < i → rd a.1 j < p) (fun (s : Int) (r : Unit ⊕ Bool) => (r = .inl () ∧ Small p a) ∨ (r = .inr false ∧ ¬ Small p a)) (fun s => 64 - s.toNat) ?_
  rintro s ⟨i, rfl, hi, hlt⟩
  by_cases h : i = 64
  · right
    subst h
    exact ⟨.inl (), by simp [spec_l01Is_l1], .inl ⟨rfl, hlt⟩⟩
  · have hbi := hb.rd (show i < 64 by omega)
    by_cases e : rd a.1 i < p
    · left
      refine ⟨((i + 1 : Nat) : Int), ?_, ⟨i + 1, rfl, by omega, fun j hj => ?_⟩, by simp; omega, fun r hr => hr⟩
      · simp only [spec_l01Is_l1]
        rw [if_pos (by simp; omega), ifp_pos (by omega), Int.toNat_natCast, wrap64 (by omega) (by omega), if_neg (by simp; omega), wrap64 (by omega) (by omega)]
        rfl
      · by_cases hj' : j = i
        · rw [hj']; exact e
        · exact hlt j (by omega)
    · right
      refine ⟨.inr false, ?_, .inr ⟨rfl, fun hs => e (hs i (by omega))⟩⟩
      simp only [spec_l01Is_l1]
      rw [if_pos (by simp; omega), ifp_pos (by omega), Int.toNat_natCast, wrap64 (by omega) (by omega), if_pos (by simp; omega)]
theorem is_is {p : Int} {a : V64} (hb : IsB a) : spec_l01Is p a = some (small p a && isP p) := by
  obtain ⟨r, h1, h2⟩ := is_loop (p := p) hb 0 ⟨0, rfl, by omega, fun j hj => by omega⟩
  rcases h2 with ⟨rfl, h⟩ | ⟨rfl, h⟩ <;> simp [spec_l01Is, h1, small, h, isPrime_spec]

theorem code_loop {p : Int} {l : List V64} (hb : ∀ a ∈ l, IsB a) (hl : l.length ≤ 2000000) (hp : isP p = true) : ∀ s : Int, (∃ i : Nat, s = i ∧ i ≤ l.length ∧ ∀ a ∈ l.take i, small p a = true) → ∃ r, loopM (fun s : Int => spec_l01Code_l1 l p s) s = some r ∧ ((r = .inl () ∧ l.all (small p) = true) ∨ (r = .inr 1 ∧ l.all (small p) = false)) := by
  refine loopM_ind (fun (s : Int) => ∃ i : Nat, s = i ∧ i ≤ l.length ∧ ∀ a ∈ l.take i, small p a = true) (fun (s : Int) (r : Unit ⊕ Int) => (r = .inl () ∧ l.all (small p) = true) ∨ (r = .inr 1 ∧ l.all (small p) = false)) (fun s => l.length - s.toNat) ?_
  rintro s ⟨i, rfl, hi, hlt⟩
  by_cases h : i = l.length
  · right
    subst h
    exact ⟨.inl (), by simp [spec_l01Code_l1], .inl ⟨rfl, by rw [List.take_length] at hlt; simpa using hlt⟩⟩
  · have hil : i < l.length := by omega
    have er : rd l i = l[i] := by simp [rd, hil]
    have hbi := is_is (p := p) (hb l[i] (List.getElem_mem _))
    rw [hp, Bool.and_true] at hbi
    cases e : small p l[i] with
    | true =>
      left
      refine ⟨((i + 1 : Nat) : Int), ?_, ⟨i + 1, rfl, by omega, fun a ha => ?_⟩, by simp; omega, fun r hr => hr⟩
      · simp only [spec_l01Code_l1]
        rw [if_pos (by simp; omega), ifp_pos (by omega), Int.toNat_natCast, er, hbi, e]
        simp only [Option.bind_some, Bool.not_true, Bool.false_eq_true, if_false]
        rw [wrap64 (by omega) (by omega)]; rfl
      · rw [List.take_succ_eq_append_getElem hil] at ha
        rcases List.mem_append.1 ha with ha | ha
        · exact hlt a ha
        · have : a = l[i] := by simpa using ha
          rw [this]; exact e
    | false =>
      right
      refine ⟨.inr 1, ?_, .inr ⟨rfl, ?_⟩⟩
      · simp only [spec_l01Code_l1]
        rw [if_pos (by simp; omega), ifp_pos (by omega), Int.toNat_natCast, er, hbi, e]
        rfl
      · rw [List.all_eq_false]
        exact ⟨l[i], List.getElem_mem _, by simp [e]⟩
theorem code_is {p : Int} {l : List V64} (hb : ∀ a ∈ l, IsB a) (hl : l.length ≤ 2000000) : spec_l01Code p l = some (if isP p && l.all (small p) then 0 else 1) := by
  unfold spec_l01Code
  rw [isPrime_spec]
  cases hp : isP p with
  | false => simp
  | true =>
    obtain ⟨r, h1, h2⟩ := code_loop hb hl hp 0 ⟨0, rfl, by omega, by simp⟩
    simp only [Option.bind_some, Bool.not_true, Bool.false_eq_true, if_false, h1, Bool.true_and]
    rcases h2 with ⟨rfl, h⟩ | ⟨rfl, h⟩ <;> simp [h]

theorem res_of_small {p : Int} {a : V64} (hb : IsB a) (h : small p a = true) : Res p a := fun j hj => by
  have h1 : Small p a := by simpa [small] using h
  exact ⟨(hb.rd hj).1, h1 j hj⟩
end Go.Proofs.Ytdhcpekngpndnaa
/- The row of an array. -/
namespace Go.Proofs.Ytdhcpekngpndnaa
open Go.Abs
theorem row_is {d : V64} (hb : IsB d) : impl_rowOf d = some (row d) := by
  rw [rowOf_is hb]
  congr 1
  have := top_le (rd d.1) 64
  refine rd_ext (by rw [row, ofF_len]; simp; rw [d.2]; omega) fun i hi => ?_
  simp at hi
  rw [rd_take, row, rd_ofF', if_pos (by omega), if_pos (by omega)]
theorem row_length (d : V64) : (row d).length = top (rd d.1) 64 := by rw [row, ofF_len]
theorem row_rd (d : V64) {i : Nat} (hi : i < 64) : rd (row d) i = rd d.1 i := by rw [row, rd_ofF', if_pos hi]
end Go.Proofs.Ytdhcpekngpndnaa
/- Polynomials in arrays. -/
namespace Go.Proofs.Ytdhcpekngpndnaa
open Go.Abs

theorem pri_of {p : Int} (h : isP p = true) : ∃ P : Pri, p = P.p := by
  have hp := isP_pos h
  obtain ⟨n, hn⟩ : ∃ n : Nat, p = n := ⟨p.toNat, by omega⟩
  subst hn
  exact ⟨⟨n, h⟩, rfl⟩
/-- The polynomial in an array. -/
def ppv {P : Pri} (v : V64) (hb : IsB v) (hs : small P.p v = true) : PP P := ⟨row v, row_row (res_of_small hb hs)⟩
theorem ppv_len {P : Pri} {v : V64} {hb : IsB v} {hs : small P.p v = true} : (ppv v hb hs).len ≤ 64 := row_len v
theorem ppv_pad {P : Pri} {v : V64} {hb : IsB v} {hs : small P.p v = true} : pad (ppv v hb hs).1 = v := pad_row v
end Go.Proofs.Ytdhcpekngpndnaa
/- Few monic polynomials: the codes of sums. -/
namespace Go.Proofs.Ytdhcpekngpndnaa
open Go.Abs

theorem code8_loop {l : List Int} (hl : l.length ≤ 1000000) : ∀ s : Int, (∃ i : Nat, s = i ∧ i ≤ l.length ∧ ∀ j, j < i → 0 ≤ rd l j ∧ rd l j ≤ 40) → ∃ r, loopM (fun s : Int => spec_l08Code_l1 l s) s = some r ∧ ((r = .inl () ∧ ∀ k ∈ l, 0 ≤ k ∧ k ≤ 40) ∨ (r = .inr 2 ∧ ¬ ∀ k ∈ l, 0 ≤ k ∧ k ≤ 40)) := by
  refine loopM_ind (fun (s : Int) => ∃ i : Nat, s = i ∧ i ≤ l.length ∧ ∀ j, j < i → 0 ≤ rd l j ∧ rd l j ≤ 40) (fun (s : Int) (r : Unit ⊕ Int) => (r = .inl () ∧ ∀ k ∈ l, 0 ≤ k ∧ k ≤ 40) ∨ (r = .inr 2 ∧ ¬ ∀ k ∈ l, 0 ≤ k ∧ k ≤ 40)) (fun s => l.length - s.toNat) ?_
  rintro s ⟨i, rfl, hi, hlt⟩
  by_cases h : i = l.length
  · right
    subst h
    refine ⟨.inl (), by simp [spec_l08Code_l1], .inl ⟨rfl, fun k hk => ?_⟩⟩
    obtain ⟨j, hj, rfl⟩ := List.getElem_of_mem hk
    rw [← rd_lt hj]; exact hlt j hj
  · have hil : i < l.length := by omega
    by_cases e : 0 ≤ rd l i ∧ rd l i ≤ 40
    · left
      refine ⟨((i + 1 : Nat) : Int), ?_, ⟨i + 1, rfl, by omega, fun j hj => ?_⟩, by simp; omega, fun r hr => hr⟩
      · simp only [spec_l08Code_l1, spec_l01In]
        rw [if_pos (decide_eq_true (by omega)), ifp_pos (by omega)]
        simp only [Int.toNat_natCast, ge_iff_le, e.1, e.2, decide_true, Option.bind_some, if_true, Bool.not_true, Bool.false_eq_true, if_false]
        rw [wrap64 (by omega) (by omega)]; rfl
      · by_cases hj' : j = i
        · rw [hj']; exact e
        · exact hlt j (by omega)
    · right
      refine ⟨.inr 2, ?_, .inr ⟨rfl, fun hs => e ?_⟩⟩
      · simp only [spec_l08Code_l1, spec_l01In]
        rw [if_pos (decide_eq_true (by omega)), ifp_pos (by omega)]
        by_cases h1 : 0 ≤ rd l i
        · have h2 : ¬ rd l i ≤ 40 := fun h2 => e ⟨h1, h2⟩
          simp [h1, h2]
        · simp [h1]
      · exact hs _ (rd_mem hil)
/-- Are there few enough monic polynomials of degree d? -/
def fewMonic (p d : Nat) : Bool := decide (d ≤ 8 ∧ p ^ d ≤ 343)
theorem code8_is {p : Int} {l : List Int} (hl : l.length ≤ 1000000) (d : Int) :
    spec_l08Code p d l = some (if isP p then (if 0 ≤ d ∧ fewMonic p.toNat d.toNat = true then (if ∀ k ∈ l, 0 ≤ k ∧ k ≤ 40 then 0 else 2) else 2) else 1) := by
  unfold spec_l08Code spec_l01In
  rw [isPrime_spec]
  simp only [Option.bind_some]
  cases hp : isP p with
  | false => simp
  | true =>
    have hp2 := isP_pos hp
    obtain ⟨q, rfl⟩ : ∃ q : Nat, p = q := ⟨p.toNat, by omega⟩
    simp only [Bool.not_true, Bool.false_eq_true, if_false, if_true]
    by_cases h1 : 0 ≤ d
    · obtain ⟨n, rfl⟩ : ∃ n : Nat, d = n := ⟨d.toNat, by omega⟩
      by_cases h2 : n ≤ 8
      · obtain ⟨c, h3, h4⟩ := count_is (p := q) (n := n) (by omega) (by omega)
        simp only [h3, Option.bind_some, ge_iff_le, h1, decide_true, if_true, show (decide ((n : Int) ≤ 8)) = true from decide_eq_true (by omega), Bool.not_true, Bool.false_eq_true, if_false]
        by_cases h5 : q ^ n ≤ 343
        · have hc : (decide ((c : Int) > 343)) = false := decide_eq_false (by omega)
          have hf : fewMonic ((q : Int).toNat) ((n : Int).toNat) = true := by simp [fewMonic, h2, h5]
          rw [hc, hf]
          obtain ⟨r, h6, h7⟩ := code8_loop hl 0 ⟨0, rfl, by omega, fun j hj => by omega⟩
          simp only [Bool.false_eq_true, if_false, h6, Option.bind_some, h1, true_and, if_true]
          rcases h7 with ⟨rfl, h⟩ | ⟨rfl, h⟩
          · rw [if_pos h]
          · rw [if_neg h]
        · have hc : (decide ((c : Int) > 343)) = true := decide_eq_true (by omega)
          have hf : fewMonic ((q : Int).toNat) ((n : Int).toNat) = false := by simp [fewMonic, h5]
          rw [hc, hf]
          simp
      · have hf : fewMonic ((q : Int).toNat) ((n : Int).toNat) = false := by simp [fewMonic, h2]
        rw [hf]
        simp [h1, show ¬ ((n : Int) ≤ 8) by omega]
    · simp [h1]
theorem isSummed_is {p d : Nat} (hp : 2 ≤ p ∧ p ≤ 7) (hd : d ≤ 1000000) : impl_prime_isSummed p d = some (decide (p ^ d ≤ 343)) := by
  obtain ⟨c, h1, h2, _⟩ := norm_is (n := d) (most := 343) hp hd (by omega)
  have h1' : impl_prime_norm p d 343 = some (c : Int) := h1
  simp only [impl_prime_isSummed, h1', Option.bind_some]
  congr 1
  rw [Bool.eq_iff_iff]; simp only [decide_eq_true_eq]; omega
theorem isSumDegree_is {p : Nat} (hp : 2 ≤ p ∧ p ≤ 7) (d : Int) : impl_prime_isSumDegree p d = some (decide (0 ≤ d) && fewMonic p d.toNat) := by
  unfold impl_prime_isSumDegree impl_within
  by_cases h1 : 0 ≤ d
  · obtain ⟨n, rfl⟩ : ∃ n : Nat, d = n := ⟨d.toNat, by omega⟩
    by_cases h2 : n ≤ 8
    · have h2' : (n : Int) ≤ 8 := by omega
      simp [h1, h2', isSummed_is hp (show n ≤ 1000000 by omega), fewMonic, h2]
    · have h2' : ¬ (n : Int) ≤ 8 := by omega
      simp [h1, h2', fewMonic, h2]
  · simp [h1]
end Go.Proofs.Ytdhcpekngpndnaa
/- The leading coefficient. -/
namespace Go.Proofs.Ytdhcpekngpndnaa
open Go.Abs

theorem lead_any {b : List Int} (hl : b.length ≤ 1000000) : impl_row_lead b = some (lead b) := by
  by_cases h : b.length = 0
  · have e : b = [] := List.eq_nil_of_length_eq_zero h
    subst e
    rfl
  · exact lead_is h hl
theorem degI_row (v : V64) : impl_row_degree (row v) = some (((row v).length : Int) - 1) := by
  have := row_len v
  simp only [impl_row_degree]
  rw [wrap64 (by omega) (by omega)]
theorem degS_row (v : V64) : spec_l01Deg v = some (((row v).length : Int) - 1) := by rw [deg_is, row_length]
theorem lead_nil : lead [] = 0 := rfl
theorem monicS_is (v : V64) : spec_l01Monic v = some (decide (lead (row v) = 1)) := by
  have hl := row_len v
  simp only [spec_l01Monic, degS_row, Option.bind_some]
  by_cases h : (row v).length = 0
  · have e : row v = [] := List.eq_nil_of_length_eq_zero h
    rw [e, lead_nil]
    simp
  · have e : ((row v).length : Int) - 1 = (((row v).length - 1 : Nat) : Int) := by omega
    rw [e, if_pos (decide_eq_true (by omega)), ifp_pos (by omega), Int.toNat_natCast, ← row_rd v (by omega)]
    congr 1
end Go.Proofs.Ytdhcpekngpndnaa
/- Which arrays are polynomials, in the program. -/
namespace Go.Proofs.Ytdhcpekngpndnaa
open Go.Abs

theorem index_loop {p : Int} {a : V64} (hb : IsB a) : ∀ s : Int, (∃ i : Nat, s = i ∧ i ≤ 64 ∧ ∀ j, j < i → rd a.1 j < p) → ∃ r, loopM (fun s : Int => slices_IndexFunc_byte_byte_of_impl_areAll_byte__c1_p_l1 a.1 p s) s = some r ∧ ((r = .inl () ∧ Small p a) ∨ (∃ i : Nat, r = .inr (i : Int) ∧ ¬ Small p a)) := by
  refine loopM_ind (fun (s : Int) => ∃ i : Nat, s = i ∧ i ≤ 64 ∧ ∀ j, j < i → rd a.1 j < p) (fun (s : Int) (r : Unit ⊕ Int) => (r = .inl () ∧ Small p a) ∨ (∃ i : Nat, r = .inr (i : Int) ∧ ¬ Small p a)) (fun s => 64 - s.toNat) ?_
  rintro s ⟨i, rfl, hi, hlt⟩
  have h64 := a.2
  by_cases h : i = 64
  · right
    subst h
    exact ⟨.inl (), by simp [slices_IndexFunc_byte_byte_of_impl_areAll_byte__c1_p_l1, h64], .inl ⟨rfl, hlt⟩⟩
  · have hbi := hb.rd (show i < 64 by omega)
    have e1 : impl_areAll_byte__c1_of_p (rd a.1 i) p = some (!decide (rd a.1 i < p)) := by
      simp only [impl_areAll_byte__c1_of_p, impl_isPoly_c1_of_p, Option.bind_some]
      rw [wrap64 (by omega) (by omega)]
    by_cases e : rd a.1 i < p
    · left
      refine ⟨((i + 1 : Nat) : Int), ?_, ⟨i + 1, rfl, by omega, fun j hj => ?_⟩, by simp; omega, fun r hr => hr⟩
      · simp only [slices_IndexFunc_byte_byte_of_impl_areAll_byte__c1_p_l1, h64]
        rw [if_pos (by simp; omega), ifp_pos (by omega), Int.toNat_natCast, e1, wrap64 (by omega) (by omega)]
        simp [e]
      · by_cases hj' : j = i
        · rw [hj']; exact e
        · exact hlt j (by omega)
    · right
      refine ⟨.inr (i : Int), ?_, .inr ⟨i, rfl, fun hs => e (hs i (by omega))⟩⟩
      simp only [slices_IndexFunc_byte_byte_of_impl_areAll_byte__c1_p_l1, h64]
      rw [if_pos (by simp; omega), ifp_pos (by omega), Int.toNat_natCast, e1]
      simp [e]
theorem isPoly_is {p : Int} {a : V64} (hb : IsB a) : impl_isPoly p a = some (small p a) := by
  obtain ⟨r, h1, h2⟩ := index_loop (p := p) hb 0 ⟨0, rfl, by omega, fun j hj => by omega⟩
  simp only [impl_isPoly, impl_areAll_byte_of_impl_isPoly_c1_p, slices_ContainsFunc_byte_byte_of_impl_areAll_byte__c1_p, slices_IndexFunc_byte_byte_of_impl_areAll_byte__c1_p, h1, Option.bind_some]
  rcases h2 with ⟨rfl, h⟩ | ⟨i, rfl, h⟩ <;> simp [small, h]
end Go.Proofs.Ytdhcpekngpndnaa
/- The code for polynomials, in the program. -/
namespace Go.Proofs.Ytdhcpekngpndnaa
open Go.Abs

theorem indexP_loop {p : Int} {l : List V64} (hb : ∀ a ∈ l, IsB a) (hl : l.length ≤ 2000000) : ∀ s : Int, (∃ i : Nat, s = i ∧ i ≤ l.length ∧ ∀ a ∈ l.take i, small p a = true) → ∃ r, loopM (fun s : Int => slices_IndexFunc_impl_Poly_impl_Poly_of_impl_areAll_impl_Poly__c1_p_l1 l p s) s = some r ∧ ((r = .inl () ∧ l.all (small p) = true) ∨ (∃ i : Nat, r = .inr (i : Int) ∧ l.all (small p) = false)) := by
  refine loopM_ind (fun (s : Int) => ∃ i : Nat, s = i ∧ i ≤ l.length ∧ ∀ a ∈ l.take i, small p a = true) (fun (s : Int) (r : Unit ⊕ Int) => (r = .inl () ∧ l.all (small p) = true) ∨ (∃ i : Nat, r = .inr (i : Int) ∧ l.all (small p) = false)) (fun s => l.length - s.toNat) ?_
  rintro s ⟨i, rfl, hi, hlt⟩
  by_cases h : i = l.length
  · right
    subst h
    exact ⟨.inl (), by simp [slices_IndexFunc_impl_Poly_impl_Poly_of_impl_areAll_impl_Poly__c1_p_l1], .inl ⟨rfl, by rw [List.take_length] at hlt; simpa using hlt⟩⟩
  · have hil : i < l.length := by omega
    have er : rd l i = l[i] := by simp [rd, hil]
    have hbi := isPoly_is (p := p) (hb l[i] (List.getElem_mem _))
    have e1 : impl_areAll_impl_Poly__c1_of_p (rd l i) p = some (!small p l[i]) := by
      simp only [impl_areAll_impl_Poly__c1_of_p, impl_polysCode_c1_of_p, er, hbi, Option.bind_some]
    cases e : small p l[i] with
    | true =>
      left
      refine ⟨((i + 1 : Nat) : Int), ?_, ⟨i + 1, rfl, by omega, fun a ha => ?_⟩, by simp; omega, fun r hr => hr⟩
      · simp only [slices_IndexFunc_impl_Poly_impl_Poly_of_impl_areAll_impl_Poly__c1_p_l1]
        rw [if_pos (decide_eq_true (by omega)), ifp_pos (by omega), Int.toNat_natCast, e1, e]
        simp only [Option.bind_some, Bool.not_true, Bool.false_eq_true, if_false]
        rw [wrap64 (by omega) (by omega)]; rfl
      · rw [List.take_succ_eq_append_getElem hil] at ha
        rcases List.mem_append.1 ha with ha | ha
        · exact hlt a ha
        · have : a = l[i] := by simpa using ha
          rw [this]; exact e
    | false =>
      right
      refine ⟨.inr (i : Int), ?_, .inr ⟨i, rfl, ?_⟩⟩
      · simp only [slices_IndexFunc_impl_Poly_impl_Poly_of_impl_areAll_impl_Poly__c1_p_l1]
        rw [if_pos (decide_eq_true (by omega)), ifp_pos (by omega), Int.toNat_natCast, e1, e]
        rfl
      · rw [List.all_eq_false]
        exact ⟨l[i], List.getElem_mem _, by simp [e]⟩
theorem polysCode_is {p : Int} {l : List V64} (hb : ∀ a ∈ l, IsB a) (hl : l.length ≤ 2000000) : impl_polysCode p l = some (if isP p && l.all (small p) then 0 else 1) := by
  obtain ⟨r, h1, h2⟩ := indexP_loop (p := p) hb hl 0 ⟨0, rfl, by omega, by simp⟩
  have e : impl_areAll_impl_Poly_of_impl_polysCode_c1_p l p = some (l.all (small p)) := by
    simp only [impl_areAll_impl_Poly_of_impl_polysCode_c1_p, slices_ContainsFunc_impl_Poly_impl_Poly_of_impl_areAll_impl_Poly__c1_p, slices_IndexFunc_impl_Poly_impl_Poly_of_impl_areAll_impl_Poly__c1_p, h1, Option.bind_some]
    rcases h2 with ⟨rfl, h⟩ | ⟨i, rfl, h⟩ <;> simp [h]
  simp only [impl_polysCode, isPrime_impl, e, Option.bind_some]
  cases isP p <;> cases l.all (small p) <;> simp
end Go.Proofs.Ytdhcpekngpndnaa
/- Numbers in a range. -/
namespace Go.Proofs.Ytdhcpekngpndnaa
open Go.Abs

theorem within_is (a b c : Int) : impl_within a b c = some (decide (b ≤ a ∧ a ≤ c)) := by
  simp only [impl_within]
  by_cases h : b ≤ a <;> simp [h]
theorem inS_is (a b c : Int) : spec_l01In a b c = some (decide (b ≤ a ∧ a ≤ c)) := by
  simp only [spec_l01In]
  by_cases h : b ≤ a <;> simp [h]
end Go.Proofs.Ytdhcpekngpndnaa
/- The codes of monic polynomials. -/
namespace Go.Proofs.Ytdhcpekngpndnaa
open Go.Abs

/-- Monic, of a degree from 1 to 5. -/
def okM (m : List Int) : Bool := decide (lead m = 1 ∧ 2 ≤ m.length ∧ m.length ≤ 6)
theorem okM_deg (v : V64) : okM (row v) = (decide (lead (row v) = 1) && decide (1 ≤ ((row v).length : Int) - 1 ∧ ((row v).length : Int) - 1 ≤ 5)) := by
  rw [okM, Bool.eq_iff_iff]
  simp only [Bool.and_eq_true, decide_eq_true_eq]
  omega
theorem monI_is {p : Int} {m : V64} (hm : IsB m) (f : Bool) : impl_monicCode_of_sl p m 5 f [] = some (if isP p && small p m then (if okM (row m) = true ∧ f = true then 0 else 2) else 1) := by
  have hl := row_len m
  simp only [impl_monicCode_of_sl, List.nil_append, polysCode_is (p := p) (l := [m]) (by simp [hm]) (by simp), Option.bind_some, row_is hm, lead_any (show (row m).length ≤ 1000000 by omega), degI_row, within_is, List.all_cons, List.all_nil, Bool.and_true]
  rw [ifp_pos (by simp), okM_deg]
  by_cases hs : (isP p && small p m) = true
  · by_cases h1 : lead (row m) = 1
    · by_cases h2 : 1 ≤ ((row m).length : Int) - 1 ∧ ((row m).length : Int) - 1 ≤ 5
      · cases f <;> simp [hs, h1, h2]
      · cases f <;> simp [hs, h1, h2]
    · cases f <;> simp [hs, h1]
  · simp [hs]
end Go.Proofs.Ytdhcpekngpndnaa
/- Monic polynomials, in the program. -/
namespace Go.Proofs.Ytdhcpekngpndnaa
open Go.Abs

/-- The monic polynomials of degree d. -/
def monicL (p d : Nat) (n : Nat) : List (List Int) := (List.range n).map fun i => digs p (p ^ d + i)
theorem monics_is {p d : Nat} (hp : 2 ≤ p ∧ p ≤ 7) (hd : d ≤ 1000000) (hm : p ^ d ≤ 343) : impl_prime_monics p d = some (monicL p d (p ^ d)) := by
  obtain ⟨c, h1, h2, _⟩ := norm_is (n := d) (most := 343) hp hd (by omega)
  have hc : c = p ^ d := by omega
  subst hc
  have h1' : impl_prime_norm p d 343 = some ((p ^ d : Nat) : Int) := h1
  simp only [impl_prime_monics, h1', Option.bind_some]
  generalize hn : p ^ d = n at *
  obtain ⟨s, g1, g2⟩ := loopM_for (body := fun s : Int × List (List Int) => impl_prime_monics_l1 (n : Int) p s.1 s.2) (fun i s => ((i : Int), s)) (fun s => s) n
    (fun i s => s = (List.range i).map fun i => digs p (n + i)) (fun i s hi hI => by
      subst hI
      refine ⟨_, ?_, rfl⟩
      simp only [impl_prime_monics_l1]
      have e : IntKind.i64.wrap ((n : Int) + (i : Int)) = ((n + i : Nat) : Int) := by rw [wrap64 (by omega) (by omega)]; omega
      rw [if_pos (decide_eq_true (by omega)), e, numbered_is hp.1 (by omega)]
      simp only [Option.bind_some]
      rw [ifp_pos (by simp; omega), wrap64 (by omega) (by omega), List.range_succ, List.map_append]
      rfl) (fun s hI => by
      simp only [impl_prime_monics_l1]
      rw [if_neg (by rw [decide_eq_true_eq]; omega)]) n 0 [] (by omega) rfl
  have g1' : loopM (fun s : Int × List (List Int) => impl_prime_monics_l1 (n : Int) p s.1 s.2) (0, []) = some s := g1
  rw [g1', g2, monicL, hn]
  rfl
end Go.Proofs.Ytdhcpekngpndnaa
/- FnExactSymbolSum. -/
namespace Go.Proofs.Ytdhcpekngpndnaa
open Go.Abs
theorem monS0_is {p : Int} {m : V64} (hm : IsB m) (d : Int) : spec_l08Monic p m d [] = some (if isP p && small p m then (if okM (row m) = true ∧ (0 ≤ d ∧ fewMonic p.toNat d.toNat = true) then 0 else 2) else 1) := by
  simp only [spec_l08Monic, code_is (p := p) (l := [m]) (by simp [hm]) (by simp), Option.bind_some, monicS_is, degS_row, inS_is, code8_is (p := p) (l := []) (by simp) d, List.all_cons, List.all_nil, Bool.and_true]
  rw [okM_deg]
  by_cases hp : isP p = true
  · by_cases hs : small p m = true
    · by_cases h1 : lead (row m) = 1
      · by_cases h2 : 1 ≤ ((row m).length : Int) - 1 ∧ ((row m).length : Int) - 1 ≤ 5
        · by_cases h3 : 0 ≤ d ∧ fewMonic p.toNat d.toNat = true
          · simp [hp, hs, h1, h2, h3]
          · simp [hp, hs, h1, h2, h3]
        · simp [hp, hs, h1, h2]
      · simp [hp, hs, h1]
    · simp [hp, hs]
  · simp [hp]
theorem ssum_loop {P : Pri} {m : PP P} (hm : m ≠ 0) (lm : m.len ≤ 13) {v : V64} (hv : IsB v) (hvm : row v = m.1) {d : Nat} (hd : d ≤ 8) (hN : P.n ^ d ≤ 343) : ∀ (k i : Nat) (x : Int), i + k = P.n ^ d → 0 ≤ x ∧ x ≤ 7 * i →
    ∃ z, 0 ≤ z ∧ loopM (fun s : Int × Int => impl_SymbolSum_l1 (monicL P.n d (P.n ^ d)) v P.p s.1 s.2) (x, (i : Int)) = some z ∧ loopM (fun s : Int × Int => spec_SymbolSum_l1 P.p (d : Int) (pad m.1) s.1 s.2) (x % P.p, ((P.n ^ d + i : Nat) : Int)) = some (z % P.p) := by
  have hp := P.two
  have hml : (monicL P.n d (P.n ^ d)).length = P.n ^ d := by simp [monicL]
  have hcnt : spec_l01Count P.p (d : Int) = some ((P.n ^ d : Nat) : Int) := countS P (by omega) (by omega)
  intro k
  induction k with
  | zero =>
    intro i x h hx
    have s1 : impl_SymbolSum_l1 (monicL P.n d (P.n ^ d)) v P.p x (i : Int) = some (.inr x) := by
      simp only [impl_SymbolSum_l1, hml]
      rw [if_neg (by rw [decide_eq_true_eq]; omega)]
    have s2 : spec_SymbolSum_l1 P.p (d : Int) (pad m.1) (x % P.p) ((P.n ^ d + i : Nat) : Int) = some (.inr (x % P.p)) := by
      simp only [spec_SymbolSum_l1, hcnt, Option.bind_some]
      rw [wrap64 (by omega) (by omega), if_neg (by rw [decide_eq_true_eq]; omega)]
    exact ⟨x, hx.1, by rw [loopM_eq]; simp only [s1, Option.bind_some], by rw [loopM_eq]; simp only [s2, Option.bind_some]⟩
  | succ k ih =>
    intro i x h hx
    have hi : i < P.n ^ d := by omega
    have hrd : rd (monicL P.n d (P.n ^ d)) i = (ppn P (P.n ^ d + i)).1 := by simp [rd, monicL, hi, ppn]
    have hlen : (ppn P (P.n ^ d + i)).len = d + 1 := digs_monic_len P.ge hi
    obtain ⟨y, r1, r2, hy⟩ := symbol_both (a := ppn P (P.n ^ d + i)) (m := m) (by omega) hm lm
    have hxe := emod_res P.pos x
    have s1 : impl_SymbolSum_l1 (monicL P.n d (P.n ^ d)) v P.p x (i : Int) = some (.inl (x + y, ((i + 1 : Nat) : Int))) := by
      simp only [impl_SymbolSum_l1, hml, Int.toNat_natCast, hrd, row_is hv, hvm, r1, Option.bind_some]
      rw [if_pos (decide_eq_true (by omega)), ifp_pos (by omega), wrap64 (n := x + y) (by omega) (by omega), wrap64 (by omega) (by omega)]; rfl
    have s2 : spec_SymbolSum_l1 P.p (d : Int) (pad m.1) (x % P.p) ((P.n ^ d + i : Nat) : Int) = some (.inl ((x + y) % P.p, ((P.n ^ d + (i + 1) : Nat) : Int))) := by
      simp only [spec_SymbolSum_l1, hcnt, ofS P (show P.n ^ d + i ≤ 1000000000000 by omega), r2, Option.bind_some]
      rw [wrap64 (n := 2 * _) (by omega) (by omega), if_pos (decide_eq_true (by omega)), ifp_pos (by omega), wrap64 (n := x % P.p + y) (by omega) (by omega), wrap64 (by omega) (by omega), Int.tmod_eq_emod_of_nonneg (by omega), Int.emod_add_emod]
      rfl
    obtain ⟨z, z0, z1, z2⟩ := ih (i + 1) (x + y) (by omega) (by omega)
    exact ⟨z, z0, by rw [loopM_eq]; simp only [s1, Option.bind_some]; exact z1, by rw [loopM_eq]; simp only [s2, Option.bind_some]; exact z2⟩
theorem symSum_law (p : Int) (m : V64) (d : Int) (hm : IsB m) : laws_FnExactSymbolSum p m d = some true := by
  have key : ∃ r, spec_SymbolSum p m d = some r ∧ impl_SymbolSum p m d = some r := by
    simp only [spec_SymbolSum, impl_SymbolSum, monS0_is hm, isPrime_impl, monI_is hm, Option.bind_some]
    cases hp : isP p
    · exact ⟨(0, 1), by simp, by simp⟩
    · obtain ⟨P, rfl⟩ := pri_of hp
      have hsd : impl_prime_isSumDegree P.p d = some (decide (0 ≤ d) && fewMonic P.n d.toNat) := isSumDegree_is (by have := P.is; omega) d
      have et : P.p.toNat = P.n := Int.toNat_natCast _
      have hp2 := P.two
      simp only [if_true, hsd, Option.bind_some, Bool.true_and, et]
      cases hs : small P.p m
      · exact ⟨(0, 1), by simp, by simp⟩
      · simp only [if_true]
        by_cases hg : okM (row m) = true ∧ (0 ≤ d ∧ fewMonic P.n d.toNat = true)
        · obtain ⟨g1, g2, g3⟩ := hg
          have g1' : lead (row m) = 1 ∧ 2 ≤ (row m).length ∧ (row m).length ≤ 6 := by simpa [okM] using g1
          obtain ⟨n, rfl⟩ : ∃ n : Nat, d = n := ⟨d.toNat, by omega⟩
          rw [Int.toNat_natCast] at g3
          have g3' : n ≤ 8 ∧ P.n ^ n ≤ 343 := by simpa [fewMonic] using g3
          have hlm : (ppv m hm hs).len = (row m).length := rfl
          have hm0 : ppv m hm hs ≠ 0 := fun e => by have := len_zero.2 e; omega
          obtain ⟨z, z0, z1, z2⟩ := ssum_loop hm0 (by omega) hm (m := ppv m hm hs) rfl g3'.1 g3'.2 (P.n ^ n) 0 0 (by omega) (by omega)
          rw [ppv_pad] at z2
          have hcnt : spec_l01Count P.p (n : Int) = some ((P.n ^ n : Nat) : Int) := countS P (by omega) (by omega)
          have hmon : impl_prime_monics P.p (n : Int) = some (monicL P.n n (P.n ^ n)) := monics_is (by have := P.is; omega) (by omega) g3'.2
          have z1' : loopM (fun s : Int × Int => impl_SymbolSum_l1 (monicL P.n n (P.n ^ n)) m P.p s.1 s.2) (0, 0) = some z := z1
          have z2' : loopM (fun s : Int × Int => spec_SymbolSum_l1 P.p (n : Int) m s.1 s.2) (0, ((P.n ^ n : Nat) : Int)) = some (z % P.p) := by
            rw [Int.zero_emod] at z2; exact z2
          simp only [g1, g2, g3, Int.toNat_natCast, true_and, and_true, decide_true, Bool.and_self, Bool.true_and, if_true, bne_self_eq_false, Bool.false_eq_true, if_false, hcnt, hmon, z1', z2', Option.bind_some]
          rw [ifp_pos (by omega), Int.tmod_eq_emod_of_nonneg z0]
          exact ⟨_, rfl, rfl⟩
        · refine ⟨(0, 2), ?_, ?_⟩
          · rw [if_neg hg]; rfl
          · have : ¬ (okM (row m) = true ∧ (decide (0 ≤ d) && fewMonic P.n d.toNat) = true) := fun h => hg ⟨h.1, by simpa using h.2⟩
            rw [if_neg this]; rfl
  obtain ⟨r, k1, k2⟩ := key
  simp only [laws_FnExactSymbolSum, toPoly_is, k1, k2, Option.bind_some]
  simp
end Go.Proofs.Ytdhcpekngpndnaa
