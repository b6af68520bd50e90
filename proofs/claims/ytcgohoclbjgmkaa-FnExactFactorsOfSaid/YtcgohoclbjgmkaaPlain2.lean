/- Own texts, put together. -/
import Derived.Test.YtcgohoclbjgmkaaPlain1
import Derived.Test.YtcgohoclbjgmkaaFn1
import Derived.Test.YtcgohoclbjgmkaaFn2
import Derived.Test.YtcgohoclbjgmkaaFn3
import Derived.Test.YtcgohoclbjgmkaaFn4
import Derived.Test.YtcgohoclbjgmkaaFn5
import Derived.Test.YtcgohoclbjgmkaaFn6
import Derived.Test.YtcgohoclbjgmkaaFn7
set_option linter.unusedSimpArgs false
set_option linter.unusedVariables false
/- The whole list of factors, in the reference. -/
namespace Go.Proofs.Ytcgohoclbjgmkaa
open Go.Abs

variable {P : Pri}
/-- Factors to come have at least the degree n, or more than half the degree. -/
def Wide (n : Nat) (a : PP P) : Prop := ∀ g : PP P, Irr g → Dv g a → n + 1 ≤ g.len ∨ (a.len : Int) - 1 < 2 * ((g.len : Int) - 1)
theorem monS {a : PP P} (ha : a ≠ 0) (la : a.len ≤ 64) : (Option.bind (spec_l01Inverse P.p (rd (pad a.1).1 (a.len - 1))) fun r => spec_l01Add P.p (vrep 64 0) (pad a.1) (IntKind.i64.wrap r)) = some (pad (mon a).1) := by
  have hl := lead_pos P.pos a.2 (ne_len ha)
  have hi := inv_is P.okp hl
  have hp := P.two
  have hap := len_pos ha
  obtain ⟨k, hk⟩ : ∃ k : Nat, inv P.p (lead a.1) = k := ⟨(inv P.p (lead a.1)).toNat, by omega⟩
  have e1 : rd (pad a.1).1 (a.len - 1) = lead a.1 := rd_padl _ (by omega)
  rw [e1, inverse_spec P.okp hl]
  simp only [Option.bind_some]
  rw [wrap64 (by omega) (by omega), hk]
  have h := addS (P := P) (a := 0) (b := a) (by rw [len_zero.2 rfl]; omega) la (k := k) (by omega)
  have e2 : pad (0 : PP P).1 = vrep 64 0 := pad_nil
  rw [e2, ppring.zero_add] at h
  rw [h]
  unfold mon
  rw [hk, Int.toNat_natCast]
theorem split_outer {a0 : PP P} (l0 : a0.len ≤ 13) : ∀ (m n B : Nat) (a : PP P) (L : FL), m + n = 14 → 1 ≤ n → Going a0 a L → Bnd a L B → B ≤ P.n ^ n → Wide n a →
    ∃ (a' : PP P) (L' : FL) (B' : Nat), loopM (fun s : Int × V64 × List (V64 × Int) => spec_l02Split_l1 P.p s.1 s.2.1 s.2.2) ((n : Int), pad a.1, flS L) = some (pad a'.1, flS L') ∧ Going a0 a' L' ∧ Bnd a' L' B' ∧ (2 ≤ a'.len → Irr a') := by
  intro m
  induction m with
  | zero =>
    intro n B a L h hn hG hB _ hW
    have hla := hG.len
    have step : spec_l02Split_l1 P.p (n : Int) (pad a.1) (flS L) = some (.inr (pad a.1, flS L)) := by
      simp only [spec_l02Split_l1, degS a (by omega), Option.bind_some]
      rw [if_neg (by rw [decide_eq_true_eq, wrap64 (by omega) (by omega)]; omega)]
    refine ⟨a, L, B, by rw [loopM_eq]; simp only [step, Option.bind_some], hG, hB, fun h2 => ?_⟩
    refine Classical.byContradiction fun hn' => ?_
    obtain ⟨g, hg, hd, hl⟩ := exists_half h2 hn'
    rcases hW g hg hd with h3 | h3 <;> omega
  | succ m ih =>
    intro n B a L h hn hG hB hBn hW
    have hla := hG.len
    by_cases h2 : 2 * n ≤ a.len - 1
    · have hn6 := small_exp (P := P) (show n ≤ 6 by omega) (by omega)
      have hbig : ∀ g : PP P, Irr g → Mo g → Dv g a → P.n ^ n ≤ num P.n g.1 := fun g hg mg hd => by
        have h3 : n + 1 ≤ g.len := by rcases hW g hg hd with h3 | h3 <;> omega
        have h4 := (num_monic P.ge g.1 (g.len - 1) g.2 (by show g.len = _; omega) mg).1
        have h5 : P.n ^ n ≤ P.n ^ (g.len - 1) := Nat.pow_le_pow_right (by have := P.ge; omega) (by omega)
        omega
      have hB' : Bnd a L (P.n ^ n) := ⟨fun x hx => by have := hB.lt x hx; omega, hbig, hB.sorted⟩
      obtain ⟨a', L', B', k1, k2, k3, k4, k5, k6⟩ := split_inner l0 hn hn6 (by omega) (P.n ^ n) (P.n ^ n) a L (by omega) (Nat.le_refl _) hG hB'
      have step : spec_l02Split_l1 P.p (n : Int) (pad a.1) (flS L) = some (.inl (((n + 1 : Nat) : Int), pad a'.1, flS L')) := by
        simp only [spec_l02Split_l1, degS a (by omega), countS P (show n ≤ 1000000 by omega) (by omega), k1, Option.bind_some]
        rw [if_pos (decide_eq_true (by rw [wrap64 (by omega) (by omega)]; omega)), wrap64 (by omega) (by omega)]; rfl
      have h5 : 2 * P.n ^ n ≤ P.n ^ (n + 1) := by rw [Nat.pow_succ, Nat.mul_comm]; exact Nat.mul_le_mul_left _ P.ge
      have hW' : Wide (n + 1) a' := fun g hg hd => by
        have h6 := k3.ge (mon g) (irr_mon hg) (mon_mo hg.ne) ((dv_mon hg.ne).2 hd)
        have h7 : (mon g).1.length = g.len := mon_len hg.ne
        have h8 := num_lt P.ge (mon g).1 (mon g).2
        rw [h7] at h8
        have hg2 := hg.1
        have h10 := (num_monic P.ge (mon g).1 (g.len - 1) (mon g).2 (by rw [h7]; omega) (mon_mo hg.ne)).2
        have h11 : n ≤ g.len - 1 := by
          rcases Nat.lt_or_ge (g.len - 1) n with h | h
          · exfalso
            have : P.n ^ g.len ≤ P.n ^ n := Nat.pow_le_pow_right (by have := P.ge; omega) (by omega)
            omega
          · exact h
        rcases k6 with h9 | h9
        · left
          rcases Nat.lt_or_ge n (g.len - 1) with h | h
          · omega
          · exfalso
            have : P.n ^ (g.len - 1) ≤ P.n ^ n := Nat.pow_le_pow_right (by have := P.ge; omega) (by omega)
            omega
        · right; omega
      rw [loopM_eq]
      simp only [step, Option.bind_some]
      exact ih (n + 1) B' a' L' (by omega) (by omega) k2 k3 (by omega) hW'
    · have step : spec_l02Split_l1 P.p (n : Int) (pad a.1) (flS L) = some (.inr (pad a.1, flS L)) := by
        simp only [spec_l02Split_l1, degS a (by omega), Option.bind_some]
        rw [if_neg (by rw [decide_eq_true_eq, wrap64 (by omega) (by omega)]; omega)]
      refine ⟨a, L, B, by rw [loopM_eq]; simp only [step, Option.bind_some], hG, hB, fun h2 => ?_⟩
      refine Classical.byContradiction fun hn' => ?_
      obtain ⟨g, hg, hd, hl⟩ := exists_half h2 hn'
      rcases hW g hg hd with h3 | h3 <;> omega
theorem splitS {a : PP P} (ha : a ≠ 0) (la : a.len ≤ 13) : ∃ L : FL, spec_l02Split P.p (pad a.1) = some (flS L) ∧ IsFac a L ∧ L.length ≤ 12 := by
  obtain ⟨a', L, B, k1, hG, hB, hi⟩ := split_outer la 13 1 0 a [] (by omega) (by omega) (Going.start ha) ⟨by simp, fun _ _ _ _ => Nat.zero_le _, .nil⟩ (Nat.zero_le _) (fun g hg _ => .inl hg.1)
  have k1' : loopM (fun s : Int × V64 × List (V64 × Int) => spec_l02Split_l1 P.p s.1 s.2.1 s.2.2) (1, pad a.1, []) = some (pad a'.1, flS L) := k1
  have hla := hG.len
  have hap := len_pos hG.ne
  simp only [spec_l02Split, k1', Option.bind_some, degS a' (show a'.len ≤ 64 by omega)]
  by_cases h1 : a'.len = 1
  · rw [if_neg (by rw [decide_eq_true_eq]; omega)]
    exact ⟨L, rfl, isfac_of (.refl _) hG.ok (hG.done h1) hB.sorted, by omega⟩
  · have hirr := hi (by omega)
    obtain ⟨hm0, hmL, l1, l2, l3⟩ := hG.last hirr
    have hmon := monS hG.ne (show a'.len ≤ 64 by omega)
    have e1 : ((a'.len : Int) - 1).toNat = a'.len - 1 := by omega
    have hkey : ∀ x ∈ L, key P x < num P.n (mon a').1 := fun x hx => by
      have h3 := hB.lt x hx
      have h4 := hB.ge (mon a') (irr_mon hirr) (mon_mo hG.ne) (mon_dv hG.ne).2
      omega
    have hlm : (mon a').len ≤ 64 := by rw [mon_len hG.ne]; omega
    rw [if_pos (decide_eq_true (by omega)), ifp_pos (by omega), e1]
    have hinv := inverse_spec P.okp (lead_pos P.pos a'.2 (ne_len hG.ne))
    have e2 : rd (pad a'.1).1 (a'.len - 1) = lead a'.1 := rd_padl _ (by omega)
    rw [e2, hinv] at hmon
    simp only [Option.bind_some] at hmon
    rw [e2, hinv]
    simp only [Option.bind_some, hmon, letp]
    have hlen : (flS L).length = L.length := flS_len L
    have hlast : ((if (decide ((IntKind.i64.wrap (((flS L).length : Int) - 1)) ≥ 0)) then (ifp (0 ≤ IntKind.i64.wrap (((flS L).length : Int) - 1) ∧ IntKind.i64.wrap (((flS L).length : Int) - 1) < (((flS L).length : Nat) : Int)) (some ((decide ((rd (flS L) (IntKind.i64.wrap (((flS L).length : Int) - 1)).toNat).1 = pad (mon a').1))))) else (some false)) : Option Bool) = some false := by
      rw [wrap64 (by omega) (by omega), hlen]
      by_cases h0 : L.length = 0
      · rw [if_neg (by rw [decide_eq_true_eq]; omega)]
      · rw [if_pos (decide_eq_true (by omega)), ifp_pos (by omega), show ((L.length : Int) - 1).toNat = L.length - 1 by omega]
        congr 1
        refine decide_eq_false fun he => ?_
        have hx : L.length - 1 < L.length := by omega
        have e3 : rd (flS L) (L.length - 1) = (pad L[L.length - 1].1, L[L.length - 1].2) := by simp [rd, flS, hx]
        rw [e3] at he
        have hmem := List.getElem_mem hx
        obtain ⟨g, k, e4, hg, _, hk, d1, _⟩ := hG.ok _ hmem
        have h5 := hkey _ hmem
        have hgl := dv_len ((dv_pw1 g a).1 (dv_pw_le hk d1)) ha
        rw [e4] at he h5
        have h6 := pad_inj g.2 (mon a').2 (by show g.len ≤ 64; omega) hlm he
        have : num P.n g.1 < num P.n (mon a').1 := h5
        rw [h6] at this
        omega
    refine ⟨L ++ [((mon a').1, 1)], ?_, isfac_of (.refl _) l1 l3 ?_, by simp; omega⟩
    · rw [hlast]
      simp only [Option.bind_some]
      rw [if_neg (by simp), ifp_pos (by simp only [List.length_cons, List.length_nil]; omega), flS_app]; rfl
    · refine List.pairwise_append.2 ⟨hB.sorted, by simp, fun x hx y hy => ?_⟩
      simp only [List.mem_singleton] at hy
      subst hy
      exact hkey x hx
end Go.Proofs.Ytcgohoclbjgmkaa
/- Which arrays are polynomials, in the reference. -/
namespace Go.Proofs.Ytcgohoclbjgmkaa
open Go.Abs

/-- All coefficients lie below p. -/
def Small (p : Int) (a : V64) : Prop := ∀ j, j < 64 → rd a.1 j < p
open Classical in
noncomputable def small (p : Int) (a : V64) : Bool := decide (Small p a)

theorem is_loop {p : Int} {a : V64} (hb : IsB a) : ∀ s : Int, (∃ i : Nat, s = i ∧ i ≤ 64 ∧ ∀ j, j < i → rd a.1 j < p) → ∃ r, loopM (fun s : Int => spec_l01Is_l1 a p s) s = some r ∧ ((r = .inl () ∧ Small p a) ∨ (r = .inr false ∧ ¬ Small p a)) := by
  refine loopM_ind (fun (s : Int) => ∃ i : Nat, s = i ∧ i ≤ 64 ∧ ∀ j, j < i → rd a.1 j < p) (fun (s : Int) (r : Unit ⊕ Bool) => (r = .inl () ∧ Small p a) ∨ (r = .inr false ∧ ¬ Small p a)) (fun s => 64 - s.toNat) ?_
  rintro s ⟨i, rfl, hi, hlt⟩
  by_cases h : i = 64
  · right
    subst h
    exact ⟨.inl (), by simp [spec_l01Is_l1], .inl ⟨rfl, hlt⟩⟩
  · have hbi := hb.rd (show i < 64 by omega)
    by_cases e : rd a.1 i < p
    · left
      refine ⟨((i + 1 : Nat) : Int), ?_, ⟨i + 1, rfl, by omega, fun j hj => ?_⟩, by simp; omega, fun r hr => hr⟩
      · simp only [spec_l01Is_l1]
        rw [if_pos (by simp; omega), ifp_pos (by omega), Int.toNat_natCast, wrap64 (by omega) (by omega), if_neg (by simp; omega), wrap64 (by omega) (by omega)]
        rfl
      · by_cases hj' : j = i
        · rw [hj']; exact e
        · exact hlt j (by omega)
    · right
      refine ⟨.inr false, ?_, .inr ⟨rfl, fun hs => e (hs i (by omega))⟩⟩
      simp only [spec_l01Is_l1]
      rw [if_pos (by simp; omega), ifp_pos (by omega), Int.toNat_natCast, wrap64 (by omega) (by omega), if_pos (by simp; omega)]
theorem is_is {p : Int} {a : V64} (hb : IsB a) : spec_l01Is p a = some (small p a && isP p) := by
  obtain ⟨r, h1, h2⟩ := is_loop (p := p) hb 0 ⟨0, rfl, by omega, fun j hj => by omega⟩
  rcases h2 with ⟨rfl, h⟩ | ⟨rfl, h⟩ <;> simp [spec_l01Is, h1, small, h, isPrime_spec]

theorem code_loop {p : Int} {l : List V64} (hb : ∀ a ∈ l, IsB a) (hl : l.length ≤ 1000000) (hp : isP p = true) : ∀ s : Int, (∃ i : Nat, s = i ∧ i ≤ l.length ∧ ∀ a ∈ l.take i, small p a = true) → ∃ r, loopM (fun s : Int => spec_l01Code_l1 l p s) s = some r ∧ ((r = .inl () ∧ l.all (small p) = true) ∨ (r = .inr 1 ∧ l.all (small p) = false)) := by
  refine loopM_ind (fun (s : Int) => ∃ i : Nat, s = i ∧ i ≤ l.length ∧ ∀ a ∈ l.take i, small p a = true) (fun (s : Int) (r : Unit ⊕ Int) => (r = .inl () ∧ l.all (small p) = true) ∨ (r = .inr 1 ∧ l.all (small p) = false)) (fun s => l.length - s.toNat) ?_
  rintro s ⟨i, rfl, hi, hlt⟩
  by_cases h : i = l.length
  · right
    subst h
    exact ⟨.inl (), by simp [spec_l01Code_l1], .inl ⟨rfl, by rw [List.take_length] at hlt; simpa using hlt⟩⟩
  · have hil : i < l.length := by omega
    have er : rd l i = l[i] := by simp [rd, hil]
    have hbi := is_is (p := p) (hb l[i] (List.getElem_mem _))
    rw [hp, Bool.and_true] at hbi
    cases e : small p l[i] with
    | true =>
      left
      refine ⟨((i + 1 : Nat) : Int), ?_, ⟨i + 1, rfl, by omega, fun a ha => ?_⟩, by simp; omega, fun r hr => hr⟩
      · simp only [spec_l01Code_l1]
        rw [if_pos (by simp; omega), ifp_pos (by omega), Int.toNat_natCast, er, hbi, e]
        simp only [Option.bind_some, Bool.not_true, Bool.false_eq_true, if_false]
        rw [wrap64 (by omega) (by omega)]; rfl
      · rw [List.take_succ_eq_append_getElem hil] at ha
        rcases List.mem_append.1 ha with ha | ha
        · exact hlt a ha
        · have : a = l[i] := by simpa using ha
          rw [this]; exact e
    | false =>
      right
      refine ⟨.inr 1, ?_, .inr ⟨rfl, ?_⟩⟩
      · simp only [spec_l01Code_l1]
        rw [if_pos (by simp; omega), ifp_pos (by omega), Int.toNat_natCast, er, hbi, e]
        rfl
      · rw [List.all_eq_false]
        exact ⟨l[i], List.getElem_mem _, by simp [e]⟩
theorem code_is {p : Int} {l : List V64} (hb : ∀ a ∈ l, IsB a) (hl : l.length ≤ 1000000) : spec_l01Code p l = some (if isP p && l.all (small p) then 0 else 1) := by
  unfold spec_l01Code
  rw [isPrime_spec]
  cases hp : isP p with
  | false => simp
  | true =>
    obtain ⟨r, h1, h2⟩ := code_loop hb hl hp 0 ⟨0, rfl, by omega, by simp⟩
    simp only [Option.bind_some, Bool.not_true, Bool.false_eq_true, if_false, h1, Bool.true_and]
    rcases h2 with ⟨rfl, h⟩ | ⟨rfl, h⟩ <;> simp [h]

theorem res_of_small {p : Int} {a : V64} (hb : IsB a) (h : small p a = true) : Res p a := fun j hj => by
  have h1 : Small p a := by simpa [small] using h
  exact ⟨(hb.rd hj).1, h1 j hj⟩
end Go.Proofs.Ytcgohoclbjgmkaa
/- Which arrays are polynomials, in the program. -/
namespace Go.Proofs.Ytcgohoclbjgmkaa
open Go.Abs

theorem index_loop {p : Int} {a : V64} (hb : IsB a) : ∀ s : Int, (∃ i : Nat, s = i ∧ i ≤ 64 ∧ ∀ j, j < i → rd a.1 j < p) → ∃ r, loopM (fun s : Int => slices_IndexFunc_byte_byte_of_impl_areAll_byte__c1_p_l1 a.1 p s) s = some r ∧ ((r = .inl () ∧ Small p a) ∨ (∃ i : Nat, r = .inr (i : Int) ∧ ¬ Small p a)) := by
  refine loopM_ind (fun (s : Int) => ∃ i : Nat, s = i ∧ i ≤ 64 ∧ ∀ j, j < i → rd a.1 j < p) (fun (s : Int) (r : Unit ⊕ Int) => (r = .inl () ∧ Small p a) ∨ (∃ i : Nat, r = .inr (i : Int) ∧ ¬ Small p a)) (fun s => 64 - s.toNat) ?_
  rintro s ⟨i, rfl, hi, hlt⟩
  have h64 := a.2
  by_cases h : i = 64
  · right
    subst h
    exact ⟨.inl (), by simp [slices_IndexFunc_byte_byte_of_impl_areAll_byte__c1_p_l1, h64], .inl ⟨rfl, hlt⟩⟩
  · have hbi := hb.rd (show i < 64 by omega)
    have e1 : impl_areAll_byte__c1_of_p (rd a.1 i) p = some (!decide (rd a.1 i < p)) := by
      simp only [impl_areAll_byte__c1_of_p, impl_isPoly_c1_of_p, Option.bind_some]
      rw [wrap64 (by omega) (by omega)]
    by_cases e : rd a.1 i < p
    · left
      refine ⟨((i + 1 : Nat) : Int), ?_, ⟨i + 1, rfl, by omega, fun j hj => ?_⟩, by simp; omega, fun r hr => hr⟩
      · simp only [slices_IndexFunc_byte_byte_of_impl_areAll_byte__c1_p_l1, h64]
        rw [if_pos (by simp; omega), ifp_pos (by omega), Int.toNat_natCast, e1, wrap64 (by omega) (by omega)]
        simp [e]
      · by_cases hj' : j = i
        · rw [hj']; exact e
        · exact hlt j (by omega)
    · right
      refine ⟨.inr (i : Int), ?_, .inr ⟨i, rfl, fun hs => e (hs i (by omega))⟩⟩
      simp only [slices_IndexFunc_byte_byte_of_impl_areAll_byte__c1_p_l1, h64]
      rw [if_pos (by simp; omega), ifp_pos (by omega), Int.toNat_natCast, e1]
      simp [e]
theorem isPoly_is {p : Int} {a : V64} (hb : IsB a) : impl_isPoly p a = some (small p a) := by
  obtain ⟨r, h1, h2⟩ := index_loop (p := p) hb 0 ⟨0, rfl, by omega, fun j hj => by omega⟩
  simp only [impl_isPoly, impl_areAll_byte_of_impl_isPoly_c1_p, slices_ContainsFunc_byte_byte_of_impl_areAll_byte__c1_p, slices_IndexFunc_byte_byte_of_impl_areAll_byte__c1_p, h1, Option.bind_some]
  rcases h2 with ⟨rfl, h⟩ | ⟨i, rfl, h⟩ <;> simp [small, h]
end Go.Proofs.Ytcgohoclbjgmkaa
/- Which arrays are polynomials, in the program. -/
namespace Go.Proofs.Ytcgohoclbjgmkaa
open Go.Abs
theorem IsPoly_is' {p : Int} {a : V64} (hb : IsB a) : impl_IsPoly p a = some (isP p && small p a) := by
  simp only [impl_IsPoly, isPrime_impl, isPoly_is hb, Option.bind_some]
  cases isP p <;> simp
end Go.Proofs.Ytcgohoclbjgmkaa
/- The row of an array. -/
namespace Go.Proofs.Ytcgohoclbjgmkaa
open Go.Abs
theorem row_is {d : V64} (hb : IsB d) : impl_rowOf d = some (row d) := by
  rw [rowOf_is hb]
  congr 1
  have := top_le (rd d.1) 64
  refine rd_ext (by rw [row, ofF_len]; simp; rw [d.2]; omega) fun i hi => ?_
  simp at hi
  rw [rd_take, row, rd_ofF', if_pos (by omega), if_pos (by omega)]
theorem row_length (d : V64) : (row d).length = top (rd d.1) 64 := by rw [row, ofF_len]
theorem row_rd (d : V64) {i : Nat} (hi : i < 64) : rd (row d) i = rd d.1 i := by rw [row, rd_ofF', if_pos hi]
end Go.Proofs.Ytcgohoclbjgmkaa
/- The leading coefficient. -/
namespace Go.Proofs.Ytcgohoclbjgmkaa
open Go.Abs

theorem lead_any {b : List Int} (hl : b.length ≤ 1000000) : impl_row_lead b = some (lead b) := by
  by_cases h : b.length = 0
  · have e : b = [] := List.eq_nil_of_length_eq_zero h
    subst e
    rfl
  · exact lead_is h hl
theorem degI_row (v : V64) : impl_row_degree (row v) = some (((row v).length : Int) - 1) := by
  have := row_len v
  simp only [impl_row_degree]
  rw [wrap64 (by omega) (by omega)]
theorem degS_row (v : V64) : spec_l01Deg v = some (((row v).length : Int) - 1) := by rw [deg_is, row_length]
theorem lead_nil : lead [] = 0 := rfl
theorem monicS_is (v : V64) : spec_l01Monic v = some (decide (lead (row v) = 1)) := by
  have hl := row_len v
  simp only [spec_l01Monic, degS_row, Option.bind_some]
  by_cases h : (row v).length = 0
  · have e : row v = [] := List.eq_nil_of_length_eq_zero h
    rw [e, lead_nil]
    simp
  · have e : ((row v).length : Int) - 1 = (((row v).length - 1 : Nat) : Int) := by omega
    rw [e, if_pos (decide_eq_true (by omega)), ifp_pos (by omega), Int.toNat_natCast, ← row_rd v (by omega)]
    congr 1
end Go.Proofs.Ytcgohoclbjgmkaa
/- Numbers in a range. -/
namespace Go.Proofs.Ytcgohoclbjgmkaa
open Go.Abs

theorem within_is (a b c : Int) : impl_within a b c = some (decide (b ≤ a ∧ a ≤ c)) := by
  simp only [impl_within]
  by_cases h : b ≤ a <;> simp [h]
theorem inS_is (a b c : Int) : spec_l01In a b c = some (decide (b ≤ a ∧ a ≤ c)) := by
  simp only [spec_l01In]
  by_cases h : b ≤ a <;> simp [h]
end Go.Proofs.Ytcgohoclbjgmkaa
/- Fields of residues, in the program and in the reference. -/
namespace Go.Proofs.Ytcgohoclbjgmkaa
open Go.Abs

theorem pri_of {p : Int} (h : isP p = true) : ∃ P : Pri, p = P.p := by
  have hp := isP_pos h
  obtain ⟨n, hn⟩ : ∃ n : Nat, p = n := ⟨p.toNat, by omega⟩
  subst hn
  exact ⟨⟨n, h⟩, rfl⟩
/-- The polynomial in an array. -/
def ppv {P : Pri} (v : V64) (hb : IsB v) (hs : small P.p v = true) : PP P := ⟨row v, row_row (res_of_small hb hs)⟩
theorem ppv_len {P : Pri} {v : V64} {hb : IsB v} {hs : small P.p v = true} : (ppv v hb hs).len ≤ 64 := row_len v
theorem ppv_pad {P : Pri} {v : V64} {hb : IsB v} {hs : small P.p v = true} : pad (ppv v hb hs).1 = v := pad_row v
open Classical in
/-- A field: a monic irreducible polynomial of a degree from 1 to 4. -/
noncomputable def fld (p : Int) (v : V64) : Bool := decide (∃ (P : Pri) (m : PP P), p = P.p ∧ row v = m.1 ∧ Mo m ∧ Irr m ∧ m.len ≤ 5)
open Classical in
theorem fld_no {p : Int} {v : V64} (h : (isP p && small p v) = false) : fld p v = false := by
  unfold fld
  refine decide_eq_false ?_
  rintro ⟨P, m, rfl, e, _⟩
  have h2 : small P.p v = true := by
    unfold small
    refine decide_eq_true fun j hj => ?_
    have := (m.2.rd P.pos j).2
    rw [← e, row_rd v hj] at this
    exact this
  rw [P.okp, h2] at h
  cases h
open Classical in
theorem fld_yes {P : Pri} {v : V64} (hb : IsB v) (hs : small P.p v = true) : fld P.p v = decide (Mo (ppv v hb hs) ∧ Irr (ppv v hb hs) ∧ (ppv v hb hs).len ≤ 5) := by
  unfold fld
  rw [decide_eq_decide]
  constructor
  · rintro ⟨Q, m, e1, e2, h1, h2, h3⟩
    have e3 : P = Q := by
      cases P; cases Q
      have : (_ : Int) = _ := e1
      simp only [Pri.p] at this
      congr
      omega
    subst e3
    have : ppv v hb hs = m := pp_eq e2
    rw [this]; exact ⟨h1, h2, h3⟩
  · rintro ⟨h1, h2, h3⟩
    exact ⟨P, ppv v hb hs, rfl, rfl, h1, h2, h3⟩
open Classical in
theorem fieldS (p : Int) {v : V64} (hb : IsB v) : spec_l03Field p v = some (fld p v) := by
  simp only [spec_l03Field, is_is hb, Option.bind_some]
  by_cases hok : isP p = true ∧ small p v = true
  · obtain ⟨hp, hs⟩ := hok
    obtain ⟨P, rfl⟩ := pri_of hp
    rw [hs, hp, fld_yes hb hs]
    simp only [Bool.and_self, if_true]
    have hm := monicS_is v
    have hd : spec_l01Deg v = some (((ppv v hb hs).len : Int) - 1) := degS_row v
    rw [hm, hd]
    simp only [Option.bind_some, inS_is]
    by_cases h1 : Mo (ppv v hb hs)
    · rw [decide_eq_true (show lead (row v) = 1 from h1)]
      simp only [if_true]
      by_cases h2 : 2 ≤ (ppv v hb hs).len ∧ (ppv v hb hs).len ≤ 5
      · rw [decide_eq_true (by omega)]
        simp only [if_true]
        have h3 := irrS (m := ppv v hb hs) (by omega) h1.ne
        rw [ppv_pad] at h3
        rw [h3]
        simp only [Option.bind_some]
        congr 1
        rw [decide_eq_decide]
        exact ⟨fun h => ⟨h1, h, h2.2⟩, fun h => h.2.1⟩
      · rw [decide_eq_false (by omega), decide_eq_false (fun h => h2 ⟨h.2.1.1, h.2.2⟩)]
        rfl
    · rw [decide_eq_false (show ¬ lead (row v) = 1 from h1), decide_eq_false (show ¬ (Mo (ppv v hb hs) ∧ Irr (ppv v hb hs) ∧ (ppv v hb hs).len ≤ 5) from fun h => h1 h.1)]
      rfl
  · have h : (isP p && small p v) = false := by
      cases h1 : isP p <;> cases h2 : small p v <;> simp_all
    rw [fld_no h, Bool.and_comm, h]
    rfl
open Classical in
theorem fieldI (p : Int) {v : V64} (hb : IsB v) : impl_isField p v = some (fld p v) := by
  simp only [impl_isField, row_is hb, IsPoly_is' hb, Option.bind_some]
  by_cases hok : isP p = true ∧ small p v = true
  · obtain ⟨hp, hs⟩ := hok
    obtain ⟨P, rfl⟩ := pri_of hp
    rw [hs, hp, fld_yes hb hs]
    simp only [Bool.and_self, if_true]
    have hl := ppv_len (hb := hb) (hs := hs)
    have hd : impl_row_degree (row v) = some (((ppv v hb hs).len : Int) - 1) := degI_row v
    rw [hd]
    simp only [Option.bind_some, within_is]
    by_cases h2 : 2 ≤ (ppv v hb hs).len ∧ (ppv v hb hs).len ≤ 5
    · rw [decide_eq_true (by omega)]
      simp only [if_true]
      have h3 := irrI (m := ppv v hb hs) (by omega)
      have h3' : impl_prime_isIrreducible P.p (row v) = _ := h3
      rw [h3']
      simp only [Option.bind_some]
      congr 1
      rw [decide_eq_decide]
      exact ⟨fun h => ⟨h.1, h.2, h2.2⟩, fun h => ⟨h.1, h.2.1⟩⟩
    · rw [decide_eq_false (by omega), decide_eq_false (fun h => h2 ⟨h.2.1.1, h.2.2⟩)]
      rfl
  · have h : (isP p && small p v) = false := by
      cases h1 : isP p <;> cases h2 : small p v <;> simp_all
    rw [fld_no h, h]
    rfl
end Go.Proofs.Ytcgohoclbjgmkaa
/- The code for polynomials, in the program. -/
namespace Go.Proofs.Ytcgohoclbjgmkaa
open Go.Abs

theorem indexP_loop {p : Int} {l : List V64} (hb : ∀ a ∈ l, IsB a) (hl : l.length ≤ 1000000) : ∀ s : Int, (∃ i : Nat, s = i ∧ i ≤ l.length ∧ ∀ a ∈ l.take i, small p a = true) → ∃ r, loopM (fun s : Int => slices_IndexFunc_impl_Poly_impl_Poly_of_impl_areAll_impl_Poly__c1_p_l1 l p s) s = some r ∧ ((r = .inl () ∧ l.all (small p) = true) ∨ (∃ i : Nat, r = .inr (i : Int) ∧ l.all (small p) = false)) := by
  refine loopM_ind (fun (s : Int) => ∃ i : Nat, s = i ∧ i ≤ l.length ∧ ∀ a ∈ l.take i, small p a = true) (fun (s : Int) (r : Unit ⊕ Int) => (r = .inl () ∧ l.all (small p) = true) ∨ (∃ i : Nat, r = .inr (i : Int) ∧ l.all (small p) = false)) (fun s => l.length - s.toNat) ?_
  rintro s ⟨i, rfl, hi, hlt⟩
  by_cases h : i = l.length
  · right
    subst h
    exact ⟨.inl (), by simp [slices_IndexFunc_impl_Poly_impl_Poly_of_impl_areAll_impl_Poly__c1_p_l1], .inl ⟨rfl, by rw [List.take_length] at hlt; simpa using hlt⟩⟩
  · have hil : i < l.length := by omega
    have er : rd l i = l[i] := by simp [rd, hil]
    have hbi := isPoly_is (p := p) (hb l[i] (List.getElem_mem _))
    have e1 : impl_areAll_impl_Poly__c1_of_p (rd l i) p = some (!small p l[i]) := by
      simp only [impl_areAll_impl_Poly__c1_of_p, impl_polysCode_c1_of_p, er, hbi, Option.bind_some]
    cases e : small p l[i] with
    | true =>
      left
      refine ⟨((i + 1 : Nat) : Int), ?_, ⟨i + 1, rfl, by omega, fun a ha => ?_⟩, by simp; omega, fun r hr => hr⟩
      · simp only [slices_IndexFunc_impl_Poly_impl_Poly_of_impl_areAll_impl_Poly__c1_p_l1]
        rw [if_pos (decide_eq_true (by omega)), ifp_pos (by omega), Int.toNat_natCast, e1, e]
        simp only [Option.bind_some, Bool.not_true, Bool.false_eq_true, if_false]
        rw [wrap64 (by omega) (by omega)]; rfl
      · rw [List.take_succ_eq_append_getElem hil] at ha
        rcases List.mem_append.1 ha with ha | ha
        · exact hlt a ha
        · have : a = l[i] := by simpa using ha
          rw [this]; exact e
    | false =>
      right
      refine ⟨.inr (i : Int), ?_, .inr ⟨i, rfl, ?_⟩⟩
      · simp only [slices_IndexFunc_impl_Poly_impl_Poly_of_impl_areAll_impl_Poly__c1_p_l1]
        rw [if_pos (decide_eq_true (by omega)), ifp_pos (by omega), Int.toNat_natCast, e1, e]
        rfl
      · rw [List.all_eq_false]
        exact ⟨l[i], List.getElem_mem _, by simp [e]⟩
theorem polysCode_is {p : Int} {l : List V64} (hb : ∀ a ∈ l, IsB a) (hl : l.length ≤ 1000000) : impl_polysCode p l = some (if isP p && l.all (small p) then 0 else 1) := by
  obtain ⟨r, h1, h2⟩ := indexP_loop (p := p) hb hl 0 ⟨0, rfl, by omega, by simp⟩
  have e : impl_areAll_impl_Poly_of_impl_polysCode_c1_p l p = some (l.all (small p)) := by
    simp only [impl_areAll_impl_Poly_of_impl_polysCode_c1_p, slices_ContainsFunc_impl_Poly_impl_Poly_of_impl_areAll_impl_Poly__c1_p, slices_IndexFunc_impl_Poly_impl_Poly_of_impl_areAll_impl_Poly__c1_p, h1, Option.bind_some]
    rcases h2 with ⟨rfl, h⟩ | ⟨i, rfl, h⟩ <;> simp [h]
  simp only [impl_polysCode, isPrime_impl, e, Option.bind_some]
  cases isP p <;> cases l.all (small p) <;> simp
end Go.Proofs.Ytcgohoclbjgmkaa
/- Lists of factors, in the program and in the reference. -/
namespace Go.Proofs.Ytcgohoclbjgmkaa
open Go.Abs
/-- The code of a polynomial and the range of its degree. -/
noncomputable def degCode (p : Int) (v : V64) (lo hi : Int) : Int := if isP p && small p v then (if lo ≤ ((row v).length : Int) - 1 ∧ ((row v).length : Int) - 1 ≤ hi then 0 else 2) else 1
theorem degCodeS {p lo hi : Int} {v : V64} (hb : IsB v) : spec_l02Degree p v lo hi = some (degCode p v lo hi) := by
  simp only [spec_l02Degree]
  rw [code_is (by simpa using hb) (by simp)]
  simp only [Option.bind_some, List.all_cons, List.all_nil, Bool.and_true, degS_row, inS_is, degCode]
  cases isP p && small p v
  · rfl
  · by_cases h : lo ≤ ((row v).length : Int) - 1 ∧ ((row v).length : Int) - 1 ≤ hi
    · simp [h]
    · simp [h]
theorem degCodeI {p lo hi : Int} {v : V64} (hb : IsB v) : impl_degreeCode p v lo hi = some (degCode p v lo hi) := by
  simp only [impl_degreeCode]
  rw [polysCode_is (by simpa using hb) (by simp)]
  simp only [Option.bind_some, List.all_cons, List.all_nil, Bool.and_true, row_is hb, degI_row, within_is, degCode]
  cases isP p && small p v
  · rfl
  · by_cases h : lo ≤ ((row v).length : Int) - 1 ∧ ((row v).length : Int) - 1 ≤ hi
    · simp [h]
    · simp [h]
theorem degCode_zero {p lo hi : Int} {v : V64} (h : degCode p v lo hi = 0) : isP p = true ∧ small p v = true ∧ lo ≤ ((row v).length : Int) - 1 ∧ ((row v).length : Int) - 1 ≤ hi := by
  unfold degCode at h
  cases h1 : isP p <;> cases h2 : small p v <;> simp only [h1, h2, Bool.and_false, Bool.and_true, Bool.false_and, Bool.true_and, Bool.false_eq_true, if_false, if_true] at h
  · omega
  · omega
  · omega
  · by_cases hr : lo ≤ ((row v).length : Int) - 1 ∧ ((row v).length : Int) - 1 ≤ hi
    · exact ⟨rfl, rfl, hr⟩
    · rw [if_neg hr] at h; omega
/-- One list for both. -/
theorem fac_both {P : Pri} {a : PP P} (ha : a ≠ 0) (la : a.len ≤ 13) : ∃ L : FL, impl_prime_factors P.p a.1 = some L ∧ spec_l02Split P.p (pad a.1) = some (flS L) ∧ L.length ≤ 12 ∧ IsFac a L := by
  obtain ⟨L, h1, h2, h3⟩ := factorsI ha la
  obtain ⟨M, k1, k2, _⟩ := splitS ha la
  have := isfac_eq k2 h2
  subst this
  exact ⟨M, h1, k1, h3, h2⟩
theorem fac_bound {P : Pri} {a : PP P} (ha : a ≠ 0) (la : a.len ≤ 13) {x : List Int × Int} (h : FacOf a x) : ∃ (g : PP P) (k : Nat), x = (g.1, (k : Int)) ∧ 2 ≤ g.len ∧ g.len ≤ 13 ∧ 1 ≤ k ∧ k ≤ 12 ∧ Mo g ∧ Irr g := by
  obtain ⟨g, k, e, hg, mg, hk, d1, _⟩ := h
  have h1 := dv_len d1 ha
  rw [(pw_len hg.ne k).2] at h1
  have h2 := hg.1
  have h3 : k * 1 ≤ k * (g.len - 1) := Nat.mul_le_mul_left _ (by omega)
  have h4 : 1 * (g.len - 1) ≤ k * (g.len - 1) := Nat.mul_le_mul_right _ hk
  exact ⟨g, k, e, h2, by omega, hk, by omega, mg, hg⟩
theorem flS_rd (L : FL) {i : Nat} (h : i < L.length) : rd (flS L) i = (pad (rd L i).1, (rd L i).2) := by simp [rd, flS, h]
/-- The polynomial behind a code 0. -/
theorem degCode_pp {p lo hi : Int} {v : V64} (hb : IsB v) (h : degCode p v lo hi = 0) : ∃ (P : Pri) (a : PP P), p = P.p ∧ row v = a.1 ∧ pad a.1 = v ∧ lo ≤ (a.len : Int) - 1 ∧ (a.len : Int) - 1 ≤ hi := by
  obtain ⟨hp, hs, h1, h2⟩ := degCode_zero h
  obtain ⟨P, rfl⟩ := pri_of hp
  exact ⟨P, ppv v hb hs, rfl, rfl, ppv_pad, h1, h2⟩
end Go.Proofs.Ytcgohoclbjgmkaa
/- Comparing polynomials. -/
namespace Go.Proofs.Ytcgohoclbjgmkaa
open Go.Abs

theorem eqPoly_loop (a b : V64) : ∀ s : Int, (∃ i : Nat, s = i ∧ i ≤ 64) → ∃ r, loopM (fun s : Int => laws_eqPoly_l1 a b s) s = some r ∧ ∀ i : Nat, s = i → (r = .inl () ∧ ∀ j, i ≤ j → j < 64 → rd a.1 j = rd b.1 j) ∨ (r = .inr false ∧ ∃ j, j < 64 ∧ rd a.1 j ≠ rd b.1 j) := by
  refine loopM_ind (fun (s : Int) => ∃ i : Nat, s = i ∧ i ≤ 64) (fun (s : Int) (r : Unit ⊕ Bool) => ∀ i : Nat, s = i → (r = .inl () ∧ ∀ j, i ≤ j → j < 64 → rd a.1 j = rd b.1 j) ∨ (r = .inr false ∧ ∃ j, j < 64 ∧ rd a.1 j ≠ rd b.1 j)) (fun s => 64 - s.toNat) ?_
  rintro s ⟨i, rfl, hi⟩
  by_cases h : i = 64
  · subst h
    right
    refine ⟨.inl (), by simp [laws_eqPoly_l1], fun k hk => .inl ⟨rfl, fun j h1 h2 => by omega⟩⟩
  · by_cases e : rd a.1 i = rd b.1 i
    · left
      refine ⟨((i + 1 : Nat) : Int), ?_, ⟨i + 1, rfl, by omega⟩, by simp; omega, fun r hr k hk => ?_⟩
      · simp only [laws_eqPoly_l1]
        rw [if_pos (by simp; omega), ifp_pos (by omega), ifp_pos (by omega)]
        simp only [Int.toNat_natCast, e, bne_self_eq_false, Bool.false_eq_true, if_false]
        rw [wrap64 (by omega) (by omega)]; rfl
      · have hki : k = i := by omega
        subst hki
        rcases hr (k + 1) rfl with ⟨h1, h2⟩ | h1
        · refine .inl ⟨h1, fun j h3 h4 => ?_⟩
          by_cases hj : j = k
          · subst hj; exact e
          · exact h2 j (by omega) h4
        · exact .inr h1
    · right
      refine ⟨.inr false, ?_, fun k hk => .inr ⟨rfl, i, by omega, e⟩⟩
      simp only [laws_eqPoly_l1]
      rw [if_pos (by simp; omega), ifp_pos (by omega), ifp_pos (by omega)]
      simp [e]

theorem eqPoly_is (a b : V64) : laws_eqPoly a b = some (decide (a = b)) := by
  obtain ⟨r, h1, h2⟩ := eqPoly_loop a b 0 ⟨0, rfl, by omega⟩
  unfold laws_eqPoly
  rcases h2 0 rfl with ⟨rfl, h⟩ | ⟨rfl, j, h3, h4⟩
  · have : a = b := vec_ext fun j hj => h j (by omega) hj
    rw [h1]; simp [this]
  · have : a ≠ b := fun e => h4 (by rw [e])
    rw [h1]; simp [this]
end Go.Proofs.Ytcgohoclbjgmkaa
/- Loops that look for an element. -/
namespace Go.Abs
theorem any_loop {α β : Type} [Inhabited α] {l : List α} (b : α → Bool) (v : Nat → β) {body : Int → Option (Int ⊕ (Unit ⊕ β))} (h1 : ∀ i : Nat, i < l.length → body (i : Int) = some (if b (rd l i) then .inr (.inr (v i)) else .inl ((i + 1 : Nat) : Int))) (h2 : body (l.length : Int) = some (.inr (.inl ()))) :
    ∃ r, loopM body 0 = some r ∧ ((r = .inl () ∧ l.any b = false) ∨ (∃ i, r = .inr (v i) ∧ l.any b = true)) := by
  have key : ∀ (m i : Nat), i + m = l.length → (l.take i).any b = false → ∃ r, loopM body (i : Int) = some r ∧ ((r = .inl () ∧ l.any b = false) ∨ (∃ i, r = .inr (v i) ∧ l.any b = true)) := by
    intro m
    induction m with
    | zero =>
      intro i hi ha
      have : i = l.length := by omega
      subst this
      rw [List.take_length] at ha
      exact ⟨.inl (), by rw [loopM_eq, h2]; rfl, .inl ⟨rfl, ha⟩⟩
    | succ m ih =>
      intro i hi ha
      have hil : i < l.length := by omega
      have er : rd l i = l[i] := by simp [rd, hil]
      cases e : b (rd l i) with
      | true =>
        refine ⟨.inr (v i), by rw [loopM_eq, h1 i hil, e]; rfl, .inr ⟨i, rfl, ?_⟩⟩
        rw [List.any_eq_true]
        exact ⟨l[i], List.getElem_mem _, by rw [← er]; exact e⟩
      | false =>
        obtain ⟨r, k1, k2⟩ := ih (i + 1) (by omega) (by rw [List.take_succ_eq_append_getElem hil, List.any_append, ha, ← er]; simp [e])
        refine ⟨r, ?_, k2⟩
        rw [loopM_eq, h1 i hil, e]
        exact k1
  exact key l.length 0 (by omega) (by simp)
theorem all_not {α : Type} (l : List α) (b : α → Bool) : l.all b = !(l.any fun x => !b x) := by
  induction l with
  | nil => rfl
  | cons x l ih => simp only [List.all_cons, List.any_cons, ih, Bool.not_or, Bool.not_not]
theorem rd_in {α : Type} [Inhabited α] {l : List α} {i : Nat} (h : i < l.length) : rd l i ∈ l := by
  have : rd l i = l[i] := by simp [rd, h]
  rw [this]; exact List.getElem_mem _
end Go.Abs
/- Lists of factors: comparing, marking, and whether the marks are held. -/
namespace Go.Proofs.Ytcgohoclbjgmkaa
open Go.Abs
abbrev VI := V64 × Int
theorem rd_lset' {α : Type} [Inhabited α] (l : List α) (k : Nat) (d : α) (i : Nat) (hk : k < l.length) : rd (l.set k d) i = if i = k then d else rd l i := by
  by_cases h : i = k
  · subst h; simp [rd, hk]
  · rw [if_neg h]; simp [rd, Ne.symm h]
theorem eqFactor_is (a b : VI) : laws_eqFactor a b = some (decide (a = b)) := by
  obtain ⟨a1, a2⟩ := a
  obtain ⟨b1, b2⟩ := b
  simp only [laws_eqFactor, eqPoly_is, Option.bind_some]
  by_cases h1 : a1 = b1
  · by_cases h2 : a2 = b2
    · simp [h1, h2]
    · simp [h1, h2]
  · simp [h1]
theorem eqFactorS_is {a b : List VI} (ha : a.length ≤ 1000000) (hb : b.length ≤ 1000000) : laws_eqFactorS a b = some (decide (a = b)) := by
  unfold laws_eqFactorS
  by_cases hl : a.length = b.length
  · rw [if_neg (by rw [bne_iff_ne]; simp; omega)]
    have key : ∀ (m i : Nat), i + m = a.length → (∀ j, j < i → rd a j = rd b j) → ∃ r, loopM (fun s : Int => laws_eqFactorS_l1 a b s) (i : Int) = some r ∧ ((r = .inl () ∧ a = b) ∨ (r = .inr false ∧ a ≠ b)) := by
      intro m
      induction m with
      | zero =>
        intro i hi hlt
        have : i = a.length := by omega
        subst this
        have step : laws_eqFactorS_l1 a b (a.length : Int) = some (.inr (.inl ())) := by
          simp only [laws_eqFactorS_l1]
          rw [if_neg (by rw [decide_eq_true_eq]; omega)]
        refine ⟨.inl (), by rw [loopM_eq]; simp only [step, Option.bind_some], .inl ⟨rfl, ?_⟩⟩
        apply List.ext_getElem hl
        intro j h1 h2
        have := hlt j h1
        simpa [rd, h1, h2] using this
      | succ m ih =>
        intro i hi hlt
        have step : laws_eqFactorS_l1 a b (i : Int) = some (if rd a i = rd b i then .inl ((i + 1 : Nat) : Int) else .inr (.inr false)) := by
          simp only [laws_eqFactorS_l1, Int.toNat_natCast, eqFactor_is, Option.bind_some]
          rw [if_pos (decide_eq_true (by omega)), ifp_pos (by omega), ifp_pos (by omega), wrap64 (by omega) (by omega)]
          by_cases e : rd a i = rd b i
          · rw [if_pos e, decide_eq_true e]; rfl
          · rw [if_neg e, decide_eq_false e]; rfl
        by_cases e : rd a i = rd b i
        · rw [if_pos e] at step
          obtain ⟨r, k1, k2⟩ := ih (i + 1) (by omega) (fun j hj => by
            by_cases hj' : j = i
            · rw [hj']; exact e
            · exact hlt j (by omega))
          exact ⟨r, by rw [loopM_eq]; simp only [step, Option.bind_some]; exact k1, k2⟩
        · rw [if_neg e] at step
          exact ⟨.inr false, by rw [loopM_eq]; simp only [step, Option.bind_some], .inr ⟨rfl, fun h => e (by rw [h])⟩⟩
    obtain ⟨r, h1, h2⟩ := key a.length 0 (by omega) (fun j hj => by omega)
    have h1' : loopM (fun s : Int => laws_eqFactorS_l1 a b s) 0 = some r := h1
    rw [h1']
    rcases h2 with ⟨rfl, h⟩ | ⟨rfl, h⟩ <;> simp [h]
  · rw [if_pos (by rw [bne_iff_ne]; simp; omega)]
    have : a ≠ b := fun h => hl (by rw [h])
    simp [this]
/-- The marks from k on. -/
def MarkedF (k : Nat) (m : List VI) : Prop := ∀ i, i < m.length → (∀ j, j < 64 → rd (rd m i).1.1 j = IntKind.u8.wrap ((k + 65 * i + j : Nat) : Int)) ∧ (rd m i).2 = ((k + 65 * i + 64 : Nat) : Int)
theorem markF_is {l : List VI} {k : Nat} (hl : l.length ≤ 1000000) (hk : k ≤ 1000000000) : ∃ m, laws_markFactorS_of_mut l k = some (((k + 65 * l.length : Nat) : Int), m) ∧ m.length = l.length ∧ MarkedF k m := by
  have inner : ∀ (i : Nat) (u : List VI), i < u.length → u.length = l.length → ∃ u', loopM (fun s : Int × Int × List VI => laws_markFactorS_of_mut_l2 (i : Int) s.1 s.2.1 s.2.2) (((k + 65 * i : Nat) : Int), 0, u) = some (((k + 65 * i + 64 : Nat) : Int), u') ∧
      u'.length = u.length ∧ (∀ j, j < 64 → rd (rd u' i).1.1 j = IntKind.u8.wrap ((k + 65 * i + j : Nat) : Int)) ∧ ∀ i', i' ≠ i → rd u' i' = rd u i' := by
    intro i u hi hul
    obtain ⟨u', h1, h2, h3, h4⟩ := loopM_for (body := fun s : Int × Int × List VI => laws_markFactorS_of_mut_l2 (i : Int) s.1 s.2.1 s.2.2) (fun j u => (((k + 65 * i + j : Nat) : Int), (j : Int), u)) (fun u => (((k + 65 * i + 64 : Nat) : Int), u)) 64
      (fun j v => v.length = u.length ∧ (∀ j', j' < j → rd (rd v i).1.1 j' = IntKind.u8.wrap ((k + 65 * i + j' : Nat) : Int)) ∧ ∀ i', i' ≠ i → rd v i' = rd u i') (fun j v hj hI => by
        obtain ⟨h2, h3, h4⟩ := hI
        refine ⟨v.set i (vset (rd v i).1 j (IntKind.u8.wrap ((k + 65 * i + j : Nat) : Int)), (rd v i).2), ?_, by simpa using h2, fun j' hj' => ?_, fun i' hi' => ?_⟩
        · simp only [laws_markFactorS_of_mut_l2]
          rw [if_pos (decide_eq_true (by omega)), ifp_pos (by omega), ifp_pos (by omega), wrap64 (by omega) (by omega), wrap64 (by omega) (by omega)]
          rfl
        · rw [rd_lset' _ _ _ _ (by omega), if_pos rfl]
          simp only
          rw [rd_vset _ _ _ _ (by omega)]
          by_cases e : j' = j
          · subst e; rw [if_pos rfl]
          · rw [if_neg e]; exact h3 j' (by omega)
        · rw [rd_lset' _ _ _ _ (by omega), if_neg hi']; exact h4 i' hi') (fun v hI => by
        simp only [laws_markFactorS_of_mut_l2]
        rw [if_neg (by rw [decide_eq_true_eq]; omega)]) 64 0 u (by omega) ⟨rfl, fun j' hj' => by omega, fun _ _ => rfl⟩
    exact ⟨u', h1, h2, fun j hj => h3 j hj, h4⟩
  obtain ⟨m, h1, h2, h3⟩ := loopM_for (body := fun s : Int × Int × List VI => laws_markFactorS_of_mut_l1 s.1 s.2.1 s.2.2) (fun i u => (((k + 65 * i : Nat) : Int), (i : Int), u)) (fun u => (((k + 65 * l.length : Nat) : Int), u)) l.length
    (fun i u => u.length = l.length ∧ ∀ i', i' < i → (∀ j, j < 64 → rd (rd u i').1.1 j = IntKind.u8.wrap ((k + 65 * i' + j : Nat) : Int)) ∧ (rd u i').2 = ((k + 65 * i' + 64 : Nat) : Int)) (fun i u hi hI => by
      obtain ⟨h2, h3⟩ := hI
      obtain ⟨u', g1, g2, g3, g4⟩ := inner i u (by omega) h2
      refine ⟨u'.set i ((rd u' i).1, ((k + 65 * i + 64 : Nat) : Int)), ?_, by rw [List.length_set]; omega, fun i' hi' => ?_⟩
      · simp only [laws_markFactorS_of_mut_l1]
        rw [if_pos (decide_eq_true (by omega)), g1]
        simp only [Option.bind_some]
        rw [ifp_pos (by omega), wrap64 (n := _ + 1) (by omega) (by omega), wrap64 (n := (i : Int) + 1) (by omega) (by omega), Int.toNat_natCast]
        have e : ((k + 65 * i + 64 : Nat) : Int) + 1 = ((k + 65 * (i + 1) : Nat) : Int) := by omega
        rw [e]; rfl
      · rw [rd_lset' _ _ _ _ (by omega)]
        by_cases e : i' = i
        · subst e
          rw [if_pos rfl]
          exact ⟨g3, rfl⟩
        · rw [if_neg e, g4 i' e]; exact h3 i' (by omega)) (fun u hI => by
      simp only [laws_markFactorS_of_mut_l1]
      rw [if_neg (by rw [decide_eq_true_eq]; omega)]) l.length 0 l (by omega) ⟨rfl, fun i' hi' => by omega⟩
  have h1' : loopM (fun s : Int × Int × List VI => laws_markFactorS_of_mut_l1 s.1 s.2.1 s.2.2) ((k : Int), 0, l) = _ := h1
  refine ⟨m, ?_, h2, fun i hi => h3 i (by omega)⟩
  simp only [laws_markFactorS_of_mut, h1', Option.bind_some]
theorem heldF_is {m : List VI} {k : Nat} (hl : m.length ≤ 1000000) (hk : k ≤ 1000000000) (hm : MarkedF k m) : laws_heldFactorS m k = some ((k + 65 * m.length : Nat) : Int) := by
  have inner : ∀ (i : Nat), i < m.length → loopM (fun s : Int × Int => laws_heldFactorS_l2 (i : Int) m s.1 s.2) (((k + 65 * i : Nat) : Int), 0) = some (.inl ((k + 65 * i + 64 : Nat) : Int)) := by
    intro i hi
    obtain ⟨u', h1, _⟩ := loopM_for (body := fun s : Int × Int => laws_heldFactorS_l2 (i : Int) m s.1 s.2) (fun j (_ : Unit) => (((k + 65 * i + j : Nat) : Int), (j : Int))) (fun _ => .inl ((k + 65 * i + 64 : Nat) : Int)) 64
      (fun _ _ => True) (fun j _ hj _ => by
        refine ⟨(), ?_, trivial⟩
        simp only [laws_heldFactorS_l2, letp]
        rw [if_pos (decide_eq_true (by omega)), ifp_pos (by omega), ifp_pos (by omega), Int.toNat_natCast, Int.toNat_natCast, (hm i hi).1 j hj, if_neg (by simp), wrap64 (by omega) (by omega), wrap64 (by omega) (by omega)]
        rfl) (fun _ _ => by
        simp only [laws_heldFactorS_l2, letp]
        rw [if_neg (by rw [decide_eq_true_eq]; omega)]) 64 0 () (by omega) trivial
    exact h1
  obtain ⟨u', h1, _⟩ := loopM_for (body := fun s : Int × Int => laws_heldFactorS_l1 m s.1 s.2) (fun i (_ : Unit) => (((k + 65 * i : Nat) : Int), (i : Int))) (fun _ => .inl ((k + 65 * m.length : Nat) : Int)) m.length
    (fun _ _ => True) (fun i _ hi _ => by
      refine ⟨(), ?_, trivial⟩
      simp only [laws_heldFactorS_l1]
      rw [if_pos (decide_eq_true (by omega)), inner i hi]
      simp only [Option.bind_some, Int.toNat_natCast, (hm i hi).2]
      rw [ifp_pos (by omega), if_neg (by simp), wrap64 (n := _ + 1) (by omega) (by omega), wrap64 (n := (i : Int) + 1) (by omega) (by omega)]
      have e : ((k + 65 * i + 64 : Nat) : Int) + 1 = ((k + 65 * (i + 1) : Nat) : Int) := by omega
      rw [e]; rfl) (fun _ _ => by
      simp only [laws_heldFactorS_l1]
      rw [if_neg (by rw [decide_eq_true_eq]; omega)]) m.length 0 () (by omega) trivial
  have h1' : loopM (fun s : Int × Int => laws_heldFactorS_l1 m s.1 s.2) ((k : Int), 0) = _ := h1
  simp only [laws_heldFactorS, h1', Option.bind_some]
end Go.Proofs.Ytcgohoclbjgmkaa
/- A copy of a polynomial. -/
namespace Go.Proofs.Ytcgohoclbjgmkaa
open Go.Abs

theorem toPoly_loop (a : V64) : ∀ s : Int × V64, (∃ i : Nat, s.1 = i ∧ i ≤ 64 ∧ ∀ j, j < i → rd s.2.1 j = rd a.1 j) → ∃ r, loopM (fun s : Int × V64 => laws_toPoly_l1 a s.1 s.2) s = some r ∧ r = a := by
  refine loopM_ind (fun (s : Int × V64) => ∃ i : Nat, s.1 = i ∧ i ≤ 64 ∧ ∀ j, j < i → rd s.2.1 j = rd a.1 j) (fun (s : Int × V64) (r : V64) => r = a) (fun (s : Int × V64) => 64 - s.1.toNat) ?_
  rintro ⟨x, v⟩ ⟨i, hx, hi, hv⟩
  simp only at hx hv
  subst hx
  by_cases h : i = 64
  · right
    subst h
    exact ⟨v, by simp [laws_toPoly_l1], vec_ext hv⟩
  · left
    refine ⟨(((i + 1 : Nat) : Int), vset v i (rd a.1 i)), ?_, ⟨i + 1, rfl, by omega, fun j hj => ?_⟩, by simp; omega, fun r hr => hr⟩
    · simp only [laws_toPoly_l1]
      rw [if_pos (by simp; omega), ifp_pos (by omega), ifp_pos (by omega), wrap64 (by omega) (by omega)]
      simp
    · rw [rd_vset _ _ _ _ (by omega)]
      by_cases e : j = i
      · rw [if_pos e, e]
      · rw [if_neg e]; exact hv j (by omega)

theorem toPoly_is (a : V64) : laws_toPoly a = some a := by
  obtain ⟨r, h1, h2⟩ := toPoly_loop a (0, vrep 64 0) ⟨0, rfl, by omega, fun j hj => by omega⟩
  simp only [laws_toPoly, h1, h2, Option.bind_some]
end Go.Proofs.Ytcgohoclbjgmkaa
/- A row as an array. -/
namespace Go.Proofs.Ytcgohoclbjgmkaa
open Go.Abs

theorem poly_loop {l : List Int} (hb : Bytes l) (hl : l.length ≤ 64) : ∀ s : Int × V64, (∃ i : Nat, s.1 = i ∧ i ≤ l.length ∧ s.2 = pad (l.take i)) → ∃ r, loopM (fun s : Int × V64 => impl_row_poly_l1 l s.1 s.2) s = some r ∧ r = pad l := by
  refine loopM_ind (fun (s : Int × V64) => ∃ i : Nat, s.1 = i ∧ i ≤ l.length ∧ s.2 = pad (l.take i)) (fun (s : Int × V64) r => r = pad l) (fun (s : Int × V64) => 64 - s.1.toNat) ?_
  rintro ⟨x, v⟩ ⟨i, hx, hi, hv⟩
  simp only at hx hv
  subst hx hv
  by_cases h : i = l.length
  · right
    subst h
    exact ⟨pad l, by simp [impl_row_poly_l1], rfl⟩
  · left
    have hil : i < l.length := by omega
    have er : rd l i = l[i] := by simp [rd, hil]
    have hbi := hb l[i] (List.getElem_mem _)
    refine ⟨(((i + 1 : Nat) : Int), pad (l.take (i + 1))), ?_, ⟨i + 1, rfl, by omega, rfl⟩, by simp; omega, fun r hr => hr⟩
    simp only [impl_row_poly_l1]
    rw [if_pos (by simp; omega), ifp_pos (by omega), ifp_pos (by omega)]
    simp only [Int.toNat_natCast, er]
    rw [wrap64 (by omega) (by omega), wrap8 hbi.1 hbi.2]
    have := pad_set (l.take i) l[i] (by simp; omega)
    rw [List.length_take, Nat.min_eq_left (by omega)] at this
    rw [this, List.take_succ_eq_append_getElem hil]
    simp

theorem poly_is {l : List Int} (hb : Bytes l) (hl : l.length ≤ 64) : impl_row_poly l = some (pad l) := by
  obtain ⟨r, h1, h2⟩ := poly_loop hb hl (0, pad []) ⟨0, rfl, by omega, by simp⟩
  simp only [impl_row_poly, ← pad_nil, h1, h2, Option.bind_some]
end Go.Proofs.Ytcgohoclbjgmkaa
/- FnExactFactorsOf. -/
namespace Go.Proofs.Ytcgohoclbjgmkaa
open Go.Abs
theorem facsOf_loop {P : Pri} {a : PP P} (ha : a ≠ 0) (la : a.len ≤ 13) {L : FL} (hL : ∀ x ∈ L, FacOf a x) (hl : L.length ≤ 1000) : loopM (fun s : Int × List VI => impl_FactorsOf_l1 L s.1 s.2) (0, []) = some (flS L) := by
  obtain ⟨v, h1, h2⟩ := loopM_for (body := fun s : Int × List VI => impl_FactorsOf_l1 L s.1 s.2) (fun i u => ((i : Int), u)) (fun u => u) L.length
    (fun i u => u = flS (L.take i)) (fun i u hi hI => by
      subst hI
      have er : rd L i = L[i] := by simp [rd, hi]
      obtain ⟨g, k, e, g1, g2, _⟩ := fac_bound ha la (hL L[i] (List.getElem_mem _))
      have hg1 : (rd L i).1 = g.1 := by rw [er, e]
      have hp : impl_row_poly g.1 = some (pad g.1) := poly_is (g.2.bytes (by have := P.two; omega)) (by show g.len ≤ 64; omega)
      have hlen : (flS (L.take i)).length ≤ 1000 := by rw [flS_len, List.length_take]; omega
      refine ⟨flS (L.take i) ++ [(pad g.1, (rd L i).2)], ?_, ?_⟩
      · simp only [impl_FactorsOf_l1, Int.toNat_natCast, hg1, hp, Option.bind_some]
        rw [if_pos (decide_eq_true (by omega)), ifp_pos (by omega), ifp_pos (by simp only [List.length_cons, List.length_nil]; omega), wrap64 (by omega) (by omega)]
        rfl
      · rw [List.take_succ_eq_append_getElem hi, ← er, ← hg1]
        simp [flS]) (fun u hI => by
      simp only [impl_FactorsOf_l1]
      rw [if_neg (by rw [decide_eq_true_eq]; omega)]) L.length 0 [] (by omega) (by simp [flS])
  rw [List.take_length] at h2
  rw [← h2]; exact h1
theorem factorsOf_fresh : impl_FactorsOf_fresh = impl_FactorsOf := rfl
theorem facsOf_law (p : Int) (v : V64) (hb : IsB v) : laws_FnExactFactorsOf p v = some true := by
  have key : ∃ (l : List VI) (c : Int), spec_FactorsOf p v = some (l, c) ∧ impl_FactorsOf p v = some (l, c) ∧ l.length ≤ 12 := by
    simp only [spec_FactorsOf, impl_FactorsOf, degCodeS hb, degCodeI hb, Option.bind_some]
    by_cases h0 : degCode p v 0 12 = 0
    · obtain ⟨P, a, rfl, e1, e2, h1, h2⟩ := degCode_pp hb h0
      have ha : a ≠ 0 := fun e => by rw [len_zero.2 e] at h1; omega
      obtain ⟨L, f1, f2, f3, f4⟩ := fac_both ha (by omega)
      rw [e2] at f2
      have k1 := facsOf_loop ha (by omega) f4.ok (by omega)
      rw [h0, row_is hb, e1]
      simp only [bne_self_eq_false, Bool.false_eq_true, if_false, Option.bind_some, f1, f2, k1]
      exact ⟨_, _, rfl, rfl, by rw [flS_len]; exact f3⟩
    · refine ⟨[], degCode p v 0 12, ?_, ?_, by simp⟩
      · rw [if_pos (by rw [bne_iff_ne]; exact h0)]
      · rw [if_pos (by rw [bne_iff_ne]; exact h0)]
  obtain ⟨l, c, h1, h2, h3⟩ := key
  obtain ⟨m, m1, m2, m3⟩ := markF_is (l := l) (k := 1) (by omega) (by omega)
  have m1' : laws_markFactorS_of_mut l 1 = some (((1 + 65 * l.length : Nat) : Int), m) := m1
  have hh := heldF_is (m := m) (k := 1) (by omega) (by omega) m3
  have hh' : laws_heldFactorS m 1 = some ((1 + 65 * m.length : Nat) : Int) := hh
  rw [m2] at hh'
  simp only [laws_FnExactFactorsOf, toPoly_is, factorsOf_fresh, h1, h2, Option.bind_some, eqFactorS_is (show l.length ≤ 1000000 by omega) (show l.length ≤ 1000000 by omega), decide_true, Bool.not_true, Bool.false_eq_true, if_false, bne_self_eq_false, m1', hh']
  rw [ifp_pos m2, if_neg (by rw [decide_eq_true_eq]; omega), if_neg (by rw [decide_eq_true_eq]; omega)]
end Go.Proofs.Ytcgohoclbjgmkaa
