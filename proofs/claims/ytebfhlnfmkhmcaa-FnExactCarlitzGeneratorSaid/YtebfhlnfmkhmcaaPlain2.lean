/- FnExactCarlitzGenerator. -/
import Derived.Test.YtebfhlnfmkhmcaaPlain1
set_option linter.unusedSimpArgs false
set_option linter.unusedVariables false
namespace Go.Proofs.Ytebfhlnfmkhmcaa
open Go.Abs
variable {P : Pri}
theorem mnl_evn (y : PP P) (i : Nat) : ∀ n, (evn (fun k => mnl k) y n).c i = if i < n then y.c i else 0
  | 0 => by rw [if_neg (by omega)]; exact zero_c i
  | n + 1 => by
    simp only [evn]
    rw [add_c, mnl_evn y i n, smi_c, mnl_c]
    by_cases h : i < n
    · rw [if_pos h, if_neg (by omega), if_pos (by omega), Int.mul_zero, Int.zero_emod, Int.add_zero, y.c_mod]
    · rw [if_neg h]
      by_cases e : i = n
      · subst e; rw [if_pos rfl, if_pos (by omega), Int.mul_one, Int.zero_add, y.c_mod, y.c_mod]
      · rw [if_neg e, if_neg (by omega), Int.mul_zero]; rfl
theorem ev_span {f : PP P → PP P} (hf : ∀ x y, f (x + y) = f x + f y) {c : PP P} {n : Nat} (h : ∀ j, j < n → ev f c (mnl j) = 0) {y : PP P} (hy : y.len ≤ n) : ev f c y = 0 := by
  have e : y = evn (fun k => mnl k) y n := pp_ext fun i => by
    rw [mnl_evn]
    by_cases hi : i < n
    · rw [if_pos hi]
    · rw [if_neg hi]; exact rd_ge (by show y.len ≤ i; omega)
  have key : ∀ k, k ≤ n → ev f c (evn (fun k => mnl k) y k) = 0 := by
    intro k
    induction k with
    | zero => intro _; exact ev_zx hf c
    | succ k ih =>
      intro hk
      simp only [evn]
      rw [ev_addx hf, ih (by omega), ev_smix hf, h k (by omega), smi_z, ppring.add_zero]
  rw [e]; exact key n (Nat.le_refl n)
section
variable {m : PP P} (h2 : 2 ≤ m.len) (l6 : m.len ≤ 6)
include h2 l6
omit l6 in
theorem gen_ex {e : PP P} (he : IsExp m e) (hl : e.len = m.len) : ∃ k, 1 ≤ k ∧ k < P.n ^ (m.len - 1) ∧ ∃ a, An (cst m) (ppn P k) a ∧ a.len = m.len := by
  obtain ⟨z, A, hz, hA, hk⟩ := cyclic (cst_add (m_ne h2)) (cst_N h2)
  have d1 : Dv e A := (he.2.2 A).2 fun j hj => hk _ (by rw [mnl_len]; omega)
  have d2 : Dv A e := (hA.dv (cst_add (m_ne h2)) e).1 (ev_span (cst_add (m_ne h2)) ((he.2.2 e).1 (ppring.dv_refl e)) hz)
  have l1 := dv_len d1 hA.mo.ne
  have l2 := dv_len d2 he.1.ne
  refine ⟨num P.n z.1, ?_, Nat.lt_of_lt_of_le (num_lt P.ge z.1 z.2) (Nat.pow_le_pow_right (by have := P.ge; omega) hz), A, by rw [ppn_num]; exact hA, by omega⟩
  refine Nat.pos_of_ne_zero fun h0 => ?_
  have hz0 : z = 0 := by
    rw [← ppn_num z, h0]
    exact pp_eq (digs_zero P.n)
  subst hz0
  have h3 := hA.least 1 (by
    show ev (cst m) 1 0 = 0
    exact ev_one 0) one_ne
  rw [len_one] at h3
  omega
theorem ann_both {k : Nat} (hk : k < P.n ^ (m.len - 1)) : ∃ a : PP P, An (cst m) (ppn P k) a ∧ a.len ≤ m.len ∧ a.len ≠ 0 ∧ impl_prime_numbered P.p (k : Int) = some (ppn P k).1 ∧ impl_prime_annihilator P.p (ppn P k).1 m.1 = some a.1 ∧
    spec_l01Of P.p (k : Int) = some (pad (ppn P k).1) ∧ spec_l04Annihilator P.p [pad (ppn P k).1] (pad m.1) = some (pad a.1) := by
  have hN := P.is
  have hpw : P.n ^ (m.len - 1) ≤ 100000 := by
    have a1 : P.n ^ (m.len - 1) ≤ 7 ^ (m.len - 1) := Nat.pow_le_pow_left (by omega) _
    have a2 : 7 ^ (m.len - 1) ≤ 7 ^ 5 := Nat.pow_le_pow_right (by omega) (by omega)
    omega
  have hl := ppn_len (P := P) hk
  have hlt : (ppn P k).len < m.len := by omega
  obtain ⟨a, a1, a2, a3⟩ := annI (m_ne h2) (by omega) (x := ppn P k) (by omega)
  rw [prem_small hlt] at a2
  obtain ⟨b, b1, b2⟩ := annS (m_ne h2) (show m.len ≤ 60 by omega) (n := m.len - 1) (l := 1) (by omega) (by omega) (by omega) (by omega) (g := fun _ => ppn P k) (fun i hi => hl)
  have hm := min_of (n := m.len - 1) (l := 1) (by omega) (cst_add (m_ne h2)) (cst_N h2) (g := fun _ => ppn P k) (fun i hi => hl) a2.mo (fun c => by
    rw [← a2.dv (cst_add (m_ne h2))]
    exact ⟨fun h _ _ => h, fun h => h 0 (by omega)⟩)
  rw [b2.uniq hm] at b1
  exact ⟨a, a2, a3, fun h => a2.mo.ne (len_zero.1 h), numbered_is P.ge (by omega), a1, of_is P.ge (by omega) (by omega), b1⟩
theorem gen_both {e : PP P} (he : IsExp m e) (hl : e.len = m.len) : ∃ k, loopM (fun s : Int => spec_CarlitzGenerator_l1 P.p (pad m.1) ((m.len - 1 : Nat) : Int) s) 1 = some (pad (ppn P k).1, 0) ∧
    loopM (fun s : Int => impl_CarlitzGenerator_l1 ((P.n ^ (m.len - 1) : Nat) : Int) P.p m.1 s) 0 = some (.inr (pad (ppn P k).1, 0)) := by
  have hN := P.is
  have hpw : P.n ^ (m.len - 1) ≤ 100000 := by
    have a1 : P.n ^ (m.len - 1) ≤ 7 ^ (m.len - 1) := Nat.pow_le_pow_left (by omega) _
    have a2 : 7 ^ (m.len - 1) ≤ 7 ^ 5 := Nat.pow_le_pow_right (by omega) (by omega)
    omega
  obtain ⟨k1, q1, q2, A, q3, q4⟩ := gen_ex h2 he hl
  have hdI : impl_row_degree m.1 = some ((m.len - 1 : Nat) : Int) := by
    simp only [impl_row_degree]
    have : ((m.1.length : Nat) : Int) - 1 = ((m.len - 1 : Nat) : Int) := by show (m.len : Int) - 1 = _; omega
    rw [this, wrap64 (by omega) (by omega)]
  have adI : ∀ a : PP P, a.len ≠ 0 → a.len ≤ m.len → impl_row_degree a.1 = some ((a.len - 1 : Nat) : Int) := fun a ha hl => by
    simp only [impl_row_degree]
    have : ((a.1.length : Nat) : Int) - 1 = ((a.len - 1 : Nat) : Int) := by show (a.len : Int) - 1 = _; omega
    rw [this, wrap64 (by omega) (by omega)]
  have key : ∀ (t k : Nat), k + t = k1 → 1 ≤ k → ∃ k', loopM (fun s : Int => spec_CarlitzGenerator_l1 P.p (pad m.1) ((m.len - 1 : Nat) : Int) s) (k : Int) = some (pad (ppn P k').1, 0) ∧
      loopM (fun s : Int => impl_CarlitzGenerator_l1 ((P.n ^ (m.len - 1) : Nat) : Int) P.p m.1 s) (k : Int) = some (.inr (pad (ppn P k').1, 0)) := by
    intro t
    induction t with
    | zero =>
      intro k hk h1
      have hkk : k = k1 := by omega
      subst hkk
      obtain ⟨a, a1, a2, a0, a3, a4, a5, a6⟩ := ann_both h2 l6 q2
      rw [← a1.uniq q3] at q4
      refine ⟨k, ?_, ?_⟩
      · have step : spec_CarlitzGenerator_l1 P.p (pad m.1) ((m.len - 1 : Nat) : Int) (k : Int) = some (.inr (pad (ppn P k).1, 0)) := by
          simp only [spec_CarlitzGenerator_l1, a5, a6, degS a (by omega), Option.bind_some]
          rw [if_pos (by rw [beq_iff_eq]; omega)]
        rw [loopM_eq]
        simp only [step, Option.bind_some]
      · have step : impl_CarlitzGenerator_l1 ((P.n ^ (m.len - 1) : Nat) : Int) P.p m.1 (k : Int) = some (.inr (.inr (pad (ppn P k).1, 0))) := by
          have hpl := ppn_len (P := P) q2
          simp only [impl_CarlitzGenerator_l1, a3, a4, hdI, adI a a0 a2, toldI (ppn P k) (show (ppn P k).len ≤ 1000000 by omega), Option.bind_some]
          rw [if_pos (decide_eq_true (by omega)), if_pos (by rw [beq_iff_eq]; omega), if_pos (show (ppn P k).len ≤ 64 by omega)]
        rw [loopM_eq]
        simp only [step, Option.bind_some]
    | succ t ih =>
      intro k hk h1
      obtain ⟨a, a1, a2, a0, a3, a4, a5, a6⟩ := ann_both h2 l6 (show k < P.n ^ (m.len - 1) by omega)
      by_cases ha : a.len = m.len
      · refine ⟨k, ?_, ?_⟩
        · have step : spec_CarlitzGenerator_l1 P.p (pad m.1) ((m.len - 1 : Nat) : Int) (k : Int) = some (.inr (pad (ppn P k).1, 0)) := by
            simp only [spec_CarlitzGenerator_l1, a5, a6, degS a (by omega), Option.bind_some]
            rw [if_pos (by rw [beq_iff_eq]; omega)]
          rw [loopM_eq]
          simp only [step, Option.bind_some]
        · have step : impl_CarlitzGenerator_l1 ((P.n ^ (m.len - 1) : Nat) : Int) P.p m.1 (k : Int) = some (.inr (.inr (pad (ppn P k).1, 0))) := by
            have hpl := ppn_len (P := P) (show k < P.n ^ (m.len - 1) by omega)
            simp only [impl_CarlitzGenerator_l1, a3, a4, hdI, adI a a0 a2, toldI (ppn P k) (show (ppn P k).len ≤ 1000000 by omega), Option.bind_some]
            rw [if_pos (decide_eq_true (by omega)), if_pos (by rw [beq_iff_eq]; omega), if_pos (show (ppn P k).len ≤ 64 by omega)]
          rw [loopM_eq]
          simp only [step, Option.bind_some]
      · obtain ⟨k', r1, r2⟩ := ih (k + 1) (by omega) (by omega)
        refine ⟨k', ?_, ?_⟩
        · have step : spec_CarlitzGenerator_l1 P.p (pad m.1) ((m.len - 1 : Nat) : Int) (k : Int) = some (.inl ((k + 1 : Nat) : Int)) := by
            simp only [spec_CarlitzGenerator_l1, a5, a6, degS a (by omega), Option.bind_some]
            rw [if_neg (by rw [beq_iff_eq]; omega), wrap64 (by omega) (by omega)]; rfl
          rw [loopM_eq]
          simp only [step, Option.bind_some]
          exact r1
        · have step : impl_CarlitzGenerator_l1 ((P.n ^ (m.len - 1) : Nat) : Int) P.p m.1 (k : Int) = some (.inl ((k + 1 : Nat) : Int)) := by
            simp only [impl_CarlitzGenerator_l1, a3, a4, hdI, adI a a0 a2, Option.bind_some]
            rw [if_pos (decide_eq_true (by omega)), if_neg (by rw [beq_iff_eq]; omega), wrap64 (by omega) (by omega)]; rfl
          rw [loopM_eq]
          simp only [step, Option.bind_some]
          exact r2
  obtain ⟨k', r1, r2⟩ := key (k1 - 1) 1 (by omega) (Nat.le_refl _)
  refine ⟨k', r1, ?_⟩
  obtain ⟨a, a1, a2, a0, a3, a4, a5, a6⟩ := ann_both (P := P) h2 l6 (show 0 < P.n ^ (m.len - 1) by omega)
  have e0 : ppn P 0 = 0 := pp_eq (digs_zero P.n)
  have ha1 := a1.least 1 (by
    rw [e0]
    exact ev_one 0) one_ne
  rw [len_one] at ha1
  have step : impl_CarlitzGenerator_l1 ((P.n ^ (m.len - 1) : Nat) : Int) P.p m.1 0 = some (.inl ((1 : Nat) : Int)) := by
    have a3' : impl_prime_numbered P.p 0 = some (ppn P 0).1 := a3
    simp only [impl_CarlitzGenerator_l1, a3', a4, hdI, adI a a0 a2, Option.bind_some]
    rw [if_pos (decide_eq_true (by omega)), if_neg (by rw [beq_iff_eq]; omega), wrap64 (by omega) (by omega)]; rfl
  rw [loopM_eq]
  simp only [step, Option.bind_some]
  exact r2
end
theorem car_law (p : Int) (m : V64) (hm : IsB m) : laws_FnExactCarlitzGenerator p m = some true := by
  have key : ∃ r, spec_CarlitzGenerator p m = some r ∧ impl_CarlitzGenerator p m = some r := by
    rcases exn_same p m hm with ⟨c, c0, c1, c2⟩ | ⟨c1, c2, hp, h2, hk⟩
    · refine ⟨(vrep 64 0, c), ?_, ?_⟩
      · simp only [spec_CarlitzGenerator, c1, Option.bind_some]
        rw [if_pos (by rw [bne_iff_ne]; exact c0)]
      · simp only [impl_CarlitzGenerator, c2, Option.bind_some]
        rw [if_pos (by rw [bne_iff_ne]; exact c0)]
    · obtain ⟨P, rfl⟩ := pri_of hp
      obtain ⟨l2, l6⟩ := exn_modOk hk
      obtain ⟨e, e1, e2, e3⟩ := exn_both (P := P) (m := ppv m hm h2) l2 l6
      rw [ppv_pad] at e3
      have hdI : impl_row_degree (row m) = some (((row m).length - 1 : Nat) : Int) := by rw [degI_row]; congr 1; omega
      have hdS : spec_l01Deg m = some (((row m).length - 1 : Nat) : Int) := by rw [degS_row]; congr 1; omega
      have e2' : loopM (fun s : List Int × Int => impl_ExponentOf_l1 (((row m).length - 1 : Nat) : Int) P.p (row m) s.1 s.2) ([1], 0) = some e.1 := e2
      have hel0 : e.len ≤ (row m).length := e1.2.1
      have hel : e.len ≤ 6 := Nat.le_trans hel0 l6
      have hep := len_pos e1.1.ne
      have hx : impl_ExponentOf P.p m = some (pad e.1, 0) := by
        simp only [impl_ExponentOf, c2, Option.bind_some, row_is hm, hdI, e2', toldI e (show e.len ≤ 1000000 by omega)]
        rw [if_pos (show e.len ≤ 64 by omega)]
        rfl
      have hrow : impl_rowOf (pad e.1) = some e.1 := by rw [row_is (isB_pp e), row_pad e.2 (show e.len ≤ 64 by omega)]
      have hed : impl_row_degree e.1 = some ((e.len - 1 : Nat) : Int) := by
        simp only [impl_row_degree]
        have : ((e.1.length : Nat) : Int) - 1 = ((e.len - 1 : Nat) : Int) := by show (e.len : Int) - 1 = _; omega
        rw [this, wrap64 (by omega) (by omega)]
      have heS : spec_l01Deg (pad e.1) = some ((e.len - 1 : Nat) : Int) := by rw [degS e (by omega)]; congr 1; omega
      by_cases hl : e.len = (row m).length
      · obtain ⟨k, g1, g2⟩ := gen_both (m := ppv m hm h2) l2 l6 e1 hl
        rw [ppv_pad] at g1
        have g1' : loopM (fun s : Int => spec_CarlitzGenerator_l1 P.p m (((row m).length - 1 : Nat) : Int) s) 1 = some (pad (ppn P k).1, 0) := g1
        have g2' : loopM (fun s : Int => impl_CarlitzGenerator_l1 ((P.n ^ ((row m).length - 1) : Nat) : Int) P.p (row m) s) 0 = some (.inr (pad (ppn P k).1, 0)) := g2
        have hN := P.is
        obtain ⟨c, n1, n2, _⟩ := norm_is (p := P.n) (n := (row m).length - 1) (most := 1099511627776) (by omega) (by omega) (by omega)
        have hpw : P.n ^ ((row m).length - 1) ≤ 100000 := by
          have a1 : P.n ^ ((row m).length - 1) ≤ 7 ^ ((row m).length - 1) := Nat.pow_le_pow_left (by omega) _
          have a2 : 7 ^ ((row m).length - 1) ≤ 7 ^ 5 := Nat.pow_le_pow_right (by omega) (by omega)
          omega
        have hc : c = P.n ^ ((row m).length - 1) := by omega
        have n1' : impl_prime_norm P.p (((row m).length - 1 : Nat) : Int) 1099511627776 = some ((P.n ^ ((row m).length - 1) : Nat) : Int) := by rw [← hc]; exact n1
        refine ⟨(pad (ppn P k).1, 0), ?_, ?_⟩
        · simp only [spec_CarlitzGenerator, c1, Option.bind_some, hdS, e3, heS, g1']
          rw [if_neg (by decide), if_neg (by rw [decide_eq_true_eq]; omega)]
        · simp only [impl_CarlitzGenerator, c2, Option.bind_some, row_is hm, hx, hrow, hed, hdI, n1', g2']
          rw [if_neg (by decide), if_neg (by rw [decide_eq_true_eq]; omega)]
      · refine ⟨(vrep 64 0, 5), ?_, ?_⟩
        · simp only [spec_CarlitzGenerator, c1, Option.bind_some, hdS, e3, heS]
          rw [if_neg (by decide), if_pos (by rw [decide_eq_true_eq]; omega)]
        · simp only [impl_CarlitzGenerator, c2, Option.bind_some, row_is hm, hx, hrow, hed, hdI]
          rw [if_neg (by decide), if_pos (by rw [decide_eq_true_eq]; omega)]
  obtain ⟨r, k1, k2⟩ := key
  simp only [laws_FnExactCarlitzGenerator, toPoly_is, k1, k2, Option.bind_some, eqPoly_is]
  simp
end Go.Proofs.Ytebfhlnfmkhmcaa
