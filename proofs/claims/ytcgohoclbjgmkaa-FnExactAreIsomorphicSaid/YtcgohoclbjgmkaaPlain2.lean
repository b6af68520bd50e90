/- Own texts, put together. -/
import Derived.Test.YtcgohoclbjgmkaaPlain1
import Derived.Test.YtcgohoclbjgmkaaFn1
import Derived.Test.YtcgohoclbjgmkaaFn2
import Derived.Test.YtcgohoclbjgmkaaFn3
import Derived.Test.YtcgohoclbjgmkaaFn4
import Derived.Test.YtcgohoclbjgmkaaFn5
import Derived.Test.YtcgohoclbjgmkaaFn6
import Derived.Test.YtcgohoclbjgmkaaFn7
set_option linter.unusedSimpArgs false
set_option linter.unusedVariables false
/- Drinfeld modules, in the program and in the reference. -/
namespace Go.Proofs.Ytcgohoclbjgmkaa
open Go.Abs
abbrev Drin := Int × V64 × V64 × V64
structure DrB (d : Drin) : Prop where
  m : IsB d.2.1
  g : IsB d.2.2.1
  e : IsB d.2.2.2
theorem toDrinfeld_is (d : Drin) : laws_toDrinfeld d = some d := by
  simp only [laws_toDrinfeld, toPoly_is, Option.bind_some]
/-- Is it a module? -/
noncomputable def drin (d : Drin) : Bool := fld d.1 d.2.1 && (resi d.1 d.2.1 d.2.2.1 && (resi d.1 d.2.1 d.2.2.2 && !decide (d.2.2.2 = vrep 64 0)))
theorem drinI {d : Drin} (h : DrB d) : impl_IsDrinfeld d = some (drin d) := by
  obtain ⟨p, m, g, e⟩ := d
  simp only [impl_IsDrinfeld, fieldI p h.m, fieldOf_is h.m, resiI h.g, resiI h.e, Option.bind_some, drin]
  cases fld p m
  · rfl
  · cases resi p m g
    · rfl
    · cases resi p m e <;> rfl
theorem drinS {d : Drin} (h : DrB d) : spec_l06Is d = some (drin d) := by
  obtain ⟨p, m, g, e⟩ := d
  have hm : IsB m := h.m
  have hg : IsB g := h.g
  have he : IsB e := h.e
  simp only [spec_l06Is, drin]
  rw [code_is (by simp [hm, hg, he]) (by simp)]
  simp only [Option.bind_some, List.all_cons, List.all_nil, Bool.and_true]
  cases hp : isP p
  · rw [fld_no (by simp [hp])]; simp
  · cases hs : small p m
    · rw [fld_no (by simp [hs])]; simp
    · cases hs2 : small p g
      · simp [resi, hs2]
      · cases hs3 : small p e
        · simp [resi, hs3]
        · simp only [monicS_is, Bool.and_self, if_true, Option.bind_some, resi, hs2, hs3, Bool.true_and, bne_self_eq_false, Bool.false_eq_true, if_false, degS_row, inS_is]
          by_cases h1 : lead (row m) = 1
          · rw [decide_eq_true h1]
            simp only [Bool.not_true, Bool.false_eq_true, if_false]
            by_cases h2 : 1 ≤ ((row m).length : Int) - 1 ∧ ((row m).length : Int) - 1 ≤ 4
            · rw [decide_eq_true h2, fld_irr hm hp hs h1 h2]
              simp only [if_true, Option.bind_some]
              cases fld p m
              · rfl
              · simp only [if_true, Bool.true_and]
                by_cases l1 : (row g).length < (row m).length
                · rw [if_pos (decide_eq_true (by omega)), decide_eq_true l1]
                  by_cases l2 : (row e).length < (row m).length
                  · rw [if_pos (decide_eq_true (by omega)), decide_eq_true l2]; rfl
                  · rw [if_neg (by rw [decide_eq_true_eq]; omega), decide_eq_false l2]; rfl
                · rw [if_neg (by rw [decide_eq_true_eq]; omega), decide_eq_false l1]; rfl
            · rw [decide_eq_false h2, fld_not hm (fun h => h2 h.2)]; rfl
          · rw [decide_eq_false h1, fld_not hm (fun h => h1 h.1)]; rfl
end Go.Proofs.Ytcgohoclbjgmkaa
/- Inverses modulo an irreducible polynomial. -/
namespace Go.Proofs.Ytcgohoclbjgmkaa
open Go.Abs
variable {P : Pri}
theorem cx_pp (q s0 s1 : PP P) : cx P.p q.1 s0.1 s1.1 = (s0 + -(q * s1)).1 := by
  apply row_ext (cx_row P.pos _ _ _) (s0 + -(q * s1)).2
  intro i
  show rd (comb P.p s0.1 (mul P.p q.1 s1.1) (-1)) i = (s0 + -(q * s1)).c i
  rw [comb_rd, add_c, neg_c]
  show _ = (s0.c i + -((q * s1).c i) % P.p) % P.p
  rw [Int.add_emod_emod]
  show (rd s0.1 i + -1 * rd (mul P.p q.1 s1.1) i) % P.p = (rd s0.1 i + -(rd (mul P.p q.1 s1.1) i)) % P.p
  congr 1; omega
/-- The first cofactor. -/
theorem ez_cof {x m : PP P} : ∀ (n : Nat) (a b s0 s1 : PP P) (t0 t1 : List Int), Dv m (a + -(s0 * x)) → Dv m (b + -(s1 * x)) → ∃ g s : PP P, (ez P.p n a.1 b.1 s0.1 s1.1 t0 t1).1 = g.1 ∧ (ez P.p n a.1 b.1 s0.1 s1.1 t0 t1).2.1 = s.1 ∧ Dv m (g + -(s * x))
  | 0, a, b, s0, s1, t0, t1, h1, _ => ⟨a, s0, by simp only [ez], by simp only [ez], h1⟩
  | n + 1, a, b, s0, s1, t0, t1, h1, h2 => by
    simp only [ez]
    by_cases h0 : b.1.length = 0
    · rw [if_pos h0]; exact ⟨a, s0, rfl, rfl, h1⟩
    · rw [if_neg h0]
      have hb : b ≠ 0 := fun e => h0 (len_zero.2 e)
      obtain ⟨k1, _⟩ := pdiv a hb
      have e : cx P.p (quo P.p a.1 b.1) s0.1 s1.1 = (s0 + -(pquo a b * s1)).1 := cx_pp (pquo a b) s0 s1
      rw [e]
      refine ez_cof n b (prem a b) s1 (s0 + -(pquo a b * s1)) t1 _ h2 ?_
      rw [← qm_iff ppring] at h1 h2 ⊢
      have hr : qm ppring m (prem a b) = qm ppring m a + -(qm ppring m (pquo a b) * qm ppring m b) := by
        have : prem a b = a + -(pquo a b * b) := by
          have h3 : a + -(pquo a b * b) = (pquo a b * b + prem a b) + -(pquo a b * b) := by rw [← k1]
          rw [h3, ppring.add_comm (pquo a b * b), ppring.add_assoc, ppring.add_neg, ppring.add_zero]
        rw [this]; rfl
      rw [hr, h1, h2]
      show qm ppring m s0 * qm ppring m x + -(qm ppring m (pquo a b) * (qm ppring m s1 * qm ppring m x)) = (qm ppring m s0 + -(qm ppring m (pquo a b) * qm ppring m s1)) * qm ppring m x
      have R := qring ppring m
      rw [R.add_mul, R.mul_comm (-_), R.mul_neg, R.mul_comm _ (qm ppring m (pquo a b) * _), R.mul_assoc]
/-- Two inverses are one. -/
theorem inv_one {m x y z : PP P} (hy : y.len < m.len) (hz : z.len < m.len) (h1 : Dv m (1 + -(y * x))) (h2 : Dv m (1 + -(z * x))) : y = z := by
  rw [← qm_iff ppring] at h1 h2
  have R := qring ppring m
  have h : qm ppring m y = qm ppring m z := by
    have e1 : qm ppring m y * (qm ppring m z * qm ppring m x) = qm ppring m y := by
      have : qm ppring m z * qm ppring m x = 1 := h2.symm
      rw [this, R.mul_one]
    have e2 : qm ppring m z * (qm ppring m y * qm ppring m x) = qm ppring m z := by
      have : qm ppring m y * qm ppring m x = 1 := h1.symm
      rw [this, R.mul_one]
    have e3 : qm ppring m y * (qm ppring m z * qm ppring m x) = qm ppring m z * (qm ppring m y * qm ppring m x) := R.mul_left_comm _ _ _
    rw [e1, e2] at e3; exact e3
  have h3 := (qm_iff ppring).1 h
  exact ppring.sub_zero (dv_small h3 (by
    have := len_add y (-z)
    have := len_neg z
    omega))
theorem inv_cof {m x : PP P} (hi : Irr m) (hx : ¬ Dv m x) (lx : x.len ≤ 64) (lm : m.len ≤ 64) : ∃ u : PP P, (bz P.p x.1 m.1).2.1 = u.1 ∧ u.len ≤ 64 ∧ Dv m (1 + -(u * x)) := by
  have hm := hi.ne
  obtain ⟨g, s, e1, e2, h⟩ := ez_cof (x := x) (m := m) 64 x m 1 0 [] [1] (by rw [ppring.one_mul, ppring.add_neg]; exact ppring.dv_zero m) (by rw [ppring.zero_mul, ppring.neg_zero, ppring.add_zero]; exact ppring.dv_refl m)
  obtain ⟨d, g1, _, g3, g4⟩ := gcd_is lx lm (.inr hm)
  obtain ⟨⟨c1, c2, c3⟩, ⟨c4, c5⟩, _⟩ := eg_row P.okp x.2 m.2 lx lm (.inr (ne_len hm))
  have e1' : (eg P.p x.1 m.1).1 = g.1 := e1
  have e2' : (eg P.p x.1 m.1).2.1 = s.1 := e2
  rw [e1'] at c1 c2 c3
  have hl := lead_pos P.pos g.2 c3
  have hv := inv_is P.okp hl
  obtain ⟨k, hk⟩ : ∃ k : Nat, inv P.p (lead g.1) = k := ⟨(inv P.p (lead g.1)).toNat, by omega⟩
  have b1 : (bz P.p x.1 m.1).1 = (nsm k g).1 := by
    show sc P.p (inv P.p (lead (eg P.p x.1 m.1).1)) (eg P.p x.1 m.1).1 = _
    rw [e1', hk, sc_nsm]
  have b2 : (bz P.p x.1 m.1).2.1 = (nsm k s).1 := by
    show sc P.p (inv P.p (lead (eg P.p x.1 m.1).1)) (eg P.p x.1 m.1).2.1 = _
    rw [e1', e2', hk, sc_nsm]
  refine ⟨nsm k s, b2, ?_, ?_⟩
  · rw [e2'] at c5
    have := len_nsm k s
    have : s.len ≤ 64 := c5
    omega
  · have hd : nsm k g = d := pp_eq (by rw [← b1, g1])
    have hd1 : d = 1 := by
      obtain ⟨q1, q2⟩ := (g4 d).1 (ppring.dv_refl d)
      rcases hi.dv q2 with h5 | h5
      · exact mo_eq g3 (show Mo (1 : PP P) from rfl) (dv_unit h5 1) (by rw [h5, len_one])
      · exact absurd (ppring.dv_trans h5 q1) hx
    rw [← qm_iff ppring] at h ⊢
    rw [← hd1, ← hd, qm_nsm, h]
    show nsm k (qm ppring m s * qm ppring m x) = qm ppring m (nsm k s) * qm ppring m x
    have R := qring ppring m
    rw [qm_nsm, R.mul_comm (nsm k _), R.mul_nsm, R.mul_comm (qm ppring m x)]
/-- What both sides compute: the inverse of a residue other than 0. -/
theorem inv_both {m x : PP P} (hi : Irr m) (hx : x ≠ 0) (lx : x.len < m.len) (lm : m.len ≤ 64) : ∃ y : PP P, y.len < m.len ∧ Dv m (1 + -(y * x)) ∧ spec_l02Inverse P.p (pad x.1) (pad m.1) = some (pad y.1) ∧ impl_field_inverted (P.p, m.1) x.1 = some y.1 := by
  have hm := hi.ne
  obtain ⟨u, b, lu, h⟩ := inv_cof hi (fun h => hx (dv_small h lx)) (show x.len ≤ 64 by omega) lm
  have hab : x.1.length ≠ 0 ∨ m.1.length ≠ 0 := .inr (ne_len hm)
  have b1 := bezoutI_is P.okp x.2 m.2 (show x.len ≤ 64 by omega) lm hab
  have b2 := bezoutS_is P.okp x.2 m.2 (show x.len ≤ 64 by omega) lm hab
  have h0 := modS (a := x) hm (by omega) lm
  rw [prem_small lx] at h0
  refine ⟨prem u m, prem_len u hm, ?_, ?_, ?_⟩
  · obtain ⟨k1, _⟩ := pdiv u hm
    rw [← qm_iff ppring] at h ⊢
    rw [h]
    have : qm ppring m u = qm ppring m (prem u m) := by
      rw [qm_iff]
      refine ⟨pquo u m, ?_⟩
      have h3 : u + -(prem u m) = (pquo u m * m + prem u m) + -(prem u m) := by rw [← k1]
      rw [h3, ppring.add_assoc, ppring.add_neg, ppring.add_zero]
    show qm ppring m u * qm ppring m x = qm ppring m (prem u m) * qm ppring m x
    rw [this]
  · have h5 := modS (a := u) hm lu lm
    simp only [spec_l02Inverse, h0, b2, Option.bind_some, b, h5]
  · simp only [impl_field_inverted, b1, Option.bind_some, b, restI hm (show u.len ≤ 500000 by omega) (show m.len ≤ 500000 by omega)]
end Go.Proofs.Ytcgohoclbjgmkaa
/- A row as an array. -/
namespace Go.Proofs.Ytcgohoclbjgmkaa
open Go.Abs

theorem poly_loop {l : List Int} (hb : Bytes l) (hl : l.length ≤ 64) : ∀ s : Int × V64, (∃ i : Nat, s.1 = i ∧ i ≤ l.length ∧ s.2 = pad (l.take i)) → ∃ r, loopM (fun s : Int × V64 => impl_row_poly_l1 l s.1 s.2) s = some r ∧ r = pad l := by
  refine loopM_ind (fun (s : Int × V64) => ∃ i : Nat, s.1 = i ∧ i ≤ l.length ∧ s.2 = pad (l.take i)) (fun (s : Int × V64) r => r = pad l) (fun (s : Int × V64) => 64 - s.1.toNat) ?_
  rintro ⟨x, v⟩ ⟨i, hx, hi, hv⟩
  simp only at hx hv
  subst hx hv
  by_cases h : i = l.length
  · right
    subst h
    exact ⟨pad l, by simp [impl_row_poly_l1], rfl⟩
  · left
    have hil : i < l.length := by omega
    have er : rd l i = l[i] := by simp [rd, hil]
    have hbi := hb l[i] (List.getElem_mem _)
    refine ⟨(((i + 1 : Nat) : Int), pad (l.take (i + 1))), ?_, ⟨i + 1, rfl, by omega, rfl⟩, by simp; omega, fun r hr => hr⟩
    simp only [impl_row_poly_l1]
    rw [if_pos (by simp; omega), ifp_pos (by omega), ifp_pos (by omega)]
    simp only [Int.toNat_natCast, er]
    rw [wrap64 (by omega) (by omega), wrap8 hbi.1 hbi.2]
    have := pad_set (l.take i) l[i] (by simp; omega)
    rw [List.length_take, Nat.min_eq_left (by omega)] at this
    rw [this, List.take_succ_eq_append_getElem hil]
    simp

theorem poly_is {l : List Int} (hb : Bytes l) (hl : l.length ≤ 64) : impl_row_poly l = some (pad l) := by
  obtain ⟨r, h1, h2⟩ := poly_loop hb hl (0, pad []) ⟨0, rfl, by omega, by simp⟩
  simp only [impl_row_poly, ← pad_nil, h1, h2, Option.bind_some]
end Go.Proofs.Ytcgohoclbjgmkaa
/- FnExactAreIsomorphic. -/
namespace Go.Proofs.Ytcgohoclbjgmkaa
open Go.Abs
theorem qm_prem {P : Pri} {m : PP P} (hm : m ≠ 0) (a : PP P) : qm ppring m (prem a m) = qm ppring m a := by
  obtain ⟨k1, _⟩ := pdiv a hm
  symm
  rw [qm_iff]
  refine ⟨pquo a m, ?_⟩
  have h3 : a + -(prem a m) = (pquo a m * m + prem a m) + -(prem a m) := by rw [← k1]
  rw [h3, ppring.add_assoc, ppring.add_neg, ppring.add_zero]
/-- The inverse of a power is the power of the inverse. -/
theorem inv_pw {P : Pri} {m c : PP P} (hi : Irr m) (hc : c ≠ 0) (lc : c.len < m.len) (lm : m.len ≤ 64) (k : Nat) {y : PP P} (hy : Dv m (1 + -(y * c))) :
    impl_field_inverted (P.p, m.1) (prem (pw c k) m).1 = some (prem (pw y k) m).1 := by
  have hm := hi.ne
  have hcd : ¬ Dv m c := fun h => hc (dv_small h lc)
  have R := qring ppring m
  have hq : qm ppring m y * qm ppring m c = 1 := ((qm_iff ppring).2 hy).symm
  have hpk : pw (qm ppring m y) k * pw (qm ppring m c) k = 1 := by rw [← R.mul_pw, hq, R.pw_one]
  have hp : prem (pw c k) m ≠ 0 := fun h => by
    have h1 : qm ppring m (prem (pw c k) m) = 0 := by rw [h]; rfl
    rw [qm_prem hm, qm_pw] at h1
    rw [h1, R.mul_zero] at hpk
    exact q_one hi hpk.symm
  obtain ⟨z, hz, hz2, _, hz3⟩ := inv_both hi hp (prem_len _ hm) lm
  rw [hz3]
  have : z = prem (pw y k) m := by
    refine inv_one (x := prem (pw c k) m) hz (prem_len _ hm) hz2 ?_
    rw [← qm_iff ppring]
    show (1 : Qt ppring m) = qm ppring m (prem (pw y k) m) * qm ppring m (prem (pw c k) m)
    rw [qm_prem hm, qm_prem hm, qm_pw, qm_pw, hpk]
  rw [this]
theorem twist_both {P : Pri} {m c g e : PP P} {d : Drin} (hb : DrB d) (hi : Irr m) (hc : c ≠ 0) (lc : c.len < m.len) (lm : m.len ≤ 5) (e1 : d.1 = P.p) (e2 : row d.2.1 = m.1) (e3 : pad m.1 = d.2.1) (e4 : row d.2.2.1 = g.1) (e5 : row d.2.2.2 = e.1) (lg : g.len < m.len) (le : e.len < m.len) :
    ∃ r, spec_l06Twist d (pad c.1) = some r ∧ impl_Drinfeld_twist d c.1 = some r := by
  have hm := hi.ne
  have hp := P.two
  have hpn : P.p = (P.n : Int) := rfl
  obtain ⟨y, y1, y2, y3, _⟩ := inv_both hi hc lc (by omega)
  have f1 : pad g.1 = d.2.2.1 := by rw [← e4, pad_row]
  have f2 : pad e.1 = d.2.2.2 := by rw [← e5, pad_row]
  have hN := P.is
  have w1 : IntKind.i64.wrap (P.p - 1) = ((P.n - 1 : Nat) : Int) := by rw [wrap64 (by omega) (by omega)]; omega
  have w2 : IntKind.i64.wrap (IntKind.i64.wrap (P.p * P.p) - 1) = ((P.n * P.n - 1 : Nat) : Int) := by
    rcases hN with h | h | h | h <;> rw [hpn, h] <;> rfl
  have hk2 : P.n * P.n - 1 < 4611686018427387904 := by rcases hN with h | h | h | h <;> rw [h] <;> decide
  have s1 := powmodS (a := y) hm (by omega) (by omega) (k := P.n - 1) (by omega)
  have s2 := powmodS (a := y) hm (by omega) (by omega) (k := P.n * P.n - 1) hk2
  have i1 := powI_is c hm (by omega) (by omega) (k := P.n - 1) (by omega)
  have i2 := powI_is c hm (by omega) (by omega) (k := P.n * P.n - 1) hk2
  have j1 := inv_pw hi hc lc (by omega) (P.n - 1) y2
  have j2 := inv_pw hi hc lc (by omega) (P.n * P.n - 1) y2
  have l1 := prem_len (pw y (P.n - 1)) hm
  have l2 := prem_len (pw y (P.n * P.n - 1)) hm
  have t1 := mulmodS (a := g) (b := prem (pw y (P.n - 1)) m) hm (by omega) (by omega) (by omega)
  have t2 := mulmodS (a := e) (b := prem (pw y (P.n * P.n - 1)) m) hm (by omega) (by omega) (by omega)
  have prod : ∀ a b : PP P, a.len < m.len → b.len < m.len → impl_field_product (P.p, m.1) a.1 b.1 = some (prem (a * b) m).1 := by
    intro a b la lb
    have : (a * b).len ≤ a.len + b.len - 1 := mul_len _ _ _
    simp only [impl_field_product, timesI (show a.len ≤ 500000 by omega) (show b.len ≤ 500000 by omega), restI hm (show (a * b).len ≤ 500000 by omega) (show m.len ≤ 500000 by omega), Option.bind_some]
  have o1 := prod _ g l1 lg
  have o2 := prod _ e l2 le
  rw [ppring.mul_comm] at o1 o2
  have r1 := prem_len (g * prem (pw y (P.n - 1)) m) hm
  have r2 := prem_len (e * prem (pw y (P.n * P.n - 1)) m) hm
  have p1 : impl_row_poly (prem (g * prem (pw y (P.n - 1)) m) m).1 = some (pad (prem (g * prem (pw y (P.n - 1)) m) m).1) := poly_is ((prem (g * prem (pw y (P.n - 1)) m) m).2.bytes (by omega)) (show (prem (g * prem (pw y (P.n - 1)) m) m).len ≤ 64 by omega)
  have p2 : impl_row_poly (prem (e * prem (pw y (P.n * P.n - 1)) m) m).1 = some (pad (prem (e * prem (pw y (P.n * P.n - 1)) m) m).1) := poly_is ((prem (e * prem (pw y (P.n * P.n - 1)) m) m).2.bytes (by omega)) (show (prem (e * prem (pw y (P.n * P.n - 1)) m) m).len ≤ 64 by omega)
  rw [e3] at s1 s2 y3 t1 t2
  rw [f1] at t1
  rw [f2] at t2
  refine ⟨(P.p, d.2.1, pad (prem (g * prem (pw y (P.n - 1)) m) m).1, pad (prem (e * prem (pw y (P.n * P.n - 1)) m) m).1), ?_, ?_⟩
  · simp only [spec_l06Twist, spec_l06Times, e1, w1, w2, y3, s1, s2, t1, t2, Option.bind_some]
  · simp only [impl_Drinfeld_twist, impl_Drinfeld_field, fieldOf_is hb.m, row_is hb.g, row_is hb.e, e1, e2, e4, e5, w1, w2, i1, i2, j1, j2, o1, o2, p1, p2, Option.bind_some]
theorem iso_loop {P : Pri} {m g e : PP P} {d n : Drin} (hb : DrB d) (hi : Irr m) (lm : m.len ≤ 5) (e1 : d.1 = P.p) (e2 : row d.2.1 = m.1) (e3 : pad m.1 = d.2.1) (e4 : row d.2.2.1 = g.1) (e5 : row d.2.2.2 = e.1) (lg : g.len < m.len) (le : e.len < m.len) :
    ∃ r, loopM (fun s : Int => spec_AreIsomorphic_l1 d n s) 1 = some r ∧ loopM (fun s : Int => impl_AreIsomorphic_l1 (P.p, m.1) d n s) 1 = some r := by
  have hp := P.two
  have h2 := hi.1
  obtain ⟨N, hN⟩ : ∃ N, P.n ^ (m.len - 1) = N := ⟨_, rfl⟩
  have hNs : N ≤ 1000000 := by
    have a1 : P.n ^ (m.len - 1) ≤ 7 ^ (m.len - 1) := Nat.pow_le_pow_left (by have := P.is; omega) _
    have a2 : 7 ^ (m.len - 1) ≤ 7 ^ 4 := Nat.pow_le_pow_right (by omega) (by omega)
    omega
  have hdeg : spec_l01Deg d.2.1 = some ((m.len - 1 : Nat) : Int) := by
    rw [← e3, degS m (by omega)]; congr 1; omega
  have hcnt : spec_l01Count P.p ((m.len - 1 : Nat) : Int) = some (N : Int) := by
    obtain ⟨c, c1, c2⟩ := count_is (p := P.n) (n := m.len - 1) (by have := P.is; omega) (by omega)
    rw [hN] at c2
    have : c = N := by omega
    rw [← this]; exact c1
  have hdegI : impl_row_degree m.1 = some ((m.len - 1 : Nat) : Int) := by
    simp only [impl_row_degree]
    have : (m.1.length : Int) - 1 = ((m.len - 1 : Nat) : Int) := by show (m.len : Int) - 1 = _; omega
    rw [this, wrap64 (by omega) (by omega)]
  have hnorm : impl_prime_norm P.p ((m.len - 1 : Nat) : Int) 1099511627776 = some (N : Int) := by
    obtain ⟨c, c1, c2, _⟩ := norm_is (p := P.n) (n := m.len - 1) (most := 1099511627776) (by have := P.is; omega) (by omega) (by omega)
    rw [hN] at c2
    have : c = N := by omega
    rw [← this]; exact c1
  have key : ∀ (q i : Nat), i + q = N → 1 ≤ i → ∃ r, loopM (fun s : Int => spec_AreIsomorphic_l1 d n s) (i : Int) = some r ∧ loopM (fun s : Int => impl_AreIsomorphic_l1 (P.p, m.1) d n s) (i : Int) = some r := by
    intro q
    induction q with
    | zero =>
      intro i hi' h1
      have a1 : spec_AreIsomorphic_l1 d n (i : Int) = some (.inr (.inl ())) := by
        simp only [spec_AreIsomorphic_l1, hdeg, e1, hcnt, Option.bind_some]
        rw [if_neg (by rw [decide_eq_true_eq]; omega)]
      have a2 : impl_AreIsomorphic_l1 (P.p, m.1) d n (i : Int) = some (.inr (.inl ())) := by
        simp only [impl_AreIsomorphic_l1, hdegI, hnorm, Option.bind_some]
        rw [if_neg (by rw [decide_eq_true_eq]; omega)]
      exact ⟨.inl (), by rw [loopM_eq]; simp only [a1, Option.bind_some], by rw [loopM_eq]; simp only [a2, Option.bind_some]⟩
    | succ q ih =>
      intro i hi' h1
      have hc : ppn P i ≠ 0 := fun h => by
        have h0 : ppn P 0 = 0 := pp_eq (digs_zero P.n)
        have := ppn_inj (h.trans h0.symm)
        omega
      have lc : (ppn P i).len ≤ m.len - 1 := ppn_len (by omega)
      obtain ⟨r, t1, t2⟩ := twist_both hb hi hc (by omega) lm e1 e2 e3 e4 e5 lg le
      have o1 : spec_l01Of P.p (i : Int) = some (pad (ppn P i).1) := of_is P.ge (by have := P.is; omega) (by omega)
      have o2 : impl_prime_numbered P.p (i : Int) = some (ppn P i).1 := numbered_is P.ge (by omega)
      have a1 : spec_AreIsomorphic_l1 d n (i : Int) = some (if r = n then .inr (.inr (true, 0)) else .inl ((i + 1 : Nat) : Int)) := by
        simp only [spec_AreIsomorphic_l1, hdeg, e1, hcnt, o1, t1, Option.bind_some]
        rw [if_pos (decide_eq_true (by omega)), wrap64 (by omega) (by omega)]
        by_cases h : r = n
        · simp [h]
        · simp [h]
      have a2 : impl_AreIsomorphic_l1 (P.p, m.1) d n (i : Int) = some (if r = n then .inr (.inr (true, 0)) else .inl ((i + 1 : Nat) : Int)) := by
        simp only [impl_AreIsomorphic_l1, hdegI, hnorm, o2, t2, Option.bind_some]
        rw [if_pos (decide_eq_true (by omega)), wrap64 (by omega) (by omega)]
        by_cases h : r = n
        · simp [h]
        · simp [h]
      by_cases h : r = n
      · rw [if_pos h] at a1 a2
        exact ⟨.inr (true, 0), by rw [loopM_eq]; simp only [a1, Option.bind_some], by rw [loopM_eq]; simp only [a2, Option.bind_some]⟩
      · rw [if_neg h] at a1 a2
        obtain ⟨r', k1, k2⟩ := ih (i + 1) (by omega) (by omega)
        exact ⟨r', by rw [loopM_eq]; simp only [a1, Option.bind_some]; exact k1, by rw [loopM_eq]; simp only [a2, Option.bind_some]; exact k2⟩
  have hN1 : 1 ≤ P.n ^ (m.len - 1) := Nat.one_le_pow _ _ (by have := P.is; omega)
  exact key (N - 1) 1 (by omega) (Nat.le_refl _)
theorem iso_law (d n : Drin) (h1 : IsB d.2.1) (h2 : IsB d.2.2.1) (h3 : IsB d.2.2.2) (k1 : IsB n.2.1) (k2 : IsB n.2.2.1) (k3 : IsB n.2.2.2) : laws_FnExactAreIsomorphic d n = some true := by
  have hb : DrB d := ⟨h1, h2, h3⟩
  have hc : DrB n := ⟨k1, k2, k3⟩
  have key : ∃ r, spec_AreIsomorphic d n = some r ∧ impl_AreIsomorphic d n = some r := by
    simp only [spec_AreIsomorphic, impl_AreIsomorphic, spec_l06Both, impl_pairCode, drinI hb, drinI hc, drinS hb, drinS hc, Option.bind_some]
    cases hd : drin d
    · exact ⟨(false, 1), by simp, by simp⟩
    · cases hn : drin n
      · exact ⟨(false, 1), by simp, by simp⟩
      · have hd' := hd
        unfold drin at hd'
        simp only [Bool.and_eq_true, resi, decide_eq_true_eq] at hd'
        obtain ⟨hf, ⟨hsg, hlg⟩, ⟨hse, hle⟩, hne⟩ := hd'
        obtain ⟨P, m, e1, e2, e3, mo, hi, lm⟩ := fld_get hb.m hf
        rw [e1] at hsg hse
        have hlg' : (ppv d.2.2.1 hb.g hsg).len < m.len := by show (row _).length < m.1.length; rw [← e2]; exact hlg
        have hle' : (ppv d.2.2.2 hb.e hse).len < m.len := by show (row _).length < m.1.length; rw [← e2]; exact hle
        obtain ⟨r, l1, l2⟩ := iso_loop (n := n) (g := ppv d.2.2.1 hb.g hsg) (e := ppv d.2.2.2 hb.e hse) hb hi lm e1 e2 e3 rfl rfl hlg' hle'
        by_cases hq : d.1 ≠ n.1
        · exact ⟨(false, 2), by simp [hq], by simp [hq]⟩
        · have hq' : d.1 = n.1 := Classical.not_not.1 hq
          by_cases hm : d.2.1 = n.2.1
          · simp only [Bool.not_true, Bool.false_eq_true, if_false, bne_self_eq_false, hq', bne_self_eq_false, decide_eq_true hm, impl_Drinfeld_field, fieldOf_is hb.m, Option.bind_some, l1]
            have : ((n.1, row d.2.1) : Int × List Int) = (P.p, m.1) := by rw [← hq', e1, e2]
            rw [this, l2]
            simp only [Option.bind_some]
            cases r with
            | inl _ => exact ⟨_, rfl, rfl⟩
            | inr _ => exact ⟨_, rfl, rfl⟩
          · exact ⟨(false, 2), by simp [hq', hm], by simp [hq', hm]⟩
  obtain ⟨r, q1, q2⟩ := key
  simp only [laws_FnExactAreIsomorphic, toDrinfeld_is, q1, q2, Option.bind_some]
  simp
end Go.Proofs.Ytcgohoclbjgmkaa
