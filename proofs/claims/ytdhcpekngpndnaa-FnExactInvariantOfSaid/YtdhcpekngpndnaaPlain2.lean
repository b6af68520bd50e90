/- Own texts, put together. -/
import Derived.Test.YtdhcpekngpndnaaPlain1
import Derived.Test.YtdhcpekngpndnaaFn1
import Derived.Test.YtdhcpekngpndnaaFn2
import Derived.Test.YtdhcpekngpndnaaFn3
import Derived.Test.YtdhcpekngpndnaaFn4
import Derived.Test.YtdhcpekngpndnaaFn5
import Derived.Test.YtdhcpekngpndnaaFn6
set_option linter.unusedSimpArgs false
set_option linter.unusedVariables false
/- Drinfeld modules, in the program and in the reference. -/
namespace Go.Proofs.Ytdhcpekngpndnaa
open Go.Abs
abbrev Drin := Int × V64 × V64 × V64
structure DrB (d : Drin) : Prop where
  m : IsB d.2.1
  g : IsB d.2.2.1
  e : IsB d.2.2.2
theorem toDrinfeld_is (d : Drin) : laws_toDrinfeld d = some d := by
  simp only [laws_toDrinfeld, toPoly_is, Option.bind_some]
/-- Is it a module? -/
noncomputable def drin (d : Drin) : Bool := fld d.1 d.2.1 && (resi d.1 d.2.1 d.2.2.1 && (resi d.1 d.2.1 d.2.2.2 && !decide (d.2.2.2 = vrep 64 0)))
theorem drinI {d : Drin} (h : DrB d) : impl_IsDrinfeld d = some (drin d) := by
  obtain ⟨p, m, g, e⟩ := d
  simp only [impl_IsDrinfeld, fieldI p h.m, fieldOf_is h.m, resiI h.g, resiI h.e, Option.bind_some, drin]
  cases fld p m
  · rfl
  · cases resi p m g
    · rfl
    · cases resi p m e <;> rfl
theorem drinS {d : Drin} (h : DrB d) : spec_l06Is d = some (drin d) := by
  obtain ⟨p, m, g, e⟩ := d
  have hm : IsB m := h.m
  have hg : IsB g := h.g
  have he : IsB e := h.e
  simp only [spec_l06Is, drin]
  rw [code_is (by simp [hm, hg, he]) (by simp)]
  simp only [Option.bind_some, List.all_cons, List.all_nil, Bool.and_true]
  cases hp : isP p
  · rw [fld_no (by simp [hp])]; simp
  · cases hs : small p m
    · rw [fld_no (by simp [hs])]; simp
    · cases hs2 : small p g
      · simp [resi, hs2]
      · cases hs3 : small p e
        · simp [resi, hs3]
        · simp only [monicS_is, Bool.and_self, if_true, Option.bind_some, resi, hs2, hs3, Bool.true_and, bne_self_eq_false, Bool.false_eq_true, if_false, degS_row, inS_is]
          by_cases h1 : lead (row m) = 1
          · rw [decide_eq_true h1]
            simp only [Bool.not_true, Bool.false_eq_true, if_false]
            by_cases h2 : 1 ≤ ((row m).length : Int) - 1 ∧ ((row m).length : Int) - 1 ≤ 4
            · rw [decide_eq_true h2, fld_irr hm hp hs h1 h2]
              simp only [if_true, Option.bind_some]
              cases fld p m
              · rfl
              · simp only [if_true, Bool.true_and]
                by_cases l1 : (row g).length < (row m).length
                · rw [if_pos (decide_eq_true (by omega)), decide_eq_true l1]
                  by_cases l2 : (row e).length < (row m).length
                  · rw [if_pos (decide_eq_true (by omega)), decide_eq_true l2]; rfl
                  · rw [if_neg (by rw [decide_eq_true_eq]; omega), decide_eq_false l2]; rfl
                · rw [if_neg (by rw [decide_eq_true_eq]; omega), decide_eq_false l1]; rfl
            · rw [decide_eq_false h2, fld_not hm (fun h => h2 h.2)]; rfl
          · rw [decide_eq_false h1, fld_not hm (fun h => h1 h.1)]; rfl
end Go.Proofs.Ytdhcpekngpndnaa
/- A row as an array. -/
namespace Go.Proofs.Ytdhcpekngpndnaa
open Go.Abs

theorem poly_loop {l : List Int} (hb : Bytes l) (hl : l.length ≤ 64) : ∀ s : Int × V64, (∃ i : Nat, s.1 = i ∧ i ≤ l.length ∧ s.2 = pad (l.take i)) → ∃ r, loopM (fun s : Int × V64 => impl_row_poly_l1 l s.1 s.2) s = some r ∧ r = pad l := by
  refine loopM_ind (fun (s : Int × V64) => ∃ i : Nat, s.1 = i ∧ i ≤ l.length ∧ s.2 = pad (l.take i)) (fun (s : Int × V64) r => r = pad l) (fun (s : Int × V64) => 64 - s.1.toNat) ?_
  rintro ⟨x, v⟩ ⟨i, hx, hi, hv⟩
  simp only at hx hv
  subst hx hv
  by_cases h : i = l.length
  · right
    subst h
    exact ⟨pad l, by simp [impl_row_poly_l1], rfl⟩
  · left
    have hil : i < l.length := by omega
    have er : rd l i = l[i] := by simp [rd, hil]
    have hbi := hb l[i] (List.getElem_mem _)
    refine ⟨(((i + 1 : Nat) : Int), pad (l.take (i + 1))), ?_, ⟨i + 1, rfl, by omega, rfl⟩, by simp; omega, fun r hr => hr⟩
    simp only [impl_row_poly_l1]
    rw [if_pos (by simp; omega), ifp_pos (by omega), ifp_pos (by omega)]
    simp only [Int.toNat_natCast, er]
    rw [wrap64 (by omega) (by omega), wrap8 hbi.1 hbi.2]
    have := pad_set (l.take i) l[i] (by simp; omega)
    rw [List.length_take, Nat.min_eq_left (by omega)] at this
    rw [this, List.take_succ_eq_append_getElem hil]
    simp

theorem poly_is {l : List Int} (hb : Bytes l) (hl : l.length ≤ 64) : impl_row_poly l = some (pad l) := by
  obtain ⟨r, h1, h2⟩ := poly_loop hb hl (0, pad []) ⟨0, rfl, by omega, by simp⟩
  simp only [impl_row_poly, ← pad_nil, h1, h2, Option.bind_some]
end Go.Proofs.Ytdhcpekngpndnaa
/- Polynomials from rows, told. -/
namespace Go.Proofs.Ytdhcpekngpndnaa
open Go.Abs
theorem told_is {l : List Int} (hb : Bytes l) (hl : l.length ≤ 64) : impl_told l = some (pad l, 0) := by
  simp only [impl_told, impl_row_fits, impl_row_degree, Option.bind_some, poly_is hb hl]
  rw [wrap64 (by omega) (by omega)]
  simp
  omega
end Go.Proofs.Ytdhcpekngpndnaa
/- Comparing polynomials. -/
namespace Go.Proofs.Ytdhcpekngpndnaa
open Go.Abs

theorem eqPoly_loop (a b : V64) : ∀ s : Int, (∃ i : Nat, s = i ∧ i ≤ 64) → ∃ r, loopM (fun s : Int => laws_eqPoly_l1 a b s) s = some r ∧ ∀ i : Nat, s = i → (r = .inl () ∧ ∀ j, i ≤ j → j < 64 → rd a.1 j = rd b.1 j) ∨ (r = .inr false ∧ ∃ j, j < 64 ∧ rd a.1 j ≠ rd b.1 j) := by
  refine loopM_ind (fun (s : Int) => ∃ i : Nat, s = i ∧ i ≤ 64) (fun (s : Int) (r : Unit ⊕ Bool) => ∀ i : Nat, s = i → (r = .inl () ∧ ∀ j, i ≤ j → j < 64 → rd a.1 j = rd b.1 j) ∨ (r = .inr false ∧ ∃ j, j < 64 ∧ rd a.1 j ≠ rd b.1 j)) (fun s => 64 - s.toNat) ?_
  rintro s ⟨i, rfl, hi⟩
  by_cases h : i = 64
  · subst h
    right
    refine ⟨.inl (), by simp [laws_eqPoly_l1], fun k hk => .inl ⟨rfl, fun j h1 h2 => by omega⟩⟩
  · by_cases e : rd a.1 i = rd b.1 i
    · left
      refine ⟨((i + 1 : Nat) : Int), ?_, ⟨i + 1, rfl, by omega⟩, by simp; omega, fun r hr k hk => ?_⟩
      · simp only [laws_eqPoly_l1]
        rw [if_pos (by simp; omega), ifp_pos (by omega), ifp_pos (by omega)]
        simp only [Int.toNat_natCast, e, bne_self_eq_false, Bool.false_eq_true, if_false]
        rw [wrap64 (by omega) (by omega)]; rfl
      · have hki : k = i := by omega
        subst hki
        rcases hr (k + 1) rfl with ⟨h1, h2⟩ | h1
        · refine .inl ⟨h1, fun j h3 h4 => ?_⟩
          by_cases hj : j = k
          · subst hj; exact e
          · exact h2 j (by omega) h4
        · exact .inr h1
    · right
      refine ⟨.inr false, ?_, fun k hk => .inr ⟨rfl, i, by omega, e⟩⟩
      simp only [laws_eqPoly_l1]
      rw [if_pos (by simp; omega), ifp_pos (by omega), ifp_pos (by omega)]
      simp [e]

theorem eqPoly_is (a b : V64) : laws_eqPoly a b = some (decide (a = b)) := by
  obtain ⟨r, h1, h2⟩ := eqPoly_loop a b 0 ⟨0, rfl, by omega⟩
  unfold laws_eqPoly
  rcases h2 0 rfl with ⟨rfl, h⟩ | ⟨rfl, j, h3, h4⟩
  · have : a = b := vec_ext fun j hj => h j (by omega) hj
    rw [h1]; simp [this]
  · have : a ≠ b := fun e => h4 (by rw [e])
    rw [h1]; simp [this]
end Go.Proofs.Ytdhcpekngpndnaa
/- FnExactInvariantOf. -/
namespace Go.Proofs.Ytdhcpekngpndnaa
open Go.Abs
theorem drCode0 {d : Drin} (hb : DrB d) : impl_drinfeldCode d [] = some (if drin d then 0 else 1) := by
  have h1 : loopM (fun s : Int => slices_IndexFunc_impl_Poly_impl_Poly_of_impl_areAll_impl_Poly__c1_p_drinfeldCode_c1_l1 [] d s) 0 = some (.inl ()) := by
    have step : slices_IndexFunc_impl_Poly_impl_Poly_of_impl_areAll_impl_Poly__c1_p_drinfeldCode_c1_l1 [] d 0 = some (.inr (.inl ())) := by
      simp [slices_IndexFunc_impl_Poly_impl_Poly_of_impl_areAll_impl_Poly__c1_p_drinfeldCode_c1_l1]
    rw [loopM_eq]
    simp only [step, Option.bind_some]
  have e : impl_areAll_impl_Poly_of_impl_drinfeldCode_c1_p [] d = some true := by
    simp only [impl_areAll_impl_Poly_of_impl_drinfeldCode_c1_p, slices_ContainsFunc_impl_Poly_impl_Poly_of_impl_areAll_impl_Poly__c1_p_drinfeldCode_c1, slices_IndexFunc_impl_Poly_impl_Poly_of_impl_areAll_impl_Poly__c1_p_drinfeldCode_c1, h1, Option.bind_some]
    simp
  simp only [impl_drinfeldCode, drinI hb, e, Option.bind_some]
  cases drin d <;> rfl
theorem toldI {P : Pri} {a : PP P} (la : a.len ≤ 64) : impl_told a.1 = some (pad a.1, 0) := told_is (a.2.bytes (by have := P.two; omega)) la
theorem inva_law (d : Drin) (h1 : IsB d.2.1) (h2 : IsB d.2.2.1) (h3 : IsB d.2.2.2) : laws_FnExactInvariantOf d = some true := by
  have hb : DrB d := ⟨h1, h2, h3⟩
  have key : ∃ r, spec_InvariantOf d = some r ∧ impl_InvariantOf d = some r := by
    simp only [spec_InvariantOf, impl_InvariantOf, impl_Drinfeld_field, drCode0 hb, drinS hb, Option.bind_some, fieldOf_is hb.m, row_is hb.g, row_is hb.e]
    cases hdr : drin d
    · exact ⟨(vrep 64 0, 1), by simp, by simp⟩
    · have hdr' := hdr
      unfold drin at hdr'
      simp only [Bool.and_eq_true, resi, decide_eq_true_eq] at hdr'
      obtain ⟨hf, ⟨hsg, hlg⟩, ⟨hse, hle⟩, hne⟩ := hdr'
      obtain ⟨P, m, e1, e2, e3, mo, hi, lm⟩ := fld_get hb.m hf
      have hp := P.two
      rw [e1] at hsg hse
      have hm := mo.ne
      have hlg' : (ppv d.2.2.1 hb.g hsg).len < m.len := by show (row _).length < m.1.length; rw [← e2]; exact hlg
      have hle' : (ppv d.2.2.2 hb.e hse).len < m.len := by show (row _).length < m.1.length; rw [← e2]; exact hle
      have ew : IntKind.i64.wrap (P.p + 1) = ((P.n + 1 : Nat) : Int) := by rw [wrap64 (by omega) (by omega)]; show (P.n : Int) + 1 = _; omega
      have k1 : spec_l01PowMod P.p d.2.2.1 ((P.n + 1 : Nat) : Int) d.2.1 = some (pad (prem (pw (ppv d.2.2.1 hb.g hsg) (P.n + 1)) m).1) := by
        have h := powmodS (a := ppv d.2.2.1 hb.g hsg) hm (by omega) (by omega) (k := P.n + 1) (by have := P.is; omega)
        rw [ppv_pad, e3] at h; exact h
      have k2 : impl_prime_power P.p (row d.2.2.1) ((P.n + 1 : Nat) : Int) m.1 = some (prem (pw (ppv d.2.2.1 hb.g hsg) (P.n + 1)) m).1 := powI_is (ppv d.2.2.1 hb.g hsg) hm (by omega) (by omega) (by have := P.is; omega)
      have hab : (ppv d.2.2.2 hb.e hse).1.length ≠ 0 ∨ m.1.length ≠ 0 := .inr (ne_len hm)
      obtain ⟨_, ⟨g4, g5⟩, _⟩ := eg_row P.okp (ppv d.2.2.2 hb.e hse).2 m.2 (show (ppv d.2.2.2 hb.e hse).len ≤ 64 by omega) (show m.len ≤ 64 by omega) hab
      have hur : Row P.p (bz P.p (ppv d.2.2.2 hb.e hse).1 m.1).2.1 := comb_row P.pos _ _ _
      have hul : (bz P.p (ppv d.2.2.2 hb.e hse).1 m.1).2.1.length ≤ 64 := Nat.le_trans sc_len g5
      obtain ⟨u, hu⟩ : ∃ u : PP P, (bz P.p (ppv d.2.2.2 hb.e hse).1 m.1).2.1 = u.1 := ⟨⟨_, hur⟩, rfl⟩
      have lu : u.len ≤ 64 := by show u.1.length ≤ 64; rw [← hu]; exact hul
      have b1 : impl_prime_bezout P.p (row d.2.2.2) m.1 = some (bz P.p (ppv d.2.2.2 hb.e hse).1 m.1) := bezoutI_is P.okp (ppv d.2.2.2 hb.e hse).2 m.2 (show (ppv d.2.2.2 hb.e hse).len ≤ 64 by omega) (show m.len ≤ 64 by omega) hab
      have b2 := bezoutS_is P.okp (ppv d.2.2.2 hb.e hse).2 m.2 (show (ppv d.2.2.2 hb.e hse).len ≤ 64 by omega) (show m.len ≤ 64 by omega) hab
      have k3 : impl_field_inverted (P.p, m.1) (row d.2.2.2) = some (prem u m).1 := by
        simp only [impl_field_inverted, b1, Option.bind_some, hu, restI hm (show u.len ≤ 500000 by omega) (show m.len ≤ 500000 by omega)]
      have k4 : spec_l02Inverse P.p d.2.2.2 d.2.1 = some (pad (prem u m).1) := by
        have h0 := modS (a := ppv d.2.2.2 hb.e hse) hm (by omega) (show m.len ≤ 64 by omega)
        rw [prem_small hle', ppv_pad, e3] at h0
        rw [ppv_pad, e3] at b2
        have h5 := modS (a := u) hm lu (show m.len ≤ 64 by omega)
        rw [e3] at h5
        simp only [spec_l02Inverse, h0, b2, Option.bind_some, hu, h5]
      have l1 := prem_len (pw (ppv d.2.2.1 hb.g hsg) (P.n + 1)) hm
      have l2 := prem_len u hm
      have k5 : spec_l06Times d (pad (prem (pw (ppv d.2.2.1 hb.g hsg) (P.n + 1)) m).1) (pad (prem u m).1) = some (pad (prem (prem (pw (ppv d.2.2.1 hb.g hsg) (P.n + 1)) m * prem u m) m).1) := by
        have h := mulmodS (a := prem (pw (ppv d.2.2.1 hb.g hsg) (P.n + 1)) m) (b := prem u m) hm (by omega) (by omega) (by omega)
        rw [e3] at h
        simp only [spec_l06Times, e1, h, Option.bind_some]
      have l3 : (prem (pw (ppv d.2.2.1 hb.g hsg) (P.n + 1)) m * prem u m).len ≤ 500000 := by
        have : (prem (pw (ppv d.2.2.1 hb.g hsg) (P.n + 1)) m * prem u m).len ≤ (prem (pw (ppv d.2.2.1 hb.g hsg) (P.n + 1)) m).len + (prem u m).len - 1 := mul_len _ _ _
        omega
      have k6 : impl_field_product (P.p, m.1) (prem (pw (ppv d.2.2.1 hb.g hsg) (P.n + 1)) m).1 (prem u m).1 = some (prem (prem (pw (ppv d.2.2.1 hb.g hsg) (P.n + 1)) m * prem u m) m).1 := by
        simp only [impl_field_product, timesI (show (prem (pw (ppv d.2.2.1 hb.g hsg) (P.n + 1)) m).len ≤ 500000 by omega) (show (prem u m).len ≤ 500000 by omega), restI hm l3 (show m.len ≤ 500000 by omega), Option.bind_some]
      have l4 := prem_len (prem (pw (ppv d.2.2.1 hb.g hsg) (P.n + 1)) m * prem u m) hm
      have k7 := toldI (a := prem (prem (pw (ppv d.2.2.1 hb.g hsg) (P.n + 1)) m * prem u m) m) (by omega)
      simp only [e1, e2, ew, k1, k2, k3, k4, k5, k6, k7, Option.bind_some, Bool.not_true, Bool.false_eq_true, if_false, if_true, bne_self_eq_false]
      exact ⟨_, rfl, rfl⟩
  obtain ⟨r, k1, k2⟩ := key
  simp only [laws_FnExactInvariantOf, toDrinfeld_is, k1, k2, Option.bind_some, eqPoly_is]
  simp
end Go.Proofs.Ytdhcpekngpndnaa
