/- Own texts, put together. -/
import Derived.Test.YtdhcpekngpndnaaPlain1
import Derived.Test.YtdhcpekngpndnaaFn1
import Derived.Test.YtdhcpekngpndnaaFn2
import Derived.Test.YtdhcpekngpndnaaFn3
import Derived.Test.YtdhcpekngpndnaaFn4
import Derived.Test.YtdhcpekngpndnaaFn5
import Derived.Test.YtdhcpekngpndnaaFn6
set_option linter.unusedSimpArgs false
set_option linter.unusedVariables false
/- Comparing polynomials. -/
namespace Go.Proofs.Ytdhcpekngpndnaa
open Go.Abs

theorem eqPoly_loop (a b : V64) : ∀ s : Int, (∃ i : Nat, s = i ∧ i ≤ 64) → ∃ r, loopM (fun s : Int => laws_eqPoly_l1 a b s) s = some r ∧ ∀ i : Nat, s = i → (r = .inl () ∧ ∀ j, i ≤ j → j < 64 → rd a.1 j = rd b.1 j) ∨ (r = .inr false ∧ ∃ j, j < 64 ∧ rd a.1 j ≠ rd b.1 j) := by
  refine loopM_ind (fun (s : Int) => ∃ i : Nat, s = i ∧ i ≤ 64) (fun (s : Int) (r : Unit ⊕ Bool) => ∀ i : Nat, s = i → (r = .inl () ∧ ∀ j, i ≤ j → j < 64 → rd a.1 j = rd b.1 j) ∨ (r = .inr false ∧ ∃ j, j < 64 ∧ rd a.1 j ≠ rd b.1 j)) (fun s => 64 - s.toNat) ?_
  rintro s ⟨i, rfl, hi⟩
  by_cases h : i = 64
  · subst h
    right
    refine ⟨.inl (), by simp [laws_eqPoly_l1], fun k hk => .inl ⟨rfl, fun j h1 h2 => by omega⟩⟩
  · by_cases e : rd a.1 i = rd b.1 i
    · left
      refine ⟨((i + 1 : Nat) : Int), ?_, ⟨i + 1, rfl, by omega⟩, by simp; omega, fun r hr k hk => ?_⟩
      · simp only [laws_eqPoly_l1]
        rw [if_pos (by simp; omega), ifp_pos (by omega), ifp_pos (by omega)]
        simp only [Int.toNat_natCast, e, bne_self_eq_false, Bool.false_eq_true, if_false]
        rw [wrap64 (by omega) (by omega)]; rfl
      · have hki : k = i := by omega
        subst hki
        rcases hr (k + 1) rfl with ⟨h1, h2⟩ | h1
        · refine .inl ⟨h1, fun j h3 h4 => ?_⟩
          by_cases hj : j = k
          · subst hj; exact e
          · exact h2 j (by omega) h4
        · exact .inr h1
    · right
      refine ⟨.inr false, ?_, fun k hk => .inr ⟨rfl, i, by omega, e⟩⟩
      simp only [laws_eqPoly_l1]
      rw [if_pos (by simp; omega), ifp_pos (by omega), ifp_pos (by omega)]
      simp [e]

theorem eqPoly_is (a b : V64) : laws_eqPoly a b = some (decide (a = b)) := by
  obtain ⟨r, h1, h2⟩ := eqPoly_loop a b 0 ⟨0, rfl, by omega⟩
  unfold laws_eqPoly
  rcases h2 0 rfl with ⟨rfl, h⟩ | ⟨rfl, j, h3, h4⟩
  · have : a = b := vec_ext fun j hj => h j (by omega) hj
    rw [h1]; simp [this]
  · have : a ≠ b := fun e => h4 (by rw [e])
    rw [h1]; simp [this]
end Go.Proofs.Ytdhcpekngpndnaa
/- A copy of a polynomial. -/
namespace Go.Proofs.Ytdhcpekngpndnaa
open Go.Abs

theorem toPoly_loop (a : V64) : ∀ s : Int × V64, (∃ i : Nat, s.1 = i ∧ i ≤ 64 ∧ ∀ j, j < i → rd s.2.1 j = rd a.1 j) → ∃ r, loopM (fun s : Int × V64 => laws_toPoly_l1 a s.1 s.2) s = some r ∧ r = a := by
  refine loopM_ind (fun (s : Int × V64) => ∃ i : Nat, s.1 = i ∧ i ≤ 64 ∧ ∀ j, j < i → rd s.2.1 j = rd a.1 j) (fun (s : Int × V64) (r : V64) => r = a) (fun (s : Int × V64) => 64 - s.1.toNat) ?_
  rintro ⟨x, v⟩ ⟨i, hx, hi, hv⟩
  simp only at hx hv
  subst hx
  by_cases h : i = 64
  · right
    subst h
    exact ⟨v, by simp [laws_toPoly_l1], vec_ext hv⟩
  · left
    refine ⟨(((i + 1 : Nat) : Int), vset v i (rd a.1 i)), ?_, ⟨i + 1, rfl, by omega, fun j hj => ?_⟩, by simp; omega, fun r hr => hr⟩
    · simp only [laws_toPoly_l1]
      rw [if_pos (by simp; omega), ifp_pos (by omega), ifp_pos (by omega), wrap64 (by omega) (by omega)]
      simp
    · rw [rd_vset _ _ _ _ (by omega)]
      by_cases e : j = i
      · rw [if_pos e, e]
      · rw [if_neg e]; exact hv j (by omega)

theorem toPoly_is (a : V64) : laws_toPoly a = some a := by
  obtain ⟨r, h1, h2⟩ := toPoly_loop a (0, vrep 64 0) ⟨0, rfl, by omega, fun j hj => by omega⟩
  simp only [laws_toPoly, h1, h2, Option.bind_some]
end Go.Proofs.Ytdhcpekngpndnaa
/- Which arrays are polynomials, in the program. -/
namespace Go.Proofs.Ytdhcpekngpndnaa
open Go.Abs

theorem index_loop {p : Int} {a : V64} (hb : IsB a) : ∀ s : Int, (∃ i : Nat, s = i ∧ i ≤ 64 ∧ ∀ j, j < i → rd a.1 j < p) → ∃ r, loopM (fun s : Int => slices_IndexFunc_byte_byte_of_impl_areAll_byte__c1_p_l1 a.1 p s) s = some r ∧ ((r = .inl () ∧ Small p a) ∨ (∃ i : Nat, r = .inr (i : Int) ∧ ¬ Small p a)) := by
  refine loopM_ind (fun (s : Int) => ∃ i : Nat, s = i ∧ i ≤ 64 ∧ ∀ j, j < i → rd a.1 j < p) (fun (s : Int) (r : Unit ⊕ Int) => (r = .inl () ∧ Small p a) ∨ (∃ i : Nat, r = .inr (i : Int) ∧ ¬ Small p a)) (fun s => 64 - s.toNat) ?_
  rintro s ⟨i, rfl, hi, hlt⟩
  have h64 := a.2
  by_cases h : i = 64
  · right
    subst h
    exact ⟨.inl (), by simp [slices_IndexFunc_byte_byte_of_impl_areAll_byte__c1_p_l1, h64], .inl ⟨rfl, hlt⟩⟩
  · have hbi := hb.rd (show i < 64 by omega)
    have e1 : impl_areAll_byte__c1_of_p (rd a.1 i) p = some (!decide (rd a.1 i < p)) := by
      simp only [impl_areAll_byte__c1_of_p, impl_isPoly_c1_of_p, Option.bind_some]
      rw [wrap64 (by omega) (by omega)]
    by_cases e : rd a.1 i < p
    · left
      refine ⟨((i + 1 : Nat) : Int), ?_, ⟨i + 1, rfl, by omega, fun j hj => ?_⟩, by simp; omega, fun r hr => hr⟩
      · simp only [slices_IndexFunc_byte_byte_of_impl_areAll_byte__c1_p_l1, h64]
        rw [if_pos (by simp; omega), ifp_pos (by omega), Int.toNat_natCast, e1, wrap64 (by omega) (by omega)]
        simp [e]
      · by_cases hj' : j = i
        · rw [hj']; exact e
        · exact hlt j (by omega)
    · right
      refine ⟨.inr (i : Int), ?_, .inr ⟨i, rfl, fun hs => e (hs i (by omega))⟩⟩
      simp only [slices_IndexFunc_byte_byte_of_impl_areAll_byte__c1_p_l1, h64]
      rw [if_pos (by simp; omega), ifp_pos (by omega), Int.toNat_natCast, e1]
      simp [e]
theorem isPoly_is {p : Int} {a : V64} (hb : IsB a) : impl_isPoly p a = some (small p a) := by
  obtain ⟨r, h1, h2⟩ := index_loop (p := p) hb 0 ⟨0, rfl, by omega, fun j hj => by omega⟩
  simp only [impl_isPoly, impl_areAll_byte_of_impl_isPoly_c1_p, slices_ContainsFunc_byte_byte_of_impl_areAll_byte__c1_p, slices_IndexFunc_byte_byte_of_impl_areAll_byte__c1_p, h1, Option.bind_some]
  rcases h2 with ⟨rfl, h⟩ | ⟨i, rfl, h⟩ <;> simp [small, h]
end Go.Proofs.Ytdhcpekngpndnaa
/- The code for polynomials, in the program. -/
namespace Go.Proofs.Ytdhcpekngpndnaa
open Go.Abs

theorem indexP_loop {p : Int} {l : List V64} (hb : ∀ a ∈ l, IsB a) (hl : l.length ≤ 1000000) : ∀ s : Int, (∃ i : Nat, s = i ∧ i ≤ l.length ∧ ∀ a ∈ l.take i, small p a = true) → ∃ r, loopM (fun s : Int => slices_IndexFunc_impl_Poly_impl_Poly_of_impl_areAll_impl_Poly__c1_p_l1 l p s) s = some r ∧ ((r = .inl () ∧ l.all (small p) = true) ∨ (∃ i : Nat, r = .inr (i : Int) ∧ l.all (small p) = false)) := by
  refine loopM_ind (fun (s : Int) => ∃ i : Nat, s = i ∧ i ≤ l.length ∧ ∀ a ∈ l.take i, small p a = true) (fun (s : Int) (r : Unit ⊕ Int) => (r = .inl () ∧ l.all (small p) = true) ∨ (∃ i : Nat, r = .inr (i : Int) ∧ l.all (small p) = false)) (fun s => l.length - s.toNat) ?_
  rintro s ⟨i, rfl, hi, hlt⟩
  by_cases h : i = l.length
  · right
    subst h
    exact ⟨.inl (), by simp [slices_IndexFunc_impl_Poly_impl_Poly_of_impl_areAll_impl_Poly__c1_p_l1], .inl ⟨rfl, by rw [List.take_length] at hlt; simpa using hlt⟩⟩
  · have hil : i < l.length := by omega
    have er : rd l i = l[i] := by simp [rd, hil]
    have hbi := isPoly_is (p := p) (hb l[i] (List.getElem_mem _))
    have e1 : impl_areAll_impl_Poly__c1_of_p (rd l i) p = some (!small p l[i]) := by
      simp only [impl_areAll_impl_Poly__c1_of_p, impl_polysCode_c1_of_p, er, hbi, Option.bind_some]
    cases e : small p l[i] with
    | true =>
      left
      refine ⟨((i + 1 : Nat) : Int), ?_, ⟨i + 1, rfl, by omega, fun a ha => ?_⟩, by simp; omega, fun r hr => hr⟩
      · simp only [slices_IndexFunc_impl_Poly_impl_Poly_of_impl_areAll_impl_Poly__c1_p_l1]
        rw [if_pos (decide_eq_true (by omega)), ifp_pos (by omega), Int.toNat_natCast, e1, e]
        simp only [Option.bind_some, Bool.not_true, Bool.false_eq_true, if_false]
        rw [wrap64 (by omega) (by omega)]; rfl
      · rw [List.take_succ_eq_append_getElem hil] at ha
        rcases List.mem_append.1 ha with ha | ha
        · exact hlt a ha
        · have : a = l[i] := by simpa using ha
          rw [this]; exact e
    | false =>
      right
      refine ⟨.inr (i : Int), ?_, .inr ⟨i, rfl, ?_⟩⟩
      · simp only [slices_IndexFunc_impl_Poly_impl_Poly_of_impl_areAll_impl_Poly__c1_p_l1]
        rw [if_pos (decide_eq_true (by omega)), ifp_pos (by omega), Int.toNat_natCast, e1, e]
        rfl
      · rw [List.all_eq_false]
        exact ⟨l[i], List.getElem_mem _, by simp [e]⟩
theorem polysCode_is {p : Int} {l : List V64} (hb : ∀ a ∈ l, IsB a) (hl : l.length ≤ 1000000) : impl_polysCode p l = some (if isP p && l.all (small p) then 0 else 1) := by
  obtain ⟨r, h1, h2⟩ := indexP_loop (p := p) hb hl 0 ⟨0, rfl, by omega, by simp⟩
  have e : impl_areAll_impl_Poly_of_impl_polysCode_c1_p l p = some (l.all (small p)) := by
    simp only [impl_areAll_impl_Poly_of_impl_polysCode_c1_p, slices_ContainsFunc_impl_Poly_impl_Poly_of_impl_areAll_impl_Poly__c1_p, slices_IndexFunc_impl_Poly_impl_Poly_of_impl_areAll_impl_Poly__c1_p, h1, Option.bind_some]
    rcases h2 with ⟨rfl, h⟩ | ⟨i, rfl, h⟩ <;> simp [h]
  simp only [impl_polysCode, isPrime_impl, e, Option.bind_some]
  cases isP p <;> cases l.all (small p) <;> simp
end Go.Proofs.Ytdhcpekngpndnaa
/- FnExactDeepRest. -/
namespace Go.Proofs.Ytdhcpekngpndnaa
open Go.Abs
open Classical in
theorem deep_both {P : Pri} {x m : PP P} (lx : x.len ≤ 64) (mo : Mo m) (h2 : 2 ≤ m.len) (l4 : m.len ≤ 4) : ∃ r : PP P, r.len ≤ 64 ∧
    (Option.bind (spec_l01Times P.p (pad m.1) (pad m.1)) fun r35 => (Option.bind (spec_l01One) fun r52 => (Option.bind (spec_l01Add P.p (pad m.1) r52 (-1)) fun r54 => (Option.bind (spec_l01Mod P.p (pad x.1) (pad m.1)) fun r58 => (Option.bind (spec_l04Act P.p r54 r58 r35.1) fun r61 => (Option.bind (spec_l01Divide P.p r61 (pad m.1)) fun r66 => (Option.bind (spec_l01Mod P.p r66.1 (pad m.1)) fun r72 => (some (r72, (0 : Int)))))))))) = some (pad r.1, 0) ∧
    (Option.bind (impl_prime_combine P.p m.1 ([1]) (-1)) fun r42 => (Option.bind (impl_prime_rest P.p x.1 m.1) fun r47 => (Option.bind (impl_prime_times P.p m.1 m.1) fun r49 => (Option.bind (impl_prime_act P.p r42 r47 r49) fun r51 => (Option.bind (impl_prime_divide P.p r51 m.1) fun r53 => impl_prime_rest P.p r53.1 m.1))))) = some r.1 := by
  have hm := mo.ne
  have hmm := len_mul hm hm
  have hM : m * m ≠ 0 := fun e => by rcases pp_dom _ _ e with h | h <;> exact hm h
  have l1 := prem_len x hm
  have la : (m + -1 : PP P).len ≤ 64 := by
    have := len_add m (-1)
    have := len_neg (1 : PP P)
    rw [len_one] at this
    omega
  obtain ⟨o, o0, o1, o2⟩ := act_both hM (by omega) la (show (prem x m).len ≤ 64 by omega)
  have lq : (pquo o m).len ≤ 64 := by
    have : (pquo o m).len ≤ o.len + 1 - m.len := quo_len P.p o.1 m.1
    omega
  have lr := prem_len (pquo o m) hm
  refine ⟨prem (pquo o m) m, by omega, ?_, ?_⟩
  · have e1 : spec_l01Times P.p (pad m.1) (pad m.1) = some (pad (m * m).1, true) := times_pad (by have := P.two; omega) m.2 m.2 (show m.len ≤ 64 by omega) (show m.len ≤ 64 by omega) (.inr (.inr (by show m.len + m.len ≤ 65; omega)))
    have e2 : spec_l01Add P.p (pad m.1) (pad [1]) (-1) = some (pad (m + -1).1) := subS (b := 1) (by omega) (by rw [len_one]; omega)
    have e3 := modS (a := x) hm lx (by omega)
    have e4 := divS (a := o) hm (by omega) (by omega)
    have e5 := modS (a := pquo o m) hm lq (by omega)
    simp only [e1, one_is, e2, e3, o2, e4, e5, Option.bind_some]
  · have e1 : impl_prime_times P.p m.1 m.1 = some (m * m).1 := timesI (by omega) (by omega)
    have e2 : impl_prime_combine P.p m.1 [1] (-1) = some (m + -1).1 := subI (b := 1) (by omega) (by rw [len_one]; omega)
    have e3 := restI (a := x) hm (by omega) (show m.len ≤ 500000 by omega)
    have e4 := pdivI (a := o) hm (by omega) (by omega)
    have e5 := restI (a := pquo o m) hm (by omega) (show m.len ≤ 500000 by omega)
    simp only [e1, e2, e3, o1, e4, e5, Option.bind_some]
open Classical in
theorem deep_law (p : Int) (x m : V64) (hx : IsB x) (hm : IsB m) : laws_FnExactDeepRest p x m = some true := by
  have key : ∃ r, spec_DeepRest p x m = some r ∧ impl_DeepRest p x m = some r := by
    have hS := monRangeS m 1 3
    have hI := monRangeI m 1 3
    simp only [spec_DeepRest, impl_DeepRest]
    rw [code_is (by simp [hx, hm]) (by simp), polysCode_is (by simp [hx, hm]) (by simp)]
    simp only [Option.bind_some, List.all_cons, List.all_nil, Bool.and_true, row_is hm, row_is hx]
    rw [hS, hI]
    simp only [Option.bind_some]
    by_cases hok : isP p = true ∧ small p x = true ∧ small p m = true
    · obtain ⟨hp, h1, h2⟩ := hok
      obtain ⟨P, rfl⟩ := pri_of hp
      rw [hp, h1, h2]
      simp only [Bool.and_self, if_true, bne_self_eq_false, Bool.false_eq_true, if_false]
      cases hr : monRange m 1 3
      · exact ⟨(vrep 64 0, 2), by simp, by simp⟩
      · simp only [Bool.not_true, Bool.false_eq_true, if_false]
        unfold monRange at hr
        simp only [Bool.and_eq_true, decide_eq_true_eq] at hr
        have hlm : (ppv m hm h2).len = (row m).length := rfl
        have mo : Mo (ppv m hm h2) := hr.1
        have k1 := irrS (m := ppv m hm h2) (by omega) mo.ne
        rw [ppv_pad] at k1
        have k2 : impl_prime_isIrreducible P.p (row m) = _ := irrI (m := ppv m hm h2) (by omega)
        rw [k1, k2]
        simp only [Option.bind_some]
        by_cases hi : Irr (ppv m hm h2)
        · rw [decide_eq_true hi, decide_eq_true (show Mo (ppv m hm h2) ∧ Irr (ppv m hm h2) from ⟨mo, hi⟩)]
          simp only [Bool.not_true, Bool.false_eq_true, if_false]
          obtain ⟨r, r0, r1, r2⟩ := deep_both (x := ppv x hx h1) (m := ppv m hm h2) ppv_len mo (by omega) (by omega)
          rw [ppv_pad, ppv_pad] at r1
          refine ⟨(pad r.1, 0), r1, ?_⟩
          have ht : impl_told r.1 = some (pad r.1, 0) := told_is (r.2.bytes (by have := P.two; omega)) r0
          have r2' : (Option.bind (impl_prime_combine P.p (row m) ([1]) (-1)) fun r42 => (Option.bind (impl_prime_rest P.p (row x) (row m)) fun r47 => (Option.bind (impl_prime_times P.p (row m) (row m)) fun r49 => (Option.bind (impl_prime_act P.p r42 r47 r49) fun r51 => (Option.bind (impl_prime_divide P.p r51 (row m)) fun r53 => impl_prime_rest P.p r53.1 (row m)))))) = some r.1 := r2
          simp only [Option.bind_eq_some_iff] at r2'
          obtain ⟨v1, q1, v2, q2, v3, q3, v4, q4, v5, q5, q6⟩ := r2'
          simp only [q1, q2, q3, q4, q5, q6, ht, Option.bind_some]
        · rw [decide_eq_false hi, decide_eq_false (show ¬ (Mo (ppv m hm h2) ∧ Irr (ppv m hm h2)) from fun h => hi h.2)]
          exact ⟨_, rfl, rfl⟩
    · have h : (isP p && (small p x && small p m)) = false := by
        cases h1 : isP p <;> cases h2 : small p x <;> cases h3 : small p m <;> simp_all
      rw [h]
      exact ⟨(vrep 64 0, 1), by simp, by simp⟩
  obtain ⟨r, k1, k2⟩ := key
  simp only [laws_FnExactDeepRest, toPoly_is, k1, k2, Option.bind_some, eqPoly_is]
  simp
end Go.Proofs.Ytdhcpekngpndnaa
