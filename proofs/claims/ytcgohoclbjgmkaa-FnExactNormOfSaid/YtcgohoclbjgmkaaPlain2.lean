/- Own texts, put together. -/
import Derived.Test.YtcgohoclbjgmkaaPlain1
set_option linter.unusedSimpArgs false
set_option linter.unusedVariables false
/- Drinfeld modules, in the program and in the reference. -/
namespace Go.Proofs.Ytcgohoclbjgmkaa
open Go.Abs
abbrev Drin := Int × V64 × V64 × V64
structure DrB (d : Drin) : Prop where
  m : IsB d.2.1
  g : IsB d.2.2.1
  e : IsB d.2.2.2
theorem toDrinfeld_is (d : Drin) : laws_toDrinfeld d = some d := by
  simp only [laws_toDrinfeld, toPoly_is, Option.bind_some]
/-- Is it a module? -/
noncomputable def drin (d : Drin) : Bool := fld d.1 d.2.1 && (resi d.1 d.2.1 d.2.2.1 && (resi d.1 d.2.1 d.2.2.2 && !decide (d.2.2.2 = vrep 64 0)))
theorem drinI {d : Drin} (h : DrB d) : impl_IsDrinfeld d = some (drin d) := by
  obtain ⟨p, m, g, e⟩ := d
  simp only [impl_IsDrinfeld, fieldI p h.m, fieldOf_is h.m, resiI h.g, resiI h.e, Option.bind_some, drin]
  cases fld p m
  · rfl
  · cases resi p m g
    · rfl
    · cases resi p m e <;> rfl
theorem drinS {d : Drin} (h : DrB d) : spec_l06Is d = some (drin d) := by
  obtain ⟨p, m, g, e⟩ := d
  have hm : IsB m := h.m
  have hg : IsB g := h.g
  have he : IsB e := h.e
  have hf := fieldS p hm
  simp only [spec_l03Field, is_is hm, Option.bind_some] at hf
  simp only [spec_l06Is, drin]
  rw [code_is (by simp [hm, hg, he]) (by simp)]
  simp only [Option.bind_some, List.all_cons, List.all_nil, Bool.and_true]
  cases hp : isP p
  · rw [fld_no (by simp [hp])]; simp
  · cases hs : small p m
    · rw [fld_no (by simp [hs])]; simp
    · cases hs2 : small p g
      · simp [resi, hs2]
      · cases hs3 : small p e
        · simp [resi, hs3]
        · rw [hs, hp] at hf
          simp only [monicS_is, Bool.and_self, if_true, Option.bind_some] at hf ⊢
          cases hmo : decide (lead (row m) = 1)
          · rw [hmo] at hf
            simp only [Bool.false_eq_true, if_false, Option.some.injEq] at hf
            rw [← hf]; rfl
          · rw [hmo] at hf
            simp only [if_true, degS_row, inS_is, Option.bind_some] at hf ⊢
            simp only [resi, hs2, hs3, Bool.true_and, bne_self_eq_false, Bool.false_eq_true, if_false, Option.bind_some, Bool.not_true]
            cases h2 : decide (1 ≤ ((row m).length : Int) - 1 ∧ ((row m).length : Int) - 1 ≤ 4)
            · rw [h2] at hf
              simp only [Bool.false_eq_true, if_false, Option.some.injEq] at hf ⊢
              rw [← hf]; rfl
            · rw [h2] at hf
              simp only [if_true] at hf ⊢
              cases h3 : spec_l01Irreducible p m with
              | none => rw [h3] at hf; cases hf
              | some b =>
                rw [h3] at hf
                simp only [Option.bind_some, Option.some.injEq] at hf ⊢
                rw [← hf]
                cases b
                · rfl
                · simp only [if_true, Bool.true_and]
                  by_cases l1 : (row g).length < (row m).length
                  · rw [if_pos (decide_eq_true (by omega)), decide_eq_true l1]
                    by_cases l2 : (row e).length < (row m).length
                    · rw [if_pos (decide_eq_true (by omega)), decide_eq_true l2]; rfl
                    · rw [if_neg (by rw [decide_eq_true_eq]; omega), decide_eq_false l2]; rfl
                  · rw [if_neg (by rw [decide_eq_true_eq]; omega), decide_eq_false l1]; rfl
end Go.Proofs.Ytcgohoclbjgmkaa
/- Loops that look for an element. -/
namespace Go.Abs
theorem any_loop {α β : Type} [Inhabited α] {l : List α} (b : α → Bool) (v : Nat → β) {body : Int → Option (Int ⊕ (Unit ⊕ β))} (h1 : ∀ i : Nat, i < l.length → body (i : Int) = some (if b (rd l i) then .inr (.inr (v i)) else .inl ((i + 1 : Nat) : Int))) (h2 : body (l.length : Int) = some (.inr (.inl ()))) :
    ∃ r, loopM body 0 = some r ∧ ((r = .inl () ∧ l.any b = false) ∨ (∃ i, r = .inr (v i) ∧ l.any b = true)) := by
  have key : ∀ (m i : Nat), i + m = l.length → (l.take i).any b = false → ∃ r, loopM body (i : Int) = some r ∧ ((r = .inl () ∧ l.any b = false) ∨ (∃ i, r = .inr (v i) ∧ l.any b = true)) := by
    intro m
    induction m with
    | zero =>
      intro i hi ha
      have : i = l.length := by omega
      subst this
      rw [List.take_length] at ha
      exact ⟨.inl (), by rw [loopM_eq, h2]; rfl, .inl ⟨rfl, ha⟩⟩
    | succ m ih =>
      intro i hi ha
      have hil : i < l.length := by omega
      have er : rd l i = l[i] := by simp [rd, hil]
      cases e : b (rd l i) with
      | true =>
        refine ⟨.inr (v i), by rw [loopM_eq, h1 i hil, e]; rfl, .inr ⟨i, rfl, ?_⟩⟩
        rw [List.any_eq_true]
        exact ⟨l[i], List.getElem_mem _, by rw [← er]; exact e⟩
      | false =>
        obtain ⟨r, k1, k2⟩ := ih (i + 1) (by omega) (by rw [List.take_succ_eq_append_getElem hil, List.any_append, ha, ← er]; simp [e])
        refine ⟨r, ?_, k2⟩
        rw [loopM_eq, h1 i hil, e]
        exact k1
  exact key l.length 0 (by omega) (by simp)
theorem all_not {α : Type} (l : List α) (b : α → Bool) : l.all b = !(l.any fun x => !b x) := by
  induction l with
  | nil => rfl
  | cons x l ih => simp only [List.all_cons, List.any_cons, ih, Bool.not_or, Bool.not_not]
theorem rd_in {α : Type} [Inhabited α] {l : List α} {i : Nat} (h : i < l.length) : rd l i ∈ l := by
  have : rd l i = l[i] := by simp [rd, h]
  rw [this]; exact List.getElem_mem _
end Go.Abs
/- FnExactNormOf. -/
namespace Go.Proofs.Ytcgohoclbjgmkaa
open Go.Abs
theorem drin_get {d : Drin} (hb : DrB d) (h : drin d = true) : ∃ (P : Pri) (m : PP P), d.1 = P.p ∧ row d.2.1 = m.1 ∧ pad m.1 = d.2.1 ∧ Mo m ∧ Irr m ∧ m.len ≤ 5 := by
  unfold drin at h
  simp only [Bool.and_eq_true] at h
  exact fld_get hb.m h.1
theorem drin_p {d : Drin} (h : drin d = true) : isP d.1 = true := by
  unfold drin at h
  simp only [Bool.and_eq_true] at h
  exact (fld_prime h.1).1
theorem drCodeS {d : Drin} (hb : DrB d) {x : V64} (hx : IsB x) : spec_l06Code d [x] = some (if drin d && small d.1 x then 0 else 1) := by
  simp only [spec_l06Code, drinS hb, Option.bind_some]
  rw [code_is (by simpa using hx) (by simp)]
  simp only [Option.bind_some, List.all_cons, List.all_nil, Bool.and_true]
  cases h : drin d
  · rfl
  · rw [drin_p h]
    cases small d.1 x <;> rfl
theorem drCodeI {d : Drin} (hb : DrB d) {x : V64} (hx : IsB x) : impl_drinfeldCode d [x] = some (if drin d && small d.1 x then 0 else 1) := by
  obtain ⟨r, h1, h2⟩ := any_loop (l := [x]) (fun a => !small d.1 a) (fun i => (i : Int)) (body := fun s : Int => slices_IndexFunc_impl_Poly_impl_Poly_of_impl_areAll_impl_Poly__c1_p_drinfeldCode_c1_l1 [x] d s) (fun i hi => by
    have hi0 : i = 0 := by simpa using hi
    subst hi0
    have e : rd [x] 0 = x := rfl
    simp only [slices_IndexFunc_impl_Poly_impl_Poly_of_impl_areAll_impl_Poly__c1_p_drinfeldCode_c1_l1, impl_areAll_impl_Poly__c1_of_p_drinfeldCode_c1, impl_drinfeldCode_c1_of_p, Int.toNat_natCast, e, isPoly_is hx, Option.bind_some]
    rw [if_pos (by simp), ifp_pos (by simp), wrap64 (by omega) (by omega)]
    cases small d.1 x <;> rfl) (by
    simp [slices_IndexFunc_impl_Poly_impl_Poly_of_impl_areAll_impl_Poly__c1_p_drinfeldCode_c1_l1])
  have e : impl_areAll_impl_Poly_of_impl_drinfeldCode_c1_p [x] d = some (small d.1 x) := by
    simp only [impl_areAll_impl_Poly_of_impl_drinfeldCode_c1_p, slices_ContainsFunc_impl_Poly_impl_Poly_of_impl_areAll_impl_Poly__c1_p_drinfeldCode_c1, slices_IndexFunc_impl_Poly_impl_Poly_of_impl_areAll_impl_Poly__c1_p_drinfeldCode_c1, h1, Option.bind_some]
    rcases h2 with ⟨rfl, h⟩ | ⟨i, rfl, h⟩
    · simp only [List.any_cons, List.any_nil, Bool.or_false] at h
      cases hs : small d.1 x
      · rw [hs] at h; cases h
      · rfl
    · simp only [List.any_cons, List.any_nil, Bool.or_false] at h
      cases hs : small d.1 x
      · simp
      · rw [hs] at h; cases h
  simp only [impl_drinfeldCode, drinI hb, e, Option.bind_some]
  cases drin d <;> cases small d.1 x <;> rfl

section
variable {P : Pri} {m : PP P} (hm : m ≠ 0) (lm : m.len ≤ 64)
include hm lm
theorem up_loop {d : Drin} (hd : d.1 = P.p) (hdm : d.2.1 = pad m.1) : ∀ (k : Nat) (a : PP P), k ≤ 1000 → a.len < m.len → loopM (fun s : Int × V64 => spec_l06Up_l1 d s.1 s.2) ((k : Int), pad a.1) = some (pad (prem (pw a (P.n ^ k)) m).1)
  | 0, a, _, la => by
    have step : spec_l06Up_l1 d ((0 : Nat) : Int) (pad a.1) = some (.inr (pad a.1)) := by
      simp [spec_l06Up_l1]
    rw [loopM_eq]
    simp only [step, Option.bind_some]
    have e : pw a (P.n ^ 0) = a := by rw [Nat.pow_zero]; simp only [pw]; rw [ppring.one_mul]
    rw [e, prem_small la]
  | k + 1, a, hk, la => by
    have e1 := powmodS (a := a) hm lm (by omega) (k := P.n) (by have := P.is; omega)
    have e1' : spec_l01PowMod P.p (pad a.1) P.p (pad m.1) = some (pad (prem (pw a P.n) m).1) := e1
    have step : spec_l06Up_l1 d ((k + 1 : Nat) : Int) (pad a.1) = some (.inl ((k : Int), pad (prem (pw a P.n) m).1)) := by
      simp only [spec_l06Up_l1, hd, hdm, e1', Option.bind_some]
      rw [if_pos (decide_eq_true (by omega)), wrap64 (by omega) (by omega)]
      congr 3; omega
    rw [loopM_eq]
    simp only [step, Option.bind_some]
    rw [up_loop hd hdm k _ (by omega) (prem_len _ hm), prem_pw _ hm, ← ppring.pw_mul, Nat.pow_succ, Nat.mul_comm]
/-- The powers by p^0, p^1, .., multiplied. -/
def nrm (m x : PP P) : Nat → PP P
  | 0 => prem 1 m
  | i + 1 => prem (nrm m x i * prem (pw x (P.n ^ i)) m) m
omit lm in
theorem nrm_len (x : PP P) : ∀ i, (nrm m x i).len < m.len
  | 0 => prem_len _ hm
  | _ + 1 => prem_len _ hm
theorem normS_loop {d : Drin} (hd : d.1 = P.p) (hdm : d.2.1 = pad m.1) {x : PP P} (lx : x.len < m.len) (h1 : nrm m x 0 = 1) : ∀ (k i : Nat), i + k = m.len - 1 → loopM (fun s : Int × V64 => spec_l06Norm_l1 d (pad x.1) s.1 s.2) ((i : Int), pad (nrm m x i).1) = some (pad (nrm m x (m.len - 1)).1)
  | 0, i, h => by
    have hi : i = m.len - 1 := by omega
    have step : spec_l06Norm_l1 d (pad x.1) (i : Int) (pad (nrm m x i).1) = some (.inr (pad (nrm m x i).1)) := by
      simp only [spec_l06Norm_l1, hdm, degS m lm, Option.bind_some]
      rw [if_neg (by rw [decide_eq_true_eq]; omega)]
    rw [loopM_eq]
    simp only [step, Option.bind_some]
    rw [← hi]
  | k + 1, i, h => by
    have ln := nrm_len hm x i
    have l2 := prem_len (pw x (P.n ^ i)) hm
    have e1 : spec_l06Up d (pad x.1) (i : Int) = some (pad (prem (pw x (P.n ^ i)) m).1) := by
      simp only [spec_l06Up, up_loop hm lm hd hdm i x (by omega) lx, Option.bind_some]
    have e2 : spec_l06Times d (pad (nrm m x i).1) (pad (prem (pw x (P.n ^ i)) m).1) = some (pad (nrm m x (i + 1)).1) := by
      simp only [spec_l06Times, hd, hdm, mulmodS hm lm (show (nrm m x i).len ≤ 64 by omega) (show (prem (pw x (P.n ^ i)) m).len ≤ 64 by omega), Option.bind_some]
      rfl
    have step : spec_l06Norm_l1 d (pad x.1) (i : Int) (pad (nrm m x i).1) = some (.inl (((i + 1 : Nat) : Int), pad (nrm m x (i + 1)).1)) := by
      simp only [spec_l06Norm_l1, hdm, degS m lm, Option.bind_some]
      rw [if_pos (decide_eq_true (by omega)), e1]
      simp only [Option.bind_some, e2]
      rw [wrap64 (by omega) (by omega)]; rfl
    rw [loopM_eq]
    simp only [step, Option.bind_some]
    exact normS_loop hd hdm lx h1 k (i + 1) (by omega)
omit lm in
theorem frob1 (lm2 : m.len ≤ 500) {y : PP P} (ly : y.len ≤ 500) (h2 : 3 ≤ m.len) : impl_field_frobenius (P.p, m.1) y.1 1 = some (prem (pw y P.n) m).1 := by
  have hd := degI m (show m.len ≤ 1000000 by omega)
  have e1 : impl_prime_power P.p y.1 P.p m.1 = some (prem (pw y P.n) m).1 := powI_is y hm (by omega) (by omega) (k := P.n) (by have := P.is; omega)
  have et : Int.tmod 1 ((m.len : Int) - 1) = 1 := by rw [Int.tmod_eq_emod_of_nonneg (by omega), Int.emod_eq_of_lt (by omega) (by omega)]
  have s0 : impl_field_frobenius_l1 1 ((m.len : Int) - 1) (P.p, m.1) y.1 0 = some (.inl ((prem (pw y P.n) m).1, 1)) := by
    simp only [impl_field_frobenius_l1, et, e1, Option.bind_some]
    rw [if_pos (by simp), wrap64 (by omega) (by omega)]; rfl
  have s1 : impl_field_frobenius_l1 1 ((m.len : Int) - 1) (P.p, m.1) (prem (pw y P.n) m).1 1 = some (.inr (prem (pw y P.n) m).1) := by
    simp only [impl_field_frobenius_l1, et]
    rw [if_neg (by simp)]
  simp only [impl_field_frobenius, hd, Option.bind_some]
  rw [ifp_pos (by omega), loopM_eq]
  simp only [s0, Option.bind_some]
  rw [loopM_eq]
  simp only [s1, Option.bind_some]
omit lm in
theorem normI_loop (lm2 : m.len ≤ 64) {x : PP P} : ∀ (k i : Nat) (y : PP P), i + k = m.len - 1 → y.len < m.len → prem y m = prem (pw x (P.n ^ i)) m → loopM (fun s : List Int × List Int × Int => impl_field_normOf_l1 ((m.len : Int) - 1) (P.p, m.1) s.1 s.2.1 s.2.2) (y.1, (nrm m x i).1, (i : Int)) = some (nrm m x (m.len - 1)).1
  | 0, i, y, h, _, _ => by
    have hi : i = m.len - 1 := by omega
    have step : impl_field_normOf_l1 ((m.len : Int) - 1) (P.p, m.1) y.1 (nrm m x i).1 (i : Int) = some (.inr (nrm m x i).1) := by
      simp only [impl_field_normOf_l1]
      rw [if_neg (by rw [decide_eq_true_eq]; omega)]
    rw [loopM_eq]
    simp only [step, Option.bind_some]
    rw [← hi]
  | k + 1, i, y, h, ly, hy => by
    have ln := nrm_len hm x i
    have ey : y = prem (pw x (P.n ^ i)) m := by rw [← hy, prem_small ly]
    have lmul : (nrm m x i * y).len ≤ 500000 := by
      have : (nrm m x i * y).len ≤ (nrm m x i).len + y.len - 1 := mul_len _ _ _
      omega
    have e1 : impl_field_product (P.p, m.1) (nrm m x i).1 y.1 = some (nrm m x (i + 1)).1 := by
      simp only [impl_field_product, timesI (show (nrm m x i).len ≤ 500000 by omega) (show y.len ≤ 500000 by omega), restI hm lmul (show m.len ≤ 500000 by omega), Option.bind_some, nrm]
      rw [← ey]
    by_cases hk : k = 0
    · -- the last round: what the Frobenius gives is not looked at
      subst hk
      obtain ⟨z, hz⟩ : ∃ z, impl_field_frobenius (P.p, m.1) y.1 1 = some z := by
        by_cases h3 : 3 ≤ m.len
        · exact ⟨_, frob1 hm (by omega) (by omega) h3⟩
        · have h2 : m.len = 2 := by omega
          refine ⟨y.1, ?_⟩
          have s0 : impl_field_frobenius_l1 1 ((m.len : Int) - 1) (P.p, m.1) y.1 0 = some (.inr y.1) := by
            simp only [impl_field_frobenius_l1]
            rw [if_neg (by rw [h2]; simp)]
          simp only [impl_field_frobenius, degI m (show m.len ≤ 1000000 by omega), Option.bind_some]
          rw [ifp_pos (by omega), loopM_eq]
          simp only [s0, Option.bind_some]
      have step : impl_field_normOf_l1 ((m.len : Int) - 1) (P.p, m.1) y.1 (nrm m x i).1 (i : Int) = some (.inl (z, (nrm m x (i + 1)).1, ((i + 1 : Nat) : Int))) := by
        simp only [impl_field_normOf_l1, e1, hz, Option.bind_some]
        rw [if_pos (decide_eq_true (by omega)), wrap64 (by omega) (by omega)]; rfl
      have step2 : impl_field_normOf_l1 ((m.len : Int) - 1) (P.p, m.1) z (nrm m x (i + 1)).1 ((i + 1 : Nat) : Int) = some (.inr (nrm m x (i + 1)).1) := by
        simp only [impl_field_normOf_l1]
        rw [if_neg (by rw [decide_eq_true_eq]; omega)]
      rw [loopM_eq]
      simp only [step, Option.bind_some]
      rw [loopM_eq]
      simp only [step2, Option.bind_some]
      rw [show i + 1 = m.len - 1 by omega]
    · have e2 := frob1 hm (show m.len ≤ 500 by omega) (show y.len ≤ 500 by omega) (by omega)
      have step : impl_field_normOf_l1 ((m.len : Int) - 1) (P.p, m.1) y.1 (nrm m x i).1 (i : Int) = some (.inl ((prem (pw y P.n) m).1, (nrm m x (i + 1)).1, ((i + 1 : Nat) : Int))) := by
        simp only [impl_field_normOf_l1, e1, e2, Option.bind_some]
        rw [if_pos (decide_eq_true (by omega)), wrap64 (by omega) (by omega)]; rfl
      rw [loopM_eq]
      simp only [step, Option.bind_some]
      refine normI_loop lm2 k (i + 1) _ (by omega) (prem_len _ hm) ?_
      rw [prem_small (prem_len _ hm), ey, prem_pw _ hm, ← ppring.pw_mul, ← Nat.pow_succ]
end
theorem norm_both {P : Pri} {m x : PP P} (h2 : 2 ≤ m.len) (lm : m.len ≤ 64) (lx : x.len < m.len) {d : Drin} (hd : d.1 = P.p) (hdm : d.2.1 = pad m.1) :
    ∃ r, spec_l06Norm d (pad x.1) = some r ∧ impl_field_normOf (P.p, m.1) x.1 = some r := by
  have hm : m ≠ 0 := fun e => by rw [len_zero.2 e] at h2; omega
  have hp := P.two
  have h1 : nrm m x 0 = 1 := prem_small (by rw [len_one]; omega)
  have ln := nrm_len hm x (m.len - 1)
  have hc := (nrm m x (m.len - 1)).c_res 0
  have k1 := normS_loop hm lm hd hdm lx h1 (m.len - 1) 0 (by omega)
  have k2 := normI_loop hm lm (x := x) (m.len - 1) 0 x (by omega) lx (by rw [Nat.pow_zero]; simp only [pw]; rw [ppring.one_mul])
  rw [h1] at k1 k2
  have k1' : loopM (fun s : Int × V64 => spec_l06Norm_l1 d (pad x.1) s.1 s.2) (0, pad [1]) = some (pad (nrm m x (m.len - 1)).1) := k1
  have k2' : loopM (fun s : List Int × List Int × Int => impl_field_normOf_l1 ((m.len : Int) - 1) (P.p, m.1) s.1 s.2.1 s.2.2) (x.1, [1], 0) = some (nrm m x (m.len - 1)).1 := k2
  refine ⟨(nrm m x (m.len - 1)).c 0, ?_, ?_⟩
  · simp only [spec_l06Norm, one_is, k1', Option.bind_some]
    have e : rd (pad (nrm m x (m.len - 1)).1).1 (0 : Int).toNat = (nrm m x (m.len - 1)).c 0 := rd_padl _ (by decide)
    rw [ifp_pos (by omega), e, wrap64 (by omega) (by omega)]
  · simp only [impl_field_normOf, degI m (show m.len ≤ 1000000 by omega), k2', Option.bind_some, impl_row_at]
    by_cases h0 : (nrm m x (m.len - 1)).1.length = 0
    · have : (nrm m x (m.len - 1)).c 0 = 0 := rd_ge (by omega)
      rw [if_neg (by rw [decide_eq_true_eq]; omega), this]; rfl
    · rw [if_pos (decide_eq_true (by omega)), ifp_pos (by omega)]; rfl
theorem norm_law (d : Drin) (x : V64) (h1 : IsB d.2.1) (h2 : IsB d.2.2.1) (h3 : IsB d.2.2.2) (hx : IsB x) : laws_FnExactNormOf d x = some true := by
  have hb : DrB d := ⟨h1, h2, h3⟩
  have key : ∃ r, spec_NormOf d x = some r ∧ impl_NormOf d x = some r := by
    simp only [spec_NormOf, impl_NormOf, impl_Drinfeld_field, drCodeS hb hx, drCodeI hb hx, Option.bind_some, fieldOf_is hb.m, row_is hx, degS_row, resiI hx]
    cases hdr : drin d && small d.1 x
    · exact ⟨(0, 1), by simp, by simp⟩
    · simp only [Bool.and_eq_true] at hdr
      obtain ⟨hd, hs⟩ := hdr
      obtain ⟨P, m, e1, e2, e3, mo, hi, lm⟩ := drin_get hb hd
      simp only [if_true, bne_self_eq_false, Bool.false_eq_true, if_false, resi, hs, Bool.true_and]
      by_cases hl : (row x).length < (row d.2.1).length
      · rw [if_neg (by rw [decide_eq_true_eq]; omega), decide_eq_true hl]
        simp only [Bool.not_true, Bool.false_eq_true, if_false]
        have hsx : small P.p x = true := by rw [← e1]; exact hs
        have hlx : (ppv x hx hsx).len < m.len := by
          show (row x).length < m.1.length
          rw [← e2]; exact hl
        obtain ⟨r, k1, k2⟩ := norm_both hi.1 (by omega) hlx e1 e3.symm
        rw [ppv_pad] at k1
        have k2' : impl_field_normOf (P.p, m.1) (row x) = some r := k2
        rw [e1, e2, k1, k2']
        exact ⟨_, rfl, rfl⟩
      · rw [if_pos (decide_eq_true (by omega)), decide_eq_false hl]
        exact ⟨_, rfl, rfl⟩
  obtain ⟨r, k1, k2⟩ := key
  simp only [laws_FnExactNormOf, toDrinfeld_is, toPoly_is, k1, k2, Option.bind_some]
  simp
end Go.Proofs.Ytcgohoclbjgmkaa
