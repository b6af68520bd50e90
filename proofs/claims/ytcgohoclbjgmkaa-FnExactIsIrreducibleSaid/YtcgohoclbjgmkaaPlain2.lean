/- Own texts, put together. -/
import Derived.Test.YtcgohoclbjgmkaaPlain1
import Derived.Test.YtcgohoclbjgmkaaFn1
import Derived.Test.YtcgohoclbjgmkaaFn2
import Derived.Test.YtcgohoclbjgmkaaFn3
import Derived.Test.YtcgohoclbjgmkaaFn4
import Derived.Test.YtcgohoclbjgmkaaFn5
import Derived.Test.YtcgohoclbjgmkaaFn6
set_option linter.unusedSimpArgs false
set_option linter.unusedVariables false
/- A copy of a polynomial. -/
namespace Go.Proofs.Ytcgohoclbjgmkaa
open Go.Abs

theorem toPoly_loop (a : V64) : ∀ s : Int × V64, (∃ i : Nat, s.1 = i ∧ i ≤ 64 ∧ ∀ j, j < i → rd s.2.1 j = rd a.1 j) → ∃ r, loopM (fun s : Int × V64 => laws_toPoly_l1 a s.1 s.2) s = some r ∧ r = a := by
  refine loopM_ind (fun (s : Int × V64) => ∃ i : Nat, s.1 = i ∧ i ≤ 64 ∧ ∀ j, j < i → rd s.2.1 j = rd a.1 j) (fun (s : Int × V64) (r : V64) => r = a) (fun (s : Int × V64) => 64 - s.1.toNat) ?_
  rintro ⟨x, v⟩ ⟨i, hx, hi, hv⟩
  simp only at hx hv
  subst hx
  by_cases h : i = 64
  · right
    subst h
    exact ⟨v, by simp [laws_toPoly_l1], vec_ext hv⟩
  · left
    refine ⟨(((i + 1 : Nat) : Int), vset v i (rd a.1 i)), ?_, ⟨i + 1, rfl, by omega, fun j hj => ?_⟩, by simp; omega, fun r hr => hr⟩
    · simp only [laws_toPoly_l1]
      rw [if_pos (by simp; omega), ifp_pos (by omega), ifp_pos (by omega), wrap64 (by omega) (by omega)]
      simp
    · rw [rd_vset _ _ _ _ (by omega)]
      by_cases e : j = i
      · rw [if_pos e, e]
      · rw [if_neg e]; exact hv j (by omega)

theorem toPoly_is (a : V64) : laws_toPoly a = some a := by
  obtain ⟨r, h1, h2⟩ := toPoly_loop a (0, vrep 64 0) ⟨0, rfl, by omega, fun j hj => by omega⟩
  simp only [laws_toPoly, h1, h2, Option.bind_some]
end Go.Proofs.Ytcgohoclbjgmkaa
/- FnExactIsIrreducible. -/
namespace Go.Proofs.Ytcgohoclbjgmkaa
open Go.Abs
open Classical in
theorem isIrr_law (p : Int) (v : V64) (hb : IsB v) : laws_FnExactIsIrreducible p v = some true := by
  have key : ∃ r, spec_IsIrreducible p v = some r ∧ impl_IsIrreducible p v = some r := by
    simp only [spec_IsIrreducible, impl_IsIrreducible, spec_l02Degree, impl_degreeCode]
    rw [code_is (by simpa using hb) (by simp), polysCode_is (by simpa using hb) (by simp)]
    simp only [Option.bind_some, List.all_cons, List.all_nil, Bool.and_true]
    by_cases hok : isP p = true ∧ small p v = true
    · obtain ⟨hp, hs⟩ := hok
      obtain ⟨P, rfl⟩ := pri_of hp
      have hd : spec_l01Deg v = some (((ppv v hb hs).len : Int) - 1) := degS_row v
      have hd2 : impl_row_degree (row v) = some (((ppv v hb hs).len : Int) - 1) := degI_row v
      have hl := ppv_len (hb := hb) (hs := hs)
      simp only [hp, hs, Bool.and_self, if_true, bne_self_eq_false, Bool.false_eq_true, if_false, hd, hd2, row_is hb, Option.bind_some, inS_is, within_is]
      by_cases h2 : (ppv v hb hs).len ≤ 13
      · have e1 : decide (-1 ≤ ((ppv v hb hs).len : Int) - 1 ∧ ((ppv v hb hs).len : Int) - 1 ≤ 12) = true := decide_eq_true (by omega)
        simp only [e1, Bool.not_true, Bool.false_eq_true, if_false, Option.bind_some, bne_self_eq_false, monicS_is v]
        have h3 := irrI (m := ppv v hb hs) h2
        have h3' : impl_prime_isIrreducible P.p (row v) = _ := h3
        rw [h3']
        by_cases h1 : Mo (ppv v hb hs)
        · rw [decide_eq_true (show lead (row v) = 1 from h1)]
          have h4 := irrS (m := ppv v hb hs) (by omega) h1.ne
          rw [ppv_pad] at h4
          rw [h4]
          refine ⟨_, rfl, ?_⟩
          simp only [Option.bind_some]
          congr 2
          rw [decide_eq_decide]
          exact ⟨fun h => h.2, fun h => ⟨h1, h⟩⟩
        · rw [decide_eq_false (show ¬ lead (row v) = 1 from h1), decide_eq_false (fun h => h1 h.1)]
          exact ⟨_, rfl, rfl⟩
      · have e1 : decide (-1 ≤ ((ppv v hb hs).len : Int) - 1 ∧ ((ppv v hb hs).len : Int) - 1 ≤ 12) = false := decide_eq_false (by omega)
        simp only [e1]
        exact ⟨_, rfl, rfl⟩
    · have h : (isP p && small p v) = false := by
        cases h1 : isP p <;> cases h2 : small p v <;> simp_all
      rw [h]
      exact ⟨(false, 1), by simp, by simp⟩
  obtain ⟨r, h1, h2⟩ := key
  simp only [laws_FnExactIsIrreducible, toPoly_is, h1, h2, Option.bind_some]
  simp
end Go.Proofs.Ytcgohoclbjgmkaa
