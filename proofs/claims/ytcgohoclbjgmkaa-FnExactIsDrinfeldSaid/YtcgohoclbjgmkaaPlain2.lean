/- Own texts, put together. -/
import Derived.Test.YtcgohoclbjgmkaaPlain1
set_option linter.unusedSimpArgs false
set_option linter.unusedVariables false
/- Drinfeld modules, in the program and in the reference. -/
namespace Go.Proofs.Ytcgohoclbjgmkaa
open Go.Abs
abbrev Drin := Int × V64 × V64 × V64
structure DrB (d : Drin) : Prop where
  m : IsB d.2.1
  g : IsB d.2.2.1
  e : IsB d.2.2.2
theorem toDrinfeld_is (d : Drin) : laws_toDrinfeld d = some d := by
  simp only [laws_toDrinfeld, toPoly_is, Option.bind_some]
/-- Is it a module? -/
noncomputable def drin (d : Drin) : Bool := fld d.1 d.2.1 && (resi d.1 d.2.1 d.2.2.1 && (resi d.1 d.2.1 d.2.2.2 && !decide (d.2.2.2 = vrep 64 0)))
theorem drinI {d : Drin} (h : DrB d) : impl_IsDrinfeld d = some (drin d) := by
  obtain ⟨p, m, g, e⟩ := d
  simp only [impl_IsDrinfeld, fieldI p h.m, fieldOf_is h.m, resiI h.g, resiI h.e, Option.bind_some, drin]
  cases fld p m
  · rfl
  · cases resi p m g
    · rfl
    · cases resi p m e <;> rfl
theorem drinS {d : Drin} (h : DrB d) : spec_l06Is d = some (drin d) := by
  obtain ⟨p, m, g, e⟩ := d
  have hm : IsB m := h.m
  have hg : IsB g := h.g
  have he : IsB e := h.e
  have hf := fieldS p hm
  simp only [spec_l03Field, is_is hm, Option.bind_some] at hf
  simp only [spec_l06Is, drin]
  rw [code_is (by simp [hm, hg, he]) (by simp)]
  simp only [Option.bind_some, List.all_cons, List.all_nil, Bool.and_true]
  cases hp : isP p
  · rw [fld_no (by simp [hp])]; simp
  · cases hs : small p m
    · rw [fld_no (by simp [hs])]; simp
    · cases hs2 : small p g
      · simp [resi, hs2]
      · cases hs3 : small p e
        · simp [resi, hs3]
        · rw [hs, hp] at hf
          simp only [monicS_is, Bool.and_self, if_true, Option.bind_some] at hf ⊢
          cases hmo : decide (lead (row m) = 1)
          · rw [hmo] at hf
            simp only [Bool.false_eq_true, if_false, Option.some.injEq] at hf
            rw [← hf]; rfl
          · rw [hmo] at hf
            simp only [if_true, degS_row, inS_is, Option.bind_some] at hf ⊢
            simp only [resi, hs2, hs3, Bool.true_and, bne_self_eq_false, Bool.false_eq_true, if_false, Option.bind_some, Bool.not_true]
            cases h2 : decide (1 ≤ ((row m).length : Int) - 1 ∧ ((row m).length : Int) - 1 ≤ 4)
            · rw [h2] at hf
              simp only [Bool.false_eq_true, if_false, Option.some.injEq] at hf ⊢
              rw [← hf]; rfl
            · rw [h2] at hf
              simp only [if_true] at hf ⊢
              cases h3 : spec_l01Irreducible p m with
              | none => rw [h3] at hf; cases hf
              | some b =>
                rw [h3] at hf
                simp only [Option.bind_some, Option.some.injEq] at hf ⊢
                rw [← hf]
                cases b
                · rfl
                · simp only [if_true, Bool.true_and]
                  by_cases l1 : (row g).length < (row m).length
                  · rw [if_pos (decide_eq_true (by omega)), decide_eq_true l1]
                    by_cases l2 : (row e).length < (row m).length
                    · rw [if_pos (decide_eq_true (by omega)), decide_eq_true l2]; rfl
                    · rw [if_neg (by rw [decide_eq_true_eq]; omega), decide_eq_false l2]; rfl
                  · rw [if_neg (by rw [decide_eq_true_eq]; omega), decide_eq_false l1]; rfl
end Go.Proofs.Ytcgohoclbjgmkaa
/- FnExactIsDrinfeld. -/
namespace Go.Proofs.Ytcgohoclbjgmkaa
open Go.Abs
theorem isDrinfeld_law (d : Drin) (h1 : IsB d.2.1) (h2 : IsB d.2.2.1) (h3 : IsB d.2.2.2) : laws_FnExactIsDrinfeld d = some true := by
  have h : DrB d := ⟨h1, h2, h3⟩
  simp only [laws_FnExactIsDrinfeld, toDrinfeld_is, spec_IsDrinfeld, drinS h, drinI h, Option.bind_some]
  simp
end Go.Proofs.Ytcgohoclbjgmkaa
