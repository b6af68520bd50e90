/- Polynomials: copies, degrees, trimmed rows, and which are allowed. -/
import Derived.Test.YtacebpbhddkelaaNum
import Derived.Test.YtacebpbhddkelaaFnB
namespace Go.Proofs.Ytacebpbhddkelaa
open Go.Abs

def IsB (v : V64) : Prop := ∀ d ∈ v.1, 0 ≤ d ∧ d < 256
theorem IsB.rd {v : V64} (h : IsB v) {j : Nat} (hj : j < 64) : 0 ≤ rd v.1 j ∧ rd v.1 j < 256 := by
  have hl : j < v.1.length := by rw [v.2]; exact hj
  have : Abs.rd v.1 j = v.1[j] := by simp [Abs.rd, hl]
  rw [this]; exact h _ (List.getElem_mem _)

/-! A copy. -/
theorem toPoly_loop (a : V64) : ∀ s : Int × V64, (∃ i : Nat, s.1 = i ∧ i ≤ 64 ∧ ∀ j, j < i → rd s.2.1 j = rd a.1 j) → ∃ r, loopM (fun s : Int × V64 => laws_toPoly_l1 a s.1 s.2) s = some r ∧ r = a := by
  refine loopM_ind (fun (s : Int × V64) => ∃ i : Nat, s.1 = i ∧ i ≤ 64 ∧ ∀ j, j < i → rd s.2.1 j = rd a.1 j) (fun (s : Int × V64) (r : V64) => r = a) (fun (s : Int × V64) => 64 - s.1.toNat) ?_
  rintro ⟨x, v⟩ ⟨i, hx, hi, hv⟩
  simp only at hx hv
  subst hx
  by_cases h : i = 64
  · right
    subst h
    exact ⟨v, by simp [laws_toPoly_l1], vec_ext hv⟩
  · left
    refine ⟨(((i + 1 : Nat) : Int), vset v i (rd a.1 i)), ?_, ⟨i + 1, rfl, by omega, fun j hj => ?_⟩, by simp; omega, fun r hr => hr⟩
    · simp only [laws_toPoly_l1]
      rw [if_pos (by simp; omega), ifp_pos (by omega), ifp_pos (by omega), wrap64 (by omega) (by omega)]
      simp
    · rw [rd_vset _ _ _ _ (by omega)]
      by_cases e : j = i
      · rw [if_pos e, e]
      · rw [if_neg e]; exact hv j (by omega)
theorem toPoly_is (a : V64) : laws_toPoly a = some a := by
  obtain ⟨r, h1, h2⟩ := toPoly_loop a (0, vrep 64 0) ⟨0, rfl, by omega, fun j hj => by omega⟩
  simp only [laws_toPoly, h1, h2, Option.bind_some]
theorem toDesk_is (a : Int × V64 × V64 × V64) : laws_toDesk a = some a := by
  simp only [laws_toDesk, toPoly_is, Option.bind_some]

/-! How far a row reaches. -/
def top (g : Nat → Int) : Nat → Nat
  | 0 => 0
  | n + 1 => if g n = 0 then top g n else n + 1
theorem top_le (g : Nat → Int) : ∀ n, top g n ≤ n
  | 0 => Nat.le_refl _
  | n + 1 => by simp only [top]; split; exact Nat.le_succ_of_le (top_le g n); exact Nat.le_refl _

theorem deg_loop (a : V64) : ∀ s : Int, (∃ i : Nat, s = (i : Int) - 1 ∧ i ≤ 64) → ∃ r, loopM (fun s : Int => spec_l01Deg_l1 a s) s = some r ∧ ∀ i : Nat, s = (i : Int) - 1 → r = (top (rd a.1) i : Int) - 1 := by
  refine loopM_ind (fun (s : Int) => ∃ i : Nat, s = (i : Int) - 1 ∧ i ≤ 64) (fun (s : Int) (r : Int) => ∀ i : Nat, s = (i : Int) - 1 → r = (top (rd a.1) i : Int) - 1) (fun s => (s + 1).toNat) ?_
  rintro s ⟨i, rfl, hi⟩
  match i with
  | 0 =>
    right
    refine ⟨-1, by simp [spec_l01Deg_l1], fun k hk => ?_⟩
    have : k = 0 := by omega
    subst this; simp [top]
  | i + 1 =>
    have e1 : ((i + 1 : Nat) : Int) - 1 = (i : Int) := by omega
    rw [e1]
    by_cases e : rd a.1 i = 0
    · left
      refine ⟨(i : Int) - 1, ?_, ⟨i, rfl, by omega⟩, by omega, fun r hr k hk => ?_⟩
      · simp only [spec_l01Deg_l1]
        rw [if_pos (by simp), ifp_pos (by omega)]
        simp [e]
        exact wrap64 (by omega) (by omega)
      · have : k = i + 1 := by omega
        subst this
        rw [hr i rfl]; simp [top, e]
    · right
      refine ⟨(i : Int), ?_, fun k hk => ?_⟩
      · simp only [spec_l01Deg_l1]
        rw [if_pos (by simp), ifp_pos (by omega)]
        simp [e]
      · have : k = i + 1 := by omega
        subst this
        simp [top, e]
theorem deg_is (a : V64) : spec_l01Deg a = some ((top (rd a.1) 64 : Int) - 1) := by
  obtain ⟨r, h1, h2⟩ := deg_loop a 63 ⟨64, by omega, by omega⟩
  rw [h2 64 (by omega)] at h1
  simp only [spec_l01Deg, h1, Option.bind_some]

theorem trimmed_loop {l : List Int} (hl : l.length ≤ 1000000) : ∀ s : Int, (∃ i : Nat, s = i ∧ i ≤ l.length) → ∃ r, loopM (fun s : Int => impl_row_trimmed_l1 l s) s = some r ∧ ∀ i : Nat, s = i → r = (top (rd l) i : Int) := by
  refine loopM_ind (fun (s : Int) => ∃ i : Nat, s = i ∧ i ≤ l.length) (fun (s : Int) (r : Int) => ∀ i : Nat, s = i → r = (top (rd l) i : Int)) (fun s => s.toNat) ?_
  rintro s ⟨i, rfl, hi⟩
  match i with
  | 0 =>
    right
    refine ⟨0, by simp [impl_row_trimmed_l1], fun k hk => ?_⟩
    have : k = 0 := by omega
    subst this; simp [top]
  | i + 1 =>
    have e1 : IntKind.i64.wrap (((i + 1 : Nat) : Int) - 1) = (i : Int) := by rw [wrap64 (by omega) (by omega)]; omega
    by_cases e : rd l i = 0
    · left
      refine ⟨(i : Int), ?_, ⟨i, rfl, by omega⟩, by omega, fun r hr k hk => ?_⟩
      · simp only [impl_row_trimmed_l1, e1]
        rw [if_pos (by simp), ifp_pos (by omega)]
        simp [e]
      · have : k = i + 1 := by omega
        subst this
        rw [hr i rfl]; simp [top, e]
    · right
      refine ⟨((i + 1 : Nat) : Int), ?_, fun k hk => ?_⟩
      · simp only [impl_row_trimmed_l1, e1]
        rw [if_pos (by simp), ifp_pos (by omega)]
        simp [e]
      · have : k = i + 1 := by omega
        subst this
        simp [top, e]
theorem trimmed_is {l : List Int} (hl : l.length ≤ 1000000) : impl_row_trimmed l = some (l.take (top (rd l) l.length)) := by
  obtain ⟨r, h1, h2⟩ := trimmed_loop hl (l.length : Nat) ⟨l.length, rfl, Nat.le_refl _⟩
  rw [h2 _ rfl] at h1
  have := top_le (rd l) l.length
  simp only [impl_row_trimmed, h1, Option.bind_some]
  rw [ifp_pos (by omega)]
  simp

theorem rowOf_loop {a : V64} (hb : IsB a) : ∀ s : Int × List Int, (∃ i : Nat, s.1 = i ∧ i ≤ 64 ∧ s.2 = a.1.take i) → ∃ r, loopM (fun s : Int × List Int => impl_rowOf_l1 a s.1 s.2) s = some r ∧ r = a.1 := by
  refine loopM_ind (fun (s : Int × List Int) => ∃ i : Nat, s.1 = i ∧ i ≤ 64 ∧ s.2 = a.1.take i) (fun (s : Int × List Int) (r : List Int) => r = a.1) (fun (s : Int × List Int) => 64 - s.1.toNat) ?_
  rintro ⟨x, v⟩ ⟨i, hx, hi, hv⟩
  simp only at hx hv
  subst hx hv
  by_cases h : i = 64
  · right
    subst h
    exact ⟨a.1, by simp [impl_rowOf_l1, List.take_of_length_le (Nat.le_of_eq a.2)], rfl⟩
  · left
    have hil : i < a.1.length := by rw [a.2]; omega
    have er : rd a.1 i = a.1[i] := by simp [rd, hil]
    have hbi := hb.rd (show i < 64 by omega)
    refine ⟨(((i + 1 : Nat) : Int), a.1.take (i + 1)), ?_, ⟨i + 1, rfl, by omega, rfl⟩, by simp; omega, fun r hr => hr⟩
    simp only [impl_rowOf_l1]
    rw [if_pos (by simp; omega), ifp_pos (by omega), ifp_pos (by simp; omega)]
    rw [Int.toNat_natCast, wrap64 (by omega) (by omega), wrap64 (by omega) (by omega), er, List.take_succ_eq_append_getElem hil]
    simp
theorem rowOf_is {a : V64} (hb : IsB a) : impl_rowOf a = some (a.1.take (top (rd a.1) 64)) := by
  obtain ⟨r, h1, h2⟩ := rowOf_loop hb (0, []) ⟨0, rfl, by omega, by simp⟩
  subst h2
  have h3 := trimmed_is (l := a.1) (by rw [a.2]; omega)
  rw [a.2] at h3
  simp only [impl_rowOf, h1, Option.bind_some, h3]
end Go.Proofs.Ytacebpbhddkelaa
