/- Plain facts on loops and wraps. -/
import Derived.Test.YtacebpbhddkelaaAbsX
namespace Go.Abs

/-- A loop with a measure ends, and what it leaves. -/
theorem loopM_ind {α β : Type} {body : α → Option (α ⊕ β)} (I : α → Prop) (Post : α → β → Prop) (m : α → Nat)
    (step : ∀ s, I s → (∃ s', body s = some (.inl s') ∧ I s' ∧ m s' < m s ∧ ∀ r, Post s' r → Post s r) ∨ ∃ r, body s = some (.inr r) ∧ Post s r) :
    ∀ s, I s → ∃ r, loopM body s = some r ∧ Post s r := by
  have key : ∀ n s, m s ≤ n → I s → ∃ r, loopM body s = some r ∧ Post s r := by
    intro n
    induction n with
    | zero =>
      intro s hn hs
      rcases step s hs with ⟨s', h1, h2, h3, h4⟩ | ⟨r, h1, h2⟩
      · omega
      · exact ⟨r, by rw [loopM_eq, h1]; rfl, h2⟩
    | succ n ih =>
      intro s hn hs
      rcases step s hs with ⟨s', h1, h2, h3, h4⟩ | ⟨r, h1, h2⟩
      · obtain ⟨r, k1, k2⟩ := ih s' (by omega) h2
        exact ⟨r, by rw [loopM_eq, h1]; exact k1, h4 r k2⟩
      · exact ⟨r, by rw [loopM_eq, h1]; rfl, h2⟩
  exact fun s hs => key (m s) s (Nat.le_refl _) hs

theorem wrap64 {n : Int} (h1 : -9223372036854775808 ≤ n) (h2 : n < 9223372036854775808) : IntKind.i64.wrap n = n := by
  simp only [IntKind.wrap, IntKind.signed, IntKind.bits]
  simp
  omega
theorem wrap8 {n : Int} (h1 : 0 ≤ n) (h2 : n < 256) : IntKind.u8.wrap n = n := by
  simp only [IntKind.wrap, IntKind.signed, IntKind.bits]
  simp
  omega
end Go.Abs
