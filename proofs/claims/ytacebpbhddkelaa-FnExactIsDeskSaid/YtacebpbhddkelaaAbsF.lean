/- What is handed on is written no more; memory read and written cell by cell: for every world. -/
import Derived.Test.YtacebpbhddkelaaAbsE
import Derived.Laws.Sem
namespace Go.Abs

/-! ## Operands -/
def opdA (env : Nat → AV) : Operand → AV
  | .tmp t => env t
  | .const v => ofConst v
  | .func f => .clo f [] []
  | .global _ => .top

theorem const_rel (ρ : Nat → Option Nat) (H : Hp) (S : Nat → Prop) (w : World) (v : Value) : SlotRel ρ H S w (ofConst v) v := by
  cases v <;> simp only [ofConst, SlotRel]
  case slice a l c =>
    cases a with
    | some a => simp only [SlotRel]
    | none =>
      cases l with
      | succ l => simp only [SlotRel]
      | zero =>
        cases c with
        | succ c => simp only [SlotRel]
        | zero =>
          simp only [SlotRel]
          exact ⟨none, 0, rfl, by simp, fun _ => rfl, .inl rfl⟩
  case pointer a =>
    cases a with
    | some a => simp only [SlotRel]
    | none => simp only [SlotRel, scalar, and_self]
  case nilFunc => simp [scalar]

theorem opd_rel {ρ : Nat → Option Nat} {H : Hp} {S : Nat → Prop} {w : World} {env : Nat → AV} {a : Act} (h : ∀ t, SlotRel ρ H S w (env t) (a.tmps.getD t undef)) (x : Operand) :
    SlotRel ρ H S w (opdA env x) (a.eval x) := by
  cases x with
  | tmp t => exact h t
  | const v => exact const_rel _ _ _ _ v
  | func f =>
    simp only [opdA, SlotRel, VRel, VAll]
    exact ⟨[], [], rfl, rfl, rfl, rfl⟩
  | global g => simp only [opdA, SlotRel]

/-! ## Freezing -/
def FU (H : Hp) (u : Upd) : Prop := ∀ id x, look u id = some x → ∃ b, H id = some b ∧ x = some ⟨b.c, true⟩

theorem FU.nil (H : Hp) : FU H [] := fun _ _ h => by cases h
theorem FU.append {H : Hp} {u v : Upd} (h : FU H u) (g : FU H v) : FU H (u ++ v) := by
  intro id x hx
  rw [look_append] at hx
  cases hu : look u id with
  | some y => rw [hu] at hx; simp at hx; subst hx; exact h id _ hu
  | none => rw [hu] at hx; simp at hx; exact g id x hx

theorem FU.upd {H : Hp} {u : Upd} (h : FU H u) (id : Nat) (b' : Blk) (hb : updH H u id = some b') : ∃ b, H id = some b ∧ b.c = b'.c ∧ (b.fz = true → b'.fz = true) := by
  unfold updH at hb
  cases hu : look u id with
  | none => rw [hu] at hb; exact ⟨b', hb, rfl, fun x => x⟩
  | some x =>
    obtain ⟨b, h1, h2⟩ := h id x hu
    rw [hu] at hb
    simp only at hb
    rw [h2] at hb
    cases hb
    exact ⟨b, h1, rfl, fun _ => rfl⟩

theorem FU.step {ρ : Nat → Option Nat} {H : Hp} {B N : Nat → Prop} {w : World} (hr : HRel ρ H B N w) {u : Upd} (h : FU H u) : Step No ρ H B N w ρ (updH H u) w :=
  Step.frozen hr rfl ⟨rfl, rfl, rfl⟩ h.upd

theorem Bself (B : Nat → Prop) (w : World) : (fun k => B k ∨ (w.heap.size ≤ k ∧ k < w.heap.size)) = B := Bsame rfl

theorem FU.hrel {ρ : Nat → Option Nat} {H : Hp} {B N : Nat → Prop} {w : World} (hr : HRel ρ H B N w) {u : Upd} (h : FU H u) : HRel ρ (updH H u) B N w := by
  have := (FU.step hr h).heap
  rwa [Bself] at this
theorem FU.slot {ρ : Nat → Option Nat} {H : Hp} {B N : Nat → Prop} {w : World} (hr : HRel ρ H B N w) {u : Upd} (h : FU H u) {av : AV} {v : Value} (hs : SlotRel ρ H (Sof ρ H B) w av v) :
    SlotRel ρ (updH H u) (Sof ρ (updH H u) B) w av v := by
  have := (FU.step hr h).keep av v (fun id x => x.elim) hs
  rwa [Bself] at this
theorem FU.sof {ρ : Nat → Option Nat} {H : Hp} {B N : Nat → Prop} {w : World} (hr : HRel ρ H B N w) {u : Upd} (h : FU H u) (k : Nat) (hk : Sof ρ H B k) : Sof ρ (updH H u) B k := by
  have := (FU.step hr h).sof k hk
  rwa [Bself] at this
theorem FU.of_append {H : Hp} {u v : Upd} (h : FU H u) (g : FU H v) : FU (updH H u) v := by
  intro id x hx
  obtain ⟨b, h1, h2⟩ := g id x hx
  unfold updH
  cases hu : look u id with
  | none => exact ⟨b, h1, h2⟩
  | some y =>
    obtain ⟨b', h3, h4⟩ := h id y hu
    rw [h1] at h3; cases h3
    exact ⟨⟨b.c, true⟩, h4, h2⟩
/-- Either order serves. -/
theorem FU.upd_comm {H : Hp} {u v : Upd} (h : FU H u) (g : FU H v) : updH H (u ++ v) = updH (updH H u) v := by
  rw [updH_append]
  funext id
  unfold updH
  cases hu : look u id with
  | none => rfl
  | some x =>
    cases hv : look v id with
    | none => rfl
    | some y =>
      obtain ⟨b, h1, h2⟩ := h id x hu
      obtain ⟨b', h3, h4⟩ := g id y hv
      rw [h1] at h3; cases h3
      simp [h2, h4]

theorem reads_block {w : World} {k : Nat} {arr : Array Value} {T : TypeId} {f : Nat × Nat} {cs ext : List Value} (hb : w.heap[k]? = some (.cells arr T f)) (he : arr.toList = cs ++ ext) : Reads w k 0 cs := by
  intro j hj
  simp only [World.cell?, hb, Option.isSome_none, Bool.false_eq_true, if_false, Nat.zero_add]
  rw [← Array.getElem?_toList, he, List.getElem?_append_left hj]

theorem frz_elim {v : AV} {k : AV → Upd → Ask} {H : Hp} {r : Ev} (h : (frz v k).run H = r) (hr : r ≠ .bad) :
    ∃ v' u, (k v' u).run H = r ∧ FU H u ∧ v'.plain = true ∧ v'.size = v'.size ∧
      ∀ ρ B N w cv, HRel ρ H B N w → SlotRel ρ H (Sof ρ H B) w v cv → SlotRel ρ (updH H u) (Sof ρ (updH H u) B) w v' cv := by
  have triv : ∀ v : AV, (if v.plain then k v [] else Ask.ret .bad).run H = r → ∃ v' u, (k v' u).run H = r ∧ FU H u ∧ v'.plain = true ∧ v'.size = v'.size ∧
      ∀ ρ B N w cv, HRel ρ H B N w → SlotRel ρ H (Sof ρ H B) w v cv → SlotRel ρ (updH H u) (Sof ρ (updH H u) B) w v' cv := by
    intro v h
    split at h
    · rename_i hp
      exact ⟨v, [], h, FU.nil H, hp, rfl, fun _ _ _ _ _ _ hs => hs⟩
    · exact (hr h.symm).elim
  have hfu : ∀ id c f, H id = some ⟨c, f⟩ → FU H [(id, some ⟨c, true⟩)] := by
    intro id c f hH i x hx
    simp only [look] at hx
    split at hx
    · rename_i e
      have := Nat.eq_of_beq_eq_true e
      subst this
      cases hx
      exact ⟨_, hH, rfl⟩
    · cases hx
  have hsof : ∀ (id : Nat) (c : AV) (f : Bool) (ρ : Nat → Option Nat) (B N : Nat → Prop) (w : World) (q : Nat), H id = some ⟨c, f⟩ → HRel ρ H B N w → ρ id = some q → B q →
      Sof ρ (updH H [(id, some ⟨c, true⟩)]) B q := by
    intro id c f ρ B N w q hH hrel hq hB
    refine ⟨hB, fun j b hj hf e => ?_⟩
    rw [updH_cons] at hj
    by_cases ej : j = id
    · simp only [ej, if_true, Option.some.injEq] at hj; subst hj; cases hf
    · simp only [ej, if_false, updH_nil] at hj
      exact ej (hrel.inj j id _ _ _ hj hH e hq)
  cases v
  case osl id =>
    simp only [frz, Ask.run] at h
    split at h
    · rename_i sz xs f hH
      refine ⟨_, _, h, hfu id _ f hH, rfl, rfl, fun ρ B N w cv hrel hs => ?_⟩
      obtain ⟨sz', xs', e, hh⟩ := hs _ hH
      cases e
      simp only [SlotRel, VRel]
      rcases hh with ⟨hx, hρ, a, ha⟩ | ⟨q, cap, arr, T, hρ, hv, hle, hw, hcap⟩
      · subst hx; subst ha
        exact ⟨a, 0, rfl, by simp, by simp, .inl rfl⟩
      · subst hv
        refine ⟨_, cap, rfl, hle, by simp, ?_⟩
        rcases hrel.at_ id _ hH with ⟨sz2, e2, h2⟩ | ⟨q', arr', T', cs, ext, h1, h2, h3, h4, h5, h6⟩
        · rw [h2] at hρ; cases hρ
        · rw [hρ] at h1; cases h1
          simp only [VRel] at h6
          exact .inr ⟨q, 0, cs, rfl, hsof id _ f ρ B N w q hH hrel hρ h2, VAll.keep (FU.sof hrel (hfu id _ f hH)) (fun _ _ _ => rfl) _ _ _ _ h6, reads_block h4 h5⟩
    · exact (hr h.symm).elim
  case own id p o =>
    simp only [frz, Ask.run] at h
    split at h
    · rename_i c f hH
      refine ⟨_, _, h, hfu id _ f hH, rfl, rfl, fun ρ B N w cv hrel hs => ?_⟩
      obtain ⟨q, hρ, e⟩ := hs _ hH
      subst e
      simp only [SlotRel, VRel]
      rcases hrel.at_ id _ hH with ⟨sz2, e2, h2⟩ | ⟨q', arr', T', cs, ext, h1, h2, h3, h4, h5, h6⟩
      · rw [h2] at hρ; cases hρ
      · rw [hρ] at h1; cases h1
        exact ⟨q, 0, cs, by simp, hsof id _ f ρ B N w q hH hrel hρ h2, VRel.keep (FU.sof hrel (hfu id _ f hH)) (fun _ _ _ => rfl) _ _ h6, reads_block h4 h5⟩
    · exact (hr h.symm).elim
  all_goals exact triv _ h

/-- The cells of what has been frozen. -/
theorem loose_rel {S : Nat → Prop} {w : World} {v : AV} {cs : List Value} (h : VRel S w v cs) : VRel S w (loose v) cs := by
  cases v <;> try exact h
  obtain ⟨a, cap, e, l, t, r⟩ := h
  exact ⟨a, cap, e, l, by simp, r⟩
theorem loose_size (v : AV) : (loose v).size = v.size := by cases v <;> rfl
theorem loose_agg (v : AV) : (loose v).isAgg = v.isAgg := by cases v <;> rfl
theorem loose_plain (v : AV) : (loose v).plain = v.plain := by cases v <;> rfl
theorem loose_slot {ρ : Nat → Option Nat} {H : Hp} {S : Nat → Prop} {w : World} {v : AV} {cv : Value} (h : SlotRel ρ H S w v cv) : SlotRel ρ H S w (loose v) cv := by
  cases v <;> try exact h
  obtain ⟨a, cap, e, l, t, r⟩ := h
  exact ⟨a, cap, e, l, by simp, r⟩

end Go.Abs
