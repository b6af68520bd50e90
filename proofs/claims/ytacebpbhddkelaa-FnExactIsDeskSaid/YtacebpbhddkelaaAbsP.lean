/- Abstract runs of operations, regions and code are sound, and a function's abstract run gives its contract: for every program and world. -/
import Derived.Test.YtacebpbhddkelaaAbsO
namespace Go.Abs

structure Fr where
  w0 : World
  B0 : Nat → Prop
  N : Nat → Prop
  ρ0 : Nat → Option Nat
  n : Nat

structure RelF (fr : Fr) (σ : St) (a : Act) (w : World) : Prop where
  rel : ∃ ρ, HRel ρ σ.h (fun k => fr.B0 k ∨ (fr.w0.heap.size ≤ k ∧ k < w.heap.size)) fr.N w ∧
    (∀ t, SlotRel ρ σ.h (Sof ρ σ.h (fun k => fr.B0 k ∨ (fr.w0.heap.size ≤ k ∧ k < w.heap.size))) w (σ.e t) (a.tmps.getD t undef)) ∧
    (∀ i b, σ.h (pid i) = some b → ρ (pid i) = fr.ρ0 (pid i))
  defers : a.defers = []
  size : a.tmps.size = fr.n
  only : Only fr.N fr.w0 w

structure Good (P : Program) (T : Tys) : Prop where
  ty : TysOk P T
  pos : ∀ t n e s b z, look T t = some ⟨.arr n e, s, b, z⟩ → 0 < n
  mixed : P.follows .mixedOrders = true

theorem h_upd (σ : St) (u : Upd) : (σ.upd u).h = updH σ.h u := by
  funext id
  simp only [St.h, St.upd, updH, look_append]
  cases look u id <;> simp
theorem h_put (σ : St) (d : Option Nat) (v : AV) : (σ.put d v).h = σ.h := by cases d <;> rfl
theorem e_upd (σ : St) (u : Upd) (t : Nat) : (σ.upd u).e t = σ.e t := rfl
theorem e_put (σ : St) (d : Option Nat) (v : AV) (t : Nat) : (σ.put d v).e t = if d = some t then v else σ.e t := by
  cases d with
  | none => simp [St.put]
  | some d =>
    simp only [St.put, St.e, look, Option.some.injEq]
    by_cases h : d = t
    · subst h; simp
    · have : Nat.beq d t = false := by rw [← Bool.not_eq_true, Nat.beq_eq]; exact h
      simp [this, h]
theorem look_mem {α : Type} : ∀ (l : List (Nat × α)) (k : Nat) (a : α), look l k = some a → (k, a) ∈ l
  | [], _, _, h => by simp [look] at h
  | (j, b) :: l, k, a, h => by
    simp only [look] at h
    split at h
    · rename_i e
      have := Nat.eq_of_beq_eq_true e
      simp at h; subst h; subst this; simp
    · exact List.mem_cons_of_mem _ (look_mem l k a h)

theorem okNew_spec {σ : St} {u : Upd} (h : okNew σ u = true) (id : Nat) (hid : NewIds σ.h u id) : id < 1000000 ∧ ∀ t, (σ.e t).names id = false := by
  obtain ⟨h1, b, h2⟩ := hid
  have hm := look_mem _ _ _ h2
  have := List.all_eq_true.1 h (id, some b) hm
  simp only [Option.isNone_some, Bool.false_or, h1, Option.isSome_none, Bool.and_eq_true] at this
  refine ⟨by have := Nat.le_of_ble_eq_true this.1; omega, fun t => ?_⟩
  unfold St.e
  cases ht : look σ.env t with
  | none => rfl
  | some v =>
    have := List.all_eq_true.1 this.2 (t, v) (look_mem _ _ _ ht)
    simpa using this

theorem getD_put (a : Act) (d : Nat) (v : Value) (t : Nat) (hd : d < a.tmps.size) : ((a.put (some d) v).tmps.getD t undef) = if d = t then v else a.tmps.getD t undef := by
  simp only [Act.put, Array.getD_eq_getD_getElem?, Array.getElem?_setIfInBounds]
  by_cases h : d = t
  · subst h; simp [hd]
  · simp [h]

section
variable {P : Program} {T : Tys} {fr : Fr} {σ : St} {a : Act} {w : World}

/-- A step and what it writes. -/
theorem RelF.step (hr : RelF fr σ a w) {ρ : Nat → Option Nat} (hρ : ∀ i b, σ.h (pid i) = some b → ρ (pid i) = fr.ρ0 (pid i))
    (hs : ∀ t, SlotRel ρ σ.h (Sof ρ σ.h (fun k => fr.B0 k ∨ (fr.w0.heap.size ≤ k ∧ k < w.heap.size))) w (σ.e t) (a.tmps.getD t undef))
    {F : Nat → Prop} {ρ' : Nat → Option Nat} {u : Upd} {w' : World} {v : AV} {c : Value} {dst : Option Nat}
    (hst : Step F ρ σ.h (fun k => fr.B0 k ∨ (fr.w0.heap.size ≤ k ∧ k < w.heap.size)) fr.N w ρ' (updH σ.h u) w') (hF : ∀ id, F id → ∀ t, (σ.e t).names id = false) (hFp : ∀ i, ¬ F (pid i))
    (hv : SlotRel ρ' (updH σ.h u) (Sof ρ' (updH σ.h u) (fun k => (fr.B0 k ∨ (fr.w0.heap.size ≤ k ∧ k < w.heap.size)) ∨ (w.heap.size ≤ k ∧ k < w'.heap.size))) w' v c)
    (hd : ∀ d, dst = some d → d < fr.n) : RelF fr ((σ.upd u).put dst v) (a.put dst c) w' := by
  have eB := Bgrow (B := fr.B0) hr.only.size hst.only.size
  refine ⟨⟨ρ', ?_, fun t => ?_, fun i b hb => ?_⟩, ?_, ?_, hr.only.trans hst.only⟩
  · rw [h_put, h_upd, ← eB]; exact hst.heap
  · rw [h_put, h_upd, ← eB, e_put, e_upd]
    cases dst with
    | none =>
      simp only [reduceCtorEq, if_false, Act.put]
      exact hst.keep _ _ (fun id hid => hF id hid t) (hs t)
    | some d =>
      rw [getD_put _ _ _ _ (by rw [hr.size]; exact hd d rfl)]
      by_cases h : d = t
      · subst h; simp only [if_true]; exact hv
      · simp only [Option.some.injEq, h, if_false]
        exact hst.keep _ _ (fun id hid => hF id hid t) (hs t)
  · rw [h_put, h_upd] at hb
    obtain ⟨e1, b0, hb0⟩ := hst.same (pid i) b (hFp i) hb
    rw [e1]; exact hρ i b0 hb0
  · cases dst <;> exact hr.defers
  · cases dst with
    | none => exact hr.size
    | some d => simpa [Act.put] using hr.size

theorem RelF.put_top (hr : RelF fr σ a w) (dst : Option Nat) (c : Value) (hd : ∀ d, dst = some d → d < fr.n) : RelF fr (σ.put dst .top) (a.put dst c) w := by
  obtain ⟨⟨ρ, h1, h2, h3⟩, h4, h5, h6⟩ := hr
  refine ⟨⟨ρ, by rw [h_put]; exact h1, fun t => ?_, by rw [h_put]; exact h3⟩, ?_, ?_, h6⟩
  · rw [h_put, e_put]
    cases dst with
    | none => simpa [Act.put] using h2 t
    | some d =>
      rw [getD_put _ _ _ _ (by rw [h5]; exact hd d rfl)]
      by_cases h : d = t
      · subst h; simp [SlotRel]
      · simp only [Option.some.injEq, h, if_false]; exact h2 t
  · cases dst <;> exact h4
  · cases dst with
    | none => exact h5
    | some d => simpa [Act.put] using h5

theorem RelF.cx (g : Good P T) (hN : ∀ k, fr.w0.heap.size ≤ k → fr.N k) (hr : RelF fr σ a w) : ∃ ρ, Cx P T ρ σ.h (fun k => fr.B0 k ∨ (fr.w0.heap.size ≤ k ∧ k < w.heap.size)) fr.N w (opdA σ.e) a.eval ∧
    (∀ t, SlotRel ρ σ.h (Sof ρ σ.h (fun k => fr.B0 k ∨ (fr.w0.heap.size ≤ k ∧ k < w.heap.size))) w (σ.e t) (a.tmps.getD t undef)) ∧ (∀ i b, σ.h (pid i) = some b → ρ (pid i) = fr.ρ0 (pid i)) := by
  obtain ⟨⟨ρ, h1, h2, h3⟩, _, _, h6⟩ := hr
  exact ⟨ρ, ⟨g.ty, h1, fun k hk => hN k (Nat.le_trans h6.size hk), opd_rel h2⟩, h2, h3⟩

/-- The arguments of a call none of which is handed on to be written. -/
theorem frzArgs_elim {H : Hp} : ∀ (m i : Nat) (vs : List AV) {k : List AV → Upd → List (Nat × Nat) → Ask} {g : FuncId} {as : List AV} {u : Upd} {ms : List (Nat × Nat)} {C : Prop}, (frzArgs m i vs k).run H = .call g as u ms C →
    ∃ vs' u' ms', (k vs' u' ms').run H = .call g as u ms C ∧ FU H u' ∧ (ms' = [] → (∀ v ∈ vs', v.plain = true) ∧ ∀ ρ B N w cvs, HRel ρ H B N w → SlotsRel ρ H (Sof ρ H B) w vs cvs → SlotsRel ρ (updH H u') (Sof ρ (updH H u') B) w vs' cvs)
  | m, i, [], k, g, as, u, ms, C, h => ⟨[], [], [], h, FU.nil H, fun _ => ⟨by simp, fun _ _ _ _ _ _ hs => hs⟩⟩
  | m, i, v :: vs, k, g, as, u, ms, C, h => by
    simp only [frzArgs] at h
    split at h
    · split at h
      · simp only [Ask.run] at h
        split at h
        · obtain ⟨vs', u', ms', h1, h2, _⟩ := frzArgs_elim m (i + 1) vs h
          exact ⟨_, _, _, h1, h2, by simp⟩
        · simp [Ask.run] at h
      · simp only [Ask.run] at h
        split at h
        · obtain ⟨vs', u', ms', h1, h2, _⟩ := frzArgs_elim m (i + 1) vs h
          exact ⟨_, _, _, h1, h2, by simp⟩
        · simp [Ask.run] at h
      · simp [Ask.run] at h
    · obtain ⟨v', u1, h1, hu1, hp1, _, hs1⟩ := frz_elim h (by simp)
      obtain ⟨vs', u', ms', h2, hu2, hh⟩ := frzArgs_elim m (i + 1) vs h1
      refine ⟨_, _, _, h2, hu1.append hu2, fun hms => ?_⟩
      obtain ⟨hp2, hs2⟩ := hh hms
      refine ⟨fun x hx => ?_, fun ρ B N w cvs hrel h3 => ?_⟩
      · rcases List.mem_cons.1 hx with rfl | hx
        · exact hp1
        · exact hp2 x hx
      · obtain ⟨c, rest, rfl, h4, h5⟩ := h3
        refine ⟨c, rest, rfl, ?_, ?_⟩
        · rw [FU.upd_comm hu1 hu2]
          exact FU.slot (FU.hrel hrel hu1) (FU.of_append hu1 hu2) (hs1 ρ B N w c hrel h4)
        · have := hs2 ρ B N w rest hrel h5
          rw [updH_append]
          have hfu : FU (updH H u') u1 := FU.of_append hu2 hu1
          refine (slots_keep (F := No) (S := Sof ρ (updH H u') B) (w := w) (fun k hk => FU.sof (FU.hrel hrel hu2) hfu k hk) (fun _ _ _ => rfl) (fun id b' hb' => .inr ?_) _ _ (fun id x => x.elim) this)
          obtain ⟨b, hb, hc, _⟩ := hfu.upd id b' hb'
          exact ⟨b, hb, rfl, fun sz xs e => ⟨xs, by rw [← hc]; exact e, rfl⟩, fun k arr T _ e => ⟨arr, T, e, rfl⟩⟩

theorem entryB_plain {v : AV} (i : Nat) (h : v.plain = true) : entryB v = none ∧ entryE i v = v := by
  cases v <;> simp [AV.plain] at h <;> exact ⟨rfl, rfl⟩

theorem mutIx_nil : ∀ (i : Nat) (vs : List AV), mutIx i vs = [] → (∀ v ∈ vs, entryB v = none)
  | _, [], _ => by simp
  | i, v :: vs, h => by
    simp only [mutIx] at h
    split at h
    · cases h
    · rename_i e
      intro x hx
      rcases List.mem_cons.1 hx with rfl | hx
      · exact e
      · exact mutIx_nil (i + 1) vs h x hx
theorem entryH_nil : ∀ (i : Nat) (vs : List AV), (∀ v ∈ vs, entryB v = none) → entryH i vs = []
  | _, [], _ => rfl
  | i, v :: vs, h => by simp only [entryH, h v (by simp)]; exact entryH_nil (i + 1) vs fun x hx => h x (by simp [hx])
theorem entryEnv_map : ∀ (i : Nat) (vs : List AV), (∀ v ∈ vs, entryB v = none) → (entryEnv i vs).map (·.2) = vs
  | _, [], _ => rfl
  | i, v :: vs, h => by
    simp only [entryEnv, List.map_cons, entryEnv_map (i + 1) vs fun x hx => h x (by simp [hx])]
    congr 1
    have := h v (by simp)
    cases v <;> first | rfl | (simp [entryB] at this)

/-- Slots without own blocks do not ask for their names. -/
theorem slot_plain {ρ ρ' : Nat → Option Nat} {H H' : Hp} {S S' : Nat → Prop} {w : World} {v : AV} {c : Value} (h : SlotRel ρ H S w v c) (hp : v.plain = true) (hS : ∀ k, S k → S' k) : SlotRel ρ' H' S' w v c := by
  obtain ⟨cs, h1, rfl, _⟩ := vrel_of_slot h hp
  exact slot_of_vrel (VRel.keep hS (fun _ _ _ => rfl) _ _ h1) hp
theorem slots_plain {ρ ρ' : Nat → Option Nat} {H H' : Hp} {S S' : Nat → Prop} {w : World} : ∀ (vs : List AV) (cs : List Value), SlotsRel ρ H S w vs cs → (∀ v ∈ vs, v.plain = true) → (∀ k, S k → S' k) → SlotsRel ρ' H' S' w vs cs
  | [], _, h, _, _ => h
  | v :: vs, _, ⟨c, rest, e, h1, h2⟩, hp, hS => ⟨c, rest, e, slot_plain h1 (hp v (by simp)) hS, slots_plain vs rest h2 (fun x hx => hp x (by simp [hx])) hS⟩
theorem slots_append {ρ : Nat → Option Nat} {H : Hp} {S : Nat → Prop} {w : World} : ∀ (a b : List AV) (c d : List Value), SlotsRel ρ H S w a c → SlotsRel ρ H S w b d → SlotsRel ρ H S w (a ++ b) (c ++ d)
  | [], b, c, d, h, g => by simp only [SlotsRel] at h; subst h; exact g
  | v :: a, b, _, d, ⟨c, rest, e, h1, h2⟩, g => by subst e; exact ⟨c, rest ++ d, rfl, h1, slots_append a b rest d h2 g⟩

theorem slots_of_ones {ρ : Nat → Option Nat} {H : Hp} {S : Nat → Prop} {w : World} : ∀ (vs : List AV) (cs : List Value) (j : Nat), VAll S w (fun _ => 1) j vs cs → (∀ v ∈ vs, v.plain = true ∧ v.isAgg = false) → SlotsRel ρ H S w vs cs
  | [], _, _, h, _ => h
  | v :: vs, _, j, h, hp => by
    obtain ⟨c1, c2, rfl, hv, hl, hr⟩ := h
    match c1, hl with
    | [c], _ =>
      have h1 := slot_of_vrel (ρ := ρ) (H := H) hv (hp v (by simp)).1
      have h2 : pack v [c] = c := by
        have := (hp v (by simp)).2
        cases v <;> simp [AV.isAgg] at this <;> rfl
      rw [h2] at h1
      exact ⟨c, c2, rfl, h1, slots_of_ones vs c2 (j + 1) hr fun x hx => hp x (by simp [hx])⟩

end
end Go.Abs
