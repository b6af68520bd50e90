/- Single operations of the model run as the abstract ones say: loads, stores, new blocks, arithmetic: for every program, world and state. -/
import Derived.Test.YtacebpbhddkelaaAbsF
import Derived.Laws.Cells
namespace Go.Abs

/-! ## Types -/
theorem TyOk.desc {P : Program} {t : Nat} {i : TyA} (h : TyOk P t i) : ∃ d, P.underlying t = some d ∧ TyD.of d = i.d := by
  have := h.under
  cases e : P.underlying t with
  | none => rw [e] at this; simp at this
  | some d => rw [e] at this; simp at this; exact ⟨d, rfl, this⟩
theorem TyOk.info {P : Program} {t : Nat} {i : TyA} (h : TyOk P t i) : ∃ f, P.info? t = some f ∧ f.size = i.size ∧ f.bytes = i.bytes ∧ ∃ z, f.zero = some z ∧ flat i.zero = some z.cells.toList := by
  have h1 := h.sizes
  have h2 := h.zeroOk
  have h3 := h.isOk
  cases e : P.info? t with
  | none => rw [e] at h1; simp at h1
  | some f =>
    rw [e] at h1 h2
    simp at h1 h2
    refine ⟨f, rfl, h1.1, h1.2, ?_⟩
    cases ez : f.zero with
    | none => rw [ez] at h2; simp at h2; rw [← h2] at h3; simp at h3
    | some z => rw [ez] at h2; simp at h2; exact ⟨z, rfl, h2.symm⟩

theorem run_underlying {P : Program} {t : Nat} {d : TypeDesc} (h : P.underlying t = some d) (w : World) : (underlying t).run P w = .ok d w := by
  simp [underlying, h]
theorem run_typeInfo {P : Program} {t : Nat} {f : TypeInfo} (h : P.info? t = some f) (w : World) : (typeInfo t).run P w = .ok f w := by
  simp [typeInfo, h]
theorem TyOk.run_size {P : Program} {t : Nat} {i : TyA} (h : TyOk P t i) (w : World) : (sizeOf t).run P w = .ok i.size w := by
  obtain ⟨f, h1, h2, _⟩ := h.info
  simp [sizeOf, run_typeInfo h1, h2]
theorem TyOk.run_agg {P : Program} {t : Nat} {i : TyA} (h : TyOk P t i) (w : World) : (isAgg t).run P w = .ok i.agg w := by
  obtain ⟨d, h1, h2⟩ := h.desc
  simp only [isAgg, Sem.run_bind, run_underlying h1, Result.andThen_ok, TyA.agg, ← h2]
  cases d <;> rfl
theorem TyOk.run_zero {P : Program} {t : Nat} {i : TyA} (h : TyOk P t i) (w : World) : ∃ z, (zeroValue t).run P w = .ok z w ∧ flat i.zero = some z.cells.toList := by
  obtain ⟨f, h1, _, _, z, h3, h4⟩ := h.info
  exact ⟨z, by simp [zeroValue, run_typeInfo h1, h3], h4⟩

/-! ## Cells -/
mutual
theorem VRel.scalars {S : Nat → Prop} {w : World} : ∀ (v : AV) (cs : List Value), VRel S w v cs → ∀ c ∈ cs, scalar c = true
  | .int _ _, cs, h => by simp only [VRel] at h; subst h; simp [scalar]
  | .bool _, cs, h => by simp only [VRel] at h; subst h; simp [scalar]
  | .str _, cs, h => by simp only [VRel] at h; subst h; simp [scalar]
  | .raw u, cs, h => by simp only [VRel] at h; rw [h.1]; intro c hc; simp at hc; subst hc; exact h.2
  | .arr _ _ xs, cs, h => VAll.scalars xs _ cs _ h.2
  | .struct _ xs, cs, h => VAll.scalars xs _ cs _ h.2
  | .row _ xs, cs, h => VAll.scalars xs _ cs _ h
  | .sl .., cs, h => by obtain ⟨a, cap, rfl, _⟩ := h; simp [scalar]
  | .clo .., cs, h => by obtain ⟨a, b, rfl, _⟩ := h; simp [scalar]
  | .ref .., cs, h => by obtain ⟨k, off, vs, rfl, _⟩ := h; simp [scalar]
  | .top, _, h => h.elim
  | .own .., _, h => h.elim
  | .osl _, _, h => h.elim
  | .mutsl .., _, h => h.elim
  | .mutp _, _, h => h.elim
  | .fr .., _, h => h.elim
  | .tuple _, _, h => h.elim
theorem VAll.scalars {S : Nat → Prop} {w : World} : ∀ (xs : List AV) (sz : Nat → Nat) (cs : List Value) (j : Nat), VAll S w sz j xs cs → ∀ c ∈ cs, scalar c = true
  | [], _, cs, _, h => by simp only [VAll] at h; subst h; simp
  | x :: xs, sz, cs, j, h => by
    obtain ⟨c1, c2, rfl, hv, _, hr⟩ := h
    intro c hc
    rcases List.mem_append.1 hc with hc | hc
    · exact VRel.scalars x c1 hv c hc
    · exact VAll.scalars xs sz c2 (j + 1) hr c hc
end

mutual
theorem flat_rel (S : Nat → Prop) (w : World) : ∀ (v : AV) (cs : List Value), flat v = some cs → VRel S w v cs
  | .int _ _, cs, h => by simp only [flat, Option.some.injEq] at h; subst h; simp only [VRel]
  | .bool _, cs, h => by simp only [flat, Option.some.injEq] at h; subst h; simp only [VRel]
  | .str _, cs, h => by simp only [flat, Option.some.injEq] at h; subst h; simp only [VRel]
  | .raw v, cs, h => by
    simp only [flat] at h
    split at h
    · rename_i hs; simp only [Option.some.injEq] at h; subst h; exact ⟨rfl, hs⟩
    · cases h
  | .sl sz t xs, cs, h => by
    cases xs <;> simp only [flat, Option.some.injEq, reduceCtorEq] at h
    subst h
    exact ⟨none, 0, rfl, by simp, fun _ => rfl, .inl rfl⟩
  | .arr sz n xs, cs, h => by
    simp only [flat] at h
    split at h
    · rename_i hn; exact ⟨hn, flats_rel S w xs _ cs _ h⟩
    · cases h
  | .struct szs xs, cs, h => by
    simp only [flat] at h
    split at h
    · rename_i hn; exact ⟨hn, flats_rel S w xs _ cs _ h⟩
    · cases h
  | .row .., _, h => by simp only [flat, reduceCtorEq] at h
  | .clo .., _, h => by simp only [flat, reduceCtorEq] at h
  | .ref .., _, h => by simp only [flat, reduceCtorEq] at h
  | .top, _, h => by simp only [flat, reduceCtorEq] at h
  | .own .., _, h => by simp only [flat, reduceCtorEq] at h
  | .osl _, _, h => by simp only [flat, reduceCtorEq] at h
  | .mutsl .., _, h => by simp only [flat, reduceCtorEq] at h
  | .mutp _, _, h => by simp only [flat, reduceCtorEq] at h
  | .fr .., _, h => by simp only [flat, reduceCtorEq] at h
  | .tuple _, _, h => by simp only [flat, reduceCtorEq] at h
theorem flats_rel (S : Nat → Prop) (w : World) : ∀ (xs : List AV) (sz : Nat → Nat) (cs : List Value) (j : Nat), flat.flats sz j xs = some cs → VAll S w sz j xs cs
  | [], _, cs, _, h => by simp only [flat.flats, Option.some.injEq] at h; subst h; simp only [VAll]
  | x :: xs, sz, cs, j, h => by
    simp only [flat.flats] at h
    split at h
    · rename_i a b ha hb
      split at h
      · rename_i hl
        simp only [Option.some.injEq] at h
        subst h
        exact ⟨a, b, rfl, flat_rel S w x a ha, hl, flats_rel S w xs sz b (j + 1) hb⟩
      · cases h
    · cases h
end

theorem oneCell_of_scalar {v : Value} (h : scalar v = true) : v.oneCell' = true := by cases v <;> first | rfl | (simp [scalar] at h)

theorem add_eq (k off n : Nat) : (⟨k, off, none⟩ : Addr).add n = ⟨k, off + n, none⟩ := by
  unfold Addr.add
  split
  · rename_i h; simp [h]
  · rfl

theorem run_loadReads {P : Program} {w : World} {k off : Nat} {cs : List Value} (h : Reads w k off cs) : (loadCells ⟨k, off, none⟩ cs.length).run P w = .ok cs.toArray w := by
  refine run_loadCells_list (P := P) w ⟨k, off, none⟩ cs fun j v hj => ?_
  rw [add_eq, h j (by have := List.getElem?_eq_some_iff.1 hj; exact this.1), hj]

theorem run_loadVar {P : Program} {w : World} {t : Nat} {i : TyA} (ht : TyOk P t i) {k off : Nat} {cs : List Value} (h : Reads w k off cs) (hl : cs.length = i.size) (h1 : i.agg = false → cs.length = 1) :
    (loadVar t ⟨k, off, none⟩).run P w = .ok (if i.agg then .agg cs.toArray else cs.headD undef) w := by
  simp only [loadVar, Sem.run_bind, ht.run_agg, Result.andThen_ok]
  cases e : i.agg with
  | true =>
    simp only [if_true, Sem.run_bind, ht.run_size, Result.andThen_ok, ← hl, run_loadReads h, Sem.run_pure]
  | false =>
    have hc := h1 e
    match cs, hc with
    | [c], _ =>
      have h0 := h 0 (by simp)
      simp only [Nat.add_zero, List.getElem?_cons_zero] at h0
      simp only [Bool.false_eq_true, if_false, run_load, h0, List.headD_cons]

theorem heap_setCell {w : World} {k j : Nat} {arr : Array Value} {T : TypeId} {f : Nat × Nat} (v : Value) (h : w.heap[k]? = some (.cells arr T f)) : (w.setCell ⟨k, j, none⟩ v).heap[k]? = some (.cells (arr.setIfInBounds j v) T f) := by
  simp only [World.setCell, Array.getElem?_modify, ↓reduceIte, h, Option.map_some]
  simp

theorem take_set_succ {α : Type} (l : List α) (n : Nat) (a : α) (h : n < l.length) : (l.set n a).take (n + 1) = l.take n ++ [a] := by
  induction l generalizing n with
  | nil => simp at h
  | cons x l ih =>
    cases n with
    | zero => simp
    | succ n => simp at h; simp [ih n h]

theorem run_storeCells {P : Program} {k off : Nat} {T : TypeId} : ∀ (vs : List Value) (i : Nat) (w : World) (arr : Array Value), w.heap[k]? = some (.cells arr T (0, 0)) → off + i + vs.length ≤ arr.size → (∀ v ∈ vs, scalar v = true) →
    ∃ w' arr', (storeCells ⟨k, off, none⟩ vs i).run P w = .ok () w' ∧ w'.heap[k]? = some (.cells arr' T (0, 0)) ∧ arr'.toList = arr.toList.take (off + i) ++ vs ++ arr.toList.drop (off + i + vs.length) ∧ Only (fun q => q = k) w w' ∧
      w'.heap.size = w.heap.size ∧ arr'.size = arr.size
  | [], i, w, arr, hb, hl, _ => ⟨w, arr, by simp [storeCells], hb, by simp, Only.refl _ _, rfl, rfl⟩
  | v :: vs, i, w, arr, hb, hl, hs => by
    have hlt : off + i < arr.size := by simp at hl; omega
    have hc : w.cell? ⟨k, off + i, none⟩ = some arr[off + i] := by
      simp [World.cell?, hb, hlt]
    have hf : w.frozen? ⟨k, off + i, none⟩ = false := by
      simp [World.frozen?, hb]
    have hb1 := heap_setCell (j := off + i) v hb
    have ho1 : Only (fun q => q = k) w (w.setCell ⟨k, off + i, none⟩ v) := ⟨rfl, rfl, rfl, by simp, fun q _ hq => by
      simp only [World.setCell, Array.getElem?_modify]
      rw [if_neg (fun e => hq e.symm)], fun _ => World.frozen?_setCell ..⟩
    obtain ⟨w', arr', hrun, hb', hl', ho', hs', hz'⟩ := run_storeCells (P := P) (k := k) (off := off) (T := T) vs (i + 1) (w.setCell ⟨k, off + i, none⟩ v) (arr.setIfInBounds (off + i) v) hb1 (by simp only [List.length_cons] at hl; simp only [Array.size_setIfInBounds]; omega) (fun c hc => hs c (by simp [hc]))
    refine ⟨w', arr', ?_, hb', ?_, ho1.trans ho', by rw [hs']; simp, by rw [hz']; simp⟩
    · simp only [storeCells, Sem.run_bind, add_eq, run_store P _ _ v .plain (oneCell_of_scalar (hs v (by simp))), hc, hf, Bool.false_eq_true, if_false, Result.andThen_ok]
      exact hrun
    · rw [hl']
      simp only [Array.toList_setIfInBounds]
      rw [show off + (i + 1) = off + i + 1 by omega, take_set_succ _ _ _ (by simpa using hlt), List.drop_set_of_lt (by omega)]
      simp [Nat.add_assoc, Nat.add_comm 1]

end Go.Abs
