/- Steps of memory under the abstract state: nothing, freezing, a new block, a store, an append in place, a draw: for every world. -/
import Derived.Test.YtacebpbhddkelaaAbsD
namespace Go.Abs

def updH (H : Hp) (u : Upd) : Hp := fun id => match look u id with
  | some x => x
  | none => H id

theorem updH_nil (H : Hp) : updH H [] = H := rfl
theorem updH_cons (H : Hp) (i : Nat) (x : Option Blk) (u : Upd) : updH H ((i, x) :: u) = fun id => if id = i then x else updH H u id := by
  funext id
  simp only [updH, look]
  by_cases h : i = id
  · subst h; simp
  · have : Nat.beq i id = false := by rw [← Bool.not_eq_true, Nat.beq_eq]; exact h
    rw [this, if_neg (fun e => h e.symm)]
theorem look_append {α : Type} : ∀ (u v : List (Nat × α)) (id : Nat), look (u ++ v) id = (look u id).or (look v id)
  | [], v, id => by simp [look]
  | (i, x) :: u, v, id => by
    simp only [List.cons_append, look]
    cases Nat.beq i id
    · simpa using look_append u v id
    · simp
theorem updH_append (H : Hp) (u v : Upd) : updH H (u ++ v) = updH (updH H v) u := by
  funext id
  simp only [updH, look_append]
  cases look u id <;> simp

structure Step (F : Nat → Prop) (ρ : Nat → Option Nat) (H : Hp) (B N : Nat → Prop) (w : World) (ρ' : Nat → Option Nat) (H' : Hp) (w' : World) : Prop where
  heap : HRel ρ' H' (fun k => B k ∨ (w.heap.size ≤ k ∧ k < w'.heap.size)) N w'
  keep : ∀ av v, (∀ id, F id → av.names id = false) → SlotRel ρ H (Sof ρ H B) w av v →
    SlotRel ρ' H' (Sof ρ' H' (fun k => B k ∨ (w.heap.size ≤ k ∧ k < w'.heap.size))) w' av v
  only : Only N w w'
  same : ∀ id b, ¬ F id → H' id = some b → ρ' id = ρ id ∧ ∃ b0, H id = some b0
  sof : ∀ k, Sof ρ H B k → Sof ρ' H' (fun k => B k ∨ (w.heap.size ≤ k ∧ k < w'.heap.size)) k
  kept : Keeps (Sof ρ H B) w w'

theorem Bgrow {B : Nat → Prop} {w w' w'' : World} (h : w.heap.size ≤ w'.heap.size) (h' : w'.heap.size ≤ w''.heap.size) :
    (fun k => (B k ∨ (w.heap.size ≤ k ∧ k < w'.heap.size)) ∨ (w'.heap.size ≤ k ∧ k < w''.heap.size)) = fun k => B k ∨ (w.heap.size ≤ k ∧ k < w''.heap.size) := by
  funext k
  apply propext
  constructor
  · rintro ((h1 | h1) | h1)
    · exact .inl h1
    · exact .inr ⟨h1.1, by omega⟩
    · exact .inr ⟨by omega, h1.2⟩
  · rintro (h1 | h1)
    · exact .inl (.inl h1)
    · by_cases hk : k < w'.heap.size
      · exact .inl (.inr ⟨h1.1, hk⟩)
      · exact .inr ⟨by omega, h1.2⟩

theorem Bsame {B : Nat → Prop} {w w' : World} (h : w'.heap.size = w.heap.size) : (fun k => B k ∨ (w.heap.size ≤ k ∧ k < w'.heap.size)) = B := by
  funext k
  apply propext
  constructor
  · rintro (h1 | h1)
    · exact h1
    · omega
  · exact .inl

theorem Step.trans {F G : Nat → Prop} {ρ ρ' ρ'' : Nat → Option Nat} {H H' H'' : Hp} {B N : Nat → Prop} {w w' w'' : World}
    (h : Step F ρ H B N w ρ' H' w') (g : Step G ρ' H' (fun k => B k ∨ (w.heap.size ≤ k ∧ k < w'.heap.size)) N w' ρ'' H'' w'') :
    Step (fun id => F id ∨ G id) ρ H B N w ρ'' H'' w'' := by
  have e := Bgrow (B := B) h.only.size g.only.size
  constructor
  · rw [← e]; exact g.heap
  · intro av v hn hs
    rw [← e]
    exact g.keep av v (fun id hid => hn id (.inr hid)) (h.keep av v (fun id hid => hn id (.inl hid)) hs)
  · exact h.only.trans g.only
  · intro id b hn hb
    obtain ⟨e2, b1, hb1⟩ := g.same id b (fun x => hn (.inr x)) hb
    obtain ⟨e1, b0, hb0⟩ := h.same id b1 (fun x => hn (.inl x)) hb1
    exact ⟨e2.trans e1, b0, hb0⟩
  · intro k hk
    rw [← e]; exact g.sof k (h.sof k hk)
  · intro a ha hv
    have h1 := h.kept a ha hv
    have h2 := g.kept a (h.sof _ ha) (by rw [h1]; exact hv)
    rw [h2, h1]

theorem Step.mono {F G : Nat → Prop} {ρ ρ' : Nat → Option Nat} {H H' : Hp} {B N : Nat → Prop} {w w' : World}
    (h : Step F ρ H B N w ρ' H' w') (hF : ∀ id, F id → G id) : Step G ρ H B N w ρ' H' w' :=
  ⟨h.heap, fun av v hn => h.keep av v fun id x => hn id (hF id x), h.only, fun id b hn => h.same id b fun x => hn (hF id x), h.sof, h.kept⟩

/-- Memory has not turned, and of own blocks some are frozen or forgotten. -/
theorem Step.frozen {ρ : Nat → Option Nat} {H H' : Hp} {B N : Nat → Prop} {w w' : World} (hr : HRel ρ H B N w) (hw : w'.heap = w.heap) (ho : w'.os = w.os ∧ w'.tape = w.tape ∧ w'.output = w.output)
    (hH : ∀ id b', H' id = some b' → ∃ b, H id = some b ∧ b.c = b'.c ∧ (b.fz = true → b'.fz = true)) : Step No ρ H B N w ρ H' w' := by
  have hB : (fun k => B k ∨ (w.heap.size ≤ k ∧ k < w'.heap.size)) = B := Bsame (by rw [hw])
  have hS : ∀ k, Sof ρ H B k → Sof ρ H' B k := fun k hk => ⟨hk.1, fun id b' hb' hf => by
    obtain ⟨b, hb, _, hfz⟩ := hH id b' hb'
    refine hk.2 id b hb ?_
    cases hbf : b.fz
    · rfl
    · rw [hfz hbf] at hf; cases hf⟩
  have hK : Keeps (Sof ρ H B) w w' := fun a _ _ => cell?_block (by rw [hw])
  refine ⟨?_, ?_, ⟨ho.1, ho.2.1, ho.2.2, by rw [hw]; exact Nat.le_refl _, fun k _ _ => by rw [hw], fun a => by simp only [World.frozen?, hw]⟩, fun id b _ hb => ⟨rfl, (hH id b hb).imp fun _ h => h.1⟩, by rw [hB]; exact hS, hK⟩
  · rw [hB]
    refine ⟨fun id b' hb' => ?_, fun i j bi bj k hi hj e1 e2 => ?_, fun k hk => by rw [hw]; exact hr.bound k hk⟩
    · obtain ⟨b, hb, hc, _⟩ := hH id b' hb'
      rcases hr.at_ id b hb with ⟨sz, h1, h2⟩ | ⟨k, arr, T, cs, ext, h1, h2, h3, h4, h5, h6⟩
      · exact .inl ⟨sz, by rw [← hc]; exact h1, h2⟩
      · exact .inr ⟨k, arr, T, cs, ext, h1, h2, h3, by rw [hw]; exact h4, h5, by rw [← hc]; exact VRel.keep hS hK _ _ h6⟩
    · obtain ⟨bi', hi', _⟩ := hH i bi hi
      obtain ⟨bj', hj', _⟩ := hH j bj hj
      exact hr.inj i j bi' bj' k hi' hj' e1 e2
  · rw [hB]
    intro av v hn hs
    refine slot_keep (F := No) hS hK (fun id b' hb' => .inr ?_) av v (fun id x => x.elim) hs
    obtain ⟨b, hb, hc, _⟩ := hH id b' hb'
    exact ⟨b, hb, rfl, fun sz xs e => ⟨xs, by rw [← hc]; exact e, rfl⟩, fun k arr T _ e => ⟨arr, T, by rw [hw]; exact e, rfl⟩⟩

theorem Step.refl {ρ : Nat → Option Nat} {H : Hp} {B N : Nat → Prop} {w : World} (hr : HRel ρ H B N w) : Step No ρ H B N w ρ H w :=
  Step.frozen hr rfl ⟨rfl, rfl, rfl⟩ fun _ b' hb => ⟨b', hb, rfl, id⟩

/-- Blocks that were not there before, none of them own. -/
theorem Step.grown {ρ : Nat → Option Nat} {H : Hp} {B N : Nat → Prop} {w w' : World} (hr : HRel ρ H B N w) (ho : Only No w w') : Step No ρ H B N w ρ H w' := by
  have hS : ∀ k, Sof ρ H B k → Sof ρ H (fun k => B k ∨ (w.heap.size ≤ k ∧ k < w'.heap.size)) k := fun k hk => ⟨.inl hk.1, hk.2⟩
  have hK : Keeps (Sof ρ H B) w w' := ho.keeps fun _ _ x => x
  have hb : ∀ (k : Nat) (arr : Array Value) (T : TypeId), w.heap[k]? = some (Obj.cells arr T (0, 0)) → w'.heap[k]? = some (Obj.cells arr T (0, 0)) := fun k arr T h => by
    have hk : k < w.heap.size := by
      rcases Nat.lt_or_ge k w.heap.size with h' | h'
      · exact h'
      · simp [Array.getElem?_eq_none h'] at h
    rw [ho.block k hk (fun x => x)]; exact h
  refine ⟨⟨fun id b hb' => ?_, fun i j bi bj k => hr.inj i j bi bj k, fun k hk => ?_⟩, fun av v hn hs => ?_, ho.mono fun _ _ x => x.elim, fun id b _ hb => ⟨rfl, b, hb⟩, hS, hK⟩
  · rcases hr.at_ id b hb' with h | ⟨k, arr, T, cs, ext, h1, h2, h3, h4, h5, h6⟩
    · exact .inl h
    · exact .inr ⟨k, arr, T, cs, ext, h1, .inl h2, h3, hb _ _ _ h4, h5, VRel.keep hS hK _ _ h6⟩
  · rcases hk with hk | hk
    · have := hr.bound k hk; have := ho.size; omega
    · exact hk.2
  · exact slot_keep (F := No) hS hK (fun id b' hb' => .inr ⟨b', hb', rfl, fun sz xs e => ⟨xs, e, rfl⟩, fun k arr T _ e => ⟨arr, T, hb _ _ _ e, rfl⟩⟩) av v (fun _ x => x.elim) hs

/-- A new block of the call's own. -/
theorem Step.alloc {ρ : Nat → Option Nat} {H : Hp} {B N : Nat → Prop} {w w' : World} (hr : HRel ρ H B N w) (ho : Only No w w') {n k : Nat} {c : AV} {arr : Array Value} {T : TypeId} {cs ext : List Value}
    (hk : w.heap.size ≤ k) (hk' : k < w'.heap.size) (hN : N k) (hb : w'.heap[k]? = some (.cells arr T (0, 0))) (he : arr.toList = cs ++ ext) (hv : VRel (Sof ρ H B) w c cs) :
    Step (fun id => id = n) ρ H B N w (fun i => if i = n then some k else ρ i) (fun i => if i = n then some ⟨c, false⟩ else H i) w' := by
  have hS : ∀ q, Sof ρ H B q → Sof (fun i => if i = n then some k else ρ i) (fun i => if i = n then some ⟨c, false⟩ else H i) (fun q => B q ∨ (w.heap.size ≤ q ∧ q < w'.heap.size)) q := by
    intro q hq
    refine ⟨.inl hq.1, fun id b hid hf => ?_⟩
    by_cases e : id = n
    · simp only [e, if_true]
      have := hr.bound q hq.1
      simp; omega
    · simp only [e, if_false] at hid ⊢
      exact hq.2 id b hid hf
  have hK : Keeps (Sof ρ H B) w w' := ho.keeps fun _ _ x => x
  have hold : ∀ (k : Nat) (arr : Array Value) (T : TypeId), w.heap[k]? = some (Obj.cells arr T (0, 0)) → w'.heap[k]? = some (Obj.cells arr T (0, 0)) := fun k arr T h => by
    have hk : k < w.heap.size := by
      rcases Nat.lt_or_ge k w.heap.size with h' | h'
      · exact h'
      · simp [Array.getElem?_eq_none h'] at h
    rw [ho.block k hk (fun x => x)]; exact h
  refine ⟨⟨fun id b hid => ?_, fun i j bi bj q hi hj e1 e2 => ?_, fun q hq => ?_⟩, fun av v hn hs => ?_, ho.mono fun _ _ x => x.elim, fun id b hn hid => ?_, hS, hK⟩
  · by_cases e : id = n
    · simp only [e, if_true, Option.some.injEq] at hid
      subst hid
      exact .inr ⟨k, arr, T, cs, ext, by simp [e], .inr ⟨hk, hk'⟩, hN, hb, he, VRel.keep hS hK _ _ hv⟩
    · simp only [e, if_false] at hid
      rcases hr.at_ id b hid with ⟨sz, h1, h2⟩ | ⟨q, arr, T, cs, ext, h1, h2, h3, h4, h5, h6⟩
      · exact .inl ⟨sz, h1, by simpa [e] using h2⟩
      · exact .inr ⟨q, arr, T, cs, ext, by simpa [e] using h1, .inl h2, h3, hold _ _ _ h4, h5, VRel.keep hS hK _ _ h6⟩
  · have key : ∀ id b, H id = some b → ρ id = some q → q < w.heap.size := fun id b hb hq => by
      rcases hr.at_ id b hb with ⟨sz, h1, h2⟩ | ⟨q', arr, T, cs, ext, h1, h2, _⟩
      · rw [h2] at hq; cases hq
      · rw [h1] at hq; cases hq; exact hr.bound _ h2
    by_cases ei : i = n <;> by_cases ej : j = n
    · rw [ei, ej]
    · simp only [ei, ej, if_true, if_false, Option.some.injEq] at e1 e2 hj
      have := key j bj hj e2; omega
    · simp only [ei, ej, if_true, if_false, Option.some.injEq] at e1 e2 hi
      have := key i bi hi e1; omega
    · simp only [ei, ej, if_false] at e1 e2 hi hj
      exact hr.inj i j bi bj q hi hj e1 e2
  · rcases hq with hq | hq
    · have := hr.bound q hq; have := ho.size; omega
    · exact hq.2
  · refine slot_keep (F := fun id => id = n) hS hK (fun id b' hb' => ?_) av v hn hs
    by_cases e : id = n
    · exact .inl e
    · simp only [e, if_false] at hb'
      exact .inr ⟨b', hb', if_neg e, fun sz xs e => ⟨xs, e, rfl⟩, fun q arr T _ e => ⟨arr, T, hold _ _ _ e, rfl⟩⟩
  · exact ⟨if_neg hn, b, by simpa only [if_neg hn] using hid⟩

/-- An empty row without a block. -/
theorem Step.empty {ρ : Nat → Option Nat} {H : Hp} {B N : Nat → Prop} {w : World} (hr : HRel ρ H B N w) (n sz : Nat) :
    Step (fun id => id = n) ρ H B N w (fun i => if i = n then none else ρ i) (fun i => if i = n then some ⟨.row sz [], false⟩ else H i) w := by
  have hB : (fun k => B k ∨ (w.heap.size ≤ k ∧ k < w.heap.size)) = B := Bsame rfl
  have hS : ∀ q, Sof ρ H B q → Sof (fun i => if i = n then none else ρ i) (fun i => if i = n then some ⟨.row sz [], false⟩ else H i) B q := by
    intro q hq
    refine ⟨hq.1, fun id b hid hf => ?_⟩
    by_cases e : id = n
    · simp [e]
    · simp only [e, if_false] at hid ⊢
      exact hq.2 id b hid hf
  have hK : Keeps (Sof ρ H B) w w := fun _ _ _ => rfl
  refine ⟨?_, ?_, Only.refl _ _, fun id b hn hid => ?_, by rw [hB]; exact hS, hK⟩
  · rw [hB]
    refine ⟨fun id b hid => ?_, fun i j bi bj q hi hj e1 e2 => ?_, hr.bound⟩
    · by_cases e : id = n
      · simp only [e, if_true, Option.some.injEq] at hid
        subst hid
        exact .inl ⟨sz, rfl, by simp [e]⟩
      · simp only [e, if_false] at hid
        rcases hr.at_ id b hid with ⟨sz, h1, h2⟩ | ⟨q, arr, T, cs, ext, h1, h2, h3, h4, h5, h6⟩
        · exact .inl ⟨sz, h1, by simpa [e] using h2⟩
        · exact .inr ⟨q, arr, T, cs, ext, by simpa [e] using h1, h2, h3, h4, h5, VRel.keep hS hK _ _ h6⟩
    · by_cases ei : i = n <;> by_cases ej : j = n
      · rw [ei, ej]
      · simp [ei] at e1
      · simp [ej] at e2
      · simp only [ei, ej, if_false] at e1 e2 hi hj
        exact hr.inj i j bi bj q hi hj e1 e2
  · rw [hB]
    intro av v hn hs
    refine slot_keep (F := fun id => id = n) hS hK (fun id b' hb' => ?_) av v hn hs
    by_cases e : id = n
    · exact .inl e
    · simp only [e, if_false] at hb'
      exact .inr ⟨b', hb', if_neg e, fun sz xs e => ⟨xs, e, rfl⟩, fun q arr T _ e => ⟨arr, T, e, rfl⟩⟩
  · exact ⟨if_neg hn, b, by simpa only [if_neg hn] using hid⟩

/-- An own block is written: it keeps its name (n = id), or comes under a new one, and the elder is forgotten. -/
theorem Step.write {ρ : Nat → Option Nat} {H : Hp} {B N : Nat → Prop} {w w' : World} (hr : HRel ρ H B N w) {id n k : Nat} {c c' : AV} (hid : H id = some ⟨c, false⟩) (hρ : ρ id = some k) (ho : Only (fun q => q = k) w w')
    (hsize : w'.heap.size = w.heap.size) {arr' : Array Value} {T' : TypeId} {cs' ext' : List Value} (hb : w'.heap[k]? = some (.cells arr' T' (0, 0)))
    (hsz : ∀ arr T, w.heap[k]? = some (Obj.cells arr T (0, 0)) → arr'.size = arr.size)
    (he : arr'.toList = cs' ++ ext') (hv : VRel (Sof ρ H B) w c' cs') (hrow : n = id → ∀ sz xs, c = .row sz xs → ∃ xs', c' = .row sz xs' ∧ xs'.length = xs.length) :
    Step (fun i => i = n ∧ n ≠ id) ρ H B N w (fun i => if i = n then some k else ρ i) (fun i => if i = n then some ⟨c', false⟩ else if i = id then none else H i) w' := by
  have hB : (fun k => B k ∨ (w.heap.size ≤ k ∧ k < w'.heap.size)) = B := Bsame hsize
  obtain ⟨hBk, hNk⟩ : B k ∧ N k := by
    rcases hr.at_ id _ hid with ⟨sz, h1, h2⟩ | ⟨q, arr, T, cs, ext, h1, h2, h3, _⟩
    · rw [h2] at hρ; cases hρ
    · rw [h1] at hρ; cases hρ; exact ⟨h2, h3⟩
  have hne : ∀ i b, i ≠ id → H i = some b → ρ i ≠ some k := fun i b hi hb hk => hi (hr.inj i id b _ k hb hid hk hρ)
  have hS : ∀ q, Sof ρ H B q → Sof (fun i => if i = n then some k else ρ i) (fun i => if i = n then some ⟨c', false⟩ else if i = id then none else H i) B q := by
    intro q hq
    refine ⟨hq.1, fun i b hi hf => ?_⟩
    by_cases e : i = n
    · simp only [e, if_true]
      have := hq.2 id _ hid rfl
      rw [hρ] at this; exact this
    · simp only [e, if_false] at hi ⊢
      by_cases e2 : i = id
      · simp [e2] at hi
      · simp only [e2, if_false] at hi; exact hq.2 i b hi hf
  have hK : Keeps (Sof ρ H B) w w' := ho.keeps fun q hq e => hq.2 id _ hid rfl (by rw [e]; exact hρ)
  have hold : ∀ (q : Nat) (arr : Array Value) (T : TypeId), q ≠ k → w.heap[q]? = some (Obj.cells arr T (0, 0)) → w'.heap[q]? = some (Obj.cells arr T (0, 0)) := fun q arr T hq h => by
    have hk : q < w.heap.size := by
      rcases Nat.lt_or_ge q w.heap.size with h' | h'
      · exact h'
      · simp [Array.getElem?_eq_none h'] at h
    rw [ho.block q hk hq]; exact h
  refine ⟨?_, ?_, ho.mono fun q _ e => by rw [e]; exact hNk, fun i b hn hi => ?_, by rw [hB]; exact hS, hK⟩
  · rw [hB]
    refine ⟨fun i b hi => ?_, fun i j bi bj q hi hj e1 e2 => ?_, fun q hq => by rw [hsize]; exact hr.bound q hq⟩
    · by_cases e : i = n
      · simp only [e, if_true, Option.some.injEq] at hi
        subst hi
        exact .inr ⟨k, arr', T', cs', ext', by simp [e], hBk, hNk, hb, he, VRel.keep hS hK _ _ hv⟩
      · simp only [e, if_false] at hi
        by_cases e2 : i = id
        · simp [e2] at hi
        · simp only [e2, if_false] at hi
          rcases hr.at_ i b hi with ⟨sz, h1, h2⟩ | ⟨q, arr, T, cs, ext, h1, h2, h3, h4, h5, h6⟩
          · exact .inl ⟨sz, h1, by simpa [e] using h2⟩
          · have hq : q ≠ k := fun x => hne i b e2 hi (by rw [h1, x])
            exact .inr ⟨q, arr, T, cs, ext, by simpa [e] using h1, h2, h3, hold _ _ _ hq h4, h5, VRel.keep hS hK _ _ h6⟩
    · by_cases ei : i = n <;> by_cases ej : j = n
      · rw [ei, ej]
      · simp only [ei, ej, if_true, if_false, Option.some.injEq] at e1 e2 hj
        by_cases e3 : j = id
        · simp [e3] at hj
        · simp only [e3, if_false] at hj
          exact (hne j bj e3 hj (by rw [e2, e1])).elim
      · simp only [ei, ej, if_true, if_false, Option.some.injEq] at e1 e2 hi
        by_cases e3 : i = id
        · simp [e3] at hi
        · simp only [e3, if_false] at hi
          exact (hne i bi e3 hi (by rw [e1, e2])).elim
      · simp only [ei, ej, if_false] at e1 e2 hi hj
        by_cases e3 : i = id
        · simp [e3] at hi
        · by_cases e4 : j = id
          · simp [e4] at hj
          · simp only [e3, e4, if_false] at hi hj
            exact hr.inj i j bi bj q hi hj e1 e2
  · rw [hB]
    intro av v hn hs
    refine slot_keep (F := fun i => i = n ∧ n ≠ id) hS hK (fun i b' hb' => ?_) av v hn hs
    by_cases e : i = n
    · by_cases e2 : n = id
      · right
        subst e; subst e2
        simp only [if_true, Option.some.injEq] at hb'
        subst hb'
        refine ⟨_, hid, by simp [hρ], fun sz xs e => hrow rfl sz xs e, fun q arr T hq hqa => ?_⟩
        rw [hρ] at hq; cases hq
        exact ⟨arr', T', hb, hsz arr T hqa⟩
      · exact .inl ⟨e, e2⟩
    · simp only [e, if_false] at hb'
      by_cases e2 : i = id
      · simp [e2] at hb'
      · simp only [e2, if_false] at hb'
        exact .inr ⟨b', hb', if_neg e, fun sz xs e => ⟨xs, e, rfl⟩, fun q arr T hq e => ⟨arr, T, hold _ _ _ (fun x => hne i b' e2 hb' (by rw [hq, x])) e, rfl⟩⟩
  · by_cases e : i = n
    · have e2 : n = id := Classical.byContradiction fun x => hn ⟨e, x⟩
      subst e; subst e2
      simp only [if_true]
      exact ⟨hρ.symm, _, hid⟩
    · simp only [e, if_false] at hi
      by_cases e2 : i = id
      · simp [e2] at hi
      · simp only [e2, if_false] at hi
        exact ⟨if_neg e, b, hi⟩

end Go.Abs
