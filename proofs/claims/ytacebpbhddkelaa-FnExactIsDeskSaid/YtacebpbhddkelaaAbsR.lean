/- Forgetting dead slots, renaming blocks, and runs of code: sound for every program and world. -/
import Derived.Test.YtacebpbhddkelaaAbsT
namespace Go.Abs
section
variable {P : Program} {T : Tys} {fr : Fr} {σ : St} {a : Act} {w : World}

theorem look_map {α β : Type} (f : α → β) : ∀ (l : List (Nat × α)) (k : Nat), look (l.map fun q => (q.1, f q.2)) k = (look l k).map f
  | [], _ => rfl
  | (j, a) :: l, k => by
    simp only [List.map_cons, look]
    cases Nat.beq j k
    · exact look_map f l k
    · rfl

theorem keepEnv_look (L : List Nat) (t : Nat) (v : AV) (h : look (keepEnv σ L) t = some v) : look σ.env t = some v := by
  induction L with
  | nil => simp [keepEnv, look] at h
  | cons t0 L ih =>
    simp only [keepEnv] at h
    split at h
    · rename_i v0 e0
      split at h
      · simp only [look] at h
        split at h
        · rename_i e; have := Nat.eq_of_beq_eq_true e; subst this; rw [e0]; exact h
        · exact ih h
      · exact ih h
    · exact ih h
theorem keepEnv_mem (L : List Nat) : ∀ q ∈ keepEnv σ L, look σ.env q.1 = some q.2 := by
  induction L with
  | nil => simp [keepEnv]
  | cons t0 L ih =>
    simp only [keepEnv]
    split
    · rename_i v0 e0
      split
      · intro q hq
        rcases List.mem_cons.1 hq with rfl | hq
        · exact e0
        · exact ih q hq
      · exact ih
    · exact ih

structure Names (σ : St) (m : List (Nat × Nat)) : Prop where
  lt : ∀ q ∈ m, q.1 < 1000000 ∧ q.2 < 1000000
  env : ∀ q ∈ m, ∃ v, look σ.env q.1 = some v ∧ nameOf v = some q.2
  inj : ∀ p ∈ m, ∀ q ∈ m, p.2 = q.2 → p.1 = q.1

theorem Names.first {m : List (Nat × Nat)} (h : Names σ m) {t : Nat} {v : AV} (ht : look σ.env t = some v) : Names σ (firstName t m v) := by
  unfold firstName
  split
  · rename_i id hid
    split
    · exact h
    · rename_i hc
      simp only [Bool.or_eq_true, not_or, Bool.not_eq_true] at hc
      obtain ⟨⟨h1, h2⟩, h3⟩ := hc
      have g1 : id < 1000000 := by
        have : ¬ Nat.ble 1000000 id = true := by rw [h1]; simp
        rw [Nat.ble_eq] at this; omega
      have g2 : t < 1000000 := by
        have : ¬ Nat.ble 1000000 t = true := by rw [h2]; simp
        rw [Nat.ble_eq] at this; omega
      have g3 : ∀ q ∈ m, q.2 ≠ id := by
        intro q hq e
        have := List.any_eq_false.1 h3 q hq
        rw [e] at this; simp at this
      refine ⟨fun q hq => ?_, fun q hq => ?_, fun p hp q hq e => ?_⟩
      · rcases List.mem_append.1 hq with hq | hq
        · exact h.lt q hq
        · simp at hq; subst hq; exact ⟨g2, g1⟩
      · rcases List.mem_append.1 hq with hq | hq
        · exact h.env q hq
        · simp at hq; subst hq; exact ⟨v, ht, hid⟩
      · rcases List.mem_append.1 hp with hp | hp <;> rcases List.mem_append.1 hq with hq | hq
        · exact h.inj p hp q hq e
        · simp at hq; subst hq; exact (g3 p hp e).elim
        · simp at hp; subst hp; exact (g3 q hq e.symm).elim
        · simp at hp hq; rw [hp, hq]
  · exact h

theorem Names.all : ∀ (env : List (Nat × AV)) (m : List (Nat × Nat)), Names σ m → (∀ q ∈ env, look σ.env q.1 = some q.2) → Names σ (keepNames m env)
  | [], m, h, _ => h
  | (t, v) :: env, m, h, he => Names.all env _ (h.first (he (t, v) (by simp))) fun q hq => he q (by simp [hq])

theorem newName_spec {m : List (Nat × Nat)} : ∀ {id n : Nat}, newName m id = some n → (n, id) ∈ m ∨ (n = id ∧ 1000000 ≤ id) := by
  induction m with
  | nil =>
    intro id n h
    simp only [newName] at h
    split at h
    · rename_i hb; simp at h; exact .inr ⟨h.symm, Nat.le_of_ble_eq_true hb⟩
    · cases h
  | cons q m ih =>
    obtain ⟨j, o⟩ := q
    intro id n h
    simp only [newName] at h
    split at h
    · rename_i e
      have := Nat.eq_of_beq_eq_true e
      simp at h; subst h; subst this; simp
    · rcases ih h with h | h
      · exact .inl (List.mem_cons_of_mem _ h)
      · exact .inr h

theorem keepPids_look : ∀ (H : List (Nat × Option Blk)) (seen : List Nat) (id : Nat) (x : Option Blk), look (keepPids σ H seen) id = some x → x = σ.h id ∧ 1000000 ≤ id
  | [], _, _, _, h => by simp [keepPids, look] at h
  | (j, y) :: H, seen, id, x, h => by
    simp only [keepPids] at h
    split at h
    · rename_i hc
      simp only [Bool.and_eq_true] at hc
      simp only [look] at h
      split at h
      · rename_i e
        have := Nat.eq_of_beq_eq_true e
        subst this
        simp at h; exact ⟨h.symm, Nat.le_of_ble_eq_true hc.1⟩
      · exact keepPids_look H _ id x h
    · exact keepPids_look H _ id x h

theorem look_of_mem_names {m : List (Nat × Nat)} (hn : Names σ m) {n o : Nat} (h : (n, o) ∈ m) : look m n = some o := by
  have key : ∀ (l : List (Nat × Nat)), (∀ q ∈ l, q ∈ m) → (n, o) ∈ l → look l n = some o := by
    intro l
    induction l with
    | nil => intro _ h; simp at h
    | cons q l ih =>
      obtain ⟨j, y⟩ := q
      intro hl h
      simp only [look]
      split
      · rename_i e
        have hj := Nat.eq_of_beq_eq_true e
        subst hj
        obtain ⟨v, h1, h2⟩ := hn.env _ (hl (j, y) (by simp))
        have hno : (j, o) ∈ m := hl _ h
        obtain ⟨v', h3, h4⟩ := hn.env _ hno
        simp only at h1 h3
        rw [h1] at h3; cases h3
        simp only at h2 h4
        rw [h2] at h4; simpa using h4
      · rename_i e
        rcases List.mem_cons.1 h with h | h
        · cases h
          have : Nat.beq n n = true := Nat.beq_refl n
          rw [this] at e; cases e
        · exact ih (fun q hq => hl q (by simp [hq])) h
  exact key m (fun _ h => h) h

theorem RelF.keep (L : List Nat) (hr : RelF fr σ a w) : RelF fr (σ.keep L) a w := by
  obtain ⟨⟨ρ, h1, h2, h3⟩, h4, h5, h6⟩ := hr
  have hN : Names σ (keepNames [] (keepEnv σ L)) := Names.all _ _ ⟨by simp, by simp, by simp⟩ (keepEnv_mem L)
  generalize hm : keepNames [] (keepEnv σ L) = m at hN
  let ρ' : Nat → Option Nat := fun id => match look m id with
    | some o => ρ o
    | none => ρ id
  have hH : ∀ id b, (σ.keep L).h id = some b → (∃ o, (id, o) ∈ m ∧ look m id = some o ∧ σ.h o = some b) ∨ (look m id = none ∧ 1000000 ≤ id ∧ σ.h id = some b) := by
    intro id b hb
    simp only [St.keep, St.h, hm] at hb
    rw [look_append] at hb
    have e1 : look (m.map fun q => (q.1, σ.h q.2)) id = (look m id).map σ.h := look_map σ.h m id
    change ((look (m.map fun q => (q.1, σ.h q.2)) id).or _).getD none = some b at hb
    rw [e1] at hb
    cases hl : look m id with
    | some o => rw [hl] at hb; simp at hb; exact .inl ⟨o, look_mem _ _ _ hl, rfl, hb⟩
    | none =>
      rw [hl] at hb
      simp only [Option.map_none, Option.none_or] at hb
      cases hk : look (keepPids σ σ.H []) id with
      | none => rw [hk] at hb; simp at hb
      | some x =>
        rw [hk] at hb; simp at hb
        obtain ⟨e2, e3⟩ := keepPids_look _ _ _ _ hk
        exact .inr ⟨rfl, e3, by rw [← e2]; exact hb⟩
  have hold : ∀ id b, (σ.keep L).h id = some b → ∃ o, σ.h o = some b ∧ ρ' id = ρ o := by
    intro id b hb
    rcases hH id b hb with ⟨o, _, hl, ho⟩ | ⟨hl, _, ho⟩
    · exact ⟨o, ho, by simp only [ρ', hl]⟩
    · exact ⟨id, ho, by simp only [ρ', hl]⟩
  have hS : ∀ k, Sof ρ σ.h (fun k => fr.B0 k ∨ (fr.w0.heap.size ≤ k ∧ k < w.heap.size)) k → Sof ρ' (σ.keep L).h (fun k => fr.B0 k ∨ (fr.w0.heap.size ≤ k ∧ k < w.heap.size)) k := by
    intro k hk
    refine ⟨hk.1, fun id b hb hf => ?_⟩
    obtain ⟨o, ho, e⟩ := hold id b hb
    rw [e]; exact hk.2 o b ho hf
  have hK : Keeps (Sof ρ σ.h (fun k => fr.B0 k ∨ (fr.w0.heap.size ≤ k ∧ k < w.heap.size))) w w := fun _ _ _ => rfl
  refine ⟨⟨ρ', ⟨fun id b hb => ?_, fun i j bi bj k hi hj e1 e2 => ?_, h1.bound⟩, fun t => ?_, fun i b hb => ?_⟩, h4, h5, h6⟩
  · obtain ⟨o, ho, e⟩ := hold id b hb
    rcases h1.at_ o b ho with ⟨sz, g1, g2⟩ | ⟨k, arr, Ty, cs, ext, g1, g2, g3, g4, g5, g6⟩
    · exact .inl ⟨sz, g1, by rw [e]; exact g2⟩
    · exact .inr ⟨k, arr, Ty, cs, ext, by rw [e]; exact g1, g2, g3, g4, g5, VRel.keep hS hK _ _ g6⟩
  · rcases hH i bi hi with ⟨o, hmo, hl, ho⟩ | ⟨hl, hp, ho⟩ <;> rcases hH j bj hj with ⟨o', hmo', hl', ho'⟩ | ⟨hl', hp', ho'⟩
    · simp only [ρ', hl, hl'] at e1 e2
      have := h1.inj o o' bi bj k ho ho' e1 e2
      exact hN.inj _ hmo _ hmo' this
    · simp only [ρ', hl, hl'] at e1 e2
      have := h1.inj o j bi bj k ho ho' e1 e2
      have := (hN.lt _ hmo).2
      simp only at this; omega
    · simp only [ρ', hl, hl'] at e1 e2
      have := h1.inj i o' bi bj k ho ho' e1 e2
      have := (hN.lt _ hmo').2
      simp only at this; omega
    · simp only [ρ', hl, hl'] at e1 e2
      exact h1.inj i j bi bj k ho ho' e1 e2
  · have he : (σ.keep L).e t = ((look (keepEnv σ L) t).map (rename m)).getD .top := by
      simp only [St.keep, St.e, hm]
      rw [look_map]
    rw [he]
    cases hl : look (keepEnv σ L) t with
    | none => simp [SlotRel]
    | some v =>
      have hv := keepEnv_look L t v hl
      have hrel := h2 t
      have : σ.e t = v := by simp [St.e, hv]
      rw [this] at hrel
      simp only [Option.map_some, Option.getD_some]
      -- a name that is kept
      have hname : ∀ id n, newName m id = some n → ρ' n = ρ id ∧ ∀ b, (σ.keep L).h n = some b → σ.h id = some b := by
        intro id n hn
        rcases newName_spec hn with hmem | ⟨rfl, hge⟩
        · have hln := look_of_mem_names hN hmem
          refine ⟨by simp only [ρ', hln], fun b hb => ?_⟩
          rcases hH n b hb with ⟨o, _, hl, ho⟩ | ⟨hl, _, ho⟩
          · rw [hln] at hl; cases hl; exact ho
          · rw [hln] at hl; cases hl
        · have hno : look m n = none := by
            cases hl : look m n with
            | none => rfl
            | some o =>
              have := (hN.lt _ (look_mem _ _ _ hl)).1
              simp only at this; omega
          refine ⟨by simp only [ρ', hno], fun b hb => ?_⟩
          rcases hH n b hb with ⟨o, _, hl, ho⟩ | ⟨hl, _, ho⟩
          · rw [hno] at hl; cases hl
          · exact ho
      cases v <;> simp only [rename] <;> try (first | exact slot_plain hrel rfl hS | exact hrel.elim | trivial)
      case own id p o =>
        split
        · rename_i n hn
          obtain ⟨e1, e2⟩ := hname id n hn
          intro b hb
          rw [e1]; exact hrel b (e2 b hb)
        · simp only [SlotRel]
      case osl id =>
        split
        · rename_i n hn
          obtain ⟨e1, e2⟩ := hname id n hn
          intro b hb
          rw [e1]; exact hrel b (e2 b hb)
        · simp only [SlotRel]
  · rcases hH _ b hb with ⟨o, hmo, hl, ho⟩ | ⟨hl, _, ho⟩
    · have := (hN.lt _ hmo).1
      simp only [pid] at this; omega
    · simp only [ρ', hl]; exact h3 i b ho

theorem RelF.keepFor (L : Live) (c : ACode) (hr : RelF fr σ a w) : RelF fr (keepFor L c σ) a w := by
  unfold Abs.keepFor
  split
  · split
    · exact hr.keep _
    · exact hr
  · exact hr

def Xr : Exit → AEx → Prop
  | .normal, .normal => True
  | .exit i, .exit j => i = j
  | .ret, .ret => True
  | _, _ => False

def Post (fr : Fr) (Q : AEx → St → Prop) (ex : Exit) (a : Act) (w : World) : Prop := ∃ ex' σ', Xr ex ex' ∧ Q ex' σ' ∧ RelF fr σ' a w

theorem acode_sound (g : Good P T) (hn : fr.n ≤ 999999) (hN : ∀ k, fr.w0.heap.size ≤ k → fr.N k) (m : List (Nat × Nat)) (L : Live) : ∀ (c : Code) (σ : St) (Q : AEx → St → Prop) (a : Act) (w : World),
    acode P T L (strip m c) σ Q → (strip m c).dstOk fr.n = true → RelF fr σ a w → c.wp P (Post fr Q) a w := by
  intro c
  induction c with
  | skip => intro σ Q a w h _ hr; exact wp_skip ⟨.normal, σ, trivial, h, hr⟩
  | region id ops draw =>
    intro σ Q a w h hd hr
    cases draw with
    | true =>
      obtain ⟨ts, h1, h2⟩ := h
      obtain ⟨xs, σF, h3, hl, hch⟩ := chain_of _ _ _ _ h2
      refine wp_region_any g.mixed (any_sound g hn hN (m := m) rfl hl h1 hch ?_ (fun a w hr => ⟨.normal, σF, trivial, h3, hr⟩) _ _ σ a _ (by simp) ?_ ?_ ?_ (hr.drawn g hN))
      · simpa [strip, ACode.dstOk] using hd
      · refine Nat.le_trans (List.count_le_length) ?_
        simp
      · intro i o _ hli
        exfalso
        simp only [Array.getD_eq_getD_getElem?, Array.getElem?_replicate] at hli
        split at hli <;> simp at hli
      · have : (fun i => (Array.replicate ops.size false).getD i false = true) = fun _ => False := by
          funext i
          apply propext
          simp only [Array.getD_eq_getD_getElem?, Array.getElem?_replicate]
          split <;> simp
        rw [this]; exact Agrees.none σ
    | false =>
      refine wp_region ?_
      rw [List.range_eq_range']
      have h2 : aops P T (ops.toList.map (stripOper m false ops)) σ (Q .normal) := h
      refine ops_sound g hn hN (K := Q .normal) (m := m) (draw := false) (fun σ a w hq hr => ⟨.normal, σ, trivial, hq, hr⟩) ops.size 0 σ a w (by omega) (by simpa using h2) ?_ hr
      simpa [strip, ACode.dstOk] using hd
  | seq x y ihx ihy =>
    intro σ Q a w h hd hr
    simp only [strip, ACode.dstOk, Bool.and_eq_true] at hd
    refine wp_seq (wp_mono (ihx σ _ a w h hd.1 hr) ?_)
    rintro ex a' w' ⟨ex', σ', hx, hq, hr'⟩
    cases ex <;> cases ex' <;> simp only [Xr] at hx <;> try exact hx.elim
    · exact ihy _ Q a' w' hq hd.2 (hr'.keepFor L _)
    · exact ⟨.exit _, σ', hx, hq, hr'⟩
    · exact ⟨.ret, σ', trivial, hq, hr'⟩
  | cond c x y ihx ihy =>
    intro σ Q a w h hd hr
    simp only [strip, ACode.dstOk, Bool.and_eq_true] at hd
    simp only [strip, acode] at h
    obtain ⟨ρ, cx, _, _⟩ := hr.cx g hN
    have hc := cx.rel c
    split at h
    · rename_i e; rw [e] at hc; exact wp_cond_true hc (ihx σ Q a w h hd.1 hr)
    · rename_i e; rw [e] at hc; exact wp_cond_false hc (ihy σ Q a w h hd.2 hr)
    · exact h.elim
  | block id x ih =>
    intro σ Q a w h hd hr
    refine wp_block (wp_mono (ih σ _ a w h hd hr) ?_)
    rintro ex a' w' ⟨ex', σ', hx, hq, hr'⟩
    cases ex <;> cases ex' <;> simp only [Xr] at hx <;> try exact hx.elim
    · exact ⟨.normal, σ', trivial, hq, hr'⟩
    · subst hx
      simp only [blockK] at hq
      simp only [Exit.inBlock]
      split at hq
      · rename_i e; rw [if_pos e]; exact ⟨.normal, σ', trivial, hq, hr'⟩
      · rename_i e; rw [if_neg e]; exact ⟨.exit _, σ', rfl, hq, hr'⟩
    · exact ⟨.ret, σ', trivial, hq, hr'⟩
  | loop x ih =>
    intro σ Q a w h hd hr
    simp only [strip, acode] at h
    have key := h (fun σ' => ∀ a w, RelF fr σ' a w → ∀ (b : Frame) (k : List Item) (cs : List Frame), ∃ e a' w', Post fr Q e a' w' ∧ Arrives P (lone (b.at a (.code x :: .inLoop x :: k)) cs w) b k cs e a' w') ?_
    · intro b k cs
      obtain ⟨e, a', w', hq, harr⟩ := key a w (hr.keepFor L _) b k cs
      exact ⟨e, a', w', hq, .of_steps (.one step_loop) harr⟩
    · intro σ' hb a w hr' b k cs
      obtain ⟨e, a₁, w₁, ⟨ex', σ'', hx, hq, hr''⟩, harr⟩ := ih σ' _ a w hb hd hr' b (.inLoop x :: k) cs
      cases e <;> cases ex' <;> simp only [Xr] at hx <;> try exact hx.elim
      · obtain ⟨e₂, a₂, w₂, hq₂, harr₂⟩ := hq a₁ w₁ (hr''.keepFor L _) b k cs
        exact ⟨e₂, a₂, w₂, hq₂, .of_steps (Steps.trans harr (.one step_inLoop)) harr₂⟩
      · exact ⟨.exit _, a₁, w₁, ⟨.exit _, σ'', hx, hq, hr''⟩, .pass (x := .inLoop x) rfl (fun _ _ => .inl (by simp)) harr⟩
      · exact ⟨.ret, a₁, w₁, ⟨.ret, σ'', trivial, hq, hr''⟩, .pass (x := .inLoop x) rfl (fun _ _ => .inl (by simp)) harr⟩
  | exit id => intro σ Q a w h _ hr; exact wp_exit ⟨.exit id, σ, rfl, h, hr⟩
  | ret => intro σ Q a w h _ hr; exact wp_ret ⟨.ret, σ, trivial, h, hr⟩
  | _ => intro σ Q a w h; exact h.elim

end
end Go.Abs
