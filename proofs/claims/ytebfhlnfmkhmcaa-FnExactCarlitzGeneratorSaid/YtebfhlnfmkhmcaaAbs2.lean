/- Own texts, put together. -/
import Derived.Test.YtebfhlnfmkhmcaaAbs1
set_option linter.unusedSimpArgs false
set_option linter.unusedVariables false
/- Abstract runs are sound, and a function's abstract run gives its contract: for every program and world. -/
namespace Go.Abs
section
variable {P : Program} {T : Tys} {fr : Fr} {σ : St} {a : Act} {w : World}

mutual
/-- Nothing in it points anywhere: any memory will do. -/
theorem VRel.noRef {S S' : Nat → Prop} {w w' : World} : ∀ (v : AV) (cs : List Value), NoRef v → VRel S w v cs → VRel S' w' v cs
  | .int .., _, _, h => h
  | .bool _, _, _, h => h
  | .str _, _, _, h => h
  | .raw _, _, _, h => h
  | .arr _ _ xs, cs, hn, h => ⟨h.1, VAll.noRef xs _ cs _ hn h.2⟩
  | .struct _ xs, cs, hn, h => ⟨h.1, VAll.noRef xs _ cs _ hn h.2⟩
  | .row _ xs, cs, hn, h => VAll.noRef xs _ cs _ hn h
  | .sl _ _ xs, _, hn, ⟨a, cap, e, l, t, _⟩ => ⟨a, cap, e, l, t, .inl hn⟩
  | .osl _, _, _, h => h.elim
  | .tuple _, _, _, h => h.elim
  | .top, _, hn, _ => hn.elim
  | .clo .., _, hn, _ => hn.elim
  | .ref .., _, hn, _ => hn.elim
  | .own .., _, hn, _ => hn.elim
  | .mutsl .., _, hn, _ => hn.elim
  | .mutp _, _, hn, _ => hn.elim
  | .fr .., _, hn, _ => hn.elim
  | .oclo .., _, hn, _ => hn.elim
  | .mclo .., _, hn, _ => hn.elim
theorem VAll.noRef {S S' : Nat → Prop} {w w' : World} : ∀ (xs : List AV) (sz : Nat → Nat) (cs : List Value) (j : Nat), NoRefs xs → VAll S w sz j xs cs → VAll S' w' sz j xs cs
  | [], _, _, _, _, h => h
  | v :: xs, sz, _, j, hn, ⟨c1, c2, e, hv, l, r⟩ => ⟨c1, c2, e, VRel.noRef v c1 hn.1 hv, l, VAll.noRef xs sz c2 (j + 1) hn.2 r⟩
end

theorem slot_ren1 {ρ ρ' : Nat → Option Nat} {H H' : Hp} {S S' : Nat → Prop} {v : AV} {c : Value} {n d : Nat} (hv : okRes n v = true) (h : SlotRel ρ H S w v c) (hS : (∀ k, S k → S' k) ∨ NoRef v)
    (ho : ∀ j, j < n → H' (nid d j) = H (fid j) ∧ ρ' (nid d j) = ρ (fid j)) : SlotRel ρ' H' S' w (renF d v) c := by
  have plain : v.plain = true → SlotRel ρ' H' S' w v c := fun hp => by
    rcases hS with hS | hS
    · exact slot_plain h hp hS
    · obtain ⟨cs, h1, rfl, _⟩ := vrel_of_slot h hp
      exact slot_of_vrel (VRel.noRef _ _ hS h1) hp
  cases v
  case osl id =>
    simp only [okRes, Bool.and_eq_true] at hv
    have h1 := Nat.le_of_ble_eq_true hv.1
    have h2 := Nat.le_of_ble_eq_true hv.2
    obtain ⟨j, rfl⟩ : ∃ j, id = fid j := ⟨id - 2000000, by unfold fid; omega⟩
    have hj : j < n := by unfold fid at h2; omega
    have e : renF d (.osl (fid j)) = .osl (nid d j) := by simp only [renF]; rw [show fid j - 2000000 = j by unfold fid; omega]
    rw [e]
    intro b hb
    rw [(ho j hj).1] at hb
    rw [(ho j hj).2]
    exact h b hb
  case own id p oo =>
    simp only [okRes, Bool.and_eq_true] at hv
    obtain ⟨_, h1', h2'⟩ := hv
    have h1 := Nat.le_of_ble_eq_true h1'
    have h2 := Nat.le_of_ble_eq_true h2'
    obtain ⟨j, rfl⟩ : ∃ j, id = fid j := ⟨id - 2000000, by unfold fid; omega⟩
    have hj : j < n := by unfold fid at h2; omega
    have e : renF d (.own (fid j) p oo) = .own (nid d j) p oo := by simp only [renF]; rw [show fid j - 2000000 = j by unfold fid; omega]
    rw [e]
    intro b hb
    rw [(ho j hj).1] at hb
    rw [(ho j hj).2]
    exact h b hb
  all_goals first | exact plain rfl | exact h.elim | trivial | (simp [okRes] at hv)
theorem blk_noRef {q : Nat × List AV} (h : NoRefs q.2) : NoRef (blkOf q) := by
  unfold blkOf
  split
  · exact h.1
  · exact h
theorem slot_ren {ρ ρ' : Nat → Option Nat} {H H' : Hp} {S S' : Nat → Prop} {v : AV} {c : Value} {n d : Nat} (hv : okRess n v = true) (h : SlotRel ρ H S w v c) (hS : (∀ k, S k → S' k) ∨ NoRef v)
    (ho : ∀ j, j < n → H' (nid d j) = H (fid j) ∧ ρ' (nid d j) = ρ (fid j)) : SlotRel ρ' H' S' w (ren d v) c := by
  cases v
  case tuple xs =>
    obtain ⟨vs, rfl, h⟩ := h
    refine ⟨vs, rfl, ?_⟩
    simp only [okRess] at hv
    have hS' : (∀ k, S k → S' k) ∨ NoRefs xs := hS
    clear hS
    induction xs generalizing vs with
    | nil => exact h
    | cons x xs ih =>
      obtain ⟨c, rest, rfl, h1, h2⟩ := h
      simp only [List.all_cons, Bool.and_eq_true] at hv
      exact ⟨c, rest, rfl, slot_ren1 hv.1 h1 (hS'.imp id And.left) ho, ih hv.2 rest h2 (hS'.imp id And.right)⟩
  all_goals (refine slot_ren1 (n := n) ?_ h hS ho; exact hv)

/-- What a call does to the caller's blocks: φ tells the callee's name for a block that it wrote or made; F are the new ones. -/
theorem Step.call {ρ : Nat → Option Nat} {H : Hp} {B N : Nat → Prop} {w w' : World} (hr : HRel ρ H B N w) {B0 N0 F : Nat → Prop} {ρc : Nat → Option Nat} {Hc : Hp} {φ : Nat → Option Nat}
    (hc : HRel ρc Hc (fun k => B0 k ∨ (w.heap.size ≤ k ∧ k < w'.heap.size)) N0 w') (hNN : ∀ k, w.heap.size ≤ k → N k) (hB0 : ∀ k, B0 k → B k)
    (hN0 : ∀ k, N0 k → (∃ id c, φ id = some c ∧ ¬ F id ∧ ρ id = some k) ∨ w.heap.size ≤ k) (only : Only N0 w w')
    (hinj : ∀ i j c, φ i = some c → φ j = some c → i = j)
    (hF : ∀ id c, φ id = some c → F id → H id = none ∧ ∀ k, ρc c = some k → w.heap.size ≤ k ∨ ∃ x y, φ x = some y ∧ ¬ F x ∧ ρ x = some k)
    (hM : ∀ id c, φ id = some c → ¬ F id → ρc c = ρ id ∧ ∃ c0, H id = some ⟨c0, false⟩ ∧ ∀ b, Hc c = some b → ∀ sz xs, c0 = .row sz xs → ∃ xs', b.c = .row sz xs' ∧ xs'.length = xs.length)
    (hV : ∀ id c b cs, φ id = some c → Hc c = some b → VRel (Sof ρc Hc (fun k => B0 k ∨ (w.heap.size ≤ k ∧ k < w'.heap.size))) w' b.c cs →
      VRel (Sof (fun id => match φ id with | some c => ρc c | none => ρ id) (fun id => match φ id with | some c => Hc c | none => H id) (fun k => B k ∨ (w.heap.size ≤ k ∧ k < w'.heap.size))) w' b.c cs) :
    Step F ρ H B N w (fun id => match φ id with | some c => ρc c | none => ρ id) (fun id => match φ id with | some c => Hc c | none => H id) w' := by
  have hmut : ∀ id c k, φ id = some c → ¬ F id → ρ id = some k → B k ∧ N k ∧ ∀ j b, H j = some b → ρ j = some k → j = id := by
    intro id c k h1 h2 h3
    obtain ⟨_, c0, h4, _⟩ := hM id c h1 h2
    rcases hr.at_ id _ h4 with ⟨sz, _, g⟩ | ⟨q, arr, T, cs, ext, g1, g2, g3, _⟩
    · rw [g] at h3; cases h3
    · rw [g1] at h3; cases h3
      exact ⟨g2, g3, fun j b hj hk => hr.inj j id b _ _ hj h4 hk g1⟩
  have hN0N : ∀ k, N0 k → N k := fun k hk => by
    rcases hN0 k hk with ⟨id, c, h1, h2, h3⟩ | h
    · exact (hmut id c k h1 h2 h3).2.1
    · exact hNN k h
  have hS2 : ∀ k, Sof ρ H B k → Sof (fun id => match φ id with | some c => ρc c | none => ρ id) (fun id => match φ id with | some c => Hc c | none => H id) (fun k => B k ∨ (w.heap.size ≤ k ∧ k < w'.heap.size)) k := by
    intro k hk
    refine ⟨.inl hk.1, fun id b hid hf e => ?_⟩
    cases hφ : φ id with
    | none => simp only [hφ] at hid e; exact hk.2 id b hid hf e
    | some c =>
      simp only [hφ] at hid e
      by_cases hFi : F id
      · rcases (hF id c hφ hFi).2 k e with h1 | ⟨x, y, hx, hxF, hxk⟩
        · have := hr.lt k hk.1
          omega
        · obtain ⟨_, c0, h2, _⟩ := hM x y hx hxF
          exact hk.2 x _ h2 rfl hxk
      · obtain ⟨h1, c0, h2, _⟩ := hM id c hφ hFi
        rw [h1] at e
        exact hk.2 id _ h2 rfl e
  have hnot : ∀ k, k < w.heap.size → (∀ id c, φ id = some c → ¬ F id → ρ id ≠ some k) → ¬ N0 k := fun k hk hh hn => by
    rcases hN0 k hn with ⟨id, c, h1, h2, h3⟩ | h
    · exact hh id c h1 h2 h3
    · omega
  have hK : Keeps (Sof ρ H B) w w' := only.keeps fun k hk hn => by
    refine hnot k (hr.lt k hk.1) (fun id c h1 h2 h3 => ?_) hn
    obtain ⟨_, c0, h4, _⟩ := hM id c h1 h2
    exact hk.2 id _ h4 rfl h3
  refine ⟨⟨fun id b hid => ?_, fun i j bi bj k hi hj e1 e2 => ?_, fun k hk => ?_⟩, fun av v hn hs => ?_, only.mono fun k _ hk => hN0N k hk, fun id b hn hid => ?_, hS2, hK⟩
  · cases hφ : φ id with
    | some c =>
      simp only [hφ] at hid
      rcases hc.at_ c b hid with ⟨sz, g1, g2⟩ | ⟨q, arr, T, cs, ext, g1, g2, g3, g4, g5, g6⟩
      · exact .inl ⟨sz, g1, by simp only [hφ]; exact g2⟩
      · exact .inr ⟨q, arr, T, cs, ext, by simp only [hφ]; exact g1, g2.imp (hB0 q) (fun x => x), hN0N q g3, g4, g5, hV id c b cs hφ hid g6⟩
    | none =>
      simp only [hφ] at hid
      rcases hr.at_ id b hid with ⟨sz, g1, g2⟩ | ⟨q, arr, T, cs, ext, g1, g2, g3, g4, g5, g6⟩
      · exact .inl ⟨sz, g1, by simp only [hφ]; exact g2⟩
      · refine .inr ⟨q, arr, T, cs, ext, by simp only [hφ]; exact g1, .inl g2, g3, ?_, g5, VRel.keep hS2 hK _ _ g6⟩
        rw [only.block q (hr.lt q g2) (hnot q (hr.lt q g2) fun i c h1 h2 h3 => ?_)]
        · exact g4
        · have := (hmut i c q h1 h2 h3).2.2 id b hid g1
          subst this; rw [hφ] at h1; cases h1
  · have cross : ∀ i j c bj, φ i = some c → φ j = none → ρc c = some k → H j = some bj → ρ j = some k → False := by
      intro i j c bj h1 h2 h3 h4 h5
      by_cases hFi : F i
      · rcases (hF i c h1 hFi).2 k h3 with h6 | ⟨x, y, hx, hxF, hxk⟩
        · rcases hr.at_ j bj h4 with ⟨sz, _, g⟩ | ⟨q, arr, T, cs, ext, g1, g2, _⟩
          · rw [g] at h5; cases h5
          · rw [g1] at h5; cases h5
            have := hr.lt _ g2; omega
        · have := (hmut x y k hx hxF hxk).2.2 j bj h4 h5
          subst this; rw [h2] at hx; cases hx
      · obtain ⟨g1, _⟩ := hM i c h1 hFi
        rw [g1] at h3
        have := (hmut i c k h1 hFi h3).2.2 j bj h4 h5
        subst this; rw [h2] at h1; cases h1
    cases hφi : φ i with
    | some ci =>
      cases hφj : φ j with
      | some cj =>
        simp only [hφi] at hi e1
        simp only [hφj] at hj e2
        have := hc.inj ci cj bi bj k hi hj e1 e2
        subst this
        exact hinj i j ci hφi hφj
      | none =>
        simp only [hφi] at hi e1
        simp only [hφj] at hj e2
        exact (cross i j ci bj hφi hφj e1 hj e2).elim
    | none =>
      cases hφj : φ j with
      | some cj =>
        simp only [hφi] at hi e1
        simp only [hφj] at hj e2
        exact (cross j i cj bi hφj hφi e2 hi e1).elim
      | none =>
        simp only [hφi] at hi e1
        simp only [hφj] at hj e2
        exact hr.inj i j bi bj k hi hj e1 e2
  · rcases hk with hk | hk
    · exact only_plain only (hr.bound k hk)
    · exact hc.bound k (.inr hk)
  · refine slot_keep (F := F) hS2 hK (fun id b' hb' => ?_) av v hn hs
    have hsz : ∀ (k : Nat) (arr : Array Value) (T : TypeId), ρ id = some k → w.heap[k]? = some (.cells arr T (0, 0)) → ∃ (arr' : Array Value) (T' : TypeId), w'.heap[k]? = some (.cells arr' T' (0, 0)) ∧ arr'.size = arr.size := fun k arr T _ h => by
      obtain ⟨arr', h1, h2⟩ := only.sizes k arr T _ h
      exact ⟨arr', T, h1, h2⟩
    cases hφ : φ id with
    | some c =>
      by_cases hFi : F id
      · exact .inl hFi
      · simp only [hφ] at hb'
        obtain ⟨g1, c0, g2, g3⟩ := hM id c hφ hFi
        exact .inr ⟨_, g2, g1, fun sz xs e => g3 b' hb' sz xs e, hsz⟩
    | none =>
      simp only [hφ] at hb'
      exact .inr ⟨b', hb', rfl, fun sz xs e => ⟨xs, e, rfl⟩, hsz⟩
  · cases hφ : φ id with
    | some c =>
      obtain ⟨g1, c0, g2, _⟩ := hM id c hφ hn
      exact ⟨by simp only [hφ]; exact g1, _, g2⟩
    | none =>
      simp only [hφ] at hid ⊢
      exact ⟨trivial, b, hid⟩

theorem fsU_look (d : Nat) : ∀ (fs : List (Nat × List AV)) (j id : Nat), look (fsU d j fs) id = if nid d j ≤ id ∧ id < nid d j + fs.length then some (look (fsH j fs) (fid (j + (id - nid d j)))).join else none
  | [], j, id => by simp only [fsU, look, List.length_nil, Nat.add_zero]; rw [if_neg (by omega)]
  | (sz, xs) :: fs, j, id => by
    simp only [fsU, look, fsH, List.length_cons]
    have e : nid d (j + 1) = nid d j + 1 := by unfold nid; omega
    by_cases h : nid d j = id
    · subst h
      rw [Nat.beq_refl, if_pos (by omega)]
      simp only [Nat.sub_self, Nat.add_zero, Nat.beq_refl, Option.join]
      rfl
    · have hb : Nat.beq (nid d j) id = false := by rw [← Bool.not_eq_true, Nat.beq_eq]; exact h
      rw [hb]
      simp only
      rw [fsU_look d fs (j + 1) id, e]
      by_cases h2 : nid d j + 1 ≤ id ∧ id < nid d j + 1 + fs.length
      · rw [if_pos h2, if_pos (by omega)]
        have hb2 : Nat.beq (fid j) (fid (j + (id - nid d j))) = false := by rw [← Bool.not_eq_true, Nat.beq_eq]; unfold fid; omega
        rw [hb2]
        simp only
        rw [show j + 1 + (id - (nid d j + 1)) = j + (id - nid d j) by omega]
      · rw [if_neg h2, if_neg (by omega)]
theorem fsH_mem : ∀ (fs : List (Nat × List AV)) (j : Nat) (c : Nat) (b : Blk), look (fsH j fs) c = some (some b) → b.fz = false ∧ ∃ q ∈ fs, b.c = blkOf q
  | [], _, _, _, h => by simp [fsH, look] at h
  | (sz, xs) :: fs, j, c, b, h => by
    simp only [fsH, look] at h
    split at h
    · simp only [Option.some.injEq] at h
      subst h
      exact ⟨rfl, _, List.mem_cons_self, rfl⟩
    · obtain ⟨h1, q, h2, h3⟩ := fsH_mem fs (j + 1) c b h
      exact ⟨h1, q, by simp [h2], h3⟩

/-- The arguments of a call, when nothing else is frozen. -/
def MutRel (H : Hp) : Nat → List AV → List AV → List (Nat × Nat) → Prop
  | _, [], vs', ms => vs' = [] ∧ ms = []
  | i, v :: vs, vs', ms => (∃ r, vs' = v :: r ∧ v.plain = true ∧ MutRel H (i + 1) vs r ms) ∨
      (∃ id sz xs r ms', v = .osl id ∧ H id = some ⟨.row sz xs, false⟩ ∧ vs' = .mutsl sz xs :: r ∧ ms = (i, id) :: ms' ∧ MutRel H (i + 1) vs r ms') ∨
      (∃ id c r ms', v = .own id [] [] ∧ H id = some ⟨c, false⟩ ∧ vs' = .mutp c :: r ∧ ms = (i, id) :: ms' ∧ MutRel H (i + 1) vs r ms') ∨
      (∃ f id c caps r ms', v = .oclo f id caps ∧ H id = some ⟨c, false⟩ ∧ vs' = .mclo f c caps :: r ∧ ms = (i, id) :: ms' ∧ MutRel H (i + 1) vs r ms')

theorem frzArgs_mut {H : Hp} : ∀ (m i : Nat) (vs : List AV) {k : List AV → Upd → List (Nat × Nat) → Ask} {g : FuncId} {as : List AV} {u : Upd} {ms : List (Nat × Nat)} {C : Prop}, (frzArgs m i vs k).run H = .call g as u ms C →
    ∃ vs' u' ms', (k vs' u' ms').run H = .call g as u ms C ∧ (u' = [] → MutRel H i vs vs' ms')
  | m, i, [], k, g, as, u, ms, C, h => ⟨[], [], [], h, fun _ => ⟨rfl, rfl⟩⟩
  | m, i, v :: vs, k, g, as, u, ms, C, h => by
    simp only [frzArgs] at h
    split at h
    · split at h
      · rename_i id
        simp only [Ask.run] at h
        split at h
        · rename_i sz xs hH
          obtain ⟨vs', u', ms', h1, h2⟩ := frzArgs_mut m (i + 1) vs h
          exact ⟨_, _, _, h1, fun e => .inr (.inl ⟨id, sz, xs, vs', ms', rfl, hH, rfl, rfl, h2 e⟩)⟩
        · simp [Ask.run] at h
      · rename_i id
        simp only [Ask.run] at h
        split at h
        · rename_i c hH
          obtain ⟨vs', u', ms', h1, h2⟩ := frzArgs_mut m (i + 1) vs h
          exact ⟨_, _, _, h1, fun e => .inr (.inr (.inl ⟨id, c, vs', ms', rfl, hH, rfl, rfl, h2 e⟩))⟩
        · simp [Ask.run] at h
      · rename_i f id caps
        simp only [Ask.run] at h
        split at h
        · rename_i c hH
          obtain ⟨vs', u', ms', h1, h2⟩ := frzArgs_mut m (i + 1) vs h
          exact ⟨_, _, _, h1, fun e => .inr (.inr (.inr ⟨f, id, c, caps, vs', ms', rfl, hH, rfl, rfl, h2 e⟩))⟩
        · simp [Ask.run] at h
      · simp [Ask.run] at h
    · have hplain : ∀ v', (v'.plain = true → frz v' (fun v' u => frzArgs m (i + 1) vs fun vs' u' ms => k (v' :: vs') (u ++ u') ms) = (frzArgs m (i + 1) vs fun vs' u' ms => k (v' :: vs') u' ms)) := by
        intro v' hp
        cases v' <;> simp only [AV.plain, Bool.false_eq_true] at hp <;> rfl
      cases hp : v.plain with
      | true =>
        rw [hplain v hp] at h
        obtain ⟨vs', u', ms', h1, h2⟩ := frzArgs_mut m (i + 1) vs h
        exact ⟨_, _, _, h1, fun e => .inl ⟨vs', rfl, hp, h2 e⟩⟩
      | false =>
        cases v <;> simp only [AV.plain, Bool.true_eq_false] at hp
        case osl id =>
          simp only [frz, Ask.run] at h
          split at h
          · obtain ⟨vs', u', ms', h1, h2⟩ := frzArgs_mut m (i + 1) vs h
            exact ⟨_, _, _, h1, fun e => by simp at e⟩
          · simp [Ask.run] at h
        case own id p o =>
          simp only [frz, Ask.run] at h
          split at h
          · obtain ⟨vs', u', ms', h1, h2⟩ := frzArgs_mut m (i + 1) vs h
            exact ⟨_, _, _, h1, fun e => by simp at e⟩
          · simp [Ask.run] at h
        all_goals simp [frz, AV.plain, Ask.run] at h

/-- The entry of such a call. -/
theorem mut_slots {ρ ρ0 : Nat → Option Nat} {H H0 : Hp} {S S0 : Nat → Prop} {i0 : Nat} (hS : ∀ k, S k → S0 k) : ∀ (i : Nat) (vs vs' : List AV) (ms : List (Nat × Nat)) (cs : List Value), MutRel H i vs vs' ms → SlotsRel ρ H S w vs cs →
    (∀ q ∈ ms, H0 (pid (q.1 + i0)) = H q.2 ∧ ρ0 (pid (q.1 + i0)) = ρ q.2) → SlotsRel ρ0 H0 S0 w ((entryEnv (i + i0) vs').map (·.2)) cs
  | i, [], vs', ms, cs, h, hs, _ => by
    obtain ⟨rfl, rfl⟩ := h
    exact hs
  | i, v :: vs, vs', ms, cs, h, ⟨c, rest, e, h1, h2⟩, hm => by
    subst e
    have e1 : i + i0 + 1 = i + 1 + i0 := by omega
    rcases h with ⟨r, rfl, hp, hr⟩ | ⟨id, sz, xs, r, ms', rfl, hH, rfl, rfl, hr⟩ | ⟨id, cc, r, ms', rfl, hH, rfl, rfl, hr⟩ | ⟨f, id, cc, caps, r, ms', rfl, hH, rfl, rfl, hr⟩
    · simp only [entryEnv, List.map_cons, e1]
      refine ⟨c, rest, rfl, ?_, mut_slots hS (i + 1) vs r ms rest hr h2 hm⟩
      rw [(entryB_plain (i + i0) hp).2]
      exact slot_plain h1 hp hS
    · simp only [entryEnv, List.map_cons, e1]
      refine ⟨c, rest, rfl, ?_, mut_slots hS (i + 1) vs r ms' rest hr h2 fun q hq => hm q (by simp [hq])⟩
      obtain ⟨g1, g2⟩ := hm (i, id) (by simp)
      intro b hb
      simp only at g1 g2
      rw [g1] at hb
      rw [g2]
      exact h1 b hb
    · simp only [entryEnv, List.map_cons, e1]
      refine ⟨c, rest, rfl, ?_, mut_slots hS (i + 1) vs r ms' rest hr h2 fun q hq => hm q (by simp [hq])⟩
      obtain ⟨g1, g2⟩ := hm (i, id) (by simp)
      intro b hb
      simp only at g1 g2
      rw [g1] at hb
      rw [g2]
      exact h1 b hb
    · simp only [entryEnv, List.map_cons, e1]
      refine ⟨c, rest, rfl, ?_, mut_slots hS (i + 1) vs r ms' rest hr h2 fun q hq => hm q (by simp [hq])⟩
      obtain ⟨g1, g2⟩ := hm (i, id) (by simp)
      intro b hb
      simp only at g1 g2
      rw [g1] at hb
      rw [g2]
      obtain ⟨k, vs, q1, q2, q3, q4⟩ := h1 b hb
      exact ⟨k, vs, q1, q2, q3, VPack.keep hS (fun _ _ _ => rfl) _ _ q4⟩

theorem entryEnv_app : ∀ (i : Nat) (a b : List AV), entryEnv i (a ++ b) = entryEnv i a ++ entryEnv (i + a.length) b
  | _, [], _ => by simp [entryEnv]
  | i, v :: a, b => by simp [entryEnv, entryEnv_app (i + 1) a b, Nat.add_assoc, Nat.add_comm 1]
theorem entryH_app : ∀ (i : Nat) (a b : List AV), entryH i (a ++ b) = entryH i a ++ entryH (i + a.length) b
  | _, [], _ => by simp [entryH]
  | i, v :: a, b => by
    simp only [List.cons_append, entryH, entryH_app (i + 1) a b, List.length_cons, Nat.add_assoc, Nat.add_comm 1]
    split <;> simp
theorem entryH_none (i : Nat) (vs : List AV) (h : ∀ v ∈ vs, v.plain = true) : entryH i vs = [] :=
  entryH_nil i vs fun v hv => (entryB_plain i (h v hv)).1
/-- The blocks that such a call may write. -/
theorem mut_entryH {H : Hp} (i0 : Nat) : ∀ (i : Nat) (vs vs' : List AV) (ms : List (Nat × Nat)), MutRel H i vs vs' ms → entryH (i + i0) vs' = ms.map fun q => (pid (q.1 + i0), H q.2)
  | i, [], vs', ms, h => by obtain ⟨rfl, rfl⟩ := h; rfl
  | i, v :: vs, vs', ms, h => by
    have e1 : i + i0 + 1 = i + 1 + i0 := by omega
    rcases h with ⟨r, rfl, hp, hr⟩ | ⟨id, sz, xs, r, ms', rfl, hH, rfl, rfl, hr⟩ | ⟨id, cc, r, ms', rfl, hH, rfl, rfl, hr⟩ | ⟨f, id, cc, caps, r, ms', rfl, hH, rfl, rfl, hr⟩
    · simp only [entryH, (entryB_plain 0 hp).1, e1]
      exact mut_entryH i0 (i + 1) vs r ms hr
    · simp only [entryH, entryB, e1, List.map_cons, hH]
      rw [mut_entryH i0 (i + 1) vs r ms' hr]
    · simp only [entryH, entryB, e1, List.map_cons, hH]
      rw [mut_entryH i0 (i + 1) vs r ms' hr]
    · simp only [entryH, entryB, e1, List.map_cons, hH]
      rw [mut_entryH i0 (i + 1) vs r ms' hr]

/-- A call whose function and values are known. -/
theorem call_core (g : Good P T) (hN : ∀ k, fr.w0.heap.size ≤ k → fr.N k) (hr : RelF fr σ a w) {o : Oper} {m : Nat} {f g' : FuncId} {args vs first caps : List AV} {u u2 : Upd} {ms : List (Nat × Nat)} {C : Prop}
    (h : (frzArgs m 0 vs fun as u ms => .ret (.call g' (first ++ as ++ caps) u (ms.map fun p => (p.1 + first.length, p.2)) True)).run σ.h = .call f args u ms C) (hpl : ((first ++ caps).all fun x => x.plain) = true)
    (hargs : ∀ ρ, HRel ρ σ.h (fun k => fr.B0 k ∨ (fr.w0.heap.size ≤ k ∧ k < w.heap.size)) fr.N w → (∀ x, SlotRel ρ σ.h (Sof ρ σ.h (fun k => fr.B0 k ∨ (fr.w0.heap.size ≤ k ∧ k < w.heap.size))) w (opdA σ.e x) (a.eval x)) →
      ∃ v1 cs v2, VPack (Sof ρ σ.h (fun k => fr.B0 k ∨ (fr.w0.heap.size ≤ k ∧ k < w.heap.size))) w first v1 ∧ VPack (Sof ρ σ.h (fun k => fr.B0 k ∨ (fr.w0.heap.size ≤ k ∧ k < w.heap.size))) w caps v2 ∧
        SlotsRel ρ σ.h (Sof ρ σ.h (fun k => fr.B0 k ∨ (fr.w0.heap.size ≤ k ∧ k < w.heap.size))) w vs cs ∧ (Callable P g' → (execOp a.eval o).run P w = .ok (.enter g' (v1 ++ cs ++ v2).toArray) w))
    {r : RV} (hden : Den P f args r) (hok : okCall σ (o.dst.getD 0) args u ms r u2) (hd : ∀ d, o.dst = some d → d < fr.n) {next : Act → World → Prop} {Q : Exit → Act → World → Prop}
    (hnext : ∀ a' w', RelF fr ((σ.upd (callU (o.dst.getD 0) u2 ms r)).put o.dst (ren (o.dst.getD 0) r.r)) a' w' → next a' w') : o.wp P a w next Q := by
  obtain ⟨ρ, cx, hslots, hpid⟩ := hr.cx g hN
  obtain ⟨hres, hlen, hfr, hcase⟩ := hok
  obtain ⟨v1, cs, v2, ha1, ha2, hcs, hrun0⟩ := hargs ρ cx.hr cx.rel
  have hpl' : ∀ x ∈ first ++ caps, x.plain = true := fun x hx => List.all_eq_true.1 hpl x hx
  have hfgen : g' = f := by
    obtain ⟨vs', u', ms', h1, _⟩ := frzArgs_elim m 0 _ h
    simp only [Ask.run, Ev.call.injEq] at h1
    exact h1.1
  subst hfgen
  obtain ⟨hcallable, hcalls⟩ := hden
  have hrun := hrun0 hcallable
  rcases hcase with ⟨rfl, hmut, hrms, hu2⟩ | ⟨i, id, c, hms0, rfl, rfl, hmut, hrms, hrfs, hshape⟩ | ⟨i, id, hms0, rfl, rfl, hmut, hrms, hfs⟩
  · -- nothing is written
    obtain ⟨vs', u', ms', h1, hu, hh⟩ := frzArgs_elim m 0 _ h
    simp only [Ask.run, Ev.call.injEq, List.map_eq_nil_iff] at h1
    obtain ⟨_, rfl, rfl, hms', _⟩ := h1
    obtain ⟨hp, hs⟩ := hh hms'
    have hr1 := FU.hrel cx.hr hu
    have hsof := FU.sof cx.hr hu
    have hargs := hs ρ _ fr.N w _ cx.hr hcs
    have hfirst : SlotsRel ρ (updH σ.h u') (Sof ρ (updH σ.h u') (fun k => fr.B0 k ∨ (fr.w0.heap.size ≤ k ∧ k < w.heap.size))) w first v1 :=
      slots_of_pack first v1 (VPack.keep hsof (fun _ _ _ => rfl) _ _ ha1) fun x hx => hpl' x (by simp [hx])
    have hcaps : SlotsRel ρ (updH σ.h u') (Sof ρ (updH σ.h u') (fun k => fr.B0 k ∨ (fr.w0.heap.size ≤ k ∧ k < w.heap.size))) w caps v2 :=
      slots_of_pack caps v2 (VPack.keep hsof (fun _ _ _ => rfl) _ _ ha2) fun x hx => hpl' x (by simp [hx])
    have hall := slots_append _ _ _ _ (slots_append _ _ _ _ hfirst hargs) hcaps
    have hplain : ∀ x ∈ first ++ vs' ++ caps, x.plain = true := by
      intro x hx
      rcases List.mem_append.1 hx with hx | hx
      · rcases List.mem_append.1 hx with hx | hx
        · exact hpl' x (by simp [hx])
        · exact hp x hx
      · exact hpl' x (by simp [hx])
    have hnoB : ∀ v ∈ first ++ vs' ++ caps, entryB v = none := mutIx_nil 0 _ hmut
    have hH0 : (entry (first ++ vs' ++ caps)).h = fun _ => none := by
      funext id
      show (look (entryH 0 (first ++ vs' ++ caps)) id).getD none = none
      rw [entryH_nil 0 _ hnoB]; rfl
    let B0 : Nat → Prop := Sof ρ (updH σ.h u') (fun k => fr.B0 k ∨ (fr.w0.heap.size ≤ k ∧ k < w.heap.size))
    have hentry : Entry (fun _ => none) B0 w (first ++ vs' ++ caps) (v1 ++ cs ++ v2) := by
      refine ⟨?_, ?_⟩
      · rw [hH0]
        exact ⟨fun _ _ h => (nomatch h), fun _ _ _ _ _ h => (nomatch h), fun k hk => hr1.bound k hk.1⟩
      · rw [entryEnv_map 0 _ hnoB, hH0]
        refine slots_plain _ _ hall hplain fun k hk => ⟨hk, fun _ _ h => (nomatch h)⟩
    have hc := hcalls _ B0 w _ hentry
    unfold Oper.wp
    rw [hrun]
    show Calls P g' _ w _
    refine hc.mono fun e w' hh => ?_
    obtain ⟨v, ρ', rfl, hout⟩ := hh
    obtain ⟨o1, o2, o3, _⟩ := hout
    have hRH : r.H (first ++ vs' ++ caps) = fun x => (look (fsH 0 r.fs) x).getD none := by
      funext x
      simp only [RV.H, hrms]
      rw [hmut]; rfl
    rw [hRH] at o1 o2
    rw [hH0] at o1 o3
    have hN0' : ∀ k, ((∃ id b, (fun _ : Nat => (none : Option Blk)) id = some b ∧ (fun _ : Nat => (none : Option Nat)) id = some k) ∨ w.heap.size ≤ k) → w.heap.size ≤ k := by
      rintro k (⟨_, _, h, _⟩ | h)
      · cases h
      · exact h
    -- the blocks that the caller keeps as its own
    have key : ∀ (Hb : Hp), HRel ρ Hb (fun k => fr.B0 k ∨ (fr.w0.heap.size ≤ k ∧ k < w.heap.size)) fr.N w → (∀ id, (σ.h id).isNone → Hb id = none) → ((∀ k, B0 k → Sof ρ Hb (fun k => fr.B0 k ∨ (fr.w0.heap.size ≤ k ∧ k < w.heap.size)) k) ∨ (NoRef r.r ∧ ∀ q ∈ r.fs, NoRefs q.2)) →
        ∃ ρ2, Step (fun id => nid (o.dst.getD 0) 0 ≤ id ∧ id < nid (o.dst.getD 0) 0 + r.fs.length) ρ Hb (fun k => fr.B0 k ∨ (fr.w0.heap.size ≤ k ∧ k < w.heap.size)) fr.N w ρ2 (updH Hb (fsU (o.dst.getD 0) 0 r.fs)) w' ∧
          SlotRel ρ2 (updH Hb (fsU (o.dst.getD 0) 0 r.fs)) (Sof ρ2 (updH Hb (fsU (o.dst.getD 0) 0 r.fs)) (fun k => (fr.B0 k ∨ (fr.w0.heap.size ≤ k ∧ k < w.heap.size)) ∨ (w.heap.size ≤ k ∧ k < w'.heap.size))) w' (ren (o.dst.getD 0) r.r) v := by
      intro Hb hrb hnone hS
      generalize hdd : o.dst.getD 0 = d at *
      let φ : Nat → Option Nat := fun id => if nid d 0 ≤ id ∧ id < nid d 0 + r.fs.length then some (fid (id - nid d 0)) else none
      have hφ : ∀ id c, φ id = some c → (nid d 0 ≤ id ∧ id < nid d 0 + r.fs.length) ∧ c = fid (id - nid d 0) := by
        intro id c h
        simp only [φ] at h
        split at h
        · rename_i hc; cases h; exact ⟨hc, rfl⟩
        · cases h
      have hsome : ∀ c b, (look (fsH 0 r.fs) c).getD none = some b → look (fsH 0 r.fs) c = some (some b) := by
        intro c b h
        cases e : look (fsH 0 r.fs) c with
        | none => rw [e] at h; cases h
        | some x => rw [e] at h; simp only [Option.getD_some] at h; rw [h]
      have hHeq : (fun id => match φ id with | some c => (look (fsH 0 r.fs) c).getD none | none => Hb id) = updH Hb (fsU d 0 r.fs) := by
        funext id
        simp only [updH, fsU_look d r.fs 0 id, φ]
        by_cases hc : nid d 0 ≤ id ∧ id < nid d 0 + r.fs.length
        · simp only [if_pos hc, Nat.zero_add]
          cases look (fsH 0 r.fs) (fid (id - nid d 0)) <;> rfl
        · simp only [if_neg hc]
      have hBsub : ∀ k, B0 k → fr.B0 k ∨ (fr.w0.heap.size ≤ k ∧ k < w.heap.size) := fun k hk => hk.1
      have hSsub : (∀ k, B0 k → Sof ρ Hb (fun k => fr.B0 k ∨ (fr.w0.heap.size ≤ k ∧ k < w.heap.size)) k) → ∀ k, Sof ρ' (fun x => (look (fsH 0 r.fs) x).getD none) (fun k => B0 k ∨ (w.heap.size ≤ k ∧ k < w'.heap.size)) k →
          Sof (fun id => match φ id with | some c => ρ' c | none => ρ id) (fun id => match φ id with | some c => (look (fsH 0 r.fs) c).getD none | none => Hb id) (fun k => (fr.B0 k ∨ (fr.w0.heap.size ≤ k ∧ k < w.heap.size)) ∨ (w.heap.size ≤ k ∧ k < w'.heap.size)) k := by
        intro hS k hk
        refine ⟨hk.1.imp (fun x => hBsub k x) (fun x => x), fun id b hid hf e => ?_⟩
        cases he : φ id with
        | some c =>
          simp only [he] at hid e
          exact hk.2 c b hid hf e
        | none =>
          simp only [he] at hid e
          rcases hk.1 with h | h
          · exact (hS k h).2 id b hid hf e
          · rcases hrb.at_ id b hid with ⟨sz, _, g2⟩ | ⟨q, arr, T, cs, ext, g1, g2, _⟩
            · rw [g2] at e; cases e
            · rw [g1] at e; cases e
              have := hrb.lt _ g2; omega
      have hst := Step.call (w' := w') hrb (B0 := B0) (F := fun id => nid d 0 ≤ id ∧ id < nid d 0 + r.fs.length) (φ := φ) o1 cx.nb hBsub (fun k hk => .inr (hN0' k hk)) o3
        (fun i j c hi hj => by
          obtain ⟨h1, rfl⟩ := hφ i c hi
          obtain ⟨h2, h3⟩ := hφ j _ hj
          unfold fid at h3; omega)

        (fun id c hc hid => by
          obtain ⟨h1, rfl⟩ := hφ id c hc
          refine ⟨hnone id ?_, fun k hk => ?_⟩
          · have h2 : ∃ b, look (fsU d 0 r.fs) id = some b := ⟨_, by rw [fsU_look, if_pos h1]⟩
            obtain ⟨b, h2⟩ := h2
            have := List.all_eq_true.1 hfr (id, b) (look_mem _ _ _ h2)
            simp only [Bool.and_eq_true] at this
            exact this.1.1
          · have h2 : ∃ b, look (fsH 0 r.fs) (fid (id - nid d 0)) = some (some b) := by
              have : ∀ (fs : List (Nat × List AV)) (j i : Nat), j ≤ i → i < j + fs.length → ∃ b, look (fsH j fs) (fid i) = some (some b) := by
                intro fs
                induction fs with
                | nil => intro j i h1 h2; simp at h2; omega
                | cons q fs ih =>
                  intro j i h1 h2
                  simp only [fsH, look]
                  by_cases e : j = i
                  · subst e; rw [Nat.beq_refl]; exact ⟨_, rfl⟩
                  · have hb : Nat.beq (fid j) (fid i) = false := by rw [← Bool.not_eq_true, Nat.beq_eq]; unfold fid; omega
                    rw [hb]
                    exact ih (j + 1) i (by omega) (by simp at h2; omega)
              exact this r.fs 0 _ (by omega) (by omega)
            obtain ⟨b, h2⟩ := h2
            rcases o1.at_ (fid (id - nid d 0)) b (by rw [h2]; rfl) with ⟨sz, _, g2⟩ | ⟨q, arr, T, cs, ext, g1, g2, g3, _⟩
            · rw [g2] at hk; cases hk
            · rw [g1] at hk; cases hk
              exact .inl (hN0' _ g3))
        (fun id c hc hid => absurd (hφ id c hc).1 hid)
        (fun id c b cs hc hb hv => by
          rcases hS with hS | hS
          · exact VRel.keep (hSsub hS) (fun _ _ _ => rfl) _ _ hv
          · obtain ⟨_, q, hq, e⟩ := fsH_mem _ _ _ _ (hsome c b hb)
            refine VRel.noRef _ _ ?_ hv
            rw [e]
            exact blk_noRef (hS.2 q hq))
      refine ⟨_, hHeq ▸ hst, ?_⟩
      rw [← hHeq]
      refine slot_ren hres o2 (hS.imp hSsub And.left) fun j hj => ?_
      have e1 : φ (nid d j) = some (fid j) := by
        have : nid d j - nid d 0 = j := by unfold nid; omega
        simp only [φ, this]
        rw [if_pos (by unfold nid; omega)]
      simp only [e1]
      exact ⟨trivial, trivial⟩
    have hFn : ∀ id, (nid (o.dst.getD 0) 0 ≤ id ∧ id < nid (o.dst.getD 0) 0 + r.fs.length) → id < 1000000 ∧ ∀ t, (σ.e t).names id = false := by
      intro id hid
      have h2 : ∃ b, look (fsU (o.dst.getD 0) 0 r.fs) id = some b := ⟨_, by rw [fsU_look, if_pos hid]⟩
      obtain ⟨b, h2⟩ := h2
      have := List.all_eq_true.1 hfr (id, b) (look_mem _ _ _ h2)
      simp only [Bool.and_eq_true] at this
      refine ⟨by have := Nat.le_of_ble_eq_true this.1.2; omega, fun t => ?_⟩
      unfold St.e
      cases ht : look σ.env t with
      | none => rfl
      | some v =>
        have := List.all_eq_true.1 this.2 (t, v) (look_mem _ _ _ ht)
        simpa using this
    have hst0 := FU.step cx.hr hu
    refine hnext _ _ ?_
    rcases hu2 with rfl | ⟨rfl, _, hnr1, hnr2⟩
    · obtain ⟨ρ2, hst1, hv⟩ := key (updH σ.h u2) hr1 (fun id hid => by
        cases e : updH σ.h u2 id with
        | none => rfl
        | some b =>
          obtain ⟨b0, hb0, _⟩ := hu.upd id b e
          rw [hb0] at hid; cases hid) (.inl fun k hk => hk)
      have hst := hst0.trans (by rw [Bself]; exact hst1)
      have eU : updH σ.h (callU (o.dst.getD 0) u2 [] r) = updH (updH σ.h u2) (fsU (o.dst.getD 0) 0 r.fs) := by
        unfold callU
        rw [hrms, show msU [] ([] : List AV) = [] from rfl, List.nil_append, updH_append]
      rw [← eU] at hst hv
      exact hr.step hpid hslots hst (fun id hid => by
        rcases hid with h | h
        · exact h.elim
        · exact (hFn id h).2) (fun i hid => by
        rcases hid with h | h
        · exact h.elim
        · have := (hFn _ h).1; unfold pid at this; omega) hv hd
    · obtain ⟨ρ2, hst, hv⟩ := key σ.h cx.hr (fun id hid => by simpa using hid) (.inr ⟨hnr1, hnr2⟩)
      have eU : updH σ.h (callU (o.dst.getD 0) [] [] r) = updH σ.h (fsU (o.dst.getD 0) 0 r.fs) := by
        unfold callU
        rw [hrms, show msU [] ([] : List AV) = [] from rfl, List.nil_append, List.append_nil]
      rw [← eU] at hst hv
      exact hr.step hpid hslots hst (fun id h => (hFn id h).2) (fun i h => by have := (hFn _ h).1; unfold pid at this; omega) hv hd
  · -- one argument is written
    obtain ⟨vs', u', ms', h1, hmr⟩ := frzArgs_mut m 0 _ h
    simp only [Ask.run, Ev.call.injEq] at h1
    obtain ⟨_, rfl, rfl, hms', _⟩ := h1
    have hmr := hmr rfl
    obtain ⟨i', hi', rfl⟩ : ∃ i', i = i' + first.length ∧ ms' = [(i', id)] := by
      rw [hms0] at hms'
      match ms', hms' with
      | [(x, y)], hms' =>
        simp only [List.map_cons, List.map_nil, List.cons.injEq, Prod.mk.injEq, and_true] at hms'
        exact ⟨x, hms'.1.symm, by rw [hms'.2]⟩
    have hpf : ∀ x ∈ first, x.plain = true := fun x hx => hpl' x (by simp [hx])
    have hpc : ∀ x ∈ caps, x.plain = true := fun x hx => hpl' x (by simp [hx])
    have hEH : entryH 0 (first ++ vs' ++ caps) = [(pid i, σ.h id)] := by
      rw [List.append_assoc, entryH_app, entryH_app, entryH_none _ _ hpf, entryH_none _ _ hpc]
      simp only [List.nil_append, List.append_nil]
      rw [mut_entryH first.length 0 _ vs' _ hmr, hi']
      rfl
    have hHid : ∃ c0, σ.h id = some ⟨c0, false⟩ ∧ ((∃ sz xs, c0 = .row sz xs ∧ nth (first ++ vs' ++ caps) i = .mutsl sz xs) ∨ nth (first ++ vs' ++ caps) i = .mutp c0 ∨ ∃ ff fc, nth (first ++ vs' ++ caps) i = .mclo ff c0 fc) := by
      have gen : ∀ (vs vs' : List AV) (j : Nat), MutRel σ.h j vs vs' [(i', id)] → j ≤ i' ∧ i' < j + vs'.length ∧ ∃ c0, σ.h id = some ⟨c0, false⟩ ∧ ((∃ sz xs, c0 = .row sz xs ∧ nth vs' (i' - j) = .mutsl sz xs) ∨ nth vs' (i' - j) = .mutp c0 ∨ ∃ ff fc, nth vs' (i' - j) = .mclo ff c0 fc) := by
        intro vs
        induction vs with
        | nil => rintro vs' j ⟨_, h⟩; cases h
        | cons v vs ih =>
          rintro vs' j (⟨r, rfl, hp, hr⟩ | ⟨id', sz, xs, r, ms', rfl, hH, rfl, hm, hr⟩ | ⟨id', cc, r, ms', rfl, hH, rfl, hm, hr⟩ | ⟨ff, id', cc, fc, r, ms', rfl, hH, rfl, hm, hr⟩)
          · obtain ⟨h1, h2, c0, h3, h4⟩ := ih r (j + 1) hr
            refine ⟨by omega, by simp; omega, c0, h3, ?_⟩
            rw [show i' - j = (i' - (j + 1)) + 1 by omega, nth_cons_succ]; exact h4
          · simp only [List.cons.injEq, Prod.mk.injEq] at hm
            obtain ⟨⟨rfl, rfl⟩, _⟩ := hm
            exact ⟨Nat.le_refl _, by simp, _, hH, .inl ⟨sz, xs, rfl, by simp [nth]⟩⟩
          · simp only [List.cons.injEq, Prod.mk.injEq] at hm
            obtain ⟨⟨rfl, rfl⟩, _⟩ := hm
            exact ⟨Nat.le_refl _, by simp, _, hH, .inr (.inl (by simp [nth]))⟩
          · simp only [List.cons.injEq, Prod.mk.injEq] at hm
            obtain ⟨⟨rfl, rfl⟩, _⟩ := hm
            exact ⟨Nat.le_refl _, by simp, _, hH, .inr (.inr ⟨ff, fc, by simp [nth]⟩)⟩
      obtain ⟨_, h2, c0, h3, h4⟩ := gen _ vs' 0 hmr
      have e : nth (first ++ vs' ++ caps) i = nth vs' (i' - 0) := by
        rw [hi']
        simp only [nth, List.getD_eq_getElem?_getD, Nat.sub_zero]
        rw [List.append_assoc, List.getElem?_append_right (by omega), show i' + first.length - first.length = i' by omega, List.getElem?_append_left (by omega)]
      exact ⟨c0, h3, by rw [e]; exact h4⟩
    obtain ⟨c0, hid0, hnth⟩ := hHid
    have hH0 : (entry (first ++ vs' ++ caps)).h = fun x => if x = pid i then some ⟨c0, false⟩ else none := by
      funext x
      show (look (entryH 0 (first ++ vs' ++ caps)) x).getD none = _
      rw [hEH, hid0]
      simp only [look]
      by_cases e : x = pid i
      · subst e; simp
      · have hb : Nat.beq (pid i) x = false := by rw [← Bool.not_eq_true, Nat.beq_eq]; exact fun h => e h.symm
        rw [hb]; simp [e]
    let Bc : Nat → Prop := fun k => fr.B0 k ∨ (fr.w0.heap.size ≤ k ∧ k < w.heap.size)
    let B0 : Nat → Prop := fun k => Sof ρ σ.h Bc k ∨ ρ id = some k
    let ρ0 : Nat → Option Nat := fun x => if x = pid i then ρ id else none
    have hBc : ∀ k, ρ id = some k → Bc k ∧ fr.N k := by
      intro k hk
      rcases cx.hr.at_ id _ hid0 with ⟨sz, _, g2⟩ | ⟨q, arr, T, cs, ext, g1, g2, g3, _⟩
      · rw [g2] at hk; cases hk
      · rw [g1] at hk; cases hk; exact ⟨g2, g3⟩
    have hBsub : ∀ k, B0 k → Bc k := fun k hk => by
      rcases hk with h | h
      · exact h.1
      · exact (hBc k h).1
    have hS0 : ∀ k, Sof ρ σ.h Bc k → Sof ρ0 (entry (first ++ vs' ++ caps)).h B0 k := by
      intro k hk
      refine ⟨.inl hk, fun x b hx hf e => ?_⟩
      rw [hH0] at hx
      simp only [ρ0] at e
      by_cases hxi : x = pid i
      · rw [if_pos hxi] at e
        exact hk.2 id _ hid0 rfl e
      · rw [if_neg hxi] at e; cases e
    have hentry : Entry ρ0 B0 w (first ++ vs' ++ caps) (v1 ++ cs ++ v2) := by
      refine ⟨⟨fun x b hx => ?_, fun x y bx by_ k hx hy _ _ => ?_, fun k hk => cx.hr.bound k (hBsub k hk)⟩, ?_⟩
      · have hx' := hx
        rw [hH0] at hx'
        by_cases hxi : x = pid i
        · simp only [hxi, if_true, Option.some.injEq] at hx'
          subst hx'
          rcases cx.hr.at_ id _ hid0 with ⟨sz, g1, g2⟩ | ⟨q, arr, T, cs, ext, g1, g2, g3, g4, g5, g6⟩
          · exact .inl ⟨sz, g1, by simp only [ρ0, if_pos hxi]; exact g2⟩
          · exact .inr ⟨q, arr, T, cs, ext, by simp only [ρ0, if_pos hxi]; exact g1, .inr g1, .inl ⟨x, _, hx, by simp only [ρ0, if_pos hxi]; exact g1⟩, g4, g5, VRel.keep hS0 (fun _ _ _ => rfl) _ _ g6⟩
        · simp only [if_neg hxi] at hx'; cases hx'
      · rw [hH0] at hx hy
        have h1 : x = pid i := by
          by_cases h : x = pid i
          · exact h
          · simp only [if_neg h] at hx; cases hx
        have h2 : y = pid i := by
          by_cases h : y = pid i
          · exact h
          · simp only [if_neg h] at hy; cases hy
        rw [h1, h2]
      · have hsp : (entryEnv 0 (first ++ vs' ++ caps)).map (·.2) = first ++ ((entryEnv (0 + first.length) vs').map (·.2) ++ caps) := by
          rw [List.append_assoc, entryEnv_app, entryEnv_app, List.map_append, List.map_append]
          rw [entryEnv_map _ first fun v hv => (entryB_plain 0 (hpf v hv)).1, entryEnv_map _ caps fun v hv => (entryB_plain 0 (hpc v hv)).1]
        rw [hsp, List.append_assoc v1]
        have hfirst : SlotsRel ρ σ.h (Sof ρ σ.h Bc) w first v1 := slots_of_pack first v1 ha1 fun x hx => hpl' x (by simp [hx])
        have hcaps : SlotsRel ρ σ.h (Sof ρ σ.h Bc) w caps v2 := slots_of_pack caps v2 ha2 fun x hx => hpl' x (by simp [hx])
        refine slots_append _ _ _ _ (slots_plain _ _ hfirst hpf hS0) (slots_append _ _ _ _ ?_ (slots_plain _ _ hcaps hpc hS0))
        refine mut_slots (i0 := first.length) hS0 0 _ vs' _ _ hmr hcs fun q hq => ?_
        simp only [List.mem_singleton] at hq
        subst hq
        simp only [← hi']
        rw [hH0]
        simp only [ρ0, if_true, hid0]
        exact ⟨trivial, trivial⟩
    have hc := hcalls _ B0 w _ hentry
    unfold Oper.wp
    rw [hrun]
    show Calls P g' _ w _
    refine hc.mono fun e w' hh => ?_
    obtain ⟨v, ρ', rfl, hout⟩ := hh
    obtain ⟨o1, o2, o3, o4⟩ := hout
    have hRH : r.H (first ++ vs' ++ caps) = fun x => if x = pid i then some ⟨c, false⟩ else none := by
      funext x
      simp only [RV.H, hrms, hrfs]
      rw [hmut]
      simp only [msH, fsH, List.append_nil, look]
      by_cases e : x = pid i
      · subst e; simp
      · have hb : Nat.beq (pid i) x = false := by rw [← Bool.not_eq_true, Nat.beq_eq]; exact fun h => e h.symm
        rw [hb]; simp [e]
    have hρ' : ρ' (pid i) = ρ id := by
      rw [o4 i ⟨c0, false⟩ (by rw [hH0]; simp)]
      simp [ρ0]
    rw [hRH] at o1 o2
    have hN0' : ∀ k, ((∃ x b, (entry (first ++ vs' ++ caps)).h x = some b ∧ ρ0 x = some k) ∨ w.heap.size ≤ k) → ρ id = some k ∨ w.heap.size ≤ k := by
      rintro k (⟨x, b, hx, hk⟩ | h)
      · simp only [ρ0] at hk
        split at hk
        · exact .inl hk
        · cases hk
      · exact .inr h
    let φ : Nat → Option Nat := fun x => if x = id then some (pid i) else none
    have hφ : ∀ x y, φ x = some y → x = id ∧ y = pid i := by
      intro x y h
      simp only [φ] at h
      split at h
      · rename_i e; cases h; exact ⟨e, rfl⟩
      · cases h
    have hHeq : (fun x => match φ x with | some y => (if y = pid i then some (⟨c, false⟩ : Blk) else none) | none => σ.h x) = updH σ.h (callU (o.dst.getD 0) [] ms r) := by
      funext x
      simp only [callU, hrfs, hrms, hms0, fsU, msU, List.nil_append, List.append_nil, updH, look, φ]
      by_cases e : x = id
      · subst e; simp
      · have hb : Nat.beq id x = false := by rw [← Bool.not_eq_true, Nat.beq_eq]; exact fun h => e h.symm
        rw [hb]; simp [e]
    have hSsub : ∀ k, Sof ρ' (fun x => if x = pid i then some (⟨c, false⟩ : Blk) else none) (fun k => B0 k ∨ (w.heap.size ≤ k ∧ k < w'.heap.size)) k →
        Sof (fun x => match φ x with | some y => ρ' y | none => ρ x) (fun x => match φ x with | some y => (if y = pid i then some (⟨c, false⟩ : Blk) else none) | none => σ.h x) (fun k => Bc k ∨ (w.heap.size ≤ k ∧ k < w'.heap.size)) k := by
      intro k hk
      refine ⟨hk.1.imp (hBsub k) (fun x => x), fun x b hx hf e => ?_⟩
      cases he : φ x with
      | some y =>
        simp only [he] at hx e
        exact hk.2 y b hx hf e
      | none =>
        simp only [he] at hx e
        have hxid : x ≠ id := fun h => by simp [φ, h] at he
        rcases hk.1 with h | h
        · rcases h with h | h
          · exact h.2 x b hx hf e
          · exact hxid (cx.hr.inj x id b _ k hx hid0 e h)
        · rcases cx.hr.at_ x b hx with ⟨sz, _, g2⟩ | ⟨q, arr, T, cs, ext, g1, g2, _⟩
          · rw [g2] at e; cases e
          · rw [g1] at e; cases e
            have := cx.hr.lt _ g2; omega
    have hrow : ∀ sz xs, c0 = .row sz xs → ∃ xs', c = .row sz xs' ∧ xs'.length = xs.length := by
      intro sz xs e
      rcases hnth with ⟨sz', xs', e', hn⟩ | hn | ⟨ff, fc, hn⟩
      · rw [e] at e'
        cases e'
        rw [hn] at hshape
        cases c <;> simp only [sameShape] at hshape
        obtain ⟨rfl, hl⟩ := hshape
        exact ⟨_, rfl, hl⟩
      · subst e
        rw [hn] at hshape
        cases c <;> exact hshape.elim
      · rw [hn] at hshape
        cases c <;> exact hshape.elim
    have hst := Step.call (w' := w') cx.hr (B0 := B0) (F := No) (φ := φ) o1 cx.nb hBsub (fun k hk => by
        rcases hN0' k hk with h | h
        · exact .inl ⟨id, pid i, if_pos rfl, fun x => x, h⟩
        · exact .inr h) o3
      (fun x y z hx hy => by rw [(hφ x z hx).1, (hφ y z hy).1])
      (fun x y _ hx => hx.elim)
      (fun x y hxy _ => by
        obtain ⟨rfl, rfl⟩ := hφ x y hxy
        refine ⟨hρ', c0, hid0, fun b hb sz xs e => ?_⟩
        simp only [if_true, Option.some.injEq] at hb
        subst hb
        exact hrow sz xs e)
      (fun x y b cs _ _ hv => VRel.keep hSsub (fun _ _ _ => rfl) _ _ hv)
    rw [hHeq] at hst
    refine hnext _ _ (hr.step hpid hslots hst (fun x hx => hx.elim) (fun _ h => h) ?_ hd)
    rw [← hHeq]
    refine slot_ren hres o2 (.inl hSsub) fun j hj => ?_
    rw [hrfs] at hj
    simp at hj
  · -- one argument is given up
    obtain ⟨vs', u', ms', h1, hmr⟩ := frzArgs_mut m 0 _ h
    simp only [Ask.run, Ev.call.injEq] at h1
    obtain ⟨_, rfl, rfl, hms', _⟩ := h1
    have hmr := hmr rfl
    obtain ⟨i', hi', rfl⟩ : ∃ i', i = i' + first.length ∧ ms' = [(i', id)] := by
      rw [hms0] at hms'
      match ms', hms' with
      | [(x, y)], hms' =>
        simp only [List.map_cons, List.map_nil, List.cons.injEq, Prod.mk.injEq, and_true] at hms'
        exact ⟨x, hms'.1.symm, by rw [hms'.2]⟩
    have hpf : ∀ x ∈ first, x.plain = true := fun x hx => hpl' x (by simp [hx])
    have hpc : ∀ x ∈ caps, x.plain = true := fun x hx => hpl' x (by simp [hx])
    have hEH : entryH 0 (first ++ vs' ++ caps) = [(pid i, σ.h id)] := by
      rw [List.append_assoc, entryH_app, entryH_app, entryH_none _ _ hpf, entryH_none _ _ hpc]
      simp only [List.nil_append, List.append_nil]
      rw [mut_entryH first.length 0 _ vs' _ hmr, hi']
      rfl
    have hHid : ∃ c0, σ.h id = some ⟨c0, false⟩ ∧ ((∃ sz xs, c0 = .row sz xs ∧ nth (first ++ vs' ++ caps) i = .mutsl sz xs) ∨ nth (first ++ vs' ++ caps) i = .mutp c0 ∨ ∃ ff fc, nth (first ++ vs' ++ caps) i = .mclo ff c0 fc) := by
      have gen : ∀ (vs vs' : List AV) (j : Nat), MutRel σ.h j vs vs' [(i', id)] → j ≤ i' ∧ i' < j + vs'.length ∧ ∃ c0, σ.h id = some ⟨c0, false⟩ ∧ ((∃ sz xs, c0 = .row sz xs ∧ nth vs' (i' - j) = .mutsl sz xs) ∨ nth vs' (i' - j) = .mutp c0 ∨ ∃ ff fc, nth vs' (i' - j) = .mclo ff c0 fc) := by
        intro vs
        induction vs with
        | nil => rintro vs' j ⟨_, h⟩; cases h
        | cons v vs ih =>
          rintro vs' j (⟨r, rfl, hp, hr⟩ | ⟨id', sz, xs, r, ms', rfl, hH, rfl, hm, hr⟩ | ⟨id', cc, r, ms', rfl, hH, rfl, hm, hr⟩ | ⟨ff, id', cc, fc, r, ms', rfl, hH, rfl, hm, hr⟩)
          · obtain ⟨h1, h2, c0, h3, h4⟩ := ih r (j + 1) hr
            refine ⟨by omega, by simp; omega, c0, h3, ?_⟩
            rw [show i' - j = (i' - (j + 1)) + 1 by omega, nth_cons_succ]; exact h4
          · simp only [List.cons.injEq, Prod.mk.injEq] at hm
            obtain ⟨⟨rfl, rfl⟩, _⟩ := hm
            exact ⟨Nat.le_refl _, by simp, _, hH, .inl ⟨sz, xs, rfl, by simp [nth]⟩⟩
          · simp only [List.cons.injEq, Prod.mk.injEq] at hm
            obtain ⟨⟨rfl, rfl⟩, _⟩ := hm
            exact ⟨Nat.le_refl _, by simp, _, hH, .inr (.inl (by simp [nth]))⟩
          · simp only [List.cons.injEq, Prod.mk.injEq] at hm
            obtain ⟨⟨rfl, rfl⟩, _⟩ := hm
            exact ⟨Nat.le_refl _, by simp, _, hH, .inr (.inr ⟨ff, fc, by simp [nth]⟩)⟩
      obtain ⟨_, h2, c0, h3, h4⟩ := gen _ vs' 0 hmr
      have e : nth (first ++ vs' ++ caps) i = nth vs' (i' - 0) := by
        rw [hi']
        simp only [nth, List.getD_eq_getElem?_getD, Nat.sub_zero]
        rw [List.append_assoc, List.getElem?_append_right (by omega), show i' + first.length - first.length = i' by omega, List.getElem?_append_left (by omega)]
      exact ⟨c0, h3, by rw [e]; exact h4⟩
    obtain ⟨c0, hid0, hnth⟩ := hHid
    have hH0 : (entry (first ++ vs' ++ caps)).h = fun x => if x = pid i then some ⟨c0, false⟩ else none := by
      funext x
      show (look (entryH 0 (first ++ vs' ++ caps)) x).getD none = _
      rw [hEH, hid0]
      simp only [look]
      by_cases e : x = pid i
      · subst e; simp
      · have hb : Nat.beq (pid i) x = false := by rw [← Bool.not_eq_true, Nat.beq_eq]; exact fun h => e h.symm
        rw [hb]; simp [e]
    let Bc : Nat → Prop := fun k => fr.B0 k ∨ (fr.w0.heap.size ≤ k ∧ k < w.heap.size)
    let B0 : Nat → Prop := fun k => Sof ρ σ.h Bc k ∨ ρ id = some k
    let ρ0 : Nat → Option Nat := fun x => if x = pid i then ρ id else none
    have hBc : ∀ k, ρ id = some k → Bc k ∧ fr.N k := by
      intro k hk
      rcases cx.hr.at_ id _ hid0 with ⟨sz, _, g2⟩ | ⟨q, arr, T, cs, ext, g1, g2, g3, _⟩
      · rw [g2] at hk; cases hk
      · rw [g1] at hk; cases hk; exact ⟨g2, g3⟩
    have hBsub : ∀ k, B0 k → Bc k := fun k hk => by
      rcases hk with h | h
      · exact h.1
      · exact (hBc k h).1
    have hS0 : ∀ k, Sof ρ σ.h Bc k → Sof ρ0 (entry (first ++ vs' ++ caps)).h B0 k := by
      intro k hk
      refine ⟨.inl hk, fun x b hx hf e => ?_⟩
      rw [hH0] at hx
      simp only [ρ0] at e
      by_cases hxi : x = pid i
      · rw [if_pos hxi] at e
        exact hk.2 id _ hid0 rfl e
      · rw [if_neg hxi] at e; cases e
    have hentry : Entry ρ0 B0 w (first ++ vs' ++ caps) (v1 ++ cs ++ v2) := by
      refine ⟨⟨fun x b hx => ?_, fun x y bx by_ k hx hy _ _ => ?_, fun k hk => cx.hr.bound k (hBsub k hk)⟩, ?_⟩
      · have hx' := hx
        rw [hH0] at hx'
        by_cases hxi : x = pid i
        · simp only [hxi, if_true, Option.some.injEq] at hx'
          subst hx'
          rcases cx.hr.at_ id _ hid0 with ⟨sz, g1, g2⟩ | ⟨q, arr, T, cs, ext, g1, g2, g3, g4, g5, g6⟩
          · exact .inl ⟨sz, g1, by simp only [ρ0, if_pos hxi]; exact g2⟩
          · exact .inr ⟨q, arr, T, cs, ext, by simp only [ρ0, if_pos hxi]; exact g1, .inr g1, .inl ⟨x, _, hx, by simp only [ρ0, if_pos hxi]; exact g1⟩, g4, g5, VRel.keep hS0 (fun _ _ _ => rfl) _ _ g6⟩
        · simp only [if_neg hxi] at hx'; cases hx'
      · rw [hH0] at hx hy
        have h1 : x = pid i := by
          by_cases h : x = pid i
          · exact h
          · simp only [if_neg h] at hx; cases hx
        have h2 : y = pid i := by
          by_cases h : y = pid i
          · exact h
          · simp only [if_neg h] at hy; cases hy
        rw [h1, h2]
      · have hsp : (entryEnv 0 (first ++ vs' ++ caps)).map (·.2) = first ++ ((entryEnv (0 + first.length) vs').map (·.2) ++ caps) := by
          rw [List.append_assoc, entryEnv_app, entryEnv_app, List.map_append, List.map_append]
          rw [entryEnv_map _ first fun v hv => (entryB_plain 0 (hpf v hv)).1, entryEnv_map _ caps fun v hv => (entryB_plain 0 (hpc v hv)).1]
        rw [hsp, List.append_assoc v1]
        have hfirst : SlotsRel ρ σ.h (Sof ρ σ.h Bc) w first v1 := slots_of_pack first v1 ha1 fun x hx => hpl' x (by simp [hx])
        have hcaps : SlotsRel ρ σ.h (Sof ρ σ.h Bc) w caps v2 := slots_of_pack caps v2 ha2 fun x hx => hpl' x (by simp [hx])
        refine slots_append _ _ _ _ (slots_plain _ _ hfirst hpf hS0) (slots_append _ _ _ _ ?_ (slots_plain _ _ hcaps hpc hS0))
        refine mut_slots (i0 := first.length) hS0 0 _ vs' _ _ hmr hcs fun q hq => ?_
        simp only [List.mem_singleton] at hq
        subst hq
        simp only [← hi']
        rw [hH0]
        simp only [ρ0, if_true, hid0]
        exact ⟨trivial, trivial⟩
    have hc := hcalls _ B0 w _ hentry
    unfold Oper.wp
    rw [hrun]
    show Calls P g' _ w _
    refine hc.mono fun e w' hh => ?_
    obtain ⟨v, ρ', rfl, hout⟩ := hh
    obtain ⟨o1, o2, o3, o4⟩ := hout
    generalize hdd : o.dst.getD 0 = d at *
    have hRH : r.H (first ++ vs' ++ caps) = fun x => (look (fsH 0 r.fs) x).getD none := by
      funext x
      simp only [RV.H, hrms]
      rw [hmut]
      rfl
    have hρ' : ρ' (pid i) = ρ id := by
      rw [o4 i ⟨c0, false⟩ (by rw [hH0]; simp)]
      simp [ρ0]
    rw [hRH] at o1 o2
    have hN0' : ∀ k, ((∃ x b, (entry (first ++ vs' ++ caps)).h x = some b ∧ ρ0 x = some k) ∨ w.heap.size ≤ k) → ρ id = some k ∨ w.heap.size ≤ k := by
      rintro k (⟨x, b, hx, hk⟩ | h)
      · simp only [ρ0] at hk
        split at hk
        · exact .inl hk
        · cases hk
      · exact .inr h
    have hfrx : ∀ x, (nid d 0 ≤ x ∧ x < nid d 0 + r.fs.length) → σ.h x = none ∧ x < 1000000 ∧ ∀ t, (σ.e t).names x = false := by
      intro x hx
      have h2 : ∃ b, look (fsU d 0 r.fs) x = some b := ⟨_, by rw [fsU_look, if_pos hx]⟩
      obtain ⟨b, h2⟩ := h2
      have := List.all_eq_true.1 hfr (x, b) (look_mem _ _ _ h2)
      simp only [Bool.and_eq_true] at this
      refine ⟨by simpa using this.1.1, by have := Nat.le_of_ble_eq_true this.1.2; omega, fun t => ?_⟩
      unfold St.e
      cases ht : look σ.env t with
      | none => rfl
      | some v =>
        have := List.all_eq_true.1 this.2 (t, v) (look_mem _ _ _ ht)
        simpa using this
    have hidn : ¬ (nid d 0 ≤ id ∧ id < nid d 0 + r.fs.length) := fun h => by
      have := (hfrx id h).1
      rw [hid0] at this; cases this
    have hpf' : ∀ j, j < r.fs.length → pid i ≠ fid j := fun j hj e => by
      rcases hfs with h | h
      · rw [h] at hj; simp at hj
      · have := Nat.le_of_ble_eq_true h
        unfold pid fid at e; omega
    have hpn : (look (fsH 0 r.fs) (pid i)).getD none = none := by
      cases e : look (fsH 0 r.fs) (pid i) with
      | none => rfl
      | some x =>
        exfalso
        have key : ∀ (fs : List (Nat × List AV)) (j q : Nat) (x : Option Blk), look (fsH j fs) q = some x → ∃ k, j ≤ k ∧ k < j + fs.length ∧ q = fid k := by
          intro fs
          induction fs with
          | nil => intro j q x h; simp [fsH, look] at h
          | cons z fs ih =>
            intro j q x h
            simp only [fsH, look] at h
            split at h
            · rename_i hb
              exact ⟨j, Nat.le_refl _, by simp, (Nat.eq_of_beq_eq_true hb).symm⟩
            · obtain ⟨k, h1, h2, h3⟩ := ih (j + 1) q x h
              exact ⟨k, by omega, by simp; omega, h3⟩
        obtain ⟨k, _, h2, h3⟩ := key r.fs 0 _ x e
        exact hpf' k (by omega) h3
    let φ : Nat → Option Nat := fun x => if x = id then some (pid i) else if nid d 0 ≤ x ∧ x < nid d 0 + r.fs.length then some (fid (x - nid d 0)) else none
    have hφ : ∀ x y, φ x = some y → (x = id ∧ y = pid i) ∨ ((nid d 0 ≤ x ∧ x < nid d 0 + r.fs.length) ∧ y = fid (x - nid d 0)) := by
      intro x y h
      simp only [φ] at h
      split at h
      · rename_i e; cases h; exact .inl ⟨e, rfl⟩
      · split at h
        · rename_i e; cases h; exact .inr ⟨e, rfl⟩
        · cases h
    have hφid : φ id = some (pid i) := if_pos rfl
    have hφn : ∀ x, (nid d 0 ≤ x ∧ x < nid d 0 + r.fs.length) → φ x = some (fid (x - nid d 0)) := fun x hx => by
      have hne : x ≠ id := fun e => hidn (e ▸ hx)
      simp only [φ]
      rw [if_neg hne, if_pos hx]
    have hHeq : (fun x => match φ x with | some y => (look (fsH 0 r.fs) y).getD none | none => σ.h x) = updH σ.h (callU d [(id, none)] ms r) := by
      have e0 : callU d [(id, none)] ms r = fsU d 0 r.fs ++ [(id, none)] := by
        unfold callU
        rw [hrms, hms0]
        rfl
      rw [e0, updH_append]
      funext x
      simp only [updH, fsU_look d r.fs 0 x]
      by_cases hc : nid d 0 ≤ x ∧ x < nid d 0 + r.fs.length
      · rw [hφn x hc]
        simp only [if_pos hc, Nat.zero_add]
        cases look (fsH 0 r.fs) (fid (x - nid d 0)) <;> rfl
      · rw [if_neg hc]
        simp only [look]
        by_cases e : x = id
        · subst e
          rw [hφid]
          simp only [hpn, Nat.beq_refl]
        · have hb : Nat.beq id x = false := by rw [← Bool.not_eq_true, Nat.beq_eq]; exact fun h => e h.symm
          have : φ x = none := by simp only [φ]; rw [if_neg e, if_neg hc]
          rw [hb, this]
    have hSsub : ∀ k, Sof ρ' (fun x => (look (fsH 0 r.fs) x).getD none) (fun k => B0 k ∨ (w.heap.size ≤ k ∧ k < w'.heap.size)) k →
        Sof (fun x => match φ x with | some y => ρ' y | none => ρ x) (fun x => match φ x with | some y => (look (fsH 0 r.fs) y).getD none | none => σ.h x) (fun k => Bc k ∨ (w.heap.size ≤ k ∧ k < w'.heap.size)) k := by
      intro k hk
      refine ⟨hk.1.imp (hBsub k) (fun x => x), fun x b hx hf e => ?_⟩
      cases he : φ x with
      | some y =>
        simp only [he] at hx e
        exact hk.2 y b hx hf e
      | none =>
        simp only [he] at hx e
        have hxid : x ≠ id := fun h => by simp [φ, h] at he
        rcases hk.1 with h | h
        · rcases h with h | h
          · exact h.2 x b hx hf e
          · exact hxid (cx.hr.inj x id b _ k hx hid0 e h)
        · rcases cx.hr.at_ x b hx with ⟨sz, _, g2⟩ | ⟨q, arr, T, cs, ext, g1, g2, _⟩
          · rw [g2] at e; cases e
          · rw [g1] at e; cases e
            have := cx.hr.lt _ g2; omega
    have hst := Step.call (w' := w') cx.hr (B0 := B0) (F := fun x => nid d 0 ≤ x ∧ x < nid d 0 + r.fs.length) (φ := φ) o1 cx.nb hBsub (fun k hk => by
        rcases hN0' k hk with h | h
        · exact .inl ⟨id, pid i, hφid, hidn, h⟩
        · exact .inr h) o3
      (fun x y z hx hy => by
        rcases hφ x z hx with ⟨h1, h2⟩ | ⟨h1, h2⟩ <;> rcases hφ y z hy with ⟨h3, h4⟩ | ⟨h3, h4⟩
        · rw [h1, h3]
        · exact absurd (h2.symm.trans h4) (hpf' _ (by omega))
        · exact absurd (h4.symm.trans h2) (hpf' _ (by omega))
        · rw [h2] at h4
          unfold fid at h4; omega)
      (fun x y hxy hx => by
        rcases hφ x y hxy with ⟨rfl, _⟩ | ⟨h1, rfl⟩
        · exact absurd hx hidn
        · refine ⟨(hfrx x hx).1, fun k hk => ?_⟩
          have h2 : ∃ b, look (fsH 0 r.fs) (fid (x - nid d 0)) = some (some b) := by
            have : ∀ (fs : List (Nat × List AV)) (j i : Nat), j ≤ i → i < j + fs.length → ∃ b, look (fsH j fs) (fid i) = some (some b) := by
              intro fs
              induction fs with
              | nil => intro j i h1 h2; simp at h2; omega
              | cons q fs ih =>
                intro j i h1 h2
                simp only [fsH, look]
                by_cases e : j = i
                · subst e; rw [Nat.beq_refl]; exact ⟨_, rfl⟩
                · have hb : Nat.beq (fid j) (fid i) = false := by rw [← Bool.not_eq_true, Nat.beq_eq]; unfold fid; omega
                  rw [hb]
                  exact ih (j + 1) i (by omega) (by simp at h2; omega)
            exact this r.fs 0 _ (by omega) (by omega)
          obtain ⟨b, h2⟩ := h2
          rcases o1.at_ (fid (x - nid d 0)) b (by rw [h2]; rfl) with ⟨sz, _, g2⟩ | ⟨q, arr, T, cs, ext, g1, g2, g3, _⟩
          · rw [g2] at hk; cases hk
          · rw [g1] at hk; cases hk
            rcases hN0' _ g3 with h | h
            · exact .inr ⟨id, pid i, hφid, hidn, h⟩
            · exact .inl h)
      (fun x y hxy hnx => by
        rcases hφ x y hxy with ⟨rfl, rfl⟩ | ⟨h1, _⟩
        · exact ⟨hρ', c0, hid0, fun b hb => by rw [hpn] at hb; cases hb⟩
        · exact absurd h1 hnx)
      (fun x y b cs _ _ hv => VRel.keep hSsub (fun _ _ _ => rfl) _ _ hv)
    rw [hHeq] at hst
    refine hnext _ _ (hr.step hpid hslots hst (fun x hx => (hfrx x hx).2.2) (fun i h => by have := (hfrx _ h).2.1; unfold pid at this; omega) ?_ hd)
    rw [← hHeq]
    refine slot_ren hres o2 (.inl hSsub) fun j hj => ?_
    have e1 : φ (nid d j) = some (fid j) := by
      rw [hφn _ (by unfold nid; omega)]
      congr 1
      unfold nid fid; omega
    simp only [e1]
    exact ⟨trivial, trivial⟩

theorem call_sound (g : Good P T) (hN : ∀ k, fr.w0.heap.size ≤ k → fr.N k) (hr : RelF fr σ a w) {o : Oper} {m : Nat} {f : FuncId} {args : List AV} {u u2 : Upd} {ms : List (Nat × Nat)} {C : Prop} (h : (aop T (o.dst.getD 0) (opdA σ.e) (stripOp m o.type o.op)).run σ.h = .call f args u ms C) (hic : isCall (stripOp m o.type o.op) = true)
    {r : RV} (hden : Den P f args r) (hok : okCall σ (o.dst.getD 0) args u ms r u2) (hd : ∀ d, o.dst = some d → d < fr.n) {next : Act → World → Prop} {Q : Exit → Act → World → Prop}
    (hnext : ∀ a' w', RelF fr ((σ.upd (callU (o.dst.getD 0) u2 ms r)).put o.dst (ren (o.dst.getD 0) r.r)) a' w' → next a' w') : o.wp P a w next Q := by
  generalize ho : o.op = op at h hic
  have hcall : ∃ fo os ts, op = .call ⟨.value fo, os, ts⟩ ∧ (aop T (o.dst.getD 0) (opdA σ.e) (.call m fo os.toList)).run σ.h = .call f args u ms C := by
    unfold stripOp at h hic
    split at h <;> try (rw [slOp_call] at hic; cases hic)
    all_goals try (rw [cloOp_call] at hic; cases hic)
    all_goals simp only [isCall, Bool.false_eq_true] at hic
    exact ⟨_, _, _, rfl, h⟩
  clear h
  obtain ⟨fo, os, ts, rfl, h⟩ := hcall
  simp only [aop] at h
  split at h
  · rename_i g' first caps ef
    obtain ⟨ρ, cx, _⟩ := hr.cx g hN
    have hpl : ((first ++ caps).all fun x => x.plain) = true := by
      have hf := cx.rel fo
      rw [ef] at hf
      obtain ⟨_, _, _, hpl, _⟩ := hf
      exact hpl
    refine call_core g hN hr h hpl (fun ρ hrel rel => ?_) hden hok hd (Q := Q) hnext
    have hf := rel fo
    rw [ef] at hf
    obtain ⟨v1, v2, hcf, _, ha1, ha2⟩ := hf
    simp only [List.cons.injEq, and_true] at hcf
    have hsl : ∀ xs : List Operand, SlotsRel ρ σ.h (Sof ρ σ.h (fun k => fr.B0 k ∨ (fr.w0.heap.size ≤ k ∧ k < w.heap.size))) w (xs.map (opdA σ.e)) (xs.map a.eval) := by
      intro xs
      induction xs with
      | nil => simp [SlotsRel]
      | cons x xs ih => exact ⟨a.eval x, xs.map a.eval, rfl, rel x, ih⟩
    refine ⟨v1, os.toList.map a.eval, v2, ha1, ha2, hsl _, fun hcallable => ?_⟩
    have e1 : (v1.toArray ++ os.map a.eval) ++ v2.toArray = (v1 ++ os.toList.map a.eval ++ v2).toArray := by
      rw [← Array.toList_inj]; simp
    simp only [execOp, ho, resolve, hcf, Deferred.ofValue, Sem.run_bind, Sem.run_pure, Result.andThen_ok, invoke, e1]
    exact hcallable _ w
  · rename_i g' id caps ef
    split at h
    rotate_left
    · simp [Ask.run] at h
    rename_i hos
    simp only [Ask.run] at h
    split at h
    rotate_left
    · simp [Ask.run] at h
    rename_i c hH
    have hH' : σ.h id = some ⟨c, false⟩ := hH
    obtain ⟨ρ, cx, _⟩ := hr.cx g hN
    have hpl : (caps.all fun x => x.plain) = true := by
      have hf := cx.rel fo
      rw [ef] at hf
      obtain ⟨_, _, _, _, hpl, _⟩ := hf _ hH'
      exact hpl
    have h2 : (frzArgs 1 0 [.own id [] []] fun as u ms => .ret (.call g' ([] ++ as ++ caps) u (ms.map fun p => (p.1 + ([] : List AV).length, p.2)) True)).run σ.h = .call f args u ms C := by
      rw [← h]
      simp only [frzArgs, show Nat.testBit 1 0 = true from rfl, if_true, Ask.run, hH']
      rfl
    refine call_core g hN hr h2 (by simpa using hpl) (fun ρ hrel rel => ?_) hden hok hd (Q := Q) hnext
    have hf := rel fo
    rw [ef] at hf
    obtain ⟨k, vs, q1, q2, _, q4⟩ := hf _ hH'
    refine ⟨[], [.pointer (some ⟨k, 0, none⟩)], vs, rfl, q4, ⟨_, [], rfl, fun b hb => ⟨k, q1, rfl⟩, rfl⟩, fun hcallable => ?_⟩
    have e1 : (#[] ++ os.map a.eval) ++ (Value.pointer (some ⟨k, 0, none⟩) :: vs).toArray = ([] ++ [Value.pointer (some ⟨k, 0, none⟩)] ++ vs).toArray := by
      rw [show os = #[] from by rw [← Array.toList_inj]; exact hos]
      simp
    simp only [execOp, ho, resolve, q2, Deferred.ofValue, Sem.run_bind, Sem.run_pure, Result.andThen_ok, invoke, e1]
    exact hcallable _ w
  · simp [Ask.run] at h

theorem guard_spec {o : Oper} {ops : Array Oper} {m : List (Nat × Nat)} {draw : Bool} (hsz : a.tmps.size ≤ 999999) (hs : ∀ t, ∀ b, σ.e t = .bool b → a.tmps.getD t undef = .bool b) (hs0 : ∀ t, σ.e t = .tuple [] → a.tmps.getD t undef = undef) :
    match (stripOper m draw ops o).guard with
    | none => Region.wanted o (yielded ops a.tmps) = true
    | some (g, want) => (∀ b, σ.e g = .bool b → (Region.wanted o (yielded ops a.tmps) = true ↔ b = want)) ∧ (σ.e g = .tuple [] → Region.wanted o (yielded ops a.tmps) = false) := by
  simp only [stripOper]
  cases hg : o.guard with
  | none => simp [Region.wanted, hg]
  | some p =>
    obtain ⟨j, want⟩ := p
    simp only [Option.map_some]
    refine ⟨?_, fun hb => ?_⟩
    rotate_left
    · have h1 := hs0 _ hb
      simp only [Region.wanted, hg, yielded]
      cases hd : (ops[j]?).bind (·.dst) with
      | none => simp
      | some d =>
        rw [hd] at h1
        simp only [Option.getD_some] at h1
        cases h3 : a.tmps[d]? with
        | none => simp [h3]
        | some x =>
          rw [Array.getD_eq_getD_getElem?, h3] at h1
          simp only [Option.getD_some] at h1
          subst h1
          simp [h3, undef]
    intro b hb
    have h1 := hs _ b hb
    simp only [Region.wanted, hg, yielded]
    cases hd : (ops[j]?).bind (·.dst) with
    | none =>
      rw [hd] at h1 hb
      simp only [Option.getD_none] at h1
      exfalso
      rw [Array.getD_eq_getD_getElem?, Array.getElem?_eq_none hsz] at h1
      simp [undef] at h1
    | some d =>
      rw [hd] at h1
      simp only [Option.getD_some] at h1
      have h2 : a.tmps[d]? = some (.bool b) := by
        rw [Array.getD_eq_getD_getElem?] at h1
        cases h3 : a.tmps[d]? with
        | none => rw [h3] at h1; simp [undef] at h1
        | some x => rw [h3] at h1; simp at h1; rw [h1]
      simp only [Option.bind_some, h2]
      cases b <;> cases want <;> simp

theorem step_sound (g : Good P T) (hn : fr.n ≤ 999999) (hN : ∀ k, fr.w0.heap.size ≤ k → fr.N k) (hr : RelF fr σ a w) {o : Oper} {m : List (Nat × Nat)} {draw : Bool} {ops : Array Oper} {K : St → Prop} (h : astep P T (stripOper m draw ops o) σ K)
    (hd : ∀ d, o.dst = some d → d < fr.n) {next : Act → World → Prop} {Q : Exit → Act → World → Prop} (hnext : ∀ σ' a' w', K σ' → RelF fr σ' a' w' → next a' w') :
    if Region.wanted o (yielded ops a.tmps) then o.wp P a w next Q ∨ (o.asks P a w ∧ LetsOut Q) else next (a.put o.dst undef) w := by
  obtain ⟨ρ, cx, hslots, hpid⟩ := hr.cx g hN
  have hbool : ∀ t b, σ.e t = .bool b → a.tmps.getD t undef = .bool b := by
    intro t b hb
    have := hslots t
    rw [hb] at this; exact this
  have hskip : ∀ t, σ.e t = .tuple [] → a.tmps.getD t undef = undef := by
    intro t hb
    have := hslots t
    rw [hb] at this
    obtain ⟨vs, h1, h2⟩ := this
    simp only [SlotsRel] at h2
    subst h2
    exact h1
  have hgs := guard_spec (σ := σ) (a := a) (o := o) (ops := ops) (m := m) (draw := draw) (by rw [hr.size]; exact hn) hbool hskip
  have run : ev P σ (stripOper m draw ops o) K ((aop T ((stripOper m draw ops o).dst.getD 0) (opdA σ.e) (stripOper m draw ops o).op).run σ.h) → o.wp P a w next Q := by
    intro hev
    generalize he : (aop T ((stripOper m draw ops o).dst.getD 0) (opdA σ.e) (stripOper m draw ops o).op).run σ.h = E at hev
    cases E with
    | bad => exact hev.elim
    | val v u C =>
      obtain ⟨hC, hok, hK⟩ := hev
      obtain ⟨n, c, ρ', w', hrun, hn, hst, hv⟩ := op_sound cx g.pos he hC
      have hnew := okNew_spec hok
      have hrel := hr.step hpid hslots (F := NewIds σ.h u) (v := v) (c := c) (dst := o.dst) hst (fun id hid => (hnew id hid).2) (fun i hid => by have := (hnew _ hid).1; unfold pid at this; omega) hv hd
      have := hnext _ _ _ hK hrel
      unfold Oper.wp
      rw [hrun]
      rcases hn with rfl | ⟨rfl, rfl⟩
      · exact this
      · exact this
    | split c v v' =>
      obtain ⟨hbin, h1, h2⟩ := hev
      have hb : ∃ op t x y yt, o.op = .binOp op t x y yt := by
        simp only [stripOper] at hbin
        generalize o.op = op0 at hbin ⊢
        unfold stripOp at hbin
        split at hbin <;> first | (rw [slOp_bin] at hbin; cases hbin) | (rw [cloOp_bin] at hbin; cases hbin) | skip
        all_goals simp [isBin] at hbin
        exact ⟨_, _, _, _, _, rfl⟩
      obtain ⟨op, t, x, y, yt, ho⟩ := hb
      have hs : stripOp ((o.dst.bind (look m)).getD 0) o.type o.op = .bin op t x y := by rw [ho]; rfl
      have he' : (aop T ((stripOper m draw ops o).dst.getD 0) (opdA σ.e) (.bin op t x y)).run σ.h = .split c v v' := by
        rw [← he, ← hs]; rfl
      have go : ∀ v0, K (σ.put o.dst v0) → Does P (execOp a.eval o) ρ σ.h (fun k => fr.B0 k ∨ (fr.w0.heap.size ≤ k ∧ k < w.heap.size)) fr.N w v0 [] → o.wp P a w next Q := by
        intro v0 hK hdoes
        obtain ⟨n, c0, ρ', w', hrun, hn, hst, hv⟩ := hdoes
        have hrel := hr.step hpid hslots (F := NewIds σ.h []) (v := v0) (c := c0) (dst := o.dst) hst (fun id hid => by obtain ⟨_, b, hb⟩ := hid; simp [look] at hb) (fun i hid => by obtain ⟨_, b, hb⟩ := hid; simp [look] at hb) hv hd
        have := hnext _ _ _ hK hrel
        unfold Oper.wp
        rw [hrun]
        rcases hn with rfl | ⟨rfl, rfl⟩
        · exact this
        · exact this
      rcases op_split cx (fun _ => rfl) ho he' with ⟨hc, hdoes⟩ | hdoes
      · exact go v (h1 hc) hdoes
      · exact go v' h2 hdoes
    | call f args u ms C =>
      obtain ⟨_, hic, r, u2, hden, hok, hK⟩ := hev
      exact call_sound g hN hr he hic hden hok hd fun a' w' h' => hnext _ _ _ hK h'
  unfold astep at h
  split at h
  · rename_i hg
    rw [hg] at hgs
    simp only at hgs
    rw [if_pos hgs]
    exact .inl (run h)
  · rename_i gd want hg
    rw [hg] at hgs
    simp only at hgs
    split at h
    · rename_i b hb
      have h2 := hgs.1 b hb
      split at h
      · rename_i hbw
        rw [if_pos (h2.2 hbw)]
        exact .inl (run h)
      · rename_i hbw
        rw [if_neg (fun x => hbw (h2.1 x))]
        exact hnext _ _ _ h (hr.put_skip _ hd)
    · rename_i hb
      rw [hgs.2 hb]
      exact hnext _ _ _ h (hr.put_skip _ hd)
    · exact h.elim

theorem ops_sound (g : Good P T) (hn : fr.n ≤ 999999) (hN : ∀ k, fr.w0.heap.size ≤ k → fr.N k) {m : List (Nat × Nat)} {draw : Bool} {ops : Array Oper} {Q : Exit → Act → World → Prop} {K : St → Prop} (hK : ∀ σ a w, K σ → RelF fr σ a w → Q .normal a w) :
    ∀ (n i : Nat) (σ : St) (a : Act) (w : World), i + n = ops.size → aops P T ((ops.toList.drop i).map (stripOper m draw ops)) σ K → (((ops.toList.drop i).map (stripOper m draw ops)).all (dstLt fr.n)) = true → RelF fr σ a w → wpOps P ops Q (List.range' i n) a w
  | 0, i, σ, a, w, hi, h, _, hr => by
    have : ops.toList.drop i = [] := by simp; omega
    rw [this] at h
    simp only [List.range'_zero, wpOps]
    exact hK σ a w h hr
  | n + 1, i, σ, a, w, hi, h, hd, hr => by
    have hlt : i < ops.size := by omega
    have he : ops.toList.drop i = ops[i] :: ops.toList.drop (i + 1) := by
      rw [List.drop_eq_getElem_cons (by simpa using hlt)]
      simp
    rw [he] at h hd
    simp only [List.map_cons, aops, List.all_cons, Bool.and_eq_true] at h hd
    rw [List.range'_succ, wpOps_cons]
    unfold wpOp
    rw [Array.getElem?_eq_getElem hlt]
    simp only
    refine step_sound g hn hN hr h (fun d hdd => ?_) fun σ' a' w' hK' hr' => ops_sound g hn hN hK n (i + 1) σ' a' w' (by omega) hK' hd.2 hr'
    have := hd.1
    simp only [dstLt, stripOper, hdd] at this
    exact Nat.le_of_ble_eq_true this

end
end Go.Abs
/- Regions whose order is drawn: all orders that the edges allow come to one end. For every program. -/
namespace Go.Abs
section
variable {P : Program} {T : Tys} {fr : Fr} {σ σ' : St} {a : Act} {w : World}

theorem map_congr' {α β : Type} {f g : α → β} {l : List α} (h : ∀ x ∈ l, f x = g x) : l.map f = l.map g := List.map_congr_left h

theorem aop_congr {d : Nat} {e e' : Operand → AV} (op : AO) (h : ∀ x ∈ op.opds, e x = e' x) : aop T d e op = aop T d e' op := by
  cases op with
  | build t ps =>
    have : ps.map (fun p => e p.2) = ps.map (fun p => e' p.2) := map_congr' fun p hp => h _ (by simp only [AO.opds, List.mem_map]; exact ⟨p, hp, rfl⟩)
    simp only [aop, this]
  | bslice m t n ps =>
    have : ps.map (fun p => e p.2) = ps.map (fun p => e' p.2) := map_congr' fun p hp => h _ (by simp only [AO.opds, List.mem_map]; exact ⟨p, hp, rfl⟩)
    simp only [aop, this]
  | mkfn f x y =>
    have h1 : x.map e = x.map e' := map_congr' fun p hp => h _ (by simp [AO.opds, hp])
    have h2 : y.map e = y.map e' := map_congr' fun p hp => h _ (by simp [AO.opds, hp])
    simp only [aop, h1, h2]
  | call m f args =>
    have h1 : args.map e = args.map e' := map_congr' fun p hp => h _ (by simp [AO.opds, hp])
    simp only [aop, h1, h f (by simp [AO.opds])]
  | blt m b args ts =>
    have h1 : args.map e = args.map e' := map_congr' fun p hp => h _ (by simpa [AO.opds] using hp)
    simp only [aop, h1]
  | mkclo f caps =>
    have h1 : caps.map e = caps.map e' := map_congr' fun p hp => h _ (by simpa [AO.opds] using hp)
    simp only [aop, h1]
  | slice t x lo hi mx =>
    have h0 := h x (by simp [AO.opds])
    have h1 : lo.map e = lo.map e' := by cases lo <;> simp [AO.opds] at h ⊢; exact h.2.1
    have h2 : hi.map e = hi.map e' := by cases hi <;> simp [AO.opds] at h ⊢; exact h.2 _ (by simp)
    have h3 : mx.map e = mx.map e' := by cases mx <;> simp [AO.opds] at h ⊢; exact h.2 _ (by simp)
    simp only [aop, h0, h1, h2, h3]
  | _ => simp [AO.opds] at h <;> simp only [aop, h]

theorem opdA_congr {e e' : Nat → AV} {xs : List Operand} (h : ∀ t ∈ tmpsOf xs, e t = e' t) : ∀ x ∈ xs, opdA e x = opdA e' x := by
  induction xs with
  | nil => simp
  | cons y ys ih =>
    intro x hx
    rcases List.mem_cons.1 hx with rfl | hx
    · cases x <;> first | rfl | exact h _ (by simp [tmpsOf])
    · exact ih (fun t ht => h t (by cases y <;> simp [tmpsOf, ht])) x hx


theorem memN_iff {x : Nat} {l : List Nat} : memN x l = true ↔ x ∈ l := by
  simp only [memN, List.any_eq_true]
  constructor
  · rintro ⟨y, hy, e⟩; rw [Nat.eq_of_beq_eq_true e]; exact hy
  · intro h; exact ⟨x, h, Nat.beq_refl x⟩
theorem disj_iff {a b : List Nat} : disj a b = true ↔ ∀ x ∈ a, x ∉ b := by
  simp only [disj, List.all_eq_true, Bool.not_eq_true']
  constructor
  · intro h x hx hb; have := h x hx; rw [memN_iff.2 hb] at this; cases this
  · intro h x hx; cases hb : memN x b with
    | false => rfl
    | true => exact absurd (memN_iff.1 hb) (h x hx)
mutual
theorem names_mem {id : Nat} : ∀ (v : AV), v.names id = true → id ∈ namesL v
  | .own i _ _, h => by simp only [AV.names, beq_iff_eq] at h; simp [namesL, h]
  | .osl i, h => by simp only [AV.names, beq_iff_eq] at h; simp [namesL, h]
  | .tuple xs, h => by simp only [AV.names] at h; simp only [namesL]; exact names_all xs h
  | .top, h => by simp [AV.names] at h
  | .int .., h => by simp [AV.names] at h
  | .bool _, h => by simp [AV.names] at h
  | .str _, h => by simp [AV.names] at h
  | .arr .., h => by simp [AV.names] at h
  | .struct .., h => by simp [AV.names] at h
  | .row .., h => by simp [AV.names] at h
  | .sl .., h => by simp [AV.names] at h
  | .clo .., h => by simp [AV.names] at h
  | .ref .., h => by simp [AV.names] at h
  | .mutsl .., h => by simp [AV.names] at h
  | .mutp _, h => by simp [AV.names] at h
  | .fr i _, h => by simp only [AV.names, beq_iff_eq] at h; simp [namesL, h]
  | .oclo _ i _, h => by simp only [AV.names, beq_iff_eq] at h; simp [namesL, h]
  | .mclo .., h => by simp [AV.names] at h
  | .raw _, h => by simp [AV.names] at h
theorem names_all {id : Nat} : ∀ (xs : List AV), AV.names.namesAny id xs = true → id ∈ namesL.all xs
  | [], h => by simp [AV.names.namesAny] at h
  | x :: xs, h => by
    simp only [AV.names.namesAny, Bool.or_eq_true] at h
    simp only [namesL.all, List.mem_append]
    rcases h with h | h
    · exact .inl (names_mem x h)
    · exact .inr (names_all xs h)
end

theorem asks_run {H H' : Hp} : ∀ (a : Ask), (∀ id ∈ a.asks H, H id = H' id) → a.run H' = a.run H
  | .ret _, _ => rfl
  | .get id k, h => by
    simp only [Ask.asks, List.mem_cons, forall_eq_or_imp] at h
    simp only [Ask.run]
    rw [← h.1]
    exact asks_run (k (H id)) h.2

def EvU (P : Program) (H : Hp) (o : AOper) (N : Upd → Prop) : Ev → AV → Upd → Prop
  | .bad, _, _ => False
  | .split .., _, _ => False
  | .val v' u' C, v, u => C ∧ N u' ∧ u' = u ∧ v' = v
  | .call f args u' ms C, v, u => C ∧ isCall o.op = true ∧ ((ms = [] ∧ mutIx 0 args = [] ∧ ∃ r, Den P f args r ∧ r.ms = [] ∧ okRess r.fs.length r.r = true ∧ Nat.ble r.fs.length 100 = true ∧
      N (fsU (o.dst.getD 0) 0 r.fs) ∧ (∀ q ∈ fsU (o.dst.getD 0) 0 r.fs, (H q.1).isNone = true) ∧ u = fsU (o.dst.getD 0) 0 r.fs ++ u' ∧ v = ren (o.dst.getD 0) r.r) ∨
      (∃ i id c, ms = [(i, id)] ∧ u' = [] ∧ mutIx 0 args = [i] ∧ Den P f args { r := v, ms := [c] } ∧ okRess 0 v = true ∧ sameShape (nth args i) c ∧ u = [(id, some ⟨c, false⟩)]))

/-- One operation gives v and changes the blocks as u says. -/
def RunU (P : Program) (T : Tys) (N : Upd → Prop) (e : Nat → AV) (H : Hp) (o : AOper) (v : AV) (u : Upd) : Prop :=
  match o.guard with
  | none => EvU P H o N ((aop T (o.dst.getD 0) (opdA e) o.op).run H) v u
  | some (g, want) => (∃ b, e g = .bool b ∧ (b = want → EvU P H o N ((aop T (o.dst.getD 0) (opdA e) o.op).run H) v u) ∧ (b ≠ want → v = .tuple [] ∧ u = [])) ∨ (e g = .tuple [] ∧ v = .tuple [] ∧ u = [])

theorem EvU.imp {N N' : Upd → Prop} {H H' : Hp} {o : AOper} {E : Ev} {v : AV} {u : Upd} (hN : ∀ u0 : Upd, (∀ q ∈ u0, q ∈ u) → N u0 → N' u0) (hH : ∀ q ∈ u, H q.1 = H' q.1) (h : EvU P H o N E v u) : EvU P H' o N' E v u := by
  cases E with
  | bad => exact h
  | split => exact h
  | val v' u' C => obtain ⟨a, b, rfl, rfl⟩ := h; exact ⟨a, hN _ (fun _ h => h) b, rfl, rfl⟩
  | call f args u' ms C =>
    rcases h with ⟨h1, h2, ⟨h3, h4, r, h5, h6, h7, h8, h9, h10, rfl, h12⟩ | h3⟩
    · exact ⟨h1, h2, .inl ⟨h3, h4, r, h5, h6, h7, h8, hN _ (fun q hq => List.mem_append_left _ hq) h9, fun q hq => by rw [← hH q (List.mem_append_left _ hq)]; exact h10 q hq, rfl, h12⟩⟩
    · exact ⟨h1, h2, .inr h3⟩
theorem RunU.congr {N N' : Upd → Prop} {e e' : Nat → AV} {H H' : Hp} {o : AOper} {v : AV} {u : Upd} (h : RunU P T N e H o v u) (he : ∀ t ∈ o.reads, e t = e' t) (hH : ∀ id ∈ (aop T (o.dst.getD 0) (opdA e) o.op).asks H, H id = H' id) (hU : ∀ q ∈ u, H q.1 = H' q.1) (hN : ∀ u0 : Upd, (∀ q ∈ u0, q ∈ u) → N u0 → N' u0) : RunU P T N' e' H' o v u := by
  have h1 : aop T (o.dst.getD 0) (opdA e) o.op = aop T (o.dst.getD 0) (opdA e') o.op :=
    aop_congr o.op (opdA_congr fun t ht => he t (by simp [AOper.reads, ht]))
  unfold RunU at *
  rw [← h1, asks_run _ hH]
  split at h
  · exact h.imp hN hU
  · rename_i g want hg
    rcases h with ⟨b, hb, h2, h3⟩ | ⟨h1, h2⟩
    · exact .inl ⟨b, by rw [← he g (by simp [AOper.reads, hg])]; exact hb, fun hw => (h2 hw).imp hN hU, h3⟩
    · exact .inr ⟨by rw [← he g (by simp [AOper.reads, hg])]; exact h1, h2⟩

theorem renF_ok {n d : Nat} {v : AV} (hn : n = 0) (h : okRes n v = true) : renF d v = v := by
  cases v
  case osl id =>
    simp only [okRes, Bool.and_eq_true] at h
    have h1 := Nat.le_of_ble_eq_true h.1
    have h2 := Nat.le_of_ble_eq_true h.2
    omega
  case own id p oo =>
    simp only [okRes, Bool.and_eq_true] at h
    have h1 := Nat.le_of_ble_eq_true h.2.1
    have h2 := Nat.le_of_ble_eq_true h.2.2
    omega
  all_goals rfl
theorem renFs_ok {d : Nat} : ∀ (xs : List AV), xs.all (okRes 0) = true → xs.map (renF d) = xs
  | [], _ => rfl
  | x :: xs, h => by
    simp only [List.all_cons, Bool.and_eq_true] at h
    rw [List.map_cons, renF_ok (n := 0) rfl h.1, renFs_ok xs h.2]
theorem ren_ok {d : Nat} {v : AV} (h : okRess 0 v = true) : ren d v = v := by
  cases v
  case osl id =>
    have h' : okRes 0 (.osl id) = true := h
    exact renF_ok rfl h'
  case own id p oo =>
    have h' : okRes 0 (.own id p oo) = true := h
    exact renF_ok rfl h'
  case tuple xs => exact congrArg AV.tuple (renFs_ok xs h)
  all_goals rfl
theorem fsU_some (d : Nat) : ∀ (fs : List (Nat × List AV)) (j : Nat), ∀ q ∈ fsU d j fs, q.2.isNone = false
  | [], _ => by simp [fsU]
  | (sz, xs) :: fs, j => by
    intro q hq
    simp only [fsU, List.mem_cons] at hq
    rcases hq with rfl | hq
    · rfl
    · exact fsU_some d fs (j + 1) q hq
theorem EvU.ev {o : AOper} {E : Ev} {v : AV} {u : Upd} (h : EvU P σ.h o (fun u => okNew σ u = true) E v u) {K : St → Prop} (hK : K ((σ.upd u).put o.dst v)) : ev P σ o K E := by
  cases E with
  | bad => exact h.elim
  | split => exact h.elim
  | val v' u' C => obtain ⟨hC, hn, rfl, rfl⟩ := h; exact ⟨hC, hn, hK⟩
  | call f args u' ms C =>
    rcases h with ⟨hC, h1, ⟨rfl, h2, r, h3, h4, h5, h6, h7, h8, rfl, rfl⟩ | ⟨i, id, c, rfl, rfl, h2, h3, h4, h5, rfl⟩⟩
    rotate_left
    · refine ⟨hC, h1, { r := v, ms := [c] }, [], h3, ⟨h4, rfl, rfl, .inr (.inl ⟨i, id, c, rfl, rfl, rfl, h2, rfl, rfl, h5⟩)⟩, ?_⟩
      rw [ren_ok h4]
      exact hK
    refine ⟨hC, h1, r, u', h3, ⟨h5, h6, ?_, .inl ⟨rfl, h2, h4, .inl rfl⟩⟩, ?_⟩
    · refine List.all_eq_true.2 fun q hq => ?_
      have g1 := List.all_eq_true.1 h7 q hq
      have g2 := h8 q hq
      have g3 := fsU_some _ _ _ q hq
      have g4 : (σ.h q.1).isSome = false := by cases e : σ.h q.1 <;> simp [e] at g2 ⊢
      simp only [g3, g4, Bool.false_or, Bool.and_eq_true] at g1
      simp only [g2, Bool.true_and, Bool.and_eq_true]
      exact g1
    · simpa [callU, msU] using hK
theorem RunU.astep {o : AOper} {v : AV} {u : Upd} (h : RunU P T (fun u => okNew σ u = true) σ.e σ.h o v u) {K : St → Prop} (hK : K ((σ.upd u).put o.dst v)) : astep P T o σ K := by
  unfold RunU at h
  unfold Abs.astep
  split at h
  · rename_i hg; rw [hg]; exact h.ev hK
  · rename_i g want hg
    rw [hg]
    rcases h with ⟨b, hb, h1, h2⟩ | ⟨hb, h3, h4⟩
    · simp only [hb]
      split
      · rename_i e; exact (h1 e).ev hK
      · rename_i e
        obtain ⟨h3, h4⟩ := h2 e
        rw [h3, h4] at hK; exact hK
    · simp only [hb]
      rw [h3, h4] at hK; exact hK

theorem ev_val {o : AOper} {E : Ev} {K : St → Prop} (h : ev P σ o K E) : ∃ v u, K ((σ.upd u).put o.dst v) ∧ (E.simple u = true → EvU P σ.h o (fun u => okNew σ u = true) E v u) := by
  cases E with
  | bad => exact h.elim
  | split c v v' => exact ⟨v', [], h.2.2, fun e => (nomatch e)⟩
  | val v u C => exact ⟨v, u, h.2.2, fun _ => ⟨h.1, h.2.1, rfl, rfl⟩⟩
  | call f args u ms C =>
    obtain ⟨hC, h1, r, u2, h4, ⟨h5, hle, hfr, h6⟩, h8⟩ := h
    refine ⟨_, _, h8, fun hs => ?_⟩
    simp only [Ev.simple, Bool.and_eq_true] at hs
    obtain ⟨hs, hms⟩ := hs
    rcases h6 with ⟨rfl, g1, g2, g3⟩ | ⟨i, id, c, rfl, rfl, rfl, g1, g2, g3, g4⟩ | ⟨i, id, rfl, rfl, rfl, g1, g2, g3⟩
    · have hu2 : u2 = u := by
        rcases g3 with rfl | ⟨rfl, g3, _⟩
        · rfl
        · cases u with
          | nil => rfl
          | cons q u =>
            have g4 := List.all_eq_true.1 hs q (by simp)
            have g5 := List.all_eq_true.1 g3 q (by simp)
            rw [List.any_eq_true] at g4
            obtain ⟨q', hq', e⟩ := g4
            have hq'' : q' ∈ fsU (o.dst.getD 0) 0 r.fs := by
              simpa [callU, msU, g2] using hq'
            have := List.all_eq_true.1 g5 q' hq''
            rw [e] at this; cases this
      subst hu2
      refine ⟨hC, h1, .inl ⟨rfl, g1, r, h4, g2, h5, hle, ?_, fun q hq => ?_, by simp [callU, msU, g2], rfl⟩⟩
      · refine List.all_eq_true.2 fun q hq => ?_
        have g4 := List.all_eq_true.1 hfr q hq
        simp only [Bool.and_eq_true] at g4
        simp only [Bool.or_eq_true, Bool.and_eq_true]
        exact .inr ⟨g4.1.2, g4.2⟩
      · have g4 := List.all_eq_true.1 hfr q hq
        simp only [Bool.and_eq_true] at g4
        exact g4.1.1
    · obtain ⟨rr, rms, rfs⟩ := r
      simp only at g2 g3
      subst g2; subst g3
      have e : ren (o.dst.getD 0) rr = rr := ren_ok h5
      show EvU P σ.h o _ _ (ren (o.dst.getD 0) rr) _
      rw [e]
      exact ⟨hC, h1, .inr ⟨i, id, c, rfl, rfl, g1, h4, h5, g4, rfl⟩⟩
    · exfalso
      have h9 := List.all_eq_true.1 hms (i, id) (by simp)
      simp only [Bool.and_eq_true] at h9
      have h10 := List.all_eq_true.1 h9.2 (id, none) (by simp [callU])
      simp at h10
theorem astep_val {o : AOper} {K : St → Prop} (h : astep P T o σ K) : ∃ v u, K ((σ.upd u).put o.dst v) ∧ (((aop T (o.dst.getD 0) (opdA σ.e) o.op).run σ.h).simple u = true → RunU P T (fun u => okNew σ u = true) σ.e σ.h o v u) := by
  unfold Abs.astep at h
  split at h
  · rename_i hg
    obtain ⟨v, u, h1, h2⟩ := ev_val h
    exact ⟨v, u, h1, fun hs => by unfold RunU; rw [hg]; exact h2 hs⟩
  · rename_i g want hg
    split at h
    · rename_i b hb
      split at h
      · rename_i e
        obtain ⟨v, u, h1, h2⟩ := ev_val h
        exact ⟨v, u, h1, fun hs => by unfold RunU; rw [hg]; exact .inl ⟨b, hb, fun _ => h2 hs, fun hne => absurd e hne⟩⟩
      · rename_i e
        exact ⟨.tuple [], [], h, fun _ => by unfold RunU; rw [hg]; exact .inl ⟨b, hb, fun hbw => absurd hbw e, fun _ => ⟨rfl, rfl⟩⟩⟩
    · rename_i hb
      exact ⟨.tuple [], [], h, fun _ => by unfold RunU; rw [hg]; exact .inr ⟨hb, rfl, rfl⟩⟩
    · exact h.elim

theorem put_H (σ : St) (d : Option Nat) (v : AV) : (σ.put d v).H = σ.H := by cases d <;> rfl
theorem put_env (σ : St) (d : Option Nat) (v : AV) (x : Nat × AV) : x ∈ (σ.put d v).env ↔ (x ∈ σ.env ∨ (d = some x.1 ∧ x.2 = v)) := by
  cases d with
  | none => simp [St.put]
  | some d =>
    simp only [St.put, List.mem_cons, Option.some.injEq]
    constructor
    · rintro (h | h)
      · subst h; exact .inr ⟨rfl, rfl⟩
      · exact .inl h
    · rintro (h | ⟨h1, h2⟩)
      · exact .inr h
      · left; cases x; simp only at h1 h2; subst h1; subst h2; rfl

abbrev VU := AV × Upd
def OChain (P : Program) (T : Tys) : List AOper → List Tk → List VU → St → St → Prop
  | [], [], [], σ, σF => σF = σ
  | o :: os, t :: ts, x :: xs, σ, σF => RunU P T (fun u => okNew σ u = true) σ.e σ.h o x.1 x.2 ∧ (∀ id ∈ (aop T (o.dst.getD 0) (opdA σ.e) o.op).asks σ.h, id ∈ t.R) ∧ (∀ q ∈ x.2, q.1 ∈ t.W ∧ (q.2.isNone = true ∨ (σ.h q.1).isSome = true ∨ 1000 ≤ q.1)) ∧ (∀ d, o.dst = some d → ∀ id, x.1.names id = true → id ∈ t.N) ∧ OChain P T os ts xs ((σ.upd x.2).put o.dst x.1) σF
  | _, _, _, _, _ => False

theorem chain_of : ∀ (os : List AOper) (ts : List Tk) (σ : St) (K : St → Prop), aopsT P T os ts σ K → ∃ xs σF, K σF ∧ xs.length = os.length ∧ OChain P T os ts xs σ σF
  | [], [], σ, K, h => ⟨[], σ, h, rfl, rfl⟩
  | o :: os, t :: ts, σ, K, h => by
    obtain ⟨v, u, ⟨h1, h3⟩, h2⟩ := astep_val (K := fun σ' => tok T o σ σ' t = true ∧ aopsT P T os ts σ' K) h
    obtain ⟨xs, σF, h4, h5, h6⟩ := chain_of os ts _ K h3
    simp only [tok, Bool.and_eq_true, List.all_eq_true] at h1
    obtain ⟨⟨⟨k0, k1⟩, k2⟩, k3⟩ := h1
    refine ⟨(v, u) :: xs, σF, h4, by simp [h5], h2 (by rw [put_H] at k0; simpa [St.upd] using k0), fun id hid => memN_iff.1 (k1 id hid), fun q hq => ?_, fun d hd id hn => ?_, h6⟩
    · have k4 := k2 q (by rw [put_H]; simp [St.upd]; exact hq)
      simp only [Bool.and_eq_true, Bool.or_eq_true] at k4
      refine ⟨memN_iff.1 k4.1, ?_⟩
      rcases k4.2 with (h | h) | h
      · exact .inl h
      · exact .inr (.inl h)
      · exact .inr (.inr (Nat.le_of_ble_eq_true h))
    · rw [hd] at k3
      simp only [List.all_eq_true] at k3
      have := k3 id (by rw [e_put, if_pos rfl]; exact names_mem v hn)
      exact memN_iff.1 this
  | [], _ :: _, _, _, h => h.elim
  | _ :: _, [], _, _, h => h.elim

def writes (xs : List VU) (j id : Nat) : Prop := ∃ x, xs[j]? = some x ∧ ∃ b, look x.2 id = some b

/-- The state when the operations of S have run. -/
structure Agrees (os : List AOper) (xs : List VU) (S : Nat → Prop) (σ σ' : St) : Prop where
  out : ∀ t, (∀ j o, S j → os[j]? = some o → o.dst ≠ some t) → σ'.e t = σ.e t
  ins : ∀ j o x t, S j → os[j]? = some o → xs[j]? = some x → o.dst = some t → σ'.e t = x.1
  hout : ∀ id, (∀ j, S j → ¬ writes xs j id) → σ'.h id = σ.h id
  hins : ∀ j x id b, S j → xs[j]? = some x → look x.2 id = some b → (∀ k, S k → j < k → ¬ writes xs k id) → σ'.h id = b
  env : ∀ q ∈ σ'.env, q ∈ σ.env ∨ ∃ j o x, S j ∧ os[j]? = some o ∧ xs[j]? = some x ∧ o.dst = some q.1 ∧ q.2 = x.1

theorem Agrees.none {os : List AOper} {xs : List VU} (σ : St) : Agrees os xs (fun _ => False) σ σ :=
  ⟨fun _ _ => rfl, fun _ _ _ _ h => h.elim, fun _ _ => rfl, fun _ _ _ _ h => h.elim, fun _ h => .inl h⟩
theorem Agrees.put {os : List AOper} {xs : List VU} {S S' : Nat → Prop} {σ σ' : St} (h : Agrees os xs S σ σ') {i : Nat} {o : AOper} {x : VU} (ho : os[i]? = some o) (hx : xs[i]? = some x) (hS : ∀ j, S' j ↔ S j ∨ j = i)
    (hd : ∀ j o', S j → j ≠ i → os[j]? = some o' → ∀ t, o.dst = some t → o'.dst ≠ some t) (hw : ∀ j id, S j → i < j → writes xs j id → writes xs i id → False) : Agrees os xs S' σ ((σ'.upd x.2).put o.dst x.1) := by
  refine ⟨fun t ht => ?_, fun j o' v' t hj ho' hv' hd' => ?_, fun id hid => ?_, fun j x' id b hj hx' hb hlast => ?_, fun q hq => ?_⟩
  · rw [e_put, if_neg (ht i o ((hS i).2 (.inr rfl)) ho), e_upd]
    exact h.out t fun j o' hj => ht j o' ((hS j).2 (.inl hj))
  · rw [e_put]
    by_cases hji : j = i
    · subst hji
      rw [ho] at ho'; cases ho'
      rw [hx] at hv'; cases hv'
      rw [if_pos hd']
    · have hSj : S j := by
        rcases (hS j).1 hj with h | h
        · exact h
        · exact absurd h hji
      rw [if_neg (fun e => hd j o' hSj hji ho' t e hd'), e_upd]
      exact h.ins j o' v' t hSj ho' hv' hd'
  · rw [h_put, h_upd]
    have h1 : look x.2 id = Option.none := by
      cases hl : look x.2 id with
      | none => rfl
      | some b => exact absurd ⟨x, hx, b, hl⟩ (hid i ((hS i).2 (.inr rfl)))
    simp only [updH, h1]
    exact h.hout id fun j hj => hid j ((hS j).2 (.inl hj))
  · rw [h_put, h_upd]
    by_cases hji : j = i
    · subst hji
      rw [hx] at hx'; cases hx'
      simp only [updH, hb]
    · have hSj : S j := by
        rcases (hS j).1 hj with h | h
        · exact h
        · exact absurd h hji
      have h1 : look x.2 id = Option.none := by
        cases hl : look x.2 id with
        | none => rfl
        | some b' =>
          exfalso
          rcases Nat.lt_trichotomy j i with hlt | he | hlt
          · exact hlast i ((hS i).2 (.inr rfl)) hlt ⟨x, hx, b', hl⟩
          · exact hji he
          · exact hw j id hSj hlt ⟨x', hx', b, hb⟩ ⟨x, hx, b', hl⟩
      simp only [updH, h1]
      exact h.hins j x' id b hSj hx' hb fun k hk hlt => hlast k ((hS k).2 (.inl hk)) hlt
  · rcases (put_env _ _ _ _).1 hq with hq | ⟨hq1, hq2⟩
    · rcases h.env q hq with h1 | ⟨j, o', x', h1, h2⟩
      · exact .inl h1
      · exact .inr ⟨j, o', x', (hS j).2 (.inl h1), h2⟩
    · exact .inr ⟨i, o, x, (hS i).2 (.inr rfl), ho, hx, hq1, hq2⟩

structure Spec (os : List AOper) (ts : List Tk) : Prop where
  len : os.length = ts.length
  edge : ∀ (i : Nat) (o : AOper), os[i]? = some o → ∀ e ∈ o.after, e < i
  sub : ∀ (i : Nat) (t : Tk), ts[i]? = some t → ∀ x ∈ t.W, x ∈ t.R
  anc : ∀ (i : Nat) (o : AOper) (t : Tk), os[i]? = some o → ts[i]? = some t → ∀ x ∈ t.A, x ∈ o.after ∨ ∃ j ∈ o.after, ∃ t', ts[j]? = some t' ∧ x ∈ t'.A
  dst : ∀ (i j : Nat) (o o' : AOper), i ≠ j → os[i]? = some o → os[j]? = some o' → ∀ d, o.dst = some d → o'.dst ≠ some d
  /-- i looks at what j writes -/
  ord : ∀ (i j : Nat) (o o' : AOper) (t t' : Tk), i ≠ j → os[i]? = some o → ts[i]? = some t → os[j]? = some o' → ts[j]? = some t' → (j < i ∧ j ∈ t.A) ∨ (i < j ∧ i ∈ t'.A) ∨ ((∀ d, o'.dst = some d → d ∉ o.reads) ∧ ∀ x ∈ t'.W, x ∉ t.R)
  nam : ∀ (i j : Nat) (o o' : AOper) (t t' : Tk), i < j → os[i]? = some o → ts[i]? = some t → os[j]? = some o' → ts[j]? = some t' → i ∈ t'.A ∨ ∀ x ∈ t.W, 1000 ≤ x → x ∉ t'.N

theorem okDraw_spec {os : List AOper} {ts : List Tk} (h : okDraw os ts = true) : Spec os ts := by
  simp only [okDraw, Bool.and_eq_true] at h
  have hlen : os.length = ts.length := Nat.eq_of_beq_eq_true h.1
  have one : ∀ (i : Nat) (o : AOper) (t : Tk), os[i]? = some o → ts[i]? = some t → (∀ e ∈ o.after, e < i) ∧ (∀ x ∈ t.W, x ∈ t.R) ∧ (∀ x ∈ t.A, x ∈ o.after ∨ ∃ j ∈ o.after, x ∈ (ts.getD j default).A) ∧ ∀ (j : Nat) (o' : AOper) (t' : Tk), os[j]? = some o' → ts[j]? = some t' → okPair i o t j o' t' = true := by
    intro i o t ho ht
    have h1 := List.all_eq_true.1 h.2 i (List.mem_range.2 (List.getElem?_eq_some_iff.1 ho).1)
    rw [ho, ht] at h1
    simp only [Bool.and_eq_true, List.all_eq_true] at h1
    obtain ⟨⟨⟨h2, h3⟩, h4⟩, h5⟩ := h1
    refine ⟨fun e he => Nat.le_of_ble_eq_true (h2 e he), fun x hx => memN_iff.1 (h3 x hx), fun x hx => ?_, fun j o' t' ho' ht' => ?_⟩
    · have := h4 x hx
      simp only [Bool.or_eq_true, List.any_eq_true] at this
      rcases this with h | ⟨j, hj, hm⟩
      · exact .inl (memN_iff.1 h)
      · exact .inr ⟨j, hj, memN_iff.1 hm⟩
    · have := h5 j (List.mem_range.2 (List.getElem?_eq_some_iff.1 ho').1)
      rw [ho', ht'] at this
      exact this
  have tk : ∀ (i : Nat) (o : AOper), os[i]? = some o → ∃ t, ts[i]? = some t := fun i o ho =>
    ⟨_, List.getElem?_eq_getElem (by have := (List.getElem?_eq_some_iff.1 ho).1; omega)⟩
  have op : ∀ (i : Nat) (t : Tk), ts[i]? = some t → ∃ o, os[i]? = some o := fun i o ho =>
    ⟨_, List.getElem?_eq_getElem (by have := (List.getElem?_eq_some_iff.1 ho).1; omega)⟩
  have pair : ∀ (i j : Nat) (o o' : AOper) (t t' : Tk), i ≠ j → os[i]? = some o → ts[i]? = some t → os[j]? = some o' → ts[j]? = some t' →
      (∀ d, o.dst = some d → o'.dst ≠ some d) ∧ ((j < i ∧ j ∈ t.A) ∨ (i < j ∧ i ∈ t'.A) ∨ ((∀ d, o'.dst = some d → d ∉ o.reads) ∧ ∀ x ∈ t'.W, x ∉ t.R)) ∧ (i < j → i ∈ t'.A ∨ ∀ x ∈ t.W, 1000 ≤ x → x ∉ t'.N) := by
    intro i j o o' t t' hne ho ht ho' ht'
    have h1 := (one i o t ho ht).2.2.2 j o' t' ho' ht'
    have hb : Nat.beq i j = false := by rw [← Bool.not_eq_true, Nat.beq_eq]; exact hne
    simp only [okPair, hb, Bool.false_or, Bool.and_eq_true, Bool.or_eq_true] at h1
    obtain ⟨⟨h2, h3⟩, h4⟩ := h1
    refine ⟨fun d hd hd' => ?_, ?_, fun hlt => ?_⟩
    · rw [hd, hd'] at h2; simp [Nat.beq_refl] at h2
    · rcases h3 with h3 | ⟨h5, h6⟩
      · cases hb : Nat.blt j i with
        | true => rw [hb] at h3; exact .inl ⟨Nat.le_of_ble_eq_true hb, memN_iff.1 h3⟩
        | false =>
          rw [hb] at h3
          refine .inr (.inl ⟨?_, memN_iff.1 h3⟩)
          rcases Nat.lt_trichotomy i j with h | h | h
          · exact h
          · exact absurd h hne
          · have : Nat.blt j i = true := Nat.ble_eq_true_of_le h
            rw [this] at hb; cases hb
      · refine .inr (.inr ⟨fun d hd hm => ?_, disj_iff.1 h6⟩)
        rw [hd] at h5
        simp only [memN_iff.2 hm, Bool.not_true, Bool.false_eq_true] at h5
    · rcases h4 with (h4 | h4) | h4
      · have : Nat.blt i j = true := Nat.ble_eq_true_of_le hlt
        rw [this] at h4; simp at h4
      · exact .inl (memN_iff.1 h4)
      · exact .inr fun x hx h1000 => disj_iff.1 h4 x (List.mem_filter.2 ⟨hx, Nat.ble_eq_true_of_le h1000⟩)
  refine ⟨hlen, fun i o ho => ?_, fun i t ht => ?_, fun i o t ho ht x hx => ?_, fun i j o o' hne ho ho' => ?_, fun i j o o' t t' hne ho ht ho' ht' => (pair i j o o' t t' hne ho ht ho' ht').2.1, fun i j o o' t t' hlt ho ht ho' ht' => (pair i j o o' t t' (Nat.ne_of_lt hlt) ho ht ho' ht').2.2 hlt⟩
  · obtain ⟨t, ht⟩ := tk i o ho
    exact (one i o t ho ht).1
  · obtain ⟨o, ho⟩ := op i t ht
    exact (one i o t ho ht).2.1
  · rcases (one i o t ho ht).2.2.1 x hx with h | ⟨j, hj, hm⟩
    · exact .inl h
    · refine .inr ⟨j, hj, ?_⟩
      have hjlt := (one i o t ho ht).1 j hj
      have hjl : j < ts.length := by have := (List.getElem?_eq_some_iff.1 ht).1; omega
      refine ⟨_, List.getElem?_eq_getElem hjl, ?_⟩
      rw [List.getD_eq_getElem?_getD, List.getElem?_eq_getElem hjl] at hm
      exact hm
  · obtain ⟨t, ht⟩ := tk i o ho
    obtain ⟨t', ht'⟩ := tk j o' ho'
    exact (pair i j o o' t t' hne ho ht ho' ht').1

/-- What stands behind has run. -/
theorem Spec.anc_mem {os : List AOper} {ts : List Tk} (sp : Spec os ts) {S : Nat → Prop} (hcl : ∀ (i : Nat) (o : AOper), os[i]? = some o → S i → ∀ e ∈ o.after, S e) : ∀ (i : Nat) (t : Tk), ts[i]? = some t → (∀ (e : Nat) (o : AOper), os[i]? = some o → e ∈ o.after → S e) → ∀ x ∈ t.A, S x := by
  intro i
  induction i using Nat.strongRecOn with
  | ind i ih =>
    intro t ht hS x hx
    have hil : i < os.length := by rw [sp.len]; exact (List.getElem?_eq_some_iff.1 ht).1
    have ho := List.getElem?_eq_getElem hil
    rcases sp.anc i _ t ho ht x hx with h | ⟨j, hj, t', ht', hm⟩
    · exact hS x _ ho h
    · have hjS := hS j _ ho hj
      exact ih j (sp.edge i _ ho j hj) t' ht' (fun e o hoj he => hcl j o hoj hjS e he) x hm

theorem chain_at {os : List AOper} {ts : List Tk} {xs : List VU} {σ σF : St} (sp : Spec os ts) (hl : xs.length = os.length) (h : OChain P T os ts xs σ σF) : ∀ i, i ≤ os.length → ∃ σi, OChain P T (os.drop i) (ts.drop i) (xs.drop i) σi σF ∧ Agrees os xs (· < i) σ σi ∧ (∀ q ∈ σ.env, q ∈ σi.env) ∧ (∀ (j : Nat) (o : AOper) (x : VU) (d : Nat), j < i → os[j]? = some o → xs[j]? = some x → o.dst = some d → (d, x.1) ∈ σi.env)
  | 0, _ => ⟨σ, by simpa using h, ⟨fun _ _ => rfl, fun _ _ _ _ h => absurd h (Nat.not_lt_zero _), fun _ _ => rfl, fun _ _ _ _ h => absurd h (Nat.not_lt_zero _), fun _ h => .inl h⟩, fun _ h => h, fun _ _ _ _ h => absurd h (Nat.not_lt_zero _)⟩
  | i + 1, hi => by
    obtain ⟨σi, h1, h2, h3, h4⟩ := chain_at sp hl h i (by omega)
    have e1 : os.drop i = os[i] :: os.drop (i + 1) := List.drop_eq_getElem_cons (by omega)
    have e2 : xs.drop i = xs[i] :: xs.drop (i + 1) := List.drop_eq_getElem_cons (by omega)
    have e3 : ts.drop i = ts[i]'(by rw [← sp.len]; omega) :: ts.drop (i + 1) := List.drop_eq_getElem_cons (by rw [← sp.len]; omega)
    rw [e1, e2, e3] at h1
    have hx : xs[i]? = some xs[i] := List.getElem?_eq_getElem _
    refine ⟨_, h1.2.2.2.2, h2.put (i := i) (o := os[i]) (x := xs[i]) (by simp) hx (fun j => by omega) (fun j o' hj hne ho' t ht => sp.dst i j _ o' (Ne.symm hne) (by simp) ho' t ht) (fun j id hj hij => by omega), fun q hq => (put_env _ _ _ _).2 (.inl (h3 q hq)), fun j o x d hj ho hxj hd => ?_⟩
    refine (put_env _ _ _ _).2 ?_
    by_cases hji : j = i
    · subst hji
      rw [hx] at hxj; cases hxj
      have : os[j]? = some os[j] := by simp
      rw [this] at ho; cases ho
      exact .inr ⟨hd, rfl⟩
    · exact .inl (h4 j o x d (by omega) ho hxj hd)

theorem exists_max {p : Nat → Prop} : ∀ (n : Nat), (∃ j, j < n ∧ p j) → ∃ m, m < n ∧ p m ∧ ∀ k, m < k → k < n → ¬ p k
  | 0, ⟨j, h, _⟩ => absurd h (Nat.not_lt_zero _)
  | n + 1, ⟨j, h, hp⟩ => by
    by_cases hn : p n
    · exact ⟨n, by omega, hn, fun k h1 h2 => by omega⟩
    · have hjn : j ≠ n := fun e => hn (e ▸ hp)
      obtain ⟨m, h1, h2, h3⟩ := exists_max n ⟨j, by omega, hp⟩
      refine ⟨m, by omega, h2, fun k h4 h5 => ?_⟩
      by_cases hk : k = n
      · subst hk; exact hn
      · exact h3 k h4 (by omega)

/-- Two states that agree on who has written a block hold the same in it. -/
theorem Agrees.heap_eq {os : List AOper} {xs : List VU} {S S' : Nat → Prop} {σ σ1 σ2 : St} (h1 : Agrees os xs S σ σ1) (h2 : Agrees os xs S' σ σ2) {id n : Nat} (hn : ∀ j, writes xs j id → j < n) (h : ∀ j, writes xs j id → (S j ↔ S' j)) : σ1.h id = σ2.h id := by
  by_cases hx : ∃ j, S j ∧ writes xs j id
  · obtain ⟨j, hj, hw⟩ := hx
    obtain ⟨m, _, ⟨hm1, hm2⟩, hm3⟩ := exists_max (p := fun j => S j ∧ writes xs j id) n ⟨j, hn j hw, hj, hw⟩
    obtain ⟨x, hxm, b, hb⟩ := hm2
    rw [h1.hins m x id b hm1 hxm hb fun k hk hlt hwk => hm3 k hlt (hn k hwk) ⟨hk, hwk⟩,
      h2.hins m x id b ((h m ⟨x, hxm, b, hb⟩).1 hm1) hxm hb fun k hk hlt hwk => hm3 k hlt (hn k hwk) ⟨(h k hwk).2 hk, hwk⟩]
  · rw [h1.hout id fun j hj hw => hx ⟨j, hj, hw⟩, h2.hout id fun j hj hw => hx ⟨j, (h j hw).2 hj, hw⟩]

theorem RelF.congr (h1 : ∀ t, σ.e t = σ'.e t) (h2 : σ.h = σ'.h) (hr : RelF fr σ a w) : RelF fr σ' a w := by
  obtain ⟨⟨ρ, r1, r2, r3⟩, d, s, o⟩ := hr
  refine ⟨⟨ρ, ?_, fun t => ?_, ?_⟩, d, s, o⟩
  · rw [← h2]; exact r1
  · rw [← h2, ← h1 t]; exact r2 t
  · rw [← h2]; exact r3

/-- How many are not yet listed. -/
def unl (listed : Array Bool) : Nat := listed.toList.count false
theorem unl_set {listed : Array Bool} {i : Nat} (h : listed.getD i true = false) : unl (listed.setIfInBounds i true) + 1 = unl listed := by
  have hi : i < listed.size := by
    rcases Nat.lt_or_ge i listed.size with h' | h'
    · exact h'
    · simp [Array.getElem?_eq_none h'] at h
  have hv : listed.toList[i]'(by simpa using hi) = false := by
    simpa [Array.getD_eq_getD_getElem?, hi] using h
  unfold unl
  rw [Array.toList_setIfInBounds, List.count_set (by simpa using hi), hv]
  have : 0 < listed.toList.count false := List.count_pos_iff.2 (by rw [← hv]; exact List.getElem_mem _)
  have e1 : (false == false) = true := rfl
  have e2 : ¬ (true == false) = true := by decide
  rw [if_pos e1, if_neg e2]
  omega

theorem after_strip {m : List (Nat × Nat)} {ops : Array Oper} {o : Oper} {x : Nat} (h : x ∈ (stripOper m true ops o).after) : ∃ e ∈ o.after, Region.binds .any e = true ∧ e.on = x := by
  simp only [stripOper, if_true, List.mem_map, List.mem_filter] at h
  obtain ⟨e, ⟨h1, h2⟩, h3⟩ := h
  exact ⟨e, by simpa using h1, h2, h3⟩
theorem strip_after {m : List (Nat × Nat)} {ops : Array Oper} {o : Oper} {e : Edge} (h : e ∈ o.after) (hb : Region.binds .any e = true) : e.on ∈ (stripOper m true ops o).after := by
  simp only [stripOper, if_true, List.mem_map, List.mem_filter]
  exact ⟨e, ⟨by simpa using h, hb⟩, rfl⟩


theorem any_sound (g : Good P T) (hn : fr.n ≤ 999999) (hN : ∀ k, fr.w0.heap.size ≤ k → fr.N k) {m : List (Nat × Nat)} {ops : Array Oper} {Q : Exit → Act → World → Prop} {os : List AOper} {ts : List Tk} (hos : os = ops.toList.map (stripOper m true ops)) {xs : List VU} {σF : St} (hl : xs.length = os.length) (hok : okDraw os ts = true)
    (hch : OChain P T os ts xs σ σF) (hd : os.all (dstLt fr.n) = true) (hQ : ∀ a w, RelF fr σF a w → Q .normal a w) :
    ∀ (fuel : Nat) (listed : Array Bool) (σ' : St) (a : Act) (w : World), listed.size = ops.size → unl listed ≤ fuel → (∀ (i : Nat) (o : AOper), os[i]? = some o → listed.getD i false = true → ∀ e ∈ o.after, listed.getD e false = true) →
      Agrees os xs (fun i => listed.getD i false = true) σ σ' → RelF fr σ' a w → wpAny P .any ops Q fuel listed a w := by
  have sp := okDraw_spec hok
  have hsz : os.length = ops.size := by rw [hos]; simp
  have hget : ∀ (i : Nat) (o : Oper), ops[i]? = some o → os[i]? = some (stripOper m true ops o) := by
    intro i o ho
    rw [hos, List.getElem?_map, Array.getElem?_toList, ho]; rfl
  have hwlt : ∀ j id, writes xs j id → j < os.length := by
    rintro j id ⟨x, hx, _⟩
    have := (List.getElem?_eq_some_iff.1 hx).1
    omega
  -- what an operation writes, it is told to write
  have hwW : ∀ (j : Nat) (id : Nat) (t : Tk), writes xs j id → ts[j]? = some t → id ∈ t.W := by
    rintro j id t ⟨x, hx, b, hb⟩ ht
    have hj := (List.getElem?_eq_some_iff.1 hx).1
    obtain ⟨σj, h1, _⟩ := chain_at sp hl hch j (by omega)
    have e1 : os.drop j = os[j]'(by omega) :: os.drop (j + 1) := List.drop_eq_getElem_cons (by omega)
    have e2 : xs.drop j = xs[j] :: xs.drop (j + 1) := List.drop_eq_getElem_cons (by omega)
    have e3 : ts.drop j = ts[j]'(by rw [← sp.len]; omega) :: ts.drop (j + 1) := List.drop_eq_getElem_cons (by rw [← sp.len]; omega)
    rw [e1, e2, e3] at h1
    have ex : xs[j] = x := by rw [List.getElem?_eq_getElem hj] at hx; exact Option.some.inj hx
    have et : ts[j]'(by rw [← sp.len]; omega) = t := by rw [List.getElem?_eq_getElem (by rw [← sp.len]; omega)] at ht; exact Option.some.inj ht
    have h2 := (h1.2.2.1 (id, b) (by rw [ex]; exact look_mem _ _ _ hb)).1
    rw [et] at h2; exact h2
  -- all is listed, so this is the end
  have fin : ∀ (listed : Array Bool) (σ' : St) (a : Act) (w : World), listed.size = ops.size → (∀ i, i < ops.size → listed.getD i false = true) → Agrees os xs (fun i => listed.getD i false = true) σ σ' → RelF fr σ' a w → Q .normal a w := by
    intro listed σ' a w hs hall hag hr
    obtain ⟨σe, h1, h2, _⟩ := chain_at sp hl hch os.length (Nat.le_refl _)
    have h3 : OChain P T [] [] [] σe σF := by
      rw [List.drop_of_length_le (Nat.le_of_eq hl), List.drop_of_length_le (Nat.le_refl _), List.drop_of_length_le (Nat.le_of_eq sp.len.symm)] at h1
      exact h1
    have h4 : σF = σe := h3
    subst h4
    refine hQ a w (hr.congr (fun t => ?_) ?_)
    · by_cases hx : ∃ (j : Nat) (o : AOper), os[j]? = some o ∧ o.dst = some t
      · obtain ⟨j, o, ho, hdst⟩ := hx
        have hj : j < os.length := (List.getElem?_eq_some_iff.1 ho).1
        have hv : xs[j]? = some (xs[j]'(by omega)) := List.getElem?_eq_getElem (by omega)
        rw [hag.ins j o _ t (hall j (by omega)) ho hv hdst, h2.ins j o _ t hj ho hv hdst]
      · have hno : ∀ (j : Nat) (o : AOper), os[j]? = some o → o.dst ≠ some t := fun j o ho hdst => hx ⟨j, o, ho, hdst⟩
        rw [hag.out t fun j o _ ho => hno j o ho, h2.out t fun j o _ ho => hno j o ho]
    · funext id
      refine hag.heap_eq h2 (n := os.length) (fun j hw => hwlt j id hw) fun j hw => ?_
      have := hwlt j id hw
      exact ⟨fun _ => this, fun _ => hall j (by omega)⟩
  -- if none is ready, all is listed
  have prog : ∀ (listed : Array Bool), listed.size = ops.size → Region.ready .any ops listed = [] → ∀ i, i < ops.size → listed.getD i false = true := by
    intro listed hs hr i
    induction i using Nat.strongRecOn with
    | ind i ih =>
      intro hi
      cases hb : listed.getD i false with
      | true => rfl
      | false =>
        exfalso
        have : i ∈ Region.ready .any ops listed := by
          rw [mem_ready]
          refine ⟨?_, ops[i], by simp, fun e he hbd => ?_⟩
          · have hil : i < listed.size := by omega
            simpa [Array.getD_eq_getD_getElem?, hil] using hb
          · have h1 := sp.edge i _ (hget i ops[i] (by simp)) _ (strip_after he hbd)
            exact ih _ h1 (by omega)
        rw [hr] at this; cases this
  intro fuel
  induction fuel with
  | zero =>
    intro listed σ' a w hs hu hcl hag hr
    have hall : ∀ i, i < ops.size → listed.getD i false = true := by
      intro i hi
      cases hb : listed.getD i false with
      | true => rfl
      | false =>
        exfalso
        have hil : i < listed.size := by omega
        have : listed.getD i true = false := by
          simpa [Array.getD_eq_getD_getElem?, hil] using hb
        have := unl_set this
        omega
    refine ⟨?_, fin listed σ' a w hs hall hag hr⟩
    cases hrd : Region.ready .any ops listed with
    | nil => rfl
    | cons x xs =>
      exfalso
      have hx : x ∈ Region.ready .any ops listed := by rw [hrd]; simp
      obtain ⟨h0, o, ho, _⟩ := mem_ready.1 hx
      have hxl := (Array.getElem?_eq_some_iff.1 ho).1
      have := hall x hxl
      simp [Array.getD_eq_getD_getElem?, show x < listed.size by omega] at this h0
      rw [this] at h0; cases h0
  | succ fuel ih =>
    intro listed σ' a w hs hu hcl hag hr
    refine ⟨fun hrd => fin listed σ' a w hs (prog listed hs hrd) hag hr, fun i hi => ?_⟩
    obtain ⟨h0, o, ho, hall⟩ := mem_ready.1 hi
    have hio := hget i o ho
    have hil : i < os.length := (List.getElem?_eq_some_iff.1 hio).1
    have hit : i < ts.length := by rw [← sp.len]; exact hil
    have hti : ts[i]? = some (ts[i]'hit) := List.getElem?_eq_getElem hit
    have hvi : xs[i]? = some (xs[i]'(by omega)) := List.getElem?_eq_getElem (by omega)
    obtain ⟨σi, h1, h2, hsub, hold⟩ := chain_at sp hl hch i (by omega)
    have e1 : os.drop i = os[i] :: os.drop (i + 1) := List.drop_eq_getElem_cons (by omega)
    have e2 : xs.drop i = xs[i] :: xs.drop (i + 1) := List.drop_eq_getElem_cons (by omega)
    have e3 : ts.drop i = ts[i]'hit :: ts.drop (i + 1) := List.drop_eq_getElem_cons hit
    rw [e1, e2, e3] at h1
    have eo : os[i] = stripOper m true ops o := by
      have := List.getElem?_eq_getElem hil
      rw [hio] at this; exact (Option.some.inj this).symm
    have hnl : ¬ listed.getD i false = true := by
      have hb : i < listed.size := by omega
      simp [Array.getD_eq_getD_getElem?, hb] at h0 ⊢
      exact h0
    -- what stands behind i has run; and i has not run, so nothing that stands before has
    have hanc : ∀ x ∈ (ts[i]'hit).A, listed.getD x false = true :=
      sp.anc_mem (S := fun i => listed.getD i false = true) hcl i _ hti fun e oe hoe he => by
        rw [hio] at hoe; cases hoe
        obtain ⟨e', he', hb, rfl⟩ := after_strip he
        exact hall e' he' hb
    have hnanc : ∀ (j : Nat) (t : Tk), ts[j]? = some t → i ∈ t.A → ¬ listed.getD j false = true := by
      intro j t ht hm hlj
      have hj : j < os.length := by rw [sp.len]; exact (List.getElem?_eq_some_iff.1 ht).1
      exact hnl (sp.anc_mem (S := fun i => listed.getD i false = true) hcl j t ht (fun e oe hoe he => hcl j oe hoe hlj e he) i hm)
    -- who has written a block that i looks at
    have heap : ∀ id ∈ (ts[i]'hit).R, σi.h id = σ'.h id := by
      intro id hid
      refine h2.heap_eq hag (n := os.length) (fun j hw => hwlt j id hw) fun j hw => ?_
      have hj := hwlt j id hw
      by_cases hji : j = i
      · subst hji; exact ⟨fun h => absurd h (Nat.lt_irrefl _), fun h => absurd h hnl⟩
      · have htj : ts[j]? = some (ts[j]'(by rw [← sp.len]; exact hj)) := List.getElem?_eq_getElem _
        rcases sp.ord i j _ _ _ _ (Ne.symm hji) hio hti (List.getElem?_eq_getElem hj) htj with ⟨hlt, hm⟩ | ⟨hlt, hm⟩ | ⟨_, hm⟩
        · exact ⟨fun _ => hanc j hm, fun _ => hlt⟩
        · exact ⟨fun h => absurd h (by omega), fun h => absurd h (hnanc j _ htj hm)⟩
        · exact absurd hid (hm id (hwW j id _ hw htj))
    have hrun : RunU P T (fun u => okNew σ' u = true) σ'.e σ'.h (stripOper m true ops o) (xs[i]'(by omega)).1 (xs[i]'(by omega)).2 := by
      rw [← eo]
      refine h1.1.congr (fun t ht => ?_) (fun id hid => heap id (h1.2.1 id hid)) (fun q hq => heap q.1 (sp.sub i _ hti _ (h1.2.2.1 q hq).1)) fun u0 hsub0 hnew => ?_
      · rw [eo] at ht
        by_cases hx : ∃ (j : Nat) (o' : AOper), j ≠ i ∧ os[j]? = some o' ∧ o'.dst = some t
        · obtain ⟨j, o', hji, ho', hdst⟩ := hx
          have hjl : j < os.length := (List.getElem?_eq_some_iff.1 ho').1
          have htj : ts[j]? = some (ts[j]'(by rw [← sp.len]; exact hjl)) := List.getElem?_eq_getElem _
          have hvj : xs[j]? = some (xs[j]'(by omega)) := List.getElem?_eq_getElem (by omega)
          rcases sp.ord i j _ _ _ _ (Ne.symm hji) hio hti ho' htj with ⟨hlt, hm⟩ | ⟨hlt, hm⟩ | ⟨hm, _⟩
          · rw [h2.ins j o' _ t hlt ho' hvj hdst, hag.ins j o' _ t (hanc j hm) ho' hvj hdst]
          · have hlj : ¬ listed.getD j false = true := hnanc j _ htj hm
            have huniq : ∀ (k : Nat) (ok : AOper), k ≠ j → os[k]? = some ok → ok.dst ≠ some t := fun k ok hkj hok' hdk =>
              sp.dst k j _ _ hkj hok' ho' t hdk hdst
            rw [h2.out t fun k ok hk hok' hdk => ?_, hag.out t fun k ok hk hok' hdk => ?_]
            · by_cases hkj : k = j
              · subst hkj; exact hlj hk
              · exact huniq k ok hkj hok' hdk
            · by_cases hkj : k = j
              · omega
              · exact huniq k ok hkj hok' hdk
          · exact absurd ht (hm t hdst)
        · have hno : ∀ (k : Nat) (ok : AOper), k ≠ i → os[k]? = some ok → ok.dst ≠ some t := fun k ok hk hok' hdk => hx ⟨k, ok, hk, hok', hdk⟩
          rw [h2.out t fun k ok hk hok' => hno k ok (by omega) hok', hag.out t fun k ok hk hok' => hno k ok (fun e => hnl (e ▸ hk)) hok']
      · refine List.all_eq_true.2 fun q hq => ?_
        have hq1 := List.all_eq_true.1 hnew q hq
        have hqR : q.1 ∈ (ts[i]'hit).R := sp.sub i _ hti _ (h1.2.2.1 q (hsub0 q hq)).1
        simp only [Bool.or_eq_true, Bool.and_eq_true] at hq1 ⊢
        rcases hq1 with (h | h) | ⟨h3, h4⟩
        · exact .inl (.inl h)
        · rw [heap q.1 hqR] at h; exact .inl (.inr h)
        · rcases (h1.2.2.1 q (hsub0 q hq)).2 with h | h | h1000
          · exact .inl (.inl h)
          · rw [heap q.1 hqR] at h; exact .inl (.inr h)
          refine .inr ⟨h3, List.all_eq_true.2 fun y hy => ?_⟩
          rw [List.all_eq_true] at h4
          rcases hag.env y hy with h | ⟨j, o', x', hlj, ho', hx', hd', hy'⟩
          · exact h4 y (hsub y h)
          · have hjl : j < os.length := (List.getElem?_eq_some_iff.1 ho').1
            have htj : ts[j]? = some (ts[j]'(by rw [← sp.len]; exact hjl)) := List.getElem?_eq_getElem _
            rcases Nat.lt_trichotomy j i with hlt | he | hlt
            · have := h4 _ (hold j o' x' _ hlt ho' hx' hd')
              rw [hy']; exact this
            · exact absurd (he ▸ hlj) hnl
            · rcases sp.nam i j _ _ _ _ hlt hio hti ho' htj with hm | hm
              · exact absurd hlj (hnanc j _ htj hm)
              · rw [hy']
                cases hnm : x'.1.names q.1 with
                | false => rfl
                | true =>
                  exfalso
                  obtain ⟨σj, k1, _⟩ := chain_at sp hl hch j (by omega)
                  have hjx : j < xs.length := by omega
                  have f1 : os.drop j = os[j] :: os.drop (j + 1) := List.drop_eq_getElem_cons (by omega)
                  have f2 : xs.drop j = xs[j] :: xs.drop (j + 1) := List.drop_eq_getElem_cons (by omega)
                  have f3 : ts.drop j = ts[j]'(by rw [← sp.len]; exact hjl) :: ts.drop (j + 1) := List.drop_eq_getElem_cons (by rw [← sp.len]; exact hjl)
                  rw [f1, f2, f3] at k1
                  have ex : xs[j] = x' := by rw [List.getElem?_eq_getElem hjx] at hx'; exact Option.some.inj hx'
                  have eoj : os[j] = o' := by rw [List.getElem?_eq_getElem hjl] at ho'; exact Option.some.inj ho'
                  exact hm q.1 (h1.2.2.1 q (hsub0 q hq)).1 h1000 (k1.2.2.2.1 y.1 (by rw [eoj]; exact hd') q.1 (by rw [ex]; exact hnm))
    unfold wpOp
    rw [ho]
    simp only
    refine step_sound (K := fun σ'' => σ'' = (σ'.upd (xs[i]'(by omega)).2).put o.dst (xs[i]'(by omega)).1) g hn hN hr (RunU.astep hrun rfl) (fun d hdd => ?_) fun σ'' a' w' hσ hr' => ?_
    · have := List.all_eq_true.1 hd _ (List.mem_of_getElem? hio)
      simp only [dstLt, stripOper, hdd] at this
      exact Nat.le_of_ble_eq_true this
    · subst hσ
      have hset : ∀ j, (listed.setIfInBounds i true).getD j false = true ↔ listed.getD j false = true ∨ j = i := by
        intro j
        by_cases hji : j = i
        · subst hji
          have hb : j < listed.size := by omega
          simp [hb]
        · rw [getD_set_ne false (Ne.symm hji)]; simp [hji]
      refine ih _ _ a' w' (by simpa using hs) ?_ ?_ (hag.put (i := i) (o := stripOper m true ops o) hio hvi hset ?_ ?_) hr'
      · have := unl_set h0
        omega
      · intro j oj hoj hlj e he
        rw [hset]
        rcases (hset j).1 hlj with h | h
        · exact .inl (hcl j oj hoj h e he)
        · subst h
          rw [hio] at hoj; cases hoj
          obtain ⟨e', he', hb, rfl⟩ := after_strip he
          exact .inl (hall e' he' hb)
      · intro j o' hj hne ho' t ht
        exact sp.dst i j _ o' (Ne.symm hne) hio ho' t ht
      · intro j id hlj hlt hwj hwi
        have hj := hwlt j id hwj
        have htj : ts[j]? = some (ts[j]'(by rw [← sp.len]; exact hj)) := List.getElem?_eq_getElem _
        rcases sp.ord i j _ _ _ _ (Nat.ne_of_lt hlt) hio hti (List.getElem?_eq_getElem hj) htj with ⟨h, _⟩ | ⟨_, hm⟩ | ⟨_, hm⟩
        · omega
        · exact hnanc j _ htj hm hlj
        · exact hm id (hwW j id _ hwj htj) (sp.sub i _ hti _ (hwW i id _ hwi hti))

theorem RelF.drawn (g : Good P T) (hN : ∀ k, fr.w0.heap.size ≤ k → fr.N k) (hr : RelF fr σ a w) : RelF fr σ a { w with drawn := w.drawn + 1 } := by
  obtain ⟨ρ, cx, hslots, hpid⟩ := hr.cx g hN
  have ho : Only No w { w with drawn := w.drawn + 1 } := ⟨rfl, rfl, rfl, Nat.le_refl _, fun _ _ _ => rfl, fun _ => rfl, fun _ arr _ _ h => ⟨arr, h, rfl⟩⟩
  have := hr.step hpid hslots (u := []) (v := .top) (c := undef) (dst := none) (F := No) (by rw [show updH σ.h [] = σ.h from (h_upd σ []).symm]; exact Step.grown cx.hr ho (newOk_same rfl)) (fun id hid => hid.elim) (fun _ h => h) trivial (fun _ h => nomatch h)
  exact this

theorem aops_mono {K K' : St → Prop} (h : ∀ σ, K σ → K' σ) : ∀ (os : List AOper) (σ : St), aops P T os σ K → aops P T os σ K'
  | [], σ, x => h σ x
  | o :: os, σ, x => by
    have hev : ∀ E, ev P σ o (fun σ' => aops P T os σ' K) E → ev P σ o (fun σ' => aops P T os σ' K') E := by
      intro E hE
      cases E with
      | bad => exact hE
      | split c v v' => exact ⟨hE.1, fun hc => aops_mono h os _ (hE.2.1 hc), aops_mono h os _ hE.2.2⟩
      | val v u C => exact ⟨hE.1, hE.2.1, aops_mono h os _ hE.2.2⟩
      | call f args u ms C =>
        obtain ⟨h1, h2, r, u2, h5, h6, h9⟩ := hE
        exact ⟨h1, h2, r, u2, h5, h6, aops_mono h os _ h9⟩
    simp only [aops, astep] at x ⊢
    split at x
    · exact hev _ x
    · split at x
      · split at x
        · rename_i hb; rw [if_pos hb]; exact hev _ x
        · rename_i hb; rw [if_neg hb]; exact aops_mono h os _ x
      · exact aops_mono h os _ x
      · exact x
end
end Go.Abs
/- Forgetting dead slots, renaming blocks, and runs of code: sound for every program and world. -/
namespace Go.Abs
section
variable {P : Program} {T : Tys} {fr : Fr} {σ : St} {a : Act} {w : World}

theorem look_map {α β : Type} (f : α → β) : ∀ (l : List (Nat × α)) (k : Nat), look (l.map fun q => (q.1, f q.2)) k = (look l k).map f
  | [], _ => rfl
  | (j, a) :: l, k => by
    simp only [List.map_cons, look]
    cases Nat.beq j k
    · exact look_map f l k
    · rfl

theorem keepEnv_look (L : List Nat) (t : Nat) (v : AV) (h : look (keepEnv σ L) t = some v) : look σ.env t = some v := by
  induction L with
  | nil => simp [keepEnv, look] at h
  | cons t0 L ih =>
    simp only [keepEnv] at h
    split at h
    · rename_i v0 e0
      split at h
      · simp only [look] at h
        split at h
        · rename_i e; have := Nat.eq_of_beq_eq_true e; subst this; rw [e0]; exact h
        · exact ih h
      · exact ih h
    · exact ih h
theorem keepEnv_mem (L : List Nat) : ∀ q ∈ keepEnv σ L, look σ.env q.1 = some q.2 := by
  induction L with
  | nil => simp [keepEnv]
  | cons t0 L ih =>
    simp only [keepEnv]
    split
    · rename_i v0 e0
      split
      · intro q hq
        rcases List.mem_cons.1 hq with rfl | hq
        · exact e0
        · exact ih q hq
      · exact ih
    · exact ih

structure Names (σ : St) (m : List (Nat × Nat)) : Prop where
  lt : ∀ q ∈ m, q.1 < 1000000 ∧ q.2 < 1000000
  env : ∀ q ∈ m, ∃ v, look σ.env q.1 = some v ∧ nameOf v = some q.2
  inj : ∀ p ∈ m, ∀ q ∈ m, p.2 = q.2 → p.1 = q.1

theorem Names.first {m : List (Nat × Nat)} (h : Names σ m) {t : Nat} {v : AV} (ht : look σ.env t = some v) : Names σ (firstName t m v) := by
  unfold firstName
  split
  · rename_i id hid
    split
    · exact h
    · rename_i hc
      simp only [Bool.or_eq_true, not_or, Bool.not_eq_true] at hc
      obtain ⟨⟨h1, h2⟩, h3⟩ := hc
      have g1 : id < 1000000 := by
        have : ¬ Nat.ble 1000000 id = true := by rw [h1]; simp
        rw [Nat.ble_eq] at this; omega
      have g2 : t < 1000000 := by
        have : ¬ Nat.ble 1000000 t = true := by rw [h2]; simp
        rw [Nat.ble_eq] at this; omega
      have g3 : ∀ q ∈ m, q.2 ≠ id := by
        intro q hq e
        have := List.any_eq_false.1 h3 q hq
        rw [e] at this; simp at this
      refine ⟨fun q hq => ?_, fun q hq => ?_, fun p hp q hq e => ?_⟩
      · rcases List.mem_append.1 hq with hq | hq
        · exact h.lt q hq
        · simp at hq; subst hq; exact ⟨g2, g1⟩
      · rcases List.mem_append.1 hq with hq | hq
        · exact h.env q hq
        · simp at hq; subst hq; exact ⟨v, ht, hid⟩
      · rcases List.mem_append.1 hp with hp | hp <;> rcases List.mem_append.1 hq with hq | hq
        · exact h.inj p hp q hq e
        · simp at hq; subst hq; exact (g3 p hp e).elim
        · simp at hp; subst hp; exact (g3 q hq e.symm).elim
        · simp at hp hq; rw [hp, hq]
  · exact h

theorem Names.all : ∀ (env : List (Nat × AV)) (m : List (Nat × Nat)), Names σ m → (∀ q ∈ env, look σ.env q.1 = some q.2) → Names σ (keepNames m env)
  | [], m, h, _ => h
  | (t, v) :: env, m, h, he => Names.all env _ (h.first (he (t, v) (by simp))) fun q hq => he q (by simp [hq])

theorem newName_spec {m : List (Nat × Nat)} : ∀ {id n : Nat}, newName m id = some n → (n, id) ∈ m ∨ (n = id ∧ 1000000 ≤ id) := by
  induction m with
  | nil =>
    intro id n h
    simp only [newName] at h
    split at h
    · rename_i hb; simp at h; exact .inr ⟨h.symm, Nat.le_of_ble_eq_true hb⟩
    · cases h
  | cons q m ih =>
    obtain ⟨j, o⟩ := q
    intro id n h
    simp only [newName] at h
    split at h
    · rename_i e
      have := Nat.eq_of_beq_eq_true e
      simp at h; subst h; subst this; simp
    · rcases ih h with h | h
      · exact .inl (List.mem_cons_of_mem _ h)
      · exact .inr h

theorem keepPids_look : ∀ (H : List (Nat × Option Blk)) (seen : List Nat) (id : Nat) (x : Option Blk), look (keepPids σ H seen) id = some x → x = σ.h id ∧ 1000000 ≤ id
  | [], _, _, _, h => by simp [keepPids, look] at h
  | (j, y) :: H, seen, id, x, h => by
    simp only [keepPids] at h
    split at h
    · rename_i hc
      simp only [Bool.and_eq_true] at hc
      simp only [look] at h
      split at h
      · rename_i e
        have := Nat.eq_of_beq_eq_true e
        subst this
        simp at h; exact ⟨h.symm, Nat.le_of_ble_eq_true hc.1⟩
      · exact keepPids_look H _ id x h
    · exact keepPids_look H _ id x h

theorem look_of_mem_names {m : List (Nat × Nat)} (hn : Names σ m) {n o : Nat} (h : (n, o) ∈ m) : look m n = some o := by
  have key : ∀ (l : List (Nat × Nat)), (∀ q ∈ l, q ∈ m) → (n, o) ∈ l → look l n = some o := by
    intro l
    induction l with
    | nil => intro _ h; simp at h
    | cons q l ih =>
      obtain ⟨j, y⟩ := q
      intro hl h
      simp only [look]
      split
      · rename_i e
        have hj := Nat.eq_of_beq_eq_true e
        subst hj
        obtain ⟨v, h1, h2⟩ := hn.env _ (hl (j, y) (by simp))
        have hno : (j, o) ∈ m := hl _ h
        obtain ⟨v', h3, h4⟩ := hn.env _ hno
        simp only at h1 h3
        rw [h1] at h3; cases h3
        simp only at h2 h4
        rw [h2] at h4; simpa using h4
      · rename_i e
        rcases List.mem_cons.1 h with h | h
        · cases h
          have : Nat.beq n n = true := Nat.beq_refl n
          rw [this] at e; cases e
        · exact ih (fun q hq => hl q (by simp [hq])) h
  exact key m (fun _ h => h) h

theorem RelF.keep (L : List Nat) (hr : RelF fr σ a w) : RelF fr (σ.keep L) a w := by
  obtain ⟨⟨ρ, h1, h2, h3⟩, h4, h5, h6⟩ := hr
  have hN : Names σ (keepNames [] (keepEnv σ L)) := Names.all _ _ ⟨by simp, by simp, by simp⟩ (keepEnv_mem L)
  generalize hm : keepNames [] (keepEnv σ L) = m at hN
  let ρ' : Nat → Option Nat := fun id => match look m id with
    | some o => ρ o
    | none => ρ id
  have hH : ∀ id b, (σ.keep L).h id = some b → (∃ o, (id, o) ∈ m ∧ look m id = some o ∧ σ.h o = some b) ∨ (look m id = none ∧ 1000000 ≤ id ∧ σ.h id = some b) := by
    intro id b hb
    simp only [St.keep, St.h, hm] at hb
    rw [look_append] at hb
    have e1 : look (m.map fun q => (q.1, σ.h q.2)) id = (look m id).map σ.h := look_map σ.h m id
    change ((look (m.map fun q => (q.1, σ.h q.2)) id).or _).getD none = some b at hb
    rw [e1] at hb
    cases hl : look m id with
    | some o => rw [hl] at hb; simp at hb; exact .inl ⟨o, look_mem _ _ _ hl, rfl, hb⟩
    | none =>
      rw [hl] at hb
      simp only [Option.map_none, Option.none_or] at hb
      cases hk : look (keepPids σ σ.H []) id with
      | none => rw [hk] at hb; simp at hb
      | some x =>
        rw [hk] at hb; simp at hb
        obtain ⟨e2, e3⟩ := keepPids_look _ _ _ _ hk
        exact .inr ⟨rfl, e3, by rw [← e2]; exact hb⟩
  have hold : ∀ id b, (σ.keep L).h id = some b → ∃ o, σ.h o = some b ∧ ρ' id = ρ o := by
    intro id b hb
    rcases hH id b hb with ⟨o, _, hl, ho⟩ | ⟨hl, _, ho⟩
    · exact ⟨o, ho, by simp only [ρ', hl]⟩
    · exact ⟨id, ho, by simp only [ρ', hl]⟩
  have hS : ∀ k, Sof ρ σ.h (fun k => fr.B0 k ∨ (fr.w0.heap.size ≤ k ∧ k < w.heap.size)) k → Sof ρ' (σ.keep L).h (fun k => fr.B0 k ∨ (fr.w0.heap.size ≤ k ∧ k < w.heap.size)) k := by
    intro k hk
    refine ⟨hk.1, fun id b hb hf => ?_⟩
    obtain ⟨o, ho, e⟩ := hold id b hb
    rw [e]; exact hk.2 o b ho hf
  have hK : Keeps (Sof ρ σ.h (fun k => fr.B0 k ∨ (fr.w0.heap.size ≤ k ∧ k < w.heap.size))) w w := fun _ _ _ => rfl
  refine ⟨⟨ρ', ⟨fun id b hb => ?_, fun i j bi bj k hi hj e1 e2 => ?_, h1.bound⟩, fun t => ?_, fun i b hb => ?_⟩, h4, h5, h6⟩
  · obtain ⟨o, ho, e⟩ := hold id b hb
    rcases h1.at_ o b ho with ⟨sz, g1, g2⟩ | ⟨k, arr, Ty, cs, ext, g1, g2, g3, g4, g5, g6⟩
    · exact .inl ⟨sz, g1, by rw [e]; exact g2⟩
    · exact .inr ⟨k, arr, Ty, cs, ext, by rw [e]; exact g1, g2, g3, g4, g5, VRel.keep hS hK _ _ g6⟩
  · rcases hH i bi hi with ⟨o, hmo, hl, ho⟩ | ⟨hl, hp, ho⟩ <;> rcases hH j bj hj with ⟨o', hmo', hl', ho'⟩ | ⟨hl', hp', ho'⟩
    · simp only [ρ', hl, hl'] at e1 e2
      have := h1.inj o o' bi bj k ho ho' e1 e2
      exact hN.inj _ hmo _ hmo' this
    · simp only [ρ', hl, hl'] at e1 e2
      have := h1.inj o j bi bj k ho ho' e1 e2
      have := (hN.lt _ hmo).2
      simp only at this; omega
    · simp only [ρ', hl, hl'] at e1 e2
      have := h1.inj i o' bi bj k ho ho' e1 e2
      have := (hN.lt _ hmo').2
      simp only at this; omega
    · simp only [ρ', hl, hl'] at e1 e2
      exact h1.inj i j bi bj k ho ho' e1 e2
  · have he : (σ.keep L).e t = ((look (keepEnv σ L) t).map (rename m)).getD .top := by
      simp only [St.keep, St.e, hm]
      rw [look_map]
    rw [he]
    cases hl : look (keepEnv σ L) t with
    | none => simp [SlotRel]
    | some v =>
      have hv := keepEnv_look L t v hl
      have hrel := h2 t
      have : σ.e t = v := by simp [St.e, hv]
      rw [this] at hrel
      simp only [Option.map_some, Option.getD_some]
      -- a name that is kept
      have hname : ∀ id n, newName m id = some n → ρ' n = ρ id ∧ ∀ b, (σ.keep L).h n = some b → σ.h id = some b := by
        intro id n hn
        rcases newName_spec hn with hmem | ⟨rfl, hge⟩
        · have hln := look_of_mem_names hN hmem
          refine ⟨by simp only [ρ', hln], fun b hb => ?_⟩
          rcases hH n b hb with ⟨o, _, hl, ho⟩ | ⟨hl, _, ho⟩
          · rw [hln] at hl; cases hl; exact ho
          · rw [hln] at hl; cases hl
        · have hno : look m n = none := by
            cases hl : look m n with
            | none => rfl
            | some o =>
              have := (hN.lt _ (look_mem _ _ _ hl)).1
              simp only at this; omega
          refine ⟨by simp only [ρ', hno], fun b hb => ?_⟩
          rcases hH n b hb with ⟨o, _, hl, ho⟩ | ⟨hl, _, ho⟩
          · rw [hno] at hl; cases hl
          · exact ho
      cases v <;> simp only [rename] <;> try (first | exact slot_plain hrel rfl hS | exact hrel.elim | trivial)
      case own id p o =>
        split
        · rename_i n hn
          obtain ⟨e1, e2⟩ := hname id n hn
          intro b hb
          rw [e1]; exact hrel b (e2 b hb)
        · simp only [SlotRel]
      case osl id =>
        split
        · rename_i n hn
          obtain ⟨e1, e2⟩ := hname id n hn
          intro b hb
          rw [e1]; exact hrel b (e2 b hb)
        · simp only [SlotRel]
      case oclo f id caps =>
        split
        · rename_i n hn
          obtain ⟨e1, e2⟩ := hname id n hn
          intro b hb
          obtain ⟨k, vs, q1, q2, q3, q4⟩ := hrel b (e2 b hb)
          exact ⟨k, vs, by rw [e1]; exact q1, q2, q3, VPack.keep hS hK _ _ q4⟩
        · simp only [SlotRel]
  · rcases hH _ b hb with ⟨o, hmo, hl, ho⟩ | ⟨hl, _, ho⟩
    · have := (hN.lt _ hmo).1
      simp only [pid] at this; omega
    · simp only [ρ', hl]; exact h3 i b ho

theorem RelF.frzSlot (t : Nat) (hr : RelF fr σ a w) : RelF fr (σ.frzSlot t) a w := by
  unfold St.frzSlot
  split
  · rename_i id he
    split
    · rename_i sz xs fz hb
      obtain ⟨⟨ρ, h1, h2, h3⟩, h4, h5, h6⟩ := hr
      obtain ⟨v', u, e, hu, _, _, hs⟩ := frz_elim (v := .osl id) (k := fun v u => .ret (.val v u True)) (H := σ.h) (r := .val (.sl sz false xs) [(id, some ⟨.row sz xs, true⟩)] True) (by simp [frz, Ask.run, hb]) (by simp)
      simp only [Ask.run, Ev.val.injEq] at e
      obtain ⟨rfl, rfl, _⟩ := e
      have eh : (⟨(t, .sl sz false xs) :: σ.env, (id, some ⟨.row sz xs, true⟩) :: σ.H⟩ : St).h = updH σ.h [(id, some ⟨.row sz xs, true⟩)] := h_upd σ [(id, some ⟨.row sz xs, true⟩)]
      refine ⟨⟨ρ, by rw [eh]; exact FU.hrel h1 hu, fun t' => ?_, fun i b hb' => ?_⟩, h4, h5, h6⟩
      · rw [eh]
        by_cases et : t = t'
        · subst et
          have e1 : (⟨(t, .sl sz false xs) :: σ.env, (id, some ⟨.row sz xs, true⟩) :: σ.H⟩ : St).e t = .sl sz false xs := by simp [St.e, look]
          have e2 : σ.e t = .osl id := by simp [St.e, he]
          rw [e1]
          exact hs ρ _ _ w _ h1 (by have := h2 t; rwa [e2] at this)
        · have e1 : (⟨(t, .sl sz false xs) :: σ.env, (id, some ⟨.row sz xs, true⟩) :: σ.H⟩ : St).e t' = σ.e t' := by
            have hb : Nat.beq t t' = false := by rw [← Bool.not_eq_true, Nat.beq_eq]; exact et
            simp only [St.e, look, hb]
          rw [e1]
          exact FU.slot h1 hu (h2 t')
      · rw [eh] at hb'
        obtain ⟨b0, hb0, _⟩ := hu.upd _ b hb'
        exact h3 i b0 hb0
    · exact hr
  · exact hr
theorem RelF.frzSlots : ∀ (L : List Nat) {σ : St}, RelF fr σ a w → RelF fr (σ.frzSlots L) a w
  | [], _, hr => hr
  | t :: L, σ, hr => by
    unfold St.frzSlots
    split
    · exact RelF.frzSlots L (hr.frzSlot _)
    · exact RelF.frzSlots L hr
theorem RelF.keepFor (L : Live) (c : ACode) (hr : RelF fr σ a w) : RelF fr (keepFor L c σ) a w := by
  unfold Abs.keepFor
  split
  · split
    · exact (RelF.frzSlots _ hr).keep _
    · exact hr
  · exact hr

def Xr : Exit → AEx → Prop
  | .normal, .normal => True
  | .exit i, .exit j => i = j
  | .ret, .ret => True
  | _, _ => False

def Post (fr : Fr) (Q : AEx → St → Prop) (ex : Exit) (a : Act) (w : World) : Prop := ∃ ex' σ', Xr ex ex' ∧ Q ex' σ' ∧ RelF fr σ' a w

theorem acode_sound (g : Good P T) (hn : fr.n ≤ 999999) (hN : ∀ k, fr.w0.heap.size ≤ k → fr.N k) (m : List (Nat × Nat)) (L : Live) : ∀ (c : Code) (σ : St) (Q : AEx → St → Prop) (a : Act) (w : World),
    acode P T L (strip m c) σ Q → (strip m c).dstOk fr.n = true → RelF fr σ a w → c.wp P (Post fr Q) a w := by
  intro c
  induction c with
  | skip => intro σ Q a w h _ hr; exact wp_skip ⟨.normal, σ, trivial, h, hr⟩
  | region id ops draw =>
    intro σ Q a w h hd hr
    cases draw with
    | true =>
      obtain ⟨ts, h1, h2⟩ := h
      obtain ⟨xs, σF, h3, hl, hch⟩ := chain_of _ _ _ _ h2
      refine wp_region_any g.mixed (any_sound g hn hN (m := m) rfl hl h1 hch ?_ (fun a w hr => ⟨.normal, σF, trivial, h3, hr⟩) _ _ σ a _ (by simp) ?_ ?_ ?_ (hr.drawn g hN))
      · simpa [strip, ACode.dstOk] using hd
      · refine Nat.le_trans (List.count_le_length) ?_
        simp
      · intro i o _ hli
        exfalso
        simp only [Array.getD_eq_getD_getElem?, Array.getElem?_replicate] at hli
        split at hli <;> simp at hli
      · have : (fun i => (Array.replicate ops.size false).getD i false = true) = fun _ => False := by
          funext i
          apply propext
          simp only [Array.getD_eq_getD_getElem?, Array.getElem?_replicate]
          split <;> simp
        rw [this]; exact Agrees.none σ
    | false =>
      refine wp_region ?_
      rw [List.range_eq_range']
      have h2 : aops P T (ops.toList.map (stripOper m false ops)) σ (Q .normal) := h
      refine ops_sound g hn hN (K := Q .normal) (m := m) (draw := false) (fun σ a w hq hr => ⟨.normal, σ, trivial, hq, hr⟩) ops.size 0 σ a w (by omega) (by simpa using h2) ?_ hr
      simpa [strip, ACode.dstOk] using hd
  | seq x y ihx ihy =>
    intro σ Q a w h hd hr
    simp only [strip, ACode.dstOk, Bool.and_eq_true] at hd
    refine wp_seq (wp_mono (ihx σ _ a w h hd.1 hr) ?_)
    rintro ex a' w' ⟨ex', σ', hx, hq, hr'⟩
    cases ex <;> cases ex' <;> simp only [Xr] at hx <;> try exact hx.elim
    · exact ihy _ Q a' w' hq hd.2 (hr'.keepFor L _)
    · exact ⟨.exit _, σ', hx, hq, hr'⟩
    · exact ⟨.ret, σ', trivial, hq, hr'⟩
  | cond c x y ihx ihy =>
    intro σ Q a w h hd hr
    simp only [strip, ACode.dstOk, Bool.and_eq_true] at hd
    simp only [strip, acode] at h
    obtain ⟨ρ, cx, _, _⟩ := hr.cx g hN
    have hc := cx.rel c
    split at h
    · rename_i e; rw [e] at hc; exact wp_cond_true hc (ihx σ Q a w h hd.1 hr)
    · rename_i e; rw [e] at hc; exact wp_cond_false hc (ihy σ Q a w h hd.2 hr)
    · exact h.elim
  | block id x ih =>
    intro σ Q a w h hd hr
    refine wp_block (wp_mono (ih σ _ a w h hd hr) ?_)
    rintro ex a' w' ⟨ex', σ', hx, hq, hr'⟩
    cases ex <;> cases ex' <;> simp only [Xr] at hx <;> try exact hx.elim
    · exact ⟨.normal, σ', trivial, hq, hr'⟩
    · subst hx
      simp only [blockK] at hq
      simp only [Exit.inBlock]
      split at hq
      · rename_i e; rw [if_pos e]; exact ⟨.normal, σ', trivial, hq, hr'⟩
      · rename_i e; rw [if_neg e]; exact ⟨.exit _, σ', rfl, hq, hr'⟩
    · exact ⟨.ret, σ', trivial, hq, hr'⟩
  | loop x ih =>
    intro σ Q a w h hd hr
    simp only [strip, acode] at h
    have key := h (fun σ' => ∀ a w, RelF fr σ' a w → ∀ (b : Frame) (k : List Item) (cs : List Frame), ∃ e a' w', Post fr Q e a' w' ∧ Arrives P (lone (b.at a (.code x :: .inLoop x :: k)) cs w) b k cs e a' w') ?_
    · intro b k cs
      obtain ⟨e, a', w', hq, harr⟩ := key a w (hr.keepFor L _) b k cs
      exact ⟨e, a', w', hq, .of_steps (.one step_loop) harr⟩
    · intro σ' hb a w hr' b k cs
      obtain ⟨e, a₁, w₁, ⟨ex', σ'', hx, hq, hr''⟩, harr⟩ := ih σ' _ a w hb hd hr' b (.inLoop x :: k) cs
      cases e <;> cases ex' <;> simp only [Xr] at hx <;> try exact hx.elim
      · obtain ⟨e₂, a₂, w₂, hq₂, harr₂⟩ := hq a₁ w₁ (hr''.keepFor L _) b k cs
        exact ⟨e₂, a₂, w₂, hq₂, .of_steps (Steps.trans harr (.one step_inLoop)) harr₂⟩
      · exact ⟨.exit _, a₁, w₁, ⟨.exit _, σ'', hx, hq, hr''⟩, .pass (x := .inLoop x) rfl (fun _ _ => .inl (by simp)) harr⟩
      · exact ⟨.ret, a₁, w₁, ⟨.ret, σ'', trivial, hq, hr''⟩, .pass (x := .inLoop x) rfl (fun _ _ => .inl (by simp)) harr⟩
  | exit id => intro σ Q a w h _ hr; exact wp_exit ⟨.exit id, σ, rfl, h, hr⟩
  | ret => intro σ Q a w h _ hr; exact wp_ret ⟨.ret, σ, trivial, h, hr⟩
  | _ => intro σ Q a w h; exact h.elim

end
end Go.Abs
/- A function's abstract run gives its contract: for every program and world. -/
namespace Go.Abs
section
variable {P : Program} {T : Tys} {fr : Fr} {σ : St} {a : Act} {w : World}

theorem load_val {ρ : Nat → Option Nat} {H : Hp} {B N : Nat → Prop} {e : Operand → AV} {cv : Operand → Value} (cx : Cx P T ρ H B N w e cv) {d t : Nat} {x : Operand} {v : AV} {u : Upd} {C : Prop} (h : (aop T d e (.load t x)).run H = .val v u C) (hC : C) :
    ∃ ad c, cv x = .pointer (some ad) ∧ (loadVar t ad).run P w = .ok c w ∧ SlotRel ρ H (Sof ρ H B) w v c := by
  have hx := cx.rel x
  simp only [aop] at h
  split at h
  · simp [Ask.run] at h
  · rename_i i hi
    split at h
    · rename_i id p o' e0
      simp only [Ask.run] at h
      split at h
      · rename_i c f hb
        simp only [Ask.run, Ev.val.injEq] at h
        obtain ⟨rfl, rfl, rfl⟩ := h
        obtain ⟨c1, c2, c3, c4, c5⟩ := hC
        rw [e0] at hx
        obtain ⟨k, hk, hcv⟩ := hx _ hb
        rcases cx.hr.at_ id _ hb with ⟨sz, _, h2⟩ | ⟨q, arr, Ty, cs, ext, g1, g2, g3, g4, g5, g6⟩
        · rw [h2] at hk; cases hk
        · rw [hk] at g1; cases g1
          obtain ⟨cv', r1, r2⟩ := load_path (P := P) (cx.ty _ _ hi) g6 (reads_block g4 g5) c1 c2 c3 c4 c5
          rw [Nat.zero_add] at r1
          exact ⟨_, _, hcv, r1, r2 ρ H⟩
      · simp [Ask.run] at h
    · rename_i c p o' e0
      simp only [Ask.run, Ev.val.injEq] at h
      obtain ⟨rfl, rfl, rfl⟩ := h
      obtain ⟨c1, c2, c3, c4, c5⟩ := hC
      rw [e0] at hx
      obtain ⟨k, off, vs, hcv, hS, hv, hrd⟩ := hx
      simp at hcv
      obtain ⟨cv', r1, r2⟩ := load_path (P := P) (cx.ty _ _ hi) hv hrd c1 c2 c3 c4 c5
      rw [← c2] at r1
      subst c2
      exact ⟨_, _, hcv, r1, r2 ρ H⟩
    · simp [Ask.run] at h

/-! ## Results -/
def retEv (T : Tys) (σ : St) : ResultVar → Ev
  | .tmp t => .val (σ.e t) [] True
  | .cell x t => (aop T 0 (opdA σ.e) (.load t (.tmp x))).run σ.h

/-- What is handed back of what a slot holds. -/
def RetRel (σ : St) (c r : AV) : Prop :=
  (c.plain = true ∧ (r = c ∨ r = loose c)) ∨ (∃ id sz xs f, c = .osl id ∧ σ.h id = some ⟨.row sz xs, f⟩ ∧ r = .sl sz false xs)

def Rets (T : Tys) (σ : St) : List ResultVar → List AV → Prop
  | [], rs => rs = []
  | x :: xs, rs => ∃ c u C r rest, retEv T σ x = .val c u C ∧ C ∧ RetRel σ c r ∧ rs = r :: rest ∧ Rets T σ xs rest

def asResult : List AV → AV
  | [r] => r
  | rs => .tuple rs

theorem ret_rel {ρ : Nat → Option Nat} {H : Hp} {B N : Nat → Prop} (hr : HRel ρ H B N w) {σ : St} (hH : H = σ.h) {c r : AV} {v : Value} (h : RetRel σ c r) (hs : SlotRel ρ H (Sof ρ H B) w c v) (ρ' : Nat → Option Nat) (H' : Hp) : SlotRel ρ' H' B w r v := by
  subst hH
  rcases h with ⟨hp, hr'⟩ | ⟨id, sz, xs, f, rfl, hb, rfl⟩
  · have h1 : SlotRel ρ' H' B w c v := slot_plain hs hp fun k hk => hk.1
    rcases hr' with rfl | rfl
    · exact h1
    · exact loose_slot h1
  · obtain ⟨sz', xs', e, hh⟩ := hs _ hb
    cases e
    simp only [SlotRel, VRel]
    rcases hh with ⟨hx, hρ, a, ha⟩ | ⟨q, cap, arr, Ty, hρ, hv, hle, hw, hcap⟩
    · subst hx; subst ha
      exact ⟨a, 0, rfl, by simp, by simp, .inl rfl⟩
    · subst hv
      refine ⟨_, cap, rfl, hle, by simp, ?_⟩
      rcases hr.at_ id _ hb with ⟨sz2, e2, h2⟩ | ⟨q', arr', T', cs, ext, h1, h2, h3, h4, h5, h6⟩
      · rw [h2] at hρ; cases hρ
      · rw [hρ] at h1; cases h1
        simp only [VRel] at h6
        exact .inr ⟨q, 0, cs, rfl, h2, VAll.keep (fun k hk => hk.1) (fun _ _ _ => rfl) _ _ _ _ h6, reads_block h4 h5⟩

theorem rets_run {ρ : Nat → Option Nat} {B N : Nat → Prop} (cx : Cx P T ρ σ.h B N w (opdA σ.e) a.eval) (hs : ∀ t, SlotRel ρ σ.h (Sof ρ σ.h B) w (σ.e t) (a.tmps.getD t undef)) (ρ' : Nat → Option Nat) (H' : Hp) {f : ResultVar → Sem Value} (hf1 : ∀ t, f (.tmp t) = pure (a.tmps.getD t undef))
    (hf2 : ∀ x t, f (.cell x t) = do loadVar t (← asAddr (a.tmps.getD x undef))) : ∀ (xs : List ResultVar) (rs : List AV), Rets T σ xs rs → ∃ vs : List Value, (xs.mapM f).run P w = .ok vs w ∧ SlotsRel ρ' H' B w rs vs
  | [], rs, h => ⟨[], by simp, by simp only [Rets] at h; subst h; simp [SlotsRel]⟩
  | x :: xs, rs, h => by
    obtain ⟨c, u, C, r, rest, h1, hC, hrel, rfl, h2⟩ := h
    obtain ⟨vs, g1, g2⟩ := rets_run cx hs ρ' H' hf1 hf2 xs rest h2
    have hone : ∃ v, (f x).run P w = .ok v w ∧ SlotRel ρ σ.h (Sof ρ σ.h B) w c v := by
      cases x with
      | tmp t =>
        simp only [retEv, Ev.val.injEq] at h1
        obtain ⟨rfl, _, _⟩ := h1
        exact ⟨_, by rw [hf1]; rfl, hs t⟩
      | cell x t =>
        obtain ⟨ad, cc, k1, k2, k3⟩ := load_val cx h1 hC
        have k1' : a.tmps.getD x undef = .pointer (some ad) := k1
        exact ⟨cc, by rw [hf2]; simp [k1', asAddr, k2], k3⟩
    obtain ⟨v, k1, k2⟩ := hone
    refine ⟨v :: vs, ?_, v, vs, rfl, ret_rel cx.hr rfl hrel k2 ρ' H', g2⟩
    simp only [List.mapM_cons, Sem.run_bind]
    rw [k1]
    simp only [Result.andThen_ok, g1, Sem.run_pure]

theorem results_run {fn : Func} {ρ : Nat → Option Nat} {B N : Nat → Prop} (cx : Cx P T ρ σ.h B N w (opdA σ.e) a.eval) (hs : ∀ t, SlotRel ρ σ.h (Sof ρ σ.h B) w (σ.e t) (a.tmps.getD t undef)) (ρ' : Nat → Option Nat) (H' : Hp) {rs : List AV} (h : Rets T σ fn.results.toList rs) :
    ∃ v, (results fn a.tmps).run P w = .ok v w ∧ SlotRel ρ' H' B w (asResult rs) v := by
  obtain ⟨vs, h1, h2⟩ := rets_run cx hs ρ' H' (f := fun
    | .tmp t => pure (a.tmps.getD t undef)
    | .cell x t => do loadVar t (← asAddr (a.tmps.getD x undef))) (fun _ => rfl) (fun _ _ => rfl) _ _ h
  refine ⟨if h : vs.toArray.size = 1 then vs.toArray[0] else .tuple vs.toArray, ?_, ?_⟩
  · simp only [results, Sem.run_bind]
    rw [Array.mapM_eq_mapM_toList, Sem.run_map]
    exact (congrArg (fun r => (Result.andThen r fun a w' => Result.ok a.toArray w').andThen _) h1)
  · match rs, h2 with
    | [], h2 => simp only [SlotsRel] at h2; subst h2; exact ⟨[], rfl, rfl⟩
    | [r], ⟨v, rest, e1, k1, k2⟩ => simp only [SlotsRel] at k2; subst k2; subst e1; exact k1
    | r :: r' :: rs, h2 =>
      have : vs.length = (r :: r' :: rs).length := by
        have : ∀ (l : List AV) (cs : List Value), SlotsRel ρ' H' B w l cs → cs.length = l.length := by
          intro l
          induction l with
          | nil => intro cs h; simp only [SlotsRel] at h; simp [h]
          | cons x l ih => rintro cs ⟨c, rest, rfl, _, h⟩; simp [ih _ h]
        exact this _ _ h2
      rw [dif_neg (by simp at this ⊢; omega)]
      exact ⟨vs, rfl, h2⟩

theorem callable_of {f : FuncId} {fn : Func} {c : Code} (hf : P.funcs[f]? = some fn) (hb : fn.body = some c) (hn : (fn.name == "runtime.NumGoroutine") = false) : Callable P f := by
  intro args w
  have hn' : ¬ fn.name = "runtime.NumGoroutine" := by simpa using hn
  simp [callFunc, hf, hb, hn']

theorem entry_slots {ρ : Nat → Option Nat} {H : Hp} {S : Nat → Prop} : ∀ (i : Nat) (args : List AV) (cargs : List Value), SlotsRel ρ H S w ((entryEnv i args).map (·.2)) cargs → cargs.length = args.length ∧ ∀ t, ∃ x, (look (entryEnv i args) t).getD .top = x ∧ (i ≤ t → SlotRel ρ H S w x (cargs.getD (t - i) undef)) ∧ (t < i → x = .top)
  | i, [], cargs, h => by
    simp only [entryEnv, List.map_nil, SlotsRel] at h
    subst h
    exact ⟨rfl, fun t => ⟨.top, rfl, fun _ => trivial, fun _ => rfl⟩⟩
  | i, v :: vs, cargs, h => by
    obtain ⟨c, rest, rfl, h1, h2⟩ := h
    obtain ⟨hl, hh⟩ := entry_slots (i + 1) vs rest h2
    refine ⟨by simp [hl], fun t => ?_⟩
    obtain ⟨x, e1, e2, e3⟩ := hh t
    simp only [entryEnv, look]
    by_cases e : i = t
    · subst e
      simp only [Nat.beq_refl]
      exact ⟨_, rfl, fun _ => by simpa using h1, fun hlt => by omega⟩
    · have hb : Nat.beq i t = false := by rw [← Bool.not_eq_true, Nat.beq_eq]; exact e
      rw [hb]
      refine ⟨x, e1, fun hle => ?_, fun hlt => e3 (by omega)⟩
      have := e2 (by omega)
      rw [show t - i = (t - (i + 1)) + 1 by omega]
      simpa using this

/-- THE CONTRACT: the abstract run of the body ends with these results. -/
theorem den_of (g : Good P T) {f : FuncId} {fn : Func} {c : Code} {ac : ACode} {m : List (Nat × Nat)} {L : Live} {n : Nat} {args rs : List AV} (hf : P.funcs[f]? = some fn) (hb : fn.body = some c) (hname : (fn.name == "runtime.NumGoroutine") = false)
    (hn : fn.ntmps = n) (hn2 : Nat.ble n 999999 = true) (hl : Nat.ble args.length n = true) (hstrip : strip m c = ac) (hdst : ac.dstOk n = true) (hmut : mutIx 0 args = [])
    (hrun : acode P T L ac (entry args) fun ex σ => (ex = .normal ∨ ex = .ret) ∧ Rets T σ fn.results.toList rs) : Den P f args { r := asResult rs } := by
  refine ⟨callable_of hf hb hname, fun ρ0 B0 w cargs hent => ?_⟩
  have hnoB := mutIx_nil 0 _ hmut
  have hH0 : (entry args).h = fun _ => none := by
    funext id
    show (look (entryH 0 args) id).getD none = none
    rw [entryH_nil 0 _ hnoB]; rfl
  subst hstrip
  let fr : Fr := ⟨w, B0, fun k => (∃ id b, (entry args).h id = some b ∧ ρ0 id = some k) ∨ w.heap.size ≤ k, ρ0, n⟩
  obtain ⟨hlen, hsl⟩ := entry_slots 0 args cargs hent.slots
  have hle := Nat.le_of_ble_eq_true hl
  have hr : RelF fr (entry args) { tmps := cargs.toArray ++ Array.replicate (fn.ntmps - cargs.toArray.size) undef, defers := [] } w := by
    refine ⟨⟨ρ0, ?_, fun t => ?_, fun _ _ _ => rfl⟩, rfl, ?_, Only.refl _ _⟩
    · show HRel ρ0 (entry args).h (fun k => B0 k ∨ (w.heap.size ≤ k ∧ k < w.heap.size)) _ w
      rw [Bself]; exact hent.heap
    · show SlotRel ρ0 (entry args).h (Sof ρ0 (entry args).h (fun k => B0 k ∨ (w.heap.size ≤ k ∧ k < w.heap.size))) w _ _
      rw [Bself]
      obtain ⟨x, e1, e2, _⟩ := hsl t
      have e3 : (entry args).e t = x := e1
      rw [e3]
      have := e2 (Nat.zero_le _)
      rw [Nat.sub_zero] at this
      have e4 : (cargs.toArray ++ Array.replicate (fn.ntmps - cargs.toArray.size) undef).getD t undef = cargs.getD t undef := by
        rw [Array.getD_eq_getD_getElem?, Array.getElem?_append]
        by_cases ht : t < cargs.length
        · simp [ht]
        · simp only [List.size_toArray, ht, if_false]
          rw [List.getD_eq_getElem?_getD, List.getElem?_eq_none (by omega)]
          rw [Array.getElem?_replicate]
          split <;> rfl
      rw [e4]; exact this
    · simp only [Array.size_append, List.size_toArray, Array.size_replicate]
      show cargs.length + (fn.ntmps - cargs.length) = n
      rw [hn, hlen]; omega
  refine calls_of_wp hf hb (wp_mono (acode_sound g (Nat.le_of_ble_eq_true hn2) (fun k hk => Or.inr hk) m L c _ _ _ _ hrun hdst hr) ?_)
  rintro ex a' w' ⟨ex', σ', hx, ⟨hex, hrets⟩, hr'⟩
  have fin : a'.defers = [] ∧ ∃ v, (results fn a'.tmps).run P w' = .ok v w' ∧ ∃ v' ρ', Ending.returned v = .returned v' ∧ Out ρ0 B0 w args { r := asResult rs } ρ' w' v' := by
    refine ⟨hr'.defers, ?_⟩
    obtain ⟨ρ, cx, hs, _⟩ := hr'.cx g (fun k hk => Or.inr hk)
    obtain ⟨v, h1, h2⟩ := results_run cx hs (fun _ => none) (fun _ => none) hrets
    refine ⟨v, h1, v, fun _ => none, rfl, ?_⟩
    have hRH : RV.H { r := asResult rs } args = fun _ => none := by
      funext id
      simp only [RV.H, fsH]
      rw [hmut]; rfl
    refine ⟨?_, ?_, hr'.only, fun i b hb => by rw [hH0] at hb; cases hb⟩
    · rw [hRH]
      exact ⟨fun _ _ h => (nomatch h), fun _ _ _ _ _ h => (nomatch h), fun k hk => cx.hr.bound k hk⟩
    · rw [hRH]
      have hS : ∀ k, (fun k => B0 k ∨ (w.heap.size ≤ k ∧ k < w'.heap.size)) k → Sof (fun _ => none) (fun _ => none) (fun k => B0 k ∨ (w.heap.size ≤ k ∧ k < w'.heap.size)) k := fun k hk => ⟨hk, fun _ _ h => (nomatch h)⟩
      have hSeq : Sof (fun _ => none) (fun _ => none) (fun k => B0 k ∨ (w.heap.size ≤ k ∧ k < w'.heap.size)) = fun k => B0 k ∨ (w.heap.size ≤ k ∧ k < w'.heap.size) := by
        funext k; exact propext ⟨fun h => h.1, hS k⟩
      rw [hSeq]
      exact h2
  rcases hex with rfl | rfl <;> cases ex <;> simp only [Xr] at hx <;> try exact hx.elim
  · exact fin
  · exact fin

/-- The contract of a function to which an argument is given up. -/
theorem den_ofG (g : Good P T) {f : FuncId} {fn : Func} {c : Code} {ac : ACode} {m : List (Nat × Nat)} {L : Live} {n : Nat} {args rs : List AV} (hf : P.funcs[f]? = some fn) (hb : fn.body = some c) (hname : (fn.name == "runtime.NumGoroutine") = false)
    (hn : fn.ntmps = n) (hn2 : Nat.ble n 999999 = true) (hl : Nat.ble args.length n = true) (hstrip : strip m c = ac) (hdst : ac.dstOk n = true)
    (hrun : acode P T L ac (entry args) fun ex σ => (ex = .normal ∨ ex = .ret) ∧ Rets T σ fn.results.toList rs) : Den P f args { r := asResult rs } := by
  refine ⟨callable_of hf hb hname, fun ρ0 B0 w cargs hent => ?_⟩
  subst hstrip
  let fr : Fr := ⟨w, B0, fun k => (∃ id b, (entry args).h id = some b ∧ ρ0 id = some k) ∨ w.heap.size ≤ k, ρ0, n⟩
  obtain ⟨hlen, hsl⟩ := entry_slots 0 args cargs hent.slots
  have hle := Nat.le_of_ble_eq_true hl
  have hr : RelF fr (entry args) { tmps := cargs.toArray ++ Array.replicate (fn.ntmps - cargs.toArray.size) undef, defers := [] } w := by
    refine ⟨⟨ρ0, ?_, fun t => ?_, fun _ _ _ => rfl⟩, rfl, ?_, Only.refl _ _⟩
    · show HRel ρ0 (entry args).h (fun k => B0 k ∨ (w.heap.size ≤ k ∧ k < w.heap.size)) _ w
      rw [Bself]; exact hent.heap
    · show SlotRel ρ0 (entry args).h (Sof ρ0 (entry args).h (fun k => B0 k ∨ (w.heap.size ≤ k ∧ k < w.heap.size))) w _ _
      rw [Bself]
      obtain ⟨x, e1, e2, _⟩ := hsl t
      have e3 : (entry args).e t = x := e1
      rw [e3]
      have := e2 (Nat.zero_le _)
      rw [Nat.sub_zero] at this
      have e4 : (cargs.toArray ++ Array.replicate (fn.ntmps - cargs.toArray.size) undef).getD t undef = cargs.getD t undef := by
        rw [Array.getD_eq_getD_getElem?, Array.getElem?_append]
        by_cases ht : t < cargs.length
        · simp [ht]
        · simp only [List.size_toArray, ht, if_false]
          rw [List.getD_eq_getElem?_getD, List.getElem?_eq_none (by omega)]
          rw [Array.getElem?_replicate]
          split <;> rfl
      rw [e4]; exact this
    · simp only [Array.size_append, List.size_toArray, Array.size_replicate]
      show cargs.length + (fn.ntmps - cargs.length) = n
      rw [hn, hlen]; omega
  refine calls_of_wp hf hb (wp_mono (acode_sound g (Nat.le_of_ble_eq_true hn2) (fun k hk => Or.inr hk) m L c _ _ _ _ hrun hdst hr) ?_)
  rintro ex a' w' ⟨ex', σ', hx, ⟨hex, hrets⟩, hr'⟩
  have fin : a'.defers = [] ∧ ∃ v, (results fn a'.tmps).run P w' = .ok v w' ∧ ∃ v' ρ', Ending.returned v = .returned v' ∧ Out ρ0 B0 w args { r := asResult rs } ρ' w' v' := by
    refine ⟨hr'.defers, ?_⟩
    obtain ⟨ρ, cx, hs, _⟩ := hr'.cx g (fun k hk => Or.inr hk)
    obtain ⟨v, h1, h2⟩ := results_run cx hs ρ0 (fun _ => none) hrets
    refine ⟨v, h1, v, ρ0, rfl, ?_⟩
    have hRH : RV.H { r := asResult rs } args = fun _ => none := by
      funext id
      simp only [RV.H, fsH, List.append_nil]
      cases mutIx 0 args <;> rfl
    refine ⟨?_, ?_, hr'.only, fun _ _ _ => rfl⟩
    · rw [hRH]
      exact ⟨fun _ _ h => (nomatch h), fun _ _ _ _ _ h => (nomatch h), fun k hk => cx.hr.bound k hk⟩
    · rw [hRH]
      have hSeq : Sof ρ0 (fun _ => none) (fun k => B0 k ∨ (w.heap.size ≤ k ∧ k < w'.heap.size)) = fun k => B0 k ∨ (w.heap.size ≤ k ∧ k < w'.heap.size) := by
        funext k; exact propext ⟨fun h => h.1, fun h => ⟨h, fun _ _ h => (nomatch h)⟩⟩
      rw [hSeq]
      exact h2
  rcases hex with rfl | rfl <;> cases ex <;> simp only [Xr] at hx <;> try exact hx.elim
  · exact fin
  · exact fin

/-! ## Results in new memory, and arguments that are written -/
/-- Results some of which are slices in new memory: ids tells their names here (none: nil). -/
def RetsX (T : Tys) (σ : St) : Nat → List ResultVar → List AV → List (Option Nat) → List (Nat × List AV) → Prop
  | _, [], rs, ids, fs => rs = [] ∧ ids = [] ∧ fs = []
  | j, x :: xs, rs, ids, fs => ∃ c u C r rest, retEv T σ x = .val c u C ∧ C ∧ rs = r :: rest ∧
      ((c.plain = true ∧ (r = c ∨ r = loose c) ∧ RetsX T σ j xs rest ids fs) ∨
       (∃ id sz ys ids' fs', c = .osl id ∧ σ.h id = some ⟨.row sz ys, false⟩ ∧ r = .osl (fid j) ∧ ids = some id :: ids' ∧ fs = (sz, ys) :: fs' ∧ blkOf (sz, ys) = .row sz ys ∧ RetsX T σ (j + 1) xs rest ids' fs') ∨
       (∃ id cc ids' fs', c = .own id [] [] ∧ σ.h id = some ⟨cc, false⟩ ∧ r = .own (fid j) [] [] ∧ ids = some id :: ids' ∧ fs = (0, [cc]) :: fs' ∧ RetsX T σ (j + 1) xs rest ids' fs') ∨
       (∃ sz ids' fs', c = .sl sz true [] ∧ r = .osl (fid j) ∧ ids = none :: ids' ∧ fs = (sz, []) :: fs' ∧ RetsX T σ (j + 1) xs rest ids' fs'))
def okIds (ids : List (Option Nat)) : Bool := distinct (ids.filterMap id) && (ids.filterMap id).all (Nat.blt · 1000000)
def MsX (σ : St) : List Nat → List AV → Prop
  | [], ms => ms = []
  | i :: is, ms => ∃ c cs, ms = c :: cs ∧ σ.h (pid i) = some ⟨c, false⟩ ∧ MsX σ is cs
def IdsOk (σ : St) : List (Option Nat) → List (Nat × List AV) → Prop
  | [], fs => fs = []
  | some id :: ids, fs => ∃ q fs', fs = q :: fs' ∧ σ.h id = some ⟨blkOf q, false⟩ ∧ IdsOk σ ids fs'
  | none :: ids, fs => ∃ sz fs', fs = (sz, []) :: fs' ∧ IdsOk σ ids fs'
theorem blkOf_nil (sz : Nat) : blkOf (sz, []) = .row sz [] := by
  unfold blkOf
  split
  · rename_i h; cases h
  · rename_i h; cases h; rfl
theorem RetsX.ids {σ : St} : ∀ (xs : List ResultVar) (j : Nat) (rs : List AV) (ids : List (Option Nat)) (fs : List (Nat × List AV)), RetsX T σ j xs rs ids fs → IdsOk σ ids fs
  | [], j, rs, ids, fs, h => by obtain ⟨_, rfl, rfl⟩ := h; rfl
  | x :: xs, j, rs, ids, fs, h => by
    obtain ⟨c, u, C, r, rest, _, _, _, h | ⟨id, sz, ys, ids', fs', _, hb, _, rfl, rfl, hbl, h⟩ | ⟨id, cc, ids', fs', _, hb, _, rfl, rfl, h⟩ | ⟨sz, ids', fs', _, _, rfl, rfl, h⟩⟩ := h
    · exact RetsX.ids xs j rest ids fs h.2.2
    · exact ⟨_, _, rfl, by rw [hbl]; exact hb, RetsX.ids xs (j + 1) rest ids' fs' h⟩
    · exact ⟨_, _, rfl, hb, RetsX.ids xs (j + 1) rest ids' fs' h⟩
    · exact ⟨_, _, rfl, RetsX.ids xs (j + 1) rest ids' fs' h⟩
theorem IdsOk.at_ {σ : St} : ∀ (ids : List (Option Nat)) (fs : List (Nat × List AV)), IdsOk σ ids fs → ∀ (j i : Nat) (b : Option Blk), look (fsH j fs) (fid (j + i)) = some b →
    (∃ (id : Nat) (q : Nat × List AV), ids[i]? = some (some id) ∧ b = some ⟨blkOf q, false⟩ ∧ σ.h id = some ⟨blkOf q, false⟩) ∨ (∃ sz, ids[i]? = some none ∧ b = some ⟨.row sz [], false⟩)
  | [], fs, h, j, i, b, hl => by simp only [IdsOk] at h; subst h; simp [fsH, look] at hl
  | o :: ids, fs, h, j, i, b, hl => by
    have nx : ∀ q fs', fs = q :: fs' → IdsOk σ ids fs' → i ≠ 0 → (∃ (id : Nat) (q : Nat × List AV), (o :: ids)[i]? = some (some id) ∧ b = some ⟨blkOf q, false⟩ ∧ σ.h id = some ⟨blkOf q, false⟩) ∨ (∃ sz, (o :: ids)[i]? = some none ∧ b = some ⟨.row sz [], false⟩) := by
      rintro ⟨sz, ys⟩ fs' rfl h' hi
      obtain ⟨i, rfl⟩ : ∃ k, i = k + 1 := ⟨i - 1, by omega⟩
      simp only [fsH, look] at hl
      have hb : Nat.beq (fid j) (fid (j + (i + 1))) = false := by rw [← Bool.not_eq_true, Nat.beq_eq]; unfold fid; omega
      rw [hb] at hl
      simp only [List.getElem?_cons_succ]
      refine IdsOk.at_ ids fs' h' (j + 1) i b ?_
      rw [show j + 1 + i = j + (i + 1) by omega]; exact hl
    cases o with
    | some id =>
      obtain ⟨q, fs', rfl, hb, h'⟩ := h
      by_cases hi : i = 0
      · subst hi
        obtain ⟨sz, ys⟩ := q
        simp only [fsH, look, Nat.add_zero, Nat.beq_refl, Option.some.injEq] at hl
        subst hl
        exact .inl ⟨id, (sz, ys), rfl, rfl, hb⟩
      · exact nx q fs' rfl h' hi
    | none =>
      obtain ⟨sz, fs', rfl, h'⟩ := h
      by_cases hi : i = 0
      · subst hi
        simp only [fsH, look, Nat.add_zero, Nat.beq_refl, Option.some.injEq, blkOf_nil] at hl
        subst hl
        exact .inr ⟨sz, rfl, rfl⟩
      · exact nx (sz, []) fs' rfl h' hi

theorem HRel.pick {ρ : Nat → Option Nat} {H Hc : Hp} {B N : Nat → Prop} (hr : HRel ρ H B N w) {ψ : Nat → Option Nat} (hinj : ∀ x y id, ψ x = some id → ψ y = some id → x = y)
    (h : ∀ x b, Hc x = some b → (∃ id, ψ x = some id ∧ H id = some ⟨b.c, false⟩) ∨ (ψ x = none ∧ ∃ sz, b.c = .row sz [])) :
    HRel (fun x => (ψ x).bind ρ) Hc B N w ∧ ∀ k, Sof ρ H B k → Sof (fun x => (ψ x).bind ρ) Hc B k := by
  have hS : ∀ k, Sof ρ H B k → Sof (fun x => (ψ x).bind ρ) Hc B k := by
    intro k hk
    refine ⟨hk.1, fun x b hx hf e => ?_⟩
    rcases h x b hx with ⟨id, h1, h2⟩ | ⟨h1, _⟩
    · simp only [h1, Option.bind_some] at e
      exact hk.2 id _ h2 rfl e
    · simp [h1] at e
  refine ⟨⟨fun x b hx => ?_, fun x y bx by_ k hx hy e1 e2 => ?_, hr.bound⟩, hS⟩
  · rcases h x b hx with ⟨id, h1, h2⟩ | ⟨h1, sz, h2⟩
    · rcases hr.at_ id _ h2 with ⟨sz, g1, g2⟩ | ⟨q, arr, T, cs, ext, g1, g2, g3, g4, g5, g6⟩
      · exact .inl ⟨sz, g1, by simp [h1, g2]⟩
      · exact .inr ⟨q, arr, T, cs, ext, by simp [h1, g1], g2, g3, g4, g5, VRel.keep hS (fun _ _ _ => rfl) _ _ g6⟩
    · exact .inl ⟨sz, h2, by simp [h1]⟩
  · rcases h x bx hx with ⟨i, h1, h2⟩ | ⟨h1, _⟩
    · rcases h y by_ hy with ⟨j, h3, h4⟩ | ⟨h3, _⟩
      · simp only [h1, h3, Option.bind_some] at e1 e2
        have := hr.inj i j _ _ k h2 h4 e1 e2
        subst this
        exact hinj x y i h1 h3
      · simp [h3] at e2
    · simp [h1] at e1

theorem retsX_run {ρ : Nat → Option Nat} {B N : Nat → Prop} (cx : Cx P T ρ σ.h B N w (opdA σ.e) a.eval) (hs : ∀ t, SlotRel ρ σ.h (Sof ρ σ.h B) w (σ.e t) (a.tmps.getD t undef)) {ρ' : Nat → Option Nat} {Hc : Hp} {S' : Nat → Prop} (hS : ∀ k, Sof ρ σ.h B k → S' k) {f : ResultVar → Sem Value} (hf1 : ∀ t, f (.tmp t) = pure (a.tmps.getD t undef))
    (hf2 : ∀ x t, f (.cell x t) = do loadVar t (← asAddr (a.tmps.getD x undef))) : ∀ (xs : List ResultVar) (j : Nat) (rs : List AV) (ids : List (Option Nat)) (fs : List (Nat × List AV)), RetsX T σ j xs rs ids fs →
    (∀ (i : Nat) (o : Option Nat) (q : Nat × List AV), ids[i]? = some o → fs[i]? = some q → Hc (fid (j + i)) = some ⟨blkOf q, false⟩ ∧ ρ' (fid (j + i)) = o.bind ρ) → ∃ vs : List Value, (xs.mapM f).run P w = .ok vs w ∧ SlotsRel ρ' Hc S' w rs vs
  | [], j, rs, ids, fs, h, _ => ⟨[], by simp, by obtain ⟨rfl, _⟩ := h; simp [SlotsRel]⟩
  | x :: xs, j, rs, ids, fs, h, hl => by
    obtain ⟨c, u, C, r, rest, h1, hC, rfl, h⟩ := h
    have hone : ∃ v, (f x).run P w = .ok v w ∧ SlotRel ρ σ.h (Sof ρ σ.h B) w c v := by
      cases x with
      | tmp t =>
        simp only [retEv, Ev.val.injEq] at h1
        obtain ⟨rfl, _, _⟩ := h1
        exact ⟨_, by rw [hf1]; rfl, hs t⟩
      | cell x t =>
        obtain ⟨ad, cc, k1, k2, k3⟩ := load_val cx h1 hC
        have k1' : a.tmps.getD x undef = .pointer (some ad) := k1
        exact ⟨cc, by rw [hf2]; simp [k1', asAddr, k2], k3⟩
    obtain ⟨v, k1, k2⟩ := hone
    have hrest : ∃ vs : List Value, (xs.mapM f).run P w = .ok vs w ∧ SlotsRel ρ' Hc S' w rest vs ∧ SlotRel ρ' Hc S' w r v := by
      have sub : ∀ (o : Option Nat) (q : Nat × List AV) ids' fs', ids = o :: ids' → fs = q :: fs' → ∀ (i : Nat) (o : Option Nat) (q : Nat × List AV), ids'[i]? = some o → fs'[i]? = some q → Hc (fid (j + 1 + i)) = some ⟨blkOf q, false⟩ ∧ ρ' (fid (j + 1 + i)) = o.bind ρ := by
        rintro o q ids' fs' rfl rfl i o' q' h3 h4
        have := hl (i + 1) o' q' (by simpa using h3) (by simpa using h4)
        rwa [show j + (i + 1) = j + 1 + i by omega] at this
      rcases h with ⟨hp, hr, h⟩ | ⟨id, sz, ys, ids', fs', rfl, hb, rfl, rfl, rfl, hbl, h⟩ | ⟨id, cc, ids', fs', rfl, hb, rfl, rfl, rfl, h⟩ | ⟨sz, ids', fs', rfl, rfl, rfl, rfl, h⟩
      · obtain ⟨vs, g1, g2⟩ := retsX_run cx hs hS hf1 hf2 xs j rest ids fs h hl
        refine ⟨vs, g1, g2, ?_⟩
        have h3 : SlotRel ρ' Hc S' w c v := slot_plain k2 hp hS
        rcases hr with rfl | rfl
        · exact h3
        · exact loose_slot h3
      · obtain ⟨vs, g1, g2⟩ := retsX_run cx hs hS hf1 hf2 xs (j + 1) rest ids' fs' h (sub _ _ _ _ rfl rfl)
        refine ⟨vs, g1, g2, fun b hb' => ?_⟩
        obtain ⟨e1, e2⟩ := hl 0 (some id) (sz, ys) rfl rfl
        simp only [Nat.add_zero, Option.bind_some] at e1 e2
        rw [e1, hbl] at hb'
        simp only [Option.some.injEq] at hb'
        subst hb'
        rw [e2]
        exact k2 _ hb
      · obtain ⟨vs, g1, g2⟩ := retsX_run cx hs hS hf1 hf2 xs (j + 1) rest ids' fs' h (sub _ _ _ _ rfl rfl)
        refine ⟨vs, g1, g2, fun b hb' => ?_⟩
        obtain ⟨e1, e2⟩ := hl 0 (some id) (0, [cc]) rfl rfl
        simp only [Nat.add_zero, Option.bind_some] at e1 e2
        rw [e1] at hb'
        simp only [Option.some.injEq] at hb'
        subst hb'
        rw [e2]
        exact k2 _ hb
      · obtain ⟨vs, g1, g2⟩ := retsX_run cx hs hS hf1 hf2 xs (j + 1) rest ids' fs' h (sub _ _ _ _ rfl rfl)
        refine ⟨vs, g1, g2, fun b hb' => ?_⟩
        obtain ⟨e1, e2⟩ := hl 0 none (sz, []) rfl rfl
        simp only [Nat.add_zero, Option.bind_none] at e1 e2
        rw [e1, blkOf_nil] at hb'
        simp only [Option.some.injEq] at hb'
        subst hb'
        obtain ⟨ad, cap, e, _, hcap, _⟩ := k2
        simp only [List.cons.injEq, and_true] at e
        have := hcap rfl
        simp only [List.length_nil] at this
        subst this
        exact ⟨sz, [], rfl, .inl ⟨rfl, e2, ad, e⟩⟩
    obtain ⟨vs, g1, g2, g3⟩ := hrest
    refine ⟨v :: vs, ?_, v, vs, rfl, g3, g2⟩
    simp only [List.mapM_cons, Sem.run_bind]
    rw [k1]
    simp only [Result.andThen_ok, g1, Sem.run_pure]

def retSem (a : Act) : ResultVar → Sem Value
    | .tmp t => pure (a.tmps.getD t undef)
    | .cell x t => do loadVar t (← asAddr (a.tmps.getD x undef))
theorem as_result {fn : Func} {ρ' : Nat → Option Nat} {H' : Hp} {S : Nat → Prop} {rs : List AV} {vs : List Value} (h1 : (fn.results.toList.mapM (retSem a)).run P w = .ok vs w) (h2 : SlotsRel ρ' H' S w rs vs) :
    ∃ v, (results fn a.tmps).run P w = .ok v w ∧ SlotRel ρ' H' S w (asResult rs) v := by
  refine ⟨if h : vs.toArray.size = 1 then vs.toArray[0] else .tuple vs.toArray, ?_, ?_⟩
  · simp only [results, Sem.run_bind]
    rw [Array.mapM_eq_mapM_toList, Sem.run_map]
    exact (congrArg (fun r => (Result.andThen r fun a w' => Result.ok a.toArray w').andThen _) h1)
  · match rs, h2 with
    | [], h2 => simp only [SlotsRel] at h2; subst h2; exact ⟨[], rfl, rfl⟩
    | [r], ⟨v, rest, e1, k1, k2⟩ => simp only [SlotsRel] at k2; subst k2; subst e1; exact k1
    | r :: r' :: rs, h2 =>
      have : vs.length = (r :: r' :: rs).length := by
        have : ∀ (l : List AV) (cs : List Value), SlotsRel ρ' H' S w l cs → cs.length = l.length := by
          intro l
          induction l with
          | nil => intro cs h; simp only [SlotsRel] at h; simp [h]
          | cons x l ih => rintro cs ⟨c, rest, rfl, _, h⟩; simp [ih _ h]
        exact this _ _ h2
      rw [dif_neg (by simp at this ⊢; omega)]
      exact ⟨vs, rfl, h2⟩

theorem mutIx_lt : ∀ (i : Nat) (vs : List AV), ∀ j ∈ mutIx i vs, i ≤ j ∧ j < i + vs.length
  | _, [] => by simp [mutIx]
  | i, v :: vs => by
    intro j hj
    simp only [mutIx] at hj
    split at hj
    · rcases List.mem_cons.1 hj with rfl | hj
      · simp
      · have := mutIx_lt (i + 1) vs j hj; simp; omega
    · have := mutIx_lt (i + 1) vs j hj; simp; omega
theorem entryH_mem : ∀ (i : Nat) (vs : List AV) (x : Nat) (b : Option Blk), look (entryH i vs) x = some b → ∃ j ∈ mutIx i vs, x = pid j
  | _, [], _, _, h => by simp [entryH, look] at h
  | i, v :: vs, x, b, h => by
    simp only [entryH] at h
    simp only [mutIx]
    cases e : entryB v with
    | none =>
      rw [e] at h
      exact entryH_mem (i + 1) vs x b h
    | some bb =>
      rw [e] at h
      simp only [look] at h
      by_cases hx : pid i = x
      · exact ⟨i, by simp, hx.symm⟩
      · have hb : Nat.beq (pid i) x = false := by rw [← Bool.not_eq_true, Nat.beq_eq]; exact hx
        rw [hb] at h
        obtain ⟨j, h1, h2⟩ := entryH_mem (i + 1) vs x b h
        exact ⟨j, by simp [h1], h2⟩
theorem msH_at {σ : St} : ∀ (is : List Nat) (ms : List AV), MsX σ is ms → ∀ x b, look (msH is ms) x = some b → ∃ i ∈ is, x = pid i ∧ σ.h x = b
  | [], ms, h, x, b, hl => by simp only [MsX] at h; subst h; simp [msH, look] at hl
  | i :: is, ms, ⟨c, cs, e, h1, h2⟩, x, b, hl => by
    subst e
    simp only [msH, look] at hl
    by_cases hx : pid i = x
    · subst hx
      rw [Nat.beq_refl] at hl
      simp only [Option.some.injEq] at hl
      exact ⟨i, by simp, rfl, by rw [h1, hl]⟩
    · have hb : Nat.beq (pid i) x = false := by rw [← Bool.not_eq_true, Nat.beq_eq]; exact hx
      rw [hb] at hl
      obtain ⟨j, g1, g2, g3⟩ := msH_at is cs h2 x b hl
      exact ⟨j, by simp [g1], g2, g3⟩
theorem MsX.has {σ : St} : ∀ (is : List Nat) (ms : List AV), MsX σ is ms → ∀ i ∈ is, ∃ b, σ.h (pid i) = some b
  | [], _, _, i, hi => by simp at hi
  | j :: is, ms, ⟨c, cs, _, h1, h2⟩, i, hi => by
    rcases List.mem_cons.1 hi with rfl | hi
    · exact ⟨_, h1⟩
    · exact MsX.has is cs h2 i hi

theorem distinct_at : ∀ (ids : List (Option Nat)), distinct (ids.filterMap id) = true → ∀ i j x : Nat, ids[i]? = some (some x) → ids[j]? = some (some x) → i = j
  | [], _, i, j, x, h, _ => by simp at h
  | o :: ids, hd, i, j, x, hi, hj => by
    have tl : distinct (ids.filterMap id) = true := by
      cases o with
      | none => simpa using hd
      | some y => simp only [List.filterMap_cons, id_eq, distinct, Bool.and_eq_true] at hd; exact hd.2
    have hd0 : ∀ y, o = some y → ∀ k : Nat, ids[k]? = some (some y) → False := by
      rintro y rfl k hk
      simp only [List.filterMap_cons, id_eq, distinct, Bool.and_eq_true, Bool.not_eq_true'] at hd
      have : (ids.filterMap id).any (Nat.beq y) = true := by
        rw [List.any_eq_true]
        exact ⟨y, List.mem_filterMap.2 ⟨some y, List.mem_of_getElem? hk, rfl⟩, Nat.beq_refl y⟩
      rw [this] at hd; simp at hd
    cases i with
    | zero =>
      cases j with
      | zero => rfl
      | succ j =>
        simp only [List.getElem?_cons_zero, Option.some.injEq] at hi
        simp only [List.getElem?_cons_succ] at hj
        exact (hd0 x hi j hj).elim
    | succ i =>
      cases j with
      | zero =>
        simp only [List.getElem?_cons_zero, Option.some.injEq] at hj
        simp only [List.getElem?_cons_succ] at hi
        exact (hd0 x hj i hi).elim
      | succ j =>
        simp only [List.getElem?_cons_succ] at hi hj
        exact congrArg (· + 1) (distinct_at ids tl i j x hi hj)

theorem IdsOk.len {σ : St} : ∀ (ids : List (Option Nat)) (fs : List (Nat × List AV)), IdsOk σ ids fs → fs.length = ids.length
  | [], _, h => by simp only [IdsOk] at h; subst h; rfl
  | some _ :: ids, _, ⟨q, fs', e, _, h⟩ => by subst e; simp [IdsOk.len ids fs' h]
  | none :: ids, _, ⟨sz, fs', e, h⟩ => by subst e; simp [IdsOk.len ids fs' h]
theorem fsH_at : ∀ (fs : List (Nat × List AV)) (j i : Nat) (q : Nat × List AV), fs[i]? = some q → look (fsH j fs) (fid (j + i)) = some (some ⟨blkOf q, false⟩)
  | [], j, i, q, h => by simp at h
  | (sz, ys) :: fs, j, i, q, h => by
    simp only [fsH, look]
    cases i with
    | zero =>
      simp only [List.getElem?_cons_zero, Option.some.injEq] at h
      subst h
      simp
    | succ i =>
      have hb : Nat.beq (fid j) (fid (j + (i + 1))) = false := by rw [← Bool.not_eq_true, Nat.beq_eq]; unfold fid; omega
      rw [hb]
      have := fsH_at fs (j + 1) i q (by simpa using h)
      rwa [show j + 1 + i = j + (i + 1) by omega] at this
theorem fsH_none : ∀ (fs : List (Nat × List AV)) (j x : Nat), x < fid 0 → look (fsH j fs) x = none
  | [], _, _, _ => rfl
  | (sz, ys) :: fs, j, x, h => by
    simp only [fsH, look]
    have hb : Nat.beq (fid j) x = false := by rw [← Bool.not_eq_true, Nat.beq_eq]; unfold fid at h ⊢; omega
    rw [hb]
    exact fsH_none fs (j + 1) x h

theorem den_ofX (g : Good P T) {f : FuncId} {fn : Func} {c : Code} {ac : ACode} {m : List (Nat × Nat)} {L : Live} {n : Nat} {args rs ms : List AV} {fs : List (Nat × List AV)} (hf : P.funcs[f]? = some fn) (hb : fn.body = some c) (hname : (fn.name == "runtime.NumGoroutine") = false)
    (hn : fn.ntmps = n) (hn2 : Nat.ble n 999999 = true) (hl : Nat.ble args.length n = true) (hstrip : strip m c = ac) (hdst : ac.dstOk n = true)
    (hrun : acode P T L ac (entry args) fun ex σ => (ex = .normal ∨ ex = .ret) ∧ ∃ ids, RetsX T σ 0 fn.results.toList rs ids fs ∧ okIds ids = true ∧ MsX σ (mutIx 0 args) ms) : Den P f args { r := asResult rs, ms := ms, fs := fs } := by
  refine ⟨callable_of hf hb hname, fun ρ0 B0 w cargs hent => ?_⟩
  subst hstrip
  let fr : Fr := ⟨w, B0, fun k => (∃ id b, (entry args).h id = some b ∧ ρ0 id = some k) ∨ w.heap.size ≤ k, ρ0, n⟩
  obtain ⟨hlen, hsl⟩ := entry_slots 0 args cargs hent.slots
  have hle := Nat.le_of_ble_eq_true hl
  have hn9 := Nat.le_of_ble_eq_true hn2
  have hr : RelF fr (entry args) { tmps := cargs.toArray ++ Array.replicate (fn.ntmps - cargs.toArray.size) undef, defers := [] } w := by
    refine ⟨⟨ρ0, ?_, fun t => ?_, fun _ _ _ => rfl⟩, rfl, ?_, Only.refl _ _⟩
    · show HRel ρ0 (entry args).h (fun k => B0 k ∨ (w.heap.size ≤ k ∧ k < w.heap.size)) _ w
      rw [Bself]; exact hent.heap
    · show SlotRel ρ0 (entry args).h (Sof ρ0 (entry args).h (fun k => B0 k ∨ (w.heap.size ≤ k ∧ k < w.heap.size))) w _ _
      rw [Bself]
      obtain ⟨x, e1, e2, _⟩ := hsl t
      have e3 : (entry args).e t = x := e1
      rw [e3]
      have := e2 (Nat.zero_le _)
      rw [Nat.sub_zero] at this
      have e4 : (cargs.toArray ++ Array.replicate (fn.ntmps - cargs.toArray.size) undef).getD t undef = cargs.getD t undef := by
        rw [Array.getD_eq_getD_getElem?, Array.getElem?_append]
        by_cases ht : t < cargs.length
        · simp [ht]
        · simp only [List.size_toArray, ht, if_false]
          rw [List.getD_eq_getElem?_getD, List.getElem?_eq_none (by omega)]
          rw [Array.getElem?_replicate]
          split <;> rfl
      rw [e4]; exact this
    · simp only [Array.size_append, List.size_toArray, Array.size_replicate]
      show cargs.length + (fn.ntmps - cargs.length) = n
      rw [hn, hlen]; omega
  refine calls_of_wp hf hb (wp_mono (acode_sound g hn9 (fun k hk => Or.inr hk) m L c _ _ _ _ hrun hdst hr) ?_)
  rintro ex a' w' ⟨ex', σ', hx, ⟨hex, ids, hrets, hids, hms⟩, hr'⟩
  have fin : a'.defers = [] ∧ ∃ v, (results fn a'.tmps).run P w' = .ok v w' ∧ ∃ v' ρ', Ending.returned v = .returned v' ∧ Out ρ0 B0 w args { r := asResult rs, ms := ms, fs := fs } ρ' w' v' := by
    refine ⟨hr'.defers, ?_⟩
    obtain ⟨ρ, cx, hs, hpid⟩ := hr'.cx g (fun k hk => Or.inr hk)
    have hok := hrets.ids
    have hil := hok.len
    simp only [okIds, Bool.and_eq_true] at hids
    have hidlt : ∀ i x : Nat, ids[i]? = some (some x) → x < 1000000 := by
      intro i x hi
      have := List.all_eq_true.1 hids.2 x (List.mem_filterMap.2 ⟨some x, List.mem_of_getElem? hi, rfl⟩)
      have := Nat.le_of_ble_eq_true this
      omega
    let ψ : Nat → Option Nat := fun x => if fid 0 ≤ x then (ids[x - fid 0]?).join else if pid 0 ≤ x then some x else none
    have ψf : ∀ i, ψ (fid i) = (ids[i]?).join := by
      intro i
      simp only [ψ]
      rw [if_pos (by unfold fid; omega), show fid i - fid 0 = i by unfold fid; omega]
    have ψp : ∀ i ∈ mutIx 0 args, ψ (pid i) = some (pid i) := by
      intro i hi
      have := mutIx_lt 0 args i hi
      simp only [ψ]
      rw [if_neg (by unfold pid fid; omega), if_pos (by unfold pid; omega)]
    have hinj : ∀ x y id, ψ x = some id → ψ y = some id → x = y := by
      intro x y id hx hy
      have h1 : ∀ z, ψ z = some id → (fid 0 ≤ z ∧ ids[z - fid 0]? = some (some id)) ∨ (z = id ∧ pid 0 ≤ id ∧ z < fid 0) := by
        intro z hz
        simp only [ψ] at hz
        split at hz
        · rename_i h0
          refine .inl ⟨h0, ?_⟩
          cases e : ids[z - fid 0]? with
          | none => rw [e] at hz; cases hz
          | some o => rw [e] at hz; simp at hz; rw [hz]
        · rename_i h0
          split at hz
          · simp at hz; subst hz; exact .inr ⟨rfl, by assumption, by omega⟩
          · cases hz
      rcases h1 x hx with ⟨a1, a2⟩ | ⟨a1, a2, a3⟩ <;> rcases h1 y hy with ⟨b1, b2⟩ | ⟨b1, b2, b3⟩
      · have := distinct_at ids hids.1 _ _ _ a2 b2
        omega
      · have := hidlt _ _ a2; unfold pid at b2; omega
      · have := hidlt _ _ b2; unfold pid at a2; omega
      · omega
    have hpick : ∀ x b, (RV.H { r := asResult rs, ms := ms, fs := fs } args) x = some b → (∃ id, ψ x = some id ∧ σ'.h id = some ⟨b.c, false⟩) ∨ (ψ x = none ∧ ∃ sz, b.c = .row sz []) := by
      intro x b hx
      simp only [RV.H, look_append] at hx
      cases e : look (msH (mutIx 0 args) ms) x with
      | some b0 =>
        rw [e] at hx
        simp at hx
        subst hx
        obtain ⟨i, h1, rfl, h3⟩ := msH_at _ _ hms x _ e
        obtain ⟨c0, hc0⟩ : ∃ c, b = ⟨c, false⟩ := by
          have : ∀ (is : List Nat) (ms : List AV), look (msH is ms) (pid i) = some (some b) → ∃ c, b = ⟨c, false⟩ := by
            intro is
            induction is with
            | nil => intro ms h; simp [msH, look] at h
            | cons i0 is ih =>
              intro ms h
              cases ms with
              | nil => simp [msH, look] at h
              | cons c cs =>
                simp only [msH, look] at h
                split at h
                · simp at h; exact ⟨c, h.symm⟩
                · exact ih cs h
          exact this _ _ e
        exact .inl ⟨pid i, ψp i h1, by rw [h3, hc0]⟩
      | none =>
        rw [e] at hx
        simp only [Option.none_or] at hx
        cases e2 : look (fsH 0 fs) x with
        | none => rw [e2] at hx; cases hx
        | some b0 =>
          rw [e2] at hx
          simp only [Option.getD_some] at hx
          subst hx
          have hxf : fid 0 ≤ x := by
            rcases Nat.lt_or_ge x (fid 0) with h | h
            · rw [fsH_none _ _ _ h] at e2; cases e2
            · exact h
          obtain ⟨i, rfl⟩ : ∃ i, x = fid i := ⟨x - 2000000, by unfold fid at hxf ⊢; omega⟩
          rcases IdsOk.at_ ids fs hok 0 i (some b) (by rw [Nat.zero_add]; exact e2) with ⟨id, q, h1, h2, h3⟩ | ⟨sz, h1, h2⟩
          · simp only [Option.some.injEq] at h2
            subst h2
            exact .inl ⟨id, by rw [ψf, h1]; rfl, h3⟩
          · simp only [Option.some.injEq] at h2
            subst h2
            exact .inr ⟨by rw [ψf, h1]; rfl, sz, rfl⟩
    obtain ⟨hheap, hS⟩ := HRel.pick cx.hr hinj hpick
    obtain ⟨vs, h1, h2⟩ := retsX_run cx hs (ρ' := fun x => (ψ x).bind ρ) (Hc := RV.H { r := asResult rs, ms := ms, fs := fs } args) hS (f := retSem a') (fun _ => rfl) (fun _ _ => rfl) _ 0 rs ids fs hrets fun i o q ho hq => by
        rw [Nat.zero_add]
        refine ⟨?_, by rw [ψf, ho]; rfl⟩
        simp only [RV.H, look_append]
        have hnone : look (msH (mutIx 0 args) ms) (fid i) = none := by
          cases e : look (msH (mutIx 0 args) ms) (fid i) with
          | none => rfl
          | some b0 =>
            obtain ⟨j, g1, g2, _⟩ := msH_at _ _ hms _ _ e
            have := mutIx_lt 0 args j g1
            unfold fid pid at g2; omega
        have h3 := fsH_at fs 0 i q hq
        rw [Nat.zero_add] at h3
        rw [hnone, h3]; rfl
    obtain ⟨v, h3, h4⟩ := as_result (fn := fn) h1 h2
    refine ⟨v, h3, v, _, rfl, hheap, h4, hr'.only, fun i b hb => ?_⟩
    have hmem : ∃ j ∈ mutIx 0 args, pid i = pid j := by
      have hb' : (look (entryH 0 args) (pid i)).getD none = some b := hb
      cases e : look (entryH 0 args) (pid i) with
      | none => rw [e] at hb'; cases hb'
      | some x => exact entryH_mem 0 args _ _ e
    obtain ⟨j, hj, hij⟩ := hmem
    obtain ⟨b', hb'⟩ := hms.has _ _ j hj
    rw [hij]
    simp only [ψp j hj, Option.bind_some]
    exact hpid j b' hb'
  rcases hex with rfl | rfl <;> cases ex <;> simp only [Xr] at hx <;> try exact hx.elim
  · exact fin
  · exact fin

end
end Go.Abs
/- Rules for abstract runs, and typed data: for every program. -/
namespace Go.Abs
section
variable {P : Program} {T : Tys} {L : Live} {σ σ' : St} {Q : AEx → St → Prop} {K : St → Prop}

/-! ## Rules -/
theorem a_seq {a b : ACode} (h : acode P T L a σ (thenK (fun σ' => acode P T L b (keepFor L b σ') Q) Q)) : acode P T L (.seq a b) σ Q := h
theorem a_region {id : Nat} {ops : List AOper} (h : aops P T ops σ (Q .normal)) : acode P T L (.region id ops false) σ Q := h
theorem a_draw {id : Nat} {ops : List AOper} (ts : List Tk) (hd : okDraw ops ts = true) (h : aopsT P T ops ts σ (Q .normal)) : acode P T L (.region id ops true) σ Q := ⟨ts, hd, h⟩
theorem d_nil (h : K σ) : aopsT P T [] [] σ K := h
/-- One operation of a region whose order is drawn. -/
theorem d_cons {o : AOper} {os : List AOper} {t : Tk} {ts : List Tk} (h : aops P T [o] σ (fun σ' => tok T o σ σ' t = true ∧ aopsT P T os ts σ' K)) : aopsT P T (o :: os) (t :: ts) σ K := h
theorem d_next {o : AOper} {os : List AOper} {t : Tk} {ts : List Tk} {σ0 : St} (e : tok T o σ0 σ t = true) (h : aopsT P T os ts σ K) : aops P T [] σ (fun σ' => tok T o σ0 σ' t = true ∧ aopsT P T os ts σ' K) := ⟨e, h⟩
theorem a_block {id : Nat} {a : ACode} (h : acode P T L a σ (blockK id Q)) : acode P T L (.block id a) σ Q := h
theorem a_skip (h : Q .normal σ) : acode P T L .skip σ Q := h
theorem a_ret (h : Q .ret σ) : acode P T L .ret σ Q := h
theorem a_exit {id : Nat} (h : Q (.exit id) σ) : acode P T L (.exit id) σ Q := h
theorem a_nil (h : K σ) : aops P T [] σ K := h
/-- On to the second part, in a state told anew. -/
theorem a_next {b : ACode} (e : keepFor L b σ = σ') (h : acode P T L b σ' Q) : thenK (fun σ' => acode P T L b (keepFor L b σ') Q) Q .normal σ := by
  show acode P T L b (keepFor L b σ) Q
  rw [e]; exact h
theorem a_cond_t {c : Operand} {x y : ACode} (hc : opdA σ.e c = .bool true) (ht : acode P T L x σ Q) : acode P T L (.cond c x y) σ Q := by
  simp only [acode, hc]; exact ht
theorem a_cond_f {c : Operand} {x y : ACode} (hc : opdA σ.e c = .bool false) (ht : acode P T L y σ Q) : acode P T L (.cond c x y) σ Q := by
  simp only [acode, hc]; exact ht

theorem a_val {d : Option Nat} {op : AO} {af : List Nat} {os : List AOper} {v : AV} {u : Upd} {C : Prop} (h : (aop T (d.getD 0) (opdA σ.e) op).run σ.h = .val v u C) (hC : C) (hk : okNew σ u = true) (k : aops P T os ((σ.upd u).put d v) K) :
    aops P T (⟨d, op, none, af⟩ :: os) σ K := by
  simp only [aops, astep]
  rw [h]; exact ⟨hC, hk, k⟩
/-- A value told in another spelling. -/
theorem a_val' {d : Option Nat} {op : AO} {af : List Nat} {os : List AOper} {v v' : AV} {u u' : Upd} {C : Prop} (h : (aop T (d.getD 0) (opdA σ.e) op).run σ.h = .val v u C) (hv : v = v') (hu : u = u') (hC : C) (hk : okNew σ u' = true) (k : aops P T os ((σ.upd u').put d v') K) :
    aops P T (⟨d, op, none, af⟩ :: os) σ K := by
  subst hv; subst hu; exact a_val h hC hk k
theorem a_gval {d : Option Nat} {op : AO} {g : Nat} {b : Bool} {af : List Nat} {os : List AOper} {v : AV} {u : Upd} {C : Prop} (hg : σ.e g = .bool b) (h : (aop T (d.getD 0) (opdA σ.e) op).run σ.h = .val v u C) (hC : C) (hk : okNew σ u = true) (k : aops P T os ((σ.upd u).put d v) K) :
    aops P T (⟨d, op, some (g, b), af⟩ :: os) σ K := by
  simp only [aops, astep, hg, if_true]
  rw [h]; exact ⟨hC, hk, k⟩
theorem a_gskip {d : Option Nat} {op : AO} {g : Nat} {b : Bool} {af : List Nat} {os : List AOper} (hg : σ.e g = .bool (!b)) (k : aops P T os (σ.put d (.tuple [])) K) : aops P T (⟨d, op, some (g, b), af⟩ :: os) σ K := by
  simp only [aops, astep, hg]
  cases b
  · exact k
  · exact k
theorem ev_call0 {o : AOper} {f : FuncId} {args : List AV} {u : Upd} {r : AV} (hc : isCall o.op = true) (hm : mutIx 0 args = []) (den : Den P f args { r := r }) (hr : okRess 0 r = true) (k : K ((σ.upd u).put o.dst r)) : ev P σ o K (.call f args u [] True) := by
  refine ⟨trivial, hc, { r := r }, u, den, ⟨hr, rfl, rfl, .inl ⟨rfl, hm, rfl, .inl rfl⟩⟩, ?_⟩
  rw [ren_ok hr]
  exact k
theorem a_call {d : Option Nat} {m : Nat} {fo : Operand} {xs : List Operand} {af : List Nat} {os : List AOper} {f : FuncId} {args : List AV} {u : Upd} {r : AV} (h : (aop T (d.getD 0) (opdA σ.e) (.call m fo xs)).run σ.h = .call f args u [] True)
    (hm : mutIx 0 args = []) (den : Den P f args { r := r }) (hr : okRess 0 r = true) (k : aops P T os ((σ.upd u).put d r) K) : aops P T (⟨d, .call m fo xs, none, af⟩ :: os) σ K := by
  simp only [aops, astep]
  rw [h]; exact ev_call0 rfl hm den hr k
theorem a_gcall {d : Option Nat} {m g : Nat} {b : Bool} {fo : Operand} {xs : List Operand} {af : List Nat} {os : List AOper} {f : FuncId} {args : List AV} {u : Upd} {r : AV} (hg : σ.e g = .bool b) (h : (aop T (d.getD 0) (opdA σ.e) (.call m fo xs)).run σ.h = .call f args u [] True)
    (hm : mutIx 0 args = []) (den : Den P f args { r := r }) (hr : okRess 0 r = true) (k : aops P T os ((σ.upd u).put d r) K) : aops P T (⟨d, .call m fo xs, some (g, b), af⟩ :: os) σ K := by
  simp only [aops, astep, hg, if_true]
  rw [h]; exact ev_call0 rfl hm den hr k
/-- A call that hands back slices in new memory, and lends what it is handed (u2 = []) or keeps it. -/
theorem a_callF {d : Option Nat} {m : Nat} {fo : Operand} {xs : List Operand} {af : List Nat} {os : List AOper} {f : FuncId} {args : List AV} {u u2 : Upd} {r r' : AV} {fs : List (Nat × List AV)} (h : (aop T (d.getD 0) (opdA σ.e) (.call m fo xs)).run σ.h = .call f args u [] True)
    (hm : mutIx 0 args = []) (den : Den P f args { r := r, fs := fs }) (hr : okRess fs.length r = true) (hl : Nat.ble fs.length 100 = true) (hf : okFresh σ (fsU (d.getD 0) 0 fs) = true) (h2 : u2 = u ∨ (u2 = [] ∧ (u.all fun q => (fsU (d.getD 0) 0 fs).all fun q' => !(Nat.beq q.1 q'.1)) = true ∧ NoRef r ∧ ∀ q ∈ fs, NoRefs q.2)) (hr' : ren (d.getD 0) r = r')
    (k : aops P T os ((σ.upd (fsU (d.getD 0) 0 fs ++ u2)).put d r') K) : aops P T (⟨d, .call m fo xs, none, af⟩ :: os) σ K := by
  simp only [aops, astep]
  rw [h]
  subst hr'
  exact ⟨trivial, rfl, { r := r, fs := fs }, u2, den, ⟨hr, hl, hf, .inl ⟨rfl, hm, rfl, h2⟩⟩, k⟩
/-- A call that is lent what it is handed. -/
theorem a_callB {d : Option Nat} {m : Nat} {fo : Operand} {xs : List Operand} {af : List Nat} {os : List AOper} {f : FuncId} {args : List AV} {u : Upd} {r : AV} (h : (aop T (d.getD 0) (opdA σ.e) (.call m fo xs)).run σ.h = .call f args u [] True)
    (hm : mutIx 0 args = []) (den : Den P f args { r := r }) (hr : okRess 0 r = true) (hn : NoRef r) (k : aops P T os (σ.put d r) K) : aops P T (⟨d, .call m fo xs, none, af⟩ :: os) σ K := by
  simp only [aops, astep]
  rw [h]
  refine ⟨trivial, rfl, { r := r }, [], den, ⟨hr, rfl, rfl, .inl ⟨rfl, hm, rfl, .inr ⟨rfl, by simp [fsU], hn, by simp⟩⟩⟩, ?_⟩
  rw [ren_ok hr]
  exact k
/-- A call that writes one of the blocks. -/
theorem a_callM {d : Option Nat} {m : Nat} {fo : Operand} {xs : List Operand} {af : List Nat} {os : List AOper} {f : FuncId} {args : List AV} {i id : Nat} {r c : AV} (h : (aop T (d.getD 0) (opdA σ.e) (.call m fo xs)).run σ.h = .call f args [] [(i, id)] True)
    (hm : mutIx 0 args = [i]) (den : Den P f args { r := r, ms := [c] }) (hr : okRess 0 r = true) (hs : sameShape (nth args i) c) (k : aops P T os ((σ.upd [(id, some ⟨c, false⟩)]).put d r) K) : aops P T (⟨d, .call m fo xs, none, af⟩ :: os) σ K := by
  simp only [aops, astep]
  rw [h]
  refine ⟨trivial, rfl, { r := r, ms := [c] }, [], den, ⟨hr, rfl, rfl, .inr (.inl ⟨i, id, c, rfl, rfl, rfl, hm, rfl, rfl, hs⟩)⟩, ?_⟩
  rw [ren_ok hr]
  exact k
/-- A call to which one of the blocks is given up. -/
theorem a_callG {d : Option Nat} {m : Nat} {fo : Operand} {xs : List Operand} {af : List Nat} {os : List AOper} {f : FuncId} {args : List AV} {i id : Nat} {r : AV} (h : (aop T (d.getD 0) (opdA σ.e) (.call m fo xs)).run σ.h = .call f args [] [(i, id)] True)
    (hm : mutIx 0 args = [i]) (den : Den P f args { r := r }) (hr : okRess 0 r = true) (k : aops P T os ((σ.upd [(id, none)]).put d r) K) : aops P T (⟨d, .call m fo xs, none, af⟩ :: os) σ K := by
  simp only [aops, astep]
  rw [h]
  refine ⟨trivial, rfl, { r := r }, [(id, none)], den, ⟨hr, rfl, rfl, .inr (.inr ⟨i, id, rfl, rfl, rfl, hm, rfl, .inl rfl⟩)⟩, ?_⟩
  rw [ren_ok hr]
  exact k
/-- An argument is given up, and the results lie in new memory, or there. -/
theorem a_callGF {d : Option Nat} {m : Nat} {fo : Operand} {xs : List Operand} {af : List Nat} {os : List AOper} {f : FuncId} {args : List AV} {i id : Nat} {r : AV} {fs : List (Nat × List AV)} (h : (aop T (d.getD 0) (opdA σ.e) (.call m fo xs)).run σ.h = .call f args [] [(i, id)] True)
    (hm : mutIx 0 args = [i]) (den : Den P f args { r := r, fs := fs }) (hr : okRess fs.length r = true) (hl : Nat.ble fs.length 100 = true) (hf : okFresh σ (fsU (d.getD 0) 0 fs) = true) (hi : Nat.ble i 999999 = true)
    (k : aops P T os ((σ.upd (fsU (d.getD 0) 0 fs ++ [(id, none)])).put d (ren (d.getD 0) r)) K) : aops P T (⟨d, .call m fo xs, none, af⟩ :: os) σ K := by
  simp only [aops, astep]
  rw [h]
  exact ⟨trivial, rfl, { r := r, fs := fs }, [(id, none)], den, ⟨hr, hl, hf, .inr (.inr ⟨i, id, rfl, rfl, rfl, hm, rfl, .inr hi⟩)⟩, k⟩
/-- Nobody can tell which: both ways. -/
theorem a_split {d : Option Nat} {op : AO} {af : List Nat} {os : List AOper} {v v' : AV} {c : Prop} (h : (aop T (d.getD 0) (opdA σ.e) op).run σ.h = .split c v v') (hb : isBin op = true) (k : c → aops P T os (σ.put d v) K) (k' : aops P T os (σ.put d v') K) : aops P T (⟨d, op, none, af⟩ :: os) σ K := by
  simp only [aops, astep]
  rw [h]; exact ⟨hb, k, k'⟩
/-- What changes no memory. -/
theorem a_pure {d : Option Nat} {op : AO} {af : List Nat} {os : List AOper} {v : AV} (h : (aop T (d.getD 0) (opdA σ.e) op).run σ.h = .val v [] True) (k : aops P T os (σ.put d v) K) : aops P T (⟨d, op, none, af⟩ :: os) σ K :=
  a_val h trivial rfl k
theorem a_pureC {d : Option Nat} {op : AO} {af : List Nat} {os : List AOper} {v : AV} {C : Prop} (h : (aop T (d.getD 0) (opdA σ.e) op).run σ.h = .val v [] C) (hC : C) (k : aops P T os (σ.put d v) K) : aops P T (⟨d, op, none, af⟩ :: os) σ K :=
  a_val h hC rfl k
theorem a_gpure {d : Option Nat} {op : AO} {g : Nat} {b : Bool} {af : List Nat} {os : List AOper} {v : AV} {C : Prop} (hg : σ.e g = .bool b) (h : (aop T (d.getD 0) (opdA σ.e) op).run σ.h = .val v [] C) (hC : C) (k : aops P T os (σ.put d v) K) :
    aops P T (⟨d, op, some (g, b), af⟩ :: os) σ K :=
  a_gval hg h hC rfl k
theorem a_st {c : ACode} (e : σ = σ') (h : acode P T L c σ' Q) : acode P T L c σ Q := by rw [e]; exact h

theorem ev_mono {K K' : St → Prop} (h : ∀ σ, K σ → K' σ) {o : AOper} {σ : St} {E : Ev} (hE : ev P σ o K E) : ev P σ o K' E := by
  cases E with
  | bad => exact hE
  | split c v v' => exact ⟨hE.1, fun hc => h _ (hE.2.1 hc), h _ hE.2.2⟩
  | val v u C => exact ⟨hE.1, hE.2.1, h _ hE.2.2⟩
  | call f args u ms C =>
    obtain ⟨h1, h2, r, u2, h5, h6, h9⟩ := hE
    exact ⟨h1, h2, r, u2, h5, h6, h _ h9⟩
theorem astep_mono {K K' : St → Prop} (h : ∀ σ, K σ → K' σ) {o : AOper} {σ : St} (x : astep P T o σ K) : astep P T o σ K' := by
  unfold astep at x ⊢
  split at x
  · exact ev_mono h x
  · split at x
    · split at x
      · rename_i hb; rw [if_pos hb]; exact ev_mono h x
      · rename_i hb; rw [if_neg hb]; exact h _ x
    · exact h _ x
    · exact x
theorem aopsT_mono {K K' : St → Prop} (h : ∀ σ, K σ → K' σ) : ∀ (os : List AOper) (ts : List Tk) (σ : St), aopsT P T os ts σ K → aopsT P T os ts σ K'
  | [], [], σ, x => h σ x
  | o :: os, t :: ts, σ, x => astep_mono (K := fun σ' => tok T o σ σ' t = true ∧ aopsT P T os ts σ' K) (fun σ' y => ⟨y.1, aopsT_mono h os ts σ' y.2⟩) x
  | [], _ :: _, _, x => x.elim
  | _ :: _, [], _, x => x.elim
theorem acode_mono : ∀ (c : ACode) (σ : St) {Q Q' : AEx → St → Prop}, (∀ ex σ, Q ex σ → Q' ex σ) → acode P T L c σ Q → acode P T L c σ Q'
  | .skip, σ, _, _, h, x => h _ _ x
  | .region _ ops false, σ, _, _, h, x => aops_mono (fun σ' y => h .normal _ y) _ _ x
  | .region _ ops true, σ, _, _, h, ⟨ts, hd, x⟩ => ⟨ts, hd, aopsT_mono (fun σ' y => h .normal _ y) _ _ _ x⟩
  | .seq a b, σ, Q, Q', h, x => acode_mono a σ (fun ex σ' hx => by
      cases ex
      · exact acode_mono b _ h hx
      · exact h _ _ hx
      · exact h _ _ hx) x
  | .cond c a b, σ, _, _, h, x => by
    simp only [acode] at x ⊢
    split at x
    · exact acode_mono a σ h x
    · exact acode_mono b σ h x
    · exact x
  | .block id a, σ, Q, Q', h, x => acode_mono a σ (fun ex σ' hx => by
      cases ex
      · exact h _ _ hx
      · simp only [blockK] at hx ⊢
        split at hx
        · rename_i hb; rw [if_pos hb]; exact h _ _ hx
        · rename_i hb; rw [if_neg hb]; exact h _ _ hx
      · exact h _ _ hx) x
  | .loop a, σ, Q, Q', h, x => fun X hX => x X fun σ' hb => hX σ' (acode_mono a σ' (fun ex σ'' hx => by
      cases ex
      · exact hx
      · exact h _ _ hx
      · exact h _ _ hx) hb)
  | .exit _, σ, _, _, h, x => h _ _ x
  | .ret, σ, _, _, h, x => h _ _ x
  | .other, _, _, _, _, x => x

/-- Ways that meet again. -/
theorem a_join {ι : Type} {a b : ACode} (emb : ι → St) (pre : ι → Prop) (hb : ∀ x, pre x → acode P T L b (emb x) Q) (ha : acode P T L a σ (thenK (fun σ' => ∃ x, pre x ∧ keepFor L b σ' = emb x) Q)) : acode P T L (.seq a b) σ Q := by
  refine acode_mono a σ (fun ex σ' hx => ?_) ha
  cases ex
  · obtain ⟨x, hp, e⟩ := hx
    show acode P T L b (keepFor L b σ') Q
    rw [e]; exact hb x hp
  · exact hx
  · exact hx

/-! ## Loops -/
/-- The least function that goes round and round. -/
inductive Goes {α β : Type} (body : α → Option (α ⊕ β)) : α → β → Prop
  | stop {s : α} {r : β} : body s = some (.inr r) → Goes body s r
  | round {s s' : α} {r : β} : body s = some (.inl s') → Goes body s' r → Goes body s r

open Classical in
noncomputable def loopM {α β : Type} (body : α → Option (α ⊕ β)) (s : α) : Option β :=
  if h : ∃ r, Goes body s r then some (Classical.choose h) else none

theorem Goes.unique {α β : Type} {body : α → Option (α ⊕ β)} {s : α} {r r' : β} (h : Goes body s r) (h' : Goes body s r') : r = r' := by
  induction h with
  | stop h =>
    cases h' with
    | stop h2 => rw [h] at h2; cases h2; rfl
    | round h2 _ => rw [h] at h2; cases h2
  | round h _ ih =>
    cases h' with
    | stop h2 => rw [h] at h2; cases h2
    | round h2 g2 => rw [h] at h2; cases h2; exact ih g2

theorem loopM_iff {α β : Type} {body : α → Option (α ⊕ β)} {s : α} {r : β} : loopM body s = some r ↔ Goes body s r := by
  unfold loopM
  constructor
  · intro h
    split at h
    · rename_i hx
      simp only [Option.some.injEq] at h
      rw [← h]; exact Classical.choose_spec hx
    · cases h
  · intro h
    have hx : ∃ r, Goes body s r := ⟨r, h⟩
    rw [dif_pos hx]
    exact congrArg some ((Classical.choose_spec hx).unique h)

/-- One round. -/
theorem loopM_eq {α β : Type} (body : α → Option (α ⊕ β)) (s : α) : loopM body s = (body s).bind fun x => match x with
    | .inl s' => loopM body s'
    | .inr r => some r := by
  apply Option.ext
  intro r
  rw [loopM_iff]
  constructor
  · intro h
    cases h with
    | stop h => simp [h]
    | round h g => simp [h, loopM_iff.2 g]
  · intro h
    cases hb : body s with
    | none => rw [hb] at h; simp at h
    | some x =>
      rw [hb] at h
      cases x with
      | inl s' => simp only [Option.bind_some] at h; exact .round hb (loopM_iff.1 h)
      | inr r' => simp only [Option.bind_some, Option.some.injEq] at h; subst h; exact .stop hb

/-- A loop in the program against a loop of plain data. -/
theorem a_loop {α β : Type} {a : ACode} {emb : α → St} {body : α → Option (α ⊕ β)} {s : α} {r : β} {G : β → Prop} (h : loopM body s = some r) (hG : G r)
    (hstep : ∀ (X : St → Prop) (s : α) (x : α ⊕ β), body s = some x → (match x with | .inl s' => X (emb s') | .inr r => G r) → acode P T L a (emb s) (thenK (fun σ => X (keepFor L a σ)) Q)) (hs : keepFor L a σ = emb s) : acode P T L (.loop a) σ Q := by
  intro X hX
  rw [hs]
  rw [loopM_iff] at h
  clear hs
  induction h with
  | stop h => exact hX _ (hstep X _ _ h hG)
  | round h _ ih => exact hX _ (hstep X _ _ h (ih hG))
theorem a_again {a : ACode} {X : St → Prop} {Q : AEx → St → Prop} (e : keepFor L a σ = σ') (h : X σ') : thenK (fun σ => X (keepFor L a σ)) Q .normal σ := by
  show X (keepFor L a σ)
  rw [e]; exact h

/-! ## Plain programs -/
def ifp {α : Type} (c : Prop) [Decidable c] (x : Option α) : Option α := if c then x else none
theorem ifp_some {α : Type} {c : Prop} [Decidable c] {x : Option α} {r : α} (h : ifp c x = some r) : c ∧ x = some r := by
  unfold ifp at h
  split at h
  · rename_i hc; exact ⟨hc, h⟩
  · cases h
theorem ifp_pos {α : Type} {c : Prop} [Decidable c] (hc : c) (x : Option α) : ifp c x = x := if_pos hc
open Classical in
noncomputable def ifc {α : Type} (c : Prop) (x : Option α) : Option α := if c then x else none
theorem ifc_some {α : Type} {c : Prop} {x : Option α} {r : α} (h : ifc c x = some r) : c ∧ x = some r := by
  unfold ifc at h
  split at h
  · rename_i hc; exact ⟨hc, h⟩
  · cases h
theorem ifc_pos {α : Type} {c : Prop} (hc : c) (x : Option α) : ifc c x = x := if_pos hc
theorem bind_some {α β : Type} {x : Option α} {f : α → Option β} {r : β} (h : x.bind f = some r) : ∃ a, x = some a ∧ f a = some r := by
  cases x with
  | none => cases h
  | some a => exact ⟨a, rfl, h⟩
theorem map_some {α β : Type} {x : Option α} {f : α → β} {r : β} (h : x.map f = some r) : ∃ a, x = some a ∧ f a = r := by
  cases x with
  | none => cases h
  | some a => exact ⟨a, rfl, by simpa using h⟩
theorem ite_t {α : Type} {b : Bool} {x y z : α} (hb : b = true) (h : (if b then x else y) = z) : x = z := by subst hb; exact h
theorem ite_f {α : Type} {b : Bool} {x y z : α} (hb : b = false) (h : (if b then x else y) = z) : y = z := by subst hb; exact h

abbrev Vec (α : Type) (n : Nat) := { l : List α // l.length = n }
def vset {α : Type} {n : Nat} (v : Vec α n) (j : Nat) (x : α) : Vec α n := ⟨v.1.set j x, by simp [v.2]⟩
def rd {α : Type} [Inhabited α] (l : List α) (j : Nat) : α := l.getD j default
instance {α : Type} [Inhabited α] {n : Nat} : Inhabited (Vec α n) := ⟨⟨List.replicate n default, by simp⟩⟩

theorem nth_map {α : Type} [Inhabited α] (f : α → AV) (l : List α) (j : Nat) (h : j < l.length) : nth (l.map f) j = f (rd l j) := by
  simp [nth, rd, h]

end
end Go.Abs
/- Helps for printed proofs: loads and stores along paths in typed data, ends of code, arguments. For every program. -/
namespace Go.Abs
section
variable {P : Program} {T : Tys} {L : Live} {σ σ' : St} {Q : AEx → St → Prop} {K : St → Prop}

/-! ## Arguments -/
inductive ArgLe : AV → AV → Prop
  | refl (a : AV) : ArgLe a a
  | loose (a : AV) : ArgLe a (Abs.loose a)
  | nil (s s' : Nat) (t t' : Bool) (h : t' = true → t = true) : ArgLe (.sl s t []) (.sl s' t' [])
inductive ArgsLe : List AV → List AV → Prop
  | nil : ArgsLe [] []
  | cons {a b : AV} {as bs : List AV} (h : ArgLe a b) (t : ArgsLe as bs) : ArgsLe (a :: as) (b :: bs)

theorem ArgLe.slot {ρ : Nat → Option Nat} {H : Hp} {S : Nat → Prop} {w : World} {a b : AV} (h : ArgLe a b) {v : Value} (hs : SlotRel ρ H S w a v) : SlotRel ρ H S w b v := by
  cases h with
  | refl => exact hs
  | loose => exact loose_slot hs
  | nil s s' t t' h =>
    obtain ⟨a, cap, e, l, t, r⟩ := hs
    exact ⟨a, cap, e, l, fun q => t (h q), .inl rfl⟩
theorem ArgsLe.slots {ρ : Nat → Option Nat} {H : Hp} {S : Nat → Prop} {w : World} {as bs : List AV} (h : ArgsLe as bs) : ∀ {vs : List Value}, SlotsRel ρ H S w as vs → SlotsRel ρ H S w bs vs := by
  induction h with
  | nil => intro vs hs; exact hs
  | cons h _ ih => rintro vs ⟨v, rest, e, h1, h2⟩; exact ⟨v, rest, e, h.slot h1, ih h2⟩

theorem Den.args {f : FuncId} {args args' : List AV} {r : RV} (h : Den P f args' r) (m : mutIx 0 args = []) (m' : mutIx 0 args' = []) (l : ArgsLe args args') : Den P f args r := by
  have n1 := mutIx_nil 0 _ m
  have n2 := mutIx_nil 0 _ m'
  have e1 : (entry args).h = fun _ => none := by
    funext id
    show (look (entryH 0 args) id).getD none = none
    rw [entryH_nil 0 _ n1]; rfl
  have e2 : (entry args').h = fun _ => none := by
    funext id
    show (look (entryH 0 args') id).getD none = none
    rw [entryH_nil 0 _ n2]; rfl
  have e3 : r.H args = r.H args' := by
    funext id
    simp only [RV.H, m, m']
  refine ⟨h.1, fun ρ0 B0 w cargs hent => ?_⟩
  have hent' : Entry ρ0 B0 w args' cargs := by
    obtain ⟨a, b⟩ := hent
    rw [entryEnv_map 0 _ n1] at b
    rw [e1] at a b
    refine ⟨by rw [e2]; exact a, ?_⟩
    rw [entryEnv_map 0 _ n2, e2]
    exact l.slots b
  have := h.2 ρ0 B0 w cargs hent'
  refine this.mono ?_
  rintro e w' ⟨v, ρ', rfl, a, b, c, d⟩
  rw [e2] at a c d
  rw [← e3] at a b
  exact ⟨v, ρ', rfl, by rw [e1]; exact a, b, by rw [e1]; exact c, by rw [e1]; exact d⟩

/-! ## Ends -/
theorem t_exit {id : Nat} {nb : St → Prop} (h : Q (.exit id) σ) : thenK nb Q (.exit id) σ := h
theorem t_ret {nb : St → Prop} (h : Q .ret σ) : thenK nb Q .ret σ := h
theorem b_norm {id : Nat} (h : Q .normal σ) : blockK id Q .normal σ := h
theorem b_ret {id : Nat} (h : Q .ret σ) : blockK id Q .ret σ := h
theorem b_exit {id : Nat} (h : Q .normal σ) : blockK id Q (.exit id) σ := by simp only [blockK, if_true]; exact h
theorem b_other {id id' : Nat} (hne : (Nat.beq id' id) = false) (h : Q (.exit id') σ) : blockK id Q (.exit id') σ := by
  have : ¬ id' = id := by intro e; subst e; simp [Nat.beq_refl] at hne
  simp only [blockK, if_neg this]; exact h
theorem j_leaf {ι : Type} {b : ACode} {emb : ι → St} {pre : ι → Prop} (x : ι) (hp : pre x) (e : keepFor L b σ = emb x) : thenK (fun σ' => ∃ x, pre x ∧ keepFor L b σ' = emb x) Q .normal σ := ⟨x, hp, e⟩

/-! ## Names -/
def letp {α β : Type} (e : α) (f : α → β) : β := f e
theorem letp_some {α β : Type} {e : α} {f : α → Option β} {r : β} (h : letp e f = some r) : ∃ x, e = x ∧ f x = some r := ⟨e, rfl, h⟩

/-! ## Loads and stores along paths -/
structure LdOk (p : List Nat) (c : AV) (o : List Nat) (sz : Nat) (agg : Bool) (v : AV) : Prop where
  has : hasP p c
  off : offs p c = o
  size : szAt p c = sz
  agg' : (atP p c).isAgg = agg
  plain : (atP p c).plain = true
  eq : atP p c = v
theorem LdOk.c {p : List Nat} {c : AV} {o : List Nat} {sz : Nat} {agg : Bool} {v : AV} (h : LdOk p c o sz agg v) : hasP p c ∧ offs p c = o ∧ szAt p c = sz ∧ (atP p c).isAgg = agg ∧ (atP p c).plain = true := ⟨h.has, h.off, h.size, h.agg', h.plain⟩
theorem LdOk.nil {c : AV} {sz : Nat} {agg : Bool} (h1 : c.size = sz) (h2 : c.isAgg = agg) (h3 : c.plain = true) : LdOk [] c [] sz agg c := ⟨trivial, rfl, h1, h2, h3, rfl⟩

theorem szAt_cons {j : Nat} {p : List Nat} (c : AV) (h : szAt p (nth (kids c) j) = kidSz c j ∨ p ≠ []) : szAt (j :: p) c = szAt p (nth (kids c) j) := by
  cases p with
  | nil =>
    rcases h with h | h
    · simp only [szAt]; exact h.symm
    · exact absurd rfl h
  | cons q p => rfl

/-- One step down. The part has the size that its place has. -/
theorem LdOk.step {j : Nat} {p : List Nat} {c k : AV} {o : List Nat} {of sz : Nat} {agg : Bool} {v : AV} (hk : j < (kids c).length) (e : nth (kids c) j = k) (ho : kidOff c j = of) (hs : kidSz c j = k.size) (h : LdOk p k o sz agg v) : LdOk (j :: p) c (of :: o) sz agg v := by
  subst e
  refine ⟨⟨hk, h.has⟩, by simp only [offs, ho, h.off], ?_, h.agg', h.plain, h.eq⟩
  rw [szAt_cons]
  · exact h.size
  · cases p with
    | nil => left; simp only [szAt]; exact hs.symm
    | cons => right; simp

theorem vlt {α : Type} {n : Nat} (x : Vec α n) {j : Int} (h : 0 ≤ j ∧ j < (n : Int)) : j.toNat < x.1.length := by rw [x.2]; omega
theorem llt {α : Type} {x : List α} {j : Int} (h : 0 ≤ j ∧ j < (x.length : Int)) : j.toNat < x.length := by omega
theorem lmap {α : Type} {x : List α} {f : α → AV} {j : Int} (h : 0 ≤ j ∧ j < (x.length : Int)) : 0 ≤ j ∧ j < ((x.map f).length : Int) := by rw [List.length_map]; exact h

/-- A part of an array, or of a slice's row. -/
theorem LdOk.arr {α : Type} [Inhabited α] {f : α → AV} {l : List α} {s n j : Nat} {p o : List Nat} {sz : Nat} {agg : Bool} {v : AV} (hj : j < l.length) (hs : (f (rd l j)).size = s) (h : LdOk p (f (rd l j)) o sz agg v) : LdOk (j :: p) (.arr s n (l.map f)) (j * s :: o) sz agg v :=
  LdOk.step (by simpa [kids] using hj) (nth_map f l j hj) rfl hs.symm h
theorem LdOk.row {α : Type} [Inhabited α] {f : α → AV} {l : List α} {s j : Nat} {p o : List Nat} {sz : Nat} {agg : Bool} {v : AV} (hj : j < l.length) (hs : (f (rd l j)).size = s) (h : LdOk p (f (rd l j)) o sz agg v) : LdOk (j :: p) (.row s (l.map f)) (j * s :: o) sz agg v :=
  LdOk.step (by simpa [kids] using hj) (nth_map f l j hj) rfl hs.symm h
structure StOk (p : List Nat) (c : AV) (o : List Nat) (sz : Nat) (v c' : AV) : Prop where
  has : hasP p c
  off : offs p c = o
  size : szAt p c = sz
  vsize : v.size = sz
  ok : (!p.isEmpty || c.plain) = true
  eq : putP p c (loose v) = c'
  pl : c.plain = true ∨ p ≠ []
theorem StOk.nil {c v v' : AV} {sz : Nat} (h1 : c.size = sz) (h2 : v.size = sz) (h3 : c.plain = true) (h4 : loose v = v') : StOk [] c [] sz v v' := ⟨trivial, rfl, h1, h2, h3, h4, .inl h3⟩
theorem StOk.step {j : Nat} {p : List Nat} {c k k' c' : AV} {o : List Nat} {of sz : Nat} {v : AV} (hk : j < (kids c).length) (e : nth (kids c) j = k) (ho : kidOff c j = of) (hs : kidSz c j = k.size) (h : StOk p k o sz v k') (he : withKids c ((kids c).set j k') = c') : StOk (j :: p) c (of :: o) sz v c' := by
  subst e
  refine ⟨⟨hk, h.has⟩, by simp only [offs, ho, h.off], ?_, h.vsize, rfl, by simp only [putP, h.eq]; exact he, .inr (by simp)⟩
  rw [szAt_cons]
  · exact h.size
  · cases p with
    | nil => left; simp only [szAt]; exact hs.symm
    | cons => right; simp
theorem StOk.arr {α : Type} [Inhabited α] {f : α → AV} {l : List α} {s n j : Nat} {p o : List Nat} {sz : Nat} {v : AV} {y : α} (hj : j < l.length) (hs : (f (rd l j)).size = s) (h : StOk p (f (rd l j)) o sz v (f y)) : StOk (j :: p) (.arr s n (l.map f)) (j * s :: o) sz v (.arr s n ((l.set j y).map f)) :=
  StOk.step (by simpa [kids] using hj) (nth_map f l j hj) rfl hs.symm h (by simp [withKids, kids, List.map_set])
theorem StOk.row {α : Type} [Inhabited α] {f : α → AV} {l : List α} {s j : Nat} {p o : List Nat} {sz : Nat} {v : AV} {y : α} (hj : j < l.length) (hs : (f (rd l j)).size = s) (h : StOk p (f (rd l j)) o sz v (f y)) : StOk (j :: p) (.row s (l.map f)) (j * s :: o) sz v (.row s ((l.set j y).map f)) :=
  StOk.step (by simpa [kids] using hj) (nth_map f l j hj) rfl hs.symm h (by simp [withKids, kids, List.map_set])
theorem ld_own {t d id : Nat} {a : Operand} {e : Operand → AV} {H : Hp} {p o : List Nat} {c v : AV} {f : Bool} {i : TyA} (hi : look T t = some i) (ha : e a = .own id p o) (hb : H id = some ⟨c, f⟩) (h : LdOk p c o i.size i.agg v) :
    (aop T d e (.load t a)).run H = .val v [] (hasP p c ∧ offs p c = o ∧ szAt p c = i.size ∧ (atP p c).isAgg = i.agg ∧ (atP p c).plain = true) := by
  simp only [aop, hi, ha, Ask.run, hb, h.eq]
theorem ld_ref {t d : Nat} {a : Operand} {e : Operand → AV} {H : Hp} {p o : List Nat} {c v : AV} {i : TyA} (hi : look T t = some i) (ha : e a = .ref c p o) (h : LdOk p c o i.size i.agg v) :
    (aop T d e (.load t a)).run H = .val v [] (hasP p c ∧ offs p c = o ∧ szAt p c = i.size ∧ (atP p c).isAgg = i.agg ∧ (atP p c).plain = true) := by
  simp only [aop, hi, ha, Ask.run, h.eq]
theorem st_own {t d id : Nat} {a x : Operand} {e : Operand → AV} {H : Hp} {p o : List Nat} {c v c' : AV} {u : Upd} {i : TyA} (hi : look T t = some i) (ha : e a = .own id p o) (hx : ∀ k, (frz (e x) k).run H = (k v u).run H) (hb : H id = some ⟨c, false⟩) (h : StOk p c o i.size v c') :
    (aop T d e (.store t a x)).run H = .val .top ((id, some ⟨c', false⟩) :: u) (hasP p c ∧ offs p c = o ∧ szAt p c = i.size ∧ v.size = i.size ∧ u.all (fun q => q.1 != id) = true ∧ (!p.isEmpty || c.plain) = true) := by
  simp only [aop, hi, ha, hx, Ask.run, hb, h.eq]
theorem StOk.c {p : List Nat} {c : AV} {o : List Nat} {sz : Nat} {v c' : AV} (h : StOk p c o sz v c') {u : Upd} {id : Nat} (hu : u.all (fun q => q.1 != id) = true) : hasP p c ∧ offs p c = o ∧ szAt p c = sz ∧ v.size = sz ∧ u.all (fun q => q.1 != id) = true ∧ (!p.isEmpty || c.plain) = true := ⟨h.has, h.off, h.size, h.vsize, hu, h.ok⟩

/-- An element of an array that is a value. -/
theorem ix_run {α : Type} [Inhabited α] {f : α → AV} {l : List α} {t d s n el : Nat} {b : Nat} {z : AV} {sz : Nat} {a x : Operand} {e : Operand → AV} {H : Hp} {i : TyA} {k : IntKind} {j : Int} (hi : look T t = some ⟨.arr n el, s, b, z⟩) (he : look T el = some i) (ha : e a = .arr sz n (l.map f)) (hx : e x = .int k j) (hj : j.toNat < l.length) :
    (aop T d e (.index t a x)).run H = .val (f (rd l j.toNat)) [] (0 ≤ j ∧ j < n ∧ n = n ∧ sz = i.size ∧ (f (rd l j.toNat)).isAgg = i.agg ∧ (f (rd l j.toNat)).plain = true) := by
  simp only [aop, hi, he, ha, hx, Ask.run, nth_map f l _ hj]

theorem all_nil {α : Type} {p : α → Prop} : ∀ x ∈ ([] : List α), p x := by simp
theorem all_cons {α : Type} {p : α → Prop} {a : α} {l : List α} (h : p a) (t : ∀ x ∈ l, p x) : ∀ x ∈ a :: l, p x := by
  intro x hx
  rcases List.mem_cons.1 hx with rfl | hx
  · exact h
  · exact t x hx

end
end Go.Abs
/- Operations on typed data: for every program. -/
namespace Go.Abs
section
variable {T : Tys} {H : Hp} {e : Operand → AV} {α : Type}

def vrep {α : Type} (n : Nat) (z : α) : Vec α n := ⟨List.replicate n z, by simp⟩

theorem len_run {d m t el s b sz : Nat} {z : AV} {tt : Bool} {x : Operand} {f : α → AV} {l : List α} (ht : look T t = some ⟨.slice el, s, b, z⟩) (hx : e x = .sl sz tt (l.map f)) :
    (aop T d e (.blt m .len [x] [t])).run H = .val (.int .i64 (l.length : Int)) [] True := by
  simp only [aop, List.map_cons, List.map_nil, ht, hx, Ask.run, List.length_map]
theorem leno_run {d m t el s b sz id : Nat} {z : AV} {ff : Bool} {x : Operand} {f : α → AV} {l : List α} (ht : look T t = some ⟨.slice el, s, b, z⟩) (hx : e x = .osl id) (hb : H id = some ⟨.row sz (l.map f), ff⟩) :
    (aop T d e (.blt m .len [x] [t])).run H = .val (.int .i64 (l.length : Int)) [] True := by
  simp only [aop, List.map_cons, List.map_nil, ht, hx, Ask.run, hb, List.length_map]

theorem mk_run {d t el s b : Nat} {z : AV} {l c : Operand} {k k' : IntKind} {f : α → AV} {y : α} {i : TyA} {a a' : Int} (ht : look T t = some ⟨.slice el, s, b, z⟩) (he : look T el = some i) (hz : i.zero = f y) (hl : e l = .int k a) (hc : e c = .int k' a') (hn : H (nid d 0) = none) :
    (aop T d e (.mkslice t l c)).run H = .val (.osl (nid d 0)) [(nid d 0, some ⟨.row i.size ((List.replicate a.toNat y).map f), false⟩)] (a' = a ∧ 0 ≤ a ∧ a ≤ 140737488355328 ∧ i.bytes * a ≤ 140737488355328 ∧ 0 < i.size) := by
  simp only [aop, ht, he, hl, hc, fresh, Ask.run, hn, hz, List.map_replicate]

/-- To a slice of the call's own. -/
theorem app_run {d m t t2 el el2 s b s2 b2 sz id : Nat} {z z2 : AV} {a x : Operand} {tt : Bool} {f : α → AV} {l l2 : List α} {i : TyA} {u : Upd} (ht : look T t = some ⟨.slice el, s, b, z⟩) (ht2 : look T t2 = some ⟨.slice el2, s2, b2, z2⟩) (he : look T el = some i) (ha : e a = .osl id)
    (hx : ∀ k, (frz (e x) k).run H = (k (.sl sz tt (l2.map f)) u).run H) (hb : H id = some ⟨.row i.size (l.map f), false⟩) (hn : H (nid d 0) = none) :
    (aop T d e (.blt m .append [a, x] [t, t2])).run H = .val (.osl (nid d 0)) ((nid d 0, some ⟨.row i.size ((l ++ l2).map f), false⟩) :: (id, none) :: u)
      (i.size = i.size ∧ (l2.map f = [] ∨ sz = i.size) ∧ ((l.map f).length + (l2.map f).length) * i.bytes ≤ 140737488355328 ∧ 0 < i.bytes ∧ 0 < i.size ∧ u.all (fun q => q.1 != id) = true) := by
  simp only [aop, List.map_cons, List.map_nil, ht, ht2, he, hx, ha, fresh, Ask.run, hb, hn, List.map_append]
theorem app_c {f : α → AV} {l l2 : List α} {s sz by' id : Nat} {u : Upd} (h : (l.length + l2.length) * by' ≤ 140737488355328) (hs : l2.map f = [] ∨ sz = s) (hb : Nat.blt 0 by' = true) (hz : Nat.blt 0 s = true) (hu : u.all (fun q => q.1 != id) = true) :
    s = s ∧ (l2.map f = [] ∨ sz = s) ∧ ((l.map f).length + (l2.map f).length) * by' ≤ 140737488355328 ∧ 0 < by' ∧ 0 < s ∧ u.all (fun q => q.1 != id) = true := by
  refine ⟨rfl, hs, by rw [List.length_map, List.length_map]; exact h, Nat.le_of_ble_eq_true hb, Nat.le_of_ble_eq_true hz, hu⟩
/-- To a slice with no room left: into new memory. -/
theorem appt_run {d t t2 el el2 s b s2 b2 sz sz' : Nat} {z z2 : AV} {a x : Operand} {tt : Bool} {f : α → AV} {l l2 : List α} {i : TyA} {u : Upd} (ht : look T t = some ⟨.slice el, s, b, z⟩) (ht2 : look T t2 = some ⟨.slice el2, s2, b2, z2⟩) (he : look T el = some i) (ha : e a = .sl sz' true (l.map f))
    (hx : ∀ k, (frz (e x) k).run H = (k (.sl sz tt (l2.map f)) u).run H) (hn : H (nid d 0) = none) :
    (aop T d e (.blt 0 .append [a, x] [t, t2])).run H = .val (.osl (nid d 0)) ((nid d 0, some ⟨.row i.size ((l ++ l2).map f), false⟩) :: u)
      ((l.map f = [] ∨ l2.map f ≠ []) ∧ (l.map f = [] ∨ sz' = i.size) ∧ (l2.map f = [] ∨ sz = i.size) ∧ ((l.map f).length + (l2.map f).length) * i.bytes ≤ 140737488355328 ∧ 0 < i.bytes ∧ 0 < i.size) := by
  simp only [aop, List.map_cons, List.map_nil, ht, ht2, he, hx, ha, fresh, Ask.run, hn, List.map_append]
theorem appt_c {f : α → AV} {l l2 : List α} {s sz sz' by' : Nat} (h : (l.length + l2.length) * by' ≤ 140737488355328) (hk : l.map f = [] ∨ l2.map f ≠ []) (hs' : l.map f = [] ∨ sz' = s) (hs : l2.map f = [] ∨ sz = s) (hb : Nat.blt 0 by' = true) (hz : Nat.blt 0 s = true) :
    (l.map f = [] ∨ l2.map f ≠ []) ∧ (l.map f = [] ∨ sz' = s) ∧ (l2.map f = [] ∨ sz = s) ∧ ((l.map f).length + (l2.map f).length) * by' ≤ 140737488355328 ∧ 0 < by' ∧ 0 < s := by
  refine ⟨hk, hs', hs, by rw [List.length_map, List.length_map]; exact h, Nat.le_of_ble_eq_true hb, Nat.le_of_ble_eq_true hz⟩

/-! Equality of arrays. -/
/-! Equality of structs. -/
def CmpL (T : Tys) (g : Nat) : List (Nat × Nat) → List AV → List AV → Prop
  | f :: fs, x :: xs, y :: ys => Cmp T g f.2 x y ∧ CmpL T g fs xs ys
  | _, _, _ => True
/-- A slice with no room left, kept in a variable. -/
theorem asg_tight {d t el s b : Nat} {z : AV} {x : Operand} {tt : Bool} {f : α → AV} {l : List α} {i : TyA} (ht : look T t = some ⟨.slice el, s, b, z⟩) (he : look T el = some i) (hx : e x = .sl i.size tt (l.map f)) :
    (aop T d e (.asg 1 x t)).run H = .val (.sl i.size false (l.map f)) [] True := by
  cases l <;> cases tt <;> simp [aop, ht, he, hx, Ask.run, frz, AV.plain, loose]

/-! Parts of slices. -/
/-- What is left of a row whose end has been cleared. -/
def cutRow (sz : Nat) (xs : List AV) (n : Nat) (z : AV) : AV := .row sz (xs.take n ++ List.replicate (xs.length - n) z)
theorem take3_run {d t el s b : Nat} {z : AV} {x hi mx : Operand} {sz : Nat} {tt : Bool} {f : α → AV} {l : List α} {i : TyA} {k k' : IntKind} {a a' : Int} {u : Upd} (ht : look T t = some ⟨.slice el, s, b, z⟩) (he : look T el = some i) (hl : e hi = .int k a) (hm : e mx = .int k' a') (hx : ∀ k, (frz (e x) k).run H = (k (.sl sz tt (l.map f)) u).run H) :
    (aop T d e (.slice t x none (some hi) (some mx))).run H = .val (.sl sz true ((l.take a.toNat).map f)) u (0 ≤ a ∧ a ≤ ((l.map f).length : Int) ∧ a' = a) := by
  simp only [aop, ht, he, hx, Option.map_some, Option.map_none, hl, hm, Ask.run, List.map_take]
theorem lmap_le {x : List α} {f : α → AV} {j : Int} (h : j ≤ (x.length : Int)) : j ≤ ((x.map f).length : Int) := by rw [List.length_map]; exact h

end
end Go.Abs
