/- Operations of the model do what the abstract ones say, second part: new blocks, loads, stores, addresses: for every program, world and state. -/
import Derived.Test.YtacebpbhddkelaaAbsH
namespace Go.Abs
section
variable {P : Program} {T : Tys} {ρ : Nat → Option Nat} {H : Hp} {B N : Nat → Prop} {w : World} {e : Operand → AV} {cv : Operand → Value}

theorem heap_new (w : World) (o : Obj) : (w.alloc o).heap[w.heap.size]? = some o := by
  show (w.heap.push o)[w.heap.size]? = _
  simp

theorem Does.alloc (hr : HRel ρ H B N w) (hnb : ∀ k, w.heap.size ≤ k → N k) {s : Sem Next} {u : Upd} {n : Nat} {cc v : AV} {c : Value} {w' : World} {arr : Array Value} {Ty : TypeId} {cs ext : List Value} (hu : FU H u) (hn : H n = none)
    (hs : s.run P w = .ok (.value c) w') (ho : Only No w w') (hz : w'.heap.size = w.heap.size + 1) (hb : w'.heap[w.heap.size]? = some (.cells arr Ty (0, 0))) (he : arr.toList = cs ++ ext) (hv : VRel (Sof ρ (updH H u) B) w cc cs)
    (hf : ∀ (ρ' : Nat → Option Nat) (H' : Hp) (S' : Nat → Prop), ρ' n = some w.heap.size → H' n = some ⟨cc, false⟩ → SlotRel ρ' H' S' w' v c) : Does P s ρ H B N w v ((n, some ⟨cc, false⟩) :: u) := by
  have h1 := Step.alloc (FU.hrel hr hu) ho (n := n) (k := w.heap.size) (Nat.le_refl _) (by omega) (hnb _ (Nat.le_refl _)) hb he hv
  have hH : (fun i => if i = n then some ⟨cc, false⟩ else updH H u i) = updH H ((n, some ⟨cc, false⟩) :: u) := by rw [updH_cons]
  rw [hH] at h1
  refine Does.after (x := [(n, some ⟨cc, false⟩)]) hr hu hs (.inl rfl) h1 (fun id hid => ?_) ?_
  · subst hid; exact ⟨hn, ⟨cc, false⟩, by simp [look]⟩
  · exact hf _ _ _ (by simp) (by simp [updH, look])

theorem op_alloc (cx : Cx P T ρ H B N w e cv) {o : Oper} {d t : Nat} (ho : o.op = .alloc t) {v : AV} {u : Upd} {C : Prop} (h : (aop T d e (.alloc t)).run H = .val v u C) : Does P (execOp cv o) ρ H B N w v u := by
  simp only [aop] at h
  split at h
  · rename_i i hi
    simp only [fresh, Ask.run] at h
    split at h
    · rename_i hn
      simp only [Ask.run, Ev.val.injEq] at h
      obtain ⟨rfl, rfl, _⟩ := h
      obtain ⟨z, h1, h2⟩ := (cx.ty _ _ hi).run_zero w
      refine Does.alloc cx.hr cx.nb (FU.nil H) hn (c := .pointer (some ⟨w.heap.size, 0, none⟩)) (w' := w.alloc (.cells z.cells t)) ?_ (Only.alloc _ _ _ _) (by simp) (heap_new _ _) (ext := []) (by simp) (flat_rel _ _ _ _ h2) ?_
      · simp [execOp, ho, Instr.alloc, h1, newVar, newRow]
      · intro ρ' H' S' hρ _ b _
        exact ⟨_, hρ, rfl⟩
    · simp [Ask.run] at h
  · simp [Ask.run] at h

theorem op_box (cx : Cx P T ρ H B N w e cv) {o : Oper} {d t : Nat} {x : Operand} (ho : o.op = .box t x) {v : AV} {u : Upd} {C : Prop} (h : (aop T d e (.box t x)).run H = .val v u C) : Does P (execOp cv o) ρ H B N w v u := by
  simp only [aop] at h
  obtain ⟨v', u', h1, hu, hp, _, hs⟩ := frz_elim h (by simp)
  simp only [fresh, Ask.run] at h1
  split at h1
  · rename_i hn
    simp only [Ask.run, Ev.val.injEq] at h1
    obtain ⟨rfl, rfl, _⟩ := h1
    obtain ⟨cs, h2, _, h3⟩ := vrel_of_slot (hs ρ B N w _ cx.hr (cx.rel x)) hp
    refine Does.alloc cx.hr cx.nb hu hn (c := .pointer (some ⟨w.heap.size, 0, none⟩)) (w' := w.alloc (.cells (cv x).cells t)) ?_ (Only.alloc _ _ _ _) (by simp) (heap_new _ _) (ext := []) (by simp; rfl) (by rw [h3]; exact h2) ?_
    · simp [execOp, ho, Instr.box, newVar, newRow]
    · intro ρ' H' S' hρ _ b _
      exact ⟨_, hρ, rfl⟩
  · simp [Ask.run] at h1

/-- What a load finds along a path. -/
theorem load_path {S : Nat → Prop} {c : AV} {cs : List Value} {p o : List Nat} {k off : Nat} {t : Nat} {i : TyA} (ht : TyOk P t i) (hv : VRel S w c cs) (hr : Reads w k off cs) (h1 : hasP p c) (h2 : offs p c = o) (h3 : szAt p c = i.size)
    (h4 : (atP p c).isAgg = i.agg) (h5 : (atP p c).plain = true) : ∃ v, (loadVar t ⟨k, off + o.sum, none⟩).run P w = .ok v w ∧ ∀ (ρ : Nat → Option Nat) (H : Hp), SlotRel ρ H S w (atP p c) v := by
  obtain ⟨c1, cc, c2, rfl, l1, hcc, l2, _⟩ := VRel.path p c cs hv h1
  have hr' : Reads w k (off + o.sum) cc := by
    intro j hj
    have := hr (c1.length + j) (by simp; omega)
    rw [← h2, ← l1, Nat.add_assoc, this, List.append_assoc, List.getElem?_append_right (by omega), List.getElem?_append_left (by omega)]
    congr 1; omega
  have hone : i.agg = false → cc.length = 1 := by
    intro hi
    rw [hi] at h4
    rw [hcc.len]
    revert h4 h5
    cases atP p c <;> simp [AV.isAgg, AV.plain, AV.size]
  refine ⟨_, run_loadVar ht hr' (by rw [l2, h3]) hone, fun ρ H => ?_⟩
  have := slot_of_vrel (ρ := ρ) (H := H) hcc h5
  have e : pack (atP p c) cc = if i.agg = true then .agg cc.toArray else cc.headD undef := by
    rw [← h4]
    cases atP p c <;> simp [pack, AV.isAgg]
  rw [← e]; exact this

theorem op_load (cx : Cx P T ρ H B N w e cv) {o : Oper} {d t : Nat} {x : Operand} (ho : o.op = .load t x) {v : AV} {u : Upd} {C : Prop} (h : (aop T d e (.load t x)).run H = .val v u C) (hC : C) : Does P (execOp cv o) ρ H B N w v u := by
  have hx := cx.rel x
  have hex : ∀ a c, cv x = .pointer (some a) → (loadVar t a).run P w = .ok c w → (execOp cv o).run P w = .ok (.value c) w := by
    intro a c h1 h2
    simp [execOp, ho, Instr.loadAt, h1, Instr.sureAddr, h2]
  simp only [aop] at h
  split at h
  · simp [Ask.run] at h
  · rename_i i hi
    split at h
    · rename_i id p o' e0
      simp only [Ask.run] at h
      split at h
      · rename_i c f hb
        simp only [Ask.run, Ev.val.injEq] at h
        obtain ⟨rfl, rfl, rfl⟩ := h
        obtain ⟨c1, c2, c3, c4, c5⟩ := hC
        rw [e0] at hx
        obtain ⟨k, hk, hcv⟩ := hx _ hb
        rcases cx.hr.at_ id _ hb with ⟨sz, _, h2⟩ | ⟨q, arr, Ty, cs, ext, g1, g2, g3, g4, g5, g6⟩
        · rw [h2] at hk; cases hk
        · rw [hk] at g1; cases g1
          obtain ⟨cv', r1, r2⟩ := load_path (P := P) (cx.ty _ _ hi) g6 (reads_block g4 g5) c1 c2 c3 c4 c5
          rw [Nat.zero_add] at r1
          exact Does.same cx.hr (hex _ _ hcv r1) (r2 ρ H)
      · simp [Ask.run] at h
    · rename_i c p o' e0
      simp only [Ask.run, Ev.val.injEq] at h
      obtain ⟨rfl, rfl, rfl⟩ := h
      obtain ⟨c1, c2, c3, c4, c5⟩ := hC
      rw [e0] at hx
      obtain ⟨k, off, vs, hcv, hS, hv, hrd⟩ := hx
      simp at hcv
      obtain ⟨cv', r1, r2⟩ := load_path (P := P) (cx.ty _ _ hi) hv hrd c1 c2 c3 c4 c5
      rw [← c2] at r1
      subst c2
      exact Does.same cx.hr (hex _ _ hcv r1) (r2 ρ H)
    · simp [Ask.run] at h

theorem op_store (cx : Cx P T ρ H B N w e cv) {o : Oper} {d t : Nat} {x y : Operand} (ho : o.op = .store t x y) {v : AV} {u : Upd} {C : Prop} (h : (aop T d e (.store t x y)).run H = .val v u C) (hC : C) : Does P (execOp cv o) ρ H B N w v u := by
  have hx := cx.rel x
  simp only [aop] at h
  split at h
  · simp [Ask.run] at h
  · rename_i i hi
    split at h
    · rename_i id p o' e0
      obtain ⟨v', u', h1, hu, hp, _, hs⟩ := frz_elim h (by simp)
      simp only [Ask.run] at h1
      split at h1
      · rename_i c hb
        simp only [Ask.run, Ev.val.injEq] at h1
        obtain ⟨rfl, rfl, rfl⟩ := h1
        obtain ⟨c1, c2, c3, c4, c5, c6⟩ := hC
        rw [e0] at hx
        obtain ⟨k, hk, hcv⟩ := hx _ hb
        have hr1 := FU.hrel cx.hr hu
        have hb1 : updH H u' id = some ⟨c, false⟩ := by
          have : look u' id = none := by
            have : ∀ (l : Upd), l.all (fun q => q.1 != id) = true → look l id = none := by
              intro l hl
              induction l with
              | nil => rfl
              | cons q l ih =>
                obtain ⟨j, y⟩ := q
                simp only [List.all_cons, Bool.and_eq_true, bne_iff_ne, ne_eq] at hl
                have hj : Nat.beq j id = false := by rw [← Bool.not_eq_true, Nat.beq_eq]; exact hl.1
                simp only [look, hj]
                exact ih hl.2
            exact this u' c5
          unfold updH; rw [this]; exact hb
        obtain ⟨ds, d1, _, d3⟩ := vrel_of_slot (hs ρ B N w _ cx.hr (cx.rel y)) hp
        rcases hr1.at_ id _ hb1 with ⟨sz, _, h2⟩ | ⟨q, arr, Ty, cs, ext, g1, g2, g3, g4, g5, g6⟩
        · rw [h2] at hk; cases hk
        · rw [hk] at g1; cases g1
          obtain ⟨l1, lc, l2, e1, m1, m2, m3, m4⟩ := VRel.path p c cs g6 c1
          have hlen : ds.length = szAt p c := by rw [d1.len, c4, c3]
          have hsc := VRel.scalars _ _ d1
          obtain ⟨w', arr', r1, r2, r3, r4, r5, r6⟩ := run_storeCells (P := P) (k := k) (off := o'.sum) (T := Ty) ds 0 w arr g4 (by
            have := congrArg List.length g5
            simp only [Array.length_toList, List.length_append, e1] at this
            rw [Nat.add_zero, this, ← c2, ← m1, hlen, ← m3]; omega) hsc
          have hrun : (execOp cv o).run P w = .ok .skip w' := by
            have hsize : (cv y).cells.size = i.size := by
              rw [← Array.length_toList, d3, hlen, c3]
            simp only [execOp, ho, Instr.storeAt, hcv, Instr.sureAddr, Sem.run_bind, Sem.run_pure, Result.andThen_ok, storeVar, (cx.ty _ _ hi).run_size, hsize, ne_eq, not_true_eq_false, if_false, d3, r1]
          have hst := Step.write hr1 (id := id) (n := id) (k := k) (c := c) (c' := putP p c (loose v')) hb1 hk r4 r5 (cs' := l1 ++ ds ++ l2) (ext' := ext) r2
            (fun arr0 T0 h0 => by rw [g4] at h0; cases h0; exact r6)
            (by
              rw [r3, g5, e1, Nat.add_zero, ← c2, ← m1]
              have hl : lc.length = ds.length := by rw [m3, hlen]
              rw [show l1 ++ lc ++ l2 ++ ext = l1 ++ (lc ++ (l2 ++ ext)) by simp, List.take_left, List.drop_length_add_append, ← hl, List.drop_left]
              simp)
            (m4 _ _ (loose_rel d1) hlen)
            (fun _ sz xs hc => by
              subst hc
              cases p with
              | nil => simp [AV.plain] at c6
              | cons j p => exact ⟨_, rfl, by simp [kids]⟩)
          have hH : (fun i => if i = id then some ⟨putP p c (loose v'), false⟩ else if i = id then none else updH H u' i) = updH H ((id, some ⟨putP p c (loose v'), false⟩) :: u') := by
            rw [updH_cons]; funext i; by_cases hi : i = id <;> simp [hi]
          rw [hH] at hst
          refine Does.after (x := [(id, some ⟨putP p c (loose v'), false⟩)]) cx.hr hu hrun (.inr ⟨rfl, rfl⟩) hst (fun i hi => (hi.2 rfl).elim) trivial
      · simp [Ask.run] at h1
    · simp [Ask.run] at h

end
end Go.Abs
