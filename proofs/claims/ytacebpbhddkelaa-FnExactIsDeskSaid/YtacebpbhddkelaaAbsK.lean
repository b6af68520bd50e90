/- Operations of the model do what the abstract ones say, fourth part: slices, addresses, elements, lengths: for every program, world and state. -/
import Derived.Test.YtacebpbhddkelaaAbsJ
namespace Go.Abs
section
variable {P : Program} {T : Tys} {ρ : Nat → Option Nat} {H : Hp} {B N : Nat → Prop} {w : World} {e : Operand → AV} {cv : Operand → Value}

theorem zip_map {α : Type} (f : Operand → α) (L : List (Nat × Operand)) : (L.map fun p => (p.1, f p.2)) = (L.map (·.1)).zip (L.map fun p => f p.2) := by
  induction L <;> simp_all

theorem slots_map2 (cx : Cx P T ρ H B N w e cv) (L : List (Nat × Operand)) : SlotsRel ρ H (Sof ρ H B) w (L.map fun p => e p.2) (L.map fun p => cv p.2) := by
  have := slots_map cx (L.map (·.2))
  simpa [List.map_map, Function.comp_def] using this

theorem TyOk.slice {t el : Nat} {s b : Nat} {z : AV} (h : TyOk P t ⟨.slice el, s, b, z⟩) : P.underlying t = some (.slice el) := by
  obtain ⟨d, d1, d2⟩ := h.desc
  cases d <;> simp [TyD.of] at d2
  rw [d1, d2]
theorem TyOk.array {t el n : Nat} {s b : Nat} {z : AV} (h : TyOk P t ⟨.arr n el, s, b, z⟩) : P.underlying t = some (.array n el) := by
  obtain ⟨d, d1, d2⟩ := h.desc
  cases d <;> simp [TyD.of] at d2
  rw [d1, d2.1, d2.2]
theorem TyOk.struct {t : Nat} {fs : List (Nat × Nat)} {s b : Nat} {z : AV} (h : TyOk P t ⟨.struct fs, s, b, z⟩) : ∃ fields, P.underlying t = some (.struct fields) ∧ fields.toList.map (fun f => (f.offset, f.type)) = fs := by
  obtain ⟨d, d1, d2⟩ := h.desc
  cases d <;> simp [TyD.of] at d2
  exact ⟨_, d1, d2⟩
theorem TyOk.string {t : Nat} {s b : Nat} {z : AV} (h : TyOk P t ⟨.string, s, b, z⟩) : P.underlying t = some .string := by
  obtain ⟨d, d1, d2⟩ := h.desc
  cases d <;> simp [TyD.of] at d2
  exact d1
theorem TyOk.bool {t : Nat} {s b : Nat} {z : AV} (h : TyOk P t ⟨.bool, s, b, z⟩) : P.underlying t = some .bool := by
  obtain ⟨d, d1, d2⟩ := h.desc
  cases d <;> simp [TyD.of] at d2
  exact d1
theorem TyOk.intk {t : Nat} {k : IntKind} {s b : Nat} {z : AV} (h : TyOk P t ⟨.int k, s, b, z⟩) : P.underlying t = some (.int k) := by
  obtain ⟨d, d1, d2⟩ := h.desc
  cases d <;> simp [TyD.of] at d2
  rw [d1, d2]

theorem sof_new {ρ : Nat → Option Nat} {H : Hp} {B N : Nat → Prop} {w w' : World} (hr : HRel ρ H B N w) {k : Nat} (h1 : w.heap.size ≤ k) (h2 : k < w'.heap.size) : Sof ρ H (fun q => B q ∨ (w.heap.size ≤ q ∧ q < w'.heap.size)) k := by
  refine ⟨.inr ⟨h1, h2⟩, fun id b hb _ e => ?_⟩
  rcases hr.at_ id b hb with ⟨sz, _, g2⟩ | ⟨q, arr, T, cs, ext, g1, g2, _⟩
  · rw [g2] at e; cases e
  · rw [g1] at e; cases e
    have := hr.bound _ g2; omega

theorem one_of_slot {ρ : Nat → Option Nat} {H : Hp} {S : Nat → Prop} {w : World} {v : AV} {c : Value} (h : SlotRel ρ H S w v c) (hp : v.plain = true) (ha : v.isAgg = false) : VRel S w v [c] := by
  cases v <;> simp only [AV.plain, AV.isAgg, Bool.false_eq_true, Bool.true_eq_false] at hp ha <;> simp only [SlotRel] at h
  case int => subst h; simp only [VRel]
  case bool => subst h; simp only [VRel]
  case str => subst h; simp only [VRel]
  case raw => obtain ⟨rfl, h⟩ := h; exact ⟨rfl, h⟩
  all_goals exact h
theorem ones_of_slots {ρ : Nat → Option Nat} {H : Hp} {S : Nat → Prop} {w : World} : ∀ (vs : List AV) (cs : List Value) (j : Nat), SlotsRel ρ H S w vs cs → (∀ v ∈ vs, v.plain = true) → (∀ x ∈ vs, x.size = 1 ∧ x.isAgg = false) → VAll S w (fun _ => 1) j vs cs
  | [], _, _, h, _, _ => h
  | v :: vs, _, j, h, hp, ha => by
    obtain ⟨c, rest, rfl, h1, h2⟩ := h
    exact ⟨[c], rest, rfl, one_of_slot h1 (hp v (by simp)) (ha v (by simp)).2, rfl, ones_of_slots vs rest (j + 1) h2 (fun x hx => hp x (by simp [hx])) (fun x hx => ha x (by simp [hx]))⟩

theorem fold_length : ∀ (l : List (Nat × AV)) (zs : List AV), (l.foldl (fun l p => l.set p.1 (loose p.2)) zs).length = zs.length
  | [], _ => rfl
  | a :: l, zs => by simp [fold_length l]

theorem op_bslice (cx : Cx P T ρ H B N w e cv) {o : Oper} {d t n : Nat} {ps : Array (Nat × Operand)} (ho : o.op = .buildSlice t n ps) {v : AV} {u : Upd} {C : Prop} (h : (aop T d e (.bslice t n ps.toList)).run H = .val v u C) (hC : C) : Does P (execOp cv o) ρ H B N w v u := by
  have hparts : (ps.map fun (i, x) => (i, cv x)).toList = (ps.toList.map (·.1)).zip (ps.toList.map fun p => cv p.2) := by
    rw [← zip_map]; simp
  simp only [aop] at h
  split at h
  · rename_i el s0 b0 z0 e0
    split at h
    · rename_i i hi
      obtain ⟨vs', u', h1, hu, hp, hl, hs⟩ := frzAll_elim _ h (by simp)
      simp only [Ask.run, Ev.val.injEq] at h1
      obtain ⟨rfl, rfl, rfl⟩ := h1
      obtain ⟨c1, c2, c3⟩ := hC
      have hte := cx.ty _ _ hi
      obtain ⟨z, z1, z2⟩ := hte.run_zero w
      have hzr := flat_rel (Sof ρ (updH H u') B) w _ _ z2
      have hzsize : z.cells.size = i.size := by
        rw [← Array.length_toList, hzr.len, hte.zsize]
      have hcs := cellss_of_slots _ _ (hs ρ B N w _ cx.hr (slots_map2 cx ps.toList)) hp
      have hmade := flat_made z.cells i.size hzsize c2 n
      have hv0 : VAll (Sof ρ (updH H u') B) w (fun _ => i.size) 0 (List.replicate n i.zero) (((Array.range (n * i.size)).map (z.cells[· % z.cells.size]!)).toList) := by
        rw [hmade]; exact vall_replicate hzr (by rw [Array.length_toList, hzsize]) n 0
      obtain ⟨cells', f1, f2⟩ := fill_rel (place := fun j => some (j * i.size, i.size)) (ps.toList.map (·.1)) vs' (ps.toList.map fun p => cv p.2) _ _ hv0 (fun j _ => by rw [pre_const]) hcs
        (fun p hp' => by obtain ⟨a, b⟩ := c3 p hp'; exact ⟨by simpa using a, b⟩)
      have hr1 := FU.hrel cx.hr hu
      have ho1 : Only No w (w.alloc (.cells cells' el)) := Only.alloc _ _ _ _
      have hst := Step.grown hr1 ho1
      have hrun : (execOp cv o).run P w = .ok (.value (.slice (some ⟨w.heap.size, 0, none⟩) n n)) (w.alloc (.cells cells' el)) := by
        have hm : n * i.size = 0 → (Array.range (n * i.size)).map (fun x => (#[] : Array Value)[x % (#[] : Array Value).size]!) = (Array.range (n * i.size)).map (z.cells[· % z.cells.size]!) := by
          intro h0; rw [h0]; simp
        simp only [execOp, ho, Instr.buildSlice, Sem.run_bind, run_underlying (cx.ty _ _ e0).slice, Result.andThen_ok, hte.run_size, if_neg (show ¬ n * i.size > 2 ^ 24 by omega)]
        by_cases h0 : n * i.size = 0
        · rw [if_pos h0]
          simp only [Sem.run_bind, Sem.run_pure, Result.andThen_ok, hm h0, hparts, f1, newRow, run_newObj]
          rfl
        · rw [if_neg h0]
          simp only [Sem.run_bind, z1, Sem.run_pure, Result.andThen_ok, hparts, f1, newRow, run_newObj]
          rfl
      refine Does.after (x := []) cx.hr hu hrun (.inl rfl) hst (fun _ x => x.elim) ?_
      simp only [SlotRel, VRel]
      have hlen : ((((ps.toList.map (·.1)).zip vs').foldl (fun l p => l.set p.1 (loose p.2)) (List.replicate n i.zero))).length = n := by rw [fold_length]; simp
      refine ⟨some ⟨w.heap.size, 0, none⟩, n, by rw [hlen], by rw [hlen]; exact Nat.le_refl _, fun _ => hlen.symm, .inr ⟨w.heap.size, 0, cells'.toList, rfl, ?_, ?_, ?_⟩⟩
      · exact sof_new hr1 (Nat.le_refl _) (by simp)
      · exact VAll.keep hst.sof hst.kept _ _ _ _ f2
      · exact reads_block (heap_new _ _) (ext := []) (by simp)
    · simp [Ask.run] at h
  · simp [Ask.run] at h

theorem op_mkfn (cx : Cx P T ρ H B N w e cv) {o : Oper} {d f : Nat} {a b : Array Operand} (ho : o.op = .makeFunc (.func f) a b) {v : AV} {u : Upd} {C : Prop} (h : (aop T d e (.mkfn f a.toList b.toList)).run H = .val v u C) (hC : C) : Does P (execOp cv o) ρ H B N w v u := by
  simp only [aop] at h
  obtain ⟨va, ua, h1, hua, hpa, hla, hsa⟩ := frzAll_elim _ h (by simp)
  obtain ⟨vb, ub, h2, hub, hpb, hlb, hsb⟩ := frzAll_elim _ h1 (by simp)
  simp only [Ask.run, Ev.val.injEq] at h2
  obtain ⟨rfl, rfl, rfl⟩ := h2
  obtain ⟨c1, c2⟩ := hC
  have hr1 := FU.hrel cx.hr (hua.append hub)
  have h3 := hsa ρ B N w _ cx.hr (slots_map cx a.toList)
  have h4 := hsb ρ B N w _ cx.hr (slots_map cx b.toList)
  refine Does.fu cx.hr (hua.append hub) (c := .func (.func f) (a.map cv) (b.map cv)) (by simp [execOp, ho, Instr.makeFunc]) ?_
  simp only [SlotRel, VRel]
  have hma : ∀ (a : Array Operand), a.map cv = (a.toList.map cv).toArray := fun a => by rw [← Array.toList_map]
  refine ⟨a.toList.map cv, b.toList.map cv, by rw [hma, hma], ?_, ?_, ?_⟩
  · rw [List.all_eq_true]
    intro x hx
    rcases List.mem_append.1 hx with hx | hx
    · simp [hpa x hx, (c1 x hx).2]
    · simp [hpb x hx, (c2 x hx).2]
  · have hfu : FU (updH H ua) ub := FU.of_append hua hub
    have := ones_of_slots _ _ 0 h3 hpa c1
    rw [FU.upd_comm hua hub]
    exact VAll.keep (fun k hk => FU.sof (FU.hrel cx.hr hua) hfu k hk) (fun _ _ _ => rfl) _ _ _ _ this
  · have hfu : FU (updH H ub) ua := FU.of_append hub hua
    have := ones_of_slots _ _ 0 h4 hpb c2
    rw [updH_append]
    exact VAll.keep (fun k hk => FU.sof (FU.hrel cx.hr hub) hfu k hk) (fun _ _ _ => rfl) _ _ _ _ this

theorem op_mkslice (cx : Cx P T ρ H B N w e cv) {o : Oper} {d t : Nat} {x y : Operand} (ho : o.op = .makeSlice t x y) {v : AV} {u : Upd} {C : Prop} (h : (aop T d e (.mkslice t x y)).run H = .val v u C) (hC : C) : Does P (execOp cv o) ρ H B N w v u := by
  have hx := cx.rel x
  have hy := cx.rel y
  simp only [aop] at h
  split at h
  · rename_i el s0 b0 z0 e0
    split at h
    · rename_i i hi
      split at h
      · rename_i k n k' m ex ey
        simp only [fresh, Ask.run] at h
        split at h
        · rename_i hn
          simp only [Ask.run, Ev.val.injEq] at h
          obtain ⟨rfl, rfl, rfl⟩ := h
          obtain ⟨rfl, c1, c2, c3, c4⟩ := hC
          rw [ex] at hx; rw [ey] at hy
          simp only [SlotRel] at hx hy
          have hte := cx.ty _ _ hi
          obtain ⟨z, z1, z2⟩ := hte.run_zero w
          have hzr := flat_rel (Sof ρ H B) w _ _ z2
          have hzsize : z.cells.size = i.size := by
            rw [← Array.length_toList, hzr.len, hte.zsize]
          obtain ⟨f, f1, f2, f3, _⟩ := hte.info
          have hwrap : IntKind.i64.wrap m = m := by
            simp only [IntKind.wrap, IntKind.bits, IntKind.signed]
            have : m % 18446744073709551616 = m := Int.emod_eq_of_lt c1 (by omega)
            simp [this]; omega
          have hmade := flat_made z.cells i.size hzsize c4 m.toNat
          let cells := (Array.range (m.toNat * i.size)).map (z.cells[· % z.cells.size]!)
          have hcell : cells.toList = (List.replicate m.toNat z.cells.toList).flatten := hmade
          have hrun : (execOp cv o).run P w = .ok (.value (.slice (some ⟨w.heap.size, 0, none⟩) m.toNat m.toNat)) (w.alloc (.cells cells el)) := by
            have hm : m.toNat * i.size = 0 → (Array.range (m.toNat * i.size)).map (fun x => (#[] : Array Value)[x % (#[] : Array Value).size]!) = cells := by
              intro h0; simp only [cells]; rw [h0]; simp
            have hlarge : (decide (m < 0) || decide ((f.bytes : Int) * m > 2 ^ 48)) = false := by
              rw [f3]; simp; omega
            simp only [execOp, ho, Instr.makeSlice, Sem.run_bind, run_underlying (cx.ty _ _ e0).slice, Result.andThen_ok, hx, hy, asInt, asIntOf, Sem.run_pure, run_typeInfo f1, hwrap, hlarge, Bool.false_or]
            rw [if_neg (by simp; omega)]
            simp only [Sem.run_bind, Result.andThen_ok, run_askRoom, hte.run_size]
            by_cases h0 : m.toNat * i.size = 0
            · rw [if_pos h0]
              simp only [Sem.run_bind, Sem.run_pure, Result.andThen_ok, hm h0, newRow, run_newObj]
              rfl
            · rw [if_neg h0]
              simp only [Sem.run_bind, z1, Sem.run_pure, Result.andThen_ok, newRow, run_newObj]
              rfl
          refine Does.alloc cx.hr cx.nb (FU.nil H) hn hrun (Only.alloc _ _ _ _) (by simp) (heap_new _ _) (cs := cells.toList) (ext := []) (by simp) ?_ ?_
          · simp only [VRel]
            rw [hcell]
            exact vall_replicate hzr (by rw [Array.length_toList, hzsize]) _ 0
          · intro ρ' H' S' hρ hH b hb
            rw [hH] at hb; cases hb
            refine ⟨i.size, _, rfl, .inr ⟨w.heap.size, m.toNat, cells, el, hρ, by simp, by simp, heap_new _ _, by simp [cells]⟩⟩
        · simp [Ask.run] at h
      · simp [Ask.run] at h
    · simp [Ask.run] at h
  · simp [Ask.run] at h

/-! ### Cuts -/
theorem run_bound {k : IntKind} {i : Int} {y : Nat} {code : BoundsCode} (h0 : 0 ≤ i) (h1 : i ≤ y) : (Instr.sliceBound (.int k i) y code).run P w = .ok i.toNat w := by
  simp [Instr.sliceBound, asIntOf, h0, h1]

theorem VAll.take {S : Nat → Prop} {sz : Nat} {xs : List AV} {cs : List Value} (h : VAll S w (fun _ => sz) 0 xs cs) (i : Nat) (hi : i ≤ xs.length) : VAll S w (fun _ => sz) 0 (xs.take i) (cs.take (i * sz)) := by
  have := (VAll.split i xs cs 0 h hi).1
  rwa [pre_const] at this
theorem VAll.drop {S : Nat → Prop} {sz : Nat} {xs : List AV} {cs : List Value} (h : VAll S w (fun _ => sz) 0 xs cs) (i : Nat) (hi : i ≤ xs.length) : VAll S w (fun _ => sz) 0 (xs.drop i) (cs.drop (i * sz)) := by
  have := (VAll.split i xs cs 0 h hi).2
  rw [pre_const] at this
  exact VAll.shift 0 this
theorem Reads.take {k off : Nat} {vs : List Value} (h : Reads w k off vs) (i : Nat) : Reads w k off (vs.take i) := by
  intro j hj
  simp only [List.length_take] at hj
  rw [h j (by omega), List.getElem?_take, if_pos (by omega)]
theorem Reads.drop {k off : Nat} {vs : List Value} (h : Reads w k off vs) (i : Nat) : Reads w k (off + i) (vs.drop i) := by
  intro j hj
  simp only [List.length_drop] at hj
  rw [Nat.add_assoc, h (i + j) (by omega), List.getElem?_drop]

theorem sl_take {S : Nat → Prop} {sz : Nat} {t : Bool} {xs : List AV} {a : Option Addr} {len cap : Nat} (h : VRel S w (.sl sz t xs) [.slice a len cap]) {i m : Nat} {t' : Bool} (hi : i ≤ xs.length) (hm : i ≤ m) (ht : t' = true → m = i) :
    VRel S w (.sl sz t' (xs.take i)) [.slice a i m] := by
  obtain ⟨a', cap', e, l, _, r⟩ := h
  simp only [List.cons.injEq, Value.slice.injEq, and_true] at e
  obtain ⟨rfl, rfl, rfl⟩ := e
  have hl : (xs.take i).length = i := by simp; omega
  refine ⟨a, m, by rw [hl], by rw [hl]; exact hm, fun x => by rw [hl]; exact ht x, ?_⟩
  rcases r with rfl | ⟨k, off, vs, e1, hS, hv, hr⟩
  · left; simp
  · exact .inr ⟨k, off, _, e1, hS, hv.take i hi, hr.take _⟩

theorem sl_drop {S : Nat → Prop} {sz : Nat} {t : Bool} {xs : List AV} {a : Option Addr} {len cap : Nat} (h : VRel S w (.sl sz t xs) [.slice a len cap]) {i m : Nat} (hi : i ≤ xs.length) (hm : xs.length ≤ m) :
    VRel S w (.sl sz false (xs.drop i)) [.slice (if m = i then a else a.map (·.add (i * sz))) (xs.length - i) (m - i)] := by
  obtain ⟨a', cap', e, l, _, r⟩ := h
  simp only [List.cons.injEq, Value.slice.injEq, and_true] at e
  obtain ⟨rfl, rfl, rfl⟩ := e
  have hl : (xs.drop i).length = xs.length - i := by simp
  refine ⟨_, m - i, by rw [hl], by rw [hl]; omega, by simp, ?_⟩
  by_cases hlt : i < xs.length
  · rcases r with rfl | ⟨k, off, vs, e1, hS, hv, hr⟩
    · simp at hlt
    · refine .inr ⟨k, off + i * sz, _, ?_, hS, hv.drop i hi, hr.drop _⟩
      rw [if_neg (by omega), e1]
      simp [add_eq]
  · left; simp; omega

theorem op_slice (cx : Cx P T ρ H B N w e cv) {o : Oper} {d t : Nat} {x : Operand} {lo hi mx : Option Operand} (ho : o.op = .slice t x lo hi mx) {v : AV} {u : Upd} {C : Prop} (h : (aop T d e (.slice t x lo hi mx)).run H = .val v u C) (hC : C) : Does P (execOp cv o) ρ H B N w v u := by
  simp only [aop] at h
  split at h
  · rename_i el s0 b0 z0 e0
    split at h
    · rename_i i hi0
      obtain ⟨v', u', h1, hu, hp, _, hs⟩ := frz_elim h (by simp)
      have hx := hs ρ B N w _ cx.hr (cx.rel x)
      have hte := cx.ty _ _ hi0
      have hex : ∀ c, (Instr.slice t (cv x) (lo.map cv) (hi.map cv) (mx.map cv)).run P w = .ok c w → (execOp cv o).run P w = .ok (.value c) w := by
        intro c hc
        simp [execOp, ho, Instr.sliceAt, run_underlying (cx.ty _ _ e0).slice, hc]
      have hbody : ∀ a len cap l h m, cv x = .slice a len cap → (Instr.sliceBounds true len cap (lo.map cv) (hi.map cv) (mx.map cv)).run P w = .ok (l, h, m) w →
          (Instr.slice t (cv x) (lo.map cv) (hi.map cv) (mx.map cv)).run P w = .ok (.slice (if m = l then a else a.map (·.add (l * i.size))) (h - l) (m - l)) w := by
        intro a len cap l h m h1 h2
        simp [Instr.slice, run_underlying (cx.ty _ _ e0).slice, h1, h2, hte.run_size]
      have hadd : ∀ (a : Option Addr), a.map (·.add (0 * i.size)) = a := by
        intro a; cases a <;> simp [Addr.add]
      have hint : ∀ (y : Operand) k n, e y = .int k n → cv y = .int k n := fun y k n hy => by
        have := cx.rel y; rw [hy] at this; exact this
      have hsome : ∀ (z : Option Operand) k n, z.map e = some (.int k n) → z.map cv = some (.int k n) := by
        intro z k n hz
        cases z with
        | none => simp at hz
        | some y => simp at hz; simp [hint y k n hz]
      have hnone : ∀ (z : Option Operand), z.map e = none → z.map cv = none := by
        intro z hz; cases z <;> simp at hz ⊢
      split at h1
      · rename_i sz tg xs k hh e1 e2 e3 _
        simp only [Ask.run, Ev.val.injEq] at h1
        obtain ⟨rfl, rfl, rfl⟩ := h1
        obtain ⟨c1, c2⟩ := hC
        obtain ⟨a, cap, e4, l, tt, r⟩ := hx
        simp at e4
        have hb := hbody a xs.length cap 0 hh.toNat cap e4 (by
          rw [hnone _ e1, hsome _ _ _ e2, hnone _ e3]
          simp [Instr.sliceBounds, run_bound (P := P) (w := w) c1 (show hh ≤ (cap : Nat) by omega)])
        rw [hadd] at hb
        simp only [ite_self, Nat.sub_zero] at hb
        refine Does.fu cx.hr hu (hex _ hb) ?_
        simp only [SlotRel]
        exact sl_take (t := tg) ⟨a, cap, rfl, l, tt, r⟩ (by omega) (by omega) (by simp)
      · rename_i sz tg xs k hh k2 mm e1 e2 e3 _
        simp only [Ask.run, Ev.val.injEq] at h1
        obtain ⟨rfl, rfl, rfl⟩ := h1
        obtain ⟨c1, c2, rfl⟩ := hC
        obtain ⟨a, cap, e4, l, tt, r⟩ := hx
        simp at e4
        have hb := hbody a xs.length cap 0 mm.toNat mm.toNat e4 (by
          rw [hnone _ e1, hsome _ _ _ e2, hsome _ _ _ e3]
          simp [Instr.sliceBounds, run_bound (P := P) (w := w) (i := mm) (y := cap) c1 (by omega), run_bound (P := P) (w := w) (i := mm) (y := mm.toNat) c1 (by omega)])
        rw [hadd] at hb
        simp only [ite_self, Nat.sub_zero] at hb
        refine Does.fu cx.hr hu (hex _ hb) ?_
        simp only [SlotRel]
        exact sl_take (t := tg) ⟨a, cap, rfl, l, tt, r⟩ (by omega) (by omega) (by simp)
      · rename_i sz tg xs k ll e1 e2 e3 _
        simp only [Ask.run, Ev.val.injEq] at h1
        obtain ⟨rfl, rfl, rfl⟩ := h1
        obtain ⟨c1, c2, rfl⟩ := hC
        obtain ⟨a, cap, e4, l, tt, r⟩ := hx
        simp at e4
        have hb := hbody a xs.length cap ll.toNat xs.length cap e4 (by
          rw [hsome _ _ _ e1, hnone _ e2, hnone _ e3]
          simp [Instr.sliceBounds, run_bound (P := P) (w := w) (i := ll) (y := xs.length) c1 c2])
        refine Does.fu cx.hr hu (hex _ hb) ?_
        simp only [SlotRel]
        exact sl_drop (t := tg) ⟨a, cap, rfl, l, tt, r⟩ (by omega) l
      · rename_i sz tg xs k ll k2 hh e1 e2 e3 _
        simp only [Ask.run, Ev.val.injEq] at h1
        obtain ⟨rfl, rfl, rfl⟩ := h1
        obtain ⟨c1, c2, c3, rfl⟩ := hC
        obtain ⟨a, cap, e4, l, tt, r⟩ := hx
        simp at e4
        have hb := hbody a xs.length cap ll.toNat hh.toNat cap e4 (by
          rw [hsome _ _ _ e1, hsome _ _ _ e2, hnone _ e3]
          simp [Instr.sliceBounds, run_bound (P := P) (w := w) (i := hh) (y := cap) (by omega) (by omega), run_bound (P := P) (w := w) (i := ll) (y := hh.toNat) c1 (by omega)])
        refine Does.fu cx.hr hu (hex _ hb) ?_
        simp only [SlotRel]
        have h5 := sl_take (t := tg) (t' := false) ⟨a, cap, rfl, l, tt, r⟩ (i := hh.toNat) (m := cap) (by omega) (by omega) (by simp)
        have hl : (xs.take hh.toNat).length = hh.toNat := by simp; omega
        have h6 := sl_drop h5 (i := ll.toNat) (m := cap) (by omega) (by omega)
        rwa [hl] at h6
      · simp [Ask.run] at h1
    · simp [Ask.run] at h
  · rename_i n el s0 b0 z0 e0
    split at h
    · rename_i i hi0
      obtain ⟨v', u', h1, hu, hp, _, hs⟩ := frz_elim h (by simp)
      have hx := hs ρ B N w _ cx.hr (cx.rel x)
      have hte := cx.ty _ _ hi0
      split at h1
      · rename_i c p o' _
        split at h1
        · rename_i sz m xs e5
          simp only [Ask.run, Ev.val.injEq] at h1
          obtain ⟨rfl, rfl, rfl⟩ := h1
          obtain ⟨rfl, c2, c3, rfl⟩ := hC
          obtain ⟨k, off, vs, hcv, hS, hv, hrd⟩ := hx
          simp at hcv
          obtain ⟨l1, lc, l2, e1, m1, m2, m3, _⟩ := VRel.path p c vs hv c2
          rw [e5] at m2
          obtain ⟨q1, q2⟩ := m2
          have hrun : (execOp cv o).run P w = .ok (.value (.slice (some ⟨k, off + o'.sum, none⟩) m m)) w := by
            simp [execOp, ho, Instr.sliceAt, run_underlying (cx.ty _ _ e0).array, hcv, Instr.sureAddr, Instr.sliceBounds, hte.run_size, Addr.add]
          refine Does.fu cx.hr hu hrun ?_
          simp only [SlotRel, VRel]
          refine ⟨_, m, by rw [q1], by rw [q1]; exact Nat.le_refl _, fun _ => q1.symm, .inr ⟨k, off + o'.sum, lc, rfl, hS, q2, ?_⟩⟩
          have : vs = l1 ++ (lc ++ l2) := by rw [e1]; simp
          have h6 := (hrd.drop l1.length).take lc.length
          rw [this, List.drop_left, List.take_left, m1, c3] at h6
          exact h6
        · simp [Ask.run] at h1
      · simp [Ask.run] at h1
    · simp [Ask.run] at h
  · simp [Ask.run] at h

/-! ### Addresses -/
theorem op_fieldAddr (cx : Cx P T ρ H B N w e cv) {o : Oper} {d t f : Nat} {x : Operand} (ho : o.op = .fieldAddr t x f) {v : AV} {u : Upd} {C : Prop} (h : (aop T d e (.fieldAddr t x f)).run H = .val v u C) (hC : C) : Does P (execOp cv o) ρ H B N w v u := by
  have hx := cx.rel x
  simp only [aop] at h
  split at h
  · rename_i fs s0 b0 z0 e0
    split at h
    · rename_i off ft hf
      split at h
      · rename_i i hi0
        obtain ⟨fields, d1, d2⟩ := (cx.ty _ _ e0).struct
        have hte := cx.ty _ _ hi0
        rw [← d2, List.getElem?_map] at hf
        cases hfl : fields.toList[f]? with
        | none => rw [hfl] at hf; simp at hf
        | some F =>
          rw [hfl] at hf
          simp at hf
          obtain ⟨rfl, rfl⟩ := hf
          have hfl' : fields[f]? = some F := by simpa using hfl
          have hrun : ∀ k o', cv x = .pointer (some ⟨k, o', none⟩) → 0 < i.size → (execOp cv o).run P w = .ok (.value (.pointer (some ⟨k, o' + F.offset, none⟩))) w := by
            intro k o' h1 h2
            simp [execOp, ho, Instr.fieldAt, run_underlying d1, hfl', h1, Instr.sureAddr, fieldPlace, hte.run_size, Nat.pos_iff_ne_zero.1 h2, add_eq]
          split at h
          · rename_i id p o' ex
            simp only [Ask.run] at h
            split at h
            · rename_i b hb
              simp only [Ask.run, Ev.val.injEq] at h
              obtain ⟨rfl, rfl, rfl⟩ := h
              rw [ex] at hx
              obtain ⟨k, g1, g2⟩ := hx b hb
              refine Does.same cx.hr (hrun k _ g2 hC) ?_
              intro b' hb'
              exact ⟨k, g1, by simp⟩
            · simp [Ask.run] at h
          · rename_i c p o' ex
            simp only [Ask.run, Ev.val.injEq] at h
            obtain ⟨rfl, rfl, rfl⟩ := h
            rw [ex] at hx
            obtain ⟨k, off, vs, hcv, hS, hv, hrd⟩ := hx
            simp at hcv
            refine Does.same cx.hr (hrun k _ hcv hC) ?_
            simp only [SlotRel, VRel]
            exact ⟨k, off, vs, by simp [Nat.add_assoc], hS, hv, hrd⟩
          · simp [Ask.run] at h
      · simp [Ask.run] at h
    · simp [Ask.run] at h
  · simp [Ask.run] at h

theorem op_indexAddr (cx : Cx P T ρ H B N w e cv) {o : Oper} {d t : Nat} {x ix : Operand} (ho : o.op = .indexAddr t x ix) {v : AV} {u : Upd} {C : Prop} (h : (aop T d e (.indexAddr t x ix)).run H = .val v u C) (hC : C) : Does P (execOp cv o) ρ H B N w v u := by
  have hx := cx.rel x
  have hi := cx.rel ix
  simp only [aop] at h
  split at h
  · rename_i kj j ej
    rw [ej] at hi
    simp only [SlotRel] at hi
    split at h
    · rename_i n el s0 b0 z0 e0
      have hrun : ∀ i k o', look T el = some i → cv x = .pointer (some ⟨k, o', none⟩) → 0 ≤ j ∧ j < (n : Nat) → (execOp cv o).run P w = .ok (.value (.pointer (some ⟨k, o' + j.toNat * i.size, none⟩))) w := by
        intro i k o' h1 h2 h3
        simp [execOp, ho, Instr.indexAt, run_underlying (cx.ty _ _ e0).array, hi, asIntOf, h2, Instr.sureAddr, h3.1, h3.2, (cx.ty _ _ h1).run_size, add_eq]
      split at h
      · rename_i i id p o' ei ex
        simp only [Ask.run] at h
        split at h
        · rename_i b hb
          simp only [Ask.run, Ev.val.injEq] at h
          obtain ⟨rfl, rfl, rfl⟩ := h
          rw [ex] at hx
          obtain ⟨k, g1, g2⟩ := hx b hb
          refine Does.same cx.hr (hrun i k _ ei g2 hC) ?_
          intro b' hb'
          exact ⟨k, g1, by simp⟩
        · simp [Ask.run] at h
      · rename_i i c p o' ei ex
        simp only [Ask.run, Ev.val.injEq] at h
        obtain ⟨rfl, rfl, rfl⟩ := h
        rw [ex] at hx
        obtain ⟨k, off, vs, hcv, hS, hv, hrd⟩ := hx
        simp at hcv
        refine Does.same cx.hr (hrun i k _ ei hcv hC) ?_
        simp only [SlotRel, VRel]
        exact ⟨k, off, vs, by simp [Nat.add_assoc], hS, hv, hrd⟩
      · simp [Ask.run] at h
    · rename_i el s0 b0 z0 e0
      have hrun : ∀ i k len cap off, look T el = some i → cv x = .slice (some ⟨k, off, none⟩) len cap → 0 ≤ j ∧ j < (len : Nat) → (execOp cv o).run P w = .ok (.value (.pointer (some ⟨k, off + j.toNat * i.size, none⟩))) w := by
        intro i k len cap off h1 h2 h3
        simp [execOp, ho, Instr.indexAt, run_underlying (cx.ty _ _ e0).slice, hi, asIntOf, h2, h3.1, h3.2, (cx.ty _ _ h1).run_size, add_eq]
      split at h
      · rename_i i sz tg xs ei ex
        simp only [Ask.run, Ev.val.injEq] at h
        obtain ⟨rfl, rfl, rfl⟩ := h
        rw [ex] at hx
        obtain ⟨a, cap, e4, l, tt, r⟩ := hx
        simp at e4
        rcases r with rfl | ⟨k, off, vs, e1, hS, hv, hr⟩
        · exfalso; have := hC.2; simp at this; omega
        · subst e1
          refine Does.same cx.hr (hrun i k _ _ _ ei e4 hC) ?_
          simp only [SlotRel, VRel]
          exact ⟨k, off, vs, by simp, hS, hv, hr⟩
      · rename_i i id ei ex
        simp only [Ask.run] at h
        split at h
        · rename_i sz xs f hb
          simp only [Ask.run, Ev.val.injEq] at h
          obtain ⟨rfl, rfl, rfl⟩ := h
          rw [ex] at hx
          obtain ⟨sz', xs', ec, hh⟩ := hx _ hb
          cases ec
          rcases hh with ⟨hx0, _, _⟩ | ⟨k, cap, arr, T', g1, g2, _⟩
          · exfalso; have := hC.2; rw [hx0] at this; simp at this; omega
          · refine Does.same cx.hr (hrun i k _ _ _ ei g2 hC) ?_
            intro b' hb'
            exact ⟨k, g1, by simp⟩
        · simp [Ask.run] at h
      · simp [Ask.run] at h
    · simp [Ask.run] at h
  · simp [Ask.run] at h


end
end Go.Abs
