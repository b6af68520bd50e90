/- Operations of the model do what the abstract ones say, third part: literals, makes, cuts, addresses, elements: for every program, world and state. -/
import Derived.Test.YtacebpbhddkelaaAbsI
namespace Go.Abs

theorem frzAll_elim : ∀ (vs : List AV) {k : List AV → Upd → Ask} {H : Hp} {r : Ev}, (frzAll vs k).run H = r → r ≠ .bad →
    ∃ vs' u, (k vs' u).run H = r ∧ FU H u ∧ (∀ v ∈ vs', v.plain = true) ∧ vs'.length = vs.length ∧
      ∀ ρ B N w cvs, HRel ρ H B N w → SlotsRel ρ H (Sof ρ H B) w vs cvs → SlotsRel ρ (updH H u) (Sof ρ (updH H u) B) w vs' cvs
  | [], k, H, r, h, _ => ⟨[], [], h, FU.nil H, by simp, rfl, fun _ _ _ _ _ _ hs => hs⟩
  | v :: vs, k, H, r, h, hr => by
    simp only [frzAll] at h
    obtain ⟨v', u, h1, hu, hp, _, hs⟩ := frz_elim h hr
    obtain ⟨vs', u', h2, hu', hp', hl, hs'⟩ := frzAll_elim vs h1 hr
    refine ⟨v' :: vs', u ++ u', h2, hu.append hu', fun x hx => ?_, by simp [hl], fun ρ B N w cvs hrel h3 => ?_⟩
    · rcases List.mem_cons.1 hx with rfl | hx
      · exact hp
      · exact hp' x hx
    · obtain ⟨c, rest, rfl, h4, h5⟩ := h3
      refine ⟨c, rest, rfl, ?_, ?_⟩
      · rw [FU.upd_comm hu hu']
        exact FU.slot (FU.hrel hrel hu) (FU.of_append hu hu') (hs ρ B N w c hrel h4)
      · have := hs' ρ B N w rest hrel h5
        rw [updH_append]
        have hfu : FU (updH H u') u := FU.of_append hu' hu
        have st := FU.step (FU.hrel hrel hu') hfu
        refine (slots_keep (F := No) (S := Sof ρ (updH H u') B) (w := w) (fun k hk => FU.sof (FU.hrel hrel hu') hfu k hk) (fun _ _ _ => rfl) (fun id b' hb' => .inr ?_) _ _ (fun id x => x.elim) this)
        obtain ⟨b, hb, hc, _⟩ := hfu.upd id b' hb'
        exact ⟨b, hb, rfl, fun sz xs e => ⟨xs, by rw [← hc]; exact e, rfl⟩, fun k arr T _ e => ⟨arr, T, e, rfl⟩⟩

/-- Values that lie in no slot any more: each with its cells. -/
def Cellss (S : Nat → Prop) (w : World) : List AV → List Value → Prop
  | [], cvs => cvs = []
  | v :: vs, cvs => ∃ c rest, cvs = c :: rest ∧ VRel S w v c.cells.toList ∧ Cellss S w vs rest

theorem cellss_of_slots {ρ : Nat → Option Nat} {H : Hp} {S : Nat → Prop} {w : World} : ∀ (vs : List AV) (cvs : List Value), SlotsRel ρ H S w vs cvs → (∀ v ∈ vs, v.plain = true) → Cellss S w vs cvs
  | [], _, h, _ => h
  | v :: vs, _, h, hp => by
    obtain ⟨c, rest, rfl, h1, h2⟩ := h
    obtain ⟨cs, h3, _, h4⟩ := vrel_of_slot h1 (hp v (by simp))
    exact ⟨c, rest, rfl, by rw [h4]; exact h3, cellss_of_slots vs rest h2 fun x hx => hp x (by simp [hx])⟩

theorem splice_fold (off : Nat) : ∀ (l : List Value) (j : Nat) (cells : Array Value), off + j + l.length ≤ cells.size →
    ((l.zipIdx j).foldl (fun cs (p : Value × Nat) => cs.setIfInBounds (off + p.2) p.1) cells).toList = cells.toList.take (off + j) ++ l ++ cells.toList.drop (off + j + l.length)
  | [], j, cells, _ => by simp
  | v :: l, j, cells, h => by
    have hlt : off + j < cells.size := by simp at h; omega
    simp only [List.zipIdx_cons, List.foldl_cons]
    rw [splice_fold off l (j + 1) (cells.setIfInBounds (off + j) v) (by simp only [List.length_cons] at h; simp only [Array.size_setIfInBounds]; omega)]
    simp only [Array.toList_setIfInBounds]
    rw [show off + (j + 1) = off + j + 1 by omega, take_set_succ _ _ _ (by simpa using hlt), List.drop_set_of_lt (by omega)]
    simp [Nat.add_assoc, Nat.add_comm 1]

theorem fill_rel {S : Nat → Prop} {w : World} {szf : Nat → Nat} {place : Nat → Option (Nat × Nat)} : ∀ (is : List Nat) (vs : List AV) (cvs : List Value) (zs : List AV) (cells : Array Value), VAll S w szf 0 zs cells.toList →
    (∀ i, i < zs.length → place i = some (pre szf 0 i, szf i)) → Cellss S w vs cvs → (∀ p ∈ is.zip vs, p.1 < zs.length ∧ p.2.size = szf p.1) →
    ∃ cells', Instr.fill place cells (is.zip cvs) = some cells' ∧ VAll S w szf 0 ((is.zip vs).foldl (fun l p => l.set p.1 (loose p.2)) zs) cells'.toList
  | [], vs, cvs, zs, cells, h, _, _, _ => ⟨cells, by simp [Instr.fill], by simpa using h⟩
  | i :: is, [], cvs, zs, cells, h, _, hc, _ => by
    simp only [Cellss] at hc; subst hc
    exact ⟨cells, by simp [Instr.fill], by simpa using h⟩
  | i :: is, v :: vs, cvs, zs, cells, h, hpl, hc, hp => by
    obtain ⟨c, rest, rfl, hv, hrest⟩ := hc
    obtain ⟨h1, h2⟩ := hp (i, v) (by simp)
    obtain ⟨c1, cc, c2, e1, l1, _, l2, hset⟩ := VAll.at_ zs cells.toList 0 i h h1
    rw [Nat.zero_add] at l2 hset
    have hlen : c.cells.size = szf i := by rw [← Array.length_toList, hv.len, h2]
    have hsz : cells.size = c1.length + (szf i + c2.length) := by
      rw [← Array.length_toList, e1]; simp [l2]
    have hfold : (c.cells.zipIdx.foldl (fun cs (c, j) => cs.setIfInBounds (pre szf 0 i + j) c) cells).toList = c1 ++ c.cells.toList ++ c2 := by
      rw [← Array.foldl_toList, Array.toList_zipIdx]
      have := splice_fold (pre szf 0 i) c.cells.toList 0 cells (by rw [Nat.add_zero, Array.length_toList, hlen, hsz, l1]; omega)
      rw [Nat.add_zero, Array.length_toList, hlen, e1, ← l1] at this
      rw [← l1]
      refine this.trans ?_
      rw [List.append_assoc c1, List.take_left, List.drop_length_add_append, ← l2, List.drop_left]
    obtain ⟨cells', g1, g2⟩ := fill_rel is vs rest (zs.set i (loose v)) (c.cells.zipIdx.foldl (fun cs (c, j) => cs.setIfInBounds (pre szf 0 i + j) c) cells)
      (by rw [hfold]; exact hset _ _ (loose_rel hv) (by rw [Array.length_toList, hlen])) (fun j hj => hpl j (by simpa using hj)) hrest (fun p hp' => by
        obtain ⟨a, b⟩ := hp p (by simp [hp']); exact ⟨by simpa using a, b⟩)
    refine ⟨cells', ?_, by simpa using g2⟩
    simp only [List.zip_cons_cons, Instr.fill, hpl i h1, hlen, Bool.false_or, ne_eq, not_true_eq_false, decide_false]
    rw [if_neg (by rw [decide_eq_true_eq, hsz, l1]; omega)]
    exact g1

theorem flat_made (zero : Array Value) (s : Nat) (hz : zero.size = s) (h0 : 0 < s) : ∀ n, ((Array.range (n * s)).map (zero[· % zero.size]!)).toList = (List.replicate n zero.toList).flatten
  | 0 => by simp
  | n + 1 => by
    have ih := flat_made zero s hz h0 n
    simp only [Array.toList_map, Array.toList_range] at ih ⊢
    rw [Nat.add_mul, Nat.one_mul, List.range_add, List.map_append, ih, List.replicate_succ', List.flatten_append]
    congr 1
    simp only [List.map_map, List.flatten_cons, List.flatten_nil, List.append_nil]
    apply List.ext_getElem
    · simp [hz]
    · intro j h1 h2
      have hj : j < zero.size := by simpa using h2
      simp [hz, Nat.add_mod, Nat.mod_eq_of_lt (show j < s by omega), getElem!_pos zero j hj]

theorem vall_replicate {S : Nat → Prop} {w : World} {z : AV} {cs : List Value} {s : Nat} (h : VRel S w z cs) (hl : cs.length = s) : ∀ (n j : Nat), VAll S w (fun _ => s) j (List.replicate n z) (List.replicate n cs).flatten
  | 0, j => by simp [VAll]
  | n + 1, j => by
    simp only [List.replicate_succ, List.flatten_cons]
    exact ⟨cs, _, rfl, h, hl, vall_replicate h hl n (j + 1)⟩

section
variable {P : Program} {T : Tys} {ρ : Nat → Option Nat} {H : Hp} {B N : Nat → Prop} {w : World} {e : Operand → AV} {cv : Operand → Value}

theorem slots_map (cx : Cx P T ρ H B N w e cv) : ∀ (xs : List Operand), SlotsRel ρ H (Sof ρ H B) w (xs.map e) (xs.map cv)
  | [] => by simp [SlotsRel]
  | x :: xs => ⟨cv x, xs.map cv, rfl, cx.rel x, slots_map cx xs⟩

theorem mapM_pure {α β : Type} (f : α → Sem β) (g : α → β) (l : List α) (h : ∀ x ∈ l, ∀ w, (f x).run P w = .ok (g x) w) (w : World) : (l.mapM f).run P w = .ok (l.map g) w := by
  induction l with
  | nil => simp
  | cons a l ih =>
    simp only [List.mapM_cons, Sem.run_bind, h a (by simp), Result.andThen_ok, ih (fun x hx => h x (by simp [hx])), Sem.run_pure, List.map_cons]

theorem fieldsOk_spec (hT : TysOk P T) : ∀ (fs : List (Nat × Nat)) (szs : List Nat) (off : Nat), fieldsOk T off fs szs = true →
    fs.length = szs.length ∧ (∀ f ∈ fs, ∃ i, look T f.2 = some i ∧ TyOk P f.2 i) ∧ ∀ i, i < szs.length → ∃ f j, fs[i]? = some f ∧ look T f.2 = some j ∧ f.1 = off + (szs.take i).sum ∧ j.size = szs.getD i 0
  | [], [], off, _ => ⟨rfl, by simp, by simp⟩
  | f :: fs, s :: szs, off, h => by
    simp only [fieldsOk, Bool.and_eq_true, Nat.beq_eq] at h
    obtain ⟨⟨h1, h2⟩, h3⟩ := h
    obtain ⟨g1, g2, g3⟩ := fieldsOk_spec hT fs szs (off + s) h3
    cases hl : look T f.2 with
    | none => rw [hl] at h2; simp at h2
    | some i =>
      rw [hl] at h2
      simp only [Nat.beq_eq] at h2
      refine ⟨by simp [g1], fun x hx => ?_, fun i' hi => ?_⟩
      · rcases List.mem_cons.1 hx with rfl | hx
        · exact ⟨i, hl, hT _ _ hl⟩
        · exact g2 x hx
      · cases i' with
        | zero => exact ⟨f, i, rfl, hl, by simp [h1], by simpa using h2⟩
        | succ i' =>
          obtain ⟨f', j, k1, k2, k3, k4⟩ := g3 i' (by simpa using hi)
          exact ⟨f', j, by simpa using k1, k2, by rw [k3]; simp; omega, by simpa using k4⟩
  | [], _ :: _, _, h => by simp [fieldsOk] at h
  | _ :: _, [], _, h => by simp [fieldsOk] at h

theorem op_build (cx : Cx P T ρ H B N w e cv) {o : Oper} {d t : Nat} {ps : Array (Nat × Operand)} (ho : o.op = .build t ps) {v : AV} {u : Upd} {C : Prop} (h : (aop T d e (.build t ps.toList)).run H = .val v u C) (hC : C) : Does P (execOp cv o) ρ H B N w v u := by
  simp only [aop] at h
  have hz : ∀ (L : List (Nat × Operand)), (L.map fun p => (p.1, cv p.2)) = (L.map (·.1)).zip (L.map fun p => cv p.2) := by
    intro L; induction L <;> simp_all
  have hsl : ∀ (L : List (Nat × Operand)), SlotsRel ρ H (Sof ρ H B) w (L.map fun p => e p.2) (L.map fun p => cv p.2) := by
    intro L
    have := slots_map cx (L.map (·.2))
    simpa [List.map_map, Function.comp_def] using this
  have hparts : (ps.map fun (i, x) => (i, cv x)).toList = (ps.toList.map (·.1)).zip (ps.toList.map fun p => cv p.2) := by
    rw [← hz]; simp
  split at h
  · rename_i fs sz by_ szs zs e0
    obtain ⟨vs', u', h1, hu, hp, hl, hs⟩ := frzAll_elim _ h (by simp)
    simp only [Ask.run, Ev.val.injEq] at h1
    obtain ⟨rfl, rfl, rfl⟩ := h1
    obtain ⟨c1, c2⟩ := hC
    have ht := cx.ty _ _ e0
    obtain ⟨dd, d1, d2⟩ := ht.desc
    obtain ⟨fields, rfl⟩ : ∃ fields, dd = .struct fields := by cases dd <;> simp [TyD.of] at d2; exact ⟨_, rfl⟩
    simp only [TyD.of, TyD.struct.injEq] at d2
    obtain ⟨z, z1, z2⟩ := ht.run_zero w
    obtain ⟨k1, k2, k3⟩ := fieldsOk_spec cx.ty _ _ _ c1
    have hzr := flat_rel (Sof ρ (updH H u') B) w _ _ z2
    simp only [VRel] at hzr
    obtain ⟨hzl, hzr⟩ := hzr
    have hcs := cellss_of_slots _ _ (hs ρ B N w _ cx.hr (hsl ps.toList)) hp
    let g : Field → Nat × Nat := fun f => (f.offset, ((look T f.type).map (·.size)).getD 0)
    have hplaces : (fields.mapM (m := Sem) fun f => do pure (f.offset, ← sizeOf f.type)).run P w = .ok (fields.toList.map g).toArray w := by
      rw [Array.mapM_eq_mapM_toList]
      simp only [Sem.run_map]
      rw [mapM_pure (P := P) _ g fields.toList (fun f hf w => by
        obtain ⟨i, i1, i2⟩ := k2 (f.offset, f.type) (by rw [← d2]; exact List.mem_map.2 ⟨f, hf, rfl⟩)
        simp only at i1
        simp [i2.run_size, g, i1])]
      rfl
    obtain ⟨cells', f1, f2⟩ := fill_rel (place := ((fields.toList.map g).toArray[·]?)) (ps.toList.map (·.1)) vs' (ps.toList.map fun p => cv p.2) zs z.cells hzr (fun i hi => by
      obtain ⟨f, j, q1, q2, q3, q4⟩ := k3 i (by omega)
      rw [← d2, List.getElem?_map] at q1
      cases hf : fields.toList[i]? with
      | none => rw [hf] at q1; simp at q1
      | some f' =>
        rw [hf] at q1; simp at q1
        subst q1
        simp only at q2 q3
        rw [pre_list _ _ _ (by omega)]
        simp [hf, g, q2, q3, q4]) hcs (fun p hp' => c2 p hp')
    have hlen : ∀ (l : List (Nat × AV)) (zs : List AV), (l.foldl (fun l p => l.set p.1 (loose p.2)) zs).length = zs.length := by
      intro l; induction l with
      | nil => simp
      | cons a l ih => intro zs; simp [ih]
    refine Does.fu cx.hr hu (c := .agg cells') ?_ ?_
    · simp only [execOp, ho, Instr.build, Sem.run_bind, z1, Result.andThen_ok, run_underlying d1, hplaces, hparts, f1, Sem.run_pure]
    · simp only [SlotRel, VRel]
      exact ⟨cells'.toList, ⟨by rw [hlen]; exact hzl, f2⟩, by simp⟩
  · rename_i n0 el sz0 by_ sz n zs e0
    obtain ⟨vs', u', h1, hu, hp, hl, hs⟩ := frzAll_elim _ h (by simp)
    simp only [Ask.run, Ev.val.injEq] at h1
    obtain ⟨rfl, rfl, rfl⟩ := h1
    obtain ⟨⟨i, c1, c3⟩, c2⟩ := hC
    have ht := cx.ty _ _ e0
    obtain ⟨dd, d1, d2⟩ := ht.desc
    obtain ⟨n1, e1, rfl⟩ : ∃ n1 e1, dd = .array n1 e1 := by cases dd <;> simp [TyD.of] at d2; exact ⟨_, _, rfl⟩
    simp only [TyD.of, TyD.arr.injEq] at d2
    obtain ⟨rfl, rfl⟩ := d2
    obtain ⟨z, z1, z2⟩ := ht.run_zero w
    have hzr := flat_rel (Sof ρ (updH H u') B) w _ _ z2
    simp only [VRel] at hzr
    obtain ⟨hzl, hzr⟩ := hzr
    have hcs := cellss_of_slots _ _ (hs ρ B N w _ cx.hr (hsl ps.toList)) hp
    obtain ⟨cells', f1, f2⟩ := fill_rel (place := fun i => some (i * sz, sz)) (ps.toList.map (·.1)) vs' (ps.toList.map fun p => cv p.2) zs z.cells hzr (fun i hi => by rw [pre_const]) hcs (fun p hp' => c2 p hp')
    have hlen : ∀ (l : List (Nat × AV)) (zs : List AV), (l.foldl (fun l p => l.set p.1 (loose p.2)) zs).length = zs.length := by
      intro l; induction l with
      | nil => simp
      | cons a l ih => intro zs; simp [ih]
    refine Does.fu cx.hr hu (c := .agg cells') ?_ ?_
    · simp only [execOp, ho, Instr.build, Sem.run_bind, z1, Result.andThen_ok, run_underlying d1, (cx.ty _ _ c1).run_size, c3, hparts, f1, Sem.run_pure]
    · simp only [SlotRel, VRel]
      exact ⟨cells'.toList, ⟨by rw [hlen]; exact hzl, f2⟩, by simp⟩
  · simp [Ask.run] at h

end
end Go.Abs
