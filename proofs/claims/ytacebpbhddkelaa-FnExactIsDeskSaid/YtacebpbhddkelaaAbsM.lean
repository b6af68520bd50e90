/- Operations of the model do what the abstract ones say, sixth part: append, and equality of arrays: for every program, world and state. -/
import Derived.Test.YtacebpbhddkelaaAbsL
namespace Go.Abs
section
variable {P : Program} {T : Tys} {ρ : Nat → Option Nat} {H : Hp} {B N : Nat → Prop} {w : World} {e : Operand → AV} {cv : Operand → Value}

theorem growBy_le (need : Nat) : ∀ (r c : Nat), c < need → 256 ≤ c → Builtin.growBy need r c ≤ 2 * need
  | 0, c, h, _ => by simp [Builtin.growBy]; omega
  | r + 1, c, h, h2 => by
    simp only [Builtin.growBy]
    rw [if_neg (by omega)]
    by_cases hc : c + (c + 768) / 4 < need
    · exact growBy_le need r _ hc (by omega)
    · cases r with
      | zero => simp [Builtin.growBy]; omega
      | succ r => simp only [Builtin.growBy]; rw [if_pos (by omega)]; omega

theorem nextcap_le {need old : Nat} (h : old < need) : Builtin.nextslicecap need old ≤ 2 * need := by
  unfold Builtin.nextslicecap
  split
  · omega
  · split
    · omega
    · exact growBy_le need 4 old h (by omega)

/-- What a slice's first elements are. -/
theorem run_first {size n : Nat} {a : Option Addr} {len cap : Nat} {cs : List Value} (h : (n = 0 ∧ cs = []) ∨ ∃ k off, a = some ⟨k, off, none⟩ ∧ Reads w k off cs ∧ cs.length = n * size) : (Builtin.firstCells size n (.slice a len cap)).run P w = .ok cs.toArray w := by
  rcases h with ⟨rfl, rfl⟩ | ⟨k, off, rfl, hr, hl⟩
  · cases a with
    | none => simp [Builtin.firstCells]
    | some a =>
      simp only [Builtin.firstCells, Nat.zero_mul]
      rfl
  · simp only [Builtin.firstCells]
    rw [← hl]
    exact run_loadReads hr

theorem reads_heap {w w' : World} (h : w'.heap = w.heap) {k off : Nat} {cs : List Value} (hr : Reads w k off cs) : Reads w' k off cs := by
  intro j hj
  rw [← hr j hj]
  exact cell?_block (by rw [h])

/-- append: within the capacity. -/
theorem run_append_fits {o : Oper} {args : Array Operand} {ts : Array Nat} (ho : o.op = .call ⟨.builtin .append, args, ts⟩) {s x : Operand} {t t2 el el2 : Nat} (ha : args.toList = [s, x]) (hts : ts.toList = [t, t2])
    (h1 : P.underlying t = some (.slice el)) (h2 : P.underlying t2 = some (.slice el2)) {i : TyA} (hte : TyOk P el i) {base a : Option Addr} {sLen sCap n c2 : Nat} {ds : List Value} (hs : cv s = .slice base sLen sCap) (hx : cv x = .slice a n c2)
    (hd : (Builtin.firstCells i.size n (.slice a n c2)).run P w = .ok ds.toArray w) (hfit : sLen + n ≤ sCap) {w' : World}
    (hst : (match base with | some b => storeCells (b.add (sLen * i.size)) ds | none => pure ()).run P w = .ok () w') : (execOp cv o).run P w = .ok (.value (.slice base (sLen + n) sCap)) w' := by
  obtain ⟨cs, hrun⟩ := blt_run (cv := cv) ho
  have ha' : args = #[s, x] := by rw [← Array.toList_inj]; simpa using ha
  have hts' : ts = #[t, t2] := by rw [← Array.toList_inj]; simpa using hts
  subst ha'; subst hts'
  rw [hrun]
  simp only [builtin, Builtin.append_, List.map_toArray, List.map_cons, List.map_nil, hs, hx]
  simp only [List.getElem?_toArray, List.getElem?_cons_zero, List.getElem?_cons_succ, Sem.run_bind, run_underlying h1, run_underlying h2, hte.run_size, Result.andThen_ok, Sem.run_pure, Bool.false_eq_true, if_false, Builtin.lenOf, if_pos hfit, Bool.not_false, if_true, hd]
  cases base with
  | none =>
    simp only [Sem.run_pure, Result.ok.injEq, true_and] at hst
    subst hst; rfl
  | some b =>
    simp only [Sem.run_bind] at hst ⊢
    simp only [hst, Result.andThen_ok, Sem.run_pure]

/-- append: beyond the capacity: a new block. -/
theorem run_append_grows {o : Oper} {args : Array Operand} {ts : Array Nat} (ho : o.op = .call ⟨.builtin .append, args, ts⟩) {s x : Operand} {t t2 el el2 : Nat} (ha : args.toList = [s, x]) (hts : ts.toList = [t, t2])
    (h1 : P.underlying t = some (.slice el)) (h2 : P.underlying t2 = some (.slice el2)) {i : TyA} (hte : TyOk P el i) {base a : Option Addr} {sLen sCap n c2 : Nat} {ds os : List Value} (hs : cv s = .slice base sLen sCap) (hx : cv x = .slice a n c2)
    (hd : ∀ w', w'.heap = w.heap → (Builtin.firstCells i.size n (.slice a n c2)).run P w' = .ok ds.toArray w') (hos : ∀ w', w'.heap = w.heap → (Builtin.firstCells i.size sLen (.slice base sLen sCap)).run P w' = .ok os.toArray w') (hfit : ¬ sLen + n ≤ sCap)
    (hbd : (sLen + n) * i.bytes ≤ 140737488355328) (hb0 : 0 < i.bytes) (hl1 : os.length = sLen * i.size) (hl2 : ds.length = n * i.size) :
    ∃ cap rest, sLen + n ≤ cap ∧ (os ++ ds ++ rest).length = cap * i.size ∧ (execOp cv o).run P w = .ok (.value (.slice (some ⟨w.heap.size, 0, none⟩) (sLen + n) cap)) (w.drew.alloc (.cells (os ++ ds ++ rest).toArray el)) := by
  obtain ⟨cs, hrun⟩ := blt_run (cv := cv) ho
  have ha' : args = #[s, x] := by rw [← Array.toList_inj]; simpa using ha
  have hts' : ts = #[t, t2] := by rw [← Array.toList_inj]; simpa using hts
  subst ha'; subst hts'
  obtain ⟨f, f1, f2, f3, z, f4, f5⟩ := hte.info
  have hneed : sLen + n ≤ 140737488355328 := Nat.le_trans (Nat.le_mul_of_pos_right _ hb0) hbd
  have hnext : ¬ Builtin.nextslicecap (sLen + n) sCap * i.bytes > 2 ^ 48 := by
    have := nextcap_le (need := sLen + n) (old := sCap) (by omega)
    have h3 : Builtin.nextslicecap (sLen + n) sCap * i.bytes ≤ 2 * (sLen + n) * i.bytes := Nat.mul_le_mul_right _ this
    have h4 : 2 * (sLen + n) * i.bytes = 2 * ((sLen + n) * i.bytes) := Nat.mul_assoc _ _ _
    omega
  have hmax : ¬ (((sLen + n : Nat) : Int) > IntKind.i64.max ∧ (false = true ∨ i.bytes = 0)) := by
    rintro ⟨_, h | h⟩
    · cases h
    · omega
  let cap := sLen + n + w.tape w.drawn (.appendCap (sLen + n) sCap el) % (2 ^ 63 - (sLen + n))
  have hzsize : z.cells.size = i.size := by
    have := (flat_rel (fun _ => True) w _ _ f5).len
    rw [← Array.length_toList, this, hte.zsize]
  have hzrun : ∀ w, (zeroValue el).run P w = .ok z w := fun w => by simp [zeroValue, run_typeInfo f1, f4]
  refine ⟨cap, (Builtin.zeroCells z.cells (cap - (sLen + n))).toList, by simp only [cap]; omega, ?_, ?_⟩
  · simp only [List.length_append, hl1, hl2, Builtin.zeroCells, Array.toList_map, List.length_map, Array.toList_range, List.length_range, hzsize]
    rw [← Nat.add_mul, ← Nat.add_mul]
    congr 1
    simp only [cap]; omega
  · rw [hrun]
    simp only [builtin, Builtin.append_, List.map_toArray, List.map_cons, List.map_nil, hs, hx]
    simp only [List.getElem?_toArray, List.getElem?_cons_zero, List.getElem?_cons_succ, Sem.run_bind, run_underlying h1, run_underlying h2, hte.run_size, Result.andThen_ok, Sem.run_pure, Bool.false_eq_true, if_false, Builtin.lenOf, if_neg hfit, Bool.not_false, if_true, run_typeInfo f1, f3]
    rw [if_neg (by simpa using hmax)]
    simp only [Sem.run_bind, run_typeInfo f1, Result.andThen_ok, f3]
    rw [if_neg hnext]
    simp only [Sem.run_bind, run_choose, Question.forced, Bool.false_eq_true, if_false, Result.andThen_ok, Question.cut, run_typeInfo f1, run_askRoom, hos { w with drawn := w.drawn + 1 } rfl, hd { w with drawn := w.drawn + 1 } rfl, hzrun, newRow, run_newObj, Sem.run_pure]
    have : os.toArray ++ ds.toArray ++ Builtin.zeroCells z.cells (cap - (sLen + n)) = (os ++ ds ++ (Builtin.zeroCells z.cells (cap - (sLen + n))).toList).toArray := by
      rw [← Array.toList_inj]; simp
    simp only [cap] at this ⊢
    rw [← this]
    rfl


/-- The cells of what is appended. -/
theorem first_of_sl {S : Nat → Prop} {sz c : Nat} {t : Bool} {ys : List AV} {a : Option Addr} {n c2 : Nat} (h : VRel S w (.sl sz t ys) [.slice a n c2]) (hsz : ys = [] ∨ sz = c) :
    n = ys.length ∧ ∃ ds, VAll S w (fun _ => c) 0 ys ds ∧ ds.length = ys.length * c ∧ ∀ w', w'.heap = w.heap → (Builtin.firstCells c ys.length (.slice a n c2)).run P w' = .ok ds.toArray w' := by
  obtain ⟨a', cap', e, l, _, r⟩ := h
  simp only [List.cons.injEq, Value.slice.injEq, and_true] at e
  obtain ⟨rfl, rfl, rfl⟩ := e
  refine ⟨rfl, ?_⟩
  rcases r with rfl | ⟨k, off, vs, e1, hS, hv, hr⟩
  · exact ⟨[], rfl, by simp, fun w' _ => run_first (.inl ⟨rfl, rfl⟩)⟩
  · rcases hsz with rfl | rfl
    · exact ⟨[], rfl, by simp, fun w' _ => run_first (.inl ⟨rfl, rfl⟩)⟩
    · have hl := hv.len
      rw [pre_const] at hl
      exact ⟨vs, hv, hl, fun w' hw => run_first (.inr ⟨k, off, e1, reads_heap hw hr, hl⟩)⟩

theorem op_append (cx : Cx P T ρ H B N w e cv) {o : Oper} {args : Array Operand} {ts : Array Nat} (ho : o.op = .call ⟨.builtin .append, args, ts⟩) {s x : Operand} {t t2 : Nat} (ha : args.toList = [s, x]) (hts : ts.toList = [t, t2])
    {v : AV} {u : Upd} {C : Prop} {d m : Nat} (h : (aop T d e (.blt m .append [s, x] [t, t2])).run H = .val v u C) (hC : C) : Does P (execOp cv o) ρ H B N w v u := by
  have hs0 := cx.rel s
  simp only [aop, List.map_cons, List.map_nil] at h
  split at h
  · rename_i el s0 b0 z0 el2 s2 b2 z2 e0 e2
    split at h
    · rename_i i hi
      have hte := cx.ty _ _ hi
      have h1 := (cx.ty _ _ e0).slice
      have h2 := (cx.ty _ _ e2).slice
      obtain ⟨x', u', hk, hu, hp, _, hfs⟩ := frz_elim h (by simp)
      have hx := hfs ρ B N w _ cx.hr (cx.rel x)
      have hr1 := FU.hrel cx.hr hu
      have hsl := FU.slot cx.hr hu hs0
      split at hk
      · rename_i sz tg ys _
        obtain ⟨a, c2, ex, lx, tx, rx⟩ := hx
        simp only [List.cons.injEq, and_true] at ex
        have hxs : VRel (Sof ρ (updH H u') B) w (.sl sz tg ys) [.slice a ys.length c2] := ⟨a, c2, rfl, lx, tx, rx⟩
        split at hk
        · -- a slice that is full, or nil
          rename_i sz' xs es
          rw [es] at hsl
          obtain ⟨b, cap, e4, l4, t4, r4⟩ := hsl
          simp only [List.cons.injEq, and_true] at e4
          have hss : VRel (Sof ρ (updH H u') B) w (.sl sz' true xs) [.slice b xs.length cap] := ⟨b, cap, rfl, l4, t4, r4⟩
          have hcap := t4 rfl
          have grow : ∀ (hsz1 : xs = [] ∨ sz' = i.size) (hsz2 : ys = [] ∨ sz = i.size) (hbd : (xs.length + ys.length) * i.bytes ≤ 140737488355328) (hb0 : 0 < i.bytes) (hfit : ¬ xs.length + ys.length ≤ cap),
              ∃ cp rest os ds, xs.length + ys.length ≤ cp ∧ (os ++ ds ++ rest).length = cp * i.size ∧ VAll (Sof ρ (updH H u') B) w (fun _ => i.size) 0 (xs ++ ys) (os ++ ds) ∧
                (execOp cv o).run P w = .ok (.value (.slice (some ⟨w.heap.size, 0, none⟩) (xs.length + ys.length) cp)) (w.drew.alloc (.cells (os ++ ds ++ rest).toArray el)) := by
            intro hsz1 hsz2 hbd hb0 hfit
            obtain ⟨_, os, os1, os2, os3⟩ := first_of_sl (P := P) (c := i.size) hss hsz1
            obtain ⟨_, ds, ds1, ds2, ds3⟩ := first_of_sl (P := P) (c := i.size) hxs hsz2
            obtain ⟨cp, rest, g1, g2, g3⟩ := run_append_grows (P := P) ho ha hts h1 h2 hte e4 ex ds3 os3 hfit hbd hb0 os2 ds2
            exact ⟨cp, rest, os, ds, g1, g2, VAll.append _ _ _ _ 0 0 os1 ds1, g3⟩
          have hdrew : Only No w w.drew := Only.drew _ _
          split at hk
          · simp only [fresh, Ask.run] at hk
            split at hk
            · rename_i hn
              simp only [Ask.run, Ev.val.injEq] at hk
              obtain ⟨rfl, rfl, rfl⟩ := hk
              obtain ⟨c1, c2', c3, c4, c5, c6⟩ := hC
              by_cases hfit : xs.length + ys.length ≤ cap
              · -- nothing is appended to nothing
                have hy0 : ys = [] := by
                  have : ys.length = 0 := by omega
                  exact List.eq_nil_of_length_eq_zero this
                have hx0 : xs = [] := by
                  rcases c1 with h | h
                  · exact h
                  · exact (h hy0).elim
                subst hy0; subst hx0
                have hrun := run_append_fits (P := P) (w := w) ho ha hts h1 h2 hte e4 ex (ds := []) (run_first (.inl ⟨rfl, rfl⟩)) hfit (w' := w) (by cases b <;> simp [storeCells])
                have hst := Step.empty hr1 (nid d 0) i.size
                have hH : (fun j => if j = nid d 0 then some ⟨AV.row i.size [], false⟩ else updH H u' j) = updH H ((nid d 0, some ⟨.row i.size ([] ++ []), false⟩) :: u') := by
                  rw [updH_cons]; rfl
                rw [hH] at hst
                refine Does.after (x := [(nid d 0, some ⟨.row i.size ([] ++ []), false⟩)]) cx.hr hu hrun (.inl rfl) hst (fun id hid => ?_) ?_
                · subst hid; exact ⟨hn, ⟨.row i.size ([] ++ []), false⟩, by simp [look]⟩
                · intro bb hbb
                  have : bb = ⟨.row i.size ([] ++ []), false⟩ := by
                    have : updH H ([(nid d 0, some ⟨.row i.size ([] ++ []), false⟩)] ++ u') (nid d 0) = some ⟨.row i.size ([] ++ []), false⟩ := by simp [updH, look]
                    rw [this] at hbb; cases hbb; rfl
                  subst this
                  refine ⟨i.size, [], rfl, .inl ⟨rfl, by simp, b, ?_⟩⟩
                  rw [hcap]; rfl
              · obtain ⟨cp, rest, os, ds, g1, g2, g3, g4⟩ := grow c2' c3 c4 c5 hfit
                refine Does.alloc cx.hr cx.nb hu hn g4 (hdrew.trans (Only.alloc _ _ _ _)) (by simp) (heap_new w.drew (.cells (os ++ ds ++ rest).toArray el)) (cs := os ++ ds) (ext := rest) (by simp) (by simp only [VRel]; exact g3) ?_
                intro ρ' H' S' hρ hH bb hbb
                rw [hH] at hbb; cases hbb
                refine ⟨i.size, _, rfl, .inr ⟨w.heap.size, cp, _, el, hρ, by simp, by simpa using g1, heap_new w.drew (.cells (os ++ ds ++ rest).toArray el), ?_⟩⟩
                rw [List.size_toArray, g2]; exact Nat.le_refl _
            · simp [Ask.run] at hk
          · simp only [Ask.run, Ev.val.injEq] at hk
            obtain ⟨rfl, rfl, rfl⟩ := hk
            obtain ⟨c2', c3, c4, c5, c6⟩ := hC
            by_cases hfit : xs.length + ys.length ≤ cap
            · have hy0 : ys = [] := by
                have : ys.length = 0 := by omega
                exact List.eq_nil_of_length_eq_zero this
              subst hy0
              have hrun := run_append_fits (P := P) (w := w) ho ha hts h1 h2 hte e4 ex (ds := []) (run_first (.inl ⟨rfl, rfl⟩)) hfit (w' := w) (by cases b <;> simp [storeCells])
              refine Does.fu cx.hr hu hrun ?_
              simp only [SlotRel, List.append_nil, List.length_nil, Nat.add_zero]
              rcases r4 with rfl | r4
              · exact ⟨b, cap, rfl, by simp, by simp, .inl rfl⟩
              · rcases c2' with rfl | rfl
                · exact ⟨b, cap, rfl, by simp, by simp, .inl rfl⟩
                · exact ⟨b, cap, rfl, l4, by simp, .inr r4⟩
            · obtain ⟨cp, rest, os, ds, g1, g2, g3, g4⟩ := grow c2' c3 c4 c5 hfit
              have ho1 : Only No w (w.drew.alloc (.cells (os ++ ds ++ rest).toArray el)) := hdrew.trans (Only.alloc _ _ _ _)
              have hst := Step.grown hr1 ho1
              refine Does.after (x := []) cx.hr hu g4 (.inl rfl) hst (fun _ x => x.elim) ?_
              simp only [SlotRel, VRel]
              refine ⟨_, cp, by rw [List.length_append], by simpa using g1, by simp, .inr ⟨w.heap.size, 0, os ++ ds, rfl, ?_, VAll.keep hst.sof hst.kept _ _ _ _ g3, ?_⟩⟩
              · exact sof_new hr1 (Nat.le_refl _) (by simp)
              · exact reads_block (heap_new w.drew (.cells (os ++ ds ++ rest).toArray el)) (ext := rest) (by simp)
        · -- a slice of the call's own
          rename_i id es
          simp only [Ask.run] at hk
          split at hk
          · rename_i sz' xs hb
            simp only [fresh, Ask.run] at hk
            split at hk
            · rename_i hn
              simp only [Ask.run, Ev.val.injEq] at hk
              obtain ⟨rfl, rfl, rfl⟩ := hk
              obtain ⟨rfl, c3, c4, c5, c6, c7⟩ := hC
              have hne : nid d 0 ≠ id := fun e => by rw [e, hb] at hn; cases hn
              have hb1 : updH H u' id = some ⟨.row i.size xs, false⟩ := by
                have : ∀ (l : Upd), l.all (fun q => q.1 != id) = true → look l id = none := by
                  intro l hl
                  induction l with
                  | nil => rfl
                  | cons q l ih =>
                    obtain ⟨j, y⟩ := q
                    simp only [List.all_cons, Bool.and_eq_true, bne_iff_ne, ne_eq] at hl
                    have hj : Nat.beq j id = false := by rw [← Bool.not_eq_true, Nat.beq_eq]; exact hl.1
                    simp only [look, hj]
                    exact ih hl.2
                unfold updH; rw [this u' c7]; exact hb
              have hH : (fun j => if j = nid d 0 then some ⟨.row i.size (xs ++ ys), false⟩ else if j = id then none else updH H u' j) = updH H ((nid d 0, some ⟨.row i.size (xs ++ ys), false⟩) :: (id, none) :: u') := by
                rw [updH_cons, updH_cons]
              have hnew : NewIds H ([(nid d 0, some ⟨.row i.size (xs ++ ys), false⟩), (id, none)] ++ u') (nid d 0) := ⟨hn, ⟨.row i.size (xs ++ ys), false⟩, by simp [look]⟩
              rw [es] at hsl
              obtain ⟨sz2, xs2, ec, hh⟩ := hsl _ hb1
              cases ec
              -- the elder name is forgotten
              have hforget : ∀ {w2 : World} {ρ2 : Nat → Option Nat} {H2 : Hp} {B2 : Nat → Prop}, HRel ρ2 H2 B2 N w2 → Step No ρ2 H2 B2 N w2 ρ2 (fun j => if j = id then none else H2 j) w2 := by
                intro w2 ρ2 H2 B2 hr2
                refine Step.frozen hr2 rfl ⟨rfl, rfl, rfl⟩ fun j b' hj => ?_
                by_cases e : j = id
                · simp [e] at hj
                · simp only [e, if_false] at hj; exact ⟨b', hj, rfl, fun x => x⟩
              have grow : ∀ (base : Option Addr) (cap : Nat) (os : List Value), cv s = .slice base xs.length cap → VAll (Sof ρ (updH H u') B) w (fun _ => i.size) 0 xs os → os.length = xs.length * i.size →
                  (∀ w', w'.heap = w.heap → (Builtin.firstCells i.size xs.length (.slice base xs.length cap)).run P w' = .ok os.toArray w') → ¬ xs.length + ys.length ≤ cap →
                  Does P (execOp cv o) ρ H B N w (.osl (nid d 0)) ((nid d 0, some ⟨.row i.size (xs ++ ys), false⟩) :: (id, none) :: u') := by
                intro base cap os e4 os1 os2 os3 hfit
                obtain ⟨_, ds, ds1, ds2, ds3⟩ := first_of_sl (P := P) (c := i.size) hxs c3
                obtain ⟨cp, rest, g1, g2, g3⟩ := run_append_grows (P := P) ho ha hts h1 h2 hte e4 ex ds3 os3 hfit c4 c5 os2 ds2
                have hst1 := hforget hr1
                have hr2 := hst1.heap
                rw [Bself] at hr2
                have hhb : (w.drew.alloc (.cells (os ++ ds ++ rest).toArray el)).heap[w.heap.size]? = some (.cells (os ++ ds ++ rest).toArray el (0, 0)) := by
                  exact heap_new w.drew (.cells (os ++ ds ++ rest).toArray el)
                have ho1 : Only No w (w.drew.alloc (.cells (os ++ ds ++ rest).toArray el)) := (Only.drew _ _).trans (Only.alloc _ _ _ _)
                have hvall := VAll.append _ _ _ _ 0 0 os1 ds1
                have hsof := hst1.sof
                rw [Bself] at hsof
                have hst2 := Step.alloc hr2 ho1 (n := nid d 0) (k := w.heap.size) (c := .row i.size (xs ++ ys)) (Nat.le_refl _) (by simp) (cx.nb _ (Nat.le_refl _)) hhb (cs := os ++ ds) (ext := rest) (by simp)
                  (by simp only [VRel]; exact VAll.keep hsof (fun _ _ _ => rfl) _ _ _ _ hvall)
                rw [hH] at hst2
                have hst := hst1.trans (by rw [Bself]; exact hst2)
                refine Does.after (x := [(nid d 0, some ⟨.row i.size (xs ++ ys), false⟩), (id, none)]) cx.hr hu g3 (.inl rfl) hst (fun j hj => ?_) ?_
                · rcases hj with hj | hj
                  · exact hj.elim
                  · rw [hj]; exact hnew
                · intro bb hbb
                  have : updH H ([(nid d 0, some ⟨.row i.size (xs ++ ys), false⟩), (id, none)] ++ u') (nid d 0) = some ⟨.row i.size (xs ++ ys), false⟩ := by simp [updH, look]
                  rw [this] at hbb; cases hbb
                  refine ⟨i.size, _, rfl, .inr ⟨w.heap.size, cp, _, el, by simp, by simp, by simpa using g1, hhb, ?_⟩⟩
                  rw [List.size_toArray, g2]; exact Nat.le_refl _
              rcases hh with ⟨hx0, hρ, a0, hv0⟩ | ⟨k, cap, arr, Ty, hρ, hv0, hle, hw, hcap⟩
              · subst hx0
                by_cases hfit : ([] : List AV).length + ys.length ≤ 0
                · have hy0 : ys = [] := List.eq_nil_of_length_eq_zero (by simpa using hfit)
                  subst hy0
                  have hrun := run_append_fits (P := P) (w := w) ho ha hts h1 h2 hte hv0 ex (ds := []) (run_first (.inl ⟨rfl, rfl⟩)) hfit (w' := w) (by cases a0 <;> simp [storeCells])
                  have hst1 := hforget hr1
                  have hr2 := hst1.heap
                  rw [Bself] at hr2
                  have hst2 := Step.empty hr2 (nid d 0) i.size
                  have hst := hst1.trans (by rw [Bself]; exact hst2)
                  have hH' : (fun j => if j = nid d 0 then some ⟨AV.row i.size [], false⟩ else if j = id then none else updH H u' j) = updH H ((nid d 0, some ⟨.row i.size ([] ++ []), false⟩) :: (id, none) :: u') := hH
                  rw [hH'] at hst
                  refine Does.after (x := [(nid d 0, some ⟨.row i.size ([] ++ []), false⟩), (id, none)]) cx.hr hu hrun (.inl rfl) hst (fun j hj => ?_) ?_
                  · rcases hj with hj | hj
                    · exact hj.elim
                    · rw [hj]; exact hnew
                  · intro bb hbb
                    have : updH H ([(nid d 0, some ⟨.row i.size ([] ++ []), false⟩), (id, none)] ++ u') (nid d 0) = some ⟨.row i.size ([] ++ []), false⟩ := by simp [updH, look]
                    rw [this] at hbb; cases hbb
                    exact ⟨i.size, [], rfl, .inl ⟨rfl, by simp, a0, rfl⟩⟩
                · exact grow a0 0 [] hv0 rfl (by simp) (fun w' _ => run_first (.inl ⟨rfl, rfl⟩)) hfit
              · rcases hr1.at_ id _ hb1 with ⟨sz3, h3, h4⟩ | ⟨q, arr', Ty', cs, ext, g1, g2, g3, g4, g5, g6⟩
                · rw [h4] at hρ; cases hρ
                · rw [hρ] at g1; cases g1
                  rw [hw] at g4; cases g4
                  simp only [VRel] at g6
                  have hl6 := g6.len
                  rw [pre_const] at hl6
                  have hrd := reads_block hw g5
                  by_cases hfit : xs.length + ys.length ≤ cap
                  · obtain ⟨_, ds, ds1, ds2, ds3⟩ := first_of_sl (P := P) (c := i.size) hxs c3
                    have hsz : arr.size = xs.length * i.size + ext.length := by rw [← Array.length_toList, g5, List.length_append, hl6]
                    have hcapm : (xs.length + ys.length) * i.size ≤ cap * i.size := Nat.mul_le_mul_right _ hfit
                    rw [Nat.add_mul] at hcapm
                    obtain ⟨w', arr2, r1, r2, r3, r4, r5, r6⟩ := run_storeCells (P := P) (k := k) (off := xs.length * i.size) (T := Ty) ds 0 w arr hw (by rw [ds2]; omega) (VAll.scalars _ _ _ _ ds1)
                    have hrun := run_append_fits (P := P) (w := w) ho ha hts h1 h2 hte hv0 ex (ds3 w rfl) hfit (w' := w') (by simp only [add_eq, Nat.zero_add]; exact r1)
                    have hst := Step.write hr1 (id := id) (n := nid d 0) (k := k) (c' := .row i.size (xs ++ ys)) hb1 hρ r4 r5 (cs' := cs ++ ds) (ext' := ext.drop ds.length) r2 (fun arr0 T0 h0 => by rw [hw] at h0; cases h0; exact r6)
                      (by
                        rw [r3, g5, Nat.add_zero, ← hl6, List.take_left, List.drop_length_add_append])
                      (by simp only [VRel]; exact VAll.append _ _ _ _ 0 0 g6 ds1) (fun e => (hne e).elim)
                    rw [hH] at hst
                    refine Does.after (x := [(nid d 0, some ⟨.row i.size (xs ++ ys), false⟩), (id, none)]) cx.hr hu hrun (.inl rfl) hst (fun j hj => by rw [hj.1]; exact hnew) ?_
                    intro bb hbb
                    have : updH H ([(nid d 0, some ⟨.row i.size (xs ++ ys), false⟩), (id, none)] ++ u') (nid d 0) = some ⟨.row i.size (xs ++ ys), false⟩ := by simp [updH, look]
                    rw [this] at hbb; cases hbb
                    refine ⟨i.size, _, rfl, .inr ⟨k, cap, arr2, Ty, by simp, by rw [List.length_append], by rw [List.length_append]; exact hfit, r2, by rw [r6]; exact hcap⟩⟩
                  · exact grow _ cap cs hv0 g6 hl6 (fun w' hw' => run_first (.inr ⟨k, 0, rfl, reads_heap hw' hrd, hl6⟩)) hfit
            · simp [Ask.run] at hk
          · simp [Ask.run] at hk
        · simp [Ask.run] at hk
      · simp [Ask.run] at hk
    · simp [Ask.run] at h
  · simp [Ask.run] at h

end
end Go.Abs
