/- Every operation of the model does what the abstract one says: the joined statement; equality of arrays: for every program, world and state. -/
import Derived.Test.YtacebpbhddkelaaAbsM
import Derived.Laws.Cover3
namespace Go.Abs
section
variable {P : Program} {T : Tys} {ρ : Nat → Option Nat} {H : Hp} {B N : Nat → Prop} {w : World} {e : Operand → AV} {cv : Operand → Value}

theorem eqbs_nth : ∀ (xs ys : List AV), xs.length = ys.length → (eqbs xs ys = true ↔ ∀ q, q < xs.length → eqb (nth xs q) (nth ys q) = true)
  | [], [], _ => by simp [eqbs]
  | x :: xs, y :: ys, h => by
    simp only [eqbs, Bool.and_eq_true, eqbs_nth xs ys (by simpa using h)]
    constructor
    · rintro ⟨h1, h2⟩ q hq
      cases q with
      | zero => exact h1
      | succ q => exact h2 q (by simpa using hq)
    · intro h
      exact ⟨h 0 (by simp), fun q hq => h (q + 1) (by simpa using hq)⟩
  | [], _ :: _, h => by simp at h
  | _ :: _, [], h => by simp at h

theorem cmp_kinds : ∀ {d t : Nat} {x y : AV} {i : TyA}, Cmp T d t x y → look T t = some i → x.plain = true ∧ y.plain = true ∧ x.isAgg = i.agg ∧ y.isAgg = i.agg
  | 0, _, _, _, _, h, _ => h.elim
  | d + 1, t, x, y, i, h, hi => by
    simp only [Cmp, hi] at h
    split at h
    · rename_i e1; simp [AV.plain, AV.isAgg, TyA.agg, e1, TyD.agg]
    · rename_i e1; simp [AV.plain, AV.isAgg, TyA.agg, e1, TyD.agg]
    · rename_i e1; simp [AV.plain, AV.isAgg, TyA.agg, e1, TyD.agg]
    · exact h.elim

theorem guard_false (hT : TysOk P T) : ∀ (d D t : Nat) (x y : AV), Cmp T d t x y → (∃ n, ∀ i, look T t = some i → n = i.size ∧ True) → d ≤ D → (∀ t n e s b z, look T t = some ⟨.arr n e, s, b, z⟩ → 0 < n) → P.eqGuardType D t = false
  | 0, _, _, _, _, h, _, _, _ => h.elim
  | d + 1, 0, _, _, _, _, _, hd, _ => by omega
  | d + 1, D + 1, t, x, y, h, _, hd, hpos => by
    simp only [Cmp] at h
    split at h
    · exact h.elim
    · rename_i i hi
      have ht := hT _ _ hi
      obtain ⟨dd, d1, d2⟩ := ht.desc
      split at h
      · rename_i e1
        rw [e1] at d2
        cases dd <;> simp [TyD.of] at d2
        simp [Program.eqGuardType, d1]
      · rename_i e1
        rw [e1] at d2
        cases dd <;> simp [TyD.of] at d2
        simp [Program.eqGuardType, d1]
      · rename_i n el sz m xs sz' m' ys e1
        obtain ⟨rfl, rfl, rfl, ⟨j, j1, rfl⟩, hall⟩ := h
        rw [e1] at d2
        have : dd = .array m' el := by cases dd <;> simp [TyD.of] at d2; rw [d2.1, d2.2]
        subst this
        simp only [Program.eqGuardType, d1]
        have h0 : 0 < m' := by
          obtain ⟨dt, s, b, z⟩ := i
          simp only at e1
          subst e1
          exact hpos t _ _ s b z hi
        exact guard_false hT d D el _ _ (hall 0 h0).2 ⟨j.size, fun i hi => by rw [j1] at hi; cases hi; exact ⟨rfl, trivial⟩⟩ (by omega) hpos
      · exact h.elim

theorem forin_all {f : Nat → (Option Bool × Unit) → Sem (ForInStep (Option Bool × Unit))} {m : Nat} (p : Nat → Bool) (hf : ∀ q, q < m → (f q (none, ())).run P w = .ok (cond (p q) (.yield (none, ())) (.done (some false, ()))) w) :
    ∀ c s, s + c ≤ m → (forIn (List.range' s c) (none, ()) f).run P w = .ok (cond ((List.range' s c).all p) (none, ()) (some false, ())) w
  | 0, s, _ => by simp
  | c + 1, s, h => by
    have ih := forin_all p hf c (s + 1) (by omega)
    rw [List.range'_succ]
    simp only [List.forIn_cons, Sem.run_bind, hf s (by omega), Result.andThen_ok, List.all_cons]
    generalize p s = b
    cases b
    · rfl
    · exact ih

theorem run_equal (hT : TysOk P T) {S : Nat → Prop} : ∀ (d t : Nat) (x y : AV) (c1 c2 : List Value) (D : Nat), Cmp T d t x y → VRel S w x c1 → VRel S w y c2 → d ≤ D → (Op.equalIn D t (pack x c1) (pack y c2)).run P w = .ok (eqb x y) w
  | 0, _, _, _, _, _, _, h, _, _, _ => h.elim
  | d + 1, t, x, y, c1, c2, 0, _, _, _, hd => by omega
  | d + 1, t, x, y, c1, c2, D + 1, h, hx, hy, hd => by
    simp only [Cmp] at h
    split at h
    · exact h.elim
    · rename_i i hi
      have ht := hT _ _ hi
      split at h
      · rename_i k0 k a k' b e1
        subst h
        obtain ⟨dd, d1, d2⟩ := ht.desc
        rw [e1] at d2
        have : dd = .int k0 := by cases dd <;> simp [TyD.of] at d2; rw [d2]
        subst this
        simp only [VRel] at hx hy
        subst hx; subst hy
        simp only [pack, List.headD_cons, Op.equalIn, Sem.run_bind, run_underlying d1, Result.andThen_ok, if_true, Sem.run_pure, eqb]
      · rename_i a b e1
        obtain ⟨dd, d1, d2⟩ := ht.desc
        rw [e1] at d2
        have : dd = .bool := by cases dd <;> simp [TyD.of] at d2; rfl
        subst this
        simp only [VRel] at hx hy
        subst hx; subst hy
        simp only [pack, List.headD_cons, Op.equalIn, Sem.run_bind, run_underlying d1, Result.andThen_ok, Sem.run_pure, eqb]
      · rename_i n el sz m xs sz' m' ys e1
        obtain ⟨rfl, rfl, rfl, ⟨j, j1, rfl⟩, hall⟩ := h
        obtain ⟨dd, d1, d2⟩ := ht.desc
        rw [e1] at d2
        have : dd = .array m' el := by cases dd <;> simp [TyD.of] at d2; rw [d2.1, d2.2]
        subst this
        have hte := hT _ _ j1
        simp only [VRel] at hx hy
        obtain ⟨hlx, hx⟩ := hx
        obtain ⟨hly, hy⟩ := hy
        have hbody : ∀ q, q < m' → ∃ a b : Value, (part el c1.toArray (q * j.size)).run P w = .ok a w ∧ (part el c2.toArray (q * j.size)).run P w = .ok b w ∧ (Op.equalIn D el a b).run P w = .ok (eqb (nth xs q) (nth ys q)) w := by
          intro q hq
          obtain ⟨hag, hcmp⟩ := hall q hq
          obtain ⟨l1, lc, l2, e2, m1, m2, m3, _⟩ := VAll.at_ xs c1 0 q hx (by omega)
          obtain ⟨k1, kc, k2, e3, n1, n2, n3, _⟩ := VAll.at_ ys c2 0 q hy (by omega)
          rw [pre_const] at m1 n1
          obtain ⟨p1, p2, p3, p4⟩ := cmp_kinds hcmp j1
          have h1 := run_part (P := P) (w := w) (l1 := l1) (l2 := l2) hte m2 m3 p3 p1
          have h2 := run_part (P := P) (w := w) (l1 := k1) (l2 := k2) hte n2 n3 p4 p2
          rw [← e2, m1] at h1
          rw [← e3, n1] at h2
          exact ⟨_, _, h1, h2, run_equal hT d el _ _ _ _ D hcmp m2 n2 (by omega)⟩
        simp only [pack, Op.equalIn, Sem.run_bind, run_underlying d1, Result.andThen_ok, hte.run_size, Std.Legacy.Range.forIn_eq_forIn_range']
        have hall' : eqb (.arr j.size m' xs) (.arr j.size m' ys) = (List.range' 0 m').all (fun q => eqb (nth xs q) (nth ys q)) := by
          simp only [eqb]
          rw [Bool.eq_iff_iff, eqbs_nth _ _ (by omega), List.all_eq_true]
          constructor
          · intro h q hq
            rw [List.mem_range'_1] at hq
            exact h q (by omega)
          · intro h q hq
            exact h q (by rw [List.mem_range'_1]; omega)
        rw [hall']
        have hsz : Std.Legacy.Range.size [0:m'] = m' := by simp [Std.Legacy.Range.size]
        rw [hsz]
        clear hsz hall' hall
        rw [forin_all (P := P) (w := w) (m := m') (fun q => eqb (nth xs q) (nth ys q)) (fun q hq => by
          obtain ⟨a, b, h1, h2, h3⟩ := hbody q hq
          simp only [Sem.run_bind, h1, h2, h3, Result.andThen_ok]
          generalize eqb (nth xs q) (nth ys q) = b
          cases b <;> rfl) m' 0 (by omega)]
        simp only [Result.andThen_ok]
        generalize (List.range' 0 m').all (fun q => eqb (nth xs q) (nth ys q)) = b
        cases b <;> rfl
      · exact h.elim


theorem op_arrEq (cx : Cx P T ρ H B N w e cv) {o : Oper} {op : BinOp} {t t' : Nat} {x y : Operand} (ho : o.op = .binOp op t x y t') {sz n sz' n' : Nat} {xs ys : List AV} (hx : e x = .arr sz n xs) (hy : e y = .arr sz' n' ys) (hop : op = .eql ∨ op = .neq)
    (hC : Cmp T 9 t (.arr sz n xs) (.arr sz' n' ys)) (hpos : ∀ t n e s b z, look T t = some ⟨.arr n e, s, b, z⟩ → 0 < n) :
    Does P (execOp cv o) ρ H B N w (.bool (if op = .eql then eqb (.arr sz n xs) (.arr sz' n' ys) else !(eqb (.arr sz n xs) (.arr sz' n' ys)))) [] := by
  have h1 := cx.rel x
  have h2 := cx.rel y
  rw [hx] at h1; rw [hy] at h2
  obtain ⟨c1, v1, h1⟩ := h1
  obtain ⟨c2, v2, h2⟩ := h2
  have hdep : 9 ≤ P.depth := by
    have : P.depth = 2 * (P.types.size + 100) + 2 := rfl
    omega
  have hg : (eqGuard op t x y (.agg c1.toArray) (.agg c2.toArray)).run P w = .ok () w := by
    have := guard_false cx.ty 9 P.depth t _ _ hC ⟨((look T t).map (·.size)).getD 0, fun i hi => by simp [hi]⟩ hdep hpos
    unfold eqGuard
    split <;> simp [this]
  have heq : (Op.equal t (.agg c1.toArray) (.agg c2.toArray)).run P w = .ok (eqb (.arr sz n xs) (.arr sz' n' ys)) w :=
    run_equal cx.ty 9 t _ _ c1 c2 10000 hC v1 v2 (by omega)
  refine Does.same cx.hr (c := .bool (if op = .eql then eqb (.arr sz n xs) (.arr sz' n' ys) else !(eqb (.arr sz n xs) (.arr sz' n' ys)))) ?_ (by simp only [SlotRel])
  rcases hop with rfl | rfl
  · simp only [execOp, ho, h1, h2, Sem.run_bind, hg, Result.andThen_ok, binOp, heq, Sem.run_pure]
    simp
  · simp only [execOp, ho, h1, h2, Sem.run_bind, hg, Result.andThen_ok, binOp, heq, Sem.run_pure]
    simp

theorem map_one (f : Operand → AV) (l : List Operand) {a : AV} (h : l.map f = [a]) : ∃ x, l = [x] ∧ f x = a := by
  match l, h with
  | [x], h => exact ⟨x, rfl, by simpa using h⟩
  | [], h => simp at h
  | _ :: _ :: _, h => simp at h
theorem map_two (f : Operand → AV) (l : List Operand) {a b : AV} (h : l.map f = [a, b]) : ∃ x y, l = [x, y] ∧ f x = a ∧ f y = b := by
  match l, h with
  | [x, y], h => simp at h; exact ⟨x, y, rfl, h.1, h.2⟩
  | [], h => simp at h
  | [_], h => simp at h
  | _ :: _ :: _ :: _, h => simp at h

/-- Every operation that answers with a value. -/
theorem op_sound (cx : Cx P T ρ H B N w e cv) (hpos : ∀ t n e s b z, look T t = some ⟨.arr n e, s, b, z⟩ → 0 < n) {o : Oper} {d m : Nat} {v : AV} {u : Upd} {C : Prop} (h : (aop T d e (stripOp m o.type o.op)).run H = .val v u C) (hC : C) :
    Does P (execOp cv o) ρ H B N w v u := by
  generalize ho : o.op = op at h
  unfold stripOp at h
  split at h
  · simp only [aop, Ask.run, Ev.val.injEq] at h
    obtain ⟨rfl, rfl, _⟩ := h
    exact op_mov cx (.inl ho) rfl
  · exact op_asg cx ho h
  · exact op_pick cx ho h
  · exact op_alloc cx ho h
  · exact op_box cx ho h
  · exact op_build cx ho h hC
  · exact op_bslice cx ho h hC
  · exact op_load cx ho h hC
  · exact op_store cx ho h hC
  · exact op_nilCheck cx ho h
  · rename_i op t x y yt
    simp only [aop] at h
    split at h
    · split at h <;> simp [Ask.run] at h
    split at h
    · rename_i k a k' b ex ey
      have h' : (if isSh op then shBin op k a b else if k = k' then intBin op k a b else .bad) = Ev.val v u C := by
        rw [← h]; split
        · rfl
        · split <;> rfl
      exact op_bin_int cx ho ex ey h' hC
    · rename_i a b ex ey
      split at h
      · rename_i s b0 z e0
        simp only [Ask.run, Ev.val.injEq] at h
        obtain ⟨rfl, rfl, _⟩ := h
        exact op_boolEq cx ho ex ey e0 (.inl rfl)
      · rename_i s b0 z e0
        simp only [Ask.run, Ev.val.injEq] at h
        obtain ⟨rfl, rfl, _⟩ := h
        exact op_boolEq cx ho ex ey e0 (.inr rfl)
      · simp [Ask.run] at h
    · rename_i sz n xs sz' n' ys ex ey
      split at h
      · simp only [Ask.run, Ev.val.injEq] at h
        obtain ⟨rfl, rfl, rfl⟩ := h
        exact op_arrEq cx ho ex ey (.inl rfl) hC hpos
      · simp only [Ask.run, Ev.val.injEq] at h
        obtain ⟨rfl, rfl, rfl⟩ := h
        exact op_arrEq cx ho ex ey (.inr rfl) hC hpos
      · simp [Ask.run] at h
    · simp [Ask.run] at h
  · exact op_un cx ho h
  · exact op_conv cx ho h
  · exact op_mkfn cx ho h hC
  · exact op_mkslice cx ho h hC
  · exact op_slice cx ho h hC
  · exact op_fieldAddr cx ho h hC
  · exact op_field cx ho h hC
  · exact op_indexAddr cx ho h hC
  · exact op_index cx ho h hC
  · exact op_extract cx ho h hC
  · rename_i f args ts
    exfalso
    simp only [aop] at h
    split at h
    · have : ∀ (m i : Nat) (vs : List AV) (k : List AV → Upd → List (Nat × Nat) → Ask), (∀ a b c, (k a b c).run H ≠ Ev.val v u C) → (frzArgs m i vs k).run H ≠ Ev.val v u C := by
        intro m i vs
        induction vs generalizing i with
        | nil => intro k hk; exact hk _ _ _
        | cons a vs ih =>
          intro k hk
          simp only [frzArgs]
          split
          · split
            · simp only [Ask.run]
              split
              · exact ih _ _ fun _ _ _ => hk _ _ _
              · simp [Ask.run]
            · simp only [Ask.run]
              split
              · exact ih _ _ fun _ _ _ => hk _ _ _
              · simp [Ask.run]
            · simp [Ask.run]
          · intro hh
            obtain ⟨v', u', h1, _⟩ := frz_elim hh (by simp)
            exact ih _ _ (fun _ _ _ => hk _ _ _) h1
      exact this _ _ _ _ (by simp [Ask.run]) h
    · simp [Ask.run] at h
  · rename_i b args ts
    generalize ha : args.toList = la at h
    generalize ht : ts.toList = lt at h
    simp only [aop] at h
    split at h
    · rename_i vv t e1
      obtain ⟨x, rfl, rfl⟩ := map_one e la e1
      exact op_len (m := m) (d := d) cx ho ha ht (by simp only [aop, List.map_cons, List.map_nil]; exact h)
    · rename_i k a k' b e1
      obtain ⟨x, y, rfl, e2, e3⟩ := map_two e la e1
      simp only [Ask.run, Ev.val.injEq] at h
      obtain ⟨rfl, rfl, _⟩ := h
      exact op_maxmin cx (.inl rfl) ho ha e2 e3
    · rename_i k a k' b e1
      obtain ⟨x, y, rfl, e2, e3⟩ := map_two e la e1
      simp only [Ask.run, Ev.val.injEq] at h
      obtain ⟨rfl, rfl, _⟩ := h
      exact op_maxmin cx (.inr rfl) ho ha e2 e3
    · rename_i sv xv t t2 e1
      obtain ⟨x, y, rfl, rfl, rfl⟩ := map_two e la e1
      exact op_append (m := m) (d := d) cx ho ha ht (by simp only [aop, List.map_cons, List.map_nil]; exact h) hC
    · simp [Ask.run] at h
  · simp [aop, Ask.run] at h

/-- Is a slice nil? -/
theorem op_split (cx : Cx P T ρ H B N w e cv) (hcv : ∀ v, cv (.const v) = v) {o : Oper} {d : Nat} {op : BinOp} {t : Nat} {x y : Operand} {yt : Nat} (ho : o.op = .binOp op t x y yt) {c : Prop} {v v' : AV} (h : (aop T d e (.bin op t x y)).run H = .split c v v') :
    (c ∧ Does P (execOp cv o) ρ H B N w v []) ∨ Does P (execOp cv o) ρ H B N w v' [] := by
  simp only [aop] at h
  split at h
  · rename_i sz tt xs el s b z hy ex et
    have hyc : cv y = .slice none 0 0 := by
      unfold isNilOp at hy
      split at hy
      · exact hcv _
      · cases hy
    have hx := cx.rel x
    rw [ex] at hx
    obtain ⟨a, cap, e1, l, t1, r⟩ := hx
    simp only [List.cons.injEq, and_true] at e1
    obtain ⟨d0, hu, hd⟩ := (cx.ty _ _ et).desc
    have hsl : ∃ el', d0 = .slice el' := by
      cases d0 <;> simp [TyD.of] at hd
      exact ⟨_, rfl⟩
    obtain ⟨el', rfl⟩ := hsl
    have hrun := run_equal_slice_nil (P := P) w t el' a xs.length cap hu
    have hnone : a.isNone = true → xs = [] := by
      intro hn
      rcases r with r | ⟨k, off, vs, ha, _⟩
      · exact r
      · rw [ha] at hn; cases hn
    have hg : (eqGuard op t x y (.slice a xs.length cap) (.slice none 0 0)).run P w = .ok () w := by
      unfold eqGuard
      split <;> simp
    split at h
    · simp only [Ask.run, Ev.split.injEq] at h
      obtain ⟨rfl, rfl, rfl⟩ := h
      have hr : (execOp cv o).run P w = .ok (.value (.bool a.isNone)) w := by
        simp only [execOp, ho, e1, hyc, Sem.run_bind, hg, Result.andThen_ok, binOp, hrun, Sem.run_pure]
      cases hb : a.isNone with
      | true => rw [hb] at hr; exact .inl ⟨hnone hb, Does.same cx.hr hr (by simp only [SlotRel])⟩
      | false => rw [hb] at hr; exact .inr (Does.same cx.hr hr (by simp only [SlotRel]))
    · simp only [Ask.run, Ev.split.injEq] at h
      obtain ⟨rfl, rfl, rfl⟩ := h
      have hr : (execOp cv o).run P w = .ok (.value (.bool (!a.isNone))) w := by
        simp only [execOp, ho, e1, hyc, Sem.run_bind, hg, Result.andThen_ok, binOp, hrun, Sem.run_pure]
      cases hb : a.isNone with
      | true => rw [hb] at hr; exact .inl ⟨hnone hb, Does.same cx.hr hr (by simp only [SlotRel]; rfl)⟩
      | false => rw [hb] at hr; exact .inr (Does.same cx.hr hr (by simp only [SlotRel]; rfl))
    · simp [Ask.run] at h
  · split at h
    · split at h
      · unfold shBin at h; split at h <;> simp [Ask.run] at h
      · split at h
        · unfold intBin at h; split at h <;> simp [Ask.run] at h
        · simp [Ask.run] at h
    · split at h <;> simp [Ask.run] at h
    · split at h <;> simp [Ask.run] at h
    · simp [Ask.run] at h

end
end Go.Abs
