/- Operations of the model do what the abstract ones say, first part: moves, arithmetic, memory: for every program, world and state. -/
import Derived.Test.YtacebpbhddkelaaAbsG
namespace Go.Abs

def NewIds (H : Hp) (u : Upd) : Nat → Prop := fun id => H id = none ∧ ∃ b, look u id = some (some b)

def Does (P : Program) (s : Sem Next) (ρ : Nat → Option Nat) (H : Hp) (B N : Nat → Prop) (w : World) (v : AV) (u : Upd) : Prop :=
  ∃ n c ρ' w', s.run P w = .ok n w' ∧ (n = .value c ∨ (n = .skip ∧ c = undef)) ∧ Step (NewIds H u) ρ H B N w ρ' (updH H u) w' ∧
    SlotRel ρ' (updH H u) (Sof ρ' (updH H u) (fun k => B k ∨ (w.heap.size ≤ k ∧ k < w'.heap.size))) w' v c

structure Cx (P : Program) (T : Tys) (ρ : Nat → Option Nat) (H : Hp) (B N : Nat → Prop) (w : World) (e : Operand → AV) (cv : Operand → Value) : Prop where
  ty : TysOk P T
  hr : HRel ρ H B N w
  nb : ∀ k, w.heap.size ≤ k → N k
  rel : ∀ x, SlotRel ρ H (Sof ρ H B) w (e x) (cv x)

section
variable {P : Program} {T : Tys} {ρ : Nat → Option Nat} {H : Hp} {B N : Nat → Prop} {w : World} {e : Operand → AV} {cv : Operand → Value}

theorem Does.fu (hr : HRel ρ H B N w) {s : Sem Next} {v : AV} {u : Upd} {c : Value} (hu : FU H u) (hs : s.run P w = .ok (.value c) w) (hv : SlotRel ρ (updH H u) (Sof ρ (updH H u) B) w v c) : Does P s ρ H B N w v u := by
  refine ⟨_, c, ρ, w, hs, .inl rfl, (FU.step hr hu).mono fun _ x => x.elim, ?_⟩
  rw [Bself]; exact hv

theorem Does.same (hr : HRel ρ H B N w) {s : Sem Next} {v : AV} {c : Value} (hs : s.run P w = .ok (.value c) w) (hv : SlotRel ρ H (Sof ρ H B) w v c) : Does P s ρ H B N w v [] :=
  Does.fu hr (FU.nil H) hs hv

/-- A step behind a freezing. -/
theorem Does.after (hr : HRel ρ H B N w) {s : Sem Next} {v : AV} {u x : Upd} {c : Value} {n : Next} {ρ' : Nat → Option Nat} {w' : World} (hu : FU H u) (hs : s.run P w = .ok n w') (hn : n = .value c ∨ (n = .skip ∧ c = undef))
    {F : Nat → Prop} (hst : Step F ρ (updH H u) B N w ρ' (updH H (x ++ u)) w') (hF : ∀ id, F id → NewIds H (x ++ u) id)
    (hv : SlotRel ρ' (updH H (x ++ u)) (Sof ρ' (updH H (x ++ u)) (fun k => B k ∨ (w.heap.size ≤ k ∧ k < w'.heap.size))) w' v c) : Does P s ρ H B N w v (x ++ u) := by
  have h0 := FU.step hr hu
  have e0 := Bself B w
  refine ⟨n, c, ρ', w', hs, hn, ?_, hv⟩
  have h1 := h0.trans (by rw [e0]; exact hst)
  exact h1.mono fun id hid => by
    rcases hid with hid | hid
    · exact hid.elim
    · exact hF id hid

theorem scalar_eq {v : Value} (h : scalar v = true) : v.cells = #[v] := by cases v <;> first | rfl | (simp [scalar] at h)

theorem cells_pack {S : Nat → Prop} {v : AV} {cs : List Value} (h : VRel S w v cs) (hp : v.plain = true) : (pack v cs).cells.toList = cs := by
  have hs := slot_of_vrel (ρ := fun _ => none) (H := fun _ => none) h hp
  obtain ⟨cs', h', e', hc⟩ := vrel_of_slot hs hp
  rw [hc]
  have l1 := h.len
  have l2 := h'.len
  cases v <;> simp only [AV.plain, Bool.false_eq_true] at hp <;> simp only [pack] at e'
  case arr => simpa using e'.symm
  case struct => simpa using e'.symm
  all_goals
    simp only [AV.size] at l1 l2
    match cs, cs', l1, l2 with
    | [a], [b], _, _ => simp at e'; rw [e']

/-! ### Moves -/
theorem op_mov (cx : Cx P T ρ H B N w e cv) {o : Oper} {x : Operand} (ho : o.op = .move x ∨ o.op = .assign x) {v : AV} (hv : e x = v) : Does P (execOp cv o) ρ H B N w v [] := by
  subst hv
  refine Does.same cx.hr (c := cv x) ?_ (cx.rel x)
  rcases ho with ho | ho <;> simp [execOp, ho]

theorem op_asg (cx : Cx P T ρ H B N w e cv) {o : Oper} {d m t : Nat} {x : Operand} (ho : o.op = .assign x) {v : AV} {u : Upd} {C : Prop} (h : (aop T d e (.asg m x t)).run H = .val v u C) : Does P (execOp cv o) ρ H B N w v u := by
  have hrun : (execOp cv o).run P w = .ok (.value (cv x)) w := by simp [execOp, ho]
  have hrel := cx.rel x
  have hfrz : ∀ v0, e x = v0 → (frz v0 fun v' u => .ret (.val (loose v') u True)).run H = .val v u C → Does P (execOp cv o) ρ H B N w v u := by
    intro v0 h0 h
    obtain ⟨v', u', h1, hu, _, _, hs⟩ := frz_elim h (by simp)
    simp only [Ask.run, Ev.val.injEq] at h1
    obtain ⟨rfl, rfl, _⟩ := h1
    rw [h0] at hrel
    exact Does.fu cx.hr hu hrun (loose_slot (hs ρ B N w _ cx.hr hrel))
  have hnil : ∀ sz sz' (l : List AV), e x = .sl sz true l → l = [] → SlotRel ρ H (Sof ρ H B) w (.sl sz' false []) (cv x) := by
    intro sz sz' l h0 hl
    rw [h0, hl] at hrel
    obtain ⟨a, cap, e1, l1, t1, r1⟩ := hrel
    exact ⟨a, cap, e1, l1, by simp, .inl rfl⟩
  match m with
  | 0 =>
    simp only [aop, Ask.run, Ev.val.injEq] at h
    obtain ⟨rfl, rfl, _⟩ := h
    exact Does.same cx.hr hrun hrel
  | 1 =>
    simp only [aop] at h
    split at h
    · simp [Ask.run] at h
    · simp [Ask.run] at h
    · split at h
      · rename_i sz hx
        split at h
        · simp only [Ask.run, Ev.val.injEq] at h
          obtain ⟨rfl, rfl, _⟩ := h
          exact Does.same cx.hr hrun (hnil _ _ _ hx rfl)
        · simp [Ask.run] at h
      · exact hfrz _ rfl h
  | m + 2 =>
    simp only [aop] at h
    split at h
    · rename_i sz hx
      split at h
      · rename_i i hi
        simp only [fresh, Ask.run] at h
        split at h
        · rename_i hn
          simp only [Ask.run, Ev.val.injEq] at h
          obtain ⟨rfl, rfl, _⟩ := h
          have hst := Step.empty cx.hr (nid d 0) i.size
          have hH : (fun j => if j = nid d 0 then some ⟨AV.row i.size [], false⟩ else H j) = updH H [(nid d 0, some ⟨.row i.size [], false⟩)] := by
            rw [updH_cons, updH_nil]
          rw [hH] at hst
          refine ⟨_, cv x, _, w, hrun, .inl rfl, hst.mono fun id hid => ?_, ?_⟩
          · subst hid; exact ⟨hn, ⟨.row i.size [], false⟩, by simp [look]⟩
          · intro b hb
            rw [updH_cons] at hb
            simp only [if_true, Option.some.injEq] at hb
            subst hb
            rw [hx] at hrel
            obtain ⟨a, cap, e1, l1, t1, _⟩ := hrel
            simp at e1
            refine ⟨i.size, [], rfl, .inl ⟨rfl, by simp, a, ?_⟩⟩
            rw [e1, t1 rfl]; simp
        · simp [Ask.run] at h
      · simp [Ask.run] at h
    · simp only [Ask.run, Ev.val.injEq] at h
      obtain ⟨rfl, rfl, _⟩ := h
      exact Does.same cx.hr hrun hrel

theorem op_pick (cx : Cx P T ρ H B N w e cv) {o : Oper} {d : Nat} {c a b : Operand} (ho : o.op = .pick c a b) {v : AV} {u : Upd} {C : Prop} (h : (aop T d e (.pick c a b)).run H = .val v u C) : Does P (execOp cv o) ρ H B N w v u := by
  have hc := cx.rel c
  simp only [aop] at h
  split at h
  · rename_i hx
    rw [hx] at hc
    simp only [Ask.run, Ev.val.injEq] at h
    obtain ⟨rfl, rfl, _⟩ := h
    simp only [SlotRel] at hc
    exact Does.same cx.hr (by simp [execOp, ho, hc, asBool]) (cx.rel a)
  · rename_i hx
    rw [hx] at hc
    simp only [Ask.run, Ev.val.injEq] at h
    obtain ⟨rfl, rfl, _⟩ := h
    simp only [SlotRel] at hc
    exact Does.same cx.hr (by simp [execOp, ho, hc, asBool]) (cx.rel b)
  · simp [Ask.run] at h

theorem op_extract (cx : Cx P T ρ H B N w e cv) {o : Oper} {d i : Nat} {x : Operand} (ho : o.op = .extract x i) {v : AV} {u : Upd} {C : Prop} (h : (aop T d e (.extract x i)).run H = .val v u C) (hC : C) : Does P (execOp cv o) ρ H B N w v u := by
  have hx := cx.rel x
  simp only [aop] at h
  split at h
  · rename_i xs e0
    rw [e0] at hx
    simp only [Ask.run, Ev.val.injEq] at h
    obtain ⟨rfl, rfl, rfl⟩ := h
    simp only [SlotRel] at hx
    obtain ⟨vs, hv, hxs⟩ := hx
    have key : ∀ (xs : List AV) (vs : List Value) (i : Nat), SlotsRel ρ H (Sof ρ H B) w xs vs → i < xs.length → ∃ c, vs[i]? = some c ∧ SlotRel ρ H (Sof ρ H B) w (nth xs i) c := by
      intro xs
      induction xs with
      | nil => intro vs i _ hi; simp at hi
      | cons a xs ih =>
        intro vs i h hi
        obtain ⟨c, rest, rfl, h1, h2⟩ := h
        cases i with
        | zero => exact ⟨c, rfl, h1⟩
        | succ i => obtain ⟨c', h3, h4⟩ := ih rest i h2 (by simpa using hi); exact ⟨c', h3, h4⟩
    obtain ⟨c, h1, h2⟩ := key xs vs i hxs hC
    refine Does.same cx.hr (c := c) ?_ h2
    simp [execOp, ho, Instr.extract, hv, h1]
  · simp [Ask.run] at h

theorem op_nilCheck (cx : Cx P T ρ H B N w e cv) {o : Oper} {d : Nat} {x : Operand} (ho : o.op = .nilCheck x) {v : AV} {u : Upd} {C : Prop} (h : (aop T d e (.nilCheck x)).run H = .val v u C) : Does P (execOp cv o) ρ H B N w v u := by
  have hx := cx.rel x
  simp only [aop] at h
  split at h
  · rename_i id p o' e0
    simp only [Ask.run] at h
    split at h
    · rename_i b hb
      simp only [Ask.run, Ev.val.injEq] at h
      obtain ⟨rfl, rfl, _⟩ := h
      rw [e0] at hx
      obtain ⟨k, h1, h2⟩ := hx b hb
      refine Does.same cx.hr (c := cv x) ?_ hx
      simp [execOp, ho, h2]
    · simp [Ask.run] at h
  · rename_i v p o' e0
    rw [e0] at hx
    simp only [Ask.run, Ev.val.injEq] at h
    obtain ⟨rfl, rfl, _⟩ := h
    refine Does.same cx.hr (c := cv x) ?_ hx
    obtain ⟨k, off, vs, h2, _⟩ := hx
    simp at h2
    simp [execOp, ho, h2]
  · simp [Ask.run] at h

/-! ### Arithmetic -/
def toV : AV → Value
  | .int k n => .int k n
  | .bool b => .bool b
  | _ => undef

theorem op_bin_int {o : Oper} (cx : Cx P T ρ H B N w e cv) {op : BinOp} {t y' : Nat} {x y : Operand} (ho : o.op = .binOp op t x y y') {k k' : IntKind} {a b : Int} (hx : e x = .int k a) (hy : e y = .int k' b)
    {v : AV} {u : Upd} {C : Prop} (h : (if isSh op then shBin op k a b else if k = k' then intBin op k a b else .bad) = .val v u C) (hC : C) : Does P (execOp cv o) ρ H B N w v u := by
  have h1 := cx.rel x
  have h2 := cx.rel y
  rw [hx] at h1; rw [hy] at h2
  simp only [SlotRel] at h1 h2
  have hg : ∀ op, (eqGuard op t x y (.int k a) (.int k' b)).run P w = .ok () w := by
    intro op
    unfold eqGuard
    split <;> rfl
  have hdo : ∀ v c, (binOp op t (.int k a) (.int k' b)).run P w = .ok c w → SlotRel ρ H (Sof ρ H B) w v c → Does P (execOp cv o) ρ H B N w v [] := by
    intro v c hb hv
    refine Does.same cx.hr (c := c) ?_ hv
    simp only [execOp, ho, h1, h2, Sem.run_bind, hg, Result.andThen_ok, hb, Sem.run_pure]
  have hdo' : ∀ v, (binOp op t (.int k a) (.int k' b)).run P w = .ok (toV v) w → SlotRel ρ H (Sof ρ H B) w v (toV v) → Does P (execOp cv o) ρ H B N w v [] := fun v => hdo v (toV v)
  split at h
  · rename_i hsh
    cases op <;> simp only [isSh, Bool.false_eq_true] at hsh <;> simp only [shBin, Ev.val.injEq] at h <;> obtain ⟨rfl, rfl, rfl⟩ := h
    · exact hdo _ (.int k (k.wrap (a * 2 ^ (min b.toNat k.bits)))) (by simp [binOp, Op.shift, hC]) (by simp only [SlotRel])
    · exact hdo _ (.int k (a.fdiv (2 ^ (min b.toNat k.bits)))) (by simp [binOp, Op.shift, hC]) (by simp only [SlotRel])
  · rename_i hsh
    split at h
    · rename_i hk
      subst hk
      cases op <;> simp only [isSh, not_true_eq_false] at hsh <;> simp only [intBin, Ev.val.injEq, reduceCtorEq] at h <;> obtain ⟨rfl, rfl, rfl⟩ := h
      all_goals
        refine hdo' _ ?_ (by simp only [toV, SlotRel])
        first
          | (simp [binOp, Op.intArith, toV]; done)
          | (simp [binOp, Op.intDiv, hC, toV]; done)
          | (simp [binOp, Op.intBits, toV]; done)
          | (simp [binOp, Op.intCmp, toV]; done)
    · cases h

theorem op_un (cx : Cx P T ρ H B N w e cv) {o : Oper} {d t : Nat} {op : UnOp} {x : Operand} (ho : o.op = .unOp op t x) {v : AV} {u : Upd} {C : Prop} (h : (aop T d e (.un op x)).run H = .val v u C) : Does P (execOp cv o) ρ H B N w v u := by
  have hx := cx.rel x
  simp only [aop] at h
  split at h
  · rename_i k n e0
    rw [e0] at hx
    simp only [Ask.run, Ev.val.injEq] at h
    obtain ⟨rfl, rfl, _⟩ := h
    simp only [SlotRel] at hx
    exact Does.same cx.hr (c := .int k (k.wrap (0 - n))) (by simp [execOp, ho, hx, Op.unary, Op.intArith]) (by simp only [SlotRel])
  · rename_i b e0
    rw [e0] at hx
    simp only [Ask.run, Ev.val.injEq] at h
    obtain ⟨rfl, rfl, _⟩ := h
    simp only [SlotRel] at hx
    exact Does.same cx.hr (c := .bool (!b)) (by simp [execOp, ho, hx, Op.unary]) (by simp only [SlotRel])
  · simp [Ask.run] at h

theorem op_conv (cx : Cx P T ρ H B N w e cv) {o : Oper} {d s t : Nat} {x : Operand} (ho : o.op = .convert s t x) {v : AV} {u : Upd} {C : Prop} (h : (aop T d e (.conv s t x)).run H = .val v u C) : Does P (execOp cv o) ρ H B N w v u := by
  have hx := cx.rel x
  simp only [aop] at h
  split at h
  · rename_i k _ _ _ k' n es e0 e1
    rw [e1] at hx
    simp only [Ask.run, Ev.val.injEq] at h
    obtain ⟨rfl, rfl, _⟩ := h
    simp only [SlotRel] at hx
    obtain ⟨dd, h1, h2⟩ := (cx.ty _ _ e0).desc
    obtain ⟨ds, h3, _⟩ := (cx.ty _ _ es).desc
    have h4 : dd = .int k := by cases dd <;> simp only [TyD.of, TyD.int.injEq, reduceCtorEq] at h2; rw [h2]
    subst h4
    refine Does.same cx.hr (c := .int k (k.wrap n)) ?_ (by simp only [SlotRel])
    simp [execOp, ho, hx, convert, run_underlying h1, run_underlying h3, Conv.intToInt]
  · simp [Ask.run] at h

end
end Go.Abs
