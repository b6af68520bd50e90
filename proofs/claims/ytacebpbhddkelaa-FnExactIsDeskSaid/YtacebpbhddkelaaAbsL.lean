/- Operations of the model do what the abstract ones say, fifth part: elements of values, lengths, appends, equality: for every program, world and state. -/
import Derived.Test.YtacebpbhddkelaaAbsK
namespace Go.Abs
section
variable {P : Program} {T : Tys} {ρ : Nat → Option Nat} {H : Hp} {B N : Nat → Prop} {w : World} {e : Operand → AV} {cv : Operand → Value}

/-- A part of a value. -/
theorem run_part {S : Nat → Prop} {c : AV} {l1 lc l2 : List Value} {t : Nat} {i : TyA} (ht : TyOk P t i) (hv : VRel S w c lc) (hl : lc.length = i.size) (ha : c.isAgg = i.agg) (hp : c.plain = true) :
    (part t (l1 ++ lc ++ l2).toArray l1.length).run P w = .ok (pack c lc) w := by
  simp only [part, Sem.run_bind, ht.run_agg, Result.andThen_ok]
  cases e : i.agg with
  | true =>
    rw [e] at ha
    simp only [if_true, Sem.run_bind, ht.run_size, Result.andThen_ok, Sem.run_pure]
    have h1 : pack c lc = .agg lc.toArray := by cases c <;> simp [AV.isAgg] at ha <;> rfl
    rw [h1]
    congr 2
    rw [← Array.toList_inj]
    simp [← hl]
  | false =>
    rw [e] at ha
    have h1 : lc.length = 1 := by
      rw [hv.len]; cases c <;> simp [AV.isAgg, AV.plain, AV.size] at ha hp ⊢
    match lc, h1 with
    | [x], _ =>
      have h2 : pack c [x] = x := by cases c <;> simp [AV.isAgg] at ha <;> rfl
      rw [h2]
      simp

theorem op_field (cx : Cx P T ρ H B N w e cv) {o : Oper} {d t f : Nat} {x : Operand} (ho : o.op = .field t x f) {v : AV} {u : Upd} {C : Prop} (h : (aop T d e (.field t x f)).run H = .val v u C) (hC : C) : Does P (execOp cv o) ρ H B N w v u := by
  have hx := cx.rel x
  simp only [aop] at h
  split at h
  · rename_i fs s0 b0 z0 e0
    split at h
    · rename_i off ft hf
      split at h
      · rename_i i hi0
        split at h
        · rename_i szs xs ex
          simp only [Ask.run, Ev.val.injEq] at h
          obtain ⟨rfl, rfl, rfl⟩ := h
          obtain ⟨c1, c2, c3, c4, c5⟩ := hC
          obtain ⟨fields, d1, d2⟩ := (cx.ty _ _ e0).struct
          have hte := cx.ty _ _ hi0
          rw [← d2, List.getElem?_map] at hf
          cases hfl : fields.toList[f]? with
          | none => rw [hfl] at hf; simp at hf
          | some F =>
            rw [hfl] at hf
            simp at hf
            obtain ⟨rfl, rfl⟩ := hf
            have hfl' : fields[f]? = some F := by simpa using hfl
            rw [ex] at hx
            obtain ⟨cs, hv, hcv⟩ := hx
            simp only [VRel] at hv
            obtain ⟨hn, hv⟩ := hv
            obtain ⟨l1, lc, l2, e1, m1, m2, m3, _⟩ := VAll.at_ xs cs 0 f hv c1
            rw [pre_list _ _ _ (by omega)] at m1
            rw [Nat.zero_add, c3] at m3
            have hp := run_part (P := P) (l1 := l1) (l2 := l2) hte m2 m3 c4 c5
            rw [← e1, m1] at hp
            simp only [List.drop_zero] at hp
            rw [← c2] at hp
            refine Does.same cx.hr (c := pack (nth xs f) lc) ?_ (slot_of_vrel m2 c5)
            simp [execOp, ho, Instr.field, run_underlying d1, hfl', hcv, asAgg, hp]
        · simp [Ask.run] at h
      · simp [Ask.run] at h
    · simp [Ask.run] at h
  · simp [Ask.run] at h

theorem op_index (cx : Cx P T ρ H B N w e cv) {o : Oper} {d t : Nat} {x ix : Operand} (ho : o.op = .index t x ix) {v : AV} {u : Upd} {C : Prop} (h : (aop T d e (.index t x ix)).run H = .val v u C) (hC : C) : Does P (execOp cv o) ρ H B N w v u := by
  have hx := cx.rel x
  have hi := cx.rel ix
  simp only [aop] at h
  split at h
  · rename_i kj j ej
    rw [ej] at hi
    simp only [SlotRel] at hi
    split at h
    · rename_i n el s0 b0 z0 e0
      split at h
      · rename_i i sz m xs ei ex
        simp only [Ask.run, Ev.val.injEq] at h
        obtain ⟨rfl, rfl, rfl⟩ := h
        obtain ⟨c1, c2, rfl, rfl, c5, c6⟩ := hC
        have hte := cx.ty _ _ ei
        rw [ex] at hx
        obtain ⟨cs, hv, hcv⟩ := hx
        simp only [VRel] at hv
        obtain ⟨hn, hv⟩ := hv
        obtain ⟨l1, lc, l2, e1, m1, m2, m3, _⟩ := VAll.at_ xs cs 0 j.toNat hv (by omega)
        rw [pre_const] at m1
        have hp := run_part (P := P) (l1 := l1) (l2 := l2) hte m2 m3 c5 c6
        rw [← e1, m1] at hp
        refine Does.same cx.hr (c := pack (nth xs j.toNat) lc) ?_ (slot_of_vrel m2 c6)
        simp [execOp, ho, Instr.index, run_underlying (cx.ty _ _ e0).array, hi, asIntOf, hcv, c1, c2, hte.run_size, hp]
      · simp [Ask.run] at h
    · rename_i s0 b0 z0 e0
      split at h
      · rename_i s ex
        simp only [Ask.run, Ev.val.injEq] at h
        obtain ⟨rfl, rfl, rfl⟩ := h
        obtain ⟨c1, c2⟩ := hC
        rw [ex] at hx
        simp only [SlotRel] at hx
        have hlt : j.toNat < s.size := by omega
        have hg : s[j.toNat]? = some s[j.toNat] := getElem?_pos s j.toNat hlt
        refine Does.same cx.hr (c := .int .u8 (((s.data.toList.getD j.toNat 0).toNat : Nat) : Int)) ?_ (by simp only [SlotRel])
        have hd : s.data.toList.getD j.toNat 0 = s[j.toNat] := by
          have : j.toNat < s.data.toList.length := by simpa using hlt
          rw [List.getD_eq_getElem?_getD, List.getElem?_eq_getElem this]
          rfl
        rw [hd]
        simp [execOp, ho, Instr.index, run_underlying (cx.ty _ _ e0).string, hi, asIntOf, hx, c1, hg]
      · simp [Ask.run] at h
    · simp [Ask.run] at h
  · simp [Ask.run] at h

theorem equalIn_bool (d : Nat) {t : Nat} (h : P.underlying t = some .bool) (a b : Bool) (w : World) : (Op.equalIn (d + 1) t (.bool a) (.bool b)).run P w = .ok (a == b) w := by
  simp only [Op.equalIn, Sem.run_bind, run_underlying h, Result.andThen_ok, Sem.run_pure]

theorem op_boolEq (cx : Cx P T ρ H B N w e cv) {o : Oper} {op : BinOp} {t t' : Nat} {x y : Operand} (ho : o.op = .binOp op t x y t') {a b : Bool} (hx : e x = .bool a) (hy : e y = .bool b) {s b0 : Nat} {z : AV} (ht : look T t = some ⟨.bool, s, b0, z⟩) (hop : op = .eql ∨ op = .neq) :
    Does P (execOp cv o) ρ H B N w (.bool (if op = .eql then a == b else !(a == b))) [] := by
  have h1 := cx.rel x
  have h2 := cx.rel y
  rw [hx] at h1; rw [hy] at h2
  simp only [SlotRel] at h1 h2
  have hg : (eqGuard op t x y (.bool a) (.bool b)).run P w = .ok () w := by
    unfold eqGuard; split <;> rfl
  have heq : (Op.equal t (.bool a) (.bool b)).run P w = .ok (a == b) w := by
    exact equalIn_bool 9999 (cx.ty _ _ ht).bool a b w
  refine Does.same cx.hr (c := .bool (if op = .eql then a == b else !(a == b))) ?_ (by simp only [SlotRel])
  rcases hop with rfl | rfl
  · simp only [execOp, ho, h1, h2, Sem.run_bind, hg, Result.andThen_ok, binOp, heq, Sem.run_pure]
    simp
  · simp only [execOp, ho, h1, h2, Sem.run_bind, hg, Result.andThen_ok, binOp, heq, Sem.run_pure]
    simp

theorem blt_run {o : Oper} {b : Builtin} {args : Array Operand} {ts : Array Nat} (ho : o.op = .call ⟨.builtin b, args, ts⟩) : ∃ cs, execOp cv o = builtin b ts o.type cs (args.map cv) := by
  refine ⟨args.map fun | .const _ => true | _ => false, ?_⟩
  simp only [execOp, ho, resolve]
  rfl

theorem op_len (cx : Cx P T ρ H B N w e cv) {o : Oper} {args : Array Operand} {ts : Array Nat} (ho : o.op = .call ⟨.builtin .len, args, ts⟩) {x : Operand} {t : Nat} (ha : args.toList = [x]) (hts : ts.toList = [t])
    {v : AV} {u : Upd} {C : Prop} {d m : Nat} (h : (aop T d e (.blt m .len [x] [t])).run H = .val v u C) : Does P (execOp cv o) ρ H B N w v u := by
  have hx := cx.rel x
  obtain ⟨cs, hrun⟩ := blt_run (cv := cv) ho
  have ha' : args = #[x] := by rw [← Array.toList_inj]; simpa using ha
  have hts' : ts = #[t] := by rw [← Array.toList_inj]; simpa using hts
  subst ha'; subst hts'
  simp only [aop, List.map_cons, List.map_nil] at h
  split at h
  · rename_i el s0 b0 z0 e0
    have hex : ∀ a (n c : Nat), cv x = .slice a n c → (execOp cv o).run P w = .ok (.value (.int .i64 (n : Nat))) w := by
      intro a n c hc
      rw [hrun]
      simp [builtin, Builtin.len_, run_underlying (cx.ty _ _ e0).slice, hc, goInt]
    split at h
    · rename_i sz tg xs ex
      simp only [Ask.run, Ev.val.injEq] at h
      obtain ⟨rfl, rfl, _⟩ := h
      rw [ex] at hx
      obtain ⟨a, cap, e4, _⟩ := hx
      simp at e4
      exact Does.same cx.hr (hex _ _ _ e4) (by simp only [SlotRel])
    · rename_i id ex
      simp only [Ask.run] at h
      split at h
      · rename_i sz xs f hb
        simp only [Ask.run, Ev.val.injEq] at h
        obtain ⟨rfl, rfl, _⟩ := h
        rw [ex] at hx
        obtain ⟨sz', xs', ec, hh⟩ := hx _ hb
        cases ec
        rcases hh with ⟨rfl, _, a, hv⟩ | ⟨k, cap, arr, T', g1, g2, _⟩
        · exact Does.same cx.hr (hex _ _ _ hv) (by simp only [SlotRel]; rfl)
        · exact Does.same cx.hr (hex _ _ _ g2) (by simp only [SlotRel])
      · simp [Ask.run] at h
    · simp [Ask.run] at h
  · rename_i s0 b0 z0 e0
    split at h
    · rename_i s ex
      simp only [Ask.run, Ev.val.injEq] at h
      obtain ⟨rfl, rfl, _⟩ := h
      rw [ex] at hx
      simp only [SlotRel] at hx
      refine Does.same cx.hr (c := .int .i64 (s.size : Nat)) ?_ (by simp only [SlotRel])
      rw [hrun]
      simp [builtin, Builtin.len_, run_underlying (cx.ty _ _ e0).string, hx, goInt]
    · simp [Ask.run] at h
  · simp [Ask.run] at h

theorem op_maxmin (cx : Cx P T ρ H B N w e cv) {o : Oper} {args : Array Operand} {ts : Array Nat} {bi : Builtin} (hbi : bi = .max ∨ bi = .min) (ho : o.op = .call ⟨.builtin bi, args, ts⟩) {x y : Operand} (ha : args.toList = [x, y])
    {k k' : IntKind} {a b : Int} (hx : e x = .int k a) (hy : e y = .int k' b) : Does P (execOp cv o) ρ H B N w (.int k (if bi = .max then (if b > a then b else a) else (if b < a then b else a))) [] := by
  have h1 := cx.rel x
  have h2 := cx.rel y
  rw [hx] at h1; rw [hy] at h2
  simp only [SlotRel] at h1 h2
  obtain ⟨cs, hrun⟩ := blt_run (cv := cv) ho
  have ha' : args = #[x, y] := by rw [← Array.toList_inj]; simpa using ha
  subst ha'
  refine Does.same cx.hr (c := .int k (if bi = .max then (if b > a then b else a) else (if b < a then b else a))) ?_ (by simp only [SlotRel])
  rw [hrun]
  rcases hbi with rfl | rfl
  · simp [builtin, Builtin.max_, Builtin.max2, h1, h2]
  · simp [builtin, Builtin.min_, Builtin.min2, h1, h2]

end
end Go.Abs
