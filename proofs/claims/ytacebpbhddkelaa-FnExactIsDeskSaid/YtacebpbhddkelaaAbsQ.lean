/- Abstract runs are sound, and a function's abstract run gives its contract: for every program and world. -/
import Derived.Test.YtacebpbhddkelaaAbsP
namespace Go.Abs
section
variable {P : Program} {T : Tys} {fr : Fr} {σ : St} {a : Act} {w : World}

theorem slot_res1 {ρ ρ' : Nat → Option Nat} {H H' : Hp} {S S' : Nat → Prop} {v : AV} {c : Value} (hv : okRes 0 v = true) (h : SlotRel ρ' H' S w v c) (hS : ∀ k, S k → S' k) : SlotRel ρ H S' w v c := by
  cases v
  case osl id =>
    simp only [okRes, Bool.and_eq_true] at hv
    have h1 := Nat.le_of_ble_eq_true hv.1
    have h2 := Nat.le_of_ble_eq_true hv.2
    omega
  all_goals first | exact slot_plain h rfl hS | exact h.elim | trivial | (simp [okRes] at hv)
theorem slot_res {ρ ρ' : Nat → Option Nat} {H H' : Hp} {S S' : Nat → Prop} {v : AV} {c : Value} (hv : okRess 0 v = true) (h : SlotRel ρ' H' S w v c) (hS : ∀ k, S k → S' k) : SlotRel ρ H S' w v c := by
  cases v
  case tuple xs =>
    obtain ⟨vs, rfl, h⟩ := h
    refine ⟨vs, rfl, ?_⟩
    simp only [okRess] at hv
    induction xs generalizing vs with
    | nil => exact h
    | cons x xs ih =>
      obtain ⟨c, rest, rfl, h1, h2⟩ := h
      simp only [List.all_cons, Bool.and_eq_true] at hv
      exact ⟨c, rest, rfl, slot_res1 hv.1 h1 hS, ih hv.2 rest h2⟩
  all_goals exact slot_res1 hv h hS

/-- A call, none of whose arguments is handed on to be written. -/
theorem call_sound (g : Good P T) (hN : ∀ k, fr.w0.heap.size ≤ k → fr.N k) (hr : RelF fr σ a w) {o : Oper} {m : Nat} {f : FuncId} {args : List AV} {u : Upd} {C : Prop} (h : (aop T (o.dst.getD 0) (opdA σ.e) (stripOp m o.type o.op)).run σ.h = .call f args u [] C) (hic : isCall (stripOp m o.type o.op) = true) (hmut : mutIx 0 args = [])
    {r : RV} (hden : Den P f args r) (hms : r.ms = []) (hfs : r.fs = []) (hres : okRess 0 r.r = true) (hd : ∀ d, o.dst = some d → d < fr.n) {next : Act → World → Prop} {Q : Exit → Act → World → Prop}
    (hnext : ∀ a' w', RelF fr ((σ.upd u).put o.dst r.r) a' w' → next a' w') : o.wp P a w next Q := by
  obtain ⟨ρ, cx, hslots, hpid⟩ := hr.cx g hN
  generalize ho : o.op = op at h hic
  have hcall : ∃ fo os ts, op = .call ⟨.value fo, os, ts⟩ ∧ (aop T (o.dst.getD 0) (opdA σ.e) (.call m fo os.toList)).run σ.h = .call f args u [] C := by
    unfold stripOp at h hic
    split at h <;> simp only [isCall, Bool.false_eq_true] at hic
    exact ⟨_, _, _, rfl, h⟩
  clear h
  obtain ⟨fo, os, ts, rfl, h⟩ := hcall
  simp only [aop] at h
  split at h
  · rename_i g' first caps ef
    obtain ⟨vs', u', ms', h1, hu, hh⟩ := frzArgs_elim m 0 _ h
    simp only [Ask.run, Ev.call.injEq, List.map_eq_nil_iff] at h1
    obtain ⟨rfl, rfl, rfl, hms', _⟩ := h1
    obtain ⟨hp, hs⟩ := hh hms'
    have hf := cx.rel fo
    rw [ef] at hf
    obtain ⟨v1, v2, hcf, hpl, ha1, ha2⟩ := hf
    simp only [List.cons.injEq, and_true] at hcf
    have hr1 := FU.hrel cx.hr hu
    have hsof := FU.sof cx.hr hu
    have hargs := hs ρ _ fr.N w _ cx.hr (slots_map cx os.toList)
    have hpl' : ∀ x ∈ first ++ caps, x.plain = true ∧ x.isAgg = false := by
      intro x hx
      have := List.all_eq_true.1 hpl x hx
      simpa using this
    have hfirst : SlotsRel ρ (updH σ.h u') (Sof ρ (updH σ.h u') (fun k => fr.B0 k ∨ (fr.w0.heap.size ≤ k ∧ k < w.heap.size))) w first v1 :=
      slots_of_ones first v1 0 (VAll.keep hsof (fun _ _ _ => rfl) _ _ _ _ ha1) fun x hx => hpl' x (by simp [hx])
    have hcaps : SlotsRel ρ (updH σ.h u') (Sof ρ (updH σ.h u') (fun k => fr.B0 k ∨ (fr.w0.heap.size ≤ k ∧ k < w.heap.size))) w caps v2 :=
      slots_of_ones caps v2 0 (VAll.keep hsof (fun _ _ _ => rfl) _ _ _ _ ha2) fun x hx => hpl' x (by simp [hx])
    have hall := slots_append _ _ _ _ (slots_append _ _ _ _ hfirst hargs) hcaps
    have hplain : ∀ x ∈ first ++ vs' ++ caps, x.plain = true := by
      intro x hx
      rcases List.mem_append.1 hx with hx | hx
      · rcases List.mem_append.1 hx with hx | hx
        · exact (hpl' x (by simp [hx])).1
        · exact hp x hx
      · exact (hpl' x (by simp [hx])).1
    have hnoB : ∀ v ∈ first ++ vs' ++ caps, entryB v = none := mutIx_nil 0 _ hmut
    have hH0 : (entry (first ++ vs' ++ caps)).h = fun _ => none := by
      funext id
      show (look (entryH 0 (first ++ vs' ++ caps)) id).getD none = none
      rw [entryH_nil 0 _ hnoB]; rfl
    let B0 : Nat → Prop := Sof ρ (updH σ.h u') (fun k => fr.B0 k ∨ (fr.w0.heap.size ≤ k ∧ k < w.heap.size))
    have hentry : Entry (fun _ => none) B0 w (first ++ vs' ++ caps) (v1 ++ os.toList.map a.eval ++ v2) := by
      refine ⟨?_, ?_⟩
      · rw [hH0]
        exact ⟨fun _ _ h => (nomatch h), fun _ _ _ _ _ h => (nomatch h), fun k hk => hr1.bound k hk.1⟩
      · rw [entryEnv_map 0 _ hnoB, hH0]
        refine slots_plain _ _ hall hplain fun k hk => ⟨hk, fun _ _ h => (nomatch h)⟩
    obtain ⟨hcallable, hcalls⟩ := hden
    have hc := hcalls _ B0 w _ hentry
    have hrun : (execOp a.eval o).run P w = .ok (.enter g' (v1 ++ os.toList.map a.eval ++ v2).toArray) w := by
      have e1 : (v1.toArray ++ os.map a.eval) ++ v2.toArray = (v1 ++ os.toList.map a.eval ++ v2).toArray := by
        rw [← Array.toList_inj]; simp
      simp only [execOp, ho, resolve, hcf, Deferred.ofValue, Sem.run_bind, Sem.run_pure, Result.andThen_ok, invoke, e1]
      exact hcallable _ w
    unfold Oper.wp
    rw [hrun]
    show Calls P g' _ w _
    refine hc.mono fun e w' hh => ?_
    obtain ⟨v, ρ', rfl, hout⟩ := hh
    obtain ⟨o1, o2, o3, _⟩ := hout
    have hRH : r.H (first ++ vs' ++ caps) = fun _ => none := by
      funext id
      simp only [RV.H, hms, hfs, fsH]
      rw [hmut]; rfl
    rw [hRH] at o1 o2
    rw [hH0] at o1 o3
    have honly : Only No w w' := o3.mono fun k hk hh => by
      rcases hh with ⟨_, _, h, _⟩ | h
      · cases h
      · exact absurd hk (by omega)
    -- the state behind the call
    have hst0 := FU.step cx.hr hu
    have hst1 := Step.grown hr1 honly
    have hst := hst0.trans (by rw [Bself]; exact hst1)
    refine hnext _ _ ?_
    refine hr.step hpid hslots (u := u') (hst.mono (G := No) fun id hid => by rcases hid with h | h <;> exact h) (fun id hid => hid.elim) (fun _ h => h) ?_ hd
    -- the result
    have hresS : ∀ k, Sof ρ' (fun _ => none) (fun k => B0 k ∨ (w.heap.size ≤ k ∧ k < w'.heap.size)) k →
        Sof ρ (updH σ.h u') (fun k => (fr.B0 k ∨ (fr.w0.heap.size ≤ k ∧ k < w.heap.size)) ∨ (w.heap.size ≤ k ∧ k < w'.heap.size)) k := by
      intro k hk
      rcases hk.1 with h | h
      · exact hst1.sof k h
      · exact sof_new hr1 h.1 h.2
    exact slot_res hres o2 hresS
  · simp [Ask.run] at h


theorem guard_spec {o : Oper} {ops : Array Oper} {m : List (Nat × Nat)} {draw : Bool} (hsz : a.tmps.size ≤ 999999) (hs : ∀ t, ∀ b, σ.e t = .bool b → a.tmps.getD t undef = .bool b) :
    match (stripOper m draw ops o).guard with
    | none => Region.wanted o (yielded ops a.tmps) = true
    | some (g, want) => ∀ b, σ.e g = .bool b → (Region.wanted o (yielded ops a.tmps) = true ↔ b = want) := by
  simp only [stripOper]
  cases hg : o.guard with
  | none => simp [Region.wanted, hg]
  | some p =>
    obtain ⟨j, want⟩ := p
    simp only [Option.map_some]
    intro b hb
    have h1 := hs _ b hb
    simp only [Region.wanted, hg, yielded]
    cases hd : (ops[j]?).bind (·.dst) with
    | none =>
      rw [hd] at h1 hb
      simp only [Option.getD_none] at h1
      exfalso
      rw [Array.getD_eq_getD_getElem?, Array.getElem?_eq_none hsz] at h1
      simp [undef] at h1
    | some d =>
      rw [hd] at h1
      simp only [Option.getD_some] at h1
      have h2 : a.tmps[d]? = some (.bool b) := by
        rw [Array.getD_eq_getD_getElem?] at h1
        cases h3 : a.tmps[d]? with
        | none => rw [h3] at h1; simp [undef] at h1
        | some x => rw [h3] at h1; simp at h1; rw [h1]
      simp only [Option.bind_some, h2]
      cases b <;> cases want <;> simp

theorem step_sound (g : Good P T) (hn : fr.n ≤ 999999) (hN : ∀ k, fr.w0.heap.size ≤ k → fr.N k) (hr : RelF fr σ a w) {o : Oper} {m : List (Nat × Nat)} {draw : Bool} {ops : Array Oper} {K : St → Prop} (h : astep P T (stripOper m draw ops o) σ K)
    (hd : ∀ d, o.dst = some d → d < fr.n) {next : Act → World → Prop} {Q : Exit → Act → World → Prop} (hnext : ∀ σ' a' w', K σ' → RelF fr σ' a' w' → next a' w') :
    if Region.wanted o (yielded ops a.tmps) then o.wp P a w next Q ∨ (o.asks P a w ∧ LetsOut Q) else next (a.put o.dst undef) w := by
  obtain ⟨ρ, cx, hslots, hpid⟩ := hr.cx g hN
  have hbool : ∀ t b, σ.e t = .bool b → a.tmps.getD t undef = .bool b := by
    intro t b hb
    have := hslots t
    rw [hb] at this; exact this
  have hgs := guard_spec (σ := σ) (a := a) (o := o) (ops := ops) (m := m) (draw := draw) (by rw [hr.size]; exact hn) hbool
  have run : ev P σ (stripOper m draw ops o) K ((aop T ((stripOper m draw ops o).dst.getD 0) (opdA σ.e) (stripOper m draw ops o).op).run σ.h) → o.wp P a w next Q := by
    intro hev
    generalize he : (aop T ((stripOper m draw ops o).dst.getD 0) (opdA σ.e) (stripOper m draw ops o).op).run σ.h = E at hev
    cases E with
    | bad => exact hev.elim
    | val v u C =>
      obtain ⟨hC, hok, hK⟩ := hev
      obtain ⟨n, c, ρ', w', hrun, hn, hst, hv⟩ := op_sound cx g.pos he hC
      have hnew := okNew_spec hok
      have hrel := hr.step hpid hslots (F := NewIds σ.h u) (v := v) (c := c) (dst := o.dst) hst (fun id hid => (hnew id hid).2) (fun i hid => by have := (hnew _ hid).1; unfold pid at this; omega) hv hd
      have := hnext _ _ _ hK hrel
      unfold Oper.wp
      rw [hrun]
      rcases hn with rfl | ⟨rfl, rfl⟩
      · exact this
      · exact this
    | split c v v' =>
      obtain ⟨hbin, h1, h2⟩ := hev
      have hb : ∃ op t x y yt, o.op = .binOp op t x y yt := by
        simp only [stripOper] at hbin
        generalize o.op = op0 at hbin ⊢
        unfold stripOp at hbin
        split at hbin <;> simp [isBin] at hbin
        exact ⟨_, _, _, _, _, rfl⟩
      obtain ⟨op, t, x, y, yt, ho⟩ := hb
      have hs : stripOp ((o.dst.bind (look m)).getD 0) o.type o.op = .bin op t x y := by rw [ho]; rfl
      have he' : (aop T ((stripOper m draw ops o).dst.getD 0) (opdA σ.e) (.bin op t x y)).run σ.h = .split c v v' := by
        rw [← he, ← hs]; rfl
      have go : ∀ v0, K (σ.put o.dst v0) → Does P (execOp a.eval o) ρ σ.h (fun k => fr.B0 k ∨ (fr.w0.heap.size ≤ k ∧ k < w.heap.size)) fr.N w v0 [] → o.wp P a w next Q := by
        intro v0 hK hdoes
        obtain ⟨n, c0, ρ', w', hrun, hn, hst, hv⟩ := hdoes
        have hrel := hr.step hpid hslots (F := NewIds σ.h []) (v := v0) (c := c0) (dst := o.dst) hst (fun id hid => by obtain ⟨_, b, hb⟩ := hid; simp [look] at hb) (fun i hid => by obtain ⟨_, b, hb⟩ := hid; simp [look] at hb) hv hd
        have := hnext _ _ _ hK hrel
        unfold Oper.wp
        rw [hrun]
        rcases hn with rfl | ⟨rfl, rfl⟩
        · exact this
        · exact this
      rcases op_split cx (fun _ => rfl) ho he' with ⟨hc, hdoes⟩ | hdoes
      · exact go v (h1 hc) hdoes
      · exact go v' h2 hdoes
    | call f args u ms C =>
      obtain ⟨_, hic, rfl, hmut, r, hden, hms, hfs, hres, hK⟩ := hev
      exact call_sound g hN hr he hic hmut hden hms hfs hres hd fun a' w' h' => hnext _ _ _ hK h'
  unfold astep at h
  split at h
  · rename_i hg
    rw [hg] at hgs
    simp only at hgs
    rw [if_pos hgs]
    exact .inl (run h)
  · rename_i gd want hg
    rw [hg] at hgs
    simp only at hgs
    split at h
    · rename_i b hb
      have h2 := hgs b hb
      split at h
      · rename_i hbw
        rw [if_pos (h2.2 hbw)]
        exact .inl (run h)
      · rename_i hbw
        rw [if_neg (fun x => hbw (h2.1 x))]
        exact hnext _ _ _ h (hr.put_top _ _ hd)
    · exact h.elim

theorem ops_sound (g : Good P T) (hn : fr.n ≤ 999999) (hN : ∀ k, fr.w0.heap.size ≤ k → fr.N k) {m : List (Nat × Nat)} {draw : Bool} {ops : Array Oper} {Q : Exit → Act → World → Prop} {K : St → Prop} (hK : ∀ σ a w, K σ → RelF fr σ a w → Q .normal a w) :
    ∀ (n i : Nat) (σ : St) (a : Act) (w : World), i + n = ops.size → aops P T ((ops.toList.drop i).map (stripOper m draw ops)) σ K → (((ops.toList.drop i).map (stripOper m draw ops)).all (dstLt fr.n)) = true → RelF fr σ a w → wpOps P ops Q (List.range' i n) a w
  | 0, i, σ, a, w, hi, h, _, hr => by
    have : ops.toList.drop i = [] := by simp; omega
    rw [this] at h
    simp only [List.range'_zero, wpOps]
    exact hK σ a w h hr
  | n + 1, i, σ, a, w, hi, h, hd, hr => by
    have hlt : i < ops.size := by omega
    have he : ops.toList.drop i = ops[i] :: ops.toList.drop (i + 1) := by
      rw [List.drop_eq_getElem_cons (by simpa using hlt)]
      simp
    rw [he] at h hd
    simp only [List.map_cons, aops, List.all_cons, Bool.and_eq_true] at h hd
    rw [List.range'_succ, wpOps_cons]
    unfold wpOp
    rw [Array.getElem?_eq_getElem hlt]
    simp only
    refine step_sound g hn hN hr h (fun d hdd => ?_) fun σ' a' w' hK' hr' => ops_sound g hn hN hK n (i + 1) σ' a' w' (by omega) hK' hd.2 hr'
    have := hd.1
    simp only [dstLt, stripOper, hdd] at this
    exact Nat.le_of_ble_eq_true this

end
end Go.Abs
