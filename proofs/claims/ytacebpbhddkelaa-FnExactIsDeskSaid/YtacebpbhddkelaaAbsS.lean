/- A function's abstract run gives its contract: for every program and world. -/
import Derived.Test.YtacebpbhddkelaaAbsR
namespace Go.Abs
section
variable {P : Program} {T : Tys} {fr : Fr} {σ : St} {a : Act} {w : World}

theorem load_val {ρ : Nat → Option Nat} {H : Hp} {B N : Nat → Prop} {e : Operand → AV} {cv : Operand → Value} (cx : Cx P T ρ H B N w e cv) {d t : Nat} {x : Operand} {v : AV} {u : Upd} {C : Prop} (h : (aop T d e (.load t x)).run H = .val v u C) (hC : C) :
    ∃ ad c, cv x = .pointer (some ad) ∧ (loadVar t ad).run P w = .ok c w ∧ SlotRel ρ H (Sof ρ H B) w v c := by
  have hx := cx.rel x
  simp only [aop] at h
  split at h
  · simp [Ask.run] at h
  · rename_i i hi
    split at h
    · rename_i id p o' e0
      simp only [Ask.run] at h
      split at h
      · rename_i c f hb
        simp only [Ask.run, Ev.val.injEq] at h
        obtain ⟨rfl, rfl, rfl⟩ := h
        obtain ⟨c1, c2, c3, c4, c5⟩ := hC
        rw [e0] at hx
        obtain ⟨k, hk, hcv⟩ := hx _ hb
        rcases cx.hr.at_ id _ hb with ⟨sz, _, h2⟩ | ⟨q, arr, Ty, cs, ext, g1, g2, g3, g4, g5, g6⟩
        · rw [h2] at hk; cases hk
        · rw [hk] at g1; cases g1
          obtain ⟨cv', r1, r2⟩ := load_path (P := P) (cx.ty _ _ hi) g6 (reads_block g4 g5) c1 c2 c3 c4 c5
          rw [Nat.zero_add] at r1
          exact ⟨_, _, hcv, r1, r2 ρ H⟩
      · simp [Ask.run] at h
    · rename_i c p o' e0
      simp only [Ask.run, Ev.val.injEq] at h
      obtain ⟨rfl, rfl, rfl⟩ := h
      obtain ⟨c1, c2, c3, c4, c5⟩ := hC
      rw [e0] at hx
      obtain ⟨k, off, vs, hcv, hS, hv, hrd⟩ := hx
      simp at hcv
      obtain ⟨cv', r1, r2⟩ := load_path (P := P) (cx.ty _ _ hi) hv hrd c1 c2 c3 c4 c5
      rw [← c2] at r1
      subst c2
      exact ⟨_, _, hcv, r1, r2 ρ H⟩
    · simp [Ask.run] at h

/-! ## Results -/
def retEv (T : Tys) (σ : St) : ResultVar → Ev
  | .tmp t => .val (σ.e t) [] True
  | .cell x t => (aop T 0 (opdA σ.e) (.load t (.tmp x))).run σ.h

/-- What is handed back of what a slot holds. -/
def RetRel (σ : St) (c r : AV) : Prop :=
  (c.plain = true ∧ (r = c ∨ r = loose c)) ∨ (∃ id sz xs f, c = .osl id ∧ σ.h id = some ⟨.row sz xs, f⟩ ∧ r = .sl sz false xs)

def Rets (T : Tys) (σ : St) : List ResultVar → List AV → Prop
  | [], rs => rs = []
  | x :: xs, rs => ∃ c u C r rest, retEv T σ x = .val c u C ∧ C ∧ RetRel σ c r ∧ rs = r :: rest ∧ Rets T σ xs rest

def asResult : List AV → AV
  | [r] => r
  | rs => .tuple rs

theorem ret_rel {ρ : Nat → Option Nat} {H : Hp} {B N : Nat → Prop} (hr : HRel ρ H B N w) {σ : St} (hH : H = σ.h) {c r : AV} {v : Value} (h : RetRel σ c r) (hs : SlotRel ρ H (Sof ρ H B) w c v) (ρ' : Nat → Option Nat) (H' : Hp) : SlotRel ρ' H' B w r v := by
  subst hH
  rcases h with ⟨hp, hr'⟩ | ⟨id, sz, xs, f, rfl, hb, rfl⟩
  · have h1 : SlotRel ρ' H' B w c v := slot_plain hs hp fun k hk => hk.1
    rcases hr' with rfl | rfl
    · exact h1
    · exact loose_slot h1
  · obtain ⟨sz', xs', e, hh⟩ := hs _ hb
    cases e
    simp only [SlotRel, VRel]
    rcases hh with ⟨hx, hρ, a, ha⟩ | ⟨q, cap, arr, Ty, hρ, hv, hle, hw, hcap⟩
    · subst hx; subst ha
      exact ⟨a, 0, rfl, by simp, by simp, .inl rfl⟩
    · subst hv
      refine ⟨_, cap, rfl, hle, by simp, ?_⟩
      rcases hr.at_ id _ hb with ⟨sz2, e2, h2⟩ | ⟨q', arr', T', cs, ext, h1, h2, h3, h4, h5, h6⟩
      · rw [h2] at hρ; cases hρ
      · rw [hρ] at h1; cases h1
        simp only [VRel] at h6
        exact .inr ⟨q, 0, cs, rfl, h2, VAll.keep (fun k hk => hk.1) (fun _ _ _ => rfl) _ _ _ _ h6, reads_block h4 h5⟩

theorem rets_run {ρ : Nat → Option Nat} {B N : Nat → Prop} (cx : Cx P T ρ σ.h B N w (opdA σ.e) a.eval) (hs : ∀ t, SlotRel ρ σ.h (Sof ρ σ.h B) w (σ.e t) (a.tmps.getD t undef)) (ρ' : Nat → Option Nat) (H' : Hp) {f : ResultVar → Sem Value} (hf1 : ∀ t, f (.tmp t) = pure (a.tmps.getD t undef))
    (hf2 : ∀ x t, f (.cell x t) = do loadVar t (← asAddr (a.tmps.getD x undef))) : ∀ (xs : List ResultVar) (rs : List AV), Rets T σ xs rs → ∃ vs : List Value, (xs.mapM f).run P w = .ok vs w ∧ SlotsRel ρ' H' B w rs vs
  | [], rs, h => ⟨[], by simp, by simp only [Rets] at h; subst h; simp [SlotsRel]⟩
  | x :: xs, rs, h => by
    obtain ⟨c, u, C, r, rest, h1, hC, hrel, rfl, h2⟩ := h
    obtain ⟨vs, g1, g2⟩ := rets_run cx hs ρ' H' hf1 hf2 xs rest h2
    have hone : ∃ v, (f x).run P w = .ok v w ∧ SlotRel ρ σ.h (Sof ρ σ.h B) w c v := by
      cases x with
      | tmp t =>
        simp only [retEv, Ev.val.injEq] at h1
        obtain ⟨rfl, _, _⟩ := h1
        exact ⟨_, by rw [hf1]; rfl, hs t⟩
      | cell x t =>
        obtain ⟨ad, cc, k1, k2, k3⟩ := load_val cx h1 hC
        have k1' : a.tmps.getD x undef = .pointer (some ad) := k1
        exact ⟨cc, by rw [hf2]; simp [k1', asAddr, k2], k3⟩
    obtain ⟨v, k1, k2⟩ := hone
    refine ⟨v :: vs, ?_, v, vs, rfl, ret_rel cx.hr rfl hrel k2 ρ' H', g2⟩
    simp only [List.mapM_cons, Sem.run_bind]
    rw [k1]
    simp only [Result.andThen_ok, g1, Sem.run_pure]

theorem results_run {fn : Func} {ρ : Nat → Option Nat} {B N : Nat → Prop} (cx : Cx P T ρ σ.h B N w (opdA σ.e) a.eval) (hs : ∀ t, SlotRel ρ σ.h (Sof ρ σ.h B) w (σ.e t) (a.tmps.getD t undef)) (ρ' : Nat → Option Nat) (H' : Hp) {rs : List AV} (h : Rets T σ fn.results.toList rs) :
    ∃ v, (results fn a.tmps).run P w = .ok v w ∧ SlotRel ρ' H' B w (asResult rs) v := by
  obtain ⟨vs, h1, h2⟩ := rets_run cx hs ρ' H' (f := fun
    | .tmp t => pure (a.tmps.getD t undef)
    | .cell x t => do loadVar t (← asAddr (a.tmps.getD x undef))) (fun _ => rfl) (fun _ _ => rfl) _ _ h
  refine ⟨if h : vs.toArray.size = 1 then vs.toArray[0] else .tuple vs.toArray, ?_, ?_⟩
  · simp only [results, Sem.run_bind]
    rw [Array.mapM_eq_mapM_toList, Sem.run_map]
    exact (congrArg (fun r => (Result.andThen r fun a w' => Result.ok a.toArray w').andThen _) h1)
  · match rs, h2 with
    | [], h2 => simp only [SlotsRel] at h2; subst h2; exact ⟨[], rfl, rfl⟩
    | [r], ⟨v, rest, e1, k1, k2⟩ => simp only [SlotsRel] at k2; subst k2; subst e1; exact k1
    | r :: r' :: rs, h2 =>
      have : vs.length = (r :: r' :: rs).length := by
        have : ∀ (l : List AV) (cs : List Value), SlotsRel ρ' H' B w l cs → cs.length = l.length := by
          intro l
          induction l with
          | nil => intro cs h; simp only [SlotsRel] at h; simp [h]
          | cons x l ih => rintro cs ⟨c, rest, rfl, _, h⟩; simp [ih _ h]
        exact this _ _ h2
      rw [dif_neg (by simp at this ⊢; omega)]
      exact ⟨vs, rfl, h2⟩

theorem callable_of {f : FuncId} {fn : Func} {c : Code} (hf : P.funcs[f]? = some fn) (hb : fn.body = some c) (hn : (fn.name == "runtime.NumGoroutine") = false) : Callable P f := by
  intro args w
  have hn' : ¬ fn.name = "runtime.NumGoroutine" := by simpa using hn
  simp [callFunc, hf, hb, hn']

theorem entry_slots {ρ : Nat → Option Nat} {H : Hp} {S : Nat → Prop} : ∀ (i : Nat) (args : List AV) (cargs : List Value), SlotsRel ρ H S w ((entryEnv i args).map (·.2)) cargs → cargs.length = args.length ∧ ∀ t, ∃ x, (look (entryEnv i args) t).getD .top = x ∧ (i ≤ t → SlotRel ρ H S w x (cargs.getD (t - i) undef)) ∧ (t < i → x = .top)
  | i, [], cargs, h => by
    simp only [entryEnv, List.map_nil, SlotsRel] at h
    subst h
    exact ⟨rfl, fun t => ⟨.top, rfl, fun _ => trivial, fun _ => rfl⟩⟩
  | i, v :: vs, cargs, h => by
    obtain ⟨c, rest, rfl, h1, h2⟩ := h
    obtain ⟨hl, hh⟩ := entry_slots (i + 1) vs rest h2
    refine ⟨by simp [hl], fun t => ?_⟩
    obtain ⟨x, e1, e2, e3⟩ := hh t
    simp only [entryEnv, look]
    by_cases e : i = t
    · subst e
      simp only [Nat.beq_refl]
      exact ⟨_, rfl, fun _ => by simpa using h1, fun hlt => by omega⟩
    · have hb : Nat.beq i t = false := by rw [← Bool.not_eq_true, Nat.beq_eq]; exact e
      rw [hb]
      refine ⟨x, e1, fun hle => ?_, fun hlt => e3 (by omega)⟩
      have := e2 (by omega)
      rw [show t - i = (t - (i + 1)) + 1 by omega]
      simpa using this

/-- THE CONTRACT: the abstract run of the body ends with these results. -/
theorem den_of (g : Good P T) {f : FuncId} {fn : Func} {c : Code} {ac : ACode} {m : List (Nat × Nat)} {L : Live} {n : Nat} {args rs : List AV} (hf : P.funcs[f]? = some fn) (hb : fn.body = some c) (hname : (fn.name == "runtime.NumGoroutine") = false)
    (hn : fn.ntmps = n) (hn2 : Nat.ble n 999999 = true) (hl : Nat.ble args.length n = true) (hstrip : strip m c = ac) (hdst : ac.dstOk n = true) (hmut : mutIx 0 args = [])
    (hrun : acode P T L ac (entry args) fun ex σ => (ex = .normal ∨ ex = .ret) ∧ Rets T σ fn.results.toList rs) : Den P f args { r := asResult rs } := by
  refine ⟨callable_of hf hb hname, fun ρ0 B0 w cargs hent => ?_⟩
  have hnoB := mutIx_nil 0 _ hmut
  have hH0 : (entry args).h = fun _ => none := by
    funext id
    show (look (entryH 0 args) id).getD none = none
    rw [entryH_nil 0 _ hnoB]; rfl
  subst hstrip
  let fr : Fr := ⟨w, B0, fun k => (∃ id b, (entry args).h id = some b ∧ ρ0 id = some k) ∨ w.heap.size ≤ k, ρ0, n⟩
  obtain ⟨hlen, hsl⟩ := entry_slots 0 args cargs hent.slots
  have hle := Nat.le_of_ble_eq_true hl
  have hr : RelF fr (entry args) { tmps := cargs.toArray ++ Array.replicate (fn.ntmps - cargs.toArray.size) undef, defers := [] } w := by
    refine ⟨⟨ρ0, ?_, fun t => ?_, fun _ _ _ => rfl⟩, rfl, ?_, Only.refl _ _⟩
    · show HRel ρ0 (entry args).h (fun k => B0 k ∨ (w.heap.size ≤ k ∧ k < w.heap.size)) _ w
      rw [Bself]; exact hent.heap
    · show SlotRel ρ0 (entry args).h (Sof ρ0 (entry args).h (fun k => B0 k ∨ (w.heap.size ≤ k ∧ k < w.heap.size))) w _ _
      rw [Bself]
      obtain ⟨x, e1, e2, _⟩ := hsl t
      have e3 : (entry args).e t = x := e1
      rw [e3]
      have := e2 (Nat.zero_le _)
      rw [Nat.sub_zero] at this
      have e4 : (cargs.toArray ++ Array.replicate (fn.ntmps - cargs.toArray.size) undef).getD t undef = cargs.getD t undef := by
        rw [Array.getD_eq_getD_getElem?, Array.getElem?_append]
        by_cases ht : t < cargs.length
        · simp [ht]
        · simp only [List.size_toArray, ht, if_false]
          rw [List.getD_eq_getElem?_getD, List.getElem?_eq_none (by omega)]
          rw [Array.getElem?_replicate]
          split <;> rfl
      rw [e4]; exact this
    · simp only [Array.size_append, List.size_toArray, Array.size_replicate]
      show cargs.length + (fn.ntmps - cargs.length) = n
      rw [hn, hlen]; omega
  refine calls_of_wp hf hb (wp_mono (acode_sound g (Nat.le_of_ble_eq_true hn2) (fun k hk => Or.inr hk) m L c _ _ _ _ hrun hdst hr) ?_)
  rintro ex a' w' ⟨ex', σ', hx, ⟨hex, hrets⟩, hr'⟩
  have fin : a'.defers = [] ∧ ∃ v, (results fn a'.tmps).run P w' = .ok v w' ∧ ∃ v' ρ', Ending.returned v = .returned v' ∧ Out ρ0 B0 w args { r := asResult rs } ρ' w' v' := by
    refine ⟨hr'.defers, ?_⟩
    obtain ⟨ρ, cx, hs, _⟩ := hr'.cx g (fun k hk => Or.inr hk)
    obtain ⟨v, h1, h2⟩ := results_run cx hs (fun _ => none) (fun _ => none) hrets
    refine ⟨v, h1, v, fun _ => none, rfl, ?_⟩
    have hRH : RV.H { r := asResult rs } args = fun _ => none := by
      funext id
      simp only [RV.H, fsH]
      rw [hmut]; rfl
    refine ⟨?_, ?_, hr'.only, fun i b hb => by rw [hH0] at hb; cases hb⟩
    · rw [hRH]
      exact ⟨fun _ _ h => (nomatch h), fun _ _ _ _ _ h => (nomatch h), fun k hk => cx.hr.bound k hk⟩
    · rw [hRH]
      have hS : ∀ k, (fun k => B0 k ∨ (w.heap.size ≤ k ∧ k < w'.heap.size)) k → Sof (fun _ => none) (fun _ => none) (fun k => B0 k ∨ (w.heap.size ≤ k ∧ k < w'.heap.size)) k := fun k hk => ⟨hk, fun _ _ h => (nomatch h)⟩
      have hSeq : Sof (fun _ => none) (fun _ => none) (fun k => B0 k ∨ (w.heap.size ≤ k ∧ k < w'.heap.size)) = fun k => B0 k ∨ (w.heap.size ≤ k ∧ k < w'.heap.size) := by
        funext k; exact propext ⟨fun h => h.1, hS k⟩
      rw [hSeq]
      exact h2
  rcases hex with rfl | rfl <;> cases ex <;> simp only [Xr] at hx <;> try exact hx.elim
  · exact fin
  · exact fin

end
end Go.Abs
