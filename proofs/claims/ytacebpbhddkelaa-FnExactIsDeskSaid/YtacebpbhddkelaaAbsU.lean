/- Rules for abstract runs, and typed data: for every program. -/
import Derived.Test.YtacebpbhddkelaaAbsS
namespace Go.Abs
section
variable {P : Program} {T : Tys} {L : Live} {σ σ' : St} {Q : AEx → St → Prop} {K : St → Prop}

/-! ## Rules -/
theorem a_seq {a b : ACode} (h : acode P T L a σ (thenK (fun σ' => acode P T L b (keepFor L b σ') Q) Q)) : acode P T L (.seq a b) σ Q := h
theorem a_region {id : Nat} {ops : List AOper} (h : aops P T ops σ (Q .normal)) : acode P T L (.region id ops false) σ Q := h
theorem a_draw {id : Nat} {ops : List AOper} (ts : List Tk) (hd : okDraw ops ts = true) (h : aopsT P T ops ts σ (Q .normal)) : acode P T L (.region id ops true) σ Q := ⟨ts, hd, h⟩
theorem d_nil (h : K σ) : aopsT P T [] [] σ K := h
/-- One operation of a region whose order is drawn. -/
theorem d_cons {o : AOper} {os : List AOper} {t : Tk} {ts : List Tk} (h : aops P T [o] σ (fun σ' => tok T o σ σ' t = true ∧ aopsT P T os ts σ' K)) : aopsT P T (o :: os) (t :: ts) σ K := h
theorem d_next {o : AOper} {os : List AOper} {t : Tk} {ts : List Tk} {σ0 : St} (e : tok T o σ0 σ t = true) (h : aopsT P T os ts σ K) : aops P T [] σ (fun σ' => tok T o σ0 σ' t = true ∧ aopsT P T os ts σ' K) := ⟨e, h⟩
theorem a_block {id : Nat} {a : ACode} (h : acode P T L a σ (blockK id Q)) : acode P T L (.block id a) σ Q := h
theorem a_skip (h : Q .normal σ) : acode P T L .skip σ Q := h
theorem a_ret (h : Q .ret σ) : acode P T L .ret σ Q := h
theorem a_exit {id : Nat} (h : Q (.exit id) σ) : acode P T L (.exit id) σ Q := h
theorem a_nil (h : K σ) : aops P T [] σ K := h
/-- On to the second part, in a state told anew. -/
theorem a_next {b : ACode} (e : keepFor L b σ = σ') (h : acode P T L b σ' Q) : thenK (fun σ' => acode P T L b (keepFor L b σ') Q) Q .normal σ := by
  show acode P T L b (keepFor L b σ) Q
  rw [e]; exact h
theorem a_cond {c : Operand} {x y : ACode} {b : Bool} (hc : opdA σ.e c = .bool b) (ht : b = true → acode P T L x σ Q) (hf : b = false → acode P T L y σ Q) : acode P T L (.cond c x y) σ Q := by
  simp only [acode, hc]
  cases b
  · exact hf rfl
  · exact ht rfl
theorem a_cond_t {c : Operand} {x y : ACode} (hc : opdA σ.e c = .bool true) (ht : acode P T L x σ Q) : acode P T L (.cond c x y) σ Q := by
  simp only [acode, hc]; exact ht
theorem a_cond_f {c : Operand} {x y : ACode} (hc : opdA σ.e c = .bool false) (ht : acode P T L y σ Q) : acode P T L (.cond c x y) σ Q := by
  simp only [acode, hc]; exact ht

theorem a_val {d : Option Nat} {op : AO} {af : List Nat} {os : List AOper} {v : AV} {u : Upd} {C : Prop} (h : (aop T (d.getD 0) (opdA σ.e) op).run σ.h = .val v u C) (hC : C) (hk : okNew σ u = true) (k : aops P T os ((σ.upd u).put d v) K) :
    aops P T (⟨d, op, none, af⟩ :: os) σ K := by
  simp only [aops, astep]
  rw [h]; exact ⟨hC, hk, k⟩
/-- A value told in another spelling. -/
theorem a_val' {d : Option Nat} {op : AO} {af : List Nat} {os : List AOper} {v v' : AV} {u u' : Upd} {C : Prop} (h : (aop T (d.getD 0) (opdA σ.e) op).run σ.h = .val v u C) (hv : v = v') (hu : u = u') (hC : C) (hk : okNew σ u' = true) (k : aops P T os ((σ.upd u').put d v') K) :
    aops P T (⟨d, op, none, af⟩ :: os) σ K := by
  subst hv; subst hu; exact a_val h hC hk k
theorem a_gval {d : Option Nat} {op : AO} {g : Nat} {b : Bool} {af : List Nat} {os : List AOper} {v : AV} {u : Upd} {C : Prop} (hg : σ.e g = .bool b) (h : (aop T (d.getD 0) (opdA σ.e) op).run σ.h = .val v u C) (hC : C) (hk : okNew σ u = true) (k : aops P T os ((σ.upd u).put d v) K) :
    aops P T (⟨d, op, some (g, b), af⟩ :: os) σ K := by
  simp only [aops, astep, hg, if_true]
  rw [h]; exact ⟨hC, hk, k⟩
theorem a_gskip {d : Option Nat} {op : AO} {g : Nat} {b : Bool} {af : List Nat} {os : List AOper} (hg : σ.e g = .bool (!b)) (k : aops P T os (σ.put d .top) K) : aops P T (⟨d, op, some (g, b), af⟩ :: os) σ K := by
  simp only [aops, astep, hg]
  cases b
  · exact k
  · exact k
/-- A Bool in a slot is decided. -/
theorem a_state {os : List AOper} (e : σ = σ') (h : aops P T os σ' K) : aops P T os σ K := by rw [e]; exact h

theorem a_call {d : Option Nat} {m : Nat} {fo : Operand} {xs : List Operand} {af : List Nat} {os : List AOper} {f : FuncId} {args : List AV} {u : Upd} {r : AV} (h : (aop T (d.getD 0) (opdA σ.e) (.call m fo xs)).run σ.h = .call f args u [] True)
    (hm : mutIx 0 args = []) (den : Den P f args { r := r }) (hr : okRess 0 r = true) (k : aops P T os ((σ.upd u).put d r) K) : aops P T (⟨d, .call m fo xs, none, af⟩ :: os) σ K := by
  simp only [aops, astep]
  rw [h]; exact ⟨trivial, rfl, rfl, hm, _, den, rfl, rfl, hr, k⟩
theorem a_gcall {d : Option Nat} {m g : Nat} {b : Bool} {fo : Operand} {xs : List Operand} {af : List Nat} {os : List AOper} {f : FuncId} {args : List AV} {u : Upd} {r : AV} (hg : σ.e g = .bool b) (h : (aop T (d.getD 0) (opdA σ.e) (.call m fo xs)).run σ.h = .call f args u [] True)
    (hm : mutIx 0 args = []) (den : Den P f args { r := r }) (hr : okRess 0 r = true) (k : aops P T os ((σ.upd u).put d r) K) : aops P T (⟨d, .call m fo xs, some (g, b), af⟩ :: os) σ K := by
  simp only [aops, astep, hg, if_true]
  rw [h]; exact ⟨trivial, rfl, rfl, hm, _, den, rfl, rfl, hr, k⟩

/-- Nobody can tell which: both ways. -/
theorem a_split {d : Option Nat} {op : AO} {af : List Nat} {os : List AOper} {v v' : AV} {c : Prop} (h : (aop T (d.getD 0) (opdA σ.e) op).run σ.h = .split c v v') (hb : isBin op = true) (k : c → aops P T os (σ.put d v) K) (k' : aops P T os (σ.put d v') K) : aops P T (⟨d, op, none, af⟩ :: os) σ K := by
  simp only [aops, astep]
  rw [h]; exact ⟨hb, k, k'⟩
theorem a_gsplit {d : Option Nat} {op : AO} {g : Nat} {b : Bool} {af : List Nat} {os : List AOper} {v v' : AV} {c : Prop} (hg : σ.e g = .bool b) (h : (aop T (d.getD 0) (opdA σ.e) op).run σ.h = .split c v v') (hb : isBin op = true) (k : c → aops P T os (σ.put d v) K) (k' : aops P T os (σ.put d v') K) : aops P T (⟨d, op, some (g, b), af⟩ :: os) σ K := by
  simp only [aops, astep, hg, if_true]
  rw [h]; exact ⟨hb, k, k'⟩

/-- What changes no memory. -/
theorem a_pure {d : Option Nat} {op : AO} {af : List Nat} {os : List AOper} {v : AV} (h : (aop T (d.getD 0) (opdA σ.e) op).run σ.h = .val v [] True) (k : aops P T os (σ.put d v) K) : aops P T (⟨d, op, none, af⟩ :: os) σ K :=
  a_val h trivial rfl k
theorem a_pureC {d : Option Nat} {op : AO} {af : List Nat} {os : List AOper} {v : AV} {C : Prop} (h : (aop T (d.getD 0) (opdA σ.e) op).run σ.h = .val v [] C) (hC : C) (k : aops P T os (σ.put d v) K) : aops P T (⟨d, op, none, af⟩ :: os) σ K :=
  a_val h hC rfl k
theorem a_gpure {d : Option Nat} {op : AO} {g : Nat} {b : Bool} {af : List Nat} {os : List AOper} {v : AV} {C : Prop} (hg : σ.e g = .bool b) (h : (aop T (d.getD 0) (opdA σ.e) op).run σ.h = .val v [] C) (hC : C) (k : aops P T os (σ.put d v) K) :
    aops P T (⟨d, op, some (g, b), af⟩ :: os) σ K :=
  a_gval hg h hC rfl k
theorem a_st {c : ACode} (e : σ = σ') (h : acode P T L c σ' Q) : acode P T L c σ Q := by rw [e]; exact h

theorem ev_mono {K K' : St → Prop} (h : ∀ σ, K σ → K' σ) {o : AOper} {σ : St} {E : Ev} (hE : ev P σ o K E) : ev P σ o K' E := by
  cases E with
  | bad => exact hE
  | split c v v' => exact ⟨hE.1, fun hc => h _ (hE.2.1 hc), h _ hE.2.2⟩
  | val v u C => exact ⟨hE.1, hE.2.1, h _ hE.2.2⟩
  | call f args u ms C =>
    obtain ⟨h1, h2, h3, h4, r, h5, h6, h7, h8, h9⟩ := hE
    exact ⟨h1, h2, h3, h4, r, h5, h6, h7, h8, h _ h9⟩
theorem astep_mono {K K' : St → Prop} (h : ∀ σ, K σ → K' σ) {o : AOper} {σ : St} (x : astep P T o σ K) : astep P T o σ K' := by
  unfold astep at x ⊢
  split at x
  · exact ev_mono h x
  · split at x
    · split at x
      · rename_i hb; rw [if_pos hb]; exact ev_mono h x
      · rename_i hb; rw [if_neg hb]; exact h _ x
    · exact x
theorem aopsT_mono {K K' : St → Prop} (h : ∀ σ, K σ → K' σ) : ∀ (os : List AOper) (ts : List Tk) (σ : St), aopsT P T os ts σ K → aopsT P T os ts σ K'
  | [], [], σ, x => h σ x
  | o :: os, t :: ts, σ, x => astep_mono (K := fun σ' => tok T o σ σ' t = true ∧ aopsT P T os ts σ' K) (fun σ' y => ⟨y.1, aopsT_mono h os ts σ' y.2⟩) x
  | [], _ :: _, _, x => x.elim
  | _ :: _, [], _, x => x.elim
theorem acode_mono : ∀ (c : ACode) (σ : St) {Q Q' : AEx → St → Prop}, (∀ ex σ, Q ex σ → Q' ex σ) → acode P T L c σ Q → acode P T L c σ Q'
  | .skip, σ, _, _, h, x => h _ _ x
  | .region _ ops false, σ, _, _, h, x => aops_mono (fun σ' y => h .normal _ y) _ _ x
  | .region _ ops true, σ, _, _, h, ⟨ts, hd, x⟩ => ⟨ts, hd, aopsT_mono (fun σ' y => h .normal _ y) _ _ _ x⟩
  | .seq a b, σ, Q, Q', h, x => acode_mono a σ (fun ex σ' hx => by
      cases ex
      · exact acode_mono b _ h hx
      · exact h _ _ hx
      · exact h _ _ hx) x
  | .cond c a b, σ, _, _, h, x => by
    simp only [acode] at x ⊢
    split at x
    · exact acode_mono a σ h x
    · exact acode_mono b σ h x
    · exact x
  | .block id a, σ, Q, Q', h, x => acode_mono a σ (fun ex σ' hx => by
      cases ex
      · exact h _ _ hx
      · simp only [blockK] at hx ⊢
        split at hx
        · rename_i hb; rw [if_pos hb]; exact h _ _ hx
        · rename_i hb; rw [if_neg hb]; exact h _ _ hx
      · exact h _ _ hx) x
  | .loop a, σ, Q, Q', h, x => fun X hX => x X fun σ' hb => hX σ' (acode_mono a σ' (fun ex σ'' hx => by
      cases ex
      · exact hx
      · exact h _ _ hx
      · exact h _ _ hx) hb)
  | .exit _, σ, _, _, h, x => h _ _ x
  | .ret, σ, _, _, h, x => h _ _ x
  | .other, _, _, _, _, x => x

/-- Ways that meet again. -/
theorem a_join {ι : Type} {a b : ACode} (emb : ι → St) (pre : ι → Prop) (hb : ∀ x, pre x → acode P T L b (emb x) Q) (ha : acode P T L a σ (thenK (fun σ' => ∃ x, pre x ∧ keepFor L b σ' = emb x) Q)) : acode P T L (.seq a b) σ Q := by
  refine acode_mono a σ (fun ex σ' hx => ?_) ha
  cases ex
  · obtain ⟨x, hp, e⟩ := hx
    show acode P T L b (keepFor L b σ') Q
    rw [e]; exact hb x hp
  · exact hx
  · exact hx

/-! ## Loops -/
/-- The least function that goes round and round. -/
inductive Goes {α β : Type} (body : α → Option (α ⊕ β)) : α → β → Prop
  | stop {s : α} {r : β} : body s = some (.inr r) → Goes body s r
  | round {s s' : α} {r : β} : body s = some (.inl s') → Goes body s' r → Goes body s r

open Classical in
noncomputable def loopM {α β : Type} (body : α → Option (α ⊕ β)) (s : α) : Option β :=
  if h : ∃ r, Goes body s r then some (Classical.choose h) else none

theorem Goes.unique {α β : Type} {body : α → Option (α ⊕ β)} {s : α} {r r' : β} (h : Goes body s r) (h' : Goes body s r') : r = r' := by
  induction h with
  | stop h =>
    cases h' with
    | stop h2 => rw [h] at h2; cases h2; rfl
    | round h2 _ => rw [h] at h2; cases h2
  | round h _ ih =>
    cases h' with
    | stop h2 => rw [h] at h2; cases h2
    | round h2 g2 => rw [h] at h2; cases h2; exact ih g2

theorem loopM_iff {α β : Type} {body : α → Option (α ⊕ β)} {s : α} {r : β} : loopM body s = some r ↔ Goes body s r := by
  unfold loopM
  constructor
  · intro h
    split at h
    · rename_i hx
      simp only [Option.some.injEq] at h
      rw [← h]; exact Classical.choose_spec hx
    · cases h
  · intro h
    have hx : ∃ r, Goes body s r := ⟨r, h⟩
    rw [dif_pos hx]
    exact congrArg some ((Classical.choose_spec hx).unique h)

/-- One round. -/
theorem loopM_eq {α β : Type} (body : α → Option (α ⊕ β)) (s : α) : loopM body s = (body s).bind fun x => match x with
    | .inl s' => loopM body s'
    | .inr r => some r := by
  apply Option.ext
  intro r
  rw [loopM_iff]
  constructor
  · intro h
    cases h with
    | stop h => simp [h]
    | round h g => simp [h, loopM_iff.2 g]
  · intro h
    cases hb : body s with
    | none => rw [hb] at h; simp at h
    | some x =>
      rw [hb] at h
      cases x with
      | inl s' => simp only [Option.bind_some] at h; exact .round hb (loopM_iff.1 h)
      | inr r' => simp only [Option.bind_some, Option.some.injEq] at h; subst h; exact .stop hb

/-- A loop in the program against a loop of plain data. -/
theorem a_loop {α β : Type} {a : ACode} {emb : α → St} {body : α → Option (α ⊕ β)} {s : α} {r : β} {G : β → Prop} (h : loopM body s = some r) (hG : G r)
    (hstep : ∀ (X : St → Prop) (s : α) (x : α ⊕ β), body s = some x → (match x with | .inl s' => X (emb s') | .inr r => G r) → acode P T L a (emb s) (thenK (fun σ => X (keepFor L a σ)) Q)) (hs : keepFor L a σ = emb s) : acode P T L (.loop a) σ Q := by
  intro X hX
  rw [hs]
  rw [loopM_iff] at h
  clear hs
  induction h with
  | stop h => exact hX _ (hstep X _ _ h hG)
  | round h _ ih => exact hX _ (hstep X _ _ h (ih hG))
theorem a_again {a : ACode} {X : St → Prop} {Q : AEx → St → Prop} (e : keepFor L a σ = σ') (h : X σ') : thenK (fun σ => X (keepFor L a σ)) Q .normal σ := by
  show X (keepFor L a σ)
  rw [e]; exact h

/-! ## Plain programs -/
def ifp {α : Type} (c : Prop) [Decidable c] (x : Option α) : Option α := if c then x else none
theorem ifp_some {α : Type} {c : Prop} [Decidable c] {x : Option α} {r : α} (h : ifp c x = some r) : c ∧ x = some r := by
  unfold ifp at h
  split at h
  · rename_i hc; exact ⟨hc, h⟩
  · cases h
theorem ifp_pos {α : Type} {c : Prop} [Decidable c] (hc : c) (x : Option α) : ifp c x = x := if_pos hc
open Classical in
noncomputable def ifc {α : Type} (c : Prop) (x : Option α) : Option α := if c then x else none
theorem ifc_some {α : Type} {c : Prop} {x : Option α} {r : α} (h : ifc c x = some r) : c ∧ x = some r := by
  unfold ifc at h
  split at h
  · rename_i hc; exact ⟨hc, h⟩
  · cases h
theorem ifc_pos {α : Type} {c : Prop} (hc : c) (x : Option α) : ifc c x = x := if_pos hc
theorem bind_some {α β : Type} {x : Option α} {f : α → Option β} {r : β} (h : x.bind f = some r) : ∃ a, x = some a ∧ f a = some r := by
  cases x with
  | none => cases h
  | some a => exact ⟨a, rfl, h⟩
theorem map_some {α β : Type} {x : Option α} {f : α → β} {r : β} (h : x.map f = some r) : ∃ a, x = some a ∧ f a = r := by
  cases x with
  | none => cases h
  | some a => exact ⟨a, rfl, by simpa using h⟩
theorem ite_t {α : Type} {b : Bool} {x y z : α} (hb : b = true) (h : (if b then x else y) = z) : x = z := by subst hb; exact h
theorem ite_f {α : Type} {b : Bool} {x y z : α} (hb : b = false) (h : (if b then x else y) = z) : y = z := by subst hb; exact h

abbrev Vec (α : Type) (n : Nat) := { l : List α // l.length = n }
def vset {α : Type} {n : Nat} (v : Vec α n) (j : Nat) (x : α) : Vec α n := ⟨v.1.set j x, by simp [v.2]⟩
def rd {α : Type} [Inhabited α] (l : List α) (j : Nat) : α := l.getD j default
instance {α : Type} [Inhabited α] {n : Nat} : Inhabited (Vec α n) := ⟨⟨List.replicate n default, by simp⟩⟩

theorem nth_map {α : Type} [Inhabited α] (f : α → AV) (l : List α) (j : Nat) (h : j < l.length) : nth (l.map f) j = f (rd l j) := by
  simp [nth, rd, h]

end
end Go.Abs
