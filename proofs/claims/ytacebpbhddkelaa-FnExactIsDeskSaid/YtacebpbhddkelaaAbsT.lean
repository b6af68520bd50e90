/- Regions whose order is drawn: all orders that the edges allow come to one end. For every program. -/
import Derived.Test.YtacebpbhddkelaaAbsQ
namespace Go.Abs
section
variable {P : Program} {T : Tys} {fr : Fr} {σ σ' : St} {a : Act} {w : World}

theorem map_congr' {α β : Type} {f g : α → β} {l : List α} (h : ∀ x ∈ l, f x = g x) : l.map f = l.map g := List.map_congr_left h

theorem aop_congr {d : Nat} {e e' : Operand → AV} (op : AO) (h : ∀ x ∈ op.opds, e x = e' x) : aop T d e op = aop T d e' op := by
  cases op with
  | build t ps =>
    have : ps.map (fun p => e p.2) = ps.map (fun p => e' p.2) := map_congr' fun p hp => h _ (by simp only [AO.opds, List.mem_map]; exact ⟨p, hp, rfl⟩)
    simp only [aop, this]
  | bslice t n ps =>
    have : ps.map (fun p => e p.2) = ps.map (fun p => e' p.2) := map_congr' fun p hp => h _ (by simp only [AO.opds, List.mem_map]; exact ⟨p, hp, rfl⟩)
    simp only [aop, this]
  | mkfn f x y =>
    have h1 : x.map e = x.map e' := map_congr' fun p hp => h _ (by simp [AO.opds, hp])
    have h2 : y.map e = y.map e' := map_congr' fun p hp => h _ (by simp [AO.opds, hp])
    simp only [aop, h1, h2]
  | call m f args =>
    have h1 : args.map e = args.map e' := map_congr' fun p hp => h _ (by simp [AO.opds, hp])
    simp only [aop, h1, h f (by simp [AO.opds])]
  | blt m b args ts =>
    have h1 : args.map e = args.map e' := map_congr' fun p hp => h _ (by simpa [AO.opds] using hp)
    simp only [aop, h1]
  | slice t x lo hi mx =>
    have h0 := h x (by simp [AO.opds])
    have h1 : lo.map e = lo.map e' := by cases lo <;> simp [AO.opds] at h ⊢; exact h.2.1
    have h2 : hi.map e = hi.map e' := by cases hi <;> simp [AO.opds] at h ⊢; exact h.2 _ (by simp)
    have h3 : mx.map e = mx.map e' := by cases mx <;> simp [AO.opds] at h ⊢; exact h.2 _ (by simp)
    simp only [aop, h0, h1, h2, h3]
  | _ => simp [AO.opds] at h <;> simp only [aop, h]

theorem opdA_congr {e e' : Nat → AV} {xs : List Operand} (h : ∀ t ∈ tmpsOf xs, e t = e' t) : ∀ x ∈ xs, opdA e x = opdA e' x := by
  induction xs with
  | nil => simp
  | cons y ys ih =>
    intro x hx
    rcases List.mem_cons.1 hx with rfl | hx
    · cases x <;> first | rfl | exact h _ (by simp [tmpsOf])
    · exact ih (fun t ht => h t (by cases y <;> simp [tmpsOf, ht])) x hx


theorem memN_iff {x : Nat} {l : List Nat} : memN x l = true ↔ x ∈ l := by
  simp only [memN, List.any_eq_true]
  constructor
  · rintro ⟨y, hy, e⟩; rw [Nat.eq_of_beq_eq_true e]; exact hy
  · intro h; exact ⟨x, h, Nat.beq_refl x⟩
theorem disj_iff {a b : List Nat} : disj a b = true ↔ ∀ x ∈ a, x ∉ b := by
  simp only [disj, List.all_eq_true, Bool.not_eq_true']
  constructor
  · intro h x hx hb; have := h x hx; rw [memN_iff.2 hb] at this; cases this
  · intro h x hx; cases hb : memN x b with
    | false => rfl
    | true => exact absurd (memN_iff.1 hb) (h x hx)
mutual
theorem names_mem {id : Nat} : ∀ (v : AV), v.names id = true → id ∈ namesL v
  | .own i _ _, h => by simp only [AV.names, beq_iff_eq] at h; simp [namesL, h]
  | .osl i, h => by simp only [AV.names, beq_iff_eq] at h; simp [namesL, h]
  | .tuple xs, h => by simp only [AV.names] at h; simp only [namesL]; exact names_all xs h
  | .top, h => by simp [AV.names] at h
  | .int .., h => by simp [AV.names] at h
  | .bool _, h => by simp [AV.names] at h
  | .str _, h => by simp [AV.names] at h
  | .arr .., h => by simp [AV.names] at h
  | .struct .., h => by simp [AV.names] at h
  | .row .., h => by simp [AV.names] at h
  | .sl .., h => by simp [AV.names] at h
  | .clo .., h => by simp [AV.names] at h
  | .ref .., h => by simp [AV.names] at h
  | .mutsl .., h => by simp [AV.names] at h
  | .mutp _, h => by simp [AV.names] at h
  | .fr .., h => by simp [AV.names] at h
  | .raw _, h => by simp [AV.names] at h
theorem names_all {id : Nat} : ∀ (xs : List AV), AV.names.namesAny id xs = true → id ∈ namesL.all xs
  | [], h => by simp [AV.names.namesAny] at h
  | x :: xs, h => by
    simp only [AV.names.namesAny, Bool.or_eq_true] at h
    simp only [namesL.all, List.mem_append]
    rcases h with h | h
    · exact .inl (names_mem x h)
    · exact .inr (names_all xs h)
end

theorem asks_run {H H' : Hp} : ∀ (a : Ask), (∀ id ∈ a.asks H, H id = H' id) → a.run H' = a.run H
  | .ret _, _ => rfl
  | .get id k, h => by
    simp only [Ask.asks, List.mem_cons, forall_eq_or_imp] at h
    simp only [Ask.run]
    rw [← h.1]
    exact asks_run (k (H id)) h.2

def EvU (P : Program) (o : AOper) (N : Upd → Prop) : Ev → AV → Upd → Prop
  | .bad, _, _ => False
  | .split .., _, _ => False
  | .val v' u' C, v, u => C ∧ N u' ∧ u' = u ∧ v' = v
  | .call f args u' ms C, v, u => C ∧ isCall o.op = true ∧ ms = [] ∧ mutIx 0 args = [] ∧ u' = u ∧ ∃ r, Den P f args r ∧ r.ms = [] ∧ r.fs = [] ∧ okRess 0 r.r = true ∧ r.r = v

/-- One operation gives v and changes the blocks as u says. -/
def RunU (P : Program) (T : Tys) (N : Upd → Prop) (e : Nat → AV) (H : Hp) (o : AOper) (v : AV) (u : Upd) : Prop :=
  match o.guard with
  | none => EvU P o N ((aop T (o.dst.getD 0) (opdA e) o.op).run H) v u
  | some (g, want) => ∃ b, e g = .bool b ∧ (b = want → EvU P o N ((aop T (o.dst.getD 0) (opdA e) o.op).run H) v u) ∧ (b ≠ want → v = .top ∧ u = [])

theorem EvU.imp {N N' : Upd → Prop} {o : AOper} {E : Ev} {v : AV} {u : Upd} (hN : N u → N' u) (h : EvU P o N E v u) : EvU P o N' E v u := by
  cases E with
  | bad => exact h
  | split => exact h
  | val v' u' C => obtain ⟨a, b, rfl, rfl⟩ := h; exact ⟨a, hN b, rfl, rfl⟩
  | call f args u' ms C => exact h
theorem RunU.congr {N N' : Upd → Prop} {e e' : Nat → AV} {H H' : Hp} {o : AOper} {v : AV} {u : Upd} (h : RunU P T N e H o v u) (he : ∀ t ∈ o.reads, e t = e' t) (hH : ∀ id ∈ (aop T (o.dst.getD 0) (opdA e) o.op).asks H, H id = H' id) (hN : N u → N' u) : RunU P T N' e' H' o v u := by
  have h1 : aop T (o.dst.getD 0) (opdA e) o.op = aop T (o.dst.getD 0) (opdA e') o.op :=
    aop_congr o.op (opdA_congr fun t ht => he t (by simp [AOper.reads, ht]))
  unfold RunU at *
  rw [← h1, asks_run _ hH]
  split at h
  · exact h.imp hN
  · rename_i g want hg
    obtain ⟨b, hb, h2, h3⟩ := h
    exact ⟨b, by rw [← he g (by simp [AOper.reads, hg])]; exact hb, fun hw => (h2 hw).imp hN, h3⟩

theorem EvU.ev {o : AOper} {E : Ev} {v : AV} {u : Upd} (h : EvU P o (fun u => okNew σ u = true) E v u) {K : St → Prop} (hK : K ((σ.upd u).put o.dst v)) : ev P σ o K E := by
  cases E with
  | bad => exact h.elim
  | split => exact h.elim
  | val v' u C => obtain ⟨hC, hn, rfl, rfl⟩ := h; exact ⟨hC, hn, hK⟩
  | call f args u ms C =>
    obtain ⟨hC, h1, rfl, h2, rfl, r, h3, h4, h5, h6, rfl⟩ := h
    exact ⟨hC, h1, rfl, h2, r, h3, h4, h5, h6, hK⟩
theorem RunU.astep {o : AOper} {v : AV} {u : Upd} (h : RunU P T (fun u => okNew σ u = true) σ.e σ.h o v u) {K : St → Prop} (hK : K ((σ.upd u).put o.dst v)) : astep P T o σ K := by
  unfold RunU at h
  unfold Abs.astep
  split at h
  · rename_i hg; rw [hg]; exact h.ev hK
  · rename_i g want hg
    rw [hg]
    obtain ⟨b, hb, h1, h2⟩ := h
    simp only [hb]
    split
    · rename_i e; exact (h1 e).ev hK
    · rename_i e
      obtain ⟨h3, h4⟩ := h2 e
      rw [h3, h4] at hK; exact hK

theorem ev_val {o : AOper} {E : Ev} {K : St → Prop} (h : ev P σ o K E) : ∃ v u, K ((σ.upd u).put o.dst v) ∧ (E.noSplit = true → EvU P o (fun u => okNew σ u = true) E v u) := by
  cases E with
  | bad => exact h.elim
  | split c v v' => exact ⟨v', [], h.2.2, fun e => (nomatch e)⟩
  | val v u C => exact ⟨v, u, h.2.2, fun _ => ⟨h.1, h.2.1, rfl, rfl⟩⟩
  | call f args u ms C =>
    obtain ⟨hC, h1, h2, h3, r, h4, h5, h6, h7, h8⟩ := h
    exact ⟨r.r, u, h8, fun _ => ⟨hC, h1, h2, h3, rfl, r, h4, h5, h6, h7, rfl⟩⟩
theorem astep_val {o : AOper} {K : St → Prop} (h : astep P T o σ K) : ∃ v u, K ((σ.upd u).put o.dst v) ∧ (((aop T (o.dst.getD 0) (opdA σ.e) o.op).run σ.h).noSplit = true → RunU P T (fun u => okNew σ u = true) σ.e σ.h o v u) := by
  unfold Abs.astep at h
  split at h
  · rename_i hg
    obtain ⟨v, u, h1, h2⟩ := ev_val h
    exact ⟨v, u, h1, fun hs => by unfold RunU; rw [hg]; exact h2 hs⟩
  · rename_i g want hg
    split at h
    · rename_i b hb
      split at h
      · rename_i e
        obtain ⟨v, u, h1, h2⟩ := ev_val h
        exact ⟨v, u, h1, fun hs => by unfold RunU; rw [hg]; exact ⟨b, hb, fun _ => h2 hs, fun hne => absurd e hne⟩⟩
      · rename_i e
        exact ⟨.top, [], h, fun _ => by unfold RunU; rw [hg]; exact ⟨b, hb, fun hbw => absurd hbw e, fun _ => ⟨rfl, rfl⟩⟩⟩
    · exact h.elim

theorem put_H (σ : St) (d : Option Nat) (v : AV) : (σ.put d v).H = σ.H := by cases d <;> rfl
theorem put_env (σ : St) (d : Option Nat) (v : AV) (x : Nat × AV) : x ∈ (σ.put d v).env ↔ (x ∈ σ.env ∨ (d = some x.1 ∧ x.2 = v)) := by
  cases d with
  | none => simp [St.put]
  | some d =>
    simp only [St.put, List.mem_cons, Option.some.injEq]
    constructor
    · rintro (h | h)
      · subst h; exact .inr ⟨rfl, rfl⟩
      · exact .inl h
    · rintro (h | ⟨h1, h2⟩)
      · exact .inr h
      · left; cases x; simp only at h1 h2; subst h1; subst h2; rfl

abbrev VU := AV × Upd
def OChain (P : Program) (T : Tys) : List AOper → List Tk → List VU → St → St → Prop
  | [], [], [], σ, σF => σF = σ
  | o :: os, t :: ts, x :: xs, σ, σF => RunU P T (fun u => okNew σ u = true) σ.e σ.h o x.1 x.2 ∧ (∀ id ∈ (aop T (o.dst.getD 0) (opdA σ.e) o.op).asks σ.h, id ∈ t.R) ∧ (∀ q ∈ x.2, q.1 ∈ t.W) ∧ (∀ d, o.dst = some d → ∀ id, x.1.names id = true → id ∈ t.N) ∧ OChain P T os ts xs ((σ.upd x.2).put o.dst x.1) σF
  | _, _, _, _, _ => False

theorem chain_of : ∀ (os : List AOper) (ts : List Tk) (σ : St) (K : St → Prop), aopsT P T os ts σ K → ∃ xs σF, K σF ∧ xs.length = os.length ∧ OChain P T os ts xs σ σF
  | [], [], σ, K, h => ⟨[], σ, h, rfl, rfl⟩
  | o :: os, t :: ts, σ, K, h => by
    obtain ⟨v, u, ⟨h1, h3⟩, h2⟩ := astep_val (K := fun σ' => tok T o σ σ' t = true ∧ aopsT P T os ts σ' K) h
    obtain ⟨xs, σF, h4, h5, h6⟩ := chain_of os ts _ K h3
    simp only [tok, Bool.and_eq_true, List.all_eq_true] at h1
    obtain ⟨⟨⟨k0, k1⟩, k2⟩, k3⟩ := h1
    refine ⟨(v, u) :: xs, σF, h4, by simp [h5], h2 k0, fun id hid => memN_iff.1 (k1 id hid), fun q hq => memN_iff.1 (k2 q ?_), fun d hd id hn => ?_, h6⟩
    · rw [put_H]; simp [St.upd]; exact hq
    · rw [hd] at k3
      simp only [List.all_eq_true] at k3
      have := k3 id (by rw [e_put, if_pos rfl]; exact names_mem v hn)
      exact memN_iff.1 this
  | [], _ :: _, _, _, h => h.elim
  | _ :: _, [], _, _, h => h.elim

def writes (xs : List VU) (j id : Nat) : Prop := ∃ x, xs[j]? = some x ∧ ∃ b, look x.2 id = some b

/-- The state when the operations of S have run. -/
structure Agrees (os : List AOper) (xs : List VU) (S : Nat → Prop) (σ σ' : St) : Prop where
  out : ∀ t, (∀ j o, S j → os[j]? = some o → o.dst ≠ some t) → σ'.e t = σ.e t
  ins : ∀ j o x t, S j → os[j]? = some o → xs[j]? = some x → o.dst = some t → σ'.e t = x.1
  hout : ∀ id, (∀ j, S j → ¬ writes xs j id) → σ'.h id = σ.h id
  hins : ∀ j x id b, S j → xs[j]? = some x → look x.2 id = some b → (∀ k, S k → j < k → ¬ writes xs k id) → σ'.h id = b
  env : ∀ q ∈ σ'.env, q ∈ σ.env ∨ ∃ j o x, S j ∧ os[j]? = some o ∧ xs[j]? = some x ∧ o.dst = some q.1 ∧ q.2 = x.1

theorem Agrees.none {os : List AOper} {xs : List VU} (σ : St) : Agrees os xs (fun _ => False) σ σ :=
  ⟨fun _ _ => rfl, fun _ _ _ _ h => h.elim, fun _ _ => rfl, fun _ _ _ _ h => h.elim, fun _ h => .inl h⟩
theorem Agrees.put {os : List AOper} {xs : List VU} {S S' : Nat → Prop} {σ σ' : St} (h : Agrees os xs S σ σ') {i : Nat} {o : AOper} {x : VU} (ho : os[i]? = some o) (hx : xs[i]? = some x) (hS : ∀ j, S' j ↔ S j ∨ j = i)
    (hd : ∀ j o', S j → j ≠ i → os[j]? = some o' → ∀ t, o.dst = some t → o'.dst ≠ some t) (hw : ∀ j id, S j → i < j → writes xs j id → writes xs i id → False) : Agrees os xs S' σ ((σ'.upd x.2).put o.dst x.1) := by
  refine ⟨fun t ht => ?_, fun j o' v' t hj ho' hv' hd' => ?_, fun id hid => ?_, fun j x' id b hj hx' hb hlast => ?_, fun q hq => ?_⟩
  · rw [e_put, if_neg (ht i o ((hS i).2 (.inr rfl)) ho), e_upd]
    exact h.out t fun j o' hj => ht j o' ((hS j).2 (.inl hj))
  · rw [e_put]
    by_cases hji : j = i
    · subst hji
      rw [ho] at ho'; cases ho'
      rw [hx] at hv'; cases hv'
      rw [if_pos hd']
    · have hSj : S j := by rcases (hS j).1 hj with h | h
                           · exact h
                           · exact absurd h hji
      rw [if_neg (fun e => hd j o' hSj hji ho' t e hd'), e_upd]
      exact h.ins j o' v' t hSj ho' hv' hd'
  · rw [h_put, h_upd]
    have h1 : look x.2 id = Option.none := by
      cases hl : look x.2 id with
      | none => rfl
      | some b => exact absurd ⟨x, hx, b, hl⟩ (hid i ((hS i).2 (.inr rfl)))
    simp only [updH, h1]
    exact h.hout id fun j hj => hid j ((hS j).2 (.inl hj))
  · rw [h_put, h_upd]
    by_cases hji : j = i
    · subst hji
      rw [hx] at hx'; cases hx'
      simp only [updH, hb]
    · have hSj : S j := by rcases (hS j).1 hj with h | h
                           · exact h
                           · exact absurd h hji
      have h1 : look x.2 id = Option.none := by
        cases hl : look x.2 id with
        | none => rfl
        | some b' =>
          exfalso
          rcases Nat.lt_trichotomy j i with hlt | he | hlt
          · exact hlast i ((hS i).2 (.inr rfl)) hlt ⟨x, hx, b', hl⟩
          · exact hji he
          · exact hw j id hSj hlt ⟨x', hx', b, hb⟩ ⟨x, hx, b', hl⟩
      simp only [updH, h1]
      exact h.hins j x' id b hSj hx' hb fun k hk hlt => hlast k ((hS k).2 (.inl hk)) hlt
  · rcases (put_env _ _ _ _).1 hq with hq | ⟨hq1, hq2⟩
    · rcases h.env q hq with h1 | ⟨j, o', x', h1, h2⟩
      · exact .inl h1
      · exact .inr ⟨j, o', x', (hS j).2 (.inl h1), h2⟩
    · exact .inr ⟨i, o, x, (hS i).2 (.inr rfl), ho, hx, hq1, hq2⟩

structure Spec (os : List AOper) (ts : List Tk) : Prop where
  len : os.length = ts.length
  edge : ∀ (i : Nat) (o : AOper), os[i]? = some o → ∀ e ∈ o.after, e < i
  sub : ∀ (i : Nat) (t : Tk), ts[i]? = some t → ∀ x ∈ t.W, x ∈ t.R
  anc : ∀ (i : Nat) (o : AOper) (t : Tk), os[i]? = some o → ts[i]? = some t → ∀ x ∈ t.A, x ∈ o.after ∨ ∃ j ∈ o.after, ∃ t', ts[j]? = some t' ∧ x ∈ t'.A
  dst : ∀ (i j : Nat) (o o' : AOper), i ≠ j → os[i]? = some o → os[j]? = some o' → ∀ d, o.dst = some d → o'.dst ≠ some d
  /-- i looks at what j writes -/
  ord : ∀ (i j : Nat) (o o' : AOper) (t t' : Tk), i ≠ j → os[i]? = some o → ts[i]? = some t → os[j]? = some o' → ts[j]? = some t' → (j < i ∧ j ∈ t.A) ∨ (i < j ∧ i ∈ t'.A) ∨ ((∀ d, o'.dst = some d → d ∉ o.reads) ∧ ∀ x ∈ t'.W, x ∉ t.R)
  nam : ∀ (i j : Nat) (o o' : AOper) (t t' : Tk), i < j → os[i]? = some o → ts[i]? = some t → os[j]? = some o' → ts[j]? = some t' → i ∈ t'.A ∨ ∀ x ∈ t.W, x ∉ t'.N

theorem okDraw_spec {os : List AOper} {ts : List Tk} (h : okDraw os ts = true) : Spec os ts := by
  simp only [okDraw, Bool.and_eq_true] at h
  have hlen : os.length = ts.length := Nat.eq_of_beq_eq_true h.1
  have one : ∀ (i : Nat) (o : AOper) (t : Tk), os[i]? = some o → ts[i]? = some t → (∀ e ∈ o.after, e < i) ∧ (∀ x ∈ t.W, x ∈ t.R) ∧ (∀ x ∈ t.A, x ∈ o.after ∨ ∃ j ∈ o.after, x ∈ (ts.getD j default).A) ∧ ∀ (j : Nat) (o' : AOper) (t' : Tk), os[j]? = some o' → ts[j]? = some t' → okPair i o t j o' t' = true := by
    intro i o t ho ht
    have h1 := List.all_eq_true.1 h.2 i (List.mem_range.2 (List.getElem?_eq_some_iff.1 ho).1)
    rw [ho, ht] at h1
    simp only [Bool.and_eq_true, List.all_eq_true] at h1
    obtain ⟨⟨⟨h2, h3⟩, h4⟩, h5⟩ := h1
    refine ⟨fun e he => Nat.le_of_ble_eq_true (h2 e he), fun x hx => memN_iff.1 (h3 x hx), fun x hx => ?_, fun j o' t' ho' ht' => ?_⟩
    · have := h4 x hx
      simp only [Bool.or_eq_true, List.any_eq_true] at this
      rcases this with h | ⟨j, hj, hm⟩
      · exact .inl (memN_iff.1 h)
      · exact .inr ⟨j, hj, memN_iff.1 hm⟩
    · have := h5 j (List.mem_range.2 (List.getElem?_eq_some_iff.1 ho').1)
      rw [ho', ht'] at this
      exact this
  have tk : ∀ (i : Nat) (o : AOper), os[i]? = some o → ∃ t, ts[i]? = some t := fun i o ho =>
    ⟨_, List.getElem?_eq_getElem (by have := (List.getElem?_eq_some_iff.1 ho).1; omega)⟩
  have op : ∀ (i : Nat) (t : Tk), ts[i]? = some t → ∃ o, os[i]? = some o := fun i o ho =>
    ⟨_, List.getElem?_eq_getElem (by have := (List.getElem?_eq_some_iff.1 ho).1; omega)⟩
  have pair : ∀ (i j : Nat) (o o' : AOper) (t t' : Tk), i ≠ j → os[i]? = some o → ts[i]? = some t → os[j]? = some o' → ts[j]? = some t' →
      (∀ d, o.dst = some d → o'.dst ≠ some d) ∧ ((j < i ∧ j ∈ t.A) ∨ (i < j ∧ i ∈ t'.A) ∨ ((∀ d, o'.dst = some d → d ∉ o.reads) ∧ ∀ x ∈ t'.W, x ∉ t.R)) ∧ (i < j → i ∈ t'.A ∨ ∀ x ∈ t.W, x ∉ t'.N) := by
    intro i j o o' t t' hne ho ht ho' ht'
    have h1 := (one i o t ho ht).2.2.2 j o' t' ho' ht'
    have hb : Nat.beq i j = false := by rw [← Bool.not_eq_true, Nat.beq_eq]; exact hne
    simp only [okPair, hb, Bool.false_or, Bool.and_eq_true, Bool.or_eq_true] at h1
    obtain ⟨⟨h2, h3⟩, h4⟩ := h1
    refine ⟨fun d hd hd' => ?_, ?_, fun hlt => ?_⟩
    · rw [hd, hd'] at h2; simp [Nat.beq_refl] at h2
    · rcases h3 with h3 | ⟨h5, h6⟩
      · cases hb : Nat.blt j i with
        | true => rw [hb] at h3; exact .inl ⟨Nat.le_of_ble_eq_true hb, memN_iff.1 h3⟩
        | false =>
          rw [hb] at h3
          refine .inr (.inl ⟨?_, memN_iff.1 h3⟩)
          rcases Nat.lt_trichotomy i j with h | h | h
          · exact h
          · exact absurd h hne
          · have : Nat.blt j i = true := Nat.ble_eq_true_of_le h
            rw [this] at hb; cases hb
      · refine .inr (.inr ⟨fun d hd hm => ?_, disj_iff.1 h6⟩)
        rw [hd] at h5
        simp only [memN_iff.2 hm, Bool.not_true, Bool.false_eq_true] at h5
    · rcases h4 with (h4 | h4) | h4
      · have : Nat.blt i j = true := Nat.ble_eq_true_of_le hlt
        rw [this] at h4; simp at h4
      · exact .inl (memN_iff.1 h4)
      · exact .inr (disj_iff.1 h4)
  refine ⟨hlen, fun i o ho => ?_, fun i t ht => ?_, fun i o t ho ht x hx => ?_, fun i j o o' hne ho ho' => ?_, fun i j o o' t t' hne ho ht ho' ht' => (pair i j o o' t t' hne ho ht ho' ht').2.1, fun i j o o' t t' hlt ho ht ho' ht' => (pair i j o o' t t' (Nat.ne_of_lt hlt) ho ht ho' ht').2.2 hlt⟩
  · obtain ⟨t, ht⟩ := tk i o ho
    exact (one i o t ho ht).1
  · obtain ⟨o, ho⟩ := op i t ht
    exact (one i o t ho ht).2.1
  · rcases (one i o t ho ht).2.2.1 x hx with h | ⟨j, hj, hm⟩
    · exact .inl h
    · refine .inr ⟨j, hj, ?_⟩
      have hjlt := (one i o t ho ht).1 j hj
      have hjl : j < ts.length := by have := (List.getElem?_eq_some_iff.1 ht).1; omega
      refine ⟨_, List.getElem?_eq_getElem hjl, ?_⟩
      rw [List.getD_eq_getElem?_getD, List.getElem?_eq_getElem hjl] at hm
      exact hm
  · obtain ⟨t, ht⟩ := tk i o ho
    obtain ⟨t', ht'⟩ := tk j o' ho'
    exact (pair i j o o' t t' hne ho ht ho' ht').1

/-- What stands behind has run. -/
theorem Spec.anc_mem {os : List AOper} {ts : List Tk} (sp : Spec os ts) {S : Nat → Prop} (hcl : ∀ (i : Nat) (o : AOper), os[i]? = some o → S i → ∀ e ∈ o.after, S e) : ∀ (i : Nat) (t : Tk), ts[i]? = some t → (∀ (e : Nat) (o : AOper), os[i]? = some o → e ∈ o.after → S e) → ∀ x ∈ t.A, S x := by
  intro i
  induction i using Nat.strongRecOn with
  | ind i ih =>
    intro t ht hS x hx
    have hil : i < os.length := by rw [sp.len]; exact (List.getElem?_eq_some_iff.1 ht).1
    have ho := List.getElem?_eq_getElem hil
    rcases sp.anc i _ t ho ht x hx with h | ⟨j, hj, t', ht', hm⟩
    · exact hS x _ ho h
    · have hjS := hS j _ ho hj
      exact ih j (sp.edge i _ ho j hj) t' ht' (fun e o hoj he => hcl j o hoj hjS e he) x hm

theorem chain_at {os : List AOper} {ts : List Tk} {xs : List VU} {σ σF : St} (sp : Spec os ts) (hl : xs.length = os.length) (h : OChain P T os ts xs σ σF) : ∀ i, i ≤ os.length → ∃ σi, OChain P T (os.drop i) (ts.drop i) (xs.drop i) σi σF ∧ Agrees os xs (· < i) σ σi ∧ (∀ q ∈ σ.env, q ∈ σi.env) ∧ (∀ (j : Nat) (o : AOper) (x : VU) (d : Nat), j < i → os[j]? = some o → xs[j]? = some x → o.dst = some d → (d, x.1) ∈ σi.env)
  | 0, _ => ⟨σ, by simpa using h, ⟨fun _ _ => rfl, fun _ _ _ _ h => absurd h (Nat.not_lt_zero _), fun _ _ => rfl, fun _ _ _ _ h => absurd h (Nat.not_lt_zero _), fun _ h => .inl h⟩, fun _ h => h, fun _ _ _ _ h => absurd h (Nat.not_lt_zero _)⟩
  | i + 1, hi => by
    obtain ⟨σi, h1, h2, h3, h4⟩ := chain_at sp hl h i (by omega)
    have e1 : os.drop i = os[i] :: os.drop (i + 1) := List.drop_eq_getElem_cons (by omega)
    have e2 : xs.drop i = xs[i] :: xs.drop (i + 1) := List.drop_eq_getElem_cons (by omega)
    have e3 : ts.drop i = ts[i]'(by rw [← sp.len]; omega) :: ts.drop (i + 1) := List.drop_eq_getElem_cons (by rw [← sp.len]; omega)
    rw [e1, e2, e3] at h1
    have hx : xs[i]? = some xs[i] := List.getElem?_eq_getElem _
    refine ⟨_, h1.2.2.2.2, h2.put (i := i) (o := os[i]) (x := xs[i]) (by simp) hx (fun j => by omega) (fun j o' hj hne ho' t ht => sp.dst i j _ o' (Ne.symm hne) (by simp) ho' t ht) (fun j id hj hij => by omega), fun q hq => (put_env _ _ _ _).2 (.inl (h3 q hq)), fun j o x d hj ho hxj hd => ?_⟩
    refine (put_env _ _ _ _).2 ?_
    by_cases hji : j = i
    · subst hji
      rw [hx] at hxj; cases hxj
      have : os[j]? = some os[j] := by simp
      rw [this] at ho; cases ho
      exact .inr ⟨hd, rfl⟩
    · exact .inl (h4 j o x d (by omega) ho hxj hd)

theorem exists_max {p : Nat → Prop} : ∀ (n : Nat), (∃ j, j < n ∧ p j) → ∃ m, m < n ∧ p m ∧ ∀ k, m < k → k < n → ¬ p k
  | 0, ⟨j, h, _⟩ => absurd h (Nat.not_lt_zero _)
  | n + 1, ⟨j, h, hp⟩ => by
    by_cases hn : p n
    · exact ⟨n, by omega, hn, fun k h1 h2 => by omega⟩
    · have hjn : j ≠ n := fun e => hn (e ▸ hp)
      obtain ⟨m, h1, h2, h3⟩ := exists_max n ⟨j, by omega, hp⟩
      refine ⟨m, by omega, h2, fun k h4 h5 => ?_⟩
      by_cases hk : k = n
      · subst hk; exact hn
      · exact h3 k h4 (by omega)

/-- Two states that agree on who has written a block hold the same in it. -/
theorem Agrees.heap_eq {os : List AOper} {xs : List VU} {S S' : Nat → Prop} {σ σ1 σ2 : St} (h1 : Agrees os xs S σ σ1) (h2 : Agrees os xs S' σ σ2) {id n : Nat} (hn : ∀ j, writes xs j id → j < n) (h : ∀ j, writes xs j id → (S j ↔ S' j)) : σ1.h id = σ2.h id := by
  by_cases hx : ∃ j, S j ∧ writes xs j id
  · obtain ⟨j, hj, hw⟩ := hx
    obtain ⟨m, _, ⟨hm1, hm2⟩, hm3⟩ := exists_max (p := fun j => S j ∧ writes xs j id) n ⟨j, hn j hw, hj, hw⟩
    obtain ⟨x, hxm, b, hb⟩ := hm2
    rw [h1.hins m x id b hm1 hxm hb fun k hk hlt hwk => hm3 k hlt (hn k hwk) ⟨hk, hwk⟩,
      h2.hins m x id b ((h m ⟨x, hxm, b, hb⟩).1 hm1) hxm hb fun k hk hlt hwk => hm3 k hlt (hn k hwk) ⟨(h k hwk).2 hk, hwk⟩]
  · rw [h1.hout id fun j hj hw => hx ⟨j, hj, hw⟩, h2.hout id fun j hj hw => hx ⟨j, (h j hw).2 hj, hw⟩]

theorem RelF.congr (h1 : ∀ t, σ.e t = σ'.e t) (h2 : σ.h = σ'.h) (hr : RelF fr σ a w) : RelF fr σ' a w := by
  obtain ⟨⟨ρ, r1, r2, r3⟩, d, s, o⟩ := hr
  refine ⟨⟨ρ, ?_, fun t => ?_, ?_⟩, d, s, o⟩
  · rw [← h2]; exact r1
  · rw [← h2, ← h1 t]; exact r2 t
  · rw [← h2]; exact r3

/-- How many are not yet listed. -/
def unl (listed : Array Bool) : Nat := listed.toList.count false
theorem unl_set {listed : Array Bool} {i : Nat} (h : listed.getD i true = false) : unl (listed.setIfInBounds i true) + 1 = unl listed := by
  have hi : i < listed.size := by
    rcases Nat.lt_or_ge i listed.size with h' | h'
    · exact h'
    · simp [Array.getElem?_eq_none h'] at h
  have hv : listed.toList[i]'(by simpa using hi) = false := by
    simpa [Array.getD_eq_getD_getElem?, hi] using h
  unfold unl
  rw [Array.toList_setIfInBounds, List.count_set (by simpa using hi), hv]
  have : 0 < listed.toList.count false := List.count_pos_iff.2 (by rw [← hv]; exact List.getElem_mem _)
  have e1 : (false == false) = true := rfl
  have e2 : ¬ (true == false) = true := by decide
  rw [if_pos e1, if_neg e2]
  omega

theorem after_strip {m : List (Nat × Nat)} {ops : Array Oper} {o : Oper} {x : Nat} (h : x ∈ (stripOper m true ops o).after) : ∃ e ∈ o.after, Region.binds .any e = true ∧ e.on = x := by
  simp only [stripOper, if_true, List.mem_map, List.mem_filter] at h
  obtain ⟨e, ⟨h1, h2⟩, h3⟩ := h
  exact ⟨e, by simpa using h1, h2, h3⟩
theorem strip_after {m : List (Nat × Nat)} {ops : Array Oper} {o : Oper} {e : Edge} (h : e ∈ o.after) (hb : Region.binds .any e = true) : e.on ∈ (stripOper m true ops o).after := by
  simp only [stripOper, if_true, List.mem_map, List.mem_filter]
  exact ⟨e, ⟨by simpa using h, hb⟩, rfl⟩


theorem any_sound (g : Good P T) (hn : fr.n ≤ 999999) (hN : ∀ k, fr.w0.heap.size ≤ k → fr.N k) {m : List (Nat × Nat)} {ops : Array Oper} {Q : Exit → Act → World → Prop} {os : List AOper} {ts : List Tk} (hos : os = ops.toList.map (stripOper m true ops)) {xs : List VU} {σF : St} (hl : xs.length = os.length) (hok : okDraw os ts = true)
    (hch : OChain P T os ts xs σ σF) (hd : os.all (dstLt fr.n) = true) (hQ : ∀ a w, RelF fr σF a w → Q .normal a w) :
    ∀ (fuel : Nat) (listed : Array Bool) (σ' : St) (a : Act) (w : World), listed.size = ops.size → unl listed ≤ fuel → (∀ (i : Nat) (o : AOper), os[i]? = some o → listed.getD i false = true → ∀ e ∈ o.after, listed.getD e false = true) →
      Agrees os xs (fun i => listed.getD i false = true) σ σ' → RelF fr σ' a w → wpAny P .any ops Q fuel listed a w := by
  have sp := okDraw_spec hok
  have hsz : os.length = ops.size := by rw [hos]; simp
  have hget : ∀ (i : Nat) (o : Oper), ops[i]? = some o → os[i]? = some (stripOper m true ops o) := by
    intro i o ho
    rw [hos, List.getElem?_map, Array.getElem?_toList, ho]; rfl
  have hwlt : ∀ j id, writes xs j id → j < os.length := by
    rintro j id ⟨x, hx, _⟩
    have := (List.getElem?_eq_some_iff.1 hx).1
    omega
  -- what an operation writes, it is told to write
  have hwW : ∀ (j : Nat) (id : Nat) (t : Tk), writes xs j id → ts[j]? = some t → id ∈ t.W := by
    rintro j id t ⟨x, hx, b, hb⟩ ht
    have hj := (List.getElem?_eq_some_iff.1 hx).1
    obtain ⟨σj, h1, _⟩ := chain_at sp hl hch j (by omega)
    have e1 : os.drop j = os[j]'(by omega) :: os.drop (j + 1) := List.drop_eq_getElem_cons (by omega)
    have e2 : xs.drop j = xs[j] :: xs.drop (j + 1) := List.drop_eq_getElem_cons (by omega)
    have e3 : ts.drop j = ts[j]'(by rw [← sp.len]; omega) :: ts.drop (j + 1) := List.drop_eq_getElem_cons (by rw [← sp.len]; omega)
    rw [e1, e2, e3] at h1
    have ex : xs[j] = x := by rw [List.getElem?_eq_getElem hj] at hx; exact Option.some.inj hx
    have et : ts[j]'(by rw [← sp.len]; omega) = t := by rw [List.getElem?_eq_getElem (by rw [← sp.len]; omega)] at ht; exact Option.some.inj ht
    have h2 := h1.2.2.1 (id, b) (by rw [ex]; exact look_mem _ _ _ hb)
    rw [et] at h2; exact h2
  -- all is listed, so this is the end
  have fin : ∀ (listed : Array Bool) (σ' : St) (a : Act) (w : World), listed.size = ops.size → (∀ i, i < ops.size → listed.getD i false = true) → Agrees os xs (fun i => listed.getD i false = true) σ σ' → RelF fr σ' a w → Q .normal a w := by
    intro listed σ' a w hs hall hag hr
    obtain ⟨σe, h1, h2, _⟩ := chain_at sp hl hch os.length (Nat.le_refl _)
    have h3 : OChain P T [] [] [] σe σF := by
      rw [List.drop_of_length_le (Nat.le_of_eq hl), List.drop_of_length_le (Nat.le_refl _), List.drop_of_length_le (Nat.le_of_eq sp.len.symm)] at h1
      exact h1
    have h4 : σF = σe := h3
    subst h4
    refine hQ a w (hr.congr (fun t => ?_) ?_)
    · by_cases hx : ∃ (j : Nat) (o : AOper), os[j]? = some o ∧ o.dst = some t
      · obtain ⟨j, o, ho, hdst⟩ := hx
        have hj : j < os.length := (List.getElem?_eq_some_iff.1 ho).1
        have hv : xs[j]? = some (xs[j]'(by omega)) := List.getElem?_eq_getElem (by omega)
        rw [hag.ins j o _ t (hall j (by omega)) ho hv hdst, h2.ins j o _ t hj ho hv hdst]
      · have hno : ∀ (j : Nat) (o : AOper), os[j]? = some o → o.dst ≠ some t := fun j o ho hdst => hx ⟨j, o, ho, hdst⟩
        rw [hag.out t fun j o _ ho => hno j o ho, h2.out t fun j o _ ho => hno j o ho]
    · funext id
      refine hag.heap_eq h2 (n := os.length) (fun j hw => hwlt j id hw) fun j hw => ?_
      have := hwlt j id hw
      exact ⟨fun _ => this, fun _ => hall j (by omega)⟩
  -- if none is ready, all is listed
  have prog : ∀ (listed : Array Bool), listed.size = ops.size → Region.ready .any ops listed = [] → ∀ i, i < ops.size → listed.getD i false = true := by
    intro listed hs hr i
    induction i using Nat.strongRecOn with
    | ind i ih =>
      intro hi
      cases hb : listed.getD i false with
      | true => rfl
      | false =>
        exfalso
        have : i ∈ Region.ready .any ops listed := by
          rw [mem_ready]
          refine ⟨?_, ops[i], by simp, fun e he hbd => ?_⟩
          · have hil : i < listed.size := by omega
            simpa [Array.getD_eq_getD_getElem?, hil] using hb
          · have h1 := sp.edge i _ (hget i ops[i] (by simp)) _ (strip_after he hbd)
            exact ih _ h1 (by omega)
        rw [hr] at this; cases this
  intro fuel
  induction fuel with
  | zero =>
    intro listed σ' a w hs hu hcl hag hr
    have hall : ∀ i, i < ops.size → listed.getD i false = true := by
      intro i hi
      cases hb : listed.getD i false with
      | true => rfl
      | false =>
        exfalso
        have hil : i < listed.size := by omega
        have : listed.getD i true = false := by
          simpa [Array.getD_eq_getD_getElem?, hil] using hb
        have := unl_set this
        omega
    refine ⟨?_, fin listed σ' a w hs hall hag hr⟩
    cases hrd : Region.ready .any ops listed with
    | nil => rfl
    | cons x xs =>
      exfalso
      have hx : x ∈ Region.ready .any ops listed := by rw [hrd]; simp
      obtain ⟨h0, o, ho, _⟩ := mem_ready.1 hx
      have hxl := (Array.getElem?_eq_some_iff.1 ho).1
      have := hall x hxl
      simp [Array.getD_eq_getD_getElem?, show x < listed.size by omega] at this h0
      rw [this] at h0; cases h0
  | succ fuel ih =>
    intro listed σ' a w hs hu hcl hag hr
    refine ⟨fun hrd => fin listed σ' a w hs (prog listed hs hrd) hag hr, fun i hi => ?_⟩
    obtain ⟨h0, o, ho, hall⟩ := mem_ready.1 hi
    have hio := hget i o ho
    have hil : i < os.length := (List.getElem?_eq_some_iff.1 hio).1
    have hit : i < ts.length := by rw [← sp.len]; exact hil
    have hti : ts[i]? = some (ts[i]'hit) := List.getElem?_eq_getElem hit
    have hvi : xs[i]? = some (xs[i]'(by omega)) := List.getElem?_eq_getElem (by omega)
    obtain ⟨σi, h1, h2, hsub, hold⟩ := chain_at sp hl hch i (by omega)
    have e1 : os.drop i = os[i] :: os.drop (i + 1) := List.drop_eq_getElem_cons (by omega)
    have e2 : xs.drop i = xs[i] :: xs.drop (i + 1) := List.drop_eq_getElem_cons (by omega)
    have e3 : ts.drop i = ts[i]'hit :: ts.drop (i + 1) := List.drop_eq_getElem_cons hit
    rw [e1, e2, e3] at h1
    have eo : os[i] = stripOper m true ops o := by
      have := List.getElem?_eq_getElem hil
      rw [hio] at this; exact (Option.some.inj this).symm
    have hnl : ¬ listed.getD i false = true := by
      have hb : i < listed.size := by omega
      simp [Array.getD_eq_getD_getElem?, hb] at h0 ⊢
      exact h0
    -- what stands behind i has run; and i has not run, so nothing that stands before has
    have hanc : ∀ x ∈ (ts[i]'hit).A, listed.getD x false = true :=
      sp.anc_mem (S := fun i => listed.getD i false = true) hcl i _ hti fun e oe hoe he => by
        rw [hio] at hoe; cases hoe
        obtain ⟨e', he', hb, rfl⟩ := after_strip he
        exact hall e' he' hb
    have hnanc : ∀ (j : Nat) (t : Tk), ts[j]? = some t → i ∈ t.A → ¬ listed.getD j false = true := by
      intro j t ht hm hlj
      have hj : j < os.length := by rw [sp.len]; exact (List.getElem?_eq_some_iff.1 ht).1
      exact hnl (sp.anc_mem (S := fun i => listed.getD i false = true) hcl j t ht (fun e oe hoe he => hcl j oe hoe hlj e he) i hm)
    -- who has written a block that i looks at
    have heap : ∀ id ∈ (ts[i]'hit).R, σi.h id = σ'.h id := by
      intro id hid
      refine h2.heap_eq hag (n := os.length) (fun j hw => hwlt j id hw) fun j hw => ?_
      have hj := hwlt j id hw
      by_cases hji : j = i
      · subst hji; exact ⟨fun h => absurd h (Nat.lt_irrefl _), fun h => absurd h hnl⟩
      · have htj : ts[j]? = some (ts[j]'(by rw [← sp.len]; exact hj)) := List.getElem?_eq_getElem _
        rcases sp.ord i j _ _ _ _ (Ne.symm hji) hio hti (List.getElem?_eq_getElem hj) htj with ⟨hlt, hm⟩ | ⟨hlt, hm⟩ | ⟨_, hm⟩
        · exact ⟨fun _ => hanc j hm, fun _ => hlt⟩
        · exact ⟨fun h => absurd h (by omega), fun h => absurd h (hnanc j _ htj hm)⟩
        · exact absurd hid (hm id (hwW j id _ hw htj))
    have hrun : RunU P T (fun u => okNew σ' u = true) σ'.e σ'.h (stripOper m true ops o) (xs[i]'(by omega)).1 (xs[i]'(by omega)).2 := by
      rw [← eo]
      refine h1.1.congr (fun t ht => ?_) (fun id hid => heap id (h1.2.1 id hid)) fun hnew => ?_
      · rw [eo] at ht
        by_cases hx : ∃ (j : Nat) (o' : AOper), j ≠ i ∧ os[j]? = some o' ∧ o'.dst = some t
        · obtain ⟨j, o', hji, ho', hdst⟩ := hx
          have hjl : j < os.length := (List.getElem?_eq_some_iff.1 ho').1
          have htj : ts[j]? = some (ts[j]'(by rw [← sp.len]; exact hjl)) := List.getElem?_eq_getElem _
          have hvj : xs[j]? = some (xs[j]'(by omega)) := List.getElem?_eq_getElem (by omega)
          rcases sp.ord i j _ _ _ _ (Ne.symm hji) hio hti ho' htj with ⟨hlt, hm⟩ | ⟨hlt, hm⟩ | ⟨hm, _⟩
          · rw [h2.ins j o' _ t hlt ho' hvj hdst, hag.ins j o' _ t (hanc j hm) ho' hvj hdst]
          · have hlj : ¬ listed.getD j false = true := hnanc j _ htj hm
            have huniq : ∀ (k : Nat) (ok : AOper), k ≠ j → os[k]? = some ok → ok.dst ≠ some t := fun k ok hkj hok' hdk =>
              sp.dst k j _ _ hkj hok' ho' t hdk hdst
            rw [h2.out t fun k ok hk hok' hdk => ?_, hag.out t fun k ok hk hok' hdk => ?_]
            · by_cases hkj : k = j
              · subst hkj; exact hlj hk
              · exact huniq k ok hkj hok' hdk
            · by_cases hkj : k = j
              · omega
              · exact huniq k ok hkj hok' hdk
          · exact absurd ht (hm t hdst)
        · have hno : ∀ (k : Nat) (ok : AOper), k ≠ i → os[k]? = some ok → ok.dst ≠ some t := fun k ok hk hok' hdk => hx ⟨k, ok, hk, hok', hdk⟩
          rw [h2.out t fun k ok hk hok' => hno k ok (by omega) hok', hag.out t fun k ok hk hok' => hno k ok (fun e => hnl (e ▸ hk)) hok']
      · refine List.all_eq_true.2 fun q hq => ?_
        have hq1 := List.all_eq_true.1 hnew q hq
        have hqR : q.1 ∈ (ts[i]'hit).R := sp.sub i _ hti _ (h1.2.2.1 q hq)
        simp only [Bool.or_eq_true, Bool.and_eq_true] at hq1 ⊢
        rcases hq1 with (h | h) | ⟨h3, h4⟩
        · exact .inl (.inl h)
        · rw [heap q.1 hqR] at h; exact .inl (.inr h)
        · refine .inr ⟨h3, List.all_eq_true.2 fun y hy => ?_⟩
          rw [List.all_eq_true] at h4
          rcases hag.env y hy with h | ⟨j, o', x', hlj, ho', hx', hd', hy'⟩
          · exact h4 y (hsub y h)
          · have hjl : j < os.length := (List.getElem?_eq_some_iff.1 ho').1
            have htj : ts[j]? = some (ts[j]'(by rw [← sp.len]; exact hjl)) := List.getElem?_eq_getElem _
            rcases Nat.lt_trichotomy j i with hlt | he | hlt
            · have := h4 _ (hold j o' x' _ hlt ho' hx' hd')
              rw [hy']; exact this
            · exact absurd (he ▸ hlj) hnl
            · rcases sp.nam i j _ _ _ _ hlt hio hti ho' htj with hm | hm
              · exact absurd hlj (hnanc j _ htj hm)
              · rw [hy']
                cases hnm : x'.1.names q.1 with
                | false => rfl
                | true =>
                  exfalso
                  obtain ⟨σj, k1, _⟩ := chain_at sp hl hch j (by omega)
                  have hjx : j < xs.length := by omega
                  have f1 : os.drop j = os[j] :: os.drop (j + 1) := List.drop_eq_getElem_cons (by omega)
                  have f2 : xs.drop j = xs[j] :: xs.drop (j + 1) := List.drop_eq_getElem_cons (by omega)
                  have f3 : ts.drop j = ts[j]'(by rw [← sp.len]; exact hjl) :: ts.drop (j + 1) := List.drop_eq_getElem_cons (by rw [← sp.len]; exact hjl)
                  rw [f1, f2, f3] at k1
                  have ex : xs[j] = x' := by rw [List.getElem?_eq_getElem hjx] at hx'; exact Option.some.inj hx'
                  have eoj : os[j] = o' := by rw [List.getElem?_eq_getElem hjl] at ho'; exact Option.some.inj ho'
                  exact hm q.1 (h1.2.2.1 q hq) (k1.2.2.2.1 y.1 (by rw [eoj]; exact hd') q.1 (by rw [ex]; exact hnm))
    unfold wpOp
    rw [ho]
    simp only
    refine step_sound (K := fun σ'' => σ'' = (σ'.upd (xs[i]'(by omega)).2).put o.dst (xs[i]'(by omega)).1) g hn hN hr (RunU.astep hrun rfl) (fun d hdd => ?_) fun σ'' a' w' hσ hr' => ?_
    · have := List.all_eq_true.1 hd _ (List.mem_of_getElem? hio)
      simp only [dstLt, stripOper, hdd] at this
      exact Nat.le_of_ble_eq_true this
    · subst hσ
      have hset : ∀ j, (listed.setIfInBounds i true).getD j false = true ↔ listed.getD j false = true ∨ j = i := by
        intro j
        by_cases hji : j = i
        · subst hji
          have hb : j < listed.size := by omega
          simp [hb]
        · rw [getD_set_ne false (Ne.symm hji)]; simp [hji]
      refine ih _ _ a' w' (by simpa using hs) ?_ ?_ (hag.put (i := i) (o := stripOper m true ops o) hio hvi hset ?_ ?_) hr'
      · have := unl_set h0
        omega
      · intro j oj hoj hlj e he
        rw [hset]
        rcases (hset j).1 hlj with h | h
        · exact .inl (hcl j oj hoj h e he)
        · subst h
          rw [hio] at hoj; cases hoj
          obtain ⟨e', he', hb, rfl⟩ := after_strip he
          exact .inl (hall e' he' hb)
      · intro j o' hj hne ho' t ht
        exact sp.dst i j _ o' (Ne.symm hne) hio ho' t ht
      · intro j id hlj hlt hwj hwi
        have hj := hwlt j id hwj
        have htj : ts[j]? = some (ts[j]'(by rw [← sp.len]; exact hj)) := List.getElem?_eq_getElem _
        rcases sp.ord i j _ _ _ _ (Nat.ne_of_lt hlt) hio hti (List.getElem?_eq_getElem hj) htj with ⟨h, _⟩ | ⟨_, hm⟩ | ⟨_, hm⟩
        · omega
        · exact hnanc j _ htj hm hlj
        · exact hm id (hwW j id _ hwj htj) (sp.sub i _ hti _ (hwW i id _ hwi hti))

theorem RelF.drawn (g : Good P T) (hN : ∀ k, fr.w0.heap.size ≤ k → fr.N k) (hr : RelF fr σ a w) : RelF fr σ a { w with drawn := w.drawn + 1 } := by
  obtain ⟨ρ, cx, hslots, hpid⟩ := hr.cx g hN
  have ho : Only No w { w with drawn := w.drawn + 1 } := ⟨rfl, rfl, rfl, Nat.le_refl _, fun _ _ _ => rfl, fun _ => rfl⟩
  have := hr.step hpid hslots (u := []) (v := .top) (c := undef) (dst := none) (F := No) (by rw [show updH σ.h [] = σ.h from (h_upd σ []).symm]; exact Step.grown cx.hr ho) (fun id hid => hid.elim) (fun _ h => h) trivial (fun _ h => nomatch h)
  exact this

theorem aops_mono {K K' : St → Prop} (h : ∀ σ, K σ → K' σ) : ∀ (os : List AOper) (σ : St), aops P T os σ K → aops P T os σ K'
  | [], σ, x => h σ x
  | o :: os, σ, x => by
    have hev : ∀ E, ev P σ o (fun σ' => aops P T os σ' K) E → ev P σ o (fun σ' => aops P T os σ' K') E := by
      intro E hE
      cases E with
      | bad => exact hE
      | split c v v' => exact ⟨hE.1, fun hc => aops_mono h os _ (hE.2.1 hc), aops_mono h os _ hE.2.2⟩
      | val v u C => exact ⟨hE.1, hE.2.1, aops_mono h os _ hE.2.2⟩
      | call f args u ms C =>
        obtain ⟨h1, h2, h3, h4, r, h5, h6, h7, h8, h9⟩ := hE
        exact ⟨h1, h2, h3, h4, r, h5, h6, h7, h8, aops_mono h os _ h9⟩
    simp only [aops, astep] at x ⊢
    split at x
    · exact hev _ x
    · split at x
      · split at x
        · rename_i hb; rw [if_pos hb]; exact hev _ x
        · rename_i hb; rw [if_neg hb]; exact aops_mono h os _ x
      · exact x
theorem aops_mono0 {K K' : St → Prop} (h : ∀ σ, K σ → K' σ) (os : List AOper) (σ : St) (x : aops P T os σ K) : aops P T os σ K' := aops_mono h os σ x
end
end Go.Abs
