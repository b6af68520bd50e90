/- Helps for printed proofs: loads and stores along paths in typed data, ends of code, arguments. For every program. -/
import Derived.Test.YtacebpbhddkelaaAbsU
namespace Go.Abs
section
variable {P : Program} {T : Tys} {L : Live} {σ σ' : St} {Q : AEx → St → Prop} {K : St → Prop}

/-! ## Arguments -/
inductive ArgLe : AV → AV → Prop
  | refl (a : AV) : ArgLe a a
  | loose (a : AV) : ArgLe a (Abs.loose a)
  | nil (s s' : Nat) (t : Bool) : ArgLe (.sl s t []) (.sl s' false [])
inductive ArgsLe : List AV → List AV → Prop
  | nil : ArgsLe [] []
  | cons {a b : AV} {as bs : List AV} (h : ArgLe a b) (t : ArgsLe as bs) : ArgsLe (a :: as) (b :: bs)

theorem ArgLe.slot {ρ : Nat → Option Nat} {H : Hp} {S : Nat → Prop} {w : World} {a b : AV} (h : ArgLe a b) {v : Value} (hs : SlotRel ρ H S w a v) : SlotRel ρ H S w b v := by
  cases h with
  | refl => exact hs
  | loose => exact loose_slot hs
  | nil s s' t =>
    obtain ⟨a, cap, e, l, t, r⟩ := hs
    exact ⟨a, cap, e, l, by simp, .inl rfl⟩
theorem ArgsLe.slots {ρ : Nat → Option Nat} {H : Hp} {S : Nat → Prop} {w : World} {as bs : List AV} (h : ArgsLe as bs) : ∀ {vs : List Value}, SlotsRel ρ H S w as vs → SlotsRel ρ H S w bs vs := by
  induction h with
  | nil => intro vs hs; exact hs
  | cons h _ ih => rintro vs ⟨v, rest, e, h1, h2⟩; exact ⟨v, rest, e, h.slot h1, ih h2⟩

theorem Den.args {f : FuncId} {args args' : List AV} {r : RV} (h : Den P f args' r) (m : mutIx 0 args = []) (m' : mutIx 0 args' = []) (l : ArgsLe args args') : Den P f args r := by
  have n1 := mutIx_nil 0 _ m
  have n2 := mutIx_nil 0 _ m'
  have e1 : (entry args).h = fun _ => none := by
    funext id
    show (look (entryH 0 args) id).getD none = none
    rw [entryH_nil 0 _ n1]; rfl
  have e2 : (entry args').h = fun _ => none := by
    funext id
    show (look (entryH 0 args') id).getD none = none
    rw [entryH_nil 0 _ n2]; rfl
  have e3 : r.H args = r.H args' := by
    funext id
    simp only [RV.H, m, m']
  refine ⟨h.1, fun ρ0 B0 w cargs hent => ?_⟩
  have hent' : Entry ρ0 B0 w args' cargs := by
    obtain ⟨a, b⟩ := hent
    rw [entryEnv_map 0 _ n1] at b
    rw [e1] at a b
    refine ⟨by rw [e2]; exact a, ?_⟩
    rw [entryEnv_map 0 _ n2, e2]
    exact l.slots b
  have := h.2 ρ0 B0 w cargs hent'
  refine this.mono ?_
  rintro e w' ⟨v, ρ', rfl, a, b, c, d⟩
  rw [e2] at a c d
  rw [← e3] at a b
  exact ⟨v, ρ', rfl, by rw [e1]; exact a, b, by rw [e1]; exact c, by rw [e1]; exact d⟩

/-! ## Ends -/
theorem t_exit {id : Nat} {nb : St → Prop} (h : Q (.exit id) σ) : thenK nb Q (.exit id) σ := h
theorem t_ret {nb : St → Prop} (h : Q .ret σ) : thenK nb Q .ret σ := h
theorem b_norm {id : Nat} (h : Q .normal σ) : blockK id Q .normal σ := h
theorem b_ret {id : Nat} (h : Q .ret σ) : blockK id Q .ret σ := h
theorem b_exit {id : Nat} (h : Q .normal σ) : blockK id Q (.exit id) σ := by simp only [blockK, if_true]; exact h
theorem b_other {id id' : Nat} (hne : (Nat.beq id' id) = false) (h : Q (.exit id') σ) : blockK id Q (.exit id') σ := by
  have : ¬ id' = id := by intro e; subst e; simp [Nat.beq_refl] at hne
  simp only [blockK, if_neg this]; exact h
theorem j_leaf {ι : Type} {b : ACode} {emb : ι → St} {pre : ι → Prop} (x : ι) (hp : pre x) (e : keepFor L b σ = emb x) : thenK (fun σ' => ∃ x, pre x ∧ keepFor L b σ' = emb x) Q .normal σ := ⟨x, hp, e⟩

/-! ## Names -/
def letp {α β : Type} (e : α) (f : α → β) : β := f e
theorem letp_some {α β : Type} {e : α} {f : α → Option β} {r : β} (h : letp e f = some r) : ∃ x, e = x ∧ f x = some r := ⟨e, rfl, h⟩

/-! ## Loads and stores along paths -/
structure LdOk (p : List Nat) (c : AV) (o : List Nat) (sz : Nat) (agg : Bool) (v : AV) : Prop where
  has : hasP p c
  off : offs p c = o
  size : szAt p c = sz
  agg' : (atP p c).isAgg = agg
  plain : (atP p c).plain = true
  eq : atP p c = v
theorem LdOk.c {p : List Nat} {c : AV} {o : List Nat} {sz : Nat} {agg : Bool} {v : AV} (h : LdOk p c o sz agg v) : hasP p c ∧ offs p c = o ∧ szAt p c = sz ∧ (atP p c).isAgg = agg ∧ (atP p c).plain = true := ⟨h.has, h.off, h.size, h.agg', h.plain⟩
theorem LdOk.nil {c : AV} {sz : Nat} {agg : Bool} (h1 : c.size = sz) (h2 : c.isAgg = agg) (h3 : c.plain = true) : LdOk [] c [] sz agg c := ⟨trivial, rfl, h1, h2, h3, rfl⟩

theorem nth_lt {xs : List AV} {j : Nat} (h : j < xs.length) : nth xs j = xs[j] := by simp [nth, h]

theorem szAt_cons {j : Nat} {p : List Nat} (c : AV) (h : szAt p (nth (kids c) j) = kidSz c j ∨ p ≠ []) : szAt (j :: p) c = szAt p (nth (kids c) j) := by
  cases p with
  | nil => rcases h with h | h
           · simp only [szAt]; exact h.symm
           · exact absurd rfl h
  | cons q p => rfl

/-- One step down. The part has the size that its place has. -/
theorem LdOk.step {j : Nat} {p : List Nat} {c k : AV} {o : List Nat} {of sz : Nat} {agg : Bool} {v : AV} (hk : j < (kids c).length) (e : nth (kids c) j = k) (ho : kidOff c j = of) (hs : kidSz c j = k.size) (h : LdOk p k o sz agg v) : LdOk (j :: p) c (of :: o) sz agg v := by
  subst e
  refine ⟨⟨hk, h.has⟩, by simp only [offs, ho, h.off], ?_, h.agg', h.plain, h.eq⟩
  rw [szAt_cons]
  · exact h.size
  · cases p with
    | nil => left; simp only [szAt]; exact hs.symm
    | cons => right; simp

theorem vlt {α : Type} {n : Nat} (x : Vec α n) {j : Int} (h : 0 ≤ j ∧ j < (n : Int)) : j.toNat < x.1.length := by rw [x.2]; omega
theorem llt {α : Type} {x : List α} {j : Int} (h : 0 ≤ j ∧ j < (x.length : Int)) : j.toNat < x.length := by omega
theorem lmap {α : Type} {x : List α} {f : α → AV} {j : Int} (h : 0 ≤ j ∧ j < (x.length : Int)) : 0 ≤ j ∧ j < ((x.map f).length : Int) := by rw [List.length_map]; exact h

/-- A part of an array, or of a slice's row. -/
theorem LdOk.arr {α : Type} [Inhabited α] {f : α → AV} {l : List α} {s n j : Nat} {p o : List Nat} {sz : Nat} {agg : Bool} {v : AV} (hj : j < l.length) (hs : (f (rd l j)).size = s) (h : LdOk p (f (rd l j)) o sz agg v) : LdOk (j :: p) (.arr s n (l.map f)) (j * s :: o) sz agg v :=
  LdOk.step (by simpa [kids] using hj) (nth_map f l j hj) rfl hs.symm h
theorem LdOk.row {α : Type} [Inhabited α] {f : α → AV} {l : List α} {s j : Nat} {p o : List Nat} {sz : Nat} {agg : Bool} {v : AV} (hj : j < l.length) (hs : (f (rd l j)).size = s) (h : LdOk p (f (rd l j)) o sz agg v) : LdOk (j :: p) (.row s (l.map f)) (j * s :: o) sz agg v :=
  LdOk.step (by simpa [kids] using hj) (nth_map f l j hj) rfl hs.symm h
theorem LdOk.fld {szs : List Nat} {xs : List AV} {j : Nat} {p o : List Nat} {of sz : Nat} {agg : Bool} {v k : AV} (hj : Nat.blt j xs.length = true) (e : nth xs j = k) (ho : (szs.take j).sum = of) (hs : szs.getD j 0 = k.size) (h : LdOk p k o sz agg v) : LdOk (j :: p) (.struct szs xs) (of :: o) sz agg v :=
  LdOk.step (show j < xs.length from Nat.le_of_ble_eq_true hj) e ho hs h

structure StOk (p : List Nat) (c : AV) (o : List Nat) (sz : Nat) (v c' : AV) : Prop where
  has : hasP p c
  off : offs p c = o
  size : szAt p c = sz
  vsize : v.size = sz
  ok : (!p.isEmpty || c.plain) = true
  eq : putP p c (loose v) = c'
  pl : c.plain = true ∨ p ≠ []
theorem StOk.nil {c v v' : AV} {sz : Nat} (h1 : c.size = sz) (h2 : v.size = sz) (h3 : c.plain = true) (h4 : loose v = v') : StOk [] c [] sz v v' := ⟨trivial, rfl, h1, h2, h3, h4, .inl h3⟩
theorem StOk.step {j : Nat} {p : List Nat} {c k k' c' : AV} {o : List Nat} {of sz : Nat} {v : AV} (hk : j < (kids c).length) (e : nth (kids c) j = k) (ho : kidOff c j = of) (hs : kidSz c j = k.size) (h : StOk p k o sz v k') (he : withKids c ((kids c).set j k') = c') : StOk (j :: p) c (of :: o) sz v c' := by
  subst e
  refine ⟨⟨hk, h.has⟩, by simp only [offs, ho, h.off], ?_, h.vsize, rfl, by simp only [putP, h.eq]; exact he, .inr (by simp)⟩
  rw [szAt_cons]
  · exact h.size
  · cases p with
    | nil => left; simp only [szAt]; exact hs.symm
    | cons => right; simp
theorem StOk.arr {α : Type} [Inhabited α] {f : α → AV} {l : List α} {s n j : Nat} {p o : List Nat} {sz : Nat} {v : AV} {y : α} (hj : j < l.length) (hs : (f (rd l j)).size = s) (h : StOk p (f (rd l j)) o sz v (f y)) : StOk (j :: p) (.arr s n (l.map f)) (j * s :: o) sz v (.arr s n ((l.set j y).map f)) :=
  StOk.step (by simpa [kids] using hj) (nth_map f l j hj) rfl hs.symm h (by simp [withKids, kids, List.map_set])
theorem StOk.row {α : Type} [Inhabited α] {f : α → AV} {l : List α} {s j : Nat} {p o : List Nat} {sz : Nat} {v : AV} {y : α} (hj : j < l.length) (hs : (f (rd l j)).size = s) (h : StOk p (f (rd l j)) o sz v (f y)) : StOk (j :: p) (.row s (l.map f)) (j * s :: o) sz v (.row s ((l.set j y).map f)) :=
  StOk.step (by simpa [kids] using hj) (nth_map f l j hj) rfl hs.symm h (by simp [withKids, kids, List.map_set])
theorem StOk.fld {szs : List Nat} {xs : List AV} {j : Nat} {p o : List Nat} {of sz : Nat} {v k k' : AV} (hj : Nat.blt j xs.length = true) (e : nth xs j = k) (ho : (szs.take j).sum = of) (hs : szs.getD j 0 = k.size) (h : StOk p k o sz v k') : StOk (j :: p) (.struct szs xs) (of :: o) sz v (.struct szs (xs.set j k')) :=
  StOk.step (show j < xs.length from Nat.le_of_ble_eq_true hj) e ho hs h rfl

theorem ld_own {t d id : Nat} {a : Operand} {e : Operand → AV} {H : Hp} {p o : List Nat} {c v : AV} {f : Bool} {i : TyA} (hi : look T t = some i) (ha : e a = .own id p o) (hb : H id = some ⟨c, f⟩) (h : LdOk p c o i.size i.agg v) :
    (aop T d e (.load t a)).run H = .val v [] (hasP p c ∧ offs p c = o ∧ szAt p c = i.size ∧ (atP p c).isAgg = i.agg ∧ (atP p c).plain = true) := by
  simp only [aop, hi, ha, Ask.run, hb, h.eq]
theorem ld_ref {t d : Nat} {a : Operand} {e : Operand → AV} {H : Hp} {p o : List Nat} {c v : AV} {i : TyA} (hi : look T t = some i) (ha : e a = .ref c p o) (h : LdOk p c o i.size i.agg v) :
    (aop T d e (.load t a)).run H = .val v [] (hasP p c ∧ offs p c = o ∧ szAt p c = i.size ∧ (atP p c).isAgg = i.agg ∧ (atP p c).plain = true) := by
  simp only [aop, hi, ha, Ask.run, h.eq]
theorem st_own {t d id : Nat} {a x : Operand} {e : Operand → AV} {H : Hp} {p o : List Nat} {c v c' : AV} {u : Upd} {i : TyA} (hi : look T t = some i) (ha : e a = .own id p o) (hx : ∀ k, (frz (e x) k).run H = (k v u).run H) (hb : H id = some ⟨c, false⟩) (h : StOk p c o i.size v c') :
    (aop T d e (.store t a x)).run H = .val .top ((id, some ⟨c', false⟩) :: u) (hasP p c ∧ offs p c = o ∧ szAt p c = i.size ∧ v.size = i.size ∧ u.all (fun q => q.1 != id) = true ∧ (!p.isEmpty || c.plain) = true) := by
  simp only [aop, hi, ha, hx, Ask.run, hb, h.eq]
theorem StOk.c {p : List Nat} {c : AV} {o : List Nat} {sz : Nat} {v c' : AV} (h : StOk p c o sz v c') {u : Upd} {id : Nat} (hu : u.all (fun q => q.1 != id) = true) : hasP p c ∧ offs p c = o ∧ szAt p c = sz ∧ v.size = sz ∧ u.all (fun q => q.1 != id) = true ∧ (!p.isEmpty || c.plain) = true := ⟨h.has, h.off, h.size, h.vsize, hu, h.ok⟩

/-- An element of an array that is a value. -/
theorem ix_run {α : Type} [Inhabited α] {f : α → AV} {l : List α} {t d s n el : Nat} {b : Nat} {z : AV} {sz : Nat} {a x : Operand} {e : Operand → AV} {H : Hp} {i : TyA} {k : IntKind} {j : Int} (hi : look T t = some ⟨.arr n el, s, b, z⟩) (he : look T el = some i) (ha : e a = .arr sz n (l.map f)) (hx : e x = .int k j) (hj : j.toNat < l.length) :
    (aop T d e (.index t a x)).run H = .val (f (rd l j.toNat)) [] (0 ≤ j ∧ j < n ∧ n = n ∧ sz = i.size ∧ (f (rd l j.toNat)).isAgg = i.agg ∧ (f (rd l j.toNat)).plain = true) := by
  simp only [aop, hi, he, ha, hx, Ask.run, nth_map f l _ hj]

theorem all_nil {α : Type} {p : α → Prop} : ∀ x ∈ ([] : List α), p x := by simp
theorem all_cons {α : Type} {p : α → Prop} {a : α} {l : List α} (h : p a) (t : ∀ x ∈ l, p x) : ∀ x ∈ a :: l, p x := by
  intro x hx
  rcases List.mem_cons.1 hx with rfl | hx
  · exact h
  · exact t x hx

theorem eqb_map {α : Type} [DecidableEq α] {f : α → AV} (hf : ∀ a b, eqb (f a) (f b) = decide (a = b)) : ∀ (x y : List α), eqbs (x.map f) (y.map f) = decide (x = y)
  | [], [] => by simp [eqbs]
  | [], _ :: _ => by simp [eqbs]
  | _ :: _, [] => by simp [eqbs]
  | a :: x, b :: y => by
    simp only [List.map_cons, eqbs, hf, eqb_map hf x y, List.cons.injEq]
    rw [Bool.eq_iff_iff]; simp

end
end Go.Abs
