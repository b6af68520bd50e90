/- Operations on typed data: for every program. -/
import Derived.Test.YtacebpbhddkelaaAbsV
namespace Go.Abs
section
variable {T : Tys} {H : Hp} {e : Operand → AV} {α : Type}

def vrep {α : Type} (n : Nat) (z : α) : Vec α n := ⟨List.replicate n z, by simp⟩

theorem len_run {d m t el s b sz : Nat} {z : AV} {tt : Bool} {x : Operand} {f : α → AV} {l : List α} (ht : look T t = some ⟨.slice el, s, b, z⟩) (hx : e x = .sl sz tt (l.map f)) :
    (aop T d e (.blt m .len [x] [t])).run H = .val (.int .i64 (l.length : Int)) [] True := by
  simp only [aop, List.map_cons, List.map_nil, ht, hx, Ask.run, List.length_map]
theorem leno_run {d m t el s b sz id : Nat} {z : AV} {ff : Bool} {x : Operand} {f : α → AV} {l : List α} (ht : look T t = some ⟨.slice el, s, b, z⟩) (hx : e x = .osl id) (hb : H id = some ⟨.row sz (l.map f), ff⟩) :
    (aop T d e (.blt m .len [x] [t])).run H = .val (.int .i64 (l.length : Int)) [] True := by
  simp only [aop, List.map_cons, List.map_nil, ht, hx, Ask.run, hb, List.length_map]

theorem mk_run {d t el s b : Nat} {z : AV} {l c : Operand} {k k' : IntKind} {f : α → AV} {y : α} {i : TyA} {a a' : Int} (ht : look T t = some ⟨.slice el, s, b, z⟩) (he : look T el = some i) (hz : i.zero = f y) (hl : e l = .int k a) (hc : e c = .int k' a') (hn : H (nid d 0) = none) :
    (aop T d e (.mkslice t l c)).run H = .val (.osl (nid d 0)) [(nid d 0, some ⟨.row i.size ((List.replicate a.toNat y).map f), false⟩)] (a' = a ∧ 0 ≤ a ∧ a ≤ 140737488355328 ∧ i.bytes * a ≤ 140737488355328 ∧ 0 < i.size) := by
  simp only [aop, ht, he, hl, hc, fresh, Ask.run, hn, hz, List.map_replicate]

/-- To a slice of the call's own. -/
theorem app_run {d m t t2 el el2 s b s2 b2 sz id : Nat} {z z2 : AV} {a x : Operand} {tt : Bool} {f : α → AV} {l l2 : List α} {i : TyA} {u : Upd} (ht : look T t = some ⟨.slice el, s, b, z⟩) (ht2 : look T t2 = some ⟨.slice el2, s2, b2, z2⟩) (he : look T el = some i) (ha : e a = .osl id)
    (hx : ∀ k, (frz (e x) k).run H = (k (.sl sz tt (l2.map f)) u).run H) (hb : H id = some ⟨.row i.size (l.map f), false⟩) (hn : H (nid d 0) = none) :
    (aop T d e (.blt m .append [a, x] [t, t2])).run H = .val (.osl (nid d 0)) ((nid d 0, some ⟨.row i.size ((l ++ l2).map f), false⟩) :: (id, none) :: u)
      (i.size = i.size ∧ (l2.map f = [] ∨ sz = i.size) ∧ ((l.map f).length + (l2.map f).length) * i.bytes ≤ 140737488355328 ∧ 0 < i.bytes ∧ 0 < i.size ∧ u.all (fun q => q.1 != id) = true) := by
  simp only [aop, List.map_cons, List.map_nil, ht, ht2, he, hx, ha, fresh, Ask.run, hb, hn, List.map_append]
theorem app_c {f : α → AV} {l l2 : List α} {s sz by' id : Nat} {u : Upd} (h : (l.length + l2.length) * by' ≤ 140737488355328) (hs : l2.map f = [] ∨ sz = s) (hb : Nat.blt 0 by' = true) (hz : Nat.blt 0 s = true) (hu : u.all (fun q => q.1 != id) = true) :
    s = s ∧ (l2.map f = [] ∨ sz = s) ∧ ((l.map f).length + (l2.map f).length) * by' ≤ 140737488355328 ∧ 0 < by' ∧ 0 < s ∧ u.all (fun q => q.1 != id) = true := by
  refine ⟨rfl, hs, by rw [List.length_map, List.length_map]; exact h, Nat.le_of_ble_eq_true hb, Nat.le_of_ble_eq_true hz, hu⟩
/-- To a slice with no room left: into new memory. -/
theorem appt_run {d t t2 el el2 s b s2 b2 sz sz' : Nat} {z z2 : AV} {a x : Operand} {tt : Bool} {f : α → AV} {l l2 : List α} {i : TyA} {u : Upd} (ht : look T t = some ⟨.slice el, s, b, z⟩) (ht2 : look T t2 = some ⟨.slice el2, s2, b2, z2⟩) (he : look T el = some i) (ha : e a = .sl sz' true (l.map f))
    (hx : ∀ k, (frz (e x) k).run H = (k (.sl sz tt (l2.map f)) u).run H) (hn : H (nid d 0) = none) :
    (aop T d e (.blt 0 .append [a, x] [t, t2])).run H = .val (.osl (nid d 0)) ((nid d 0, some ⟨.row i.size ((l ++ l2).map f), false⟩) :: u)
      ((l.map f = [] ∨ l2.map f ≠ []) ∧ (l.map f = [] ∨ sz' = i.size) ∧ (l2.map f = [] ∨ sz = i.size) ∧ ((l.map f).length + (l2.map f).length) * i.bytes ≤ 140737488355328 ∧ 0 < i.bytes ∧ 0 < i.size) := by
  simp only [aop, List.map_cons, List.map_nil, ht, ht2, he, hx, ha, fresh, Ask.run, hn, List.map_append]
theorem appt_c {f : α → AV} {l l2 : List α} {s sz sz' by' : Nat} (h : (l.length + l2.length) * by' ≤ 140737488355328) (hk : l.map f = [] ∨ l2.map f ≠ []) (hs' : l.map f = [] ∨ sz' = s) (hs : l2.map f = [] ∨ sz = s) (hb : Nat.blt 0 by' = true) (hz : Nat.blt 0 s = true) :
    (l.map f = [] ∨ l2.map f ≠ []) ∧ (l.map f = [] ∨ sz' = s) ∧ (l2.map f = [] ∨ sz = s) ∧ ((l.map f).length + (l2.map f).length) * by' ≤ 140737488355328 ∧ 0 < by' ∧ 0 < s := by
  refine ⟨hk, hs', hs, by rw [List.length_map, List.length_map]; exact h, Nat.le_of_ble_eq_true hb, Nat.le_of_ble_eq_true hz⟩

/-! Equality of arrays. -/
theorem eqa_run {d t sz n sz' n' : Nat} {x y : Operand} {f : α → AV} {a b : List α} {r : Bool} (hx : e x = .arr sz n (a.map f)) (hy : e y = .arr sz' n' (b.map f)) (h : eqbs (a.map f) (b.map f) = r) :
    (aop T d e (.bin .eql t x y)).run H = .val (.bool r) [] (Cmp T 9 t (.arr sz n (a.map f)) (.arr sz' n' (b.map f))) := by
  subst h
  simp only [aop, hx, hy, eqb]
  cases isNilOp y <;> rfl
theorem nea_run {d t sz n sz' n' : Nat} {x y : Operand} {f : α → AV} {a b : List α} {r : Bool} (hx : e x = .arr sz n (a.map f)) (hy : e y = .arr sz' n' (b.map f)) (h : eqbs (a.map f) (b.map f) = r) :
    (aop T d e (.bin .neq t x y)).run H = .val (.bool (!r)) [] (Cmp T 9 t (.arr sz n (a.map f)) (.arr sz' n' (b.map f))) := by
  subst h
  simp only [aop, hx, hy, eqb]
  cases isNilOp y <;> rfl
theorem eqb_vec [DecidableEq α] {n : Nat} {f : α → AV} (hf : ∀ a b, eqb (f a) (f b) = decide (a = b)) (x y : Vec α n) : eqbs (x.1.map f) (y.1.map f) = decide (x = y) := by
  rw [eqb_map hf, Bool.eq_iff_iff]
  simp [Subtype.ext_iff]
theorem eqb_int {k : IntKind} (a b : Int) : eqb (.int k a) (.int k b) = decide (a = b) := by
  simp only [eqb]; rw [Bool.eq_iff_iff]; simp
theorem eqb_arr [DecidableEq α] {n s m : Nat} {f : α → AV} (hf : ∀ a b, eqb (f a) (f b) = decide (a = b)) (x y : Vec α n) : eqb (.arr s m (x.1.map f)) (.arr s m (y.1.map f)) = decide (x = y) := by
  simp only [eqb]; exact eqb_vec hf x y
theorem cmp_arr [Inhabited α] {t el sz n g : Nat} {s b : Nat} {z : AV} {f : α → AV} {x y : Vec α n} {j : TyA} (ht : look T t = some ⟨.arr n el, s, b, z⟩) (he : look T el = some j) (hj : j.size = sz) (ha : ∀ a b : α, (f a).isAgg = (f b).isAgg) (h : ∀ a b : α, Cmp T g el (f a) (f b)) :
    Cmp T (g + 1) t (.arr sz n (x.1.map f)) (.arr sz n (y.1.map f)) := by
  simp only [Cmp, ht]
  refine ⟨trivial, trivial, trivial, ⟨j, he, hj⟩, fun q hq => ?_⟩
  rw [nth_map f _ _ (by rw [x.2]; exact hq), nth_map f _ _ (by rw [y.2]; exact hq)]
  exact ⟨ha _ _, h _ _⟩
theorem cmp_int {t g : Nat} {s b : Nat} {z : AV} {k k' : IntKind} {a c : Int} (ht : look T t = some ⟨.int k', s, b, z⟩) : Cmp T (g + 1) t (.int k a) (.int k c) := by
  simp only [Cmp, ht]

/-- A slice with no room left, kept in a variable. -/
theorem asg_tight {d t el s b : Nat} {z : AV} {x : Operand} {tt : Bool} {f : α → AV} {l : List α} {i : TyA} (ht : look T t = some ⟨.slice el, s, b, z⟩) (he : look T el = some i) (hx : e x = .sl i.size tt (l.map f)) :
    (aop T d e (.asg 1 x t)).run H = .val (.sl i.size false (l.map f)) [] True := by
  cases l <;> cases tt <;> simp [aop, ht, he, hx, Ask.run, frz, AV.plain, loose]

/-! Parts of slices. -/
theorem drop_run {d t el s b : Nat} {z : AV} {x lo : Operand} {sz : Nat} {tt : Bool} {f : α → AV} {l : List α} {i : TyA} {k : IntKind} {a : Int} {u : Upd} (ht : look T t = some ⟨.slice el, s, b, z⟩) (he : look T el = some i) (hl : e lo = .int k a) (hx : ∀ k, (frz (e x) k).run H = (k (.sl sz tt (l.map f)) u).run H) :
    (aop T d e (.slice t x (some lo) none none)).run H = .val (.sl sz false ((l.drop a.toNat).map f)) u (0 ≤ a ∧ a ≤ ((l.map f).length : Int) ∧ sz = i.size) := by
  simp only [aop, ht, he, hx, Option.map_some, Option.map_none, hl, Ask.run, List.map_drop]
theorem take_run {d t el s b : Nat} {z : AV} {x hi : Operand} {sz : Nat} {tt : Bool} {f : α → AV} {l : List α} {i : TyA} {k : IntKind} {a : Int} {u : Upd} (ht : look T t = some ⟨.slice el, s, b, z⟩) (he : look T el = some i) (hl : e hi = .int k a) (hx : ∀ k, (frz (e x) k).run H = (k (.sl sz tt (l.map f)) u).run H) :
    (aop T d e (.slice t x none (some hi) none)).run H = .val (.sl sz false ((l.take a.toNat).map f)) u (0 ≤ a ∧ a ≤ ((l.map f).length : Int)) := by
  simp only [aop, ht, he, hx, Option.map_some, Option.map_none, hl, Ask.run, List.map_take]
theorem take3_run {d t el s b : Nat} {z : AV} {x hi mx : Operand} {sz : Nat} {tt : Bool} {f : α → AV} {l : List α} {i : TyA} {k k' : IntKind} {a a' : Int} {u : Upd} (ht : look T t = some ⟨.slice el, s, b, z⟩) (he : look T el = some i) (hl : e hi = .int k a) (hm : e mx = .int k' a') (hx : ∀ k, (frz (e x) k).run H = (k (.sl sz tt (l.map f)) u).run H) :
    (aop T d e (.slice t x none (some hi) (some mx))).run H = .val (.sl sz true ((l.take a.toNat).map f)) u (0 ≤ a ∧ a ≤ ((l.map f).length : Int) ∧ a' = a) := by
  simp only [aop, ht, he, hx, Option.map_some, Option.map_none, hl, hm, Ask.run, List.map_take]
theorem cut_run {d t el s b : Nat} {z : AV} {x lo hi : Operand} {sz : Nat} {tt : Bool} {f : α → AV} {l : List α} {i : TyA} {k k' : IntKind} {a a' : Int} {u : Upd} (ht : look T t = some ⟨.slice el, s, b, z⟩) (he : look T el = some i) (hl : e lo = .int k a) (hh : e hi = .int k' a') (hx : ∀ k, (frz (e x) k).run H = (k (.sl sz tt (l.map f)) u).run H) :
    (aop T d e (.slice t x (some lo) (some hi) none)).run H = .val (.sl sz false (((l.take a'.toNat).drop a.toNat).map f)) u (0 ≤ a ∧ a ≤ a' ∧ a' ≤ ((l.map f).length : Int) ∧ sz = i.size) := by
  simp only [aop, ht, he, hx, Option.map_some, Option.map_none, hl, hh, Ask.run, List.map_take, List.map_drop]

theorem a_gval' {P : Program} {σ : St} {K : St → Prop} {d : Option Nat} {op : AO} {g : Nat} {bb : Bool} {af : List Nat} {os : List AOper} {v v' : AV} {u u' : Upd} {C : Prop} (hg : σ.e g = .bool bb) (h : (aop T (d.getD 0) (opdA σ.e) op).run σ.h = .val v u C) (hv : v = v') (hu : u = u') (hC : C) (hk : okNew σ u' = true) (k : aops P T os ((σ.upd u').put d v') K) :
    aops P T (⟨d, op, some (g, bb), af⟩ :: os) σ K := by
  subst hv; subst hu; exact a_gval hg h hC hk k

theorem lmap_le {x : List α} {f : α → AV} {j : Int} (h : j ≤ (x.length : Int)) : j ≤ ((x.map f).length : Int) := by rw [List.length_map]; exact h

end
end Go.Abs
