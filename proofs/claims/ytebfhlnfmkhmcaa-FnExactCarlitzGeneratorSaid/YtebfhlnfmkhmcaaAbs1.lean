/- Own texts, put together. -/
import Derived.Calls
import Derived.Orders
import Derived.Laws.World
import Derived.Laws.Sem
import Derived.Laws.Cells
import Derived.Laws.BytesString
import Derived.Laws.Cover3
import Derived.Laws.StructEq
set_option linter.unusedSimpArgs false
set_option linter.unusedVariables false
/- Abstract values for Go's data (slices and arrays as plain lists), and what it means that a concrete value in a world is one: for every world. -/
namespace Go.Abs

/-- Abstract values. `ref v p o`: a pointer into a variable that is never written again, whose content is v, at the path p, o the parts of its offset. `own id p o`: a pointer into a block of the call's own. `osl id`: a slice over the whole content of a block of the call's own. `row`: the content of such a block. `mutsl`, `mutp`: what is handed on to be written. `fr`: a slice that came back in new memory. `oclo`: a closure whose first captured variable is a block of the call's own; `mclo`: one that is handed on, its block to be written. -/
inductive AV where
  | top
  | int (k : IntKind) (n : Int)
  | bool (b : Bool)
  | str (s : ByteArray)
  | arr (sz n : Nat) (xs : List AV)
  | struct (szs : List Nat) (xs : List AV)
  | row (sz : Nat) (xs : List AV)
  | sl (sz : Nat) (t : Bool) (xs : List AV)
  | clo (f : FuncId) (first caps : List AV)
  | ref (v : AV) (p : List Nat) (o : List Nat)
  | own (id : Nat) (p : List Nat) (o : List Nat)
  | osl (id : Nat)
  | mutsl (sz : Nat) (xs : List AV)
  | mutp (v : AV)
  | fr (sz : Nat) (xs : List AV)
  | tuple (xs : List AV)
  | raw (v : Value)
  | oclo (f : FuncId) (id : Nat) (caps : List AV)
  | mclo (f : FuncId) (v : AV) (caps : List AV)

instance : Inhabited AV := ⟨.top⟩

def nth (xs : List AV) (j : Nat) : AV := xs.getD j .top

def AV.size : AV → Nat
  | .arr sz n _ => sz * n
  | .struct szs _ => szs.sum
  | .row sz xs => sz * xs.length
  | _ => 1

def AV.isAgg : AV → Bool
  | .arr .. | .struct .. => true
  | _ => false

/-- May it stand in a cell of memory, or be handed on by value? -/
def AV.plain : AV → Bool
  | .int .. | .bool _ | .str _ | .arr .. | .struct .. | .sl .. | .clo .. | .ref .. | .raw _ => true
  | _ => false

def scalar : Value → Bool
  | .agg _ | .tuple _ => false
  | _ => true

def pack : AV → List Value → Value
  | .arr .., cs | .struct .., cs => .agg cs.toArray
  | _, cs => cs.headD undef

/-! Paths. -/
def kids : AV → List AV
  | .arr _ _ xs | .struct _ xs | .row _ xs => xs
  | _ => []
def kidOff : AV → Nat → Nat
  | .arr sz _ _, j => j * sz
  | .row sz _, j => j * sz
  | .struct szs _, j => (szs.take j).sum
  | _, _ => 0
def kidSz : AV → Nat → Nat
  | .arr sz _ _, _ => sz
  | .row sz _, _ => sz
  | .struct szs _, j => szs.getD j 0
  | _, _ => 0
def withKids : AV → List AV → AV
  | .arr sz n _, xs => .arr sz n xs
  | .struct szs _, xs => .struct szs xs
  | .row sz _, xs => .row sz xs
  | v, _ => v

def atP : List Nat → AV → AV
  | [], v => v
  | j :: p, v => atP p (nth (kids v) j)
def hasP : List Nat → AV → Prop
  | [], _ => True
  | j :: p, v => j < (kids v).length ∧ hasP p (nth (kids v) j)
def offs : List Nat → AV → List Nat
  | [], _ => []
  | j :: p, v => kidOff v j :: offs p (nth (kids v) j)
def szAt : List Nat → AV → Nat
  | [], v => v.size
  | [j], v => kidSz v j
  | j :: p, v => szAt p (nth (kids v) j)
def putP : List Nat → AV → AV → AV
  | [], _, u => u
  | j :: p, v, u => withKids v ((kids v).set j (putP p (nth (kids v) j) u))

/-! Readings. -/
def Reads (w : World) (k off : Nat) (vs : List Value) : Prop :=
  ∀ j, j < vs.length → w.cell? ⟨k, off + j, none⟩ = vs[j]?

mutual
def VRel (S : Nat → Prop) (w : World) : AV → List Value → Prop
  | .int k n, cs => cs = [.int k n]
  | .bool b, cs => cs = [.bool b]
  | .str s, cs => cs = [.string s]
  | .raw v, cs => cs = [v] ∧ scalar v = true
  | .arr sz n xs, cs => xs.length = n ∧ VAll S w (fun _ => sz) 0 xs cs
  | .struct szs xs, cs => szs.length = xs.length ∧ VAll S w (fun j => szs.getD j 0) 0 xs cs
  | .row sz xs, cs => VAll S w (fun _ => sz) 0 xs cs
  | .sl sz t xs, cs => ∃ a cap, cs = [.slice a xs.length cap] ∧ xs.length ≤ cap ∧ (t = true → cap = xs.length) ∧
      (xs = [] ∨ ∃ k off vs, a = some ⟨k, off, none⟩ ∧ S k ∧ VAll S w (fun _ => sz) 0 xs vs ∧ Reads w k off vs)
  | .clo f first caps, cs => ∃ v1 v2, cs = [.func (.func f) v1.toArray v2.toArray] ∧ ((first ++ caps).all fun x => x.plain) = true ∧ VPack S w first v1 ∧ VPack S w caps v2
  | .ref v _ o, cs => ∃ k off vs, cs = [.pointer (some ⟨k, off + o.sum, none⟩)] ∧ S k ∧ VRel S w v vs ∧ Reads w k off vs
  | _, _ => False
def VAll (S : Nat → Prop) (w : World) (sz : Nat → Nat) : Nat → List AV → List Value → Prop
  | _, [], cs => cs = []
  | j, x :: xs, cs => ∃ c1 c2, cs = c1 ++ c2 ∧ VRel S w x c1 ∧ c1.length = sz j ∧ VAll S w sz (j + 1) xs c2
/-- Values that a closure holds, each as one. -/
def VPack (S : Nat → Prop) (w : World) : List AV → List Value → Prop
  | [], cs => cs = []
  | x :: xs, cs => ∃ c1 c2, cs = pack x c1 :: c2 ∧ VRel S w x c1 ∧ VPack S w xs c2
end

/-- What was read in allowed blocks reads so still. -/
def Keeps (S : Nat → Prop) (w w' : World) : Prop := ∀ a : Addr, S a.block → (∃ v, w.cell? a = some v) → w'.cell? a = w.cell? a

theorem Reads.keep {S : Nat → Prop} {w w' : World} (h : Keeps S w w') {k off : Nat} {vs : List Value} (hk : S k) (hr : Reads w k off vs) : Reads w' k off vs := by
  intro j hj
  have h1 := hr j hj
  rw [← h1]
  exact h ⟨k, off + j, none⟩ hk ⟨vs[j], by rw [h1]; simp [hj]⟩

mutual
theorem VRel.keep {S S' : Nat → Prop} {w w' : World} (hS : ∀ k, S k → S' k) (h : Keeps S w w') : ∀ (v : AV) (cs : List Value), VRel S w v cs → VRel S' w' v cs
  | .top, _ => fun x => x.elim
  | .int _ _, _ => fun x => x
  | .bool _, _ => fun x => x
  | .str _, _ => fun x => x
  | .raw _, _ => fun x => x
  | .arr _ _ xs, cs => fun x => ⟨x.1, VAll.keep hS h xs _ cs _ x.2⟩
  | .struct _ xs, cs => fun x => ⟨x.1, VAll.keep hS h xs _ cs _ x.2⟩
  | .row _ xs, cs => fun x => VAll.keep hS h xs _ cs _ x
  | .sl _ _ xs, _ => fun ⟨a, cap, e, l, t, r⟩ => ⟨a, cap, e, l, t, r.imp id fun ⟨k, off, vs, e1, hk, hv, hr⟩ => ⟨k, off, vs, e1, hS k hk, VAll.keep hS h xs _ vs _ hv, hr.keep h hk⟩⟩
  | .clo _ f c, _ => fun ⟨v1, v2, e, hp, h1, h2⟩ => ⟨v1, v2, e, hp, VPack.keep hS h f v1 h1, VPack.keep hS h c v2 h2⟩
  | .ref v _ _, _ => fun ⟨k, off, vs, e, hk, hv, hr⟩ => ⟨k, off, vs, e, hS k hk, VRel.keep hS h v vs hv, hr.keep h hk⟩
  | .own .., _ => fun x => x.elim
  | .osl _, _ => fun x => x.elim
  | .mutsl .., _ => fun x => x.elim
  | .mutp _, _ => fun x => x.elim
  | .fr .., _ => fun x => x.elim
  | .tuple _, _ => fun x => x.elim
  | .oclo .., _ => fun x => x.elim
  | .mclo .., _ => fun x => x.elim
theorem VAll.keep {S S' : Nat → Prop} {w w' : World} (hS : ∀ k, S k → S' k) (h : Keeps S w w') : ∀ (xs : List AV) (sz : Nat → Nat) (cs : List Value) (j : Nat), VAll S w sz j xs cs → VAll S' w' sz j xs cs
  | [], _, _, _ => fun x => x
  | v :: xs, sz, _, j => fun ⟨c1, c2, e, hv, l, r⟩ => ⟨c1, c2, e, VRel.keep hS h v c1 hv, l, VAll.keep hS h xs sz c2 (j + 1) r⟩
theorem VPack.keep {S S' : Nat → Prop} {w w' : World} (hS : ∀ k, S k → S' k) (h : Keeps S w w') : ∀ (xs : List AV) (cs : List Value), VPack S w xs cs → VPack S' w' xs cs
  | [], _ => fun x => x
  | v :: xs, _ => fun ⟨c1, c2, e, hv, r⟩ => ⟨c1, c2, e, VRel.keep hS h v c1 hv, VPack.keep hS h xs c2 r⟩
end

end Go.Abs
/- Lemmas on abstract values along paths: for every value, path and world: what is read and written at a path's offset. -/
namespace Go.Abs

def pre (sz : Nat → Nat) : Nat → Nat → Nat
  | _, 0 => 0
  | j, i + 1 => sz j + pre sz (j + 1) i

theorem pre_const (c : Nat) : ∀ (i j : Nat), pre (fun _ => c) j i = i * c
  | 0, _ => by simp [pre]
  | i + 1, j => by simp [pre, pre_const c i, Nat.add_mul, Nat.add_comm]

theorem pre_list (szs : List Nat) : ∀ (i j : Nat), j + i ≤ szs.length → pre (fun k => szs.getD k 0) j i = ((szs.drop j).take i).sum
  | 0, _, _ => by simp [pre]
  | i + 1, j, h => by
    rw [pre, pre_list szs i (j + 1) (by omega)]
    have hj : j < szs.length := by omega
    have e : szs.drop j = szs[j] :: szs.drop (j + 1) := List.drop_eq_getElem_cons hj
    rw [e, List.take_succ_cons, List.sum_cons, List.getD_eq_getElem?_getD, List.getElem?_eq_getElem hj]
    rfl

theorem nth_cons_succ (x : AV) (xs : List AV) (i : Nat) : nth (x :: xs) (i + 1) = nth xs i := by simp [nth]

theorem VAll.at_ {S : Nat → Prop} {w : World} {sz : Nat → Nat} : ∀ (xs : List AV) (cs : List Value) (j i : Nat), VAll S w sz j xs cs → i < xs.length →
    ∃ c1 c c2, cs = c1 ++ c ++ c2 ∧ c1.length = pre sz j i ∧ VRel S w (nth xs i) c ∧ c.length = sz (j + i) ∧
      ∀ x' c', VRel S w x' c' → c'.length = sz (j + i) → VAll S w sz j (xs.set i x') (c1 ++ c' ++ c2)
  | [], _, _, _, _, h => by simp at h
  | x :: xs, cs, j, 0, h, _ => by
    obtain ⟨c1, c2, rfl, hv, hl, hr⟩ := h
    exact ⟨[], c1, c2, by simp, by simp [pre], hv, hl, fun x' c' hv' hl' => ⟨c', c2, by simp, hv', hl', hr⟩⟩
  | x :: xs, cs, j, i + 1, h, hi => by
    obtain ⟨c1, c2, rfl, hv, hl, hr⟩ := h
    obtain ⟨d1, d, d2, rfl, hd, hv', hl', hs⟩ := VAll.at_ xs c2 (j + 1) i hr (by simpa using hi)
    refine ⟨c1 ++ d1, d, d2, by simp, by simp [pre, hl, hd], by rw [nth_cons_succ]; exact hv', by rw [hl']; congr 1; omega, fun x' c' hv'' hl'' => ?_⟩
    exact ⟨c1, d1 ++ c' ++ d2, by simp, hv, hl, hs x' c' hv'' (by rw [hl'']; congr 1; omega)⟩

theorem VAll.len {S : Nat → Prop} {w : World} {sz : Nat → Nat} : ∀ (xs : List AV) (cs : List Value) (j : Nat), VAll S w sz j xs cs → cs.length = pre sz j xs.length
  | [], _, _, h => by simp only [VAll] at h; simp [h, pre]
  | x :: xs, cs, j, h => by
    obtain ⟨c1, c2, rfl, hv, hl, hr⟩ := h
    simp [pre, hl, VAll.len xs c2 (j + 1) hr]

theorem VRel.len {S : Nat → Prop} {w : World} {v : AV} {cs : List Value} (h : VRel S w v cs) : cs.length = v.size := by
  cases v <;> simp only [VRel] at h <;> try (first | exact h.elim | (subst h; rfl) | (rw [h.1]; rfl))
  case arr sz n xs => rw [VAll.len _ _ _ h.2, pre_const, h.1]; simp [AV.size, Nat.mul_comm]
  case struct szs xs => rw [VAll.len _ _ _ h.2, pre_list _ _ _ (by omega)]; simp [AV.size, ← h.1]
  case row sz xs => rw [VAll.len _ _ _ h, pre_const]; simp [AV.size, Nat.mul_comm]
  case sl sz t xs => obtain ⟨a, cap, rfl, _⟩ := h; rfl
  case clo f a b => obtain ⟨v1, v2, rfl, _⟩ := h; rfl
  case ref v p o => obtain ⟨k, off, vs, rfl, _⟩ := h; rfl

theorem VAll.append {S : Nat → Prop} {w : World} {c : Nat} : ∀ (xs ys : List AV) (cs ds : List Value) (i j : Nat), VAll S w (fun _ => c) i xs cs → VAll S w (fun _ => c) j ys ds → VAll S w (fun _ => c) i (xs ++ ys) (cs ++ ds)
  | [], ys, cs, ds, i, j, h, k => by
    simp only [VAll] at h; subst h
    exact VAll.shift ys ds j i k
  | x :: xs, ys, cs, ds, i, j, h, k => by
    obtain ⟨c1, c2, rfl, hv, hl, hr⟩ := h
    exact ⟨c1, c2 ++ ds, by simp, hv, hl, VAll.append xs ys c2 ds (i + 1) j hr k⟩
where
  VAll.shift : ∀ (ys : List AV) (ds : List Value) (j i : Nat), VAll S w (fun _ => c) j ys ds → VAll S w (fun _ => c) i ys ds
    | [], _, _, _, h => h
    | y :: ys, ds, j, i, h => by
      obtain ⟨c1, c2, rfl, hv, hl, hr⟩ := h
      exact ⟨c1, c2, rfl, hv, hl, VAll.shift ys c2 (j + 1) (i + 1) hr⟩

theorem VAll.shift {S : Nat → Prop} {w : World} {c : Nat} {ys : List AV} {ds : List Value} {j : Nat} (i : Nat) (h : VAll S w (fun _ => c) j ys ds) : VAll S w (fun _ => c) i ys ds :=
  VAll.append.VAll.shift ys ds j i h

/-- The first i elements and the others. -/
theorem VAll.split {S : Nat → Prop} {w : World} {sz : Nat → Nat} : ∀ (i : Nat) (xs : List AV) (cs : List Value) (j : Nat), VAll S w sz j xs cs → i ≤ xs.length →
    VAll S w sz j (xs.take i) (cs.take (pre sz j i)) ∧ VAll S w sz (j + i) (xs.drop i) (cs.drop (pre sz j i))
  | 0, xs, cs, j, h, _ => by simpa [pre, VAll] using h
  | i + 1, [], _, _, _, h => by simp at h
  | i + 1, x :: xs, cs, j, h, hi => by
    obtain ⟨c1, c2, rfl, hv, hl, hr⟩ := h
    obtain ⟨h1, h2⟩ := VAll.split i xs c2 (j + 1) hr (by simpa using hi)
    constructor
    · simp only [List.take_succ_cons, pre]
      exact ⟨c1, c2.take (pre sz (j + 1) i), by rw [← hl, List.take_length_add_append], hv, hl, h1⟩
    · simp only [List.drop_succ_cons, pre]
      rw [← hl, List.drop_length_add_append, show j + (i + 1) = j + 1 + i by omega]
      exact h2

/-- A value along a path. -/
theorem VRel.path {S : Nat → Prop} {w : World} : ∀ (p : List Nat) (v : AV) (cs : List Value), VRel S w v cs → hasP p v →
    ∃ c1 c c2, cs = c1 ++ c ++ c2 ∧ c1.length = (offs p v).sum ∧ VRel S w (atP p v) c ∧ c.length = szAt p v ∧
      ∀ u c', VRel S w u c' → c'.length = szAt p v → VRel S w (putP p v u) (c1 ++ c' ++ c2)
  | [], v, cs, h, _ => ⟨[], cs, [], by simp, by simp [offs], h, by simpa [szAt] using h.len, fun u c' hu _ => by simpa [putP] using hu⟩
  | j :: p, v, cs, h, hp => by
    obtain ⟨hj, hp⟩ := hp
    have key : ∃ c1 c c2, cs = c1 ++ c ++ c2 ∧ c1.length = kidOff v j ∧ VRel S w (nth (kids v) j) c ∧ c.length = kidSz v j ∧
        ∀ x' c', VRel S w x' c' → c'.length = kidSz v j → VRel S w (withKids v ((kids v).set j x')) (c1 ++ c' ++ c2) := by
      cases v <;> simp only [kids, List.length_nil, Nat.not_lt_zero] at hj <;> simp only [kids, kidOff, kidSz, withKids]
      case arr sz n xs =>
        obtain ⟨hn, h⟩ := h
        obtain ⟨c1, c, c2, e, l1, hv, l2, hs⟩ := VAll.at_ xs cs 0 j h hj
        exact ⟨c1, c, c2, e, by rw [l1, pre_const], hv, l2, fun x' c' a b => ⟨by simpa using hn, hs x' c' a b⟩⟩
      case struct szs xs =>
        obtain ⟨hn, h⟩ := h
        obtain ⟨c1, c, c2, e, l1, hv, l2, hs⟩ := VAll.at_ xs cs 0 j h hj
        exact ⟨c1, c, c2, e, by rw [l1, pre_list _ _ _ (by omega)]; simp, hv, by simpa using l2, fun x' c' a b => ⟨by simpa using hn, hs x' c' a (by simpa using b)⟩⟩
      case row sz xs =>
        obtain ⟨c1, c, c2, e, l1, hv, l2, hs⟩ := VAll.at_ xs cs 0 j h hj
        exact ⟨c1, c, c2, e, by rw [l1, pre_const], hv, l2, fun x' c' a b => hs x' c' a b⟩
    obtain ⟨c1, c, c2, rfl, l1, hv, l2, hs⟩ := key
    obtain ⟨d1, d, d2, rfl, k1, hv', k2, hs'⟩ := VRel.path p _ c hv hp
    have hsz : d.length = szAt (j :: p) v := by
      cases p with
      | nil =>
        simp only [offs, List.sum_nil] at k1
        have := hs' (atP [] (nth (kids v) j)) d hv' k2
        have l3 : d2 = [] := by
          have e1 := VRel.len hv
          simp only [szAt] at k2
          simp [k1, k2] at e1
          exact e1
        simp only [szAt]
        simp [k1, l3] at l2
        exact l2
      | cons q p => exact k2
    refine ⟨c1 ++ d1, d, d2 ++ c2, by simp, by simp [offs, l1, k1], hv', hsz, fun u c' hu hl => ?_⟩
    have hk : c'.length = szAt p (nth (kids v) j) := by rw [hl, ← hsz, k2]
    have := hs _ _ (hs' u c' hu hk) (by rw [← l2]; simp [hl, hsz])
    simpa [putP] using this

end Go.Abs
/- Abstract states over memory: which blocks are the call's own, what its slots hold; how this lasts while memory grows and own blocks are written: for every world. -/
namespace Go.Abs

structure Blk where
  c : AV
  fz : Bool

/-! ## Worlds that differ in some blocks alone -/
structure Only (K : Nat → Prop) (w w' : World) : Prop where
  os : w'.os = w.os
  tape : w'.tape = w.tape
  output : w'.output = w.output
  size : w.heap.size ≤ w'.heap.size
  block : ∀ k, k < w.heap.size → ¬ K k → w'.heap[k]? = w.heap[k]?
  froz : ∀ a, w'.frozen? a = w.frozen? a
  sizes : ∀ (k : Nat) (arr : Array Value) (T : TypeId) (f : Nat × Nat), w.heap[k]? = some (Obj.cells arr T f) → ∃ arr' : Array Value, w'.heap[k]? = some (Obj.cells arr' T f) ∧ arr'.size = arr.size

def No : Nat → Prop := fun _ => False

theorem Only.refl (K : Nat → Prop) (w : World) : Only K w w := ⟨rfl, rfl, rfl, Nat.le_refl _, fun _ _ _ => rfl, fun _ => rfl, fun _ arr _ _ h => ⟨arr, h, rfl⟩⟩
theorem sizes_trans {a b c : World} (h : ∀ (k : Nat) (arr : Array Value) (T : TypeId) (f : Nat × Nat), a.heap[k]? = some (Obj.cells arr T f) → ∃ arr' : Array Value, b.heap[k]? = some (Obj.cells arr' T f) ∧ arr'.size = arr.size)
    (g : ∀ (k : Nat) (arr : Array Value) (T : TypeId) (f : Nat × Nat), b.heap[k]? = some (Obj.cells arr T f) → ∃ arr' : Array Value, c.heap[k]? = some (Obj.cells arr' T f) ∧ arr'.size = arr.size) :
    ∀ (k : Nat) (arr : Array Value) (T : TypeId) (f : Nat × Nat), a.heap[k]? = some (Obj.cells arr T f) → ∃ arr' : Array Value, c.heap[k]? = some (Obj.cells arr' T f) ∧ arr'.size = arr.size := by
  intro k arr T f e
  obtain ⟨arr1, h1, h2⟩ := h k arr T f e
  obtain ⟨arr2, g1, g2⟩ := g k arr1 T f h1
  exact ⟨arr2, g1, by rw [g2, h2]⟩
theorem Only.trans {K : Nat → Prop} {a b c : World} (h : Only K a b) (g : Only K b c) : Only K a c :=
  ⟨g.os.trans h.os, g.tape.trans h.tape, g.output.trans h.output, Nat.le_trans h.size g.size, fun k hk hn => (g.block k (Nat.lt_of_lt_of_le hk h.size) hn).trans (h.block k hk hn), fun a => (g.froz a).trans (h.froz a), sizes_trans h.sizes g.sizes⟩
theorem Only.mono {K K' : Nat → Prop} {a b : World} (h : Only K a b) (hK : ∀ k, k < a.heap.size → K k → K' k) : Only K' a b :=
  ⟨h.os, h.tape, h.output, h.size, fun k hk hn => h.block k hk fun x => hn (hK k hk x), h.froz, h.sizes⟩
theorem Only.drew (K : Nat → Prop) (w : World) : Only K w w.drew := ⟨rfl, rfl, rfl, Nat.le_refl _, fun _ _ _ => rfl, fun _ => rfl, fun _ arr _ _ h => ⟨arr, h, rfl⟩⟩
theorem frozen_alloc (w : World) (c : Array Value) (t : TypeId) (a : Addr) : (w.alloc (.cells c t)).frozen? a = w.frozen? a := by
  have e : (w.alloc (.cells c t)).heap = w.heap.push (.cells c t) := rfl
  unfold World.frozen?
  rw [e, Array.getElem?_push]
  by_cases h : a.block = w.heap.size
  · rw [if_pos h, h, Array.getElem?_eq_none (Nat.le_refl _)]
    simp
  · rw [if_neg h]
theorem Only.alloc (K : Nat → Prop) (w : World) (c : Array Value) (t : TypeId) : Only K w (w.alloc (.cells c t)) :=
  ⟨rfl, rfl, rfl, by simp, fun k hk _ => by
    show (w.heap.push _)[k]? = _
    rw [Array.getElem?_push, if_neg (by omega)], frozen_alloc w c t, fun k arr T f h => ⟨arr, by
    have hk : k < w.heap.size := by
      rcases Nat.lt_or_ge k w.heap.size with h' | h'
      · exact h'
      · simp [Array.getElem?_eq_none h'] at h
    show (w.heap.push _)[k]? = _
    rw [Array.getElem?_push, if_neg (by omega)]; exact h, rfl⟩⟩

theorem cell?_block {w w' : World} {a : Addr} (h : w'.heap[a.block]? = w.heap[a.block]?) : w'.cell? a = w.cell? a := by
  simp only [World.cell?, h]

theorem lt_of_cell? {w : World} {a : Addr} {v : Value} (h : w.cell? a = some v) : a.block < w.heap.size := World.block_lt_of_cell? w a h

theorem Only.keeps {K S : Nat → Prop} {w w' : World} (h : Only K w w') (hS : ∀ k, S k → ¬ K k) : Keeps S w w' := by
  intro a ha hv
  obtain ⟨v, hv⟩ := hv
  exact cell?_block (h.block _ (lt_of_cell? hv) (hS _ ha))

/-! ## The state of a call -/
abbrev Hp := Nat → Option Blk

/-- The blocks that values that are never written again may lie in. -/
def Sof (ρ : Nat → Option Nat) (H : Hp) (B : Nat → Prop) : Nat → Prop :=
  fun k => B k ∧ ∀ id b, H id = some b → b.fz = false → ρ id ≠ some k

def At (ρ : Nat → Option Nat) (H : Hp) (B N : Nat → Prop) (w : World) (id : Nat) (b : Blk) : Prop :=
  (∃ sz, b.c = .row sz [] ∧ ρ id = none) ∨
  ∃ k arr T cs ext, ρ id = some k ∧ B k ∧ N k ∧ w.heap[k]? = some (.cells arr T (0, 0)) ∧ arr.toList = cs ++ ext ∧ VRel (Sof ρ H B) w b.c cs

structure HRel (ρ : Nat → Option Nat) (H : Hp) (B N : Nat → Prop) (w : World) : Prop where
  at_ : ∀ id b, H id = some b → At ρ H B N w id b
  inj : ∀ i j bi bj k, H i = some bi → H j = some bj → ρ i = some k → ρ j = some k → i = j
  bound : ∀ k, B k → ∃ (arr : Array Value) (T : TypeId), w.heap[k]? = some (.cells arr T (0, 0))

theorem lt_of_heap {w : World} {k : Nat} {x : Obj} (h : w.heap[k]? = some x) : k < w.heap.size := by
  rcases Nat.lt_or_ge k w.heap.size with h' | h'
  · exact h'
  · simp [Array.getElem?_eq_none h'] at h
theorem HRel.lt {ρ : Nat → Option Nat} {H : Hp} {B N : Nat → Prop} {w : World} (h : HRel ρ H B N w) (k : Nat) (hk : B k) : k < w.heap.size := by
  obtain ⟨_, _, e⟩ := h.bound k hk
  exact lt_of_heap e
/-- New memory is plain. -/
def NewOk (w w' : World) : Prop := ∀ k, w.heap.size ≤ k → k < w'.heap.size → ∃ (arr : Array Value) (T : TypeId), w'.heap[k]? = some (.cells arr T (0, 0))
theorem newOk_alloc {w w0 : World} (c : Array Value) (t : TypeId) (h : w0.heap = w.heap) : NewOk w (w0.alloc (.cells c t)) := fun k h1 h2 => by
  have e : (w0.alloc (.cells c t)).heap = w0.heap.push (.cells c t) := rfl
  rw [e, h] at h2 ⊢
  have hk : k = w.heap.size := by simp at h2; omega
  subst hk
  exact ⟨c, t, by simp⟩
theorem newOk_same {w w' : World} (h : w'.heap = w.heap) : NewOk w w' := fun k h1 h2 => by rw [h] at h2; omega
theorem only_plain {K : Nat → Prop} {w w' : World} (h : Only K w w') {k : Nat} (e : ∃ (arr : Array Value) (T : TypeId), w.heap[k]? = some (.cells arr T (0, 0))) : ∃ (arr : Array Value) (T : TypeId), w'.heap[k]? = some (.cells arr T (0, 0)) := by
  obtain ⟨arr, T, e⟩ := e
  obtain ⟨arr', e', _⟩ := h.sizes k arr T _ e
  exact ⟨arr', T, e'⟩

mutual
def SlotRel (ρ : Nat → Option Nat) (H : Hp) (S : Nat → Prop) (w : World) : AV → Value → Prop
  | .top, _ => True
  | .own id _ o, v => ∀ b, H id = some b → ∃ k, ρ id = some k ∧ v = .pointer (some ⟨k, o.sum, none⟩)
  | .osl id, v => ∀ b, H id = some b → ∃ sz xs, b.c = .row sz xs ∧
      ((xs = [] ∧ ρ id = none ∧ ∃ a, v = .slice a 0 0) ∨
       ∃ k cap arr T, ρ id = some k ∧ v = .slice (some ⟨k, 0, none⟩) xs.length cap ∧ xs.length ≤ cap ∧ w.heap[k]? = some (.cells arr T (0, 0)) ∧ cap * sz ≤ arr.size)
  | .fr id us, v => ∀ b, H id = some b → ∃ sz xs k cap arr T, b.c = .row sz xs ∧ us.length < xs.length ∧ ρ id = some k ∧ v = .slice (some ⟨k, us.length * sz, none⟩) (xs.length - us.length) (cap - us.length) ∧ xs.length ≤ cap ∧ w.heap[k]? = some (.cells arr T (0, 0)) ∧ cap * sz ≤ arr.size
  | .oclo f id caps, v => ∀ b, H id = some b → ∃ k vs, ρ id = some k ∧ v = .func (.func f) #[] (.pointer (some ⟨k, 0, none⟩) :: vs).toArray ∧ (caps.all fun x => x.plain) = true ∧ VPack S w caps vs
  | .tuple xs, v => ∃ vs, v = .tuple vs.toArray ∧ SlotsRel ρ H S w xs vs
  | .int k n, v => v = .int k n
  | .bool b, v => v = .bool b
  | .str s, v => v = .string s
  | .raw u, v => v = u ∧ scalar u = true
  | .arr sz n xs, v => ∃ cs, VRel S w (.arr sz n xs) cs ∧ v = .agg cs.toArray
  | .struct szs xs, v => ∃ cs, VRel S w (.struct szs xs) cs ∧ v = .agg cs.toArray
  | .sl sz t xs, v => VRel S w (.sl sz t xs) [v]
  | .clo f a b, v => VRel S w (.clo f a b) [v]
  | .ref u p o, v => VRel S w (.ref u p o) [v]
  | _, _ => False
def SlotsRel (ρ : Nat → Option Nat) (H : Hp) (S : Nat → Prop) (w : World) : List AV → List Value → Prop
  | [], vs => vs = []
  | x :: xs, vs => ∃ v rest, vs = v :: rest ∧ SlotRel ρ H S w x v ∧ SlotsRel ρ H S w xs rest
end

/-- Does it name the own block id? -/
def AV.names (id : Nat) : AV → Bool
  | .own i _ _ => i == id
  | .osl i => i == id
  | .fr i _ => i == id
  | .oclo _ i _ => i == id
  | .tuple xs => namesAny id xs
  | _ => false
where
  namesAny (id : Nat) : List AV → Bool
  | [] => false
  | x :: xs => AV.names id x || namesAny id xs

theorem slot_of_vrel {ρ : Nat → Option Nat} {H : Hp} {S : Nat → Prop} {w : World} {v : AV} {cs : List Value} (h : VRel S w v cs) (hp : v.plain = true) : SlotRel ρ H S w v (pack v cs) := by
  cases v <;> simp only [AV.plain, Bool.false_eq_true] at hp <;> simp only [SlotRel, pack]
  case int => simp only [VRel] at h; subst h; rfl
  case bool => simp only [VRel] at h; subst h; rfl
  case str => simp only [VRel] at h; subst h; rfl
  case raw => simp only [VRel] at h; obtain ⟨rfl, h⟩ := h; exact ⟨rfl, h⟩
  case arr => exact ⟨cs, h, rfl⟩
  case struct => exact ⟨cs, h, rfl⟩
  case sl => obtain ⟨a, cap, rfl, r⟩ := h; exact ⟨a, cap, rfl, r⟩
  case clo => obtain ⟨a, b, rfl, r⟩ := h; exact ⟨a, b, rfl, r⟩
  case ref => obtain ⟨k, off, vs, rfl, r⟩ := h; exact ⟨k, off, vs, rfl, r⟩

theorem vrel_of_slot {ρ : Nat → Option Nat} {H : Hp} {S : Nat → Prop} {w : World} {v : AV} {cv : Value} (h : SlotRel ρ H S w v cv) (hp : v.plain = true) : ∃ cs, VRel S w v cs ∧ cv = pack v cs ∧ cv.cells.toList = cs := by
  cases v <;> simp only [AV.plain, Bool.false_eq_true] at hp <;> simp only [SlotRel] at h
  case int => subst h; refine ⟨[_], ?_, rfl, rfl⟩; simp only [VRel]
  case bool => subst h; refine ⟨[_], ?_, rfl, rfl⟩; simp only [VRel]
  case str => subst h; refine ⟨[_], ?_, rfl, rfl⟩; simp only [VRel]
  case raw u => obtain ⟨rfl, h⟩ := h; refine ⟨[_], ⟨rfl, h⟩, rfl, ?_⟩; cases cv <;> first | rfl | simp [scalar] at h
  case arr => obtain ⟨cs, h, rfl⟩ := h; exact ⟨cs, h, rfl, by simp [Value.cells]⟩
  case struct => obtain ⟨cs, h, rfl⟩ := h; exact ⟨cs, h, rfl, by simp [Value.cells]⟩
  case sl => refine ⟨[cv], h, rfl, ?_⟩; obtain ⟨a, cap, e, _⟩ := h; simp at e; subst e; rfl
  case clo => refine ⟨[cv], h, rfl, ?_⟩; obtain ⟨a, b, e, _⟩ := h; simp at e; subst e; rfl
  case ref => refine ⟨[cv], h, rfl, ?_⟩; obtain ⟨k, off, vs, e, _⟩ := h; simp at e; subst e; rfl

mutual
theorem slot_keep {F : Nat → Prop} {ρ ρ' : Nat → Option Nat} {H H' : Hp} {S S' : Nat → Prop} {w w' : World} (hS : ∀ k, S k → S' k) (hK : Keeps S w w')
    (hid : ∀ id b', H' id = some b' → F id ∨ ∃ b, H id = some b ∧ ρ' id = ρ id ∧ (∀ sz xs, b.c = .row sz xs → ∃ xs', b'.c = .row sz xs' ∧ xs'.length = xs.length) ∧
      (∀ k arr T, ρ id = some k → w.heap[k]? = some (.cells arr T (0, 0)) → ∃ arr' T', w'.heap[k]? = some (.cells arr' T' (0, 0)) ∧ arr'.size = arr.size)) :
    ∀ (av : AV) (v : Value), (∀ id, F id → av.names id = false) → SlotRel ρ H S w av v → SlotRel ρ' H' S' w' av v
  | .top, _, _, _ => trivial
  | .own id p o, v, hn, h => by
    intro b' hb'
    rcases hid id b' hb' with hF | ⟨b, hb, e, _, _⟩
    · have := hn id hF; simp [AV.names] at this
    · rw [e]; exact h b hb
  | .osl id, v, hn, h => by
    intro b' hb'
    rcases hid id b' hb' with hF | ⟨b, hb, e, hrow, hblk⟩
    · have := hn id hF; simp [AV.names] at this
    · obtain ⟨sz, xs, hc, hh⟩ := h b hb
      obtain ⟨xs', hc', hl⟩ := hrow sz xs hc
      refine ⟨sz, xs', hc', ?_⟩
      rw [e]
      rcases hh with ⟨hx, hρ, a, ha⟩ | ⟨k, cap, arr, T, hρ, hv, hle, hw, hcap⟩
      · left; subst hx; exact ⟨by simpa using hl, hρ, a, ha⟩
      · right
        obtain ⟨arr', T', hw', hs'⟩ := hblk k arr T hρ hw
        exact ⟨k, cap, arr', T', hρ, by rw [hl]; exact hv, by rw [hl]; exact hle, hw', by rw [hs']; exact hcap⟩
  | .tuple xs, v, hn, h => by
    obtain ⟨vs, rfl, h⟩ := h
    exact ⟨vs, rfl, slots_keep hS hK hid xs vs (fun id hF => by simpa [AV.names] using hn id hF) h⟩
  | .int _ _, _, _, h => h
  | .bool _, _, _, h => h
  | .str _, _, _, h => h
  | .raw _, _, _, h => h
  | .arr _ _ _, _, _, h => by obtain ⟨cs, h, e⟩ := h; exact ⟨cs, VRel.keep hS hK _ _ h, e⟩
  | .struct _ _, _, _, h => by obtain ⟨cs, h, e⟩ := h; exact ⟨cs, VRel.keep hS hK _ _ h, e⟩
  | .sl _ _ _, _, _, h => VRel.keep hS hK _ _ h
  | .clo _ _ _, _, _, h => VRel.keep hS hK _ _ h
  | .ref _ _ _, _, _, h => VRel.keep hS hK _ _ h
  | .row .., _, _, h => h.elim
  | .mutsl .., _, _, h => h.elim
  | .mutp _, _, _, h => h.elim
  | .mclo .., _, _, h => h.elim
  | .oclo f id caps, v, hn, h => by
    intro b' hb'
    rcases hid id b' hb' with hF | ⟨b, hb, e, _, _⟩
    · have := hn id hF; simp [AV.names] at this
    · obtain ⟨k, vs, h1, h2, h3, h4⟩ := h b hb
      exact ⟨k, vs, by rw [e]; exact h1, h2, h3, VPack.keep hS hK caps vs h4⟩
  | .fr id us, v, hn, h => by
    intro b' hb'
    rcases hid id b' hb' with hF | ⟨b, hb, e, hrow, hblk⟩
    · have := hn id hF; simp [AV.names] at this
    · obtain ⟨sz, xs, k, cap, arr, T, hc, hlt, hρ, hv, hle, hw, hcap⟩ := h b hb
      obtain ⟨xs', hc', hl⟩ := hrow sz xs hc
      obtain ⟨arr', T', hw', hs'⟩ := hblk k arr T hρ hw
      exact ⟨sz, xs', k, cap, arr', T', hc', by omega, by rw [e]; exact hρ, by rw [hl]; exact hv, by omega, hw', by rw [hs']; exact hcap⟩
theorem slots_keep {F : Nat → Prop} {ρ ρ' : Nat → Option Nat} {H H' : Hp} {S S' : Nat → Prop} {w w' : World} (hS : ∀ k, S k → S' k) (hK : Keeps S w w')
    (hid : ∀ id b', H' id = some b' → F id ∨ ∃ b, H id = some b ∧ ρ' id = ρ id ∧ (∀ sz xs, b.c = .row sz xs → ∃ xs', b'.c = .row sz xs' ∧ xs'.length = xs.length) ∧
      (∀ k arr T, ρ id = some k → w.heap[k]? = some (.cells arr T (0, 0)) → ∃ arr' T', w'.heap[k]? = some (.cells arr' T' (0, 0)) ∧ arr'.size = arr.size)) :
    ∀ (xs : List AV) (vs : List Value), (∀ id, F id → AV.names.namesAny id xs = false) → SlotsRel ρ H S w xs vs → SlotsRel ρ' H' S' w' xs vs
  | [], _, _, h => h
  | x :: xs, vs, hn, h => by
    obtain ⟨v, rest, rfl, hx, hr⟩ := h
    have hn1 : ∀ id, F id → x.names id = false := fun id hF => by have := hn id hF; simp [AV.names.namesAny] at this; exact this.1
    have hn2 : ∀ id, F id → AV.names.namesAny id xs = false := fun id hF => by have := hn id hF; simp [AV.names.namesAny] at this; exact this.2
    exact ⟨v, rest, rfl, slot_keep hS hK hid x v hn1 hx, slots_keep hS hK hid xs rest hn2 hr⟩
end

end Go.Abs
/- The abstract operations: what each operation of the model comes to on abstract values; programs stripped of what does not matter. Definitions alone. -/
namespace Go.Abs

/-! ## Types -/
inductive TyD where
  | int (k : IntKind) | bool | string | ptr (e : Nat) | slice (e : Nat) | arr (n e : Nat) | struct (fs : List (Nat × Nat)) | other

def TyD.of : TypeDesc → TyD
  | .int k => .int k
  | .bool => .bool
  | .string => .string
  | .pointer e => .ptr e
  | .slice e => .slice e
  | .array n e => .arr n e
  | .struct fs => .struct (fs.toList.map fun f => (f.offset, f.type))
  | _ => .other

structure TyA where
  d : TyD
  size : Nat
  bytes : Nat
  zero : AV

def TyD.agg : TyD → Bool
  | .arr .. | .struct .. => true
  | _ => false
def TyA.agg (a : TyA) : Bool := a.d.agg

/-- The cells of a value that lies in no memory. -/
def flat : AV → Option (List Value)
  | .int k n => some [.int k n]
  | .bool b => some [.bool b]
  | .str s => some [.string s]
  | .raw v => if scalar v then some [v] else none
  | .sl _ _ [] => some [.slice none 0 0]
  | .arr sz n xs => if xs.length = n then flats (fun _ => sz) 0 xs else none
  | .struct szs xs => if szs.length = xs.length then flats (fun j => szs.getD j 0) 0 xs else none
  | _ => none
where
  flats (sz : Nat → Nat) : Nat → List AV → Option (List Value)
    | _, [] => some []
    | j, x :: xs => match flat x, flats sz (j + 1) xs with
      | some a, some b => if a.length = sz j then some (a ++ b) else none
      | _, _ => none

structure TyOk (P : Program) (t : Nat) (a : TyA) : Prop where
  under : (P.underlying t).map TyD.of = some a.d
  sizes : (P.info? t).map (fun i => (i.size, i.bytes)) = some (a.size, a.bytes)
  zeroOk : ((P.info? t).bind (·.zero)).map (fun v => v.cells.toList) = flat a.zero
  isOk : (flat a.zero).isSome = true
  zsize : a.zero.size = a.size
  eqOk : (match P.underlying t with | some (.struct fs) => fs.toList.all (fun f => f.name != "_") && !P.stoodInHeld t | _ => true) = true

abbrev Tys := List (Nat × TyA)

def look {α : Type} : List (Nat × α) → Nat → Option α
  | [], _ => none
  | (j, a) :: t, k => match Nat.beq j k with
    | true => some a
    | false => look t k

def TysOk (P : Program) (T : Tys) : Prop := ∀ t a, look T t = some a → TyOk P t a

/-! ## Programs -/
inductive AO where
  | mov (x : Operand)
  | asg (m : Nat) (x : Operand) (t : Nat)
  | pick (c a b : Operand)
  | alloc (t : Nat)
  | box (t : Nat) (x : Operand)
  | build (t : Nat) (ps : List (Nat × Operand))
  | bslice (m t n : Nat) (ps : List (Nat × Operand))
  | load (t : Nat) (a : Operand)
  | store (t : Nat) (a x : Operand)
  | nilCheck (x : Operand)
  | bin (op : BinOp) (t : Nat) (x y : Operand)
  | un (op : UnOp) (x : Operand)
  | conv (s d : Nat) (x : Operand)
  | mkfn (f : FuncId) (first caps : List Operand)
  | mkclo (f : FuncId) (caps : List Operand)
  | mkslice (t : Nat) (l c : Operand)
  | slice (t : Nat) (x : Operand) (lo hi mx : Option Operand)
  | vw (t : Nat) (x lo : Operand)
  | fieldAddr (t : Nat) (x : Operand) (f : Nat)
  | field (t : Nat) (x : Operand) (f : Nat)
  | indexAddr (t : Nat) (x i : Operand)
  | index (t : Nat) (x i : Operand)
  | extract (x : Operand) (i : Nat)
  | call (m : Nat) (f : Operand) (args : List Operand)
  | blt (m : Nat) (b : Builtin) (args : List Operand) (ts : List Nat)
  | other

structure AOper where
  dst : Option Nat
  op : AO
  guard : Option (Nat × Bool)
  after : List Nat

inductive ACode where
  | skip
  | region (id : Nat) (ops : List AOper) (draw : Bool)
  | seq (a b : ACode)
  | cond (c : Operand) (a b : ACode)
  | block (id : Nat) (a : ACode)
  | loop (a : ACode)
  | exit (id : Nat)
  | ret
  | other

/-- A part of a slice, or (m is not 0) its end, to be cleared. -/
def slOp (m t : Nat) (x : Operand) (l h mx : Option Operand) : AO :=
  match m, l, h, mx with
  | 0, _, _, _ => .slice t x l h mx
  | _, some lo, none, none => .vw t x lo
  | _, _, _, _ => .other

/-- A closure, or (m is not 0) one that writes its first captured variable. -/
def cloOp (m : Nat) (f : FuncId) (a b : List Operand) : AO :=
  match m, a with
  | 0, _ => .mkfn f a b
  | _, [] => .mkclo f b
  | _, _ => .other

def stripOp (m : Nat) (ty : Nat) : Op → AO
  | .move x => .mov x
  | .assign x => .asg m x ty
  | .pick c a b => .pick c a b
  | .alloc t => .alloc t
  | .box t x => .box t x
  | .build t ps => .build t ps.toList
  | .buildSlice t n ps => .bslice m t n ps.toList
  | .load t a => .load t a
  | .store t a x => .store t a x
  | .nilCheck x => .nilCheck x
  | .binOp op t x y _ => .bin op t x y
  | .unOp op _ x => .un op x
  | .convert s d x => .conv s d x
  | .makeFunc (.func f) a b => cloOp m f a.toList b.toList
  | .makeSlice t l c => .mkslice t l c
  | .slice t x l h mx => slOp m t x l h mx
  | .fieldAddr t x f => .fieldAddr t x f
  | .field t x f => .field t x f
  | .indexAddr t x i => .indexAddr t x i
  | .index t x i => .index t x i
  | .extract x i => .extract x i
  | .call ⟨.value f, args, _⟩ => .call m f args.toList
  | .call ⟨.builtin b, args, ts⟩ => .blt m b args.toList ts.toList
  | _ => .other

/-- m: for each slot that an operation writes, how (0 where it is not listed). -/
def stripOper (m : List (Nat × Nat)) (draw : Bool) (ops : Array Oper) (o : Oper) : AOper where
  dst := o.dst
  op := stripOp ((o.dst.bind (look m)).getD 0) o.type o.op
  guard := o.guard.map fun g => (((ops[g.1]?).bind (·.dst)).getD 999999, g.2)
  after := if draw then (o.after.toList.filter (Region.binds .any)).map (·.on) else []

def strip (m : List (Nat × Nat)) : Code → ACode
  | .skip => .skip
  | .region id ops draw => .region id (ops.toList.map (stripOper m draw ops)) draw
  | .seq a b => .seq (strip m a) (strip m b)
  | .cond c a b => .cond c (strip m a) (strip m b)
  | .block id a => .block id (strip m a)
  | .loop a => .loop (strip m a)
  | .exit id => .exit id
  | .ret => .ret
  | _ => .other

/-! ## What an operation comes to -/
abbrev Upd := List (Nat × Option Blk)

inductive Ev where
  | bad
  | val (v : AV) (u : Upd) (C : Prop)
  | call (f : FuncId) (args : List AV) (u : Upd) (ms : List (Nat × Nat)) (C : Prop)
  /-- The first where c, else the second; nobody can tell which. -/
  | split (c : Prop) (v v' : AV)

inductive Ask where
  | ret (e : Ev)
  | get (id : Nat) (k : Option Blk → Ask)

def Ask.run (H : Hp) : Ask → Ev
  | .ret e => e
  | .get id k => (k (H id)).run H

def ofConst : Value → AV
  | .int k n => .int k n
  | .bool b => .bool b
  | .string s => .str s
  | .slice none 0 0 => .sl 0 true []
  | .agg _ => .top
  | .tuple _ => .top
  | .pointer none => .raw (.pointer none)
  | .nilFunc => .raw .nilFunc
  | _ => .top

def nid (d j : Nat) : Nat := 1000 + 100 * d + j

/-- A name that no block has yet. -/
def fresh (n : Nat) (k : Ask) : Ask := .get n fun
  | none => k
  | some _ => .ret .bad

def loose : AV → AV
  | .sl sz _ xs => .sl sz false xs
  | v => v

/-- What is handed on is written no more. -/
def frz (v : AV) (k : AV → Upd → Ask) : Ask :=
  match v with
  | .osl id => .get id fun
    | some ⟨.row sz xs, _⟩ => k (.sl sz false xs) [(id, some ⟨.row sz xs, true⟩)]
    | _ => .ret .bad
  | .own id p o => .get id fun
    | some ⟨c, _⟩ => k (.ref c p o) [(id, some ⟨c, true⟩)]
    | none => .ret .bad
  | v => if v.plain then k v [] else .ret .bad

def frzAll : List AV → (List AV → Upd → Ask) → Ask
  | [], k => k [] []
  | v :: vs, k => frz v fun v' u => frzAll vs fun vs' u' => k (v' :: vs') (u ++ u')

/-- Arguments: those at the places that m tells are handed on to be written. -/
def frzArgs (m : Nat) : Nat → List AV → (List AV → Upd → List (Nat × Nat) → Ask) → Ask
  | _, [], k => k [] [] []
  | i, v :: vs, k =>
    if m.testBit i then
      match v with
      | .osl id => .get id fun
        | some ⟨.row sz xs, false⟩ => frzArgs m (i + 1) vs fun vs' u ms => k (.mutsl sz xs :: vs') u ((i, id) :: ms)
        | _ => .ret .bad
      | .own id [] [] => .get id fun
        | some ⟨c, false⟩ => frzArgs m (i + 1) vs fun vs' u ms => k (.mutp c :: vs') u ((i, id) :: ms)
        | _ => .ret .bad
      | .oclo f id caps => .get id fun
        | some ⟨c, false⟩ => frzArgs m (i + 1) vs fun vs' u ms => k (.mclo f c caps :: vs') u ((i, id) :: ms)
        | _ => .ret .bad
      | _ => .ret .bad
    else frz v fun v' u => frzArgs m (i + 1) vs fun vs' u' ms => k (v' :: vs') (u ++ u') ms

def intBin (op : BinOp) (k : IntKind) (a b : Int) : Ev :=
  match op with
  | .add => .val (.int k (k.wrap (a + b))) [] True
  | .sub => .val (.int k (k.wrap (a - b))) [] True
  | .mul => .val (.int k (k.wrap (a * b))) [] True
  | .quo => .val (.int k (k.wrap (a.tdiv b))) [] (b ≠ 0)
  | .rem => .val (.int k (a.tmod b)) [] (b ≠ 0)
  | .and => .val (.int k (k.wrap (BitVec.ofInt k.bits a &&& BitVec.ofInt k.bits b).toNat)) [] True
  | .or => .val (.int k (k.wrap (BitVec.ofInt k.bits a ||| BitVec.ofInt k.bits b).toNat)) [] True
  | .xor => .val (.int k (k.wrap (BitVec.ofInt k.bits a ^^^ BitVec.ofInt k.bits b).toNat)) [] True
  | .eql => .val (.bool (a == b)) [] True
  | .neq => .val (.bool (a != b)) [] True
  | .lss => .val (.bool (decide (a < b))) [] True
  | .leq => .val (.bool (decide (a ≤ b))) [] True
  | .gtr => .val (.bool (decide (a > b))) [] True
  | .geq => .val (.bool (decide (a ≥ b))) [] True
  | _ => .bad

def shBin (op : BinOp) (k : IntKind) (a b : Int) : Ev :=
  match op with
  | .shl => .val (.int k (k.wrap (a * 2 ^ (min b.toNat k.bits)))) [] (¬ b < 0)
  | .shr => .val (.int k (a.fdiv (2 ^ (min b.toNat k.bits)))) [] (¬ b < 0)
  | _ => .bad

def isSh : BinOp → Bool
  | .shl | .shr => true
  | _ => false

/-! Equality of values that lie in no memory. -/
mutual
def eqb : AV → AV → Bool
  | .int _ a, .int _ b => a == b
  | .bool a, .bool b => a == b
  | .arr _ _ xs, .arr _ _ ys => eqbs xs ys
  | .struct _ xs, .struct _ ys => eqbs xs ys
  | _, _ => false
def eqbs : List AV → List AV → Bool
  | x :: xs, y :: ys => eqb x y && eqbs xs ys
  | [], [] => true
  | _, _ => false
end

/-- The text of some bytes. -/
def bstr (ns : List Int) : ByteArray := ns.foldl (fun r n => r.push (UInt8.ofNat n.toNat)) ByteArray.empty
def avInt : AV → Int
  | .int _ n => n
  | _ => 0
/-- The fields lie one behind the other, with these sizes. -/
def fieldsOk (T : Tys) : Nat → List (Nat × Nat) → List Nat → Bool
  | _, [], [] => true
  | off, f :: fs, s :: szs => Nat.beq f.1 off && (match look T f.2 with | some i => Nat.beq i.size s | none => false) && fieldsOk T (off + s) fs szs
  | _, _, _ => false

/-- Two values that '==' of the type t takes. -/
def Cmp (T : Tys) : Nat → Nat → AV → AV → Prop
  | 0, _, _, _ => False
  | d + 1, t, x, y =>
    match look T t with
    | none => False
    | some i => match i.d, x, y with
      | .int _, .int k _, .int k' _ => k = k'
      | .bool, .bool _, .bool _ => True
      | .arr n e, .arr sz m xs, .arr sz' m' ys => m = n ∧ m' = n ∧ sz' = sz ∧ (∃ j, look T e = some j ∧ j.size = sz) ∧ ∀ q, q < n → (nth xs q).isAgg = (nth ys q).isAgg ∧ Cmp T d e (nth xs q) (nth ys q)
      | .struct fs, .struct szs xs, .struct szs' ys => szs' = szs ∧ xs.length = szs.length ∧ ys.length = szs.length ∧ fieldsOk T 0 fs szs = true ∧ ∀ q, q < szs.length → Cmp T d (fs.getD q (0, 0)).2 (nth xs q) (nth ys q)
      | _, _, _ => False

def isNilOp : Operand → Bool
  | .const (.slice none 0 0) => true
  | _ => false

def aop (T : Tys) (d : Nat) (e : Operand → AV) : AO → Ask
  | .mov x => .ret (.val (e x) [] True)
  | .asg m x t =>
    match m with
    | 0 => .ret (.val (e x) [] True)
    | 1 => match e x with
      | .top => .ret .bad
      | .tuple _ => .ret .bad
      | v => match look T t, v with
        | some ⟨.slice el, _, _, _⟩, .sl _ true [] => match look T el with
          | some i => .ret (.val (.sl i.size false []) [] True)
          | none => .ret .bad
        | _, v => frz v fun v' u => .ret (.val (loose v') u True)
    | _ => match look T t, e x with
      | some ⟨.slice el, _, _, _⟩, .sl _ true [] => match look T el with
        | some i => fresh (nid d 0) (.ret (.val (.osl (nid d 0)) [(nid d 0, some ⟨.row i.size [], false⟩)] True))
        | none => .ret .bad
      | _, v => .ret (.val v [] True)
  | .pick c a b => match e c with
    | .bool true => .ret (.val (e a) [] True)
    | .bool false => .ret (.val (e b) [] True)
    | _ => .ret .bad
  | .alloc t => match look T t with
    | some i => fresh (nid d 0) (.ret (.val (.own (nid d 0) [] []) [(nid d 0, some ⟨i.zero, false⟩)] True))
    | none => .ret .bad
  | .box _ x => frz (e x) fun v u => fresh (nid d 0) (.ret (.val (.own (nid d 0) [] []) ((nid d 0, some ⟨v, false⟩) :: u) True))
  | .build t ps => match look T t with
    | some ⟨.struct fs, _, _, .struct szs zs⟩ => frzAll (ps.map fun p => e p.2) fun vs u =>
        .ret (.val (.struct szs (((ps.map (·.1)).zip vs).foldl (fun l p => l.set p.1 (loose p.2)) zs)) u (fieldsOk T 0 fs szs = true ∧ ∀ p ∈ (ps.map (·.1)).zip vs, p.1 < zs.length ∧ p.2.size = szs.getD p.1 0))
    | some ⟨.arr _ el, _, _, .arr sz n zs⟩ => frzAll (ps.map fun p => e p.2) fun vs u =>
        .ret (.val (.arr sz n (((ps.map (·.1)).zip vs).foldl (fun l p => l.set p.1 (loose p.2)) zs)) u ((∃ i, look T el = some i ∧ i.size = sz) ∧ ∀ p ∈ (ps.map (·.1)).zip vs, p.1 < zs.length ∧ p.2.size = sz))
    | _ => .ret .bad
  | .bslice m t n ps => match look T t with
    | some ⟨.slice el, _, _, _⟩ => match look T el with
      | some i => frzAll (ps.map fun p => e p.2) fun vs u => match m with
        | 0 => .ret (.val (.sl i.size true (((ps.map (·.1)).zip vs).foldl (fun l p => l.set p.1 (loose p.2)) (List.replicate n i.zero))) u (n * i.size ≤ 16777216 ∧ 0 < i.size ∧ ∀ p ∈ (ps.map (·.1)).zip vs, p.1 < n ∧ p.2.size = i.size))
        | _ => fresh (nid d 0) (.ret (.val (.osl (nid d 0)) ((nid d 0, some ⟨.row i.size (((ps.map (·.1)).zip vs).foldl (fun l p => l.set p.1 (loose p.2)) (List.replicate n i.zero)), false⟩) :: u) (n * i.size ≤ 16777216 ∧ 0 < i.size ∧ ∀ p ∈ (ps.map (·.1)).zip vs, p.1 < n ∧ p.2.size = i.size)))
      | none => .ret .bad
    | _ => .ret .bad
  | .load t a => match look T t with
    | none => .ret .bad
    | some i => match e a with
      | .own id p o => .get id fun
        | some ⟨c, _⟩ => .ret (.val (atP p c) [] (hasP p c ∧ offs p c = o ∧ szAt p c = i.size ∧ (atP p c).isAgg = i.agg ∧ (atP p c).plain = true))
        | none => .ret .bad
      | .ref c p o => .ret (.val (atP p c) [] (hasP p c ∧ offs p c = o ∧ szAt p c = i.size ∧ (atP p c).isAgg = i.agg ∧ (atP p c).plain = true))
      | _ => .ret .bad
  | .store t a x => match look T t with
    | none => .ret .bad
    | some i => match e a with
      | .own id p o => frz (e x) fun v u => .get id fun
        | some ⟨c, false⟩ => .ret (.val .top ((id, some ⟨putP p c (loose v), false⟩) :: u) (hasP p c ∧ offs p c = o ∧ szAt p c = i.size ∧ v.size = i.size ∧ u.all (fun q => q.1 != id) = true ∧ (!p.isEmpty || c.plain) = true))
        | _ => .ret .bad
      | _ => .ret .bad
  | .nilCheck x => match e x with
    | .own id p o => .get id fun
      | some _ => .ret (.val (.own id p o) [] True)
      | none => .ret .bad
    | .ref v p o => .ret (.val (.ref v p o) [] True)
    | _ => .ret .bad
  | .bin op t x y => match isNilOp y, e x, look T t with
    | true, .sl _ _ xs, some ⟨.slice _, _, _, _⟩ => match op with
      | .eql => .ret (.split (xs = []) (.bool true) (.bool false))
      | .neq => .ret (.split (xs = []) (.bool false) (.bool true))
      | _ => .ret .bad
    | _, _, _ => match e x, e y with
        | .int k a, .int k' b => if isSh op then .ret (shBin op k a b) else if k = k' then .ret (intBin op k a b) else .ret .bad
        | .bool a, .bool b => match look T t, op with
          | some ⟨.bool, _, _, _⟩, .eql => .ret (.val (.bool (a == b)) [] True)
          | some ⟨.bool, _, _, _⟩, .neq => .ret (.val (.bool (!(a == b))) [] True)
          | _, _ => .ret .bad
        | .arr sz n xs, .arr sz' n' ys => match op with
          | .eql => .ret (.val (.bool (eqb (.arr sz n xs) (.arr sz' n' ys))) [] (Cmp T 9 t (.arr sz n xs) (.arr sz' n' ys)))
          | .neq => .ret (.val (.bool (!(eqb (.arr sz n xs) (.arr sz' n' ys)))) [] (Cmp T 9 t (.arr sz n xs) (.arr sz' n' ys)))
          | _ => .ret .bad
        | .str a, .str b => match op with
          | .eql => .ret (.val (.bool (a.toList == b.toList)) [] True)
          | .neq => .ret (.val (.bool (!(a.toList == b.toList))) [] True)
          | .add => .ret (.val (.str (a ++ b)) [] (a.size + b.size ≤ 9223372036854775807))
          | _ => .ret .bad
        | .struct szs xs, .struct szs' ys => match op with
          | .eql => .ret (.val (.bool (eqb (.struct szs xs) (.struct szs' ys))) [] (Cmp T 9 t (.struct szs xs) (.struct szs' ys)))
          | .neq => .ret (.val (.bool (!(eqb (.struct szs xs) (.struct szs' ys)))) [] (Cmp T 9 t (.struct szs xs) (.struct szs' ys)))
          | _ => .ret .bad
        | _, _ => .ret .bad
  | .un op x => match op, e x with
    | .neg, .int k n => .ret (.val (.int k (k.wrap (0 - n))) [] True)
    | .not, .bool b => .ret (.val (.bool (!b)) [] True)
    | _, _ => .ret .bad
  | .conv st dt x => match look T st, look T dt, e x with
    | some _, some ⟨.int k, _, _, _⟩, .int _ n => .ret (.val (.int k (k.wrap n)) [] True)
    | some ⟨.slice el, _, _, _⟩, some ⟨.string, _, _, _⟩, _ => match look T el with
      | some ⟨.int .u8, _, _, _⟩ => frz (e x) fun v u => match v with
        | .sl sz _ xs => .ret (.val (.str (bstr (xs.map avInt))) u (sz = 1 ∧ ∀ y ∈ xs, ∃ n, y = .int .u8 n))
        | _ => .ret .bad
      | _ => .ret .bad
    | _, _, _ => .ret .bad
  | .mkfn f first caps => frzAll (first.map e) fun a u => frzAll (caps.map e) fun b u' => .ret (.val (.clo f a b) (u ++ u') True)
  | .mkclo f caps => match caps.map e with
    | .own id [] [] :: rest => .get id fun
      | some ⟨_, false⟩ => frzAll rest fun b u => .ret (.val (.oclo f id b) u True)
      | _ => .ret .bad
    | _ => .ret .bad
  | .mkslice t l c => match look T t with
    | some ⟨.slice el, _, _, _⟩ => match look T el with
      | some i => match e l, e c with
        | .int _ n, .int _ m => fresh (nid d 0) (.ret (.val (.osl (nid d 0)) [(nid d 0, some ⟨.row i.size (List.replicate n.toNat i.zero), false⟩)] (m = n ∧ 0 ≤ n ∧ n ≤ 140737488355328 ∧ i.bytes * n ≤ 140737488355328 ∧ 0 < i.size)))
        | _, _ => .ret .bad
      | none => .ret .bad
    | _ => .ret .bad
  | .slice t x lo hi mx => match look T t with
    | some ⟨.slice el, _, _, _⟩ => match look T el with
      | some i => frz (e x) fun v u => match v, lo.map e, hi.map e, mx.map e with
        | .sl sz _ xs, none, some (.int _ h), none => .ret (.val (.sl sz false (xs.take h.toNat)) u (0 ≤ h ∧ h ≤ xs.length))
        | .sl sz _ xs, none, some (.int _ h), some (.int _ m) => .ret (.val (.sl sz true (xs.take h.toNat)) u (0 ≤ h ∧ h ≤ xs.length ∧ m = h))
        | .sl sz _ xs, some (.int _ l), none, none => .ret (.val (.sl sz false (xs.drop l.toNat)) u (0 ≤ l ∧ l ≤ xs.length ∧ sz = i.size))
        | .sl sz _ xs, some (.int _ l), some (.int _ h), none => .ret (.val (.sl sz false ((xs.take h.toNat).drop l.toNat)) u (0 ≤ l ∧ l ≤ h ∧ h ≤ xs.length ∧ sz = i.size))
        | _, _, _, _ => .ret .bad
      | none => .ret .bad
    | some ⟨.arr n el, _, _, _⟩ => match look T el, lo, hi, mx with
      | some i, none, none, none => frz (e x) fun v u => match v with
        | .ref c p o => match atP p c with
          | .arr sz m xs => .ret (.val (.sl sz true xs) u (m = n ∧ hasP p c ∧ offs p c = o ∧ sz = i.size))
          | _ => .ret .bad
        | _ => .ret .bad
      | _, _, _, _ => .ret .bad
    | some ⟨.string, _, _, _⟩ => match e x, lo.map e, hi.map e, mx.map e with
      | .str s, none, some (.int _ h), none => .ret (.val (.str (s.extract 0 h.toNat)) [] (0 ≤ h ∧ h ≤ s.size))
      | .str s, some (.int _ l), none, none => .ret (.val (.str (s.extract l.toNat s.size)) [] (0 ≤ l ∧ l ≤ s.size))
      | .str s, some (.int _ l), some (.int _ h), none => .ret (.val (.str (s.extract l.toNat h.toNat)) [] (0 ≤ l ∧ l ≤ h ∧ h ≤ s.size))
      | _, _, _, _ => .ret .bad
    | _ => .ret .bad
  | .vw t x lo => match look T t with
    | some ⟨.slice el, _, _, _⟩ => match look T el, e x, e lo with
      | some i, .osl id, .int _ l => .get id fun
        | some ⟨.row sz xs, false⟩ => .ret (.val (.fr id (List.replicate l.toNat .top)) [] (0 ≤ l ∧ l < xs.length ∧ sz = i.size))
        | _ => .ret .bad
      | _, _, _ => .ret .bad
    | _ => .ret .bad
  | .fieldAddr t x f => match look T t with
    | some ⟨.struct fs, _, _, _⟩ => match fs[f]? with
      | some (off, ft) => match look T ft with
        | some i => match e x with
          | .own id p o => .get id fun
            | some _ => .ret (.val (.own id (p ++ [f]) (o ++ [off])) [] (0 < i.size))
            | none => .ret .bad
          | .ref v p o => .ret (.val (.ref v (p ++ [f]) (o ++ [off])) [] (0 < i.size))
          | _ => .ret .bad
        | none => .ret .bad
      | none => .ret .bad
    | _ => .ret .bad
  | .field t x f => match look T t with
    | some ⟨.struct fs, _, _, _⟩ => match fs[f]? with
      | some (off, ft) => match look T ft with
        | some i => match e x with
          | .struct szs xs => .ret (.val (nth xs f) [] (f < xs.length ∧ off = (szs.take f).sum ∧ szs.getD f 0 = i.size ∧ (nth xs f).isAgg = i.agg ∧ (nth xs f).plain = true))
          | _ => .ret .bad
        | none => .ret .bad
      | none => .ret .bad
    | _ => .ret .bad
  | .indexAddr t x ix => match e ix with
    | .int _ j => match look T t with
      | some ⟨.arr n el, _, _, _⟩ => match look T el, e x with
        | some i, .own id p o => .get id fun
          | some _ => .ret (.val (.own id (p ++ [j.toNat]) (o ++ [j.toNat * i.size])) [] (0 ≤ j ∧ j < n))
          | none => .ret .bad
        | some i, .ref v p o => .ret (.val (.ref v (p ++ [j.toNat]) (o ++ [j.toNat * i.size])) [] (0 ≤ j ∧ j < n))
        | _, _ => .ret .bad
      | some ⟨.slice el, _, _, _⟩ => match look T el, e x with
        | some i, .sl sz _ xs => .ret (.val (.ref (.row sz xs) [j.toNat] [j.toNat * i.size]) [] (0 ≤ j ∧ j < xs.length))
        | some i, .osl id => .get id fun
          | some ⟨.row _ xs, _⟩ => .ret (.val (.own id [j.toNat] [j.toNat * i.size]) [] (0 ≤ j ∧ j < xs.length))
          | _ => .ret .bad
        | _, _ => .ret .bad
      | _ => .ret .bad
    | _ => .ret .bad
  | .index t x ix => match e ix with
    | .int _ j => match look T t with
      | some ⟨.arr n el, _, _, _⟩ => match look T el, e x with
        | some i, .arr sz m xs => .ret (.val (nth xs j.toNat) [] (0 ≤ j ∧ j < n ∧ m = n ∧ sz = i.size ∧ (nth xs j.toNat).isAgg = i.agg ∧ (nth xs j.toNat).plain = true))
        | _, _ => .ret .bad
      | some ⟨.string, _, _, _⟩ => match e x with
        | .str s => .ret (.val (.int .u8 (((s.data.toList.getD j.toNat 0).toNat : Nat) : Int)) [] (0 ≤ j ∧ j < s.size))
        | _ => .ret .bad
      | _ => .ret .bad
    | _ => .ret .bad
  | .extract x i => match e x with
    | .tuple xs => .ret (.val (nth xs i) [] (i < xs.length))
    | _ => .ret .bad
  | .call m f args => match e f with
    | .clo g first caps => frzArgs m 0 (args.map e) fun as u ms => .ret (.call g (first ++ as ++ caps) u (ms.map fun p => (p.1 + first.length, p.2)) True)
    | .oclo g id caps => match args with
      | [] => .get id fun
        | some ⟨c, false⟩ => .ret (.call g (.mutp c :: caps) [] [(0, id)] True)
        | _ => .ret .bad
      | _ => .ret .bad
    | _ => .ret .bad
  | .blt m b args ts => match b, args.map e, ts with
    | .len, [v], [t] => match look T t with
      | some ⟨.slice _, _, _, _⟩ => match v with
        | .sl _ _ xs => .ret (.val (.int .i64 (xs.length : Nat)) [] True)
        | .osl id => .get id fun
          | some ⟨.row _ xs, _⟩ => .ret (.val (.int .i64 (xs.length : Nat)) [] True)
          | _ => .ret .bad
        | _ => .ret .bad
      | some ⟨.string, _, _, _⟩ => match v with
        | .str s => .ret (.val (.int .i64 (s.size : Nat)) [] True)
        | _ => .ret .bad
      | _ => .ret .bad
    | .max, [.int k a, .int _ b], _ => .ret (.val (.int k (if b > a then b else a)) [] True)
    | .min, [.int k a, .int _ b], _ => .ret (.val (.int k (if b < a then b else a)) [] True)
    | .clear, [.fr id us], [t] => match look T t with
      | some ⟨.slice el, _, _, _⟩ => match look T el with
        | some i => .get id fun
          | some ⟨.row sz xs, false⟩ => .ret (.val (.tuple []) [(id, some ⟨.row sz (xs.take us.length ++ List.replicate (xs.length - us.length) i.zero), false⟩)] (sz = i.size ∧ 0 < i.size ∧ us.length < xs.length))
          | _ => .ret .bad
        | none => .ret .bad
      | _ => .ret .bad
    | .append, [s, x], [t, t2] => match look T t, look T t2 with
      | some ⟨.slice el, _, _, _⟩, some ⟨.slice _, _, _, _⟩ => match look T el with
        | some i => frz x fun x' u => match x' with
          | .sl sz _ ys => match s with
            | .sl sz' true xs => match m with
              | 0 => fresh (nid d 0) (.ret (.val (.osl (nid d 0)) ((nid d 0, some ⟨.row i.size (xs ++ ys), false⟩) :: u) ((xs = [] ∨ ys ≠ []) ∧ (xs = [] ∨ sz' = i.size) ∧ (ys = [] ∨ sz = i.size) ∧ (xs.length + ys.length) * i.bytes ≤ 140737488355328 ∧ 0 < i.bytes ∧ 0 < i.size)))
              | _ => .ret (.val (.sl i.size false (xs ++ ys)) u ((xs = [] ∨ sz' = i.size) ∧ (ys = [] ∨ sz = i.size) ∧ (xs.length + ys.length) * i.bytes ≤ 140737488355328 ∧ 0 < i.bytes ∧ 0 < i.size))
            | .osl id => .get id fun
              | some ⟨.row sz' xs, false⟩ => fresh (nid d 0) (.ret (.val (.osl (nid d 0)) ((nid d 0, some ⟨.row i.size (xs ++ ys), false⟩) :: (id, none) :: u) (sz' = i.size ∧ (ys = [] ∨ sz = i.size) ∧ (xs.length + ys.length) * i.bytes ≤ 140737488355328 ∧ 0 < i.bytes ∧ 0 < i.size ∧ u.all (fun q => q.1 != id) = true)))
              | _ => .ret .bad
            | _ => .ret .bad
          | _ => .ret .bad
        | none => .ret .bad
      | _, _ => .ret .bad
    | _, _, _ => .ret .bad
  | .other => .ret .bad

end Go.Abs
/- Steps of memory under the abstract state: nothing, freezing, a new block, a store, an append in place, a draw: for every world. -/
namespace Go.Abs

def updH (H : Hp) (u : Upd) : Hp := fun id => match look u id with
  | some x => x
  | none => H id

theorem updH_nil (H : Hp) : updH H [] = H := rfl
theorem updH_cons (H : Hp) (i : Nat) (x : Option Blk) (u : Upd) : updH H ((i, x) :: u) = fun id => if id = i then x else updH H u id := by
  funext id
  simp only [updH, look]
  by_cases h : i = id
  · subst h; simp
  · have : Nat.beq i id = false := by rw [← Bool.not_eq_true, Nat.beq_eq]; exact h
    rw [this, if_neg (fun e => h e.symm)]
theorem look_append {α : Type} : ∀ (u v : List (Nat × α)) (id : Nat), look (u ++ v) id = (look u id).or (look v id)
  | [], v, id => by simp [look]
  | (i, x) :: u, v, id => by
    simp only [List.cons_append, look]
    cases Nat.beq i id
    · simpa using look_append u v id
    · simp
theorem updH_append (H : Hp) (u v : Upd) : updH H (u ++ v) = updH (updH H v) u := by
  funext id
  simp only [updH, look_append]
  cases look u id <;> simp

structure Step (F : Nat → Prop) (ρ : Nat → Option Nat) (H : Hp) (B N : Nat → Prop) (w : World) (ρ' : Nat → Option Nat) (H' : Hp) (w' : World) : Prop where
  heap : HRel ρ' H' (fun k => B k ∨ (w.heap.size ≤ k ∧ k < w'.heap.size)) N w'
  keep : ∀ av v, (∀ id, F id → av.names id = false) → SlotRel ρ H (Sof ρ H B) w av v →
    SlotRel ρ' H' (Sof ρ' H' (fun k => B k ∨ (w.heap.size ≤ k ∧ k < w'.heap.size))) w' av v
  only : Only N w w'
  same : ∀ id b, ¬ F id → H' id = some b → ρ' id = ρ id ∧ ∃ b0, H id = some b0
  sof : ∀ k, Sof ρ H B k → Sof ρ' H' (fun k => B k ∨ (w.heap.size ≤ k ∧ k < w'.heap.size)) k
  kept : Keeps (Sof ρ H B) w w'

theorem Bgrow {B : Nat → Prop} {w w' w'' : World} (h : w.heap.size ≤ w'.heap.size) (h' : w'.heap.size ≤ w''.heap.size) :
    (fun k => (B k ∨ (w.heap.size ≤ k ∧ k < w'.heap.size)) ∨ (w'.heap.size ≤ k ∧ k < w''.heap.size)) = fun k => B k ∨ (w.heap.size ≤ k ∧ k < w''.heap.size) := by
  funext k
  apply propext
  constructor
  · rintro ((h1 | h1) | h1)
    · exact .inl h1
    · exact .inr ⟨h1.1, by omega⟩
    · exact .inr ⟨by omega, h1.2⟩
  · rintro (h1 | h1)
    · exact .inl (.inl h1)
    · by_cases hk : k < w'.heap.size
      · exact .inl (.inr ⟨h1.1, hk⟩)
      · exact .inr ⟨by omega, h1.2⟩

theorem Bsame {B : Nat → Prop} {w w' : World} (h : w'.heap.size = w.heap.size) : (fun k => B k ∨ (w.heap.size ≤ k ∧ k < w'.heap.size)) = B := by
  funext k
  apply propext
  constructor
  · rintro (h1 | h1)
    · exact h1
    · omega
  · exact .inl

theorem Step.trans {F G : Nat → Prop} {ρ ρ' ρ'' : Nat → Option Nat} {H H' H'' : Hp} {B N : Nat → Prop} {w w' w'' : World}
    (h : Step F ρ H B N w ρ' H' w') (g : Step G ρ' H' (fun k => B k ∨ (w.heap.size ≤ k ∧ k < w'.heap.size)) N w' ρ'' H'' w'') :
    Step (fun id => F id ∨ G id) ρ H B N w ρ'' H'' w'' := by
  have e := Bgrow (B := B) h.only.size g.only.size
  constructor
  · rw [← e]; exact g.heap
  · intro av v hn hs
    rw [← e]
    exact g.keep av v (fun id hid => hn id (.inr hid)) (h.keep av v (fun id hid => hn id (.inl hid)) hs)
  · exact h.only.trans g.only
  · intro id b hn hb
    obtain ⟨e2, b1, hb1⟩ := g.same id b (fun x => hn (.inr x)) hb
    obtain ⟨e1, b0, hb0⟩ := h.same id b1 (fun x => hn (.inl x)) hb1
    exact ⟨e2.trans e1, b0, hb0⟩
  · intro k hk
    rw [← e]; exact g.sof k (h.sof k hk)
  · intro a ha hv
    have h1 := h.kept a ha hv
    have h2 := g.kept a (h.sof _ ha) (by rw [h1]; exact hv)
    rw [h2, h1]

theorem Step.mono {F G : Nat → Prop} {ρ ρ' : Nat → Option Nat} {H H' : Hp} {B N : Nat → Prop} {w w' : World}
    (h : Step F ρ H B N w ρ' H' w') (hF : ∀ id, F id → G id) : Step G ρ H B N w ρ' H' w' :=
  ⟨h.heap, fun av v hn => h.keep av v fun id x => hn id (hF id x), h.only, fun id b hn => h.same id b fun x => hn (hF id x), h.sof, h.kept⟩

/-- Memory has not turned, and of own blocks some are frozen or forgotten. -/
theorem Step.frozen {ρ : Nat → Option Nat} {H H' : Hp} {B N : Nat → Prop} {w w' : World} (hr : HRel ρ H B N w) (hw : w'.heap = w.heap) (ho : w'.os = w.os ∧ w'.tape = w.tape ∧ w'.output = w.output)
    (hH : ∀ id b', H' id = some b' → ∃ b, H id = some b ∧ b.c = b'.c ∧ (b.fz = true → b'.fz = true)) : Step No ρ H B N w ρ H' w' := by
  have hB : (fun k => B k ∨ (w.heap.size ≤ k ∧ k < w'.heap.size)) = B := Bsame (by rw [hw])
  have hS : ∀ k, Sof ρ H B k → Sof ρ H' B k := fun k hk => ⟨hk.1, fun id b' hb' hf => by
    obtain ⟨b, hb, _, hfz⟩ := hH id b' hb'
    refine hk.2 id b hb ?_
    cases hbf : b.fz
    · rfl
    · rw [hfz hbf] at hf; cases hf⟩
  have hK : Keeps (Sof ρ H B) w w' := fun a _ _ => cell?_block (by rw [hw])
  refine ⟨?_, ?_, ⟨ho.1, ho.2.1, ho.2.2, by rw [hw]; exact Nat.le_refl _, fun k _ _ => by rw [hw], fun a => by simp only [World.frozen?, hw], fun k arr T f h => ⟨arr, by rw [hw]; exact h, rfl⟩⟩, fun id b _ hb => ⟨rfl, (hH id b hb).imp fun _ h => h.1⟩, by rw [hB]; exact hS, hK⟩
  · rw [hB]
    refine ⟨fun id b' hb' => ?_, fun i j bi bj k hi hj e1 e2 => ?_, fun k hk => by rw [hw]; exact hr.bound k hk⟩
    · obtain ⟨b, hb, hc, _⟩ := hH id b' hb'
      rcases hr.at_ id b hb with ⟨sz, h1, h2⟩ | ⟨k, arr, T, cs, ext, h1, h2, h3, h4, h5, h6⟩
      · exact .inl ⟨sz, by rw [← hc]; exact h1, h2⟩
      · exact .inr ⟨k, arr, T, cs, ext, h1, h2, h3, by rw [hw]; exact h4, h5, by rw [← hc]; exact VRel.keep hS hK _ _ h6⟩
    · obtain ⟨bi', hi', _⟩ := hH i bi hi
      obtain ⟨bj', hj', _⟩ := hH j bj hj
      exact hr.inj i j bi' bj' k hi' hj' e1 e2
  · rw [hB]
    intro av v hn hs
    refine slot_keep (F := No) hS hK (fun id b' hb' => .inr ?_) av v (fun id x => x.elim) hs
    obtain ⟨b, hb, hc, _⟩ := hH id b' hb'
    exact ⟨b, hb, rfl, fun sz xs e => ⟨xs, by rw [← hc]; exact e, rfl⟩, fun k arr T _ e => ⟨arr, T, by rw [hw]; exact e, rfl⟩⟩

theorem Step.refl {ρ : Nat → Option Nat} {H : Hp} {B N : Nat → Prop} {w : World} (hr : HRel ρ H B N w) : Step No ρ H B N w ρ H w :=
  Step.frozen hr rfl ⟨rfl, rfl, rfl⟩ fun _ b' hb => ⟨b', hb, rfl, id⟩

/-- Blocks that were not there before, none of them own. -/
theorem Step.grown {ρ : Nat → Option Nat} {H : Hp} {B N : Nat → Prop} {w w' : World} (hr : HRel ρ H B N w) (ho : Only No w w') (hnew : NewOk w w') : Step No ρ H B N w ρ H w' := by
  have hS : ∀ k, Sof ρ H B k → Sof ρ H (fun k => B k ∨ (w.heap.size ≤ k ∧ k < w'.heap.size)) k := fun k hk => ⟨.inl hk.1, hk.2⟩
  have hK : Keeps (Sof ρ H B) w w' := ho.keeps fun _ _ x => x
  have hb : ∀ (k : Nat) (arr : Array Value) (T : TypeId), w.heap[k]? = some (Obj.cells arr T (0, 0)) → w'.heap[k]? = some (Obj.cells arr T (0, 0)) := fun k arr T h => by
    have hk : k < w.heap.size := by
      rcases Nat.lt_or_ge k w.heap.size with h' | h'
      · exact h'
      · simp [Array.getElem?_eq_none h'] at h
    rw [ho.block k hk (fun x => x)]; exact h
  refine ⟨⟨fun id b hb' => ?_, fun i j bi bj k => hr.inj i j bi bj k, fun k hk => ?_⟩, fun av v hn hs => ?_, ho.mono fun _ _ x => x.elim, fun id b _ hb => ⟨rfl, b, hb⟩, hS, hK⟩
  · rcases hr.at_ id b hb' with h | ⟨k, arr, T, cs, ext, h1, h2, h3, h4, h5, h6⟩
    · exact .inl h
    · exact .inr ⟨k, arr, T, cs, ext, h1, .inl h2, h3, hb _ _ _ h4, h5, VRel.keep hS hK _ _ h6⟩
  · rcases hk with hk | hk
    · exact only_plain ho (hr.bound k hk)
    · exact hnew k hk.1 hk.2
  · exact slot_keep (F := No) hS hK (fun id b' hb' => .inr ⟨b', hb', rfl, fun sz xs e => ⟨xs, e, rfl⟩, fun k arr T _ e => ⟨arr, T, hb _ _ _ e, rfl⟩⟩) av v (fun _ x => x.elim) hs

/-- A new block of the call's own. -/
theorem Step.alloc {ρ : Nat → Option Nat} {H : Hp} {B N : Nat → Prop} {w w' : World} (hr : HRel ρ H B N w) (ho : Only No w w') {n k : Nat} {c : AV} {arr : Array Value} {T : TypeId} {cs ext : List Value}
    (hk : w.heap.size ≤ k) (hk' : k < w'.heap.size) (hN : N k) (hb : w'.heap[k]? = some (.cells arr T (0, 0))) (he : arr.toList = cs ++ ext) (hv : VRel (Sof ρ H B) w c cs) (hnew : NewOk w w') :
    Step (fun id => id = n) ρ H B N w (fun i => if i = n then some k else ρ i) (fun i => if i = n then some ⟨c, false⟩ else H i) w' := by
  have hS : ∀ q, Sof ρ H B q → Sof (fun i => if i = n then some k else ρ i) (fun i => if i = n then some ⟨c, false⟩ else H i) (fun q => B q ∨ (w.heap.size ≤ q ∧ q < w'.heap.size)) q := by
    intro q hq
    refine ⟨.inl hq.1, fun id b hid hf => ?_⟩
    by_cases e : id = n
    · simp only [e, if_true]
      have := hr.lt q hq.1
      simp; omega
    · simp only [e, if_false] at hid ⊢
      exact hq.2 id b hid hf
  have hK : Keeps (Sof ρ H B) w w' := ho.keeps fun _ _ x => x
  have hold : ∀ (k : Nat) (arr : Array Value) (T : TypeId), w.heap[k]? = some (Obj.cells arr T (0, 0)) → w'.heap[k]? = some (Obj.cells arr T (0, 0)) := fun k arr T h => by
    have hk : k < w.heap.size := by
      rcases Nat.lt_or_ge k w.heap.size with h' | h'
      · exact h'
      · simp [Array.getElem?_eq_none h'] at h
    rw [ho.block k hk (fun x => x)]; exact h
  refine ⟨⟨fun id b hid => ?_, fun i j bi bj q hi hj e1 e2 => ?_, fun q hq => ?_⟩, fun av v hn hs => ?_, ho.mono fun _ _ x => x.elim, fun id b hn hid => ?_, hS, hK⟩
  · by_cases e : id = n
    · simp only [e, if_true, Option.some.injEq] at hid
      subst hid
      exact .inr ⟨k, arr, T, cs, ext, by simp [e], .inr ⟨hk, hk'⟩, hN, hb, he, VRel.keep hS hK _ _ hv⟩
    · simp only [e, if_false] at hid
      rcases hr.at_ id b hid with ⟨sz, h1, h2⟩ | ⟨q, arr, T, cs, ext, h1, h2, h3, h4, h5, h6⟩
      · exact .inl ⟨sz, h1, by simpa [e] using h2⟩
      · exact .inr ⟨q, arr, T, cs, ext, by simpa [e] using h1, .inl h2, h3, hold _ _ _ h4, h5, VRel.keep hS hK _ _ h6⟩
  · have key : ∀ id b, H id = some b → ρ id = some q → q < w.heap.size := fun id b hb hq => by
      rcases hr.at_ id b hb with ⟨sz, h1, h2⟩ | ⟨q', arr, T, cs, ext, h1, h2, _⟩
      · rw [h2] at hq; cases hq
      · rw [h1] at hq; cases hq; exact hr.lt _ h2
    by_cases ei : i = n <;> by_cases ej : j = n
    · rw [ei, ej]
    · simp only [ei, ej, if_true, if_false, Option.some.injEq] at e1 e2 hj
      have := key j bj hj e2; omega
    · simp only [ei, ej, if_true, if_false, Option.some.injEq] at e1 e2 hi
      have := key i bi hi e1; omega
    · simp only [ei, ej, if_false] at e1 e2 hi hj
      exact hr.inj i j bi bj q hi hj e1 e2
  · rcases hq with hq | hq
    · exact only_plain ho (hr.bound q hq)
    · exact hnew q hq.1 hq.2
  · refine slot_keep (F := fun id => id = n) hS hK (fun id b' hb' => ?_) av v hn hs
    by_cases e : id = n
    · exact .inl e
    · simp only [e, if_false] at hb'
      exact .inr ⟨b', hb', if_neg e, fun sz xs e => ⟨xs, e, rfl⟩, fun q arr T _ e => ⟨arr, T, hold _ _ _ e, rfl⟩⟩
  · exact ⟨if_neg hn, b, by simpa only [if_neg hn] using hid⟩

/-- An empty row without a block. -/
theorem Step.empty {ρ : Nat → Option Nat} {H : Hp} {B N : Nat → Prop} {w : World} (hr : HRel ρ H B N w) (n sz : Nat) :
    Step (fun id => id = n) ρ H B N w (fun i => if i = n then none else ρ i) (fun i => if i = n then some ⟨.row sz [], false⟩ else H i) w := by
  have hB : (fun k => B k ∨ (w.heap.size ≤ k ∧ k < w.heap.size)) = B := Bsame rfl
  have hS : ∀ q, Sof ρ H B q → Sof (fun i => if i = n then none else ρ i) (fun i => if i = n then some ⟨.row sz [], false⟩ else H i) B q := by
    intro q hq
    refine ⟨hq.1, fun id b hid hf => ?_⟩
    by_cases e : id = n
    · simp [e]
    · simp only [e, if_false] at hid ⊢
      exact hq.2 id b hid hf
  have hK : Keeps (Sof ρ H B) w w := fun _ _ _ => rfl
  refine ⟨?_, ?_, Only.refl _ _, fun id b hn hid => ?_, by rw [hB]; exact hS, hK⟩
  · rw [hB]
    refine ⟨fun id b hid => ?_, fun i j bi bj q hi hj e1 e2 => ?_, hr.bound⟩
    · by_cases e : id = n
      · simp only [e, if_true, Option.some.injEq] at hid
        subst hid
        exact .inl ⟨sz, rfl, by simp [e]⟩
      · simp only [e, if_false] at hid
        rcases hr.at_ id b hid with ⟨sz, h1, h2⟩ | ⟨q, arr, T, cs, ext, h1, h2, h3, h4, h5, h6⟩
        · exact .inl ⟨sz, h1, by simpa [e] using h2⟩
        · exact .inr ⟨q, arr, T, cs, ext, by simpa [e] using h1, h2, h3, h4, h5, VRel.keep hS hK _ _ h6⟩
    · by_cases ei : i = n <;> by_cases ej : j = n
      · rw [ei, ej]
      · simp [ei] at e1
      · simp [ej] at e2
      · simp only [ei, ej, if_false] at e1 e2 hi hj
        exact hr.inj i j bi bj q hi hj e1 e2
  · rw [hB]
    intro av v hn hs
    refine slot_keep (F := fun id => id = n) hS hK (fun id b' hb' => ?_) av v hn hs
    by_cases e : id = n
    · exact .inl e
    · simp only [e, if_false] at hb'
      exact .inr ⟨b', hb', if_neg e, fun sz xs e => ⟨xs, e, rfl⟩, fun q arr T _ e => ⟨arr, T, e, rfl⟩⟩
  · exact ⟨if_neg hn, b, by simpa only [if_neg hn] using hid⟩

/-- An own block is written: it keeps its name (n = id), or comes under a new one, and the elder is forgotten. -/
theorem Step.write {ρ : Nat → Option Nat} {H : Hp} {B N : Nat → Prop} {w w' : World} (hr : HRel ρ H B N w) {id n k : Nat} {c c' : AV} (hid : H id = some ⟨c, false⟩) (hρ : ρ id = some k) (ho : Only (fun q => q = k) w w')
    (hsize : w'.heap.size = w.heap.size) {arr' : Array Value} {T' : TypeId} {cs' ext' : List Value} (hb : w'.heap[k]? = some (.cells arr' T' (0, 0)))
    (hsz : ∀ arr T, w.heap[k]? = some (Obj.cells arr T (0, 0)) → arr'.size = arr.size)
    (he : arr'.toList = cs' ++ ext') (hv : VRel (Sof ρ H B) w c' cs') (hrow : n = id → ∀ sz xs, c = .row sz xs → ∃ xs', c' = .row sz xs' ∧ xs'.length = xs.length) :
    Step (fun i => i = n ∧ n ≠ id) ρ H B N w (fun i => if i = n then some k else ρ i) (fun i => if i = n then some ⟨c', false⟩ else if i = id then none else H i) w' := by
  have hB : (fun k => B k ∨ (w.heap.size ≤ k ∧ k < w'.heap.size)) = B := Bsame hsize
  obtain ⟨hBk, hNk⟩ : B k ∧ N k := by
    rcases hr.at_ id _ hid with ⟨sz, h1, h2⟩ | ⟨q, arr, T, cs, ext, h1, h2, h3, _⟩
    · rw [h2] at hρ; cases hρ
    · rw [h1] at hρ; cases hρ; exact ⟨h2, h3⟩
  have hne : ∀ i b, i ≠ id → H i = some b → ρ i ≠ some k := fun i b hi hb hk => hi (hr.inj i id b _ k hb hid hk hρ)
  have hS : ∀ q, Sof ρ H B q → Sof (fun i => if i = n then some k else ρ i) (fun i => if i = n then some ⟨c', false⟩ else if i = id then none else H i) B q := by
    intro q hq
    refine ⟨hq.1, fun i b hi hf => ?_⟩
    by_cases e : i = n
    · simp only [e, if_true]
      have := hq.2 id _ hid rfl
      rw [hρ] at this; exact this
    · simp only [e, if_false] at hi ⊢
      by_cases e2 : i = id
      · simp [e2] at hi
      · simp only [e2, if_false] at hi; exact hq.2 i b hi hf
  have hK : Keeps (Sof ρ H B) w w' := ho.keeps fun q hq e => hq.2 id _ hid rfl (by rw [e]; exact hρ)
  have hold : ∀ (q : Nat) (arr : Array Value) (T : TypeId), q ≠ k → w.heap[q]? = some (Obj.cells arr T (0, 0)) → w'.heap[q]? = some (Obj.cells arr T (0, 0)) := fun q arr T hq h => by
    have hk : q < w.heap.size := by
      rcases Nat.lt_or_ge q w.heap.size with h' | h'
      · exact h'
      · simp [Array.getElem?_eq_none h'] at h
    rw [ho.block q hk hq]; exact h
  refine ⟨?_, ?_, ho.mono fun q _ e => by rw [e]; exact hNk, fun i b hn hi => ?_, by rw [hB]; exact hS, hK⟩
  · rw [hB]
    refine ⟨fun i b hi => ?_, fun i j bi bj q hi hj e1 e2 => ?_, fun q hq => only_plain ho (hr.bound q hq)⟩
    · by_cases e : i = n
      · simp only [e, if_true, Option.some.injEq] at hi
        subst hi
        exact .inr ⟨k, arr', T', cs', ext', by simp [e], hBk, hNk, hb, he, VRel.keep hS hK _ _ hv⟩
      · simp only [e, if_false] at hi
        by_cases e2 : i = id
        · simp [e2] at hi
        · simp only [e2, if_false] at hi
          rcases hr.at_ i b hi with ⟨sz, h1, h2⟩ | ⟨q, arr, T, cs, ext, h1, h2, h3, h4, h5, h6⟩
          · exact .inl ⟨sz, h1, by simpa [e] using h2⟩
          · have hq : q ≠ k := fun x => hne i b e2 hi (by rw [h1, x])
            exact .inr ⟨q, arr, T, cs, ext, by simpa [e] using h1, h2, h3, hold _ _ _ hq h4, h5, VRel.keep hS hK _ _ h6⟩
    · by_cases ei : i = n <;> by_cases ej : j = n
      · rw [ei, ej]
      · simp only [ei, ej, if_true, if_false, Option.some.injEq] at e1 e2 hj
        by_cases e3 : j = id
        · simp [e3] at hj
        · simp only [e3, if_false] at hj
          exact (hne j bj e3 hj (by rw [e2, e1])).elim
      · simp only [ei, ej, if_true, if_false, Option.some.injEq] at e1 e2 hi
        by_cases e3 : i = id
        · simp [e3] at hi
        · simp only [e3, if_false] at hi
          exact (hne i bi e3 hi (by rw [e1, e2])).elim
      · simp only [ei, ej, if_false] at e1 e2 hi hj
        by_cases e3 : i = id
        · simp [e3] at hi
        · by_cases e4 : j = id
          · simp [e4] at hj
          · simp only [e3, e4, if_false] at hi hj
            exact hr.inj i j bi bj q hi hj e1 e2
  · rw [hB]
    intro av v hn hs
    refine slot_keep (F := fun i => i = n ∧ n ≠ id) hS hK (fun i b' hb' => ?_) av v hn hs
    by_cases e : i = n
    · by_cases e2 : n = id
      · right
        subst e; subst e2
        simp only [if_true, Option.some.injEq] at hb'
        subst hb'
        refine ⟨_, hid, by simp [hρ], fun sz xs e => hrow rfl sz xs e, fun q arr T hq hqa => ?_⟩
        rw [hρ] at hq; cases hq
        exact ⟨arr', T', hb, hsz arr T hqa⟩
      · exact .inl ⟨e, e2⟩
    · simp only [e, if_false] at hb'
      by_cases e2 : i = id
      · simp [e2] at hb'
      · simp only [e2, if_false] at hb'
        exact .inr ⟨b', hb', if_neg e, fun sz xs e => ⟨xs, e, rfl⟩, fun q arr T hq e => ⟨arr, T, hold _ _ _ (fun x => hne i b' e2 hb' (by rw [hq, x])) e, rfl⟩⟩
  · by_cases e : i = n
    · have e2 : n = id := Classical.byContradiction fun x => hn ⟨e, x⟩
      subst e; subst e2
      simp only [if_true]
      exact ⟨hρ.symm, _, hid⟩
    · simp only [e, if_false] at hi
      by_cases e2 : i = id
      · simp [e2] at hi
      · simp only [e2, if_false] at hi
        exact ⟨if_neg e, b, hi⟩

end Go.Abs
/- What is handed on is written no more; memory read and written cell by cell: for every world. -/
namespace Go.Abs

/-! ## Operands -/
def opdA (env : Nat → AV) : Operand → AV
  | .tmp t => env t
  | .const v => ofConst v
  | .func f => .clo f [] []
  | .global _ => .top

theorem const_rel (ρ : Nat → Option Nat) (H : Hp) (S : Nat → Prop) (w : World) (v : Value) : SlotRel ρ H S w (ofConst v) v := by
  cases v <;> simp only [ofConst, SlotRel]
  case slice a l c =>
    cases a with
    | some a => simp only [SlotRel]
    | none =>
      cases l with
      | succ l => simp only [SlotRel]
      | zero =>
        cases c with
        | succ c => simp only [SlotRel]
        | zero =>
          simp only [SlotRel]
          exact ⟨none, 0, rfl, by simp, fun _ => rfl, .inl rfl⟩
  case pointer a =>
    cases a with
    | some a => simp only [SlotRel]
    | none => simp only [SlotRel, scalar, and_self]
  case nilFunc => simp [scalar]

theorem opd_rel {ρ : Nat → Option Nat} {H : Hp} {S : Nat → Prop} {w : World} {env : Nat → AV} {a : Act} (h : ∀ t, SlotRel ρ H S w (env t) (a.tmps.getD t undef)) (x : Operand) :
    SlotRel ρ H S w (opdA env x) (a.eval x) := by
  cases x with
  | tmp t => exact h t
  | const v => exact const_rel _ _ _ _ v
  | func f =>
    simp only [opdA, SlotRel, VRel, VAll]
    exact ⟨[], [], rfl, rfl, rfl, rfl⟩
  | global g => simp only [opdA, SlotRel]

/-! ## Freezing -/
def FU (H : Hp) (u : Upd) : Prop := ∀ id x, look u id = some x → ∃ b, H id = some b ∧ x = some ⟨b.c, true⟩

theorem FU.nil (H : Hp) : FU H [] := fun _ _ h => by cases h
theorem FU.append {H : Hp} {u v : Upd} (h : FU H u) (g : FU H v) : FU H (u ++ v) := by
  intro id x hx
  rw [look_append] at hx
  cases hu : look u id with
  | some y => rw [hu] at hx; simp at hx; subst hx; exact h id _ hu
  | none => rw [hu] at hx; simp at hx; exact g id x hx

theorem FU.upd {H : Hp} {u : Upd} (h : FU H u) (id : Nat) (b' : Blk) (hb : updH H u id = some b') : ∃ b, H id = some b ∧ b.c = b'.c ∧ (b.fz = true → b'.fz = true) := by
  unfold updH at hb
  cases hu : look u id with
  | none => rw [hu] at hb; exact ⟨b', hb, rfl, fun x => x⟩
  | some x =>
    obtain ⟨b, h1, h2⟩ := h id x hu
    rw [hu] at hb
    simp only at hb
    rw [h2] at hb
    cases hb
    exact ⟨b, h1, rfl, fun _ => rfl⟩

theorem FU.step {ρ : Nat → Option Nat} {H : Hp} {B N : Nat → Prop} {w : World} (hr : HRel ρ H B N w) {u : Upd} (h : FU H u) : Step No ρ H B N w ρ (updH H u) w :=
  Step.frozen hr rfl ⟨rfl, rfl, rfl⟩ h.upd

theorem Bself (B : Nat → Prop) (w : World) : (fun k => B k ∨ (w.heap.size ≤ k ∧ k < w.heap.size)) = B := Bsame rfl

theorem FU.hrel {ρ : Nat → Option Nat} {H : Hp} {B N : Nat → Prop} {w : World} (hr : HRel ρ H B N w) {u : Upd} (h : FU H u) : HRel ρ (updH H u) B N w := by
  have := (FU.step hr h).heap
  rwa [Bself] at this
theorem FU.slot {ρ : Nat → Option Nat} {H : Hp} {B N : Nat → Prop} {w : World} (hr : HRel ρ H B N w) {u : Upd} (h : FU H u) {av : AV} {v : Value} (hs : SlotRel ρ H (Sof ρ H B) w av v) :
    SlotRel ρ (updH H u) (Sof ρ (updH H u) B) w av v := by
  have := (FU.step hr h).keep av v (fun id x => x.elim) hs
  rwa [Bself] at this
theorem FU.sof {ρ : Nat → Option Nat} {H : Hp} {B N : Nat → Prop} {w : World} (hr : HRel ρ H B N w) {u : Upd} (h : FU H u) (k : Nat) (hk : Sof ρ H B k) : Sof ρ (updH H u) B k := by
  have := (FU.step hr h).sof k hk
  rwa [Bself] at this
theorem FU.of_append {H : Hp} {u v : Upd} (h : FU H u) (g : FU H v) : FU (updH H u) v := by
  intro id x hx
  obtain ⟨b, h1, h2⟩ := g id x hx
  unfold updH
  cases hu : look u id with
  | none => exact ⟨b, h1, h2⟩
  | some y =>
    obtain ⟨b', h3, h4⟩ := h id y hu
    rw [h1] at h3; cases h3
    exact ⟨⟨b.c, true⟩, h4, h2⟩
/-- Either order serves. -/
theorem FU.upd_comm {H : Hp} {u v : Upd} (h : FU H u) (g : FU H v) : updH H (u ++ v) = updH (updH H u) v := by
  rw [updH_append]
  funext id
  unfold updH
  cases hu : look u id with
  | none => rfl
  | some x =>
    cases hv : look v id with
    | none => rfl
    | some y =>
      obtain ⟨b, h1, h2⟩ := h id x hu
      obtain ⟨b', h3, h4⟩ := g id y hv
      rw [h1] at h3; cases h3
      simp [h2, h4]

theorem reads_block {w : World} {k : Nat} {arr : Array Value} {T : TypeId} {f : Nat × Nat} {cs ext : List Value} (hb : w.heap[k]? = some (.cells arr T f)) (he : arr.toList = cs ++ ext) : Reads w k 0 cs := by
  intro j hj
  simp only [World.cell?, hb, Option.isSome_none, Bool.false_eq_true, if_false, Nat.zero_add]
  rw [← Array.getElem?_toList, he, List.getElem?_append_left hj]

theorem frz_elim {v : AV} {k : AV → Upd → Ask} {H : Hp} {r : Ev} (h : (frz v k).run H = r) (hr : r ≠ .bad) :
    ∃ v' u, (k v' u).run H = r ∧ FU H u ∧ v'.plain = true ∧ v'.size = v'.size ∧
      ∀ ρ B N w cv, HRel ρ H B N w → SlotRel ρ H (Sof ρ H B) w v cv → SlotRel ρ (updH H u) (Sof ρ (updH H u) B) w v' cv := by
  have triv : ∀ v : AV, (if v.plain then k v [] else Ask.ret .bad).run H = r → ∃ v' u, (k v' u).run H = r ∧ FU H u ∧ v'.plain = true ∧ v'.size = v'.size ∧
      ∀ ρ B N w cv, HRel ρ H B N w → SlotRel ρ H (Sof ρ H B) w v cv → SlotRel ρ (updH H u) (Sof ρ (updH H u) B) w v' cv := by
    intro v h
    split at h
    · rename_i hp
      exact ⟨v, [], h, FU.nil H, hp, rfl, fun _ _ _ _ _ _ hs => hs⟩
    · exact (hr h.symm).elim
  have hfu : ∀ id c f, H id = some ⟨c, f⟩ → FU H [(id, some ⟨c, true⟩)] := by
    intro id c f hH i x hx
    simp only [look] at hx
    split at hx
    · rename_i e
      have := Nat.eq_of_beq_eq_true e
      subst this
      cases hx
      exact ⟨_, hH, rfl⟩
    · cases hx
  have hsof : ∀ (id : Nat) (c : AV) (f : Bool) (ρ : Nat → Option Nat) (B N : Nat → Prop) (w : World) (q : Nat), H id = some ⟨c, f⟩ → HRel ρ H B N w → ρ id = some q → B q →
      Sof ρ (updH H [(id, some ⟨c, true⟩)]) B q := by
    intro id c f ρ B N w q hH hrel hq hB
    refine ⟨hB, fun j b hj hf e => ?_⟩
    rw [updH_cons] at hj
    by_cases ej : j = id
    · simp only [ej, if_true, Option.some.injEq] at hj; subst hj; cases hf
    · simp only [ej, if_false, updH_nil] at hj
      exact ej (hrel.inj j id _ _ _ hj hH e hq)
  cases v
  case osl id =>
    simp only [frz, Ask.run] at h
    split at h
    · rename_i sz xs f hH
      refine ⟨_, _, h, hfu id _ f hH, rfl, rfl, fun ρ B N w cv hrel hs => ?_⟩
      obtain ⟨sz', xs', e, hh⟩ := hs _ hH
      cases e
      simp only [SlotRel, VRel]
      rcases hh with ⟨hx, hρ, a, ha⟩ | ⟨q, cap, arr, T, hρ, hv, hle, hw, hcap⟩
      · subst hx; subst ha
        exact ⟨a, 0, rfl, by simp, by simp, .inl rfl⟩
      · subst hv
        refine ⟨_, cap, rfl, hle, by simp, ?_⟩
        rcases hrel.at_ id _ hH with ⟨sz2, e2, h2⟩ | ⟨q', arr', T', cs, ext, h1, h2, h3, h4, h5, h6⟩
        · rw [h2] at hρ; cases hρ
        · rw [hρ] at h1; cases h1
          simp only [VRel] at h6
          exact .inr ⟨q, 0, cs, rfl, hsof id _ f ρ B N w q hH hrel hρ h2, VAll.keep (FU.sof hrel (hfu id _ f hH)) (fun _ _ _ => rfl) _ _ _ _ h6, reads_block h4 h5⟩
    · exact (hr h.symm).elim
  case own id p o =>
    simp only [frz, Ask.run] at h
    split at h
    · rename_i c f hH
      refine ⟨_, _, h, hfu id _ f hH, rfl, rfl, fun ρ B N w cv hrel hs => ?_⟩
      obtain ⟨q, hρ, e⟩ := hs _ hH
      subst e
      simp only [SlotRel, VRel]
      rcases hrel.at_ id _ hH with ⟨sz2, e2, h2⟩ | ⟨q', arr', T', cs, ext, h1, h2, h3, h4, h5, h6⟩
      · rw [h2] at hρ; cases hρ
      · rw [hρ] at h1; cases h1
        exact ⟨q, 0, cs, by simp, hsof id _ f ρ B N w q hH hrel hρ h2, VRel.keep (FU.sof hrel (hfu id _ f hH)) (fun _ _ _ => rfl) _ _ h6, reads_block h4 h5⟩
    · exact (hr h.symm).elim
  all_goals exact triv _ h

/-- The cells of what has been frozen. -/
theorem loose_rel {S : Nat → Prop} {w : World} {v : AV} {cs : List Value} (h : VRel S w v cs) : VRel S w (loose v) cs := by
  cases v <;> try exact h
  obtain ⟨a, cap, e, l, t, r⟩ := h
  exact ⟨a, cap, e, l, by simp, r⟩
theorem loose_slot {ρ : Nat → Option Nat} {H : Hp} {S : Nat → Prop} {w : World} {v : AV} {cv : Value} (h : SlotRel ρ H S w v cv) : SlotRel ρ H S w (loose v) cv := by
  cases v <;> try exact h
  obtain ⟨a, cap, e, l, t, r⟩ := h
  exact ⟨a, cap, e, l, by simp, r⟩

end Go.Abs
/- Single operations of the model run as the abstract ones say: loads, stores, new blocks, arithmetic: for every program, world and state. -/
namespace Go.Abs

/-! ## Types -/
theorem TyOk.desc {P : Program} {t : Nat} {i : TyA} (h : TyOk P t i) : ∃ d, P.underlying t = some d ∧ TyD.of d = i.d := by
  have := h.under
  cases e : P.underlying t with
  | none => rw [e] at this; simp at this
  | some d => rw [e] at this; simp at this; exact ⟨d, rfl, this⟩
theorem TyOk.info {P : Program} {t : Nat} {i : TyA} (h : TyOk P t i) : ∃ f, P.info? t = some f ∧ f.size = i.size ∧ f.bytes = i.bytes ∧ ∃ z, f.zero = some z ∧ flat i.zero = some z.cells.toList := by
  have h1 := h.sizes
  have h2 := h.zeroOk
  have h3 := h.isOk
  cases e : P.info? t with
  | none => rw [e] at h1; simp at h1
  | some f =>
    rw [e] at h1 h2
    simp at h1 h2
    refine ⟨f, rfl, h1.1, h1.2, ?_⟩
    cases ez : f.zero with
    | none => rw [ez] at h2; simp at h2; rw [← h2] at h3; simp at h3
    | some z => rw [ez] at h2; simp at h2; exact ⟨z, rfl, h2.symm⟩

theorem run_underlying {P : Program} {t : Nat} {d : TypeDesc} (h : P.underlying t = some d) (w : World) : (underlying t).run P w = .ok d w := by
  simp [underlying, h]
theorem run_typeInfo {P : Program} {t : Nat} {f : TypeInfo} (h : P.info? t = some f) (w : World) : (typeInfo t).run P w = .ok f w := by
  simp [typeInfo, h]
theorem TyOk.run_size {P : Program} {t : Nat} {i : TyA} (h : TyOk P t i) (w : World) : (sizeOf t).run P w = .ok i.size w := by
  obtain ⟨f, h1, h2, _⟩ := h.info
  simp [sizeOf, run_typeInfo h1, h2]
theorem TyOk.run_agg {P : Program} {t : Nat} {i : TyA} (h : TyOk P t i) (w : World) : (isAgg t).run P w = .ok i.agg w := by
  obtain ⟨d, h1, h2⟩ := h.desc
  simp only [isAgg, Sem.run_bind, run_underlying h1, Result.andThen_ok, TyA.agg, ← h2]
  cases d <;> rfl
theorem TyOk.run_zero {P : Program} {t : Nat} {i : TyA} (h : TyOk P t i) (w : World) : ∃ z, (zeroValue t).run P w = .ok z w ∧ flat i.zero = some z.cells.toList := by
  obtain ⟨f, h1, _, _, z, h3, h4⟩ := h.info
  exact ⟨z, by simp [zeroValue, run_typeInfo h1, h3], h4⟩

/-! ## Cells -/
mutual
theorem VRel.scalars {S : Nat → Prop} {w : World} : ∀ (v : AV) (cs : List Value), VRel S w v cs → ∀ c ∈ cs, scalar c = true
  | .int _ _, cs, h => by simp only [VRel] at h; subst h; simp [scalar]
  | .bool _, cs, h => by simp only [VRel] at h; subst h; simp [scalar]
  | .str _, cs, h => by simp only [VRel] at h; subst h; simp [scalar]
  | .raw u, cs, h => by simp only [VRel] at h; rw [h.1]; intro c hc; simp at hc; subst hc; exact h.2
  | .arr _ _ xs, cs, h => VAll.scalars xs _ cs _ h.2
  | .struct _ xs, cs, h => VAll.scalars xs _ cs _ h.2
  | .row _ xs, cs, h => VAll.scalars xs _ cs _ h
  | .sl .., cs, h => by obtain ⟨a, cap, rfl, _⟩ := h; simp [scalar]
  | .clo .., cs, h => by obtain ⟨a, b, rfl, _⟩ := h; simp [scalar]
  | .ref .., cs, h => by obtain ⟨k, off, vs, rfl, _⟩ := h; simp [scalar]
  | .top, _, h => h.elim
  | .own .., _, h => h.elim
  | .osl _, _, h => h.elim
  | .mutsl .., _, h => h.elim
  | .mutp _, _, h => h.elim
  | .fr .., _, h => h.elim
  | .tuple _, _, h => h.elim
theorem VAll.scalars {S : Nat → Prop} {w : World} : ∀ (xs : List AV) (sz : Nat → Nat) (cs : List Value) (j : Nat), VAll S w sz j xs cs → ∀ c ∈ cs, scalar c = true
  | [], _, cs, _, h => by simp only [VAll] at h; subst h; simp
  | x :: xs, sz, cs, j, h => by
    obtain ⟨c1, c2, rfl, hv, _, hr⟩ := h
    intro c hc
    rcases List.mem_append.1 hc with hc | hc
    · exact VRel.scalars x c1 hv c hc
    · exact VAll.scalars xs sz c2 (j + 1) hr c hc
end

mutual
theorem flat_rel (S : Nat → Prop) (w : World) : ∀ (v : AV) (cs : List Value), flat v = some cs → VRel S w v cs
  | .int _ _, cs, h => by simp only [flat, Option.some.injEq] at h; subst h; simp only [VRel]
  | .bool _, cs, h => by simp only [flat, Option.some.injEq] at h; subst h; simp only [VRel]
  | .str _, cs, h => by simp only [flat, Option.some.injEq] at h; subst h; simp only [VRel]
  | .raw v, cs, h => by
    simp only [flat] at h
    split at h
    · rename_i hs; simp only [Option.some.injEq] at h; subst h; exact ⟨rfl, hs⟩
    · cases h
  | .sl sz t xs, cs, h => by
    cases xs <;> simp only [flat, Option.some.injEq, reduceCtorEq] at h
    subst h
    exact ⟨none, 0, rfl, by simp, fun _ => rfl, .inl rfl⟩
  | .arr sz n xs, cs, h => by
    simp only [flat] at h
    split at h
    · rename_i hn; exact ⟨hn, flats_rel S w xs _ cs _ h⟩
    · cases h
  | .struct szs xs, cs, h => by
    simp only [flat] at h
    split at h
    · rename_i hn; exact ⟨hn, flats_rel S w xs _ cs _ h⟩
    · cases h
  | .row .., _, h => by simp only [flat, reduceCtorEq] at h
  | .clo .., _, h => by simp only [flat, reduceCtorEq] at h
  | .ref .., _, h => by simp only [flat, reduceCtorEq] at h
  | .top, _, h => by simp only [flat, reduceCtorEq] at h
  | .own .., _, h => by simp only [flat, reduceCtorEq] at h
  | .osl _, _, h => by simp only [flat, reduceCtorEq] at h
  | .mutsl .., _, h => by simp only [flat, reduceCtorEq] at h
  | .mutp _, _, h => by simp only [flat, reduceCtorEq] at h
  | .fr .., _, h => by simp only [flat, reduceCtorEq] at h
  | .tuple _, _, h => by simp only [flat, reduceCtorEq] at h
theorem flats_rel (S : Nat → Prop) (w : World) : ∀ (xs : List AV) (sz : Nat → Nat) (cs : List Value) (j : Nat), flat.flats sz j xs = some cs → VAll S w sz j xs cs
  | [], _, cs, _, h => by simp only [flat.flats, Option.some.injEq] at h; subst h; simp only [VAll]
  | x :: xs, sz, cs, j, h => by
    simp only [flat.flats] at h
    split at h
    · rename_i a b ha hb
      split at h
      · rename_i hl
        simp only [Option.some.injEq] at h
        subst h
        exact ⟨a, b, rfl, flat_rel S w x a ha, hl, flats_rel S w xs sz b (j + 1) hb⟩
      · cases h
    · cases h
end

theorem oneCell_of_scalar {v : Value} (h : scalar v = true) : v.oneCell' = true := by cases v <;> first | rfl | (simp [scalar] at h)

theorem add_eq (k off n : Nat) : (⟨k, off, none⟩ : Addr).add n = ⟨k, off + n, none⟩ := by
  unfold Addr.add
  split
  · rename_i h; simp [h]
  · rfl

theorem run_loadReads {P : Program} {w : World} {k off : Nat} {cs : List Value} (h : Reads w k off cs) : (loadCells ⟨k, off, none⟩ cs.length).run P w = .ok cs.toArray w := by
  refine run_loadCells_list (P := P) w ⟨k, off, none⟩ cs fun j v hj => ?_
  rw [add_eq, h j (by have := List.getElem?_eq_some_iff.1 hj; exact this.1), hj]

theorem run_loadVar {P : Program} {w : World} {t : Nat} {i : TyA} (ht : TyOk P t i) {k off : Nat} {cs : List Value} (h : Reads w k off cs) (hl : cs.length = i.size) (h1 : i.agg = false → cs.length = 1) :
    (loadVar t ⟨k, off, none⟩).run P w = .ok (if i.agg then .agg cs.toArray else cs.headD undef) w := by
  simp only [loadVar, Sem.run_bind, ht.run_agg, Result.andThen_ok]
  cases e : i.agg with
  | true =>
    simp only [if_true, Sem.run_bind, ht.run_size, Result.andThen_ok, ← hl, run_loadReads h, Sem.run_pure]
  | false =>
    have hc := h1 e
    match cs, hc with
    | [c], _ =>
      have h0 := h 0 (by simp)
      simp only [Nat.add_zero, List.getElem?_cons_zero] at h0
      simp only [Bool.false_eq_true, if_false, run_load, h0, List.headD_cons]

theorem heap_setCell {w : World} {k j : Nat} {arr : Array Value} {T : TypeId} {f : Nat × Nat} (v : Value) (h : w.heap[k]? = some (.cells arr T f)) : (w.setCell ⟨k, j, none⟩ v).heap[k]? = some (.cells (arr.setIfInBounds j v) T f) := by
  simp only [World.setCell, Array.getElem?_modify, ↓reduceIte, h, Option.map_some]
  simp

theorem take_set_succ {α : Type} (l : List α) (n : Nat) (a : α) (h : n < l.length) : (l.set n a).take (n + 1) = l.take n ++ [a] := by
  induction l generalizing n with
  | nil => simp at h
  | cons x l ih =>
    cases n with
    | zero => simp
    | succ n => simp at h; simp [ih n h]

theorem run_storeCells {P : Program} {k off : Nat} {T : TypeId} : ∀ (vs : List Value) (i : Nat) (w : World) (arr : Array Value), w.heap[k]? = some (.cells arr T (0, 0)) → off + i + vs.length ≤ arr.size → (∀ v ∈ vs, scalar v = true) →
    ∃ w' arr', (storeCells ⟨k, off, none⟩ vs i).run P w = .ok () w' ∧ w'.heap[k]? = some (.cells arr' T (0, 0)) ∧ arr'.toList = arr.toList.take (off + i) ++ vs ++ arr.toList.drop (off + i + vs.length) ∧ Only (fun q => q = k) w w' ∧
      w'.heap.size = w.heap.size ∧ arr'.size = arr.size
  | [], i, w, arr, hb, hl, _ => ⟨w, arr, by simp [storeCells], hb, by simp, Only.refl _ _, rfl, rfl⟩
  | v :: vs, i, w, arr, hb, hl, hs => by
    have hlt : off + i < arr.size := by simp at hl; omega
    have hc : w.cell? ⟨k, off + i, none⟩ = some arr[off + i] := by
      simp [World.cell?, hb, hlt]
    have hf : w.frozen? ⟨k, off + i, none⟩ = false := by
      simp [World.frozen?, hb]
    have hb1 := heap_setCell (j := off + i) v hb
    have ho1 : Only (fun q => q = k) w (w.setCell ⟨k, off + i, none⟩ v) := ⟨rfl, rfl, rfl, by simp, fun q _ hq => by
      simp only [World.setCell, Array.getElem?_modify]
      rw [if_neg (fun e => hq e.symm)], fun _ => World.frozen?_setCell .., fun q arr0 T0 f0 h0 => by
      by_cases hq : q = k
      · subst hq
        rw [hb] at h0
        simp only [Option.some.injEq, Obj.cells.injEq] at h0
        obtain ⟨rfl, rfl, rfl⟩ := h0
        exact ⟨_, hb1, by simp⟩
      · refine ⟨arr0, ?_, rfl⟩
        simp only [World.setCell, Array.getElem?_modify]
        rw [if_neg (fun e => hq e.symm)]; exact h0⟩
    obtain ⟨w', arr', hrun, hb', hl', ho', hs', hz'⟩ := run_storeCells (P := P) (k := k) (off := off) (T := T) vs (i + 1) (w.setCell ⟨k, off + i, none⟩ v) (arr.setIfInBounds (off + i) v) hb1 (by simp only [List.length_cons] at hl; simp only [Array.size_setIfInBounds]; omega) (fun c hc => hs c (by simp [hc]))
    refine ⟨w', arr', ?_, hb', ?_, ho1.trans ho', by rw [hs']; simp, by rw [hz']; simp⟩
    · simp only [storeCells, Sem.run_bind, add_eq, run_store P _ _ v .plain (oneCell_of_scalar (hs v (by simp))), hc, hf, Bool.false_eq_true, if_false, Result.andThen_ok]
      exact hrun
    · rw [hl']
      simp only [Array.toList_setIfInBounds]
      rw [show off + (i + 1) = off + i + 1 by omega, take_set_succ _ _ _ (by simpa using hlt), List.drop_set_of_lt (by omega)]
      simp [Nat.add_assoc, Nat.add_comm 1]

end Go.Abs
/- Operations of the model do what the abstract ones say, first part: moves, arithmetic, memory: for every program, world and state. -/
namespace Go.Abs

def NewIds (H : Hp) (u : Upd) : Nat → Prop := fun id => H id = none ∧ ∃ b, look u id = some (some b)

def Does (P : Program) (s : Sem Next) (ρ : Nat → Option Nat) (H : Hp) (B N : Nat → Prop) (w : World) (v : AV) (u : Upd) : Prop :=
  ∃ n c ρ' w', s.run P w = .ok n w' ∧ (n = .value c ∨ (n = .skip ∧ c = undef)) ∧ Step (NewIds H u) ρ H B N w ρ' (updH H u) w' ∧
    SlotRel ρ' (updH H u) (Sof ρ' (updH H u) (fun k => B k ∨ (w.heap.size ≤ k ∧ k < w'.heap.size))) w' v c

structure Cx (P : Program) (T : Tys) (ρ : Nat → Option Nat) (H : Hp) (B N : Nat → Prop) (w : World) (e : Operand → AV) (cv : Operand → Value) : Prop where
  ty : TysOk P T
  hr : HRel ρ H B N w
  nb : ∀ k, w.heap.size ≤ k → N k
  rel : ∀ x, SlotRel ρ H (Sof ρ H B) w (e x) (cv x)

section
variable {P : Program} {T : Tys} {ρ : Nat → Option Nat} {H : Hp} {B N : Nat → Prop} {w : World} {e : Operand → AV} {cv : Operand → Value}

theorem Does.fu (hr : HRel ρ H B N w) {s : Sem Next} {v : AV} {u : Upd} {c : Value} (hu : FU H u) (hs : s.run P w = .ok (.value c) w) (hv : SlotRel ρ (updH H u) (Sof ρ (updH H u) B) w v c) : Does P s ρ H B N w v u := by
  refine ⟨_, c, ρ, w, hs, .inl rfl, (FU.step hr hu).mono fun _ x => x.elim, ?_⟩
  rw [Bself]; exact hv

theorem Does.same (hr : HRel ρ H B N w) {s : Sem Next} {v : AV} {c : Value} (hs : s.run P w = .ok (.value c) w) (hv : SlotRel ρ H (Sof ρ H B) w v c) : Does P s ρ H B N w v [] :=
  Does.fu hr (FU.nil H) hs hv

/-- A step behind a freezing. -/
theorem Does.after (hr : HRel ρ H B N w) {s : Sem Next} {v : AV} {u x : Upd} {c : Value} {n : Next} {ρ' : Nat → Option Nat} {w' : World} (hu : FU H u) (hs : s.run P w = .ok n w') (hn : n = .value c ∨ (n = .skip ∧ c = undef))
    {F : Nat → Prop} (hst : Step F ρ (updH H u) B N w ρ' (updH H (x ++ u)) w') (hF : ∀ id, F id → NewIds H (x ++ u) id)
    (hv : SlotRel ρ' (updH H (x ++ u)) (Sof ρ' (updH H (x ++ u)) (fun k => B k ∨ (w.heap.size ≤ k ∧ k < w'.heap.size))) w' v c) : Does P s ρ H B N w v (x ++ u) := by
  have h0 := FU.step hr hu
  have e0 := Bself B w
  refine ⟨n, c, ρ', w', hs, hn, ?_, hv⟩
  have h1 := h0.trans (by rw [e0]; exact hst)
  exact h1.mono fun id hid => by
    rcases hid with hid | hid
    · exact hid.elim
    · exact hF id hid

/-! ### Moves -/
theorem op_mov (cx : Cx P T ρ H B N w e cv) {o : Oper} {x : Operand} (ho : o.op = .move x ∨ o.op = .assign x) {v : AV} (hv : e x = v) : Does P (execOp cv o) ρ H B N w v [] := by
  subst hv
  refine Does.same cx.hr (c := cv x) ?_ (cx.rel x)
  rcases ho with ho | ho <;> simp [execOp, ho]

theorem op_asg (cx : Cx P T ρ H B N w e cv) {o : Oper} {d m t : Nat} {x : Operand} (ho : o.op = .assign x) {v : AV} {u : Upd} {C : Prop} (h : (aop T d e (.asg m x t)).run H = .val v u C) : Does P (execOp cv o) ρ H B N w v u := by
  have hrun : (execOp cv o).run P w = .ok (.value (cv x)) w := by simp [execOp, ho]
  have hrel := cx.rel x
  have hfrz : ∀ v0, e x = v0 → (frz v0 fun v' u => .ret (.val (loose v') u True)).run H = .val v u C → Does P (execOp cv o) ρ H B N w v u := by
    intro v0 h0 h
    obtain ⟨v', u', h1, hu, _, _, hs⟩ := frz_elim h (by simp)
    simp only [Ask.run, Ev.val.injEq] at h1
    obtain ⟨rfl, rfl, _⟩ := h1
    rw [h0] at hrel
    exact Does.fu cx.hr hu hrun (loose_slot (hs ρ B N w _ cx.hr hrel))
  have hnil : ∀ sz sz' (l : List AV), e x = .sl sz true l → l = [] → SlotRel ρ H (Sof ρ H B) w (.sl sz' false []) (cv x) := by
    intro sz sz' l h0 hl
    rw [h0, hl] at hrel
    obtain ⟨a, cap, e1, l1, t1, r1⟩ := hrel
    exact ⟨a, cap, e1, l1, by simp, .inl rfl⟩
  match m with
  | 0 =>
    simp only [aop, Ask.run, Ev.val.injEq] at h
    obtain ⟨rfl, rfl, _⟩ := h
    exact Does.same cx.hr hrun hrel
  | 1 =>
    simp only [aop] at h
    split at h
    · simp [Ask.run] at h
    · simp [Ask.run] at h
    · split at h
      · rename_i sz hx
        split at h
        · simp only [Ask.run, Ev.val.injEq] at h
          obtain ⟨rfl, rfl, _⟩ := h
          exact Does.same cx.hr hrun (hnil _ _ _ hx rfl)
        · simp [Ask.run] at h
      · exact hfrz _ rfl h
  | m + 2 =>
    simp only [aop] at h
    split at h
    · rename_i sz hx
      split at h
      · rename_i i hi
        simp only [fresh, Ask.run] at h
        split at h
        · rename_i hn
          simp only [Ask.run, Ev.val.injEq] at h
          obtain ⟨rfl, rfl, _⟩ := h
          have hst := Step.empty cx.hr (nid d 0) i.size
          have hH : (fun j => if j = nid d 0 then some ⟨AV.row i.size [], false⟩ else H j) = updH H [(nid d 0, some ⟨.row i.size [], false⟩)] := by
            rw [updH_cons, updH_nil]
          rw [hH] at hst
          refine ⟨_, cv x, _, w, hrun, .inl rfl, hst.mono fun id hid => ?_, ?_⟩
          · subst hid; exact ⟨hn, ⟨.row i.size [], false⟩, by simp [look]⟩
          · intro b hb
            rw [updH_cons] at hb
            simp only [if_true, Option.some.injEq] at hb
            subst hb
            rw [hx] at hrel
            obtain ⟨a, cap, e1, l1, t1, _⟩ := hrel
            simp at e1
            refine ⟨i.size, [], rfl, .inl ⟨rfl, by simp, a, ?_⟩⟩
            rw [e1, t1 rfl]; simp
        · simp [Ask.run] at h
      · simp [Ask.run] at h
    · simp only [Ask.run, Ev.val.injEq] at h
      obtain ⟨rfl, rfl, _⟩ := h
      exact Does.same cx.hr hrun hrel

theorem op_pick (cx : Cx P T ρ H B N w e cv) {o : Oper} {d : Nat} {c a b : Operand} (ho : o.op = .pick c a b) {v : AV} {u : Upd} {C : Prop} (h : (aop T d e (.pick c a b)).run H = .val v u C) : Does P (execOp cv o) ρ H B N w v u := by
  have hc := cx.rel c
  simp only [aop] at h
  split at h
  · rename_i hx
    rw [hx] at hc
    simp only [Ask.run, Ev.val.injEq] at h
    obtain ⟨rfl, rfl, _⟩ := h
    simp only [SlotRel] at hc
    exact Does.same cx.hr (by simp [execOp, ho, hc, asBool]) (cx.rel a)
  · rename_i hx
    rw [hx] at hc
    simp only [Ask.run, Ev.val.injEq] at h
    obtain ⟨rfl, rfl, _⟩ := h
    simp only [SlotRel] at hc
    exact Does.same cx.hr (by simp [execOp, ho, hc, asBool]) (cx.rel b)
  · simp [Ask.run] at h

theorem op_extract (cx : Cx P T ρ H B N w e cv) {o : Oper} {d i : Nat} {x : Operand} (ho : o.op = .extract x i) {v : AV} {u : Upd} {C : Prop} (h : (aop T d e (.extract x i)).run H = .val v u C) (hC : C) : Does P (execOp cv o) ρ H B N w v u := by
  have hx := cx.rel x
  simp only [aop] at h
  split at h
  · rename_i xs e0
    rw [e0] at hx
    simp only [Ask.run, Ev.val.injEq] at h
    obtain ⟨rfl, rfl, rfl⟩ := h
    simp only [SlotRel] at hx
    obtain ⟨vs, hv, hxs⟩ := hx
    have key : ∀ (xs : List AV) (vs : List Value) (i : Nat), SlotsRel ρ H (Sof ρ H B) w xs vs → i < xs.length → ∃ c, vs[i]? = some c ∧ SlotRel ρ H (Sof ρ H B) w (nth xs i) c := by
      intro xs
      induction xs with
      | nil => intro vs i _ hi; simp at hi
      | cons a xs ih =>
        intro vs i h hi
        obtain ⟨c, rest, rfl, h1, h2⟩ := h
        cases i with
        | zero => exact ⟨c, rfl, h1⟩
        | succ i => obtain ⟨c', h3, h4⟩ := ih rest i h2 (by simpa using hi); exact ⟨c', h3, h4⟩
    obtain ⟨c, h1, h2⟩ := key xs vs i hxs hC
    refine Does.same cx.hr (c := c) ?_ h2
    simp [execOp, ho, Instr.extract, hv, h1]
  · simp [Ask.run] at h

theorem op_nilCheck (cx : Cx P T ρ H B N w e cv) {o : Oper} {d : Nat} {x : Operand} (ho : o.op = .nilCheck x) {v : AV} {u : Upd} {C : Prop} (h : (aop T d e (.nilCheck x)).run H = .val v u C) : Does P (execOp cv o) ρ H B N w v u := by
  have hx := cx.rel x
  simp only [aop] at h
  split at h
  · rename_i id p o' e0
    simp only [Ask.run] at h
    split at h
    · rename_i b hb
      simp only [Ask.run, Ev.val.injEq] at h
      obtain ⟨rfl, rfl, _⟩ := h
      rw [e0] at hx
      obtain ⟨k, h1, h2⟩ := hx b hb
      refine Does.same cx.hr (c := cv x) ?_ hx
      simp [execOp, ho, h2]
    · simp [Ask.run] at h
  · rename_i v p o' e0
    rw [e0] at hx
    simp only [Ask.run, Ev.val.injEq] at h
    obtain ⟨rfl, rfl, _⟩ := h
    refine Does.same cx.hr (c := cv x) ?_ hx
    obtain ⟨k, off, vs, h2, _⟩ := hx
    simp at h2
    simp [execOp, ho, h2]
  · simp [Ask.run] at h

/-! ### Arithmetic -/
def toV : AV → Value
  | .int k n => .int k n
  | .bool b => .bool b
  | _ => undef

theorem op_bin_int {o : Oper} (cx : Cx P T ρ H B N w e cv) {op : BinOp} {t y' : Nat} {x y : Operand} (ho : o.op = .binOp op t x y y') {k k' : IntKind} {a b : Int} (hx : e x = .int k a) (hy : e y = .int k' b)
    {v : AV} {u : Upd} {C : Prop} (h : (if isSh op then shBin op k a b else if k = k' then intBin op k a b else .bad) = .val v u C) (hC : C) : Does P (execOp cv o) ρ H B N w v u := by
  have h1 := cx.rel x
  have h2 := cx.rel y
  rw [hx] at h1; rw [hy] at h2
  simp only [SlotRel] at h1 h2
  have hg : ∀ op, (eqGuard op t x y (.int k a) (.int k' b)).run P w = .ok () w := by
    intro op
    unfold eqGuard
    split <;> rfl
  have hdo : ∀ v c, (binOp op t (.int k a) (.int k' b)).run P w = .ok c w → SlotRel ρ H (Sof ρ H B) w v c → Does P (execOp cv o) ρ H B N w v [] := by
    intro v c hb hv
    refine Does.same cx.hr (c := c) ?_ hv
    simp only [execOp, ho, h1, h2, Sem.run_bind, hg, Result.andThen_ok, hb, Sem.run_pure]
  have hdo' : ∀ v, (binOp op t (.int k a) (.int k' b)).run P w = .ok (toV v) w → SlotRel ρ H (Sof ρ H B) w v (toV v) → Does P (execOp cv o) ρ H B N w v [] := fun v => hdo v (toV v)
  split at h
  · rename_i hsh
    cases op <;> simp only [isSh, Bool.false_eq_true] at hsh <;> simp only [shBin, Ev.val.injEq] at h <;> obtain ⟨rfl, rfl, rfl⟩ := h
    · exact hdo _ (.int k (k.wrap (a * 2 ^ (min b.toNat k.bits)))) (by simp [binOp, Op.shift, hC]) (by simp only [SlotRel])
    · exact hdo _ (.int k (a.fdiv (2 ^ (min b.toNat k.bits)))) (by simp [binOp, Op.shift, hC]) (by simp only [SlotRel])
  · rename_i hsh
    split at h
    · rename_i hk
      subst hk
      cases op <;> simp only [isSh, not_true_eq_false] at hsh <;> simp only [intBin, Ev.val.injEq, reduceCtorEq] at h <;> obtain ⟨rfl, rfl, rfl⟩ := h
      all_goals
        refine hdo' _ ?_ (by simp only [toV, SlotRel])
        first
          | (simp [binOp, Op.intArith, toV]; done)
          | (simp [binOp, Op.intDiv, hC, toV]; done)
          | (simp [binOp, Op.intBits, toV]; done)
          | (simp [binOp, Op.intCmp, toV]; done)
    · cases h

theorem op_un (cx : Cx P T ρ H B N w e cv) {o : Oper} {d t : Nat} {op : UnOp} {x : Operand} (ho : o.op = .unOp op t x) {v : AV} {u : Upd} {C : Prop} (h : (aop T d e (.un op x)).run H = .val v u C) : Does P (execOp cv o) ρ H B N w v u := by
  have hx := cx.rel x
  simp only [aop] at h
  split at h
  · rename_i k n e0
    rw [e0] at hx
    simp only [Ask.run, Ev.val.injEq] at h
    obtain ⟨rfl, rfl, _⟩ := h
    simp only [SlotRel] at hx
    exact Does.same cx.hr (c := .int k (k.wrap (0 - n))) (by simp [execOp, ho, hx, Op.unary, Op.intArith]) (by simp only [SlotRel])
  · rename_i b e0
    rw [e0] at hx
    simp only [Ask.run, Ev.val.injEq] at h
    obtain ⟨rfl, rfl, _⟩ := h
    simp only [SlotRel] at hx
    exact Does.same cx.hr (c := .bool (!b)) (by simp [execOp, ho, hx, Op.unary]) (by simp only [SlotRel])
  · simp [Ask.run] at h

theorem op_conv (cx : Cx P T ρ H B N w e cv) {o : Oper} {d s t : Nat} {x : Operand} (ho : o.op = .convert s t x) {v : AV} {u : Upd} {C : Prop} (h : (aop T d e (.conv s t x)).run H = .val v u C) (hC : C) : Does P (execOp cv o) ρ H B N w v u := by
  have hx := cx.rel x
  simp only [aop] at h
  split at h
  · rename_i k _ _ _ k' n es e0 e1
    rw [e1] at hx
    simp only [Ask.run, Ev.val.injEq] at h
    obtain ⟨rfl, rfl, _⟩ := h
    simp only [SlotRel] at hx
    obtain ⟨dd, h1, h2⟩ := (cx.ty _ _ e0).desc
    obtain ⟨ds, h3, _⟩ := (cx.ty _ _ es).desc
    have h4 : dd = .int k := by cases dd <;> simp only [TyD.of, TyD.int.injEq, reduceCtorEq] at h2; rw [h2]
    subst h4
    refine Does.same cx.hr (c := .int k (k.wrap n)) ?_ (by simp only [SlotRel])
    simp [execOp, ho, hx, convert, run_underlying h1, run_underlying h3, Conv.intToInt]
  · rename_i xv el s0 b0 z0 s1 b1 z1 es e0
    split at h
    · rename_i s2 b2 z2 ee
      obtain ⟨v', u', h1, hu, hp, hsz0, hs⟩ := frz_elim h (by simp)
      split at h1
      · rename_i sz tt xs
        simp only [Ask.run, Ev.val.injEq] at h1
        obtain ⟨rfl, rfl, rfl⟩ := h1
        obtain ⟨rfl, hall⟩ := hC
        obtain ⟨a, cap, e4, l, _, r⟩ := hs ρ B N w _ cx.hr (cx.rel x)
        simp only [List.cons.injEq, and_true] at e4
        obtain ⟨dd, h2, h3⟩ := (cx.ty _ _ e0).desc
        have h4 : dd = .string := by cases dd <;> simp [TyD.of] at h3; rfl
        subst h4
        obtain ⟨de, h5, h6⟩ := (cx.ty _ _ ee).desc
        have h7 : de = .int .u8 := by cases de <;> simp [TyD.of] at h6; rw [h6]
        subst h7
        obtain ⟨dl, k1, k2⟩ := (cx.ty _ _ es).desc
        have k3 : dl = .slice el := by cases dl <;> simp [TyD.of] at k2; rw [k2]
        subst k3
        have hns : xs = (xs.map avInt).map (AV.int .u8) := by
          rw [List.map_map]
          conv => lhs; rw [← List.map_id xs]
          refine List.map_congr_left fun y hy => ?_
          obtain ⟨n, rfl⟩ := hall y hy
          rfl
        have hcells : ∀ (ns : List Int) (vs : List Value) (S : Nat → Prop) (j : Nat), VAll S w (fun _ => 1) j (ns.map (AV.int .u8)) vs → vs = ns.map (Value.int .u8) := by
          intro ns
          induction ns with
          | nil => intro vs S j h; simpa [VAll] using h
          | cons n ns ih =>
            rintro vs S j ⟨c1, c2, rfl, hv, _, hr⟩
            simp only [VRel] at hv
            rw [hv, ih c2 S (j + 1) hr]; rfl
        have hrun : (convert s t (cv x)).run P w = .ok (.string (bstr (xs.map avInt))) w := by
          rw [e4, run_convert_bytes_string w s t el a _ _ k1 h5 h2]
          rcases r with rfl | ⟨k, off, vs, rfl, _, hv, hr⟩
          · cases a with
            | none => simp [Conv.bytesToString, bstr]
            | some a => exact run_bytesToString w a 0 cap [] (by simp [loadCells, loadCellsFrom])
          · rw [hns] at hv
            have e5 := hcells _ _ _ _ hv
            have h8 := run_loadReads (P := P) hr
            rw [e5, List.length_map, List.length_map] at h8
            exact run_bytesToString w _ xs.length cap (xs.map avInt) h8
        refine Does.fu cx.hr hu (c := .string (bstr (xs.map avInt))) ?_ (by simp only [SlotRel])
        simp [execOp, ho, hrun]
      · simp [Ask.run] at h1
    · simp [Ask.run] at h
  · simp [Ask.run] at h

end
end Go.Abs
/- Operations of the model do what the abstract ones say, second part: new blocks, loads, stores, addresses: for every program, world and state. -/
namespace Go.Abs
section
variable {P : Program} {T : Tys} {ρ : Nat → Option Nat} {H : Hp} {B N : Nat → Prop} {w : World} {e : Operand → AV} {cv : Operand → Value}

theorem heap_new (w : World) (o : Obj) : (w.alloc o).heap[w.heap.size]? = some o := by
  show (w.heap.push o)[w.heap.size]? = _
  simp

theorem Does.alloc (hr : HRel ρ H B N w) (hnb : ∀ k, w.heap.size ≤ k → N k) {s : Sem Next} {u : Upd} {n : Nat} {cc v : AV} {c : Value} {w' : World} {arr : Array Value} {Ty : TypeId} {cs ext : List Value} (hu : FU H u) (hn : H n = none)
    (hs : s.run P w = .ok (.value c) w') (ho : Only No w w') (hz : w'.heap.size = w.heap.size + 1) (hb : w'.heap[w.heap.size]? = some (.cells arr Ty (0, 0))) (he : arr.toList = cs ++ ext) (hv : VRel (Sof ρ (updH H u) B) w cc cs)
    (hf : ∀ (ρ' : Nat → Option Nat) (H' : Hp) (S' : Nat → Prop), ρ' n = some w.heap.size → H' n = some ⟨cc, false⟩ → SlotRel ρ' H' S' w' v c) : Does P s ρ H B N w v ((n, some ⟨cc, false⟩) :: u) := by
  have h1 := Step.alloc (FU.hrel hr hu) ho (n := n) (k := w.heap.size) (Nat.le_refl _) (by omega) (hnb _ (Nat.le_refl _)) hb he hv (fun k h1 h2 => ⟨arr, Ty, by rw [show k = w.heap.size by omega]; exact hb⟩)
  have hH : (fun i => if i = n then some ⟨cc, false⟩ else updH H u i) = updH H ((n, some ⟨cc, false⟩) :: u) := by rw [updH_cons]
  rw [hH] at h1
  refine Does.after (x := [(n, some ⟨cc, false⟩)]) hr hu hs (.inl rfl) h1 (fun id hid => ?_) ?_
  · subst hid; exact ⟨hn, ⟨cc, false⟩, by simp [look]⟩
  · exact hf _ _ _ (by simp) (by simp [updH, look])

theorem op_alloc (cx : Cx P T ρ H B N w e cv) {o : Oper} {d t : Nat} (ho : o.op = .alloc t) {v : AV} {u : Upd} {C : Prop} (h : (aop T d e (.alloc t)).run H = .val v u C) : Does P (execOp cv o) ρ H B N w v u := by
  simp only [aop] at h
  split at h
  · rename_i i hi
    simp only [fresh, Ask.run] at h
    split at h
    · rename_i hn
      simp only [Ask.run, Ev.val.injEq] at h
      obtain ⟨rfl, rfl, _⟩ := h
      obtain ⟨z, h1, h2⟩ := (cx.ty _ _ hi).run_zero w
      refine Does.alloc cx.hr cx.nb (FU.nil H) hn (c := .pointer (some ⟨w.heap.size, 0, none⟩)) (w' := w.alloc (.cells z.cells t)) ?_ (Only.alloc _ _ _ _) (by simp) (heap_new _ _) (ext := []) (by simp) (flat_rel _ _ _ _ h2) ?_
      · simp [execOp, ho, Instr.alloc, h1, newVar, newRow]
      · intro ρ' H' S' hρ _ b _
        exact ⟨_, hρ, rfl⟩
    · simp [Ask.run] at h
  · simp [Ask.run] at h

theorem op_box (cx : Cx P T ρ H B N w e cv) {o : Oper} {d t : Nat} {x : Operand} (ho : o.op = .box t x) {v : AV} {u : Upd} {C : Prop} (h : (aop T d e (.box t x)).run H = .val v u C) : Does P (execOp cv o) ρ H B N w v u := by
  simp only [aop] at h
  obtain ⟨v', u', h1, hu, hp, _, hs⟩ := frz_elim h (by simp)
  simp only [fresh, Ask.run] at h1
  split at h1
  · rename_i hn
    simp only [Ask.run, Ev.val.injEq] at h1
    obtain ⟨rfl, rfl, _⟩ := h1
    obtain ⟨cs, h2, _, h3⟩ := vrel_of_slot (hs ρ B N w _ cx.hr (cx.rel x)) hp
    refine Does.alloc cx.hr cx.nb hu hn (c := .pointer (some ⟨w.heap.size, 0, none⟩)) (w' := w.alloc (.cells (cv x).cells t)) ?_ (Only.alloc _ _ _ _) (by simp) (heap_new _ _) (ext := []) (by simp; rfl) (by rw [h3]; exact h2) ?_
    · simp [execOp, ho, Instr.box, newVar, newRow]
    · intro ρ' H' S' hρ _ b _
      exact ⟨_, hρ, rfl⟩
  · simp [Ask.run] at h1

/-- What a load finds along a path. -/
theorem load_path {S : Nat → Prop} {c : AV} {cs : List Value} {p o : List Nat} {k off : Nat} {t : Nat} {i : TyA} (ht : TyOk P t i) (hv : VRel S w c cs) (hr : Reads w k off cs) (h1 : hasP p c) (h2 : offs p c = o) (h3 : szAt p c = i.size)
    (h4 : (atP p c).isAgg = i.agg) (h5 : (atP p c).plain = true) : ∃ v, (loadVar t ⟨k, off + o.sum, none⟩).run P w = .ok v w ∧ ∀ (ρ : Nat → Option Nat) (H : Hp), SlotRel ρ H S w (atP p c) v := by
  obtain ⟨c1, cc, c2, rfl, l1, hcc, l2, _⟩ := VRel.path p c cs hv h1
  have hr' : Reads w k (off + o.sum) cc := by
    intro j hj
    have := hr (c1.length + j) (by simp; omega)
    rw [← h2, ← l1, Nat.add_assoc, this, List.append_assoc, List.getElem?_append_right (by omega), List.getElem?_append_left (by omega)]
    congr 1; omega
  have hone : i.agg = false → cc.length = 1 := by
    intro hi
    rw [hi] at h4
    rw [hcc.len]
    revert h4 h5
    cases atP p c <;> simp [AV.isAgg, AV.plain, AV.size]
  refine ⟨_, run_loadVar ht hr' (by rw [l2, h3]) hone, fun ρ H => ?_⟩
  have := slot_of_vrel (ρ := ρ) (H := H) hcc h5
  have e : pack (atP p c) cc = if i.agg = true then .agg cc.toArray else cc.headD undef := by
    rw [← h4]
    cases atP p c <;> simp [pack, AV.isAgg]
  rw [← e]; exact this

theorem op_load (cx : Cx P T ρ H B N w e cv) {o : Oper} {d t : Nat} {x : Operand} (ho : o.op = .load t x) {v : AV} {u : Upd} {C : Prop} (h : (aop T d e (.load t x)).run H = .val v u C) (hC : C) : Does P (execOp cv o) ρ H B N w v u := by
  have hx := cx.rel x
  have hex : ∀ a c, cv x = .pointer (some a) → (loadVar t a).run P w = .ok c w → (execOp cv o).run P w = .ok (.value c) w := by
    intro a c h1 h2
    simp [execOp, ho, Instr.loadAt, h1, Instr.sureAddr, h2]
  simp only [aop] at h
  split at h
  · simp [Ask.run] at h
  · rename_i i hi
    split at h
    · rename_i id p o' e0
      simp only [Ask.run] at h
      split at h
      · rename_i c f hb
        simp only [Ask.run, Ev.val.injEq] at h
        obtain ⟨rfl, rfl, rfl⟩ := h
        obtain ⟨c1, c2, c3, c4, c5⟩ := hC
        rw [e0] at hx
        obtain ⟨k, hk, hcv⟩ := hx _ hb
        rcases cx.hr.at_ id _ hb with ⟨sz, _, h2⟩ | ⟨q, arr, Ty, cs, ext, g1, g2, g3, g4, g5, g6⟩
        · rw [h2] at hk; cases hk
        · rw [hk] at g1; cases g1
          obtain ⟨cv', r1, r2⟩ := load_path (P := P) (cx.ty _ _ hi) g6 (reads_block g4 g5) c1 c2 c3 c4 c5
          rw [Nat.zero_add] at r1
          exact Does.same cx.hr (hex _ _ hcv r1) (r2 ρ H)
      · simp [Ask.run] at h
    · rename_i c p o' e0
      simp only [Ask.run, Ev.val.injEq] at h
      obtain ⟨rfl, rfl, rfl⟩ := h
      obtain ⟨c1, c2, c3, c4, c5⟩ := hC
      rw [e0] at hx
      obtain ⟨k, off, vs, hcv, hS, hv, hrd⟩ := hx
      simp at hcv
      obtain ⟨cv', r1, r2⟩ := load_path (P := P) (cx.ty _ _ hi) hv hrd c1 c2 c3 c4 c5
      rw [← c2] at r1
      subst c2
      exact Does.same cx.hr (hex _ _ hcv r1) (r2 ρ H)
    · simp [Ask.run] at h

theorem op_store (cx : Cx P T ρ H B N w e cv) {o : Oper} {d t : Nat} {x y : Operand} (ho : o.op = .store t x y) {v : AV} {u : Upd} {C : Prop} (h : (aop T d e (.store t x y)).run H = .val v u C) (hC : C) : Does P (execOp cv o) ρ H B N w v u := by
  have hx := cx.rel x
  simp only [aop] at h
  split at h
  · simp [Ask.run] at h
  · rename_i i hi
    split at h
    · rename_i id p o' e0
      obtain ⟨v', u', h1, hu, hp, _, hs⟩ := frz_elim h (by simp)
      simp only [Ask.run] at h1
      split at h1
      · rename_i c hb
        simp only [Ask.run, Ev.val.injEq] at h1
        obtain ⟨rfl, rfl, rfl⟩ := h1
        obtain ⟨c1, c2, c3, c4, c5, c6⟩ := hC
        rw [e0] at hx
        obtain ⟨k, hk, hcv⟩ := hx _ hb
        have hr1 := FU.hrel cx.hr hu
        have hb1 : updH H u' id = some ⟨c, false⟩ := by
          have : look u' id = none := by
            have : ∀ (l : Upd), l.all (fun q => q.1 != id) = true → look l id = none := by
              intro l hl
              induction l with
              | nil => rfl
              | cons q l ih =>
                obtain ⟨j, y⟩ := q
                simp only [List.all_cons, Bool.and_eq_true, bne_iff_ne, ne_eq] at hl
                have hj : Nat.beq j id = false := by rw [← Bool.not_eq_true, Nat.beq_eq]; exact hl.1
                simp only [look, hj]
                exact ih hl.2
            exact this u' c5
          unfold updH; rw [this]; exact hb
        obtain ⟨ds, d1, _, d3⟩ := vrel_of_slot (hs ρ B N w _ cx.hr (cx.rel y)) hp
        rcases hr1.at_ id _ hb1 with ⟨sz, _, h2⟩ | ⟨q, arr, Ty, cs, ext, g1, g2, g3, g4, g5, g6⟩
        · rw [h2] at hk; cases hk
        · rw [hk] at g1; cases g1
          obtain ⟨l1, lc, l2, e1, m1, m2, m3, m4⟩ := VRel.path p c cs g6 c1
          have hlen : ds.length = szAt p c := by rw [d1.len, c4, c3]
          have hsc := VRel.scalars _ _ d1
          obtain ⟨w', arr', r1, r2, r3, r4, r5, r6⟩ := run_storeCells (P := P) (k := k) (off := o'.sum) (T := Ty) ds 0 w arr g4 (by
            have := congrArg List.length g5
            simp only [Array.length_toList, List.length_append, e1] at this
            rw [Nat.add_zero, this, ← c2, ← m1, hlen, ← m3]; omega) hsc
          have hrun : (execOp cv o).run P w = .ok .skip w' := by
            have hsize : (cv y).cells.size = i.size := by
              rw [← Array.length_toList, d3, hlen, c3]
            simp only [execOp, ho, Instr.storeAt, hcv, Instr.sureAddr, Sem.run_bind, Sem.run_pure, Result.andThen_ok, storeVar, (cx.ty _ _ hi).run_size, hsize, ne_eq, not_true_eq_false, if_false, d3, r1]
          have hst := Step.write hr1 (id := id) (n := id) (k := k) (c := c) (c' := putP p c (loose v')) hb1 hk r4 r5 (cs' := l1 ++ ds ++ l2) (ext' := ext) r2
            (fun arr0 T0 h0 => by rw [g4] at h0; cases h0; exact r6)
            (by
              rw [r3, g5, e1, Nat.add_zero, ← c2, ← m1]
              have hl : lc.length = ds.length := by rw [m3, hlen]
              rw [show l1 ++ lc ++ l2 ++ ext = l1 ++ (lc ++ (l2 ++ ext)) by simp, List.take_left, List.drop_length_add_append, ← hl, List.drop_left]
              simp)
            (m4 _ _ (loose_rel d1) hlen)
            (fun _ sz xs hc => by
              subst hc
              cases p with
              | nil => simp [AV.plain] at c6
              | cons j p => exact ⟨_, rfl, by simp [kids]⟩)
          have hH : (fun i => if i = id then some ⟨putP p c (loose v'), false⟩ else if i = id then none else updH H u' i) = updH H ((id, some ⟨putP p c (loose v'), false⟩) :: u') := by
            rw [updH_cons]; funext i; by_cases hi : i = id <;> simp [hi]
          rw [hH] at hst
          refine Does.after (x := [(id, some ⟨putP p c (loose v'), false⟩)]) cx.hr hu hrun (.inr ⟨rfl, rfl⟩) hst (fun i hi => (hi.2 rfl).elim) trivial
      · simp [Ask.run] at h1
    · simp [Ask.run] at h

end
end Go.Abs
/- Operations of the model do what the abstract ones say, third part: literals, makes, cuts, addresses, elements: for every program, world and state. -/
namespace Go.Abs

theorem frzAll_elim : ∀ (vs : List AV) {k : List AV → Upd → Ask} {H : Hp} {r : Ev}, (frzAll vs k).run H = r → r ≠ .bad →
    ∃ vs' u, (k vs' u).run H = r ∧ FU H u ∧ (∀ v ∈ vs', v.plain = true) ∧ vs'.length = vs.length ∧
      ∀ ρ B N w cvs, HRel ρ H B N w → SlotsRel ρ H (Sof ρ H B) w vs cvs → SlotsRel ρ (updH H u) (Sof ρ (updH H u) B) w vs' cvs
  | [], k, H, r, h, _ => ⟨[], [], h, FU.nil H, by simp, rfl, fun _ _ _ _ _ _ hs => hs⟩
  | v :: vs, k, H, r, h, hr => by
    simp only [frzAll] at h
    obtain ⟨v', u, h1, hu, hp, _, hs⟩ := frz_elim h hr
    obtain ⟨vs', u', h2, hu', hp', hl, hs'⟩ := frzAll_elim vs h1 hr
    refine ⟨v' :: vs', u ++ u', h2, hu.append hu', fun x hx => ?_, by simp [hl], fun ρ B N w cvs hrel h3 => ?_⟩
    · rcases List.mem_cons.1 hx with rfl | hx
      · exact hp
      · exact hp' x hx
    · obtain ⟨c, rest, rfl, h4, h5⟩ := h3
      refine ⟨c, rest, rfl, ?_, ?_⟩
      · rw [FU.upd_comm hu hu']
        exact FU.slot (FU.hrel hrel hu) (FU.of_append hu hu') (hs ρ B N w c hrel h4)
      · have := hs' ρ B N w rest hrel h5
        rw [updH_append]
        have hfu : FU (updH H u') u := FU.of_append hu' hu
        have st := FU.step (FU.hrel hrel hu') hfu
        refine (slots_keep (F := No) (S := Sof ρ (updH H u') B) (w := w) (fun k hk => FU.sof (FU.hrel hrel hu') hfu k hk) (fun _ _ _ => rfl) (fun id b' hb' => .inr ?_) _ _ (fun id x => x.elim) this)
        obtain ⟨b, hb, hc, _⟩ := hfu.upd id b' hb'
        exact ⟨b, hb, rfl, fun sz xs e => ⟨xs, by rw [← hc]; exact e, rfl⟩, fun k arr T _ e => ⟨arr, T, e, rfl⟩⟩

/-- Values that lie in no slot any more: each with its cells. -/
def Cellss (S : Nat → Prop) (w : World) : List AV → List Value → Prop
  | [], cvs => cvs = []
  | v :: vs, cvs => ∃ c rest, cvs = c :: rest ∧ VRel S w v c.cells.toList ∧ Cellss S w vs rest

theorem cellss_of_slots {ρ : Nat → Option Nat} {H : Hp} {S : Nat → Prop} {w : World} : ∀ (vs : List AV) (cvs : List Value), SlotsRel ρ H S w vs cvs → (∀ v ∈ vs, v.plain = true) → Cellss S w vs cvs
  | [], _, h, _ => h
  | v :: vs, _, h, hp => by
    obtain ⟨c, rest, rfl, h1, h2⟩ := h
    obtain ⟨cs, h3, _, h4⟩ := vrel_of_slot h1 (hp v (by simp))
    exact ⟨c, rest, rfl, by rw [h4]; exact h3, cellss_of_slots vs rest h2 fun x hx => hp x (by simp [hx])⟩

theorem splice_fold (off : Nat) : ∀ (l : List Value) (j : Nat) (cells : Array Value), off + j + l.length ≤ cells.size →
    ((l.zipIdx j).foldl (fun cs (p : Value × Nat) => cs.setIfInBounds (off + p.2) p.1) cells).toList = cells.toList.take (off + j) ++ l ++ cells.toList.drop (off + j + l.length)
  | [], j, cells, _ => by simp
  | v :: l, j, cells, h => by
    have hlt : off + j < cells.size := by simp at h; omega
    simp only [List.zipIdx_cons, List.foldl_cons]
    rw [splice_fold off l (j + 1) (cells.setIfInBounds (off + j) v) (by simp only [List.length_cons] at h; simp only [Array.size_setIfInBounds]; omega)]
    simp only [Array.toList_setIfInBounds]
    rw [show off + (j + 1) = off + j + 1 by omega, take_set_succ _ _ _ (by simpa using hlt), List.drop_set_of_lt (by omega)]
    simp [Nat.add_assoc, Nat.add_comm 1]

theorem fill_rel {S : Nat → Prop} {w : World} {szf : Nat → Nat} {place : Nat → Option (Nat × Nat)} : ∀ (is : List Nat) (vs : List AV) (cvs : List Value) (zs : List AV) (cells : Array Value), VAll S w szf 0 zs cells.toList →
    (∀ i, i < zs.length → place i = some (pre szf 0 i, szf i)) → Cellss S w vs cvs → (∀ p ∈ is.zip vs, p.1 < zs.length ∧ p.2.size = szf p.1) →
    ∃ cells', Instr.fill place cells (is.zip cvs) = some cells' ∧ VAll S w szf 0 ((is.zip vs).foldl (fun l p => l.set p.1 (loose p.2)) zs) cells'.toList
  | [], vs, cvs, zs, cells, h, _, _, _ => ⟨cells, by simp [Instr.fill], by simpa using h⟩
  | i :: is, [], cvs, zs, cells, h, _, hc, _ => by
    simp only [Cellss] at hc; subst hc
    exact ⟨cells, by simp [Instr.fill], by simpa using h⟩
  | i :: is, v :: vs, cvs, zs, cells, h, hpl, hc, hp => by
    obtain ⟨c, rest, rfl, hv, hrest⟩ := hc
    obtain ⟨h1, h2⟩ := hp (i, v) (by simp)
    obtain ⟨c1, cc, c2, e1, l1, _, l2, hset⟩ := VAll.at_ zs cells.toList 0 i h h1
    rw [Nat.zero_add] at l2 hset
    have hlen : c.cells.size = szf i := by rw [← Array.length_toList, hv.len, h2]
    have hsz : cells.size = c1.length + (szf i + c2.length) := by
      rw [← Array.length_toList, e1]; simp [l2]
    have hfold : (c.cells.zipIdx.foldl (fun cs (c, j) => cs.setIfInBounds (pre szf 0 i + j) c) cells).toList = c1 ++ c.cells.toList ++ c2 := by
      rw [← Array.foldl_toList, Array.toList_zipIdx]
      have := splice_fold (pre szf 0 i) c.cells.toList 0 cells (by rw [Nat.add_zero, Array.length_toList, hlen, hsz, l1]; omega)
      rw [Nat.add_zero, Array.length_toList, hlen, e1, ← l1] at this
      rw [← l1]
      refine this.trans ?_
      rw [List.append_assoc c1, List.take_left, List.drop_length_add_append, ← l2, List.drop_left]
    obtain ⟨cells', g1, g2⟩ := fill_rel is vs rest (zs.set i (loose v)) (c.cells.zipIdx.foldl (fun cs (c, j) => cs.setIfInBounds (pre szf 0 i + j) c) cells)
      (by rw [hfold]; exact hset _ _ (loose_rel hv) (by rw [Array.length_toList, hlen])) (fun j hj => hpl j (by simpa using hj)) hrest (fun p hp' => by
        obtain ⟨a, b⟩ := hp p (by simp [hp']); exact ⟨by simpa using a, b⟩)
    refine ⟨cells', ?_, by simpa using g2⟩
    simp only [List.zip_cons_cons, Instr.fill, hpl i h1, hlen, Bool.false_or, ne_eq, not_true_eq_false, decide_false]
    rw [if_neg (by rw [decide_eq_true_eq, hsz, l1]; omega)]
    exact g1

theorem flat_made (zero : Array Value) (s : Nat) (hz : zero.size = s) (h0 : 0 < s) : ∀ n, ((Array.range (n * s)).map (zero[· % zero.size]!)).toList = (List.replicate n zero.toList).flatten
  | 0 => by simp
  | n + 1 => by
    have ih := flat_made zero s hz h0 n
    simp only [Array.toList_map, Array.toList_range] at ih ⊢
    rw [Nat.add_mul, Nat.one_mul, List.range_add, List.map_append, ih, List.replicate_succ', List.flatten_append]
    congr 1
    simp only [List.map_map, List.flatten_cons, List.flatten_nil, List.append_nil]
    apply List.ext_getElem
    · simp [hz]
    · intro j h1 h2
      have hj : j < zero.size := by simpa using h2
      simp [hz, Nat.add_mod, Nat.mod_eq_of_lt (show j < s by omega), getElem!_pos zero j hj]

theorem vall_replicate {S : Nat → Prop} {w : World} {z : AV} {cs : List Value} {s : Nat} (h : VRel S w z cs) (hl : cs.length = s) : ∀ (n j : Nat), VAll S w (fun _ => s) j (List.replicate n z) (List.replicate n cs).flatten
  | 0, j => by simp [VAll]
  | n + 1, j => by
    simp only [List.replicate_succ, List.flatten_cons]
    exact ⟨cs, _, rfl, h, hl, vall_replicate h hl n (j + 1)⟩

section
variable {P : Program} {T : Tys} {ρ : Nat → Option Nat} {H : Hp} {B N : Nat → Prop} {w : World} {e : Operand → AV} {cv : Operand → Value}

theorem slots_map (cx : Cx P T ρ H B N w e cv) : ∀ (xs : List Operand), SlotsRel ρ H (Sof ρ H B) w (xs.map e) (xs.map cv)
  | [] => by simp [SlotsRel]
  | x :: xs => ⟨cv x, xs.map cv, rfl, cx.rel x, slots_map cx xs⟩

theorem mapM_pure {α β : Type} (f : α → Sem β) (g : α → β) (l : List α) (h : ∀ x ∈ l, ∀ w, (f x).run P w = .ok (g x) w) (w : World) : (l.mapM f).run P w = .ok (l.map g) w := by
  induction l with
  | nil => simp
  | cons a l ih =>
    simp only [List.mapM_cons, Sem.run_bind, h a (by simp), Result.andThen_ok, ih (fun x hx => h x (by simp [hx])), Sem.run_pure, List.map_cons]

theorem fieldsOk_spec (hT : TysOk P T) : ∀ (fs : List (Nat × Nat)) (szs : List Nat) (off : Nat), fieldsOk T off fs szs = true →
    fs.length = szs.length ∧ (∀ f ∈ fs, ∃ i, look T f.2 = some i ∧ TyOk P f.2 i) ∧ ∀ i, i < szs.length → ∃ f j, fs[i]? = some f ∧ look T f.2 = some j ∧ f.1 = off + (szs.take i).sum ∧ j.size = szs.getD i 0
  | [], [], off, _ => ⟨rfl, by simp, by simp⟩
  | f :: fs, s :: szs, off, h => by
    simp only [fieldsOk, Bool.and_eq_true, Nat.beq_eq] at h
    obtain ⟨⟨h1, h2⟩, h3⟩ := h
    obtain ⟨g1, g2, g3⟩ := fieldsOk_spec hT fs szs (off + s) h3
    cases hl : look T f.2 with
    | none => rw [hl] at h2; simp at h2
    | some i =>
      rw [hl] at h2
      simp only [Nat.beq_eq] at h2
      refine ⟨by simp [g1], fun x hx => ?_, fun i' hi => ?_⟩
      · rcases List.mem_cons.1 hx with rfl | hx
        · exact ⟨i, hl, hT _ _ hl⟩
        · exact g2 x hx
      · cases i' with
        | zero => exact ⟨f, i, rfl, hl, by simp [h1], by simpa using h2⟩
        | succ i' =>
          obtain ⟨f', j, k1, k2, k3, k4⟩ := g3 i' (by simpa using hi)
          exact ⟨f', j, by simpa using k1, k2, by rw [k3]; simp; omega, by simpa using k4⟩
  | [], _ :: _, _, h => by simp [fieldsOk] at h
  | _ :: _, [], _, h => by simp [fieldsOk] at h

theorem op_build (cx : Cx P T ρ H B N w e cv) {o : Oper} {d t : Nat} {ps : Array (Nat × Operand)} (ho : o.op = .build t ps) {v : AV} {u : Upd} {C : Prop} (h : (aop T d e (.build t ps.toList)).run H = .val v u C) (hC : C) : Does P (execOp cv o) ρ H B N w v u := by
  simp only [aop] at h
  have hz : ∀ (L : List (Nat × Operand)), (L.map fun p => (p.1, cv p.2)) = (L.map (·.1)).zip (L.map fun p => cv p.2) := by
    intro L; induction L <;> simp_all
  have hsl : ∀ (L : List (Nat × Operand)), SlotsRel ρ H (Sof ρ H B) w (L.map fun p => e p.2) (L.map fun p => cv p.2) := by
    intro L
    have := slots_map cx (L.map (·.2))
    simpa [List.map_map, Function.comp_def] using this
  have hparts : (ps.map fun (i, x) => (i, cv x)).toList = (ps.toList.map (·.1)).zip (ps.toList.map fun p => cv p.2) := by
    rw [← hz]; simp
  split at h
  · rename_i fs sz by_ szs zs e0
    obtain ⟨vs', u', h1, hu, hp, hl, hs⟩ := frzAll_elim _ h (by simp)
    simp only [Ask.run, Ev.val.injEq] at h1
    obtain ⟨rfl, rfl, rfl⟩ := h1
    obtain ⟨c1, c2⟩ := hC
    have ht := cx.ty _ _ e0
    obtain ⟨dd, d1, d2⟩ := ht.desc
    obtain ⟨fields, rfl⟩ : ∃ fields, dd = .struct fields := by cases dd <;> simp [TyD.of] at d2; exact ⟨_, rfl⟩
    simp only [TyD.of, TyD.struct.injEq] at d2
    obtain ⟨z, z1, z2⟩ := ht.run_zero w
    obtain ⟨k1, k2, k3⟩ := fieldsOk_spec cx.ty _ _ _ c1
    have hzr := flat_rel (Sof ρ (updH H u') B) w _ _ z2
    simp only [VRel] at hzr
    obtain ⟨hzl, hzr⟩ := hzr
    have hcs := cellss_of_slots _ _ (hs ρ B N w _ cx.hr (hsl ps.toList)) hp
    let g : Field → Nat × Nat := fun f => (f.offset, ((look T f.type).map (·.size)).getD 0)
    have hplaces : (fields.mapM (m := Sem) fun f => do pure (f.offset, ← sizeOf f.type)).run P w = .ok (fields.toList.map g).toArray w := by
      rw [Array.mapM_eq_mapM_toList]
      simp only [Sem.run_map]
      rw [mapM_pure (P := P) _ g fields.toList (fun f hf w => by
        obtain ⟨i, i1, i2⟩ := k2 (f.offset, f.type) (by rw [← d2]; exact List.mem_map.2 ⟨f, hf, rfl⟩)
        simp only at i1
        simp [i2.run_size, g, i1])]
      rfl
    obtain ⟨cells', f1, f2⟩ := fill_rel (place := ((fields.toList.map g).toArray[·]?)) (ps.toList.map (·.1)) vs' (ps.toList.map fun p => cv p.2) zs z.cells hzr (fun i hi => by
      obtain ⟨f, j, q1, q2, q3, q4⟩ := k3 i (by omega)
      rw [← d2, List.getElem?_map] at q1
      cases hf : fields.toList[i]? with
      | none => rw [hf] at q1; simp at q1
      | some f' =>
        rw [hf] at q1; simp at q1
        subst q1
        simp only at q2 q3
        rw [pre_list _ _ _ (by omega)]
        simp [hf, g, q2, q3, q4]) hcs (fun p hp' => c2 p hp')
    have hlen : ∀ (l : List (Nat × AV)) (zs : List AV), (l.foldl (fun l p => l.set p.1 (loose p.2)) zs).length = zs.length := by
      intro l; induction l with
      | nil => simp
      | cons a l ih => intro zs; simp [ih]
    refine Does.fu cx.hr hu (c := .agg cells') ?_ ?_
    · simp only [execOp, ho, Instr.build, Sem.run_bind, z1, Result.andThen_ok, run_underlying d1, hplaces, hparts, f1, Sem.run_pure]
    · simp only [SlotRel, VRel]
      exact ⟨cells'.toList, ⟨by rw [hlen]; exact hzl, f2⟩, by simp⟩
  · rename_i n0 el sz0 by_ sz n zs e0
    obtain ⟨vs', u', h1, hu, hp, hl, hs⟩ := frzAll_elim _ h (by simp)
    simp only [Ask.run, Ev.val.injEq] at h1
    obtain ⟨rfl, rfl, rfl⟩ := h1
    obtain ⟨⟨i, c1, c3⟩, c2⟩ := hC
    have ht := cx.ty _ _ e0
    obtain ⟨dd, d1, d2⟩ := ht.desc
    obtain ⟨n1, e1, rfl⟩ : ∃ n1 e1, dd = .array n1 e1 := by cases dd <;> simp [TyD.of] at d2; exact ⟨_, _, rfl⟩
    simp only [TyD.of, TyD.arr.injEq] at d2
    obtain ⟨rfl, rfl⟩ := d2
    obtain ⟨z, z1, z2⟩ := ht.run_zero w
    have hzr := flat_rel (Sof ρ (updH H u') B) w _ _ z2
    simp only [VRel] at hzr
    obtain ⟨hzl, hzr⟩ := hzr
    have hcs := cellss_of_slots _ _ (hs ρ B N w _ cx.hr (hsl ps.toList)) hp
    obtain ⟨cells', f1, f2⟩ := fill_rel (place := fun i => some (i * sz, sz)) (ps.toList.map (·.1)) vs' (ps.toList.map fun p => cv p.2) zs z.cells hzr (fun i hi => by rw [pre_const]) hcs (fun p hp' => c2 p hp')
    have hlen : ∀ (l : List (Nat × AV)) (zs : List AV), (l.foldl (fun l p => l.set p.1 (loose p.2)) zs).length = zs.length := by
      intro l; induction l with
      | nil => simp
      | cons a l ih => intro zs; simp [ih]
    refine Does.fu cx.hr hu (c := .agg cells') ?_ ?_
    · simp only [execOp, ho, Instr.build, Sem.run_bind, z1, Result.andThen_ok, run_underlying d1, (cx.ty _ _ c1).run_size, c3, hparts, f1, Sem.run_pure]
    · simp only [SlotRel, VRel]
      exact ⟨cells'.toList, ⟨by rw [hlen]; exact hzl, f2⟩, by simp⟩
  · simp [Ask.run] at h

end
end Go.Abs
/- Operations of the model do what the abstract ones say, fourth part: slices, addresses, elements, lengths: for every program, world and state. -/
namespace Go.Abs
section
variable {P : Program} {T : Tys} {ρ : Nat → Option Nat} {H : Hp} {B N : Nat → Prop} {w : World} {e : Operand → AV} {cv : Operand → Value}

theorem zip_map {α : Type} (f : Operand → α) (L : List (Nat × Operand)) : (L.map fun p => (p.1, f p.2)) = (L.map (·.1)).zip (L.map fun p => f p.2) := by
  induction L <;> simp_all

theorem slots_map2 (cx : Cx P T ρ H B N w e cv) (L : List (Nat × Operand)) : SlotsRel ρ H (Sof ρ H B) w (L.map fun p => e p.2) (L.map fun p => cv p.2) := by
  have := slots_map cx (L.map (·.2))
  simpa [List.map_map, Function.comp_def] using this

theorem TyOk.slice {t el : Nat} {s b : Nat} {z : AV} (h : TyOk P t ⟨.slice el, s, b, z⟩) : P.underlying t = some (.slice el) := by
  obtain ⟨d, d1, d2⟩ := h.desc
  cases d <;> simp [TyD.of] at d2
  rw [d1, d2]
theorem TyOk.array {t el n : Nat} {s b : Nat} {z : AV} (h : TyOk P t ⟨.arr n el, s, b, z⟩) : P.underlying t = some (.array n el) := by
  obtain ⟨d, d1, d2⟩ := h.desc
  cases d <;> simp [TyD.of] at d2
  rw [d1, d2.1, d2.2]
theorem TyOk.struct {t : Nat} {fs : List (Nat × Nat)} {s b : Nat} {z : AV} (h : TyOk P t ⟨.struct fs, s, b, z⟩) : ∃ fields, P.underlying t = some (.struct fields) ∧ fields.toList.map (fun f => (f.offset, f.type)) = fs := by
  obtain ⟨d, d1, d2⟩ := h.desc
  cases d <;> simp [TyD.of] at d2
  exact ⟨_, d1, d2⟩
theorem TyOk.string {t : Nat} {s b : Nat} {z : AV} (h : TyOk P t ⟨.string, s, b, z⟩) : P.underlying t = some .string := by
  obtain ⟨d, d1, d2⟩ := h.desc
  cases d <;> simp [TyD.of] at d2
  exact d1
theorem TyOk.bool {t : Nat} {s b : Nat} {z : AV} (h : TyOk P t ⟨.bool, s, b, z⟩) : P.underlying t = some .bool := by
  obtain ⟨d, d1, d2⟩ := h.desc
  cases d <;> simp [TyD.of] at d2
  exact d1
theorem sof_new {ρ : Nat → Option Nat} {H : Hp} {B N : Nat → Prop} {w w' : World} (hr : HRel ρ H B N w) {k : Nat} (h1 : w.heap.size ≤ k) (h2 : k < w'.heap.size) : Sof ρ H (fun q => B q ∨ (w.heap.size ≤ q ∧ q < w'.heap.size)) k := by
  refine ⟨.inr ⟨h1, h2⟩, fun id b hb _ e => ?_⟩
  rcases hr.at_ id b hb with ⟨sz, _, g2⟩ | ⟨q, arr, T, cs, ext, g1, g2, _⟩
  · rw [g2] at e; cases e
  · rw [g1] at e; cases e
    have := hr.lt _ g2; omega

theorem pack_of_slots {ρ : Nat → Option Nat} {H : Hp} {S : Nat → Prop} {w : World} : ∀ (vs : List AV) (cs : List Value), SlotsRel ρ H S w vs cs → (∀ v ∈ vs, v.plain = true) → VPack S w vs cs
  | [], _, h, _ => h
  | v :: vs, _, h, hp => by
    obtain ⟨c, rest, rfl, h1, h2⟩ := h
    obtain ⟨cs, h3, h4, _⟩ := vrel_of_slot h1 (hp v (by simp))
    exact ⟨cs, rest, by rw [h4], h3, pack_of_slots vs rest h2 fun x hx => hp x (by simp [hx])⟩

theorem fold_length : ∀ (l : List (Nat × AV)) (zs : List AV), (l.foldl (fun l p => l.set p.1 (loose p.2)) zs).length = zs.length
  | [], _ => rfl
  | a :: l, zs => by simp [fold_length l]

theorem op_bslice (cx : Cx P T ρ H B N w e cv) {o : Oper} {m d t n : Nat} {ps : Array (Nat × Operand)} (ho : o.op = .buildSlice t n ps) {v : AV} {u : Upd} {C : Prop} (h : (aop T d e (.bslice m t n ps.toList)).run H = .val v u C) (hC : C) : Does P (execOp cv o) ρ H B N w v u := by
  have hparts : (ps.map fun (i, x) => (i, cv x)).toList = (ps.toList.map (·.1)).zip (ps.toList.map fun p => cv p.2) := by
    rw [← zip_map]; simp
  simp only [aop] at h
  split at h
  · rename_i el s0 b0 z0 e0
    split at h
    · rename_i i hi
      obtain ⟨vs', u', h1, hu, hp, hl, hs⟩ := frzAll_elim _ h (by simp)
      have main : n * i.size ≤ 16777216 → 0 < i.size → (∀ p ∈ (ps.toList.map (·.1)).zip vs', p.1 < n ∧ p.2.size = i.size) →
          ∃ cells' : Array Value, VAll (Sof ρ (updH H u') B) w (fun _ => i.size) 0 (((ps.toList.map (·.1)).zip vs').foldl (fun l p => l.set p.1 (loose p.2)) (List.replicate n i.zero)) cells'.toList ∧
            (execOp cv o).run P w = .ok (.value (.slice (some ⟨w.heap.size, 0, none⟩) n n)) (w.alloc (.cells cells' el)) := by
        intro c1 c2 c3
        have hte := cx.ty _ _ hi
        obtain ⟨z, z1, z2⟩ := hte.run_zero w
        have hzr := flat_rel (Sof ρ (updH H u') B) w _ _ z2
        have hzsize : z.cells.size = i.size := by
          rw [← Array.length_toList, hzr.len, hte.zsize]
        have hcs := cellss_of_slots _ _ (hs ρ B N w _ cx.hr (slots_map2 cx ps.toList)) hp
        have hmade := flat_made z.cells i.size hzsize c2 n
        have hv0 : VAll (Sof ρ (updH H u') B) w (fun _ => i.size) 0 (List.replicate n i.zero) (((Array.range (n * i.size)).map (z.cells[· % z.cells.size]!)).toList) := by
          rw [hmade]; exact vall_replicate hzr (by rw [Array.length_toList, hzsize]) n 0
        obtain ⟨cells', f1, f2⟩ := fill_rel (place := fun j => some (j * i.size, i.size)) (ps.toList.map (·.1)) vs' (ps.toList.map fun p => cv p.2) _ _ hv0 (fun j _ => by rw [pre_const]) hcs
          (fun p hp' => by obtain ⟨a, b⟩ := c3 p hp'; exact ⟨by simpa using a, b⟩)
        refine ⟨cells', f2, ?_⟩
        have hm : n * i.size = 0 → (Array.range (n * i.size)).map (fun x => (#[] : Array Value)[x % (#[] : Array Value).size]!) = (Array.range (n * i.size)).map (z.cells[· % z.cells.size]!) := by
          intro h0; rw [h0]; simp
        simp only [execOp, ho, Instr.buildSlice, Sem.run_bind, run_underlying (cx.ty _ _ e0).slice, Result.andThen_ok, hte.run_size, if_neg (show ¬ n * i.size > 2 ^ 24 by omega)]
        by_cases h0 : n * i.size = 0
        · rw [if_pos h0]
          simp only [Sem.run_bind, Sem.run_pure, Result.andThen_ok, hm h0, hparts, f1, newRow, run_newObj]
          rfl
        · rw [if_neg h0]
          simp only [Sem.run_bind, z1, Sem.run_pure, Result.andThen_ok, hparts, f1, newRow, run_newObj]
          rfl
      have hlen : ((((ps.toList.map (·.1)).zip vs').foldl (fun l p => l.set p.1 (loose p.2)) (List.replicate n i.zero))).length = n := by rw [fold_length]; simp
      have hr1 := FU.hrel cx.hr hu
      split at h1
      · simp only [Ask.run, Ev.val.injEq] at h1
        obtain ⟨rfl, rfl, rfl⟩ := h1
        obtain ⟨c1, c2, c3⟩ := hC
        obtain ⟨cells', f2, hrun⟩ := main c1 c2 c3
        have ho1 : Only No w (w.alloc (.cells cells' el)) := Only.alloc _ _ _ _
        have hst := Step.grown hr1 ho1 (newOk_alloc _ _ rfl)
        refine Does.after (x := []) cx.hr hu hrun (.inl rfl) hst (fun _ x => x.elim) ?_
        simp only [SlotRel, VRel]
        refine ⟨some ⟨w.heap.size, 0, none⟩, n, by rw [hlen], by rw [hlen]; exact Nat.le_refl _, fun _ => hlen.symm, .inr ⟨w.heap.size, 0, cells'.toList, rfl, ?_, ?_, ?_⟩⟩
        · exact sof_new hr1 (Nat.le_refl _) (by simp)
        · exact VAll.keep hst.sof hst.kept _ _ _ _ f2
        · exact reads_block (heap_new _ _) (ext := []) (by simp)
      · simp only [fresh, Ask.run] at h1
        split at h1
        · rename_i hn
          simp only [Ask.run, Ev.val.injEq] at h1
          obtain ⟨rfl, rfl, rfl⟩ := h1
          obtain ⟨c1, c2, c3⟩ := hC
          obtain ⟨cells', f2, hrun⟩ := main c1 c2 c3
          refine Does.alloc cx.hr cx.nb hu hn hrun (Only.alloc _ _ _ _) (by simp) (heap_new _ _) (cs := cells'.toList) (ext := []) (by simp) f2 ?_
          intro ρ' H' S' hρ hH b hb
          rw [hH] at hb; cases hb
          have hsz : cells'.size = n * i.size := by
            have := VAll.len _ _ _ f2
            rw [pre_const, hlen, Array.length_toList] at this
            exact this
          exact ⟨i.size, _, rfl, .inr ⟨w.heap.size, n, cells', el, hρ, by rw [hlen], by rw [hlen]; exact Nat.le_refl _, heap_new _ _, by rw [hsz]; exact Nat.le_refl _⟩⟩
        · simp [Ask.run] at h1
    · simp [Ask.run] at h
  · simp [Ask.run] at h

theorem op_mkfn (cx : Cx P T ρ H B N w e cv) {o : Oper} {d f : Nat} {a b : Array Operand} (ho : o.op = .makeFunc (.func f) a b) {v : AV} {u : Upd} {C : Prop} (h : (aop T d e (.mkfn f a.toList b.toList)).run H = .val v u C) (hC : C) : Does P (execOp cv o) ρ H B N w v u := by
  simp only [aop] at h
  obtain ⟨va, ua, h1, hua, hpa, hla, hsa⟩ := frzAll_elim _ h (by simp)
  obtain ⟨vb, ub, h2, hub, hpb, hlb, hsb⟩ := frzAll_elim _ h1 (by simp)
  simp only [Ask.run, Ev.val.injEq] at h2
  obtain ⟨rfl, rfl, rfl⟩ := h2
  have hr1 := FU.hrel cx.hr (hua.append hub)
  have h3 := hsa ρ B N w _ cx.hr (slots_map cx a.toList)
  have h4 := hsb ρ B N w _ cx.hr (slots_map cx b.toList)
  refine Does.fu cx.hr (hua.append hub) (c := .func (.func f) (a.map cv) (b.map cv)) (by simp [execOp, ho, Instr.makeFunc]) ?_
  simp only [SlotRel, VRel]
  have hma : ∀ (a : Array Operand), a.map cv = (a.toList.map cv).toArray := fun a => by rw [← Array.toList_map]
  refine ⟨a.toList.map cv, b.toList.map cv, by rw [hma, hma], ?_, ?_, ?_⟩
  · rw [List.all_eq_true]
    intro x hx
    rcases List.mem_append.1 hx with hx | hx
    · exact hpa x hx
    · exact hpb x hx
  · have hfu : FU (updH H ua) ub := FU.of_append hua hub
    have := pack_of_slots _ _ h3 hpa
    rw [FU.upd_comm hua hub]
    exact VPack.keep (fun k hk => FU.sof (FU.hrel cx.hr hua) hfu k hk) (fun _ _ _ => rfl) _ _ this
  · have hfu : FU (updH H ub) ua := FU.of_append hub hua
    have := pack_of_slots _ _ h4 hpb
    rw [updH_append]
    exact VPack.keep (fun k hk => FU.sof (FU.hrel cx.hr hub) hfu k hk) (fun _ _ _ => rfl) _ _ this

theorem op_mkclo (cx : Cx P T ρ H B N w e cv) {o : Oper} {d f : Nat} {a b : Array Operand} (ho : o.op = .makeFunc (.func f) a b) (ha : a.toList = []) {v : AV} {u : Upd} {C : Prop} (h : (aop T d e (.mkclo f b.toList)).run H = .val v u C) : Does P (execOp cv o) ρ H B N w v u := by
  simp only [aop] at h
  split at h
  · rename_i id rest hrest
    simp only [Ask.run] at h
    split at h
    · obtain ⟨vb, ub, h2, hub, hpb, hlb, hsb⟩ := frzAll_elim _ h (by simp)
      simp only [Ask.run, Ev.val.injEq] at h2
      obtain ⟨rfl, rfl, rfl⟩ := h2
      have hm := slots_map cx b.toList
      rw [hrest] at hm
      obtain ⟨c, cs, hc, h1, h3⟩ := hm
      have h4 := hsb ρ B N w _ cx.hr h3
      have ha' : a.map cv = #[] := by
        rw [show a = #[] from by rw [← Array.toList_inj]; exact ha]
        simp
      have hb' : b.map cv = (c :: cs).toArray := by rw [← hc, ← Array.toList_map]
      refine Does.fu cx.hr hub (c := .func (.func f) (a.map cv) (b.map cv)) (by simp [execOp, ho, Instr.makeFunc]) ?_
      intro bb hbb
      obtain ⟨b0, hb0, _⟩ := hub.upd id bb hbb
      obtain ⟨k, h5, h6⟩ := h1 b0 hb0
      refine ⟨k, cs, h5, ?_, List.all_eq_true.2 hpb, pack_of_slots _ _ h4 hpb⟩
      rw [ha', hb', h6]
      rfl
    · simp [Ask.run] at h
  · simp [Ask.run] at h

theorem op_mkslice (cx : Cx P T ρ H B N w e cv) {o : Oper} {d t : Nat} {x y : Operand} (ho : o.op = .makeSlice t x y) {v : AV} {u : Upd} {C : Prop} (h : (aop T d e (.mkslice t x y)).run H = .val v u C) (hC : C) : Does P (execOp cv o) ρ H B N w v u := by
  have hx := cx.rel x
  have hy := cx.rel y
  simp only [aop] at h
  split at h
  · rename_i el s0 b0 z0 e0
    split at h
    · rename_i i hi
      split at h
      · rename_i k n k' m ex ey
        simp only [fresh, Ask.run] at h
        split at h
        · rename_i hn
          simp only [Ask.run, Ev.val.injEq] at h
          obtain ⟨rfl, rfl, rfl⟩ := h
          obtain ⟨rfl, c1, c2, c3, c4⟩ := hC
          rw [ex] at hx; rw [ey] at hy
          simp only [SlotRel] at hx hy
          have hte := cx.ty _ _ hi
          obtain ⟨z, z1, z2⟩ := hte.run_zero w
          have hzr := flat_rel (Sof ρ H B) w _ _ z2
          have hzsize : z.cells.size = i.size := by
            rw [← Array.length_toList, hzr.len, hte.zsize]
          obtain ⟨f, f1, f2, f3, _⟩ := hte.info
          have hwrap : IntKind.i64.wrap m = m := by
            simp only [IntKind.wrap, IntKind.bits, IntKind.signed]
            have : m % 18446744073709551616 = m := Int.emod_eq_of_lt c1 (by omega)
            simp [this]; omega
          have hmade := flat_made z.cells i.size hzsize c4 m.toNat
          let cells := (Array.range (m.toNat * i.size)).map (z.cells[· % z.cells.size]!)
          have hcell : cells.toList = (List.replicate m.toNat z.cells.toList).flatten := hmade
          have hrun : (execOp cv o).run P w = .ok (.value (.slice (some ⟨w.heap.size, 0, none⟩) m.toNat m.toNat)) (w.alloc (.cells cells el)) := by
            have hm : m.toNat * i.size = 0 → (Array.range (m.toNat * i.size)).map (fun x => (#[] : Array Value)[x % (#[] : Array Value).size]!) = cells := by
              intro h0; simp only [cells]; rw [h0]; simp
            have hlarge : (decide (m < 0) || decide ((f.bytes : Int) * m > 2 ^ 48)) = false := by
              rw [f3]; simp; omega
            simp only [execOp, ho, Instr.makeSlice, Sem.run_bind, run_underlying (cx.ty _ _ e0).slice, Result.andThen_ok, hx, hy, asInt, asIntOf, Sem.run_pure, run_typeInfo f1, hwrap, hlarge, Bool.false_or]
            rw [if_neg (by simp; omega)]
            simp only [Sem.run_bind, Result.andThen_ok, run_askRoom, hte.run_size]
            by_cases h0 : m.toNat * i.size = 0
            · rw [if_pos h0]
              simp only [Sem.run_bind, Sem.run_pure, Result.andThen_ok, hm h0, newRow, run_newObj]
              rfl
            · rw [if_neg h0]
              simp only [Sem.run_bind, z1, Sem.run_pure, Result.andThen_ok, newRow, run_newObj]
              rfl
          refine Does.alloc cx.hr cx.nb (FU.nil H) hn hrun (Only.alloc _ _ _ _) (by simp) (heap_new _ _) (cs := cells.toList) (ext := []) (by simp) ?_ ?_
          · simp only [VRel]
            rw [hcell]
            exact vall_replicate hzr (by rw [Array.length_toList, hzsize]) _ 0
          · intro ρ' H' S' hρ hH b hb
            rw [hH] at hb; cases hb
            refine ⟨i.size, _, rfl, .inr ⟨w.heap.size, m.toNat, cells, el, hρ, by simp, by simp, heap_new _ _, by simp [cells]⟩⟩
        · simp [Ask.run] at h
      · simp [Ask.run] at h
    · simp [Ask.run] at h
  · simp [Ask.run] at h

/-! ### Cuts -/
theorem run_bound {k : IntKind} {i : Int} {y : Nat} {code : BoundsCode} (h0 : 0 ≤ i) (h1 : i ≤ y) : (Instr.sliceBound (.int k i) y code).run P w = .ok i.toNat w := by
  simp [Instr.sliceBound, asIntOf, h0, h1]

theorem VAll.take {S : Nat → Prop} {sz : Nat} {xs : List AV} {cs : List Value} (h : VAll S w (fun _ => sz) 0 xs cs) (i : Nat) (hi : i ≤ xs.length) : VAll S w (fun _ => sz) 0 (xs.take i) (cs.take (i * sz)) := by
  have := (VAll.split i xs cs 0 h hi).1
  rwa [pre_const] at this
theorem VAll.drop {S : Nat → Prop} {sz : Nat} {xs : List AV} {cs : List Value} (h : VAll S w (fun _ => sz) 0 xs cs) (i : Nat) (hi : i ≤ xs.length) : VAll S w (fun _ => sz) 0 (xs.drop i) (cs.drop (i * sz)) := by
  have := (VAll.split i xs cs 0 h hi).2
  rw [pre_const] at this
  exact VAll.shift 0 this
theorem Reads.take {k off : Nat} {vs : List Value} (h : Reads w k off vs) (i : Nat) : Reads w k off (vs.take i) := by
  intro j hj
  simp only [List.length_take] at hj
  rw [h j (by omega), List.getElem?_take, if_pos (by omega)]
theorem Reads.drop {k off : Nat} {vs : List Value} (h : Reads w k off vs) (i : Nat) : Reads w k (off + i) (vs.drop i) := by
  intro j hj
  simp only [List.length_drop] at hj
  rw [Nat.add_assoc, h (i + j) (by omega), List.getElem?_drop]

theorem sl_take {S : Nat → Prop} {sz : Nat} {t : Bool} {xs : List AV} {a : Option Addr} {len cap : Nat} (h : VRel S w (.sl sz t xs) [.slice a len cap]) {i m : Nat} {t' : Bool} (hi : i ≤ xs.length) (hm : i ≤ m) (ht : t' = true → m = i) :
    VRel S w (.sl sz t' (xs.take i)) [.slice a i m] := by
  obtain ⟨a', cap', e, l, _, r⟩ := h
  simp only [List.cons.injEq, Value.slice.injEq, and_true] at e
  obtain ⟨rfl, rfl, rfl⟩ := e
  have hl : (xs.take i).length = i := by simp; omega
  refine ⟨a, m, by rw [hl], by rw [hl]; exact hm, fun x => by rw [hl]; exact ht x, ?_⟩
  rcases r with rfl | ⟨k, off, vs, e1, hS, hv, hr⟩
  · left; simp
  · exact .inr ⟨k, off, _, e1, hS, hv.take i hi, hr.take _⟩

theorem sl_drop {S : Nat → Prop} {sz : Nat} {t : Bool} {xs : List AV} {a : Option Addr} {len cap : Nat} (h : VRel S w (.sl sz t xs) [.slice a len cap]) {i m : Nat} (hi : i ≤ xs.length) (hm : xs.length ≤ m) :
    VRel S w (.sl sz false (xs.drop i)) [.slice (if m = i then a else a.map (·.add (i * sz))) (xs.length - i) (m - i)] := by
  obtain ⟨a', cap', e, l, _, r⟩ := h
  simp only [List.cons.injEq, Value.slice.injEq, and_true] at e
  obtain ⟨rfl, rfl, rfl⟩ := e
  have hl : (xs.drop i).length = xs.length - i := by simp
  refine ⟨_, m - i, by rw [hl], by rw [hl]; omega, by simp, ?_⟩
  by_cases hlt : i < xs.length
  · rcases r with rfl | ⟨k, off, vs, e1, hS, hv, hr⟩
    · simp at hlt
    · refine .inr ⟨k, off + i * sz, _, ?_, hS, hv.drop i hi, hr.drop _⟩
      rw [if_neg (by omega), e1]
      simp [add_eq]
  · left; simp; omega

theorem op_vw (cx : Cx P T ρ H B N w e cv) {o : Oper} {d t : Nat} {x lo : Operand} (ho : o.op = .slice t x (some lo) none none) {v : AV} {u : Upd} {C : Prop} (h : (aop T d e (.vw t x lo)).run H = .val v u C) (hC : C) : Does P (execOp cv o) ρ H B N w v u := by
  have hx := cx.rel x
  have hl := cx.rel lo
  simp only [aop] at h
  split at h
  · rename_i el s0 b0 z0 e0
    split at h
    · rename_i i id k ll hi0 ex el'
      simp only [Ask.run] at h
      split at h
      · rename_i sz xs hb
        simp only [Ask.run, Ev.val.injEq] at h
        obtain ⟨rfl, rfl, rfl⟩ := h
        obtain ⟨c1, c2, rfl⟩ := hC
        rw [ex] at hx; rw [el'] at hl
        simp only [SlotRel] at hl
        obtain ⟨sz', xs', ec, hh⟩ := hx _ hb
        cases ec
        rcases hh with ⟨rfl, _⟩ | ⟨q, cap, arr, T', g1, g2, g3, g4, g5⟩
        · simp at c2; omega
        · have hte := cx.ty _ _ hi0
          have hb2 : (Instr.sliceBounds true xs.length cap (some (cv lo)) none none).run P w = .ok (ll.toNat, xs.length, cap) w := by
            rw [hl]
            simp [Instr.sliceBounds, run_bound (P := P) (w := w) (i := ll) (y := xs.length) c1 (by omega)]
          have hrun : (execOp cv o).run P w = .ok (.value (.slice (some ⟨q, ll.toNat * i.size, none⟩) (xs.length - ll.toNat) (cap - ll.toNat))) w := by
            have hne : ¬ cap = ll.toNat := by omega
            simp [execOp, ho, Instr.sliceAt, Instr.slice, run_underlying (cx.ty _ _ e0).slice, g2, hb2, hte.run_size, hne, Addr.add]
            exact fun h => h.symm
          refine Does.same cx.hr hrun ?_
          intro b hb'
          rw [hb] at hb'; cases hb'
          refine ⟨i.size, xs, q, cap, arr, T', rfl, ?_⟩
          rw [List.length_replicate]
          exact ⟨by omega, g1, rfl, g3, g4, g5⟩
      · simp [Ask.run] at h
    · simp [Ask.run] at h
  · simp [Ask.run] at h

theorem op_slice (cx : Cx P T ρ H B N w e cv) {o : Oper} {d t : Nat} {x : Operand} {lo hi mx : Option Operand} (ho : o.op = .slice t x lo hi mx) {v : AV} {u : Upd} {C : Prop} (h : (aop T d e (.slice t x lo hi mx)).run H = .val v u C) (hC : C) : Does P (execOp cv o) ρ H B N w v u := by
  simp only [aop] at h
  split at h
  · rename_i el s0 b0 z0 e0
    split at h
    · rename_i i hi0
      obtain ⟨v', u', h1, hu, hp, _, hs⟩ := frz_elim h (by simp)
      have hx := hs ρ B N w _ cx.hr (cx.rel x)
      have hte := cx.ty _ _ hi0
      have hex : ∀ c, (Instr.slice t (cv x) (lo.map cv) (hi.map cv) (mx.map cv)).run P w = .ok c w → (execOp cv o).run P w = .ok (.value c) w := by
        intro c hc
        simp [execOp, ho, Instr.sliceAt, run_underlying (cx.ty _ _ e0).slice, hc]
      have hbody : ∀ a len cap l h m, cv x = .slice a len cap → (Instr.sliceBounds true len cap (lo.map cv) (hi.map cv) (mx.map cv)).run P w = .ok (l, h, m) w →
          (Instr.slice t (cv x) (lo.map cv) (hi.map cv) (mx.map cv)).run P w = .ok (.slice (if m = l then a else a.map (·.add (l * i.size))) (h - l) (m - l)) w := by
        intro a len cap l h m h1 h2
        simp [Instr.slice, run_underlying (cx.ty _ _ e0).slice, h1, h2, hte.run_size]
      have hadd : ∀ (a : Option Addr), a.map (·.add (0 * i.size)) = a := by
        intro a; cases a <;> simp [Addr.add]
      have hint : ∀ (y : Operand) k n, e y = .int k n → cv y = .int k n := fun y k n hy => by
        have := cx.rel y; rw [hy] at this; exact this
      have hsome : ∀ (z : Option Operand) k n, z.map e = some (.int k n) → z.map cv = some (.int k n) := by
        intro z k n hz
        cases z with
        | none => simp at hz
        | some y => simp at hz; simp [hint y k n hz]
      have hnone : ∀ (z : Option Operand), z.map e = none → z.map cv = none := by
        intro z hz; cases z <;> simp at hz ⊢
      split at h1
      · rename_i sz tg xs k hh e1 e2 e3 _
        simp only [Ask.run, Ev.val.injEq] at h1
        obtain ⟨rfl, rfl, rfl⟩ := h1
        obtain ⟨c1, c2⟩ := hC
        obtain ⟨a, cap, e4, l, tt, r⟩ := hx
        simp at e4
        have hb := hbody a xs.length cap 0 hh.toNat cap e4 (by
          rw [hnone _ e1, hsome _ _ _ e2, hnone _ e3]
          simp [Instr.sliceBounds, run_bound (P := P) (w := w) c1 (show hh ≤ (cap : Nat) by omega)])
        rw [hadd] at hb
        simp only [ite_self, Nat.sub_zero] at hb
        refine Does.fu cx.hr hu (hex _ hb) ?_
        simp only [SlotRel]
        exact sl_take (t := tg) ⟨a, cap, rfl, l, tt, r⟩ (by omega) (by omega) (by simp)
      · rename_i sz tg xs k hh k2 mm e1 e2 e3 _
        simp only [Ask.run, Ev.val.injEq] at h1
        obtain ⟨rfl, rfl, rfl⟩ := h1
        obtain ⟨c1, c2, rfl⟩ := hC
        obtain ⟨a, cap, e4, l, tt, r⟩ := hx
        simp at e4
        have hb := hbody a xs.length cap 0 mm.toNat mm.toNat e4 (by
          rw [hnone _ e1, hsome _ _ _ e2, hsome _ _ _ e3]
          simp [Instr.sliceBounds, run_bound (P := P) (w := w) (i := mm) (y := cap) c1 (by omega), run_bound (P := P) (w := w) (i := mm) (y := mm.toNat) c1 (by omega)])
        rw [hadd] at hb
        simp only [ite_self, Nat.sub_zero] at hb
        refine Does.fu cx.hr hu (hex _ hb) ?_
        simp only [SlotRel]
        exact sl_take (t := tg) ⟨a, cap, rfl, l, tt, r⟩ (by omega) (by omega) (by simp)
      · rename_i sz tg xs k ll e1 e2 e3 _
        simp only [Ask.run, Ev.val.injEq] at h1
        obtain ⟨rfl, rfl, rfl⟩ := h1
        obtain ⟨c1, c2, rfl⟩ := hC
        obtain ⟨a, cap, e4, l, tt, r⟩ := hx
        simp at e4
        have hb := hbody a xs.length cap ll.toNat xs.length cap e4 (by
          rw [hsome _ _ _ e1, hnone _ e2, hnone _ e3]
          simp [Instr.sliceBounds, run_bound (P := P) (w := w) (i := ll) (y := xs.length) c1 c2])
        refine Does.fu cx.hr hu (hex _ hb) ?_
        simp only [SlotRel]
        exact sl_drop (t := tg) ⟨a, cap, rfl, l, tt, r⟩ (by omega) l
      · rename_i sz tg xs k ll k2 hh e1 e2 e3 _
        simp only [Ask.run, Ev.val.injEq] at h1
        obtain ⟨rfl, rfl, rfl⟩ := h1
        obtain ⟨c1, c2, c3, rfl⟩ := hC
        obtain ⟨a, cap, e4, l, tt, r⟩ := hx
        simp at e4
        have hb := hbody a xs.length cap ll.toNat hh.toNat cap e4 (by
          rw [hsome _ _ _ e1, hsome _ _ _ e2, hnone _ e3]
          simp [Instr.sliceBounds, run_bound (P := P) (w := w) (i := hh) (y := cap) (by omega) (by omega), run_bound (P := P) (w := w) (i := ll) (y := hh.toNat) c1 (by omega)])
        refine Does.fu cx.hr hu (hex _ hb) ?_
        simp only [SlotRel]
        have h5 := sl_take (t := tg) (t' := false) ⟨a, cap, rfl, l, tt, r⟩ (i := hh.toNat) (m := cap) (by omega) (by omega) (by simp)
        have hl : (xs.take hh.toNat).length = hh.toNat := by simp; omega
        have h6 := sl_drop h5 (i := ll.toNat) (m := cap) (by omega) (by omega)
        rwa [hl] at h6
      · simp [Ask.run] at h1
    · simp [Ask.run] at h
  · rename_i n el s0 b0 z0 e0
    split at h
    · rename_i i hi0
      obtain ⟨v', u', h1, hu, hp, _, hs⟩ := frz_elim h (by simp)
      have hx := hs ρ B N w _ cx.hr (cx.rel x)
      have hte := cx.ty _ _ hi0
      split at h1
      · rename_i c p o' _
        split at h1
        · rename_i sz m xs e5
          simp only [Ask.run, Ev.val.injEq] at h1
          obtain ⟨rfl, rfl, rfl⟩ := h1
          obtain ⟨rfl, c2, c3, rfl⟩ := hC
          obtain ⟨k, off, vs, hcv, hS, hv, hrd⟩ := hx
          simp at hcv
          obtain ⟨l1, lc, l2, e1, m1, m2, m3, _⟩ := VRel.path p c vs hv c2
          rw [e5] at m2
          obtain ⟨q1, q2⟩ := m2
          have hrun : (execOp cv o).run P w = .ok (.value (.slice (some ⟨k, off + o'.sum, none⟩) m m)) w := by
            simp [execOp, ho, Instr.sliceAt, run_underlying (cx.ty _ _ e0).array, hcv, Instr.sureAddr, Instr.sliceBounds, hte.run_size, Addr.add]
          refine Does.fu cx.hr hu hrun ?_
          simp only [SlotRel, VRel]
          refine ⟨_, m, by rw [q1], by rw [q1]; exact Nat.le_refl _, fun _ => q1.symm, .inr ⟨k, off + o'.sum, lc, rfl, hS, q2, ?_⟩⟩
          have : vs = l1 ++ (lc ++ l2) := by rw [e1]; simp
          have h6 := (hrd.drop l1.length).take lc.length
          rw [this, List.drop_left, List.take_left, m1, c3] at h6
          exact h6
        · simp [Ask.run] at h1
      · simp [Ask.run] at h1
    · simp [Ask.run] at h
  · rename_i s0 b0 z0 e0
    have hint : ∀ (y : Operand) k n, e y = .int k n → cv y = .int k n := fun y k n hy => by
      have := cx.rel y; rw [hy] at this; exact this
    have hsome : ∀ (z : Option Operand) k n, z.map e = some (.int k n) → z.map cv = some (.int k n) := by
      intro z k n hz
      cases z with
      | none => simp at hz
      | some y => simp at hz; simp [hint y k n hz]
    have hnone : ∀ (z : Option Operand), z.map e = none → z.map cv = none := by
      intro z hz; cases z <;> simp at hz ⊢
    have hx := cx.rel x
    have hdo : ∀ (s : ByteArray) (l h : Nat), e x = .str s → mx.map e = none → (Instr.sliceBounds false s.size s.size (lo.map cv) (hi.map cv) none).run P w = .ok (l, h, s.size) w → Does P (execOp cv o) ρ H B N w (.str (s.extract l h)) [] := by
      intro s l h ex em hb
      rw [ex] at hx
      simp only [SlotRel] at hx
      refine Does.same cx.hr (c := .string (s.extract l h)) ?_ (by simp only [SlotRel])
      simp [execOp, ho, Instr.sliceAt, Instr.slice, run_underlying (cx.ty _ _ e0).string, hx, hnone _ em, hb]
    split at h
    · rename_i s k hh ex e1 e2 e3
      simp only [Ask.run, Ev.val.injEq] at h
      obtain ⟨rfl, rfl, rfl⟩ := h
      obtain ⟨c1, c2⟩ := hC
      refine hdo _ _ _ ex e3 ?_
      rw [hnone _ e1, hsome _ _ _ e2]
      simp [Instr.sliceBounds, run_bound (P := P) (w := w) c1 c2]
    · rename_i s k ll ex e1 e2 e3
      simp only [Ask.run, Ev.val.injEq] at h
      obtain ⟨rfl, rfl, rfl⟩ := h
      obtain ⟨c1, c2⟩ := hC
      refine hdo _ _ _ ex e3 ?_
      rw [hsome _ _ _ e1, hnone _ e2]
      simp [Instr.sliceBounds, run_bound (P := P) (w := w) c1 c2]
    · rename_i s k ll k2 hh ex e1 e2 e3
      simp only [Ask.run, Ev.val.injEq] at h
      obtain ⟨rfl, rfl, rfl⟩ := h
      obtain ⟨c1, c2, c3⟩ := hC
      refine hdo _ _ _ ex e3 ?_
      rw [hsome _ _ _ e1, hsome _ _ _ e2]
      simp [Instr.sliceBounds, run_bound (P := P) (w := w) (i := hh) (y := s.size) (by omega) c3, run_bound (P := P) (w := w) (i := ll) (y := hh.toNat) c1 (by omega)]
    · simp [Ask.run] at h
  · simp [Ask.run] at h

/-! ### Addresses -/
theorem op_fieldAddr (cx : Cx P T ρ H B N w e cv) {o : Oper} {d t f : Nat} {x : Operand} (ho : o.op = .fieldAddr t x f) {v : AV} {u : Upd} {C : Prop} (h : (aop T d e (.fieldAddr t x f)).run H = .val v u C) (hC : C) : Does P (execOp cv o) ρ H B N w v u := by
  have hx := cx.rel x
  simp only [aop] at h
  split at h
  · rename_i fs s0 b0 z0 e0
    split at h
    · rename_i off ft hf
      split at h
      · rename_i i hi0
        obtain ⟨fields, d1, d2⟩ := (cx.ty _ _ e0).struct
        have hte := cx.ty _ _ hi0
        rw [← d2, List.getElem?_map] at hf
        cases hfl : fields.toList[f]? with
        | none => rw [hfl] at hf; simp at hf
        | some F =>
          rw [hfl] at hf
          simp at hf
          obtain ⟨rfl, rfl⟩ := hf
          have hfl' : fields[f]? = some F := by simpa using hfl
          have hrun : ∀ k o', cv x = .pointer (some ⟨k, o', none⟩) → 0 < i.size → (execOp cv o).run P w = .ok (.value (.pointer (some ⟨k, o' + F.offset, none⟩))) w := by
            intro k o' h1 h2
            simp [execOp, ho, Instr.fieldAt, run_underlying d1, hfl', h1, Instr.sureAddr, fieldPlace, hte.run_size, Nat.pos_iff_ne_zero.1 h2, add_eq]
          split at h
          · rename_i id p o' ex
            simp only [Ask.run] at h
            split at h
            · rename_i b hb
              simp only [Ask.run, Ev.val.injEq] at h
              obtain ⟨rfl, rfl, rfl⟩ := h
              rw [ex] at hx
              obtain ⟨k, g1, g2⟩ := hx b hb
              refine Does.same cx.hr (hrun k _ g2 hC) ?_
              intro b' hb'
              exact ⟨k, g1, by simp⟩
            · simp [Ask.run] at h
          · rename_i c p o' ex
            simp only [Ask.run, Ev.val.injEq] at h
            obtain ⟨rfl, rfl, rfl⟩ := h
            rw [ex] at hx
            obtain ⟨k, off, vs, hcv, hS, hv, hrd⟩ := hx
            simp at hcv
            refine Does.same cx.hr (hrun k _ hcv hC) ?_
            simp only [SlotRel, VRel]
            exact ⟨k, off, vs, by simp [Nat.add_assoc], hS, hv, hrd⟩
          · simp [Ask.run] at h
      · simp [Ask.run] at h
    · simp [Ask.run] at h
  · simp [Ask.run] at h

theorem op_indexAddr (cx : Cx P T ρ H B N w e cv) {o : Oper} {d t : Nat} {x ix : Operand} (ho : o.op = .indexAddr t x ix) {v : AV} {u : Upd} {C : Prop} (h : (aop T d e (.indexAddr t x ix)).run H = .val v u C) (hC : C) : Does P (execOp cv o) ρ H B N w v u := by
  have hx := cx.rel x
  have hi := cx.rel ix
  simp only [aop] at h
  split at h
  · rename_i kj j ej
    rw [ej] at hi
    simp only [SlotRel] at hi
    split at h
    · rename_i n el s0 b0 z0 e0
      have hrun : ∀ i k o', look T el = some i → cv x = .pointer (some ⟨k, o', none⟩) → 0 ≤ j ∧ j < (n : Nat) → (execOp cv o).run P w = .ok (.value (.pointer (some ⟨k, o' + j.toNat * i.size, none⟩))) w := by
        intro i k o' h1 h2 h3
        simp [execOp, ho, Instr.indexAt, run_underlying (cx.ty _ _ e0).array, hi, asIntOf, h2, Instr.sureAddr, h3.1, h3.2, (cx.ty _ _ h1).run_size, add_eq]
      split at h
      · rename_i i id p o' ei ex
        simp only [Ask.run] at h
        split at h
        · rename_i b hb
          simp only [Ask.run, Ev.val.injEq] at h
          obtain ⟨rfl, rfl, rfl⟩ := h
          rw [ex] at hx
          obtain ⟨k, g1, g2⟩ := hx b hb
          refine Does.same cx.hr (hrun i k _ ei g2 hC) ?_
          intro b' hb'
          exact ⟨k, g1, by simp⟩
        · simp [Ask.run] at h
      · rename_i i c p o' ei ex
        simp only [Ask.run, Ev.val.injEq] at h
        obtain ⟨rfl, rfl, rfl⟩ := h
        rw [ex] at hx
        obtain ⟨k, off, vs, hcv, hS, hv, hrd⟩ := hx
        simp at hcv
        refine Does.same cx.hr (hrun i k _ ei hcv hC) ?_
        simp only [SlotRel, VRel]
        exact ⟨k, off, vs, by simp [Nat.add_assoc], hS, hv, hrd⟩
      · simp [Ask.run] at h
    · rename_i el s0 b0 z0 e0
      have hrun : ∀ i k len cap off, look T el = some i → cv x = .slice (some ⟨k, off, none⟩) len cap → 0 ≤ j ∧ j < (len : Nat) → (execOp cv o).run P w = .ok (.value (.pointer (some ⟨k, off + j.toNat * i.size, none⟩))) w := by
        intro i k len cap off h1 h2 h3
        simp [execOp, ho, Instr.indexAt, run_underlying (cx.ty _ _ e0).slice, hi, asIntOf, h2, h3.1, h3.2, (cx.ty _ _ h1).run_size, add_eq]
      split at h
      · rename_i i sz tg xs ei ex
        simp only [Ask.run, Ev.val.injEq] at h
        obtain ⟨rfl, rfl, rfl⟩ := h
        rw [ex] at hx
        obtain ⟨a, cap, e4, l, tt, r⟩ := hx
        simp at e4
        rcases r with rfl | ⟨k, off, vs, e1, hS, hv, hr⟩
        · exfalso; have := hC.2; simp at this; omega
        · subst e1
          refine Does.same cx.hr (hrun i k _ _ _ ei e4 hC) ?_
          simp only [SlotRel, VRel]
          exact ⟨k, off, vs, by simp, hS, hv, hr⟩
      · rename_i i id ei ex
        simp only [Ask.run] at h
        split at h
        · rename_i sz xs f hb
          simp only [Ask.run, Ev.val.injEq] at h
          obtain ⟨rfl, rfl, rfl⟩ := h
          rw [ex] at hx
          obtain ⟨sz', xs', ec, hh⟩ := hx _ hb
          cases ec
          rcases hh with ⟨hx0, _, _⟩ | ⟨k, cap, arr, T', g1, g2, _⟩
          · exfalso; have := hC.2; rw [hx0] at this; simp at this; omega
          · refine Does.same cx.hr (hrun i k _ _ _ ei g2 hC) ?_
            intro b' hb'
            exact ⟨k, g1, by simp⟩
        · simp [Ask.run] at h
      · simp [Ask.run] at h
    · simp [Ask.run] at h
  · simp [Ask.run] at h


end
end Go.Abs
/- Operations of the model do what the abstract ones say, fifth part: elements of values, lengths, appends, equality: for every program, world and state. -/
namespace Go.Abs
section
variable {P : Program} {T : Tys} {ρ : Nat → Option Nat} {H : Hp} {B N : Nat → Prop} {w : World} {e : Operand → AV} {cv : Operand → Value}

/-- A part of a value. -/
theorem run_part {S : Nat → Prop} {c : AV} {l1 lc l2 : List Value} {t : Nat} {i : TyA} (ht : TyOk P t i) (hv : VRel S w c lc) (hl : lc.length = i.size) (ha : c.isAgg = i.agg) (hp : c.plain = true) :
    (part t (l1 ++ lc ++ l2).toArray l1.length).run P w = .ok (pack c lc) w := by
  simp only [part, Sem.run_bind, ht.run_agg, Result.andThen_ok]
  cases e : i.agg with
  | true =>
    rw [e] at ha
    simp only [if_true, Sem.run_bind, ht.run_size, Result.andThen_ok, Sem.run_pure]
    have h1 : pack c lc = .agg lc.toArray := by cases c <;> simp [AV.isAgg] at ha <;> rfl
    rw [h1]
    congr 2
    rw [← Array.toList_inj]
    simp [← hl]
  | false =>
    rw [e] at ha
    have h1 : lc.length = 1 := by
      rw [hv.len]; cases c <;> simp [AV.isAgg, AV.plain, AV.size] at ha hp ⊢
    match lc, h1 with
    | [x], _ =>
      have h2 : pack c [x] = x := by cases c <;> simp [AV.isAgg] at ha <;> rfl
      rw [h2]
      simp

theorem op_field (cx : Cx P T ρ H B N w e cv) {o : Oper} {d t f : Nat} {x : Operand} (ho : o.op = .field t x f) {v : AV} {u : Upd} {C : Prop} (h : (aop T d e (.field t x f)).run H = .val v u C) (hC : C) : Does P (execOp cv o) ρ H B N w v u := by
  have hx := cx.rel x
  simp only [aop] at h
  split at h
  · rename_i fs s0 b0 z0 e0
    split at h
    · rename_i off ft hf
      split at h
      · rename_i i hi0
        split at h
        · rename_i szs xs ex
          simp only [Ask.run, Ev.val.injEq] at h
          obtain ⟨rfl, rfl, rfl⟩ := h
          obtain ⟨c1, c2, c3, c4, c5⟩ := hC
          obtain ⟨fields, d1, d2⟩ := (cx.ty _ _ e0).struct
          have hte := cx.ty _ _ hi0
          rw [← d2, List.getElem?_map] at hf
          cases hfl : fields.toList[f]? with
          | none => rw [hfl] at hf; simp at hf
          | some F =>
            rw [hfl] at hf
            simp at hf
            obtain ⟨rfl, rfl⟩ := hf
            have hfl' : fields[f]? = some F := by simpa using hfl
            rw [ex] at hx
            obtain ⟨cs, hv, hcv⟩ := hx
            simp only [VRel] at hv
            obtain ⟨hn, hv⟩ := hv
            obtain ⟨l1, lc, l2, e1, m1, m2, m3, _⟩ := VAll.at_ xs cs 0 f hv c1
            rw [pre_list _ _ _ (by omega)] at m1
            rw [Nat.zero_add, c3] at m3
            have hp := run_part (P := P) (l1 := l1) (l2 := l2) hte m2 m3 c4 c5
            rw [← e1, m1] at hp
            simp only [List.drop_zero] at hp
            rw [← c2] at hp
            refine Does.same cx.hr (c := pack (nth xs f) lc) ?_ (slot_of_vrel m2 c5)
            simp [execOp, ho, Instr.field, run_underlying d1, hfl', hcv, asAgg, hp]
        · simp [Ask.run] at h
      · simp [Ask.run] at h
    · simp [Ask.run] at h
  · simp [Ask.run] at h

theorem op_index (cx : Cx P T ρ H B N w e cv) {o : Oper} {d t : Nat} {x ix : Operand} (ho : o.op = .index t x ix) {v : AV} {u : Upd} {C : Prop} (h : (aop T d e (.index t x ix)).run H = .val v u C) (hC : C) : Does P (execOp cv o) ρ H B N w v u := by
  have hx := cx.rel x
  have hi := cx.rel ix
  simp only [aop] at h
  split at h
  · rename_i kj j ej
    rw [ej] at hi
    simp only [SlotRel] at hi
    split at h
    · rename_i n el s0 b0 z0 e0
      split at h
      · rename_i i sz m xs ei ex
        simp only [Ask.run, Ev.val.injEq] at h
        obtain ⟨rfl, rfl, rfl⟩ := h
        obtain ⟨c1, c2, rfl, rfl, c5, c6⟩ := hC
        have hte := cx.ty _ _ ei
        rw [ex] at hx
        obtain ⟨cs, hv, hcv⟩ := hx
        simp only [VRel] at hv
        obtain ⟨hn, hv⟩ := hv
        obtain ⟨l1, lc, l2, e1, m1, m2, m3, _⟩ := VAll.at_ xs cs 0 j.toNat hv (by omega)
        rw [pre_const] at m1
        have hp := run_part (P := P) (l1 := l1) (l2 := l2) hte m2 m3 c5 c6
        rw [← e1, m1] at hp
        refine Does.same cx.hr (c := pack (nth xs j.toNat) lc) ?_ (slot_of_vrel m2 c6)
        simp [execOp, ho, Instr.index, run_underlying (cx.ty _ _ e0).array, hi, asIntOf, hcv, c1, c2, hte.run_size, hp]
      · simp [Ask.run] at h
    · rename_i s0 b0 z0 e0
      split at h
      · rename_i s ex
        simp only [Ask.run, Ev.val.injEq] at h
        obtain ⟨rfl, rfl, rfl⟩ := h
        obtain ⟨c1, c2⟩ := hC
        rw [ex] at hx
        simp only [SlotRel] at hx
        have hlt : j.toNat < s.size := by omega
        have hg : s[j.toNat]? = some s[j.toNat] := getElem?_pos s j.toNat hlt
        refine Does.same cx.hr (c := .int .u8 (((s.data.toList.getD j.toNat 0).toNat : Nat) : Int)) ?_ (by simp only [SlotRel])
        have hd : s.data.toList.getD j.toNat 0 = s[j.toNat] := by
          have : j.toNat < s.data.toList.length := by simpa using hlt
          rw [List.getD_eq_getElem?_getD, List.getElem?_eq_getElem this]
          rfl
        rw [hd]
        simp [execOp, ho, Instr.index, run_underlying (cx.ty _ _ e0).string, hi, asIntOf, hx, c1, hg]
      · simp [Ask.run] at h
    · simp [Ask.run] at h
  · simp [Ask.run] at h

theorem equalIn_bool (d : Nat) {t : Nat} (h : P.underlying t = some .bool) (a b : Bool) (w : World) : (Op.equalIn (d + 1) t (.bool a) (.bool b)).run P w = .ok (a == b) w := by
  simp only [Op.equalIn, Sem.run_bind, run_underlying h, Result.andThen_ok, Sem.run_pure]

theorem op_boolEq (cx : Cx P T ρ H B N w e cv) {o : Oper} {op : BinOp} {t t' : Nat} {x y : Operand} (ho : o.op = .binOp op t x y t') {a b : Bool} (hx : e x = .bool a) (hy : e y = .bool b) {s b0 : Nat} {z : AV} (ht : look T t = some ⟨.bool, s, b0, z⟩) (hop : op = .eql ∨ op = .neq) :
    Does P (execOp cv o) ρ H B N w (.bool (if op = .eql then a == b else !(a == b))) [] := by
  have h1 := cx.rel x
  have h2 := cx.rel y
  rw [hx] at h1; rw [hy] at h2
  simp only [SlotRel] at h1 h2
  have hg : (eqGuard op t x y (.bool a) (.bool b)).run P w = .ok () w := by
    unfold eqGuard; split <;> rfl
  have heq : (Op.equal t (.bool a) (.bool b)).run P w = .ok (a == b) w := by
    exact equalIn_bool 9999 (cx.ty _ _ ht).bool a b w
  refine Does.same cx.hr (c := .bool (if op = .eql then a == b else !(a == b))) ?_ (by simp only [SlotRel])
  rcases hop with rfl | rfl
  · simp only [execOp, ho, h1, h2, Sem.run_bind, hg, Result.andThen_ok, binOp, heq, Sem.run_pure]
    simp
  · simp only [execOp, ho, h1, h2, Sem.run_bind, hg, Result.andThen_ok, binOp, heq, Sem.run_pure]
    simp

theorem blt_run {o : Oper} {b : Builtin} {args : Array Operand} {ts : Array Nat} (ho : o.op = .call ⟨.builtin b, args, ts⟩) : ∃ cs, execOp cv o = builtin b ts o.type cs (args.map cv) := by
  refine ⟨args.map fun | .const _ => true | _ => false, ?_⟩
  simp only [execOp, ho, resolve]
  rfl

theorem op_len (cx : Cx P T ρ H B N w e cv) {o : Oper} {args : Array Operand} {ts : Array Nat} (ho : o.op = .call ⟨.builtin .len, args, ts⟩) {x : Operand} {t : Nat} (ha : args.toList = [x]) (hts : ts.toList = [t])
    {v : AV} {u : Upd} {C : Prop} {d m : Nat} (h : (aop T d e (.blt m .len [x] [t])).run H = .val v u C) : Does P (execOp cv o) ρ H B N w v u := by
  have hx := cx.rel x
  obtain ⟨cs, hrun⟩ := blt_run (cv := cv) ho
  have ha' : args = #[x] := by rw [← Array.toList_inj]; simpa using ha
  have hts' : ts = #[t] := by rw [← Array.toList_inj]; simpa using hts
  subst ha'; subst hts'
  simp only [aop, List.map_cons, List.map_nil] at h
  split at h
  · rename_i el s0 b0 z0 e0
    have hex : ∀ a (n c : Nat), cv x = .slice a n c → (execOp cv o).run P w = .ok (.value (.int .i64 (n : Nat))) w := by
      intro a n c hc
      rw [hrun]
      simp [builtin, Builtin.len_, run_underlying (cx.ty _ _ e0).slice, hc, goInt]
    split at h
    · rename_i sz tg xs ex
      simp only [Ask.run, Ev.val.injEq] at h
      obtain ⟨rfl, rfl, _⟩ := h
      rw [ex] at hx
      obtain ⟨a, cap, e4, _⟩ := hx
      simp at e4
      exact Does.same cx.hr (hex _ _ _ e4) (by simp only [SlotRel])
    · rename_i id ex
      simp only [Ask.run] at h
      split at h
      · rename_i sz xs f hb
        simp only [Ask.run, Ev.val.injEq] at h
        obtain ⟨rfl, rfl, _⟩ := h
        rw [ex] at hx
        obtain ⟨sz', xs', ec, hh⟩ := hx _ hb
        cases ec
        rcases hh with ⟨rfl, _, a, hv⟩ | ⟨k, cap, arr, T', g1, g2, _⟩
        · exact Does.same cx.hr (hex _ _ _ hv) (by simp only [SlotRel]; rfl)
        · exact Does.same cx.hr (hex _ _ _ g2) (by simp only [SlotRel])
      · simp [Ask.run] at h
    · simp [Ask.run] at h
  · rename_i s0 b0 z0 e0
    split at h
    · rename_i s ex
      simp only [Ask.run, Ev.val.injEq] at h
      obtain ⟨rfl, rfl, _⟩ := h
      rw [ex] at hx
      simp only [SlotRel] at hx
      refine Does.same cx.hr (c := .int .i64 (s.size : Nat)) ?_ (by simp only [SlotRel])
      rw [hrun]
      simp [builtin, Builtin.len_, run_underlying (cx.ty _ _ e0).string, hx, goInt]
    · simp [Ask.run] at h
  · simp [Ask.run] at h

theorem op_maxmin (cx : Cx P T ρ H B N w e cv) {o : Oper} {args : Array Operand} {ts : Array Nat} {bi : Builtin} (hbi : bi = .max ∨ bi = .min) (ho : o.op = .call ⟨.builtin bi, args, ts⟩) {x y : Operand} (ha : args.toList = [x, y])
    {k k' : IntKind} {a b : Int} (hx : e x = .int k a) (hy : e y = .int k' b) : Does P (execOp cv o) ρ H B N w (.int k (if bi = .max then (if b > a then b else a) else (if b < a then b else a))) [] := by
  have h1 := cx.rel x
  have h2 := cx.rel y
  rw [hx] at h1; rw [hy] at h2
  simp only [SlotRel] at h1 h2
  obtain ⟨cs, hrun⟩ := blt_run (cv := cv) ho
  have ha' : args = #[x, y] := by rw [← Array.toList_inj]; simpa using ha
  subst ha'
  refine Does.same cx.hr (c := .int k (if bi = .max then (if b > a then b else a) else (if b < a then b else a))) ?_ (by simp only [SlotRel])
  rw [hrun]
  rcases hbi with rfl | rfl
  · simp [builtin, Builtin.max_, Builtin.max2, h1, h2]
  · simp [builtin, Builtin.min_, Builtin.min2, h1, h2]

end
end Go.Abs
/- Operations of the model do what the abstract ones say, sixth part: append, and equality of arrays: for every program, world and state. -/
namespace Go.Abs
section
variable {P : Program} {T : Tys} {ρ : Nat → Option Nat} {H : Hp} {B N : Nat → Prop} {w : World} {e : Operand → AV} {cv : Operand → Value}

theorem growBy_le (need : Nat) : ∀ (r c : Nat), c < need → 256 ≤ c → Builtin.growBy need r c ≤ 2 * need
  | 0, c, h, _ => by simp [Builtin.growBy]; omega
  | r + 1, c, h, h2 => by
    simp only [Builtin.growBy]
    rw [if_neg (by omega)]
    by_cases hc : c + (c + 768) / 4 < need
    · exact growBy_le need r _ hc (by omega)
    · cases r with
      | zero => simp [Builtin.growBy]; omega
      | succ r => simp only [Builtin.growBy]; rw [if_pos (by omega)]; omega

theorem nextcap_le {need old : Nat} (h : old < need) : Builtin.nextslicecap need old ≤ 2 * need := by
  unfold Builtin.nextslicecap
  split
  · omega
  · split
    · omega
    · exact growBy_le need 4 old h (by omega)

/-- What a slice's first elements are. -/
theorem run_first {size n : Nat} {a : Option Addr} {len cap : Nat} {cs : List Value} (h : (n = 0 ∧ cs = []) ∨ ∃ k off, a = some ⟨k, off, none⟩ ∧ Reads w k off cs ∧ cs.length = n * size) : (Builtin.firstCells size n (.slice a len cap)).run P w = .ok cs.toArray w := by
  rcases h with ⟨rfl, rfl⟩ | ⟨k, off, rfl, hr, hl⟩
  · cases a with
    | none => simp [Builtin.firstCells]
    | some a =>
      simp only [Builtin.firstCells, Nat.zero_mul]
      rfl
  · simp only [Builtin.firstCells]
    rw [← hl]
    exact run_loadReads hr

theorem reads_heap {w w' : World} (h : w'.heap = w.heap) {k off : Nat} {cs : List Value} (hr : Reads w k off cs) : Reads w' k off cs := by
  intro j hj
  rw [← hr j hj]
  exact cell?_block (by rw [h])

/-- append: within the capacity. -/
theorem run_append_fits {o : Oper} {args : Array Operand} {ts : Array Nat} (ho : o.op = .call ⟨.builtin .append, args, ts⟩) {s x : Operand} {t t2 el el2 : Nat} (ha : args.toList = [s, x]) (hts : ts.toList = [t, t2])
    (h1 : P.underlying t = some (.slice el)) (h2 : P.underlying t2 = some (.slice el2)) {i : TyA} (hte : TyOk P el i) {base a : Option Addr} {sLen sCap n c2 : Nat} {ds : List Value} (hs : cv s = .slice base sLen sCap) (hx : cv x = .slice a n c2)
    (hd : (Builtin.firstCells i.size n (.slice a n c2)).run P w = .ok ds.toArray w) (hfit : sLen + n ≤ sCap) {w' : World}
    (hst : (match base with | some b => storeCells (b.add (sLen * i.size)) ds | none => pure ()).run P w = .ok () w') : (execOp cv o).run P w = .ok (.value (.slice base (sLen + n) sCap)) w' := by
  obtain ⟨cs, hrun⟩ := blt_run (cv := cv) ho
  have ha' : args = #[s, x] := by rw [← Array.toList_inj]; simpa using ha
  have hts' : ts = #[t, t2] := by rw [← Array.toList_inj]; simpa using hts
  subst ha'; subst hts'
  rw [hrun]
  simp only [builtin, Builtin.append_, List.map_toArray, List.map_cons, List.map_nil, hs, hx]
  simp only [List.getElem?_toArray, List.getElem?_cons_zero, List.getElem?_cons_succ, Sem.run_bind, run_underlying h1, run_underlying h2, hte.run_size, Result.andThen_ok, Sem.run_pure, Bool.false_eq_true, if_false, Builtin.lenOf, if_pos hfit, Bool.not_false, if_true, hd]
  cases base with
  | none =>
    simp only [Sem.run_pure, Result.ok.injEq, true_and] at hst
    subst hst; rfl
  | some b =>
    simp only [Sem.run_bind] at hst ⊢
    simp only [hst, Result.andThen_ok, Sem.run_pure]

/-- append: beyond the capacity: a new block. -/
theorem run_append_grows {o : Oper} {args : Array Operand} {ts : Array Nat} (ho : o.op = .call ⟨.builtin .append, args, ts⟩) {s x : Operand} {t t2 el el2 : Nat} (ha : args.toList = [s, x]) (hts : ts.toList = [t, t2])
    (h1 : P.underlying t = some (.slice el)) (h2 : P.underlying t2 = some (.slice el2)) {i : TyA} (hte : TyOk P el i) {base a : Option Addr} {sLen sCap n c2 : Nat} {ds os : List Value} (hs : cv s = .slice base sLen sCap) (hx : cv x = .slice a n c2)
    (hd : ∀ w', w'.heap = w.heap → (Builtin.firstCells i.size n (.slice a n c2)).run P w' = .ok ds.toArray w') (hos : ∀ w', w'.heap = w.heap → (Builtin.firstCells i.size sLen (.slice base sLen sCap)).run P w' = .ok os.toArray w') (hfit : ¬ sLen + n ≤ sCap)
    (hbd : (sLen + n) * i.bytes ≤ 140737488355328) (hb0 : 0 < i.bytes) (hl1 : os.length = sLen * i.size) (hl2 : ds.length = n * i.size) :
    ∃ cap rest, sLen + n ≤ cap ∧ (os ++ ds ++ rest).length = cap * i.size ∧ (execOp cv o).run P w = .ok (.value (.slice (some ⟨w.heap.size, 0, none⟩) (sLen + n) cap)) (w.drew.alloc (.cells (os ++ ds ++ rest).toArray el)) := by
  obtain ⟨cs, hrun⟩ := blt_run (cv := cv) ho
  have ha' : args = #[s, x] := by rw [← Array.toList_inj]; simpa using ha
  have hts' : ts = #[t, t2] := by rw [← Array.toList_inj]; simpa using hts
  subst ha'; subst hts'
  obtain ⟨f, f1, f2, f3, z, f4, f5⟩ := hte.info
  have hneed : sLen + n ≤ 140737488355328 := Nat.le_trans (Nat.le_mul_of_pos_right _ hb0) hbd
  have hnext : ¬ Builtin.nextslicecap (sLen + n) sCap * i.bytes > 2 ^ 48 := by
    have := nextcap_le (need := sLen + n) (old := sCap) (by omega)
    have h3 : Builtin.nextslicecap (sLen + n) sCap * i.bytes ≤ 2 * (sLen + n) * i.bytes := Nat.mul_le_mul_right _ this
    have h4 : 2 * (sLen + n) * i.bytes = 2 * ((sLen + n) * i.bytes) := Nat.mul_assoc _ _ _
    omega
  have hmax : ¬ (((sLen + n : Nat) : Int) > IntKind.i64.max ∧ (false = true ∨ i.bytes = 0)) := by
    rintro ⟨_, h | h⟩
    · cases h
    · omega
  let cap := sLen + n + w.tape w.drawn (.appendCap (sLen + n) sCap el) % (2 ^ 63 - (sLen + n))
  have hzsize : z.cells.size = i.size := by
    have := (flat_rel (fun _ => True) w _ _ f5).len
    rw [← Array.length_toList, this, hte.zsize]
  have hzrun : ∀ w, (zeroValue el).run P w = .ok z w := fun w => by simp [zeroValue, run_typeInfo f1, f4]
  refine ⟨cap, (Builtin.zeroCells z.cells (cap - (sLen + n))).toList, by simp only [cap]; omega, ?_, ?_⟩
  · simp only [List.length_append, hl1, hl2, Builtin.zeroCells, Array.toList_map, List.length_map, Array.toList_range, List.length_range, hzsize]
    rw [← Nat.add_mul, ← Nat.add_mul]
    congr 1
    simp only [cap]; omega
  · rw [hrun]
    simp only [builtin, Builtin.append_, List.map_toArray, List.map_cons, List.map_nil, hs, hx]
    simp only [List.getElem?_toArray, List.getElem?_cons_zero, List.getElem?_cons_succ, Sem.run_bind, run_underlying h1, run_underlying h2, hte.run_size, Result.andThen_ok, Sem.run_pure, Bool.false_eq_true, if_false, Builtin.lenOf, if_neg hfit, Bool.not_false, if_true, run_typeInfo f1, f3]
    rw [if_neg (by simpa using hmax)]
    simp only [Sem.run_bind, run_typeInfo f1, Result.andThen_ok, f3]
    rw [if_neg hnext]
    simp only [Sem.run_bind, run_choose, Question.forced, Bool.false_eq_true, if_false, Result.andThen_ok, Question.cut, run_typeInfo f1, run_askRoom, hos { w with drawn := w.drawn + 1 } rfl, hd { w with drawn := w.drawn + 1 } rfl, hzrun, newRow, run_newObj, Sem.run_pure]
    have : os.toArray ++ ds.toArray ++ Builtin.zeroCells z.cells (cap - (sLen + n)) = (os ++ ds ++ (Builtin.zeroCells z.cells (cap - (sLen + n))).toList).toArray := by
      rw [← Array.toList_inj]; simp
    simp only [cap] at this ⊢
    rw [← this]
    rfl


/-- The cells of what is appended. -/
theorem first_of_sl {S : Nat → Prop} {sz c : Nat} {t : Bool} {ys : List AV} {a : Option Addr} {n c2 : Nat} (h : VRel S w (.sl sz t ys) [.slice a n c2]) (hsz : ys = [] ∨ sz = c) :
    n = ys.length ∧ ∃ ds, VAll S w (fun _ => c) 0 ys ds ∧ ds.length = ys.length * c ∧ ∀ w', w'.heap = w.heap → (Builtin.firstCells c ys.length (.slice a n c2)).run P w' = .ok ds.toArray w' := by
  obtain ⟨a', cap', e, l, _, r⟩ := h
  simp only [List.cons.injEq, Value.slice.injEq, and_true] at e
  obtain ⟨rfl, rfl, rfl⟩ := e
  refine ⟨rfl, ?_⟩
  rcases r with rfl | ⟨k, off, vs, e1, hS, hv, hr⟩
  · exact ⟨[], rfl, by simp, fun w' _ => run_first (.inl ⟨rfl, rfl⟩)⟩
  · rcases hsz with rfl | rfl
    · exact ⟨[], rfl, by simp, fun w' _ => run_first (.inl ⟨rfl, rfl⟩)⟩
    · have hl := hv.len
      rw [pre_const] at hl
      exact ⟨vs, hv, hl, fun w' hw => run_first (.inr ⟨k, off, e1, reads_heap hw hr, hl⟩)⟩

theorem op_append (cx : Cx P T ρ H B N w e cv) {o : Oper} {args : Array Operand} {ts : Array Nat} (ho : o.op = .call ⟨.builtin .append, args, ts⟩) {s x : Operand} {t t2 : Nat} (ha : args.toList = [s, x]) (hts : ts.toList = [t, t2])
    {v : AV} {u : Upd} {C : Prop} {d m : Nat} (h : (aop T d e (.blt m .append [s, x] [t, t2])).run H = .val v u C) (hC : C) : Does P (execOp cv o) ρ H B N w v u := by
  have hs0 := cx.rel s
  simp only [aop, List.map_cons, List.map_nil] at h
  split at h
  · rename_i el s0 b0 z0 el2 s2 b2 z2 e0 e2
    split at h
    · rename_i i hi
      have hte := cx.ty _ _ hi
      have h1 := (cx.ty _ _ e0).slice
      have h2 := (cx.ty _ _ e2).slice
      obtain ⟨x', u', hk, hu, hp, _, hfs⟩ := frz_elim h (by simp)
      have hx := hfs ρ B N w _ cx.hr (cx.rel x)
      have hr1 := FU.hrel cx.hr hu
      have hsl := FU.slot cx.hr hu hs0
      split at hk
      · rename_i sz tg ys _
        obtain ⟨a, c2, ex, lx, tx, rx⟩ := hx
        simp only [List.cons.injEq, and_true] at ex
        have hxs : VRel (Sof ρ (updH H u') B) w (.sl sz tg ys) [.slice a ys.length c2] := ⟨a, c2, rfl, lx, tx, rx⟩
        split at hk
        · -- a slice that is full, or nil
          rename_i sz' xs es
          rw [es] at hsl
          obtain ⟨b, cap, e4, l4, t4, r4⟩ := hsl
          simp only [List.cons.injEq, and_true] at e4
          have hss : VRel (Sof ρ (updH H u') B) w (.sl sz' true xs) [.slice b xs.length cap] := ⟨b, cap, rfl, l4, t4, r4⟩
          have hcap := t4 rfl
          have grow : ∀ (hsz1 : xs = [] ∨ sz' = i.size) (hsz2 : ys = [] ∨ sz = i.size) (hbd : (xs.length + ys.length) * i.bytes ≤ 140737488355328) (hb0 : 0 < i.bytes) (hfit : ¬ xs.length + ys.length ≤ cap),
              ∃ cp rest os ds, xs.length + ys.length ≤ cp ∧ (os ++ ds ++ rest).length = cp * i.size ∧ VAll (Sof ρ (updH H u') B) w (fun _ => i.size) 0 (xs ++ ys) (os ++ ds) ∧
                (execOp cv o).run P w = .ok (.value (.slice (some ⟨w.heap.size, 0, none⟩) (xs.length + ys.length) cp)) (w.drew.alloc (.cells (os ++ ds ++ rest).toArray el)) := by
            intro hsz1 hsz2 hbd hb0 hfit
            obtain ⟨_, os, os1, os2, os3⟩ := first_of_sl (P := P) (c := i.size) hss hsz1
            obtain ⟨_, ds, ds1, ds2, ds3⟩ := first_of_sl (P := P) (c := i.size) hxs hsz2
            obtain ⟨cp, rest, g1, g2, g3⟩ := run_append_grows (P := P) ho ha hts h1 h2 hte e4 ex ds3 os3 hfit hbd hb0 os2 ds2
            exact ⟨cp, rest, os, ds, g1, g2, VAll.append _ _ _ _ 0 0 os1 ds1, g3⟩
          have hdrew : Only No w w.drew := Only.drew _ _
          split at hk
          · simp only [fresh, Ask.run] at hk
            split at hk
            · rename_i hn
              simp only [Ask.run, Ev.val.injEq] at hk
              obtain ⟨rfl, rfl, rfl⟩ := hk
              obtain ⟨c1, c2', c3, c4, c5, c6⟩ := hC
              by_cases hfit : xs.length + ys.length ≤ cap
              · -- nothing is appended to nothing
                have hy0 : ys = [] := by
                  have : ys.length = 0 := by omega
                  exact List.eq_nil_of_length_eq_zero this
                have hx0 : xs = [] := by
                  rcases c1 with h | h
                  · exact h
                  · exact (h hy0).elim
                subst hy0; subst hx0
                have hrun := run_append_fits (P := P) (w := w) ho ha hts h1 h2 hte e4 ex (ds := []) (run_first (.inl ⟨rfl, rfl⟩)) hfit (w' := w) (by cases b <;> simp [storeCells])
                have hst := Step.empty hr1 (nid d 0) i.size
                have hH : (fun j => if j = nid d 0 then some ⟨AV.row i.size [], false⟩ else updH H u' j) = updH H ((nid d 0, some ⟨.row i.size ([] ++ []), false⟩) :: u') := by
                  rw [updH_cons]; rfl
                rw [hH] at hst
                refine Does.after (x := [(nid d 0, some ⟨.row i.size ([] ++ []), false⟩)]) cx.hr hu hrun (.inl rfl) hst (fun id hid => ?_) ?_
                · subst hid; exact ⟨hn, ⟨.row i.size ([] ++ []), false⟩, by simp [look]⟩
                · intro bb hbb
                  have : bb = ⟨.row i.size ([] ++ []), false⟩ := by
                    have : updH H ([(nid d 0, some ⟨.row i.size ([] ++ []), false⟩)] ++ u') (nid d 0) = some ⟨.row i.size ([] ++ []), false⟩ := by simp [updH, look]
                    rw [this] at hbb; cases hbb; rfl
                  subst this
                  refine ⟨i.size, [], rfl, .inl ⟨rfl, by simp, b, ?_⟩⟩
                  rw [hcap]; rfl
              · obtain ⟨cp, rest, os, ds, g1, g2, g3, g4⟩ := grow c2' c3 c4 c5 hfit
                refine Does.alloc cx.hr cx.nb hu hn g4 (hdrew.trans (Only.alloc _ _ _ _)) (by simp) (heap_new w.drew (.cells (os ++ ds ++ rest).toArray el)) (cs := os ++ ds) (ext := rest) (by simp) (by simp only [VRel]; exact g3) ?_
                intro ρ' H' S' hρ hH bb hbb
                rw [hH] at hbb; cases hbb
                refine ⟨i.size, _, rfl, .inr ⟨w.heap.size, cp, _, el, hρ, by simp, by simpa using g1, heap_new w.drew (.cells (os ++ ds ++ rest).toArray el), ?_⟩⟩
                rw [List.size_toArray, g2]; exact Nat.le_refl _
            · simp [Ask.run] at hk
          · simp only [Ask.run, Ev.val.injEq] at hk
            obtain ⟨rfl, rfl, rfl⟩ := hk
            obtain ⟨c2', c3, c4, c5, c6⟩ := hC
            by_cases hfit : xs.length + ys.length ≤ cap
            · have hy0 : ys = [] := by
                have : ys.length = 0 := by omega
                exact List.eq_nil_of_length_eq_zero this
              subst hy0
              have hrun := run_append_fits (P := P) (w := w) ho ha hts h1 h2 hte e4 ex (ds := []) (run_first (.inl ⟨rfl, rfl⟩)) hfit (w' := w) (by cases b <;> simp [storeCells])
              refine Does.fu cx.hr hu hrun ?_
              simp only [SlotRel, List.append_nil, List.length_nil, Nat.add_zero]
              rcases r4 with rfl | r4
              · exact ⟨b, cap, rfl, by simp, by simp, .inl rfl⟩
              · rcases c2' with rfl | rfl
                · exact ⟨b, cap, rfl, by simp, by simp, .inl rfl⟩
                · exact ⟨b, cap, rfl, l4, by simp, .inr r4⟩
            · obtain ⟨cp, rest, os, ds, g1, g2, g3, g4⟩ := grow c2' c3 c4 c5 hfit
              have ho1 : Only No w (w.drew.alloc (.cells (os ++ ds ++ rest).toArray el)) := hdrew.trans (Only.alloc _ _ _ _)
              have hst := Step.grown hr1 ho1 (newOk_alloc _ _ rfl)
              refine Does.after (x := []) cx.hr hu g4 (.inl rfl) hst (fun _ x => x.elim) ?_
              simp only [SlotRel, VRel]
              refine ⟨_, cp, by rw [List.length_append], by simpa using g1, by simp, .inr ⟨w.heap.size, 0, os ++ ds, rfl, ?_, VAll.keep hst.sof hst.kept _ _ _ _ g3, ?_⟩⟩
              · exact sof_new hr1 (Nat.le_refl _) (by simp)
              · exact reads_block (heap_new w.drew (.cells (os ++ ds ++ rest).toArray el)) (ext := rest) (by simp)
        · -- a slice of the call's own
          rename_i id es
          simp only [Ask.run] at hk
          split at hk
          · rename_i sz' xs hb
            simp only [fresh, Ask.run] at hk
            split at hk
            · rename_i hn
              simp only [Ask.run, Ev.val.injEq] at hk
              obtain ⟨rfl, rfl, rfl⟩ := hk
              obtain ⟨rfl, c3, c4, c5, c6, c7⟩ := hC
              have hne : nid d 0 ≠ id := fun e => by rw [e, hb] at hn; cases hn
              have hb1 : updH H u' id = some ⟨.row i.size xs, false⟩ := by
                have : ∀ (l : Upd), l.all (fun q => q.1 != id) = true → look l id = none := by
                  intro l hl
                  induction l with
                  | nil => rfl
                  | cons q l ih =>
                    obtain ⟨j, y⟩ := q
                    simp only [List.all_cons, Bool.and_eq_true, bne_iff_ne, ne_eq] at hl
                    have hj : Nat.beq j id = false := by rw [← Bool.not_eq_true, Nat.beq_eq]; exact hl.1
                    simp only [look, hj]
                    exact ih hl.2
                unfold updH; rw [this u' c7]; exact hb
              have hH : (fun j => if j = nid d 0 then some ⟨.row i.size (xs ++ ys), false⟩ else if j = id then none else updH H u' j) = updH H ((nid d 0, some ⟨.row i.size (xs ++ ys), false⟩) :: (id, none) :: u') := by
                rw [updH_cons, updH_cons]
              have hnew : NewIds H ([(nid d 0, some ⟨.row i.size (xs ++ ys), false⟩), (id, none)] ++ u') (nid d 0) := ⟨hn, ⟨.row i.size (xs ++ ys), false⟩, by simp [look]⟩
              rw [es] at hsl
              obtain ⟨sz2, xs2, ec, hh⟩ := hsl _ hb1
              cases ec
              -- the elder name is forgotten
              have hforget : ∀ {w2 : World} {ρ2 : Nat → Option Nat} {H2 : Hp} {B2 : Nat → Prop}, HRel ρ2 H2 B2 N w2 → Step No ρ2 H2 B2 N w2 ρ2 (fun j => if j = id then none else H2 j) w2 := by
                intro w2 ρ2 H2 B2 hr2
                refine Step.frozen hr2 rfl ⟨rfl, rfl, rfl⟩ fun j b' hj => ?_
                by_cases e : j = id
                · simp [e] at hj
                · simp only [e, if_false] at hj; exact ⟨b', hj, rfl, fun x => x⟩
              have grow : ∀ (base : Option Addr) (cap : Nat) (os : List Value), cv s = .slice base xs.length cap → VAll (Sof ρ (updH H u') B) w (fun _ => i.size) 0 xs os → os.length = xs.length * i.size →
                  (∀ w', w'.heap = w.heap → (Builtin.firstCells i.size xs.length (.slice base xs.length cap)).run P w' = .ok os.toArray w') → ¬ xs.length + ys.length ≤ cap →
                  Does P (execOp cv o) ρ H B N w (.osl (nid d 0)) ((nid d 0, some ⟨.row i.size (xs ++ ys), false⟩) :: (id, none) :: u') := by
                intro base cap os e4 os1 os2 os3 hfit
                obtain ⟨_, ds, ds1, ds2, ds3⟩ := first_of_sl (P := P) (c := i.size) hxs c3
                obtain ⟨cp, rest, g1, g2, g3⟩ := run_append_grows (P := P) ho ha hts h1 h2 hte e4 ex ds3 os3 hfit c4 c5 os2 ds2
                have hst1 := hforget hr1
                have hr2 := hst1.heap
                rw [Bself] at hr2
                have hhb : (w.drew.alloc (.cells (os ++ ds ++ rest).toArray el)).heap[w.heap.size]? = some (.cells (os ++ ds ++ rest).toArray el (0, 0)) := by
                  exact heap_new w.drew (.cells (os ++ ds ++ rest).toArray el)
                have ho1 : Only No w (w.drew.alloc (.cells (os ++ ds ++ rest).toArray el)) := (Only.drew _ _).trans (Only.alloc _ _ _ _)
                have hvall := VAll.append _ _ _ _ 0 0 os1 ds1
                have hsof := hst1.sof
                rw [Bself] at hsof
                have hst2 := Step.alloc hr2 ho1 (n := nid d 0) (k := w.heap.size) (c := .row i.size (xs ++ ys)) (Nat.le_refl _) (by simp) (cx.nb _ (Nat.le_refl _)) hhb (cs := os ++ ds) (ext := rest) (by simp)
                  (by simp only [VRel]; exact VAll.keep hsof (fun _ _ _ => rfl) _ _ _ _ hvall) (newOk_alloc _ _ rfl)
                rw [hH] at hst2
                have hst := hst1.trans (by rw [Bself]; exact hst2)
                refine Does.after (x := [(nid d 0, some ⟨.row i.size (xs ++ ys), false⟩), (id, none)]) cx.hr hu g3 (.inl rfl) hst (fun j hj => ?_) ?_
                · rcases hj with hj | hj
                  · exact hj.elim
                  · rw [hj]; exact hnew
                · intro bb hbb
                  have : updH H ([(nid d 0, some ⟨.row i.size (xs ++ ys), false⟩), (id, none)] ++ u') (nid d 0) = some ⟨.row i.size (xs ++ ys), false⟩ := by simp [updH, look]
                  rw [this] at hbb; cases hbb
                  refine ⟨i.size, _, rfl, .inr ⟨w.heap.size, cp, _, el, by simp, by simp, by simpa using g1, hhb, ?_⟩⟩
                  rw [List.size_toArray, g2]; exact Nat.le_refl _
              rcases hh with ⟨hx0, hρ, a0, hv0⟩ | ⟨k, cap, arr, Ty, hρ, hv0, hle, hw, hcap⟩
              · subst hx0
                by_cases hfit : ([] : List AV).length + ys.length ≤ 0
                · have hy0 : ys = [] := List.eq_nil_of_length_eq_zero (by simpa using hfit)
                  subst hy0
                  have hrun := run_append_fits (P := P) (w := w) ho ha hts h1 h2 hte hv0 ex (ds := []) (run_first (.inl ⟨rfl, rfl⟩)) hfit (w' := w) (by cases a0 <;> simp [storeCells])
                  have hst1 := hforget hr1
                  have hr2 := hst1.heap
                  rw [Bself] at hr2
                  have hst2 := Step.empty hr2 (nid d 0) i.size
                  have hst := hst1.trans (by rw [Bself]; exact hst2)
                  have hH' : (fun j => if j = nid d 0 then some ⟨AV.row i.size [], false⟩ else if j = id then none else updH H u' j) = updH H ((nid d 0, some ⟨.row i.size ([] ++ []), false⟩) :: (id, none) :: u') := hH
                  rw [hH'] at hst
                  refine Does.after (x := [(nid d 0, some ⟨.row i.size ([] ++ []), false⟩), (id, none)]) cx.hr hu hrun (.inl rfl) hst (fun j hj => ?_) ?_
                  · rcases hj with hj | hj
                    · exact hj.elim
                    · rw [hj]; exact hnew
                  · intro bb hbb
                    have : updH H ([(nid d 0, some ⟨.row i.size ([] ++ []), false⟩), (id, none)] ++ u') (nid d 0) = some ⟨.row i.size ([] ++ []), false⟩ := by simp [updH, look]
                    rw [this] at hbb; cases hbb
                    exact ⟨i.size, [], rfl, .inl ⟨rfl, by simp, a0, rfl⟩⟩
                · exact grow a0 0 [] hv0 rfl (by simp) (fun w' _ => run_first (.inl ⟨rfl, rfl⟩)) hfit
              · rcases hr1.at_ id _ hb1 with ⟨sz3, h3, h4⟩ | ⟨q, arr', Ty', cs, ext, g1, g2, g3, g4, g5, g6⟩
                · rw [h4] at hρ; cases hρ
                · rw [hρ] at g1; cases g1
                  rw [hw] at g4; cases g4
                  simp only [VRel] at g6
                  have hl6 := g6.len
                  rw [pre_const] at hl6
                  have hrd := reads_block hw g5
                  by_cases hfit : xs.length + ys.length ≤ cap
                  · obtain ⟨_, ds, ds1, ds2, ds3⟩ := first_of_sl (P := P) (c := i.size) hxs c3
                    have hsz : arr.size = xs.length * i.size + ext.length := by rw [← Array.length_toList, g5, List.length_append, hl6]
                    have hcapm : (xs.length + ys.length) * i.size ≤ cap * i.size := Nat.mul_le_mul_right _ hfit
                    rw [Nat.add_mul] at hcapm
                    obtain ⟨w', arr2, r1, r2, r3, r4, r5, r6⟩ := run_storeCells (P := P) (k := k) (off := xs.length * i.size) (T := Ty) ds 0 w arr hw (by rw [ds2]; omega) (VAll.scalars _ _ _ _ ds1)
                    have hrun := run_append_fits (P := P) (w := w) ho ha hts h1 h2 hte hv0 ex (ds3 w rfl) hfit (w' := w') (by simp only [add_eq, Nat.zero_add]; exact r1)
                    have hst := Step.write hr1 (id := id) (n := nid d 0) (k := k) (c' := .row i.size (xs ++ ys)) hb1 hρ r4 r5 (cs' := cs ++ ds) (ext' := ext.drop ds.length) r2 (fun arr0 T0 h0 => by rw [hw] at h0; cases h0; exact r6)
                      (by
                        rw [r3, g5, Nat.add_zero, ← hl6, List.take_left, List.drop_length_add_append])
                      (by simp only [VRel]; exact VAll.append _ _ _ _ 0 0 g6 ds1) (fun e => (hne e).elim)
                    rw [hH] at hst
                    refine Does.after (x := [(nid d 0, some ⟨.row i.size (xs ++ ys), false⟩), (id, none)]) cx.hr hu hrun (.inl rfl) hst (fun j hj => by rw [hj.1]; exact hnew) ?_
                    intro bb hbb
                    have : updH H ([(nid d 0, some ⟨.row i.size (xs ++ ys), false⟩), (id, none)] ++ u') (nid d 0) = some ⟨.row i.size (xs ++ ys), false⟩ := by simp [updH, look]
                    rw [this] at hbb; cases hbb
                    refine ⟨i.size, _, rfl, .inr ⟨k, cap, arr2, Ty, by simp, by rw [List.length_append], by rw [List.length_append]; exact hfit, r2, by rw [r6]; exact hcap⟩⟩
                  · exact grow _ cap cs hv0 g6 hl6 (fun w' hw' => run_first (.inr ⟨k, 0, rfl, reads_heap hw' hrd, hl6⟩)) hfit
            · simp [Ask.run] at hk
          · simp [Ask.run] at hk
        · simp [Ask.run] at hk
      · simp [Ask.run] at hk
    · simp [Ask.run] at h
  · simp [Ask.run] at h

end
end Go.Abs
/- Every operation of the model does what the abstract one says: the joined statement; equality of arrays: for every program, world and state. -/
namespace Go.Abs
section
variable {P : Program} {T : Tys} {ρ : Nat → Option Nat} {H : Hp} {B N : Nat → Prop} {w : World} {e : Operand → AV} {cv : Operand → Value}

theorem eqbs_nth : ∀ (xs ys : List AV), xs.length = ys.length → (eqbs xs ys = true ↔ ∀ q, q < xs.length → eqb (nth xs q) (nth ys q) = true)
  | [], [], _ => by simp [eqbs]
  | x :: xs, y :: ys, h => by
    simp only [eqbs, Bool.and_eq_true, eqbs_nth xs ys (by simpa using h)]
    constructor
    · rintro ⟨h1, h2⟩ q hq
      cases q with
      | zero => exact h1
      | succ q => exact h2 q (by simpa using hq)
    · intro h
      exact ⟨h 0 (by simp), fun q hq => h (q + 1) (by simpa using hq)⟩
  | [], _ :: _, h => by simp at h
  | _ :: _, [], h => by simp at h

theorem cmp_kinds : ∀ {d t : Nat} {x y : AV} {i : TyA}, Cmp T d t x y → look T t = some i → x.plain = true ∧ y.plain = true ∧ x.isAgg = i.agg ∧ y.isAgg = i.agg
  | 0, _, _, _, _, h, _ => h.elim
  | d + 1, t, x, y, i, h, hi => by
    simp only [Cmp, hi] at h
    split at h
    · rename_i e1; simp [AV.plain, AV.isAgg, TyA.agg, e1, TyD.agg]
    · rename_i e1; simp [AV.plain, AV.isAgg, TyA.agg, e1, TyD.agg]
    · rename_i e1; simp [AV.plain, AV.isAgg, TyA.agg, e1, TyD.agg]
    · rename_i e1; simp [AV.plain, AV.isAgg, TyA.agg, e1, TyD.agg]
    · exact h.elim

/-- The fields of a struct whose values are compared. -/
theorem fields_at (hT : TysOk P T) {t : Nat} {i : TyA} (hi : look T t = some i) {fs : List (Nat × Nat)} {szs : List Nat} (e1 : i.d = .struct fs) (hf : fieldsOk T 0 fs szs = true) :
    ∃ fields : Array Field, P.underlying t = some (.struct fields) ∧ P.stoodInHeld t = false ∧ fields.toList.length = szs.length ∧
      ∀ q, q < szs.length → ∃ f j, fields.toList[q]? = some f ∧ f.name ≠ "_" ∧ f.type = (fs.getD q (0, 0)).2 ∧ look T f.type = some j ∧ f.offset = (szs.take q).sum ∧ j.size = szs.getD q 0 := by
  have ht := hT _ _ hi
  obtain ⟨dd, d1, d2⟩ := ht.desc
  rw [e1] at d2
  obtain ⟨fields, rfl⟩ : ∃ fields, dd = .struct fields := by cases dd <;> simp [TyD.of] at d2; exact ⟨_, rfl⟩
  simp only [TyD.of, TyD.struct.injEq] at d2
  have he := ht.eqOk
  rw [d1] at he
  simp only [Bool.and_eq_true, List.all_eq_true, Bool.not_eq_true'] at he
  obtain ⟨h1, h2⟩ := he
  obtain ⟨g1, _, g3⟩ := fieldsOk_spec hT fs szs 0 hf
  have hlen : fields.toList.length = szs.length := by rw [← g1, ← d2, List.length_map]
  refine ⟨fields, d1, h2, hlen, fun q hq => ?_⟩
  obtain ⟨f', j, k1, k2, k3, k4⟩ := g3 q hq
  have hq' : q < fields.toList.length := by omega
  have e2 : f' = (fields.toList[q].offset, fields.toList[q].type) := by
    rw [← d2, List.getElem?_map, List.getElem?_eq_getElem hq'] at k1
    simpa using k1.symm
  refine ⟨fields.toList[q], j, List.getElem?_eq_getElem hq', by simpa using h1 _ (List.getElem_mem hq'), ?_, ?_, ?_, k4⟩
  · rw [List.getD_eq_getElem?_getD, k1, e2]; rfl
  · rw [e2] at k2; exact k2
  · rw [e2] at k3; simpa using k3

theorem guard_false (hT : TysOk P T) : ∀ (d D t : Nat) (x y : AV), Cmp T d t x y → (∃ n, ∀ i, look T t = some i → n = i.size ∧ True) → d ≤ D → (∀ t n e s b z, look T t = some ⟨.arr n e, s, b, z⟩ → 0 < n) → P.eqGuardType D t = false
  | 0, _, _, _, _, h, _, _, _ => h.elim
  | d + 1, 0, _, _, _, _, _, hd, _ => by omega
  | d + 1, D + 1, t, x, y, h, _, hd, hpos => by
    simp only [Cmp] at h
    split at h
    · exact h.elim
    · rename_i i hi
      have ht := hT _ _ hi
      obtain ⟨dd, d1, d2⟩ := ht.desc
      split at h
      · rename_i e1
        rw [e1] at d2
        cases dd <;> simp [TyD.of] at d2
        simp [Program.eqGuardType, d1]
      · rename_i e1
        rw [e1] at d2
        cases dd <;> simp [TyD.of] at d2
        simp [Program.eqGuardType, d1]
      · rename_i n el sz m xs sz' m' ys e1
        obtain ⟨rfl, rfl, rfl, ⟨j, j1, rfl⟩, hall⟩ := h
        rw [e1] at d2
        have : dd = .array m' el := by cases dd <;> simp [TyD.of] at d2; rw [d2.1, d2.2]
        subst this
        simp only [Program.eqGuardType, d1]
        have h0 : 0 < m' := by
          obtain ⟨dt, s, b, z⟩ := i
          simp only at e1
          subst e1
          exact hpos t _ _ s b z hi
        exact guard_false hT d D el _ _ (hall 0 h0).2 ⟨j.size, fun i hi => by rw [j1] at hi; cases hi; exact ⟨rfl, trivial⟩⟩ (by omega) hpos
      · rename_i fs szs xs szs' ys e1
        obtain ⟨rfl, hx, hy, hf, hall⟩ := h
        obtain ⟨fields, u1, u2, u3, u4⟩ := fields_at hT hi e1 hf
        simp only [Program.eqGuardType, u1]
        rw [← Array.any_toList, List.any_eq_false]
        intro f hfm
        obtain ⟨q, hq, rfl⟩ := List.getElem_of_mem hfm
        obtain ⟨f', j, k1, k2, k3, k4, _⟩ := u4 q (by omega)
        rw [List.getElem?_eq_getElem hq] at k1
        obtain rfl : fields.toList[q] = f' := Option.some.inj k1
        have := guard_false hT d D _ _ _ (hall q (by omega)) ⟨j.size, fun i hi => by rw [← k3, k4] at hi; cases hi; exact ⟨rfl, trivial⟩⟩ (by omega) hpos
        rw [← k3] at this
        rw [this, Bool.and_false]
        simp
      · exact h.elim

theorem forin_all {f : Nat → (Option Bool × Unit) → Sem (ForInStep (Option Bool × Unit))} {m : Nat} (p : Nat → Bool) (hf : ∀ q, q < m → (f q (none, ())).run P w = .ok (cond (p q) (.yield (none, ())) (.done (some false, ()))) w) :
    ∀ c s, s + c ≤ m → (forIn (List.range' s c) (none, ()) f).run P w = .ok (cond ((List.range' s c).all p) (none, ()) (some false, ())) w
  | 0, s, _ => by simp
  | c + 1, s, h => by
    have ih := forin_all p hf c (s + 1) (by omega)
    rw [List.range'_succ]
    simp only [List.forIn_cons, Sem.run_bind, hf s (by omega), Result.andThen_ok, List.all_cons]
    generalize p s = b
    cases b
    · rfl
    · exact ih

theorem run_equal (hT : TysOk P T) {S : Nat → Prop} : ∀ (d t : Nat) (x y : AV) (c1 c2 : List Value) (D : Nat), Cmp T d t x y → VRel S w x c1 → VRel S w y c2 → d ≤ D → (Op.equalIn D t (pack x c1) (pack y c2)).run P w = .ok (eqb x y) w
  | 0, _, _, _, _, _, _, h, _, _, _ => h.elim
  | d + 1, t, x, y, c1, c2, 0, _, _, _, hd => by omega
  | d + 1, t, x, y, c1, c2, D + 1, h, hx, hy, hd => by
    simp only [Cmp] at h
    split at h
    · exact h.elim
    · rename_i i hi
      have ht := hT _ _ hi
      split at h
      · rename_i k0 k a k' b e1
        subst h
        obtain ⟨dd, d1, d2⟩ := ht.desc
        rw [e1] at d2
        have : dd = .int k0 := by cases dd <;> simp [TyD.of] at d2; rw [d2]
        subst this
        simp only [VRel] at hx hy
        subst hx; subst hy
        simp only [pack, List.headD_cons, Op.equalIn, Sem.run_bind, run_underlying d1, Result.andThen_ok, if_true, Sem.run_pure, eqb]
      · rename_i a b e1
        obtain ⟨dd, d1, d2⟩ := ht.desc
        rw [e1] at d2
        have : dd = .bool := by cases dd <;> simp [TyD.of] at d2; rfl
        subst this
        simp only [VRel] at hx hy
        subst hx; subst hy
        simp only [pack, List.headD_cons, Op.equalIn, Sem.run_bind, run_underlying d1, Result.andThen_ok, Sem.run_pure, eqb]
      · rename_i n el sz m xs sz' m' ys e1
        obtain ⟨rfl, rfl, rfl, ⟨j, j1, rfl⟩, hall⟩ := h
        obtain ⟨dd, d1, d2⟩ := ht.desc
        rw [e1] at d2
        have : dd = .array m' el := by cases dd <;> simp [TyD.of] at d2; rw [d2.1, d2.2]
        subst this
        have hte := hT _ _ j1
        simp only [VRel] at hx hy
        obtain ⟨hlx, hx⟩ := hx
        obtain ⟨hly, hy⟩ := hy
        have hbody : ∀ q, q < m' → ∃ a b : Value, (part el c1.toArray (q * j.size)).run P w = .ok a w ∧ (part el c2.toArray (q * j.size)).run P w = .ok b w ∧ (Op.equalIn D el a b).run P w = .ok (eqb (nth xs q) (nth ys q)) w := by
          intro q hq
          obtain ⟨hag, hcmp⟩ := hall q hq
          obtain ⟨l1, lc, l2, e2, m1, m2, m3, _⟩ := VAll.at_ xs c1 0 q hx (by omega)
          obtain ⟨k1, kc, k2, e3, n1, n2, n3, _⟩ := VAll.at_ ys c2 0 q hy (by omega)
          rw [pre_const] at m1 n1
          obtain ⟨p1, p2, p3, p4⟩ := cmp_kinds hcmp j1
          have h1 := run_part (P := P) (w := w) (l1 := l1) (l2 := l2) hte m2 m3 p3 p1
          have h2 := run_part (P := P) (w := w) (l1 := k1) (l2 := k2) hte n2 n3 p4 p2
          rw [← e2, m1] at h1
          rw [← e3, n1] at h2
          exact ⟨_, _, h1, h2, run_equal hT d el _ _ _ _ D hcmp m2 n2 (by omega)⟩
        simp only [pack, Op.equalIn, Sem.run_bind, run_underlying d1, Result.andThen_ok, hte.run_size, Std.Legacy.Range.forIn_eq_forIn_range']
        have hall' : eqb (.arr j.size m' xs) (.arr j.size m' ys) = (List.range' 0 m').all (fun q => eqb (nth xs q) (nth ys q)) := by
          simp only [eqb]
          rw [Bool.eq_iff_iff, eqbs_nth _ _ (by omega), List.all_eq_true]
          constructor
          · intro h q hq
            rw [List.mem_range'_1] at hq
            exact h q (by omega)
          · intro h q hq
            exact h q (by rw [List.mem_range'_1]; omega)
        rw [hall']
        have hsz : Std.Legacy.Range.size [0:m'] = m' := by simp [Std.Legacy.Range.size]
        rw [hsz]
        clear hsz hall' hall
        rw [forin_all (P := P) (w := w) (m := m') (fun q => eqb (nth xs q) (nth ys q)) (fun q hq => by
          obtain ⟨a, b, h1, h2, h3⟩ := hbody q hq
          simp only [Sem.run_bind, h1, h2, h3, Result.andThen_ok]
          generalize eqb (nth xs q) (nth ys q) = b
          cases b <;> rfl) m' 0 (by omega)]
        simp only [Result.andThen_ok]
        generalize (List.range' 0 m').all (fun q => eqb (nth xs q) (nth ys q)) = b
        cases b <;> rfl
      · rename_i fs szs xs szs' ys e1
        obtain ⟨rfl, hlx, hly, hf, hall⟩ := h
        obtain ⟨fields, u1, u2, u3, u4⟩ := fields_at hT hi e1 hf
        simp only [VRel] at hx hy
        obtain ⟨_, hx⟩ := hx
        obtain ⟨_, hy⟩ := hy
        have hfo : P.fieldsOf t = fields := by simp [Program.fieldsOf, u1]
        have hbody : ∀ q, q < szs'.length → ∃ (f : Field) (a b : Value), fields.toList[q]? = some f ∧ f.name ≠ "_" ∧ (part f.type c1.toArray f.offset).run P w = .ok a w ∧ (part f.type c2.toArray f.offset).run P w = .ok b w ∧ (Op.equalIn D f.type a b).run P w = .ok (eqb (nth xs q) (nth ys q)) w := by
          intro q hq
          obtain ⟨f, j, k1, k2, k3, k4, k5, k6⟩ := u4 q hq
          have hcmp := hall q hq
          rw [← k3] at hcmp
          have hte := hT _ _ k4
          obtain ⟨l1, lc, l2, e2, m1, m2, m3, _⟩ := VAll.at_ xs c1 0 q hx (by omega)
          obtain ⟨g1, gc, g2, e3, n1, n2, n3, _⟩ := VAll.at_ ys c2 0 q hy (by omega)
          rw [pre_list _ _ _ (by omega)] at m1 n1; simp only [List.drop_zero] at m1 n1
          obtain ⟨p1, p2, p3, p4⟩ := cmp_kinds hcmp k4
          have h1 := run_part (P := P) (w := w) (l1 := l1) (l2 := l2) hte m2 (by rw [m3, Nat.zero_add, k6]) p3 p1
          have h2 := run_part (P := P) (w := w) (l1 := g1) (l2 := g2) hte n2 (by rw [n3, Nat.zero_add, k6]) p4 p2
          rw [← e2, m1, ← k5] at h1
          rw [← e3, n1, ← k5] at h2
          exact ⟨f, _, _, k1, k2, h1, h2, run_equal hT d f.type _ _ _ _ D hcmp m2 n2 (by omega)⟩
        simp only [pack]
        rw [run_equalIn_struct w D t _ _ (by rw [hfo]; exact u1) u2, hfo]
        simp only [eqb]
        have key : ∀ (L : List Field) (X Y : List AV), L.length = X.length → Y.length = X.length → (∀ q, q < X.length → ∃ (f : Field) (a b : Value), L[q]? = some f ∧ f.name ≠ "_" ∧ (part f.type c1.toArray f.offset).run P w = .ok a w ∧ (part f.type c2.toArray f.offset).run P w = .ok b w ∧ (Op.equalIn D f.type a b).run P w = .ok (eqb (nth X q) (nth Y q)) w) →
            (Op.eqFields D c1.toArray c2.toArray L).run P w = .ok (eqbs X Y) w := by
          intro L
          induction L with
          | nil =>
            intro X Y h1 h2 _
            have : X = [] := List.eq_nil_of_length_eq_zero (by simpa using h1.symm)
            subst this
            have : Y = [] := List.eq_nil_of_length_eq_zero (by simpa using h2)
            subst this
            simp [Op.eqFields, eqbs]
          | cons f L ih =>
            intro X Y h1 h2 h3
            match X, Y, h1, h2, h3 with
            | x :: X, y :: Y, h1, h2, h3 =>
              obtain ⟨f', a, b, q1, q2, q3, q4, q5⟩ := h3 0 (by simp)
              obtain rfl : f = f' := by simpa using q1
              have := ih X Y (by simpa using h1) (by simpa using h2) fun q hq => by
                obtain ⟨f2, a2, b2, r1, r2⟩ := h3 (q + 1) (by simpa using hq)
                exact ⟨f2, a2, b2, by simpa using r1, r2⟩
              have q5' : (Op.equalIn D f.type a b).run P w = .ok (eqb x y) w := q5
              simp only [Op.eqFields]
              rw [if_pos q2]
              simp only [Sem.run_bind, q3, q4, q5', Result.andThen_ok, eqbs]
              cases eqb x y
              · simp
              · simp [this]
        exact key fields.toList xs ys (by omega) (by omega) fun q hq => hbody q (by omega)
      · exact h.elim


theorem op_arrEq (cx : Cx P T ρ H B N w e cv) {o : Oper} {op : BinOp} {t t' : Nat} {x y : Operand} (ho : o.op = .binOp op t x y t') {sz n sz' n' : Nat} {xs ys : List AV} (hx : e x = .arr sz n xs) (hy : e y = .arr sz' n' ys) (hop : op = .eql ∨ op = .neq)
    (hC : Cmp T 9 t (.arr sz n xs) (.arr sz' n' ys)) (hpos : ∀ t n e s b z, look T t = some ⟨.arr n e, s, b, z⟩ → 0 < n) :
    Does P (execOp cv o) ρ H B N w (.bool (if op = .eql then eqb (.arr sz n xs) (.arr sz' n' ys) else !(eqb (.arr sz n xs) (.arr sz' n' ys)))) [] := by
  have h1 := cx.rel x
  have h2 := cx.rel y
  rw [hx] at h1; rw [hy] at h2
  obtain ⟨c1, v1, h1⟩ := h1
  obtain ⟨c2, v2, h2⟩ := h2
  have hdep : 9 ≤ P.depth := by
    have : P.depth = 2 * (P.types.size + 100) + 2 := rfl
    omega
  have hg : (eqGuard op t x y (.agg c1.toArray) (.agg c2.toArray)).run P w = .ok () w := by
    have := guard_false cx.ty 9 P.depth t _ _ hC ⟨((look T t).map (·.size)).getD 0, fun i hi => by simp [hi]⟩ hdep hpos
    unfold eqGuard
    split <;> simp [this]
  have heq : (Op.equal t (.agg c1.toArray) (.agg c2.toArray)).run P w = .ok (eqb (.arr sz n xs) (.arr sz' n' ys)) w :=
    run_equal cx.ty 9 t _ _ c1 c2 10000 hC v1 v2 (by omega)
  refine Does.same cx.hr (c := .bool (if op = .eql then eqb (.arr sz n xs) (.arr sz' n' ys) else !(eqb (.arr sz n xs) (.arr sz' n' ys)))) ?_ (by simp only [SlotRel])
  rcases hop with rfl | rfl
  · simp only [execOp, ho, h1, h2, Sem.run_bind, hg, Result.andThen_ok, binOp, heq, Sem.run_pure]
    simp
  · simp only [execOp, ho, h1, h2, Sem.run_bind, hg, Result.andThen_ok, binOp, heq, Sem.run_pure]
    simp

theorem op_strEq (cx : Cx P T ρ H B N w e cv) {o : Oper} {op : BinOp} {t t' : Nat} {x y : Operand} (ho : o.op = .binOp op t x y t') {sz sz' : List Nat} {xs ys : List AV} (hx : e x = .struct sz xs) (hy : e y = .struct sz' ys) (hop : op = .eql ∨ op = .neq)
    (hC : Cmp T 9 t (.struct sz xs) (.struct sz' ys)) (hpos : ∀ t n e s b z, look T t = some ⟨.arr n e, s, b, z⟩ → 0 < n) :
    Does P (execOp cv o) ρ H B N w (.bool (if op = .eql then eqb (.struct sz xs) (.struct sz' ys) else !(eqb (.struct sz xs) (.struct sz' ys)))) [] := by
  have h1 := cx.rel x
  have h2 := cx.rel y
  rw [hx] at h1; rw [hy] at h2
  obtain ⟨c1, v1, h1⟩ := h1
  obtain ⟨c2, v2, h2⟩ := h2
  have hdep : 9 ≤ P.depth := by
    have : P.depth = 2 * (P.types.size + 100) + 2 := rfl
    omega
  have hg : (eqGuard op t x y (.agg c1.toArray) (.agg c2.toArray)).run P w = .ok () w := by
    have := guard_false cx.ty 9 P.depth t _ _ hC ⟨((look T t).map (·.size)).getD 0, fun i hi => by simp [hi]⟩ hdep hpos
    unfold eqGuard
    split <;> simp [this]
  have heq : (Op.equal t (.agg c1.toArray) (.agg c2.toArray)).run P w = .ok (eqb (.struct sz xs) (.struct sz' ys)) w :=
    run_equal cx.ty 9 t _ _ c1 c2 10000 hC v1 v2 (by omega)
  refine Does.same cx.hr (c := .bool (if op = .eql then eqb (.struct sz xs) (.struct sz' ys) else !(eqb (.struct sz xs) (.struct sz' ys)))) ?_ (by simp only [SlotRel])
  rcases hop with rfl | rfl
  · simp only [execOp, ho, h1, h2, Sem.run_bind, hg, Result.andThen_ok, binOp, heq, Sem.run_pure]
    simp
  · simp only [execOp, ho, h1, h2, Sem.run_bind, hg, Result.andThen_ok, binOp, heq, Sem.run_pure]
    simp

theorem op_sEq (cx : Cx P T ρ H B N w e cv) {o : Oper} {op : BinOp} {t t' : Nat} {x y : Operand} (ho : o.op = .binOp op t x y t') {a b : ByteArray} (hx : e x = .str a) (hy : e y = .str b) (hop : op = .eql ∨ op = .neq) :
    Does P (execOp cv o) ρ H B N w (.bool (if op = .eql then a.toList == b.toList else !(a.toList == b.toList))) [] := by
  have h1 := cx.rel x
  have h2 := cx.rel y
  rw [hx] at h1; rw [hy] at h2
  simp only [SlotRel] at h1 h2
  have hg : (eqGuard op t x y (.string a) (.string b)).run P w = .ok () w := by
    unfold eqGuard
    split <;> simp
  refine Does.same cx.hr (c := .bool (if op = .eql then a.toList == b.toList else !(a.toList == b.toList))) ?_ (by simp only [SlotRel])
  rcases hop with rfl | rfl
  · simp only [execOp, ho, h1, h2, Sem.run_bind, hg, Result.andThen_ok, binOp, Op.stringOp, Sem.run_pure]
    simp
  · simp only [execOp, ho, h1, h2, Sem.run_bind, hg, Result.andThen_ok, binOp, Op.stringOp, Sem.run_pure]
    simp
theorem op_sAdd (cx : Cx P T ρ H B N w e cv) {o : Oper} {t t' : Nat} {x y : Operand} (ho : o.op = .binOp .add t x y t') {a b : ByteArray} (hx : e x = .str a) (hy : e y = .str b) (hl : a.size + b.size ≤ 9223372036854775807) :
    Does P (execOp cv o) ρ H B N w (.str (a ++ b)) [] := by
  have h1 := cx.rel x
  have h2 := cx.rel y
  rw [hx] at h1; rw [hy] at h2
  simp only [SlotRel] at h1 h2
  have hg : (eqGuard .add t x y (.string a) (.string b)).run P w = .ok () w := by
    unfold eqGuard
    split <;> simp
  have hm : ¬ ((a.size + b.size : Nat) : Int) > IntKind.i64.max := by
    have : IntKind.i64.max = 9223372036854775807 := by decide
    omega
  refine Does.same cx.hr (c := .string (a ++ b)) ?_ (by simp only [SlotRel])
  simp only [execOp, ho, h1, h2, Sem.run_bind, hg, Result.andThen_ok, binOp, Op.stringOp, Sem.run_pure, if_neg hm]
theorem map_one (f : Operand → AV) (l : List Operand) {a : AV} (h : l.map f = [a]) : ∃ x, l = [x] ∧ f x = a := by
  match l, h with
  | [x], h => exact ⟨x, rfl, by simpa using h⟩
  | [], h => simp at h
  | _ :: _ :: _, h => simp at h
theorem map_two (f : Operand → AV) (l : List Operand) {a b : AV} (h : l.map f = [a, b]) : ∃ x y, l = [x, y] ∧ f x = a ∧ f y = b := by
  match l, h with
  | [x, y], h => simp at h; exact ⟨x, y, rfl, h.1, h.2⟩
  | [], h => simp at h
  | [_], h => simp at h
  | _ :: _ :: _ :: _, h => simp at h

theorem op_clear (cx : Cx P T ρ H B N w e cv) {o : Oper} {args : Array Operand} {ts : Array Nat} (ho : o.op = .call ⟨.builtin .clear, args, ts⟩) {x : Operand} {t : Nat} (ha : args.toList = [x]) (hts : ts.toList = [t]) {id : Nat} {us : List AV} (ex : e x = .fr id us)
    {v : AV} {u : Upd} {C : Prop} {d m : Nat} (h : (aop T d e (.blt m .clear [x] [t])).run H = .val v u C) (hC : C) : Does P (execOp cv o) ρ H B N w v u := by
  have hx := cx.rel x
  obtain ⟨cs0, hrun⟩ := blt_run (cv := cv) ho
  have ha' : args = #[x] := by rw [← Array.toList_inj]; simpa using ha
  have hts' : ts = #[t] := by rw [← Array.toList_inj]; simpa using hts
  subst ha'; subst hts'
  simp only [aop, List.map_cons, List.map_nil, ex] at h
  split at h
  · rename_i el s0 b0 z0 e0
    split at h
    · rename_i i hi
      simp only [Ask.run] at h
      split at h
      · rename_i sz xs hb
        simp only [Ask.run, Ev.val.injEq] at h
        obtain ⟨rfl, rfl, rfl⟩ := h
        obtain ⟨rfl, c2, c3⟩ := hC
        rw [ex] at hx
        obtain ⟨sz', xs', k, cap, arr, T', ec, hlt, hρ, hv, hle, hw, hcap⟩ := hx _ hb
        cases ec
        have hte := cx.ty _ _ hi
        obtain ⟨z, z1, z2⟩ := hte.run_zero w
        have hzr := flat_rel (Sof ρ H B) w _ _ z2
        have hzsize : z.cells.size = i.size := by
          rw [← Array.length_toList, hzr.len, hte.zsize]
        obtain ⟨n, hn⟩ : ∃ n, xs.length - us.length = n + 1 := ⟨xs.length - us.length - 1, by omega⟩
        have hmade := flat_made z.cells i.size hzsize c2 (n + 1)
        have hzc : (Builtin.zeroCells z.cells (n + 1)).toList = (List.replicate (n + 1) z.cells.toList).flatten := by
          rw [← hmade]; simp only [Builtin.zeroCells, hzsize]
        rcases cx.hr.at_ id _ hb with ⟨_, _, h2⟩ | ⟨q, arr0, Ty, cs, ext, g1, g2, g3, g4, g5, g6⟩
        · rw [h2] at hρ; cases hρ
        · rw [hρ] at g1; cases g1
          rw [hw] at g4; cases g4
          simp only [VRel] at g6
          have hcl := VAll.len _ _ _ g6
          rw [pre_const] at hcl
          obtain ⟨s1, _⟩ := VAll.split us.length xs cs 0 g6 (by omega)
          rw [pre_const] at s1
          have hz := vall_replicate hzr (by rw [Array.length_toList, hzsize]) (n + 1) 0
          have hzl := VAll.len _ _ _ hz
          rw [pre_const, List.length_replicate] at hzl
          have hmul : us.length * i.size + (n + 1) * i.size = xs.length * i.size := by rw [← Nat.add_mul]; congr 1; omega
          have hxa : xs.length * i.size ≤ arr.size := Nat.le_trans (Nat.mul_le_mul_right _ hle) hcap
          obtain ⟨w', arr', r1, r2, r3, r4, r5, r6⟩ := run_storeCells (P := P) (k := k) (off := us.length * i.size) (T := T') _ 0 w arr hw (by rw [hzl]; omega) (VAll.scalars _ _ _ _ hz)
          have hrun' : (execOp cv o).run P w = .ok (.value (.tuple #[])) w' := by
            rw [hn] at hv
            rw [hrun]
            simp [builtin, Builtin.clear_, run_underlying (cx.ty _ _ e0).slice, hv, z1, hzc, r1]
          have hst := Step.write cx.hr (id := id) (n := id) (k := k) (c := .row i.size xs) (c' := .row i.size (xs.take us.length ++ List.replicate (n + 1) i.zero)) hb hρ r4 r5 (cs' := cs.take (us.length * i.size) ++ (List.replicate (n + 1) z.cells.toList).flatten) (ext' := ext) r2
            (fun arr1 T1 h1 => by rw [hw] at h1; cases h1; exact r6)
            (by
              rw [r3, g5, Nat.add_zero]
              have e1 : us.length * i.size + ((List.replicate (n + 1) z.cells.toList).flatten).length = cs.length := by rw [hzl, hcl]; exact hmul
              rw [e1, List.drop_left, List.take_append_of_le_length (by rw [hcl, ← hmul]; omega)])
            (by
              simp only [VRel]
              exact VAll.append _ _ _ _ 0 0 s1 hz)
            (fun _ sz1 xs1 hc => by
              cases hc
              exact ⟨_, rfl, by simp; omega⟩)
          have hH : (fun j => if j = id then some ⟨.row i.size (xs.take us.length ++ List.replicate (n + 1) i.zero), false⟩ else if j = id then none else H j) = updH H [(id, some ⟨.row i.size (xs.take us.length ++ List.replicate (xs.length - us.length) i.zero), false⟩)] := by
            rw [updH_cons, hn]; funext j; by_cases hj : j = id <;> simp [hj, updH_nil]
          rw [hH] at hst
          exact ⟨_, .tuple #[], _, w', hrun', .inl rfl, hst.mono fun j hj => (hj.2 rfl).elim, ⟨[], rfl, rfl⟩⟩
      · simp [Ask.run] at h
    · simp [Ask.run] at h
  · simp [Ask.run] at h

/-- Every operation that answers with a value. -/
theorem op_sound (cx : Cx P T ρ H B N w e cv) (hpos : ∀ t n e s b z, look T t = some ⟨.arr n e, s, b, z⟩ → 0 < n) {o : Oper} {d m : Nat} {v : AV} {u : Upd} {C : Prop} (h : (aop T d e (stripOp m o.type o.op)).run H = .val v u C) (hC : C) :
    Does P (execOp cv o) ρ H B N w v u := by
  generalize ho : o.op = op at h
  unfold stripOp at h
  split at h
  · simp only [aop, Ask.run, Ev.val.injEq] at h
    obtain ⟨rfl, rfl, _⟩ := h
    exact op_mov cx (.inl ho) rfl
  · exact op_asg cx ho h
  · exact op_pick cx ho h
  · exact op_alloc cx ho h
  · exact op_box cx ho h
  · exact op_build cx ho h hC
  · exact op_bslice cx ho h hC
  · exact op_load cx ho h hC
  · exact op_store cx ho h hC
  · exact op_nilCheck cx ho h
  · rename_i op t x y yt
    simp only [aop] at h
    split at h
    · split at h <;> simp [Ask.run] at h
    split at h
    · rename_i k a k' b ex ey
      have h' : (if isSh op then shBin op k a b else if k = k' then intBin op k a b else .bad) = Ev.val v u C := by
        rw [← h]; split
        · rfl
        · split <;> rfl
      exact op_bin_int cx ho ex ey h' hC
    · rename_i a b ex ey
      split at h
      · rename_i s b0 z e0
        simp only [Ask.run, Ev.val.injEq] at h
        obtain ⟨rfl, rfl, _⟩ := h
        exact op_boolEq cx ho ex ey e0 (.inl rfl)
      · rename_i s b0 z e0
        simp only [Ask.run, Ev.val.injEq] at h
        obtain ⟨rfl, rfl, _⟩ := h
        exact op_boolEq cx ho ex ey e0 (.inr rfl)
      · simp [Ask.run] at h
    · rename_i sz n xs sz' n' ys ex ey
      split at h
      · simp only [Ask.run, Ev.val.injEq] at h
        obtain ⟨rfl, rfl, rfl⟩ := h
        exact op_arrEq cx ho ex ey (.inl rfl) hC hpos
      · simp only [Ask.run, Ev.val.injEq] at h
        obtain ⟨rfl, rfl, rfl⟩ := h
        exact op_arrEq cx ho ex ey (.inr rfl) hC hpos
      · simp [Ask.run] at h
    · rename_i a b ex ey
      split at h
      · simp only [Ask.run, Ev.val.injEq] at h
        obtain ⟨rfl, rfl, _⟩ := h
        exact op_sEq cx ho ex ey (.inl rfl)
      · simp only [Ask.run, Ev.val.injEq] at h
        obtain ⟨rfl, rfl, _⟩ := h
        exact op_sEq cx ho ex ey (.inr rfl)
      · simp only [Ask.run, Ev.val.injEq] at h
        obtain ⟨rfl, rfl, rfl⟩ := h
        exact op_sAdd cx ho ex ey hC
      · simp [Ask.run] at h
    · rename_i szs xs szs' ys ex ey
      split at h
      · simp only [Ask.run, Ev.val.injEq] at h
        obtain ⟨rfl, rfl, rfl⟩ := h
        exact op_strEq cx ho ex ey (.inl rfl) hC hpos
      · simp only [Ask.run, Ev.val.injEq] at h
        obtain ⟨rfl, rfl, rfl⟩ := h
        exact op_strEq cx ho ex ey (.inr rfl) hC hpos
      · simp [Ask.run] at h
    · simp [Ask.run] at h
  · exact op_un cx ho h
  · exact op_conv cx ho h hC
  · rename_i f a b
    unfold cloOp at h
    split at h
    · exact op_mkfn cx ho h hC
    · rename_i hab
      exact op_mkclo cx ho hab h
    · simp [aop, Ask.run] at h
  · exact op_mkslice cx ho h hC
  · unfold slOp at h
    split at h
    · exact op_slice cx ho h hC
    · exact op_vw cx ho h hC
    · simp [aop, Ask.run] at h
  · exact op_fieldAddr cx ho h hC
  · exact op_field cx ho h hC
  · exact op_indexAddr cx ho h hC
  · exact op_index cx ho h hC
  · exact op_extract cx ho h hC
  · rename_i f args ts
    exfalso
    simp only [aop] at h
    split at h
    · have : ∀ (m i : Nat) (vs : List AV) (k : List AV → Upd → List (Nat × Nat) → Ask), (∀ a b c, (k a b c).run H ≠ Ev.val v u C) → (frzArgs m i vs k).run H ≠ Ev.val v u C := by
        intro m i vs
        induction vs generalizing i with
        | nil => intro k hk; exact hk _ _ _
        | cons a vs ih =>
          intro k hk
          simp only [frzArgs]
          split
          · split
            · simp only [Ask.run]
              split
              · exact ih _ _ fun _ _ _ => hk _ _ _
              · simp [Ask.run]
            · simp only [Ask.run]
              split
              · exact ih _ _ fun _ _ _ => hk _ _ _
              · simp [Ask.run]
            · simp only [Ask.run]
              split
              · exact ih _ _ fun _ _ _ => hk _ _ _
              · simp [Ask.run]
            · simp [Ask.run]
          · intro hh
            obtain ⟨v', u', h1, _⟩ := frz_elim hh (by simp)
            exact ih _ _ (fun _ _ _ => hk _ _ _) h1
      exact this _ _ _ _ (by simp [Ask.run]) h
    · split at h
      · simp only [Ask.run] at h
        split at h <;> simp [Ask.run] at h
      · simp [Ask.run] at h
    · simp [Ask.run] at h
  · rename_i b args ts
    generalize ha : args.toList = la at h
    generalize ht : ts.toList = lt at h
    simp only [aop] at h
    split at h
    · rename_i vv t e1
      obtain ⟨x, rfl, rfl⟩ := map_one e la e1
      exact op_len (m := m) (d := d) cx ho ha ht (by simp only [aop, List.map_cons, List.map_nil]; exact h)
    · rename_i k a k' b e1
      obtain ⟨x, y, rfl, e2, e3⟩ := map_two e la e1
      simp only [Ask.run, Ev.val.injEq] at h
      obtain ⟨rfl, rfl, _⟩ := h
      exact op_maxmin cx (.inl rfl) ho ha e2 e3
    · rename_i k a k' b e1
      obtain ⟨x, y, rfl, e2, e3⟩ := map_two e la e1
      simp only [Ask.run, Ev.val.injEq] at h
      obtain ⟨rfl, rfl, _⟩ := h
      exact op_maxmin cx (.inr rfl) ho ha e2 e3
    · rename_i id us t e1
      obtain ⟨x, rfl, e2⟩ := map_one e la e1
      exact op_clear (m := m) (d := d) cx ho ha ht e2 (by simp only [aop, List.map_cons, List.map_nil, e2]; exact h) hC
    · rename_i sv xv t t2 e1
      obtain ⟨x, y, rfl, rfl, rfl⟩ := map_two e la e1
      exact op_append (m := m) (d := d) cx ho ha ht (by simp only [aop, List.map_cons, List.map_nil]; exact h) hC
    · simp [Ask.run] at h
  · simp [aop, Ask.run] at h

/-- Is a slice nil? -/
theorem op_split (cx : Cx P T ρ H B N w e cv) (hcv : ∀ v, cv (.const v) = v) {o : Oper} {d : Nat} {op : BinOp} {t : Nat} {x y : Operand} {yt : Nat} (ho : o.op = .binOp op t x y yt) {c : Prop} {v v' : AV} (h : (aop T d e (.bin op t x y)).run H = .split c v v') :
    (c ∧ Does P (execOp cv o) ρ H B N w v []) ∨ Does P (execOp cv o) ρ H B N w v' [] := by
  simp only [aop] at h
  split at h
  · rename_i sz tt xs el s b z hy ex et
    have hyc : cv y = .slice none 0 0 := by
      unfold isNilOp at hy
      split at hy
      · exact hcv _
      · cases hy
    have hx := cx.rel x
    rw [ex] at hx
    obtain ⟨a, cap, e1, l, t1, r⟩ := hx
    simp only [List.cons.injEq, and_true] at e1
    obtain ⟨d0, hu, hd⟩ := (cx.ty _ _ et).desc
    have hsl : ∃ el', d0 = .slice el' := by
      cases d0 <;> simp [TyD.of] at hd
      exact ⟨_, rfl⟩
    obtain ⟨el', rfl⟩ := hsl
    have hrun := run_equal_slice_nil (P := P) w t el' a xs.length cap hu
    have hnone : a.isNone = true → xs = [] := by
      intro hn
      rcases r with r | ⟨k, off, vs, ha, _⟩
      · exact r
      · rw [ha] at hn; cases hn
    have hg : (eqGuard op t x y (.slice a xs.length cap) (.slice none 0 0)).run P w = .ok () w := by
      unfold eqGuard
      split <;> simp
    split at h
    · simp only [Ask.run, Ev.split.injEq] at h
      obtain ⟨rfl, rfl, rfl⟩ := h
      have hr : (execOp cv o).run P w = .ok (.value (.bool a.isNone)) w := by
        simp only [execOp, ho, e1, hyc, Sem.run_bind, hg, Result.andThen_ok, binOp, hrun, Sem.run_pure]
      cases hb : a.isNone with
      | true => rw [hb] at hr; exact .inl ⟨hnone hb, Does.same cx.hr hr (by simp only [SlotRel])⟩
      | false => rw [hb] at hr; exact .inr (Does.same cx.hr hr (by simp only [SlotRel]))
    · simp only [Ask.run, Ev.split.injEq] at h
      obtain ⟨rfl, rfl, rfl⟩ := h
      have hr : (execOp cv o).run P w = .ok (.value (.bool (!a.isNone))) w := by
        simp only [execOp, ho, e1, hyc, Sem.run_bind, hg, Result.andThen_ok, binOp, hrun, Sem.run_pure]
      cases hb : a.isNone with
      | true => rw [hb] at hr; exact .inl ⟨hnone hb, Does.same cx.hr hr (by simp only [SlotRel]; rfl)⟩
      | false => rw [hb] at hr; exact .inr (Does.same cx.hr hr (by simp only [SlotRel]; rfl))
    · simp [Ask.run] at h
  · split at h
    · split at h
      · unfold shBin at h; split at h <;> simp [Ask.run] at h
      · split at h
        · unfold intBin at h; split at h <;> simp [Ask.run] at h
        · simp [Ask.run] at h
    · split at h <;> simp [Ask.run] at h
    · split at h <;> simp [Ask.run] at h
    · split at h <;> simp [Ask.run] at h
    · split at h <;> simp [Ask.run] at h
    · simp [Ask.run] at h

end
end Go.Abs
/- Abstract runs of operations, regions and code, and contracts of functions. Definitions alone. -/
namespace Go.Abs

structure St where
  env : List (Nat × AV)
  H : List (Nat × Option Blk)

def St.e (σ : St) (t : Nat) : AV := (look σ.env t).getD .top
def St.h (σ : St) : Hp := fun id => (look σ.H id).getD none
def St.put (σ : St) (d : Option Nat) (v : AV) : St :=
  match d with
  | some d => ⟨(d, v) :: σ.env, σ.H⟩
  | none => σ
def St.upd (σ : St) (u : Upd) : St := ⟨σ.env, u ++ σ.H⟩

/-! ## Contracts -/
def pid (i : Nat) : Nat := 1000000 + i
def fid (j : Nat) : Nat := 2000000 + j

/-- What a call answers: its result (a slice in new memory is `osl (fid j)`), what the arguments that are handed on to be written hold then, and the slices in new memory. -/
structure RV where
  r : AV
  ms : List AV := []
  fs : List (Nat × List AV) := []

def entryE (i : Nat) : AV → AV
  | .mutsl _ _ => .osl (pid i)
  | .mutp _ => .own (pid i) [] []
  | .mclo f _ caps => .oclo f (pid i) caps
  | v => v
def entryB : AV → Option Blk
  | .mutsl sz xs => some ⟨.row sz xs, false⟩
  | .mutp c => some ⟨c, false⟩
  | .mclo _ c _ => some ⟨c, false⟩
  | _ => none
def entryH : Nat → List AV → List (Nat × Option Blk)
  | _, [] => []
  | i, v :: vs => match entryB v with
    | some b => (pid i, some b) :: entryH (i + 1) vs
    | none => entryH (i + 1) vs
def entryEnv : Nat → List AV → List (Nat × AV)
  | _, [] => []
  | i, v :: vs => (i, entryE i v) :: entryEnv (i + 1) vs
def entry (args : List AV) : St := ⟨entryEnv 0 args, entryH 0 args⟩

/-- The places of the arguments that are handed on to be written. -/
def mutIx : Nat → List AV → List Nat
  | _, [] => []
  | i, v :: vs => match entryB v with
    | some _ => i :: mutIx (i + 1) vs
    | none => mutIx (i + 1) vs

/-- The content of a block that a call hands back: a row, or (size 0, one element) a variable's. -/
def blkOf : Nat × List AV → AV
  | (0, [c]) => c
  | (sz, xs) => .row sz xs
def fsH : Nat → List (Nat × List AV) → List (Nat × Option Blk)
  | _, [] => []
  | j, q :: fs => (fid j, some ⟨blkOf q, false⟩) :: fsH (j + 1) fs
def msH : List Nat → List AV → List (Nat × Option Blk)
  | i :: is, c :: cs => (pid i, some ⟨c, false⟩) :: msH is cs
  | _, _ => []
def RV.H (r : RV) (args : List AV) : Hp := fun id => (look (msH (mutIx 0 args) r.ms ++ fsH 0 r.fs) id).getD none

structure Entry (ρ0 : Nat → Option Nat) (B0 : Nat → Prop) (w : World) (args : List AV) (cargs : List Value) : Prop where
  heap : HRel ρ0 (entry args).h B0 (fun k => (∃ id b, (entry args).h id = some b ∧ ρ0 id = some k) ∨ w.heap.size ≤ k) w
  slots : SlotsRel ρ0 (entry args).h (Sof ρ0 (entry args).h B0) w ((entryEnv 0 args).map (·.2)) cargs

structure Out (ρ0 : Nat → Option Nat) (B0 : Nat → Prop) (w : World) (args : List AV) (r : RV) (ρ' : Nat → Option Nat) (w' : World) (v : Value) : Prop where
  heap : HRel ρ' (r.H args) (fun k => B0 k ∨ (w.heap.size ≤ k ∧ k < w'.heap.size)) (fun k => (∃ id b, (entry args).h id = some b ∧ ρ0 id = some k) ∨ w.heap.size ≤ k) w'
  res : SlotRel ρ' (r.H args) (Sof ρ' (r.H args) (fun k => B0 k ∨ (w.heap.size ≤ k ∧ k < w'.heap.size))) w' r.r v
  only : Only (fun k => (∃ id b, (entry args).h id = some b ∧ ρ0 id = some k) ∨ w.heap.size ≤ k) w w'
  pids : ∀ i b, (entry args).h (pid i) = some b → ρ' (pid i) = ρ0 (pid i)

def Callable (P : Program) (f : FuncId) : Prop := ∀ args w, (callFunc f args).run P w = .ok (.enter f args) w

/-- The contract of one call: for every world. -/
def Den (P : Program) (f : FuncId) (args : List AV) (r : RV) : Prop :=
  Callable P f ∧ ∀ ρ0 B0 w cargs, Entry ρ0 B0 w args cargs →
    Calls P f cargs.toArray w fun e w' => ∃ v ρ', e = .returned v ∧ Out ρ0 B0 w args r ρ' w' v

/-! ## Runs -/
def okNew (σ : St) (u : Upd) : Bool :=
  u.all fun q => q.2.isNone || (σ.h q.1).isSome || (Nat.blt q.1 1000000 && σ.env.all fun x => !(x.2.names q.1))

/-- The names of fresh slices in the caller. -/
def renF (d : Nat) : AV → AV
  | .osl id => .osl (nid d (id - 2000000))
  | .own id p o => .own (nid d (id - 2000000)) p o
  | v => v
def ren (d : Nat) : AV → AV
  | .tuple xs => .tuple (xs.map (renF d))
  | v => renF d v
def fsU (d : Nat) : Nat → List (Nat × List AV) → Upd
  | _, [] => []
  | j, q :: fs => (nid d j, some ⟨blkOf q, false⟩) :: fsU d (j + 1) fs
def msU : List (Nat × Nat) → List AV → Upd
  | (_, id) :: ms, c :: cs => (id, some ⟨c, false⟩) :: msU ms cs
  | _, _ => []
/-- What was a slice is one as long. -/
def sameShape : AV → AV → Prop
  | .mutsl sz xs, .row sz' xs' => sz' = sz ∧ xs'.length = xs.length
  | .mutp _, .row _ _ => False
  | .mutp (.row _ _), _ => False
  | .mutp _, _ => True
  | _, _ => False
def sameShapes (args : List AV) : List (Nat × Nat) → List AV → Prop
  | [], [] => True
  | (i, _) :: ms, c :: cs => sameShape (nth args i) c ∧ sameShapes args ms cs
  | _, _ => False
def distinct : List Nat → Bool
  | [] => true
  | x :: xs => !(xs.any (Nat.beq x)) && distinct xs
/-- A result is no name but those of its new slices. -/
def okRes (n : Nat) : AV → Bool
  | .osl id => Nat.ble 2000000 id && Nat.blt id (2000000 + n)
  | .own id p o => p.isEmpty && o.isEmpty && (Nat.ble 2000000 id && Nat.blt id (2000000 + n))
  | .tuple _ => false
  | .fr .. => false
  | .oclo .. => false
  | _ => true
def okRess (n : Nat) : AV → Bool
  | .tuple xs => xs.all (okRes n)
  | v => okRes n v

def isCall : AO → Bool
  | .call .. => true
  | _ => false

def isBin : AO → Bool
  | .bin .. => true
  | _ => false
theorem slOp_call (m t : Nat) (x : Operand) (l h mx : Option Operand) : isCall (slOp m t x l h mx) = false := by
  unfold slOp; split <;> rfl
theorem cloOp_call (m : Nat) (f : FuncId) (a b : List Operand) : isCall (cloOp m f a b) = false := by
  unfold cloOp; split <;> rfl
theorem cloOp_bin (m : Nat) (f : FuncId) (a b : List Operand) : isBin (cloOp m f a b) = false := by
  unfold cloOp; split <;> rfl
theorem slOp_bin (m t : Nat) (x : Operand) (l h mx : Option Operand) : isBin (slOp m t x l h mx) = false := by
  unfold slOp; split <;> rfl

/-- Names for the slices in new memory are new. -/
def okFresh (σ : St) (u : Upd) : Bool :=
  u.all fun q => (σ.h q.1).isNone && Nat.blt q.1 1000000 && σ.env.all fun x => !(x.2.names q.1)
/-- What a call changes of the caller's blocks. -/
def callU (d : Nat) (u : Upd) (ms : List (Nat × Nat)) (r : RV) : Upd := fsU d 0 r.fs ++ (msU ms r.ms ++ u)
mutual
/-- Nothing in it points anywhere. -/
def NoRef : AV → Prop
  | .int .. | .bool _ | .str _ | .raw _ | .osl _ => True
  | .arr _ _ xs | .struct _ xs | .row _ xs | .tuple xs => NoRefs xs
  | .sl _ _ xs => xs = []
  | _ => False
def NoRefs : List AV → Prop
  | [] => True
  | x :: xs => NoRef x ∧ NoRefs xs
end
/-- A call writes nothing, or one argument that is handed on to be written (which may be given up: then nothing is told of it, and the results may lie there). What is handed on to be read alone stays the call's own if nothing that comes back can point there (u2 = []). -/
def okCall (σ : St) (d : Nat) (args : List AV) (u : Upd) (ms : List (Nat × Nat)) (r : RV) (u2 : Upd) : Prop :=
  okRess r.fs.length r.r = true ∧ Nat.ble r.fs.length 100 = true ∧ okFresh σ (fsU d 0 r.fs) = true ∧
  ((ms = [] ∧ mutIx 0 args = [] ∧ r.ms = [] ∧ (u2 = u ∨ (u2 = [] ∧ (u.all fun q => (fsU d 0 r.fs).all fun q' => !(Nat.beq q.1 q'.1)) = true ∧ NoRef r.r ∧ ∀ q ∈ r.fs, NoRefs q.2))) ∨
   (∃ i id c, ms = [(i, id)] ∧ u = [] ∧ u2 = [] ∧ mutIx 0 args = [i] ∧ r.ms = [c] ∧ r.fs = [] ∧ sameShape (nth args i) c) ∨
   (∃ i id, ms = [(i, id)] ∧ u = [] ∧ u2 = [(id, none)] ∧ mutIx 0 args = [i] ∧ r.ms = [] ∧ (r.fs = [] ∨ Nat.ble i 999999 = true)))

def ev (P : Program) (σ : St) (o : AOper) (K : St → Prop) : Ev → Prop
  | .bad => False
  | .split c v v' => isBin o.op = true ∧ (c → K (σ.put o.dst v)) ∧ K (σ.put o.dst v')
  | .val v u C => C ∧ okNew σ u = true ∧ K ((σ.upd u).put o.dst v)
  | .call f args u ms C => C ∧ isCall o.op = true ∧ ∃ r u2, Den P f args r ∧ okCall σ (o.dst.getD 0) args u ms r u2 ∧
      K ((σ.upd (callU (o.dst.getD 0) u2 ms r)).put o.dst (ren (o.dst.getD 0) r.r))

def astep (P : Program) (T : Tys) (o : AOper) (σ : St) (K : St → Prop) : Prop :=
  match o.guard with
  | none => ev P σ o K ((aop T (o.dst.getD 0) (opdA σ.e) o.op).run σ.h)
  | some (g, want) => match σ.e g with
    | .bool b => if b = want then ev P σ o K ((aop T (o.dst.getD 0) (opdA σ.e) o.op).run σ.h) else K (σ.put o.dst (.tuple []))
    | .tuple [] => K (σ.put o.dst (.tuple []))
    | _ => False

def aops (P : Program) (T : Tys) : List AOper → St → (St → Prop) → Prop
  | [], σ, K => K σ
  | o :: os, σ, K => astep P T o σ fun σ' => aops P T os σ' K

/-! ## Which slots live on; names anew -/
def nameOf : AV → Option Nat
  | .own id _ _ => some id
  | .osl id => some id
  | .oclo _ id _ => some id
  | _ => none
def firstName (t : Nat) (m : List (Nat × Nat)) (v : AV) : List (Nat × Nat) :=
  match nameOf v with
  | some id => if Nat.ble 1000000 id || Nat.ble 1000000 t || m.any (fun q => Nat.beq q.2 id) then m else m ++ [(t, id)]
  | none => m
def newName (m : List (Nat × Nat)) (id : Nat) : Option Nat :=
  match m with
  | [] => if Nat.ble 1000000 id then some id else none
  | (n, o) :: m => match Nat.beq o id with
    | true => some n
    | false => newName m id
def rename (m : List (Nat × Nat)) : AV → AV
  | .own id p o => match newName m id with
    | some n => .own n p o
    | none => .top
  | .osl id => match newName m id with
    | some n => .osl n
    | none => .top
  | .oclo f id caps => match newName m id with
    | some n => .oclo f n caps
    | none => .top
  | .tuple _ => .top
  | .fr .. => .top
  | v => v
def alive (σ : St) : AV → Bool
  | .own id _ _ => (σ.h id).isSome
  | .osl id => (σ.h id).isSome
  | .oclo _ id _ => (σ.h id).isSome
  | .top => false
  | .tuple _ => false
  | .fr .. => false
  | _ => true
def keepEnv (σ : St) : List Nat → List (Nat × AV)
  | [] => []
  | t :: L => match look σ.env t with
    | some v => if alive σ v then (t, v) :: keepEnv σ L else keepEnv σ L
    | none => keepEnv σ L
def keepNames : List (Nat × Nat) → List (Nat × AV) → List (Nat × Nat)
  | m, [] => m
  | m, (t, v) :: env => keepNames (firstName t m v) env
def keepPids (σ : St) : List (Nat × Option Blk) → List Nat → List (Nat × Option Blk)
  | [], _ => []
  | (id, _) :: H, seen => if Nat.ble 1000000 id && !(seen.any (Nat.beq id)) then (id, σ.h id) :: keepPids σ H (id :: seen) else keepPids σ H seen
def St.keep (L : List Nat) (σ : St) : St :=
  let env := keepEnv σ L
  let m := keepNames [] env
  ⟨env.map fun q => (q.1, rename m q.2), (m.map fun q => (q.1, σ.h q.2)) ++ keepPids σ σ.H []⟩

/-! ## Code -/
inductive AEx where
  | normal
  | exit (id : Nat)
  | ret

def headOf : ACode → Option Nat
  | .region id _ _ => some id
  | .seq a _ => headOf a
  | .block _ a => headOf a
  | .loop a => headOf a
  | .cond (.tmp t) _ _ => some (100000 + t)
  | _ => none

abbrev Live := List (Nat × List Nat)
/-- A slot's slice is written no more (where a region's slot is told with 1000000 more). -/
def St.frzSlot (σ : St) (t : Nat) : St :=
  match look σ.env t with
  | some (.osl id) => match σ.h id with
    | some ⟨.row sz xs, _⟩ => ⟨(t, .sl sz false xs) :: σ.env, (id, some ⟨.row sz xs, true⟩) :: σ.H⟩
    | _ => σ
  | _ => σ
def St.frzSlots (σ : St) : List Nat → St
  | [] => σ
  | t :: L => match Nat.ble 1000000 t with
    | true => (σ.frzSlot (t - 1000000)).frzSlots L
    | false => σ.frzSlots L
def liveOf (t : Nat) : Nat :=
  match Nat.ble 1000000 t with
  | true => t - 1000000
  | false => t
def keepFor (L : Live) (c : ACode) (σ : St) : St :=
  match headOf c with
  | some id => match look L id with
    | some l => (σ.frzSlots l).keep (l.map liveOf)
    | none => σ
  | none => σ

/-- All orders that the edges allow come to one end. -/
def dstLt (n : Nat) (o : AOper) : Bool :=
  match o.dst with
  | some d => Nat.blt d n
  | none => true
def ACode.dstOk (n : Nat) : ACode → Bool
  | .region _ ops _ => ops.all (dstLt n)
  | .seq a b => a.dstOk n && b.dstOk n
  | .cond _ a b => a.dstOk n && b.dstOk n
  | .block _ a => a.dstOk n
  | .loop a => a.dstOk n
  | _ => true

def AO.opds : AO → List Operand
  | .mov x => [x]
  | .asg _ x _ => [x]
  | .pick c a b => [c, a, b]
  | .alloc _ => []
  | .box _ x => [x]
  | .build _ ps => ps.map (·.2)
  | .bslice _ _ _ ps => ps.map (·.2)
  | .load _ a => [a]
  | .store _ a x => [a, x]
  | .nilCheck x => [x]
  | .bin _ _ x y => [x, y]
  | .un _ x => [x]
  | .conv _ _ x => [x]
  | .mkfn _ a b => a ++ b
  | .mkclo _ b => b
  | .mkslice _ l c => [l, c]
  | .slice _ x lo hi mx => x :: (lo.toList ++ hi.toList ++ mx.toList)
  | .vw _ x lo => [x, lo]
  | .fieldAddr _ x _ => [x]
  | .field _ x _ => [x]
  | .indexAddr _ x i => [x, i]
  | .index _ x i => [x, i]
  | .extract x _ => [x]
  | .call _ f args => f :: args
  | .blt _ _ args _ => args
  | .other => []
def tmpsOf : List Operand → List Nat
  | [] => []
  | .tmp t :: xs => t :: tmpsOf xs
  | _ :: xs => tmpsOf xs
def AOper.reads (o : AOper) : List Nat := (match o.guard with | some g => [g.1] | none => []) ++ tmpsOf o.op.opds

/-- What is told of an operation in a region whose order is drawn: the blocks that it looks at, those that it changes, those that its value names, and the operations that have run before it in every order. -/
structure Tk where
  R : List Nat
  W : List Nat
  N : List Nat
  A : List Nat
instance : Inhabited Tk := ⟨⟨[], [], [], []⟩⟩
def memN (x : Nat) (l : List Nat) : Bool := l.any (Nat.beq x)
def disj (a b : List Nat) : Bool := a.all fun x => !(memN x b)

def okPair (i : Nat) (o : AOper) (t : Tk) (j : Nat) (o' : AOper) (t' : Tk) : Bool :=
  Nat.beq i j || (
    (match o.dst, o'.dst with | some d, some d' => !(Nat.beq d d') | _, _ => true) &&
    ((bif Nat.blt j i then memN j t.A else memN i t'.A) || ((match o'.dst with | some d => !(memN d o.reads) | none => true) && disj t'.W t.R)) &&
    (!(Nat.blt i j) || memN i t'.A || disj (t.W.filter (Nat.ble 1000)) t'.N))
def okDraw (ops : List AOper) (ts : List Tk) : Bool :=
  Nat.beq ops.length ts.length && (List.range ops.length).all fun i => match ops[i]?, ts[i]? with
    | some o, some t => o.after.all (Nat.blt · i) && t.W.all (memN · t.R) && t.A.all (fun x => memN x o.after || o.after.any fun j => memN x (ts.getD j default).A) && (List.range ops.length).all fun j => match ops[j]?, ts[j]? with
      | some o', some t' => okPair i o t j o' t'
      | _, _ => true
    | _, _ => true

def Ask.asks (H : Hp) : Ask → List Nat
  | .ret _ => []
  | .get id k => id :: (k (H id)).asks H
def namesL : AV → List Nat
  | .own id _ _ => [id]
  | .osl id => [id]
  | .fr id _ => [id]
  | .oclo _ id _ => [id]
  | .tuple xs => all xs
  | _ => []
where all : List AV → List Nat
  | [] => []
  | x :: xs => namesL x ++ all xs
def Ev.simple (ch : Upd) : Ev → Bool
  | .split .. => false
  | .call _ _ u ms _ => (u.all fun q => ch.any fun q' => Nat.beq q.1 q'.1) && ms.all fun q => (ch.any fun q' => Nat.beq q.2 q'.1 && q'.2.isSome) && ch.all fun q' => !(Nat.beq q.2 q'.1 && q'.2.isNone)
  | _ => true
def tok (T : Tys) (o : AOper) (σ σ' : St) (t : Tk) : Bool :=
  ((aop T (o.dst.getD 0) (opdA σ.e) o.op).run σ.h).simple (σ'.H.take (σ'.H.length - σ.H.length)) && ((aop T (o.dst.getD 0) (opdA σ.e) o.op).asks σ.h).all (memN · t.R) && ((σ'.H.take (σ'.H.length - σ.H.length)).all fun q => memN q.1 t.W && (q.2.isNone || (σ.h q.1).isSome || Nat.ble 1000 q.1)) && (match o.dst with | some d => (namesL (σ'.e d)).all (memN · t.N) | none => true)
def aopsT (P : Program) (T : Tys) : List AOper → List Tk → St → (St → Prop) → Prop
  | [], [], σ, K => K σ
  | o :: os, t :: ts, σ, K => astep P T o σ fun σ' => tok T o σ σ' t = true ∧ aopsT P T os ts σ' K
  | _, _, _, _ => False

def thenK (nb : St → Prop) (Q : AEx → St → Prop) : AEx → St → Prop
  | .normal, σ => nb σ
  | ex, σ => Q ex σ
def blockK (id : Nat) (Q : AEx → St → Prop) : AEx → St → Prop
  | .exit id', σ => if id' = id then Q .normal σ else Q (.exit id') σ
  | ex, σ => Q ex σ

def acode (P : Program) (T : Tys) (L : Live) : ACode → St → (AEx → St → Prop) → Prop
  | .skip, σ, Q => Q .normal σ
  | .region _ ops draw, σ, Q => match draw with
    | false => aops P T ops σ (Q .normal)
    | true => ∃ ts, okDraw ops ts = true ∧ aopsT P T ops ts σ (Q .normal)
  | .seq a b, σ, Q => acode P T L a σ (thenK (fun σ' => acode P T L b (keepFor L b σ') Q) Q)
  | .cond c a b, σ, Q => match opdA σ.e c with
    | .bool true => acode P T L a σ Q
    | .bool false => acode P T L b σ Q
    | _ => False
  | .block id a, σ, Q => acode P T L a σ (blockK id Q)
  | .loop a, σ, Q => ∀ X : St → Prop, (∀ σ', acode P T L a σ' (thenK (fun σ'' => X (keepFor L a σ'')) Q) → X σ') → X (keepFor L a σ)
  | .exit id, σ, Q => Q (.exit id) σ
  | .ret, σ, Q => Q .ret σ
  | .other, _, _ => False

end Go.Abs
/- Abstract runs of operations, regions and code are sound, and a function's abstract run gives its contract: for every program and world. -/
namespace Go.Abs

structure Fr where
  w0 : World
  B0 : Nat → Prop
  N : Nat → Prop
  ρ0 : Nat → Option Nat
  n : Nat

structure RelF (fr : Fr) (σ : St) (a : Act) (w : World) : Prop where
  rel : ∃ ρ, HRel ρ σ.h (fun k => fr.B0 k ∨ (fr.w0.heap.size ≤ k ∧ k < w.heap.size)) fr.N w ∧
    (∀ t, SlotRel ρ σ.h (Sof ρ σ.h (fun k => fr.B0 k ∨ (fr.w0.heap.size ≤ k ∧ k < w.heap.size))) w (σ.e t) (a.tmps.getD t undef)) ∧
    (∀ i b, σ.h (pid i) = some b → ρ (pid i) = fr.ρ0 (pid i))
  defers : a.defers = []
  size : a.tmps.size = fr.n
  only : Only fr.N fr.w0 w

structure Good (P : Program) (T : Tys) : Prop where
  ty : TysOk P T
  pos : ∀ t n e s b z, look T t = some ⟨.arr n e, s, b, z⟩ → 0 < n
  mixed : P.follows .mixedOrders = true

theorem h_upd (σ : St) (u : Upd) : (σ.upd u).h = updH σ.h u := by
  funext id
  simp only [St.h, St.upd, updH, look_append]
  cases look u id <;> simp
theorem h_put (σ : St) (d : Option Nat) (v : AV) : (σ.put d v).h = σ.h := by cases d <;> rfl
theorem e_upd (σ : St) (u : Upd) (t : Nat) : (σ.upd u).e t = σ.e t := rfl
theorem e_put (σ : St) (d : Option Nat) (v : AV) (t : Nat) : (σ.put d v).e t = if d = some t then v else σ.e t := by
  cases d with
  | none => simp [St.put]
  | some d =>
    simp only [St.put, St.e, look, Option.some.injEq]
    by_cases h : d = t
    · subst h; simp
    · have : Nat.beq d t = false := by rw [← Bool.not_eq_true, Nat.beq_eq]; exact h
      simp [this, h]
theorem look_mem {α : Type} : ∀ (l : List (Nat × α)) (k : Nat) (a : α), look l k = some a → (k, a) ∈ l
  | [], _, _, h => by simp [look] at h
  | (j, b) :: l, k, a, h => by
    simp only [look] at h
    split at h
    · rename_i e
      have := Nat.eq_of_beq_eq_true e
      simp at h; subst h; subst this; simp
    · exact List.mem_cons_of_mem _ (look_mem l k a h)

theorem okNew_spec {σ : St} {u : Upd} (h : okNew σ u = true) (id : Nat) (hid : NewIds σ.h u id) : id < 1000000 ∧ ∀ t, (σ.e t).names id = false := by
  obtain ⟨h1, b, h2⟩ := hid
  have hm := look_mem _ _ _ h2
  have := List.all_eq_true.1 h (id, some b) hm
  simp only [Option.isNone_some, Bool.false_or, h1, Option.isSome_none, Bool.and_eq_true] at this
  refine ⟨by have := Nat.le_of_ble_eq_true this.1; omega, fun t => ?_⟩
  unfold St.e
  cases ht : look σ.env t with
  | none => rfl
  | some v =>
    have := List.all_eq_true.1 this.2 (t, v) (look_mem _ _ _ ht)
    simpa using this

theorem getD_put (a : Act) (d : Nat) (v : Value) (t : Nat) (hd : d < a.tmps.size) : ((a.put (some d) v).tmps.getD t undef) = if d = t then v else a.tmps.getD t undef := by
  simp only [Act.put, Array.getD_eq_getD_getElem?, Array.getElem?_setIfInBounds]
  by_cases h : d = t
  · subst h; simp [hd]
  · simp [h]

section
variable {P : Program} {T : Tys} {fr : Fr} {σ : St} {a : Act} {w : World}

/-- A step and what it writes. -/
theorem RelF.step (hr : RelF fr σ a w) {ρ : Nat → Option Nat} (hρ : ∀ i b, σ.h (pid i) = some b → ρ (pid i) = fr.ρ0 (pid i))
    (hs : ∀ t, SlotRel ρ σ.h (Sof ρ σ.h (fun k => fr.B0 k ∨ (fr.w0.heap.size ≤ k ∧ k < w.heap.size))) w (σ.e t) (a.tmps.getD t undef))
    {F : Nat → Prop} {ρ' : Nat → Option Nat} {u : Upd} {w' : World} {v : AV} {c : Value} {dst : Option Nat}
    (hst : Step F ρ σ.h (fun k => fr.B0 k ∨ (fr.w0.heap.size ≤ k ∧ k < w.heap.size)) fr.N w ρ' (updH σ.h u) w') (hF : ∀ id, F id → ∀ t, (σ.e t).names id = false) (hFp : ∀ i, ¬ F (pid i))
    (hv : SlotRel ρ' (updH σ.h u) (Sof ρ' (updH σ.h u) (fun k => (fr.B0 k ∨ (fr.w0.heap.size ≤ k ∧ k < w.heap.size)) ∨ (w.heap.size ≤ k ∧ k < w'.heap.size))) w' v c)
    (hd : ∀ d, dst = some d → d < fr.n) : RelF fr ((σ.upd u).put dst v) (a.put dst c) w' := by
  have eB := Bgrow (B := fr.B0) hr.only.size hst.only.size
  refine ⟨⟨ρ', ?_, fun t => ?_, fun i b hb => ?_⟩, ?_, ?_, hr.only.trans hst.only⟩
  · rw [h_put, h_upd, ← eB]; exact hst.heap
  · rw [h_put, h_upd, ← eB, e_put, e_upd]
    cases dst with
    | none =>
      simp only [reduceCtorEq, if_false, Act.put]
      exact hst.keep _ _ (fun id hid => hF id hid t) (hs t)
    | some d =>
      rw [getD_put _ _ _ _ (by rw [hr.size]; exact hd d rfl)]
      by_cases h : d = t
      · subst h; simp only [if_true]; exact hv
      · simp only [Option.some.injEq, h, if_false]
        exact hst.keep _ _ (fun id hid => hF id hid t) (hs t)
  · rw [h_put, h_upd] at hb
    obtain ⟨e1, b0, hb0⟩ := hst.same (pid i) b (hFp i) hb
    rw [e1]; exact hρ i b0 hb0
  · cases dst <;> exact hr.defers
  · cases dst with
    | none => exact hr.size
    | some d => simpa [Act.put] using hr.size

/-- What is skipped leaves nothing. -/
theorem RelF.put_skip (hr : RelF fr σ a w) (dst : Option Nat) (hd : ∀ d, dst = some d → d < fr.n) : RelF fr (σ.put dst (.tuple [])) (a.put dst undef) w := by
  obtain ⟨⟨ρ, h1, h2, h3⟩, h4, h5, h6⟩ := hr
  refine ⟨⟨ρ, by rw [h_put]; exact h1, fun t => ?_, by rw [h_put]; exact h3⟩, ?_, ?_, h6⟩
  · rw [h_put, e_put]
    cases dst with
    | none => simpa [Act.put] using h2 t
    | some d =>
      rw [getD_put _ _ _ _ (by rw [h5]; exact hd d rfl)]
      by_cases h : d = t
      · subst h; simp only [if_true]; exact ⟨[], rfl, rfl⟩
      · simp only [Option.some.injEq, h, if_false]; exact h2 t
  · cases dst <;> exact h4
  · cases dst with
    | none => exact h5
    | some d => simpa [Act.put] using h5

theorem RelF.cx (g : Good P T) (hN : ∀ k, fr.w0.heap.size ≤ k → fr.N k) (hr : RelF fr σ a w) : ∃ ρ, Cx P T ρ σ.h (fun k => fr.B0 k ∨ (fr.w0.heap.size ≤ k ∧ k < w.heap.size)) fr.N w (opdA σ.e) a.eval ∧
    (∀ t, SlotRel ρ σ.h (Sof ρ σ.h (fun k => fr.B0 k ∨ (fr.w0.heap.size ≤ k ∧ k < w.heap.size))) w (σ.e t) (a.tmps.getD t undef)) ∧ (∀ i b, σ.h (pid i) = some b → ρ (pid i) = fr.ρ0 (pid i)) := by
  obtain ⟨⟨ρ, h1, h2, h3⟩, _, _, h6⟩ := hr
  exact ⟨ρ, ⟨g.ty, h1, fun k hk => hN k (Nat.le_trans h6.size hk), opd_rel h2⟩, h2, h3⟩

/-- The arguments of a call none of which is handed on to be written. -/
theorem frzArgs_elim {H : Hp} : ∀ (m i : Nat) (vs : List AV) {k : List AV → Upd → List (Nat × Nat) → Ask} {g : FuncId} {as : List AV} {u : Upd} {ms : List (Nat × Nat)} {C : Prop}, (frzArgs m i vs k).run H = .call g as u ms C →
    ∃ vs' u' ms', (k vs' u' ms').run H = .call g as u ms C ∧ FU H u' ∧ (ms' = [] → (∀ v ∈ vs', v.plain = true) ∧ ∀ ρ B N w cvs, HRel ρ H B N w → SlotsRel ρ H (Sof ρ H B) w vs cvs → SlotsRel ρ (updH H u') (Sof ρ (updH H u') B) w vs' cvs)
  | m, i, [], k, g, as, u, ms, C, h => ⟨[], [], [], h, FU.nil H, fun _ => ⟨by simp, fun _ _ _ _ _ _ hs => hs⟩⟩
  | m, i, v :: vs, k, g, as, u, ms, C, h => by
    simp only [frzArgs] at h
    split at h
    · split at h
      · simp only [Ask.run] at h
        split at h
        · obtain ⟨vs', u', ms', h1, h2, _⟩ := frzArgs_elim m (i + 1) vs h
          exact ⟨_, _, _, h1, h2, by simp⟩
        · simp [Ask.run] at h
      · simp only [Ask.run] at h
        split at h
        · obtain ⟨vs', u', ms', h1, h2, _⟩ := frzArgs_elim m (i + 1) vs h
          exact ⟨_, _, _, h1, h2, by simp⟩
        · simp [Ask.run] at h
      · simp only [Ask.run] at h
        split at h
        · obtain ⟨vs', u', ms', h1, h2, _⟩ := frzArgs_elim m (i + 1) vs h
          exact ⟨_, _, _, h1, h2, by simp⟩
        · simp [Ask.run] at h
      · simp [Ask.run] at h
    · obtain ⟨v', u1, h1, hu1, hp1, _, hs1⟩ := frz_elim h (by simp)
      obtain ⟨vs', u', ms', h2, hu2, hh⟩ := frzArgs_elim m (i + 1) vs h1
      refine ⟨_, _, _, h2, hu1.append hu2, fun hms => ?_⟩
      obtain ⟨hp2, hs2⟩ := hh hms
      refine ⟨fun x hx => ?_, fun ρ B N w cvs hrel h3 => ?_⟩
      · rcases List.mem_cons.1 hx with rfl | hx
        · exact hp1
        · exact hp2 x hx
      · obtain ⟨c, rest, rfl, h4, h5⟩ := h3
        refine ⟨c, rest, rfl, ?_, ?_⟩
        · rw [FU.upd_comm hu1 hu2]
          exact FU.slot (FU.hrel hrel hu1) (FU.of_append hu1 hu2) (hs1 ρ B N w c hrel h4)
        · have := hs2 ρ B N w rest hrel h5
          rw [updH_append]
          have hfu : FU (updH H u') u1 := FU.of_append hu2 hu1
          refine (slots_keep (F := No) (S := Sof ρ (updH H u') B) (w := w) (fun k hk => FU.sof (FU.hrel hrel hu2) hfu k hk) (fun _ _ _ => rfl) (fun id b' hb' => .inr ?_) _ _ (fun id x => x.elim) this)
          obtain ⟨b, hb, hc, _⟩ := hfu.upd id b' hb'
          exact ⟨b, hb, rfl, fun sz xs e => ⟨xs, by rw [← hc]; exact e, rfl⟩, fun k arr T _ e => ⟨arr, T, e, rfl⟩⟩

theorem entryB_plain {v : AV} (i : Nat) (h : v.plain = true) : entryB v = none ∧ entryE i v = v := by
  cases v <;> simp [AV.plain] at h <;> exact ⟨rfl, rfl⟩

theorem mutIx_nil : ∀ (i : Nat) (vs : List AV), mutIx i vs = [] → (∀ v ∈ vs, entryB v = none)
  | _, [], _ => by simp
  | i, v :: vs, h => by
    simp only [mutIx] at h
    split at h
    · cases h
    · rename_i e
      intro x hx
      rcases List.mem_cons.1 hx with rfl | hx
      · exact e
      · exact mutIx_nil (i + 1) vs h x hx
theorem entryH_nil : ∀ (i : Nat) (vs : List AV), (∀ v ∈ vs, entryB v = none) → entryH i vs = []
  | _, [], _ => rfl
  | i, v :: vs, h => by simp only [entryH, h v (by simp)]; exact entryH_nil (i + 1) vs fun x hx => h x (by simp [hx])
theorem entryEnv_map : ∀ (i : Nat) (vs : List AV), (∀ v ∈ vs, entryB v = none) → (entryEnv i vs).map (·.2) = vs
  | _, [], _ => rfl
  | i, v :: vs, h => by
    simp only [entryEnv, List.map_cons, entryEnv_map (i + 1) vs fun x hx => h x (by simp [hx])]
    congr 1
    have := h v (by simp)
    cases v <;> first | rfl | (simp [entryB] at this)

/-- Slots without own blocks do not ask for their names. -/
theorem slot_plain {ρ ρ' : Nat → Option Nat} {H H' : Hp} {S S' : Nat → Prop} {w : World} {v : AV} {c : Value} (h : SlotRel ρ H S w v c) (hp : v.plain = true) (hS : ∀ k, S k → S' k) : SlotRel ρ' H' S' w v c := by
  obtain ⟨cs, h1, rfl, _⟩ := vrel_of_slot h hp
  exact slot_of_vrel (VRel.keep hS (fun _ _ _ => rfl) _ _ h1) hp
theorem slots_plain {ρ ρ' : Nat → Option Nat} {H H' : Hp} {S S' : Nat → Prop} {w : World} : ∀ (vs : List AV) (cs : List Value), SlotsRel ρ H S w vs cs → (∀ v ∈ vs, v.plain = true) → (∀ k, S k → S' k) → SlotsRel ρ' H' S' w vs cs
  | [], _, h, _, _ => h
  | v :: vs, _, ⟨c, rest, e, h1, h2⟩, hp, hS => ⟨c, rest, e, slot_plain h1 (hp v (by simp)) hS, slots_plain vs rest h2 (fun x hx => hp x (by simp [hx])) hS⟩
theorem slots_append {ρ : Nat → Option Nat} {H : Hp} {S : Nat → Prop} {w : World} : ∀ (a b : List AV) (c d : List Value), SlotsRel ρ H S w a c → SlotsRel ρ H S w b d → SlotsRel ρ H S w (a ++ b) (c ++ d)
  | [], b, c, d, h, g => by simp only [SlotsRel] at h; subst h; exact g
  | v :: a, b, _, d, ⟨c, rest, e, h1, h2⟩, g => by subst e; exact ⟨c, rest ++ d, rfl, h1, slots_append a b rest d h2 g⟩

theorem slots_of_pack {ρ : Nat → Option Nat} {H : Hp} {S : Nat → Prop} {w : World} : ∀ (vs : List AV) (cs : List Value), VPack S w vs cs → (∀ v ∈ vs, v.plain = true) → SlotsRel ρ H S w vs cs
  | [], _, h, _ => h
  | v :: vs, _, h, hp => by
    obtain ⟨c1, c2, rfl, hv, hr⟩ := h
    exact ⟨_, c2, rfl, slot_of_vrel hv (hp v (by simp)), slots_of_pack vs c2 hr fun x hx => hp x (by simp [hx])⟩

end
end Go.Abs
