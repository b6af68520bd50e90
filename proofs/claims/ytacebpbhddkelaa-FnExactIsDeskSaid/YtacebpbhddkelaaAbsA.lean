/- Abstract values for Go's data (slices and arrays as plain lists), and what it means that a concrete value in a world is one: for every world. -/
import Derived.Calls
import Derived.Orders
import Derived.Laws.World
namespace Go.Abs

/-- Abstract values. `ref v p o`: a pointer into a variable that is never written again, whose content is v, at the path p, o the parts of its offset. `own id p o`: a pointer into a block of the call's own. `osl id`: a slice over the whole content of a block of the call's own. `row`: the content of such a block. `mutsl`, `mutp`: what is handed on to be written. `fr`: a slice that came back in new memory. -/
inductive AV where
  | top
  | int (k : IntKind) (n : Int)
  | bool (b : Bool)
  | str (s : ByteArray)
  | arr (sz n : Nat) (xs : List AV)
  | struct (szs : List Nat) (xs : List AV)
  | row (sz : Nat) (xs : List AV)
  | sl (sz : Nat) (t : Bool) (xs : List AV)
  | clo (f : FuncId) (first caps : List AV)
  | ref (v : AV) (p : List Nat) (o : List Nat)
  | own (id : Nat) (p : List Nat) (o : List Nat)
  | osl (id : Nat)
  | mutsl (sz : Nat) (xs : List AV)
  | mutp (v : AV)
  | fr (sz : Nat) (xs : List AV)
  | tuple (xs : List AV)
  | raw (v : Value)

instance : Inhabited AV := ⟨.top⟩

def nth (xs : List AV) (j : Nat) : AV := xs.getD j .top

def AV.size : AV → Nat
  | .arr sz n _ => sz * n
  | .struct szs _ => szs.sum
  | .row sz xs => sz * xs.length
  | _ => 1

def AV.isAgg : AV → Bool
  | .arr .. | .struct .. => true
  | _ => false

/-- May it stand in a cell of memory, or be handed on by value? -/
def AV.plain : AV → Bool
  | .int .. | .bool _ | .str _ | .arr .. | .struct .. | .sl .. | .clo .. | .ref .. | .raw _ => true
  | _ => false

def scalar : Value → Bool
  | .agg _ | .tuple _ => false
  | _ => true

def pack : AV → List Value → Value
  | .arr .., cs | .struct .., cs => .agg cs.toArray
  | _, cs => cs.headD undef

/-! Paths. -/
def kids : AV → List AV
  | .arr _ _ xs | .struct _ xs | .row _ xs => xs
  | _ => []
def kidOff : AV → Nat → Nat
  | .arr sz _ _, j => j * sz
  | .row sz _, j => j * sz
  | .struct szs _, j => (szs.take j).sum
  | _, _ => 0
def kidSz : AV → Nat → Nat
  | .arr sz _ _, _ => sz
  | .row sz _, _ => sz
  | .struct szs _, j => szs.getD j 0
  | _, _ => 0
def withKids : AV → List AV → AV
  | .arr sz n _, xs => .arr sz n xs
  | .struct szs _, xs => .struct szs xs
  | .row sz _, xs => .row sz xs
  | v, _ => v

def atP : List Nat → AV → AV
  | [], v => v
  | j :: p, v => atP p (nth (kids v) j)
def hasP : List Nat → AV → Prop
  | [], _ => True
  | j :: p, v => j < (kids v).length ∧ hasP p (nth (kids v) j)
def offs : List Nat → AV → List Nat
  | [], _ => []
  | j :: p, v => kidOff v j :: offs p (nth (kids v) j)
def szAt : List Nat → AV → Nat
  | [], v => v.size
  | [j], v => kidSz v j
  | j :: p, v => szAt p (nth (kids v) j)
def putP : List Nat → AV → AV → AV
  | [], _, u => u
  | j :: p, v, u => withKids v ((kids v).set j (putP p (nth (kids v) j) u))

/-! Readings. -/
def Reads (w : World) (k off : Nat) (vs : List Value) : Prop :=
  ∀ j, j < vs.length → w.cell? ⟨k, off + j, none⟩ = vs[j]?

mutual
def VRel (S : Nat → Prop) (w : World) : AV → List Value → Prop
  | .int k n, cs => cs = [.int k n]
  | .bool b, cs => cs = [.bool b]
  | .str s, cs => cs = [.string s]
  | .raw v, cs => cs = [v] ∧ scalar v = true
  | .arr sz n xs, cs => xs.length = n ∧ VAll S w (fun _ => sz) 0 xs cs
  | .struct szs xs, cs => szs.length = xs.length ∧ VAll S w (fun j => szs.getD j 0) 0 xs cs
  | .row sz xs, cs => VAll S w (fun _ => sz) 0 xs cs
  | .sl sz t xs, cs => ∃ a cap, cs = [.slice a xs.length cap] ∧ xs.length ≤ cap ∧ (t = true → cap = xs.length) ∧
      (xs = [] ∨ ∃ k off vs, a = some ⟨k, off, none⟩ ∧ S k ∧ VAll S w (fun _ => sz) 0 xs vs ∧ Reads w k off vs)
  | .clo f first caps, cs => ∃ v1 v2, cs = [.func (.func f) v1.toArray v2.toArray] ∧ ((first ++ caps).all fun x => x.plain && !x.isAgg) = true ∧ VAll S w (fun _ => 1) 0 first v1 ∧ VAll S w (fun _ => 1) 0 caps v2
  | .ref v _ o, cs => ∃ k off vs, cs = [.pointer (some ⟨k, off + o.sum, none⟩)] ∧ S k ∧ VRel S w v vs ∧ Reads w k off vs
  | _, _ => False
def VAll (S : Nat → Prop) (w : World) (sz : Nat → Nat) : Nat → List AV → List Value → Prop
  | _, [], cs => cs = []
  | j, x :: xs, cs => ∃ c1 c2, cs = c1 ++ c2 ∧ VRel S w x c1 ∧ c1.length = sz j ∧ VAll S w sz (j + 1) xs c2
end

/-- What was read in allowed blocks reads so still. -/
def Keeps (S : Nat → Prop) (w w' : World) : Prop := ∀ a : Addr, S a.block → (∃ v, w.cell? a = some v) → w'.cell? a = w.cell? a

theorem Reads.keep {S : Nat → Prop} {w w' : World} (h : Keeps S w w') {k off : Nat} {vs : List Value} (hk : S k) (hr : Reads w k off vs) : Reads w' k off vs := by
  intro j hj
  have h1 := hr j hj
  rw [← h1]
  exact h ⟨k, off + j, none⟩ hk ⟨vs[j], by rw [h1]; simp [hj]⟩

mutual
theorem VRel.keep {S S' : Nat → Prop} {w w' : World} (hS : ∀ k, S k → S' k) (h : Keeps S w w') : ∀ (v : AV) (cs : List Value), VRel S w v cs → VRel S' w' v cs
  | .top, _ => fun x => x.elim
  | .int _ _, _ => fun x => x
  | .bool _, _ => fun x => x
  | .str _, _ => fun x => x
  | .raw _, _ => fun x => x
  | .arr _ _ xs, cs => fun x => ⟨x.1, VAll.keep hS h xs _ cs _ x.2⟩
  | .struct _ xs, cs => fun x => ⟨x.1, VAll.keep hS h xs _ cs _ x.2⟩
  | .row _ xs, cs => fun x => VAll.keep hS h xs _ cs _ x
  | .sl _ _ xs, _ => fun ⟨a, cap, e, l, t, r⟩ => ⟨a, cap, e, l, t, r.imp id fun ⟨k, off, vs, e1, hk, hv, hr⟩ => ⟨k, off, vs, e1, hS k hk, VAll.keep hS h xs _ vs _ hv, hr.keep h hk⟩⟩
  | .clo _ f c, _ => fun ⟨v1, v2, e, hp, h1, h2⟩ => ⟨v1, v2, e, hp, VAll.keep hS h f _ v1 _ h1, VAll.keep hS h c _ v2 _ h2⟩
  | .ref v _ _, _ => fun ⟨k, off, vs, e, hk, hv, hr⟩ => ⟨k, off, vs, e, hS k hk, VRel.keep hS h v vs hv, hr.keep h hk⟩
  | .own .., _ => fun x => x.elim
  | .osl _, _ => fun x => x.elim
  | .mutsl .., _ => fun x => x.elim
  | .mutp _, _ => fun x => x.elim
  | .fr .., _ => fun x => x.elim
  | .tuple _, _ => fun x => x.elim
theorem VAll.keep {S S' : Nat → Prop} {w w' : World} (hS : ∀ k, S k → S' k) (h : Keeps S w w') : ∀ (xs : List AV) (sz : Nat → Nat) (cs : List Value) (j : Nat), VAll S w sz j xs cs → VAll S' w' sz j xs cs
  | [], _, _, _ => fun x => x
  | v :: xs, sz, _, j => fun ⟨c1, c2, e, hv, l, r⟩ => ⟨c1, c2, e, VRel.keep hS h v c1 hv, l, VAll.keep hS h xs sz c2 (j + 1) r⟩
end

end Go.Abs
