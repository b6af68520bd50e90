/- Abstract states over memory: which blocks are the call's own, what its slots hold; how this lasts while memory grows and own blocks are written: for every world. -/
import Derived.Test.YtacebpbhddkelaaAbsB
namespace Go.Abs

structure Blk where
  c : AV
  fz : Bool

/-! ## Worlds that differ in some blocks alone -/
structure Only (K : Nat → Prop) (w w' : World) : Prop where
  os : w'.os = w.os
  tape : w'.tape = w.tape
  output : w'.output = w.output
  size : w.heap.size ≤ w'.heap.size
  block : ∀ k, k < w.heap.size → ¬ K k → w'.heap[k]? = w.heap[k]?
  froz : ∀ a, w'.frozen? a = w.frozen? a

def No : Nat → Prop := fun _ => False

theorem Only.refl (K : Nat → Prop) (w : World) : Only K w w := ⟨rfl, rfl, rfl, Nat.le_refl _, fun _ _ _ => rfl, fun _ => rfl⟩
theorem Only.trans {K : Nat → Prop} {a b c : World} (h : Only K a b) (g : Only K b c) : Only K a c :=
  ⟨g.os.trans h.os, g.tape.trans h.tape, g.output.trans h.output, Nat.le_trans h.size g.size, fun k hk hn => (g.block k (Nat.lt_of_lt_of_le hk h.size) hn).trans (h.block k hk hn), fun a => (g.froz a).trans (h.froz a)⟩
theorem Only.mono {K K' : Nat → Prop} {a b : World} (h : Only K a b) (hK : ∀ k, k < a.heap.size → K k → K' k) : Only K' a b :=
  ⟨h.os, h.tape, h.output, h.size, fun k hk hn => h.block k hk fun x => hn (hK k hk x), h.froz⟩
/-- What is written lies behind the beginning. -/
theorem Only.trans' {K K' : Nat → Prop} {a b c : World} (h : Only K a b) (g : Only K' b c) (hK : ∀ k, k < a.heap.size → K' k → K k) : Only K a c :=
  ⟨g.os.trans h.os, g.tape.trans h.tape, g.output.trans h.output, Nat.le_trans h.size g.size, fun k hk hn => (g.block k (Nat.lt_of_lt_of_le hk h.size) fun x => hn (hK k hk x)).trans (h.block k hk hn), fun a => (g.froz a).trans (h.froz a)⟩
theorem Only.drew (K : Nat → Prop) (w : World) : Only K w w.drew := ⟨rfl, rfl, rfl, Nat.le_refl _, fun _ _ _ => rfl, fun _ => rfl⟩
theorem frozen_alloc (w : World) (c : Array Value) (t : TypeId) (a : Addr) : (w.alloc (.cells c t)).frozen? a = w.frozen? a := by
  have e : (w.alloc (.cells c t)).heap = w.heap.push (.cells c t) := rfl
  unfold World.frozen?
  rw [e, Array.getElem?_push]
  by_cases h : a.block = w.heap.size
  · rw [if_pos h, h, Array.getElem?_eq_none (Nat.le_refl _)]
    simp
  · rw [if_neg h]
theorem Only.alloc (K : Nat → Prop) (w : World) (c : Array Value) (t : TypeId) : Only K w (w.alloc (.cells c t)) :=
  ⟨rfl, rfl, rfl, by simp, fun k hk _ => by
    show (w.heap.push _)[k]? = _
    rw [Array.getElem?_push, if_neg (by omega)], frozen_alloc w c t⟩

theorem cell?_block {w w' : World} {a : Addr} (h : w'.heap[a.block]? = w.heap[a.block]?) : w'.cell? a = w.cell? a := by
  simp only [World.cell?, h]

theorem lt_of_cell? {w : World} {a : Addr} {v : Value} (h : w.cell? a = some v) : a.block < w.heap.size := World.block_lt_of_cell? w a h

theorem Only.keeps {K S : Nat → Prop} {w w' : World} (h : Only K w w') (hS : ∀ k, S k → ¬ K k) : Keeps S w w' := by
  intro a ha hv
  obtain ⟨v, hv⟩ := hv
  exact cell?_block (h.block _ (lt_of_cell? hv) (hS _ ha))

/-! ## The state of a call -/
abbrev Hp := Nat → Option Blk

/-- The blocks that values that are never written again may lie in. -/
def Sof (ρ : Nat → Option Nat) (H : Hp) (B : Nat → Prop) : Nat → Prop :=
  fun k => B k ∧ ∀ id b, H id = some b → b.fz = false → ρ id ≠ some k

def At (ρ : Nat → Option Nat) (H : Hp) (B N : Nat → Prop) (w : World) (id : Nat) (b : Blk) : Prop :=
  (∃ sz, b.c = .row sz [] ∧ ρ id = none) ∨
  ∃ k arr T cs ext, ρ id = some k ∧ B k ∧ N k ∧ w.heap[k]? = some (.cells arr T (0, 0)) ∧ arr.toList = cs ++ ext ∧ VRel (Sof ρ H B) w b.c cs

structure HRel (ρ : Nat → Option Nat) (H : Hp) (B N : Nat → Prop) (w : World) : Prop where
  at_ : ∀ id b, H id = some b → At ρ H B N w id b
  inj : ∀ i j bi bj k, H i = some bi → H j = some bj → ρ i = some k → ρ j = some k → i = j
  bound : ∀ k, B k → k < w.heap.size

mutual
def SlotRel (ρ : Nat → Option Nat) (H : Hp) (S : Nat → Prop) (w : World) : AV → Value → Prop
  | .top, _ => True
  | .own id _ o, v => ∀ b, H id = some b → ∃ k, ρ id = some k ∧ v = .pointer (some ⟨k, o.sum, none⟩)
  | .osl id, v => ∀ b, H id = some b → ∃ sz xs, b.c = .row sz xs ∧
      ((xs = [] ∧ ρ id = none ∧ ∃ a, v = .slice a 0 0) ∨
       ∃ k cap arr T, ρ id = some k ∧ v = .slice (some ⟨k, 0, none⟩) xs.length cap ∧ xs.length ≤ cap ∧ w.heap[k]? = some (.cells arr T (0, 0)) ∧ cap * sz ≤ arr.size)
  | .tuple xs, v => ∃ vs, v = .tuple vs.toArray ∧ SlotsRel ρ H S w xs vs
  | .int k n, v => v = .int k n
  | .bool b, v => v = .bool b
  | .str s, v => v = .string s
  | .raw u, v => v = u ∧ scalar u = true
  | .arr sz n xs, v => ∃ cs, VRel S w (.arr sz n xs) cs ∧ v = .agg cs.toArray
  | .struct szs xs, v => ∃ cs, VRel S w (.struct szs xs) cs ∧ v = .agg cs.toArray
  | .sl sz t xs, v => VRel S w (.sl sz t xs) [v]
  | .clo f a b, v => VRel S w (.clo f a b) [v]
  | .ref u p o, v => VRel S w (.ref u p o) [v]
  | _, _ => False
def SlotsRel (ρ : Nat → Option Nat) (H : Hp) (S : Nat → Prop) (w : World) : List AV → List Value → Prop
  | [], vs => vs = []
  | x :: xs, vs => ∃ v rest, vs = v :: rest ∧ SlotRel ρ H S w x v ∧ SlotsRel ρ H S w xs rest
end

/-- Does it name the own block id? -/
def AV.names (id : Nat) : AV → Bool
  | .own i _ _ => i == id
  | .osl i => i == id
  | .tuple xs => namesAny id xs
  | _ => false
where
  namesAny (id : Nat) : List AV → Bool
  | [] => false
  | x :: xs => AV.names id x || namesAny id xs

theorem slot_of_vrel {ρ : Nat → Option Nat} {H : Hp} {S : Nat → Prop} {w : World} {v : AV} {cs : List Value} (h : VRel S w v cs) (hp : v.plain = true) : SlotRel ρ H S w v (pack v cs) := by
  cases v <;> simp only [AV.plain, Bool.false_eq_true] at hp <;> simp only [SlotRel, pack]
  case int => simp only [VRel] at h; subst h; rfl
  case bool => simp only [VRel] at h; subst h; rfl
  case str => simp only [VRel] at h; subst h; rfl
  case raw => simp only [VRel] at h; obtain ⟨rfl, h⟩ := h; exact ⟨rfl, h⟩
  case arr => exact ⟨cs, h, rfl⟩
  case struct => exact ⟨cs, h, rfl⟩
  case sl => obtain ⟨a, cap, rfl, r⟩ := h; exact ⟨a, cap, rfl, r⟩
  case clo => obtain ⟨a, b, rfl, r⟩ := h; exact ⟨a, b, rfl, r⟩
  case ref => obtain ⟨k, off, vs, rfl, r⟩ := h; exact ⟨k, off, vs, rfl, r⟩

theorem vrel_of_slot {ρ : Nat → Option Nat} {H : Hp} {S : Nat → Prop} {w : World} {v : AV} {cv : Value} (h : SlotRel ρ H S w v cv) (hp : v.plain = true) : ∃ cs, VRel S w v cs ∧ cv = pack v cs ∧ cv.cells.toList = cs := by
  cases v <;> simp only [AV.plain, Bool.false_eq_true] at hp <;> simp only [SlotRel] at h
  case int => subst h; refine ⟨[_], ?_, rfl, rfl⟩; simp only [VRel]
  case bool => subst h; refine ⟨[_], ?_, rfl, rfl⟩; simp only [VRel]
  case str => subst h; refine ⟨[_], ?_, rfl, rfl⟩; simp only [VRel]
  case raw u => obtain ⟨rfl, h⟩ := h; refine ⟨[_], ⟨rfl, h⟩, rfl, ?_⟩; cases cv <;> first | rfl | simp [scalar] at h
  case arr => obtain ⟨cs, h, rfl⟩ := h; exact ⟨cs, h, rfl, by simp [Value.cells]⟩
  case struct => obtain ⟨cs, h, rfl⟩ := h; exact ⟨cs, h, rfl, by simp [Value.cells]⟩
  case sl => refine ⟨[cv], h, rfl, ?_⟩; obtain ⟨a, cap, e, _⟩ := h; simp at e; subst e; rfl
  case clo => refine ⟨[cv], h, rfl, ?_⟩; obtain ⟨a, b, e, _⟩ := h; simp at e; subst e; rfl
  case ref => refine ⟨[cv], h, rfl, ?_⟩; obtain ⟨k, off, vs, e, _⟩ := h; simp at e; subst e; rfl

mutual
theorem slot_keep {F : Nat → Prop} {ρ ρ' : Nat → Option Nat} {H H' : Hp} {S S' : Nat → Prop} {w w' : World} (hS : ∀ k, S k → S' k) (hK : Keeps S w w')
    (hid : ∀ id b', H' id = some b' → F id ∨ ∃ b, H id = some b ∧ ρ' id = ρ id ∧ (∀ sz xs, b.c = .row sz xs → ∃ xs', b'.c = .row sz xs' ∧ xs'.length = xs.length) ∧
      (∀ k arr T, ρ id = some k → w.heap[k]? = some (.cells arr T (0, 0)) → ∃ arr' T', w'.heap[k]? = some (.cells arr' T' (0, 0)) ∧ arr'.size = arr.size)) :
    ∀ (av : AV) (v : Value), (∀ id, F id → av.names id = false) → SlotRel ρ H S w av v → SlotRel ρ' H' S' w' av v
  | .top, _, _, _ => trivial
  | .own id p o, v, hn, h => by
    intro b' hb'
    rcases hid id b' hb' with hF | ⟨b, hb, e, _, _⟩
    · have := hn id hF; simp [AV.names] at this
    · rw [e]; exact h b hb
  | .osl id, v, hn, h => by
    intro b' hb'
    rcases hid id b' hb' with hF | ⟨b, hb, e, hrow, hblk⟩
    · have := hn id hF; simp [AV.names] at this
    · obtain ⟨sz, xs, hc, hh⟩ := h b hb
      obtain ⟨xs', hc', hl⟩ := hrow sz xs hc
      refine ⟨sz, xs', hc', ?_⟩
      rw [e]
      rcases hh with ⟨hx, hρ, a, ha⟩ | ⟨k, cap, arr, T, hρ, hv, hle, hw, hcap⟩
      · left; subst hx; exact ⟨by simpa using hl, hρ, a, ha⟩
      · right
        obtain ⟨arr', T', hw', hs'⟩ := hblk k arr T hρ hw
        exact ⟨k, cap, arr', T', hρ, by rw [hl]; exact hv, by rw [hl]; exact hle, hw', by rw [hs']; exact hcap⟩
  | .tuple xs, v, hn, h => by
    obtain ⟨vs, rfl, h⟩ := h
    exact ⟨vs, rfl, slots_keep hS hK hid xs vs (fun id hF => by simpa [AV.names] using hn id hF) h⟩
  | .int _ _, _, _, h => h
  | .bool _, _, _, h => h
  | .str _, _, _, h => h
  | .raw _, _, _, h => h
  | .arr _ _ _, _, _, h => by obtain ⟨cs, h, e⟩ := h; exact ⟨cs, VRel.keep hS hK _ _ h, e⟩
  | .struct _ _, _, _, h => by obtain ⟨cs, h, e⟩ := h; exact ⟨cs, VRel.keep hS hK _ _ h, e⟩
  | .sl _ _ _, _, _, h => VRel.keep hS hK _ _ h
  | .clo _ _ _, _, _, h => VRel.keep hS hK _ _ h
  | .ref _ _ _, _, _, h => VRel.keep hS hK _ _ h
  | .row .., _, _, h => h.elim
  | .mutsl .., _, _, h => h.elim
  | .mutp _, _, _, h => h.elim
  | .fr .., _, _, h => h.elim
theorem slots_keep {F : Nat → Prop} {ρ ρ' : Nat → Option Nat} {H H' : Hp} {S S' : Nat → Prop} {w w' : World} (hS : ∀ k, S k → S' k) (hK : Keeps S w w')
    (hid : ∀ id b', H' id = some b' → F id ∨ ∃ b, H id = some b ∧ ρ' id = ρ id ∧ (∀ sz xs, b.c = .row sz xs → ∃ xs', b'.c = .row sz xs' ∧ xs'.length = xs.length) ∧
      (∀ k arr T, ρ id = some k → w.heap[k]? = some (.cells arr T (0, 0)) → ∃ arr' T', w'.heap[k]? = some (.cells arr' T' (0, 0)) ∧ arr'.size = arr.size)) :
    ∀ (xs : List AV) (vs : List Value), (∀ id, F id → AV.names.namesAny id xs = false) → SlotsRel ρ H S w xs vs → SlotsRel ρ' H' S' w' xs vs
  | [], _, _, h => h
  | x :: xs, vs, hn, h => by
    obtain ⟨v, rest, rfl, hx, hr⟩ := h
    have hn1 : ∀ id, F id → x.names id = false := fun id hF => by have := hn id hF; simp [AV.names.namesAny] at this; exact this.1
    have hn2 : ∀ id, F id → AV.names.namesAny id xs = false := fun id hF => by have := hn id hF; simp [AV.names.namesAny] at this; exact this.2
    exact ⟨v, rest, rfl, slot_keep hS hK hid x v hn1 hx, slots_keep hS hK hid xs rest hn2 hr⟩
end

end Go.Abs
