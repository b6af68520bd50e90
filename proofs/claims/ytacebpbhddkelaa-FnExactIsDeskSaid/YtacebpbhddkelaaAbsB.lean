/- Lemmas on abstract values along paths: for every value, path and world: what is read and written at a path's offset. -/
import Derived.Test.YtacebpbhddkelaaAbsA
namespace Go.Abs

def pre (sz : Nat → Nat) : Nat → Nat → Nat
  | _, 0 => 0
  | j, i + 1 => sz j + pre sz (j + 1) i

theorem pre_const (c : Nat) : ∀ (i j : Nat), pre (fun _ => c) j i = i * c
  | 0, _ => by simp [pre]
  | i + 1, j => by simp [pre, pre_const c i, Nat.add_mul, Nat.add_comm]

theorem pre_list (szs : List Nat) : ∀ (i j : Nat), j + i ≤ szs.length → pre (fun k => szs.getD k 0) j i = ((szs.drop j).take i).sum
  | 0, _, _ => by simp [pre]
  | i + 1, j, h => by
    rw [pre, pre_list szs i (j + 1) (by omega)]
    have hj : j < szs.length := by omega
    have e : szs.drop j = szs[j] :: szs.drop (j + 1) := List.drop_eq_getElem_cons hj
    rw [e, List.take_succ_cons, List.sum_cons, List.getD_eq_getElem?_getD, List.getElem?_eq_getElem hj]
    rfl

theorem nth_cons_zero (x : AV) (xs : List AV) : nth (x :: xs) 0 = x := rfl
theorem nth_cons_succ (x : AV) (xs : List AV) (i : Nat) : nth (x :: xs) (i + 1) = nth xs i := by simp [nth]

theorem VAll.at_ {S : Nat → Prop} {w : World} {sz : Nat → Nat} : ∀ (xs : List AV) (cs : List Value) (j i : Nat), VAll S w sz j xs cs → i < xs.length →
    ∃ c1 c c2, cs = c1 ++ c ++ c2 ∧ c1.length = pre sz j i ∧ VRel S w (nth xs i) c ∧ c.length = sz (j + i) ∧
      ∀ x' c', VRel S w x' c' → c'.length = sz (j + i) → VAll S w sz j (xs.set i x') (c1 ++ c' ++ c2)
  | [], _, _, _, _, h => by simp at h
  | x :: xs, cs, j, 0, h, _ => by
    obtain ⟨c1, c2, rfl, hv, hl, hr⟩ := h
    exact ⟨[], c1, c2, by simp, by simp [pre], hv, hl, fun x' c' hv' hl' => ⟨c', c2, by simp, hv', hl', hr⟩⟩
  | x :: xs, cs, j, i + 1, h, hi => by
    obtain ⟨c1, c2, rfl, hv, hl, hr⟩ := h
    obtain ⟨d1, d, d2, rfl, hd, hv', hl', hs⟩ := VAll.at_ xs c2 (j + 1) i hr (by simpa using hi)
    refine ⟨c1 ++ d1, d, d2, by simp, by simp [pre, hl, hd], by rw [nth_cons_succ]; exact hv', by rw [hl']; congr 1; omega, fun x' c' hv'' hl'' => ?_⟩
    exact ⟨c1, d1 ++ c' ++ d2, by simp, hv, hl, hs x' c' hv'' (by rw [hl'']; congr 1; omega)⟩

theorem VAll.len {S : Nat → Prop} {w : World} {sz : Nat → Nat} : ∀ (xs : List AV) (cs : List Value) (j : Nat), VAll S w sz j xs cs → cs.length = pre sz j xs.length
  | [], _, _, h => by simp only [VAll] at h; simp [h, pre]
  | x :: xs, cs, j, h => by
    obtain ⟨c1, c2, rfl, hv, hl, hr⟩ := h
    simp [pre, hl, VAll.len xs c2 (j + 1) hr]

theorem VRel.len {S : Nat → Prop} {w : World} {v : AV} {cs : List Value} (h : VRel S w v cs) : cs.length = v.size := by
  cases v <;> simp only [VRel] at h <;> try (first | exact h.elim | (subst h; rfl) | (rw [h.1]; rfl))
  case arr sz n xs => rw [VAll.len _ _ _ h.2, pre_const, h.1]; simp [AV.size, Nat.mul_comm]
  case struct szs xs => rw [VAll.len _ _ _ h.2, pre_list _ _ _ (by omega)]; simp [AV.size, ← h.1]
  case row sz xs => rw [VAll.len _ _ _ h, pre_const]; simp [AV.size, Nat.mul_comm]
  case sl sz t xs => obtain ⟨a, cap, rfl, _⟩ := h; rfl
  case clo f a b => obtain ⟨v1, v2, rfl, _⟩ := h; rfl
  case ref v p o => obtain ⟨k, off, vs, rfl, _⟩ := h; rfl

theorem VAll.append {S : Nat → Prop} {w : World} {c : Nat} : ∀ (xs ys : List AV) (cs ds : List Value) (i j : Nat), VAll S w (fun _ => c) i xs cs → VAll S w (fun _ => c) j ys ds → VAll S w (fun _ => c) i (xs ++ ys) (cs ++ ds)
  | [], ys, cs, ds, i, j, h, k => by
    simp only [VAll] at h; subst h
    exact VAll.shift ys ds j i k
  | x :: xs, ys, cs, ds, i, j, h, k => by
    obtain ⟨c1, c2, rfl, hv, hl, hr⟩ := h
    exact ⟨c1, c2 ++ ds, by simp, hv, hl, VAll.append xs ys c2 ds (i + 1) j hr k⟩
where
  VAll.shift : ∀ (ys : List AV) (ds : List Value) (j i : Nat), VAll S w (fun _ => c) j ys ds → VAll S w (fun _ => c) i ys ds
    | [], _, _, _, h => h
    | y :: ys, ds, j, i, h => by
      obtain ⟨c1, c2, rfl, hv, hl, hr⟩ := h
      exact ⟨c1, c2, rfl, hv, hl, VAll.shift ys c2 (j + 1) (i + 1) hr⟩

theorem VAll.shift {S : Nat → Prop} {w : World} {c : Nat} {ys : List AV} {ds : List Value} {j : Nat} (i : Nat) (h : VAll S w (fun _ => c) j ys ds) : VAll S w (fun _ => c) i ys ds :=
  VAll.append.VAll.shift ys ds j i h

/-- The first i elements and the others. -/
theorem VAll.split {S : Nat → Prop} {w : World} {sz : Nat → Nat} : ∀ (i : Nat) (xs : List AV) (cs : List Value) (j : Nat), VAll S w sz j xs cs → i ≤ xs.length →
    VAll S w sz j (xs.take i) (cs.take (pre sz j i)) ∧ VAll S w sz (j + i) (xs.drop i) (cs.drop (pre sz j i))
  | 0, xs, cs, j, h, _ => by simpa [pre, VAll] using h
  | i + 1, [], _, _, _, h => by simp at h
  | i + 1, x :: xs, cs, j, h, hi => by
    obtain ⟨c1, c2, rfl, hv, hl, hr⟩ := h
    obtain ⟨h1, h2⟩ := VAll.split i xs c2 (j + 1) hr (by simpa using hi)
    constructor
    · simp only [List.take_succ_cons, pre]
      exact ⟨c1, c2.take (pre sz (j + 1) i), by rw [← hl, List.take_length_add_append], hv, hl, h1⟩
    · simp only [List.drop_succ_cons, pre]
      rw [← hl, List.drop_length_add_append, show j + (i + 1) = j + 1 + i by omega]
      exact h2

/-- A value along a path. -/
theorem VRel.path {S : Nat → Prop} {w : World} : ∀ (p : List Nat) (v : AV) (cs : List Value), VRel S w v cs → hasP p v →
    ∃ c1 c c2, cs = c1 ++ c ++ c2 ∧ c1.length = (offs p v).sum ∧ VRel S w (atP p v) c ∧ c.length = szAt p v ∧
      ∀ u c', VRel S w u c' → c'.length = szAt p v → VRel S w (putP p v u) (c1 ++ c' ++ c2)
  | [], v, cs, h, _ => ⟨[], cs, [], by simp, by simp [offs], h, by simpa [szAt] using h.len, fun u c' hu _ => by simpa [putP] using hu⟩
  | j :: p, v, cs, h, hp => by
    obtain ⟨hj, hp⟩ := hp
    have key : ∃ c1 c c2, cs = c1 ++ c ++ c2 ∧ c1.length = kidOff v j ∧ VRel S w (nth (kids v) j) c ∧ c.length = kidSz v j ∧
        ∀ x' c', VRel S w x' c' → c'.length = kidSz v j → VRel S w (withKids v ((kids v).set j x')) (c1 ++ c' ++ c2) := by
      cases v <;> simp only [kids, List.length_nil, Nat.not_lt_zero] at hj <;> simp only [kids, kidOff, kidSz, withKids]
      case arr sz n xs =>
        obtain ⟨hn, h⟩ := h
        obtain ⟨c1, c, c2, e, l1, hv, l2, hs⟩ := VAll.at_ xs cs 0 j h hj
        exact ⟨c1, c, c2, e, by rw [l1, pre_const], hv, l2, fun x' c' a b => ⟨by simpa using hn, hs x' c' a b⟩⟩
      case struct szs xs =>
        obtain ⟨hn, h⟩ := h
        obtain ⟨c1, c, c2, e, l1, hv, l2, hs⟩ := VAll.at_ xs cs 0 j h hj
        exact ⟨c1, c, c2, e, by rw [l1, pre_list _ _ _ (by omega)]; simp, hv, by simpa using l2, fun x' c' a b => ⟨by simpa using hn, hs x' c' a (by simpa using b)⟩⟩
      case row sz xs =>
        obtain ⟨c1, c, c2, e, l1, hv, l2, hs⟩ := VAll.at_ xs cs 0 j h hj
        exact ⟨c1, c, c2, e, by rw [l1, pre_const], hv, l2, fun x' c' a b => hs x' c' a b⟩
    obtain ⟨c1, c, c2, rfl, l1, hv, l2, hs⟩ := key
    obtain ⟨d1, d, d2, rfl, k1, hv', k2, hs'⟩ := VRel.path p _ c hv hp
    have hsz : d.length = szAt (j :: p) v := by
      cases p with
      | nil =>
        simp only [offs, List.sum_nil] at k1
        have := hs' (atP [] (nth (kids v) j)) d hv' k2
        have l3 : d2 = [] := by
          have e1 := VRel.len hv
          simp only [szAt] at k2
          simp [k1, k2] at e1
          exact e1
        simp only [szAt]
        simp [k1, l3] at l2
        exact l2
      | cons q p => exact k2
    refine ⟨c1 ++ d1, d, d2 ++ c2, by simp, by simp [offs, l1, k1], hv', hsz, fun u c' hu hl => ?_⟩
    have hk : c'.length = szAt p (nth (kids v) j) := by rw [hl, ← hsz, k2]
    have := hs _ _ (hs' u c' hu hk) (by rw [← l2]; simp [hl, hsz])
    simpa [putP] using this

end Go.Abs
