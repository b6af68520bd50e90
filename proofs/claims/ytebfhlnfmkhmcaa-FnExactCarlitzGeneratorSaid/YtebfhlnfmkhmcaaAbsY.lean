/- Arguments without pointers (numbers, bools, arrays and structs of these), opened and shut. For every program. -/
import Derived.Test.YtebfhlnfmkhmcaaAbsX
import Derived.OpenShut
namespace Go.Abs
section
variable {P : Program}

/-- Cells that are read as data of the type t are those of a plain datum, in every world. -/
structure Dec (P : Program) (t : TypeId) {α : Type} (e : α → AV) (wf : α → Prop) (sz : Nat) : Prop where
  size : P.cellsOf t = sz
  vsize : ∀ a, (e a).size = sz
  dec : ∀ {H : Type} {enc : TypeId × Value → H} {w : World} {base : Nat} {spare : Nat → Bool} {held : Bool} {fuel : Nat} {cs : List Value} {x : DataW H × List MemPlace}, DataW.trod enc P w base spare held fuel t cs = some x →
    cs.length = sz ∧ x.2 = [] ∧ (∃ a, wf a ∧ ∀ S w, VRel S w (e a) cs) ∧ ∀ (w' : World) (base' : Nat) (spare' : Nat → Bool) (held' : Bool), DataW.trod enc P w' base' spare' held' fuel t cs = some x

theorem Dec.int {t : TypeId} {k : IntKind} (ht : P.underlying t = some (.int k)) (hc : P.cellsOf t = 1) : Dec P t (fun n => AV.int k n) (fun n => (Lit.int k n).wf = true) 1 where
  size := hc
  vsize _ := rfl
  dec {H enc w base spare held fuel cs x} h := by
    cases fuel with
    | zero => simp [DataW.trod] at h
    | succ m =>
      obtain ⟨n, rfl, rfl, hw⟩ := DataW.trod_int ht h
      exact ⟨rfl, rfl, ⟨n, hw, fun _ _ => by simp [VRel]⟩, fun _ _ _ _ => by simp [DataW.trod, ht, hw]⟩
theorem Dec.bool {t : TypeId} (ht : P.underlying t = some .bool) (hc : P.cellsOf t = 1) : Dec P t AV.bool (fun _ => True) 1 where
  size := hc
  vsize _ := rfl
  dec {H enc w base spare held fuel cs x} h := by
    cases fuel with
    | zero => simp [DataW.trod] at h
    | succ m =>
      obtain ⟨b, rfl, rfl⟩ := DataW.trod_bool ht h
      exact ⟨rfl, rfl, ⟨b, trivial, fun _ _ => by simp [VRel]⟩, fun _ _ _ _ => by simp [DataW.trod, ht]⟩

theorem trod_array_eq {H : Type} {enc : TypeId × Value → H} {w : World} {base : Nat} {spare : Nat → Bool} {held : Bool} {m : Nat} {t e : TypeId} {n : Nat} {cs : List Value} (ht : P.underlying t = some (.array n e)) :
    DataW.trod enc P w base spare held (m + 1) t cs = if cs.length = P.cellsOf t then ((List.range n).mapM fun i => DataW.trod enc P w base spare held m e ((cs.drop (i * P.cellsOf e)).take (P.cellsOf e))).map fun xs => (.agg (xs.map (·.1)), xs.flatMap (·.2)) else none := by
  simp [DataW.trod, ht]
theorem trod_struct_eq {H : Type} {enc : TypeId × Value → H} {w : World} {base : Nat} {spare : Nat → Bool} {held : Bool} {m : Nat} {t : TypeId} {fs : Array Field} {cs : List Value} (ht : P.underlying t = some (.struct fs)) :
    DataW.trod enc P w base spare held (m + 1) t cs = if cs.length = P.cellsOf t then (fs.toList.mapM fun f => DataW.trod enc P w base spare held m f.type ((cs.drop f.offset).take (P.cellsOf f.type))).map fun xs => (.agg (xs.map (·.1)), xs.flatMap (·.2)) else none := by
  simp [DataW.trod, ht]

theorem mapM_congr {α β : Type} {f g : α → Option β} : ∀ {l : List α}, (∀ a ∈ l, f a = g a) → l.mapM f = l.mapM g
  | [], _ => rfl
  | a :: l, h => by
    simp only [List.mapM_cons]
    rw [h a (by simp), mapM_congr fun b hb => h b (by simp [hb])]

theorem vall_pieces {α : Type} {e : α → AV} {sz : Nat} {wf : α → Prop} : ∀ (n j : Nat) (cs : List Value), cs.length = n * sz → (∀ i, i < n → ∃ a, wf a ∧ ((cs.drop (i * sz)).take sz).length = sz ∧ ∀ S w, VRel S w (e a) ((cs.drop (i * sz)).take sz)) →
    ∃ l : List α, l.length = n ∧ (∀ a ∈ l, wf a) ∧ ∀ S w, VAll S w (fun _ => sz) j (l.map e) cs
  | 0, j, cs, hl, _ => ⟨[], rfl, by simp, fun S w => by simp only [List.map_nil, VAll]; simpa using hl⟩
  | n + 1, j, cs, hl, h => by
    obtain ⟨a, ha, hal, hv⟩ := h 0 (by omega)
    simp only [Nat.zero_mul, List.drop_zero] at hal hv
    have hle : sz ≤ cs.length := by rw [hl, Nat.add_mul]; omega
    obtain ⟨l, h1, h2, h3⟩ := vall_pieces (e := e) (sz := sz) (wf := wf) n (j + 1) (cs.drop sz) (by rw [List.length_drop, hl, Nat.add_mul]; omega) fun i hi => by
      obtain ⟨b, hb, hbl, hbv⟩ := h (i + 1) (by omega)
      have e1 : (cs.drop sz).drop (i * sz) = cs.drop ((i + 1) * sz) := by rw [List.drop_drop]; congr 1; rw [Nat.add_mul]; omega
      rw [e1]
      exact ⟨b, hb, hbl, hbv⟩
    refine ⟨a :: l, by simp [h1], fun b hb => ?_, fun S w => ?_⟩
    · rcases List.mem_cons.1 hb with rfl | hb
      · exact ha
      · exact h2 b hb
    · simp only [List.map_cons, VAll]
      exact ⟨cs.take sz, cs.drop sz, (List.take_append_drop _ _).symm, hv S w, hal, h3 S w⟩

theorem Dec.arr {t el : TypeId} {n sz : Nat} {α : Type} {e : α → AV} {wf : α → Prop} (ht : P.underlying t = some (.array n el)) (hc : P.cellsOf t = n * sz) (d : Dec P el e wf sz) : Dec P t (fun v : Vec α n => .arr sz n (v.1.map e)) (fun v => ∀ a ∈ v.1, wf a) (n * sz) where
  size := hc
  vsize _ := by simp [AV.size, Nat.mul_comm]
  dec {H enc w base spare held fuel cs x} h := by
    obtain ⟨xs, m, rfl, rfl, hl, hx, hi⟩ := DataW.trod_array ht h
    have parts : ∀ i, i < n → ∃ y, xs[i]? = some y := fun i h => ⟨_, List.getElem?_eq_getElem (by omega)⟩
    have hd : ∀ i, i < n → ∃ y, xs[i]? = some y ∧ _ := fun i h => by
      obtain ⟨y, hy⟩ := parts i h
      have h1 := hi i h
      rw [hy, d.size] at h1
      exact ⟨y, hy, d.dec h1⟩
    refine ⟨by rw [hl, hc], ?_, ?_, fun w' base' spare' held' => ?_⟩
    · simp only [List.flatMap_eq_nil_iff]
      intro y hy
      obtain ⟨i, hi1, hi2⟩ := List.getElem_of_mem hy
      obtain ⟨y', hy', h1⟩ := hd i (by omega)
      rw [List.getElem?_eq_getElem hi1] at hy'
      have : y' = y := by rw [← hi2]; exact (Option.some.inj hy').symm
      rw [← this]; exact h1.2.1
    · obtain ⟨l, h1, h2, h3⟩ := vall_pieces (e := e) (wf := wf) (sz := sz) n 0 cs (by rw [hl, hc]) fun i hin => by
        obtain ⟨y, _, g1, _, ⟨a, ha, hv⟩, _⟩ := hd i hin
        exact ⟨a, ha, g1, hv⟩
      exact ⟨⟨l, h1⟩, h2, fun S w => by simp only [VRel]; exact ⟨by simp [h1], h3 S w⟩⟩
    · rw [trod_array_eq ht, if_pos hl] at h ⊢
      rw [← h]
      congr 1
      refine mapM_congr fun i hi' => ?_
      have hin : i < n := List.mem_range.1 hi'
      obtain ⟨y, hy, g⟩ := hd i hin
      rw [d.size, g.2.2.2 w' base' spare' held', ← hy, ← hi i hin, d.size]

/-- The fields of a struct, from the cell off on. -/
structure DecFs (P : Program) (off : Nat) (fs : List Field) (szs : List Nat) {α : Type} (es : α → List AV) (wf : α → Prop) : Prop where
  len : fs.length = szs.length
  elen : ∀ a, (es a).length = szs.length
  dec : ∀ {H : Type} {enc : TypeId × Value → H} {w : World} {base : Nat} {spare : Nat → Bool} {held : Bool} {m : Nat} {cs : List Value} {xs : List (DataW H × List MemPlace)}, cs.length = off + szs.sum → xs.length = fs.length →
    (∀ (i : Nat) (f : Field), fs[i]? = some f → DataW.trod enc P w base spare held m f.type ((cs.drop f.offset).take (P.cellsOf f.type)) = xs[i]?) →
    (∀ y ∈ xs, y.2 = []) ∧ (∃ a, wf a ∧ ∀ S w (g : Nat → Nat) j, (∀ i, g (j + i) = szs.getD i 0) → VAll S w g j (es a) (cs.drop off)) ∧
    ∀ (w' : World) (base' : Nat) (spare' : Nat → Bool) (held' : Bool), ∀ f ∈ fs, DataW.trod enc P w' base' spare' held' m f.type ((cs.drop f.offset).take (P.cellsOf f.type)) = DataW.trod enc P w base spare held m f.type ((cs.drop f.offset).take (P.cellsOf f.type))

theorem DecFs.one {off sz : Nat} {f : Field} {α : Type} {e : α → AV} {wf : α → Prop} (ho : f.offset = off) (d : Dec P f.type e wf sz) : DecFs P off [f] [sz] (fun a => [e a]) wf where
  len := rfl
  elen _ := rfl
  dec {H enc w base spare held m cs xs} hl hx hi := by
    simp only [List.length_cons, List.length_nil] at hx
    obtain ⟨y, rfl⟩ := List.length_eq_one_iff.1 hx
    have h0 := hi 0 f rfl
    simp only [List.getElem?_cons_zero, ho] at h0
    obtain ⟨g1, g2, ⟨a, ha, hv⟩, g4⟩ := d.dec h0
    simp only [List.sum_cons, List.sum_nil, Nat.add_zero] at hl
    refine ⟨by simpa using g2, ⟨a, ha, fun S w g j hg => ?_⟩, fun w' base' spare' held' f' hf' => ?_⟩
    · rw [d.size] at g1 hv
      have e1 : (cs.drop off).take sz = cs.drop off := List.take_of_length_le (by rw [List.length_drop]; omega)
      rw [e1] at g1 hv
      simp only [VAll]
      refine ⟨cs.drop off, [], by simp, hv S w, ?_, rfl⟩
      have := hg 0
      rw [g1, ← Nat.add_zero j, this]; rfl
    · have : f' = f := by simpa using hf'
      subst this
      rw [ho, g4 w' base' spare' held', h0]
theorem DecFs.cons {off sz : Nat} {f : Field} {fs : List Field} {szs : List Nat} {α β : Type} {e : α → AV} {es : β → List AV} {wf : α → Prop} {wfs : β → Prop} (ho : f.offset = off) (d : Dec P f.type e wf sz) (ds : DecFs P (off + sz) fs szs es wfs) :
    DecFs P off (f :: fs) (sz :: szs) (fun a : α × β => e a.1 :: es a.2) (fun a => wf a.1 ∧ wfs a.2) where
  len := by simp [ds.len]
  elen _ := by simp [ds.elen]
  dec {H enc w base spare held m cs xs} hl hx hi := by
    match xs, hx with
    | y :: ys, hx =>
      have h0 := hi 0 f rfl
      simp only [List.getElem?_cons_zero, ho] at h0
      obtain ⟨g1, g2, ⟨a, ha, hv⟩, g4⟩ := d.dec h0
      simp only [List.sum_cons] at hl
      obtain ⟨k1, ⟨b, hb, kv⟩, k3⟩ := ds.dec (enc := enc) (w := w) (base := base) (spare := spare) (held := held) (m := m) (cs := cs) (xs := ys) (by omega) (by simpa using hx) fun i f' hf' => by
        have := hi (i + 1) f' (by simpa using hf')
        simpa using this
      refine ⟨fun z hz => ?_, ⟨(a, b), ⟨ha, hb⟩, fun S w g j hg => ?_⟩, fun w' base' spare' held' f' hf' => ?_⟩
      · rcases List.mem_cons.1 hz with rfl | hz
        · exact g2
        · exact k1 z hz
      · rw [d.size] at g1 hv
        simp only [VAll]
        refine ⟨(cs.drop off).take sz, cs.drop (off + sz), ?_, hv S w, ?_, kv S w g (j + 1) fun i => ?_⟩
        · rw [← List.drop_drop]; exact (List.take_append_drop _ _).symm
        · have := hg 0
          rw [g1, ← Nat.add_zero j, this]; rfl
        · have := hg (i + 1)
          rw [show j + 1 + i = j + (i + 1) by omega, this]; rfl
      · rcases List.mem_cons.1 hf' with rfl | hf'
        · rw [ho, g4 w' base' spare' held', h0]
        · exact k3 w' base' spare' held' f' hf'

theorem Dec.struct {t : TypeId} {fs : Array Field} {szs : List Nat} {α : Type} {es : α → List AV} {wf : α → Prop} (ht : P.underlying t = some (.struct fs)) (hc : P.cellsOf t = szs.sum) (ds : DecFs P 0 fs.toList szs es wf) : Dec P t (fun a => .struct szs (es a)) wf szs.sum where
  size := hc
  vsize _ := rfl
  dec {H enc w base spare held fuel cs x} h := by
    obtain ⟨xs, m, rfl, rfl, hl, hx, hi⟩ := DataW.trod_struct ht h
    obtain ⟨k1, ⟨a, ha, kv⟩, k3⟩ := ds.dec (enc := enc) (w := w) (base := base) (spare := spare) (held := held) (m := m) (cs := cs) (xs := xs) (by rw [hl, hc]; omega) (by rw [hx]; simp) fun (i : Nat) (f : Field) hf => hi i f (by simpa using hf)
    refine ⟨by rw [hl, hc], by simp only [List.flatMap_eq_nil_iff]; exact k1, ⟨a, ha, fun S w => ?_⟩, fun w' base' spare' held' => ?_⟩
    · simp only [VRel]
      exact ⟨(ds.elen a).symm, by simpa using kv S w (fun j => szs.getD j 0) 0 fun i => by simp⟩
    · rw [trod_struct_eq ht, if_pos hl] at h ⊢
      rw [← h]
      congr 1
      exact mapM_congr fun f hf => k3 w' base' spare' held' f hf

/-- An argument that is an array or a struct: open it. -/
theorem Dec.open {H : Type} {enc : TypeId × Value → H} {w : World} {base : Nat} {spare : Nat → Bool} {held : Bool} {t : TypeId} {α : Type} {e : α → AV} {wf : α → Prop} {sz : Nat} {v : Value} {x : DataW H} {ps : List MemPlace} (d : Dec P t e wf sz) (hagg : ∃ cs, v = .agg cs) (hd : DataW.Trod enc P w base spare held t v x ps) :
    ∃ a, wf a ∧ ps = [] ∧ (∀ S w, ∃ cs, VRel S w (e a) cs ∧ v = .agg cs.toArray) ∧ ∀ (w' : World) (base' : Nat) (spare' : Nat → Bool) (held' : Bool), DataW.Trod enc P w' base' spare' held' t v x [] := by
  obtain ⟨cs, rfl⟩ := hagg
  obtain ⟨fuel, hf⟩ := hd
  have hcs : (Value.agg cs).cells.toList = cs.toList := rfl
  rw [hcs] at hf
  obtain ⟨g1, g2, ⟨a, ha, hv⟩, g4⟩ := d.dec hf
  simp only at g2
  subst g2
  exact ⟨a, ha, rfl, fun S w => ⟨cs.toList, hv S w, by simp⟩, fun w' base' spare' held' => ⟨fuel, g4 w' base' spare' held'⟩⟩
end
end Go.Abs
