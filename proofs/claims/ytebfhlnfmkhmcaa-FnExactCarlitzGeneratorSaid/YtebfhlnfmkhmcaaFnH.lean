/- slices.Insert of one row. -/
import Derived.Test.YtebfhlnfmkhmcaaFnT
import Derived.Shelf.Spec.SlicesInsertGrow
namespace Go.Proofs.Ytebfhlnfmkhmcaa
open Go Go.Abs Go.Proofs Go.Shelf Go.RowKit Go.Lib
set_option linter.unusedVariables false
set_option linter.unusedSimpArgs false
theorem insInfo : (Try.prog.info? 42).map (fun i => (i.zero, i.size, i.bytes)) = some (some (Value.slice none 0 0), 1, 24) := by kernel_rfl
theorem insSize : (Try.prog.info? 42).map (·.size) = some 1 := by kernel_rfl
theorem insMixed : Try.prog.follows .mixedOrders = true := by kernel_rfl
theorem one_only {p : Nat → Prop} {x : Value} (h : p 0) : ∀ j, j < [x].length → p j := fun j hj => by
  have : j = 0 := by simp only [List.length_singleton] at hj; omega
  rw [this]; exact h
theorem one_get {x u : Value} {j : Nat} {p : Nat → Value → Prop} (h : p 0 x) (hj : [x][j]? = some u) : p j u := by
  match j, hj with
  | 0, hj => simp only [List.getElem?_cons_zero, Option.some.injEq] at hj; rw [← hj]; exact h
set_option maxHeartbeats 4000000 in
set_option maxRecDepth 100000 in
/-- At the end, where there is room. -/
theorem ins_end (b n c vb vo vc : Nat) (x : Value) (w : World) (hroom : n + 1 ≤ c) (hsp : (w.cell? ⟨b, n, none⟩).isSome = true) (hfz : w.frozen? ⟨b, n, none⟩ = false) (hx : w.cell? ⟨vb, vo, none⟩ = some x) (h1 : x.oneCell' = true) :
    Calls Try.prog 103 #[.slice (some ⟨b, 0, none⟩) n c, .int .i64 n, .slice (some ⟨vb, vo, none⟩) 1 vc] w fun e w' => e = .returned (.slice (some ⟨b, 0, none⟩) (n + 1) c) ∧ w' = w.setCells b n [x] := by
  have mixed := insMixed
  have u71 := run_underlying Try.underlying71
  have hsrc : Src Try.prog 1 71 (.slice (some ⟨vb, vo, none⟩) 1 vc) 1 [x] w := Src.ofSlice w Try.underlying71 ⟨vb, vo, none⟩ 1 vc [x] rfl (fun j u hj => one_get (p := fun j u => w.cell? (Addr.add ⟨vb, vo, none⟩ j) = some u) hx hj) (fun u hu => by rw [List.mem_singleton.1 hu]; exact h1)
  have h2 : ∀ j, j < [x].length → (w.cell? ⟨b, 0 + n + j, none⟩).isSome = true := one_only (by simpa using hsp)
  have h3 : ∀ j, j < [x].length → w.frozen? ⟨b, 0 + n + j, none⟩ = false := one_only (by simpa using hfz)
  go_enter Try.func103, Try.ntmps103
  go_wp2_with (at_builtin; refine wpList_append_room1 _ rfl _ _ 71 71 rfl 42 _ _ Try.underlying71 insInfo b 0 n c rfl _ rfl 1 [x] hsrc hroom h2 h3 ?_)
  go_ret
  exact ⟨rfl, by simp⟩
set_option maxHeartbeats 4000000 in
set_option maxRecDepth 100000 in
/-- At the end, where there is no room. -/
theorem ins_end_new (base : Option Addr) (n c vb vo vc : Nat) (cs : List Value) (x : Value) (w : World) (hroom : c < n + 1) (hnc : n ≤ c) (hbig : (n + 1) * 24 ≤ 140737488355328) (hcl : cs.length = n) (hnil : base = none → n = 0)
    (hcs : ∀ a, base = some a → ∀ j v, cs[j]? = some v → w.cell? (a.add j) = some v) (hx : w.cell? ⟨vb, vo, none⟩ = some x) (h1 : x.oneCell' = true) :
    Calls Try.prog 103 #[.slice base n c, .int .i64 n, .slice (some ⟨vb, vo, none⟩) 1 vc] w fun e w' =>
      e = .returned (.slice (some ⟨w.heap.size, 0, none⟩) (n + 1) (grownCap w (n + 1) c 42)) ∧
      w' = w.drew.alloc (.cells ((cs ++ [x]).toArray ++ Builtin.zeroCells (Value.slice none 0 0).cells (grownCap w (n + 1) c 42 - (n + 1))) 42) := by
  have mixed := insMixed
  have u71 := run_underlying Try.underlying71
  obtain ⟨i0, hi0, hz0, hzs, hzb⟩ := info_parts insInfo
  have hsrc : Src Try.prog i0.size 71 (.slice (some ⟨vb, vo, none⟩) 1 vc) 1 [x] w := by
    rw [hzs]
    exact Src.ofSlice w Try.underlying71 ⟨vb, vo, none⟩ 1 vc [x] rfl (fun j u hj => one_get (p := fun j u => w.cell? (Addr.add ⟨vb, vo, none⟩ j) = some u) hx hj) (fun u hu => by rw [List.mem_singleton.1 hu]; exact h1)
  have hold : (Builtin.firstCells i0.size n (.slice base n c)).run Try.prog w.drew = .ok cs.toArray w.drew := by
    rw [hzs]
    cases base with
    | none =>
      have h0 := hnil rfl
      rw [h0] at hcl ⊢
      rw [List.length_eq_zero_iff.1 hcl]
      exact run_firstCells_none w.drew 1 0 0 c
    | some a => exact run_firstCells_some w.drew 1 n a n c cs (by rw [hcl, Nat.mul_one]) (fun j v hj => hcs a rfl j v hj)
  have hrun : ∀ ty, (Builtin.append_ #[71, 71] ty #[.slice base n c, .slice (some ⟨vb, vo, none⟩) 1 vc]).run Try.prog w = _ := fun ty =>
    run_append_grow_src w 71 71 ty 42 i0 _ Try.underlying71 hi0 hz0 base n c cs hold _ 1 [x] hsrc hroom (by omega) (by rw [hzb]; exact growslice_fits hroom hbig)
  go_enter Try.func103, Try.ntmps103
  cases base with
  | none =>
    have h0 := hnil rfl
    subst h0
    go_wp2_with (at_builtin; refine Lib.wpList_append_run _ rfl _ _ _ _ rfl _ _ rfl rfl _ _ (hrun _) ?_)
    go_ret
    exact ⟨rfl, rfl⟩
  | some a =>
    obtain ⟨ab, ao, asp⟩ := a
    go_wp2_with (at_builtin; refine Lib.wpList_append_run _ rfl _ _ _ _ rfl _ _ rfl rfl _ _ (hrun _) ?_)
    all_goals (go_ret; exact ⟨rfl, rfl⟩)
set_option maxHeartbeats 4000000 in
set_option maxRecDepth 100000 in
/-- Ahead of the end, where there is room. -/
theorem ins_mid (b n c i vb vo vc : Nat) (cs : List Value) (x : Value) (w : World) (hi : i < n) (hroom : n + 1 ≤ c) (hn63 : n + 1 ≤ 9223372036854775807) (hvb : vb ≠ b) (hcl : cs.length = n)
    (hcs : ∀ j v, cs[j]? = some v → w.cell? ⟨b, j, none⟩ = some v) (hsp : ∀ j, j < n + 1 → (w.cell? ⟨b, j, none⟩).isSome = true) (hfz : ∀ j, w.frozen? ⟨b, j, none⟩ = false)
    (hx : w.cell? ⟨vb, vo, none⟩ = some x) (h1 : x.oneCell' = true) (h1c : ∀ v ∈ cs, v.oneCell' = true)
    (tA tB : TypeId) (kA kB : Nat) (hsa : w.shape? vb = some (tA, kA)) (hsb : w.shape? b = some (tB, kB)) (hkB : kB ≠ 0) (hfa : ∀ j, w.frozen? ⟨vb, j, none⟩ = false) :
    Calls Try.prog 103 #[.slice (some ⟨b, 0, none⟩) n c, .int .i64 i, .slice (some ⟨vb, vo, none⟩) 1 vc] w fun e w' =>
      e = .returned (.slice (some ⟨b, 0, none⟩) (n + 1) c) ∧ w' = (w.drew.setCells b (i + 1) (cs.drop i)).setCells b i [x] := by
  have mixed := insMixed
  have u71 := run_underlying Try.underlying71
  have hz2 : ¬ ((i : Int) = (n : Int)) := by omega
  have hov : ∀ lb cb, (callFunc 117 #[.slice (some ⟨vb, vo, none⟩) 1 vc, .slice (some ⟨b, i + 1, none⟩) lb cb]).run Try.prog w = .ok (.value (.bool false)) w := fun lb cb => by
    rw [run_callFunc_extern Try.func117 (by kernel_rfl) (by kernel_rfl) (by kernel_rfl) (e := Extern.SlicesOverlaps.overlaps #[71, 71] #[4]) (by kernel_rfl),
      Lib.run_overlaps_apart w 71 4 42 Try.underlying71 1 (fun w => by kernel_rfl) ⟨vb, vo, none⟩ ⟨b, i + 1, none⟩ 1 vc lb cb hvb tA tB kA kB hsa hsb hkB (hfa vo) (hfa kA)]
    rfl
  have hdl : (cs.drop i).length = n - i := by rw [List.length_drop, hcl]
  have hw1 : IntKind.i64.wrap ((i : Int) + 1) = (i : Int) + 1 := by rw [IntKind.wrap_i64]; omega
  have hb1 : (0 : Int) ≤ (i : Int) + 1 := by omega
  have hin : i ≤ n := by omega
  have htn : ((i : Int) + 1).toNat = i + 1 := by omega
  have hb2 : ¬ (c = i + 1) := by omega
  have hb3 : (i : Int) ≤ (n : Int) + 1 := by omega
  have hb4 : ¬ (c = i) := by omega
  have hcp1 : ∀ ty dc sc, (Builtin.copy_ #[71, 71] ty #[.slice (some ⟨b, i + 1, none⟩) (n - i) dc, .slice (some ⟨b, i, none⟩) (n + 1 - i) sc]).run Try.prog w.drew = .ok (goInt (cs.drop i).length) (w.drew.setCells b (i + 1) (cs.drop i)) := fun ty dc sc =>
    run_copy_cells w.drew _ _ ty 42 b (i + 1) (n - i) dc ⟨b, i, none⟩ (n + 1 - i) sc (cs.drop i) Try.underlying71 insSize (by rw [hdl]; simp only [Nat.min_def]; split <;> omega)
      (fun j v hj => by rw [Addr.add_lit]; exact hcs (i + j) v (by rwa [List.getElem?_drop] at hj))
      (fun j hj => hsp _ (by omega)) (fun j _ => hfz _) (fun v hv => h1c v (List.mem_of_mem_drop hv))
  obtain ⟨W1, hW1⟩ : ∃ W1, W1 = w.drew.setCells b (i + 1) (cs.drop i) := ⟨_, rfl⟩
  have hsp1 : ∀ k, k < n + 1 → (W1.cell? ⟨b, k, none⟩).isSome = true := fun k hk => by
    rw [hW1]
    exact isSome_setCells b (cs.drop i) (i + 1) w.drew (fun j hj => hsp (i + 1 + j) (by rw [hdl] at hj; omega)) k (hsp k hk)
  have hcp2 : ∀ (W : World), (∀ a, W.cell? a = W1.cell? a) → (∀ a, W.frozen? a = W1.frozen? a) → ∀ ty dc, (Builtin.copy_ #[71, 71] ty #[.slice (some ⟨b, i, none⟩) (n + 1 - i) dc, .slice (some ⟨vb, vo, none⟩) 1 vc]).run Try.prog W = .ok (goInt [x].length) (W.setCells b i [x]) := fun W hWc hWf ty dc =>
    run_copy_cells W _ _ ty 42 b i (n + 1 - i) dc ⟨vb, vo, none⟩ 1 vc [x] Try.underlying71 insSize (by simp only [List.length_singleton, Nat.min_def]; split <;> omega)
      (fun j v hj => one_get (p := fun j v => W.cell? (Addr.add ⟨vb, vo, none⟩ j) = some v) (by
        show W.cell? ⟨vb, vo, none⟩ = some x
        rw [hWc, hW1, World.cell?_setCells_out b _ _ _ _ (fun h _ => absurd h hvb)]
        exact hx) hj)
      (fun j hj => by rw [hWc]; simp only [List.length_singleton] at hj; exact hsp1 _ (by omega)) (fun j _ => by rw [hWf, hW1, World.frozen?_setCells]; exact hfz _) (fun u hu => by rw [List.mem_singleton.1 hu]; exact h1)
  rw [← hW1] at hcp1
  go_enter Try.func103, Try.ntmps103
  go_wp2_with (simp only [hov])
  go_region_law_o (refine step_copy_runI rfl _ _ 71 71 rfl _ _ (by simp [Act.eval, Act.put]) (by simp [Act.eval, Act.put]) (hcp1 _ _ _) ?_)
  go_wp2_with (at_builtin; refine wpList_copy_runI _ rfl _ _ 71 71 rfl _ _ rfl rfl (hcp2 _ (fun _ => rfl) (fun _ => rfl) _ _) ?_)
  go_ret
  first | exact ⟨rfl, rfl⟩ | exact ⟨rfl, by rw [hW1]⟩
set_option maxHeartbeats 4000000 in
set_option maxRecDepth 100000 in
/-- Ahead of the end, where there is no room. -/
theorem ins_mid_new (b n c i vb vo vc : Nat) (cs : List Value) (x : Value) (w : World) (hi : i < n) (hnc : n ≤ c) (hroom : c < n + 1) (hbig : (n + 1) * 24 ≤ 140737488355328) (hcl : cs.length = n)
    (hcs : ∀ j v, cs[j]? = some v → w.cell? ⟨b, j, none⟩ = some v) (hx : w.cell? ⟨vb, vo, none⟩ = some x) (h1 : x.oneCell' = true) (h1c : ∀ v ∈ cs, v.oneCell' = true) :
    Calls Try.prog 103 #[.slice (some ⟨b, 0, none⟩) n c, .int .i64 i, .slice (some ⟨vb, vo, none⟩) 1 vc] w fun e w' =>
      e = .returned (.slice (some ⟨w.heap.size, 0, none⟩) (n + 1) (grownCap w (n + 1) c 42)) ∧
      w' = (((w.alloc (.cells ((cs.take i).toArray ++ Builtin.zeroCells (Value.slice none 0 0).cells (n + 1 - i) ++ Builtin.zeroCells (Value.slice none 0 0).cells (grownCap w (n + 1) c 42 - (n + 1))) 42)).drew.setCells w.heap.size i [x]).drew).setCells w.heap.size (i + 1) (cs.drop i) := by
  have mixed := insMixed
  have u71 := run_underlying Try.underlying71
  obtain ⟨i0, hi0, hz0, hzs, hzb⟩ := info_parts insInfo
  have hz2 : ¬ ((i : Int) = (n : Int)) := by omega
  have hz3 : (c : Int) < (n : Int) + 1 := by omega
  have hbw : b < w.heap.size := block_lt_of_cell (hcs 0 _ (List.getElem?_eq_getElem (by omega)))
  have hvw : vb < w.heap.size := block_lt_of_cell hx
  have hkk : (n : Int) + 1 - (i : Int) = ((n + 1 - i : Nat) : Int) := by omega
  have hik : i + (n + 1 - i) = n + 1 := by omega
  have hold : (Builtin.firstCells i0.size i (.slice (some ⟨b, 0, none⟩) i c)).run Try.prog w.drew = .ok (cs.take i).toArray w.drew := by
    rw [hzs]
    exact run_firstCells_some w.drew 1 i ⟨b, 0, none⟩ i c (cs.take i) (by rw [List.length_take]; omega) (fun j v hj => by
      rw [Addr.add_lit, Nat.zero_add]
      rw [List.getElem?_take] at hj
      split at hj
      · exact hcs j v hj
      · cases hj)
  obtain ⟨GG, hG⟩ : ∃ g, g = grownCap w (n + 1) c 42 := ⟨_, rfl⟩
  obtain ⟨ROW, hROW⟩ : ∃ r : Array Value, r = (cs.take i).toArray ++ Builtin.zeroCells (Value.slice none 0 0).cells (n + 1 - i) ++ Builtin.zeroCells (Value.slice none 0 0).cells (GG - (n + 1)) := ⟨_, rfl⟩
  have hrz : ∀ ty, (Builtin.append_ #[71, 3] ty #[.slice (some ⟨b, 0, none⟩) i c, .int .i64 ((n : Int) + 1 - (i : Int))]).run Try.prog w =
      .ok (.slice (some ⟨w.heap.size, 0, none⟩) (n + 1) GG) (w.drew.alloc (.cells ROW 42)) := fun ty => by
    have h := Lib.run_append_grow_zeros w 71 3 ty 42 i0 _ .i64 .i64 Try.underlying71 Try.underlying3 hi0 hz0 (some ⟨b, 0, none⟩) i c (cs.take i) hold (n + 1 - i) (by omega) (by omega) (by omega) (by omega) (by rw [hzb]; omega) (by rw [hzb, hik]; exact growslice_fits hroom hbig)
    rw [hik] at h
    rw [hkk, hROW, hG]
    exact h
  rw [← hG, ← hROW]
  have hGn : n + 1 ≤ GG := by rw [hG]; exact grownCap_ge w _ _ _
  have hG63 : GG ≤ 9223372036854775807 := by
    have := grownCap_le_maxLen w (n + 1) c 42 (by unfold maxLen; omega)
    rw [← hG] at this
    unfold maxLen at this
    omega
  have hRl : n + 1 ≤ ROW.size := by
    rw [hROW]
    simp [Builtin.zeroCells, Value.cells]
    omega
  obtain ⟨W1, hW1⟩ : ∃ W1, W1 = w.drew.alloc (.cells ROW 42) := ⟨_, rfl⟩
  have hN : ∀ j, j < n + 1 → (W1.cell? ⟨w.heap.size, j, none⟩).isSome = true := fun j hj => by
    rw [hW1, World.cell?_alloc_at (w := w.drew) ROW _ w.heap.size j rfl, Array.getElem?_eq_getElem (by omega)]; rfl
  have hNf : ∀ j, W1.frozen? ⟨w.heap.size, j, none⟩ = false := fun j => by rw [hW1]; exact World.frozen?_alloc_at (w := w.drew) ROW _ w.heap.size j rfl
  have hOld : ∀ q j v, q < w.heap.size → w.cell? ⟨q, j, none⟩ = some v → W1.cell? ⟨q, j, none⟩ = some v := fun q j v hq h => by rw [hW1, World.cell?_alloc_past (w := w.drew) _ q j hq]; exact h
  rw [← hW1] at hrz
  have hbN : b ≠ w.heap.size := by omega
  have hdl : (cs.drop i).length = n - i := by rw [List.length_drop, hcl]
  have hcpA : ∀ (W : World), (∀ a, W.cell? a = W1.cell? a) → (∀ a, W.frozen? a = W1.frozen? a) → ∀ ty dc, (Builtin.copy_ #[71, 71] ty #[.slice (some ⟨w.heap.size, i, none⟩) (n + 1 - i) dc, .slice (some ⟨vb, vo, none⟩) 1 vc]).run Try.prog W = .ok (goInt [x].length) (W.setCells w.heap.size i [x]) := fun W hWc hWf ty dc =>
    run_copy_cells W _ _ ty 42 w.heap.size i (n + 1 - i) dc ⟨vb, vo, none⟩ 1 vc [x] Try.underlying71 insSize (by simp only [List.length_singleton, Nat.min_def]; split <;> omega)
      (fun j v hj => one_get (p := fun j v => W.cell? (Addr.add ⟨vb, vo, none⟩ j) = some v) (by
        show W.cell? ⟨vb, vo, none⟩ = some x
        rw [hWc]
        exact hOld _ _ _ hvw hx) hj)
      (fun j hj => by rw [hWc]; simp only [List.length_singleton] at hj; exact hN _ (by omega)) (fun j _ => by rw [hWf]; exact hNf _) (fun u hu => by rw [List.mem_singleton.1 hu]; exact h1)
  have hcpB : ∀ (W : World), (∀ a, W.cell? a = (W1.setCells w.heap.size i [x]).cell? a) → (∀ a, W.frozen? a = (W1.setCells w.heap.size i [x]).frozen? a) → ∀ ty dc sc, (Builtin.copy_ #[71, 71] ty #[.slice (some ⟨w.heap.size, i + 1, none⟩) (n - i) dc, .slice (some ⟨b, i, none⟩) (n - i) sc]).run Try.prog W = .ok (goInt (cs.drop i).length) (W.setCells w.heap.size (i + 1) (cs.drop i)) := fun W hWc hWf ty dc sc =>
    run_copy_cells W _ _ ty 42 w.heap.size (i + 1) (n - i) dc ⟨b, i, none⟩ (n - i) sc (cs.drop i) Try.underlying71 insSize (by rw [hdl]; simp only [Nat.min_def]; split <;> omega)
      (fun j v hj => by
        rw [Addr.add_lit, hWc, World.cell?_setCells_out _ _ _ _ _ (fun h _ => absurd h hbN)]
        exact hOld _ _ _ hbw (hcs (i + j) v (by rwa [List.getElem?_drop] at hj)))
      (fun j hj => by rw [hWc]; exact isSome_setCells w.heap.size [x] i W1 (fun t ht => hN _ (by simp only [List.length_singleton] at ht; omega)) _ (hN _ (by omega)))
      (fun j _ => by rw [hWf, World.frozen?_setCells]; exact hNf _) (fun v hv => h1c v (List.mem_of_mem_drop hv))
  have hGi : ¬ (GG = i) := by omega
  have hGim : ¬ (GG = i + 1) := by omega
  have hci : ¬ (c = i) := by omega
  subst hW1
  have hE1 : ∀ a, ((w.alloc (.cells ROW 42)).drew).cell? a = (w.drew.alloc (.cells ROW 42)).cell? a := fun _ => rfl
  have hE2 : ∀ a, ((w.alloc (.cells ROW 42)).drew).frozen? a = (w.drew.alloc (.cells ROW 42)).frozen? a := fun _ => rfl
  have hF1 : ∀ a, (((w.alloc (.cells ROW 42)).drew.setCells w.heap.size i [x]).drew).cell? a = ((w.drew.alloc (.cells ROW 42)).setCells w.heap.size i [x]).cell? a := fun _ => rfl
  have hF2 : ∀ a, (((w.alloc (.cells ROW 42)).drew.setCells w.heap.size i [x]).drew).frozen? a = ((w.drew.alloc (.cells ROW 42)).setCells w.heap.size i [x]).frozen? a := fun _ => rfl
  have hw1 : IntKind.i64.wrap ((i : Int) + 1) = (i : Int) + 1 := by rw [IntKind.wrap_i64]; omega
  have hb1 : (0 : Int) ≤ (i : Int) + 1 := by omega
  have hin : i ≤ n := by omega
  have htn : ((i : Int) + 1).toNat = i + 1 := by omega
  have hb3 : (i : Int) ≤ (n : Int) := by omega
  clear hkk hik hold hROW hG hRl
  go_enter Try.func103, Try.ntmps103
  go_wp2_with (first
    | (at_builtin; refine Lib.wpList_append_run _ rfl _ _ _ _ rfl _ _ rfl rfl _ _ (hrz _) ?_)
    | (at_builtin; refine wpList_copy_runI _ rfl _ _ 71 71 rfl _ _ rfl rfl (hcpA _ hE1 hE2 _ _) ?_)
    | (at_builtin; refine wpList_copy_runI _ rfl _ _ 71 71 rfl _ _ rfl rfl (hcpB _ (fun _ => rfl) (fun _ => rfl) _ _ _) ?_))
  go_region_law_o (refine step_copy_runI rfl _ _ 71 71 rfl (.slice (some ⟨w.heap.size, i + 1, none⟩) (n - i) (GG - (i + 1))) (.slice (some ⟨b, i, none⟩) (n - i) (c - i)) (by simp [Act.eval, Act.put]) (by simp [Act.eval, Act.put]) (hcpB _ hF1 hF2 3 (GG - (i + 1)) (c - i)) ?_)
  go_wp2
  go_ret
  exact ⟨rfl, rfl⟩
theorem setCells_heap (k : Nat) (T : TypeId) (f : Nat × Nat) : ∀ (vs : List Value) (o : Nat) (w : World) (arr : Array Value), w.heap[k]? = some (.cells arr T f) → o + vs.length ≤ arr.size →
    ∃ arr' : Array Value, (w.setCells k o vs).heap[k]? = some (.cells arr' T f) ∧ arr'.toList = arr.toList.take o ++ (vs ++ arr.toList.drop (o + vs.length)) ∧ Only (fun q => q = k) w (w.setCells k o vs) ∧ (w.setCells k o vs).heap.size = w.heap.size
  | [], o, w, arr, h, _ => ⟨arr, h, by simp, Only.refl _ _, rfl⟩
  | v :: vs, o, w, arr, h, hl => by
    simp only [List.length_cons] at hl
    have h1 := heap_setCell (j := o) v h
    obtain ⟨arr', a1, a2, a3, a4⟩ := setCells_heap k T f vs (o + 1) (w.setCell ⟨k, o, none⟩ v) _ h1 (by rw [Array.size_setIfInBounds]; omega)
    have e : w.setCells k o (v :: vs) = (w.setCell ⟨k, o, none⟩ v).setCells k (o + 1) vs := rfl
    have ho1 : Only (fun q => q = k) w (w.setCell ⟨k, o, none⟩ v) := ⟨rfl, rfl, rfl, by simp, fun q _ hq => by
      simp only [World.setCell, Array.getElem?_modify]
      rw [if_neg (fun e => hq e.symm)], fun _ => World.frozen?_setCell .., fun q arr0 T0 f0 h0 => by
      by_cases hq : q = k
      · subst hq
        rw [h] at h0; cases h0
        exact ⟨_, h1, by rw [Array.size_setIfInBounds]⟩
      · refine ⟨arr0, ?_, rfl⟩
        simp only [World.setCell, Array.getElem?_modify]
        rw [if_neg (fun e => hq e.symm)]; exact h0⟩
    rw [e]
    refine ⟨arr', a1, ?_, ho1.trans a3, by rw [a4]; simp⟩
    rw [a2]
    have ho : o < arr.toList.length := by rw [Array.length_toList]; omega
    rw [Array.toList_setIfInBounds, List.drop_set_of_lt (by omega), show o + 1 + vs.length = o + (v :: vs).length by simp; omega]
    have e2 : (arr.toList.set o v).take (o + 1) = arr.toList.take o ++ [v] := by
      rw [List.take_succ_eq_append_getElem (by simpa using ho), List.take_set_of_le (Nat.le_refl _), List.getElem_set_self]
    rw [e2]
    simp
theorem vall_one {S : Nat → Prop} {w : World} : ∀ (xs : List AV) (cs : List Value) (j : Nat), (∀ v ∈ xs, ∃ a b c, v = .sl a b c) → VAll S w (fun _ => 1) j xs cs → ∀ u ∈ cs, u.oneCell' = true
  | [], cs, _, _, h => by
    have : cs = [] := h
    subst this; simp
  | v :: xs, cs, j, hv, ⟨c1, c2, e, h1, _, h2⟩ => by
    obtain ⟨a, b, c, rfl⟩ := hv v (by simp)
    obtain ⟨p, cap, rfl, _⟩ := h1
    subst e
    intro u hu
    rcases List.mem_append.1 hu with hu | hu
    · rw [List.mem_singleton.1 hu]; rfl
    · exact vall_one xs c2 (j + 1) (fun x hx => hv x (by simp [hx])) h2 u hu
theorem vall_ins {S : Nat → Prop} {w : World} {xs : List AV} {y : AV} {cs : List Value} {x : Value} {i : Nat} (h : VAll S w (fun _ => 1) 0 xs cs) (hy : VRel S w y [x]) (hi : i ≤ xs.length) : VAll S w (fun _ => 1) 0 (xs.take i ++ y :: xs.drop i) (cs.take i ++ x :: cs.drop i) := by
  have h1 := VAll.take (w := w) h i hi
  have h2 := VAll.drop (w := w) h i hi
  rw [Nat.mul_one] at h1 h2
  refine VAll.append _ _ _ _ 0 0 h1 ?_
  exact ⟨[x], cs.drop i, rfl, hy, rfl, VAll.shift 1 h2⟩
def insArgs (xs : List AV) (i : Nat) (y : AV) : List AV := [.mutsl 1 xs, .int .i64 (i : Int), .sl 1 true [y]]
def insRV (ys : List AV) : RV := { r := .osl (fid 0), fs := [(1, ys)] }
theorem ins_H (xs : List AV) (i : Nat) (y : AV) (ys : List AV) : (insRV ys).H (insArgs xs i y) = fun id => if id = fid 0 then some ⟨.row 1 ys, false⟩ else none := by
  funext id
  show (Abs.look [(fid 0, some (⟨.row 1 ys, false⟩ : Blk))] id).getD none = _
  simp only [Abs.look]
  by_cases e : id = fid 0
  · subst e; simp
  · have hb : Nat.beq (fid 0) id = false := by rw [← Bool.not_eq_true, Nat.beq_eq]; exact fun h => e h.symm
    rw [hb, if_neg e]; rfl
theorem ins_h (xs : List AV) (i : Nat) (y : AV) : (entry (insArgs xs i y)).h = fun id => if id = pid 0 then some ⟨.row 1 xs, false⟩ else none := by
  funext id
  show (Abs.look [(pid 0, some (⟨.row 1 xs, false⟩ : Blk))] id).getD none = _
  simp only [Abs.look]
  by_cases e : id = pid 0
  · subst e; simp
  · have hb : Nat.beq (pid 0) id = false := by rw [← Bool.not_eq_true, Nat.beq_eq]; exact fun h => e h.symm
    rw [hb, if_neg e]; rfl
/-- What comes back, wherever it lies. -/
theorem ins_out {ρ0 : Nat → Option Nat} {B0 : Nat → Prop} {w w' : World} {xs ys : List AV} {i : Nat} {y : AV} {k cap : Nat} {arr : Array Value} {T : TypeId} {cs ext : List Value}
    (hr : HRel ρ0 (entry (insArgs xs i y)).h B0 (fun k => (∃ id b, (entry (insArgs xs i y)).h id = some b ∧ ρ0 id = some k) ∨ w.heap.size ≤ k) w)
    (only : Only (fun q => q = k) w w') (hnew : NewOk w w') (hk : (ρ0 (pid 0) = some k) ∨ (w.heap.size ≤ k ∧ k < w'.heap.size)) (hb : w'.heap[k]? = some (.cells arr T (0, 0))) (ha : arr.toList = cs ++ ext)
    (hv : VAll (Sof ρ0 (entry (insArgs xs i y)).h B0) w (fun _ => 1) 0 ys cs) (hle : ys.length ≤ cap) (hcap : cap ≤ arr.size) :
    Out ρ0 B0 w (insArgs xs i y) (insRV ys) (fun id => if id = fid 0 then some k else ρ0 id) w' (.slice (some ⟨k, 0, none⟩) ys.length cap) := by
  have hH := ins_H xs i y ys
  have hh := ins_h xs i y
  have hkB : B0 k ∨ (w.heap.size ≤ k ∧ k < w'.heap.size) := by
    rcases hk with h | h
    · rcases hr.at_ (pid 0) ⟨.row 1 xs, false⟩ (by rw [hh]; simp) with ⟨sz, _, g⟩ | ⟨q, _, _, _, _, g1, g2, _⟩
      · rw [g] at h; cases h
      · rw [g1] at h; cases h; exact .inl g2
    · exact .inr h
  have hkN : (∃ id b, (entry (insArgs xs i y)).h id = some b ∧ ρ0 id = some k) ∨ w.heap.size ≤ k := hk.imp (fun h => ⟨pid 0, ⟨.row 1 xs, false⟩, by rw [hh]; simp, h⟩) And.left
  have hSk : ∀ q, Sof ρ0 (entry (insArgs xs i y)).h B0 q → q ≠ k := fun q hq e => by
    subst e
    rcases hk with h | h
    · exact hq.2 (pid 0) ⟨.row 1 xs, false⟩ (by rw [hh]; simp) rfl h
    · have := hr.lt q hq.1; omega
  have hS : ∀ q, Sof ρ0 (entry (insArgs xs i y)).h B0 q → Sof (fun id => if id = fid 0 then some k else ρ0 id) ((insRV ys).H (insArgs xs i y)) (fun q => B0 q ∨ (w.heap.size ≤ q ∧ q < w'.heap.size)) q := fun q hq => by
    refine ⟨.inl hq.1, fun id b hid hf => ?_⟩
    rw [hH] at hid
    by_cases e : id = fid 0
    · simp only [if_pos e]
      intro h; cases h; exact hSk _ hq rfl
    · simp only [if_neg e] at hid; cases hid
  have hK : Keeps (Sof ρ0 (entry (insArgs xs i y)).h B0) w w' := only.keeps hSk
  refine ⟨⟨fun id b hid => ?_, fun a b ba bb q h1 h2 e1 e2 => ?_, fun q hq => ?_⟩, ?_, only.mono fun q _ hq => by subst hq; exact hkN, fun j b hb => ?_⟩
  · have hid' := hid
    rw [hH] at hid'
    by_cases e : id = fid 0
    · simp only [if_pos e, Option.some.injEq] at hid'
      subst hid'
      refine .inr ⟨k, arr, T, cs, ext, by simp only [if_pos e], hkB, hkN, hb, ha, ?_⟩
      show VAll _ w' (fun _ => 1) 0 ys cs
      exact VAll.keep hS hK _ _ _ _ hv
    · simp only [if_neg e] at hid'; cases hid'
  · rw [hH] at h1 h2
    have g1 : a = fid 0 := by
      by_cases e : a = fid 0
      · exact e
      · simp only [if_neg e] at h1; cases h1
    have g2 : b = fid 0 := by
      by_cases e : b = fid 0
      · exact e
      · simp only [if_neg e] at h2; cases h2
    rw [g1, g2]
  · rcases hq with hq | hq
    · exact only_plain only (hr.bound q hq)
    · exact hnew q hq.1 hq.2
  · intro b hb'
    rw [hH] at hb'
    simp only [if_true, Option.some.injEq] at hb'
    subst hb'
    exact ⟨1, ys, rfl, .inr ⟨k, cap, arr, T, by simp, rfl, hle, hb, by rw [Nat.mul_one]; exact hcap⟩⟩
  · rw [hh] at hb
    by_cases e : pid j = fid 0
    · rw [e] at hb
      exact absurd hb (by simp [fid, pid])
    · simp only [if_neg e]
theorem ins_list {α : Type} (cs ext : List α) (x : α) (i n : Nat) (hn : cs.length = n) (hi : i < n) (hx : 1 ≤ ext.length) :
    ((cs ++ ext).take (i + 1) ++ (cs.drop i ++ (cs ++ ext).drop (i + 1 + (n - i)))).take i ++ ([x] ++ ((cs ++ ext).take (i + 1) ++ (cs.drop i ++ (cs ++ ext).drop (i + 1 + (n - i)))).drop (i + [x].length)) = cs.take i ++ x :: cs.drop i ++ ext.drop 1 := by
  have e1 : ((cs ++ ext).take (i + 1)).length = i + 1 := by simp; omega
  have e2 : ((cs ++ ext).take (i + 1) ++ (cs.drop i ++ (cs ++ ext).drop (i + 1 + (n - i)))).take i = cs.take i := by
    rw [List.take_append_of_le_length (by omega), List.take_take, Nat.min_eq_left (by omega), List.take_append_of_le_length (by omega)]
  have e3 : ((cs ++ ext).take (i + 1) ++ (cs.drop i ++ (cs ++ ext).drop (i + 1 + (n - i)))).drop (i + [x].length) = cs.drop i ++ ext.drop 1 := by
    rw [List.length_singleton, List.drop_left' e1, List.drop_append, List.drop_of_length_le (i := i + 1 + (n - i)) (l := cs) (by omega), List.nil_append, show i + 1 + (n - i) - cs.length = 1 by omega]
  rw [e2, e3]
  simp
/-- The contract. -/
theorem insert_den {xs : List AV} {y : AV} {i : Nat} (hi : i ≤ xs.length) (hbig : (xs.length + 1) * 24 ≤ 140737488355328) (hx : ∀ v ∈ xs, ∃ a b c, v = .sl a b c) (hy : ∃ a b c, y = .sl a b c) :
    Den Try.prog 103 (insArgs xs i y) (insRV (xs.take i ++ y :: xs.drop i)) := by
  refine ⟨callable_of Try.func103 rfl rfl, fun ρ0 B0 w cargs hent => ?_⟩
  obtain ⟨hr, hslots⟩ := hent
  have hh := ins_h xs i y
  have hp0 : (entry (insArgs xs i y)).h (pid 0) = some ⟨.row 1 xs, false⟩ := by rw [hh]; simp
  obtain ⟨v0, r1, e1, h0, v1, r2, e2, h1, v2, r3, e3, h2, e4⟩ : SlotsRel ρ0 (entry (insArgs xs i y)).h (Sof ρ0 (entry (insArgs xs i y)).h B0) w [.osl (pid 0), .int .i64 (i : Int), .sl 1 true [y]] cargs := hslots
  have e4' : r3 = [] := e4
  subst e4' e3 e2 e1
  have h1' : v1 = .int .i64 (i : Int) := h1
  subst h1'
  obtain ⟨pa, pcap, hv2, _, _, hpy⟩ : VRel (Sof ρ0 (entry (insArgs xs i y)).h B0) w (.sl 1 true [y]) [v2] := h2
  simp only [List.cons.injEq, and_true, List.length_singleton] at hv2
  obtain ⟨vb, vo, vs, rfl, hvS, hvy, hvr⟩ := hpy.resolve_left (by simp)
  obtain ⟨c1, c2, rfl, hyr, hyl, hc2⟩ := hvy
  have hc2' : c2 = [] := hc2
  subst hc2'
  obtain ⟨x, rfl⟩ : ∃ x, c1 = [x] := List.length_eq_one_iff.1 hyl
  have hxc : w.cell? ⟨vb, vo, none⟩ = some x := by
    have := hvr 0 (by simp)
    simpa using this
  have hx1 : x.oneCell' = true := by
    obtain ⟨a, b, c, rfl⟩ := hy
    obtain ⟨p, cap, e, _⟩ := hyr
    simp only [List.cons.injEq, and_true] at e
    subst e; rfl
  obtain ⟨barr, bT, hbv⟩ := hr.bound vb hvS.1
  have hvf : ∀ j, w.frozen? ⟨vb, j, none⟩ = false := fun j => by simp [World.frozen?, hbv]
  have hvsh : w.shape? vb = some (bT, barr.size) := by simp [World.shape?, hbv]
  subst hv2
  show Calls Try.prog 103 #[v0, .int .i64 (i : Int), .slice (some ⟨vb, vo, none⟩) 1 pcap] w _
  have hys : (xs.take i ++ y :: xs.drop i).length = xs.length + 1 := by simp; omega
  obtain ⟨sz, xs', hc, hh0⟩ := h0 _ hp0
  cases hc
  rcases hh0 with ⟨hx0, hρ, a, rfl⟩ | ⟨k, cap, arr, T, hρ, rfl, hle, hw, hcap⟩
  · subst hx0
    have hi0 : i = 0 := by simpa using hi
    subst hi0
    refine (ins_end_new a 0 0 vb vo pcap [] x w (by omega) (by omega) (by omega) rfl (fun _ => rfl) (fun _ _ j v h => by simp at h) hxc hx1).mono ?_
    rintro e w' ⟨rfl, rfl⟩
    refine ⟨_, fun id => if id = fid 0 then some (w.heap.size) else ρ0 id, rfl, ?_⟩
    have hg := grownCap_ge w (0 + 1) 0 42
    have ho : Only No w (w.drew.alloc (.cells (([] ++ [x]).toArray ++ Builtin.zeroCells (Value.slice none 0 0).cells (grownCap w (0 + 1) 0 42 - (0 + 1))) 42)) := (Only.drew _ _).trans (Only.alloc _ _ _ _)
    refine ins_out hr (ho.mono fun _ _ h => h.elim) (newOk_alloc _ _ rfl) (.inr ⟨Nat.le_refl _, by simp⟩) (heap_new w.drew _) (cs := [x]) (ext := (Builtin.zeroCells (Value.slice none 0 0).cells (grownCap w (0 + 1) 0 42 - (0 + 1))).toList) (by simp) (vall_ins (cs := []) rfl hyr (Nat.zero_le _)) (by simpa using hg) (by
      simp [Builtin.zeroCells, Value.cells]
      omega)
  · have hat := hr.at_ (pid 0) _ hp0
    obtain ⟨cs, ext, hce, hvall⟩ : ∃ cs ext, arr.toList = cs ++ ext ∧ VAll (Sof ρ0 (entry (insArgs xs i y)).h B0) w (fun _ => 1) 0 xs cs := by
      rcases hat with ⟨_, _, g⟩ | ⟨q, arr', T', cs, ext, g1, g2, g3, g4, g5, g6⟩
      · rw [g] at hρ; cases hρ
      · rw [g1] at hρ; cases hρ
        rw [g4] at hw; cases hw
        exact ⟨cs, ext, g5, g6⟩
    have hcl : cs.length = xs.length := by
      have := VAll.len xs cs 0 hvall
      rw [this, pre_const, Nat.mul_one]
    have hone := vall_one xs cs 0 hx hvall
    have hins := vall_ins (i := i) hvall hyr hi
    have hget : ∀ j, arr[j]? = (cs ++ ext)[j]? := fun j => by rw [← hce, Array.getElem?_toList]
    have hcell : ∀ j, w.cell? ⟨k, j, none⟩ = arr[j]? := fun j => by simp [World.cell?, hw]
    have hcells : ∀ j v, cs[j]? = some v → w.cell? ⟨k, j, none⟩ = some v := fun j v h => by
      have hj : j < cs.length := by
        rcases Nat.lt_or_ge j cs.length with h' | h'
        · exact h'
        · rw [List.getElem?_eq_none h'] at h; cases h
      rw [hcell, hget, List.getElem?_append_left hj]; exact h
    have hsome : ∀ j, j < cap → (w.cell? ⟨k, j, none⟩).isSome = true := fun j hj => by
      rw [hcell, Array.getElem?_eq_getElem (by omega)]; rfl
    have hkf : ∀ j, w.frozen? ⟨k, j, none⟩ = false := fun j => by simp [World.frozen?, hw]
    have hksh : w.shape? k = some (T, arr.size) := by simp [World.shape?, hw]
    have hlen : cs.length + ext.length = arr.size := by
      have := congrArg List.length hce
      simpa using this.symm
    have hsame : ∀ w' : World, w'.heap.size = w.heap.size → NewOk w w' := fun w' h q h1 h2 => by rw [h] at h2; omega
    by_cases hin : i = xs.length
    · subst hin
      by_cases hroom : xs.length + 1 ≤ cap
      · refine (ins_end k xs.length cap vb vo pcap x w hroom (hsome _ (by omega)) (hkf _) hxc hx1).mono ?_
        rintro e w' ⟨rfl, rfl⟩
        refine ⟨_, fun id => if id = fid 0 then some k else ρ0 id, rfl, ?_⟩
        obtain ⟨arr', a1, a2, a3, a4⟩ := setCells_heap k T (0, 0) [x] xs.length w arr hw (by simp; omega)
        have hsz : arr'.size = arr.size := by
          have := congrArg List.length a2
          simp at this; omega
        have := ins_out (i := xs.length) (y := y) (xs := xs) (ys := xs.take xs.length ++ y :: xs.drop xs.length) hr a3 (hsame _ a4) (.inl hρ) a1 (cs := cs.take xs.length ++ x :: cs.drop xs.length) (ext := ext.drop 1) (by
          rw [a2, hce, ← hcl]
          simp) hins (by rw [hys]; exact hroom) (by omega)
        rw [hys] at this
        exact this
      · refine (ins_end_new (some ⟨k, 0, none⟩) xs.length cap vb vo pcap cs x w (by omega) hle hbig hcl (fun h => nomatch h) (fun a ha j v h => by
          cases ha
          rw [Addr.add_lit, Nat.zero_add]
          exact hcells j v h) hxc hx1).mono ?_
        rintro e w' ⟨rfl, rfl⟩
        refine ⟨_, fun id => if id = fid 0 then some (w.heap.size) else ρ0 id, rfl, ?_⟩
        have hg := grownCap_ge w (xs.length + 1) cap 42
        have ho : Only No w (w.drew.alloc (.cells ((cs ++ [x]).toArray ++ Builtin.zeroCells (Value.slice none 0 0).cells (grownCap w (xs.length + 1) cap 42 - (xs.length + 1))) 42)) := (Only.drew _ _).trans (Only.alloc _ _ _ _)
        have := ins_out (i := xs.length) (y := y) (xs := xs) (ys := xs.take xs.length ++ y :: xs.drop xs.length) hr (ho.mono fun _ _ h => h.elim) (newOk_alloc _ _ rfl) (.inr ⟨Nat.le_refl _, by simp⟩) (heap_new w.drew _) (cs := cs.take xs.length ++ x :: cs.drop xs.length) (ext := (Builtin.zeroCells (Value.slice none 0 0).cells (grownCap w (xs.length + 1) cap 42 - (xs.length + 1))).toList) (by rw [← hcl]; simp) hins (by rw [hys]; exact hg) (by
          simp [Builtin.zeroCells, Value.cells]
          omega)
        rw [hys] at this
        exact this
    · have hlt : i < xs.length := by omega
      by_cases hroom : xs.length + 1 ≤ cap
      · have hvk : vb ≠ k := fun e => by
          subst e
          exact hvS.2 (pid 0) _ hp0 rfl hρ
        refine (ins_mid k xs.length cap i vb vo pcap cs x w hlt hroom (by omega) hvk hcl hcells (fun j hj => hsome j (by omega)) hkf hxc hx1 hone bT T barr.size arr.size hvsh hksh (by omega) hvf).mono ?_
        rintro e w' ⟨rfl, rfl⟩
        refine ⟨_, fun id => if id = fid 0 then some k else ρ0 id, rfl, ?_⟩
        have hdl : (cs.drop i).length = xs.length - i := by rw [List.length_drop, hcl]
        obtain ⟨arr1, a1, a2, a3, a4⟩ := setCells_heap k T (0, 0) (cs.drop i) (i + 1) w.drew arr hw (by rw [hdl]; omega)
        have hsz1 : arr1.size = arr.size := by
          have := congrArg List.length a2
          simp only [List.length_append, List.length_take, List.length_drop, Array.length_toList] at this
          omega
        obtain ⟨arr', b1, b2, b3, b4⟩ := setCells_heap k T (0, 0) [x] i _ arr1 a1 (by simp; omega)
        have hsz : arr'.size = arr.size := by
          have := congrArg List.length b2
          simp only [List.length_append, List.length_take, List.length_drop, Array.length_toList, List.length_cons, List.length_nil] at this
          omega
        have ho := ((Only.drew (fun q => q = k) w).trans a3).trans b3
        have := ins_out (i := i) (y := y) (xs := xs) (ys := xs.take i ++ y :: xs.drop i) hr ho (hsame _ (by rw [b4, a4]; rfl)) (.inl hρ) b1 (cs := cs.take i ++ x :: cs.drop i) (ext := ext.drop 1) (by
          rw [b2, a2, hce, hdl]
          exact ins_list cs ext x i xs.length hcl hlt (by omega)) hins (by rw [hys]; exact hroom) (by omega)
        rw [hys] at this
        exact this
      · refine (ins_mid_new k xs.length cap i vb vo pcap cs x w hlt hle (by omega) hbig hcl hcells hxc hx1 hone).mono ?_
        rintro e w' ⟨rfl, rfl⟩
        refine ⟨_, fun id => if id = fid 0 then some (w.heap.size) else ρ0 id, rfl, ?_⟩
        have hg := grownCap_ge w (xs.length + 1) cap 42
        have hdl : (cs.drop i).length = xs.length - i := by rw [List.length_drop, hcl]
        generalize hR : (cs.take i).toArray ++ Builtin.zeroCells (Value.slice none 0 0).cells (xs.length + 1 - i) ++ Builtin.zeroCells (Value.slice none 0 0).cells (grownCap w (xs.length + 1) cap 42 - (xs.length + 1)) = ROW
        have hRs : ROW.size = grownCap w (xs.length + 1) cap 42 := by
          rw [← hR]
          simp [Builtin.zeroCells, Value.cells]
          omega
        have hRt : ROW.toList.take i = cs.take i := by
          rw [← hR]
          simp only [Array.toList_append, List.append_assoc]
          rw [List.take_append_of_le_length (by simp; omega), List.take_of_length_le (by simp; omega)]
        have h0 : (w.alloc (.cells ROW 42)).drew.heap[w.heap.size]? = some (.cells ROW 42 (0, 0)) := heap_new w _
        obtain ⟨arr1, a1, a2, a3, a4⟩ := setCells_heap w.heap.size 42 (0, 0) [x] i (w.alloc (.cells ROW 42)).drew ROW h0 (by simp; omega)
        have hsz1 : arr1.size = ROW.size := by
          have := congrArg List.length a2
          simp only [List.length_append, List.length_take, List.length_drop, Array.length_toList, List.length_cons, List.length_nil] at this
          omega
        have a1' : ((w.alloc (.cells ROW 42)).drew.setCells w.heap.size i [x]).drew.heap[w.heap.size]? = some (.cells arr1 42 (0, 0)) := a1
        obtain ⟨arr', b1, b2, b3, b4⟩ := setCells_heap w.heap.size 42 (0, 0) (cs.drop i) (i + 1) _ arr1 a1' (by rw [hdl]; omega)
        have hsz : arr'.size = ROW.size := by
          have := congrArg List.length b2
          simp only [List.length_append, List.length_take, List.length_drop, Array.length_toList] at this
          omega
        have ho : Only (fun q => q = w.heap.size) w _ := ((((Only.alloc (fun q => q = w.heap.size) w ROW 42).trans (Only.drew _ _)).trans a3).trans (Only.drew _ _)).trans b3
        have hsz2 : (((w.alloc (.cells ROW 42)).drew.setCells w.heap.size i [x]).drew.setCells w.heap.size (i + 1) (cs.drop i)).heap.size = w.heap.size + 1 := by
          rw [b4]
          show ((w.alloc (.cells ROW 42)).drew.setCells w.heap.size i [x]).heap.size = _
          rw [a4]
          show (w.alloc (.cells ROW 42)).heap.size = _
          simp
        have := ins_out (i := i) (y := y) (xs := xs) (ys := xs.take i ++ y :: xs.drop i) hr ho (fun q h1 h2 => by
          rw [hsz2] at h2
          rw [show q = w.heap.size by omega]
          exact ⟨_, _, b1⟩) (.inr ⟨Nat.le_refl _, by rw [hsz2]; omega⟩) b1 (cs := cs.take i ++ x :: cs.drop i) (ext := arr1.toList.drop (i + 1 + (xs.length - i))) (by
          rw [b2, hdl, a2]
          have e2 : (ROW.toList.take i ++ ([x] ++ ROW.toList.drop (i + [x].length))).take (i + 1) = cs.take i ++ [x] := by
            rw [hRt, ← List.append_assoc]
            rw [List.take_append_of_le_length (by simp; omega), List.take_of_length_le (by simp; omega)]
          rw [e2]
          simp) hins (by rw [hys]; exact hg) (by omega)
        rw [hys] at this
        exact this
/-- A list with one more. -/
noncomputable def slices_Insert_row (a0 : List (List Int)) (a1 : Int) (a2 : List Int) : Option (List (List Int)) :=
  (ifp (0 ≤ a1 ∧ a1 ≤ (a0.length : Int) ∧ (a0.length + 1) * 24 ≤ 140737488355328) (some (a0.take a1.toNat ++ a2 :: a0.drop a1.toNat)))
theorem slices_Insert_row_ok (a0 : List (List Int)) (a1 : Int) (a2 : List Int) (r : List (List Int)) (h : slices_Insert_row a0 a1 a2 = some r) : Den Try.prog 103 [.mutsl 1 (a0.map eSi64), (i6 a1), (.sl 1 true ([a2].map eSi64))] { r := .osl (fid 0), fs := [(1, r.map eSi64)] } := by
  obtain ⟨hc, h⟩ := ifp_some h
  cases h
  obtain ⟨h1, h2, h3⟩ := hc
  have e1 : (i6 a1) = AV.int .i64 ((a1.toNat : Nat) : Int) := by rw [Int.toNat_of_nonneg h1]
  have hd := insert_den (xs := a0.map eSi64) (y := eSi64 a2) (i := a1.toNat) (by rw [List.length_map]; omega) (by rw [List.length_map]; exact h3) (fun v hv => by
    obtain ⟨l, _, rfl⟩ := List.mem_map.1 hv
    exact ⟨_, _, _, rfl⟩) ⟨_, _, _, rfl⟩
  have e2 : (a0.take a1.toNat ++ a2 :: a0.drop a1.toNat).map eSi64 = (a0.map eSi64).take a1.toNat ++ eSi64 a2 :: (a0.map eSi64).drop a1.toNat := by rw [List.map_append, List.map_cons, List.map_take, List.map_drop]
  rw [e1, e2]
  exact hd
end Go.Proofs.Ytebfhlnfmkhmcaa
