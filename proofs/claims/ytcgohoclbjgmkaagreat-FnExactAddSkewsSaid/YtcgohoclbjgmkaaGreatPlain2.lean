/- Own texts, put together. -/
import Derived.Test.YtcgohoclbjgmkaaGreatPlain1
import Derived.Test.YtcgohoclbjgmkaaGreatFn1
import Derived.Test.YtcgohoclbjgmkaaGreatFn2
import Derived.Test.YtcgohoclbjgmkaaGreatFn3
import Derived.Test.YtcgohoclbjgmkaaGreatFn4
import Derived.Test.YtcgohoclbjgmkaaGreatFn5
import Derived.Test.YtcgohoclbjgmkaaGreatFn6
set_option linter.unusedSimpArgs false
set_option linter.unusedVariables false
/- The code of skew polynomials. -/
namespace Go.Proofs.YtcgohoclbjgmkaaGreat
open Go.Abs
theorem skCodeS {p : Int} {m : V64} {l : List Sk} (hm : IsB m) (hl : ∀ f ∈ l, SkB f) (hn : l.length ≤ 1000000) : spec_l03Code p m l = some (if fld p m && l.all (skewB p m) then 0 else 1) := by
  simp only [spec_l03Code, fieldS p hm, Option.bind_some]
  cases h : fld p m
  · rfl
  · obtain ⟨r, h1, h2⟩ := any_loop (l := l) (fun a => !skewB p m a) (fun _ => (1 : Int)) (body := fun s : Int => spec_l03Code_l1 l p m s) (fun i hi => by
      simp only [spec_l03Code_l1, Int.toNat_natCast, skIs_S (fld_prime h).1 (hl _ (rd_in hi)), Option.bind_some]
      rw [if_pos (decide_eq_true (by omega)), ifp_pos (by omega), wrap64 (by omega) (by omega)]
      cases skewB p m (rd l i) <;> rfl) (by
      simp only [spec_l03Code_l1]
      rw [if_neg (by rw [decide_eq_true_eq]; omega)])
    simp only [h1, Option.bind_some, all_not]
    rcases h2 with ⟨rfl, h⟩ | ⟨i, rfl, h⟩ <;> simp [h]
theorem skCodeI {p : Int} {m : V64} {l : List Sk} (hm : IsB m) (hl : ∀ f ∈ l, SkB f) (hn : l.length ≤ 1000000) : impl_skewsCode p m l = some (if fld p m && l.all (skewB p m) then 0 else 1) := by
  obtain ⟨r, h1, h2⟩ := any_loop (l := l) (fun a => !skewB p m a) (fun i => (i : Int)) (body := fun s : Int => slices_IndexFunc_impl_Skew_impl_Skew_of_impl_areAll_impl_Skew__c1_p_isSkew_l1 l (p, row m) s) (fun i hi => by
    simp only [slices_IndexFunc_impl_Skew_impl_Skew_of_impl_areAll_impl_Skew__c1_p_isSkew_l1, impl_areAll_impl_Skew__c1_of_p_isSkew, Int.toNat_natCast, skIs_I (hl _ (rd_in hi)), Option.bind_some]
    rw [if_pos (decide_eq_true (by omega)), ifp_pos (by omega), wrap64 (by omega) (by omega)]
    cases skewB p m (rd l i) <;> rfl) (by
    simp only [slices_IndexFunc_impl_Skew_impl_Skew_of_impl_areAll_impl_Skew__c1_p_isSkew_l1]
    rw [if_neg (by rw [decide_eq_true_eq]; omega)])
  have e : impl_areAll_impl_Skew_of_impl_field_isSkew l (p, row m) = some (l.all (skewB p m)) := by
    simp only [impl_areAll_impl_Skew_of_impl_field_isSkew, slices_ContainsFunc_impl_Skew_impl_Skew_of_impl_areAll_impl_Skew__c1_p_isSkew, slices_IndexFunc_impl_Skew_impl_Skew_of_impl_areAll_impl_Skew__c1_p_isSkew, h1, Option.bind_some, all_not]
    rcases h2 with ⟨rfl, h⟩ | ⟨i, rfl, h⟩ <;> simp [h]
  simp only [impl_skewsCode, fieldI p hm, fieldOf_is hm, e, Option.bind_some]
  cases fld p m <;> cases l.all (skewB p m) <;> rfl
end Go.Proofs.YtcgohoclbjgmkaaGreat
/- Skew polynomials as lists of rows. -/
namespace Go.Proofs.YtcgohoclbjgmkaaGreat
open Go.Abs
/-- How far a list reaches that ends in elements of a kind. -/
def reach {α : Type} [Inhabited α] (z : α → Bool) (l : List α) : Nat → Nat
  | 0 => 0
  | n + 1 => if z (rd l n) then reach z l n else n + 1
theorem reach_le {α : Type} [Inhabited α] (z : α → Bool) (l : List α) : ∀ n, reach z l n ≤ n
  | 0 => Nat.le_refl _
  | n + 1 => by simp only [reach]; split; exact Nat.le_succ_of_le (reach_le z l n); exact Nat.le_refl _
theorem reach_congr {α β : Type} [Inhabited α] [Inhabited β] {z : α → Bool} {y : β → Bool} {l : List α} {k : List β} : ∀ n, (∀ i, i < n → z (rd l i) = y (rd k i)) → reach z l n = reach y k n
  | 0, _ => rfl
  | n + 1, h => by simp only [reach]; rw [h n (by omega), reach_congr n fun i hi => h i (by omega)]
noncomputable def skDeg (f : Sk) : Nat := reach (fun a : V64 => decide (a = vrep 64 0)) f.1 8
theorem skRows {f : Sk} (hf : SkB f) : loopM (fun s : Int × List (List Int) => impl_skewOf_l1 f s.1 s.2) (0, []) = some (f.1.map row) := by
  obtain ⟨v, h1, h2⟩ := loopM_for (body := fun s : Int × List (List Int) => impl_skewOf_l1 f s.1 s.2) (fun i u => ((i : Int), u)) (fun u => u) 8
    (fun i u => u = (f.1.take i).map row) (fun i u hi hI => by
      subst hI
      have hl : i < f.1.length := by rw [f.2]; exact hi
      have er : rd f.1 i = f.1[i] := by simp [rd, hl]
      refine ⟨((f.1.take i).map row) ++ [row (rd f.1 i)], ?_, by rw [List.take_succ_eq_append_getElem hl, er, List.map_append]; rfl⟩
      simp only [impl_skewOf_l1, Int.toNat_natCast, row_is (hf _ (rd_in hl)), Option.bind_some]
      rw [if_pos (decide_eq_true (by omega)), ifp_pos (by omega), ifp_pos (by simp; omega), wrap64 (by omega) (by omega)]
      rfl) (fun u hI => by
      simp only [impl_skewOf_l1]
      rw [if_neg (by rw [decide_eq_true_eq]; omega)]) 8 0 [] (by omega) (by simp)
  have e : v = f.1.map row := by
    rw [h2, List.take_of_length_le (by rw [f.2]; exact Nat.le_refl _)]
  rw [← e]; exact h1
theorem skTrim_loop {l : List (List Int)} (hl : l.length ≤ 1000000) (hr : ∀ x ∈ l, x.length ≤ 1000000) : ∀ n : Nat, n ≤ l.length → loopM (fun s : Int => impl_skew_trimmed_l1 l s) (n : Int) = some (reach (fun a : List Int => decide (a.length = 0)) l n : Int)
  | 0, _ => by
    have step : impl_skew_trimmed_l1 l ((0 : Nat) : Int) = some (.inr ((0 : Nat) : Int)) := by
      simp [impl_skew_trimmed_l1]
    rw [loopM_eq]
    simp only [step, Option.bind_some]; rfl
  | n + 1, h => by
    have e1 : IntKind.i64.wrap (((n + 1 : Nat) : Int) - 1) = (n : Int) := by rw [wrap64 (by omega) (by omega)]; omega
    have step : impl_skew_trimmed_l1 l ((n + 1 : Nat) : Int) = some (if (rd l n).length = 0 then .inl (n : Int) else .inr ((n + 1 : Nat) : Int)) := by
      simp only [impl_skew_trimmed_l1, e1, letp, Int.toNat_natCast]
      rw [if_pos (decide_eq_true (by omega)), ifp_pos (by omega)]
      simp only [Option.bind_some, beq_iff_eq]
      by_cases hz : (rd l n).length = 0
      · rw [if_pos (by omega), if_pos hz]
      · rw [if_neg (by omega), if_neg hz]
    rw [loopM_eq]
    simp only [step, Option.bind_some, reach, decide_eq_true_eq]
    by_cases hz : (rd l n).length = 0
    · rw [if_pos hz, if_pos hz]
      exact skTrim_loop hl hr n (by omega)
    · rw [if_neg hz, if_neg hz]
theorem skDegI {f : Sk} (hf : SkB f) : ∃ l, impl_skewOf f = some l ∧ l = (f.1.map row).take (skDeg f) ∧ l.length = skDeg f := by
  have hr : ∀ x ∈ f.1.map row, x.length ≤ 1000000 := fun x hx => by
    obtain ⟨a, _, rfl⟩ := List.mem_map.1 hx
    have := row_len a; omega
  have hlen : (f.1.map row).length = 8 := by rw [List.length_map, f.2]
  have h := skTrim_loop (l := f.1.map row) (by omega) hr 8 (by omega)
  have e : reach (fun a : List Int => decide (a.length = 0)) (f.1.map row) 8 = skDeg f := by
    refine reach_congr 8 fun i hi => ?_
    have hl : i < f.1.length := by rw [f.2]; exact hi
    have e1 : rd (f.1.map row) i = row (rd f.1 i) := by simp [rd, hl]
    rw [e1, decide_eq_decide]
    exact zero_row.symm
  rw [e] at h
  have hle : skDeg f ≤ 8 := reach_le _ _ 8
  refine ⟨_, ?_, rfl, by rw [List.length_take, hlen]; omega⟩
  have h' : loopM (fun s : Int => impl_skew_trimmed_l1 (f.1.map row) s) ((f.1.map row).length : Int) = some (skDeg f : Int) := by rw [hlen]; exact h
  simp only [impl_skewOf, skRows hf, impl_skew_trimmed, h', Option.bind_some, Int.toNat_natCast]
  rw [ifp_pos (by omega)]; rfl
end Go.Proofs.YtcgohoclbjgmkaaGreat
/- Comparing polynomials. -/
namespace Go.Proofs.YtcgohoclbjgmkaaGreat
open Go.Abs

theorem eqPoly_loop (a b : V64) : ∀ s : Int, (∃ i : Nat, s = i ∧ i ≤ 64) → ∃ r, loopM (fun s : Int => laws_eqPoly_l1 a b s) s = some r ∧ ∀ i : Nat, s = i → (r = .inl () ∧ ∀ j, i ≤ j → j < 64 → rd a.1 j = rd b.1 j) ∨ (r = .inr false ∧ ∃ j, j < 64 ∧ rd a.1 j ≠ rd b.1 j) := by
  refine loopM_ind (fun (s : Int) => ∃ i : Nat, s = i ∧ i ≤ 64) (fun (s : Int) (r : Unit ⊕ Bool) => ∀ i : Nat, s = i → (r = .inl () ∧ ∀ j, i ≤ j → j < 64 → rd a.1 j = rd b.1 j) ∨ (r = .inr false ∧ ∃ j, j < 64 ∧ rd a.1 j ≠ rd b.1 j)) (fun s => 64 - s.toNat) ?_
  rintro s ⟨i, rfl, hi⟩
  by_cases h : i = 64
  · subst h
    right
    refine ⟨.inl (), by simp [laws_eqPoly_l1], fun k hk => .inl ⟨rfl, fun j h1 h2 => by omega⟩⟩
  · by_cases e : rd a.1 i = rd b.1 i
    · left
      refine ⟨((i + 1 : Nat) : Int), ?_, ⟨i + 1, rfl, by omega⟩, by simp; omega, fun r hr k hk => ?_⟩
      · simp only [laws_eqPoly_l1]
        rw [if_pos (by simp; omega), ifp_pos (by omega), ifp_pos (by omega)]
        simp only [Int.toNat_natCast, e, bne_self_eq_false, Bool.false_eq_true, if_false]
        rw [wrap64 (by omega) (by omega)]; rfl
      · have hki : k = i := by omega
        subst hki
        rcases hr (k + 1) rfl with ⟨h1, h2⟩ | h1
        · refine .inl ⟨h1, fun j h3 h4 => ?_⟩
          by_cases hj : j = k
          · subst hj; exact e
          · exact h2 j (by omega) h4
        · exact .inr h1
    · right
      refine ⟨.inr false, ?_, fun k hk => .inr ⟨rfl, i, by omega, e⟩⟩
      simp only [laws_eqPoly_l1]
      rw [if_pos (by simp; omega), ifp_pos (by omega), ifp_pos (by omega)]
      simp [e]

theorem eqPoly_is (a b : V64) : laws_eqPoly a b = some (decide (a = b)) := by
  obtain ⟨r, h1, h2⟩ := eqPoly_loop a b 0 ⟨0, rfl, by omega⟩
  unfold laws_eqPoly
  rcases h2 0 rfl with ⟨rfl, h⟩ | ⟨rfl, j, h3, h4⟩
  · have : a = b := vec_ext fun j hj => h j (by omega) hj
    rw [h1]; simp [this]
  · have : a ≠ b := fun e => h4 (by rw [e])
    rw [h1]; simp [this]
end Go.Proofs.YtcgohoclbjgmkaaGreat
/- A row as an array. -/
namespace Go.Proofs.YtcgohoclbjgmkaaGreat
open Go.Abs

theorem poly_loop {l : List Int} (hb : Bytes l) (hl : l.length ≤ 64) : ∀ s : Int × V64, (∃ i : Nat, s.1 = i ∧ i ≤ l.length ∧ s.2 = pad (l.take i)) → ∃ r, loopM (fun s : Int × V64 => impl_row_poly_l1 l s.1 s.2) s = some r ∧ r = pad l := by
  refine loopM_ind (fun (s : Int × V64) => ∃ i : Nat, s.1 = i ∧ i ≤ l.length ∧ s.2 = pad (l.take i)) (fun (s : Int × V64) r => r = pad l) (fun (s : Int × V64) => 64 - s.1.toNat) ?_
  rintro ⟨x, v⟩ ⟨i, hx, hi, hv⟩
  simp only at hx hv
  subst hx hv
  by_cases h : i = l.length
  · right
    subst h
    exact ⟨pad l, by simp [impl_row_poly_l1], rfl⟩
  · left
    have hil : i < l.length := by omega
    have er : rd l i = l[i] := by simp [rd, hil]
    have hbi := hb l[i] (List.getElem_mem _)
    refine ⟨(((i + 1 : Nat) : Int), pad (l.take (i + 1))), ?_, ⟨i + 1, rfl, by omega, rfl⟩, by simp; omega, fun r hr => hr⟩
    simp only [impl_row_poly_l1]
    rw [if_pos (by simp; omega), ifp_pos (by omega), ifp_pos (by omega)]
    simp only [Int.toNat_natCast, er]
    rw [wrap64 (by omega) (by omega), wrap8 hbi.1 hbi.2]
    have := pad_set (l.take i) l[i] (by simp; omega)
    rw [List.length_take, Nat.min_eq_left (by omega)] at this
    rw [this, List.take_succ_eq_append_getElem hil]
    simp

theorem poly_is {l : List Int} (hb : Bytes l) (hl : l.length ≤ 64) : impl_row_poly l = some (pad l) := by
  obtain ⟨r, h1, h2⟩ := poly_loop hb hl (0, pad []) ⟨0, rfl, by omega, by simp⟩
  simp only [impl_row_poly, ← pad_nil, h1, h2, Option.bind_some]
end Go.Proofs.YtcgohoclbjgmkaaGreat
/- FnExactAddSkews. -/
namespace Go.Proofs.YtcgohoclbjgmkaaGreat
open Go.Abs
theorem rd_vsetG {α : Type} [Inhabited α] {n : Nat} (a : Vec α n) (i j : Nat) (d : α) (hi : i < n) : rd (vset a i d).1 j = if j = i then d else rd a.1 j := by
  have hl : i < a.1.length := by rw [a.2]; exact hi
  by_cases h : j = i
  · subst h; simp [rd, vset, hl]
  · rw [if_neg h]; simp [rd, vset, Ne.symm h]
theorem rd_vrepG {α : Type} [Inhabited α] {n : Nat} (d : α) {j : Nat} (hj : j < n) : rd (vrep n d).1 j = d := by
  show (List.replicate n d).getD j default = d
  simp [List.getD, hj]
theorem vec_extG {α : Type} [Inhabited α] {n : Nat} {a b : Vec α n} (h : ∀ j, j < n → rd a.1 j = rd b.1 j) : a = b := by
  apply Subtype.ext
  apply List.ext_getElem
  · rw [a.2, b.2]
  · intro j k1 k2
    have := h j (by rw [a.2] at k1; exact k1)
    simpa [rd, k1, k2] using this
theorem rd_lset3 {α : Type} [Inhabited α] (l : List α) (k : Nat) (d : α) (i : Nat) (hk : k < l.length) : rd (l.set k d) i = if i = k then d else rd l i := by
  by_cases h : i = k
  · subst h; simp [rd, hk]
  · rw [if_neg h]; simp [rd, Ne.symm h]
theorem reach_zero {α : Type} [Inhabited α] (z : α → Bool) (l : List α) : ∀ n i, reach z l n ≤ i → i < n → z (rd l i) = true
  | 0, _, _, h => by omega
  | n + 1, i, h1, h2 => by
    simp only [reach] at h1
    split at h1
    · rename_i hz
      by_cases e : i = n
      · rw [e]; exact hz
      · exact reach_zero z l n i h1 (by omega)
    · omega
theorem eqSkew_same (a : Sk) : laws_eqSkew a a = some true := by
  obtain ⟨_, h1, _⟩ := loopM_for (body := fun s : Int => laws_eqSkew_l1 a a s) (fun i (_ : Unit) => (i : Int)) (fun _ => (.inl () : Unit ⊕ Bool)) 8 (fun _ _ => True) (fun i _ hi _ => by
    refine ⟨(), ?_, trivial⟩
    simp only [laws_eqSkew_l1, eqPoly_is, decide_true, Option.bind_some, Bool.not_true, Bool.false_eq_true, if_false]
    rw [if_pos (decide_eq_true (by omega)), ifp_pos (by omega), ifp_pos (by omega), wrap64 (by omega) (by omega)]
    rfl) (fun _ _ => by
    simp only [laws_eqSkew_l1]
    rw [if_neg (by rw [decide_eq_true_eq]; omega)]) 8 0 () (by omega) trivial
  have h1' : loopM (fun s : Int => laws_eqSkew_l1 a a s) 0 = some (.inl ()) := h1
  simp only [laws_eqSkew, h1', Option.bind_some]
/-- The coefficients of the sum. -/
def sumC (p : Int) (f g : Sk) (i : Nat) : List Int := comb p (row (rd f.1 i)) (row (rd g.1 i)) 1
theorem comb00 (p k : Int) : comb p [] [] k = [] := List.eq_nil_of_length_eq_zero (by have := comb_len p [] [] k; simpa using this)
theorem addSkS {p : Int} (hp : isP p = true) {f g : Sk} (hf : ∀ i, i < 8 → Res p (rd f.1 i)) (hg : ∀ i, i < 8 → Res p (rd g.1 i)) : ∃ w : Sk, spec_l03Add p f g 1 = some w ∧ ∀ i, i < 8 → rd w.1 i = pad (sumC p f g i) := by
  have hp2 := isP_pos hp
  obtain ⟨v, h1, h2, _⟩ := loopM_for (body := fun s : Int × Sk => spec_l03Add_l1 p g 1 s.1 s.2) (fun i u => ((i : Int), u)) (fun u => u) 8
    (fun i u => (∀ j, j < i → rd u.1 j = pad (sumC p f g j)) ∧ ∀ j, i ≤ j → j < 8 → rd u.1 j = rd f.1 j) (fun i u hi hI => by
      obtain ⟨h1, h2⟩ := hI
      have ha : spec_l01Add p (rd u.1 i) (rd g.1 i) 1 = some (pad (sumC p f g i)) := by
        rw [h2 i (Nat.le_refl _) hi]
        have := add_pad ⟨by omega, by omega⟩ (row_row (hf i hi)) (row_row (hg i hi)) (row_len _) (row_len _) (k := 1) (by omega)
        rwa [pad_row, pad_row] at this
      refine ⟨vset u i (pad (sumC p f g i)), ?_, fun j hj => ?_, fun j h3 h4 => ?_⟩
      · simp only [spec_l03Add_l1, Int.toNat_natCast, ha, Option.bind_some]
        rw [if_pos (decide_eq_true (by omega)), ifp_pos (by omega), ifp_pos (by omega), ifp_pos (by omega), wrap64 (by omega) (by omega)]
        rfl
      · rw [rd_vsetG _ _ _ _ hi]
        by_cases e : j = i
        · subst e; rw [if_pos rfl]
        · rw [if_neg e]; exact h1 j (by omega)
      · rw [rd_vsetG _ _ _ _ hi, if_neg (by omega)]; exact h2 j (by omega) h4) (fun u hI => by
      simp only [spec_l03Add_l1]
      rw [if_neg (by rw [decide_eq_true_eq]; omega)]) 8 0 f (by omega) ⟨fun j hj => by omega, fun j _ _ => rfl⟩
  have h1' : loopM (fun s : Int × Sk => spec_l03Add_l1 p g 1 s.1 s.2) (0, f) = some v := h1
  exact ⟨v, by simp only [spec_l03Add, h1', Option.bind_some], fun i hi => h2 i hi⟩
theorem skAt_is {f : Sk} {i : Nat} (hi : i < 8) : impl_skew_at ((f.1.map row).take (skDeg f)) (i : Int) = some (row (rd f.1 i)) := by
  have hle : skDeg f ≤ 8 := reach_le _ _ 8
  have hl : ((f.1.map row).take (skDeg f)).length = skDeg f := by rw [List.length_take, List.length_map, f.2]; omega
  have hf : i < f.1.length := by rw [f.2]; exact hi
  simp only [impl_skew_at, hl, Int.toNat_natCast]
  by_cases h : i < skDeg f
  · rw [if_pos (decide_eq_true (by omega)), ifp_pos (by omega)]
    congr 1
    simp [rd, h, hf]
  · rw [if_neg (by rw [decide_eq_true_eq]; omega)]
    have := reach_zero (fun a : V64 => decide (a = vrep 64 0)) f.1 8 i (by show skDeg f ≤ i; omega) hi
    have h0 := zero_row.1 (of_decide_eq_true this)
    rw [List.eq_nil_of_length_eq_zero h0]
theorem addSkI {p : Int} (hp : isP p = true) {m : List Int} {f g w : Sk} (hf : ∀ i, i < 8 → Res p (rd f.1 i)) (hg : ∀ i, i < 8 → Res p (rd g.1 i)) (hw : ∀ i, i < 8 → rd w.1 i = pad (sumC p f g i)) :
    (Option.bind (impl_field_plus (p, m) ((f.1.map row).take (skDeg f)) ((g.1.map row).take (skDeg g)) 1) fun r => impl_toldSkew r) = some (w, 0) := by
  have hp2 := isP_pos hp
  have hlf : ((f.1.map row).take (skDeg f)).length = skDeg f := by
    have hle : skDeg f ≤ 8 := reach_le _ _ 8
    rw [List.length_take, List.length_map, f.2]; omega
  have hlg : ((g.1.map row).take (skDeg g)).length = skDeg g := by
    have hle : skDeg g ≤ 8 := reach_le _ _ 8
    rw [List.length_take, List.length_map, g.2]; omega
  have hlef : skDeg f ≤ 8 := reach_le _ _ 8
  have hleg : skDeg g ≤ 8 := reach_le _ _ 8
  obtain ⟨n, hn⟩ : ∃ n : Nat, n = max (skDeg f) (skDeg g) := ⟨_, rfl⟩
  have hmax : (if (skDeg g : Int) > (skDeg f : Int) then (skDeg g : Int) else (skDeg f : Int)) = (n : Int) := by split <;> omega
  have sumZ : ∀ i, n ≤ i → i < 8 → sumC p f g i = [] := by
    intro i h1 h2
    have z1 := reach_zero (fun a : V64 => decide (a = vrep 64 0)) f.1 8 i (by show skDeg f ≤ i; omega) h2
    have z2 := reach_zero (fun a : V64 => decide (a = vrep 64 0)) g.1 8 i (by show skDeg g ≤ i; omega) h2
    have y1 := List.eq_nil_of_length_eq_zero (zero_row.1 (of_decide_eq_true z1))
    have y2 := List.eq_nil_of_length_eq_zero (zero_row.1 (of_decide_eq_true z2))
    unfold sumC
    rw [y1, y2, comb00]
  have sumL : ∀ i, (sumC p f g i).length ≤ 64 := fun i => by
    have := comb_len p (row (rd f.1 i)) (row (rd g.1 i)) 1
    have := row_len (rd f.1 i)
    have := row_len (rd g.1 i)
    unfold sumC; omega
  obtain ⟨u, h1, h2, h3⟩ := loopM_for (body := fun s : Int × List (List Int) => impl_field_plus_l1 (n : Int) ((f.1.map row).take (skDeg f)) ((g.1.map row).take (skDeg g)) (p, m) 1 s.1 s.2) (fun i u => ((i : Int), u)) (fun u => u) n
    (fun i u => u.length = n ∧ ∀ j, j < i → rd u j = sumC p f g j) (fun i u hi hI => by
      obtain ⟨h2, h3⟩ := hI
      have hc : impl_prime_combine p (row (rd f.1 i)) (row (rd g.1 i)) 1 = some (sumC p f g i) := by
        have a1 := (row_row (hf i (by omega))).ent ⟨by omega, by omega⟩
        have a2 := (row_row (hg i (by omega))).ent ⟨by omega, by omega⟩
        have a3 := row_len (rd f.1 i)
        have a4 := row_len (rd g.1 i)
        exact combine_is ⟨by omega, by omega⟩ a1 a2 (by omega) (by omega) (by omega)
      refine ⟨u.set i (sumC p f g i), ?_, by simpa using h2, fun j hj => ?_⟩
      · simp only [impl_field_plus_l1, letp, List.length_replicate, Int.toNat_natCast, skAt_is (show i < 8 by omega), hc, Option.bind_some]
        rw [if_pos (decide_eq_true (by omega)), ifp_pos (by omega), wrap64 (by omega) (by omega)]
        rfl
      · rw [rd_lset3 _ _ _ _ (by omega)]
        by_cases e : j = i
        · subst e; rw [if_pos rfl]
        · rw [if_neg e]; exact h3 j (by omega)) (fun u hI => by
      simp only [impl_field_plus_l1, letp, List.length_replicate, Int.toNat_natCast]
      rw [if_neg (by rw [decide_eq_true_eq]; omega)]) n 0 (List.replicate n []) (by omega) ⟨by simp, fun j hj => by omega⟩
  have h1' : loopM (fun s : Int × List (List Int) => impl_field_plus_l1 (n : Int) ((f.1.map row).take (skDeg f)) ((g.1.map row).take (skDeg g)) (p, m) 1 s.1 s.2) (0, List.replicate n []) = some u := h1
  have hul : ∀ x ∈ u, x.length ≤ 1000000 := fun x hx => by
    obtain ⟨q, hq, rfl⟩ := List.getElem_of_mem hx
    have e1 : rd u q = u[q] := by simp [rd, hq]
    rw [← e1, h3 q (by omega)]
    have := sumL q; omega
  have ht := skTrim_loop (l := u) (by omega) hul n (by omega)
  obtain ⟨k, hk⟩ : ∃ k, reach (fun a : List Int => decide (a.length = 0)) u n = k := ⟨_, rfl⟩
  have hkn : k ≤ n := by rw [← hk]; exact reach_le _ _ _
  rw [hk] at ht
  have ht' : loopM (fun s : Int => impl_skew_trimmed_l1 u s) (u.length : Int) = some (k : Int) := by rw [h2]; exact ht
  have hplus : impl_field_plus (p, m) ((f.1.map row).take (skDeg f)) ((g.1.map row).take (skDeg g)) 1 = some (u.take k) := by
    simp only [impl_field_plus, letp, hlf, hlg, hmax, Int.toNat_natCast, h1', Option.bind_some, impl_skew_trimmed, ht']
    rw [ifp_pos (by omega), ifp_pos (by omega)]
    rfl
  have hlk : (u.take k).length = k := by rw [List.length_take]; omega
  obtain ⟨v, g1, g2, g3⟩ := loopM_for (body := fun s : Int × Sk => impl_toldSkew_l1 (u.take k) s.1 s.2) (fun i u => ((i : Int), u)) (fun u => u) k
    (fun i v => (∀ j, j < i → rd v.1 j = pad (sumC p f g j)) ∧ ∀ j, i ≤ j → j < 8 → rd v.1 j = vrep 64 0) (fun i v hi hI => by
      obtain ⟨q1, q2⟩ := hI
      have e1 : rd (u.take k) i = sumC p f g i := by
        rw [← h3 i (by omega)]
        simp [rd, hi]
      have hpo : impl_row_poly (sumC p f g i) = some (pad (sumC p f g i)) := poly_is ((comb_row (show 0 < p by omega) _ _ _).bytes (by omega)) (sumL i)
      refine ⟨vset v i (pad (sumC p f g i)), ?_, fun j hj => ?_, fun j q3 q4 => ?_⟩
      · simp only [impl_toldSkew_l1, hlk, Int.toNat_natCast, e1, hpo, Option.bind_some]
        rw [if_pos (decide_eq_true (by omega)), ifp_pos (by omega), ifp_pos (by omega), wrap64 (by omega) (by omega)]
        rfl
      · rw [rd_vsetG _ _ _ _ (by omega)]
        by_cases e : j = i
        · subst e; rw [if_pos rfl]
        · rw [if_neg e]; exact q1 j (by omega)
      · rw [rd_vsetG _ _ _ _ (by omega), if_neg (by omega)]; exact q2 j (by omega) q4) (fun v hI => by
      simp only [impl_toldSkew_l1, hlk]
      rw [if_neg (by rw [decide_eq_true_eq]; omega)]) k 0 (vrep 8 (vrep 64 (0 : Int))) (by omega) ⟨fun j hj => by omega, fun j _ hj => rd_vrepG _ hj⟩
  have g1' : loopM (fun s : Int × Sk => impl_toldSkew_l1 (u.take k) s.1 s.2) (0, (vrep 8 (vrep 64 (0 : Int)))) = some v := g1
  have hv : v = w := by
    apply vec_extG
    intro j hj
    rw [hw j hj]
    by_cases h4 : j < k
    · exact g2 j h4
    · rw [g3 j (by omega) hj]
      have : sumC p f g j = [] := by
        by_cases h5 : j < n
        · have := reach_zero (fun a : List Int => decide (a.length = 0)) u n j (by rw [hk]; omega) h5
          rw [← h3 j h5]
          exact List.eq_nil_of_length_eq_zero (of_decide_eq_true this)
        · exact sumZ j (by omega) hj
      rw [this, pad_nil]
  rw [hplus]
  simp only [Option.bind_some, impl_toldSkew, impl_skew_degree, hlk]
  rw [wrap64 (by omega) (by omega), if_neg (by rw [decide_eq_true_eq]; omega), g1', hv]
  rfl
theorem addSk_law (p : Int) (m : V64) (f g : Sk) (hm : IsB m) (hf : SkB f) (hg : SkB g) : laws_FnExactAddSkews p m f g = some true := by
  have key : ∃ r, spec_AddSkews p m f g = some r ∧ impl_AddSkews p m f g = some r := by
    simp only [spec_AddSkews, impl_AddSkews, Option.bind_some]
    rw [skCodeS hm (by simpa using ⟨hf, hg⟩) (by simp), skCodeI hm (by simpa using ⟨hf, hg⟩) (by simp)]
    simp only [Option.bind_some, fieldOf_is hm]
    cases hc : fld p m && [f, g].all (skewB p m) with
    | false => exact ⟨(vrep 8 (vrep 64 0), 1), by simp, by simp⟩
    | true =>
      simp only [Bool.and_eq_true, List.all_cons, List.all_nil, Bool.and_true] at hc
      obtain ⟨h1, h2, h3⟩ := hc
      have res : ∀ (f : Sk), SkB f → skewB p m f = true → ∀ i, i < 8 → Res p (rd f.1 i) := fun f hf h i hi => by
        have hin : rd f.1 i ∈ f.1 := rd_in (by rw [f.2]; exact hi)
        unfold skewB at h
        have := List.all_eq_true.1 h _ hin
        unfold resi at this
        simp only [Bool.and_eq_true] at this
        exact res_of_small (hf _ hin) this.1
      obtain ⟨w, w1, w2⟩ := addSkS (fld_prime h1).1 (res f hf h2) (res g hg h3)
      obtain ⟨l1, a1, rfl, _⟩ := skDegI hf
      obtain ⟨l2, a2, rfl, _⟩ := skDegI hg
      have hi := addSkI (fld_prime h1).1 (m := row m) (res f hf h2) (res g hg h3) w2
      refine ⟨(w, 0), by simp [w1], ?_⟩
      simp only [if_true, bne_self_eq_false, Bool.false_eq_true, if_false, a1, a2, Option.bind_some]
      cases hq : impl_field_plus (p, row m) ((f.1.map row).take (skDeg f)) ((g.1.map row).take (skDeg g)) 1 with
      | none => rw [hq] at hi; cases hi
      | some r => rw [hq] at hi; simp only [Option.bind_some] at hi ⊢; rw [hi]; rfl
  obtain ⟨r, h1, h2⟩ := key
  simp only [laws_FnExactAddSkews, toPoly_is, toSkew_is, h1, h2, Option.bind_some, eqSkew_same]
  simp
end Go.Proofs.YtcgohoclbjgmkaaGreat
