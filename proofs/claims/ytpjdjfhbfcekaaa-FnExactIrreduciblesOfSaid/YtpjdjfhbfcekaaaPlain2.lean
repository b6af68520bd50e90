/- Own texts, put together. -/
import Derived.Test.YtpjdjfhbfcekaaaPlain1
set_option linter.unusedSimpArgs false
set_option linter.unusedVariables false
/- Lists of polynomials: comparing, marking, and whether the marks are held. -/
namespace Go.Proofs.Ytpjdjfhbfcekaaa
open Go.Abs

theorem eqPolyS_is {a b : List V64} (ha : a.length ≤ 2000000) (hb : b.length ≤ 2000000) : laws_eqPolyS a b = some (decide (a = b)) := by
  unfold laws_eqPolyS
  by_cases hl : a.length = b.length
  · rw [if_neg (by rw [bne_iff_ne]; simp; omega)]
    have key : ∀ s : Int, (∃ i : Nat, s = i ∧ i ≤ a.length ∧ ∀ j, j < i → rd a j = rd b j) → ∃ r, loopM (fun s : Int => laws_eqPolyS_l1 a b s) s = some r ∧ ((r = .inl () ∧ a = b) ∨ (r = .inr false ∧ a ≠ b)) := by
      refine loopM_ind (fun (s : Int) => ∃ i : Nat, s = i ∧ i ≤ a.length ∧ ∀ j, j < i → rd a j = rd b j) (fun (s : Int) (r : Unit ⊕ Bool) => (r = .inl () ∧ a = b) ∨ (r = .inr false ∧ a ≠ b)) (fun s => a.length - s.toNat) ?_
      rintro s ⟨i, rfl, hi, hlt⟩
      by_cases h : i = a.length
      · right
        subst h
        refine ⟨.inl (), by simp [laws_eqPolyS_l1], .inl ⟨rfl, ?_⟩⟩
        apply List.ext_getElem hl
        intro j h1 h2
        have := hlt j h1
        simpa [rd, h1, h2] using this
      · by_cases e : rd a i = rd b i
        · left
          refine ⟨((i + 1 : Nat) : Int), ?_, ⟨i + 1, rfl, by omega, fun j hj => ?_⟩, by simp; omega, fun r hr => hr⟩
          · simp only [laws_eqPolyS_l1]
            rw [if_pos (decide_eq_true (by omega)), ifp_pos (by omega), ifp_pos (by omega), Int.toNat_natCast, eqPoly_is, e]
            simp only [decide_true, Option.bind_some, Bool.not_true, Bool.false_eq_true, if_false]
            rw [wrap64 (by omega) (by omega)]; rfl
          · by_cases hj' : j = i
            · rw [hj']; exact e
            · exact hlt j (by omega)
        · right
          refine ⟨.inr false, ?_, .inr ⟨rfl, fun h => e (by rw [h])⟩⟩
          simp only [laws_eqPolyS_l1]
          rw [if_pos (decide_eq_true (by omega)), ifp_pos (by omega), ifp_pos (by omega), Int.toNat_natCast, eqPoly_is, decide_eq_false e]
          rfl
    obtain ⟨r, h1, h2⟩ := key 0 ⟨0, rfl, by omega, fun j hj => by omega⟩
    rw [h1]
    rcases h2 with ⟨rfl, h⟩ | ⟨rfl, h⟩ <;> simp [h]
  · rw [if_pos (by rw [bne_iff_ne]; simp; omega)]
    have : a ≠ b := fun h => hl (by rw [h])
    simp [this]

/-- The marks from k on. -/
def MarkedP (k : Nat) (m : List V64) : Prop := ∀ i, i < m.length → ∀ j, j < 64 → rd (rd m i).1 j = IntKind.u8.wrap ((k + 64 * i + j : Nat) : Int)
theorem rd_lset {α : Type} [Inhabited α] (l : List α) (k : Nat) (d : α) (i : Nat) (hk : k < l.length) : rd (l.set k d) i = if i = k then d else rd l i := by
  by_cases h : i = k
  · subst h; simp [rd, hk]
  · rw [if_neg h]; simp [rd, Ne.symm h]
theorem markP_is {l : List V64} {k : Nat} (hl : l.length ≤ 2000000) (hk : k ≤ 1000000000) : ∃ m, laws_markPolyS_of_mut l k = some (((k + 64 * l.length : Nat) : Int), m) ∧ m.length = l.length ∧ MarkedP k m := by
  have inner : ∀ (i : Nat) (u : List V64), i < u.length → u.length = l.length → ∃ u', loopM (fun s : Int × Int × List V64 => laws_markPolyS_of_mut_l2 (i : Int) s.1 s.2.1 s.2.2) (((k + 64 * i : Nat) : Int), 0, u) = some (((k + 64 * (i + 1) : Nat) : Int), u') ∧
      u'.length = u.length ∧ (∀ j, j < 64 → rd (rd u' i).1 j = IntKind.u8.wrap ((k + 64 * i + j : Nat) : Int)) ∧ ∀ i', i' ≠ i → rd u' i' = rd u i' := by
    intro i u hi hul
    obtain ⟨u', h1, h2, h3, h4⟩ := loopM_for (body := fun s : Int × Int × List V64 => laws_markPolyS_of_mut_l2 (i : Int) s.1 s.2.1 s.2.2) (fun j u => (((k + 64 * i + j : Nat) : Int), (j : Int), u)) (fun u => (((k + 64 * (i + 1) : Nat) : Int), u)) 64
      (fun j v => v.length = u.length ∧ (∀ j', j' < j → rd (rd v i).1 j' = IntKind.u8.wrap ((k + 64 * i + j' : Nat) : Int)) ∧ ∀ i', i' ≠ i → rd v i' = rd u i') (fun j v hj hI => by
        obtain ⟨h2, h3, h4⟩ := hI
        refine ⟨v.set i (vset (rd v i) j (IntKind.u8.wrap ((k + 64 * i + j : Nat) : Int))), ?_, by simpa using h2, fun j' hj' => ?_, fun i' hi' => ?_⟩
        · simp only [laws_markPolyS_of_mut_l2]
          rw [if_pos (decide_eq_true (by omega)), ifp_pos (by omega), ifp_pos (by omega), wrap64 (by omega) (by omega), wrap64 (by omega) (by omega)]
          rfl
        · rw [rd_lset _ _ _ _ (by omega), if_pos rfl, rd_vset _ _ _ _ (by omega)]
          by_cases e : j' = j
          · subst e; rw [if_pos rfl]
          · rw [if_neg e]; exact h3 j' (by omega)
        · rw [rd_lset _ _ _ _ (by omega), if_neg hi']; exact h4 i' hi') (fun v hI => by
        simp only [laws_markPolyS_of_mut_l2]
        rw [if_neg (by rw [decide_eq_true_eq]; omega)]
        rfl) 64 0 u (by omega) ⟨rfl, fun j' hj' => by omega, fun _ _ => rfl⟩
    exact ⟨u', h1, h2, fun j hj => h3 j hj, h4⟩
  obtain ⟨m, h1, h2, h3⟩ := loopM_for (body := fun s : Int × Int × List V64 => laws_markPolyS_of_mut_l1 s.1 s.2.1 s.2.2) (fun i u => (((k + 64 * i : Nat) : Int), (i : Int), u)) (fun u => (((k + 64 * l.length : Nat) : Int), u)) l.length
    (fun i u => u.length = l.length ∧ ∀ i', i' < i → ∀ j, j < 64 → rd (rd u i').1 j = IntKind.u8.wrap ((k + 64 * i' + j : Nat) : Int)) (fun i u hi hI => by
      obtain ⟨h2, h3⟩ := hI
      obtain ⟨u', g1, g2, g3, g4⟩ := inner i u (by omega) h2
      refine ⟨u', ?_, by omega, fun i' hi' j hj => ?_⟩
      · simp only [laws_markPolyS_of_mut_l1]
        rw [if_pos (decide_eq_true (by omega)), g1]
        simp only [Option.bind_some]
        rw [wrap64 (by omega) (by omega)]; rfl
      · by_cases e : i' = i
        · subst e; exact g3 j hj
        · rw [g4 i' e]; exact h3 i' (by omega) j hj) (fun u hI => by
      simp only [laws_markPolyS_of_mut_l1]
      rw [if_neg (by rw [decide_eq_true_eq]; omega)]) l.length 0 l (by omega) ⟨rfl, fun i' hi' => by omega⟩
  have h1' : loopM (fun s : Int × Int × List V64 => laws_markPolyS_of_mut_l1 s.1 s.2.1 s.2.2) ((k : Int), 0, l) = _ := h1
  refine ⟨m, ?_, h2, fun i hi j hj => h3 i (by omega) j hj⟩
  simp only [laws_markPolyS_of_mut, h1', Option.bind_some]
theorem heldP_is {m : List V64} {k : Nat} (hl : m.length ≤ 2000000) (hk : k ≤ 1000000000) (hm : MarkedP k m) : laws_heldPolyS m k = some ((k + 64 * m.length : Nat) : Int) := by
  have inner : ∀ (i : Nat), i < m.length → loopM (fun s : Int × Int => laws_heldPolyS_l2 (i : Int) m s.1 s.2) (((k + 64 * i : Nat) : Int), 0) = some (.inl ((k + 64 * (i + 1) : Nat) : Int)) := by
    intro i hi
    obtain ⟨u', h1, _⟩ := loopM_for (body := fun s : Int × Int => laws_heldPolyS_l2 (i : Int) m s.1 s.2) (fun j (_ : Unit) => (((k + 64 * i + j : Nat) : Int), (j : Int))) (fun _ => .inl ((k + 64 * (i + 1) : Nat) : Int)) 64
      (fun _ _ => True) (fun j _ hj _ => by
        refine ⟨(), ?_, trivial⟩
        simp only [laws_heldPolyS_l2, letp]
        rw [if_pos (decide_eq_true (by omega)), ifp_pos (by omega), ifp_pos (by omega), Int.toNat_natCast, Int.toNat_natCast, hm i hi j hj, if_neg (by simp), wrap64 (by omega) (by omega), wrap64 (by omega) (by omega)]
        rfl) (fun _ _ => by
        simp only [laws_heldPolyS_l2, letp]
        rw [if_neg (by rw [decide_eq_true_eq]; omega)]
        rfl) 64 0 () (by omega) trivial
    exact h1
  obtain ⟨u', h1, _⟩ := loopM_for (body := fun s : Int × Int => laws_heldPolyS_l1 m s.1 s.2) (fun i (_ : Unit) => (((k + 64 * i : Nat) : Int), (i : Int))) (fun _ => .inl ((k + 64 * m.length : Nat) : Int)) m.length
    (fun _ _ => True) (fun i _ hi _ => by
      refine ⟨(), ?_, trivial⟩
      simp only [laws_heldPolyS_l1]
      rw [if_pos (decide_eq_true (by omega)), inner i hi]
      simp only [Option.bind_some]
      rw [wrap64 (by omega) (by omega)]; rfl) (fun _ _ => by
      simp only [laws_heldPolyS_l1]
      rw [if_neg (by rw [decide_eq_true_eq]; omega)]) m.length 0 () (by omega) trivial
  have h1' : loopM (fun s : Int × Int => laws_heldPolyS_l1 m s.1 s.2) ((k : Int), 0) = _ := h1
  simp only [laws_heldPolyS, h1', Option.bind_some]
end Go.Proofs.Ytpjdjfhbfcekaaa
/- FnExactIrreduciblesOf. -/
namespace Go.Proofs.Ytpjdjfhbfcekaaa
open Go.Abs
open Classical in
noncomputable def irrB (P : Pri) (l : List Int) : Bool := decide (∃ h : Row P.p l, Irr (⟨l, h⟩ : PP P))
open Classical in
theorem irrB_pp {P : Pri} (a : PP P) : irrB P a.1 = decide (Irr a) := by
  unfold irrB
  congr 1
  rw [eq_iff_iff]
  exact ⟨fun ⟨_, h⟩ => h, fun h => ⟨a.2, h⟩⟩
open Classical in
theorem irrB_yes {P : Pri} {a : PP P} (h : Irr a) : irrB P a.1 = true := by rw [irrB_pp]; exact decide_eq_true h
open Classical in
theorem irrB_no {P : Pri} {a : PP P} (h : ¬ Irr a) : irrB P a.1 = false := by rw [irrB_pp]; exact decide_eq_false h
theorem norm_big {q : Nat} (hq : 2 ≤ q ∧ q ≤ 7) {n : Int} (hn : 8 < n) : ∃ c : Int, impl_prime_norm q n 343 = some c ∧ c > 343 := by
  have key : ∀ (m i : Nat), i + m = 10 → (i = 0 ∨ q ^ (i - 1) ≤ 343) → ∃ c : Int, loopM (fun s : Int × Int => impl_prime_norm_l1 n 343 q s.1 s.2) (((q ^ i : Nat) : Int), (i : Int)) = some c ∧ c > 343 := by
    intro m
    induction m with
    | zero =>
      intro i hi hle
      have : i = 10 := by omega
      subst this
      have h3 : 2 ^ 9 ≤ q ^ 9 := Nat.pow_le_pow_left hq.1 9
      have h4 : (2 : Nat) ^ 9 = 512 := by decide
      rcases hle with h | h
      · omega
      · have : q ^ (10 - 1) = q ^ 9 := rfl
        omega
    | succ m ih =>
      intro i hi hle
      by_cases h : 343 < q ^ i
      · refine ⟨((q ^ i : Nat) : Int), ?_, by omega⟩
        rw [loopM_eq]
        simp only [impl_prime_norm_l1]
        by_cases h1 : (i : Int) < n
        · rw [if_pos (decide_eq_true h1), if_pos (decide_eq_true (by omega))]; rfl
        · rw [if_neg (by rw [decide_eq_true_eq]; exact h1)]; rfl
      · have hi9 : i < 9 := by
          rcases Nat.lt_or_ge i 9 with h1 | h1
          · exact h1
          · have h2 : q ^ 9 ≤ q ^ i := Nat.pow_le_pow_right (by omega) h1
            have h3 : 2 ^ 9 ≤ q ^ 9 := Nat.pow_le_pow_left hq.1 9
            have h4 : (2 : Nat) ^ 9 = 512 := by decide
            omega
        have hle2 := Nat.mul_le_mul (show q ^ i ≤ 343 by omega) hq.2
        have e1 : ((q ^ i : Nat) : Int) * (q : Int) = ((q ^ (i + 1) : Nat) : Int) := by rw [Nat.pow_succ, Int.natCast_mul]
        have e2 : q ^ (i + 1) = q ^ i * q := Nat.pow_succ ..
        have step : impl_prime_norm_l1 n 343 q ((q ^ i : Nat) : Int) (i : Int) = some (.inl (((q ^ (i + 1) : Nat) : Int), ((i + 1 : Nat) : Int))) := by
          simp only [impl_prime_norm_l1]
          rw [if_pos (decide_eq_true (by omega)), if_neg (by rw [decide_eq_true_eq]; omega), e1, wrap64 (n := ((q ^ (i + 1) : Nat) : Int)) (by omega) (by omega), wrap64 (by omega) (by omega)]
          rfl
        rw [loopM_eq]
        simp only [step, Option.bind_some]
        exact ih (i + 1) (by omega) (.inr (by simp only [Nat.add_sub_cancel]; omega))
  obtain ⟨c, h1, h2⟩ := key 10 0 (by omega) (.inl rfl)
  have h1' : loopM (fun s : Int × Int => impl_prime_norm_l1 n 343 q s.1 s.2) (1, 0) = some c := h1
  exact ⟨c, by simp only [impl_prime_norm, h1', Option.bind_some], h2⟩
theorem monics_freshI : impl_prime_monics_fresh = impl_prime_monics := rfl
theorem irrOf_fresh : impl_IrreduciblesOf_fresh = impl_IrreduciblesOf := rfl
open Classical in
theorem irrs_both (p n : Int) : ∃ (l : List V64) (c : Int), spec_IrreduciblesOf p n = some (l, c) ∧ impl_IrreduciblesOf p n = some (l, c) ∧ l.length ≤ 343 := by
  unfold spec_IrreduciblesOf impl_IrreduciblesOf spec_l01In
  rw [isPrime_spec, isPrime_impl, monics_freshI]
  simp only [Option.bind_some]
  cases hp : isP p with
  | false => exact ⟨[], 1, by simp, by simp, by simp⟩
  | true =>
    have hp2 := isP_pos hp
    obtain ⟨q, rfl⟩ : ∃ q : Nat, p = q := ⟨p.toNat, by omega⟩
    have hq : 2 ≤ q ∧ q ≤ 7 := by omega
    by_cases h1 : 1 ≤ n
    · by_cases h2 : n ≤ 8
      · obtain ⟨m, rfl⟩ : ∃ m : Nat, n = m := ⟨n.toNat, by omega⟩
        obtain ⟨c, h3, h4⟩ := count_is (n := m) hq (by omega)
        obtain ⟨d, h5, h6, _⟩ := norm_is (n := m) (most := 343) hq (by omega) (by omega)
        have h5' : impl_prime_norm q m 343 = some (d : Int) := h5
        have hlt : decide ((m : Int) < 1) = false := decide_eq_false (by omega)
        simp only [Bool.not_true, Bool.false_eq_true, if_false, ge_iff_le, h1, h2, decide_true, if_true, Option.bind_some, h3, h5', hlt]
        by_cases h7 : q ^ m ≤ 343
        · have hc : c = q ^ m := by omega
          have hd : d = q ^ m := by omega
          subst hc hd
          have c1 : decide (((q ^ m : Nat) : Int) > 343) = false := decide_eq_false (by omega)
          simp only [c1, Bool.false_eq_true, if_false, monics_is hq (show m ≤ 1000000 by omega) h7, Option.bind_some]
          have hmon : ∀ i, i < q ^ m → (digs q (q ^ m + i)).length = m + 1 ∧ lead (digs q (q ^ m + i)) = 1 := fun i hi => monic_digs hq.1 (by omega) (by omega)
          have hel : ∀ l ∈ monicL q m (q ^ m), ∃ i, i < q ^ m ∧ l = (ppn ⟨q, hp⟩ (q ^ m + i)).1 := fun l hl => by
            simp only [monicL, List.mem_map, List.mem_range] at hl
            obtain ⟨i, hi, rfl⟩ := hl
            exact ⟨i, hi, rfl⟩
          have hML : (monicL q m (q ^ m)).length = q ^ m := by simp [monicL]
          have hdel := delete_is (M := monicL q m (q ^ m)) (p := (q : Int)) (q := irrB ⟨q, hp⟩) (by omega) (fun l hl => by
            obtain ⟨i, hi, rfl⟩ := hel l hl
            have hm := hmon i hi
            have h8 := irrI (m := ppn ⟨q, hp⟩ (q ^ m + i)) (by show (digs q (q ^ m + i)).length ≤ 13; omega)
            have h8' : impl_prime_isIrreducible (q : Int) (ppn ⟨q, hp⟩ (q ^ m + i)).1 = _ := h8
            have hMo : Mo (ppn ⟨q, hp⟩ (q ^ m + i)) := hm.2
            by_cases hir : Irr (ppn ⟨q, hp⟩ (q ^ m + i))
            · rw [irrB_yes hir]
              rw [decide_eq_true (show _ ∧ _ from ⟨hMo, hir⟩)] at h8'
              simp only [impl_IrreduciblesOf_c1_of_p, h8', Option.bind_some]
            · rw [irrB_no hir]
              rw [decide_eq_false (show ¬ (_ ∧ _) from fun h => hir h.2)] at h8'
              simp only [impl_IrreduciblesOf_c1_of_p, h8', Option.bind_some])
          have hpl := polys_is (M := (monicL q m (q ^ m)).filter (irrB ⟨q, hp⟩)) (Nat.le_trans (List.length_filter_le _ _) (by omega)) (fun l hl => by
            obtain ⟨i, hi, rfl⟩ := hel l (List.mem_filter.1 hl).1
            exact ⟨by show Bytes (digs q (q ^ m + i)); exact digs_bytes hq.1 (by omega), by show (digs q (q ^ m + i)).length ≤ 64; rw [(hmon i hi).1]; omega⟩)
          simp only [hdel, hpl, Option.bind_some]
          refine ⟨((monicL q m (q ^ m)).filter (irrB ⟨q, hp⟩)).map pad, 0, ?_, rfl, by rw [List.length_map]; exact Nat.le_trans (List.length_filter_le _ _) (by omega)⟩
          have hle2 : ∀ i, (((List.range i).map fun j => digs q (q ^ m + j)).filter (irrB ⟨q, hp⟩)).length ≤ i := fun i => Nat.le_trans (List.length_filter_le _ _) (by simp)
          obtain ⟨s, g1, g2⟩ := loopM_for (body := fun s : Int × List V64 => spec_IrreduciblesOf_l1 q m s.1 s.2) (fun i s => (((q ^ m + i : Nat) : Int), s)) (fun s => s) (q ^ m)
            (fun i s => s = (((List.range i).map fun j => digs q (q ^ m + j)).filter (irrB ⟨q, hp⟩)).map pad) (fun i s hi hI => by
              subst hI
              have hm := hmon i hi
              have e1 : spec_l01Of q ((q ^ m + i : Nat) : Int) = some (pad (ppn ⟨q, hp⟩ (q ^ m + i)).1) := of_is hq.1 (by omega) (by omega)
              have hne : ppn ⟨q, hp⟩ (q ^ m + i) ≠ 0 := fun e => by
                have h8 : (digs q (q ^ m + i)).length = 0 := len_zero.2 e
                omega
              have e2 : spec_l01Irreducible q (pad (ppn ⟨q, hp⟩ (q ^ m + i)).1) = _ := irrS (m := ppn ⟨q, hp⟩ (q ^ m + i)) (by show (digs q (q ^ m + i)).length ≤ 64; omega) hne
              have ew : IntKind.i64.wrap (((q ^ m + i : Nat) : Int) + 1) = ((q ^ m + (i + 1) : Nat) : Int) := by rw [wrap64 (by omega) (by omega)]; rfl
              have ec : decide (((q ^ m + i : Nat) : Int) < IntKind.i64.wrap (2 * ((q ^ m : Nat) : Int))) = true := by rw [wrap64 (by omega) (by omega)]; exact decide_eq_true (by omega)
              have hl := hle2 i
              refine ⟨_, ?_, rfl⟩
              simp only [spec_IrreduciblesOf_l1, h3, Option.bind_some, ec, if_true, e1, e2, ew]
              rw [List.range_succ, List.map_append, List.filter_append, List.map_append]
              by_cases hir : Irr (ppn ⟨q, hp⟩ (q ^ m + i))
              · have e3' : irrB ⟨q, hp⟩ (digs q (q ^ m + i)) = true := irrB_yes hir
                rw [decide_eq_true hir]
                rw [if_pos rfl, ifp_pos (by simp only [List.length_map, List.length_singleton]; omega)]
                simp only [List.map_cons, List.map_nil, List.filter_cons, List.filter_nil, e3', if_true, Option.bind_some]
                rfl
              · have e3' : irrB ⟨q, hp⟩ (digs q (q ^ m + i)) = false := irrB_no hir
                rw [decide_eq_false hir]
                rw [if_neg (by simp)]
                simp only [List.map_cons, List.map_nil, List.filter_cons, List.filter_nil, e3', Bool.false_eq_true, if_false, Option.bind_some, List.append_nil]) (fun s hI => by
              have ec : decide (((q ^ m + q ^ m : Nat) : Int) < IntKind.i64.wrap (2 * ((q ^ m : Nat) : Int))) = false := by rw [wrap64 (by omega) (by omega)]; exact decide_eq_false (by omega)
              simp only [spec_IrreduciblesOf_l1, h3, Option.bind_some, ec, Bool.false_eq_true, if_false]) (q ^ m) 0 [] (by omega) rfl
          have g1' : loopM (fun s : Int × List V64 => spec_IrreduciblesOf_l1 q m s.1 s.2) (((q ^ m : Nat) : Int), []) = some s := g1
          rw [g1', g2]
          rfl
        · have c1 : decide ((c : Int) > 343) = true := decide_eq_true (by omega)
          have c2 : decide ((d : Int) > 343) = true := decide_eq_true (by omega)
          simp only [c1, c2, if_true]
          exact ⟨[], 2, rfl, rfl, by simp⟩
      · obtain ⟨c, h3, h4⟩ := norm_big hq (show 8 < n by omega)
        have hlt : decide (n < 1) = false := decide_eq_false (by omega)
        have hc : decide (c > 343) = true := decide_eq_true h4
        exact ⟨[], 2, by simp [h1, h2], by simp [hlt, h3, hc], by simp⟩
    · have hlt : decide (n < 1) = true := decide_eq_true (by omega)
      exact ⟨[], 2, by simp [h1], by simp [hlt], by simp⟩
theorem irrOf_law (p n : Int) : laws_FnExactIrreduciblesOf p n = some true := by
  obtain ⟨l, c, h1, h2, h3⟩ := irrs_both p n
  obtain ⟨m, h4, h5, h6⟩ := markP_is (l := l) (k := 1) (by omega) (by omega)
  have h7 := heldP_is (m := m) (k := 1) (by omega) (by omega) h6
  have h4' : laws_markPolyS_of_mut l 1 = _ := h4
  have h7' : laws_heldPolyS m 1 = _ := h7
  unfold laws_FnExactIrreduciblesOf
  rw [irrOf_fresh, h1, h2]
  simp only [Option.bind_some, eqPolyS_is (show l.length ≤ 2000000 by omega) (show l.length ≤ 2000000 by omega), decide_true, Bool.not_true, Bool.false_eq_true, if_false, bne_self_eq_false, h4']
  rw [ifp_pos h5, h7', h5]
  have hneg : decide (((1 + 64 * l.length : Nat) : Int) < 0) = false := decide_eq_false (by omega)
  simp only [Option.bind_some, bne_self_eq_false, Bool.false_eq_true, if_false, hneg]
end Go.Proofs.Ytpjdjfhbfcekaaa
