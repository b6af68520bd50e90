/- Functions of the program: plain Lean functions, and that the program computes them. Printed by gen.py. -/
import Derived.Test.YtkbnegemdlnncaaFnT
import Derived.Test.YtkbnegemdlnncaaFn1
namespace Go.Proofs.Ytkbnegemdlnncaa
open Go.Abs Go.Proofs
set_option linter.unusedSimpArgs false
set_option linter.unusedVariables false
set_option maxHeartbeats 16000000
attribute [local irreducible] Abs.acode Abs.aops Abs.aopsT Abs.thenK Abs.blockK

def impl_quotientCode_c : ACode := (.seq (.region 0 [q 5 (.box 25 (t 1)), q 6 (.box 25 (t 2)), q 8 (.asg 0 (.const (.int .i64 0)) 2)] false) (.seq (.seq (.region 1 [q 10 (.mov (t 0)), q 11 (.load 25 (t 5)), q 12 (.load 25 (t 6)), q 13 (.bslice 0 55 2 [(0, (t 11)), (1, (t 12))]), q 14 (.call 0 (.func 100) [(t 10), (t 13)]), q 9 (.asg 0 (t 14) 2)] false) (.seq (.region 2 [q 15 (.mov (t 9)), q 16 (.bin .neq 2 (t 15) (.const (.int .i64 0)))] false) (.cond (t 16) (.seq (.region 3 [q 17 (.mov (t 9)), q 8 (.asg 0 (t 17) 2)] false) .ret) .skip))) (.seq (.block 0 (.seq (.region 4 [q 19 (.mov (t 3)), q 20 (.un .not (t 19)), q 18 (.asg 0 (t 20) 4)] false) (.cond (t 18) (.seq (.region 5 [q 8 (.asg 0 (.const (.int .i64 2)) 2)] false) .ret) (.seq (.region 6 [q 22 (.load 25 (t 6)), q 23 (.build 25 []), q 24 (.bin .eql 25 (t 22) (t 23)), q 21 (.asg 0 (t 24) 4)] false) (.cond (t 21) (.seq (.region 7 [q 8 (.asg 0 (.const (.int .i64 5)) 2)] false) .ret) .skip))))) (.seq (.region 8 [q 8 (.asg 0 (.const (.int .i64 0)) 2)] false) .ret))))
def impl_quotientCode_L : Live := [(0, [0, 1, 2, 3]), (1, [0, 3, 5, 6]), (2, [3, 6, 9]), (3, [9]), (4, [3, 6]), (5, []), (6, [6]), (7, []), (8, []), (100016, [3, 6, 9, 16]), (100018, [6, 18]), (100021, [21])]
noncomputable def impl_quotientCode (a0 : Int) (a1 : (Vec Int 64)) (a2 : (Vec Int 64)) (a3 : Bool) : Option Int :=
  (Option.bind (impl_polysCode a0 ([a1, a2])) fun r3 => (if (r3 != 0) then (some r3) else (if (!a3) then (some 2) else (if (decide (a2 = ((vrep 64 (0 : Int))))) then (some 5) else (some 0)))))
theorem impl_quotientCode_ok (a0 : Int) (a1 : (Vec Int 64)) (a2 : (Vec Int 64)) (a3 : Bool) (r : Int) (h : impl_quotientCode a0 a1 a2 a3 = some r) : Den Try.prog 138 [(i6 a0), (eA64u8 a1), (eA64u8 a2), (.bool a3)] { r := (i6 r) } := by
  refine den_of (rs := [(i6 r)]) (ac := impl_quotientCode_c) (L := impl_quotientCode_L) (n := 25) (m := []) (c := Try.f138.body.getD .skip) good Try.func138 (by kernel_rfl) (by kernel_rfl) Try.ntmps138 rfl rfl (by kernel_rfl) rfl rfl ?_
  refine a_st (σ' := ⟨[(0, (i6 a0)), (1, (eA64u8 a1)), (2, (eA64u8 a2)), (3, (.bool a3))], []⟩) (by kernel_rfl) ?_
  unfold impl_quotientCode_c
  refine sr (vo 1500 (eA64u8 a1) rfl rfl (vo 1600 (eA64u8 a2) rfl rfl (vp (i6 0) rfl (nx ⟨[(0, (i6 a0)), (3, (.bool a3)), (5, (ow 5)), (6, (ow 6))], [(5, (bk (eA64u8 a1))), (6, (bk (eA64u8 a2)))]⟩ (by kernel_rfl) (a_seq (sr (vp (i6 a0) rfl (vl (eA64u8 a1) rfl rfl rfl rfl rfl rfl (vl (eA64u8 a2) rfl rfl rfl rfl rfl rfl ?_)))))))))
  refine vq (.sl 64 true (([a1, a2]).map eA64u8)) rfl ⟨(Nat.le_of_ble_eq_true rfl), (Nat.le_of_ble_eq_true rfl), (all_cons ⟨(Nat.le_of_ble_eq_true rfl), rfl⟩ (all_cons ⟨(Nat.le_of_ble_eq_true rfl), rfl⟩ all_nil))⟩ ?_
  obtain ⟨r3, hr4, h⟩ := bind_some h
  refine a_call (args := [(i6 a0), (.sl 64 true (([a1, a2]).map eA64u8))]) (u := []) (r := (i6 r3)) rfl rfl (Den.args (impl_polysCode_ok a0 ([a1, a2]) r3 hr4) rfl rfl (.cons (.refl _) (.cons (.loose _) .nil))) rfl (vp (i6 r3) rfl (nx ⟨[(3, (.bool a3)), (6, (ow 6)), (9, (i6 r3))], [(6, (bk (eA64u8 a2)))]⟩ (by kernel_rfl) (sr (vp (i6 r3) rfl (vp (.bool (r3 != 0)) rfl (nx ⟨[(3, (.bool a3)), (6, (ow 6)), (9, (i6 r3)), (16, (.bool (r3 != 0)))], [(6, (bk (eA64u8 a2)))]⟩ (by kernel_rfl) ?_))))))
  cases hb5 : (r3 != 0)
  · have h := ite_f hb5 h
    refine a_cond_f rfl (a_skip (a_next (σ' := ⟨[(3, (.bool a3)), (6, (ow 6))], [(6, (bk (eA64u8 a2)))]⟩) (by kernel_rfl) (a_seq (a_block (sr (vp (.bool a3) rfl (vp (.bool (!a3)) rfl (vp (.bool (!a3)) rfl (nx ⟨[(6, (ow 6)), (18, (.bool (!a3)))], [(6, (bk (eA64u8 a2)))]⟩ (by kernel_rfl) ?_)))))))))
    cases hb6 : (!a3)
    · have h := ite_f hb6 h
      refine a_cond_f rfl (sr (vl (eA64u8 a2) rfl rfl rfl rfl rfl rfl (vq (eA64u8 ((vrep 64 (0 : Int)))) rfl ⟨⟨_, rfl, rfl⟩, all_nil⟩ (vq (.bool ((decide (a2 = ((vrep 64 (0 : Int))))))) (eqa_run (f := (AV.int .u8)) (a := a2.1) (b := ((vrep 64 (0 : Int))).1) rfl rfl (eqb_vec (fun _ _ => eqb_int _ _) a2 ((vrep 64 (0 : Int))))) (cmp_arr (g := 8) (f := (AV.int .u8)) (x := a2) (y := ((vrep 64 (0 : Int)))) rfl rfl rfl (fun _ _ => rfl) (fun _ _ => cmp_int rfl)) (vp (.bool ((decide (a2 = ((vrep 64 (0 : Int))))))) rfl (nx ⟨[(21, (.bool ((decide (a2 = ((vrep 64 (0 : Int))))))))], []⟩ (by kernel_rfl) ?_))))))
      cases hb8 : (decide (a2 = ((vrep 64 (0 : Int)))))
      · have h := ite_f hb8 h
        refine a_cond_f rfl (a_skip (b_norm (a_next (σ' := ⟨[], []⟩) (by kernel_rfl) (sr (vp (i6 0) rfl (nx _ rfl (a_ret ?_)))))))
        refine ⟨.inr rfl, ?_⟩
        rw [Try.results138]
        cases h
        exact ⟨_, _, _, _, _, rfl, trivial, .inl ⟨rfl, .inl rfl⟩, rfl, rfl⟩
      · have h := ite_t hb8 h
        refine a_cond_t rfl (sr (vp (i6 5) rfl (nx _ rfl (a_ret (b_ret (t_ret ?_))))))
        refine ⟨.inr rfl, ?_⟩
        rw [Try.results138]
        cases h
        exact ⟨_, _, _, _, _, rfl, trivial, .inl ⟨rfl, .inl rfl⟩, rfl, rfl⟩
    · have h := ite_t hb6 h
      refine a_cond_t rfl (sr (vp (i6 2) rfl (nx _ rfl (a_ret (b_ret (t_ret ?_))))))
      refine ⟨.inr rfl, ?_⟩
      rw [Try.results138]
      cases h
      exact ⟨_, _, _, _, _, rfl, trivial, .inl ⟨rfl, .inl rfl⟩, rfl, rfl⟩
  · have h := ite_t hb5 h
    refine a_cond_t rfl (sr (vp (i6 r3) rfl (vp (i6 r3) rfl (nx _ rfl (a_ret (t_ret ?_))))))
    refine ⟨.inr rfl, ?_⟩
    rw [Try.results138]
    cases h
    exact ⟨_, _, _, _, _, rfl, trivial, .inl ⟨rfl, .inl rfl⟩, rfl, rfl⟩
def impl_row_trimmed_c : ACode := (.seq (.region 0 [q 2 (.asg 1 (.const (.slice none 0 0)) 80)] false) (.seq (.region 1 [q 4 (.mov (t 0)), q 5 (.blt 0 .len [(t 4)] [80]), q 3 (.asg 0 (t 5) 3)] false) (.seq (.block 0 (.loop (.seq (.seq (.region 2 [q 6 (.mov (t 3)), q 7 (.bin .gtr 3 (t 6) (.const (.int .i64 0))), q 8 (.mov (t 7)), ⟨some 9, .mov (t 0), some (8, true), []⟩, ⟨some 10, .mov (t 3), some (8, true), []⟩, ⟨some 11, .bin .sub 3 (t 10) (.const (.int .i64 1)), some (8, true), []⟩, ⟨some 12, .indexAddr 80 (t 9) (t 11), some (8, true), []⟩, ⟨some 13, .load 2 (t 12), some (8, true), []⟩, ⟨some 14, .bin .eql 2 (t 13) (.const (.int .i64 0)), some (8, true), []⟩, q 15 (.pick (t 8) (t 14) (.const (.bool false)))] false) (.cond (t 15) .skip (.exit 0))) (.block 1 (.region 3 [q 16 (.mov (t 3)), q 17 (.bin .sub 3 (t 16) (.const (.int .i64 1))), q 3 (.asg 0 (t 17) 3)] false))))) (.seq (.region 4 [q 18 (.mov (t 0)), q 19 (.mov (t 3)), q 20 (.mov (t 3)), q 21 (.slice 80 (t 18) none (some (t 19)) (some (t 20))), q 2 (.asg 1 (t 21) 80)] false) .ret))))
def impl_row_trimmed_L : Live := [(0, [0]), (1, [0]), (2, [0, 3]), (3, [0, 3]), (4, [0, 3]), (100015, [0, 3, 15])]
noncomputable def impl_row_trimmed_l1 (a0 : (List Int)) (x62 : Int) : Option (Int ⊕ Int) :=
  (Option.bind (α := Bool) ((if (decide (x62 > 0)) then (ifp (0 ≤ IntKind.i64.wrap (x62 - 1) ∧ IntKind.i64.wrap (x62 - 1) < ((a0.length : Nat) : Int)) ((some ((((rd a0 (IntKind.i64.wrap (x62 - 1)).toNat)) == 0))))) else (some false))) fun x80 => (if x80 then (some (.inl (IntKind.i64.wrap (x62 - 1)))) else (some (.inr x62))))
noncomputable def impl_row_trimmed (a0 : (List Int)) : Option (List Int) :=
  (Option.bind (α := Int) ((loopM (fun s : Int => impl_row_trimmed_l1 a0 s) (a0.length : Int))) fun x43 => (ifp (0 ≤ x43 ∧ x43 ≤ (a0.length : Int)) ((some (a0.take x43.toNat)))))
theorem impl_row_trimmed_ok (a0 : (List Int)) (r : (List Int)) (h : impl_row_trimmed a0 = some r) : Den Try.prog 180 [(eSi64 a0)] { r := (eSi64 r) } := by
  refine den_of (rs := [(eSi64 r)]) (ac := impl_row_trimmed_c) (L := impl_row_trimmed_L) (n := 22) (m := [(2, 1)]) (c := Try.f180.body.getD .skip) good Try.func180 (by kernel_rfl) (by kernel_rfl) Try.ntmps180 rfl rfl (by kernel_rfl) rfl rfl ?_
  refine a_st (σ' := ⟨[(0, (eSi64 a0))], []⟩) (by kernel_rfl) ?_
  unfold impl_row_trimmed_c
  refine sr (vp (eSi64 ([])) rfl (nx ⟨[(0, (eSi64 a0))], []⟩ (by kernel_rfl) (sr (vp (eSi64 a0) rfl (vq (i6 (a0.length : Int)) (len_run rfl rfl) trivial (vp (i6 (a0.length : Int)) rfl (nx ⟨[(0, (eSi64 a0)), (3, (i6 (a0.length : Int)))], []⟩ (by kernel_rfl) ?_)))))))
  obtain ⟨y44, hy45, hk46⟩ := bind_some h
  clear h
  refine a_join (emb := fun (s : Int) => ⟨[(0, (eSi64 a0)), (3, (i6 s))], []⟩) (pre := fun s => s = y44) ?_ ?_
  · rintro x43 rfl
    have h := hk46
    refine a_st (σ' := ⟨[(0, (eSi64 a0)), (3, (i6 x43))], []⟩) (by kernel_rfl) (sr (vp (eSi64 a0) rfl (vp (i6 x43) rfl (vp (i6 x43) rfl ?_))))
    obtain ⟨hc89, h⟩ := ifp_some h
    refine vq (.sl 1 true ((a0.take x43.toNat).map (AV.int .i64))) (take3_run (f := (AV.int .i64)) (l := a0) (i := ⟨.int .i64, 1, 8, (.int .i64 0)⟩) rfl rfl rfl rfl (fun _ => rfl)) ⟨hc89.1, lmap_le hc89.2, rfl⟩ (vq (eSi64 (a0.take x43.toNat)) (asg_tight (i := ⟨.int .i64, 1, 8, (.int .i64 0)⟩) (f := (AV.int .i64)) (l := (a0.take x43.toNat)) rfl rfl rfl) trivial (nx _ rfl (a_ret ?_)))
    refine ⟨.inr rfl, ?_⟩
    rw [Try.results180]
    cases h
    exact ⟨_, _, _, _, _, rfl, trivial, .inl ⟨rfl, .inl rfl⟩, rfl, rfl⟩
  · have h := hy45
    refine a_block ?_
    refine a_loop (emb := fun (s : Int) => ⟨[(0, (eSi64 a0)), (3, (i6 s))], []⟩) (body := (fun s : Int => impl_row_trimmed_l1 a0 s)) (G := fun q => some q = some y44) h rfl ?_ (by kernel_rfl)
    rintro X74 x62 x75 h hX76
    have h : impl_row_trimmed_l1 a0 x62 = some x75 := h
    refine a_st (σ' := ⟨[(0, (eSi64 a0)), (3, (i6 x62))], []⟩) (by kernel_rfl) (a_seq ?_)
    obtain ⟨y81, hy82, hk83⟩ := bind_some h
    clear h
    refine a_join (emb := fun (s : Bool) => ⟨[(0, (eSi64 a0)), (3, (i6 x62)), (15, (.bool s))], []⟩) (pre := fun s => s = y81) ?_ ?_
    · rintro x80 rfl
      have h := hk83
      refine a_st (σ' := ⟨[(0, (eSi64 a0)), (3, (i6 x62)), (15, (.bool x80))], []⟩) (by kernel_rfl) ?_
      cases hb87 : x80
      · have h := ite_f hb87 h
        refine a_cond_f rfl (a_exit (t_exit ?_))
        cases h
        have h := hX76
        refine t_exit (b_exit ?_)
        exact j_leaf x62 (Option.some.inj h) (by kernel_rfl)
      · have h := ite_t hb87 h
        refine a_cond_t rfl (a_skip (a_next (σ' := ⟨[(0, (eSi64 a0)), (3, (i6 x62))], []⟩) (by kernel_rfl) (a_block (a_region (vp (i6 x62) rfl (vp (i6 (IntKind.i64.wrap (x62 - 1))) rfl (vp (i6 (IntKind.i64.wrap (x62 - 1))) rfl (a_nil (b_norm ?_)))))))))
        cases h
        exact a_again (by kernel_rfl) hX76
    · have h := hy82
      refine a_region (vp (i6 x62) rfl (vp (.bool ((decide (x62 > 0)))) rfl (vp (.bool ((decide (x62 > 0)))) rfl ?_)))
      cases hb84 : (decide (x62 > 0))
      · have h := ite_f hb84 h
        refine a_gskip rfl (a_gskip rfl (a_gskip rfl (a_gskip rfl (a_gskip rfl (a_gskip rfl (vp (.bool false) rfl (a_nil ?_)))))))
        exact j_leaf false (Option.some.inj h) (by kernel_rfl)
      · have h := ite_t hb84 h
        refine gp (eSi64 a0) rfl rfl (gp (i6 x62) rfl rfl (gp (i6 (IntKind.i64.wrap (x62 - 1))) rfl rfl ?_))
        obtain ⟨hc85, h⟩ := ifp_some h
        refine gq (.ref (.row 1 (a0.map (AV.int .i64))) [(IntKind.i64.wrap (x62 - 1)).toNat] [(IntKind.i64.wrap (x62 - 1)).toNat * 1]) rfl rfl (lmap hc85) ?_
        have hl86 : LdOk [(IntKind.i64.wrap (x62 - 1)).toNat] (.row 1 (a0.map (AV.int .i64))) [(IntKind.i64.wrap (x62 - 1)).toNat * 1] 1 false (i6 ((rd a0 (IntKind.i64.wrap (x62 - 1)).toNat))) := (.row (llt hc85) rfl (.nil rfl rfl rfl))
        refine gq (i6 ((rd a0 (IntKind.i64.wrap (x62 - 1)).toNat))) rfl (ld_ref (i := ⟨.int .i64, 1, 8, (.int .i64 0)⟩) rfl rfl hl86) hl86.c (gp (.bool ((((rd a0 (IntKind.i64.wrap (x62 - 1)).toNat)) == 0))) rfl rfl (vp (.bool ((((rd a0 (IntKind.i64.wrap (x62 - 1)).toNat)) == 0))) rfl (a_nil ?_)))
        exact j_leaf ((((rd a0 (IntKind.i64.wrap (x62 - 1)).toNat)) == 0)) (Option.some.inj h) (by kernel_rfl)
def impl_rowOf_c : ACode := (.seq (.region 0 [q 1 (.box 25 (t 0)), q 2 (.asg 1 (.const (.slice none 0 0)) 80)] false) (.seq (.region 1 [q 3 (.asg 2 (.const (.slice none 0 0)) 80)] false) (.seq (.seq (.region 2 [q 6 (.load 25 (t 1)), q 7 (.mov (.const (.int .i64 0)))] false) (.block 0 (.loop (.seq (.region 3 [q 8 (.bin .lss 3 (t 7) (.const (.int .i64 64)))] false) (.seq (.cond (t 8) .skip (.exit 0)) (.seq (.block 1 (.seq (.region 4 [q 9 (.index 25 (t 6) (t 7)), q 5 (.asg 0 (t 9) 5)] false) (.region 5 [q 10 (.mov (t 3)), q 11 (.mov (t 5)), q 12 (.conv 5 2 (t 11)), q 13 (.bslice 0 80 1 [(0, (t 12))]), q 14 (.blt 0 .append [(t 10), (t 13)] [80, 80]), q 3 (.asg 2 (t 14) 80)] false))) (.region 6 [q 15 (.bin .add 3 (t 7) (.const (.int .i64 1))), q 7 (.mov (t 15))] false))))))) (.seq (.region 7 [q 16 (.mov (t 3)), q 17 (.call 0 (.func 180) [(t 16)]), q 2 (.asg 1 (t 17) 80)] false) .ret))))
def impl_rowOf_L : Live := [(0, [0]), (1, [1]), (2, [1, 3]), (3, [3, 6, 7]), (4, [3, 6, 7]), (5, [3, 5, 6, 7]), (6, [3, 6, 7]), (7, [3]), (100008, [3, 6, 7, 8])]
noncomputable def impl_rowOf_l1 (a0 : (Vec Int 64)) (x25 : Int) (x26 : (List Int)) : Option ((Int × (List Int)) ⊕ (List Int)) :=
  (if (decide (x25 < 64)) then (ifp (0 ≤ x25 ∧ x25 < ((64 : Nat) : Int)) ((ifp ((x26.length + ([IntKind.i64.wrap (rd a0.1 x25.toNat)] : List Int).length) * 8 ≤ 140737488355328) ((some (.inl ((IntKind.i64.wrap (x25 + 1), (x26 ++ ([IntKind.i64.wrap (rd a0.1 x25.toNat)])))))))))) else (some (.inr x26)))
noncomputable def impl_rowOf (a0 : (Vec Int 64)) : Option (List Int) :=
  (Option.bind (α := (List Int)) ((loopM (fun s : (Int × (List Int)) => impl_rowOf_l1 a0 s.1 s.2) (0, []))) fun x17 => (Option.bind (impl_row_trimmed x17) fun r37 => (some r37)))
theorem impl_rowOf_ok (a0 : (Vec Int 64)) (r : (List Int)) (h : impl_rowOf a0 = some r) : Den Try.prog 103 [(eA64u8 a0)] { r := (eSi64 r) } := by
  refine den_of (rs := [(eSi64 r)]) (ac := impl_rowOf_c) (L := impl_rowOf_L) (n := 18) (m := [(2, 1), (3, 2)]) (c := Try.f103.body.getD .skip) good Try.func103 (by kernel_rfl) (by kernel_rfl) Try.ntmps103 rfl rfl (by kernel_rfl) rfl rfl ?_
  refine a_st (σ' := ⟨[(0, (eA64u8 a0))], []⟩) (by kernel_rfl) ?_
  unfold impl_rowOf_c
  refine sr (vo 1100 (eA64u8 a0) rfl rfl (vp (eSi64 ([])) rfl (nx ⟨[(1, (ow 1))], [(1, (bk (eA64u8 a0)))]⟩ (by kernel_rfl) (sr (vu (.osl 1300) [(1300, (bk (.row 1 (([]).map (AV.int .i64)))))] rfl trivial rfl (nx ⟨[(1, (ow 1)), (3, (.osl 3))], [(1, (bk (eA64u8 a0))), (3, (bk (.row 1 (([]).map (AV.int .i64)))))]⟩ (by kernel_rfl) ?_))))))
  obtain ⟨y18, hy19, hk20⟩ := bind_some h
  clear h
  refine a_join (emb := fun (s : (List Int)) => ⟨[(3, (.osl 3))], [(3, (bk (.row 1 (s.map (AV.int .i64)))))]⟩) (pre := fun s => s = y18) ?_ ?_
  · rintro x17 rfl
    have h := hk20
    refine a_st (σ' := ⟨[(3, (.osl 3))], [(3, (bk (.row 1 (x17.map (AV.int .i64)))))]⟩) (by kernel_rfl) (sr (vp (.osl 3) rfl ?_))
    obtain ⟨r37, hr38, h⟩ := bind_some h
    refine a_call (args := [(eSi64 x17)]) (u := [(3, (bf (.row 1 (x17.map (AV.int .i64)))))]) (r := (eSi64 r37)) rfl rfl (impl_row_trimmed_ok x17 r37 hr38) rfl (vp (eSi64 r37) rfl (nx _ rfl (a_ret ?_)))
    refine ⟨.inr rfl, ?_⟩
    rw [Try.results103]
    cases h
    exact ⟨_, _, _, _, _, rfl, trivial, .inl ⟨rfl, .inl rfl⟩, rfl, rfl⟩
  · have h := hy19
    refine sr (vl (eA64u8 a0) rfl rfl rfl rfl rfl rfl (vp (i6 0) rfl (nx ⟨[(3, (.osl 3)), (6, (eA64u8 a0)), (7, (i6 0))], [(3, (bk (.row 1 (([]).map (AV.int .i64)))))]⟩ (by kernel_rfl) (a_block ?_))))
    refine a_loop (emb := fun (s : (Int × (List Int))) => ⟨[(3, (.osl 3)), (6, (eA64u8 a0)), (7, (i6 s.1))], [(3, (bk (.row 1 (s.2.map (AV.int .i64)))))]⟩) (body := (fun s : (Int × (List Int)) => impl_rowOf_l1 a0 s.1 s.2)) (G := fun q => some q = some y18) h rfl ?_ (by kernel_rfl)
    rintro X30 ⟨x25, x26⟩ x31 h hX32
    have h : impl_rowOf_l1 a0 x25 x26 = some x31 := h
    refine a_st (σ' := ⟨[(3, (.osl 3)), (6, (eA64u8 a0)), (7, (i6 x25))], [(3, (bk (.row 1 (x26.map (AV.int .i64)))))]⟩) (by kernel_rfl) (sr (vp (.bool ((decide (x25 < 64)))) rfl (nx ⟨[(3, (.osl 3)), (6, (eA64u8 a0)), (7, (i6 x25)), (8, (.bool ((decide (x25 < 64)))))], [(3, (bk (.row 1 (x26.map (AV.int .i64)))))]⟩ (by kernel_rfl) (a_seq ?_))))
    cases hb33 : (decide (x25 < 64))
    · have h := ite_f hb33 h
      refine a_cond_f rfl (a_exit (t_exit ?_))
      cases h
      have h := hX32
      refine t_exit (b_exit ?_)
      exact j_leaf x26 (Option.some.inj h) (by kernel_rfl)
    · have h := ite_t hb33 h
      refine a_cond_t rfl (a_skip (a_next (σ' := ⟨[(3, (.osl 3)), (6, (eA64u8 a0)), (7, (i6 x25))], [(3, (bk (.row 1 (x26.map (AV.int .i64)))))]⟩) (by kernel_rfl) (a_seq (a_block (sr ?_)))))
      obtain ⟨hc34, h⟩ := ifp_some h
      refine vq (b8 (rd a0.1 x25.toNat)) (ix_run (i := ⟨.int .u8, 1, 1, (.int .u8 0)⟩) (f := (AV.int .u8)) rfl rfl rfl rfl (vlt a0 hc34)) ⟨hc34.1, hc34.2, rfl, rfl, rfl, rfl⟩ (vp (b8 (rd a0.1 x25.toNat)) rfl (nx ⟨[(3, (.osl 3)), (5, (b8 (rd a0.1 x25.toNat))), (6, (eA64u8 a0)), (7, (i6 x25))], [(3, (bk (.row 1 (x26.map (AV.int .i64)))))]⟩ (by kernel_rfl) (a_region (vp (.osl 3) rfl (vp (b8 (rd a0.1 x25.toNat)) rfl (vp (i6 (IntKind.i64.wrap (rd a0.1 x25.toNat))) rfl (vq (.sl 1 true (([IntKind.i64.wrap (rd a0.1 x25.toNat)]).map (AV.int .i64))) rfl ⟨(Nat.le_of_ble_eq_true rfl), (Nat.le_of_ble_eq_true rfl), (all_cons ⟨(Nat.le_of_ble_eq_true rfl), rfl⟩ all_nil)⟩ ?_)))))))
      obtain ⟨hc35, h⟩ := ifp_some h
      refine vu (.osl 2400) [(2400, (bk (.row 1 (((x26 ++ ([IntKind.i64.wrap (rd a0.1 x25.toNat)]))).map (AV.int .i64))))), (3, none)] (app_run (i := ⟨.int .i64, 1, 8, (.int .i64 0)⟩) (f := (AV.int .i64)) (l := x26) (l2 := [IntKind.i64.wrap (rd a0.1 x25.toNat)]) rfl rfl rfl rfl (fun _ => rfl) rfl rfl) (app_c (f := (AV.int .i64)) (s := 1) (sz := 1) (by' := 8) (u := []) (id := 3) hc35 (.inr rfl) rfl rfl rfl) rfl (vp (.osl 2400) rfl (a_nil (b_norm (a_next (σ' := ⟨[(3, (.osl 3)), (6, (eA64u8 a0)), (7, (i6 x25))], [(3, (bk (.row 1 (((x26 ++ ([IntKind.i64.wrap (rd a0.1 x25.toNat)]))).map (AV.int .i64)))))]⟩) (by kernel_rfl) (a_region (vp (i6 (IntKind.i64.wrap (x25 + 1))) rfl (vp (i6 (IntKind.i64.wrap (x25 + 1))) rfl (a_nil ?_))))))))
      cases h
      exact a_again (by kernel_rfl) hX32
def slices_Clone_impl_row_int64_fresh_c : ACode := (.seq (.region 0 [q 2 (.asg 2 (.const (.slice none 0 0)) 80)] false) (.seq (.seq (.region 1 [q 3 (.mov (t 0)), q 4 (.bin .eql 80 (t 3) (.const (.slice none 0 0)))] false) (.cond (t 4) (.seq (.region 2 [q 2 (.asg 2 (.const (.slice none 0 0)) 80)] false) .ret) .skip)) (.seq (.region 3 [q 5 (.bslice 0 80 0 []), q 6 (.mov (t 0)), q 7 (.blt 0 .append [(t 5), (t 6)] [80, 80]), q 2 (.asg 2 (t 7) 80)] false) .ret)))
def slices_Clone_impl_row_int64_fresh_L : Live := [(0, [0]), (1, [0]), (2, []), (3, [0]), (100004, [0, 4])]
noncomputable def slices_Clone_impl_row_int64_fresh (a0 : (List Int)) : Option (List Int) :=
  (ifc (a0 = [] → ((some ([]))) = ((ifp ((([] : List Int).length + a0.length) * 8 ≤ 140737488355328) ((some ((([] : List Int) ++ a0))))))) ((ifp ((([] : List Int).length + a0.length) * 8 ≤ 140737488355328) ((some ((([] : List Int) ++ a0)))))))
theorem slices_Clone_impl_row_int64_fresh_ok (a0 : (List Int)) (r : (List Int)) (h : slices_Clone_impl_row_int64_fresh a0 = some r) : Den Try.prog 184 [(eSi64 a0)] { r := (.osl 2000000), ms := [], fs := [(1, r.map (AV.int .i64))] } := by
  refine den_ofX (rs := [(.osl 2000000)]) (ac := slices_Clone_impl_row_int64_fresh_c) (L := slices_Clone_impl_row_int64_fresh_L) (n := 8) (m := [(2, 2)]) (c := Try.f184.body.getD .skip) good Try.func184 (by kernel_rfl) (by kernel_rfl) Try.ntmps184 rfl rfl (by kernel_rfl) rfl ?_
  refine a_st (σ' := ⟨[(0, (eSi64 a0))], []⟩) (by kernel_rfl) ?_
  unfold slices_Clone_impl_row_int64_fresh_c
  refine sr (vu (.osl 1200) [(1200, (bk (.row 1 (([]).map (AV.int .i64)))))] rfl trivial rfl (nx ⟨[(0, (eSi64 a0))], []⟩ (by kernel_rfl) (a_seq (sr (vp (eSi64 a0) rfl ?_)))))
  obtain ⟨hq2, h⟩ := ifc_some h
  refine a_split (v := .bool true) (v' := .bool false) rfl rfl (fun hn3 => ?_) ?_
  · have h := (hq2 (List.map_eq_nil_iff.1 hn3)).trans h
    refine nx ⟨[(0, (eSi64 a0)), (4, (.bool true))], []⟩ (by kernel_rfl) (a_cond_t rfl (sr (vu (.osl 1200) [(1200, (bk (.row 1 (([]).map (AV.int .i64)))))] rfl trivial rfl (nx _ rfl (a_ret (t_ret ?_))))))
    refine ⟨.inr rfl, ?_⟩
    rw [Try.results184]
    cases h
    exact ⟨[some 1200], ⟨_, _, _, _, _, rfl, trivial, rfl, .inr (.inl ⟨_, _, _, _, _, rfl, rfl, rfl, rfl, rfl, rfl, ⟨rfl, rfl, rfl⟩⟩)⟩, rfl, rfl⟩
  · skip
    refine nx ⟨[(0, (eSi64 a0)), (4, (.bool false))], []⟩ (by kernel_rfl) (a_cond_f rfl (a_skip (a_next (σ' := ⟨[(0, (eSi64 a0))], []⟩) (by kernel_rfl) (sr (vq (.sl 1 true (([]).map (AV.int .i64))) rfl ⟨(Nat.le_of_ble_eq_true rfl), (Nat.le_of_ble_eq_true rfl), all_nil⟩ (vp (eSi64 a0) rfl ?_))))))
    obtain ⟨hc1, h⟩ := ifp_some h
    refine vu (.osl 1700) [(1700, (bk (.row 1 (((([] : List Int) ++ a0)).map (AV.int .i64)))))] (appt_run (i := ⟨.int .i64, 1, 8, (.int .i64 0)⟩) (f := (AV.int .i64)) (l := []) (l2 := a0) rfl rfl rfl rfl (fun _ => rfl) rfl) (appt_c (f := (AV.int .i64)) (s := 1) (sz := 1) (sz' := 1) (by' := 8) hc1 (.inl rfl) (.inl rfl) (.inr rfl) rfl rfl) rfl (vp (.osl 1700) rfl (nx _ rfl (a_ret ?_)))
    refine ⟨.inr rfl, ?_⟩
    rw [Try.results184]
    cases h
    exact ⟨[some 1700], ⟨_, _, _, _, _, rfl, trivial, rfl, .inr (.inl ⟨_, _, _, _, _, rfl, rfl, rfl, rfl, rfl, rfl, ⟨rfl, rfl, rfl⟩⟩)⟩, rfl, rfl⟩
def impl_row_lead_c : ACode := (.seq (.region 0 [q 2 (.asg 0 (.const (.int .i64 0)) 2)] false) (.seq (.seq (.region 1 [q 3 (.mov (t 0)), q 4 (.blt 0 .len [(t 3)] [80]), q 5 (.bin .eql 3 (t 4) (.const (.int .i64 0)))] false) (.cond (t 5) (.seq (.region 2 [q 2 (.asg 0 (.const (.int .i64 0)) 2)] false) .ret) .skip)) (.seq (.region 3 [q 6 (.mov (t 0)), q 7 (.mov (t 0)), q 8 (.blt 0 .len [(t 7)] [80]), q 9 (.bin .sub 3 (t 8) (.const (.int .i64 1))), q 10 (.indexAddr 80 (t 6) (t 9)), q 11 (.load 2 (t 10)), q 2 (.asg 0 (t 11) 2)] false) .ret)))
def impl_row_lead_L : Live := [(0, [0]), (1, [0]), (2, []), (3, [0]), (100005, [0, 5])]
noncomputable def impl_row_lead (a0 : (List Int)) : Option Int :=
  (if ((a0.length : Int) == 0) then (some 0) else (ifp (0 ≤ IntKind.i64.wrap ((a0.length : Int) - 1) ∧ IntKind.i64.wrap ((a0.length : Int) - 1) < ((a0.length : Nat) : Int)) ((some ((rd a0 (IntKind.i64.wrap ((a0.length : Int) - 1)).toNat))))))
theorem impl_row_lead_ok (a0 : (List Int)) (r : Int) (h : impl_row_lead a0 = some r) : Den Try.prog 186 [(eSi64 a0)] { r := (i6 r) } := by
  refine den_of (rs := [(i6 r)]) (ac := impl_row_lead_c) (L := impl_row_lead_L) (n := 12) (m := []) (c := Try.f186.body.getD .skip) good Try.func186 (by kernel_rfl) (by kernel_rfl) Try.ntmps186 rfl rfl (by kernel_rfl) rfl rfl ?_
  refine a_st (σ' := ⟨[(0, (eSi64 a0))], []⟩) (by kernel_rfl) ?_
  unfold impl_row_lead_c
  refine sr (vp (i6 0) rfl (nx ⟨[(0, (eSi64 a0))], []⟩ (by kernel_rfl) (a_seq (sr (vp (eSi64 a0) rfl (vq (i6 (a0.length : Int)) (len_run rfl rfl) trivial (vp (.bool (((a0.length : Int) == 0))) rfl (nx ⟨[(0, (eSi64 a0)), (5, (.bool (((a0.length : Int) == 0))))], []⟩ (by kernel_rfl) ?_))))))))
  cases hb1 : ((a0.length : Int) == 0)
  · have h := ite_f hb1 h
    refine a_cond_f rfl (a_skip (a_next (σ' := ⟨[(0, (eSi64 a0))], []⟩) (by kernel_rfl) (sr (vp (eSi64 a0) rfl (vp (eSi64 a0) rfl (vq (i6 (a0.length : Int)) (len_run rfl rfl) trivial (vp (i6 (IntKind.i64.wrap ((a0.length : Int) - 1))) rfl ?_)))))))
    obtain ⟨hc2, h⟩ := ifp_some h
    refine vq (.ref (.row 1 (a0.map (AV.int .i64))) [(IntKind.i64.wrap ((a0.length : Int) - 1)).toNat] [(IntKind.i64.wrap ((a0.length : Int) - 1)).toNat * 1]) rfl (lmap hc2) ?_
    have hl3 : LdOk [(IntKind.i64.wrap ((a0.length : Int) - 1)).toNat] (.row 1 (a0.map (AV.int .i64))) [(IntKind.i64.wrap ((a0.length : Int) - 1)).toNat * 1] 1 false (i6 ((rd a0 (IntKind.i64.wrap ((a0.length : Int) - 1)).toNat))) := (.row (llt hc2) rfl (.nil rfl rfl rfl))
    refine vq (i6 ((rd a0 (IntKind.i64.wrap ((a0.length : Int) - 1)).toNat))) (ld_ref (i := ⟨.int .i64, 1, 8, (.int .i64 0)⟩) rfl rfl hl3) hl3.c (vp (i6 ((rd a0 (IntKind.i64.wrap ((a0.length : Int) - 1)).toNat))) rfl (nx _ rfl (a_ret ?_)))
    refine ⟨.inr rfl, ?_⟩
    rw [Try.results186]
    cases h
    exact ⟨_, _, _, _, _, rfl, trivial, .inl ⟨rfl, .inl rfl⟩, rfl, rfl⟩
  · have h := ite_t hb1 h
    refine a_cond_t rfl (sr (vp (i6 0) rfl (nx _ rfl (a_ret (t_ret ?_)))))
    refine ⟨.inr rfl, ?_⟩
    rw [Try.results186]
    cases h
    exact ⟨_, _, _, _, _, rfl, trivial, .inl ⟨rfl, .inl rfl⟩, rfl, rfl⟩
def impl_prime_inverse_c : ACode := (.seq (.region 0 [q 4 (.asg 0 (.const (.int .i64 0)) 2)] false) (.seq (.region 1 [q 5 (.asg 0 (.const (.int .i64 1)) 2)] false) (.seq (.seq (.region 2 [q 6 (.mov (t 0)), q 7 (.bin .sub 2 (t 6) (.const (.int .i64 2))), q 8 (.mov (.const (.int .i64 0)))] false) (.block 0 (.loop (.seq (.region 3 [q 9 (.bin .lss 2 (t 8) (t 7))] false) (.seq (.cond (t 9) .skip (.exit 0)) (.seq (.block 1 (.region 4 [q 10 (.mov (t 5)), q 11 (.mov (t 1)), q 12 (.bin .mul 2 (t 10) (t 11)), q 13 (.mov (t 0)), q 14 (.bin .rem 2 (t 12) (t 13)), q 5 (.asg 0 (t 14) 2)] false)) (.region 5 [q 15 (.bin .add 2 (t 8) (.const (.int .i64 1))), q 8 (.mov (t 15))] false))))))) (.seq (.region 6 [q 16 (.mov (t 5)), q 4 (.asg 0 (t 16) 2)] false) .ret))))
def impl_prime_inverse_L : Live := [(0, [0, 1]), (1, [0, 1]), (2, [0, 1, 5]), (3, [0, 1, 5, 7, 8]), (4, [0, 1, 5, 7, 8]), (5, [0, 1, 5, 7, 8]), (6, [5]), (100009, [0, 1, 5, 7, 8, 9])]
noncomputable def impl_prime_inverse_l1 (a0 : Int) (a1 : Int) (x19 : Int) (x20 : Int) : Option ((Int × Int) ⊕ Int) :=
  (if (decide (x20 < (IntKind.i64.wrap (a0 - 2)))) then (ifp (a0 ≠ 0) ((some (.inl ((Int.tmod (IntKind.i64.wrap (x19 * a1)) a0, IntKind.i64.wrap (x20 + 1))))))) else (some (.inr x19)))
noncomputable def impl_prime_inverse (a0 : Int) (a1 : Int) : Option Int :=
  (Option.bind (α := Int) ((loopM (fun s : (Int × Int) => impl_prime_inverse_l1 a0 a1 s.1 s.2) (1, 0))) fun x13 => (some x13))
theorem impl_prime_inverse_ok (a0 : Int) (a1 : Int) (r : Int) (h : impl_prime_inverse a0 a1 = some r) : Den Try.prog 185 [(i6 a0), (i6 a1)] { r := (i6 r) } := by
  refine den_of (rs := [(i6 r)]) (ac := impl_prime_inverse_c) (L := impl_prime_inverse_L) (n := 17) (m := []) (c := Try.f185.body.getD .skip) good Try.func185 (by kernel_rfl) (by kernel_rfl) Try.ntmps185 rfl rfl (by kernel_rfl) rfl rfl ?_
  refine a_st (σ' := ⟨[(0, (i6 a0)), (1, (i6 a1))], []⟩) (by kernel_rfl) ?_
  unfold impl_prime_inverse_c
  refine sr (vp (i6 0) rfl (nx ⟨[(0, (i6 a0)), (1, (i6 a1))], []⟩ (by kernel_rfl) (sr (vp (i6 1) rfl (nx ⟨[(0, (i6 a0)), (1, (i6 a1)), (5, (i6 1))], []⟩ (by kernel_rfl) ?_)))))
  obtain ⟨y14, hy15, hk16⟩ := bind_some h
  clear h
  refine a_join (emb := fun (s : Int) => ⟨[(5, (i6 s))], []⟩) (pre := fun s => s = y14) ?_ ?_
  · rintro x13 rfl
    have h := hk16
    refine a_st (σ' := ⟨[(5, (i6 x13))], []⟩) (by kernel_rfl) (sr (vp (i6 x13) rfl (vp (i6 x13) rfl (nx _ rfl (a_ret ?_)))))
    refine ⟨.inr rfl, ?_⟩
    rw [Try.results185]
    cases h
    exact ⟨_, _, _, _, _, rfl, trivial, .inl ⟨rfl, .inl rfl⟩, rfl, rfl⟩
  · have h := hy15
    refine sr (vp (i6 a0) rfl (vp (i6 (IntKind.i64.wrap (a0 - 2))) rfl (vp (i6 0) rfl (nx ⟨[(0, (i6 a0)), (1, (i6 a1)), (5, (i6 1)), (7, (i6 (IntKind.i64.wrap (a0 - 2)))), (8, (i6 0))], []⟩ (by kernel_rfl) (a_block ?_)))))
    refine a_loop (emb := fun (s : (Int × Int)) => ⟨[(0, (i6 a0)), (1, (i6 a1)), (5, (i6 s.1)), (7, (i6 (IntKind.i64.wrap (a0 - 2)))), (8, (i6 s.2))], []⟩) (body := (fun s : (Int × Int) => impl_prime_inverse_l1 a0 a1 s.1 s.2)) (G := fun q => some q = some y14) h rfl ?_ (by kernel_rfl)
    rintro X23 ⟨x19, x20⟩ x24 h hX25
    have h : impl_prime_inverse_l1 a0 a1 x19 x20 = some x24 := h
    refine a_st (σ' := ⟨[(0, (i6 a0)), (1, (i6 a1)), (5, (i6 x19)), (7, (i6 (IntKind.i64.wrap (a0 - 2)))), (8, (i6 x20))], []⟩) (by kernel_rfl) (sr (vp (.bool ((decide (x20 < (IntKind.i64.wrap (a0 - 2)))))) rfl (nx ⟨[(0, (i6 a0)), (1, (i6 a1)), (5, (i6 x19)), (7, (i6 (IntKind.i64.wrap (a0 - 2)))), (8, (i6 x20)), (9, (.bool ((decide (x20 < (IntKind.i64.wrap (a0 - 2)))))))], []⟩ (by kernel_rfl) (a_seq ?_))))
    cases hb26 : (decide (x20 < (IntKind.i64.wrap (a0 - 2))))
    · have h := ite_f hb26 h
      refine a_cond_f rfl (a_exit (t_exit ?_))
      cases h
      have h := hX25
      refine t_exit (b_exit ?_)
      exact j_leaf x19 (Option.some.inj h) (by kernel_rfl)
    · have h := ite_t hb26 h
      refine a_cond_t rfl (a_skip (a_next (σ' := ⟨[(0, (i6 a0)), (1, (i6 a1)), (5, (i6 x19)), (7, (i6 (IntKind.i64.wrap (a0 - 2)))), (8, (i6 x20))], []⟩) (by kernel_rfl) (a_seq (a_block (a_region (vp (i6 x19) rfl (vp (i6 a1) rfl (vp (i6 (IntKind.i64.wrap (x19 * a1))) rfl (vp (i6 a0) rfl ?_)))))))))
      obtain ⟨hc27, h⟩ := ifp_some h
      refine vq (i6 (Int.tmod (IntKind.i64.wrap (x19 * a1)) a0)) rfl hc27 (vp (i6 (Int.tmod (IntKind.i64.wrap (x19 * a1)) a0)) rfl (a_nil (b_norm (a_next (σ' := ⟨[(0, (i6 a0)), (1, (i6 a1)), (5, (i6 (Int.tmod (IntKind.i64.wrap (x19 * a1)) a0))), (7, (i6 (IntKind.i64.wrap (a0 - 2)))), (8, (i6 x20))], []⟩) (by kernel_rfl) (a_region (vp (i6 (IntKind.i64.wrap (x20 + 1))) rfl (vp (i6 (IntKind.i64.wrap (x20 + 1))) rfl (a_nil ?_))))))))
      cases h
      exact a_again (by kernel_rfl) hX25
def impl_prime_reduce_c : ACode := (.seq (.region 0 [q 4 (.asg 0 (.const (.int .i64 0)) 2)] false) (.seq (.region 1 [q 5 (.mov (t 1)), q 6 (.mov (t 0)), q 7 (.bin .rem 2 (t 5) (t 6)), q 8 (.mov (t 0)), q 9 (.bin .add 2 (t 7) (t 8)), q 10 (.mov (t 0)), q 11 (.bin .rem 2 (t 9) (t 10)), q 4 (.asg 0 (t 11) 2)] false) .ret))
def impl_prime_reduce_L : Live := [(0, [0, 1]), (1, [0, 1])]
noncomputable def impl_prime_reduce (a0 : Int) (a1 : Int) : Option Int :=
  (ifp (a0 ≠ 0) ((ifp (a0 ≠ 0) ((some (Int.tmod (IntKind.i64.wrap ((Int.tmod a1 a0) + a0)) a0))))))
theorem impl_prime_reduce_ok (a0 : Int) (a1 : Int) (r : Int) (h : impl_prime_reduce a0 a1 = some r) : Den Try.prog 183 [(i6 a0), (i6 a1)] { r := (i6 r) } := by
  refine den_of (rs := [(i6 r)]) (ac := impl_prime_reduce_c) (L := impl_prime_reduce_L) (n := 12) (m := []) (c := Try.f183.body.getD .skip) good Try.func183 (by kernel_rfl) (by kernel_rfl) Try.ntmps183 rfl rfl (by kernel_rfl) rfl rfl ?_
  refine a_st (σ' := ⟨[(0, (i6 a0)), (1, (i6 a1))], []⟩) (by kernel_rfl) ?_
  unfold impl_prime_reduce_c
  refine sr (vp (i6 0) rfl (nx ⟨[(0, (i6 a0)), (1, (i6 a1))], []⟩ (by kernel_rfl) (sr (vp (i6 a1) rfl (vp (i6 a0) rfl ?_)))))
  obtain ⟨hc1, h⟩ := ifp_some h
  refine vq (i6 (Int.tmod a1 a0)) rfl hc1 (vp (i6 a0) rfl (vp (i6 (IntKind.i64.wrap ((Int.tmod a1 a0) + a0))) rfl (vp (i6 a0) rfl ?_)))
  obtain ⟨hc2, h⟩ := ifp_some h
  refine vq (i6 (Int.tmod (IntKind.i64.wrap ((Int.tmod a1 a0) + a0)) a0)) rfl hc2 (vp (i6 (Int.tmod (IntKind.i64.wrap ((Int.tmod a1 a0) + a0)) a0)) rfl (nx _ rfl (a_ret ?_)))
  refine ⟨.inr rfl, ?_⟩
  rw [Try.results183]
  cases h
  exact ⟨_, _, _, _, _, rfl, trivial, .inl ⟨rfl, .inl rfl⟩, rfl, rfl⟩
def impl_prime_divide_c : ACode := (.seq (.region 0 [q 6 (.asg 1 (.const (.slice none 0 0)) 80), q 7 (.asg 1 (.const (.slice none 0 0)) 80)] false) (.seq (.region 1 [q 15 (.mov (t 1)), q 16 (.call 0 (.func 184) [(t 15)]), q 8 (.asg 2 (t 16) 80)] false) (.seq (.seq (.region 2 [q 17 (.mov (t 1)), q 18 (.blt 0 .len [(t 17)] [80]), q 19 (.mov (t 2)), q 20 (.blt 0 .len [(t 19)] [80]), q 21 (.bin .lss 3 (t 18) (t 20))] false) (.cond (t 21) (.seq (.region 3 [q 22 (.mov (t 8)), q 6 (.asg 1 (.const (.slice none 0 0)) 80), q 7 (.asg 1 (t 22) 80)] false) .ret) .skip)) (.seq (.region 4 [q 23 (.mov (t 1)), q 24 (.blt 0 .len [(t 23)] [80]), q 25 (.mov (t 2)), q 26 (.blt 0 .len [(t 25)] [80]), q 27 (.bin .sub 3 (t 24) (t 26)), q 28 (.bin .add 3 (t 27) (.const (.int .i64 1))), q 29 (.mkslice 80 (t 28) (t 28)), q 9 (.asg 2 (t 29) 80)] false) (.seq (.region 5 [q 30 (.mov (t 0)), q 31 (.mov (t 2)), q 32 (.call 0 (.func 186) [(t 31)]), q 33 (.call 0 (.func 185) [(t 30), (t 32)]), q 10 (.asg 0 (t 33) 2)] false) (.seq (.seq (.region 6 [q 34 (.mov (t 9)), q 35 (.blt 0 .len [(t 34)] [80]), q 36 (.bin .sub 3 (t 35) (.const (.int .i64 1))), q 11 (.asg 0 (t 36) 3)] false) (.block 0 (.loop (.seq (.seq (.region 7 [q 37 (.mov (t 11)), q 38 (.bin .geq 3 (t 37) (.const (.int .i64 0)))] false) (.cond (t 38) .skip (.exit 0))) (.seq (.block 1 (.seq (.region 9 [q 41 (.mov (t 8)), q 42 (.mov (t 11)), q 43 (.mov (t 2)), q 44 (.blt 0 .len [(t 43)] [80]), q 45 (.bin .add 3 (t 42) (t 44)), q 46 (.bin .sub 3 (t 45) (.const (.int .i64 1))), q 47 (.indexAddr 80 (t 41) (t 46)), q 48 (.load 2 (t 47)), q 49 (.mov (t 10)), q 50 (.bin .mul 2 (t 48) (t 49)), q 51 (.mov (t 0)), q 52 (.bin .rem 2 (t 50) (t 51)), q 12 (.asg 0 (t 52) 2)] false) (.seq (.region 10 [q 53 (.mov (t 9)), q 54 (.mov (t 11)), q 55 (.mov (t 12)), q 56 (.indexAddr 80 (t 53) (t 54)), ⟨none, .store 2 (t 56) (t 55), none, []⟩] false) (.seq (.region 11 [q 57 (.mov (t 2)), q 58 (.blt 0 .len [(t 57)] [80]), q 59 (.mov (.const (.int .i64 0)))] false) (.block 2 (.loop (.seq (.region 12 [q 60 (.bin .lss 3 (t 59) (t 58))] false) (.seq (.cond (t 60) .skip (.exit 2)) (.seq (.block 3 (.seq (.region 13 [q 61 (.mov (t 59)), q 62 (.indexAddr 80 (t 57) (t 59)), q 63 (.load 2 (t 62)), q 13 (.asg 0 (t 61) 3), q 14 (.asg 0 (t 63) 2)] false) (.region 14 [q 64 (.mov (t 8)), q 65 (.mov (t 11)), q 66 (.mov (t 13)), q 67 (.bin .add 3 (t 65) (t 66)), q 68 (.mov (t 0)), q 69 (.mov (t 8)), q 70 (.mov (t 11)), q 71 (.mov (t 13)), q 72 (.bin .add 3 (t 70) (t 71)), q 73 (.indexAddr 80 (t 69) (t 72)), q 74 (.load 2 (t 73)), q 75 (.mov (t 12)), q 76 (.mov (t 14)), q 77 (.bin .mul 2 (t 75) (t 76)), q 78 (.bin .sub 2 (t 74) (t 77)), q 79 (.call 0 (.func 183) [(t 68), (t 78)]), q 80 (.indexAddr 80 (t 64) (t 67)), ⟨none, .store 2 (t 80) (t 79), none, []⟩] false))) (.region 15 [q 81 (.bin .add 3 (t 59) (.const (.int .i64 1))), q 59 (.mov (t 81))] false)))))))))) (.region 8 [q 39 (.mov (t 11)), q 40 (.bin .sub 3 (t 39) (.const (.int .i64 1))), q 11 (.asg 0 (t 40) 3)] false)))))) (.seq (.region 16 [q 82 (.mov (t 9)), q 83 (.call 0 (.func 180) [(t 82)]), q 84 (.mov (t 8)), q 85 (.call 0 (.func 180) [(t 84)]), q 6 (.asg 1 (t 83) 80), q 7 (.asg 1 (t 85) 80)] false) .ret)))))))
def impl_prime_divide_L : Live := [(0, [0, 1, 2]), (1, [0, 1, 2]), (2, [0, 1, 2, 8]), (3, [8]), (4, [0, 1, 2, 8]), (5, [0, 2, 8, 9]), (6, [0, 2, 8, 9, 10]), (7, [0, 2, 8, 9, 10, 11]), (8, [0, 2, 8, 9, 10, 11]), (9, [0, 2, 8, 9, 10, 11]), (10, [0, 2, 8, 9, 10, 11, 12]), (11, [0, 2, 8, 9, 10, 11, 12]), (12, [0, 2, 8, 9, 10, 11, 12, 57, 58, 59]), (13, [0, 2, 8, 9, 10, 11, 12, 57, 58, 59]), (14, [0, 2, 8, 9, 10, 11, 12, 13, 14, 57, 58, 59]), (15, [0, 2, 8, 9, 10, 11, 12, 57, 58, 59]), (16, [8, 9]), (100021, [0, 1, 2, 8, 21]), (100038, [0, 2, 8, 9, 10, 11, 38]), (100060, [0, 2, 8, 9, 10, 11, 12, 57, 58, 59, 60])]
noncomputable def impl_prime_divide_l2 (a2 : (List Int)) (x467 : Int) (x468 : (List Int)) (x641 : Int) (r9 : Int) (a0 : Int) (x469 : (List Int)) (x661 : Int) (x662 : (List Int)) : Option ((Int × (List Int)) ⊕ ((List Int) × (List Int))) :=
  (if (decide (x661 < (a2.length : Int))) then (ifp (0 ≤ x661 ∧ x661 < ((a2.length : Nat) : Int)) ((ifp (0 ≤ IntKind.i64.wrap (x467 + x661) ∧ IntKind.i64.wrap (x467 + x661) < ((x662.length : Nat) : Int)) ((letp (IntKind.i64.wrap ((Int.tmod (IntKind.i64.wrap ((rd x468 x641.toNat) * r9)) a0) * (rd a2 x661.toNat))) fun x684 => (letp (IntKind.i64.wrap (((rd x662 (IntKind.i64.wrap (x467 + x661)).toNat)) - x684)) fun x686 => (Option.bind (impl_prime_reduce a0 x686) fun r688 => (ifp (0 ≤ IntKind.i64.wrap (x467 + x661) ∧ IntKind.i64.wrap (x467 + x661) < ((x662.length : Nat) : Int)) ((some (.inl ((IntKind.i64.wrap (x661 + 1), (x662.set (IntKind.i64.wrap (x467 + x661)).toNat r688)))))))))))))) else (some (.inr (((x662, (x469.set x467.toNat (Int.tmod (IntKind.i64.wrap ((rd x468 x641.toNat) * r9)) a0))))))))
noncomputable def impl_prime_divide_l1 (a2 : (List Int)) (a0 : Int) (r9 : Int) (x467 : Int) (x468 : (List Int)) (x469 : (List Int)) : Option ((Int × (List Int) × (List Int)) ⊕ ((List Int) × (List Int))) :=
  (if (decide (x467 ≥ 0)) then (Option.bind (α := ((List Int) × (List Int))) ((letp (IntKind.i64.wrap ((IntKind.i64.wrap (x467 + (a2.length : Int))) - 1)) fun x641 => (ifp (0 ≤ x641 ∧ x641 < ((x468.length : Nat) : Int)) ((ifp (a0 ≠ 0) ((ifp (0 ≤ x467 ∧ x467 < ((x469.length : Nat) : Int)) ((loopM (fun s : (Int × (List Int)) => impl_prime_divide_l2 a2 x467 x468 x641 r9 a0 x469 s.1 s.2) (0, x468)))))))))) fun ⟨x636, x637⟩ => (some (.inl ((IntKind.i64.wrap (x467 - 1), x636, x637))))) else (some (.inr (x468, x469))))
noncomputable def impl_prime_divide (a0 : Int) (a1 : (List Int)) (a2 : (List Int)) : Option ((List Int) × (List Int)) :=
  (Option.bind (slices_Clone_impl_row_int64_fresh a1) fun r1 => (if (decide ((a1.length : Int) < (a2.length : Int))) then (some ([], r1)) else (letp (IntKind.i64.wrap ((IntKind.i64.wrap ((a1.length : Int) - (a2.length : Int))) + 1)) fun x4 => (ifp (0 ≤ x4 ∧ x4 ≤ 140737488355328 ∧ 8 * x4 ≤ 140737488355328) ((Option.bind (impl_row_lead a2) fun r7 => (Option.bind (impl_prime_inverse a0 r7) fun r9 => (Option.bind (α := ((List Int) × (List Int))) ((letp (IntKind.i64.wrap ((((List.replicate x4.toNat (0 : Int)).length : Int)) - 1)) fun x355 => (loopM (fun s : (Int × (List Int) × (List Int)) => impl_prime_divide_l1 a2 a0 r9 s.1 s.2.1 s.2.2) (x355, r1, List.replicate x4.toNat (0 : Int))))) fun ⟨x350, x351⟩ => (Option.bind (impl_row_trimmed x351) fun r694 => (Option.bind (impl_row_trimmed x350) fun r696 => (some (r694, r696))))))))))))
theorem impl_prime_divide_ok (a0 : Int) (a1 : (List Int)) (a2 : (List Int)) (r : ((List Int) × (List Int))) (h : impl_prime_divide a0 a1 a2 = some r) : Den Try.prog 110 [(i6 a0), (eSi64 a1), (eSi64 a2)] { r := (.tuple [(eSi64 r.1), (eSi64 r.2)]) } := by
  refine den_of (rs := [(eSi64 r.1), (eSi64 r.2)]) (ac := impl_prime_divide_c) (L := impl_prime_divide_L) (n := 86) (m := [(6, 1), (7, 1), (8, 2), (9, 2)]) (c := Try.f110.body.getD .skip) good Try.func110 (by kernel_rfl) (by kernel_rfl) Try.ntmps110 rfl rfl (by kernel_rfl) rfl rfl ?_
  refine a_st (σ' := ⟨[(0, (i6 a0)), (1, (eSi64 a1)), (2, (eSi64 a2))], []⟩) (by kernel_rfl) ?_
  unfold impl_prime_divide_c
  refine sr (vp (eSi64 ([])) rfl (vp (eSi64 ([])) rfl (nx ⟨[(0, (i6 a0)), (1, (eSi64 a1)), (2, (eSi64 a2))], []⟩ (by kernel_rfl) (sr (vp (eSi64 a1) rfl ?_)))))
  obtain ⟨r1, hr2, h⟩ := bind_some h
  refine a_callF (args := [(eSi64 a1)]) (u := []) (u2 := []) (r := (.osl 2000000)) (fs := [(1, r1.map (AV.int .i64))]) rfl rfl (slices_Clone_impl_row_int64_fresh_ok a1 r1 hr2) rfl rfl rfl (.inl rfl) rfl (vp (.osl 2600) rfl (nx ⟨[(0, (i6 a0)), (1, (eSi64 a1)), (2, (eSi64 a2)), (8, (.osl 8))], [(8, (bk (.row 1 (r1.map (AV.int .i64)))))]⟩ (by kernel_rfl) (a_seq (sr (vp (eSi64 a1) rfl (vq (i6 (a1.length : Int)) (len_run rfl rfl) trivial (vp (eSi64 a2) rfl (vq (i6 (a2.length : Int)) (len_run rfl rfl) trivial (vp (.bool ((decide ((a1.length : Int) < (a2.length : Int))))) rfl ?_)))))))))
  refine nx ⟨[(0, (i6 a0)), (1, (eSi64 a1)), (2, (eSi64 a2)), (8, (.osl 8)), (21, (.bool ((decide ((a1.length : Int) < (a2.length : Int))))))], [(8, (bk (.row 1 (r1.map (AV.int .i64)))))]⟩ (by kernel_rfl) ?_
  cases hb3 : (decide ((a1.length : Int) < (a2.length : Int)))
  · have h := ite_f hb3 h
    refine a_cond_f rfl (a_skip (a_next (σ' := ⟨[(0, (i6 a0)), (1, (eSi64 a1)), (2, (eSi64 a2)), (8, (.osl 8))], [(8, (bk (.row 1 (r1.map (AV.int .i64)))))]⟩) (by kernel_rfl) (sr (vp (eSi64 a1) rfl (vq (i6 (a1.length : Int)) (len_run rfl rfl) trivial (vp (eSi64 a2) rfl (vq (i6 (a2.length : Int)) (len_run rfl rfl) trivial (vp (i6 (IntKind.i64.wrap ((a1.length : Int) - (a2.length : Int)))) rfl ?_))))))))
    obtain ⟨x4, hx5, h⟩ := letp_some h
    refine a_val' (v := (i6 (IntKind.i64.wrap ((IntKind.i64.wrap ((a1.length : Int) - (a2.length : Int))) + 1)))) (v' := (i6 x4)) (u := []) (u' := []) rfl (congrArg (fun z => ((i6 z) : AV)) hx5) rfl trivial rfl ?_
    obtain ⟨hc6, h⟩ := ifp_some h
    refine vu (.osl 3900) [(3900, (bk (.row 1 ((List.replicate x4.toNat (0 : Int)).map (AV.int .i64)))))] (mk_run (i := ⟨.int .i64, 1, 8, (.int .i64 0)⟩) (f := (AV.int .i64)) (y := (0 : Int)) rfl rfl rfl rfl rfl rfl) ⟨rfl, hc6.1, hc6.2.1, hc6.2.2, (Nat.le_of_ble_eq_true rfl)⟩ rfl (vp (.osl 3900) rfl (nx ⟨[(0, (i6 a0)), (2, (eSi64 a2)), (8, (.osl 8)), (9, (.osl 9))], [(8, (bk (.row 1 (r1.map (AV.int .i64))))), (9, (bk (.row 1 ((List.replicate x4.toNat (0 : Int)).map (AV.int .i64)))))]⟩ (by kernel_rfl) (sr (vp (i6 a0) rfl (vp (eSi64 a2) rfl ?_)))))
    obtain ⟨r7, hr8, h⟩ := bind_some h
    refine a_call (args := [(eSi64 a2)]) (u := []) (r := (i6 r7)) rfl rfl (impl_row_lead_ok a2 r7 hr8) rfl ?_
    obtain ⟨r9, hr10, h⟩ := bind_some h
    refine a_call (args := [(i6 a0), (i6 r7)]) (u := []) (r := (i6 r9)) rfl rfl (impl_prime_inverse_ok a0 r7 r9 hr10) rfl (vp (i6 r9) rfl (nx ⟨[(0, (i6 a0)), (2, (eSi64 a2)), (8, (.osl 8)), (9, (.osl 9)), (10, (i6 r9))], [(8, (bk (.row 1 (r1.map (AV.int .i64))))), (9, (bk (.row 1 ((List.replicate x4.toNat (0 : Int)).map (AV.int .i64)))))]⟩ (by kernel_rfl) ?_))
    obtain ⟨y352, hy353, hk354⟩ := bind_some h
    clear h
    refine a_join (emb := fun (s : ((List Int) × (List Int))) => ⟨[(8, (.osl 8)), (9, (.osl 9))], [(8, (bk (.row 1 (s.1.map (AV.int .i64))))), (9, (bk (.row 1 (s.2.map (AV.int .i64)))))]⟩) (pre := fun s => s = y352) ?_ ?_
    · rintro ⟨x350, x351⟩ rfl
      have h := hk354
      refine a_st (σ' := ⟨[(8, (.osl 8)), (9, (.osl 9))], [(8, (bk (.row 1 (x350.map (AV.int .i64))))), (9, (bk (.row 1 (x351.map (AV.int .i64)))))]⟩) (by kernel_rfl) (sr (vp (.osl 9) rfl ?_))
      obtain ⟨r694, hr695, h⟩ := bind_some h
      refine a_call (args := [(eSi64 x351)]) (u := [(9, (bf (.row 1 (x351.map (AV.int .i64)))))]) (r := (eSi64 r694)) rfl rfl (impl_row_trimmed_ok x351 r694 hr695) rfl (vp (.osl 8) rfl ?_)
      obtain ⟨r696, hr697, h⟩ := bind_some h
      refine a_call (args := [(eSi64 x350)]) (u := [(8, (bf (.row 1 (x350.map (AV.int .i64)))))]) (r := (eSi64 r696)) rfl rfl (impl_row_trimmed_ok x350 r696 hr697) rfl (vp (eSi64 r694) rfl (vp (eSi64 r696) rfl (nx _ rfl (a_ret ?_))))
      refine ⟨.inr rfl, ?_⟩
      rw [Try.results110]
      cases h
      exact ⟨_, _, _, _, _, rfl, trivial, .inl ⟨rfl, .inl rfl⟩, rfl, ⟨_, _, _, _, _, rfl, trivial, .inl ⟨rfl, .inl rfl⟩, rfl, rfl⟩⟩
    · have h := hy353
      refine sr (vp (.osl 9) rfl (vq (i6 (((List.replicate x4.toNat (0 : Int)).length : Int))) (leno_run rfl rfl rfl) trivial ?_))
      obtain ⟨x355, hx356, h⟩ := letp_some h
      refine a_val' (v := (i6 (IntKind.i64.wrap ((((List.replicate x4.toNat (0 : Int)).length : Int)) - 1)))) (v' := (i6 x355)) (u := []) (u' := []) rfl (congrArg (fun z => ((i6 z) : AV)) hx356) rfl trivial rfl (vp (i6 x355) rfl (nx ⟨[(0, (i6 a0)), (2, (eSi64 a2)), (8, (.osl 8)), (9, (.osl 9)), (10, (i6 r9)), (11, (i6 x355))], [(8, (bk (.row 1 (r1.map (AV.int .i64))))), (9, (bk (.row 1 ((List.replicate x4.toNat (0 : Int)).map (AV.int .i64)))))]⟩ (by kernel_rfl) (a_block ?_)))
      refine a_loop (emb := fun (s : (Int × (List Int) × (List Int))) => ⟨[(0, (i6 a0)), (2, (eSi64 a2)), (8, (.osl 8)), (9, (.osl 9)), (10, (i6 r9)), (11, (i6 s.1))], [(8, (bk (.row 1 (s.2.1.map (AV.int .i64))))), (9, (bk (.row 1 (s.2.2.map (AV.int .i64)))))]⟩) (body := (fun s : (Int × (List Int) × (List Int)) => impl_prime_divide_l1 a2 a0 r9 s.1 s.2.1 s.2.2)) (G := fun q => some q = some y352) h rfl ?_ (by kernel_rfl)
      rintro X580 ⟨x467, x468, x469⟩ x581 h hX582
      have h : impl_prime_divide_l1 a2 a0 r9 x467 x468 x469 = some x581 := h
      refine a_st (σ' := ⟨[(0, (i6 a0)), (2, (eSi64 a2)), (8, (.osl 8)), (9, (.osl 9)), (10, (i6 r9)), (11, (i6 x467))], [(8, (bk (.row 1 (x468.map (AV.int .i64))))), (9, (bk (.row 1 (x469.map (AV.int .i64)))))]⟩) (by kernel_rfl) (a_seq (sr (vp (i6 x467) rfl (vp (.bool ((decide (x467 ≥ 0)))) rfl (nx ⟨[(0, (i6 a0)), (2, (eSi64 a2)), (8, (.osl 8)), (9, (.osl 9)), (10, (i6 r9)), (11, (i6 x467)), (38, (.bool ((decide (x467 ≥ 0)))))], [(8, (bk (.row 1 (x468.map (AV.int .i64))))), (9, (bk (.row 1 (x469.map (AV.int .i64)))))]⟩ (by kernel_rfl) ?_)))))
      cases hb583 : (decide (x467 ≥ 0))
      · have h := ite_f hb583 h
        refine a_cond_f rfl (a_exit (t_exit ?_))
        cases h
        have h := hX582
        refine t_exit (b_exit ?_)
        exact j_leaf (x468, x469) (Option.some.inj h) (by kernel_rfl)
      · have h := ite_t hb583 h
        refine a_cond_t rfl (a_skip (a_next (σ' := ⟨[(0, (i6 a0)), (2, (eSi64 a2)), (8, (.osl 8)), (9, (.osl 9)), (10, (i6 r9)), (11, (i6 x467))], [(8, (bk (.row 1 (x468.map (AV.int .i64))))), (9, (bk (.row 1 (x469.map (AV.int .i64)))))]⟩) (by kernel_rfl) ?_))
        obtain ⟨y638, hy639, hk640⟩ := bind_some h
        clear h
        refine a_join (emb := fun (s : ((List Int) × (List Int))) => ⟨[(0, (i6 a0)), (2, (eSi64 a2)), (8, (.osl 8)), (9, (.osl 9)), (10, (i6 r9)), (11, (i6 x467))], [(8, (bk (.row 1 (s.1.map (AV.int .i64))))), (9, (bk (.row 1 (s.2.map (AV.int .i64)))))]⟩) (pre := fun s => s = y638) ?_ ?_
        · rintro ⟨x636, x637⟩ rfl
          have h := hk640
          refine a_st (σ' := ⟨[(0, (i6 a0)), (2, (eSi64 a2)), (8, (.osl 8)), (9, (.osl 9)), (10, (i6 r9)), (11, (i6 x467))], [(8, (bk (.row 1 (x636.map (AV.int .i64))))), (9, (bk (.row 1 (x637.map (AV.int .i64)))))]⟩) (by kernel_rfl) (a_region (vp (i6 x467) rfl (vp (i6 (IntKind.i64.wrap (x467 - 1))) rfl (vp (i6 (IntKind.i64.wrap (x467 - 1))) rfl (a_nil ?_)))))
          cases h
          exact a_again (by kernel_rfl) hX582
        · have h := hy639
          refine a_block (sr (vp (.osl 8) rfl (vp (i6 x467) rfl (vp (eSi64 a2) rfl (vq (i6 (a2.length : Int)) (len_run rfl rfl) trivial (vp (i6 (IntKind.i64.wrap (x467 + (a2.length : Int)))) rfl ?_))))))
          obtain ⟨x641, hx642, h⟩ := letp_some h
          refine a_val' (v := (i6 (IntKind.i64.wrap ((IntKind.i64.wrap (x467 + (a2.length : Int))) - 1)))) (v' := (i6 x641)) (u := []) (u' := []) rfl (congrArg (fun z => ((i6 z) : AV)) hx642) rfl trivial rfl ?_
          obtain ⟨hc643, h⟩ := ifp_some h
          refine vq (.own 8 [x641.toNat] [x641.toNat * 1]) rfl (lmap hc643) ?_
          have hl644 : LdOk [x641.toNat] (.row 1 (x468.map (AV.int .i64))) [x641.toNat * 1] 1 false (i6 (rd x468 x641.toNat)) := (.row (llt hc643) rfl (.nil rfl rfl rfl))
          refine vq (i6 (rd x468 x641.toNat)) (ld_own (i := ⟨.int .i64, 1, 8, (.int .i64 0)⟩) rfl rfl rfl hl644) hl644.c (vp (i6 r9) rfl (vp (i6 (IntKind.i64.wrap ((rd x468 x641.toNat) * r9))) rfl (vp (i6 a0) rfl ?_)))
          obtain ⟨hc645, h⟩ := ifp_some h
          refine vq (i6 (Int.tmod (IntKind.i64.wrap ((rd x468 x641.toNat) * r9)) a0)) rfl hc645 (vp (i6 (Int.tmod (IntKind.i64.wrap ((rd x468 x641.toNat) * r9)) a0)) rfl (nx ⟨[(0, (i6 a0)), (2, (eSi64 a2)), (8, (.osl 8)), (9, (.osl 9)), (10, (i6 r9)), (11, (i6 x467)), (12, (i6 (Int.tmod (IntKind.i64.wrap ((rd x468 x641.toNat) * r9)) a0)))], [(8, (bk (.row 1 (x468.map (AV.int .i64))))), (9, (bk (.row 1 (x469.map (AV.int .i64)))))]⟩ (by kernel_rfl) (sr (vp (.osl 9) rfl (vp (i6 x467) rfl (vp (i6 (Int.tmod (IntKind.i64.wrap ((rd x468 x641.toNat) * r9)) a0)) rfl ?_))))))
          obtain ⟨hc646, h⟩ := ifp_some h
          refine vq (.own 9 [x467.toNat] [x467.toNat * 1]) rfl (lmap hc646) ?_
          have hs647 : StOk [x467.toNat] (.row 1 (x469.map (AV.int .i64))) [x467.toNat * 1] 1 (i6 (Int.tmod (IntKind.i64.wrap ((rd x468 x641.toNat) * r9)) a0)) (.row 1 (((x469.set x467.toNat (Int.tmod (IntKind.i64.wrap ((rd x468 x641.toNat) * r9)) a0))).map (AV.int .i64))) := (.row (y := Int.tmod (IntKind.i64.wrap ((rd x468 x641.toNat) * r9)) a0) (llt hc646) rfl (.nil rfl rfl rfl rfl))
          refine vu .top [(9, (bk (.row 1 (((x469.set x467.toNat (Int.tmod (IntKind.i64.wrap ((rd x468 x641.toNat) * r9)) a0))).map (AV.int .i64)))))] (st_own (i := ⟨.int .i64, 1, 8, (.int .i64 0)⟩) rfl rfl (fun _ => rfl) rfl hs647) (hs647.c rfl) rfl (nx ⟨[(0, (i6 a0)), (2, (eSi64 a2)), (8, (.osl 8)), (9, (.osl 9)), (10, (i6 r9)), (11, (i6 x467)), (12, (i6 (Int.tmod (IntKind.i64.wrap ((rd x468 x641.toNat) * r9)) a0)))], [(8, (bk (.row 1 (x468.map (AV.int .i64))))), (9, (bk (.row 1 (((x469.set x467.toNat (Int.tmod (IntKind.i64.wrap ((rd x468 x641.toNat) * r9)) a0))).map (AV.int .i64)))))]⟩ (by kernel_rfl) (sr (vp (eSi64 a2) rfl (vq (i6 (a2.length : Int)) (len_run rfl rfl) trivial (vp (i6 0) rfl (nx ⟨[(0, (i6 a0)), (2, (eSi64 a2)), (8, (.osl 8)), (9, (.osl 9)), (10, (i6 r9)), (11, (i6 x467)), (12, (i6 (Int.tmod (IntKind.i64.wrap ((rd x468 x641.toNat) * r9)) a0))), (57, (eSi64 a2)), (58, (i6 (a2.length : Int))), (59, (i6 0))], [(8, (bk (.row 1 (x468.map (AV.int .i64))))), (9, (bk (.row 1 (((x469.set x467.toNat (Int.tmod (IntKind.i64.wrap ((rd x468 x641.toNat) * r9)) a0))).map (AV.int .i64)))))]⟩ (by kernel_rfl) (a_block ?_)))))))
          refine a_loop (emb := fun (s : (Int × (List Int))) => ⟨[(0, (i6 a0)), (2, (eSi64 a2)), (8, (.osl 8)), (9, (.osl 9)), (10, (i6 r9)), (11, (i6 x467)), (12, (i6 (Int.tmod (IntKind.i64.wrap ((rd x468 x641.toNat) * r9)) a0))), (57, (eSi64 a2)), (58, (i6 (a2.length : Int))), (59, (i6 s.1))], [(8, (bk (.row 1 (s.2.map (AV.int .i64))))), (9, (bk (.row 1 (((x469.set x467.toNat (Int.tmod (IntKind.i64.wrap ((rd x468 x641.toNat) * r9)) a0))).map (AV.int .i64)))))]⟩) (body := (fun s : (Int × (List Int)) => impl_prime_divide_l2 a2 x467 x468 x641 r9 a0 x469 s.1 s.2)) (G := fun q => some q = some y638) h rfl ?_ (by kernel_rfl)
          rintro X676 ⟨x661, x662⟩ x677 h hX678
          have h : impl_prime_divide_l2 a2 x467 x468 x641 r9 a0 x469 x661 x662 = some x677 := h
          refine a_st (σ' := ⟨[(0, (i6 a0)), (2, (eSi64 a2)), (8, (.osl 8)), (9, (.osl 9)), (10, (i6 r9)), (11, (i6 x467)), (12, (i6 (Int.tmod (IntKind.i64.wrap ((rd x468 x641.toNat) * r9)) a0))), (57, (eSi64 a2)), (58, (i6 (a2.length : Int))), (59, (i6 x661))], [(8, (bk (.row 1 (x662.map (AV.int .i64))))), (9, (bk (.row 1 (((x469.set x467.toNat (Int.tmod (IntKind.i64.wrap ((rd x468 x641.toNat) * r9)) a0))).map (AV.int .i64)))))]⟩) (by kernel_rfl) (sr (vp (.bool ((decide (x661 < (a2.length : Int))))) rfl (nx ⟨[(0, (i6 a0)), (2, (eSi64 a2)), (8, (.osl 8)), (9, (.osl 9)), (10, (i6 r9)), (11, (i6 x467)), (12, (i6 (Int.tmod (IntKind.i64.wrap ((rd x468 x641.toNat) * r9)) a0))), (57, (eSi64 a2)), (58, (i6 (a2.length : Int))), (59, (i6 x661)), (60, (.bool ((decide (x661 < (a2.length : Int))))))], [(8, (bk (.row 1 (x662.map (AV.int .i64))))), (9, (bk (.row 1 (((x469.set x467.toNat (Int.tmod (IntKind.i64.wrap ((rd x468 x641.toNat) * r9)) a0))).map (AV.int .i64)))))]⟩ (by kernel_rfl) (a_seq ?_))))
          cases hb679 : (decide (x661 < (a2.length : Int)))
          · have h := ite_f hb679 h
            refine a_cond_f rfl (a_exit (t_exit ?_))
            cases h
            have h := hX678
            refine t_exit (b_exit (b_norm ?_))
            exact j_leaf ((x662, (x469.set x467.toNat (Int.tmod (IntKind.i64.wrap ((rd x468 x641.toNat) * r9)) a0)))) (Option.some.inj h) (by kernel_rfl)
          · have h := ite_t hb679 h
            refine a_cond_t rfl (a_skip (a_next (σ' := ⟨[(0, (i6 a0)), (2, (eSi64 a2)), (8, (.osl 8)), (9, (.osl 9)), (10, (i6 r9)), (11, (i6 x467)), (12, (i6 (Int.tmod (IntKind.i64.wrap ((rd x468 x641.toNat) * r9)) a0))), (57, (eSi64 a2)), (58, (i6 (a2.length : Int))), (59, (i6 x661))], [(8, (bk (.row 1 (x662.map (AV.int .i64))))), (9, (bk (.row 1 (((x469.set x467.toNat (Int.tmod (IntKind.i64.wrap ((rd x468 x641.toNat) * r9)) a0))).map (AV.int .i64)))))]⟩) (by kernel_rfl) (a_seq (a_block (sr (vp (i6 x661) rfl ?_))))))
            obtain ⟨hc680, h⟩ := ifp_some h
            refine vq (.ref (.row 1 (a2.map (AV.int .i64))) [x661.toNat] [x661.toNat * 1]) rfl (lmap hc680) ?_
            have hl681 : LdOk [x661.toNat] (.row 1 (a2.map (AV.int .i64))) [x661.toNat * 1] 1 false (i6 (rd a2 x661.toNat)) := (.row (llt hc680) rfl (.nil rfl rfl rfl))
            refine vq (i6 (rd a2 x661.toNat)) (ld_ref (i := ⟨.int .i64, 1, 8, (.int .i64 0)⟩) rfl rfl hl681) hl681.c (vp (i6 x661) rfl (vp (i6 (rd a2 x661.toNat)) rfl (nx ⟨[(0, (i6 a0)), (2, (eSi64 a2)), (8, (.osl 8)), (9, (.osl 9)), (10, (i6 r9)), (11, (i6 x467)), (12, (i6 (Int.tmod (IntKind.i64.wrap ((rd x468 x641.toNat) * r9)) a0))), (13, (i6 x661)), (14, (i6 (rd a2 x661.toNat))), (57, (eSi64 a2)), (58, (i6 (a2.length : Int))), (59, (i6 x661))], [(8, (bk (.row 1 (x662.map (AV.int .i64))))), (9, (bk (.row 1 (((x469.set x467.toNat (Int.tmod (IntKind.i64.wrap ((rd x468 x641.toNat) * r9)) a0))).map (AV.int .i64)))))]⟩ (by kernel_rfl) (a_region (vp (.osl 8) rfl (vp (i6 x467) rfl (vp (i6 x661) rfl (vp (i6 (IntKind.i64.wrap (x467 + x661))) rfl (vp (i6 a0) rfl ?_)))))))))
            refine vp (.osl 8) rfl (vp (i6 x467) rfl (vp (i6 x661) rfl (vp (i6 (IntKind.i64.wrap (x467 + x661))) rfl ?_)))
            obtain ⟨hc682, h⟩ := ifp_some h
            refine vq (.own 8 [(IntKind.i64.wrap (x467 + x661)).toNat] [(IntKind.i64.wrap (x467 + x661)).toNat * 1]) rfl (lmap hc682) ?_
            have hl683 : LdOk [(IntKind.i64.wrap (x467 + x661)).toNat] (.row 1 (x662.map (AV.int .i64))) [(IntKind.i64.wrap (x467 + x661)).toNat * 1] 1 false (i6 ((rd x662 (IntKind.i64.wrap (x467 + x661)).toNat))) := (.row (llt hc682) rfl (.nil rfl rfl rfl))
            refine vq (i6 ((rd x662 (IntKind.i64.wrap (x467 + x661)).toNat))) (ld_own (i := ⟨.int .i64, 1, 8, (.int .i64 0)⟩) rfl rfl rfl hl683) hl683.c (vp (i6 (Int.tmod (IntKind.i64.wrap ((rd x468 x641.toNat) * r9)) a0)) rfl (vp (i6 (rd a2 x661.toNat)) rfl ?_))
            obtain ⟨x684, hx685, h⟩ := letp_some h
            refine a_val' (v := (i6 (IntKind.i64.wrap ((Int.tmod (IntKind.i64.wrap ((rd x468 x641.toNat) * r9)) a0) * (rd a2 x661.toNat))))) (v' := (i6 x684)) (u := []) (u' := []) rfl (congrArg (fun z => ((i6 z) : AV)) hx685) rfl trivial rfl ?_
            obtain ⟨x686, hx687, h⟩ := letp_some h
            refine a_val' (v := (i6 (IntKind.i64.wrap (((rd x662 (IntKind.i64.wrap (x467 + x661)).toNat)) - x684)))) (v' := (i6 x686)) (u := []) (u' := []) rfl (congrArg (fun z => ((i6 z) : AV)) hx687) rfl trivial rfl ?_
            obtain ⟨r688, hr689, h⟩ := bind_some h
            refine a_call (args := [(i6 a0), (i6 x686)]) (u := []) (r := (i6 r688)) rfl rfl (impl_prime_reduce_ok a0 x686 r688 hr689) rfl ?_
            obtain ⟨hc690, h⟩ := ifp_some h
            refine vq (.own 8 [(IntKind.i64.wrap (x467 + x661)).toNat] [(IntKind.i64.wrap (x467 + x661)).toNat * 1]) rfl (lmap hc690) ?_
            have hs691 : StOk [(IntKind.i64.wrap (x467 + x661)).toNat] (.row 1 (x662.map (AV.int .i64))) [(IntKind.i64.wrap (x467 + x661)).toNat * 1] 1 (i6 r688) (.row 1 (((x662.set (IntKind.i64.wrap (x467 + x661)).toNat r688)).map (AV.int .i64))) := (.row (y := r688) (llt hc690) rfl (.nil rfl rfl rfl rfl))
            refine vu .top [(8, (bk (.row 1 (((x662.set (IntKind.i64.wrap (x467 + x661)).toNat r688)).map (AV.int .i64)))))] (st_own (i := ⟨.int .i64, 1, 8, (.int .i64 0)⟩) rfl rfl (fun _ => rfl) rfl hs691) (hs691.c rfl) rfl (a_nil (b_norm (a_next (σ' := ⟨[(0, (i6 a0)), (2, (eSi64 a2)), (8, (.osl 8)), (9, (.osl 9)), (10, (i6 r9)), (11, (i6 x467)), (12, (i6 (Int.tmod (IntKind.i64.wrap ((rd x468 x641.toNat) * r9)) a0))), (57, (eSi64 a2)), (58, (i6 (a2.length : Int))), (59, (i6 x661))], [(8, (bk (.row 1 (((x662.set (IntKind.i64.wrap (x467 + x661)).toNat r688)).map (AV.int .i64))))), (9, (bk (.row 1 (((x469.set x467.toNat (Int.tmod (IntKind.i64.wrap ((rd x468 x641.toNat) * r9)) a0))).map (AV.int .i64)))))]⟩) (by kernel_rfl) (a_region (vp (i6 (IntKind.i64.wrap (x661 + 1))) rfl (vp (i6 (IntKind.i64.wrap (x661 + 1))) rfl (a_nil ?_)))))))
            cases h
            exact a_again (by kernel_rfl) hX678
  · have h := ite_t hb3 h
    refine a_cond_t rfl (sr (vp (.osl 8) rfl (vp (eSi64 ([])) rfl (vu (eSi64 r1) [(8, (bf (.row 1 (r1.map (AV.int .i64)))))] rfl trivial rfl (nx _ rfl (a_ret (t_ret ?_)))))))
    refine ⟨.inr rfl, ?_⟩
    rw [Try.results110]
    cases h
    exact ⟨_, _, _, _, _, rfl, trivial, .inl ⟨rfl, .inl rfl⟩, rfl, ⟨_, _, _, _, _, rfl, trivial, .inl ⟨rfl, .inl rfl⟩, rfl, rfl⟩⟩
def impl_prime_partials_c : ACode := (.seq (.region 0 [q 6 (.asg 1 (.const (.slice none 0 0)) 108)] false) (.seq (.region 1 [q 7 (.asg 2 (.const (.slice none 0 0)) 108)] false) (.seq (.block 0 (.loop (.seq (.seq (.region 2 [q 10 (.mov (t 2)), q 11 (.blt 0 .len [(t 10)] [80]), q 12 (.bin .gtr 3 (t 11) (.const (.int .i64 0)))] false) (.cond (t 12) .skip (.exit 0))) (.block 1 (.seq (.region 3 [q 14 (.mov (t 0)), q 15 (.mov (t 1)), q 16 (.mov (t 2)), q 17 (.call 0 (.func 110) [(t 14), (t 15), (t 16)]), q 13 (.mov (t 17)), q 18 (.extract (t 13) 0), q 19 (.extract (t 13) 1), q 8 (.asg 1 (t 18) 80), q 9 (.asg 1 (t 19) 80)] false) (.seq (.region 4 [q 20 (.mov (t 7)), q 21 (.mov (t 8)), q 22 (.bslice 0 108 1 [(0, (t 21))]), q 23 (.blt 0 .append [(t 20), (t 22)] [108, 108]), q 7 (.asg 2 (t 23) 108)] false) (.region 5 [q 24 (.mov (t 2)), q 25 (.mov (t 9)), q 1 (.asg 1 (t 24) 80), q 2 (.asg 1 (t 25) 80)] false))))))) (.seq (.region 6 [q 26 (.mov (t 7)), q 6 (.asg 1 (t 26) 108)] false) .ret))))
def impl_prime_partials_L : Live := [(0, [0, 1, 2]), (1, [0, 1, 2]), (2, [0, 1, 2, 7]), (3, [0, 1, 2, 7]), (4, [0, 2, 7, 8, 9]), (5, [0, 2, 7, 9]), (6, [7]), (100012, [0, 1, 2, 7, 12])]
noncomputable def impl_prime_partials_l1 (a0 : Int) (x28 : (List Int)) (x29 : (List Int)) (x30 : (List (List Int))) : Option (((List Int) × (List Int) × (List (List Int))) ⊕ (List (List Int))) :=
  (if (decide ((x29.length : Int) > 0)) then (Option.bind (impl_prime_divide a0 x28 x29) fun r39 => (ifp ((x30.length + ([r39.1] : List (List Int)).length) * 24 ≤ 140737488355328) ((some (.inl ((x29, r39.2, (x30 ++ ([r39.1]))))))))) else (some (.inr x30)))
noncomputable def impl_prime_partials (a0 : Int) (a1 : (List Int)) (a2 : (List Int)) : Option (List (List Int)) :=
  (Option.bind (α := (List (List Int))) ((loopM (fun s : ((List Int) × (List Int) × (List (List Int))) => impl_prime_partials_l1 a0 s.1 s.2.1 s.2.2) (a1, a2, []))) fun x20 => (some x20))
theorem impl_prime_partials_ok (a0 : Int) (a1 : (List Int)) (a2 : (List Int)) (r : (List (List Int))) (h : impl_prime_partials a0 a1 a2 = some r) : Den Try.prog 152 [(i6 a0), (eSi64 a1), (eSi64 a2)] { r := (eSSi64 r) } := by
  refine den_of (rs := [(eSSi64 r)]) (ac := impl_prime_partials_c) (L := impl_prime_partials_L) (n := 27) (m := [(1, 1), (2, 1), (6, 1), (7, 2), (8, 1), (9, 1)]) (c := Try.f152.body.getD .skip) good Try.func152 (by kernel_rfl) (by kernel_rfl) Try.ntmps152 rfl rfl (by kernel_rfl) rfl rfl ?_
  refine a_st (σ' := ⟨[(0, (i6 a0)), (1, (eSi64 a1)), (2, (eSi64 a2))], []⟩) (by kernel_rfl) ?_
  unfold impl_prime_partials_c
  refine sr (vp (eSSi64 ([])) rfl (nx ⟨[(0, (i6 a0)), (1, (eSi64 a1)), (2, (eSi64 a2))], []⟩ (by kernel_rfl) (sr (vu (.osl 1700) [(1700, (bk (.row 1 (([]).map eSi64))))] rfl trivial rfl (nx ⟨[(0, (i6 a0)), (1, (eSi64 a1)), (2, (eSi64 a2)), (7, (.osl 7))], [(7, (bk (.row 1 (([]).map eSi64))))]⟩ (by kernel_rfl) ?_)))))
  obtain ⟨y21, hy22, hk23⟩ := bind_some h
  clear h
  refine a_join (emb := fun (s : (List (List Int))) => ⟨[(7, (.osl 7))], [(7, (bk (.row 1 (s.map eSi64))))]⟩) (pre := fun s => s = y21) ?_ ?_
  · rintro x20 rfl
    have h := hk23
    refine a_st (σ' := ⟨[(7, (.osl 7))], [(7, (bk (.row 1 (x20.map eSi64))))]⟩) (by kernel_rfl) (sr (vp (.osl 7) rfl (vu (eSSi64 x20) [(7, (bf (.row 1 (x20.map eSi64))))] rfl trivial rfl (nx _ rfl (a_ret ?_)))))
    refine ⟨.inr rfl, ?_⟩
    rw [Try.results152]
    cases h
    exact ⟨_, _, _, _, _, rfl, trivial, .inl ⟨rfl, .inl rfl⟩, rfl, rfl⟩
  · have h := hy22
    refine a_block ?_
    refine a_loop (emb := fun (s : ((List Int) × (List Int) × (List (List Int)))) => ⟨[(0, (i6 a0)), (1, (eSi64 s.1)), (2, (eSi64 s.2.1)), (7, (.osl 7))], [(7, (bk (.row 1 (s.2.2.map eSi64))))]⟩) (body := (fun s : ((List Int) × (List Int) × (List (List Int))) => impl_prime_partials_l1 a0 s.1 s.2.1 s.2.2)) (G := fun q => some q = some y21) h rfl ?_ (by kernel_rfl)
    rintro X35 ⟨x28, x29, x30⟩ x36 h hX37
    have h : impl_prime_partials_l1 a0 x28 x29 x30 = some x36 := h
    refine a_st (σ' := ⟨[(0, (i6 a0)), (1, (eSi64 x28)), (2, (eSi64 x29)), (7, (.osl 7))], [(7, (bk (.row 1 (x30.map eSi64))))]⟩) (by kernel_rfl) (a_seq (sr (vp (eSi64 x29) rfl (vq (i6 (x29.length : Int)) (len_run rfl rfl) trivial (vp (.bool ((decide ((x29.length : Int) > 0)))) rfl (nx ⟨[(0, (i6 a0)), (1, (eSi64 x28)), (2, (eSi64 x29)), (7, (.osl 7)), (12, (.bool ((decide ((x29.length : Int) > 0)))))], [(7, (bk (.row 1 (x30.map eSi64))))]⟩ (by kernel_rfl) ?_))))))
    cases hb38 : (decide ((x29.length : Int) > 0))
    · have h := ite_f hb38 h
      refine a_cond_f rfl (a_exit (t_exit ?_))
      cases h
      have h := hX37
      refine t_exit (b_exit ?_)
      exact j_leaf x30 (Option.some.inj h) (by kernel_rfl)
    · have h := ite_t hb38 h
      refine a_cond_t rfl (a_skip (a_next (σ' := ⟨[(0, (i6 a0)), (1, (eSi64 x28)), (2, (eSi64 x29)), (7, (.osl 7))], [(7, (bk (.row 1 (x30.map eSi64))))]⟩) (by kernel_rfl) (a_block (sr (vp (i6 a0) rfl (vp (eSi64 x28) rfl (vp (eSi64 x29) rfl ?_)))))))
      obtain ⟨r39, hr40, h⟩ := bind_some h
      refine a_call (args := [(i6 a0), (eSi64 x28), (eSi64 x29)]) (u := []) (r := (.tuple [(eSi64 r39.1), (eSi64 r39.2)])) rfl rfl (impl_prime_divide_ok a0 x28 x29 r39 hr40) rfl (vp (.tuple [(eSi64 r39.1), (eSi64 r39.2)]) rfl (vb (eSi64 r39.1) rfl rfl (vb (eSi64 r39.2) rfl rfl (vp (eSi64 r39.1) rfl (vp (eSi64 r39.2) rfl (nx ⟨[(0, (i6 a0)), (2, (eSi64 x29)), (7, (.osl 7)), (8, (eSi64 r39.1)), (9, (eSi64 r39.2))], [(7, (bk (.row 1 (x30.map eSi64))))]⟩ (by kernel_rfl) (sr (vp (.osl 7) rfl (vp (eSi64 r39.1) rfl ?_)))))))))
      refine vq (.sl 1 true (([r39.1]).map eSi64)) rfl ⟨(Nat.le_of_ble_eq_true rfl), (Nat.le_of_ble_eq_true rfl), (all_cons ⟨(Nat.le_of_ble_eq_true rfl), rfl⟩ all_nil)⟩ ?_
      obtain ⟨hc41, h⟩ := ifp_some h
      refine vu (.osl 3300) [(3300, (bk (.row 1 (((x30 ++ ([r39.1]))).map eSi64)))), (7, none)] (app_run (i := ⟨.slice 2, 1, 24, (eSi64 [])⟩) (f := eSi64) (l := x30) (l2 := [r39.1]) rfl rfl rfl rfl (fun _ => rfl) rfl rfl) (app_c (f := eSi64) (s := 1) (sz := 1) (by' := 24) (u := []) (id := 7) hc41 (.inr rfl) rfl rfl rfl) rfl (vp (.osl 3300) rfl (nx ⟨[(0, (i6 a0)), (2, (eSi64 x29)), (7, (.osl 7)), (9, (eSi64 r39.2))], [(7, (bk (.row 1 (((x30 ++ ([r39.1]))).map eSi64))))]⟩ (by kernel_rfl) (a_region (vp (eSi64 x29) rfl (vp (eSi64 r39.2) rfl (vp (eSi64 x29) rfl (vp (eSi64 r39.2) rfl (a_nil (b_norm ?_)))))))))
      cases h
      exact a_again (by kernel_rfl) hX37
def impl_row_poly_c : ACode := (.seq (.region 0 [q 2 (.alloc 25)] false) (.seq (.region 1 [q 3 (.alloc 25)] false) (.seq (.seq (.region 2 [q 6 (.mov (t 0)), q 7 (.blt 0 .len [(t 6)] [80]), q 8 (.mov (.const (.int .i64 0)))] false) (.block 0 (.loop (.seq (.region 3 [q 9 (.bin .lss 3 (t 8) (t 7))] false) (.seq (.cond (t 9) .skip (.exit 0)) (.seq (.block 1 (.seq (.region 4 [q 10 (.mov (t 8)), q 11 (.indexAddr 80 (t 6) (t 8)), q 12 (.load 2 (t 11)), q 4 (.asg 0 (t 10) 3), q 5 (.asg 0 (t 12) 2)] false) (.region 5 [q 13 (.mov (t 4)), q 14 (.mov (t 5)), q 15 (.conv 2 5 (t 14)), q 16 (.indexAddr 25 (t 3) (t 13)), ⟨none, .store 5 (t 16) (t 15), none, []⟩] false))) (.region 6 [q 17 (.bin .add 3 (t 8) (.const (.int .i64 1))), q 8 (.mov (t 17))] false))))))) (.seq (.region 7 [q 18 (.load 25 (t 3)), ⟨none, .store 25 (t 2) (t 18), none, []⟩] false) .ret))))
def impl_row_poly_L : Live := [(0, [0]), (1, [0, 2]), (2, [0, 2, 3]), (3, [2, 3, 6, 7, 8]), (4, [2, 3, 6, 7, 8]), (5, [2, 3, 4, 5, 6, 7, 8]), (6, [2, 3, 6, 7, 8]), (7, [2, 3]), (100009, [2, 3, 6, 7, 8, 9])]
noncomputable def impl_row_poly_l1 (a0 : (List Int)) (x31 : Int) (x32 : (Vec Int 64)) : Option ((Int × (Vec Int 64)) ⊕ (Vec Int 64)) :=
  (if (decide (x31 < (a0.length : Int))) then (ifp (0 ≤ x31 ∧ x31 < ((a0.length : Nat) : Int)) ((ifp (0 ≤ x31 ∧ x31 < ((64 : Nat) : Int)) ((some (.inl ((IntKind.i64.wrap (x31 + 1), (vset x32 x31.toNat (IntKind.u8.wrap (rd a0 x31.toNat))))))))))) else (some (.inr x32)))
noncomputable def impl_row_poly (a0 : (List Int)) : Option (Vec Int 64) :=
  (Option.bind (α := (Vec Int 64)) ((loopM (fun s : (Int × (Vec Int 64)) => impl_row_poly_l1 a0 s.1 s.2) (0, (vrep 64 (0 : Int))))) fun x22 => (some x22))
theorem impl_row_poly_ok (a0 : (List Int)) (r : (Vec Int 64)) (h : impl_row_poly a0 = some r) : Den Try.prog 111 [(eSi64 a0)] { r := (eA64u8 r) } := by
  refine den_of (rs := [(eA64u8 r)]) (ac := impl_row_poly_c) (L := impl_row_poly_L) (n := 19) (m := []) (c := Try.f111.body.getD .skip) good Try.func111 (by kernel_rfl) (by kernel_rfl) Try.ntmps111 rfl rfl (by kernel_rfl) rfl rfl ?_
  refine a_st (σ' := ⟨[(0, (eSi64 a0))], []⟩) (by kernel_rfl) ?_
  unfold impl_row_poly_c
  refine sr (vo 1200 (eA64u8 ((vrep 64 (0 : Int)))) rfl rfl (nx ⟨[(0, (eSi64 a0)), (2, (ow 2))], [(2, (bk (eA64u8 ((vrep 64 (0 : Int))))))]⟩ (by kernel_rfl) (sr (vo 1300 (eA64u8 ((vrep 64 (0 : Int)))) rfl rfl (nx ⟨[(0, (eSi64 a0)), (2, (ow 2)), (3, (ow 3))], [(2, (bk (eA64u8 ((vrep 64 (0 : Int)))))), (3, (bk (eA64u8 ((vrep 64 (0 : Int))))))]⟩ (by kernel_rfl) ?_)))))
  obtain ⟨y23, hy24, hk25⟩ := bind_some h
  clear h
  refine a_join (emb := fun (s : (Vec Int 64)) => ⟨[(2, (ow 2)), (3, (ow 3))], [(2, (bk (eA64u8 ((vrep 64 (0 : Int)))))), (3, (bk (eA64u8 s)))]⟩) (pre := fun s => s = y23) ?_ ?_
  · rintro x22 rfl
    have h := hk25
    refine a_st (σ' := ⟨[(2, (ow 2)), (3, (ow 3))], [(2, (bk (eA64u8 ((vrep 64 (0 : Int)))))), (3, (bk (eA64u8 x22)))]⟩) (by kernel_rfl) (sr (vl (eA64u8 x22) rfl rfl rfl rfl rfl rfl (vs (eA64u8 x22) rfl rfl (fun _ => rfl) rfl rfl rfl rfl rfl rfl (nx _ rfl (a_ret ?_)))))
    have hl49 : LdOk [] (eA64u8 x22) [] 64 true (eA64u8 x22) := (.nil rfl rfl rfl)
    refine ⟨.inr rfl, ?_⟩
    rw [Try.results111]
    cases h
    exact ⟨_, _, _, _, _, ld_own (i := ⟨.arr 64 5, 64, 64, (eA64u8 (vrep 64 (0 : Int)))⟩) rfl rfl rfl hl49, hl49.c, .inl ⟨rfl, .inl rfl⟩, rfl, rfl⟩
  · have h := hy24
    refine sr (vp (eSi64 a0) rfl (vq (i6 (a0.length : Int)) (len_run rfl rfl) trivial (vp (i6 0) rfl (nx ⟨[(2, (ow 2)), (3, (ow 3)), (6, (eSi64 a0)), (7, (i6 (a0.length : Int))), (8, (i6 0))], [(2, (bk (eA64u8 ((vrep 64 (0 : Int)))))), (3, (bk (eA64u8 ((vrep 64 (0 : Int))))))]⟩ (by kernel_rfl) (a_block ?_)))))
    refine a_loop (emb := fun (s : (Int × (Vec Int 64))) => ⟨[(2, (ow 2)), (3, (ow 3)), (6, (eSi64 a0)), (7, (i6 (a0.length : Int))), (8, (i6 s.1))], [(2, (bk (eA64u8 ((vrep 64 (0 : Int)))))), (3, (bk (eA64u8 s.2)))]⟩) (body := (fun s : (Int × (Vec Int 64)) => impl_row_poly_l1 a0 s.1 s.2)) (G := fun q => some q = some y23) h rfl ?_ (by kernel_rfl)
    rintro X38 ⟨x31, x32⟩ x39 h hX40
    have h : impl_row_poly_l1 a0 x31 x32 = some x39 := h
    refine a_st (σ' := ⟨[(2, (ow 2)), (3, (ow 3)), (6, (eSi64 a0)), (7, (i6 (a0.length : Int))), (8, (i6 x31))], [(2, (bk (eA64u8 ((vrep 64 (0 : Int)))))), (3, (bk (eA64u8 x32)))]⟩) (by kernel_rfl) (sr (vp (.bool ((decide (x31 < (a0.length : Int))))) rfl (nx ⟨[(2, (ow 2)), (3, (ow 3)), (6, (eSi64 a0)), (7, (i6 (a0.length : Int))), (8, (i6 x31)), (9, (.bool ((decide (x31 < (a0.length : Int))))))], [(2, (bk (eA64u8 ((vrep 64 (0 : Int)))))), (3, (bk (eA64u8 x32)))]⟩ (by kernel_rfl) (a_seq ?_))))
    cases hb41 : (decide (x31 < (a0.length : Int)))
    · have h := ite_f hb41 h
      refine a_cond_f rfl (a_exit (t_exit ?_))
      cases h
      have h := hX40
      refine t_exit (b_exit ?_)
      exact j_leaf x32 (Option.some.inj h) (by kernel_rfl)
    · have h := ite_t hb41 h
      refine a_cond_t rfl (a_skip (a_next (σ' := ⟨[(2, (ow 2)), (3, (ow 3)), (6, (eSi64 a0)), (7, (i6 (a0.length : Int))), (8, (i6 x31))], [(2, (bk (eA64u8 ((vrep 64 (0 : Int)))))), (3, (bk (eA64u8 x32)))]⟩) (by kernel_rfl) (a_seq (a_block (sr (vp (i6 x31) rfl ?_))))))
      obtain ⟨hc42, h⟩ := ifp_some h
      refine vq (.ref (.row 1 (a0.map (AV.int .i64))) [x31.toNat] [x31.toNat * 1]) rfl (lmap hc42) ?_
      have hl43 : LdOk [x31.toNat] (.row 1 (a0.map (AV.int .i64))) [x31.toNat * 1] 1 false (i6 (rd a0 x31.toNat)) := (.row (llt hc42) rfl (.nil rfl rfl rfl))
      refine vq (i6 (rd a0 x31.toNat)) (ld_ref (i := ⟨.int .i64, 1, 8, (.int .i64 0)⟩) rfl rfl hl43) hl43.c (vp (i6 x31) rfl (vp (i6 (rd a0 x31.toNat)) rfl (nx ⟨[(2, (ow 2)), (3, (ow 3)), (4, (i6 x31)), (5, (i6 (rd a0 x31.toNat))), (6, (eSi64 a0)), (7, (i6 (a0.length : Int))), (8, (i6 x31))], [(2, (bk (eA64u8 ((vrep 64 (0 : Int)))))), (3, (bk (eA64u8 x32)))]⟩ (by kernel_rfl) (a_region (vp (i6 x31) rfl (vp (i6 (rd a0 x31.toNat)) rfl (vp (b8 (IntKind.u8.wrap (rd a0 x31.toNat))) rfl ?_)))))))
      obtain ⟨hc44, h⟩ := ifp_some h
      refine vq (.own 3 [x31.toNat] [x31.toNat * 1]) rfl hc44 ?_
      have hs45 : StOk [x31.toNat] (eA64u8 x32) [x31.toNat * 1] 1 (b8 (IntKind.u8.wrap (rd a0 x31.toNat))) (eA64u8 ((vset x32 x31.toNat (IntKind.u8.wrap (rd a0 x31.toNat))))) := (.arr (y := IntKind.u8.wrap (rd a0 x31.toNat)) (vlt x32 hc44) rfl (.nil rfl rfl rfl rfl))
      refine vu .top [(3, (bk (eA64u8 ((vset x32 x31.toNat (IntKind.u8.wrap (rd a0 x31.toNat)))))))] (st_own (i := ⟨.int .u8, 1, 1, (.int .u8 0)⟩) rfl rfl (fun _ => rfl) rfl hs45) (hs45.c rfl) rfl (a_nil (b_norm (a_next (σ' := ⟨[(2, (ow 2)), (3, (ow 3)), (6, (eSi64 a0)), (7, (i6 (a0.length : Int))), (8, (i6 x31))], [(2, (bk (eA64u8 ((vrep 64 (0 : Int)))))), (3, (bk (eA64u8 ((vset x32 x31.toNat (IntKind.u8.wrap (rd a0 x31.toNat)))))))]⟩) (by kernel_rfl) (a_region (vp (i6 (IntKind.i64.wrap (x31 + 1))) rfl (vp (i6 (IntKind.i64.wrap (x31 + 1))) rfl (a_nil ?_)))))))
      cases h
      exact a_again (by kernel_rfl) hX40
def impl_polys_c : ACode := (.seq (.region 0 [q 2 (.asg 1 (.const (.slice none 0 0)) 55)] false) (.seq (.region 1 [q 3 (.asg 2 (.const (.slice none 0 0)) 55)] false) (.seq (.seq (.region 2 [q 6 (.mov (t 0)), q 7 (.blt 0 .len [(t 6)] [108]), q 8 (.mov (.const (.int .i64 0)))] false) (.block 0 (.loop (.seq (.region 3 [q 9 (.bin .lss 3 (t 8) (t 7))] false) (.seq (.cond (t 9) .skip (.exit 0)) (.seq (.block 1 (.seq (.region 4 [q 10 (.indexAddr 108 (t 6) (t 8)), q 11 (.load 80 (t 10)), q 5 (.asg 1 (t 11) 80)] false) (.region 5 [q 12 (.mov (t 3)), q 13 (.mov (t 5)), q 14 (.call 0 (.func 111) [(t 13)]), q 15 (.bslice 0 55 1 [(0, (t 14))]), q 16 (.blt 0 .append [(t 12), (t 15)] [55, 55]), q 3 (.asg 2 (t 16) 55)] false))) (.region 6 [q 17 (.bin .add 3 (t 8) (.const (.int .i64 1))), q 8 (.mov (t 17))] false))))))) (.seq (.region 7 [q 18 (.mov (t 3)), q 2 (.asg 1 (t 18) 55)] false) .ret))))
def impl_polys_L : Live := [(0, [0]), (1, [0]), (2, [0, 3]), (3, [3, 6, 7, 8]), (4, [3, 6, 7, 8]), (5, [3, 5, 6, 7, 8]), (6, [3, 6, 7, 8]), (7, [3]), (100009, [3, 6, 7, 8, 9])]
noncomputable def impl_polys_l1 (a0 : (List (List Int))) (x35 : Int) (x36 : (List (Vec Int 64))) : Option ((Int × (List (Vec Int 64))) ⊕ (List (Vec Int 64))) :=
  (if (decide (x35 < (a0.length : Int))) then (ifp (0 ≤ x35 ∧ x35 < ((a0.length : Nat) : Int)) ((Option.bind (impl_row_poly (rd a0 x35.toNat)) fun r49 => (ifp ((x36.length + ([r49] : List (Vec Int 64)).length) * 64 ≤ 140737488355328) ((some (.inl ((IntKind.i64.wrap (x35 + 1), (x36 ++ ([r49]))))))))))) else (some (.inr x36)))
noncomputable def impl_polys (a0 : (List (List Int))) : Option (List (Vec Int 64)) :=
  (Option.bind (α := (List (Vec Int 64))) ((loopM (fun s : (Int × (List (Vec Int 64))) => impl_polys_l1 a0 s.1 s.2) (0, []))) fun x25 => (some x25))
theorem impl_polys_ok (a0 : (List (List Int))) (r : (List (Vec Int 64))) (h : impl_polys a0 = some r) : Den Try.prog 151 [(eSSi64 a0)] { r := (eSA64u8 r) } := by
  refine den_of (rs := [(eSA64u8 r)]) (ac := impl_polys_c) (L := impl_polys_L) (n := 19) (m := [(2, 1), (3, 2), (5, 1)]) (c := Try.f151.body.getD .skip) good Try.func151 (by kernel_rfl) (by kernel_rfl) Try.ntmps151 rfl rfl (by kernel_rfl) rfl rfl ?_
  refine a_st (σ' := ⟨[(0, (eSSi64 a0))], []⟩) (by kernel_rfl) ?_
  unfold impl_polys_c
  refine sr (vp (eSA64u8 ([])) rfl (nx ⟨[(0, (eSSi64 a0))], []⟩ (by kernel_rfl) (sr (vu (.osl 1300) [(1300, (bk (.row 64 (([]).map eA64u8))))] rfl trivial rfl (nx ⟨[(0, (eSSi64 a0)), (3, (.osl 3))], [(3, (bk (.row 64 (([]).map eA64u8))))]⟩ (by kernel_rfl) ?_)))))
  obtain ⟨y26, hy27, hk28⟩ := bind_some h
  clear h
  refine a_join (emb := fun (s : (List (Vec Int 64))) => ⟨[(3, (.osl 3))], [(3, (bk (.row 64 (s.map eA64u8))))]⟩) (pre := fun s => s = y26) ?_ ?_
  · rintro x25 rfl
    have h := hk28
    refine a_st (σ' := ⟨[(3, (.osl 3))], [(3, (bk (.row 64 (x25.map eA64u8))))]⟩) (by kernel_rfl) (sr (vp (.osl 3) rfl (vu (eSA64u8 x25) [(3, (bf (.row 64 (x25.map eA64u8))))] rfl trivial rfl (nx _ rfl (a_ret ?_)))))
    refine ⟨.inr rfl, ?_⟩
    rw [Try.results151]
    cases h
    exact ⟨_, _, _, _, _, rfl, trivial, .inl ⟨rfl, .inl rfl⟩, rfl, rfl⟩
  · have h := hy27
    refine sr (vp (eSSi64 a0) rfl (vq (i6 (a0.length : Int)) (len_run rfl rfl) trivial (vp (i6 0) rfl (nx ⟨[(3, (.osl 3)), (6, (eSSi64 a0)), (7, (i6 (a0.length : Int))), (8, (i6 0))], [(3, (bk (.row 64 (([]).map eA64u8))))]⟩ (by kernel_rfl) (a_block ?_)))))
    refine a_loop (emb := fun (s : (Int × (List (Vec Int 64)))) => ⟨[(3, (.osl 3)), (6, (eSSi64 a0)), (7, (i6 (a0.length : Int))), (8, (i6 s.1))], [(3, (bk (.row 64 (s.2.map eA64u8))))]⟩) (body := (fun s : (Int × (List (Vec Int 64))) => impl_polys_l1 a0 s.1 s.2)) (G := fun q => some q = some y26) h rfl ?_ (by kernel_rfl)
    rintro X43 ⟨x35, x36⟩ x44 h hX45
    have h : impl_polys_l1 a0 x35 x36 = some x44 := h
    refine a_st (σ' := ⟨[(3, (.osl 3)), (6, (eSSi64 a0)), (7, (i6 (a0.length : Int))), (8, (i6 x35))], [(3, (bk (.row 64 (x36.map eA64u8))))]⟩) (by kernel_rfl) (sr (vp (.bool ((decide (x35 < (a0.length : Int))))) rfl (nx ⟨[(3, (.osl 3)), (6, (eSSi64 a0)), (7, (i6 (a0.length : Int))), (8, (i6 x35)), (9, (.bool ((decide (x35 < (a0.length : Int))))))], [(3, (bk (.row 64 (x36.map eA64u8))))]⟩ (by kernel_rfl) (a_seq ?_))))
    cases hb46 : (decide (x35 < (a0.length : Int)))
    · have h := ite_f hb46 h
      refine a_cond_f rfl (a_exit (t_exit ?_))
      cases h
      have h := hX45
      refine t_exit (b_exit ?_)
      exact j_leaf x36 (Option.some.inj h) (by kernel_rfl)
    · have h := ite_t hb46 h
      refine a_cond_t rfl (a_skip (a_next (σ' := ⟨[(3, (.osl 3)), (6, (eSSi64 a0)), (7, (i6 (a0.length : Int))), (8, (i6 x35))], [(3, (bk (.row 64 (x36.map eA64u8))))]⟩) (by kernel_rfl) (a_seq (a_block (sr ?_)))))
      obtain ⟨hc47, h⟩ := ifp_some h
      refine vq (.ref (.row 1 (a0.map eSi64)) [x35.toNat] [x35.toNat * 1]) rfl (lmap hc47) ?_
      have hl48 : LdOk [x35.toNat] (.row 1 (a0.map eSi64)) [x35.toNat * 1] 1 false (eSi64 (rd a0 x35.toNat)) := (.row (llt hc47) rfl (.nil rfl rfl rfl))
      refine vq (eSi64 (rd a0 x35.toNat)) (ld_ref (i := ⟨.slice 2, 1, 24, (eSi64 [])⟩) rfl rfl hl48) hl48.c (vp (eSi64 (rd a0 x35.toNat)) rfl (nx ⟨[(3, (.osl 3)), (5, (eSi64 (rd a0 x35.toNat))), (6, (eSSi64 a0)), (7, (i6 (a0.length : Int))), (8, (i6 x35))], [(3, (bk (.row 64 (x36.map eA64u8))))]⟩ (by kernel_rfl) (a_region (vp (.osl 3) rfl (vp (eSi64 (rd a0 x35.toNat)) rfl ?_)))))
      obtain ⟨r49, hr50, h⟩ := bind_some h
      refine a_call (args := [(eSi64 (rd a0 x35.toNat))]) (u := []) (r := (eA64u8 r49)) rfl rfl (impl_row_poly_ok (rd a0 x35.toNat) r49 hr50) rfl (vq (.sl 64 true (([r49]).map eA64u8)) rfl ⟨(Nat.le_of_ble_eq_true rfl), (Nat.le_of_ble_eq_true rfl), (all_cons ⟨(Nat.le_of_ble_eq_true rfl), rfl⟩ all_nil)⟩ ?_)
      obtain ⟨hc51, h⟩ := ifp_some h
      refine vu (.osl 2600) [(2600, (bk (.row 64 (((x36 ++ ([r49]))).map eA64u8)))), (3, none)] (app_run (i := ⟨.arr 64 5, 64, 64, (eA64u8 (vrep 64 (0 : Int)))⟩) (f := eA64u8) (l := x36) (l2 := [r49]) rfl rfl rfl rfl (fun _ => rfl) rfl rfl) (app_c (f := eA64u8) (s := 64) (sz := 64) (by' := 64) (u := []) (id := 3) hc51 (.inr rfl) rfl rfl rfl) rfl (vp (.osl 2600) rfl (a_nil (b_norm (a_next (σ' := ⟨[(3, (.osl 3)), (6, (eSSi64 a0)), (7, (i6 (a0.length : Int))), (8, (i6 x35))], [(3, (bk (.row 64 (((x36 ++ ([r49]))).map eA64u8))))]⟩) (by kernel_rfl) (a_region (vp (i6 (IntKind.i64.wrap (x35 + 1))) rfl (vp (i6 (IntKind.i64.wrap (x35 + 1))) rfl (a_nil ?_))))))))
      cases h
      exact a_again (by kernel_rfl) hX45
def impl_ContinuedFraction_c : ACode := (.seq (.region 0 [q 4 (.box 25 (t 1)), q 5 (.box 25 (t 2)), q 6 (.asg 1 (.const (.slice none 0 0)) 55), q 7 (.asg 0 (.const (.int .i64 0)) 2)] false) (.seq (.seq (.region 1 [q 9 (.mov (t 0)), q 10 (.load 25 (t 4)), q 11 (.load 25 (t 5)), q 12 (.call 0 (.func 138) [(t 9), (t 10), (t 11), (.const (.bool true))]), q 8 (.asg 0 (t 12) 2)] false) (.seq (.region 2 [q 13 (.mov (t 8)), q 14 (.bin .neq 2 (t 13) (.const (.int .i64 0)))] false) (.cond (t 14) (.seq (.region 3 [q 15 (.mov (t 8)), q 6 (.asg 1 (.const (.slice none 0 0)) 55), q 7 (.asg 0 (t 15) 2)] false) .ret) .skip))) (.seq (.region 4 [q 16 (.mov (t 0)), q 17 (.load 25 (t 4)), ⟨some 18, .call 0 (.func 103) [(t 17)], none, [1]⟩, q 19 (.load 25 (t 5)), ⟨some 20, .call 0 (.func 103) [(t 19)], none, [3, 2]⟩, ⟨some 21, .call 0 (.func 152) [(t 16), (t 18), (t 20)], none, [0, 2, 4, 4]⟩, ⟨some 22, .call 0 (.func 151) [(t 21)], none, [5, 5]⟩, ⟨some 6, .asg 1 (t 22) 55, none, [6, 6, 0, 1, 2, 3, 4, 5, 6]⟩, ⟨some 7, .asg 0 (.const (.int .i64 0)) 2, none, [7, 0, 1, 2, 3, 4, 5, 6, 7]⟩] true) .ret)))
def impl_ContinuedFraction_L : Live := [(0, [0, 1, 2]), (1, [0, 4, 5]), (2, [0, 4, 5, 8]), (3, [8]), (4, [0, 4, 5]), (100014, [0, 4, 5, 8, 14])]
noncomputable def impl_ContinuedFraction (a0 : Int) (a1 : (Vec Int 64)) (a2 : (Vec Int 64)) : Option ((List (Vec Int 64)) × Int) :=
  (Option.bind (impl_quotientCode a0 a1 a2 true) fun r3 => (if (r3 != 0) then (some ([], r3)) else (Option.bind (impl_rowOf a1) fun r17 => (Option.bind (impl_rowOf a2) fun r20 => (Option.bind (impl_prime_partials a0 r17 r20) fun r22 => (Option.bind (impl_polys r22) fun r24 => (some (r24, 0))))))))
theorem impl_ContinuedFraction_ok (a0 : Int) (a1 : (Vec Int 64)) (a2 : (Vec Int 64)) (r : ((List (Vec Int 64)) × Int)) (h : impl_ContinuedFraction a0 a1 a2 = some r) : Den Try.prog 63 [(i6 a0), (eA64u8 a1), (eA64u8 a2)] { r := (.tuple [(eSA64u8 r.1), (i6 r.2)]) } := by
  refine den_of (rs := [(eSA64u8 r.1), (i6 r.2)]) (ac := impl_ContinuedFraction_c) (L := impl_ContinuedFraction_L) (n := 23) (m := [(6, 1)]) (c := Try.f63.body.getD .skip) good Try.func63 (by kernel_rfl) (by kernel_rfl) Try.ntmps63 rfl rfl (by kernel_rfl) rfl rfl ?_
  refine a_st (σ' := ⟨[(0, (i6 a0)), (1, (eA64u8 a1)), (2, (eA64u8 a2))], []⟩) (by kernel_rfl) ?_
  unfold impl_ContinuedFraction_c
  refine sr (vo 1400 (eA64u8 a1) rfl rfl (vo 1500 (eA64u8 a2) rfl rfl (vp (eSA64u8 ([])) rfl (vp (i6 0) rfl (nx ⟨[(0, (i6 a0)), (4, (ow 4)), (5, (ow 5))], [(4, (bk (eA64u8 a1))), (5, (bk (eA64u8 a2)))]⟩ (by kernel_rfl) (a_seq (sr (vp (i6 a0) rfl (vl (eA64u8 a1) rfl rfl rfl rfl rfl rfl ?_)))))))))
  refine vl (eA64u8 a2) rfl rfl rfl rfl rfl rfl ?_
  obtain ⟨r3, hr4, h⟩ := bind_some h
  refine a_call (args := [(i6 a0), (eA64u8 a1), (eA64u8 a2), (.bool true)]) (u := []) (r := (i6 r3)) rfl rfl (impl_quotientCode_ok a0 a1 a2 true r3 hr4) rfl (vp (i6 r3) rfl (nx ⟨[(0, (i6 a0)), (4, (ow 4)), (5, (ow 5)), (8, (i6 r3))], [(4, (bk (eA64u8 a1))), (5, (bk (eA64u8 a2)))]⟩ (by kernel_rfl) (sr (vp (i6 r3) rfl (vp (.bool (r3 != 0)) rfl (nx ⟨[(0, (i6 a0)), (4, (ow 4)), (5, (ow 5)), (8, (i6 r3)), (14, (.bool (r3 != 0)))], [(4, (bk (eA64u8 a1))), (5, (bk (eA64u8 a2)))]⟩ (by kernel_rfl) ?_))))))
  cases hb5 : (r3 != 0)
  · have h := ite_f hb5 h
    refine a_cond_f rfl (a_skip (a_next (σ' := ⟨[(0, (i6 a0)), (4, (ow 4)), (5, (ow 5))], [(4, (bk (eA64u8 a1))), (5, (bk (eA64u8 a2)))]⟩) (by kernel_rfl) (a_seq (a_draw [⟨[], [], [], []⟩, ⟨[4], [], [], []⟩, ⟨[], [], [], [1]⟩, ⟨[5], [], [], []⟩, ⟨[], [], [], [1, 2, 3]⟩, ⟨[], [], [], [0, 1, 2, 3, 4]⟩, ⟨[], [], [], [0, 1, 2, 3, 4, 5]⟩, ⟨[], [], [], [0, 1, 2, 3, 4, 5, 6]⟩, ⟨[], [], [], [0, 1, 2, 3, 4, 5, 6, 7]⟩] (by kernel_rfl) (dp (i6 a0) rfl (by kernel_rfl) (d_cons (vl (eA64u8 a1) rfl rfl rfl rfl rfl rfl (d_next (by kernel_rfl) (d_cons ?_)))))))))
    obtain ⟨r17, hr18, h⟩ := bind_some h
    refine a_call (args := [(eA64u8 a1)]) (u := []) (r := (eSi64 r17)) rfl rfl (impl_rowOf_ok a1 r17 hr18) rfl (d_next (by kernel_rfl) (d_cons (vl (eA64u8 a2) rfl rfl rfl rfl rfl rfl (d_next (by kernel_rfl) (d_cons ?_)))))
    obtain ⟨r20, hr21, h⟩ := bind_some h
    refine a_call (args := [(eA64u8 a2)]) (u := []) (r := (eSi64 r20)) rfl rfl (impl_rowOf_ok a2 r20 hr21) rfl (d_next (by kernel_rfl) (d_cons ?_))
    obtain ⟨r22, hr23, h⟩ := bind_some h
    refine a_call (args := [(i6 a0), (eSi64 r17), (eSi64 r20)]) (u := []) (r := (eSSi64 r22)) rfl rfl (impl_prime_partials_ok a0 r17 r20 r22 hr23) rfl (d_next (by kernel_rfl) (d_cons ?_))
    obtain ⟨r24, hr25, h⟩ := bind_some h
    refine a_call (args := [(eSSi64 r22)]) (u := []) (r := (eSA64u8 r24)) rfl rfl (impl_polys_ok r22 r24 hr25) rfl (d_next (by kernel_rfl) (dp (eSA64u8 r24) rfl (by kernel_rfl) (dp (i6 0) rfl (by kernel_rfl) (d_nil (a_next rfl (a_ret ?_))))))
    refine ⟨.inr rfl, ?_⟩
    rw [Try.results63]
    cases h
    exact ⟨_, _, _, _, _, rfl, trivial, .inl ⟨rfl, .inl rfl⟩, rfl, ⟨_, _, _, _, _, rfl, trivial, .inl ⟨rfl, .inl rfl⟩, rfl, rfl⟩⟩
  · have h := ite_t hb5 h
    refine a_cond_t rfl (sr (vp (i6 r3) rfl (vp (eSA64u8 ([])) rfl (vp (i6 r3) rfl (nx _ rfl (a_ret (t_ret ?_)))))))
    refine ⟨.inr rfl, ?_⟩
    rw [Try.results63]
    cases h
    exact ⟨_, _, _, _, _, rfl, trivial, .inl ⟨rfl, .inl rfl⟩, rfl, ⟨_, _, _, _, _, rfl, trivial, .inl ⟨rfl, .inl rfl⟩, rfl, rfl⟩⟩
def spec_l01Prime_c : ACode := (.seq (.region 0 [q 2 (.asg 0 (.const (.bool false)) 4)] false) (.seq (.region 1 [q 3 (.mov (t 0)), q 4 (.bin .eql 2 (t 3) (.const (.int .i64 2))), q 5 (.mov (t 4)), ⟨some 6, .mov (t 0), some (5, false), []⟩, ⟨some 7, .bin .eql 2 (t 6) (.const (.int .i64 3)), some (5, false), []⟩, q 8 (.pick (t 5) (.const (.bool true)) (t 7)), q 9 (.mov (t 8)), ⟨some 10, .mov (t 0), some (9, false), []⟩, ⟨some 11, .bin .eql 2 (t 10) (.const (.int .i64 5)), some (9, false), []⟩, q 12 (.pick (t 9) (.const (.bool true)) (t 11)), q 13 (.mov (t 12)), ⟨some 14, .mov (t 0), some (13, false), []⟩, ⟨some 15, .bin .eql 2 (t 14) (.const (.int .i64 7)), some (13, false), []⟩, q 16 (.pick (t 13) (.const (.bool true)) (t 15)), q 2 (.asg 0 (t 16) 4)] false) .ret))
def spec_l01Prime_L : Live := [(0, [0]), (1, [0])]
noncomputable def spec_l01Prime (a0 : Int) : Option Bool :=
  (if (a0 == 2) then (some true) else (if (a0 == 3) then (some true) else (if (a0 == 5) then (some true) else (some (a0 == 7)))))
theorem spec_l01Prime_ok (a0 : Int) (r : Bool) (h : spec_l01Prime a0 = some r) : Den Try.prog 168 [(i6 a0)] { r := (.bool r) } := by
  refine den_of (rs := [(.bool r)]) (ac := spec_l01Prime_c) (L := spec_l01Prime_L) (n := 17) (m := []) (c := Try.f168.body.getD .skip) good Try.func168 (by kernel_rfl) (by kernel_rfl) Try.ntmps168 rfl rfl (by kernel_rfl) rfl rfl ?_
  refine a_st (σ' := ⟨[(0, (i6 a0))], []⟩) (by kernel_rfl) ?_
  unfold spec_l01Prime_c
  refine sr (vp (.bool false) rfl (nx ⟨[(0, (i6 a0))], []⟩ (by kernel_rfl) (sr (vp (i6 a0) rfl (vp (.bool (a0 == 2)) rfl (vp (.bool (a0 == 2)) rfl ?_))))))
  cases hb1 : (a0 == 2)
  · have h := ite_f hb1 h
    refine gp (i6 a0) rfl rfl (gp (.bool (a0 == 3)) rfl rfl (vp (.bool (a0 == 3)) rfl (vp (.bool (a0 == 3)) rfl ?_)))
    cases hb2 : (a0 == 3)
    · have h := ite_f hb2 h
      refine gp (i6 a0) rfl rfl (gp (.bool (a0 == 5)) rfl rfl (vp (.bool (a0 == 5)) rfl (vp (.bool (a0 == 5)) rfl ?_)))
      cases hb3 : (a0 == 5)
      · have h := ite_f hb3 h
        refine gp (i6 a0) rfl rfl (gp (.bool (a0 == 7)) rfl rfl (vp (.bool (a0 == 7)) rfl (vp (.bool (a0 == 7)) rfl (nx _ rfl (a_ret ?_)))))
        refine ⟨.inr rfl, ?_⟩
        rw [Try.results168]
        cases h
        exact ⟨_, _, _, _, _, rfl, trivial, .inl ⟨rfl, .inl rfl⟩, rfl, rfl⟩
      · have h := ite_t hb3 h
        refine a_gskip rfl (a_gskip rfl (vp (.bool true) rfl (vp (.bool true) rfl (nx _ rfl (a_ret ?_)))))
        refine ⟨.inr rfl, ?_⟩
        rw [Try.results168]
        cases h
        exact ⟨_, _, _, _, _, rfl, trivial, .inl ⟨rfl, .inl rfl⟩, rfl, rfl⟩
    · have h := ite_t hb2 h
      refine a_gskip rfl (a_gskip rfl (vp (.bool true) rfl (vp (.bool true) rfl (a_gskip rfl (a_gskip rfl (vp (.bool true) rfl (vp (.bool true) rfl (nx _ rfl (a_ret ?_)))))))))
      refine ⟨.inr rfl, ?_⟩
      rw [Try.results168]
      cases h
      exact ⟨_, _, _, _, _, rfl, trivial, .inl ⟨rfl, .inl rfl⟩, rfl, rfl⟩
  · have h := ite_t hb1 h
    refine a_gskip rfl (a_gskip rfl (vp (.bool true) rfl (vp (.bool true) rfl (a_gskip rfl (a_gskip rfl (vp (.bool true) rfl (vp (.bool true) rfl (a_gskip rfl (a_gskip rfl ?_)))))))))
    refine vp (.bool true) rfl (vp (.bool true) rfl (nx _ rfl (a_ret ?_)))
    refine ⟨.inr rfl, ?_⟩
    rw [Try.results168]
    cases h
    exact ⟨_, _, _, _, _, rfl, trivial, .inl ⟨rfl, .inl rfl⟩, rfl, rfl⟩
def spec_l01Is_c : ACode := (.seq (.region 0 [q 3 (.box 25 (t 1)), q 4 (.asg 0 (.const (.bool false)) 4)] false) (.seq (.seq (.region 1 [q 5 (.asg 0 (.const (.int .i64 0)) 3)] false) (.block 0 (.loop (.seq (.seq (.region 2 [q 6 (.mov (t 5)), q 7 (.bin .lss 3 (t 6) (.const (.int .i64 64)))] false) (.cond (t 7) .skip (.exit 0))) (.seq (.block 1 (.seq (.region 4 [q 10 (.mov (t 5)), q 11 (.indexAddr 25 (t 3) (t 10)), q 12 (.load 5 (t 11)), q 13 (.conv 5 2 (t 12)), q 14 (.mov (t 0)), q 15 (.bin .geq 2 (t 13) (t 14))] false) (.cond (t 15) (.seq (.region 5 [q 4 (.asg 0 (.const (.bool false)) 4)] false) .ret) .skip))) (.region 3 [q 8 (.mov (t 5)), q 9 (.bin .add 3 (t 8) (.const (.int .i64 1))), q 5 (.asg 0 (t 9) 3)] false)))))) (.seq (.region 6 [q 16 (.mov (t 0)), q 17 (.call 0 (.func 168) [(t 16)]), q 4 (.asg 0 (t 17) 4)] false) .ret)))
def spec_l01Is_L : Live := [(0, [0, 1]), (1, [0, 3]), (2, [0, 3, 5]), (3, [0, 3, 5]), (4, [0, 3, 5]), (5, []), (6, [0]), (100007, [0, 3, 5, 7]), (100015, [0, 3, 5, 15])]
noncomputable def spec_l01Is_l1 (a1 : (Vec Int 64)) (a0 : Int) (x29 : Int) : Option (Int ⊕ (Unit ⊕ Bool)) :=
  (if (decide (x29 < 64)) then (ifp (0 ≤ x29 ∧ x29 < ((64 : Nat) : Int)) ((if (decide ((IntKind.i64.wrap (rd a1.1 x29.toNat)) ≥ a0)) then (some (.inr (.inr false))) else (some (.inl (IntKind.i64.wrap (x29 + 1))))))) else (some (.inr (((.inl ()))))))
noncomputable def spec_l01Is (a0 : Int) (a1 : (Vec Int 64)) : Option Bool :=
  (Option.bind (α := (Unit ⊕ Bool)) ((loopM (fun s : Int => spec_l01Is_l1 a1 a0 s) 0)) fun z => match z with | .inl _ => (Option.bind (spec_l01Prime a0) fun r42 => (some r42)) | .inr r44 => (some r44))
theorem spec_l01Is_ok (a0 : Int) (a1 : (Vec Int 64)) (r : Bool) (h : spec_l01Is a0 a1 = some r) : Den Try.prog 108 [(i6 a0), (eA64u8 a1)] { r := (.bool r) } := by
  refine den_of (rs := [(.bool r)]) (ac := spec_l01Is_c) (L := spec_l01Is_L) (n := 18) (m := []) (c := Try.f108.body.getD .skip) good Try.func108 (by kernel_rfl) (by kernel_rfl) Try.ntmps108 rfl rfl (by kernel_rfl) rfl rfl ?_
  refine a_st (σ' := ⟨[(0, (i6 a0)), (1, (eA64u8 a1))], []⟩) (by kernel_rfl) ?_
  unfold spec_l01Is_c
  refine sr (vo 1300 (eA64u8 a1) rfl rfl (vp (.bool false) rfl (nx ⟨[(0, (i6 a0)), (3, (ow 3))], [(3, (bk (eA64u8 a1)))]⟩ (by kernel_rfl) ?_)))
  obtain ⟨y20, hy21, hk22⟩ := bind_some h
  clear h
  refine a_join (emb := fun (s : Unit) => ⟨[(0, (i6 a0))], []⟩) (pre := fun s => (.inl s) = y20) ?_ ?_
  · rintro _ rfl
    have h := hk22
    refine a_st (σ' := ⟨[(0, (i6 a0))], []⟩) (by kernel_rfl) (sr (vp (i6 a0) rfl ?_))
    obtain ⟨r42, hr43, h⟩ := bind_some h
    refine a_call (args := [(i6 a0)]) (u := []) (r := (.bool r42)) rfl rfl (spec_l01Prime_ok a0 r42 hr43) rfl (vp (.bool r42) rfl (nx _ rfl (a_ret ?_)))
    refine ⟨.inr rfl, ?_⟩
    rw [Try.results108]
    cases h
    exact ⟨_, _, _, _, _, rfl, trivial, .inl ⟨rfl, .inl rfl⟩, rfl, rfl⟩
  · have h := hy21
    refine sr (vp (i6 0) rfl (nx ⟨[(0, (i6 a0)), (3, (ow 3)), (5, (i6 0))], [(3, (bk (eA64u8 a1)))]⟩ (by kernel_rfl) (a_block ?_)))
    refine a_loop (emb := fun (s : Int) => ⟨[(0, (i6 a0)), (3, (ow 3)), (5, (i6 s))], [(3, (bk (eA64u8 a1)))]⟩) (body := (fun s : Int => spec_l01Is_l1 a1 a0 s)) (G := fun q => some q = some y20) h rfl ?_ (by kernel_rfl)
    rintro X34 x29 x35 h hX36
    have h : spec_l01Is_l1 a1 a0 x29 = some x35 := h
    refine a_st (σ' := ⟨[(0, (i6 a0)), (3, (ow 3)), (5, (i6 x29))], [(3, (bk (eA64u8 a1)))]⟩) (by kernel_rfl) (a_seq (sr (vp (i6 x29) rfl (vp (.bool ((decide (x29 < 64)))) rfl (nx ⟨[(0, (i6 a0)), (3, (ow 3)), (5, (i6 x29)), (7, (.bool ((decide (x29 < 64)))))], [(3, (bk (eA64u8 a1)))]⟩ (by kernel_rfl) ?_)))))
    cases hb37 : (decide (x29 < 64))
    · have h := ite_f hb37 h
      refine a_cond_f rfl (a_exit (t_exit ?_))
      cases h
      have h := hX36
      refine t_exit (b_exit ?_)
      exact j_leaf () (Option.some.inj h) (by kernel_rfl)
    · have h := ite_t hb37 h
      refine a_cond_t rfl (a_skip (a_next (σ' := ⟨[(0, (i6 a0)), (3, (ow 3)), (5, (i6 x29))], [(3, (bk (eA64u8 a1)))]⟩) (by kernel_rfl) (a_seq (a_block (sr (vp (i6 x29) rfl ?_))))))
      obtain ⟨hc38, h⟩ := ifp_some h
      refine vq (.own 3 [x29.toNat] [x29.toNat * 1]) rfl hc38 ?_
      have hl39 : LdOk [x29.toNat] (eA64u8 a1) [x29.toNat * 1] 1 false (b8 (rd a1.1 x29.toNat)) := (.arr (vlt a1 hc38) rfl (.nil rfl rfl rfl))
      refine vq (b8 (rd a1.1 x29.toNat)) (ld_own (i := ⟨.int .u8, 1, 1, (.int .u8 0)⟩) rfl rfl rfl hl39) hl39.c (vp (i6 (IntKind.i64.wrap (rd a1.1 x29.toNat))) rfl (vp (i6 a0) rfl (vp (.bool ((decide ((IntKind.i64.wrap (rd a1.1 x29.toNat)) ≥ a0)))) rfl (nx ⟨[(0, (i6 a0)), (3, (ow 3)), (5, (i6 x29)), (15, (.bool ((decide ((IntKind.i64.wrap (rd a1.1 x29.toNat)) ≥ a0)))))], [(3, (bk (eA64u8 a1)))]⟩ (by kernel_rfl) ?_))))
      cases hb40 : (decide ((IntKind.i64.wrap (rd a1.1 x29.toNat)) ≥ a0))
      · have h := ite_f hb40 h
        refine a_cond_f rfl (a_skip (b_norm (a_next (σ' := ⟨[(0, (i6 a0)), (3, (ow 3)), (5, (i6 x29))], [(3, (bk (eA64u8 a1)))]⟩) (by kernel_rfl) (a_region (vp (i6 x29) rfl (vp (i6 (IntKind.i64.wrap (x29 + 1))) rfl (vp (i6 (IntKind.i64.wrap (x29 + 1))) rfl (a_nil ?_))))))))
        cases h
        exact a_again (by kernel_rfl) hX36
      · have h := ite_t hb40 h
        refine a_cond_t rfl (sr (vp (.bool false) rfl (nx _ rfl (a_ret (b_ret (t_ret ?_))))))
        cases h
        have h := hX36
        refine t_ret (b_ret (t_ret ?_))
        cases h
        have h := hk22
        refine ⟨.inr rfl, ?_⟩
        rw [Try.results108]
        cases h
        exact ⟨_, _, _, _, _, rfl, trivial, .inl ⟨rfl, .inl rfl⟩, rfl, rfl⟩
def spec_l01Code_c : ACode := (.seq (.region 0 [q 4 (.asg 0 (.const (.int .i64 0)) 2)] false) (.seq (.seq (.region 1 [q 6 (.mov (t 0)), q 7 (.call 0 (.func 168) [(t 6)]), q 8 (.un .not (t 7))] false) (.cond (t 8) (.seq (.region 2 [q 4 (.asg 0 (.const (.int .i64 1)) 2)] false) .ret) .skip)) (.seq (.seq (.region 3 [q 5 (.asg 0 (.const (.int .i64 0)) 3)] false) (.block 0 (.loop (.seq (.seq (.region 4 [q 9 (.mov (t 5)), q 10 (.mov (t 1)), q 11 (.blt 0 .len [(t 10)] [55]), q 12 (.bin .lss 3 (t 9) (t 11))] false) (.cond (t 12) .skip (.exit 0))) (.seq (.block 1 (.seq (.region 6 [q 15 (.mov (t 0)), q 16 (.mov (t 1)), q 17 (.mov (t 5)), q 18 (.indexAddr 55 (t 16) (t 17)), q 19 (.load 25 (t 18)), q 20 (.call 0 (.func 108) [(t 15), (t 19)]), q 21 (.un .not (t 20))] false) (.cond (t 21) (.seq (.region 7 [q 4 (.asg 0 (.const (.int .i64 1)) 2)] false) .ret) .skip))) (.region 5 [q 13 (.mov (t 5)), q 14 (.bin .add 3 (t 13) (.const (.int .i64 1))), q 5 (.asg 0 (t 14) 3)] false)))))) (.seq (.region 8 [q 4 (.asg 0 (.const (.int .i64 0)) 2)] false) .ret))))
def spec_l01Code_L : Live := [(0, [0, 1]), (1, [0, 1]), (2, []), (3, [0, 1]), (4, [0, 1, 5]), (5, [0, 1, 5]), (6, [0, 1, 5]), (7, []), (8, []), (100008, [0, 1, 8]), (100012, [0, 1, 5, 12]), (100021, [0, 1, 5, 21])]
noncomputable def spec_l01Code_l1 (a1 : (List (Vec Int 64))) (a0 : Int) (x36 : Int) : Option (Int ⊕ (Unit ⊕ Int)) :=
  (if (decide (x36 < (a1.length : Int))) then (ifp (0 ≤ x36 ∧ x36 < ((a1.length : Nat) : Int)) ((Option.bind (spec_l01Is a0 (rd a1 x36.toNat)) fun r49 => (if (!r49) then (some (.inr (.inr 1))) else (some (.inl (IntKind.i64.wrap (x36 + 1)))))))) else (some (.inr (((.inl ()))))))
noncomputable def spec_l01Code (a0 : Int) (a1 : (List (Vec Int 64))) : Option Int :=
  (Option.bind (spec_l01Prime a0) fun r1 => (if (!r1) then (some 1) else (Option.bind (α := (Unit ⊕ Int)) ((loopM (fun s : Int => spec_l01Code_l1 a1 a0 s) 0)) fun z => match z with | .inl _ => (some 0) | .inr r53 => (some r53))))
theorem spec_l01Code_ok (a0 : Int) (a1 : (List (Vec Int 64))) (r : Int) (h : spec_l01Code a0 a1 = some r) : Den Try.prog 104 [(i6 a0), (eSA64u8 a1)] { r := (i6 r) } := by
  refine den_of (rs := [(i6 r)]) (ac := spec_l01Code_c) (L := spec_l01Code_L) (n := 22) (m := []) (c := Try.f104.body.getD .skip) good Try.func104 (by kernel_rfl) (by kernel_rfl) Try.ntmps104 rfl rfl (by kernel_rfl) rfl rfl ?_
  refine a_st (σ' := ⟨[(0, (i6 a0)), (1, (eSA64u8 a1))], []⟩) (by kernel_rfl) ?_
  unfold spec_l01Code_c
  refine sr (vp (i6 0) rfl (nx ⟨[(0, (i6 a0)), (1, (eSA64u8 a1))], []⟩ (by kernel_rfl) (a_seq (sr (vp (i6 a0) rfl ?_)))))
  obtain ⟨r1, hr2, h⟩ := bind_some h
  refine a_call (args := [(i6 a0)]) (u := []) (r := (.bool r1)) rfl rfl (spec_l01Prime_ok a0 r1 hr2) rfl (vp (.bool (!r1)) rfl (nx ⟨[(0, (i6 a0)), (1, (eSA64u8 a1)), (8, (.bool (!r1)))], []⟩ (by kernel_rfl) ?_))
  cases hb3 : (!r1)
  · have h := ite_f hb3 h
    refine a_cond_f rfl (a_skip (a_next (σ' := ⟨[(0, (i6 a0)), (1, (eSA64u8 a1))], []⟩) (by kernel_rfl) ?_))
    obtain ⟨y27, hy28, hk29⟩ := bind_some h
    clear h
    refine a_join (emb := fun (s : Unit) => ⟨[], []⟩) (pre := fun s => (.inl s) = y27) ?_ ?_
    · rintro _ rfl
      have h := hk29
      refine a_st (σ' := ⟨[], []⟩) (by kernel_rfl) (sr (vp (i6 0) rfl (nx _ rfl (a_ret ?_))))
      refine ⟨.inr rfl, ?_⟩
      rw [Try.results104]
      cases h
      exact ⟨_, _, _, _, _, rfl, trivial, .inl ⟨rfl, .inl rfl⟩, rfl, rfl⟩
    · have h := hy28
      refine sr (vp (i6 0) rfl (nx ⟨[(0, (i6 a0)), (1, (eSA64u8 a1)), (5, (i6 0))], []⟩ (by kernel_rfl) (a_block ?_)))
      refine a_loop (emb := fun (s : Int) => ⟨[(0, (i6 a0)), (1, (eSA64u8 a1)), (5, (i6 s))], []⟩) (body := (fun s : Int => spec_l01Code_l1 a1 a0 s)) (G := fun q => some q = some y27) h rfl ?_ (by kernel_rfl)
      rintro X43 x36 x44 h hX45
      have h : spec_l01Code_l1 a1 a0 x36 = some x44 := h
      refine a_st (σ' := ⟨[(0, (i6 a0)), (1, (eSA64u8 a1)), (5, (i6 x36))], []⟩) (by kernel_rfl) (a_seq (sr (vp (i6 x36) rfl (vp (eSA64u8 a1) rfl (vq (i6 (a1.length : Int)) (len_run rfl rfl) trivial (vp (.bool ((decide (x36 < (a1.length : Int))))) rfl (nx ⟨[(0, (i6 a0)), (1, (eSA64u8 a1)), (5, (i6 x36)), (12, (.bool ((decide (x36 < (a1.length : Int))))))], []⟩ (by kernel_rfl) ?_)))))))
      cases hb46 : (decide (x36 < (a1.length : Int)))
      · have h := ite_f hb46 h
        refine a_cond_f rfl (a_exit (t_exit ?_))
        cases h
        have h := hX45
        refine t_exit (b_exit ?_)
        exact j_leaf () (Option.some.inj h) (by kernel_rfl)
      · have h := ite_t hb46 h
        refine a_cond_t rfl (a_skip (a_next (σ' := ⟨[(0, (i6 a0)), (1, (eSA64u8 a1)), (5, (i6 x36))], []⟩) (by kernel_rfl) (a_seq (a_block (sr (vp (i6 a0) rfl (vp (eSA64u8 a1) rfl (vp (i6 x36) rfl ?_))))))))
        obtain ⟨hc47, h⟩ := ifp_some h
        refine vq (.ref (.row 64 (a1.map eA64u8)) [x36.toNat] [x36.toNat * 64]) rfl (lmap hc47) ?_
        have hl48 : LdOk [x36.toNat] (.row 64 (a1.map eA64u8)) [x36.toNat * 64] 64 true (eA64u8 (rd a1 x36.toNat)) := (.row (llt hc47) rfl (.nil rfl rfl rfl))
        refine vq (eA64u8 (rd a1 x36.toNat)) (ld_ref (i := ⟨.arr 64 5, 64, 64, (eA64u8 (vrep 64 (0 : Int)))⟩) rfl rfl hl48) hl48.c ?_
        obtain ⟨r49, hr50, h⟩ := bind_some h
        refine a_call (args := [(i6 a0), (eA64u8 (rd a1 x36.toNat))]) (u := []) (r := (.bool r49)) rfl rfl (spec_l01Is_ok a0 (rd a1 x36.toNat) r49 hr50) rfl (vp (.bool (!r49)) rfl (nx ⟨[(0, (i6 a0)), (1, (eSA64u8 a1)), (5, (i6 x36)), (21, (.bool (!r49)))], []⟩ (by kernel_rfl) ?_))
        cases hb51 : (!r49)
        · have h := ite_f hb51 h
          refine a_cond_f rfl (a_skip (b_norm (a_next (σ' := ⟨[(0, (i6 a0)), (1, (eSA64u8 a1)), (5, (i6 x36))], []⟩) (by kernel_rfl) (a_region (vp (i6 x36) rfl (vp (i6 (IntKind.i64.wrap (x36 + 1))) rfl (vp (i6 (IntKind.i64.wrap (x36 + 1))) rfl (a_nil ?_))))))))
          cases h
          exact a_again (by kernel_rfl) hX45
        · have h := ite_t hb51 h
          refine a_cond_t rfl (sr (vp (i6 1) rfl (nx _ rfl (a_ret (b_ret (t_ret ?_))))))
          cases h
          have h := hX45
          refine t_ret (b_ret (t_ret ?_))
          cases h
          have h := hk29
          refine ⟨.inr rfl, ?_⟩
          rw [Try.results104]
          cases h
          exact ⟨_, _, _, _, _, rfl, trivial, .inl ⟨rfl, .inl rfl⟩, rfl, rfl⟩
  · have h := ite_t hb3 h
    refine a_cond_t rfl (sr (vp (i6 1) rfl (nx _ rfl (a_ret (t_ret ?_)))))
    refine ⟨.inr rfl, ?_⟩
    rw [Try.results104]
    cases h
    exact ⟨_, _, _, _, _, rfl, trivial, .inl ⟨rfl, .inl rfl⟩, rfl, rfl⟩
def spec_l10Code_c : ACode := (.seq (.region 0 [q 4 (.box 25 (t 1)), q 5 (.box 25 (t 2)), q 6 (.asg 0 (.const (.int .i64 0)) 2)] false) (.seq (.block 0 (.seq (.region 1 [q 8 (.mov (t 0)), q 9 (.load 25 (t 4)), q 10 (.load 25 (t 5)), q 11 (.bslice 0 55 2 [(0, (t 9)), (1, (t 10))]), q 12 (.call 0 (.func 104) [(t 8), (t 11)]), q 13 (.bin .neq 2 (t 12) (.const (.int .i64 0))), q 7 (.asg 0 (t 13) 4)] false) (.cond (t 7) (.seq (.region 2 [q 6 (.asg 0 (.const (.int .i64 1)) 2)] false) .ret) (.seq (.region 3 [q 15 (.load 25 (t 5)), q 16 (.build 25 []), q 17 (.bin .eql 25 (t 15) (t 16)), q 14 (.asg 0 (t 17) 4)] false) (.cond (t 14) (.seq (.region 4 [q 6 (.asg 0 (.const (.int .i64 5)) 2)] false) .ret) .skip))))) (.seq (.region 5 [q 6 (.asg 0 (.const (.int .i64 0)) 2)] false) .ret)))
def spec_l10Code_L : Live := [(0, [0, 1, 2]), (1, [0, 4, 5]), (2, []), (3, [5]), (4, []), (5, []), (100007, [5, 7]), (100014, [14])]
noncomputable def spec_l10Code (a0 : Int) (a1 : (Vec Int 64)) (a2 : (Vec Int 64)) : Option Int :=
  (Option.bind (spec_l01Code a0 ([a1, a2])) fun r3 => (if (r3 != 0) then (some 1) else (if (decide (a2 = ((vrep 64 (0 : Int))))) then (some 5) else (some 0))))
theorem spec_l10Code_ok (a0 : Int) (a1 : (Vec Int 64)) (a2 : (Vec Int 64)) (r : Int) (h : spec_l10Code a0 a1 a2 = some r) : Den Try.prog 153 [(i6 a0), (eA64u8 a1), (eA64u8 a2)] { r := (i6 r) } := by
  refine den_of (rs := [(i6 r)]) (ac := spec_l10Code_c) (L := spec_l10Code_L) (n := 18) (m := []) (c := Try.f153.body.getD .skip) good Try.func153 (by kernel_rfl) (by kernel_rfl) Try.ntmps153 rfl rfl (by kernel_rfl) rfl rfl ?_
  refine a_st (σ' := ⟨[(0, (i6 a0)), (1, (eA64u8 a1)), (2, (eA64u8 a2))], []⟩) (by kernel_rfl) ?_
  unfold spec_l10Code_c
  refine sr (vo 1400 (eA64u8 a1) rfl rfl (vo 1500 (eA64u8 a2) rfl rfl (vp (i6 0) rfl (nx ⟨[(0, (i6 a0)), (4, (ow 4)), (5, (ow 5))], [(4, (bk (eA64u8 a1))), (5, (bk (eA64u8 a2)))]⟩ (by kernel_rfl) (a_seq (a_block (sr (vp (i6 a0) rfl (vl (eA64u8 a1) rfl rfl rfl rfl rfl rfl ?_)))))))))
  refine vl (eA64u8 a2) rfl rfl rfl rfl rfl rfl (vq (.sl 64 true (([a1, a2]).map eA64u8)) rfl ⟨(Nat.le_of_ble_eq_true rfl), (Nat.le_of_ble_eq_true rfl), (all_cons ⟨(Nat.le_of_ble_eq_true rfl), rfl⟩ (all_cons ⟨(Nat.le_of_ble_eq_true rfl), rfl⟩ all_nil))⟩ ?_)
  obtain ⟨r3, hr4, h⟩ := bind_some h
  refine a_call (args := [(i6 a0), (.sl 64 true (([a1, a2]).map eA64u8))]) (u := []) (r := (i6 r3)) rfl rfl (Den.args (spec_l01Code_ok a0 ([a1, a2]) r3 hr4) rfl rfl (.cons (.refl _) (.cons (.loose _) .nil))) rfl (vp (.bool (r3 != 0)) rfl (vp (.bool (r3 != 0)) rfl (nx ⟨[(5, (ow 5)), (7, (.bool (r3 != 0)))], [(5, (bk (eA64u8 a2)))]⟩ (by kernel_rfl) ?_)))
  cases hb5 : (r3 != 0)
  · have h := ite_f hb5 h
    refine a_cond_f rfl (sr (vl (eA64u8 a2) rfl rfl rfl rfl rfl rfl (vq (eA64u8 ((vrep 64 (0 : Int)))) rfl ⟨⟨_, rfl, rfl⟩, all_nil⟩ (vq (.bool ((decide (a2 = ((vrep 64 (0 : Int))))))) (eqa_run (f := (AV.int .u8)) (a := a2.1) (b := ((vrep 64 (0 : Int))).1) rfl rfl (eqb_vec (fun _ _ => eqb_int _ _) a2 ((vrep 64 (0 : Int))))) (cmp_arr (g := 8) (f := (AV.int .u8)) (x := a2) (y := ((vrep 64 (0 : Int)))) rfl rfl rfl (fun _ _ => rfl) (fun _ _ => cmp_int rfl)) (vp (.bool ((decide (a2 = ((vrep 64 (0 : Int))))))) rfl (nx ⟨[(14, (.bool ((decide (a2 = ((vrep 64 (0 : Int))))))))], []⟩ (by kernel_rfl) ?_))))))
    cases hb7 : (decide (a2 = ((vrep 64 (0 : Int)))))
    · have h := ite_f hb7 h
      refine a_cond_f rfl (a_skip (b_norm (a_next (σ' := ⟨[], []⟩) (by kernel_rfl) (sr (vp (i6 0) rfl (nx _ rfl (a_ret ?_)))))))
      refine ⟨.inr rfl, ?_⟩
      rw [Try.results153]
      cases h
      exact ⟨_, _, _, _, _, rfl, trivial, .inl ⟨rfl, .inl rfl⟩, rfl, rfl⟩
    · have h := ite_t hb7 h
      refine a_cond_t rfl (sr (vp (i6 5) rfl (nx _ rfl (a_ret (b_ret (t_ret ?_))))))
      refine ⟨.inr rfl, ?_⟩
      rw [Try.results153]
      cases h
      exact ⟨_, _, _, _, _, rfl, trivial, .inl ⟨rfl, .inl rfl⟩, rfl, rfl⟩
  · have h := ite_t hb5 h
    refine a_cond_t rfl (sr (vp (i6 1) rfl (nx _ rfl (a_ret (b_ret (t_ret ?_))))))
    refine ⟨.inr rfl, ?_⟩
    rw [Try.results153]
    cases h
    exact ⟨_, _, _, _, _, rfl, trivial, .inl ⟨rfl, .inl rfl⟩, rfl, rfl⟩
def spec_l01Deg_c : ACode := (.seq (.region 0 [q 1 (.box 25 (t 0)), q 2 (.asg 0 (.const (.int .i64 0)) 2)] false) (.seq (.region 1 [q 3 (.asg 0 (.const (.int .i64 63)) 2)] false) (.seq (.block 0 (.loop (.seq (.seq (.region 2 [q 4 (.mov (t 3)), q 5 (.bin .geq 2 (t 4) (.const (.int .i64 0))), q 6 (.mov (t 5)), ⟨some 7, .mov (t 3), some (6, true), []⟩, ⟨some 8, .indexAddr 25 (t 1) (t 7), some (6, true), []⟩, ⟨some 9, .load 5 (t 8), some (6, true), []⟩, ⟨some 10, .bin .eql 5 (t 9) (.const (.int .u8 0)), some (6, true), []⟩, q 11 (.pick (t 6) (t 10) (.const (.bool false)))] false) (.cond (t 11) .skip (.exit 0))) (.block 1 (.region 3 [q 12 (.mov (t 3)), q 13 (.bin .sub 2 (t 12) (.const (.int .i64 1))), q 3 (.asg 0 (t 13) 2)] false))))) (.seq (.region 4 [q 14 (.mov (t 3)), q 2 (.asg 0 (t 14) 2)] false) .ret))))
def spec_l01Deg_L : Live := [(0, [0]), (1, [1]), (2, [1, 3]), (3, [1, 3]), (4, [3]), (100011, [1, 3, 11])]
noncomputable def spec_l01Deg_l1 (a0 : (Vec Int 64)) (x54 : Int) : Option (Int ⊕ Int) :=
  (Option.bind (α := Bool) ((if (decide (x54 ≥ 0)) then (ifp (0 ≤ x54 ∧ x54 < ((64 : Nat) : Int)) ((some (((rd a0.1 x54.toNat) == 0))))) else (some false))) fun x72 => (if x72 then (some (.inl (IntKind.i64.wrap (x54 - 1)))) else (some (.inr x54))))
noncomputable def spec_l01Deg (a0 : (Vec Int 64)) : Option Int :=
  (Option.bind (α := Int) ((loopM (fun s : Int => spec_l01Deg_l1 a0 s) 63)) fun x39 => (some x39))
theorem spec_l01Deg_ok (a0 : (Vec Int 64)) (r : Int) (h : spec_l01Deg a0 = some r) : Den Try.prog 112 [(eA64u8 a0)] { r := (i6 r) } := by
  refine den_of (rs := [(i6 r)]) (ac := spec_l01Deg_c) (L := spec_l01Deg_L) (n := 15) (m := []) (c := Try.f112.body.getD .skip) good Try.func112 (by kernel_rfl) (by kernel_rfl) Try.ntmps112 rfl rfl (by kernel_rfl) rfl rfl ?_
  refine a_st (σ' := ⟨[(0, (eA64u8 a0))], []⟩) (by kernel_rfl) ?_
  unfold spec_l01Deg_c
  refine sr (vo 1100 (eA64u8 a0) rfl rfl (vp (i6 0) rfl (nx ⟨[(1, (ow 1))], [(1, (bk (eA64u8 a0)))]⟩ (by kernel_rfl) (sr (vp (i6 63) rfl (nx ⟨[(1, (ow 1)), (3, (i6 63))], [(1, (bk (eA64u8 a0)))]⟩ (by kernel_rfl) ?_))))))
  obtain ⟨y40, hy41, hk42⟩ := bind_some h
  clear h
  refine a_join (emb := fun (s : Int) => ⟨[(3, (i6 s))], []⟩) (pre := fun s => s = y40) ?_ ?_
  · rintro x39 rfl
    have h := hk42
    refine a_st (σ' := ⟨[(3, (i6 x39))], []⟩) (by kernel_rfl) (sr (vp (i6 x39) rfl (vp (i6 x39) rfl (nx _ rfl (a_ret ?_)))))
    refine ⟨.inr rfl, ?_⟩
    rw [Try.results112]
    cases h
    exact ⟨_, _, _, _, _, rfl, trivial, .inl ⟨rfl, .inl rfl⟩, rfl, rfl⟩
  · have h := hy41
    refine a_block ?_
    refine a_loop (emb := fun (s : Int) => ⟨[(1, (ow 1)), (3, (i6 s))], [(1, (bk (eA64u8 a0)))]⟩) (body := (fun s : Int => spec_l01Deg_l1 a0 s)) (G := fun q => some q = some y40) h rfl ?_ (by kernel_rfl)
    rintro X66 x54 x67 h hX68
    have h : spec_l01Deg_l1 a0 x54 = some x67 := h
    refine a_st (σ' := ⟨[(1, (ow 1)), (3, (i6 x54))], [(1, (bk (eA64u8 a0)))]⟩) (by kernel_rfl) (a_seq ?_)
    obtain ⟨y73, hy74, hk75⟩ := bind_some h
    clear h
    refine a_join (emb := fun (s : Bool) => ⟨[(1, (ow 1)), (3, (i6 x54)), (11, (.bool s))], [(1, (bk (eA64u8 a0)))]⟩) (pre := fun s => s = y73) ?_ ?_
    · rintro x72 rfl
      have h := hk75
      refine a_st (σ' := ⟨[(1, (ow 1)), (3, (i6 x54)), (11, (.bool x72))], [(1, (bk (eA64u8 a0)))]⟩) (by kernel_rfl) ?_
      cases hb79 : x72
      · have h := ite_f hb79 h
        refine a_cond_f rfl (a_exit (t_exit ?_))
        cases h
        have h := hX68
        refine t_exit (b_exit ?_)
        exact j_leaf x54 (Option.some.inj h) (by kernel_rfl)
      · have h := ite_t hb79 h
        refine a_cond_t rfl (a_skip (a_next (σ' := ⟨[(1, (ow 1)), (3, (i6 x54))], [(1, (bk (eA64u8 a0)))]⟩) (by kernel_rfl) (a_block (a_region (vp (i6 x54) rfl (vp (i6 (IntKind.i64.wrap (x54 - 1))) rfl (vp (i6 (IntKind.i64.wrap (x54 - 1))) rfl (a_nil (b_norm ?_)))))))))
        cases h
        exact a_again (by kernel_rfl) hX68
    · have h := hy74
      refine a_region (vp (i6 x54) rfl (vp (.bool ((decide (x54 ≥ 0)))) rfl (vp (.bool ((decide (x54 ≥ 0)))) rfl ?_)))
      cases hb76 : (decide (x54 ≥ 0))
      · have h := ite_f hb76 h
        refine a_gskip rfl (a_gskip rfl (a_gskip rfl (a_gskip rfl (vp (.bool false) rfl (a_nil ?_)))))
        exact j_leaf false (Option.some.inj h) (by kernel_rfl)
      · have h := ite_t hb76 h
        refine gp (i6 x54) rfl rfl ?_
        obtain ⟨hc77, h⟩ := ifp_some h
        refine gq (.own 1 [x54.toNat] [x54.toNat * 1]) rfl rfl hc77 ?_
        have hl78 : LdOk [x54.toNat] (eA64u8 a0) [x54.toNat * 1] 1 false (b8 (rd a0.1 x54.toNat)) := (.arr (vlt a0 hc77) rfl (.nil rfl rfl rfl))
        refine gq (b8 (rd a0.1 x54.toNat)) rfl (ld_own (i := ⟨.int .u8, 1, 1, (.int .u8 0)⟩) rfl rfl rfl hl78) hl78.c (gp (.bool (((rd a0.1 x54.toNat) == 0))) rfl rfl (vp (.bool (((rd a0.1 x54.toNat) == 0))) rfl (a_nil ?_)))
        exact j_leaf (((rd a0.1 x54.toNat) == 0)) (Option.some.inj h) (by kernel_rfl)
end Go.Proofs.Ytkbnegemdlnncaa
