/- Functions of the program: plain Lean functions, and that the program computes them. Printed by gen.py. -/
import Derived.Test.YtacebpbhddkelaaFnT
import Derived.Test.YtacebpbhddkelaaFn2
namespace Go.Proofs.Ytacebpbhddkelaa
open Go.Abs Go.Proofs
set_option linter.unusedSimpArgs false
set_option linter.unusedVariables false

def impl_row_trimmed_c : ACode := (.seq (.region 0 [⟨some 2, .asg 1 (.const (.slice none 0 0)) 66, none, []⟩] false) (.seq (.region 1 [⟨some 4, .mov (.tmp 0), none, []⟩, ⟨some 5, .blt 0 .len [(.tmp 4)] [66], none, []⟩, ⟨some 3, .asg 0 (.tmp 5) 3, none, []⟩] false) (.seq (.block 0 (.loop (.seq (.seq (.region 2 [⟨some 6, .mov (.tmp 3), none, []⟩, ⟨some 7, .bin .gtr 3 (.tmp 6) (.const (.int .i64 0)), none, []⟩, ⟨some 8, .mov (.tmp 7), none, []⟩, ⟨some 9, .mov (.tmp 0), some (8, true), []⟩, ⟨some 10, .mov (.tmp 3), some (8, true), []⟩, ⟨some 11, .bin .sub 3 (.tmp 10) (.const (.int .i64 1)), some (8, true), []⟩, ⟨some 12, .indexAddr 66 (.tmp 9) (.tmp 11), some (8, true), []⟩, ⟨some 13, .load 2 (.tmp 12), some (8, true), []⟩, ⟨some 14, .bin .eql 2 (.tmp 13) (.const (.int .i64 0)), some (8, true), []⟩, ⟨some 15, .pick (.tmp 8) (.tmp 14) (.const (.bool false)), none, []⟩] false) (.cond (.tmp 15) .skip (.exit 0))) (.block 1 (.region 3 [⟨some 16, .mov (.tmp 3), none, []⟩, ⟨some 17, .bin .sub 3 (.tmp 16) (.const (.int .i64 1)), none, []⟩, ⟨some 3, .asg 0 (.tmp 17) 3, none, []⟩] false))))) (.seq (.region 4 [⟨some 18, .mov (.tmp 0), none, []⟩, ⟨some 19, .mov (.tmp 3), none, []⟩, ⟨some 20, .mov (.tmp 3), none, []⟩, ⟨some 21, .slice 66 (.tmp 18) none (some (.tmp 19)) (some (.tmp 20)), none, []⟩, ⟨some 2, .asg 1 (.tmp 21) 66, none, []⟩] false) .ret))))
def impl_row_trimmed_L : Live := [(0, [0]), (1, [0]), (2, [0, 3]), (3, [0, 3]), (4, [0, 3]), (100015, [0, 3, 15])]
theorem impl_row_trimmed_body : Try.f111.body = some (Try.f111.body.getD .skip) := by kernel_rfl
theorem impl_row_trimmed_strip : strip [(2, 1)] (Try.f111.body.getD .skip) = impl_row_trimmed_c := by kernel_rfl
noncomputable def impl_row_trimmed_l1 (a0 : (List Int)) (x62 : Int) : Option (Int ⊕ Int) :=
  (Option.bind (α := Bool) ((if (decide (x62 > 0)) then (ifp (0 ≤ IntKind.i64.wrap (x62 - 1) ∧ IntKind.i64.wrap (x62 - 1) < ((a0.length : Nat) : Int)) ((some ((((rd a0 (IntKind.i64.wrap (x62 - 1)).toNat)) == 0))))) else (some false))) fun x80 => (if x80 then (some (.inl (IntKind.i64.wrap (x62 - 1)))) else (some (.inr x62))))
noncomputable def impl_row_trimmed (a0 : (List Int)) : Option (List Int) :=
  (Option.bind (α := Int) ((loopM (fun s : Int => impl_row_trimmed_l1 a0 s) (a0.length : Int))) fun x43 => (ifp (0 ≤ x43 ∧ x43 ≤ (a0.length : Int)) ((some (a0.take x43.toNat)))))
set_option maxHeartbeats 16000000 in
theorem impl_row_trimmed_ok (a0 : (List Int)) (r : (List Int)) (h : impl_row_trimmed a0 = some r) : Den Try.prog 111 [(eSi64 a0)] { r := (eSi64 r) } := by
  refine den_of (rs := [(eSi64 r)]) (ac := impl_row_trimmed_c) (L := impl_row_trimmed_L) (n := 22) (m := [(2, 1)]) good Try.func111 impl_row_trimmed_body (by kernel_rfl) Try.ntmps111 rfl rfl impl_row_trimmed_strip rfl rfl ?_
  refine a_st (σ' := ⟨[(0, (eSi64 a0))], []⟩) rfl ?_
  unfold impl_row_trimmed_c
  refine a_seq ?_
  refine a_region ?_
  refine a_val (v := (eSi64 ([]))) (u := []) rfl trivial rfl ?_
  refine a_nil ?_
  refine a_next (σ' := ⟨[(0, (eSi64 a0))], []⟩) rfl ?_
  refine a_seq ?_
  refine a_region ?_
  refine a_val (v := (eSi64 a0)) (u := []) rfl trivial rfl ?_
  refine a_val (v := (.int .i64 (a0.length : Int))) (u := []) (len_run rfl rfl) trivial rfl ?_
  refine a_val (v := (.int .i64 (a0.length : Int))) (u := []) rfl trivial rfl ?_
  refine a_nil ?_
  refine a_next (σ' := ⟨[(0, (eSi64 a0)), (3, (.int .i64 (a0.length : Int)))], []⟩) rfl ?_
  obtain ⟨y44, hy45, hk46⟩ := bind_some h
  clear h
  refine a_join (emb := fun (s : Int) => ⟨[(0, (eSi64 a0)), (3, (.int .i64 s))], []⟩) (pre := fun s => s = y44) ?_ ?_
  · rintro x43 rfl
    have h := hk46
    refine a_st (σ' := ⟨[(0, (eSi64 a0)), (3, (.int .i64 x43))], []⟩) rfl ?_
    refine a_seq ?_
    refine a_region ?_
    refine a_val (v := (eSi64 a0)) (u := []) rfl trivial rfl ?_
    refine a_val (v := (.int .i64 x43)) (u := []) rfl trivial rfl ?_
    refine a_val (v := (.int .i64 x43)) (u := []) rfl trivial rfl ?_
    obtain ⟨hc89, h⟩ := ifp_some h
    refine a_val (v := (.sl 1 true ((a0.take x43.toNat).map (AV.int .i64)))) (u := []) (take3_run (f := (AV.int .i64)) (l := a0) (i := ⟨.int .i64, 1, 8, (.int .i64 0)⟩) rfl rfl rfl rfl (fun _ => rfl)) ⟨hc89.1, lmap_le hc89.2, rfl⟩ rfl ?_
    refine a_val (v := (eSi64 (a0.take x43.toNat))) (u := []) (asg_tight (i := ⟨.int .i64, 1, 8, (.int .i64 0)⟩) (f := (AV.int .i64)) (l := (a0.take x43.toNat)) rfl rfl rfl) trivial rfl ?_
    refine a_nil ?_
    refine a_next rfl ?_
    refine a_ret ?_
    refine ⟨.inr rfl, ?_⟩
    rw [Try.results111]
    cases h
    exact ⟨_, _, _, _, _, rfl, trivial, .inl ⟨rfl, .inl rfl⟩, rfl, rfl⟩
  · have h := hy45
    refine a_block ?_
    refine a_loop (emb := fun (s : Int) => ⟨[(0, (eSi64 a0)), (3, (.int .i64 s))], []⟩) (body := (fun s : Int => impl_row_trimmed_l1 a0 s)) (G := fun q => some q = some y44) h rfl ?_ rfl
    rintro X74 x62 x75 h hX76
    have h : impl_row_trimmed_l1 a0 x62 = some x75 := h
    refine a_st (σ' := ⟨[(0, (eSi64 a0)), (3, (.int .i64 x62))], []⟩) rfl ?_
    refine a_seq ?_
    obtain ⟨y81, hy82, hk83⟩ := bind_some h
    clear h
    refine a_join (emb := fun (s : Bool) => ⟨[(0, (eSi64 a0)), (3, (.int .i64 x62)), (15, (.bool s))], []⟩) (pre := fun s => s = y81) ?_ ?_
    · rintro x80 rfl
      have h := hk83
      refine a_st (σ' := ⟨[(0, (eSi64 a0)), (3, (.int .i64 x62)), (15, (.bool x80))], []⟩) rfl ?_
      cases hb87 : x80
      · have h := ite_f hb87 h
        refine a_cond_f rfl ?_
        refine a_exit ?_
        refine t_exit ?_
        cases h
        have h := hX76
        refine t_exit ?_
        refine b_exit ?_
        exact j_leaf x62 (Option.some.inj h) rfl
      · have h := ite_t hb87 h
        refine a_cond_t rfl ?_
        refine a_skip ?_
        refine a_next (σ' := ⟨[(0, (eSi64 a0)), (3, (.int .i64 x62))], []⟩) rfl ?_
        refine a_block ?_
        refine a_region ?_
        refine a_val (v := (.int .i64 x62)) (u := []) rfl trivial rfl ?_
        refine a_val (v := (.int .i64 (IntKind.i64.wrap (x62 - 1)))) (u := []) rfl trivial rfl ?_
        refine a_val (v := (.int .i64 (IntKind.i64.wrap (x62 - 1)))) (u := []) rfl trivial rfl ?_
        refine a_nil ?_
        refine b_norm ?_
        cases h
        exact a_again rfl hX76
    · have h := hy82
      refine a_region ?_
      refine a_val (v := (.int .i64 x62)) (u := []) rfl trivial rfl ?_
      refine a_val (v := (.bool ((decide (x62 > 0))))) (u := []) rfl trivial rfl ?_
      refine a_val (v := (.bool ((decide (x62 > 0))))) (u := []) rfl trivial rfl ?_
      cases hb84 : (decide (x62 > 0))
      · have h := ite_f hb84 h
        refine a_gskip rfl ?_
        refine a_gskip rfl ?_
        refine a_gskip rfl ?_
        refine a_gskip rfl ?_
        refine a_gskip rfl ?_
        refine a_gskip rfl ?_
        refine a_val (v := (.bool false)) (u := []) rfl trivial rfl ?_
        refine a_nil ?_
        exact j_leaf false (Option.some.inj h) rfl
      · have h := ite_t hb84 h
        refine a_gval rfl (v := (eSi64 a0)) (u := []) rfl trivial rfl ?_
        refine a_gval rfl (v := (.int .i64 x62)) (u := []) rfl trivial rfl ?_
        refine a_gval rfl (v := (.int .i64 (IntKind.i64.wrap (x62 - 1)))) (u := []) rfl trivial rfl ?_
        obtain ⟨hc85, h⟩ := ifp_some h
        refine a_gval rfl (v := (.ref (.row 1 (a0.map (AV.int .i64))) [(IntKind.i64.wrap (x62 - 1)).toNat] [(IntKind.i64.wrap (x62 - 1)).toNat * 1])) (u := []) rfl (lmap hc85) rfl ?_
        have hl86 : LdOk [(IntKind.i64.wrap (x62 - 1)).toNat] (.row 1 (a0.map (AV.int .i64))) [(IntKind.i64.wrap (x62 - 1)).toNat * 1] 1 false (.int .i64 ((rd a0 (IntKind.i64.wrap (x62 - 1)).toNat))) := (.row (llt hc85) rfl (.nil rfl rfl rfl))
        refine a_gval rfl (v := (.int .i64 ((rd a0 (IntKind.i64.wrap (x62 - 1)).toNat)))) (u := []) (ld_ref (i := ⟨.int .i64, 1, 8, (.int .i64 0)⟩) rfl rfl hl86) hl86.c rfl ?_
        refine a_gval rfl (v := (.bool ((((rd a0 (IntKind.i64.wrap (x62 - 1)).toNat)) == 0)))) (u := []) rfl trivial rfl ?_
        refine a_val (v := (.bool ((((rd a0 (IntKind.i64.wrap (x62 - 1)).toNat)) == 0)))) (u := []) rfl trivial rfl ?_
        refine a_nil ?_
        exact j_leaf ((((rd a0 (IntKind.i64.wrap (x62 - 1)).toNat)) == 0)) (Option.some.inj h) rfl
def impl_rowOf_c : ACode := (.seq (.region 0 [⟨some 1, .box 23 (.tmp 0), none, []⟩, ⟨some 2, .asg 1 (.const (.slice none 0 0)) 66, none, []⟩] false) (.seq (.region 1 [⟨some 3, .asg 2 (.const (.slice none 0 0)) 66, none, []⟩] false) (.seq (.seq (.region 2 [⟨some 6, .load 23 (.tmp 1), none, []⟩, ⟨some 7, .mov (.const (.int .i64 0)), none, []⟩] false) (.block 0 (.loop (.seq (.region 3 [⟨some 8, .bin .lss 3 (.tmp 7) (.const (.int .i64 64)), none, []⟩] false) (.seq (.cond (.tmp 8) .skip (.exit 0)) (.seq (.block 1 (.seq (.region 4 [⟨some 9, .index 23 (.tmp 6) (.tmp 7), none, []⟩, ⟨some 5, .asg 0 (.tmp 9) 5, none, []⟩] false) (.region 5 [⟨some 10, .mov (.tmp 3), none, []⟩, ⟨some 11, .mov (.tmp 5), none, []⟩, ⟨some 12, .conv 5 2 (.tmp 11), none, []⟩, ⟨some 13, .bslice 0 66 1 [(0, (.tmp 12))], none, []⟩, ⟨some 14, .blt 0 .append [(.tmp 10), (.tmp 13)] [66, 66], none, []⟩, ⟨some 3, .asg 2 (.tmp 14) 66, none, []⟩] false))) (.region 6 [⟨some 15, .bin .add 3 (.tmp 7) (.const (.int .i64 1)), none, []⟩, ⟨some 7, .mov (.tmp 15), none, []⟩] false))))))) (.seq (.region 7 [⟨some 16, .mov (.tmp 3), none, []⟩, ⟨some 17, .call 0 (.func 111) [(.tmp 16)], none, []⟩, ⟨some 2, .asg 1 (.tmp 17) 66, none, []⟩] false) .ret))))
def impl_rowOf_L : Live := [(0, [0]), (1, [1]), (2, [1, 3]), (3, [3, 6, 7]), (4, [3, 6, 7]), (5, [3, 5, 6, 7]), (6, [3, 6, 7]), (7, [3]), (100008, [3, 6, 7, 8])]
theorem impl_rowOf_body : Try.f76.body = some (Try.f76.body.getD .skip) := by kernel_rfl
theorem impl_rowOf_strip : strip [(2, 1), (3, 2)] (Try.f76.body.getD .skip) = impl_rowOf_c := by kernel_rfl
noncomputable def impl_rowOf_l1 (a0 : (Vec Int 64)) (x25 : Int) (x26 : (List Int)) : Option ((Int × (List Int)) ⊕ (List Int)) :=
  (if (decide (x25 < 64)) then (ifp (0 ≤ x25 ∧ x25 < ((64 : Nat) : Int)) ((ifp ((x26.length + ([IntKind.i64.wrap (rd a0.1 x25.toNat)] : List Int).length) * 8 ≤ 140737488355328) ((some (.inl ((IntKind.i64.wrap (x25 + 1), (x26 ++ ([IntKind.i64.wrap (rd a0.1 x25.toNat)])))))))))) else (some (.inr x26)))
noncomputable def impl_rowOf (a0 : (Vec Int 64)) : Option (List Int) :=
  (Option.bind (α := (List Int)) ((loopM (fun s : (Int × (List Int)) => impl_rowOf_l1 a0 s.1 s.2) (0, []))) fun x17 => (Option.bind (impl_row_trimmed x17) fun r37 => (some r37)))
set_option maxHeartbeats 16000000 in
theorem impl_rowOf_ok (a0 : (Vec Int 64)) (r : (List Int)) (h : impl_rowOf a0 = some r) : Den Try.prog 76 [(eA64u8 a0)] { r := (eSi64 r) } := by
  refine den_of (rs := [(eSi64 r)]) (ac := impl_rowOf_c) (L := impl_rowOf_L) (n := 18) (m := [(2, 1), (3, 2)]) good Try.func76 impl_rowOf_body (by kernel_rfl) Try.ntmps76 rfl rfl impl_rowOf_strip rfl rfl ?_
  refine a_st (σ' := ⟨[(0, (eA64u8 a0))], []⟩) rfl ?_
  unfold impl_rowOf_c
  refine a_seq ?_
  refine a_region ?_
  refine a_val (v := (.own 1100 [] [])) (u := [(1100, some ⟨(eA64u8 a0), false⟩)]) rfl trivial rfl ?_
  refine a_val (v := (eSi64 ([]))) (u := []) rfl trivial rfl ?_
  refine a_nil ?_
  refine a_next (σ' := ⟨[(1, (.own 1 [] []))], [(1, some ⟨(eA64u8 a0), false⟩)]⟩) rfl ?_
  refine a_seq ?_
  refine a_region ?_
  refine a_val (v := (.osl 1300)) (u := [(1300, some ⟨(.row 1 (([]).map (AV.int .i64))), false⟩)]) rfl trivial rfl ?_
  refine a_nil ?_
  refine a_next (σ' := ⟨[(1, (.own 1 [] [])), (3, (.osl 3))], [(1, some ⟨(eA64u8 a0), false⟩), (3, some ⟨(.row 1 (([]).map (AV.int .i64))), false⟩)]⟩) rfl ?_
  obtain ⟨y18, hy19, hk20⟩ := bind_some h
  clear h
  refine a_join (emb := fun (s : (List Int)) => ⟨[(3, (.osl 3))], [(3, some ⟨(.row 1 (s.map (AV.int .i64))), false⟩)]⟩) (pre := fun s => s = y18) ?_ ?_
  · rintro x17 rfl
    have h := hk20
    refine a_st (σ' := ⟨[(3, (.osl 3))], [(3, some ⟨(.row 1 (x17.map (AV.int .i64))), false⟩)]⟩) rfl ?_
    refine a_seq ?_
    refine a_region ?_
    refine a_val (v := (.osl 3)) (u := []) rfl trivial rfl ?_
    obtain ⟨r37, hr38, h⟩ := bind_some h
    refine a_call (args := [(eSi64 x17)]) (u := [(3, some ⟨(.row 1 (x17.map (AV.int .i64))), true⟩)]) (r := (eSi64 r37)) rfl rfl (impl_row_trimmed_ok x17 r37 hr38) rfl ?_
    refine a_val (v := (eSi64 r37)) (u := []) rfl trivial rfl ?_
    refine a_nil ?_
    refine a_next rfl ?_
    refine a_ret ?_
    refine ⟨.inr rfl, ?_⟩
    rw [Try.results76]
    cases h
    exact ⟨_, _, _, _, _, rfl, trivial, .inl ⟨rfl, .inl rfl⟩, rfl, rfl⟩
  · have h := hy19
    refine a_seq ?_
    refine a_region ?_
    have hl21 : LdOk [] (eA64u8 a0) [] 64 true (eA64u8 a0) := (.nil rfl rfl rfl)
    refine a_val (v := (eA64u8 a0)) (u := []) (ld_own (i := ⟨.arr 64 5, 64, 64, (eA64u8 (vrep 64 (0 : Int)))⟩) rfl rfl rfl hl21) hl21.c rfl ?_
    refine a_val (v := (.int .i64 0)) (u := []) rfl trivial rfl ?_
    refine a_nil ?_
    refine a_next (σ' := ⟨[(3, (.osl 3)), (6, (eA64u8 a0)), (7, (.int .i64 0))], [(3, some ⟨(.row 1 (([]).map (AV.int .i64))), false⟩)]⟩) rfl ?_
    refine a_block ?_
    refine a_loop (emb := fun (s : (Int × (List Int))) => ⟨[(3, (.osl 3)), (6, (eA64u8 a0)), (7, (.int .i64 s.1))], [(3, some ⟨(.row 1 (s.2.map (AV.int .i64))), false⟩)]⟩) (body := (fun s : (Int × (List Int)) => impl_rowOf_l1 a0 s.1 s.2)) (G := fun q => some q = some y18) h rfl ?_ rfl
    rintro X30 ⟨x25, x26⟩ x31 h hX32
    have h : impl_rowOf_l1 a0 x25 x26 = some x31 := h
    refine a_st (σ' := ⟨[(3, (.osl 3)), (6, (eA64u8 a0)), (7, (.int .i64 x25))], [(3, some ⟨(.row 1 (x26.map (AV.int .i64))), false⟩)]⟩) rfl ?_
    refine a_seq ?_
    refine a_region ?_
    refine a_val (v := (.bool ((decide (x25 < 64))))) (u := []) rfl trivial rfl ?_
    refine a_nil ?_
    refine a_next (σ' := ⟨[(3, (.osl 3)), (6, (eA64u8 a0)), (7, (.int .i64 x25)), (8, (.bool ((decide (x25 < 64)))))], [(3, some ⟨(.row 1 (x26.map (AV.int .i64))), false⟩)]⟩) rfl ?_
    refine a_seq ?_
    cases hb33 : (decide (x25 < 64))
    · have h := ite_f hb33 h
      refine a_cond_f rfl ?_
      refine a_exit ?_
      refine t_exit ?_
      cases h
      have h := hX32
      refine t_exit ?_
      refine b_exit ?_
      exact j_leaf x26 (Option.some.inj h) rfl
    · have h := ite_t hb33 h
      refine a_cond_t rfl ?_
      refine a_skip ?_
      refine a_next (σ' := ⟨[(3, (.osl 3)), (6, (eA64u8 a0)), (7, (.int .i64 x25))], [(3, some ⟨(.row 1 (x26.map (AV.int .i64))), false⟩)]⟩) rfl ?_
      refine a_seq ?_
      refine a_block ?_
      refine a_seq ?_
      refine a_region ?_
      obtain ⟨hc34, h⟩ := ifp_some h
      refine a_val (v := (.int .u8 (rd a0.1 x25.toNat))) (u := []) (ix_run (i := ⟨.int .u8, 1, 1, (.int .u8 0)⟩) (f := (AV.int .u8)) rfl rfl rfl rfl (vlt a0 hc34)) ⟨hc34.1, hc34.2, rfl, rfl, rfl, rfl⟩ rfl ?_
      refine a_val (v := (.int .u8 (rd a0.1 x25.toNat))) (u := []) rfl trivial rfl ?_
      refine a_nil ?_
      refine a_next (σ' := ⟨[(3, (.osl 3)), (5, (.int .u8 (rd a0.1 x25.toNat))), (6, (eA64u8 a0)), (7, (.int .i64 x25))], [(3, some ⟨(.row 1 (x26.map (AV.int .i64))), false⟩)]⟩) rfl ?_
      refine a_region ?_
      refine a_val (v := (.osl 3)) (u := []) rfl trivial rfl ?_
      refine a_val (v := (.int .u8 (rd a0.1 x25.toNat))) (u := []) rfl trivial rfl ?_
      refine a_val (v := (.int .i64 (IntKind.i64.wrap (rd a0.1 x25.toNat)))) (u := []) rfl trivial rfl ?_
      refine a_val (v := (.sl 1 true (([IntKind.i64.wrap (rd a0.1 x25.toNat)]).map (AV.int .i64)))) (u := []) rfl ⟨(Nat.le_of_ble_eq_true rfl), (Nat.le_of_ble_eq_true rfl), (all_cons ⟨(Nat.le_of_ble_eq_true rfl), rfl⟩ all_nil)⟩ rfl ?_
      obtain ⟨hc35, h⟩ := ifp_some h
      refine a_val (v := (.osl 2400)) (u := [(2400, some ⟨(.row 1 (((x26 ++ ([IntKind.i64.wrap (rd a0.1 x25.toNat)]))).map (AV.int .i64))), false⟩), (3, none)]) (app_run (i := ⟨.int .i64, 1, 8, (.int .i64 0)⟩) (f := (AV.int .i64)) (l := x26) (l2 := [IntKind.i64.wrap (rd a0.1 x25.toNat)]) rfl rfl rfl rfl (fun _ => rfl) rfl rfl) (app_c (f := (AV.int .i64)) (s := 1) (sz := 1) (by' := 8) (u := []) (id := 3) hc35 (.inr rfl) rfl rfl rfl) rfl ?_
      refine a_val (v := (.osl 2400)) (u := []) rfl trivial rfl ?_
      refine a_nil ?_
      refine b_norm ?_
      refine a_next (σ' := ⟨[(3, (.osl 3)), (6, (eA64u8 a0)), (7, (.int .i64 x25))], [(3, some ⟨(.row 1 (((x26 ++ ([IntKind.i64.wrap (rd a0.1 x25.toNat)]))).map (AV.int .i64))), false⟩)]⟩) rfl ?_
      refine a_region ?_
      refine a_val (v := (.int .i64 (IntKind.i64.wrap (x25 + 1)))) (u := []) rfl trivial rfl ?_
      refine a_val (v := (.int .i64 (IntKind.i64.wrap (x25 + 1)))) (u := []) rfl trivial rfl ?_
      refine a_nil ?_
      cases h
      exact a_again rfl hX32
def impl_row_lead_c : ACode := (.seq (.region 0 [⟨some 2, .asg 0 (.const (.int .i64 0)) 2, none, []⟩] false) (.seq (.seq (.region 1 [⟨some 3, .mov (.tmp 0), none, []⟩, ⟨some 4, .blt 0 .len [(.tmp 3)] [66], none, []⟩, ⟨some 5, .bin .eql 3 (.tmp 4) (.const (.int .i64 0)), none, []⟩] false) (.cond (.tmp 5) (.seq (.region 2 [⟨some 2, .asg 0 (.const (.int .i64 0)) 2, none, []⟩] false) .ret) .skip)) (.seq (.region 3 [⟨some 6, .mov (.tmp 0), none, []⟩, ⟨some 7, .mov (.tmp 0), none, []⟩, ⟨some 8, .blt 0 .len [(.tmp 7)] [66], none, []⟩, ⟨some 9, .bin .sub 3 (.tmp 8) (.const (.int .i64 1)), none, []⟩, ⟨some 10, .indexAddr 66 (.tmp 6) (.tmp 9), none, []⟩, ⟨some 11, .load 2 (.tmp 10), none, []⟩, ⟨some 2, .asg 0 (.tmp 11) 2, none, []⟩] false) .ret)))
def impl_row_lead_L : Live := [(0, [0]), (1, [0]), (2, []), (3, [0]), (100005, [0, 5])]
theorem impl_row_lead_body : Try.f107.body = some (Try.f107.body.getD .skip) := by kernel_rfl
theorem impl_row_lead_strip : strip [] (Try.f107.body.getD .skip) = impl_row_lead_c := by kernel_rfl
noncomputable def impl_row_lead (a0 : (List Int)) : Option Int :=
  (if ((a0.length : Int) == 0) then (some 0) else (ifp (0 ≤ IntKind.i64.wrap ((a0.length : Int) - 1) ∧ IntKind.i64.wrap ((a0.length : Int) - 1) < ((a0.length : Nat) : Int)) ((some ((rd a0 (IntKind.i64.wrap ((a0.length : Int) - 1)).toNat))))))
set_option maxHeartbeats 16000000 in
theorem impl_row_lead_ok (a0 : (List Int)) (r : Int) (h : impl_row_lead a0 = some r) : Den Try.prog 107 [(eSi64 a0)] { r := (.int .i64 r) } := by
  refine den_of (rs := [(.int .i64 r)]) (ac := impl_row_lead_c) (L := impl_row_lead_L) (n := 12) (m := []) good Try.func107 impl_row_lead_body (by kernel_rfl) Try.ntmps107 rfl rfl impl_row_lead_strip rfl rfl ?_
  refine a_st (σ' := ⟨[(0, (eSi64 a0))], []⟩) rfl ?_
  unfold impl_row_lead_c
  refine a_seq ?_
  refine a_region ?_
  refine a_val (v := (.int .i64 0)) (u := []) rfl trivial rfl ?_
  refine a_nil ?_
  refine a_next (σ' := ⟨[(0, (eSi64 a0))], []⟩) rfl ?_
  refine a_seq ?_
  refine a_seq ?_
  refine a_region ?_
  refine a_val (v := (eSi64 a0)) (u := []) rfl trivial rfl ?_
  refine a_val (v := (.int .i64 (a0.length : Int))) (u := []) (len_run rfl rfl) trivial rfl ?_
  refine a_val (v := (.bool (((a0.length : Int) == 0)))) (u := []) rfl trivial rfl ?_
  refine a_nil ?_
  refine a_next (σ' := ⟨[(0, (eSi64 a0)), (5, (.bool (((a0.length : Int) == 0))))], []⟩) rfl ?_
  cases hb1 : ((a0.length : Int) == 0)
  · have h := ite_f hb1 h
    refine a_cond_f rfl ?_
    refine a_skip ?_
    refine a_next (σ' := ⟨[(0, (eSi64 a0))], []⟩) rfl ?_
    refine a_seq ?_
    refine a_region ?_
    refine a_val (v := (eSi64 a0)) (u := []) rfl trivial rfl ?_
    refine a_val (v := (eSi64 a0)) (u := []) rfl trivial rfl ?_
    refine a_val (v := (.int .i64 (a0.length : Int))) (u := []) (len_run rfl rfl) trivial rfl ?_
    refine a_val (v := (.int .i64 (IntKind.i64.wrap ((a0.length : Int) - 1)))) (u := []) rfl trivial rfl ?_
    obtain ⟨hc2, h⟩ := ifp_some h
    refine a_val (v := (.ref (.row 1 (a0.map (AV.int .i64))) [(IntKind.i64.wrap ((a0.length : Int) - 1)).toNat] [(IntKind.i64.wrap ((a0.length : Int) - 1)).toNat * 1])) (u := []) rfl (lmap hc2) rfl ?_
    have hl3 : LdOk [(IntKind.i64.wrap ((a0.length : Int) - 1)).toNat] (.row 1 (a0.map (AV.int .i64))) [(IntKind.i64.wrap ((a0.length : Int) - 1)).toNat * 1] 1 false (.int .i64 ((rd a0 (IntKind.i64.wrap ((a0.length : Int) - 1)).toNat))) := (.row (llt hc2) rfl (.nil rfl rfl rfl))
    refine a_val (v := (.int .i64 ((rd a0 (IntKind.i64.wrap ((a0.length : Int) - 1)).toNat)))) (u := []) (ld_ref (i := ⟨.int .i64, 1, 8, (.int .i64 0)⟩) rfl rfl hl3) hl3.c rfl ?_
    refine a_val (v := (.int .i64 ((rd a0 (IntKind.i64.wrap ((a0.length : Int) - 1)).toNat)))) (u := []) rfl trivial rfl ?_
    refine a_nil ?_
    refine a_next rfl ?_
    refine a_ret ?_
    refine ⟨.inr rfl, ?_⟩
    rw [Try.results107]
    cases h
    exact ⟨_, _, _, _, _, rfl, trivial, .inl ⟨rfl, .inl rfl⟩, rfl, rfl⟩
  · have h := ite_t hb1 h
    refine a_cond_t rfl ?_
    refine a_seq ?_
    refine a_region ?_
    refine a_val (v := (.int .i64 0)) (u := []) rfl trivial rfl ?_
    refine a_nil ?_
    refine a_next rfl ?_
    refine a_ret ?_
    refine t_ret ?_
    refine ⟨.inr rfl, ?_⟩
    rw [Try.results107]
    cases h
    exact ⟨_, _, _, _, _, rfl, trivial, .inl ⟨rfl, .inl rfl⟩, rfl, rfl⟩
def impl_row_degree_c : ACode := (.seq (.region 0 [⟨some 2, .asg 0 (.const (.int .i64 0)) 2, none, []⟩] false) (.seq (.region 1 [⟨some 3, .mov (.tmp 0), none, []⟩, ⟨some 4, .blt 0 .len [(.tmp 3)] [66], none, []⟩, ⟨some 5, .bin .sub 2 (.tmp 4) (.const (.int .i64 1)), none, []⟩, ⟨some 2, .asg 0 (.tmp 5) 2, none, []⟩] false) .ret))
def impl_row_degree_L : Live := [(0, [0]), (1, [0])]
theorem impl_row_degree_body : Try.f100.body = some (Try.f100.body.getD .skip) := by kernel_rfl
theorem impl_row_degree_strip : strip [] (Try.f100.body.getD .skip) = impl_row_degree_c := by kernel_rfl
noncomputable def impl_row_degree (a0 : (List Int)) : Option Int :=
  (some (IntKind.i64.wrap ((a0.length : Int) - 1)))
set_option maxHeartbeats 16000000 in
theorem impl_row_degree_ok (a0 : (List Int)) (r : Int) (h : impl_row_degree a0 = some r) : Den Try.prog 100 [(eSi64 a0)] { r := (.int .i64 r) } := by
  refine den_of (rs := [(.int .i64 r)]) (ac := impl_row_degree_c) (L := impl_row_degree_L) (n := 6) (m := []) good Try.func100 impl_row_degree_body (by kernel_rfl) Try.ntmps100 rfl rfl impl_row_degree_strip rfl rfl ?_
  refine a_st (σ' := ⟨[(0, (eSi64 a0))], []⟩) rfl ?_
  unfold impl_row_degree_c
  refine a_seq ?_
  refine a_region ?_
  refine a_val (v := (.int .i64 0)) (u := []) rfl trivial rfl ?_
  refine a_nil ?_
  refine a_next (σ' := ⟨[(0, (eSi64 a0))], []⟩) rfl ?_
  refine a_seq ?_
  refine a_region ?_
  refine a_val (v := (eSi64 a0)) (u := []) rfl trivial rfl ?_
  refine a_val (v := (.int .i64 (a0.length : Int))) (u := []) (len_run rfl rfl) trivial rfl ?_
  refine a_val (v := (.int .i64 (IntKind.i64.wrap ((a0.length : Int) - 1)))) (u := []) rfl trivial rfl ?_
  refine a_val (v := (.int .i64 (IntKind.i64.wrap ((a0.length : Int) - 1)))) (u := []) rfl trivial rfl ?_
  refine a_nil ?_
  refine a_next rfl ?_
  refine a_ret ?_
  refine ⟨.inr rfl, ?_⟩
  rw [Try.results100]
  cases h
  exact ⟨_, _, _, _, _, rfl, trivial, .inl ⟨rfl, .inl rfl⟩, rfl, rfl⟩
def impl_squareCode_c : ACode := (.seq (.region 0 [⟨some 4, .box 23 (.tmp 1), none, []⟩, ⟨some 6, .asg 0 (.const (.int .i64 0)) 2, none, []⟩] false) (.seq (.seq (.region 1 [⟨some 9, .mov (.tmp 0), none, []⟩, ⟨some 10, .load 23 (.tmp 4), none, []⟩, ⟨some 11, .bslice 0 40 1 [(0, (.tmp 10))], none, []⟩, ⟨some 12, .call 0 (.func 108) [(.tmp 9), (.tmp 11)], none, []⟩, ⟨some 7, .asg 0 (.tmp 12) 2, none, []⟩] false) (.seq (.region 2 [⟨some 13, .mov (.tmp 7), none, []⟩, ⟨some 14, .bin .neq 2 (.tmp 13) (.const (.int .i64 0)), none, []⟩] false) (.cond (.tmp 14) (.seq (.region 3 [⟨some 15, .mov (.tmp 7), none, []⟩, ⟨some 6, .asg 0 (.tmp 15) 2, none, []⟩] false) .ret) .skip))) (.seq (.region 4 [⟨some 16, .load 23 (.tmp 4), none, []⟩, ⟨some 17, .call 0 (.func 76) [(.tmp 16)], none, []⟩, ⟨some 8, .asg 1 (.tmp 17) 66, none, []⟩] false) (.seq (.seq (.region 5 [⟨some 18, .mov (.tmp 0), none, []⟩, ⟨some 19, .bin .eql 2 (.tmp 18) (.const (.int .i64 2)), none, []⟩, ⟨some 20, .mov (.tmp 19), none, []⟩, ⟨some 21, .mov (.tmp 8), some (20, false), []⟩, ⟨some 22, .call 0 (.func 107) [(.tmp 21)], some (20, false), []⟩, ⟨some 23, .bin .neq 2 (.tmp 22) (.const (.int .i64 1)), some (20, false), []⟩, ⟨some 24, .pick (.tmp 20) (.const (.bool true)) (.tmp 23), none, []⟩, ⟨some 25, .mov (.tmp 24), none, []⟩, ⟨some 26, .mov (.tmp 8), some (25, false), []⟩, ⟨some 27, .call 0 (.func 100) [(.tmp 26)], some (25, false), []⟩, ⟨some 28, .bin .rem 2 (.tmp 27) (.const (.int .i64 2)), some (25, false), []⟩, ⟨some 29, .bin .neq 2 (.tmp 28) (.const (.int .i64 0)), some (25, false), []⟩, ⟨some 30, .pick (.tmp 25) (.const (.bool true)) (.tmp 29), none, []⟩, ⟨some 31, .mov (.tmp 30), none, []⟩, ⟨some 32, .mov (.tmp 2), some (31, false), []⟩, ⟨some 33, .un .not (.tmp 32), some (31, false), []⟩, ⟨some 34, .pick (.tmp 31) (.const (.bool true)) (.tmp 33), none, []⟩] false) (.cond (.tmp 34) (.seq (.region 6 [⟨some 6, .asg 0 (.const (.int .i64 2)) 2, none, []⟩] false) .ret) .skip)) (.seq (.region 7 [⟨some 6, .asg 0 (.const (.int .i64 0)) 2, none, []⟩] false) .ret)))))
def impl_squareCode_L : Live := [(0, [0, 1, 2]), (1, [0, 2, 4]), (2, [0, 2, 4, 7]), (3, [7]), (4, [0, 2, 4]), (5, [0, 2, 8]), (6, []), (7, []), (100014, [0, 2, 4, 7, 14]), (100034, [34])]
theorem impl_squareCode_body : Try.f73.body = some (Try.f73.body.getD .skip) := by kernel_rfl
theorem impl_squareCode_strip : strip [(8, 1)] (Try.f73.body.getD .skip) = impl_squareCode_c := by kernel_rfl
noncomputable def impl_squareCode (a0 : Int) (a1 : (Vec Int 64)) (a2 : Bool) : Option Int :=
  (Option.bind (impl_polysCode a0 ([a1])) fun r2 => (if (r2 != 0) then (some r2) else (Option.bind (impl_rowOf a1) fun r6 => (Option.bind (α := Bool) ((if (a0 == 2) then (some true) else (Option.bind (impl_row_lead r6) fun r20 => (if (r20 != 1) then (some true) else (Option.bind (impl_row_degree r6) fun r23 => (if ((Int.tmod r23 2) != 0) then (some true) else (some (!a2)))))))) fun x15 => (if x15 then (some 2) else (some 0))))))
set_option maxHeartbeats 16000000 in
theorem impl_squareCode_ok (a0 : Int) (a1 : (Vec Int 64)) (a2 : Bool) (r : Int) (h : impl_squareCode a0 a1 a2 = some r) : Den Try.prog 73 [(.int .i64 a0), (eA64u8 a1), (.bool a2)] { r := (.int .i64 r) } := by
  refine den_of (rs := [(.int .i64 r)]) (ac := impl_squareCode_c) (L := impl_squareCode_L) (n := 35) (m := [(8, 1)]) good Try.func73 impl_squareCode_body (by kernel_rfl) Try.ntmps73 rfl rfl impl_squareCode_strip rfl rfl ?_
  refine a_st (σ' := ⟨[(0, (.int .i64 a0)), (1, (eA64u8 a1)), (2, (.bool a2))], []⟩) rfl ?_
  unfold impl_squareCode_c
  refine a_seq ?_
  refine a_region ?_
  refine a_val (v := (.own 1400 [] [])) (u := [(1400, some ⟨(eA64u8 a1), false⟩)]) rfl trivial rfl ?_
  refine a_val (v := (.int .i64 0)) (u := []) rfl trivial rfl ?_
  refine a_nil ?_
  refine a_next (σ' := ⟨[(0, (.int .i64 a0)), (2, (.bool a2)), (4, (.own 4 [] []))], [(4, some ⟨(eA64u8 a1), false⟩)]⟩) rfl ?_
  refine a_seq ?_
  refine a_seq ?_
  refine a_region ?_
  refine a_val (v := (.int .i64 a0)) (u := []) rfl trivial rfl ?_
  have hl1 : LdOk [] (eA64u8 a1) [] 64 true (eA64u8 a1) := (.nil rfl rfl rfl)
  refine a_val (v := (eA64u8 a1)) (u := []) (ld_own (i := ⟨.arr 64 5, 64, 64, (eA64u8 (vrep 64 (0 : Int)))⟩) rfl rfl rfl hl1) hl1.c rfl ?_
  refine a_val (v := (.sl 64 true (([a1]).map eA64u8))) (u := []) rfl ⟨(Nat.le_of_ble_eq_true rfl), (Nat.le_of_ble_eq_true rfl), (all_cons ⟨(Nat.le_of_ble_eq_true rfl), rfl⟩ all_nil)⟩ rfl ?_
  obtain ⟨r2, hr3, h⟩ := bind_some h
  refine a_call (args := [(.int .i64 a0), (.sl 64 true (([a1]).map eA64u8))]) (u := []) (r := (.int .i64 r2)) rfl rfl (Den.args (impl_polysCode_ok a0 ([a1]) r2 hr3) rfl rfl (.cons (.refl _) (.cons (.loose _) .nil))) rfl ?_
  refine a_val (v := (.int .i64 r2)) (u := []) rfl trivial rfl ?_
  refine a_nil ?_
  refine a_next (σ' := ⟨[(0, (.int .i64 a0)), (2, (.bool a2)), (4, (.own 4 [] [])), (7, (.int .i64 r2))], [(4, some ⟨(eA64u8 a1), false⟩)]⟩) rfl ?_
  refine a_seq ?_
  refine a_region ?_
  refine a_val (v := (.int .i64 r2)) (u := []) rfl trivial rfl ?_
  refine a_val (v := (.bool (r2 != 0))) (u := []) rfl trivial rfl ?_
  refine a_nil ?_
  refine a_next (σ' := ⟨[(0, (.int .i64 a0)), (2, (.bool a2)), (4, (.own 4 [] [])), (7, (.int .i64 r2)), (14, (.bool (r2 != 0)))], [(4, some ⟨(eA64u8 a1), false⟩)]⟩) rfl ?_
  cases hb4 : (r2 != 0)
  · have h := ite_f hb4 h
    refine a_cond_f rfl ?_
    refine a_skip ?_
    refine a_next (σ' := ⟨[(0, (.int .i64 a0)), (2, (.bool a2)), (4, (.own 4 [] []))], [(4, some ⟨(eA64u8 a1), false⟩)]⟩) rfl ?_
    refine a_seq ?_
    refine a_region ?_
    have hl5 : LdOk [] (eA64u8 a1) [] 64 true (eA64u8 a1) := (.nil rfl rfl rfl)
    refine a_val (v := (eA64u8 a1)) (u := []) (ld_own (i := ⟨.arr 64 5, 64, 64, (eA64u8 (vrep 64 (0 : Int)))⟩) rfl rfl rfl hl5) hl5.c rfl ?_
    obtain ⟨r6, hr7, h⟩ := bind_some h
    refine a_call (args := [(eA64u8 a1)]) (u := []) (r := (eSi64 r6)) rfl rfl (impl_rowOf_ok a1 r6 hr7) rfl ?_
    refine a_val (v := (eSi64 r6)) (u := []) rfl trivial rfl ?_
    refine a_nil ?_
    refine a_next (σ' := ⟨[(0, (.int .i64 a0)), (2, (.bool a2)), (8, (eSi64 r6))], []⟩) rfl ?_
    refine a_seq ?_
    obtain ⟨y16, hy17, hk18⟩ := bind_some h
    clear h
    refine a_join (emb := fun (s : Bool) => ⟨[(34, (.bool s))], []⟩) (pre := fun s => s = y16) ?_ ?_
    · rintro x15 rfl
      have h := hk18
      refine a_st (σ' := ⟨[(34, (.bool x15))], []⟩) rfl ?_
      cases hb26 : x15
      · have h := ite_f hb26 h
        refine a_cond_f rfl ?_
        refine a_skip ?_
        refine a_next (σ' := ⟨[], []⟩) rfl ?_
        refine a_seq ?_
        refine a_region ?_
        refine a_val (v := (.int .i64 0)) (u := []) rfl trivial rfl ?_
        refine a_nil ?_
        refine a_next rfl ?_
        refine a_ret ?_
        refine ⟨.inr rfl, ?_⟩
        rw [Try.results73]
        cases h
        exact ⟨_, _, _, _, _, rfl, trivial, .inl ⟨rfl, .inl rfl⟩, rfl, rfl⟩
      · have h := ite_t hb26 h
        refine a_cond_t rfl ?_
        refine a_seq ?_
        refine a_region ?_
        refine a_val (v := (.int .i64 2)) (u := []) rfl trivial rfl ?_
        refine a_nil ?_
        refine a_next rfl ?_
        refine a_ret ?_
        refine t_ret ?_
        refine ⟨.inr rfl, ?_⟩
        rw [Try.results73]
        cases h
        exact ⟨_, _, _, _, _, rfl, trivial, .inl ⟨rfl, .inl rfl⟩, rfl, rfl⟩
    · have h := hy17
      refine a_region ?_
      refine a_val (v := (.int .i64 a0)) (u := []) rfl trivial rfl ?_
      refine a_val (v := (.bool (a0 == 2))) (u := []) rfl trivial rfl ?_
      refine a_val (v := (.bool (a0 == 2))) (u := []) rfl trivial rfl ?_
      cases hb19 : (a0 == 2)
      · have h := ite_f hb19 h
        refine a_gval rfl (v := (eSi64 r6)) (u := []) rfl trivial rfl ?_
        obtain ⟨r20, hr21, h⟩ := bind_some h
        refine a_gcall rfl (args := [(eSi64 r6)]) (u := []) (r := (.int .i64 r20)) rfl rfl (impl_row_lead_ok r6 r20 hr21) rfl ?_
        refine a_gval rfl (v := (.bool (r20 != 1))) (u := []) rfl trivial rfl ?_
        refine a_val (v := (.bool (r20 != 1))) (u := []) rfl trivial rfl ?_
        refine a_val (v := (.bool (r20 != 1))) (u := []) rfl trivial rfl ?_
        cases hb22 : (r20 != 1)
        · have h := ite_f hb22 h
          refine a_gval rfl (v := (eSi64 r6)) (u := []) rfl trivial rfl ?_
          obtain ⟨r23, hr24, h⟩ := bind_some h
          refine a_gcall rfl (args := [(eSi64 r6)]) (u := []) (r := (.int .i64 r23)) rfl rfl (impl_row_degree_ok r6 r23 hr24) rfl ?_
          refine a_gval rfl (v := (.int .i64 (Int.tmod r23 2))) (u := []) rfl (by decide) rfl ?_
          refine a_gval rfl (v := (.bool (((Int.tmod r23 2) != 0)))) (u := []) rfl trivial rfl ?_
          refine a_val (v := (.bool (((Int.tmod r23 2) != 0)))) (u := []) rfl trivial rfl ?_
          refine a_val (v := (.bool (((Int.tmod r23 2) != 0)))) (u := []) rfl trivial rfl ?_
          cases hb25 : ((Int.tmod r23 2) != 0)
          · have h := ite_f hb25 h
            refine a_gval rfl (v := (.bool a2)) (u := []) rfl trivial rfl ?_
            refine a_gval rfl (v := (.bool (!a2))) (u := []) rfl trivial rfl ?_
            refine a_val (v := (.bool (!a2))) (u := []) rfl trivial rfl ?_
            refine a_nil ?_
            exact j_leaf (!a2) (Option.some.inj h) rfl
          · have h := ite_t hb25 h
            refine a_gskip rfl ?_
            refine a_gskip rfl ?_
            refine a_val (v := (.bool true)) (u := []) rfl trivial rfl ?_
            refine a_nil ?_
            exact j_leaf true (Option.some.inj h) rfl
        · have h := ite_t hb22 h
          refine a_gskip rfl ?_
          refine a_gskip rfl ?_
          refine a_gskip rfl ?_
          refine a_gskip rfl ?_
          refine a_val (v := (.bool true)) (u := []) rfl trivial rfl ?_
          refine a_val (v := (.bool true)) (u := []) rfl trivial rfl ?_
          refine a_gskip rfl ?_
          refine a_gskip rfl ?_
          refine a_val (v := (.bool true)) (u := []) rfl trivial rfl ?_
          refine a_nil ?_
          exact j_leaf true (Option.some.inj h) rfl
      · have h := ite_t hb19 h
        refine a_gskip rfl ?_
        refine a_gskip rfl ?_
        refine a_gskip rfl ?_
        refine a_val (v := (.bool true)) (u := []) rfl trivial rfl ?_
        refine a_val (v := (.bool true)) (u := []) rfl trivial rfl ?_
        refine a_gskip rfl ?_
        refine a_gskip rfl ?_
        refine a_gskip rfl ?_
        refine a_gskip rfl ?_
        refine a_val (v := (.bool true)) (u := []) rfl trivial rfl ?_
        refine a_val (v := (.bool true)) (u := []) rfl trivial rfl ?_
        refine a_gskip rfl ?_
        refine a_gskip rfl ?_
        refine a_val (v := (.bool true)) (u := []) rfl trivial rfl ?_
        refine a_nil ?_
        exact j_leaf true (Option.some.inj h) rfl
  · have h := ite_t hb4 h
    refine a_cond_t rfl ?_
    refine a_seq ?_
    refine a_region ?_
    refine a_val (v := (.int .i64 r2)) (u := []) rfl trivial rfl ?_
    refine a_val (v := (.int .i64 r2)) (u := []) rfl trivial rfl ?_
    refine a_nil ?_
    refine a_next rfl ?_
    refine a_ret ?_
    refine t_ret ?_
    refine ⟨.inr rfl, ?_⟩
    rw [Try.results73]
    cases h
    exact ⟨_, _, _, _, _, rfl, trivial, .inl ⟨rfl, .inl rfl⟩, rfl, rfl⟩
def impl_prime_inverse_c : ACode := (.seq (.region 0 [⟨some 4, .asg 0 (.const (.int .i64 0)) 2, none, []⟩] false) (.seq (.region 1 [⟨some 5, .asg 0 (.const (.int .i64 1)) 2, none, []⟩] false) (.seq (.seq (.region 2 [⟨some 6, .mov (.tmp 0), none, []⟩, ⟨some 7, .bin .sub 2 (.tmp 6) (.const (.int .i64 2)), none, []⟩, ⟨some 8, .mov (.const (.int .i64 0)), none, []⟩] false) (.block 0 (.loop (.seq (.region 3 [⟨some 9, .bin .lss 2 (.tmp 8) (.tmp 7), none, []⟩] false) (.seq (.cond (.tmp 9) .skip (.exit 0)) (.seq (.block 1 (.region 4 [⟨some 10, .mov (.tmp 5), none, []⟩, ⟨some 11, .mov (.tmp 1), none, []⟩, ⟨some 12, .bin .mul 2 (.tmp 10) (.tmp 11), none, []⟩, ⟨some 13, .mov (.tmp 0), none, []⟩, ⟨some 14, .bin .rem 2 (.tmp 12) (.tmp 13), none, []⟩, ⟨some 5, .asg 0 (.tmp 14) 2, none, []⟩] false)) (.region 5 [⟨some 15, .bin .add 2 (.tmp 8) (.const (.int .i64 1)), none, []⟩, ⟨some 8, .mov (.tmp 15), none, []⟩] false))))))) (.seq (.region 6 [⟨some 16, .mov (.tmp 5), none, []⟩, ⟨some 4, .asg 0 (.tmp 16) 2, none, []⟩] false) .ret))))
def impl_prime_inverse_L : Live := [(0, [0, 1]), (1, [0, 1]), (2, [0, 1, 5]), (3, [0, 1, 5, 7, 8]), (4, [0, 1, 5, 7, 8]), (5, [0, 1, 5, 7, 8]), (6, [5]), (100009, [0, 1, 5, 7, 8, 9])]
theorem impl_prime_inverse_body : Try.f109.body = some (Try.f109.body.getD .skip) := by kernel_rfl
theorem impl_prime_inverse_strip : strip [] (Try.f109.body.getD .skip) = impl_prime_inverse_c := by kernel_rfl
noncomputable def impl_prime_inverse_l1 (a0 : Int) (a1 : Int) (x19 : Int) (x20 : Int) : Option ((Int × Int) ⊕ Int) :=
  (if (decide (x20 < (IntKind.i64.wrap (a0 - 2)))) then (ifp (a0 ≠ 0) ((some (.inl ((Int.tmod (IntKind.i64.wrap (x19 * a1)) a0, IntKind.i64.wrap (x20 + 1))))))) else (some (.inr x19)))
noncomputable def impl_prime_inverse (a0 : Int) (a1 : Int) : Option Int :=
  (Option.bind (α := Int) ((loopM (fun s : (Int × Int) => impl_prime_inverse_l1 a0 a1 s.1 s.2) (1, 0))) fun x13 => (some x13))
set_option maxHeartbeats 16000000 in
theorem impl_prime_inverse_ok (a0 : Int) (a1 : Int) (r : Int) (h : impl_prime_inverse a0 a1 = some r) : Den Try.prog 109 [(.int .i64 a0), (.int .i64 a1)] { r := (.int .i64 r) } := by
  refine den_of (rs := [(.int .i64 r)]) (ac := impl_prime_inverse_c) (L := impl_prime_inverse_L) (n := 17) (m := []) good Try.func109 impl_prime_inverse_body (by kernel_rfl) Try.ntmps109 rfl rfl impl_prime_inverse_strip rfl rfl ?_
  refine a_st (σ' := ⟨[(0, (.int .i64 a0)), (1, (.int .i64 a1))], []⟩) rfl ?_
  unfold impl_prime_inverse_c
  refine a_seq ?_
  refine a_region ?_
  refine a_val (v := (.int .i64 0)) (u := []) rfl trivial rfl ?_
  refine a_nil ?_
  refine a_next (σ' := ⟨[(0, (.int .i64 a0)), (1, (.int .i64 a1))], []⟩) rfl ?_
  refine a_seq ?_
  refine a_region ?_
  refine a_val (v := (.int .i64 1)) (u := []) rfl trivial rfl ?_
  refine a_nil ?_
  refine a_next (σ' := ⟨[(0, (.int .i64 a0)), (1, (.int .i64 a1)), (5, (.int .i64 1))], []⟩) rfl ?_
  obtain ⟨y14, hy15, hk16⟩ := bind_some h
  clear h
  refine a_join (emb := fun (s : Int) => ⟨[(5, (.int .i64 s))], []⟩) (pre := fun s => s = y14) ?_ ?_
  · rintro x13 rfl
    have h := hk16
    refine a_st (σ' := ⟨[(5, (.int .i64 x13))], []⟩) rfl ?_
    refine a_seq ?_
    refine a_region ?_
    refine a_val (v := (.int .i64 x13)) (u := []) rfl trivial rfl ?_
    refine a_val (v := (.int .i64 x13)) (u := []) rfl trivial rfl ?_
    refine a_nil ?_
    refine a_next rfl ?_
    refine a_ret ?_
    refine ⟨.inr rfl, ?_⟩
    rw [Try.results109]
    cases h
    exact ⟨_, _, _, _, _, rfl, trivial, .inl ⟨rfl, .inl rfl⟩, rfl, rfl⟩
  · have h := hy15
    refine a_seq ?_
    refine a_region ?_
    refine a_val (v := (.int .i64 a0)) (u := []) rfl trivial rfl ?_
    refine a_val (v := (.int .i64 (IntKind.i64.wrap (a0 - 2)))) (u := []) rfl trivial rfl ?_
    refine a_val (v := (.int .i64 0)) (u := []) rfl trivial rfl ?_
    refine a_nil ?_
    refine a_next (σ' := ⟨[(0, (.int .i64 a0)), (1, (.int .i64 a1)), (5, (.int .i64 1)), (7, (.int .i64 (IntKind.i64.wrap (a0 - 2)))), (8, (.int .i64 0))], []⟩) rfl ?_
    refine a_block ?_
    refine a_loop (emb := fun (s : (Int × Int)) => ⟨[(0, (.int .i64 a0)), (1, (.int .i64 a1)), (5, (.int .i64 s.1)), (7, (.int .i64 (IntKind.i64.wrap (a0 - 2)))), (8, (.int .i64 s.2))], []⟩) (body := (fun s : (Int × Int) => impl_prime_inverse_l1 a0 a1 s.1 s.2)) (G := fun q => some q = some y14) h rfl ?_ rfl
    rintro X23 ⟨x19, x20⟩ x24 h hX25
    have h : impl_prime_inverse_l1 a0 a1 x19 x20 = some x24 := h
    refine a_st (σ' := ⟨[(0, (.int .i64 a0)), (1, (.int .i64 a1)), (5, (.int .i64 x19)), (7, (.int .i64 (IntKind.i64.wrap (a0 - 2)))), (8, (.int .i64 x20))], []⟩) rfl ?_
    refine a_seq ?_
    refine a_region ?_
    refine a_val (v := (.bool ((decide (x20 < (IntKind.i64.wrap (a0 - 2))))))) (u := []) rfl trivial rfl ?_
    refine a_nil ?_
    refine a_next (σ' := ⟨[(0, (.int .i64 a0)), (1, (.int .i64 a1)), (5, (.int .i64 x19)), (7, (.int .i64 (IntKind.i64.wrap (a0 - 2)))), (8, (.int .i64 x20)), (9, (.bool ((decide (x20 < (IntKind.i64.wrap (a0 - 2)))))))], []⟩) rfl ?_
    refine a_seq ?_
    cases hb26 : (decide (x20 < (IntKind.i64.wrap (a0 - 2))))
    · have h := ite_f hb26 h
      refine a_cond_f rfl ?_
      refine a_exit ?_
      refine t_exit ?_
      cases h
      have h := hX25
      refine t_exit ?_
      refine b_exit ?_
      exact j_leaf x19 (Option.some.inj h) rfl
    · have h := ite_t hb26 h
      refine a_cond_t rfl ?_
      refine a_skip ?_
      refine a_next (σ' := ⟨[(0, (.int .i64 a0)), (1, (.int .i64 a1)), (5, (.int .i64 x19)), (7, (.int .i64 (IntKind.i64.wrap (a0 - 2)))), (8, (.int .i64 x20))], []⟩) rfl ?_
      refine a_seq ?_
      refine a_block ?_
      refine a_region ?_
      refine a_val (v := (.int .i64 x19)) (u := []) rfl trivial rfl ?_
      refine a_val (v := (.int .i64 a1)) (u := []) rfl trivial rfl ?_
      refine a_val (v := (.int .i64 (IntKind.i64.wrap (x19 * a1)))) (u := []) rfl trivial rfl ?_
      refine a_val (v := (.int .i64 a0)) (u := []) rfl trivial rfl ?_
      obtain ⟨hc27, h⟩ := ifp_some h
      refine a_val (v := (.int .i64 (Int.tmod (IntKind.i64.wrap (x19 * a1)) a0))) (u := []) rfl hc27 rfl ?_
      refine a_val (v := (.int .i64 (Int.tmod (IntKind.i64.wrap (x19 * a1)) a0))) (u := []) rfl trivial rfl ?_
      refine a_nil ?_
      refine b_norm ?_
      refine a_next (σ' := ⟨[(0, (.int .i64 a0)), (1, (.int .i64 a1)), (5, (.int .i64 (Int.tmod (IntKind.i64.wrap (x19 * a1)) a0))), (7, (.int .i64 (IntKind.i64.wrap (a0 - 2)))), (8, (.int .i64 x20))], []⟩) rfl ?_
      refine a_region ?_
      refine a_val (v := (.int .i64 (IntKind.i64.wrap (x20 + 1)))) (u := []) rfl trivial rfl ?_
      refine a_val (v := (.int .i64 (IntKind.i64.wrap (x20 + 1)))) (u := []) rfl trivial rfl ?_
      refine a_nil ?_
      cases h
      exact a_again rfl hX25
def impl_prime_reduce_c : ACode := (.seq (.region 0 [⟨some 4, .asg 0 (.const (.int .i64 0)) 2, none, []⟩] false) (.seq (.region 1 [⟨some 5, .mov (.tmp 1), none, []⟩, ⟨some 6, .mov (.tmp 0), none, []⟩, ⟨some 7, .bin .rem 2 (.tmp 5) (.tmp 6), none, []⟩, ⟨some 8, .mov (.tmp 0), none, []⟩, ⟨some 9, .bin .add 2 (.tmp 7) (.tmp 8), none, []⟩, ⟨some 10, .mov (.tmp 0), none, []⟩, ⟨some 11, .bin .rem 2 (.tmp 9) (.tmp 10), none, []⟩, ⟨some 4, .asg 0 (.tmp 11) 2, none, []⟩] false) .ret))
def impl_prime_reduce_L : Live := [(0, [0, 1]), (1, [0, 1])]
theorem impl_prime_reduce_body : Try.f110.body = some (Try.f110.body.getD .skip) := by kernel_rfl
theorem impl_prime_reduce_strip : strip [] (Try.f110.body.getD .skip) = impl_prime_reduce_c := by kernel_rfl
noncomputable def impl_prime_reduce (a0 : Int) (a1 : Int) : Option Int :=
  (ifp (a0 ≠ 0) ((ifp (a0 ≠ 0) ((some (Int.tmod (IntKind.i64.wrap ((Int.tmod a1 a0) + a0)) a0))))))
set_option maxHeartbeats 16000000 in
theorem impl_prime_reduce_ok (a0 : Int) (a1 : Int) (r : Int) (h : impl_prime_reduce a0 a1 = some r) : Den Try.prog 110 [(.int .i64 a0), (.int .i64 a1)] { r := (.int .i64 r) } := by
  refine den_of (rs := [(.int .i64 r)]) (ac := impl_prime_reduce_c) (L := impl_prime_reduce_L) (n := 12) (m := []) good Try.func110 impl_prime_reduce_body (by kernel_rfl) Try.ntmps110 rfl rfl impl_prime_reduce_strip rfl rfl ?_
  refine a_st (σ' := ⟨[(0, (.int .i64 a0)), (1, (.int .i64 a1))], []⟩) rfl ?_
  unfold impl_prime_reduce_c
  refine a_seq ?_
  refine a_region ?_
  refine a_val (v := (.int .i64 0)) (u := []) rfl trivial rfl ?_
  refine a_nil ?_
  refine a_next (σ' := ⟨[(0, (.int .i64 a0)), (1, (.int .i64 a1))], []⟩) rfl ?_
  refine a_seq ?_
  refine a_region ?_
  refine a_val (v := (.int .i64 a1)) (u := []) rfl trivial rfl ?_
  refine a_val (v := (.int .i64 a0)) (u := []) rfl trivial rfl ?_
  obtain ⟨hc1, h⟩ := ifp_some h
  refine a_val (v := (.int .i64 (Int.tmod a1 a0))) (u := []) rfl hc1 rfl ?_
  refine a_val (v := (.int .i64 a0)) (u := []) rfl trivial rfl ?_
  refine a_val (v := (.int .i64 (IntKind.i64.wrap ((Int.tmod a1 a0) + a0)))) (u := []) rfl trivial rfl ?_
  refine a_val (v := (.int .i64 a0)) (u := []) rfl trivial rfl ?_
  obtain ⟨hc2, h⟩ := ifp_some h
  refine a_val (v := (.int .i64 (Int.tmod (IntKind.i64.wrap ((Int.tmod a1 a0) + a0)) a0))) (u := []) rfl hc2 rfl ?_
  refine a_val (v := (.int .i64 (Int.tmod (IntKind.i64.wrap ((Int.tmod a1 a0) + a0)) a0))) (u := []) rfl trivial rfl ?_
  refine a_nil ?_
  refine a_next rfl ?_
  refine a_ret ?_
  refine ⟨.inr rfl, ?_⟩
  rw [Try.results110]
  cases h
  exact ⟨_, _, _, _, _, rfl, trivial, .inl ⟨rfl, .inl rfl⟩, rfl, rfl⟩
def impl_prime_root_c : ACode := (.seq (.region 0 [⟨some 4, .asg 1 (.const (.slice none 0 0)) 66, none, []⟩] false) (.seq (.region 1 [⟨some 11, .mov (.tmp 1), none, []⟩, ⟨some 12, .call 0 (.func 100) [(.tmp 11)], none, []⟩, ⟨some 13, .bin .quo 2 (.tmp 12) (.const (.int .i64 2)), none, []⟩, ⟨some 5, .asg 0 (.tmp 13) 3, none, []⟩] false) (.seq (.region 2 [⟨some 14, .mov (.tmp 0), none, []⟩, ⟨some 15, .mov (.tmp 0), none, []⟩, ⟨some 16, .bin .rem 2 (.const (.int .i64 2)) (.tmp 15), none, []⟩, ⟨some 17, .call 0 (.func 109) [(.tmp 14), (.tmp 16)], none, []⟩, ⟨some 6, .asg 0 (.tmp 17) 2, none, []⟩] false) (.seq (.region 3 [⟨some 18, .mov (.tmp 5), none, []⟩, ⟨some 19, .bin .add 3 (.tmp 18) (.const (.int .i64 1)), none, []⟩, ⟨some 20, .mkslice 66 (.tmp 19) (.tmp 19), none, []⟩, ⟨some 7, .asg 2 (.tmp 20) 66, none, []⟩] false) (.seq (.region 4 [⟨some 21, .mov (.tmp 7), none, []⟩, ⟨some 22, .mov (.tmp 5), none, []⟩, ⟨some 23, .indexAddr 66 (.tmp 21) (.tmp 22), none, []⟩, ⟨none, .store 2 (.tmp 23) (.const (.int .i64 1)), none, []⟩] false) (.seq (.seq (.region 5 [⟨some 8, .asg 0 (.const (.int .i64 1)) 3, none, []⟩] false) (.block 0 (.loop (.seq (.seq (.region 6 [⟨some 24, .mov (.tmp 8), none, []⟩, ⟨some 25, .mov (.tmp 5), none, []⟩, ⟨some 26, .bin .leq 3 (.tmp 24) (.tmp 25), none, []⟩] false) (.cond (.tmp 26) .skip (.exit 0))) (.seq (.block 1 (.seq (.region 8 [⟨some 29, .mov (.tmp 1), none, []⟩, ⟨some 30, .mov (.tmp 5), none, []⟩, ⟨some 31, .bin .mul 3 (.const (.int .i64 2)) (.tmp 30), none, []⟩, ⟨some 32, .mov (.tmp 8), none, []⟩, ⟨some 33, .bin .sub 3 (.tmp 31) (.tmp 32), none, []⟩, ⟨some 34, .indexAddr 66 (.tmp 29) (.tmp 33), none, []⟩, ⟨some 35, .load 2 (.tmp 34), none, []⟩, ⟨some 9, .asg 0 (.tmp 35) 2, none, []⟩] false) (.seq (.seq (.region 9 [⟨some 10, .asg 0 (.const (.int .i64 1)) 3, none, []⟩] false) (.block 2 (.loop (.seq (.seq (.region 10 [⟨some 36, .mov (.tmp 10), none, []⟩, ⟨some 37, .mov (.tmp 8), none, []⟩, ⟨some 38, .bin .lss 3 (.tmp 36) (.tmp 37), none, []⟩] false) (.cond (.tmp 38) .skip (.exit 2))) (.seq (.block 3 (.region 12 [⟨some 41, .mov (.tmp 9), none, []⟩, ⟨some 42, .mov (.tmp 7), none, []⟩, ⟨some 43, .mov (.tmp 5), none, []⟩, ⟨some 44, .mov (.tmp 10), none, []⟩, ⟨some 45, .bin .sub 3 (.tmp 43) (.tmp 44), none, [2, 3]⟩, ⟨some 46, .indexAddr 66 (.tmp 42) (.tmp 45), none, [1, 4]⟩, ⟨some 47, .load 2 (.tmp 46), none, [5]⟩, ⟨some 48, .mov (.tmp 7), none, []⟩, ⟨some 49, .mov (.tmp 5), none, []⟩, ⟨some 50, .mov (.tmp 8), none, []⟩, ⟨some 51, .bin .sub 3 (.tmp 49) (.tmp 50), none, [8, 9]⟩, ⟨some 52, .mov (.tmp 10), none, []⟩, ⟨some 53, .bin .add 3 (.tmp 51) (.tmp 52), none, [10, 11]⟩, ⟨some 54, .indexAddr 66 (.tmp 48) (.tmp 53), none, [7, 12]⟩, ⟨some 55, .load 2 (.tmp 54), none, [13]⟩, ⟨some 56, .bin .mul 2 (.tmp 47) (.tmp 55), none, [6, 14]⟩, ⟨some 57, .bin .sub 2 (.tmp 41) (.tmp 56), none, [0, 15]⟩, ⟨some 9, .asg 0 (.tmp 57) 2, none, [16, 0, 1, 2, 3, 4, 5, 6, 7, 8, 9, 10, 11, 12, 13, 14, 15, 16]⟩] true)) (.region 11 [⟨some 39, .mov (.tmp 10), none, []⟩, ⟨some 40, .bin .add 3 (.tmp 39) (.const (.int .i64 1)), none, []⟩, ⟨some 10, .asg 0 (.tmp 40) 3, none, []⟩] false)))))) (.region 13 [⟨some 58, .mov (.tmp 7), none, []⟩, ⟨some 59, .mov (.tmp 5), none, []⟩, ⟨some 60, .mov (.tmp 8), none, []⟩, ⟨some 61, .bin .sub 3 (.tmp 59) (.tmp 60), none, []⟩, ⟨some 62, .mov (.tmp 0), none, []⟩, ⟨some 63, .mov (.tmp 9), none, []⟩, ⟨some 64, .call 0 (.func 110) [(.tmp 62), (.tmp 63)], none, []⟩, ⟨some 65, .mov (.tmp 6), none, []⟩, ⟨some 66, .bin .mul 2 (.tmp 64) (.tmp 65), none, []⟩, ⟨some 67, .mov (.tmp 0), none, []⟩, ⟨some 68, .bin .rem 2 (.tmp 66) (.tmp 67), none, []⟩, ⟨some 69, .indexAddr 66 (.tmp 58) (.tmp 61), none, []⟩, ⟨none, .store 2 (.tmp 69) (.tmp 68), none, []⟩] false)))) (.region 7 [⟨some 27, .mov (.tmp 8), none, []⟩, ⟨some 28, .bin .add 3 (.tmp 27) (.const (.int .i64 1)), none, []⟩, ⟨some 8, .asg 0 (.tmp 28) 3, none, []⟩] false)))))) (.seq (.region 14 [⟨some 70, .mov (.tmp 7), none, []⟩, ⟨some 4, .asg 1 (.tmp 70) 66, none, []⟩] false) .ret)))))))
def impl_prime_root_L : Live := [(0, [0, 1]), (1, [0, 1]), (2, [0, 1, 5]), (3, [0, 1, 5, 6]), (4, [0, 1, 5, 6, 7]), (5, [0, 1, 5, 6, 7]), (6, [0, 1, 5, 6, 7, 8]), (7, [0, 1, 5, 6, 7, 8]), (8, [0, 1, 5, 6, 7, 8]), (9, [0, 1, 5, 6, 7, 8, 9]), (10, [0, 1, 5, 6, 7, 8, 9, 10]), (11, [0, 1, 5, 6, 7, 8, 9, 10]), (12, [0, 1, 5, 6, 7, 8, 9, 10]), (13, [0, 1, 5, 6, 7, 8, 9]), (14, [7]), (100026, [0, 1, 5, 6, 7, 8, 26]), (100038, [0, 1, 5, 6, 7, 8, 9, 10, 38])]
theorem impl_prime_root_body : Try.f75.body = some (Try.f75.body.getD .skip) := by kernel_rfl
theorem impl_prime_root_strip : strip [(4, 1), (7, 2)] (Try.f75.body.getD .skip) = impl_prime_root_c := by kernel_rfl
noncomputable def impl_prime_root_l2 (x643 : Int) (r1 : Int) (x644 : (List Int)) (x899 : Int) (x900 : Int) : Option ((Int × Int) ⊕ Int) :=
  (if (decide (x900 < x643)) then (ifp (0 ≤ IntKind.i64.wrap ((IntKind.i64.wrap (Int.tdiv r1 2)) - x900) ∧ IntKind.i64.wrap ((IntKind.i64.wrap (Int.tdiv r1 2)) - x900) < ((x644.length : Nat) : Int)) ((letp ((rd x644 (IntKind.i64.wrap ((IntKind.i64.wrap (Int.tdiv r1 2)) - x900)).toNat)) fun x938 => (letp (IntKind.i64.wrap ((IntKind.i64.wrap ((IntKind.i64.wrap (Int.tdiv r1 2)) - x643)) + x900)) fun x940 => (ifp (0 ≤ x940 ∧ x940 < ((x644.length : Nat) : Int)) ((letp (IntKind.i64.wrap (x899 - (IntKind.i64.wrap (x938 * (rd x644 x940.toNat))))) fun x944 => (some (.inl ((x944, IntKind.i64.wrap (x900 + 1)))))))))))) else (some (.inr x899)))
noncomputable def impl_prime_root_l1 (r1 : Int) (a1 : (List Int)) (a0 : Int) (r4 : Int) (x643 : Int) (x644 : (List Int)) : Option ((Int × (List Int)) ⊕ (List Int)) :=
  (if (decide (x643 ≤ (IntKind.i64.wrap (Int.tdiv r1 2)))) then (letp (IntKind.i64.wrap ((IntKind.i64.wrap (2 * (IntKind.i64.wrap (Int.tdiv r1 2)))) - x643)) fun x801 => (ifp (0 ≤ x801 ∧ x801 < ((a1.length : Nat) : Int)) ((Option.bind (α := Int) ((loopM (fun s : (Int × Int) => impl_prime_root_l2 x643 r1 x644 s.1 s.2) ((rd a1 x801.toNat), 1))) fun x874 => (Option.bind (impl_prime_reduce a0 x874) fun r947 => (ifp (a0 ≠ 0) ((ifp (0 ≤ IntKind.i64.wrap ((IntKind.i64.wrap (Int.tdiv r1 2)) - x643) ∧ IntKind.i64.wrap ((IntKind.i64.wrap (Int.tdiv r1 2)) - x643) < ((x644.length : Nat) : Int)) ((some (.inl ((IntKind.i64.wrap (x643 + 1), (x644.set (IntKind.i64.wrap ((IntKind.i64.wrap (Int.tdiv r1 2)) - x643)).toNat (Int.tmod (IntKind.i64.wrap (r947 * r4)) a0))))))))))))))) else (some (.inr x644)))
noncomputable def impl_prime_root (a0 : Int) (a1 : (List Int)) : Option (List Int) :=
  (Option.bind (impl_row_degree a1) fun r1 => (ifp (a0 ≠ 0) ((Option.bind (impl_prime_inverse a0 (Int.tmod 2 a0)) fun r4 => (ifp (0 ≤ IntKind.i64.wrap ((IntKind.i64.wrap (Int.tdiv r1 2)) + 1) ∧ IntKind.i64.wrap ((IntKind.i64.wrap (Int.tdiv r1 2)) + 1) ≤ 140737488355328 ∧ 8 * IntKind.i64.wrap ((IntKind.i64.wrap (Int.tdiv r1 2)) + 1) ≤ 140737488355328) ((ifp (0 ≤ IntKind.i64.wrap (Int.tdiv r1 2) ∧ IntKind.i64.wrap (Int.tdiv r1 2) < (((List.replicate (IntKind.i64.wrap ((IntKind.i64.wrap (Int.tdiv r1 2)) + 1)).toNat (0 : Int)).length : Nat) : Int)) ((Option.bind (α := (List Int)) ((loopM (fun s : (Int × (List Int)) => impl_prime_root_l1 r1 a1 a0 r4 s.1 s.2) (1, ((List.replicate (IntKind.i64.wrap ((IntKind.i64.wrap (Int.tdiv r1 2)) + 1)).toNat (0 : Int)).set (IntKind.i64.wrap (Int.tdiv r1 2)).toNat 1)))) fun x479 => (some x479))))))))))
set_option maxHeartbeats 16000000 in
theorem impl_prime_root_ok (a0 : Int) (a1 : (List Int)) (r : (List Int)) (h : impl_prime_root a0 a1 = some r) : Den Try.prog 75 [(.int .i64 a0), (eSi64 a1)] { r := (eSi64 r) } := by
  refine den_of (rs := [(eSi64 r)]) (ac := impl_prime_root_c) (L := impl_prime_root_L) (n := 71) (m := [(4, 1), (7, 2)]) good Try.func75 impl_prime_root_body (by kernel_rfl) Try.ntmps75 rfl rfl impl_prime_root_strip rfl rfl ?_
  refine a_st (σ' := ⟨[(0, (.int .i64 a0)), (1, (eSi64 a1))], []⟩) rfl ?_
  unfold impl_prime_root_c
  refine a_seq ?_
  refine a_region ?_
  refine a_val (v := (eSi64 ([]))) (u := []) rfl trivial rfl ?_
  refine a_nil ?_
  refine a_next (σ' := ⟨[(0, (.int .i64 a0)), (1, (eSi64 a1))], []⟩) rfl ?_
  refine a_seq ?_
  refine a_region ?_
  refine a_val (v := (eSi64 a1)) (u := []) rfl trivial rfl ?_
  obtain ⟨r1, hr2, h⟩ := bind_some h
  refine a_call (args := [(eSi64 a1)]) (u := []) (r := (.int .i64 r1)) rfl rfl (impl_row_degree_ok a1 r1 hr2) rfl ?_
  refine a_val (v := (.int .i64 (IntKind.i64.wrap (Int.tdiv r1 2)))) (u := []) rfl (by decide) rfl ?_
  refine a_val (v := (.int .i64 (IntKind.i64.wrap (Int.tdiv r1 2)))) (u := []) rfl trivial rfl ?_
  refine a_nil ?_
  refine a_next (σ' := ⟨[(0, (.int .i64 a0)), (1, (eSi64 a1)), (5, (.int .i64 (IntKind.i64.wrap (Int.tdiv r1 2))))], []⟩) rfl ?_
  refine a_seq ?_
  refine a_region ?_
  refine a_val (v := (.int .i64 a0)) (u := []) rfl trivial rfl ?_
  refine a_val (v := (.int .i64 a0)) (u := []) rfl trivial rfl ?_
  obtain ⟨hc3, h⟩ := ifp_some h
  refine a_val (v := (.int .i64 (Int.tmod 2 a0))) (u := []) rfl hc3 rfl ?_
  obtain ⟨r4, hr5, h⟩ := bind_some h
  refine a_call (args := [(.int .i64 a0), (.int .i64 (Int.tmod 2 a0))]) (u := []) (r := (.int .i64 r4)) rfl rfl (impl_prime_inverse_ok a0 (Int.tmod 2 a0) r4 hr5) rfl ?_
  refine a_val (v := (.int .i64 r4)) (u := []) rfl trivial rfl ?_
  refine a_nil ?_
  refine a_next (σ' := ⟨[(0, (.int .i64 a0)), (1, (eSi64 a1)), (5, (.int .i64 (IntKind.i64.wrap (Int.tdiv r1 2)))), (6, (.int .i64 r4))], []⟩) rfl ?_
  refine a_seq ?_
  refine a_region ?_
  refine a_val (v := (.int .i64 (IntKind.i64.wrap (Int.tdiv r1 2)))) (u := []) rfl trivial rfl ?_
  refine a_val (v := (.int .i64 (IntKind.i64.wrap ((IntKind.i64.wrap (Int.tdiv r1 2)) + 1)))) (u := []) rfl trivial rfl ?_
  obtain ⟨hc6, h⟩ := ifp_some h
  refine a_val (v := (.osl 3000)) (u := [(3000, some ⟨(.row 1 ((List.replicate (IntKind.i64.wrap ((IntKind.i64.wrap (Int.tdiv r1 2)) + 1)).toNat (0 : Int)).map (AV.int .i64))), false⟩)]) (mk_run (i := ⟨.int .i64, 1, 8, (.int .i64 0)⟩) (f := (AV.int .i64)) (y := (0 : Int)) rfl rfl rfl rfl rfl rfl) ⟨rfl, hc6.1, hc6.2.1, hc6.2.2, (Nat.le_of_ble_eq_true rfl)⟩ rfl ?_
  refine a_val (v := (.osl 3000)) (u := []) rfl trivial rfl ?_
  refine a_nil ?_
  refine a_next (σ' := ⟨[(0, (.int .i64 a0)), (1, (eSi64 a1)), (5, (.int .i64 (IntKind.i64.wrap (Int.tdiv r1 2)))), (6, (.int .i64 r4)), (7, (.osl 7))], [(7, some ⟨(.row 1 ((List.replicate (IntKind.i64.wrap ((IntKind.i64.wrap (Int.tdiv r1 2)) + 1)).toNat (0 : Int)).map (AV.int .i64))), false⟩)]⟩) rfl ?_
  refine a_seq ?_
  refine a_region ?_
  refine a_val (v := (.osl 7)) (u := []) rfl trivial rfl ?_
  refine a_val (v := (.int .i64 (IntKind.i64.wrap (Int.tdiv r1 2)))) (u := []) rfl trivial rfl ?_
  obtain ⟨hc7, h⟩ := ifp_some h
  refine a_val (v := (.own 7 [(IntKind.i64.wrap (Int.tdiv r1 2)).toNat] [(IntKind.i64.wrap (Int.tdiv r1 2)).toNat * 1])) (u := []) rfl (lmap hc7) rfl ?_
  have hs8 : StOk [(IntKind.i64.wrap (Int.tdiv r1 2)).toNat] (.row 1 ((List.replicate (IntKind.i64.wrap ((IntKind.i64.wrap (Int.tdiv r1 2)) + 1)).toNat (0 : Int)).map (AV.int .i64))) [(IntKind.i64.wrap (Int.tdiv r1 2)).toNat * 1] 1 (.int .i64 1) (.row 1 ((((List.replicate (IntKind.i64.wrap ((IntKind.i64.wrap (Int.tdiv r1 2)) + 1)).toNat (0 : Int)).set (IntKind.i64.wrap (Int.tdiv r1 2)).toNat 1)).map (AV.int .i64))) := (.row (y := 1) (llt hc7) rfl (.nil rfl rfl rfl rfl))
  refine a_val (v := .top) (u := [(7, some ⟨(.row 1 ((((List.replicate (IntKind.i64.wrap ((IntKind.i64.wrap (Int.tdiv r1 2)) + 1)).toNat (0 : Int)).set (IntKind.i64.wrap (Int.tdiv r1 2)).toNat 1)).map (AV.int .i64))), false⟩)]) (st_own (i := ⟨.int .i64, 1, 8, (.int .i64 0)⟩) rfl rfl (fun _ => rfl) rfl hs8) (hs8.c rfl) rfl ?_
  refine a_nil ?_
  refine a_next (σ' := ⟨[(0, (.int .i64 a0)), (1, (eSi64 a1)), (5, (.int .i64 (IntKind.i64.wrap (Int.tdiv r1 2)))), (6, (.int .i64 r4)), (7, (.osl 7))], [(7, some ⟨(.row 1 ((((List.replicate (IntKind.i64.wrap ((IntKind.i64.wrap (Int.tdiv r1 2)) + 1)).toNat (0 : Int)).set (IntKind.i64.wrap (Int.tdiv r1 2)).toNat 1)).map (AV.int .i64))), false⟩)]⟩) rfl ?_
  obtain ⟨y480, hy481, hk482⟩ := bind_some h
  clear h
  refine a_join (emb := fun (s : (List Int)) => ⟨[(7, (.osl 7))], [(7, some ⟨(.row 1 (s.map (AV.int .i64))), false⟩)]⟩) (pre := fun s => s = y480) ?_ ?_
  · rintro x479 rfl
    have h := hk482
    refine a_st (σ' := ⟨[(7, (.osl 7))], [(7, some ⟨(.row 1 (x479.map (AV.int .i64))), false⟩)]⟩) rfl ?_
    refine a_seq ?_
    refine a_region ?_
    refine a_val (v := (.osl 7)) (u := []) rfl trivial rfl ?_
    refine a_val (v := (eSi64 x479)) (u := [(7, some ⟨(.row 1 (x479.map (AV.int .i64))), true⟩)]) rfl trivial rfl ?_
    refine a_nil ?_
    refine a_next rfl ?_
    refine a_ret ?_
    refine ⟨.inr rfl, ?_⟩
    rw [Try.results75]
    cases h
    exact ⟨_, _, _, _, _, rfl, trivial, .inl ⟨rfl, .inl rfl⟩, rfl, rfl⟩
  · have h := hy481
    refine a_seq ?_
    refine a_region ?_
    refine a_val (v := (.int .i64 1)) (u := []) rfl trivial rfl ?_
    refine a_nil ?_
    refine a_next (σ' := ⟨[(0, (.int .i64 a0)), (1, (eSi64 a1)), (5, (.int .i64 (IntKind.i64.wrap (Int.tdiv r1 2)))), (6, (.int .i64 r4)), (7, (.osl 7)), (8, (.int .i64 1))], [(7, some ⟨(.row 1 ((((List.replicate (IntKind.i64.wrap ((IntKind.i64.wrap (Int.tdiv r1 2)) + 1)).toNat (0 : Int)).set (IntKind.i64.wrap (Int.tdiv r1 2)).toNat 1)).map (AV.int .i64))), false⟩)]⟩) rfl ?_
    refine a_block ?_
    refine a_loop (emb := fun (s : (Int × (List Int))) => ⟨[(0, (.int .i64 a0)), (1, (eSi64 a1)), (5, (.int .i64 (IntKind.i64.wrap (Int.tdiv r1 2)))), (6, (.int .i64 r4)), (7, (.osl 7)), (8, (.int .i64 s.1))], [(7, some ⟨(.row 1 (s.2.map (AV.int .i64))), false⟩)]⟩) (body := (fun s : (Int × (List Int)) => impl_prime_root_l1 r1 a1 a0 r4 s.1 s.2)) (G := fun q => some q = some y480) h rfl ?_ rfl
    rintro X797 ⟨x643, x644⟩ x798 h hX799
    have h : impl_prime_root_l1 r1 a1 a0 r4 x643 x644 = some x798 := h
    refine a_st (σ' := ⟨[(0, (.int .i64 a0)), (1, (eSi64 a1)), (5, (.int .i64 (IntKind.i64.wrap (Int.tdiv r1 2)))), (6, (.int .i64 r4)), (7, (.osl 7)), (8, (.int .i64 x643))], [(7, some ⟨(.row 1 (x644.map (AV.int .i64))), false⟩)]⟩) rfl ?_
    refine a_seq ?_
    refine a_seq ?_
    refine a_region ?_
    refine a_val (v := (.int .i64 x643)) (u := []) rfl trivial rfl ?_
    refine a_val (v := (.int .i64 (IntKind.i64.wrap (Int.tdiv r1 2)))) (u := []) rfl trivial rfl ?_
    refine a_val (v := (.bool ((decide (x643 ≤ (IntKind.i64.wrap (Int.tdiv r1 2))))))) (u := []) rfl trivial rfl ?_
    refine a_nil ?_
    refine a_next (σ' := ⟨[(0, (.int .i64 a0)), (1, (eSi64 a1)), (5, (.int .i64 (IntKind.i64.wrap (Int.tdiv r1 2)))), (6, (.int .i64 r4)), (7, (.osl 7)), (8, (.int .i64 x643)), (26, (.bool ((decide (x643 ≤ (IntKind.i64.wrap (Int.tdiv r1 2)))))))], [(7, some ⟨(.row 1 (x644.map (AV.int .i64))), false⟩)]⟩) rfl ?_
    cases hb800 : (decide (x643 ≤ (IntKind.i64.wrap (Int.tdiv r1 2))))
    · have h := ite_f hb800 h
      refine a_cond_f rfl ?_
      refine a_exit ?_
      refine t_exit ?_
      cases h
      have h := hX799
      refine t_exit ?_
      refine b_exit ?_
      exact j_leaf x644 (Option.some.inj h) rfl
    · have h := ite_t hb800 h
      refine a_cond_t rfl ?_
      refine a_skip ?_
      refine a_next (σ' := ⟨[(0, (.int .i64 a0)), (1, (eSi64 a1)), (5, (.int .i64 (IntKind.i64.wrap (Int.tdiv r1 2)))), (6, (.int .i64 r4)), (7, (.osl 7)), (8, (.int .i64 x643))], [(7, some ⟨(.row 1 (x644.map (AV.int .i64))), false⟩)]⟩) rfl ?_
      refine a_seq ?_
      refine a_block ?_
      refine a_seq ?_
      refine a_region ?_
      refine a_val (v := (eSi64 a1)) (u := []) rfl trivial rfl ?_
      refine a_val (v := (.int .i64 (IntKind.i64.wrap (Int.tdiv r1 2)))) (u := []) rfl trivial rfl ?_
      refine a_val (v := (.int .i64 (IntKind.i64.wrap (2 * (IntKind.i64.wrap (Int.tdiv r1 2)))))) (u := []) rfl trivial rfl ?_
      refine a_val (v := (.int .i64 x643)) (u := []) rfl trivial rfl ?_
      obtain ⟨x801, hx802, h⟩ := letp_some h
      refine a_val' (v := (.int .i64 (IntKind.i64.wrap ((IntKind.i64.wrap (2 * (IntKind.i64.wrap (Int.tdiv r1 2)))) - x643)))) (v' := (.int .i64 x801)) (u := []) (u' := []) rfl (congrArg (fun z => ((.int .i64 z) : AV)) hx802) rfl trivial rfl ?_
      obtain ⟨hc803, h⟩ := ifp_some h
      refine a_val (v := (.ref (.row 1 (a1.map (AV.int .i64))) [x801.toNat] [x801.toNat * 1])) (u := []) rfl (lmap hc803) rfl ?_
      have hl804 : LdOk [x801.toNat] (.row 1 (a1.map (AV.int .i64))) [x801.toNat * 1] 1 false (.int .i64 (rd a1 x801.toNat)) := (.row (llt hc803) rfl (.nil rfl rfl rfl))
      refine a_val (v := (.int .i64 (rd a1 x801.toNat))) (u := []) (ld_ref (i := ⟨.int .i64, 1, 8, (.int .i64 0)⟩) rfl rfl hl804) hl804.c rfl ?_
      refine a_val (v := (.int .i64 (rd a1 x801.toNat))) (u := []) rfl trivial rfl ?_
      refine a_nil ?_
      refine a_next (σ' := ⟨[(0, (.int .i64 a0)), (1, (eSi64 a1)), (5, (.int .i64 (IntKind.i64.wrap (Int.tdiv r1 2)))), (6, (.int .i64 r4)), (7, (.osl 7)), (8, (.int .i64 x643)), (9, (.int .i64 (rd a1 x801.toNat)))], [(7, some ⟨(.row 1 (x644.map (AV.int .i64))), false⟩)]⟩) rfl ?_
      obtain ⟨y875, hy876, hk877⟩ := bind_some h
      clear h
      refine a_join (emb := fun (s : Int) => ⟨[(0, (.int .i64 a0)), (1, (eSi64 a1)), (5, (.int .i64 (IntKind.i64.wrap (Int.tdiv r1 2)))), (6, (.int .i64 r4)), (7, (.osl 7)), (8, (.int .i64 x643)), (9, (.int .i64 s))], [(7, some ⟨(.row 1 (x644.map (AV.int .i64))), false⟩)]⟩) (pre := fun s => s = y875) ?_ ?_
      · rintro x874 rfl
        have h := hk877
        refine a_st (σ' := ⟨[(0, (.int .i64 a0)), (1, (eSi64 a1)), (5, (.int .i64 (IntKind.i64.wrap (Int.tdiv r1 2)))), (6, (.int .i64 r4)), (7, (.osl 7)), (8, (.int .i64 x643)), (9, (.int .i64 x874))], [(7, some ⟨(.row 1 (x644.map (AV.int .i64))), false⟩)]⟩) rfl ?_
        refine a_region ?_
        refine a_val (v := (.osl 7)) (u := []) rfl trivial rfl ?_
        refine a_val (v := (.int .i64 (IntKind.i64.wrap (Int.tdiv r1 2)))) (u := []) rfl trivial rfl ?_
        refine a_val (v := (.int .i64 x643)) (u := []) rfl trivial rfl ?_
        refine a_val (v := (.int .i64 (IntKind.i64.wrap ((IntKind.i64.wrap (Int.tdiv r1 2)) - x643)))) (u := []) rfl trivial rfl ?_
        refine a_val (v := (.int .i64 a0)) (u := []) rfl trivial rfl ?_
        refine a_val (v := (.int .i64 x874)) (u := []) rfl trivial rfl ?_
        obtain ⟨r947, hr948, h⟩ := bind_some h
        refine a_call (args := [(.int .i64 a0), (.int .i64 x874)]) (u := []) (r := (.int .i64 r947)) rfl rfl (impl_prime_reduce_ok a0 x874 r947 hr948) rfl ?_
        refine a_val (v := (.int .i64 r4)) (u := []) rfl trivial rfl ?_
        refine a_val (v := (.int .i64 (IntKind.i64.wrap (r947 * r4)))) (u := []) rfl trivial rfl ?_
        refine a_val (v := (.int .i64 a0)) (u := []) rfl trivial rfl ?_
        obtain ⟨hc949, h⟩ := ifp_some h
        refine a_val (v := (.int .i64 (Int.tmod (IntKind.i64.wrap (r947 * r4)) a0))) (u := []) rfl hc949 rfl ?_
        obtain ⟨hc950, h⟩ := ifp_some h
        refine a_val (v := (.own 7 [(IntKind.i64.wrap ((IntKind.i64.wrap (Int.tdiv r1 2)) - x643)).toNat] [(IntKind.i64.wrap ((IntKind.i64.wrap (Int.tdiv r1 2)) - x643)).toNat * 1])) (u := []) rfl (lmap hc950) rfl ?_
        have hs951 : StOk [(IntKind.i64.wrap ((IntKind.i64.wrap (Int.tdiv r1 2)) - x643)).toNat] (.row 1 (x644.map (AV.int .i64))) [(IntKind.i64.wrap ((IntKind.i64.wrap (Int.tdiv r1 2)) - x643)).toNat * 1] 1 (.int .i64 (Int.tmod (IntKind.i64.wrap (r947 * r4)) a0)) (.row 1 (((x644.set (IntKind.i64.wrap ((IntKind.i64.wrap (Int.tdiv r1 2)) - x643)).toNat (Int.tmod (IntKind.i64.wrap (r947 * r4)) a0))).map (AV.int .i64))) := (.row (y := Int.tmod (IntKind.i64.wrap (r947 * r4)) a0) (llt hc950) rfl (.nil rfl rfl rfl rfl))
        refine a_val (v := .top) (u := [(7, some ⟨(.row 1 (((x644.set (IntKind.i64.wrap ((IntKind.i64.wrap (Int.tdiv r1 2)) - x643)).toNat (Int.tmod (IntKind.i64.wrap (r947 * r4)) a0))).map (AV.int .i64))), false⟩)]) (st_own (i := ⟨.int .i64, 1, 8, (.int .i64 0)⟩) rfl rfl (fun _ => rfl) rfl hs951) (hs951.c rfl) rfl ?_
        refine a_nil ?_
        refine b_norm ?_
        refine a_next (σ' := ⟨[(0, (.int .i64 a0)), (1, (eSi64 a1)), (5, (.int .i64 (IntKind.i64.wrap (Int.tdiv r1 2)))), (6, (.int .i64 r4)), (7, (.osl 7)), (8, (.int .i64 x643))], [(7, some ⟨(.row 1 (((x644.set (IntKind.i64.wrap ((IntKind.i64.wrap (Int.tdiv r1 2)) - x643)).toNat (Int.tmod (IntKind.i64.wrap (r947 * r4)) a0))).map (AV.int .i64))), false⟩)]⟩) rfl ?_
        refine a_region ?_
        refine a_val (v := (.int .i64 x643)) (u := []) rfl trivial rfl ?_
        refine a_val (v := (.int .i64 (IntKind.i64.wrap (x643 + 1)))) (u := []) rfl trivial rfl ?_
        refine a_val (v := (.int .i64 (IntKind.i64.wrap (x643 + 1)))) (u := []) rfl trivial rfl ?_
        refine a_nil ?_
        cases h
        exact a_again rfl hX799
      · have h := hy876
        refine a_seq ?_
        refine a_region ?_
        refine a_val (v := (.int .i64 1)) (u := []) rfl trivial rfl ?_
        refine a_nil ?_
        refine a_next (σ' := ⟨[(0, (.int .i64 a0)), (1, (eSi64 a1)), (5, (.int .i64 (IntKind.i64.wrap (Int.tdiv r1 2)))), (6, (.int .i64 r4)), (7, (.osl 7)), (8, (.int .i64 x643)), (9, (.int .i64 (rd a1 x801.toNat))), (10, (.int .i64 1))], [(7, some ⟨(.row 1 (x644.map (AV.int .i64))), false⟩)]⟩) rfl ?_
        refine a_block ?_
        refine a_loop (emb := fun (s : (Int × Int)) => ⟨[(0, (.int .i64 a0)), (1, (eSi64 a1)), (5, (.int .i64 (IntKind.i64.wrap (Int.tdiv r1 2)))), (6, (.int .i64 r4)), (7, (.osl 7)), (8, (.int .i64 x643)), (9, (.int .i64 s.1)), (10, (.int .i64 s.2))], [(7, some ⟨(.row 1 (x644.map (AV.int .i64))), false⟩)]⟩) (body := (fun s : (Int × Int) => impl_prime_root_l2 x643 r1 x644 s.1 s.2)) (G := fun q => some q = some y875) h rfl ?_ rfl
        rintro X922 ⟨x899, x900⟩ x923 h hX924
        have h : impl_prime_root_l2 x643 r1 x644 x899 x900 = some x923 := h
        refine a_st (σ' := ⟨[(0, (.int .i64 a0)), (1, (eSi64 a1)), (5, (.int .i64 (IntKind.i64.wrap (Int.tdiv r1 2)))), (6, (.int .i64 r4)), (7, (.osl 7)), (8, (.int .i64 x643)), (9, (.int .i64 x899)), (10, (.int .i64 x900))], [(7, some ⟨(.row 1 (x644.map (AV.int .i64))), false⟩)]⟩) rfl ?_
        refine a_seq ?_
        refine a_seq ?_
        refine a_region ?_
        refine a_val (v := (.int .i64 x900)) (u := []) rfl trivial rfl ?_
        refine a_val (v := (.int .i64 x643)) (u := []) rfl trivial rfl ?_
        refine a_val (v := (.bool ((decide (x900 < x643))))) (u := []) rfl trivial rfl ?_
        refine a_nil ?_
        refine a_next (σ' := ⟨[(0, (.int .i64 a0)), (1, (eSi64 a1)), (5, (.int .i64 (IntKind.i64.wrap (Int.tdiv r1 2)))), (6, (.int .i64 r4)), (7, (.osl 7)), (8, (.int .i64 x643)), (9, (.int .i64 x899)), (10, (.int .i64 x900)), (38, (.bool ((decide (x900 < x643)))))], [(7, some ⟨(.row 1 (x644.map (AV.int .i64))), false⟩)]⟩) rfl ?_
        cases hb925 : (decide (x900 < x643))
        · have h := ite_f hb925 h
          refine a_cond_f rfl ?_
          refine a_exit ?_
          refine t_exit ?_
          cases h
          have h := hX924
          refine t_exit ?_
          refine b_exit ?_
          exact j_leaf x899 (Option.some.inj h) rfl
        · have h := ite_t hb925 h
          refine a_cond_t rfl ?_
          refine a_skip ?_
          refine a_next (σ' := ⟨[(0, (.int .i64 a0)), (1, (eSi64 a1)), (5, (.int .i64 (IntKind.i64.wrap (Int.tdiv r1 2)))), (6, (.int .i64 r4)), (7, (.osl 7)), (8, (.int .i64 x643)), (9, (.int .i64 x899)), (10, (.int .i64 x900))], [(7, some ⟨(.row 1 (x644.map (AV.int .i64))), false⟩)]⟩) rfl ?_
          refine a_seq ?_
          refine a_block ?_
          refine a_draw [⟨[], [], [], []⟩, ⟨[7], [], [7], []⟩, ⟨[], [], [], []⟩, ⟨[], [], [], []⟩, ⟨[], [], [], [2, 3]⟩, ⟨[7], [], [7], [1, 2, 3, 4]⟩, ⟨[7], [], [], [1, 2, 3, 4, 5]⟩, ⟨[7], [], [7], []⟩, ⟨[], [], [], []⟩, ⟨[], [], [], []⟩, ⟨[], [], [], [8, 9]⟩, ⟨[], [], [], []⟩, ⟨[], [], [], [8, 9, 10, 11]⟩, ⟨[7], [], [7], [7, 8, 9, 10, 11, 12]⟩, ⟨[7], [], [], [7, 8, 9, 10, 11, 12, 13]⟩, ⟨[], [], [], [1, 2, 3, 4, 5, 6, 7, 8, 9, 10, 11, 12, 13, 14]⟩, ⟨[], [], [], [0, 1, 2, 3, 4, 5, 6, 7, 8, 9, 10, 11, 12, 13, 14, 15]⟩, ⟨[], [], [], [0, 1, 2, 3, 4, 5, 6, 7, 8, 9, 10, 11, 12, 13, 14, 15, 16]⟩] (by kernel_rfl) ?_
          refine d_cons ?_
          refine a_val (v := (.int .i64 x899)) (u := []) rfl trivial rfl ?_
          refine d_next rfl ?_
          refine d_cons ?_
          refine a_val (v := (.osl 7)) (u := []) rfl trivial rfl ?_
          refine d_next rfl ?_
          refine d_cons ?_
          refine a_val (v := (.int .i64 (IntKind.i64.wrap (Int.tdiv r1 2)))) (u := []) rfl trivial rfl ?_
          refine d_next rfl ?_
          refine d_cons ?_
          refine a_val (v := (.int .i64 x900)) (u := []) rfl trivial rfl ?_
          refine d_next rfl ?_
          refine d_cons ?_
          refine a_val (v := (.int .i64 (IntKind.i64.wrap ((IntKind.i64.wrap (Int.tdiv r1 2)) - x900)))) (u := []) rfl trivial rfl ?_
          refine d_next rfl ?_
          refine d_cons ?_
          obtain ⟨hc936, h⟩ := ifp_some h
          refine a_val (v := (.own 7 [(IntKind.i64.wrap ((IntKind.i64.wrap (Int.tdiv r1 2)) - x900)).toNat] [(IntKind.i64.wrap ((IntKind.i64.wrap (Int.tdiv r1 2)) - x900)).toNat * 1])) (u := []) rfl (lmap hc936) rfl ?_
          refine d_next rfl ?_
          refine d_cons ?_
          have hl937 : LdOk [(IntKind.i64.wrap ((IntKind.i64.wrap (Int.tdiv r1 2)) - x900)).toNat] (.row 1 (x644.map (AV.int .i64))) [(IntKind.i64.wrap ((IntKind.i64.wrap (Int.tdiv r1 2)) - x900)).toNat * 1] 1 false (.int .i64 ((rd x644 (IntKind.i64.wrap ((IntKind.i64.wrap (Int.tdiv r1 2)) - x900)).toNat))) := (.row (llt hc936) rfl (.nil rfl rfl rfl))
          obtain ⟨x938, hx939, h⟩ := letp_some h
          refine a_val' (v := (.int .i64 ((rd x644 (IntKind.i64.wrap ((IntKind.i64.wrap (Int.tdiv r1 2)) - x900)).toNat)))) (v' := (.int .i64 x938)) (u := []) (u' := []) (ld_own (i := ⟨.int .i64, 1, 8, (.int .i64 0)⟩) rfl rfl rfl hl937) (congrArg (fun z => ((.int .i64 z) : AV)) hx939) rfl hl937.c rfl ?_
          refine d_next rfl ?_
          refine d_cons ?_
          refine a_val (v := (.osl 7)) (u := []) rfl trivial rfl ?_
          refine d_next rfl ?_
          refine d_cons ?_
          refine a_val (v := (.int .i64 (IntKind.i64.wrap (Int.tdiv r1 2)))) (u := []) rfl trivial rfl ?_
          refine d_next rfl ?_
          refine d_cons ?_
          refine a_val (v := (.int .i64 x643)) (u := []) rfl trivial rfl ?_
          refine d_next rfl ?_
          refine d_cons ?_
          refine a_val (v := (.int .i64 (IntKind.i64.wrap ((IntKind.i64.wrap (Int.tdiv r1 2)) - x643)))) (u := []) rfl trivial rfl ?_
          refine d_next rfl ?_
          refine d_cons ?_
          refine a_val (v := (.int .i64 x900)) (u := []) rfl trivial rfl ?_
          refine d_next rfl ?_
          refine d_cons ?_
          obtain ⟨x940, hx941, h⟩ := letp_some h
          refine a_val' (v := (.int .i64 (IntKind.i64.wrap ((IntKind.i64.wrap ((IntKind.i64.wrap (Int.tdiv r1 2)) - x643)) + x900)))) (v' := (.int .i64 x940)) (u := []) (u' := []) rfl (congrArg (fun z => ((.int .i64 z) : AV)) hx941) rfl trivial rfl ?_
          refine d_next rfl ?_
          refine d_cons ?_
          obtain ⟨hc942, h⟩ := ifp_some h
          refine a_val (v := (.own 7 [x940.toNat] [x940.toNat * 1])) (u := []) rfl (lmap hc942) rfl ?_
          refine d_next rfl ?_
          refine d_cons ?_
          have hl943 : LdOk [x940.toNat] (.row 1 (x644.map (AV.int .i64))) [x940.toNat * 1] 1 false (.int .i64 (rd x644 x940.toNat)) := (.row (llt hc942) rfl (.nil rfl rfl rfl))
          refine a_val (v := (.int .i64 (rd x644 x940.toNat))) (u := []) (ld_own (i := ⟨.int .i64, 1, 8, (.int .i64 0)⟩) rfl rfl rfl hl943) hl943.c rfl ?_
          refine d_next rfl ?_
          refine d_cons ?_
          refine a_val (v := (.int .i64 (IntKind.i64.wrap (x938 * (rd x644 x940.toNat))))) (u := []) rfl trivial rfl ?_
          refine d_next rfl ?_
          refine d_cons ?_
          obtain ⟨x944, hx945, h⟩ := letp_some h
          refine a_val' (v := (.int .i64 (IntKind.i64.wrap (x899 - (IntKind.i64.wrap (x938 * (rd x644 x940.toNat))))))) (v' := (.int .i64 x944)) (u := []) (u' := []) rfl (congrArg (fun z => ((.int .i64 z) : AV)) hx945) rfl trivial rfl ?_
          refine d_next rfl ?_
          refine d_cons ?_
          refine a_val (v := (.int .i64 x944)) (u := []) rfl trivial rfl ?_
          refine d_next rfl ?_
          refine d_nil ?_
          refine b_norm ?_
          refine a_next (σ' := ⟨[(0, (.int .i64 a0)), (1, (eSi64 a1)), (5, (.int .i64 (IntKind.i64.wrap (Int.tdiv r1 2)))), (6, (.int .i64 r4)), (7, (.osl 7)), (8, (.int .i64 x643)), (9, (.int .i64 x944)), (10, (.int .i64 x900))], [(7, some ⟨(.row 1 (x644.map (AV.int .i64))), false⟩)]⟩) rfl ?_
          refine a_region ?_
          refine a_val (v := (.int .i64 x900)) (u := []) rfl trivial rfl ?_
          refine a_val (v := (.int .i64 (IntKind.i64.wrap (x900 + 1)))) (u := []) rfl trivial rfl ?_
          refine a_val (v := (.int .i64 (IntKind.i64.wrap (x900 + 1)))) (u := []) rfl trivial rfl ?_
          refine a_nil ?_
          cases h
          exact a_again rfl hX924
def impl_prime_times_c : ACode := (.seq (.region 0 [⟨some 6, .asg 1 (.const (.slice none 0 0)) 66, none, []⟩] false) (.seq (.seq (.region 1 [⟨some 14, .mov (.tmp 1), none, []⟩, ⟨some 15, .blt 0 .len [(.tmp 14)] [66], none, []⟩, ⟨some 16, .bin .eql 3 (.tmp 15) (.const (.int .i64 0)), none, []⟩, ⟨some 17, .mov (.tmp 16), none, []⟩, ⟨some 18, .mov (.tmp 2), some (17, false), []⟩, ⟨some 19, .blt 0 .len [(.tmp 18)] [66], some (17, false), []⟩, ⟨some 20, .bin .eql 3 (.tmp 19) (.const (.int .i64 0)), some (17, false), []⟩, ⟨some 21, .pick (.tmp 17) (.const (.bool true)) (.tmp 20), none, []⟩] false) (.cond (.tmp 21) (.seq (.region 2 [⟨some 6, .asg 1 (.const (.slice none 0 0)) 66, none, []⟩] false) .ret) .skip)) (.seq (.region 3 [⟨some 22, .mov (.tmp 1), none, []⟩, ⟨some 23, .blt 0 .len [(.tmp 22)] [66], none, []⟩, ⟨some 24, .mov (.tmp 2), none, []⟩, ⟨some 25, .blt 0 .len [(.tmp 24)] [66], none, []⟩, ⟨some 26, .bin .add 3 (.tmp 23) (.tmp 25), none, []⟩, ⟨some 27, .bin .sub 3 (.tmp 26) (.const (.int .i64 1)), none, []⟩, ⟨some 28, .mkslice 66 (.tmp 27) (.tmp 27), none, []⟩, ⟨some 7, .asg 2 (.tmp 28) 66, none, []⟩] false) (.seq (.seq (.region 4 [⟨some 29, .mov (.tmp 1), none, []⟩, ⟨some 30, .blt 0 .len [(.tmp 29)] [66], none, []⟩, ⟨some 31, .mov (.const (.int .i64 0)), none, []⟩] false) (.block 0 (.loop (.seq (.region 5 [⟨some 32, .bin .lss 3 (.tmp 31) (.tmp 30), none, []⟩] false) (.seq (.cond (.tmp 32) .skip (.exit 0)) (.seq (.block 1 (.seq (.region 6 [⟨some 33, .mov (.tmp 31), none, []⟩, ⟨some 34, .indexAddr 66 (.tmp 29) (.tmp 31), none, []⟩, ⟨some 35, .load 2 (.tmp 34), none, []⟩, ⟨some 8, .asg 0 (.tmp 33) 3, none, []⟩, ⟨some 9, .asg 0 (.tmp 35) 2, none, []⟩] false) (.seq (.region 7 [⟨some 36, .mov (.tmp 2), none, []⟩, ⟨some 37, .blt 0 .len [(.tmp 36)] [66], none, []⟩, ⟨some 38, .mov (.const (.int .i64 0)), none, []⟩] false) (.block 2 (.loop (.seq (.region 8 [⟨some 39, .bin .lss 3 (.tmp 38) (.tmp 37), none, []⟩] false) (.seq (.cond (.tmp 39) .skip (.exit 2)) (.seq (.block 3 (.seq (.region 9 [⟨some 40, .mov (.tmp 38), none, []⟩, ⟨some 41, .indexAddr 66 (.tmp 36) (.tmp 38), none, []⟩, ⟨some 42, .load 2 (.tmp 41), none, []⟩, ⟨some 10, .asg 0 (.tmp 40) 3, none, []⟩, ⟨some 11, .asg 0 (.tmp 42) 2, none, []⟩] false) (.region 10 [⟨some 43, .mov (.tmp 7), none, []⟩, ⟨some 44, .mov (.tmp 8), none, []⟩, ⟨some 45, .mov (.tmp 10), none, []⟩, ⟨some 46, .bin .add 3 (.tmp 44) (.tmp 45), none, []⟩, ⟨some 47, .indexAddr 66 (.tmp 43) (.tmp 46), none, []⟩, ⟨some 48, .load 2 (.tmp 47), none, []⟩, ⟨some 49, .mov (.tmp 9), none, []⟩, ⟨some 50, .mov (.tmp 11), none, []⟩, ⟨some 51, .bin .mul 2 (.tmp 49) (.tmp 50), none, []⟩, ⟨some 52, .bin .add 2 (.tmp 48) (.tmp 51), none, []⟩, ⟨some 53, .indexAddr 66 (.tmp 43) (.tmp 46), none, []⟩, ⟨none, .store 2 (.tmp 53) (.tmp 52), none, []⟩] false))) (.region 11 [⟨some 54, .bin .add 3 (.tmp 38) (.const (.int .i64 1)), none, []⟩, ⟨some 38, .mov (.tmp 54), none, []⟩] false))))))))) (.region 12 [⟨some 55, .bin .add 3 (.tmp 31) (.const (.int .i64 1)), none, []⟩, ⟨some 31, .mov (.tmp 55), none, []⟩] false))))))) (.seq (.seq (.region 13 [⟨some 56, .mov (.tmp 7), none, []⟩, ⟨some 57, .blt 0 .len [(.tmp 56)] [66], none, []⟩, ⟨some 58, .mov (.const (.int .i64 0)), none, []⟩] false) (.block 4 (.loop (.seq (.region 14 [⟨some 59, .bin .lss 3 (.tmp 58) (.tmp 57), none, []⟩] false) (.seq (.cond (.tmp 59) .skip (.exit 4)) (.seq (.block 5 (.seq (.region 15 [⟨some 60, .mov (.tmp 58), none, []⟩, ⟨some 61, .indexAddr 66 (.tmp 56) (.tmp 58), none, []⟩, ⟨some 62, .load 2 (.tmp 61), none, []⟩, ⟨some 12, .asg 0 (.tmp 60) 3, none, []⟩, ⟨some 13, .asg 0 (.tmp 62) 2, none, []⟩] false) (.region 16 [⟨some 63, .mov (.tmp 7), none, []⟩, ⟨some 64, .mov (.tmp 12), none, []⟩, ⟨some 65, .mov (.tmp 13), none, []⟩, ⟨some 66, .mov (.tmp 0), none, []⟩, ⟨some 67, .bin .rem 2 (.tmp 65) (.tmp 66), none, []⟩, ⟨some 68, .indexAddr 66 (.tmp 63) (.tmp 64), none, []⟩, ⟨none, .store 2 (.tmp 68) (.tmp 67), none, []⟩] false))) (.region 17 [⟨some 69, .bin .add 3 (.tmp 58) (.const (.int .i64 1)), none, []⟩, ⟨some 58, .mov (.tmp 69), none, []⟩] false))))))) (.seq (.region 18 [⟨some 70, .mov (.tmp 7), none, []⟩, ⟨some 71, .call 0 (.func 111) [(.tmp 70)], none, []⟩, ⟨some 6, .asg 1 (.tmp 71) 66, none, []⟩] false) .ret))))))
def impl_prime_times_L : Live := [(0, [0, 1, 2]), (1, [0, 1, 2]), (2, []), (3, [0, 1, 2]), (4, [0, 1, 2, 7]), (5, [0, 2, 7, 29, 30, 31]), (6, [0, 2, 7, 29, 30, 31]), (7, [0, 2, 7, 8, 9, 29, 30, 31]), (8, [0, 2, 7, 8, 9, 29, 30, 31, 36, 37, 38]), (9, [0, 2, 7, 8, 9, 29, 30, 31, 36, 37, 38]), (10, [0, 2, 7, 8, 9, 10, 11, 29, 30, 31, 36, 37, 38]), (11, [0, 2, 7, 8, 9, 29, 30, 31, 36, 37, 38]), (12, [0, 2, 7, 29, 30, 31]), (13, [0, 7]), (14, [0, 7, 56, 57, 58]), (15, [0, 7, 56, 57, 58]), (16, [0, 7, 12, 13, 56, 57, 58]), (17, [0, 7, 56, 57, 58]), (18, [7]), (100021, [0, 1, 2, 21]), (100032, [0, 2, 7, 29, 30, 31, 32]), (100039, [0, 2, 7, 8, 9, 29, 30, 31, 36, 37, 38, 39]), (100059, [0, 7, 56, 57, 58, 59])]
theorem impl_prime_times_body : Try.f86.body = some (Try.f86.body.getD .skip) := by kernel_rfl
theorem impl_prime_times_strip : strip [(6, 1), (7, 2)] (Try.f86.body.getD .skip) = impl_prime_times_c := by kernel_rfl
noncomputable def impl_prime_times_l2 (a2 : (List Int)) (x329 : Int) (a1 : (List Int)) (x460 : Int) (x461 : (List Int)) : Option ((Int × (List Int)) ⊕ (List Int)) :=
  (if (decide (x460 < (a2.length : Int))) then (ifp (0 ≤ x460 ∧ x460 < ((a2.length : Nat) : Int)) ((ifp (0 ≤ IntKind.i64.wrap (x329 + x460) ∧ IntKind.i64.wrap (x329 + x460) < ((x461.length : Nat) : Int)) ((letp (IntKind.i64.wrap (((rd x461 (IntKind.i64.wrap (x329 + x460)).toNat)) + (IntKind.i64.wrap ((rd a1 x329.toNat) * (rd a2 x460.toNat))))) fun x479 => (ifp (0 ≤ IntKind.i64.wrap (x329 + x460) ∧ IntKind.i64.wrap (x329 + x460) < ((x461.length : Nat) : Int)) ((some (.inl ((IntKind.i64.wrap (x460 + 1), (x461.set (IntKind.i64.wrap (x329 + x460)).toNat x479)))))))))))) else (some (.inr x461)))
noncomputable def impl_prime_times_l1 (a1 : (List Int)) (a2 : (List Int)) (x329 : Int) (x330 : (List Int)) : Option ((Int × (List Int)) ⊕ (List Int)) :=
  (if (decide (x329 < (a1.length : Int))) then (Option.bind (α := (List Int)) ((ifp (0 ≤ x329 ∧ x329 < ((a1.length : Nat) : Int)) ((loopM (fun s : (Int × (List Int)) => impl_prime_times_l2 a2 x329 a1 s.1 s.2) (0, x330))))) fun x445 => (some (.inl ((IntKind.i64.wrap (x329 + 1), x445))))) else (some (.inr x330)))
noncomputable def impl_prime_times_l3 (x246 : (List Int)) (a0 : Int) (x519 : Int) (x520 : (List Int)) : Option ((Int × (List Int)) ⊕ (List Int)) :=
  (if (decide (x519 < (x246.length : Int))) then (ifp (0 ≤ x519 ∧ x519 < ((x520.length : Nat) : Int)) ((ifp (a0 ≠ 0) ((ifp (0 ≤ x519 ∧ x519 < ((x520.length : Nat) : Int)) ((some (.inl ((IntKind.i64.wrap (x519 + 1), (x520.set x519.toNat (Int.tmod (rd x520 x519.toNat) a0)))))))))))) else (some (.inr x520)))
noncomputable def impl_prime_times (a0 : Int) (a1 : (List Int)) (a2 : (List Int)) : Option (List Int) :=
  (Option.bind (α := Bool) ((if ((a1.length : Int) == 0) then (some true) else (some (((a2.length : Int) == 0))))) fun x2 => (if x2 then (some ([])) else (letp (IntKind.i64.wrap ((IntKind.i64.wrap ((a1.length : Int) + (a2.length : Int))) - 1)) fun x8 => (ifp (0 ≤ x8 ∧ x8 ≤ 140737488355328 ∧ 8 * x8 ≤ 140737488355328) ((Option.bind (α := (List Int)) ((loopM (fun s : (Int × (List Int)) => impl_prime_times_l1 a1 a2 s.1 s.2) (0, List.replicate x8.toNat (0 : Int)))) fun x246 => (Option.bind (α := (List Int)) ((loopM (fun s : (Int × (List Int)) => impl_prime_times_l3 x246 a0 s.1 s.2) (0, x246))) fun x509 => (Option.bind (impl_row_trimmed x509) fun r537 => (some r537)))))))))
set_option maxHeartbeats 16000000 in
theorem impl_prime_times_ok (a0 : Int) (a1 : (List Int)) (a2 : (List Int)) (r : (List Int)) (h : impl_prime_times a0 a1 a2 = some r) : Den Try.prog 86 [(.int .i64 a0), (eSi64 a1), (eSi64 a2)] { r := (eSi64 r) } := by
  refine den_of (rs := [(eSi64 r)]) (ac := impl_prime_times_c) (L := impl_prime_times_L) (n := 72) (m := [(6, 1), (7, 2)]) good Try.func86 impl_prime_times_body (by kernel_rfl) Try.ntmps86 rfl rfl impl_prime_times_strip rfl rfl ?_
  refine a_st (σ' := ⟨[(0, (.int .i64 a0)), (1, (eSi64 a1)), (2, (eSi64 a2))], []⟩) rfl ?_
  unfold impl_prime_times_c
  refine a_seq ?_
  refine a_region ?_
  refine a_val (v := (eSi64 ([]))) (u := []) rfl trivial rfl ?_
  refine a_nil ?_
  refine a_next (σ' := ⟨[(0, (.int .i64 a0)), (1, (eSi64 a1)), (2, (eSi64 a2))], []⟩) rfl ?_
  refine a_seq ?_
  obtain ⟨y3, hy4, hk5⟩ := bind_some h
  clear h
  refine a_join (emb := fun (s : Bool) => ⟨[(0, (.int .i64 a0)), (1, (eSi64 a1)), (2, (eSi64 a2)), (21, (.bool s))], []⟩) (pre := fun s => s = y3) ?_ ?_
  · rintro x2 rfl
    have h := hk5
    refine a_st (σ' := ⟨[(0, (.int .i64 a0)), (1, (eSi64 a1)), (2, (eSi64 a2)), (21, (.bool x2))], []⟩) rfl ?_
    cases hb7 : x2
    · have h := ite_f hb7 h
      refine a_cond_f rfl ?_
      refine a_skip ?_
      refine a_next (σ' := ⟨[(0, (.int .i64 a0)), (1, (eSi64 a1)), (2, (eSi64 a2))], []⟩) rfl ?_
      refine a_seq ?_
      refine a_region ?_
      refine a_val (v := (eSi64 a1)) (u := []) rfl trivial rfl ?_
      refine a_val (v := (.int .i64 (a1.length : Int))) (u := []) (len_run rfl rfl) trivial rfl ?_
      refine a_val (v := (eSi64 a2)) (u := []) rfl trivial rfl ?_
      refine a_val (v := (.int .i64 (a2.length : Int))) (u := []) (len_run rfl rfl) trivial rfl ?_
      refine a_val (v := (.int .i64 (IntKind.i64.wrap ((a1.length : Int) + (a2.length : Int))))) (u := []) rfl trivial rfl ?_
      obtain ⟨x8, hx9, h⟩ := letp_some h
      refine a_val' (v := (.int .i64 (IntKind.i64.wrap ((IntKind.i64.wrap ((a1.length : Int) + (a2.length : Int))) - 1)))) (v' := (.int .i64 x8)) (u := []) (u' := []) rfl (congrArg (fun z => ((.int .i64 z) : AV)) hx9) rfl trivial rfl ?_
      obtain ⟨hc10, h⟩ := ifp_some h
      refine a_val (v := (.osl 3800)) (u := [(3800, some ⟨(.row 1 ((List.replicate x8.toNat (0 : Int)).map (AV.int .i64))), false⟩)]) (mk_run (i := ⟨.int .i64, 1, 8, (.int .i64 0)⟩) (f := (AV.int .i64)) (y := (0 : Int)) rfl rfl rfl rfl rfl rfl) ⟨rfl, hc10.1, hc10.2.1, hc10.2.2, (Nat.le_of_ble_eq_true rfl)⟩ rfl ?_
      refine a_val (v := (.osl 3800)) (u := []) rfl trivial rfl ?_
      refine a_nil ?_
      refine a_next (σ' := ⟨[(0, (.int .i64 a0)), (1, (eSi64 a1)), (2, (eSi64 a2)), (7, (.osl 7))], [(7, some ⟨(.row 1 ((List.replicate x8.toNat (0 : Int)).map (AV.int .i64))), false⟩)]⟩) rfl ?_
      obtain ⟨y247, hy248, hk249⟩ := bind_some h
      clear h
      refine a_join (emb := fun (s : (List Int)) => ⟨[(0, (.int .i64 a0)), (7, (.osl 7))], [(7, some ⟨(.row 1 (s.map (AV.int .i64))), false⟩)]⟩) (pre := fun s => s = y247) ?_ ?_
      · rintro x246 rfl
        have h := hk249
        refine a_st (σ' := ⟨[(0, (.int .i64 a0)), (7, (.osl 7))], [(7, some ⟨(.row 1 (x246.map (AV.int .i64))), false⟩)]⟩) rfl ?_
        obtain ⟨y510, hy511, hk512⟩ := bind_some h
        clear h
        refine a_join (emb := fun (s : (List Int)) => ⟨[(7, (.osl 7))], [(7, some ⟨(.row 1 (s.map (AV.int .i64))), false⟩)]⟩) (pre := fun s => s = y510) ?_ ?_
        · rintro x509 rfl
          have h := hk512
          refine a_st (σ' := ⟨[(7, (.osl 7))], [(7, some ⟨(.row 1 (x509.map (AV.int .i64))), false⟩)]⟩) rfl ?_
          refine a_seq ?_
          refine a_region ?_
          refine a_val (v := (.osl 7)) (u := []) rfl trivial rfl ?_
          obtain ⟨r537, hr538, h⟩ := bind_some h
          refine a_call (args := [(eSi64 x509)]) (u := [(7, some ⟨(.row 1 (x509.map (AV.int .i64))), true⟩)]) (r := (eSi64 r537)) rfl rfl (impl_row_trimmed_ok x509 r537 hr538) rfl ?_
          refine a_val (v := (eSi64 r537)) (u := []) rfl trivial rfl ?_
          refine a_nil ?_
          refine a_next rfl ?_
          refine a_ret ?_
          refine ⟨.inr rfl, ?_⟩
          rw [Try.results86]
          cases h
          exact ⟨_, _, _, _, _, rfl, trivial, .inl ⟨rfl, .inl rfl⟩, rfl, rfl⟩
        · have h := hy511
          refine a_seq ?_
          refine a_region ?_
          refine a_val (v := (.osl 7)) (u := []) rfl trivial rfl ?_
          refine a_val (v := (.int .i64 (x246.length : Int))) (u := []) (leno_run rfl rfl rfl) trivial rfl ?_
          refine a_val (v := (.int .i64 0)) (u := []) rfl trivial rfl ?_
          refine a_nil ?_
          refine a_next (σ' := ⟨[(0, (.int .i64 a0)), (7, (.osl 7)), (56, (.osl 7)), (57, (.int .i64 (x246.length : Int))), (58, (.int .i64 0))], [(7, some ⟨(.row 1 (x246.map (AV.int .i64))), false⟩)]⟩) rfl ?_
          refine a_block ?_
          refine a_loop (emb := fun (s : (Int × (List Int))) => ⟨[(0, (.int .i64 a0)), (7, (.osl 7)), (56, (.osl 7)), (57, (.int .i64 (x246.length : Int))), (58, (.int .i64 s.1))], [(7, some ⟨(.row 1 (s.2.map (AV.int .i64))), false⟩)]⟩) (body := (fun s : (Int × (List Int)) => impl_prime_times_l3 x246 a0 s.1 s.2)) (G := fun q => some q = some y510) h rfl ?_ rfl
          rintro X527 ⟨x519, x520⟩ x528 h hX529
          have h : impl_prime_times_l3 x246 a0 x519 x520 = some x528 := h
          refine a_st (σ' := ⟨[(0, (.int .i64 a0)), (7, (.osl 7)), (56, (.osl 7)), (57, (.int .i64 (x246.length : Int))), (58, (.int .i64 x519))], [(7, some ⟨(.row 1 (x520.map (AV.int .i64))), false⟩)]⟩) rfl ?_
          refine a_seq ?_
          refine a_region ?_
          refine a_val (v := (.bool ((decide (x519 < (x246.length : Int)))))) (u := []) rfl trivial rfl ?_
          refine a_nil ?_
          refine a_next (σ' := ⟨[(0, (.int .i64 a0)), (7, (.osl 7)), (56, (.osl 7)), (57, (.int .i64 (x246.length : Int))), (58, (.int .i64 x519)), (59, (.bool ((decide (x519 < (x246.length : Int))))))], [(7, some ⟨(.row 1 (x520.map (AV.int .i64))), false⟩)]⟩) rfl ?_
          refine a_seq ?_
          cases hb530 : (decide (x519 < (x246.length : Int)))
          · have h := ite_f hb530 h
            refine a_cond_f rfl ?_
            refine a_exit ?_
            refine t_exit ?_
            cases h
            have h := hX529
            refine t_exit ?_
            refine b_exit ?_
            exact j_leaf x520 (Option.some.inj h) rfl
          · have h := ite_t hb530 h
            refine a_cond_t rfl ?_
            refine a_skip ?_
            refine a_next (σ' := ⟨[(0, (.int .i64 a0)), (7, (.osl 7)), (56, (.osl 7)), (57, (.int .i64 (x246.length : Int))), (58, (.int .i64 x519))], [(7, some ⟨(.row 1 (x520.map (AV.int .i64))), false⟩)]⟩) rfl ?_
            refine a_seq ?_
            refine a_block ?_
            refine a_seq ?_
            refine a_region ?_
            refine a_val (v := (.int .i64 x519)) (u := []) rfl trivial rfl ?_
            obtain ⟨hc531, h⟩ := ifp_some h
            refine a_val (v := (.own 7 [x519.toNat] [x519.toNat * 1])) (u := []) rfl (lmap hc531) rfl ?_
            have hl532 : LdOk [x519.toNat] (.row 1 (x520.map (AV.int .i64))) [x519.toNat * 1] 1 false (.int .i64 (rd x520 x519.toNat)) := (.row (llt hc531) rfl (.nil rfl rfl rfl))
            refine a_val (v := (.int .i64 (rd x520 x519.toNat))) (u := []) (ld_own (i := ⟨.int .i64, 1, 8, (.int .i64 0)⟩) rfl rfl rfl hl532) hl532.c rfl ?_
            refine a_val (v := (.int .i64 x519)) (u := []) rfl trivial rfl ?_
            refine a_val (v := (.int .i64 (rd x520 x519.toNat))) (u := []) rfl trivial rfl ?_
            refine a_nil ?_
            refine a_next (σ' := ⟨[(0, (.int .i64 a0)), (7, (.osl 7)), (12, (.int .i64 x519)), (13, (.int .i64 (rd x520 x519.toNat))), (56, (.osl 7)), (57, (.int .i64 (x246.length : Int))), (58, (.int .i64 x519))], [(7, some ⟨(.row 1 (x520.map (AV.int .i64))), false⟩)]⟩) rfl ?_
            refine a_region ?_
            refine a_val (v := (.osl 7)) (u := []) rfl trivial rfl ?_
            refine a_val (v := (.int .i64 x519)) (u := []) rfl trivial rfl ?_
            refine a_val (v := (.int .i64 (rd x520 x519.toNat))) (u := []) rfl trivial rfl ?_
            refine a_val (v := (.int .i64 a0)) (u := []) rfl trivial rfl ?_
            obtain ⟨hc533, h⟩ := ifp_some h
            refine a_val (v := (.int .i64 (Int.tmod (rd x520 x519.toNat) a0))) (u := []) rfl hc533 rfl ?_
            obtain ⟨hc534, h⟩ := ifp_some h
            refine a_val (v := (.own 7 [x519.toNat] [x519.toNat * 1])) (u := []) rfl (lmap hc534) rfl ?_
            have hs535 : StOk [x519.toNat] (.row 1 (x520.map (AV.int .i64))) [x519.toNat * 1] 1 (.int .i64 (Int.tmod (rd x520 x519.toNat) a0)) (.row 1 (((x520.set x519.toNat (Int.tmod (rd x520 x519.toNat) a0))).map (AV.int .i64))) := (.row (y := Int.tmod (rd x520 x519.toNat) a0) (llt hc534) rfl (.nil rfl rfl rfl rfl))
            refine a_val (v := .top) (u := [(7, some ⟨(.row 1 (((x520.set x519.toNat (Int.tmod (rd x520 x519.toNat) a0))).map (AV.int .i64))), false⟩)]) (st_own (i := ⟨.int .i64, 1, 8, (.int .i64 0)⟩) rfl rfl (fun _ => rfl) rfl hs535) (hs535.c rfl) rfl ?_
            refine a_nil ?_
            refine b_norm ?_
            refine a_next (σ' := ⟨[(0, (.int .i64 a0)), (7, (.osl 7)), (56, (.osl 7)), (57, (.int .i64 (x246.length : Int))), (58, (.int .i64 x519))], [(7, some ⟨(.row 1 (((x520.set x519.toNat (Int.tmod (rd x520 x519.toNat) a0))).map (AV.int .i64))), false⟩)]⟩) rfl ?_
            refine a_region ?_
            refine a_val (v := (.int .i64 (IntKind.i64.wrap (x519 + 1)))) (u := []) rfl trivial rfl ?_
            refine a_val (v := (.int .i64 (IntKind.i64.wrap (x519 + 1)))) (u := []) rfl trivial rfl ?_
            refine a_nil ?_
            cases h
            exact a_again rfl hX529
      · have h := hy248
        refine a_seq ?_
        refine a_region ?_
        refine a_val (v := (eSi64 a1)) (u := []) rfl trivial rfl ?_
        refine a_val (v := (.int .i64 (a1.length : Int))) (u := []) (len_run rfl rfl) trivial rfl ?_
        refine a_val (v := (.int .i64 0)) (u := []) rfl trivial rfl ?_
        refine a_nil ?_
        refine a_next (σ' := ⟨[(0, (.int .i64 a0)), (2, (eSi64 a2)), (7, (.osl 7)), (29, (eSi64 a1)), (30, (.int .i64 (a1.length : Int))), (31, (.int .i64 0))], [(7, some ⟨(.row 1 ((List.replicate x8.toNat (0 : Int)).map (AV.int .i64))), false⟩)]⟩) rfl ?_
        refine a_block ?_
        refine a_loop (emb := fun (s : (Int × (List Int))) => ⟨[(0, (.int .i64 a0)), (2, (eSi64 a2)), (7, (.osl 7)), (29, (eSi64 a1)), (30, (.int .i64 (a1.length : Int))), (31, (.int .i64 s.1))], [(7, some ⟨(.row 1 (s.2.map (AV.int .i64))), false⟩)]⟩) (body := (fun s : (Int × (List Int)) => impl_prime_times_l1 a1 a2 s.1 s.2)) (G := fun q => some q = some y247) h rfl ?_ rfl
        rintro X406 ⟨x329, x330⟩ x407 h hX408
        have h : impl_prime_times_l1 a1 a2 x329 x330 = some x407 := h
        refine a_st (σ' := ⟨[(0, (.int .i64 a0)), (2, (eSi64 a2)), (7, (.osl 7)), (29, (eSi64 a1)), (30, (.int .i64 (a1.length : Int))), (31, (.int .i64 x329))], [(7, some ⟨(.row 1 (x330.map (AV.int .i64))), false⟩)]⟩) rfl ?_
        refine a_seq ?_
        refine a_region ?_
        refine a_val (v := (.bool ((decide (x329 < (a1.length : Int)))))) (u := []) rfl trivial rfl ?_
        refine a_nil ?_
        refine a_next (σ' := ⟨[(0, (.int .i64 a0)), (2, (eSi64 a2)), (7, (.osl 7)), (29, (eSi64 a1)), (30, (.int .i64 (a1.length : Int))), (31, (.int .i64 x329)), (32, (.bool ((decide (x329 < (a1.length : Int))))))], [(7, some ⟨(.row 1 (x330.map (AV.int .i64))), false⟩)]⟩) rfl ?_
        refine a_seq ?_
        cases hb409 : (decide (x329 < (a1.length : Int)))
        · have h := ite_f hb409 h
          refine a_cond_f rfl ?_
          refine a_exit ?_
          refine t_exit ?_
          cases h
          have h := hX408
          refine t_exit ?_
          refine b_exit ?_
          exact j_leaf x330 (Option.some.inj h) rfl
        · have h := ite_t hb409 h
          refine a_cond_t rfl ?_
          refine a_skip ?_
          refine a_next (σ' := ⟨[(0, (.int .i64 a0)), (2, (eSi64 a2)), (7, (.osl 7)), (29, (eSi64 a1)), (30, (.int .i64 (a1.length : Int))), (31, (.int .i64 x329))], [(7, some ⟨(.row 1 (x330.map (AV.int .i64))), false⟩)]⟩) rfl ?_
          obtain ⟨y446, hy447, hk448⟩ := bind_some h
          clear h
          refine a_join (emb := fun (s : (List Int)) => ⟨[(0, (.int .i64 a0)), (2, (eSi64 a2)), (7, (.osl 7)), (29, (eSi64 a1)), (30, (.int .i64 (a1.length : Int))), (31, (.int .i64 x329))], [(7, some ⟨(.row 1 (s.map (AV.int .i64))), false⟩)]⟩) (pre := fun s => s = y446) ?_ ?_
          · rintro x445 rfl
            have h := hk448
            refine a_st (σ' := ⟨[(0, (.int .i64 a0)), (2, (eSi64 a2)), (7, (.osl 7)), (29, (eSi64 a1)), (30, (.int .i64 (a1.length : Int))), (31, (.int .i64 x329))], [(7, some ⟨(.row 1 (x445.map (AV.int .i64))), false⟩)]⟩) rfl ?_
            refine a_region ?_
            refine a_val (v := (.int .i64 (IntKind.i64.wrap (x329 + 1)))) (u := []) rfl trivial rfl ?_
            refine a_val (v := (.int .i64 (IntKind.i64.wrap (x329 + 1)))) (u := []) rfl trivial rfl ?_
            refine a_nil ?_
            cases h
            exact a_again rfl hX408
          · have h := hy447
            refine a_block ?_
            refine a_seq ?_
            refine a_region ?_
            refine a_val (v := (.int .i64 x329)) (u := []) rfl trivial rfl ?_
            obtain ⟨hc449, h⟩ := ifp_some h
            refine a_val (v := (.ref (.row 1 (a1.map (AV.int .i64))) [x329.toNat] [x329.toNat * 1])) (u := []) rfl (lmap hc449) rfl ?_
            have hl450 : LdOk [x329.toNat] (.row 1 (a1.map (AV.int .i64))) [x329.toNat * 1] 1 false (.int .i64 (rd a1 x329.toNat)) := (.row (llt hc449) rfl (.nil rfl rfl rfl))
            refine a_val (v := (.int .i64 (rd a1 x329.toNat))) (u := []) (ld_ref (i := ⟨.int .i64, 1, 8, (.int .i64 0)⟩) rfl rfl hl450) hl450.c rfl ?_
            refine a_val (v := (.int .i64 x329)) (u := []) rfl trivial rfl ?_
            refine a_val (v := (.int .i64 (rd a1 x329.toNat))) (u := []) rfl trivial rfl ?_
            refine a_nil ?_
            refine a_next (σ' := ⟨[(0, (.int .i64 a0)), (2, (eSi64 a2)), (7, (.osl 7)), (8, (.int .i64 x329)), (9, (.int .i64 (rd a1 x329.toNat))), (29, (eSi64 a1)), (30, (.int .i64 (a1.length : Int))), (31, (.int .i64 x329))], [(7, some ⟨(.row 1 (x330.map (AV.int .i64))), false⟩)]⟩) rfl ?_
            refine a_seq ?_
            refine a_region ?_
            refine a_val (v := (eSi64 a2)) (u := []) rfl trivial rfl ?_
            refine a_val (v := (.int .i64 (a2.length : Int))) (u := []) (len_run rfl rfl) trivial rfl ?_
            refine a_val (v := (.int .i64 0)) (u := []) rfl trivial rfl ?_
            refine a_nil ?_
            refine a_next (σ' := ⟨[(0, (.int .i64 a0)), (2, (eSi64 a2)), (7, (.osl 7)), (8, (.int .i64 x329)), (9, (.int .i64 (rd a1 x329.toNat))), (29, (eSi64 a1)), (30, (.int .i64 (a1.length : Int))), (31, (.int .i64 x329)), (36, (eSi64 a2)), (37, (.int .i64 (a2.length : Int))), (38, (.int .i64 0))], [(7, some ⟨(.row 1 (x330.map (AV.int .i64))), false⟩)]⟩) rfl ?_
            refine a_block ?_
            refine a_loop (emb := fun (s : (Int × (List Int))) => ⟨[(0, (.int .i64 a0)), (2, (eSi64 a2)), (7, (.osl 7)), (8, (.int .i64 x329)), (9, (.int .i64 (rd a1 x329.toNat))), (29, (eSi64 a1)), (30, (.int .i64 (a1.length : Int))), (31, (.int .i64 x329)), (36, (eSi64 a2)), (37, (.int .i64 (a2.length : Int))), (38, (.int .i64 s.1))], [(7, some ⟨(.row 1 (s.2.map (AV.int .i64))), false⟩)]⟩) (body := (fun s : (Int × (List Int)) => impl_prime_times_l2 a2 x329 a1 s.1 s.2)) (G := fun q => some q = some y446) h rfl ?_ rfl
            rintro X471 ⟨x460, x461⟩ x472 h hX473
            have h : impl_prime_times_l2 a2 x329 a1 x460 x461 = some x472 := h
            refine a_st (σ' := ⟨[(0, (.int .i64 a0)), (2, (eSi64 a2)), (7, (.osl 7)), (8, (.int .i64 x329)), (9, (.int .i64 (rd a1 x329.toNat))), (29, (eSi64 a1)), (30, (.int .i64 (a1.length : Int))), (31, (.int .i64 x329)), (36, (eSi64 a2)), (37, (.int .i64 (a2.length : Int))), (38, (.int .i64 x460))], [(7, some ⟨(.row 1 (x461.map (AV.int .i64))), false⟩)]⟩) rfl ?_
            refine a_seq ?_
            refine a_region ?_
            refine a_val (v := (.bool ((decide (x460 < (a2.length : Int)))))) (u := []) rfl trivial rfl ?_
            refine a_nil ?_
            refine a_next (σ' := ⟨[(0, (.int .i64 a0)), (2, (eSi64 a2)), (7, (.osl 7)), (8, (.int .i64 x329)), (9, (.int .i64 (rd a1 x329.toNat))), (29, (eSi64 a1)), (30, (.int .i64 (a1.length : Int))), (31, (.int .i64 x329)), (36, (eSi64 a2)), (37, (.int .i64 (a2.length : Int))), (38, (.int .i64 x460)), (39, (.bool ((decide (x460 < (a2.length : Int))))))], [(7, some ⟨(.row 1 (x461.map (AV.int .i64))), false⟩)]⟩) rfl ?_
            refine a_seq ?_
            cases hb474 : (decide (x460 < (a2.length : Int)))
            · have h := ite_f hb474 h
              refine a_cond_f rfl ?_
              refine a_exit ?_
              refine t_exit ?_
              cases h
              have h := hX473
              refine t_exit ?_
              refine b_exit ?_
              refine b_norm ?_
              exact j_leaf x461 (Option.some.inj h) rfl
            · have h := ite_t hb474 h
              refine a_cond_t rfl ?_
              refine a_skip ?_
              refine a_next (σ' := ⟨[(0, (.int .i64 a0)), (2, (eSi64 a2)), (7, (.osl 7)), (8, (.int .i64 x329)), (9, (.int .i64 (rd a1 x329.toNat))), (29, (eSi64 a1)), (30, (.int .i64 (a1.length : Int))), (31, (.int .i64 x329)), (36, (eSi64 a2)), (37, (.int .i64 (a2.length : Int))), (38, (.int .i64 x460))], [(7, some ⟨(.row 1 (x461.map (AV.int .i64))), false⟩)]⟩) rfl ?_
              refine a_seq ?_
              refine a_block ?_
              refine a_seq ?_
              refine a_region ?_
              refine a_val (v := (.int .i64 x460)) (u := []) rfl trivial rfl ?_
              obtain ⟨hc475, h⟩ := ifp_some h
              refine a_val (v := (.ref (.row 1 (a2.map (AV.int .i64))) [x460.toNat] [x460.toNat * 1])) (u := []) rfl (lmap hc475) rfl ?_
              have hl476 : LdOk [x460.toNat] (.row 1 (a2.map (AV.int .i64))) [x460.toNat * 1] 1 false (.int .i64 (rd a2 x460.toNat)) := (.row (llt hc475) rfl (.nil rfl rfl rfl))
              refine a_val (v := (.int .i64 (rd a2 x460.toNat))) (u := []) (ld_ref (i := ⟨.int .i64, 1, 8, (.int .i64 0)⟩) rfl rfl hl476) hl476.c rfl ?_
              refine a_val (v := (.int .i64 x460)) (u := []) rfl trivial rfl ?_
              refine a_val (v := (.int .i64 (rd a2 x460.toNat))) (u := []) rfl trivial rfl ?_
              refine a_nil ?_
              refine a_next (σ' := ⟨[(0, (.int .i64 a0)), (2, (eSi64 a2)), (7, (.osl 7)), (8, (.int .i64 x329)), (9, (.int .i64 (rd a1 x329.toNat))), (10, (.int .i64 x460)), (11, (.int .i64 (rd a2 x460.toNat))), (29, (eSi64 a1)), (30, (.int .i64 (a1.length : Int))), (31, (.int .i64 x329)), (36, (eSi64 a2)), (37, (.int .i64 (a2.length : Int))), (38, (.int .i64 x460))], [(7, some ⟨(.row 1 (x461.map (AV.int .i64))), false⟩)]⟩) rfl ?_
              refine a_region ?_
              refine a_val (v := (.osl 7)) (u := []) rfl trivial rfl ?_
              refine a_val (v := (.int .i64 x329)) (u := []) rfl trivial rfl ?_
              refine a_val (v := (.int .i64 x460)) (u := []) rfl trivial rfl ?_
              refine a_val (v := (.int .i64 (IntKind.i64.wrap (x329 + x460)))) (u := []) rfl trivial rfl ?_
              obtain ⟨hc477, h⟩ := ifp_some h
              refine a_val (v := (.own 7 [(IntKind.i64.wrap (x329 + x460)).toNat] [(IntKind.i64.wrap (x329 + x460)).toNat * 1])) (u := []) rfl (lmap hc477) rfl ?_
              have hl478 : LdOk [(IntKind.i64.wrap (x329 + x460)).toNat] (.row 1 (x461.map (AV.int .i64))) [(IntKind.i64.wrap (x329 + x460)).toNat * 1] 1 false (.int .i64 ((rd x461 (IntKind.i64.wrap (x329 + x460)).toNat))) := (.row (llt hc477) rfl (.nil rfl rfl rfl))
              refine a_val (v := (.int .i64 ((rd x461 (IntKind.i64.wrap (x329 + x460)).toNat)))) (u := []) (ld_own (i := ⟨.int .i64, 1, 8, (.int .i64 0)⟩) rfl rfl rfl hl478) hl478.c rfl ?_
              refine a_val (v := (.int .i64 (rd a1 x329.toNat))) (u := []) rfl trivial rfl ?_
              refine a_val (v := (.int .i64 (rd a2 x460.toNat))) (u := []) rfl trivial rfl ?_
              refine a_val (v := (.int .i64 (IntKind.i64.wrap ((rd a1 x329.toNat) * (rd a2 x460.toNat))))) (u := []) rfl trivial rfl ?_
              obtain ⟨x479, hx480, h⟩ := letp_some h
              refine a_val' (v := (.int .i64 (IntKind.i64.wrap (((rd x461 (IntKind.i64.wrap (x329 + x460)).toNat)) + (IntKind.i64.wrap ((rd a1 x329.toNat) * (rd a2 x460.toNat))))))) (v' := (.int .i64 x479)) (u := []) (u' := []) rfl (congrArg (fun z => ((.int .i64 z) : AV)) hx480) rfl trivial rfl ?_
              obtain ⟨hc481, h⟩ := ifp_some h
              refine a_val (v := (.own 7 [(IntKind.i64.wrap (x329 + x460)).toNat] [(IntKind.i64.wrap (x329 + x460)).toNat * 1])) (u := []) rfl (lmap hc481) rfl ?_
              have hs482 : StOk [(IntKind.i64.wrap (x329 + x460)).toNat] (.row 1 (x461.map (AV.int .i64))) [(IntKind.i64.wrap (x329 + x460)).toNat * 1] 1 (.int .i64 x479) (.row 1 (((x461.set (IntKind.i64.wrap (x329 + x460)).toNat x479)).map (AV.int .i64))) := (.row (y := x479) (llt hc481) rfl (.nil rfl rfl rfl rfl))
              refine a_val (v := .top) (u := [(7, some ⟨(.row 1 (((x461.set (IntKind.i64.wrap (x329 + x460)).toNat x479)).map (AV.int .i64))), false⟩)]) (st_own (i := ⟨.int .i64, 1, 8, (.int .i64 0)⟩) rfl rfl (fun _ => rfl) rfl hs482) (hs482.c rfl) rfl ?_
              refine a_nil ?_
              refine b_norm ?_
              refine a_next (σ' := ⟨[(0, (.int .i64 a0)), (2, (eSi64 a2)), (7, (.osl 7)), (8, (.int .i64 x329)), (9, (.int .i64 (rd a1 x329.toNat))), (29, (eSi64 a1)), (30, (.int .i64 (a1.length : Int))), (31, (.int .i64 x329)), (36, (eSi64 a2)), (37, (.int .i64 (a2.length : Int))), (38, (.int .i64 x460))], [(7, some ⟨(.row 1 (((x461.set (IntKind.i64.wrap (x329 + x460)).toNat x479)).map (AV.int .i64))), false⟩)]⟩) rfl ?_
              refine a_region ?_
              refine a_val (v := (.int .i64 (IntKind.i64.wrap (x460 + 1)))) (u := []) rfl trivial rfl ?_
              refine a_val (v := (.int .i64 (IntKind.i64.wrap (x460 + 1)))) (u := []) rfl trivial rfl ?_
              refine a_nil ?_
              cases h
              exact a_again rfl hX473
    · have h := ite_t hb7 h
      refine a_cond_t rfl ?_
      refine a_seq ?_
      refine a_region ?_
      refine a_val (v := (eSi64 ([]))) (u := []) rfl trivial rfl ?_
      refine a_nil ?_
      refine a_next rfl ?_
      refine a_ret ?_
      refine t_ret ?_
      refine ⟨.inr rfl, ?_⟩
      rw [Try.results86]
      cases h
      exact ⟨_, _, _, _, _, rfl, trivial, .inl ⟨rfl, .inl rfl⟩, rfl, rfl⟩
  · have h := hy4
    refine a_region ?_
    refine a_val (v := (eSi64 a1)) (u := []) rfl trivial rfl ?_
    refine a_val (v := (.int .i64 (a1.length : Int))) (u := []) (len_run rfl rfl) trivial rfl ?_
    refine a_val (v := (.bool (((a1.length : Int) == 0)))) (u := []) rfl trivial rfl ?_
    refine a_val (v := (.bool (((a1.length : Int) == 0)))) (u := []) rfl trivial rfl ?_
    cases hb6 : ((a1.length : Int) == 0)
    · have h := ite_f hb6 h
      refine a_gval rfl (v := (eSi64 a2)) (u := []) rfl trivial rfl ?_
      refine a_gval rfl (v := (.int .i64 (a2.length : Int))) (u := []) (len_run rfl rfl) trivial rfl ?_
      refine a_gval rfl (v := (.bool (((a2.length : Int) == 0)))) (u := []) rfl trivial rfl ?_
      refine a_val (v := (.bool (((a2.length : Int) == 0)))) (u := []) rfl trivial rfl ?_
      refine a_nil ?_
      exact j_leaf (((a2.length : Int) == 0)) (Option.some.inj h) rfl
    · have h := ite_t hb6 h
      refine a_gskip rfl ?_
      refine a_gskip rfl ?_
      refine a_gskip rfl ?_
      refine a_val (v := (.bool true)) (u := []) rfl trivial rfl ?_
      refine a_nil ?_
      exact j_leaf true (Option.some.inj h) rfl
end Go.Proofs.Ytacebpbhddkelaa
