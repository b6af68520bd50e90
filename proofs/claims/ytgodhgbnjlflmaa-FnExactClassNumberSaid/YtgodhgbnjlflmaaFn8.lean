/- Functions of the program: plain Lean functions, and that the program computes them. Printed by gen.py. -/
import Derived.Test.YtgodhgbnjlflmaaFnT
import Derived.Test.YtgodhgbnjlflmaaFn6
import Derived.Test.YtgodhgbnjlflmaaFn7
namespace Go.Proofs.Ytgodhgbnjlflmaa
open Go.Abs Go.Proofs
set_option linter.unusedSimpArgs false
set_option linter.unusedVariables false
attribute [local irreducible] Abs.acode Abs.aops Abs.aopsT Abs.thenK Abs.blockK

def slices_IndexFunc_impl_Form_impl_Form_of_impl_areAll_impl_Form__c1_p_2_c : ACode := (.seq (.region 0 [⟨some 4, .asg 0 (.const (.int .i64 0)) 3, none, []⟩] false) (.seq (.seq (.region 1 [⟨some 6, .mov (.tmp 0), none, []⟩, ⟨some 7, .blt 0 .len [(.tmp 6)] [106], none, []⟩, ⟨some 8, .mov (.const (.int .i64 0)), none, []⟩] false) (.block 0 (.loop (.seq (.region 2 [⟨some 9, .bin .lss 3 (.tmp 8) (.tmp 7), none, []⟩] false) (.seq (.cond (.tmp 9) .skip (.exit 0)) (.seq (.block 1 (.seq (.region 3 [⟨some 10, .mov (.tmp 8), none, []⟩, ⟨some 5, .asg 0 (.tmp 10) 3, none, []⟩] false) (.seq (.region 4 [⟨some 11, .mov (.tmp 1), none, []⟩, ⟨some 12, .mov (.tmp 0), none, []⟩, ⟨some 13, .mov (.tmp 5), none, []⟩, ⟨some 14, .indexAddr 106 (.tmp 12) (.tmp 13), none, []⟩, ⟨some 15, .load 124 (.tmp 14), none, []⟩, ⟨some 16, .call 0 (.tmp 11) [(.tmp 15)], none, []⟩] false) (.cond (.tmp 16) (.seq (.region 5 [⟨some 17, .mov (.tmp 5), none, []⟩, ⟨some 4, .asg 0 (.tmp 17) 3, none, []⟩] false) .ret) .skip)))) (.region 6 [⟨some 18, .bin .add 3 (.tmp 8) (.const (.int .i64 1)), none, []⟩, ⟨some 8, .mov (.tmp 18), none, []⟩] false))))))) (.seq (.region 7 [⟨some 4, .asg 0 (.const (.int .i64 (-1))) 3, none, []⟩] false) .ret)))
def slices_IndexFunc_impl_Form_impl_Form_of_impl_areAll_impl_Form__c1_p_2_L : Live := [(0, [0, 1]), (1, [0, 1]), (2, [0, 1, 7, 8]), (3, [0, 1, 7, 8]), (4, [0, 1, 5, 7, 8]), (5, [5]), (6, [0, 1, 7, 8]), (7, []), (100009, [0, 1, 7, 8, 9]), (100016, [0, 1, 5, 7, 8, 16])]
theorem slices_IndexFunc_impl_Form_impl_Form_of_impl_areAll_impl_Form__c1_p_2_body : Try.f166.body = some (Try.f166.body.getD .skip) := by kernel_rfl
theorem slices_IndexFunc_impl_Form_impl_Form_of_impl_areAll_impl_Form__c1_p_2_strip : strip [] (Try.f166.body.getD .skip) = slices_IndexFunc_impl_Form_impl_Form_of_impl_areAll_impl_Form__c1_p_2_c := by kernel_rfl
noncomputable def slices_IndexFunc_impl_Form_impl_Form_of_impl_areAll_impl_Form__c1_p_2_l1 (a0 : (List ((Vec Int 64) × (Vec Int 64)))) (a1c0c0 : Int) (a1c0c1 : (Vec Int 64)) (x33 : Int) : Option (Int ⊕ (Unit ⊕ Int)) :=
  (if (decide (x33 < (a0.length : Int))) then (ifp (0 ≤ x33 ∧ x33 < ((a0.length : Nat) : Int)) ((Option.bind (impl_areAll_impl_Form__c1_of_p_2 (rd a0 x33.toNat) a1c0c0 a1c0c1) fun r46 => (if r46 then (some (.inr (.inr x33))) else (some (.inl (IntKind.i64.wrap (x33 + 1)))))))) else (some (.inr (((.inl ()))))))
noncomputable def slices_IndexFunc_impl_Form_impl_Form_of_impl_areAll_impl_Form__c1_p_2 (a0 : (List ((Vec Int 64) × (Vec Int 64)))) (a1c0c0 : Int) (a1c0c1 : (Vec Int 64)) : Option Int :=
  (Option.bind (α := (Unit ⊕ Int)) ((loopM (fun s : Int => slices_IndexFunc_impl_Form_impl_Form_of_impl_areAll_impl_Form__c1_p_2_l1 a0 a1c0c0 a1c0c1 s) 0)) fun z => match z with | .inl _ => (some (-1)) | .inr r50 => (some r50))
set_option maxHeartbeats 16000000 in
theorem slices_IndexFunc_impl_Form_impl_Form_of_impl_areAll_impl_Form__c1_p_2_ok (a0 : (List ((Vec Int 64) × (Vec Int 64)))) (a1c0c0 : Int) (a1c0c1 : (Vec Int 64)) (r : Int) (h : slices_IndexFunc_impl_Form_impl_Form_of_impl_areAll_impl_Form__c1_p_2 a0 a1c0c0 a1c0c1 = some r) : Den Try.prog 166 [(eST_A64u8_A64u8_Z a0), (.clo 164 [] [(.ref (.clo 150 [] [(.ref (.int .i64 a1c0c0) [] []), (.ref (eA64u8 a1c0c1) [] [])]) [] [])])] { r := (.int .i64 r) } := by
  refine den_of (rs := [(.int .i64 r)]) (ac := slices_IndexFunc_impl_Form_impl_Form_of_impl_areAll_impl_Form__c1_p_2_c) (L := slices_IndexFunc_impl_Form_impl_Form_of_impl_areAll_impl_Form__c1_p_2_L) (n := 19) (m := []) good Try.func166 slices_IndexFunc_impl_Form_impl_Form_of_impl_areAll_impl_Form__c1_p_2_body (by kernel_rfl) Try.ntmps166 rfl rfl slices_IndexFunc_impl_Form_impl_Form_of_impl_areAll_impl_Form__c1_p_2_strip rfl rfl ?_
  refine a_st (σ' := ⟨[(0, (eST_A64u8_A64u8_Z a0)), (1, (.clo 164 [] [(.ref (.clo 150 [] [(.ref (.int .i64 a1c0c0) [] []), (.ref (eA64u8 a1c0c1) [] [])]) [] [])]))], []⟩) (by kernel_rfl) ?_
  unfold slices_IndexFunc_impl_Form_impl_Form_of_impl_areAll_impl_Form__c1_p_2_c
  refine a_seq ?_
  refine a_region ?_
  refine a_val (v := (.int .i64 0)) (u := []) rfl trivial rfl ?_
  refine a_nil ?_
  refine a_next (σ' := ⟨[(0, (eST_A64u8_A64u8_Z a0)), (1, (.clo 164 [] [(.ref (.clo 150 [] [(.ref (.int .i64 a1c0c0) [] []), (.ref (eA64u8 a1c0c1) [] [])]) [] [])]))], []⟩) (by kernel_rfl) ?_
  obtain ⟨y24, hy25, hk26⟩ := bind_some h
  clear h
  refine a_join (emb := fun (s : Unit) => ⟨[], []⟩) (pre := fun s => (.inl s) = y24) ?_ ?_
  · rintro _ rfl
    have h := hk26
    refine a_st (σ' := ⟨[], []⟩) (by kernel_rfl) ?_
    refine a_seq ?_
    refine a_region ?_
    refine a_val (v := (.int .i64 (-1))) (u := []) rfl trivial rfl ?_
    refine a_nil ?_
    refine a_next rfl ?_
    refine a_ret ?_
    refine ⟨.inr rfl, ?_⟩
    rw [Try.results166]
    cases h
    exact ⟨_, _, _, _, _, rfl, trivial, .inl ⟨rfl, .inl rfl⟩, rfl, rfl⟩
  · have h := hy25
    refine a_seq ?_
    refine a_region ?_
    refine a_val (v := (eST_A64u8_A64u8_Z a0)) (u := []) rfl trivial rfl ?_
    refine a_val (v := (.int .i64 (a0.length : Int))) (u := []) (len_run rfl rfl) trivial rfl ?_
    refine a_val (v := (.int .i64 0)) (u := []) rfl trivial rfl ?_
    refine a_nil ?_
    refine a_next (σ' := ⟨[(0, (eST_A64u8_A64u8_Z a0)), (1, (.clo 164 [] [(.ref (.clo 150 [] [(.ref (.int .i64 a1c0c0) [] []), (.ref (eA64u8 a1c0c1) [] [])]) [] [])])), (7, (.int .i64 (a0.length : Int))), (8, (.int .i64 0))], []⟩) (by kernel_rfl) ?_
    refine a_block ?_
    refine a_loop (emb := fun (s : Int) => ⟨[(0, (eST_A64u8_A64u8_Z a0)), (1, (.clo 164 [] [(.ref (.clo 150 [] [(.ref (.int .i64 a1c0c0) [] []), (.ref (eA64u8 a1c0c1) [] [])]) [] [])])), (7, (.int .i64 (a0.length : Int))), (8, (.int .i64 s))], []⟩) (body := (fun s : Int => slices_IndexFunc_impl_Form_impl_Form_of_impl_areAll_impl_Form__c1_p_2_l1 a0 a1c0c0 a1c0c1 s)) (G := fun q => some q = some y24) h rfl ?_ (by kernel_rfl)
    rintro X40 x33 x41 h hX42
    have h : slices_IndexFunc_impl_Form_impl_Form_of_impl_areAll_impl_Form__c1_p_2_l1 a0 a1c0c0 a1c0c1 x33 = some x41 := h
    refine a_st (σ' := ⟨[(0, (eST_A64u8_A64u8_Z a0)), (1, (.clo 164 [] [(.ref (.clo 150 [] [(.ref (.int .i64 a1c0c0) [] []), (.ref (eA64u8 a1c0c1) [] [])]) [] [])])), (7, (.int .i64 (a0.length : Int))), (8, (.int .i64 x33))], []⟩) (by kernel_rfl) ?_
    refine a_seq ?_
    refine a_region ?_
    refine a_val (v := (.bool ((decide (x33 < (a0.length : Int)))))) (u := []) rfl trivial rfl ?_
    refine a_nil ?_
    refine a_next (σ' := ⟨[(0, (eST_A64u8_A64u8_Z a0)), (1, (.clo 164 [] [(.ref (.clo 150 [] [(.ref (.int .i64 a1c0c0) [] []), (.ref (eA64u8 a1c0c1) [] [])]) [] [])])), (7, (.int .i64 (a0.length : Int))), (8, (.int .i64 x33)), (9, (.bool ((decide (x33 < (a0.length : Int))))))], []⟩) (by kernel_rfl) ?_
    refine a_seq ?_
    cases hb43 : (decide (x33 < (a0.length : Int)))
    · have h := ite_f hb43 h
      refine a_cond_f rfl ?_
      refine a_exit ?_
      refine t_exit ?_
      cases h
      have h := hX42
      refine t_exit ?_
      refine b_exit ?_
      exact j_leaf () (Option.some.inj h) (by kernel_rfl)
    · have h := ite_t hb43 h
      refine a_cond_t rfl ?_
      refine a_skip ?_
      refine a_next (σ' := ⟨[(0, (eST_A64u8_A64u8_Z a0)), (1, (.clo 164 [] [(.ref (.clo 150 [] [(.ref (.int .i64 a1c0c0) [] []), (.ref (eA64u8 a1c0c1) [] [])]) [] [])])), (7, (.int .i64 (a0.length : Int))), (8, (.int .i64 x33))], []⟩) (by kernel_rfl) ?_
      refine a_seq ?_
      refine a_block ?_
      refine a_seq ?_
      refine a_region ?_
      refine a_val (v := (.int .i64 x33)) (u := []) rfl trivial rfl ?_
      refine a_val (v := (.int .i64 x33)) (u := []) rfl trivial rfl ?_
      refine a_nil ?_
      refine a_next (σ' := ⟨[(0, (eST_A64u8_A64u8_Z a0)), (1, (.clo 164 [] [(.ref (.clo 150 [] [(.ref (.int .i64 a1c0c0) [] []), (.ref (eA64u8 a1c0c1) [] [])]) [] [])])), (5, (.int .i64 x33)), (7, (.int .i64 (a0.length : Int))), (8, (.int .i64 x33))], []⟩) (by kernel_rfl) ?_
      refine a_seq ?_
      refine a_region ?_
      refine a_val (v := (.clo 164 [] [(.ref (.clo 150 [] [(.ref (.int .i64 a1c0c0) [] []), (.ref (eA64u8 a1c0c1) [] [])]) [] [])])) (u := []) rfl trivial rfl ?_
      refine a_val (v := (eST_A64u8_A64u8_Z a0)) (u := []) rfl trivial rfl ?_
      refine a_val (v := (.int .i64 x33)) (u := []) rfl trivial rfl ?_
      obtain ⟨hc44, h⟩ := ifp_some h
      refine a_val (v := (.ref (.row 128 (a0.map eT_A64u8_A64u8_Z)) [x33.toNat] [x33.toNat * 128])) (u := []) rfl (lmap hc44) rfl ?_
      have hl45 : LdOk [x33.toNat] (.row 128 (a0.map eT_A64u8_A64u8_Z)) [x33.toNat * 128] 128 true (eT_A64u8_A64u8_Z (rd a0 x33.toNat)) := (.row (llt hc44) rfl (.nil rfl rfl rfl))
      refine a_val (v := (eT_A64u8_A64u8_Z (rd a0 x33.toNat))) (u := []) (ld_ref (i := ⟨.struct [(0, 23), (64, 23)], 128, 128, (eT_A64u8_A64u8_Z ((vrep 64 (0 : Int)), (vrep 64 (0 : Int))))⟩) rfl rfl hl45) hl45.c rfl ?_
      obtain ⟨r46, hr47, h⟩ := bind_some h
      refine a_call (args := [(eT_A64u8_A64u8_Z (rd a0 x33.toNat)), (.ref (.clo 150 [] [(.ref (.int .i64 a1c0c0) [] []), (.ref (eA64u8 a1c0c1) [] [])]) [] [])]) (u := []) (r := (.bool r46)) rfl rfl (impl_areAll_impl_Form__c1_of_p_2_ok (rd a0 x33.toNat) a1c0c0 a1c0c1 r46 hr47) rfl ?_
      refine a_nil ?_
      refine a_next (σ' := ⟨[(0, (eST_A64u8_A64u8_Z a0)), (1, (.clo 164 [] [(.ref (.clo 150 [] [(.ref (.int .i64 a1c0c0) [] []), (.ref (eA64u8 a1c0c1) [] [])]) [] [])])), (5, (.int .i64 x33)), (7, (.int .i64 (a0.length : Int))), (8, (.int .i64 x33)), (16, (.bool r46))], []⟩) (by kernel_rfl) ?_
      cases hb48 : r46
      · have h := ite_f hb48 h
        refine a_cond_f rfl ?_
        refine a_skip ?_
        refine b_norm ?_
        refine a_next (σ' := ⟨[(0, (eST_A64u8_A64u8_Z a0)), (1, (.clo 164 [] [(.ref (.clo 150 [] [(.ref (.int .i64 a1c0c0) [] []), (.ref (eA64u8 a1c0c1) [] [])]) [] [])])), (7, (.int .i64 (a0.length : Int))), (8, (.int .i64 x33))], []⟩) (by kernel_rfl) ?_
        refine a_region ?_
        refine a_val (v := (.int .i64 (IntKind.i64.wrap (x33 + 1)))) (u := []) rfl trivial rfl ?_
        refine a_val (v := (.int .i64 (IntKind.i64.wrap (x33 + 1)))) (u := []) rfl trivial rfl ?_
        refine a_nil ?_
        cases h
        exact a_again (by kernel_rfl) hX42
      · have h := ite_t hb48 h
        refine a_cond_t rfl ?_
        refine a_seq ?_
        refine a_region ?_
        refine a_val (v := (.int .i64 x33)) (u := []) rfl trivial rfl ?_
        refine a_val (v := (.int .i64 x33)) (u := []) rfl trivial rfl ?_
        refine a_nil ?_
        refine a_next rfl ?_
        refine a_ret ?_
        refine b_ret ?_
        refine t_ret ?_
        cases h
        have h := hX42
        refine t_ret ?_
        refine b_ret ?_
        refine t_ret ?_
        cases h
        have h := hk26
        refine ⟨.inr rfl, ?_⟩
        rw [Try.results166]
        cases h
        exact ⟨_, _, _, _, _, rfl, trivial, .inl ⟨rfl, .inl rfl⟩, rfl, rfl⟩
def slices_ContainsFunc_impl_Form_impl_Form_of_impl_areAll_impl_Form__c1_p_2_c : ACode := (.seq (.region 0 [⟨some 4, .asg 0 (.const (.bool false)) 4, none, []⟩] false) (.seq (.region 1 [⟨some 5, .mov (.tmp 0), none, []⟩, ⟨some 6, .mov (.tmp 1), none, []⟩, ⟨some 7, .call 0 (.func 166) [(.tmp 5), (.tmp 6)], none, []⟩, ⟨some 8, .bin .geq 3 (.tmp 7) (.const (.int .i64 0)), none, []⟩, ⟨some 4, .asg 0 (.tmp 8) 4, none, []⟩] false) .ret))
def slices_ContainsFunc_impl_Form_impl_Form_of_impl_areAll_impl_Form__c1_p_2_L : Live := [(0, [0, 1]), (1, [0, 1])]
theorem slices_ContainsFunc_impl_Form_impl_Form_of_impl_areAll_impl_Form__c1_p_2_body : Try.f163.body = some (Try.f163.body.getD .skip) := by kernel_rfl
theorem slices_ContainsFunc_impl_Form_impl_Form_of_impl_areAll_impl_Form__c1_p_2_strip : strip [] (Try.f163.body.getD .skip) = slices_ContainsFunc_impl_Form_impl_Form_of_impl_areAll_impl_Form__c1_p_2_c := by kernel_rfl
noncomputable def slices_ContainsFunc_impl_Form_impl_Form_of_impl_areAll_impl_Form__c1_p_2 (a0 : (List ((Vec Int 64) × (Vec Int 64)))) (a1c0c0 : Int) (a1c0c1 : (Vec Int 64)) : Option Bool :=
  (Option.bind (slices_IndexFunc_impl_Form_impl_Form_of_impl_areAll_impl_Form__c1_p_2 a0 a1c0c0 a1c0c1) fun r1 => (some ((decide (r1 ≥ 0)))))
set_option maxHeartbeats 16000000 in
theorem slices_ContainsFunc_impl_Form_impl_Form_of_impl_areAll_impl_Form__c1_p_2_ok (a0 : (List ((Vec Int 64) × (Vec Int 64)))) (a1c0c0 : Int) (a1c0c1 : (Vec Int 64)) (r : Bool) (h : slices_ContainsFunc_impl_Form_impl_Form_of_impl_areAll_impl_Form__c1_p_2 a0 a1c0c0 a1c0c1 = some r) : Den Try.prog 163 [(eST_A64u8_A64u8_Z a0), (.clo 164 [] [(.ref (.clo 150 [] [(.ref (.int .i64 a1c0c0) [] []), (.ref (eA64u8 a1c0c1) [] [])]) [] [])])] { r := (.bool r) } := by
  refine den_of (rs := [(.bool r)]) (ac := slices_ContainsFunc_impl_Form_impl_Form_of_impl_areAll_impl_Form__c1_p_2_c) (L := slices_ContainsFunc_impl_Form_impl_Form_of_impl_areAll_impl_Form__c1_p_2_L) (n := 9) (m := []) good Try.func163 slices_ContainsFunc_impl_Form_impl_Form_of_impl_areAll_impl_Form__c1_p_2_body (by kernel_rfl) Try.ntmps163 rfl rfl slices_ContainsFunc_impl_Form_impl_Form_of_impl_areAll_impl_Form__c1_p_2_strip rfl rfl ?_
  refine a_st (σ' := ⟨[(0, (eST_A64u8_A64u8_Z a0)), (1, (.clo 164 [] [(.ref (.clo 150 [] [(.ref (.int .i64 a1c0c0) [] []), (.ref (eA64u8 a1c0c1) [] [])]) [] [])]))], []⟩) (by kernel_rfl) ?_
  unfold slices_ContainsFunc_impl_Form_impl_Form_of_impl_areAll_impl_Form__c1_p_2_c
  refine a_seq ?_
  refine a_region ?_
  refine a_val (v := (.bool false)) (u := []) rfl trivial rfl ?_
  refine a_nil ?_
  refine a_next (σ' := ⟨[(0, (eST_A64u8_A64u8_Z a0)), (1, (.clo 164 [] [(.ref (.clo 150 [] [(.ref (.int .i64 a1c0c0) [] []), (.ref (eA64u8 a1c0c1) [] [])]) [] [])]))], []⟩) (by kernel_rfl) ?_
  refine a_seq ?_
  refine a_region ?_
  refine a_val (v := (eST_A64u8_A64u8_Z a0)) (u := []) rfl trivial rfl ?_
  refine a_val (v := (.clo 164 [] [(.ref (.clo 150 [] [(.ref (.int .i64 a1c0c0) [] []), (.ref (eA64u8 a1c0c1) [] [])]) [] [])])) (u := []) rfl trivial rfl ?_
  obtain ⟨r1, hr2, h⟩ := bind_some h
  refine a_call (args := [(eST_A64u8_A64u8_Z a0), (.clo 164 [] [(.ref (.clo 150 [] [(.ref (.int .i64 a1c0c0) [] []), (.ref (eA64u8 a1c0c1) [] [])]) [] [])])]) (u := []) (r := (.int .i64 r1)) rfl rfl (slices_IndexFunc_impl_Form_impl_Form_of_impl_areAll_impl_Form__c1_p_2_ok a0 a1c0c0 a1c0c1 r1 hr2) rfl ?_
  refine a_val (v := (.bool ((decide (r1 ≥ 0))))) (u := []) rfl trivial rfl ?_
  refine a_val (v := (.bool ((decide (r1 ≥ 0))))) (u := []) rfl trivial rfl ?_
  refine a_nil ?_
  refine a_next rfl ?_
  refine a_ret ?_
  refine ⟨.inr rfl, ?_⟩
  rw [Try.results163]
  cases h
  exact ⟨_, _, _, _, _, rfl, trivial, .inl ⟨rfl, .inl rfl⟩, rfl, rfl⟩
def impl_areAll_impl_Form_of_impl_formCode_c2_p_p_c : ACode := (.seq (.region 0 [⟨some 3, .box 145 (.tmp 1), none, []⟩, ⟨some 4, .asg 0 (.const (.bool false)) 4, none, []⟩] false) (.seq (.region 1 [⟨some 5, .mov (.tmp 0), none, []⟩, ⟨some 6, .mkfn 164 [] [(.tmp 3)], none, []⟩, ⟨some 7, .call 0 (.func 163) [(.tmp 5), (.tmp 6)], none, []⟩, ⟨some 8, .un .not (.tmp 7), none, []⟩, ⟨some 4, .asg 0 (.tmp 8) 4, none, []⟩] false) .ret))
def impl_areAll_impl_Form_of_impl_formCode_c2_p_p_L : Live := [(0, [0, 1]), (1, [0, 3])]
theorem impl_areAll_impl_Form_of_impl_formCode_c2_p_p_body : Try.f147.body = some (Try.f147.body.getD .skip) := by kernel_rfl
theorem impl_areAll_impl_Form_of_impl_formCode_c2_p_p_strip : strip [] (Try.f147.body.getD .skip) = impl_areAll_impl_Form_of_impl_formCode_c2_p_p_c := by kernel_rfl
noncomputable def impl_areAll_impl_Form_of_impl_formCode_c2_p_p (a0 : (List ((Vec Int 64) × (Vec Int 64)))) (a1c0 : Int) (a1c1 : (Vec Int 64)) : Option Bool :=
  (Option.bind (slices_ContainsFunc_impl_Form_impl_Form_of_impl_areAll_impl_Form__c1_p_2 a0 a1c0 a1c1) fun r1 => (some (!r1)))
set_option maxHeartbeats 16000000 in
theorem impl_areAll_impl_Form_of_impl_formCode_c2_p_p_ok (a0 : (List ((Vec Int 64) × (Vec Int 64)))) (a1c0 : Int) (a1c1 : (Vec Int 64)) (r : Bool) (h : impl_areAll_impl_Form_of_impl_formCode_c2_p_p a0 a1c0 a1c1 = some r) : Den Try.prog 147 [(eST_A64u8_A64u8_Z a0), (.clo 150 [] [(.ref (.int .i64 a1c0) [] []), (.ref (eA64u8 a1c1) [] [])])] { r := (.bool r) } := by
  refine den_of (rs := [(.bool r)]) (ac := impl_areAll_impl_Form_of_impl_formCode_c2_p_p_c) (L := impl_areAll_impl_Form_of_impl_formCode_c2_p_p_L) (n := 9) (m := []) good Try.func147 impl_areAll_impl_Form_of_impl_formCode_c2_p_p_body (by kernel_rfl) Try.ntmps147 rfl rfl impl_areAll_impl_Form_of_impl_formCode_c2_p_p_strip rfl rfl ?_
  refine a_st (σ' := ⟨[(0, (eST_A64u8_A64u8_Z a0)), (1, (.clo 150 [] [(.ref (.int .i64 a1c0) [] []), (.ref (eA64u8 a1c1) [] [])]))], []⟩) (by kernel_rfl) ?_
  unfold impl_areAll_impl_Form_of_impl_formCode_c2_p_p_c
  refine a_seq ?_
  refine a_region ?_
  refine a_val (v := (.own 1300 [] [])) (u := [(1300, some ⟨(.clo 150 [] [(.ref (.int .i64 a1c0) [] []), (.ref (eA64u8 a1c1) [] [])]), false⟩)]) rfl trivial rfl ?_
  refine a_val (v := (.bool false)) (u := []) rfl trivial rfl ?_
  refine a_nil ?_
  refine a_next (σ' := ⟨[(0, (eST_A64u8_A64u8_Z a0)), (3, (.own 3 [] []))], [(3, some ⟨(.clo 150 [] [(.ref (.int .i64 a1c0) [] []), (.ref (eA64u8 a1c1) [] [])]), false⟩)]⟩) (by kernel_rfl) ?_
  refine a_seq ?_
  refine a_region ?_
  refine a_val (v := (eST_A64u8_A64u8_Z a0)) (u := []) rfl trivial rfl ?_
  refine a_val (v := (.clo 164 [] [(.ref (.clo 150 [] [(.ref (.int .i64 a1c0) [] []), (.ref (eA64u8 a1c1) [] [])]) [] [])])) (u := [(3, some ⟨(.clo 150 [] [(.ref (.int .i64 a1c0) [] []), (.ref (eA64u8 a1c1) [] [])]), true⟩)]) rfl ⟨all_nil, (all_cons ⟨rfl, rfl⟩ all_nil)⟩ rfl ?_
  obtain ⟨r1, hr2, h⟩ := bind_some h
  refine a_call (args := [(eST_A64u8_A64u8_Z a0), (.clo 164 [] [(.ref (.clo 150 [] [(.ref (.int .i64 a1c0) [] []), (.ref (eA64u8 a1c1) [] [])]) [] [])])]) (u := []) (r := (.bool r1)) rfl rfl (slices_ContainsFunc_impl_Form_impl_Form_of_impl_areAll_impl_Form__c1_p_2_ok a0 a1c0 a1c1 r1 hr2) rfl ?_
  refine a_val (v := (.bool (!r1))) (u := []) rfl trivial rfl ?_
  refine a_val (v := (.bool (!r1))) (u := []) rfl trivial rfl ?_
  refine a_nil ?_
  refine a_next rfl ?_
  refine a_ret ?_
  refine ⟨.inr rfl, ?_⟩
  rw [Try.results147]
  cases h
  exact ⟨_, _, _, _, _, rfl, trivial, .inl ⟨rfl, .inl rfl⟩, rfl, rfl⟩
def impl_formCode_c : ACode := (.seq (.region 0 [⟨some 5, .box 2 (.tmp 0), none, []⟩, ⟨some 6, .box 23 (.tmp 1), none, []⟩, ⟨some 10, .asg 0 (.const (.int .i64 0)) 2, none, []⟩] false) (.seq (.block 0 (.seq (.region 1 [⟨some 12, .load 2 (.tmp 5), none, []⟩, ⟨some 13, .load 23 (.tmp 6), none, []⟩, ⟨some 14, .call 0 (.func 146) [(.tmp 12), (.tmp 13)], none, []⟩, ⟨some 15, .un .not (.tmp 14), none, []⟩, ⟨some 16, .mov (.tmp 15), none, []⟩, ⟨some 17, .mov (.tmp 4), some (16, false), []⟩, ⟨some 18, .mkfn 148 [] [(.tmp 5), (.tmp 6)], some (16, false), []⟩, ⟨some 19, .call 0 (.func 147) [(.tmp 17), (.tmp 18)], some (16, false), []⟩, ⟨some 20, .un .not (.tmp 19), some (16, false), []⟩, ⟨some 21, .pick (.tmp 16) (.const (.bool true)) (.tmp 20), none, []⟩, ⟨some 11, .asg 0 (.tmp 21) 4, none, []⟩] false) (.cond (.tmp 11) (.seq (.region 2 [⟨some 10, .asg 0 (.const (.int .i64 1)) 2, none, []⟩] false) .ret) (.seq (.region 3 [⟨some 23, .mov (.tmp 2), none, []⟩, ⟨some 24, .un .not (.tmp 23), none, []⟩, ⟨some 22, .asg 0 (.tmp 24) 4, none, []⟩] false) (.cond (.tmp 22) (.seq (.region 4 [⟨some 10, .asg 0 (.const (.int .i64 2)) 2, none, []⟩] false) .ret) (.seq (.region 5 [⟨some 26, .mov (.tmp 3), none, []⟩, ⟨some 27, .mov (.tmp 26), none, []⟩, ⟨some 28, .mov (.tmp 4), some (27, true), []⟩, ⟨some 29, .mkfn 150 [] [(.tmp 5), (.tmp 6)], some (27, true), []⟩, ⟨some 30, .call 0 (.func 147) [(.tmp 28), (.tmp 29)], some (27, true), []⟩, ⟨some 31, .un .not (.tmp 30), some (27, true), []⟩, ⟨some 32, .pick (.tmp 27) (.tmp 31) (.const (.bool false)), none, []⟩, ⟨some 25, .asg 0 (.tmp 32) 4, none, []⟩] false) (.cond (.tmp 25) (.seq (.region 6 [⟨some 10, .asg 0 (.const (.int .i64 5)) 2, none, []⟩] false) .ret) .skip))))))) (.seq (.region 7 [⟨some 10, .asg 0 (.const (.int .i64 0)) 2, none, []⟩] false) .ret)))
def impl_formCode_L : Live := [(0, [0, 1, 2, 3, 4]), (1, [2, 3, 4, 5, 6]), (2, []), (3, [2, 3, 4, 5, 6]), (4, []), (5, [3, 4, 5, 6]), (6, []), (7, []), (100011, [2, 3, 4, 5, 6, 11]), (100022, [3, 4, 5, 6, 22]), (100025, [25])]
theorem impl_formCode_body : Try.f129.body = some (Try.f129.body.getD .skip) := by kernel_rfl
theorem impl_formCode_strip : strip [] (Try.f129.body.getD .skip) = impl_formCode_c := by kernel_rfl
noncomputable def impl_formCode (a0 : Int) (a1 : (Vec Int 64)) (a2 : Bool) (a3 : Bool) (a4 : (List ((Vec Int 64) × (Vec Int 64)))) : Option Int :=
  (Option.bind (impl_IsDiscriminant a0 a1) fun r11 => (if (!r11) then (some 1) else (Option.bind (impl_areAll_impl_Form_of_impl_formCode_c1_p_p a4 a0 a1) fun r14 => (if (!r14) then (some 1) else (if (!a2) then (some 2) else (Option.bind (α := Bool) ((if a3 then (Option.bind (impl_areAll_impl_Form_of_impl_formCode_c2_p_p a4 a0 a1) fun r26 => (some (!r26))) else (some false))) fun x21 => (if x21 then (some 5) else (some 0))))))))
set_option maxHeartbeats 16000000 in
theorem impl_formCode_ok (a0 : Int) (a1 : (Vec Int 64)) (a2 : Bool) (a3 : Bool) (a4 : (List ((Vec Int 64) × (Vec Int 64)))) (r : Int) (h : impl_formCode a0 a1 a2 a3 a4 = some r) : Den Try.prog 129 [(.int .i64 a0), (eA64u8 a1), (.bool a2), (.bool a3), (eST_A64u8_A64u8_Z a4)] { r := (.int .i64 r) } := by
  refine den_of (rs := [(.int .i64 r)]) (ac := impl_formCode_c) (L := impl_formCode_L) (n := 33) (m := []) good Try.func129 impl_formCode_body (by kernel_rfl) Try.ntmps129 rfl rfl impl_formCode_strip rfl rfl ?_
  refine a_st (σ' := ⟨[(0, (.int .i64 a0)), (1, (eA64u8 a1)), (2, (.bool a2)), (3, (.bool a3)), (4, (eST_A64u8_A64u8_Z a4))], []⟩) (by kernel_rfl) ?_
  unfold impl_formCode_c
  refine a_seq ?_
  refine a_region ?_
  refine a_val (v := (.own 1500 [] [])) (u := [(1500, some ⟨(.int .i64 a0), false⟩)]) rfl trivial rfl ?_
  refine a_val (v := (.own 1600 [] [])) (u := [(1600, some ⟨(eA64u8 a1), false⟩)]) rfl trivial rfl ?_
  refine a_val (v := (.int .i64 0)) (u := []) rfl trivial rfl ?_
  refine a_nil ?_
  refine a_next (σ' := ⟨[(2, (.bool a2)), (3, (.bool a3)), (4, (eST_A64u8_A64u8_Z a4)), (5, (.own 5 [] [])), (6, (.own 6 [] []))], [(5, some ⟨(.int .i64 a0), false⟩), (6, some ⟨(eA64u8 a1), false⟩)]⟩) (by kernel_rfl) ?_
  refine a_seq ?_
  refine a_block ?_
  refine a_seq ?_
  refine a_region ?_
  have hl9 : LdOk [] (.int .i64 a0) [] 1 false (.int .i64 a0) := (.nil rfl rfl rfl)
  refine a_val (v := (.int .i64 a0)) (u := []) (ld_own (i := ⟨.int .i64, 1, 8, (.int .i64 0)⟩) rfl rfl rfl hl9) hl9.c rfl ?_
  have hl10 : LdOk [] (eA64u8 a1) [] 64 true (eA64u8 a1) := (.nil rfl rfl rfl)
  refine a_val (v := (eA64u8 a1)) (u := []) (ld_own (i := ⟨.arr 64 5, 64, 64, (eA64u8 (vrep 64 (0 : Int)))⟩) rfl rfl rfl hl10) hl10.c rfl ?_
  obtain ⟨r11, hr12, h⟩ := bind_some h
  refine a_call (args := [(.int .i64 a0), (eA64u8 a1)]) (u := []) (r := (.bool r11)) rfl rfl (impl_IsDiscriminant_ok a0 a1 r11 hr12) rfl ?_
  refine a_val (v := (.bool (!r11))) (u := []) rfl trivial rfl ?_
  refine a_val (v := (.bool (!r11))) (u := []) rfl trivial rfl ?_
  cases hb13 : (!r11)
  · have h := ite_f hb13 h
    refine a_gval rfl (v := (eST_A64u8_A64u8_Z a4)) (u := []) rfl trivial rfl ?_
    refine a_gval rfl (v := (.clo 148 [] [(.ref (.int .i64 a0) [] []), (.ref (eA64u8 a1) [] [])])) (u := [(5, some ⟨(.int .i64 a0), true⟩), (6, some ⟨(eA64u8 a1), true⟩)]) rfl ⟨all_nil, (all_cons ⟨rfl, rfl⟩ (all_cons ⟨rfl, rfl⟩ all_nil))⟩ rfl ?_
    obtain ⟨r14, hr15, h⟩ := bind_some h
    refine a_gcall rfl (args := [(eST_A64u8_A64u8_Z a4), (.clo 148 [] [(.ref (.int .i64 a0) [] []), (.ref (eA64u8 a1) [] [])])]) (u := []) (r := (.bool r14)) rfl rfl (impl_areAll_impl_Form_of_impl_formCode_c1_p_p_ok a4 a0 a1 r14 hr15) rfl ?_
    refine a_gval rfl (v := (.bool (!r14))) (u := []) rfl trivial rfl ?_
    refine a_val (v := (.bool (!r14))) (u := []) rfl trivial rfl ?_
    refine a_val (v := (.bool (!r14))) (u := []) rfl trivial rfl ?_
    refine a_nil ?_
    refine a_next (σ' := ⟨[(2, (.bool a2)), (3, (.bool a3)), (4, (eST_A64u8_A64u8_Z a4)), (5, (.own 5 [] [])), (6, (.own 6 [] [])), (11, (.bool (!r14)))], [(5, some ⟨(.int .i64 a0), true⟩), (6, some ⟨(eA64u8 a1), true⟩)]⟩) (by kernel_rfl) ?_
    cases hb16 : (!r14)
    · have h := ite_f hb16 h
      refine a_cond_f rfl ?_
      refine a_seq ?_
      refine a_region ?_
      refine a_val (v := (.bool a2)) (u := []) rfl trivial rfl ?_
      refine a_val (v := (.bool (!a2))) (u := []) rfl trivial rfl ?_
      refine a_val (v := (.bool (!a2))) (u := []) rfl trivial rfl ?_
      refine a_nil ?_
      refine a_next (σ' := ⟨[(3, (.bool a3)), (4, (eST_A64u8_A64u8_Z a4)), (5, (.own 5 [] [])), (6, (.own 6 [] [])), (22, (.bool (!a2)))], [(5, some ⟨(.int .i64 a0), true⟩), (6, some ⟨(eA64u8 a1), true⟩)]⟩) (by kernel_rfl) ?_
      cases hb17 : (!a2)
      · have h := ite_f hb17 h
        refine a_cond_f rfl ?_
        obtain ⟨y22, hy23, hk24⟩ := bind_some h
        clear h
        refine a_join (emb := fun (s : Bool) => ⟨[(25, (.bool s))], []⟩) (pre := fun s => s = y22) ?_ ?_
        · rintro x21 rfl
          have h := hk24
          refine a_st (σ' := ⟨[(25, (.bool x21))], []⟩) (by kernel_rfl) ?_
          cases hb28 : x21
          · have h := ite_f hb28 h
            refine a_cond_f rfl ?_
            refine a_skip ?_
            refine b_norm ?_
            refine a_next (σ' := ⟨[], []⟩) (by kernel_rfl) ?_
            refine a_seq ?_
            refine a_region ?_
            refine a_val (v := (.int .i64 0)) (u := []) rfl trivial rfl ?_
            refine a_nil ?_
            refine a_next rfl ?_
            refine a_ret ?_
            refine ⟨.inr rfl, ?_⟩
            rw [Try.results129]
            cases h
            exact ⟨_, _, _, _, _, rfl, trivial, .inl ⟨rfl, .inl rfl⟩, rfl, rfl⟩
          · have h := ite_t hb28 h
            refine a_cond_t rfl ?_
            refine a_seq ?_
            refine a_region ?_
            refine a_val (v := (.int .i64 5)) (u := []) rfl trivial rfl ?_
            refine a_nil ?_
            refine a_next rfl ?_
            refine a_ret ?_
            refine b_ret ?_
            refine t_ret ?_
            refine ⟨.inr rfl, ?_⟩
            rw [Try.results129]
            cases h
            exact ⟨_, _, _, _, _, rfl, trivial, .inl ⟨rfl, .inl rfl⟩, rfl, rfl⟩
        · have h := hy23
          refine a_region ?_
          refine a_val (v := (.bool a3)) (u := []) rfl trivial rfl ?_
          refine a_val (v := (.bool a3)) (u := []) rfl trivial rfl ?_
          cases hb25 : a3
          · have h := ite_f hb25 h
            refine a_gskip rfl ?_
            refine a_gskip rfl ?_
            refine a_gskip rfl ?_
            refine a_gskip rfl ?_
            refine a_val (v := (.bool false)) (u := []) rfl trivial rfl ?_
            refine a_val (v := (.bool false)) (u := []) rfl trivial rfl ?_
            refine a_nil ?_
            exact j_leaf false (Option.some.inj h) (by kernel_rfl)
          · have h := ite_t hb25 h
            refine a_gval rfl (v := (eST_A64u8_A64u8_Z a4)) (u := []) rfl trivial rfl ?_
            refine a_gval rfl (v := (.clo 150 [] [(.ref (.int .i64 a0) [] []), (.ref (eA64u8 a1) [] [])])) (u := [(5, some ⟨(.int .i64 a0), true⟩), (6, some ⟨(eA64u8 a1), true⟩)]) rfl ⟨all_nil, (all_cons ⟨rfl, rfl⟩ (all_cons ⟨rfl, rfl⟩ all_nil))⟩ rfl ?_
            obtain ⟨r26, hr27, h⟩ := bind_some h
            refine a_gcall rfl (args := [(eST_A64u8_A64u8_Z a4), (.clo 150 [] [(.ref (.int .i64 a0) [] []), (.ref (eA64u8 a1) [] [])])]) (u := []) (r := (.bool r26)) rfl rfl (impl_areAll_impl_Form_of_impl_formCode_c2_p_p_ok a4 a0 a1 r26 hr27) rfl ?_
            refine a_gval rfl (v := (.bool (!r26))) (u := []) rfl trivial rfl ?_
            refine a_val (v := (.bool (!r26))) (u := []) rfl trivial rfl ?_
            refine a_val (v := (.bool (!r26))) (u := []) rfl trivial rfl ?_
            refine a_nil ?_
            exact j_leaf (!r26) (Option.some.inj h) (by kernel_rfl)
      · have h := ite_t hb17 h
        refine a_cond_t rfl ?_
        refine a_seq ?_
        refine a_region ?_
        refine a_val (v := (.int .i64 2)) (u := []) rfl trivial rfl ?_
        refine a_nil ?_
        refine a_next rfl ?_
        refine a_ret ?_
        refine b_ret ?_
        refine t_ret ?_
        refine ⟨.inr rfl, ?_⟩
        rw [Try.results129]
        cases h
        exact ⟨_, _, _, _, _, rfl, trivial, .inl ⟨rfl, .inl rfl⟩, rfl, rfl⟩
    · have h := ite_t hb16 h
      refine a_cond_t rfl ?_
      refine a_seq ?_
      refine a_region ?_
      refine a_val (v := (.int .i64 1)) (u := []) rfl trivial rfl ?_
      refine a_nil ?_
      refine a_next rfl ?_
      refine a_ret ?_
      refine b_ret ?_
      refine t_ret ?_
      refine ⟨.inr rfl, ?_⟩
      rw [Try.results129]
      cases h
      exact ⟨_, _, _, _, _, rfl, trivial, .inl ⟨rfl, .inl rfl⟩, rfl, rfl⟩
  · have h := ite_t hb13 h
    refine a_gskip rfl ?_
    refine a_gskip rfl ?_
    refine a_gskip rfl ?_
    refine a_gskip rfl ?_
    refine a_val (v := (.bool true)) (u := []) rfl trivial rfl ?_
    refine a_val (v := (.bool true)) (u := []) rfl trivial rfl ?_
    refine a_nil ?_
    refine a_next (σ' := ⟨[(2, (.bool a2)), (3, (.bool a3)), (4, (eST_A64u8_A64u8_Z a4)), (5, (.own 5 [] [])), (6, (.own 6 [] [])), (11, (.bool true))], [(5, some ⟨(.int .i64 a0), false⟩), (6, some ⟨(eA64u8 a1), false⟩)]⟩) (by kernel_rfl) ?_
    refine a_cond_t rfl ?_
    refine a_seq ?_
    refine a_region ?_
    refine a_val (v := (.int .i64 1)) (u := []) rfl trivial rfl ?_
    refine a_nil ?_
    refine a_next rfl ?_
    refine a_ret ?_
    refine b_ret ?_
    refine t_ret ?_
    refine ⟨.inr rfl, ?_⟩
    rw [Try.results129]
    cases h
    exact ⟨_, _, _, _, _, rfl, trivial, .inl ⟨rfl, .inl rfl⟩, rfl, rfl⟩
def impl_prime_norm_c : ACode := (.seq (.region 0 [⟨some 6, .asg 0 (.const (.int .i64 0)) 2, none, []⟩] false) (.seq (.region 1 [⟨some 7, .asg 0 (.const (.int .i64 1)) 2, none, []⟩] false) (.seq (.seq (.region 2 [⟨some 8, .mov (.tmp 1), none, []⟩, ⟨some 9, .mov (.const (.int .i64 0)), none, []⟩] false) (.block 0 (.loop (.seq (.region 3 [⟨some 10, .bin .lss 2 (.tmp 9) (.tmp 8), none, []⟩] false) (.seq (.cond (.tmp 10) .skip (.exit 0)) (.seq (.block 1 (.seq (.seq (.region 4 [⟨some 11, .mov (.tmp 7), none, []⟩, ⟨some 12, .mov (.tmp 2), none, []⟩, ⟨some 13, .bin .gtr 2 (.tmp 11) (.tmp 12), none, []⟩] false) (.cond (.tmp 13) (.exit 0) .skip)) (.region 5 [⟨some 14, .mov (.tmp 7), none, []⟩, ⟨some 15, .mov (.tmp 0), none, []⟩, ⟨some 16, .bin .mul 2 (.tmp 14) (.tmp 15), none, []⟩, ⟨some 7, .asg 0 (.tmp 16) 2, none, []⟩] false))) (.region 6 [⟨some 17, .bin .add 2 (.tmp 9) (.const (.int .i64 1)), none, []⟩, ⟨some 9, .mov (.tmp 17), none, []⟩] false))))))) (.seq (.region 7 [⟨some 18, .mov (.tmp 7), none, []⟩, ⟨some 6, .asg 0 (.tmp 18) 2, none, []⟩] false) .ret))))
def impl_prime_norm_L : Live := [(0, [0, 1, 2]), (1, [0, 1, 2]), (2, [0, 1, 2, 7]), (3, [0, 2, 7, 8, 9]), (4, [0, 2, 7, 8, 9]), (5, [0, 2, 7, 8, 9]), (6, [0, 2, 7, 8, 9]), (7, [7]), (100010, [0, 2, 7, 8, 9, 10]), (100013, [0, 2, 7, 8, 9, 13])]
theorem impl_prime_norm_body : Try.f115.body = some (Try.f115.body.getD .skip) := by kernel_rfl
theorem impl_prime_norm_strip : strip [] (Try.f115.body.getD .skip) = impl_prime_norm_c := by kernel_rfl
noncomputable def impl_prime_norm_l1 (a1 : Int) (a2 : Int) (a0 : Int) (x19 : Int) (x20 : Int) : Option ((Int × Int) ⊕ Int) :=
  (if (decide (x20 < a1)) then (if (decide (x19 > a2)) then (some (.inr x19)) else (some (.inl ((IntKind.i64.wrap (x19 * a0), IntKind.i64.wrap (x20 + 1)))))) else (some (.inr x19)))
noncomputable def impl_prime_norm (a0 : Int) (a1 : Int) (a2 : Int) : Option Int :=
  (Option.bind (α := Int) ((loopM (fun s : (Int × Int) => impl_prime_norm_l1 a1 a2 a0 s.1 s.2) (1, 0))) fun x13 => (some x13))
set_option maxHeartbeats 16000000 in
theorem impl_prime_norm_ok (a0 : Int) (a1 : Int) (a2 : Int) (r : Int) (h : impl_prime_norm a0 a1 a2 = some r) : Den Try.prog 115 [(.int .i64 a0), (.int .i64 a1), (.int .i64 a2)] { r := (.int .i64 r) } := by
  refine den_of (rs := [(.int .i64 r)]) (ac := impl_prime_norm_c) (L := impl_prime_norm_L) (n := 19) (m := []) good Try.func115 impl_prime_norm_body (by kernel_rfl) Try.ntmps115 rfl rfl impl_prime_norm_strip rfl rfl ?_
  refine a_st (σ' := ⟨[(0, (.int .i64 a0)), (1, (.int .i64 a1)), (2, (.int .i64 a2))], []⟩) (by kernel_rfl) ?_
  unfold impl_prime_norm_c
  refine a_seq ?_
  refine a_region ?_
  refine a_val (v := (.int .i64 0)) (u := []) rfl trivial rfl ?_
  refine a_nil ?_
  refine a_next (σ' := ⟨[(0, (.int .i64 a0)), (1, (.int .i64 a1)), (2, (.int .i64 a2))], []⟩) (by kernel_rfl) ?_
  refine a_seq ?_
  refine a_region ?_
  refine a_val (v := (.int .i64 1)) (u := []) rfl trivial rfl ?_
  refine a_nil ?_
  refine a_next (σ' := ⟨[(0, (.int .i64 a0)), (1, (.int .i64 a1)), (2, (.int .i64 a2)), (7, (.int .i64 1))], []⟩) (by kernel_rfl) ?_
  obtain ⟨y14, hy15, hk16⟩ := bind_some h
  clear h
  refine a_join (emb := fun (s : Int) => ⟨[(7, (.int .i64 s))], []⟩) (pre := fun s => s = y14) ?_ ?_
  · rintro x13 rfl
    have h := hk16
    refine a_st (σ' := ⟨[(7, (.int .i64 x13))], []⟩) (by kernel_rfl) ?_
    refine a_seq ?_
    refine a_region ?_
    refine a_val (v := (.int .i64 x13)) (u := []) rfl trivial rfl ?_
    refine a_val (v := (.int .i64 x13)) (u := []) rfl trivial rfl ?_
    refine a_nil ?_
    refine a_next rfl ?_
    refine a_ret ?_
    refine ⟨.inr rfl, ?_⟩
    rw [Try.results115]
    cases h
    exact ⟨_, _, _, _, _, rfl, trivial, .inl ⟨rfl, .inl rfl⟩, rfl, rfl⟩
  · have h := hy15
    refine a_seq ?_
    refine a_region ?_
    refine a_val (v := (.int .i64 a1)) (u := []) rfl trivial rfl ?_
    refine a_val (v := (.int .i64 0)) (u := []) rfl trivial rfl ?_
    refine a_nil ?_
    refine a_next (σ' := ⟨[(0, (.int .i64 a0)), (2, (.int .i64 a2)), (7, (.int .i64 1)), (8, (.int .i64 a1)), (9, (.int .i64 0))], []⟩) (by kernel_rfl) ?_
    refine a_block ?_
    refine a_loop (emb := fun (s : (Int × Int)) => ⟨[(0, (.int .i64 a0)), (2, (.int .i64 a2)), (7, (.int .i64 s.1)), (8, (.int .i64 a1)), (9, (.int .i64 s.2))], []⟩) (body := (fun s : (Int × Int) => impl_prime_norm_l1 a1 a2 a0 s.1 s.2)) (G := fun q => some q = some y14) h rfl ?_ (by kernel_rfl)
    rintro X23 ⟨x19, x20⟩ x24 h hX25
    have h : impl_prime_norm_l1 a1 a2 a0 x19 x20 = some x24 := h
    refine a_st (σ' := ⟨[(0, (.int .i64 a0)), (2, (.int .i64 a2)), (7, (.int .i64 x19)), (8, (.int .i64 a1)), (9, (.int .i64 x20))], []⟩) (by kernel_rfl) ?_
    refine a_seq ?_
    refine a_region ?_
    refine a_val (v := (.bool ((decide (x20 < a1))))) (u := []) rfl trivial rfl ?_
    refine a_nil ?_
    refine a_next (σ' := ⟨[(0, (.int .i64 a0)), (2, (.int .i64 a2)), (7, (.int .i64 x19)), (8, (.int .i64 a1)), (9, (.int .i64 x20)), (10, (.bool ((decide (x20 < a1)))))], []⟩) (by kernel_rfl) ?_
    refine a_seq ?_
    cases hb26 : (decide (x20 < a1))
    · have h := ite_f hb26 h
      refine a_cond_f rfl ?_
      refine a_exit ?_
      refine t_exit ?_
      cases h
      have h := hX25
      refine t_exit ?_
      refine b_exit ?_
      exact j_leaf x19 (Option.some.inj h) (by kernel_rfl)
    · have h := ite_t hb26 h
      refine a_cond_t rfl ?_
      refine a_skip ?_
      refine a_next (σ' := ⟨[(0, (.int .i64 a0)), (2, (.int .i64 a2)), (7, (.int .i64 x19)), (8, (.int .i64 a1)), (9, (.int .i64 x20))], []⟩) (by kernel_rfl) ?_
      refine a_seq ?_
      refine a_block ?_
      refine a_seq ?_
      refine a_seq ?_
      refine a_region ?_
      refine a_val (v := (.int .i64 x19)) (u := []) rfl trivial rfl ?_
      refine a_val (v := (.int .i64 a2)) (u := []) rfl trivial rfl ?_
      refine a_val (v := (.bool ((decide (x19 > a2))))) (u := []) rfl trivial rfl ?_
      refine a_nil ?_
      refine a_next (σ' := ⟨[(0, (.int .i64 a0)), (2, (.int .i64 a2)), (7, (.int .i64 x19)), (8, (.int .i64 a1)), (9, (.int .i64 x20)), (13, (.bool ((decide (x19 > a2)))))], []⟩) (by kernel_rfl) ?_
      cases hb27 : (decide (x19 > a2))
      · have h := ite_f hb27 h
        refine a_cond_f rfl ?_
        refine a_skip ?_
        refine a_next (σ' := ⟨[(0, (.int .i64 a0)), (2, (.int .i64 a2)), (7, (.int .i64 x19)), (8, (.int .i64 a1)), (9, (.int .i64 x20))], []⟩) (by kernel_rfl) ?_
        refine a_region ?_
        refine a_val (v := (.int .i64 x19)) (u := []) rfl trivial rfl ?_
        refine a_val (v := (.int .i64 a0)) (u := []) rfl trivial rfl ?_
        refine a_val (v := (.int .i64 (IntKind.i64.wrap (x19 * a0)))) (u := []) rfl trivial rfl ?_
        refine a_val (v := (.int .i64 (IntKind.i64.wrap (x19 * a0)))) (u := []) rfl trivial rfl ?_
        refine a_nil ?_
        refine b_norm ?_
        refine a_next (σ' := ⟨[(0, (.int .i64 a0)), (2, (.int .i64 a2)), (7, (.int .i64 (IntKind.i64.wrap (x19 * a0)))), (8, (.int .i64 a1)), (9, (.int .i64 x20))], []⟩) (by kernel_rfl) ?_
        refine a_region ?_
        refine a_val (v := (.int .i64 (IntKind.i64.wrap (x20 + 1)))) (u := []) rfl trivial rfl ?_
        refine a_val (v := (.int .i64 (IntKind.i64.wrap (x20 + 1)))) (u := []) rfl trivial rfl ?_
        refine a_nil ?_
        cases h
        exact a_again (by kernel_rfl) hX25
      · have h := ite_t hb27 h
        refine a_cond_t rfl ?_
        refine a_exit ?_
        refine t_exit ?_
        refine b_other rfl ?_
        refine t_exit ?_
        cases h
        have h := hX25
        refine t_exit ?_
        refine b_exit ?_
        exact j_leaf x19 (Option.some.inj h) (by kernel_rfl)
def impl_prime_numbered_c : ACode := (.seq (.region 0 [⟨some 4, .asg 1 (.const (.slice none 0 0)) 64, none, []⟩] false) (.seq (.region 1 [⟨some 5, .asg 2 (.const (.slice none 0 0)) 64, none, []⟩] false) (.seq (.block 0 (.loop (.seq (.seq (.region 2 [⟨some 6, .mov (.tmp 1), none, []⟩, ⟨some 7, .bin .gtr 2 (.tmp 6) (.const (.int .i64 0)), none, []⟩] false) (.cond (.tmp 7) .skip (.exit 0))) (.seq (.block 1 (.region 4 [⟨some 11, .mov (.tmp 5), none, []⟩, ⟨some 12, .mov (.tmp 1), none, []⟩, ⟨some 13, .mov (.tmp 0), none, []⟩, ⟨some 14, .bin .rem 2 (.tmp 12) (.tmp 13), none, []⟩, ⟨some 15, .bslice 0 64 1 [(0, (.tmp 14))], none, []⟩, ⟨some 16, .blt 0 .append [(.tmp 11), (.tmp 15)] [64, 64], none, []⟩, ⟨some 5, .asg 2 (.tmp 16) 64, none, []⟩] false)) (.region 3 [⟨some 8, .mov (.tmp 1), none, []⟩, ⟨some 9, .mov (.tmp 0), none, []⟩, ⟨some 10, .bin .quo 2 (.tmp 8) (.tmp 9), none, []⟩, ⟨some 1, .asg 0 (.tmp 10) 2, none, []⟩] false))))) (.seq (.region 5 [⟨some 17, .mov (.tmp 5), none, []⟩, ⟨some 4, .asg 1 (.tmp 17) 64, none, []⟩] false) .ret))))
def impl_prime_numbered_L : Live := [(0, [0, 1]), (1, [0, 1]), (2, [0, 1, 5]), (3, [0, 1, 5]), (4, [0, 1, 5]), (5, [5]), (100007, [0, 1, 5, 7])]
theorem impl_prime_numbered_body : Try.f64.body = some (Try.f64.body.getD .skip) := by kernel_rfl
theorem impl_prime_numbered_strip : strip [(4, 1), (5, 2)] (Try.f64.body.getD .skip) = impl_prime_numbered_c := by kernel_rfl
noncomputable def impl_prime_numbered_l1 (a0 : Int) (x27 : Int) (x28 : (List Int)) : Option ((Int × (List Int)) ⊕ (List Int)) :=
  (if (decide (x27 > 0)) then (ifp (a0 ≠ 0) ((ifp ((x28.length + ([Int.tmod x27 a0] : List Int).length) * 8 ≤ 140737488355328) ((ifp (a0 ≠ 0) ((some (.inl ((IntKind.i64.wrap (Int.tdiv x27 a0), (x28 ++ ([Int.tmod x27 a0])))))))))))) else (some (.inr x28)))
noncomputable def impl_prime_numbered (a0 : Int) (a1 : Int) : Option (List Int) :=
  (Option.bind (α := (List Int)) ((loopM (fun s : (Int × (List Int)) => impl_prime_numbered_l1 a0 s.1 s.2) (a1, []))) fun x19 => (some x19))
set_option maxHeartbeats 16000000 in
theorem impl_prime_numbered_ok (a0 : Int) (a1 : Int) (r : (List Int)) (h : impl_prime_numbered a0 a1 = some r) : Den Try.prog 64 [(.int .i64 a0), (.int .i64 a1)] { r := (eSi64 r) } := by
  refine den_of (rs := [(eSi64 r)]) (ac := impl_prime_numbered_c) (L := impl_prime_numbered_L) (n := 18) (m := [(4, 1), (5, 2)]) good Try.func64 impl_prime_numbered_body (by kernel_rfl) Try.ntmps64 rfl rfl impl_prime_numbered_strip rfl rfl ?_
  refine a_st (σ' := ⟨[(0, (.int .i64 a0)), (1, (.int .i64 a1))], []⟩) (by kernel_rfl) ?_
  unfold impl_prime_numbered_c
  refine a_seq ?_
  refine a_region ?_
  refine a_val (v := (eSi64 ([]))) (u := []) rfl trivial rfl ?_
  refine a_nil ?_
  refine a_next (σ' := ⟨[(0, (.int .i64 a0)), (1, (.int .i64 a1))], []⟩) (by kernel_rfl) ?_
  refine a_seq ?_
  refine a_region ?_
  refine a_val (v := (.osl 1500)) (u := [(1500, some ⟨(.row 1 (([]).map (AV.int .i64))), false⟩)]) rfl trivial rfl ?_
  refine a_nil ?_
  refine a_next (σ' := ⟨[(0, (.int .i64 a0)), (1, (.int .i64 a1)), (5, (.osl 5))], [(5, some ⟨(.row 1 (([]).map (AV.int .i64))), false⟩)]⟩) (by kernel_rfl) ?_
  obtain ⟨y20, hy21, hk22⟩ := bind_some h
  clear h
  refine a_join (emb := fun (s : (List Int)) => ⟨[(5, (.osl 5))], [(5, some ⟨(.row 1 (s.map (AV.int .i64))), false⟩)]⟩) (pre := fun s => s = y20) ?_ ?_
  · rintro x19 rfl
    have h := hk22
    refine a_st (σ' := ⟨[(5, (.osl 5))], [(5, some ⟨(.row 1 (x19.map (AV.int .i64))), false⟩)]⟩) (by kernel_rfl) ?_
    refine a_seq ?_
    refine a_region ?_
    refine a_val (v := (.osl 5)) (u := []) rfl trivial rfl ?_
    refine a_val (v := (eSi64 x19)) (u := [(5, some ⟨(.row 1 (x19.map (AV.int .i64))), true⟩)]) rfl trivial rfl ?_
    refine a_nil ?_
    refine a_next rfl ?_
    refine a_ret ?_
    refine ⟨.inr rfl, ?_⟩
    rw [Try.results64]
    cases h
    exact ⟨_, _, _, _, _, rfl, trivial, .inl ⟨rfl, .inl rfl⟩, rfl, rfl⟩
  · have h := hy21
    refine a_block ?_
    refine a_loop (emb := fun (s : (Int × (List Int))) => ⟨[(0, (.int .i64 a0)), (1, (.int .i64 s.1)), (5, (.osl 5))], [(5, some ⟨(.row 1 (s.2.map (AV.int .i64))), false⟩)]⟩) (body := (fun s : (Int × (List Int)) => impl_prime_numbered_l1 a0 s.1 s.2)) (G := fun q => some q = some y20) h rfl ?_ (by kernel_rfl)
    rintro X33 ⟨x27, x28⟩ x34 h hX35
    have h : impl_prime_numbered_l1 a0 x27 x28 = some x34 := h
    refine a_st (σ' := ⟨[(0, (.int .i64 a0)), (1, (.int .i64 x27)), (5, (.osl 5))], [(5, some ⟨(.row 1 (x28.map (AV.int .i64))), false⟩)]⟩) (by kernel_rfl) ?_
    refine a_seq ?_
    refine a_seq ?_
    refine a_region ?_
    refine a_val (v := (.int .i64 x27)) (u := []) rfl trivial rfl ?_
    refine a_val (v := (.bool ((decide (x27 > 0))))) (u := []) rfl trivial rfl ?_
    refine a_nil ?_
    refine a_next (σ' := ⟨[(0, (.int .i64 a0)), (1, (.int .i64 x27)), (5, (.osl 5)), (7, (.bool ((decide (x27 > 0)))))], [(5, some ⟨(.row 1 (x28.map (AV.int .i64))), false⟩)]⟩) (by kernel_rfl) ?_
    cases hb36 : (decide (x27 > 0))
    · have h := ite_f hb36 h
      refine a_cond_f rfl ?_
      refine a_exit ?_
      refine t_exit ?_
      cases h
      have h := hX35
      refine t_exit ?_
      refine b_exit ?_
      exact j_leaf x28 (Option.some.inj h) (by kernel_rfl)
    · have h := ite_t hb36 h
      refine a_cond_t rfl ?_
      refine a_skip ?_
      refine a_next (σ' := ⟨[(0, (.int .i64 a0)), (1, (.int .i64 x27)), (5, (.osl 5))], [(5, some ⟨(.row 1 (x28.map (AV.int .i64))), false⟩)]⟩) (by kernel_rfl) ?_
      refine a_seq ?_
      refine a_block ?_
      refine a_region ?_
      refine a_val (v := (.osl 5)) (u := []) rfl trivial rfl ?_
      refine a_val (v := (.int .i64 x27)) (u := []) rfl trivial rfl ?_
      refine a_val (v := (.int .i64 a0)) (u := []) rfl trivial rfl ?_
      obtain ⟨hc37, h⟩ := ifp_some h
      refine a_val (v := (.int .i64 (Int.tmod x27 a0))) (u := []) rfl hc37 rfl ?_
      refine a_val (v := (.sl 1 true (([Int.tmod x27 a0]).map (AV.int .i64)))) (u := []) rfl ⟨(Nat.le_of_ble_eq_true rfl), (Nat.le_of_ble_eq_true rfl), (all_cons ⟨(Nat.le_of_ble_eq_true rfl), rfl⟩ all_nil)⟩ rfl ?_
      obtain ⟨hc38, h⟩ := ifp_some h
      refine a_val (v := (.osl 2600)) (u := [(2600, some ⟨(.row 1 (((x28 ++ ([Int.tmod x27 a0]))).map (AV.int .i64))), false⟩), (5, none)]) (app_run (i := ⟨.int .i64, 1, 8, (.int .i64 0)⟩) (f := (AV.int .i64)) (l := x28) (l2 := [Int.tmod x27 a0]) rfl rfl rfl rfl (fun _ => rfl) rfl rfl) (app_c (f := (AV.int .i64)) (s := 1) (sz := 1) (by' := 8) (u := []) (id := 5) hc38 (.inr rfl) rfl rfl rfl) rfl ?_
      refine a_val (v := (.osl 2600)) (u := []) rfl trivial rfl ?_
      refine a_nil ?_
      refine b_norm ?_
      refine a_next (σ' := ⟨[(0, (.int .i64 a0)), (1, (.int .i64 x27)), (5, (.osl 5))], [(5, some ⟨(.row 1 (((x28 ++ ([Int.tmod x27 a0]))).map (AV.int .i64))), false⟩)]⟩) (by kernel_rfl) ?_
      refine a_region ?_
      refine a_val (v := (.int .i64 x27)) (u := []) rfl trivial rfl ?_
      refine a_val (v := (.int .i64 a0)) (u := []) rfl trivial rfl ?_
      obtain ⟨hc39, h⟩ := ifp_some h
      refine a_val (v := (.int .i64 (IntKind.i64.wrap (Int.tdiv x27 a0)))) (u := []) rfl hc39 rfl ?_
      refine a_val (v := (.int .i64 (IntKind.i64.wrap (Int.tdiv x27 a0)))) (u := []) rfl trivial rfl ?_
      refine a_nil ?_
      cases h
      exact a_again (by kernel_rfl) hX35
def impl_prime_monics_c : ACode := (.seq (.region 0 [⟨some 4, .asg 1 (.const (.slice none 0 0)) 72, none, []⟩] false) (.seq (.region 1 [⟨some 8, .mov (.tmp 0), none, []⟩, ⟨some 9, .mov (.tmp 1), none, []⟩, ⟨some 10, .call 0 (.func 115) [(.tmp 8), (.tmp 9), (.const (.int .i64 343))], none, []⟩, ⟨some 5, .asg 0 (.tmp 10) 2, none, []⟩] false) (.seq (.region 2 [⟨some 6, .asg 2 (.const (.slice none 0 0)) 72, none, []⟩] false) (.seq (.seq (.region 3 [⟨some 11, .mov (.tmp 5), none, []⟩, ⟨some 12, .mov (.const (.int .i64 0)), none, []⟩] false) (.block 0 (.loop (.seq (.region 4 [⟨some 13, .bin .lss 2 (.tmp 12) (.tmp 11), none, []⟩] false) (.seq (.cond (.tmp 13) .skip (.exit 0)) (.seq (.block 1 (.seq (.region 5 [⟨some 14, .mov (.tmp 12), none, []⟩, ⟨some 7, .asg 0 (.tmp 14) 2, none, []⟩] false) (.region 6 [⟨some 15, .mov (.tmp 6), none, []⟩, ⟨some 16, .mov (.tmp 0), none, []⟩, ⟨some 17, .mov (.tmp 5), none, []⟩, ⟨some 18, .mov (.tmp 7), none, []⟩, ⟨some 19, .bin .add 2 (.tmp 17) (.tmp 18), none, []⟩, ⟨some 20, .call 0 (.func 64) [(.tmp 16), (.tmp 19)], none, []⟩, ⟨some 21, .bslice 0 72 1 [(0, (.tmp 20))], none, []⟩, ⟨some 22, .blt 0 .append [(.tmp 15), (.tmp 21)] [72, 72], none, []⟩, ⟨some 6, .asg 2 (.tmp 22) 72, none, []⟩] false))) (.region 7 [⟨some 23, .bin .add 2 (.tmp 12) (.const (.int .i64 1)), none, []⟩, ⟨some 12, .mov (.tmp 23), none, []⟩] false))))))) (.seq (.region 8 [⟨some 24, .mov (.tmp 6), none, []⟩, ⟨some 4, .asg 1 (.tmp 24) 72, none, []⟩] false) .ret)))))
def impl_prime_monics_L : Live := [(0, [0, 1]), (1, [0, 1]), (2, [0, 5]), (3, [0, 5, 6]), (4, [0, 5, 6, 11, 12]), (5, [0, 5, 6, 11, 12]), (6, [0, 5, 6, 7, 11, 12]), (7, [0, 5, 6, 11, 12]), (8, [6]), (100013, [0, 5, 6, 11, 12, 13])]
theorem impl_prime_monics_body : Try.f98.body = some (Try.f98.body.getD .skip) := by kernel_rfl
theorem impl_prime_monics_strip : strip [(4, 1), (6, 2)] (Try.f98.body.getD .skip) = impl_prime_monics_c := by kernel_rfl
noncomputable def impl_prime_monics_l1 (r1 : Int) (a0 : Int) (x29 : Int) (x30 : (List (List Int))) : Option ((Int × (List (List Int))) ⊕ (List (List Int))) :=
  (if (decide (x29 < r1)) then (Option.bind (impl_prime_numbered a0 (IntKind.i64.wrap (r1 + x29))) fun r39 => (ifp ((x30.length + ([r39] : List (List Int)).length) * 24 ≤ 140737488355328) ((some (.inl ((IntKind.i64.wrap (x29 + 1), (x30 ++ ([r39]))))))))) else (some (.inr x30)))
noncomputable def impl_prime_monics (a0 : Int) (a1 : Int) : Option (List (List Int)) :=
  (Option.bind (impl_prime_norm a0 a1 343) fun r1 => (Option.bind (α := (List (List Int))) ((loopM (fun s : (Int × (List (List Int))) => impl_prime_monics_l1 r1 a0 s.1 s.2) (0, []))) fun x21 => (some x21)))
set_option maxHeartbeats 16000000 in
theorem impl_prime_monics_ok (a0 : Int) (a1 : Int) (r : (List (List Int))) (h : impl_prime_monics a0 a1 = some r) : Den Try.prog 98 [(.int .i64 a0), (.int .i64 a1)] { r := (eSSi64 r) } := by
  refine den_of (rs := [(eSSi64 r)]) (ac := impl_prime_monics_c) (L := impl_prime_monics_L) (n := 25) (m := [(4, 1), (6, 2)]) good Try.func98 impl_prime_monics_body (by kernel_rfl) Try.ntmps98 rfl rfl impl_prime_monics_strip rfl rfl ?_
  refine a_st (σ' := ⟨[(0, (.int .i64 a0)), (1, (.int .i64 a1))], []⟩) (by kernel_rfl) ?_
  unfold impl_prime_monics_c
  refine a_seq ?_
  refine a_region ?_
  refine a_val (v := (eSSi64 ([]))) (u := []) rfl trivial rfl ?_
  refine a_nil ?_
  refine a_next (σ' := ⟨[(0, (.int .i64 a0)), (1, (.int .i64 a1))], []⟩) (by kernel_rfl) ?_
  refine a_seq ?_
  refine a_region ?_
  refine a_val (v := (.int .i64 a0)) (u := []) rfl trivial rfl ?_
  refine a_val (v := (.int .i64 a1)) (u := []) rfl trivial rfl ?_
  obtain ⟨r1, hr2, h⟩ := bind_some h
  refine a_call (args := [(.int .i64 a0), (.int .i64 a1), (.int .i64 343)]) (u := []) (r := (.int .i64 r1)) rfl rfl (impl_prime_norm_ok a0 a1 343 r1 hr2) rfl ?_
  refine a_val (v := (.int .i64 r1)) (u := []) rfl trivial rfl ?_
  refine a_nil ?_
  refine a_next (σ' := ⟨[(0, (.int .i64 a0)), (5, (.int .i64 r1))], []⟩) (by kernel_rfl) ?_
  refine a_seq ?_
  refine a_region ?_
  refine a_val (v := (.osl 1600)) (u := [(1600, some ⟨(.row 1 (([]).map eSi64)), false⟩)]) rfl trivial rfl ?_
  refine a_nil ?_
  refine a_next (σ' := ⟨[(0, (.int .i64 a0)), (5, (.int .i64 r1)), (6, (.osl 6))], [(6, some ⟨(.row 1 (([]).map eSi64)), false⟩)]⟩) (by kernel_rfl) ?_
  obtain ⟨y22, hy23, hk24⟩ := bind_some h
  clear h
  refine a_join (emb := fun (s : (List (List Int))) => ⟨[(6, (.osl 6))], [(6, some ⟨(.row 1 (s.map eSi64)), false⟩)]⟩) (pre := fun s => s = y22) ?_ ?_
  · rintro x21 rfl
    have h := hk24
    refine a_st (σ' := ⟨[(6, (.osl 6))], [(6, some ⟨(.row 1 (x21.map eSi64)), false⟩)]⟩) (by kernel_rfl) ?_
    refine a_seq ?_
    refine a_region ?_
    refine a_val (v := (.osl 6)) (u := []) rfl trivial rfl ?_
    refine a_val (v := (eSSi64 x21)) (u := [(6, some ⟨(.row 1 (x21.map eSi64)), true⟩)]) rfl trivial rfl ?_
    refine a_nil ?_
    refine a_next rfl ?_
    refine a_ret ?_
    refine ⟨.inr rfl, ?_⟩
    rw [Try.results98]
    cases h
    exact ⟨_, _, _, _, _, rfl, trivial, .inl ⟨rfl, .inl rfl⟩, rfl, rfl⟩
  · have h := hy23
    refine a_seq ?_
    refine a_region ?_
    refine a_val (v := (.int .i64 r1)) (u := []) rfl trivial rfl ?_
    refine a_val (v := (.int .i64 0)) (u := []) rfl trivial rfl ?_
    refine a_nil ?_
    refine a_next (σ' := ⟨[(0, (.int .i64 a0)), (5, (.int .i64 r1)), (6, (.osl 6)), (11, (.int .i64 r1)), (12, (.int .i64 0))], [(6, some ⟨(.row 1 (([]).map eSi64)), false⟩)]⟩) (by kernel_rfl) ?_
    refine a_block ?_
    refine a_loop (emb := fun (s : (Int × (List (List Int)))) => ⟨[(0, (.int .i64 a0)), (5, (.int .i64 r1)), (6, (.osl 6)), (11, (.int .i64 r1)), (12, (.int .i64 s.1))], [(6, some ⟨(.row 1 (s.2.map eSi64)), false⟩)]⟩) (body := (fun s : (Int × (List (List Int))) => impl_prime_monics_l1 r1 a0 s.1 s.2)) (G := fun q => some q = some y22) h rfl ?_ (by kernel_rfl)
    rintro X35 ⟨x29, x30⟩ x36 h hX37
    have h : impl_prime_monics_l1 r1 a0 x29 x30 = some x36 := h
    refine a_st (σ' := ⟨[(0, (.int .i64 a0)), (5, (.int .i64 r1)), (6, (.osl 6)), (11, (.int .i64 r1)), (12, (.int .i64 x29))], [(6, some ⟨(.row 1 (x30.map eSi64)), false⟩)]⟩) (by kernel_rfl) ?_
    refine a_seq ?_
    refine a_region ?_
    refine a_val (v := (.bool ((decide (x29 < r1))))) (u := []) rfl trivial rfl ?_
    refine a_nil ?_
    refine a_next (σ' := ⟨[(0, (.int .i64 a0)), (5, (.int .i64 r1)), (6, (.osl 6)), (11, (.int .i64 r1)), (12, (.int .i64 x29)), (13, (.bool ((decide (x29 < r1)))))], [(6, some ⟨(.row 1 (x30.map eSi64)), false⟩)]⟩) (by kernel_rfl) ?_
    refine a_seq ?_
    cases hb38 : (decide (x29 < r1))
    · have h := ite_f hb38 h
      refine a_cond_f rfl ?_
      refine a_exit ?_
      refine t_exit ?_
      cases h
      have h := hX37
      refine t_exit ?_
      refine b_exit ?_
      exact j_leaf x30 (Option.some.inj h) (by kernel_rfl)
    · have h := ite_t hb38 h
      refine a_cond_t rfl ?_
      refine a_skip ?_
      refine a_next (σ' := ⟨[(0, (.int .i64 a0)), (5, (.int .i64 r1)), (6, (.osl 6)), (11, (.int .i64 r1)), (12, (.int .i64 x29))], [(6, some ⟨(.row 1 (x30.map eSi64)), false⟩)]⟩) (by kernel_rfl) ?_
      refine a_seq ?_
      refine a_block ?_
      refine a_seq ?_
      refine a_region ?_
      refine a_val (v := (.int .i64 x29)) (u := []) rfl trivial rfl ?_
      refine a_val (v := (.int .i64 x29)) (u := []) rfl trivial rfl ?_
      refine a_nil ?_
      refine a_next (σ' := ⟨[(0, (.int .i64 a0)), (5, (.int .i64 r1)), (6, (.osl 6)), (7, (.int .i64 x29)), (11, (.int .i64 r1)), (12, (.int .i64 x29))], [(6, some ⟨(.row 1 (x30.map eSi64)), false⟩)]⟩) (by kernel_rfl) ?_
      refine a_region ?_
      refine a_val (v := (.osl 6)) (u := []) rfl trivial rfl ?_
      refine a_val (v := (.int .i64 a0)) (u := []) rfl trivial rfl ?_
      refine a_val (v := (.int .i64 r1)) (u := []) rfl trivial rfl ?_
      refine a_val (v := (.int .i64 x29)) (u := []) rfl trivial rfl ?_
      refine a_val (v := (.int .i64 (IntKind.i64.wrap (r1 + x29)))) (u := []) rfl trivial rfl ?_
      obtain ⟨r39, hr40, h⟩ := bind_some h
      refine a_call (args := [(.int .i64 a0), (.int .i64 (IntKind.i64.wrap (r1 + x29)))]) (u := []) (r := (eSi64 r39)) rfl rfl (impl_prime_numbered_ok a0 (IntKind.i64.wrap (r1 + x29)) r39 hr40) rfl ?_
      refine a_val (v := (.sl 1 true (([r39]).map eSi64))) (u := []) rfl ⟨(Nat.le_of_ble_eq_true rfl), (Nat.le_of_ble_eq_true rfl), (all_cons ⟨(Nat.le_of_ble_eq_true rfl), rfl⟩ all_nil)⟩ rfl ?_
      obtain ⟨hc41, h⟩ := ifp_some h
      refine a_val (v := (.osl 3200)) (u := [(3200, some ⟨(.row 1 (((x30 ++ ([r39]))).map eSi64)), false⟩), (6, none)]) (app_run (i := ⟨.slice 2, 1, 24, (eSi64 [])⟩) (f := eSi64) (l := x30) (l2 := [r39]) rfl rfl rfl rfl (fun _ => rfl) rfl rfl) (app_c (f := eSi64) (s := 1) (sz := 1) (by' := 24) (u := []) (id := 6) hc41 (.inr rfl) rfl rfl rfl) rfl ?_
      refine a_val (v := (.osl 3200)) (u := []) rfl trivial rfl ?_
      refine a_nil ?_
      refine b_norm ?_
      refine a_next (σ' := ⟨[(0, (.int .i64 a0)), (5, (.int .i64 r1)), (6, (.osl 6)), (11, (.int .i64 r1)), (12, (.int .i64 x29))], [(6, some ⟨(.row 1 (((x30 ++ ([r39]))).map eSi64)), false⟩)]⟩) (by kernel_rfl) ?_
      refine a_region ?_
      refine a_val (v := (.int .i64 (IntKind.i64.wrap (x29 + 1)))) (u := []) rfl trivial rfl ?_
      refine a_val (v := (.int .i64 (IntKind.i64.wrap (x29 + 1)))) (u := []) rfl trivial rfl ?_
      refine a_nil ?_
      cases h
      exact a_again (by kernel_rfl) hX37
def impl_curve_forms_c : ACode := (.seq (.region 0 [⟨some 1, .box 129 (.tmp 0), none, []⟩, ⟨some 2, .asg 1 (.const (.slice none 0 0)) 127, none, []⟩] false) (.seq (.region 1 [⟨some 3, .asg 2 (.const (.slice none 0 0)) 127, none, []⟩] false) (.seq (.seq (.region 2 [⟨some 9, .load 129 (.tmp 1), none, []⟩, ⟨some 10, .call 0 (.func 153) [(.tmp 9)], none, []⟩, ⟨some 11, .bin .add 2 (.tmp 10) (.const (.int .i64 1)), none, []⟩, ⟨some 12, .mov (.const (.int .i64 0)), none, []⟩] false) (.block 0 (.loop (.seq (.region 3 [⟨some 13, .bin .lss 2 (.tmp 12) (.tmp 11), none, []⟩] false) (.seq (.cond (.tmp 13) .skip (.exit 0)) (.seq (.block 1 (.seq (.region 4 [⟨some 14, .mov (.tmp 12), none, []⟩, ⟨some 4, .asg 0 (.tmp 14) 2, none, []⟩] false) (.seq (.region 5 [⟨some 15, .fieldAddr 129 (.tmp 1) 0, none, []⟩, ⟨some 16, .load 63 (.tmp 15), none, []⟩, ⟨some 17, .mov (.tmp 4), none, []⟩, ⟨some 18, .call 0 (.func 98) [(.tmp 16), (.tmp 17)], none, []⟩, ⟨some 19, .blt 0 .len [(.tmp 18)] [72], none, []⟩, ⟨some 20, .mov (.const (.int .i64 0)), none, []⟩] false) (.block 2 (.loop (.seq (.region 6 [⟨some 21, .bin .lss 3 (.tmp 20) (.tmp 19), none, []⟩] false) (.seq (.cond (.tmp 21) .skip (.exit 2)) (.seq (.block 3 (.seq (.region 7 [⟨some 22, .indexAddr 72 (.tmp 18) (.tmp 20), none, []⟩, ⟨some 23, .load 64 (.tmp 22), none, []⟩, ⟨some 6, .asg 1 (.tmp 23) 64, none, []⟩] false) (.seq (.region 8 [⟨some 24, .fieldAddr 129 (.tmp 1) 0, none, []⟩, ⟨some 25, .load 63 (.tmp 24), none, []⟩, ⟨some 26, .mov (.tmp 4), none, []⟩, ⟨some 27, .call 0 (.func 115) [(.tmp 25), (.tmp 26), (.const (.int .i64 1099511627776))], none, []⟩, ⟨some 28, .mov (.const (.int .i64 0)), none, []⟩] false) (.block 4 (.loop (.seq (.region 9 [⟨some 29, .bin .lss 2 (.tmp 28) (.tmp 27), none, []⟩] false) (.seq (.cond (.tmp 29) .skip (.exit 4)) (.seq (.block 5 (.seq (.region 10 [⟨some 30, .mov (.tmp 28), none, []⟩, ⟨some 7, .asg 0 (.tmp 30) 2, none, []⟩] false) (.seq (.region 11 [⟨some 31, .mov (.tmp 6), none, []⟩, ⟨some 32, .fieldAddr 129 (.tmp 1) 0, none, []⟩, ⟨some 33, .load 63 (.tmp 32), none, []⟩, ⟨some 34, .mov (.tmp 7), none, []⟩, ⟨some 35, .call 0 (.func 64) [(.tmp 33), (.tmp 34)], none, []⟩, ⟨some 36, .build 133 [(0, (.tmp 31)), (1, (.tmp 35))], none, []⟩, ⟨some 8, .alloc 133, none, []⟩, ⟨none, .store 133 (.tmp 8) (.tmp 36), none, []⟩] false) (.seq (.region 12 [⟨some 37, .load 129 (.tmp 1), none, []⟩, ⟨some 38, .load 133 (.tmp 8), none, []⟩, ⟨some 39, .call 0 (.func 154) [(.tmp 37), (.tmp 38)], none, []⟩] false) (.cond (.tmp 39) (.region 13 [⟨some 40, .mov (.tmp 3), none, []⟩, ⟨some 41, .load 133 (.tmp 8), none, []⟩, ⟨some 42, .bslice 0 127 1 [(0, (.tmp 41))], none, []⟩, ⟨some 43, .blt 0 .append [(.tmp 40), (.tmp 42)] [127, 127], none, []⟩, ⟨some 3, .asg 2 (.tmp 43) 127, none, []⟩] false) .skip))))) (.region 14 [⟨some 44, .bin .add 2 (.tmp 28) (.const (.int .i64 1)), none, []⟩, ⟨some 28, .mov (.tmp 44), none, []⟩] false))))))))) (.region 15 [⟨some 45, .bin .add 3 (.tmp 20) (.const (.int .i64 1)), none, []⟩, ⟨some 20, .mov (.tmp 45), none, []⟩] false))))))))) (.region 16 [⟨some 46, .bin .add 2 (.tmp 12) (.const (.int .i64 1)), none, []⟩, ⟨some 12, .mov (.tmp 46), none, []⟩] false))))))) (.seq (.region 17 [⟨some 47, .mov (.tmp 3), none, []⟩, ⟨some 2, .asg 1 (.tmp 47) 127, none, []⟩] false) .ret))))
def impl_curve_forms_L : Live := [(0, [0]), (1, [1]), (2, [1, 3]), (3, [1, 3, 11, 12]), (4, [1, 3, 11, 12]), (5, [1, 3, 4, 11, 12]), (6, [1, 3, 4, 11, 12, 18, 19, 20]), (7, [1, 3, 4, 11, 12, 18, 19, 20]), (8, [1, 3, 4, 6, 11, 12, 18, 19, 20]), (9, [1, 3, 4, 6, 11, 12, 18, 19, 20, 27, 28]), (10, [1, 3, 4, 6, 11, 12, 18, 19, 20, 27, 28]), (11, [1, 3, 4, 6, 7, 11, 12, 18, 19, 20, 27, 28]), (12, [1, 3, 4, 6, 8, 11, 12, 18, 19, 20, 27, 28]), (13, [1, 3, 4, 6, 8, 11, 12, 18, 19, 20, 27, 28]), (14, [1, 3, 4, 6, 11, 12, 18, 19, 20, 27, 28]), (15, [1, 3, 4, 11, 12, 18, 19, 20]), (16, [1, 3, 11, 12]), (17, [3]), (100013, [1, 3, 11, 12, 13]), (100021, [1, 3, 4, 11, 12, 18, 19, 20, 21]), (100029, [1, 3, 4, 6, 11, 12, 18, 19, 20, 27, 28, 29]), (100039, [1, 3, 4, 6, 8, 11, 12, 18, 19, 20, 27, 28, 39])]
theorem impl_curve_forms_body : Try.f131.body = some (Try.f131.body.getD .skip) := by kernel_rfl
theorem impl_curve_forms_strip : strip [(2, 1), (3, 2), (6, 1)] (Try.f131.body.getD .skip) = impl_curve_forms_c := by kernel_rfl
noncomputable def impl_curve_forms_l3 (r6874 : Int) (a0 : (Int × (List Int))) (r6389 : (List (List Int))) (x6580 : Int) (x6903 : Int) (x6904 : (List ((List Int) × (List Int)))) : Option ((Int × (List ((List Int) × (List Int)))) ⊕ (List ((List Int) × (List Int)))) :=
  (if (decide (x6903 < r6874)) then (Option.bind (α := (List ((List Int) × (List Int)))) ((Option.bind (impl_prime_numbered a0.1 x6903) fun r6952 => (Option.bind (impl_curve_isForm a0 (((rd r6389 x6580.toNat), r6952))) fun r6957 => (if r6957 then (ifp ((x6904.length + ([((rd r6389 x6580.toNat), r6952)] : List ((List Int) × (List Int))).length) * 48 ≤ 140737488355328) ((some ((x6904 ++ ([((rd r6389 x6580.toNat), r6952)])))))) else (some x6904))))) fun x6947 => (some (.inl ((IntKind.i64.wrap (x6903 + 1), x6947))))) else (some (.inr x6904)))
noncomputable def impl_curve_forms_l2 (r6389 : (List (List Int))) (a0 : (Int × (List Int))) (x4645 : Int) (x6580 : Int) (x6581 : (List ((List Int) × (List Int)))) : Option ((Int × (List ((List Int) × (List Int)))) ⊕ (List ((List Int) × (List Int)))) :=
  (if (decide (x6580 < (r6389.length : Int))) then (Option.bind (α := (List ((List Int) × (List Int)))) ((ifp (0 ≤ x6580 ∧ x6580 < ((r6389.length : Nat) : Int)) ((Option.bind (impl_prime_norm a0.1 x4645 1099511627776) fun r6874 => (loopM (fun s : (Int × (List ((List Int) × (List Int)))) => impl_curve_forms_l3 r6874 a0 r6389 x6580 s.1 s.2) (0, x6581)))))) fun x6867 => (some (.inl ((IntKind.i64.wrap (x6580 + 1), x6867))))) else (some (.inr x6581)))
noncomputable def impl_curve_forms_l1 (r3486 : Int) (a0 : (Int × (List Int))) (x4645 : Int) (x4646 : (List ((List Int) × (List Int)))) : Option ((Int × (List ((List Int) × (List Int)))) ⊕ (List ((List Int) × (List Int)))) :=
  (if (decide (x4645 < (IntKind.i64.wrap (r3486 + 1)))) then (Option.bind (α := (List ((List Int) × (List Int)))) ((Option.bind (impl_prime_monics a0.1 x4645) fun r6389 => (loopM (fun s : (Int × (List ((List Int) × (List Int)))) => impl_curve_forms_l2 r6389 a0 x4645 s.1 s.2) (0, x4646)))) fun x6384 => (some (.inl ((IntKind.i64.wrap (x4645 + 1), x6384))))) else (some (.inr x4646)))
noncomputable def impl_curve_forms (a0 : (Int × (List Int))) : Option (List ((List Int) × (List Int))) :=
  (Option.bind (α := (List ((List Int) × (List Int)))) ((Option.bind (impl_curve_genus a0) fun r3486 => (loopM (fun s : (Int × (List ((List Int) × (List Int)))) => impl_curve_forms_l1 r3486 a0 s.1 s.2) (0, [])))) fun x3481 => (some x3481))
set_option maxHeartbeats 16000000 in
theorem impl_curve_forms_ok (a0 : (Int × (List Int))) (r : (List ((List Int) × (List Int)))) (h : impl_curve_forms a0 = some r) : Den Try.prog 131 [(eT_i64_Si64_Z a0)] { r := (eST_Si64_Si64_Z r) } := by
  refine den_of (rs := [(eST_Si64_Si64_Z r)]) (ac := impl_curve_forms_c) (L := impl_curve_forms_L) (n := 48) (m := [(2, 1), (3, 2), (6, 1)]) good Try.func131 impl_curve_forms_body (by kernel_rfl) Try.ntmps131 rfl rfl impl_curve_forms_strip rfl rfl ?_
  refine a_st (σ' := ⟨[(0, (eT_i64_Si64_Z a0))], []⟩) (by kernel_rfl) ?_
  unfold impl_curve_forms_c
  refine a_seq ?_
  refine a_region ?_
  refine a_val (v := (.own 1100 [] [])) (u := [(1100, some ⟨(eT_i64_Si64_Z a0), false⟩)]) rfl trivial rfl ?_
  refine a_val (v := (eST_Si64_Si64_Z ([]))) (u := []) rfl trivial rfl ?_
  refine a_nil ?_
  refine a_next (σ' := ⟨[(1, (.own 1 [] []))], [(1, some ⟨(eT_i64_Si64_Z a0), false⟩)]⟩) (by kernel_rfl) ?_
  refine a_seq ?_
  refine a_region ?_
  refine a_val (v := (.osl 1300)) (u := [(1300, some ⟨(.row 2 (([]).map eT_Si64_Si64_Z)), false⟩)]) rfl trivial rfl ?_
  refine a_nil ?_
  refine a_next (σ' := ⟨[(1, (.own 1 [] [])), (3, (.osl 3))], [(1, some ⟨(eT_i64_Si64_Z a0), false⟩), (3, some ⟨(.row 2 (([]).map eT_Si64_Si64_Z)), false⟩)]⟩) (by kernel_rfl) ?_
  obtain ⟨y3482, hy3483, hk3484⟩ := bind_some h
  clear h
  refine a_join (emb := fun (s : (List ((List Int) × (List Int)))) => ⟨[(3, (.osl 3))], [(3, some ⟨(.row 2 (s.map eT_Si64_Si64_Z)), false⟩)]⟩) (pre := fun s => s = y3482) ?_ ?_
  · rintro x3481 rfl
    have h := hk3484
    refine a_st (σ' := ⟨[(3, (.osl 3))], [(3, some ⟨(.row 2 (x3481.map eT_Si64_Si64_Z)), false⟩)]⟩) (by kernel_rfl) ?_
    refine a_seq ?_
    refine a_region ?_
    refine a_val (v := (.osl 3)) (u := []) rfl trivial rfl ?_
    refine a_val (v := (eST_Si64_Si64_Z x3481)) (u := [(3, some ⟨(.row 2 (x3481.map eT_Si64_Si64_Z)), true⟩)]) rfl trivial rfl ?_
    refine a_nil ?_
    refine a_next rfl ?_
    refine a_ret ?_
    refine ⟨.inr rfl, ?_⟩
    rw [Try.results131]
    cases h
    exact ⟨_, _, _, _, _, rfl, trivial, .inl ⟨rfl, .inl rfl⟩, rfl, rfl⟩
  · have h := hy3483
    refine a_seq ?_
    refine a_region ?_
    have hl3485 : LdOk [] (eT_i64_Si64_Z a0) [] 2 true (eT_i64_Si64_Z a0) := (.nil rfl rfl rfl)
    refine a_val (v := (eT_i64_Si64_Z a0)) (u := []) (ld_own (i := ⟨.struct [(0, 63), (1, 64)], 2, 32, (eT_i64_Si64_Z ((0 : Int), []))⟩) rfl rfl rfl hl3485) hl3485.c rfl ?_
    obtain ⟨r3486, hr3487, h⟩ := bind_some h
    refine a_call (args := [(eT_i64_Si64_Z a0)]) (u := []) (r := (.int .i64 r3486)) rfl rfl (impl_curve_genus_ok a0 r3486 hr3487) rfl ?_
    refine a_val (v := (.int .i64 (IntKind.i64.wrap (r3486 + 1)))) (u := []) rfl trivial rfl ?_
    refine a_val (v := (.int .i64 0)) (u := []) rfl trivial rfl ?_
    refine a_nil ?_
    refine a_next (σ' := ⟨[(1, (.own 1 [] [])), (3, (.osl 3)), (11, (.int .i64 (IntKind.i64.wrap (r3486 + 1)))), (12, (.int .i64 0))], [(1, some ⟨(eT_i64_Si64_Z a0), false⟩), (3, some ⟨(.row 2 (([]).map eT_Si64_Si64_Z)), false⟩)]⟩) (by kernel_rfl) ?_
    refine a_block ?_
    refine a_loop (emb := fun (s : (Int × (List ((List Int) × (List Int))))) => ⟨[(1, (.own 1 [] [])), (3, (.osl 3)), (11, (.int .i64 (IntKind.i64.wrap (r3486 + 1)))), (12, (.int .i64 s.1))], [(1, some ⟨(eT_i64_Si64_Z a0), false⟩), (3, some ⟨(.row 2 (s.2.map eT_Si64_Si64_Z)), false⟩)]⟩) (body := (fun s : (Int × (List ((List Int) × (List Int)))) => impl_curve_forms_l1 r3486 a0 s.1 s.2)) (G := fun q => some q = some y3482) h rfl ?_ (by kernel_rfl)
    rintro X5804 ⟨x4645, x4646⟩ x5805 h hX5806
    have h : impl_curve_forms_l1 r3486 a0 x4645 x4646 = some x5805 := h
    refine a_st (σ' := ⟨[(1, (.own 1 [] [])), (3, (.osl 3)), (11, (.int .i64 (IntKind.i64.wrap (r3486 + 1)))), (12, (.int .i64 x4645))], [(1, some ⟨(eT_i64_Si64_Z a0), false⟩), (3, some ⟨(.row 2 (x4646.map eT_Si64_Si64_Z)), false⟩)]⟩) (by kernel_rfl) ?_
    refine a_seq ?_
    refine a_region ?_
    refine a_val (v := (.bool ((decide (x4645 < (IntKind.i64.wrap (r3486 + 1))))))) (u := []) rfl trivial rfl ?_
    refine a_nil ?_
    refine a_next (σ' := ⟨[(1, (.own 1 [] [])), (3, (.osl 3)), (11, (.int .i64 (IntKind.i64.wrap (r3486 + 1)))), (12, (.int .i64 x4645)), (13, (.bool ((decide (x4645 < (IntKind.i64.wrap (r3486 + 1)))))))], [(1, some ⟨(eT_i64_Si64_Z a0), false⟩), (3, some ⟨(.row 2 (x4646.map eT_Si64_Si64_Z)), false⟩)]⟩) (by kernel_rfl) ?_
    refine a_seq ?_
    cases hb5807 : (decide (x4645 < (IntKind.i64.wrap (r3486 + 1))))
    · have h := ite_f hb5807 h
      refine a_cond_f rfl ?_
      refine a_exit ?_
      refine t_exit ?_
      cases h
      have h := hX5806
      refine t_exit ?_
      refine b_exit ?_
      exact j_leaf x4646 (Option.some.inj h) (by kernel_rfl)
    · have h := ite_t hb5807 h
      refine a_cond_t rfl ?_
      refine a_skip ?_
      refine a_next (σ' := ⟨[(1, (.own 1 [] [])), (3, (.osl 3)), (11, (.int .i64 (IntKind.i64.wrap (r3486 + 1)))), (12, (.int .i64 x4645))], [(1, some ⟨(eT_i64_Si64_Z a0), false⟩), (3, some ⟨(.row 2 (x4646.map eT_Si64_Si64_Z)), false⟩)]⟩) (by kernel_rfl) ?_
      obtain ⟨y6385, hy6386, hk6387⟩ := bind_some h
      clear h
      refine a_join (emb := fun (s : (List ((List Int) × (List Int)))) => ⟨[(1, (.own 1 [] [])), (3, (.osl 3)), (11, (.int .i64 (IntKind.i64.wrap (r3486 + 1)))), (12, (.int .i64 x4645))], [(1, some ⟨(eT_i64_Si64_Z a0), false⟩), (3, some ⟨(.row 2 (s.map eT_Si64_Si64_Z)), false⟩)]⟩) (pre := fun s => s = y6385) ?_ ?_
      · rintro x6384 rfl
        have h := hk6387
        refine a_st (σ' := ⟨[(1, (.own 1 [] [])), (3, (.osl 3)), (11, (.int .i64 (IntKind.i64.wrap (r3486 + 1)))), (12, (.int .i64 x4645))], [(1, some ⟨(eT_i64_Si64_Z a0), false⟩), (3, some ⟨(.row 2 (x6384.map eT_Si64_Si64_Z)), false⟩)]⟩) (by kernel_rfl) ?_
        refine a_region ?_
        refine a_val (v := (.int .i64 (IntKind.i64.wrap (x4645 + 1)))) (u := []) rfl trivial rfl ?_
        refine a_val (v := (.int .i64 (IntKind.i64.wrap (x4645 + 1)))) (u := []) rfl trivial rfl ?_
        refine a_nil ?_
        cases h
        exact a_again (by kernel_rfl) hX5806
      · have h := hy6386
        refine a_block ?_
        refine a_seq ?_
        refine a_region ?_
        refine a_val (v := (.int .i64 x4645)) (u := []) rfl trivial rfl ?_
        refine a_val (v := (.int .i64 x4645)) (u := []) rfl trivial rfl ?_
        refine a_nil ?_
        refine a_next (σ' := ⟨[(1, (.own 1 [] [])), (3, (.osl 3)), (4, (.int .i64 x4645)), (11, (.int .i64 (IntKind.i64.wrap (r3486 + 1)))), (12, (.int .i64 x4645))], [(1, some ⟨(eT_i64_Si64_Z a0), false⟩), (3, some ⟨(.row 2 (x4646.map eT_Si64_Si64_Z)), false⟩)]⟩) (by kernel_rfl) ?_
        refine a_seq ?_
        refine a_region ?_
        refine a_val (v := (.own 1 [0] [0])) (u := []) rfl (Nat.le_of_ble_eq_true rfl) rfl ?_
        have hl6388 : LdOk [0] (eT_i64_Si64_Z a0) [0] 1 false (.int .i64 a0.1) := (.fld rfl rfl rfl rfl (.nil rfl rfl rfl))
        refine a_val (v := (.int .i64 a0.1)) (u := []) (ld_own (i := ⟨.int .i64, 1, 8, (.int .i64 0)⟩) rfl rfl rfl hl6388) hl6388.c rfl ?_
        refine a_val (v := (.int .i64 x4645)) (u := []) rfl trivial rfl ?_
        obtain ⟨r6389, hr6390, h⟩ := bind_some h
        refine a_call (args := [(.int .i64 a0.1), (.int .i64 x4645)]) (u := []) (r := (eSSi64 r6389)) rfl rfl (impl_prime_monics_ok a0.1 x4645 r6389 hr6390) rfl ?_
        refine a_val (v := (.int .i64 (r6389.length : Int))) (u := []) (len_run rfl rfl) trivial rfl ?_
        refine a_val (v := (.int .i64 0)) (u := []) rfl trivial rfl ?_
        refine a_nil ?_
        refine a_next (σ' := ⟨[(1, (.own 1 [] [])), (3, (.osl 3)), (4, (.int .i64 x4645)), (11, (.int .i64 (IntKind.i64.wrap (r3486 + 1)))), (12, (.int .i64 x4645)), (18, (eSSi64 r6389)), (19, (.int .i64 (r6389.length : Int))), (20, (.int .i64 0))], [(1, some ⟨(eT_i64_Si64_Z a0), false⟩), (3, some ⟨(.row 2 (x4646.map eT_Si64_Si64_Z)), false⟩)]⟩) (by kernel_rfl) ?_
        refine a_block ?_
        refine a_loop (emb := fun (s : (Int × (List ((List Int) × (List Int))))) => ⟨[(1, (.own 1 [] [])), (3, (.osl 3)), (4, (.int .i64 x4645)), (11, (.int .i64 (IntKind.i64.wrap (r3486 + 1)))), (12, (.int .i64 x4645)), (18, (eSSi64 r6389)), (19, (.int .i64 (r6389.length : Int))), (20, (.int .i64 s.1))], [(1, some ⟨(eT_i64_Si64_Z a0), false⟩), (3, some ⟨(.row 2 (s.2.map eT_Si64_Si64_Z)), false⟩)]⟩) (body := (fun s : (Int × (List ((List Int) × (List Int)))) => impl_curve_forms_l2 r6389 a0 x4645 s.1 s.2)) (G := fun q => some q = some y6385) h rfl ?_ (by kernel_rfl)
        rintro X6771 ⟨x6580, x6581⟩ x6772 h hX6773
        have h : impl_curve_forms_l2 r6389 a0 x4645 x6580 x6581 = some x6772 := h
        refine a_st (σ' := ⟨[(1, (.own 1 [] [])), (3, (.osl 3)), (4, (.int .i64 x4645)), (11, (.int .i64 (IntKind.i64.wrap (r3486 + 1)))), (12, (.int .i64 x4645)), (18, (eSSi64 r6389)), (19, (.int .i64 (r6389.length : Int))), (20, (.int .i64 x6580))], [(1, some ⟨(eT_i64_Si64_Z a0), false⟩), (3, some ⟨(.row 2 (x6581.map eT_Si64_Si64_Z)), false⟩)]⟩) (by kernel_rfl) ?_
        refine a_seq ?_
        refine a_region ?_
        refine a_val (v := (.bool ((decide (x6580 < (r6389.length : Int)))))) (u := []) rfl trivial rfl ?_
        refine a_nil ?_
        refine a_next (σ' := ⟨[(1, (.own 1 [] [])), (3, (.osl 3)), (4, (.int .i64 x4645)), (11, (.int .i64 (IntKind.i64.wrap (r3486 + 1)))), (12, (.int .i64 x4645)), (18, (eSSi64 r6389)), (19, (.int .i64 (r6389.length : Int))), (20, (.int .i64 x6580)), (21, (.bool ((decide (x6580 < (r6389.length : Int))))))], [(1, some ⟨(eT_i64_Si64_Z a0), false⟩), (3, some ⟨(.row 2 (x6581.map eT_Si64_Si64_Z)), false⟩)]⟩) (by kernel_rfl) ?_
        refine a_seq ?_
        cases hb6774 : (decide (x6580 < (r6389.length : Int)))
        · have h := ite_f hb6774 h
          refine a_cond_f rfl ?_
          refine a_exit ?_
          refine t_exit ?_
          cases h
          have h := hX6773
          refine t_exit ?_
          refine b_exit ?_
          refine b_norm ?_
          exact j_leaf x6581 (Option.some.inj h) (by kernel_rfl)
        · have h := ite_t hb6774 h
          refine a_cond_t rfl ?_
          refine a_skip ?_
          refine a_next (σ' := ⟨[(1, (.own 1 [] [])), (3, (.osl 3)), (4, (.int .i64 x4645)), (11, (.int .i64 (IntKind.i64.wrap (r3486 + 1)))), (12, (.int .i64 x4645)), (18, (eSSi64 r6389)), (19, (.int .i64 (r6389.length : Int))), (20, (.int .i64 x6580))], [(1, some ⟨(eT_i64_Si64_Z a0), false⟩), (3, some ⟨(.row 2 (x6581.map eT_Si64_Si64_Z)), false⟩)]⟩) (by kernel_rfl) ?_
          obtain ⟨y6868, hy6869, hk6870⟩ := bind_some h
          clear h
          refine a_join (emb := fun (s : (List ((List Int) × (List Int)))) => ⟨[(1, (.own 1 [] [])), (3, (.osl 3)), (4, (.int .i64 x4645)), (11, (.int .i64 (IntKind.i64.wrap (r3486 + 1)))), (12, (.int .i64 x4645)), (18, (eSSi64 r6389)), (19, (.int .i64 (r6389.length : Int))), (20, (.int .i64 x6580))], [(1, some ⟨(eT_i64_Si64_Z a0), false⟩), (3, some ⟨(.row 2 (s.map eT_Si64_Si64_Z)), false⟩)]⟩) (pre := fun s => s = y6868) ?_ ?_
          · rintro x6867 rfl
            have h := hk6870
            refine a_st (σ' := ⟨[(1, (.own 1 [] [])), (3, (.osl 3)), (4, (.int .i64 x4645)), (11, (.int .i64 (IntKind.i64.wrap (r3486 + 1)))), (12, (.int .i64 x4645)), (18, (eSSi64 r6389)), (19, (.int .i64 (r6389.length : Int))), (20, (.int .i64 x6580))], [(1, some ⟨(eT_i64_Si64_Z a0), false⟩), (3, some ⟨(.row 2 (x6867.map eT_Si64_Si64_Z)), false⟩)]⟩) (by kernel_rfl) ?_
            refine a_region ?_
            refine a_val (v := (.int .i64 (IntKind.i64.wrap (x6580 + 1)))) (u := []) rfl trivial rfl ?_
            refine a_val (v := (.int .i64 (IntKind.i64.wrap (x6580 + 1)))) (u := []) rfl trivial rfl ?_
            refine a_nil ?_
            cases h
            exact a_again (by kernel_rfl) hX6773
          · have h := hy6869
            refine a_block ?_
            refine a_seq ?_
            refine a_region ?_
            obtain ⟨hc6871, h⟩ := ifp_some h
            refine a_val (v := (.ref (.row 1 (r6389.map eSi64)) [x6580.toNat] [x6580.toNat * 1])) (u := []) rfl (lmap hc6871) rfl ?_
            have hl6872 : LdOk [x6580.toNat] (.row 1 (r6389.map eSi64)) [x6580.toNat * 1] 1 false (eSi64 (rd r6389 x6580.toNat)) := (.row (llt hc6871) rfl (.nil rfl rfl rfl))
            refine a_val (v := (eSi64 (rd r6389 x6580.toNat))) (u := []) (ld_ref (i := ⟨.slice 2, 1, 24, (eSi64 [])⟩) rfl rfl hl6872) hl6872.c rfl ?_
            refine a_val (v := (eSi64 (rd r6389 x6580.toNat))) (u := []) rfl trivial rfl ?_
            refine a_nil ?_
            refine a_next (σ' := ⟨[(1, (.own 1 [] [])), (3, (.osl 3)), (4, (.int .i64 x4645)), (6, (eSi64 (rd r6389 x6580.toNat))), (11, (.int .i64 (IntKind.i64.wrap (r3486 + 1)))), (12, (.int .i64 x4645)), (18, (eSSi64 r6389)), (19, (.int .i64 (r6389.length : Int))), (20, (.int .i64 x6580))], [(1, some ⟨(eT_i64_Si64_Z a0), false⟩), (3, some ⟨(.row 2 (x6581.map eT_Si64_Si64_Z)), false⟩)]⟩) (by kernel_rfl) ?_
            refine a_seq ?_
            refine a_region ?_
            refine a_val (v := (.own 1 [0] [0])) (u := []) rfl (Nat.le_of_ble_eq_true rfl) rfl ?_
            have hl6873 : LdOk [0] (eT_i64_Si64_Z a0) [0] 1 false (.int .i64 a0.1) := (.fld rfl rfl rfl rfl (.nil rfl rfl rfl))
            refine a_val (v := (.int .i64 a0.1)) (u := []) (ld_own (i := ⟨.int .i64, 1, 8, (.int .i64 0)⟩) rfl rfl rfl hl6873) hl6873.c rfl ?_
            refine a_val (v := (.int .i64 x4645)) (u := []) rfl trivial rfl ?_
            obtain ⟨r6874, hr6875, h⟩ := bind_some h
            refine a_call (args := [(.int .i64 a0.1), (.int .i64 x4645), (.int .i64 1099511627776)]) (u := []) (r := (.int .i64 r6874)) rfl rfl (impl_prime_norm_ok a0.1 x4645 1099511627776 r6874 hr6875) rfl ?_
            refine a_val (v := (.int .i64 0)) (u := []) rfl trivial rfl ?_
            refine a_nil ?_
            refine a_next (σ' := ⟨[(1, (.own 1 [] [])), (3, (.osl 3)), (4, (.int .i64 x4645)), (6, (eSi64 (rd r6389 x6580.toNat))), (11, (.int .i64 (IntKind.i64.wrap (r3486 + 1)))), (12, (.int .i64 x4645)), (18, (eSSi64 r6389)), (19, (.int .i64 (r6389.length : Int))), (20, (.int .i64 x6580)), (27, (.int .i64 r6874)), (28, (.int .i64 0))], [(1, some ⟨(eT_i64_Si64_Z a0), false⟩), (3, some ⟨(.row 2 (x6581.map eT_Si64_Si64_Z)), false⟩)]⟩) (by kernel_rfl) ?_
            refine a_block ?_
            refine a_loop (emb := fun (s : (Int × (List ((List Int) × (List Int))))) => ⟨[(1, (.own 1 [] [])), (3, (.osl 3)), (4, (.int .i64 x4645)), (6, (eSi64 (rd r6389 x6580.toNat))), (11, (.int .i64 (IntKind.i64.wrap (r3486 + 1)))), (12, (.int .i64 x4645)), (18, (eSSi64 r6389)), (19, (.int .i64 (r6389.length : Int))), (20, (.int .i64 x6580)), (27, (.int .i64 r6874)), (28, (.int .i64 s.1))], [(1, some ⟨(eT_i64_Si64_Z a0), false⟩), (3, some ⟨(.row 2 (s.2.map eT_Si64_Si64_Z)), false⟩)]⟩) (body := (fun s : (Int × (List ((List Int) × (List Int)))) => impl_curve_forms_l3 r6874 a0 r6389 x6580 s.1 s.2)) (G := fun q => some q = some y6868) h rfl ?_ (by kernel_rfl)
            rintro X6932 ⟨x6903, x6904⟩ x6933 h hX6934
            have h : impl_curve_forms_l3 r6874 a0 r6389 x6580 x6903 x6904 = some x6933 := h
            refine a_st (σ' := ⟨[(1, (.own 1 [] [])), (3, (.osl 3)), (4, (.int .i64 x4645)), (6, (eSi64 (rd r6389 x6580.toNat))), (11, (.int .i64 (IntKind.i64.wrap (r3486 + 1)))), (12, (.int .i64 x4645)), (18, (eSSi64 r6389)), (19, (.int .i64 (r6389.length : Int))), (20, (.int .i64 x6580)), (27, (.int .i64 r6874)), (28, (.int .i64 x6903))], [(1, some ⟨(eT_i64_Si64_Z a0), false⟩), (3, some ⟨(.row 2 (x6904.map eT_Si64_Si64_Z)), false⟩)]⟩) (by kernel_rfl) ?_
            refine a_seq ?_
            refine a_region ?_
            refine a_val (v := (.bool ((decide (x6903 < r6874))))) (u := []) rfl trivial rfl ?_
            refine a_nil ?_
            refine a_next (σ' := ⟨[(1, (.own 1 [] [])), (3, (.osl 3)), (4, (.int .i64 x4645)), (6, (eSi64 (rd r6389 x6580.toNat))), (11, (.int .i64 (IntKind.i64.wrap (r3486 + 1)))), (12, (.int .i64 x4645)), (18, (eSSi64 r6389)), (19, (.int .i64 (r6389.length : Int))), (20, (.int .i64 x6580)), (27, (.int .i64 r6874)), (28, (.int .i64 x6903)), (29, (.bool ((decide (x6903 < r6874)))))], [(1, some ⟨(eT_i64_Si64_Z a0), false⟩), (3, some ⟨(.row 2 (x6904.map eT_Si64_Si64_Z)), false⟩)]⟩) (by kernel_rfl) ?_
            refine a_seq ?_
            cases hb6935 : (decide (x6903 < r6874))
            · have h := ite_f hb6935 h
              refine a_cond_f rfl ?_
              refine a_exit ?_
              refine t_exit ?_
              cases h
              have h := hX6934
              refine t_exit ?_
              refine b_exit ?_
              refine b_norm ?_
              exact j_leaf x6904 (Option.some.inj h) (by kernel_rfl)
            · have h := ite_t hb6935 h
              refine a_cond_t rfl ?_
              refine a_skip ?_
              refine a_next (σ' := ⟨[(1, (.own 1 [] [])), (3, (.osl 3)), (4, (.int .i64 x4645)), (6, (eSi64 (rd r6389 x6580.toNat))), (11, (.int .i64 (IntKind.i64.wrap (r3486 + 1)))), (12, (.int .i64 x4645)), (18, (eSSi64 r6389)), (19, (.int .i64 (r6389.length : Int))), (20, (.int .i64 x6580)), (27, (.int .i64 r6874)), (28, (.int .i64 x6903))], [(1, some ⟨(eT_i64_Si64_Z a0), false⟩), (3, some ⟨(.row 2 (x6904.map eT_Si64_Si64_Z)), false⟩)]⟩) (by kernel_rfl) ?_
              obtain ⟨y6948, hy6949, hk6950⟩ := bind_some h
              clear h
              refine a_join (emb := fun (s : (List ((List Int) × (List Int)))) => ⟨[(1, (.own 1 [] [])), (3, (.osl 3)), (4, (.int .i64 x4645)), (6, (eSi64 (rd r6389 x6580.toNat))), (11, (.int .i64 (IntKind.i64.wrap (r3486 + 1)))), (12, (.int .i64 x4645)), (18, (eSSi64 r6389)), (19, (.int .i64 (r6389.length : Int))), (20, (.int .i64 x6580)), (27, (.int .i64 r6874)), (28, (.int .i64 x6903))], [(1, some ⟨(eT_i64_Si64_Z a0), false⟩), (3, some ⟨(.row 2 (s.map eT_Si64_Si64_Z)), false⟩)]⟩) (pre := fun s => s = y6948) ?_ ?_
              · rintro x6947 rfl
                have h := hk6950
                refine a_st (σ' := ⟨[(1, (.own 1 [] [])), (3, (.osl 3)), (4, (.int .i64 x4645)), (6, (eSi64 (rd r6389 x6580.toNat))), (11, (.int .i64 (IntKind.i64.wrap (r3486 + 1)))), (12, (.int .i64 x4645)), (18, (eSSi64 r6389)), (19, (.int .i64 (r6389.length : Int))), (20, (.int .i64 x6580)), (27, (.int .i64 r6874)), (28, (.int .i64 x6903))], [(1, some ⟨(eT_i64_Si64_Z a0), false⟩), (3, some ⟨(.row 2 (x6947.map eT_Si64_Si64_Z)), false⟩)]⟩) (by kernel_rfl) ?_
                refine a_region ?_
                refine a_val (v := (.int .i64 (IntKind.i64.wrap (x6903 + 1)))) (u := []) rfl trivial rfl ?_
                refine a_val (v := (.int .i64 (IntKind.i64.wrap (x6903 + 1)))) (u := []) rfl trivial rfl ?_
                refine a_nil ?_
                cases h
                exact a_again (by kernel_rfl) hX6934
              · have h := hy6949
                refine a_block ?_
                refine a_seq ?_
                refine a_region ?_
                refine a_val (v := (.int .i64 x6903)) (u := []) rfl trivial rfl ?_
                refine a_val (v := (.int .i64 x6903)) (u := []) rfl trivial rfl ?_
                refine a_nil ?_
                refine a_next (σ' := ⟨[(1, (.own 1 [] [])), (3, (.osl 3)), (4, (.int .i64 x4645)), (6, (eSi64 (rd r6389 x6580.toNat))), (7, (.int .i64 x6903)), (11, (.int .i64 (IntKind.i64.wrap (r3486 + 1)))), (12, (.int .i64 x4645)), (18, (eSSi64 r6389)), (19, (.int .i64 (r6389.length : Int))), (20, (.int .i64 x6580)), (27, (.int .i64 r6874)), (28, (.int .i64 x6903))], [(1, some ⟨(eT_i64_Si64_Z a0), false⟩), (3, some ⟨(.row 2 (x6904.map eT_Si64_Si64_Z)), false⟩)]⟩) (by kernel_rfl) ?_
                refine a_seq ?_
                refine a_region ?_
                refine a_val (v := (eSi64 (rd r6389 x6580.toNat))) (u := []) rfl trivial rfl ?_
                refine a_val (v := (.own 1 [0] [0])) (u := []) rfl (Nat.le_of_ble_eq_true rfl) rfl ?_
                have hl6951 : LdOk [0] (eT_i64_Si64_Z a0) [0] 1 false (.int .i64 a0.1) := (.fld rfl rfl rfl rfl (.nil rfl rfl rfl))
                refine a_val (v := (.int .i64 a0.1)) (u := []) (ld_own (i := ⟨.int .i64, 1, 8, (.int .i64 0)⟩) rfl rfl rfl hl6951) hl6951.c rfl ?_
                refine a_val (v := (.int .i64 x6903)) (u := []) rfl trivial rfl ?_
                obtain ⟨r6952, hr6953, h⟩ := bind_some h
                refine a_call (args := [(.int .i64 a0.1), (.int .i64 x6903)]) (u := []) (r := (eSi64 r6952)) rfl rfl (impl_prime_numbered_ok a0.1 x6903 r6952 hr6953) rfl ?_
                refine a_val (v := (eT_Si64_Si64_Z (((rd r6389 x6580.toNat), r6952)))) (u := []) rfl ⟨rfl, (all_cons ⟨(Nat.le_of_ble_eq_true rfl), rfl⟩ (all_cons ⟨(Nat.le_of_ble_eq_true rfl), rfl⟩ all_nil))⟩ rfl ?_
                refine a_val (v := (.own 1800 [] [])) (u := [(1800, some ⟨(eT_Si64_Si64_Z ([], [])), false⟩)]) rfl trivial rfl ?_
                have hs6954 : StOk [] (eT_Si64_Si64_Z ([], [])) [] 2 (eT_Si64_Si64_Z (((rd r6389 x6580.toNat), r6952))) (eT_Si64_Si64_Z (((rd r6389 x6580.toNat), r6952))) := (.nil rfl rfl rfl rfl)
                refine a_val (v := .top) (u := [(1800, some ⟨(eT_Si64_Si64_Z (((rd r6389 x6580.toNat), r6952))), false⟩)]) (st_own (i := ⟨.struct [(0, 64), (1, 64)], 2, 48, (eT_Si64_Si64_Z ([], []))⟩) rfl rfl (fun _ => rfl) rfl hs6954) (hs6954.c rfl) rfl ?_
                refine a_nil ?_
                refine a_next (σ' := ⟨[(1, (.own 1 [] [])), (3, (.osl 3)), (4, (.int .i64 x4645)), (6, (eSi64 (rd r6389 x6580.toNat))), (8, (.own 8 [] [])), (11, (.int .i64 (IntKind.i64.wrap (r3486 + 1)))), (12, (.int .i64 x4645)), (18, (eSSi64 r6389)), (19, (.int .i64 (r6389.length : Int))), (20, (.int .i64 x6580)), (27, (.int .i64 r6874)), (28, (.int .i64 x6903))], [(1, some ⟨(eT_i64_Si64_Z a0), false⟩), (3, some ⟨(.row 2 (x6904.map eT_Si64_Si64_Z)), false⟩), (8, some ⟨(eT_Si64_Si64_Z (((rd r6389 x6580.toNat), r6952))), false⟩)]⟩) (by kernel_rfl) ?_
                refine a_seq ?_
                refine a_region ?_
                have hl6955 : LdOk [] (eT_i64_Si64_Z a0) [] 2 true (eT_i64_Si64_Z a0) := (.nil rfl rfl rfl)
                refine a_val (v := (eT_i64_Si64_Z a0)) (u := []) (ld_own (i := ⟨.struct [(0, 63), (1, 64)], 2, 32, (eT_i64_Si64_Z ((0 : Int), []))⟩) rfl rfl rfl hl6955) hl6955.c rfl ?_
                have hl6956 : LdOk [] (eT_Si64_Si64_Z (((rd r6389 x6580.toNat), r6952))) [] 2 true (eT_Si64_Si64_Z (((rd r6389 x6580.toNat), r6952))) := (.nil rfl rfl rfl)
                refine a_val (v := (eT_Si64_Si64_Z (((rd r6389 x6580.toNat), r6952)))) (u := []) (ld_own (i := ⟨.struct [(0, 64), (1, 64)], 2, 48, (eT_Si64_Si64_Z ([], []))⟩) rfl rfl rfl hl6956) hl6956.c rfl ?_
                obtain ⟨r6957, hr6958, h⟩ := bind_some h
                refine a_call (args := [(eT_i64_Si64_Z a0), (eT_Si64_Si64_Z (((rd r6389 x6580.toNat), r6952)))]) (u := []) (r := (.bool r6957)) rfl rfl (impl_curve_isForm_ok a0 (((rd r6389 x6580.toNat), r6952)) r6957 hr6958) rfl ?_
                refine a_nil ?_
                refine a_next (σ' := ⟨[(1, (.own 1 [] [])), (3, (.osl 3)), (4, (.int .i64 x4645)), (6, (eSi64 (rd r6389 x6580.toNat))), (8, (.own 8 [] [])), (11, (.int .i64 (IntKind.i64.wrap (r3486 + 1)))), (12, (.int .i64 x4645)), (18, (eSSi64 r6389)), (19, (.int .i64 (r6389.length : Int))), (20, (.int .i64 x6580)), (27, (.int .i64 r6874)), (28, (.int .i64 x6903)), (39, (.bool r6957))], [(1, some ⟨(eT_i64_Si64_Z a0), false⟩), (3, some ⟨(.row 2 (x6904.map eT_Si64_Si64_Z)), false⟩), (8, some ⟨(eT_Si64_Si64_Z (((rd r6389 x6580.toNat), r6952))), false⟩)]⟩) (by kernel_rfl) ?_
                cases hb6959 : r6957
                · have h := ite_f hb6959 h
                  refine a_cond_f rfl ?_
                  refine a_skip ?_
                  refine b_norm ?_
                  exact j_leaf x6904 (Option.some.inj h) (by kernel_rfl)
                · have h := ite_t hb6959 h
                  refine a_cond_t rfl ?_
                  refine a_region ?_
                  refine a_val (v := (.osl 3)) (u := []) rfl trivial rfl ?_
                  have hl6960 : LdOk [] (eT_Si64_Si64_Z (((rd r6389 x6580.toNat), r6952))) [] 2 true (eT_Si64_Si64_Z (((rd r6389 x6580.toNat), r6952))) := (.nil rfl rfl rfl)
                  refine a_val (v := (eT_Si64_Si64_Z (((rd r6389 x6580.toNat), r6952)))) (u := []) (ld_own (i := ⟨.struct [(0, 64), (1, 64)], 2, 48, (eT_Si64_Si64_Z ([], []))⟩) rfl rfl rfl hl6960) hl6960.c rfl ?_
                  refine a_val (v := (.sl 2 true (([((rd r6389 x6580.toNat), r6952)]).map eT_Si64_Si64_Z))) (u := []) rfl ⟨(Nat.le_of_ble_eq_true rfl), (Nat.le_of_ble_eq_true rfl), (all_cons ⟨(Nat.le_of_ble_eq_true rfl), rfl⟩ all_nil)⟩ rfl ?_
                  obtain ⟨hc6961, h⟩ := ifp_some h
                  refine a_val (v := (.osl 5300)) (u := [(5300, some ⟨(.row 2 (((x6904 ++ ([((rd r6389 x6580.toNat), r6952)]))).map eT_Si64_Si64_Z)), false⟩), (3, none)]) (app_run (i := ⟨.struct [(0, 64), (1, 64)], 2, 48, (eT_Si64_Si64_Z ([], []))⟩) (f := eT_Si64_Si64_Z) (l := x6904) (l2 := [((rd r6389 x6580.toNat), r6952)]) rfl rfl rfl rfl (fun _ => rfl) rfl rfl) (app_c (f := eT_Si64_Si64_Z) (s := 2) (sz := 2) (by' := 48) (u := []) (id := 3) hc6961 (.inr rfl) rfl rfl rfl) rfl ?_
                  refine a_val (v := (.osl 5300)) (u := []) rfl trivial rfl ?_
                  refine a_nil ?_
                  refine b_norm ?_
                  exact j_leaf ((x6904 ++ ([((rd r6389 x6580.toNat), r6952)]))) (Option.some.inj h) (by kernel_rfl)
def impl_row_poly_c : ACode := (.seq (.region 0 [⟨some 2, .alloc 23, none, []⟩] false) (.seq (.region 1 [⟨some 3, .alloc 23, none, []⟩] false) (.seq (.seq (.region 2 [⟨some 6, .mov (.tmp 0), none, []⟩, ⟨some 7, .blt 0 .len [(.tmp 6)] [64], none, []⟩, ⟨some 8, .mov (.const (.int .i64 0)), none, []⟩] false) (.block 0 (.loop (.seq (.region 3 [⟨some 9, .bin .lss 3 (.tmp 8) (.tmp 7), none, []⟩] false) (.seq (.cond (.tmp 9) .skip (.exit 0)) (.seq (.block 1 (.seq (.region 4 [⟨some 10, .mov (.tmp 8), none, []⟩, ⟨some 11, .indexAddr 64 (.tmp 6) (.tmp 8), none, []⟩, ⟨some 12, .load 2 (.tmp 11), none, []⟩, ⟨some 4, .asg 0 (.tmp 10) 3, none, []⟩, ⟨some 5, .asg 0 (.tmp 12) 2, none, []⟩] false) (.region 5 [⟨some 13, .mov (.tmp 4), none, []⟩, ⟨some 14, .mov (.tmp 5), none, []⟩, ⟨some 15, .conv 2 5 (.tmp 14), none, []⟩, ⟨some 16, .indexAddr 23 (.tmp 3) (.tmp 13), none, []⟩, ⟨none, .store 5 (.tmp 16) (.tmp 15), none, []⟩] false))) (.region 6 [⟨some 17, .bin .add 3 (.tmp 8) (.const (.int .i64 1)), none, []⟩, ⟨some 8, .mov (.tmp 17), none, []⟩] false))))))) (.seq (.region 7 [⟨some 18, .load 23 (.tmp 3), none, []⟩, ⟨none, .store 23 (.tmp 2) (.tmp 18), none, []⟩] false) .ret))))
def impl_row_poly_L : Live := [(0, [0]), (1, [0, 2]), (2, [0, 2, 3]), (3, [2, 3, 6, 7, 8]), (4, [2, 3, 6, 7, 8]), (5, [2, 3, 4, 5, 6, 7, 8]), (6, [2, 3, 6, 7, 8]), (7, [2, 3]), (100009, [2, 3, 6, 7, 8, 9])]
theorem impl_row_poly_body : Try.f101.body = some (Try.f101.body.getD .skip) := by kernel_rfl
theorem impl_row_poly_strip : strip [] (Try.f101.body.getD .skip) = impl_row_poly_c := by kernel_rfl
noncomputable def impl_row_poly_l1 (a0 : (List Int)) (x31 : Int) (x32 : (Vec Int 64)) : Option ((Int × (Vec Int 64)) ⊕ (Vec Int 64)) :=
  (if (decide (x31 < (a0.length : Int))) then (ifp (0 ≤ x31 ∧ x31 < ((a0.length : Nat) : Int)) ((ifp (0 ≤ x31 ∧ x31 < ((64 : Nat) : Int)) ((some (.inl ((IntKind.i64.wrap (x31 + 1), (vset x32 x31.toNat (IntKind.u8.wrap (rd a0 x31.toNat))))))))))) else (some (.inr x32)))
noncomputable def impl_row_poly (a0 : (List Int)) : Option (Vec Int 64) :=
  (Option.bind (α := (Vec Int 64)) ((loopM (fun s : (Int × (Vec Int 64)) => impl_row_poly_l1 a0 s.1 s.2) (0, (vrep 64 (0 : Int))))) fun x22 => (some x22))
set_option maxHeartbeats 16000000 in
theorem impl_row_poly_ok (a0 : (List Int)) (r : (Vec Int 64)) (h : impl_row_poly a0 = some r) : Den Try.prog 101 [(eSi64 a0)] { r := (eA64u8 r) } := by
  refine den_of (rs := [(eA64u8 r)]) (ac := impl_row_poly_c) (L := impl_row_poly_L) (n := 19) (m := []) good Try.func101 impl_row_poly_body (by kernel_rfl) Try.ntmps101 rfl rfl impl_row_poly_strip rfl rfl ?_
  refine a_st (σ' := ⟨[(0, (eSi64 a0))], []⟩) (by kernel_rfl) ?_
  unfold impl_row_poly_c
  refine a_seq ?_
  refine a_region ?_
  refine a_val (v := (.own 1200 [] [])) (u := [(1200, some ⟨(eA64u8 ((vrep 64 (0 : Int)))), false⟩)]) rfl trivial rfl ?_
  refine a_nil ?_
  refine a_next (σ' := ⟨[(0, (eSi64 a0)), (2, (.own 2 [] []))], [(2, some ⟨(eA64u8 ((vrep 64 (0 : Int)))), false⟩)]⟩) (by kernel_rfl) ?_
  refine a_seq ?_
  refine a_region ?_
  refine a_val (v := (.own 1300 [] [])) (u := [(1300, some ⟨(eA64u8 ((vrep 64 (0 : Int)))), false⟩)]) rfl trivial rfl ?_
  refine a_nil ?_
  refine a_next (σ' := ⟨[(0, (eSi64 a0)), (2, (.own 2 [] [])), (3, (.own 3 [] []))], [(2, some ⟨(eA64u8 ((vrep 64 (0 : Int)))), false⟩), (3, some ⟨(eA64u8 ((vrep 64 (0 : Int)))), false⟩)]⟩) (by kernel_rfl) ?_
  obtain ⟨y23, hy24, hk25⟩ := bind_some h
  clear h
  refine a_join (emb := fun (s : (Vec Int 64)) => ⟨[(2, (.own 2 [] [])), (3, (.own 3 [] []))], [(2, some ⟨(eA64u8 ((vrep 64 (0 : Int)))), false⟩), (3, some ⟨(eA64u8 s), false⟩)]⟩) (pre := fun s => s = y23) ?_ ?_
  · rintro x22 rfl
    have h := hk25
    refine a_st (σ' := ⟨[(2, (.own 2 [] [])), (3, (.own 3 [] []))], [(2, some ⟨(eA64u8 ((vrep 64 (0 : Int)))), false⟩), (3, some ⟨(eA64u8 x22), false⟩)]⟩) (by kernel_rfl) ?_
    refine a_seq ?_
    refine a_region ?_
    have hl47 : LdOk [] (eA64u8 x22) [] 64 true (eA64u8 x22) := (.nil rfl rfl rfl)
    refine a_val (v := (eA64u8 x22)) (u := []) (ld_own (i := ⟨.arr 64 5, 64, 64, (eA64u8 (vrep 64 (0 : Int)))⟩) rfl rfl rfl hl47) hl47.c rfl ?_
    have hs48 : StOk [] (eA64u8 ((vrep 64 (0 : Int)))) [] 64 (eA64u8 x22) (eA64u8 x22) := (.nil rfl rfl rfl rfl)
    refine a_val (v := .top) (u := [(2, some ⟨(eA64u8 x22), false⟩)]) (st_own (i := ⟨.arr 64 5, 64, 64, (eA64u8 (vrep 64 (0 : Int)))⟩) rfl rfl (fun _ => rfl) rfl hs48) (hs48.c rfl) rfl ?_
    refine a_nil ?_
    refine a_next rfl ?_
    refine a_ret ?_
    have hl49 : LdOk [] (eA64u8 x22) [] 64 true (eA64u8 x22) := (.nil rfl rfl rfl)
    refine ⟨.inr rfl, ?_⟩
    rw [Try.results101]
    cases h
    exact ⟨_, _, _, _, _, ld_own (i := ⟨.arr 64 5, 64, 64, (eA64u8 (vrep 64 (0 : Int)))⟩) rfl rfl rfl hl49, hl49.c, .inl ⟨rfl, .inl rfl⟩, rfl, rfl⟩
  · have h := hy24
    refine a_seq ?_
    refine a_region ?_
    refine a_val (v := (eSi64 a0)) (u := []) rfl trivial rfl ?_
    refine a_val (v := (.int .i64 (a0.length : Int))) (u := []) (len_run rfl rfl) trivial rfl ?_
    refine a_val (v := (.int .i64 0)) (u := []) rfl trivial rfl ?_
    refine a_nil ?_
    refine a_next (σ' := ⟨[(2, (.own 2 [] [])), (3, (.own 3 [] [])), (6, (eSi64 a0)), (7, (.int .i64 (a0.length : Int))), (8, (.int .i64 0))], [(2, some ⟨(eA64u8 ((vrep 64 (0 : Int)))), false⟩), (3, some ⟨(eA64u8 ((vrep 64 (0 : Int)))), false⟩)]⟩) (by kernel_rfl) ?_
    refine a_block ?_
    refine a_loop (emb := fun (s : (Int × (Vec Int 64))) => ⟨[(2, (.own 2 [] [])), (3, (.own 3 [] [])), (6, (eSi64 a0)), (7, (.int .i64 (a0.length : Int))), (8, (.int .i64 s.1))], [(2, some ⟨(eA64u8 ((vrep 64 (0 : Int)))), false⟩), (3, some ⟨(eA64u8 s.2), false⟩)]⟩) (body := (fun s : (Int × (Vec Int 64)) => impl_row_poly_l1 a0 s.1 s.2)) (G := fun q => some q = some y23) h rfl ?_ (by kernel_rfl)
    rintro X38 ⟨x31, x32⟩ x39 h hX40
    have h : impl_row_poly_l1 a0 x31 x32 = some x39 := h
    refine a_st (σ' := ⟨[(2, (.own 2 [] [])), (3, (.own 3 [] [])), (6, (eSi64 a0)), (7, (.int .i64 (a0.length : Int))), (8, (.int .i64 x31))], [(2, some ⟨(eA64u8 ((vrep 64 (0 : Int)))), false⟩), (3, some ⟨(eA64u8 x32), false⟩)]⟩) (by kernel_rfl) ?_
    refine a_seq ?_
    refine a_region ?_
    refine a_val (v := (.bool ((decide (x31 < (a0.length : Int)))))) (u := []) rfl trivial rfl ?_
    refine a_nil ?_
    refine a_next (σ' := ⟨[(2, (.own 2 [] [])), (3, (.own 3 [] [])), (6, (eSi64 a0)), (7, (.int .i64 (a0.length : Int))), (8, (.int .i64 x31)), (9, (.bool ((decide (x31 < (a0.length : Int))))))], [(2, some ⟨(eA64u8 ((vrep 64 (0 : Int)))), false⟩), (3, some ⟨(eA64u8 x32), false⟩)]⟩) (by kernel_rfl) ?_
    refine a_seq ?_
    cases hb41 : (decide (x31 < (a0.length : Int)))
    · have h := ite_f hb41 h
      refine a_cond_f rfl ?_
      refine a_exit ?_
      refine t_exit ?_
      cases h
      have h := hX40
      refine t_exit ?_
      refine b_exit ?_
      exact j_leaf x32 (Option.some.inj h) (by kernel_rfl)
    · have h := ite_t hb41 h
      refine a_cond_t rfl ?_
      refine a_skip ?_
      refine a_next (σ' := ⟨[(2, (.own 2 [] [])), (3, (.own 3 [] [])), (6, (eSi64 a0)), (7, (.int .i64 (a0.length : Int))), (8, (.int .i64 x31))], [(2, some ⟨(eA64u8 ((vrep 64 (0 : Int)))), false⟩), (3, some ⟨(eA64u8 x32), false⟩)]⟩) (by kernel_rfl) ?_
      refine a_seq ?_
      refine a_block ?_
      refine a_seq ?_
      refine a_region ?_
      refine a_val (v := (.int .i64 x31)) (u := []) rfl trivial rfl ?_
      obtain ⟨hc42, h⟩ := ifp_some h
      refine a_val (v := (.ref (.row 1 (a0.map (AV.int .i64))) [x31.toNat] [x31.toNat * 1])) (u := []) rfl (lmap hc42) rfl ?_
      have hl43 : LdOk [x31.toNat] (.row 1 (a0.map (AV.int .i64))) [x31.toNat * 1] 1 false (.int .i64 (rd a0 x31.toNat)) := (.row (llt hc42) rfl (.nil rfl rfl rfl))
      refine a_val (v := (.int .i64 (rd a0 x31.toNat))) (u := []) (ld_ref (i := ⟨.int .i64, 1, 8, (.int .i64 0)⟩) rfl rfl hl43) hl43.c rfl ?_
      refine a_val (v := (.int .i64 x31)) (u := []) rfl trivial rfl ?_
      refine a_val (v := (.int .i64 (rd a0 x31.toNat))) (u := []) rfl trivial rfl ?_
      refine a_nil ?_
      refine a_next (σ' := ⟨[(2, (.own 2 [] [])), (3, (.own 3 [] [])), (4, (.int .i64 x31)), (5, (.int .i64 (rd a0 x31.toNat))), (6, (eSi64 a0)), (7, (.int .i64 (a0.length : Int))), (8, (.int .i64 x31))], [(2, some ⟨(eA64u8 ((vrep 64 (0 : Int)))), false⟩), (3, some ⟨(eA64u8 x32), false⟩)]⟩) (by kernel_rfl) ?_
      refine a_region ?_
      refine a_val (v := (.int .i64 x31)) (u := []) rfl trivial rfl ?_
      refine a_val (v := (.int .i64 (rd a0 x31.toNat))) (u := []) rfl trivial rfl ?_
      refine a_val (v := (.int .u8 (IntKind.u8.wrap (rd a0 x31.toNat)))) (u := []) rfl trivial rfl ?_
      obtain ⟨hc44, h⟩ := ifp_some h
      refine a_val (v := (.own 3 [x31.toNat] [x31.toNat * 1])) (u := []) rfl hc44 rfl ?_
      have hs45 : StOk [x31.toNat] (eA64u8 x32) [x31.toNat * 1] 1 (.int .u8 (IntKind.u8.wrap (rd a0 x31.toNat))) (eA64u8 ((vset x32 x31.toNat (IntKind.u8.wrap (rd a0 x31.toNat))))) := (.arr (y := IntKind.u8.wrap (rd a0 x31.toNat)) (vlt x32 hc44) rfl (.nil rfl rfl rfl rfl))
      refine a_val (v := .top) (u := [(3, some ⟨(eA64u8 ((vset x32 x31.toNat (IntKind.u8.wrap (rd a0 x31.toNat))))), false⟩)]) (st_own (i := ⟨.int .u8, 1, 1, (.int .u8 0)⟩) rfl rfl (fun _ => rfl) rfl hs45) (hs45.c rfl) rfl ?_
      refine a_nil ?_
      refine b_norm ?_
      refine a_next (σ' := ⟨[(2, (.own 2 [] [])), (3, (.own 3 [] [])), (6, (eSi64 a0)), (7, (.int .i64 (a0.length : Int))), (8, (.int .i64 x31))], [(2, some ⟨(eA64u8 ((vrep 64 (0 : Int)))), false⟩), (3, some ⟨(eA64u8 ((vset x32 x31.toNat (IntKind.u8.wrap (rd a0 x31.toNat))))), false⟩)]⟩) (by kernel_rfl) ?_
      refine a_region ?_
      refine a_val (v := (.int .i64 (IntKind.i64.wrap (x31 + 1)))) (u := []) rfl trivial rfl ?_
      refine a_val (v := (.int .i64 (IntKind.i64.wrap (x31 + 1)))) (u := []) rfl trivial rfl ?_
      refine a_nil ?_
      cases h
      exact a_again (by kernel_rfl) hX40
def impl_form_told_c : ACode := (.seq (.region 0 [⟨some 1, .box 133 (.tmp 0), none, []⟩, ⟨some 2, .alloc 124, none, []⟩] false) (.seq (.region 1 [⟨some 3, .fieldAddr 133 (.tmp 1) 0, none, []⟩, ⟨some 4, .load 64 (.tmp 3), none, [0]⟩, ⟨some 5, .call 0 (.func 101) [(.tmp 4)], none, [1]⟩, ⟨some 6, .fieldAddr 133 (.tmp 1) 1, none, []⟩, ⟨some 7, .load 64 (.tmp 6), none, [3]⟩, ⟨some 8, .call 0 (.func 101) [(.tmp 7)], none, [4, 2]⟩, ⟨some 9, .build 124 [(0, (.tmp 5)), (1, (.tmp 8))], none, [2, 5]⟩, ⟨none, .store 124 (.tmp 2) (.tmp 9), none, [6, 5, 0, 1, 2, 3, 4, 5, 6]⟩] true) .ret))
def impl_form_told_L : Live := [(0, [0]), (1, [1, 2])]
theorem impl_form_told_body : Try.f132.body = some (Try.f132.body.getD .skip) := by kernel_rfl
theorem impl_form_told_strip : strip [] (Try.f132.body.getD .skip) = impl_form_told_c := by kernel_rfl
noncomputable def impl_form_told (a0 : ((List Int) × (List Int))) : Option ((Vec Int 64) × (Vec Int 64)) :=
  (Option.bind (impl_row_poly a0.1) fun r9 => (Option.bind (impl_row_poly a0.2) fun r12 => (some (r9, r12))))
set_option maxHeartbeats 16000000 in
theorem impl_form_told_ok (a0 : ((List Int) × (List Int))) (r : ((Vec Int 64) × (Vec Int 64))) (h : impl_form_told a0 = some r) : Den Try.prog 132 [(eT_Si64_Si64_Z a0)] { r := (eT_A64u8_A64u8_Z r) } := by
  refine den_of (rs := [(eT_A64u8_A64u8_Z r)]) (ac := impl_form_told_c) (L := impl_form_told_L) (n := 10) (m := []) good Try.func132 impl_form_told_body (by kernel_rfl) Try.ntmps132 rfl rfl impl_form_told_strip rfl rfl ?_
  refine a_st (σ' := ⟨[(0, (eT_Si64_Si64_Z a0))], []⟩) (by kernel_rfl) ?_
  unfold impl_form_told_c
  refine a_seq ?_
  refine a_region ?_
  refine a_val (v := (.own 1100 [] [])) (u := [(1100, some ⟨(eT_Si64_Si64_Z a0), false⟩)]) rfl trivial rfl ?_
  refine a_val (v := (.own 1200 [] [])) (u := [(1200, some ⟨(eT_A64u8_A64u8_Z (((vrep 64 (0 : Int)), (vrep 64 (0 : Int))))), false⟩)]) rfl trivial rfl ?_
  refine a_nil ?_
  refine a_next (σ' := ⟨[(1, (.own 1 [] [])), (2, (.own 2 [] []))], [(1, some ⟨(eT_Si64_Si64_Z a0), false⟩), (2, some ⟨(eT_A64u8_A64u8_Z (((vrep 64 (0 : Int)), (vrep 64 (0 : Int))))), false⟩)]⟩) (by kernel_rfl) ?_
  refine a_seq ?_
  refine a_draw [⟨[1], [], [1], []⟩, ⟨[1], [], [], [0]⟩, ⟨[], [], [], [0, 1]⟩, ⟨[1], [], [1], []⟩, ⟨[1], [], [], [3]⟩, ⟨[], [], [], [0, 1, 2, 3, 4]⟩, ⟨[], [], [], [0, 1, 2, 3, 4, 5]⟩, ⟨[2], [2], [], [0, 1, 2, 3, 4, 5, 6]⟩] (by kernel_rfl) ?_
  refine d_cons ?_
  refine a_val (v := (.own 1 [0] [0])) (u := []) rfl (Nat.le_of_ble_eq_true rfl) rfl ?_
  refine d_next (by kernel_rfl) ?_
  refine d_cons ?_
  have hl8 : LdOk [0] (eT_Si64_Si64_Z a0) [0] 1 false (eSi64 a0.1) := (.fld rfl rfl rfl rfl (.nil rfl rfl rfl))
  refine a_val (v := (eSi64 a0.1)) (u := []) (ld_own (i := ⟨.slice 2, 1, 24, (eSi64 [])⟩) rfl rfl rfl hl8) hl8.c rfl ?_
  refine d_next (by kernel_rfl) ?_
  refine d_cons ?_
  obtain ⟨r9, hr10, h⟩ := bind_some h
  refine a_call (args := [(eSi64 a0.1)]) (u := []) (r := (eA64u8 r9)) rfl rfl (impl_row_poly_ok a0.1 r9 hr10) rfl ?_
  refine d_next (by kernel_rfl) ?_
  refine d_cons ?_
  refine a_val (v := (.own 1 [1] [1])) (u := []) rfl (Nat.le_of_ble_eq_true rfl) rfl ?_
  refine d_next (by kernel_rfl) ?_
  refine d_cons ?_
  have hl11 : LdOk [1] (eT_Si64_Si64_Z a0) [1] 1 false (eSi64 a0.2) := (.fld rfl rfl rfl rfl (.nil rfl rfl rfl))
  refine a_val (v := (eSi64 a0.2)) (u := []) (ld_own (i := ⟨.slice 2, 1, 24, (eSi64 [])⟩) rfl rfl rfl hl11) hl11.c rfl ?_
  refine d_next (by kernel_rfl) ?_
  refine d_cons ?_
  obtain ⟨r12, hr13, h⟩ := bind_some h
  refine a_call (args := [(eSi64 a0.2)]) (u := []) (r := (eA64u8 r12)) rfl rfl (impl_row_poly_ok a0.2 r12 hr13) rfl ?_
  refine d_next (by kernel_rfl) ?_
  refine d_cons ?_
  refine a_val (v := (eT_A64u8_A64u8_Z (r9, r12))) (u := []) rfl ⟨rfl, (all_cons ⟨(Nat.le_of_ble_eq_true rfl), rfl⟩ (all_cons ⟨(Nat.le_of_ble_eq_true rfl), rfl⟩ all_nil))⟩ rfl ?_
  refine d_next (by kernel_rfl) ?_
  refine d_cons ?_
  have hs14 : StOk [] (eT_A64u8_A64u8_Z (((vrep 64 (0 : Int)), (vrep 64 (0 : Int))))) [] 128 (eT_A64u8_A64u8_Z (r9, r12)) (eT_A64u8_A64u8_Z (r9, r12)) := (.nil rfl rfl rfl rfl)
  refine a_val (v := .top) (u := [(2, some ⟨(eT_A64u8_A64u8_Z (r9, r12)), false⟩)]) (st_own (i := ⟨.struct [(0, 23), (64, 23)], 128, 128, (eT_A64u8_A64u8_Z ((vrep 64 (0 : Int)), (vrep 64 (0 : Int))))⟩) rfl rfl (fun _ => rfl) rfl hs14) (hs14.c rfl) rfl ?_
  refine d_next (by kernel_rfl) ?_
  refine d_nil ?_
  refine a_next rfl ?_
  refine a_ret ?_
  have hl15 : LdOk [] (eT_A64u8_A64u8_Z (r9, r12)) [] 128 true (eT_A64u8_A64u8_Z (r9, r12)) := (.nil rfl rfl rfl)
  refine ⟨.inr rfl, ?_⟩
  rw [Try.results132]
  cases h
  exact ⟨_, _, _, _, _, ld_own (i := ⟨.struct [(0, 23), (64, 23)], 128, 128, (eT_A64u8_A64u8_Z ((vrep 64 (0 : Int)), (vrep 64 (0 : Int))))⟩) rfl rfl rfl hl15, hl15.c, .inl ⟨rfl, .inl rfl⟩, rfl, rfl⟩
end Go.Proofs.Ytgodhgbnjlflmaa
