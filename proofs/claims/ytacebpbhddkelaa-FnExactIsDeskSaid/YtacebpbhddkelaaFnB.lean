/- Functions of the program: plain Lean functions, and that the program computes them. Printed by gen.py. -/
import Derived.Test.YtacebpbhddkelaaFnA
namespace Go.Proofs.Ytacebpbhddkelaa
open Go.Abs Go.Proofs
set_option linter.unusedSimpArgs false
set_option linter.unusedVariables false

def slices_IndexFunc_byte_byte_of_impl_areAll_byte__c1_p_c : ACode := (.seq (.region 0 [⟨some 4, .asg 0 (.const (.int .i64 0)) 3, none, []⟩] false) (.seq (.seq (.region 1 [⟨some 6, .mov (.tmp 0), none, []⟩, ⟨some 7, .blt 0 .len [(.tmp 6)] [126], none, []⟩, ⟨some 8, .mov (.const (.int .i64 0)), none, []⟩] false) (.block 0 (.loop (.seq (.region 2 [⟨some 9, .bin .lss 3 (.tmp 8) (.tmp 7), none, []⟩] false) (.seq (.cond (.tmp 9) .skip (.exit 0)) (.seq (.block 1 (.seq (.region 3 [⟨some 10, .mov (.tmp 8), none, []⟩, ⟨some 5, .asg 0 (.tmp 10) 3, none, []⟩] false) (.seq (.region 4 [⟨some 11, .mov (.tmp 1), none, []⟩, ⟨some 12, .mov (.tmp 0), none, []⟩, ⟨some 13, .mov (.tmp 5), none, []⟩, ⟨some 14, .indexAddr 126 (.tmp 12) (.tmp 13), none, []⟩, ⟨some 15, .load 5 (.tmp 14), none, []⟩, ⟨some 16, .call 0 (.tmp 11) [(.tmp 15)], none, []⟩] false) (.cond (.tmp 16) (.seq (.region 5 [⟨some 17, .mov (.tmp 5), none, []⟩, ⟨some 4, .asg 0 (.tmp 17) 3, none, []⟩] false) .ret) .skip)))) (.region 6 [⟨some 18, .bin .add 3 (.tmp 8) (.const (.int .i64 1)), none, []⟩, ⟨some 8, .mov (.tmp 18), none, []⟩] false))))))) (.seq (.region 7 [⟨some 4, .asg 0 (.const (.int .i64 (-1))) 3, none, []⟩] false) .ret)))
def slices_IndexFunc_byte_byte_of_impl_areAll_byte__c1_p_L : Live := [(0, [0, 1]), (1, [0, 1]), (2, [0, 1, 7, 8]), (3, [0, 1, 7, 8]), (4, [0, 1, 5, 7, 8]), (5, [5]), (6, [0, 1, 7, 8]), (7, []), (100009, [0, 1, 7, 8, 9]), (100016, [0, 1, 5, 7, 8, 16])]
theorem slices_IndexFunc_byte_byte_of_impl_areAll_byte__c1_p_body : Try.f155.body = some (Try.f155.body.getD .skip) := by kernel_rfl
theorem slices_IndexFunc_byte_byte_of_impl_areAll_byte__c1_p_strip : strip [] (Try.f155.body.getD .skip) = slices_IndexFunc_byte_byte_of_impl_areAll_byte__c1_p_c := by kernel_rfl
noncomputable def slices_IndexFunc_byte_byte_of_impl_areAll_byte__c1_p_l1 (a0 : (List Int)) (a1c0c0 : Int) (x33 : Int) : Option (Int ⊕ (Unit ⊕ Int)) :=
  (if (decide (x33 < (a0.length : Int))) then (ifp (0 ≤ x33 ∧ x33 < ((a0.length : Nat) : Int)) ((Option.bind (impl_areAll_byte__c1_of_p (rd a0 x33.toNat) a1c0c0) fun r46 => (if r46 then (some (.inr (.inr x33))) else (some (.inl (IntKind.i64.wrap (x33 + 1)))))))) else (some (.inr (((.inl ()))))))
noncomputable def slices_IndexFunc_byte_byte_of_impl_areAll_byte__c1_p (a0 : (List Int)) (a1c0c0 : Int) : Option Int :=
  (Option.bind ((loopM (fun s : Int => slices_IndexFunc_byte_byte_of_impl_areAll_byte__c1_p_l1 a0 a1c0c0 s) 0)) fun z => match z with | .inl _ => (some (-1)) | .inr r50 => (some r50))
set_option maxHeartbeats 16000000 in
theorem slices_IndexFunc_byte_byte_of_impl_areAll_byte__c1_p_ok (a0 : (List Int)) (a1c0c0 : Int) (r : Int) (h : slices_IndexFunc_byte_byte_of_impl_areAll_byte__c1_p a0 a1c0c0 = some r) : Den Try.prog 155 [(eSu8 a0), (.clo 149 [] [(.ref (.clo 133 [] [(.ref (.int .i64 a1c0c0) [] [])]) [] [])])] { r := (.int .i64 r) } := by
  refine den_of (rs := [(.int .i64 r)]) (ac := slices_IndexFunc_byte_byte_of_impl_areAll_byte__c1_p_c) (L := slices_IndexFunc_byte_byte_of_impl_areAll_byte__c1_p_L) (n := 19) (m := []) good Try.func155 slices_IndexFunc_byte_byte_of_impl_areAll_byte__c1_p_body (by kernel_rfl) Try.ntmps155 rfl rfl slices_IndexFunc_byte_byte_of_impl_areAll_byte__c1_p_strip rfl rfl ?_
  refine a_st (σ' := ⟨[(0, (eSu8 a0)), (1, (.clo 149 [] [(.ref (.clo 133 [] [(.ref (.int .i64 a1c0c0) [] [])]) [] [])]))], []⟩) rfl ?_
  unfold slices_IndexFunc_byte_byte_of_impl_areAll_byte__c1_p_c
  refine a_seq ?_
  refine a_region ?_
  refine a_val (v := (.int .i64 0)) (u := []) rfl trivial rfl ?_
  refine a_nil ?_
  refine a_next (σ' := ⟨[(0, (eSu8 a0)), (1, (.clo 149 [] [(.ref (.clo 133 [] [(.ref (.int .i64 a1c0c0) [] [])]) [] [])]))], []⟩) rfl ?_
  obtain ⟨y24, hy25, hk26⟩ := bind_some h
  clear h
  refine a_join (emb := fun (s : Unit) => ⟨[], []⟩) (pre := fun s => (.inl s) = y24) ?_ ?_
  · rintro _ rfl
    have h := hk26
    refine a_st (σ' := ⟨[], []⟩) rfl ?_
    refine a_seq ?_
    refine a_region ?_
    refine a_val (v := (.int .i64 (-1))) (u := []) rfl trivial rfl ?_
    refine a_nil ?_
    refine a_next rfl ?_
    refine a_ret ?_
    refine ⟨.inr rfl, ?_⟩
    rw [Try.results155]
    cases h
    exact ⟨_, _, _, _, _, rfl, trivial, .inl ⟨rfl, .inl rfl⟩, rfl, rfl⟩
  · have h := hy25
    refine a_seq ?_
    refine a_region ?_
    refine a_val (v := (eSu8 a0)) (u := []) rfl trivial rfl ?_
    refine a_val (v := (.int .i64 (a0.length : Int))) (u := []) (len_run rfl rfl) trivial rfl ?_
    refine a_val (v := (.int .i64 0)) (u := []) rfl trivial rfl ?_
    refine a_nil ?_
    refine a_next (σ' := ⟨[(0, (eSu8 a0)), (1, (.clo 149 [] [(.ref (.clo 133 [] [(.ref (.int .i64 a1c0c0) [] [])]) [] [])])), (7, (.int .i64 (a0.length : Int))), (8, (.int .i64 0))], []⟩) rfl ?_
    refine a_block ?_
    refine a_loop (emb := fun (s : Int) => ⟨[(0, (eSu8 a0)), (1, (.clo 149 [] [(.ref (.clo 133 [] [(.ref (.int .i64 a1c0c0) [] [])]) [] [])])), (7, (.int .i64 (a0.length : Int))), (8, (.int .i64 s))], []⟩) (body := (fun s : Int => slices_IndexFunc_byte_byte_of_impl_areAll_byte__c1_p_l1 a0 a1c0c0 s)) (G := fun q => some q = some y24) h rfl ?_ rfl
    rintro X40 x33 x41 h hX42
    have h : slices_IndexFunc_byte_byte_of_impl_areAll_byte__c1_p_l1 a0 a1c0c0 x33 = some x41 := h
    refine a_st (σ' := ⟨[(0, (eSu8 a0)), (1, (.clo 149 [] [(.ref (.clo 133 [] [(.ref (.int .i64 a1c0c0) [] [])]) [] [])])), (7, (.int .i64 (a0.length : Int))), (8, (.int .i64 x33))], []⟩) rfl ?_
    refine a_seq ?_
    refine a_region ?_
    refine a_val (v := (.bool ((decide (x33 < (a0.length : Int)))))) (u := []) rfl trivial rfl ?_
    refine a_nil ?_
    refine a_next (σ' := ⟨[(0, (eSu8 a0)), (1, (.clo 149 [] [(.ref (.clo 133 [] [(.ref (.int .i64 a1c0c0) [] [])]) [] [])])), (7, (.int .i64 (a0.length : Int))), (8, (.int .i64 x33)), (9, (.bool ((decide (x33 < (a0.length : Int))))))], []⟩) rfl ?_
    refine a_seq ?_
    cases hb43 : (decide (x33 < (a0.length : Int)))
    · have h := ite_f hb43 h
      refine a_cond_f rfl ?_
      refine a_exit ?_
      refine t_exit ?_
      cases h
      have h := hX42
      refine t_exit ?_
      refine b_exit ?_
      exact j_leaf () (Option.some.inj h) rfl
    · have h := ite_t hb43 h
      refine a_cond_t rfl ?_
      refine a_skip ?_
      refine a_next (σ' := ⟨[(0, (eSu8 a0)), (1, (.clo 149 [] [(.ref (.clo 133 [] [(.ref (.int .i64 a1c0c0) [] [])]) [] [])])), (7, (.int .i64 (a0.length : Int))), (8, (.int .i64 x33))], []⟩) rfl ?_
      refine a_seq ?_
      refine a_block ?_
      refine a_seq ?_
      refine a_region ?_
      refine a_val (v := (.int .i64 x33)) (u := []) rfl trivial rfl ?_
      refine a_val (v := (.int .i64 x33)) (u := []) rfl trivial rfl ?_
      refine a_nil ?_
      refine a_next (σ' := ⟨[(0, (eSu8 a0)), (1, (.clo 149 [] [(.ref (.clo 133 [] [(.ref (.int .i64 a1c0c0) [] [])]) [] [])])), (5, (.int .i64 x33)), (7, (.int .i64 (a0.length : Int))), (8, (.int .i64 x33))], []⟩) rfl ?_
      refine a_seq ?_
      refine a_region ?_
      refine a_val (v := (.clo 149 [] [(.ref (.clo 133 [] [(.ref (.int .i64 a1c0c0) [] [])]) [] [])])) (u := []) rfl trivial rfl ?_
      refine a_val (v := (eSu8 a0)) (u := []) rfl trivial rfl ?_
      refine a_val (v := (.int .i64 x33)) (u := []) rfl trivial rfl ?_
      obtain ⟨hc44, h⟩ := ifp_some h
      refine a_val (v := (.ref (.row 1 (a0.map (AV.int .u8))) [x33.toNat] [x33.toNat * 1])) (u := []) rfl (lmap hc44) rfl ?_
      have hl45 : LdOk [x33.toNat] (.row 1 (a0.map (AV.int .u8))) [x33.toNat * 1] 1 false (.int .u8 (rd a0 x33.toNat)) := (.row (llt hc44) rfl (.nil rfl rfl rfl))
      refine a_val (v := (.int .u8 (rd a0 x33.toNat))) (u := []) (ld_ref (i := ⟨.int .u8, 1, 1, (.int .u8 0)⟩) rfl rfl hl45) hl45.c rfl ?_
      obtain ⟨r46, hr47, h⟩ := bind_some h
      refine a_call (args := [(.int .u8 (rd a0 x33.toNat)), (.ref (.clo 133 [] [(.ref (.int .i64 a1c0c0) [] [])]) [] [])]) (u := []) (r := (.bool r46)) rfl rfl (impl_areAll_byte__c1_of_p_ok (rd a0 x33.toNat) a1c0c0 r46 hr47) rfl ?_
      refine a_nil ?_
      refine a_next (σ' := ⟨[(0, (eSu8 a0)), (1, (.clo 149 [] [(.ref (.clo 133 [] [(.ref (.int .i64 a1c0c0) [] [])]) [] [])])), (5, (.int .i64 x33)), (7, (.int .i64 (a0.length : Int))), (8, (.int .i64 x33)), (16, (.bool r46))], []⟩) rfl ?_
      cases hb48 : r46
      · have h := ite_f hb48 h
        refine a_cond_f rfl ?_
        refine a_skip ?_
        refine b_norm ?_
        refine a_next (σ' := ⟨[(0, (eSu8 a0)), (1, (.clo 149 [] [(.ref (.clo 133 [] [(.ref (.int .i64 a1c0c0) [] [])]) [] [])])), (7, (.int .i64 (a0.length : Int))), (8, (.int .i64 x33))], []⟩) rfl ?_
        refine a_region ?_
        refine a_val (v := (.int .i64 (IntKind.i64.wrap (x33 + 1)))) (u := []) rfl trivial rfl ?_
        refine a_val (v := (.int .i64 (IntKind.i64.wrap (x33 + 1)))) (u := []) rfl trivial rfl ?_
        refine a_nil ?_
        cases h
        exact a_again rfl hX42
      · have h := ite_t hb48 h
        refine a_cond_t rfl ?_
        refine a_seq ?_
        refine a_region ?_
        refine a_val (v := (.int .i64 x33)) (u := []) rfl trivial rfl ?_
        refine a_val (v := (.int .i64 x33)) (u := []) rfl trivial rfl ?_
        refine a_nil ?_
        refine a_next rfl ?_
        refine a_ret ?_
        refine b_ret ?_
        refine t_ret ?_
        cases h
        have h := hX42
        refine t_ret ?_
        refine b_ret ?_
        refine t_ret ?_
        cases h
        have h := hk26
        refine ⟨.inr rfl, ?_⟩
        rw [Try.results155]
        cases h
        exact ⟨_, _, _, _, _, rfl, trivial, .inl ⟨rfl, .inl rfl⟩, rfl, rfl⟩
def slices_ContainsFunc_byte_byte_of_impl_areAll_byte__c1_p_c : ACode := (.seq (.region 0 [⟨some 4, .asg 0 (.const (.bool false)) 4, none, []⟩] false) (.seq (.region 1 [⟨some 5, .mov (.tmp 0), none, []⟩, ⟨some 6, .mov (.tmp 1), none, []⟩, ⟨some 7, .call 0 (.func 155) [(.tmp 5), (.tmp 6)], none, []⟩, ⟨some 8, .bin .geq 3 (.tmp 7) (.const (.int .i64 0)), none, []⟩, ⟨some 4, .asg 0 (.tmp 8) 4, none, []⟩] false) .ret))
def slices_ContainsFunc_byte_byte_of_impl_areAll_byte__c1_p_L : Live := [(0, [0, 1]), (1, [0, 1])]
theorem slices_ContainsFunc_byte_byte_of_impl_areAll_byte__c1_p_body : Try.f148.body = some (Try.f148.body.getD .skip) := by kernel_rfl
theorem slices_ContainsFunc_byte_byte_of_impl_areAll_byte__c1_p_strip : strip [] (Try.f148.body.getD .skip) = slices_ContainsFunc_byte_byte_of_impl_areAll_byte__c1_p_c := by kernel_rfl
noncomputable def slices_ContainsFunc_byte_byte_of_impl_areAll_byte__c1_p (a0 : (List Int)) (a1c0c0 : Int) : Option Bool :=
  (Option.bind (slices_IndexFunc_byte_byte_of_impl_areAll_byte__c1_p a0 a1c0c0) fun r1 => (some ((decide (r1 ≥ 0)))))
set_option maxHeartbeats 16000000 in
theorem slices_ContainsFunc_byte_byte_of_impl_areAll_byte__c1_p_ok (a0 : (List Int)) (a1c0c0 : Int) (r : Bool) (h : slices_ContainsFunc_byte_byte_of_impl_areAll_byte__c1_p a0 a1c0c0 = some r) : Den Try.prog 148 [(eSu8 a0), (.clo 149 [] [(.ref (.clo 133 [] [(.ref (.int .i64 a1c0c0) [] [])]) [] [])])] { r := (.bool r) } := by
  refine den_of (rs := [(.bool r)]) (ac := slices_ContainsFunc_byte_byte_of_impl_areAll_byte__c1_p_c) (L := slices_ContainsFunc_byte_byte_of_impl_areAll_byte__c1_p_L) (n := 9) (m := []) good Try.func148 slices_ContainsFunc_byte_byte_of_impl_areAll_byte__c1_p_body (by kernel_rfl) Try.ntmps148 rfl rfl slices_ContainsFunc_byte_byte_of_impl_areAll_byte__c1_p_strip rfl rfl ?_
  refine a_st (σ' := ⟨[(0, (eSu8 a0)), (1, (.clo 149 [] [(.ref (.clo 133 [] [(.ref (.int .i64 a1c0c0) [] [])]) [] [])]))], []⟩) rfl ?_
  unfold slices_ContainsFunc_byte_byte_of_impl_areAll_byte__c1_p_c
  refine a_seq ?_
  refine a_region ?_
  refine a_val (v := (.bool false)) (u := []) rfl trivial rfl ?_
  refine a_nil ?_
  refine a_next (σ' := ⟨[(0, (eSu8 a0)), (1, (.clo 149 [] [(.ref (.clo 133 [] [(.ref (.int .i64 a1c0c0) [] [])]) [] [])]))], []⟩) rfl ?_
  refine a_seq ?_
  refine a_region ?_
  refine a_val (v := (eSu8 a0)) (u := []) rfl trivial rfl ?_
  refine a_val (v := (.clo 149 [] [(.ref (.clo 133 [] [(.ref (.int .i64 a1c0c0) [] [])]) [] [])])) (u := []) rfl trivial rfl ?_
  obtain ⟨r1, hr2, h⟩ := bind_some h
  refine a_call (args := [(eSu8 a0), (.clo 149 [] [(.ref (.clo 133 [] [(.ref (.int .i64 a1c0c0) [] [])]) [] [])])]) (u := []) (r := (.int .i64 r1)) rfl rfl (slices_IndexFunc_byte_byte_of_impl_areAll_byte__c1_p_ok a0 a1c0c0 r1 hr2) rfl ?_
  refine a_val (v := (.bool ((decide (r1 ≥ 0))))) (u := []) rfl trivial rfl ?_
  refine a_val (v := (.bool ((decide (r1 ≥ 0))))) (u := []) rfl trivial rfl ?_
  refine a_nil ?_
  refine a_next rfl ?_
  refine a_ret ?_
  refine ⟨.inr rfl, ?_⟩
  rw [Try.results148]
  cases h
  exact ⟨_, _, _, _, _, rfl, trivial, .inl ⟨rfl, .inl rfl⟩, rfl, rfl⟩
def impl_areAll_byte_of_impl_isPoly_c1_p_c : ACode := (.seq (.region 0 [⟨some 3, .box 127 (.tmp 1), none, []⟩, ⟨some 4, .asg 0 (.const (.bool false)) 4, none, []⟩] false) (.seq (.region 1 [⟨some 5, .mov (.tmp 0), none, []⟩, ⟨some 6, .mkfn 149 [] [(.tmp 3)], none, []⟩, ⟨some 7, .call 0 (.func 148) [(.tmp 5), (.tmp 6)], none, []⟩, ⟨some 8, .un .not (.tmp 7), none, []⟩, ⟨some 4, .asg 0 (.tmp 8) 4, none, []⟩] false) .ret))
def impl_areAll_byte_of_impl_isPoly_c1_p_L : Live := [(0, [0, 1]), (1, [0, 3])]
theorem impl_areAll_byte_of_impl_isPoly_c1_p_body : Try.f132.body = some (Try.f132.body.getD .skip) := by kernel_rfl
theorem impl_areAll_byte_of_impl_isPoly_c1_p_strip : strip [] (Try.f132.body.getD .skip) = impl_areAll_byte_of_impl_isPoly_c1_p_c := by kernel_rfl
noncomputable def impl_areAll_byte_of_impl_isPoly_c1_p (a0 : (List Int)) (a1c0 : Int) : Option Bool :=
  (Option.bind (slices_ContainsFunc_byte_byte_of_impl_areAll_byte__c1_p a0 a1c0) fun r1 => (some (!r1)))
set_option maxHeartbeats 16000000 in
theorem impl_areAll_byte_of_impl_isPoly_c1_p_ok (a0 : (List Int)) (a1c0 : Int) (r : Bool) (h : impl_areAll_byte_of_impl_isPoly_c1_p a0 a1c0 = some r) : Den Try.prog 132 [(eSu8 a0), (.clo 133 [] [(.ref (.int .i64 a1c0) [] [])])] { r := (.bool r) } := by
  refine den_of (rs := [(.bool r)]) (ac := impl_areAll_byte_of_impl_isPoly_c1_p_c) (L := impl_areAll_byte_of_impl_isPoly_c1_p_L) (n := 9) (m := []) good Try.func132 impl_areAll_byte_of_impl_isPoly_c1_p_body (by kernel_rfl) Try.ntmps132 rfl rfl impl_areAll_byte_of_impl_isPoly_c1_p_strip rfl rfl ?_
  refine a_st (σ' := ⟨[(0, (eSu8 a0)), (1, (.clo 133 [] [(.ref (.int .i64 a1c0) [] [])]))], []⟩) rfl ?_
  unfold impl_areAll_byte_of_impl_isPoly_c1_p_c
  refine a_seq ?_
  refine a_region ?_
  refine a_val (v := (.own 1300 [] [])) (u := [(1300, some ⟨(.clo 133 [] [(.ref (.int .i64 a1c0) [] [])]), false⟩)]) rfl trivial rfl ?_
  refine a_val (v := (.bool false)) (u := []) rfl trivial rfl ?_
  refine a_nil ?_
  refine a_next (σ' := ⟨[(0, (eSu8 a0)), (3, (.own 3 [] []))], [(3, some ⟨(.clo 133 [] [(.ref (.int .i64 a1c0) [] [])]), false⟩)]⟩) rfl ?_
  refine a_seq ?_
  refine a_region ?_
  refine a_val (v := (eSu8 a0)) (u := []) rfl trivial rfl ?_
  refine a_val (v := (.clo 149 [] [(.ref (.clo 133 [] [(.ref (.int .i64 a1c0) [] [])]) [] [])])) (u := [(3, some ⟨(.clo 133 [] [(.ref (.int .i64 a1c0) [] [])]), true⟩)]) rfl ⟨all_nil, (all_cons ⟨rfl, rfl⟩ all_nil)⟩ rfl ?_
  obtain ⟨r1, hr2, h⟩ := bind_some h
  refine a_call (args := [(eSu8 a0), (.clo 149 [] [(.ref (.clo 133 [] [(.ref (.int .i64 a1c0) [] [])]) [] [])])]) (u := []) (r := (.bool r1)) rfl rfl (slices_ContainsFunc_byte_byte_of_impl_areAll_byte__c1_p_ok a0 a1c0 r1 hr2) rfl ?_
  refine a_val (v := (.bool (!r1))) (u := []) rfl trivial rfl ?_
  refine a_val (v := (.bool (!r1))) (u := []) rfl trivial rfl ?_
  refine a_nil ?_
  refine a_next rfl ?_
  refine a_ret ?_
  refine ⟨.inr rfl, ?_⟩
  rw [Try.results132]
  cases h
  exact ⟨_, _, _, _, _, rfl, trivial, .inl ⟨rfl, .inl rfl⟩, rfl, rfl⟩
def impl_isPoly_c : ACode := (.seq (.region 0 [⟨some 2, .box 2 (.tmp 0), none, []⟩, ⟨some 3, .box 23 (.tmp 1), none, []⟩, ⟨some 4, .asg 0 (.const (.bool false)) 4, none, []⟩] false) (.seq (.region 1 [⟨some 5, .slice 23 (.tmp 3) none none none, none, []⟩, ⟨some 6, .mkfn 133 [] [(.tmp 2)], none, []⟩, ⟨some 7, .call 0 (.func 132) [(.tmp 5), (.tmp 6)], none, []⟩, ⟨some 4, .asg 0 (.tmp 7) 4, none, []⟩] false) .ret))
def impl_isPoly_L : Live := [(0, [0, 1]), (1, [2, 3])]
theorem impl_isPoly_body : Try.f106.body = some (Try.f106.body.getD .skip) := by kernel_rfl
theorem impl_isPoly_strip : strip [] (Try.f106.body.getD .skip) = impl_isPoly_c := by kernel_rfl
noncomputable def impl_isPoly (a0 : Int) (a1 : (Vec Int 64)) : Option Bool :=
  (Option.bind (impl_areAll_byte_of_impl_isPoly_c1_p a1.1 a0) fun r1 => (some r1))
set_option maxHeartbeats 16000000 in
theorem impl_isPoly_ok (a0 : Int) (a1 : (Vec Int 64)) (r : Bool) (h : impl_isPoly a0 a1 = some r) : Den Try.prog 106 [(.int .i64 a0), (eA64u8 a1)] { r := (.bool r) } := by
  refine den_of (rs := [(.bool r)]) (ac := impl_isPoly_c) (L := impl_isPoly_L) (n := 8) (m := []) good Try.func106 impl_isPoly_body (by kernel_rfl) Try.ntmps106 rfl rfl impl_isPoly_strip rfl rfl ?_
  refine a_st (σ' := ⟨[(0, (.int .i64 a0)), (1, (eA64u8 a1))], []⟩) rfl ?_
  unfold impl_isPoly_c
  refine a_seq ?_
  refine a_region ?_
  refine a_val (v := (.own 1200 [] [])) (u := [(1200, some ⟨(.int .i64 a0), false⟩)]) rfl trivial rfl ?_
  refine a_val (v := (.own 1300 [] [])) (u := [(1300, some ⟨(eA64u8 a1), false⟩)]) rfl trivial rfl ?_
  refine a_val (v := (.bool false)) (u := []) rfl trivial rfl ?_
  refine a_nil ?_
  refine a_next (σ' := ⟨[(2, (.own 2 [] [])), (3, (.own 3 [] []))], [(2, some ⟨(.int .i64 a0), false⟩), (3, some ⟨(eA64u8 a1), false⟩)]⟩) rfl ?_
  refine a_seq ?_
  refine a_region ?_
  refine a_val (v := (.sl 1 true (a1.1.map (AV.int .u8)))) (u := [(3, some ⟨(eA64u8 a1), true⟩)]) rfl ⟨rfl, trivial, rfl, rfl⟩ rfl ?_
  refine a_val (v := (.clo 133 [] [(.ref (.int .i64 a0) [] [])])) (u := [(2, some ⟨(.int .i64 a0), true⟩)]) rfl ⟨all_nil, (all_cons ⟨rfl, rfl⟩ all_nil)⟩ rfl ?_
  obtain ⟨r1, hr2, h⟩ := bind_some h
  refine a_call (args := [(.sl 1 true (a1.1.map (AV.int .u8))), (.clo 133 [] [(.ref (.int .i64 a0) [] [])])]) (u := []) (r := (.bool r1)) rfl rfl (Den.args (impl_areAll_byte_of_impl_isPoly_c1_p_ok a1.1 a0 r1 hr2) rfl rfl (.cons (.loose _) (.cons (.refl _) .nil))) rfl ?_
  refine a_val (v := (.bool r1)) (u := []) rfl trivial rfl ?_
  refine a_nil ?_
  refine a_next rfl ?_
  refine a_ret ?_
  refine ⟨.inr rfl, ?_⟩
  rw [Try.results106]
  cases h
  exact ⟨_, _, _, _, _, rfl, trivial, .inl ⟨rfl, .inl rfl⟩, rfl, rfl⟩
def impl_IsPoly_c : ACode := (.seq (.region 0 [⟨some 3, .box 23 (.tmp 1), none, []⟩, ⟨some 4, .asg 0 (.const (.bool false)) 4, none, []⟩] false) (.seq (.region 1 [⟨some 5, .mov (.tmp 0), none, []⟩, ⟨some 6, .call 0 (.func 59) [(.tmp 5)], none, []⟩, ⟨some 7, .mov (.tmp 6), none, []⟩, ⟨some 8, .mov (.tmp 0), some (7, true), []⟩, ⟨some 9, .load 23 (.tmp 3), some (7, true), []⟩, ⟨some 10, .call 0 (.func 106) [(.tmp 8), (.tmp 9)], some (7, true), []⟩, ⟨some 11, .pick (.tmp 7) (.tmp 10) (.const (.bool false)), none, []⟩, ⟨some 4, .asg 0 (.tmp 11) 4, none, []⟩] false) .ret))
def impl_IsPoly_L : Live := [(0, [0, 1]), (1, [0, 3])]
theorem impl_IsPoly_body : Try.f63.body = some (Try.f63.body.getD .skip) := by kernel_rfl
theorem impl_IsPoly_strip : strip [] (Try.f63.body.getD .skip) = impl_IsPoly_c := by kernel_rfl
noncomputable def impl_IsPoly (a0 : Int) (a1 : (Vec Int 64)) : Option Bool :=
  (Option.bind (impl_isPrime a0) fun r1 => (if r1 then (Option.bind (impl_isPoly a0 a1) fun r5 => (some r5)) else (some false)))
set_option maxHeartbeats 16000000 in
theorem impl_IsPoly_ok (a0 : Int) (a1 : (Vec Int 64)) (r : Bool) (h : impl_IsPoly a0 a1 = some r) : Den Try.prog 63 [(.int .i64 a0), (eA64u8 a1)] { r := (.bool r) } := by
  refine den_of (rs := [(.bool r)]) (ac := impl_IsPoly_c) (L := impl_IsPoly_L) (n := 12) (m := []) good Try.func63 impl_IsPoly_body (by kernel_rfl) Try.ntmps63 rfl rfl impl_IsPoly_strip rfl rfl ?_
  refine a_st (σ' := ⟨[(0, (.int .i64 a0)), (1, (eA64u8 a1))], []⟩) rfl ?_
  unfold impl_IsPoly_c
  refine a_seq ?_
  refine a_region ?_
  refine a_val (v := (.own 1300 [] [])) (u := [(1300, some ⟨(eA64u8 a1), false⟩)]) rfl trivial rfl ?_
  refine a_val (v := (.bool false)) (u := []) rfl trivial rfl ?_
  refine a_nil ?_
  refine a_next (σ' := ⟨[(0, (.int .i64 a0)), (3, (.own 3 [] []))], [(3, some ⟨(eA64u8 a1), false⟩)]⟩) rfl ?_
  refine a_seq ?_
  refine a_region ?_
  refine a_val (v := (.int .i64 a0)) (u := []) rfl trivial rfl ?_
  obtain ⟨r1, hr2, h⟩ := bind_some h
  refine a_call (args := [(.int .i64 a0)]) (u := []) (r := (.bool r1)) rfl rfl (impl_isPrime_ok a0 r1 hr2) rfl ?_
  refine a_val (v := (.bool r1)) (u := []) rfl trivial rfl ?_
  cases hb3 : r1
  · have h := ite_f hb3 h
    refine a_gskip rfl ?_
    refine a_gskip rfl ?_
    refine a_gskip rfl ?_
    refine a_val (v := (.bool false)) (u := []) rfl trivial rfl ?_
    refine a_val (v := (.bool false)) (u := []) rfl trivial rfl ?_
    refine a_nil ?_
    refine a_next rfl ?_
    refine a_ret ?_
    refine ⟨.inr rfl, ?_⟩
    rw [Try.results63]
    cases h
    exact ⟨_, _, _, _, _, rfl, trivial, .inl ⟨rfl, .inl rfl⟩, rfl, rfl⟩
  · have h := ite_t hb3 h
    refine a_gval rfl (v := (.int .i64 a0)) (u := []) rfl trivial rfl ?_
    have hl4 : LdOk [] (eA64u8 a1) [] 64 true (eA64u8 a1) := (.nil rfl rfl rfl)
    refine a_gval rfl (v := (eA64u8 a1)) (u := []) (ld_own (i := ⟨.arr 64 5, 64, 64, (eA64u8 (vrep 64 (0 : Int)))⟩) rfl rfl rfl hl4) hl4.c rfl ?_
    obtain ⟨r5, hr6, h⟩ := bind_some h
    refine a_gcall rfl (args := [(.int .i64 a0), (eA64u8 a1)]) (u := []) (r := (.bool r5)) rfl rfl (impl_isPoly_ok a0 a1 r5 hr6) rfl ?_
    refine a_val (v := (.bool r5)) (u := []) rfl trivial rfl ?_
    refine a_val (v := (.bool r5)) (u := []) rfl trivial rfl ?_
    refine a_nil ?_
    refine a_next rfl ?_
    refine a_ret ?_
    refine ⟨.inr rfl, ?_⟩
    rw [Try.results63]
    cases h
    exact ⟨_, _, _, _, _, rfl, trivial, .inl ⟨rfl, .inl rfl⟩, rfl, rfl⟩
def impl_row_trimmed_c : ACode := (.seq (.region 0 [⟨some 2, .asg 1 (.const (.slice none 0 0)) 66, none, []⟩] false) (.seq (.region 1 [⟨some 4, .mov (.tmp 0), none, []⟩, ⟨some 5, .blt 0 .len [(.tmp 4)] [66], none, []⟩, ⟨some 3, .asg 0 (.tmp 5) 3, none, []⟩] false) (.seq (.block 0 (.loop (.seq (.seq (.region 2 [⟨some 6, .mov (.tmp 3), none, []⟩, ⟨some 7, .bin .gtr 3 (.tmp 6) (.const (.int .i64 0)), none, []⟩, ⟨some 8, .mov (.tmp 7), none, []⟩, ⟨some 9, .mov (.tmp 0), some (8, true), []⟩, ⟨some 10, .mov (.tmp 3), some (8, true), []⟩, ⟨some 11, .bin .sub 3 (.tmp 10) (.const (.int .i64 1)), some (8, true), []⟩, ⟨some 12, .indexAddr 66 (.tmp 9) (.tmp 11), some (8, true), []⟩, ⟨some 13, .load 2 (.tmp 12), some (8, true), []⟩, ⟨some 14, .bin .eql 2 (.tmp 13) (.const (.int .i64 0)), some (8, true), []⟩, ⟨some 15, .pick (.tmp 8) (.tmp 14) (.const (.bool false)), none, []⟩] false) (.cond (.tmp 15) .skip (.exit 0))) (.block 1 (.region 3 [⟨some 16, .mov (.tmp 3), none, []⟩, ⟨some 17, .bin .sub 3 (.tmp 16) (.const (.int .i64 1)), none, []⟩, ⟨some 3, .asg 0 (.tmp 17) 3, none, []⟩] false))))) (.seq (.region 4 [⟨some 18, .mov (.tmp 0), none, []⟩, ⟨some 19, .mov (.tmp 3), none, []⟩, ⟨some 20, .mov (.tmp 3), none, []⟩, ⟨some 21, .slice 66 (.tmp 18) none (some (.tmp 19)) (some (.tmp 20)), none, []⟩, ⟨some 2, .asg 1 (.tmp 21) 66, none, []⟩] false) .ret))))
def impl_row_trimmed_L : Live := [(0, [0]), (1, [0]), (2, [0, 3]), (3, [0, 3]), (4, [0, 3]), (100015, [0, 3, 15])]
theorem impl_row_trimmed_body : Try.f111.body = some (Try.f111.body.getD .skip) := by kernel_rfl
theorem impl_row_trimmed_strip : strip [(2, 1)] (Try.f111.body.getD .skip) = impl_row_trimmed_c := by kernel_rfl
noncomputable def impl_row_trimmed_l1 (a0 : (List Int)) (x62 : Int) : Option (Int ⊕ Int) :=
  (Option.bind ((if (decide (x62 > 0)) then (ifp (0 ≤ IntKind.i64.wrap (x62 - 1) ∧ IntKind.i64.wrap (x62 - 1) < ((a0.length : Nat) : Int)) ((some ((((rd a0 (IntKind.i64.wrap (x62 - 1)).toNat)) == 0))))) else (some false))) fun x80 => (if x80 then (some (.inl (IntKind.i64.wrap (x62 - 1)))) else (some (.inr x62))))
noncomputable def impl_row_trimmed (a0 : (List Int)) : Option (List Int) :=
  (Option.bind ((loopM (fun s : Int => impl_row_trimmed_l1 a0 s) (a0.length : Int))) fun x43 => (ifp (0 ≤ x43 ∧ x43 ≤ (a0.length : Int)) ((some (a0.take x43.toNat)))))
set_option maxHeartbeats 16000000 in
theorem impl_row_trimmed_ok (a0 : (List Int)) (r : (List Int)) (h : impl_row_trimmed a0 = some r) : Den Try.prog 111 [(eSi64 a0)] { r := (eSi64 r) } := by
  refine den_of (rs := [(eSi64 r)]) (ac := impl_row_trimmed_c) (L := impl_row_trimmed_L) (n := 22) (m := [(2, 1)]) good Try.func111 impl_row_trimmed_body (by kernel_rfl) Try.ntmps111 rfl rfl impl_row_trimmed_strip rfl rfl ?_
  refine a_st (σ' := ⟨[(0, (eSi64 a0))], []⟩) rfl ?_
  unfold impl_row_trimmed_c
  refine a_seq ?_
  refine a_region ?_
  refine a_val (v := (eSi64 ([]))) (u := []) rfl trivial rfl ?_
  refine a_nil ?_
  refine a_next (σ' := ⟨[(0, (eSi64 a0))], []⟩) rfl ?_
  refine a_seq ?_
  refine a_region ?_
  refine a_val (v := (eSi64 a0)) (u := []) rfl trivial rfl ?_
  refine a_val (v := (.int .i64 (a0.length : Int))) (u := []) (len_run rfl rfl) trivial rfl ?_
  refine a_val (v := (.int .i64 (a0.length : Int))) (u := []) rfl trivial rfl ?_
  refine a_nil ?_
  refine a_next (σ' := ⟨[(0, (eSi64 a0)), (3, (.int .i64 (a0.length : Int)))], []⟩) rfl ?_
  obtain ⟨y44, hy45, hk46⟩ := bind_some h
  clear h
  refine a_join (emb := fun (s : Int) => ⟨[(0, (eSi64 a0)), (3, (.int .i64 s))], []⟩) (pre := fun s => s = y44) ?_ ?_
  · rintro x43 rfl
    have h := hk46
    refine a_st (σ' := ⟨[(0, (eSi64 a0)), (3, (.int .i64 x43))], []⟩) rfl ?_
    refine a_seq ?_
    refine a_region ?_
    refine a_val (v := (eSi64 a0)) (u := []) rfl trivial rfl ?_
    refine a_val (v := (.int .i64 x43)) (u := []) rfl trivial rfl ?_
    refine a_val (v := (.int .i64 x43)) (u := []) rfl trivial rfl ?_
    obtain ⟨hc89, h⟩ := ifp_some h
    refine a_val (v := (.sl 1 true ((a0.take x43.toNat).map (AV.int .i64)))) (u := []) (take3_run (f := (AV.int .i64)) (l := a0) (i := ⟨.int .i64, 1, 8, (.int .i64 0)⟩) rfl rfl rfl rfl (fun _ => rfl)) ⟨hc89.1, lmap_le hc89.2, rfl⟩ rfl ?_
    refine a_val (v := (eSi64 (a0.take x43.toNat))) (u := []) (asg_tight (i := ⟨.int .i64, 1, 8, (.int .i64 0)⟩) (f := (AV.int .i64)) (l := (a0.take x43.toNat)) rfl rfl rfl) trivial rfl ?_
    refine a_nil ?_
    refine a_next rfl ?_
    refine a_ret ?_
    refine ⟨.inr rfl, ?_⟩
    rw [Try.results111]
    cases h
    exact ⟨_, _, _, _, _, rfl, trivial, .inl ⟨rfl, .inl rfl⟩, rfl, rfl⟩
  · have h := hy45
    refine a_block ?_
    refine a_loop (emb := fun (s : Int) => ⟨[(0, (eSi64 a0)), (3, (.int .i64 s))], []⟩) (body := (fun s : Int => impl_row_trimmed_l1 a0 s)) (G := fun q => some q = some y44) h rfl ?_ rfl
    rintro X74 x62 x75 h hX76
    have h : impl_row_trimmed_l1 a0 x62 = some x75 := h
    refine a_st (σ' := ⟨[(0, (eSi64 a0)), (3, (.int .i64 x62))], []⟩) rfl ?_
    refine a_seq ?_
    obtain ⟨y81, hy82, hk83⟩ := bind_some h
    clear h
    refine a_join (emb := fun (s : Bool) => ⟨[(0, (eSi64 a0)), (3, (.int .i64 x62)), (15, (.bool s))], []⟩) (pre := fun s => s = y81) ?_ ?_
    · rintro x80 rfl
      have h := hk83
      refine a_st (σ' := ⟨[(0, (eSi64 a0)), (3, (.int .i64 x62)), (15, (.bool x80))], []⟩) rfl ?_
      cases hb87 : x80
      · have h := ite_f hb87 h
        refine a_cond_f rfl ?_
        refine a_exit ?_
        refine t_exit ?_
        cases h
        have h := hX76
        refine t_exit ?_
        refine b_exit ?_
        exact j_leaf x62 (Option.some.inj h) rfl
      · have h := ite_t hb87 h
        refine a_cond_t rfl ?_
        refine a_skip ?_
        refine a_next (σ' := ⟨[(0, (eSi64 a0)), (3, (.int .i64 x62))], []⟩) rfl ?_
        refine a_block ?_
        refine a_region ?_
        refine a_val (v := (.int .i64 x62)) (u := []) rfl trivial rfl ?_
        refine a_val (v := (.int .i64 (IntKind.i64.wrap (x62 - 1)))) (u := []) rfl trivial rfl ?_
        refine a_val (v := (.int .i64 (IntKind.i64.wrap (x62 - 1)))) (u := []) rfl trivial rfl ?_
        refine a_nil ?_
        refine b_norm ?_
        cases h
        exact a_again rfl hX76
    · have h := hy82
      refine a_region ?_
      refine a_val (v := (.int .i64 x62)) (u := []) rfl trivial rfl ?_
      refine a_val (v := (.bool ((decide (x62 > 0))))) (u := []) rfl trivial rfl ?_
      refine a_val (v := (.bool ((decide (x62 > 0))))) (u := []) rfl trivial rfl ?_
      cases hb84 : (decide (x62 > 0))
      · have h := ite_f hb84 h
        refine a_gskip rfl ?_
        refine a_gskip rfl ?_
        refine a_gskip rfl ?_
        refine a_gskip rfl ?_
        refine a_gskip rfl ?_
        refine a_gskip rfl ?_
        refine a_val (v := (.bool false)) (u := []) rfl trivial rfl ?_
        refine a_nil ?_
        exact j_leaf false (Option.some.inj h) rfl
      · have h := ite_t hb84 h
        refine a_gval rfl (v := (eSi64 a0)) (u := []) rfl trivial rfl ?_
        refine a_gval rfl (v := (.int .i64 x62)) (u := []) rfl trivial rfl ?_
        refine a_gval rfl (v := (.int .i64 (IntKind.i64.wrap (x62 - 1)))) (u := []) rfl trivial rfl ?_
        obtain ⟨hc85, h⟩ := ifp_some h
        refine a_gval rfl (v := (.ref (.row 1 (a0.map (AV.int .i64))) [(IntKind.i64.wrap (x62 - 1)).toNat] [(IntKind.i64.wrap (x62 - 1)).toNat * 1])) (u := []) rfl (lmap hc85) rfl ?_
        have hl86 : LdOk [(IntKind.i64.wrap (x62 - 1)).toNat] (.row 1 (a0.map (AV.int .i64))) [(IntKind.i64.wrap (x62 - 1)).toNat * 1] 1 false (.int .i64 ((rd a0 (IntKind.i64.wrap (x62 - 1)).toNat))) := (.row (llt hc85) rfl (.nil rfl rfl rfl))
        refine a_gval rfl (v := (.int .i64 ((rd a0 (IntKind.i64.wrap (x62 - 1)).toNat)))) (u := []) (ld_ref (i := ⟨.int .i64, 1, 8, (.int .i64 0)⟩) rfl rfl hl86) hl86.c rfl ?_
        refine a_gval rfl (v := (.bool ((((rd a0 (IntKind.i64.wrap (x62 - 1)).toNat)) == 0)))) (u := []) rfl trivial rfl ?_
        refine a_val (v := (.bool ((((rd a0 (IntKind.i64.wrap (x62 - 1)).toNat)) == 0)))) (u := []) rfl trivial rfl ?_
        refine a_nil ?_
        exact j_leaf ((((rd a0 (IntKind.i64.wrap (x62 - 1)).toNat)) == 0)) (Option.some.inj h) rfl
def impl_rowOf_c : ACode := (.seq (.region 0 [⟨some 1, .box 23 (.tmp 0), none, []⟩, ⟨some 2, .asg 1 (.const (.slice none 0 0)) 66, none, []⟩] false) (.seq (.region 1 [⟨some 3, .asg 2 (.const (.slice none 0 0)) 66, none, []⟩] false) (.seq (.seq (.region 2 [⟨some 6, .load 23 (.tmp 1), none, []⟩, ⟨some 7, .mov (.const (.int .i64 0)), none, []⟩] false) (.block 0 (.loop (.seq (.region 3 [⟨some 8, .bin .lss 3 (.tmp 7) (.const (.int .i64 64)), none, []⟩] false) (.seq (.cond (.tmp 8) .skip (.exit 0)) (.seq (.block 1 (.seq (.region 4 [⟨some 9, .index 23 (.tmp 6) (.tmp 7), none, []⟩, ⟨some 5, .asg 0 (.tmp 9) 5, none, []⟩] false) (.region 5 [⟨some 10, .mov (.tmp 3), none, []⟩, ⟨some 11, .mov (.tmp 5), none, []⟩, ⟨some 12, .conv 5 2 (.tmp 11), none, []⟩, ⟨some 13, .bslice 66 1 [(0, (.tmp 12))], none, []⟩, ⟨some 14, .blt 0 .append [(.tmp 10), (.tmp 13)] [66, 66], none, []⟩, ⟨some 3, .asg 2 (.tmp 14) 66, none, []⟩] false))) (.region 6 [⟨some 15, .bin .add 3 (.tmp 7) (.const (.int .i64 1)), none, []⟩, ⟨some 7, .mov (.tmp 15), none, []⟩] false))))))) (.seq (.region 7 [⟨some 16, .mov (.tmp 3), none, []⟩, ⟨some 17, .call 0 (.func 111) [(.tmp 16)], none, []⟩, ⟨some 2, .asg 1 (.tmp 17) 66, none, []⟩] false) .ret))))
def impl_rowOf_L : Live := [(0, [0]), (1, [1]), (2, [1, 3]), (3, [3, 6, 7]), (4, [3, 6, 7]), (5, [3, 5, 6, 7]), (6, [3, 6, 7]), (7, [3]), (100008, [3, 6, 7, 8])]
theorem impl_rowOf_body : Try.f76.body = some (Try.f76.body.getD .skip) := by kernel_rfl
theorem impl_rowOf_strip : strip [(2, 1), (3, 2)] (Try.f76.body.getD .skip) = impl_rowOf_c := by kernel_rfl
noncomputable def impl_rowOf_l1 (a0 : (Vec Int 64)) (x25 : Int) (x26 : (List Int)) : Option ((Int × (List Int)) ⊕ (List Int)) :=
  (if (decide (x25 < 64)) then (ifp (0 ≤ x25 ∧ x25 < ((64 : Nat) : Int)) ((ifp ((x26.length + ([IntKind.i64.wrap (rd a0.1 x25.toNat)] : List Int).length) * 8 ≤ 140737488355328) ((some (.inl ((IntKind.i64.wrap (x25 + 1), (x26 ++ ([IntKind.i64.wrap (rd a0.1 x25.toNat)])))))))))) else (some (.inr x26)))
noncomputable def impl_rowOf (a0 : (Vec Int 64)) : Option (List Int) :=
  (Option.bind ((loopM (fun s : (Int × (List Int)) => impl_rowOf_l1 a0 s.1 s.2) (0, []))) fun x17 => (Option.bind (impl_row_trimmed x17) fun r37 => (some r37)))
set_option maxHeartbeats 16000000 in
theorem impl_rowOf_ok (a0 : (Vec Int 64)) (r : (List Int)) (h : impl_rowOf a0 = some r) : Den Try.prog 76 [(eA64u8 a0)] { r := (eSi64 r) } := by
  refine den_of (rs := [(eSi64 r)]) (ac := impl_rowOf_c) (L := impl_rowOf_L) (n := 18) (m := [(2, 1), (3, 2)]) good Try.func76 impl_rowOf_body (by kernel_rfl) Try.ntmps76 rfl rfl impl_rowOf_strip rfl rfl ?_
  refine a_st (σ' := ⟨[(0, (eA64u8 a0))], []⟩) rfl ?_
  unfold impl_rowOf_c
  refine a_seq ?_
  refine a_region ?_
  refine a_val (v := (.own 1100 [] [])) (u := [(1100, some ⟨(eA64u8 a0), false⟩)]) rfl trivial rfl ?_
  refine a_val (v := (eSi64 ([]))) (u := []) rfl trivial rfl ?_
  refine a_nil ?_
  refine a_next (σ' := ⟨[(1, (.own 1 [] []))], [(1, some ⟨(eA64u8 a0), false⟩)]⟩) rfl ?_
  refine a_seq ?_
  refine a_region ?_
  refine a_val (v := (.osl 1300)) (u := [(1300, some ⟨(.row 1 (([]).map (AV.int .i64))), false⟩)]) rfl trivial rfl ?_
  refine a_nil ?_
  refine a_next (σ' := ⟨[(1, (.own 1 [] [])), (3, (.osl 3))], [(1, some ⟨(eA64u8 a0), false⟩), (3, some ⟨(.row 1 (([]).map (AV.int .i64))), false⟩)]⟩) rfl ?_
  obtain ⟨y18, hy19, hk20⟩ := bind_some h
  clear h
  refine a_join (emb := fun (s : (List Int)) => ⟨[(3, (.osl 3))], [(3, some ⟨(.row 1 (s.map (AV.int .i64))), false⟩)]⟩) (pre := fun s => s = y18) ?_ ?_
  · rintro x17 rfl
    have h := hk20
    refine a_st (σ' := ⟨[(3, (.osl 3))], [(3, some ⟨(.row 1 (x17.map (AV.int .i64))), false⟩)]⟩) rfl ?_
    refine a_seq ?_
    refine a_region ?_
    refine a_val (v := (.osl 3)) (u := []) rfl trivial rfl ?_
    obtain ⟨r37, hr38, h⟩ := bind_some h
    refine a_call (args := [(eSi64 x17)]) (u := [(3, some ⟨(.row 1 (x17.map (AV.int .i64))), true⟩)]) (r := (eSi64 r37)) rfl rfl (impl_row_trimmed_ok x17 r37 hr38) rfl ?_
    refine a_val (v := (eSi64 r37)) (u := []) rfl trivial rfl ?_
    refine a_nil ?_
    refine a_next rfl ?_
    refine a_ret ?_
    refine ⟨.inr rfl, ?_⟩
    rw [Try.results76]
    cases h
    exact ⟨_, _, _, _, _, rfl, trivial, .inl ⟨rfl, .inl rfl⟩, rfl, rfl⟩
  · have h := hy19
    refine a_seq ?_
    refine a_region ?_
    have hl21 : LdOk [] (eA64u8 a0) [] 64 true (eA64u8 a0) := (.nil rfl rfl rfl)
    refine a_val (v := (eA64u8 a0)) (u := []) (ld_own (i := ⟨.arr 64 5, 64, 64, (eA64u8 (vrep 64 (0 : Int)))⟩) rfl rfl rfl hl21) hl21.c rfl ?_
    refine a_val (v := (.int .i64 0)) (u := []) rfl trivial rfl ?_
    refine a_nil ?_
    refine a_next (σ' := ⟨[(3, (.osl 3)), (6, (eA64u8 a0)), (7, (.int .i64 0))], [(3, some ⟨(.row 1 (([]).map (AV.int .i64))), false⟩)]⟩) rfl ?_
    refine a_block ?_
    refine a_loop (emb := fun (s : (Int × (List Int))) => ⟨[(3, (.osl 3)), (6, (eA64u8 a0)), (7, (.int .i64 s.1))], [(3, some ⟨(.row 1 (s.2.map (AV.int .i64))), false⟩)]⟩) (body := (fun s : (Int × (List Int)) => impl_rowOf_l1 a0 s.1 s.2)) (G := fun q => some q = some y18) h rfl ?_ rfl
    rintro X30 ⟨x25, x26⟩ x31 h hX32
    have h : impl_rowOf_l1 a0 x25 x26 = some x31 := h
    refine a_st (σ' := ⟨[(3, (.osl 3)), (6, (eA64u8 a0)), (7, (.int .i64 x25))], [(3, some ⟨(.row 1 (x26.map (AV.int .i64))), false⟩)]⟩) rfl ?_
    refine a_seq ?_
    refine a_region ?_
    refine a_val (v := (.bool ((decide (x25 < 64))))) (u := []) rfl trivial rfl ?_
    refine a_nil ?_
    refine a_next (σ' := ⟨[(3, (.osl 3)), (6, (eA64u8 a0)), (7, (.int .i64 x25)), (8, (.bool ((decide (x25 < 64)))))], [(3, some ⟨(.row 1 (x26.map (AV.int .i64))), false⟩)]⟩) rfl ?_
    refine a_seq ?_
    cases hb33 : (decide (x25 < 64))
    · have h := ite_f hb33 h
      refine a_cond_f rfl ?_
      refine a_exit ?_
      refine t_exit ?_
      cases h
      have h := hX32
      refine t_exit ?_
      refine b_exit ?_
      exact j_leaf x26 (Option.some.inj h) rfl
    · have h := ite_t hb33 h
      refine a_cond_t rfl ?_
      refine a_skip ?_
      refine a_next (σ' := ⟨[(3, (.osl 3)), (6, (eA64u8 a0)), (7, (.int .i64 x25))], [(3, some ⟨(.row 1 (x26.map (AV.int .i64))), false⟩)]⟩) rfl ?_
      refine a_seq ?_
      refine a_block ?_
      refine a_seq ?_
      refine a_region ?_
      obtain ⟨hc34, h⟩ := ifp_some h
      refine a_val (v := (.int .u8 (rd a0.1 x25.toNat))) (u := []) (ix_run (i := ⟨.int .u8, 1, 1, (.int .u8 0)⟩) (f := (AV.int .u8)) rfl rfl rfl rfl (vlt a0 hc34)) ⟨hc34.1, hc34.2, rfl, rfl, rfl, rfl⟩ rfl ?_
      refine a_val (v := (.int .u8 (rd a0.1 x25.toNat))) (u := []) rfl trivial rfl ?_
      refine a_nil ?_
      refine a_next (σ' := ⟨[(3, (.osl 3)), (5, (.int .u8 (rd a0.1 x25.toNat))), (6, (eA64u8 a0)), (7, (.int .i64 x25))], [(3, some ⟨(.row 1 (x26.map (AV.int .i64))), false⟩)]⟩) rfl ?_
      refine a_region ?_
      refine a_val (v := (.osl 3)) (u := []) rfl trivial rfl ?_
      refine a_val (v := (.int .u8 (rd a0.1 x25.toNat))) (u := []) rfl trivial rfl ?_
      refine a_val (v := (.int .i64 (IntKind.i64.wrap (rd a0.1 x25.toNat)))) (u := []) rfl trivial rfl ?_
      refine a_val (v := (.sl 1 true (([IntKind.i64.wrap (rd a0.1 x25.toNat)]).map (AV.int .i64)))) (u := []) rfl ⟨(Nat.le_of_ble_eq_true rfl), (Nat.le_of_ble_eq_true rfl), (all_cons ⟨(Nat.le_of_ble_eq_true rfl), rfl⟩ all_nil)⟩ rfl ?_
      obtain ⟨hc35, h⟩ := ifp_some h
      refine a_val (v := (.osl 2400)) (u := [(2400, some ⟨(.row 1 (((x26 ++ ([IntKind.i64.wrap (rd a0.1 x25.toNat)]))).map (AV.int .i64))), false⟩), (3, none)]) (app_run (i := ⟨.int .i64, 1, 8, (.int .i64 0)⟩) (f := (AV.int .i64)) (l := x26) (l2 := [IntKind.i64.wrap (rd a0.1 x25.toNat)]) rfl rfl rfl rfl (fun _ => rfl) rfl rfl) (app_c (f := (AV.int .i64)) (s := 1) (sz := 1) (by' := 8) (u := []) (id := 3) hc35 (.inr rfl) rfl rfl rfl) rfl ?_
      refine a_val (v := (.osl 2400)) (u := []) rfl trivial rfl ?_
      refine a_nil ?_
      refine b_norm ?_
      refine a_next (σ' := ⟨[(3, (.osl 3)), (6, (eA64u8 a0)), (7, (.int .i64 x25))], [(3, some ⟨(.row 1 (((x26 ++ ([IntKind.i64.wrap (rd a0.1 x25.toNat)]))).map (AV.int .i64))), false⟩)]⟩) rfl ?_
      refine a_region ?_
      refine a_val (v := (.int .i64 (IntKind.i64.wrap (x25 + 1)))) (u := []) rfl trivial rfl ?_
      refine a_val (v := (.int .i64 (IntKind.i64.wrap (x25 + 1)))) (u := []) rfl trivial rfl ?_
      refine a_nil ?_
      cases h
      exact a_again rfl hX32
def impl_row_lead_c : ACode := (.seq (.region 0 [⟨some 2, .asg 0 (.const (.int .i64 0)) 2, none, []⟩] false) (.seq (.seq (.region 1 [⟨some 3, .mov (.tmp 0), none, []⟩, ⟨some 4, .blt 0 .len [(.tmp 3)] [66], none, []⟩, ⟨some 5, .bin .eql 3 (.tmp 4) (.const (.int .i64 0)), none, []⟩] false) (.cond (.tmp 5) (.seq (.region 2 [⟨some 2, .asg 0 (.const (.int .i64 0)) 2, none, []⟩] false) .ret) .skip)) (.seq (.region 3 [⟨some 6, .mov (.tmp 0), none, []⟩, ⟨some 7, .mov (.tmp 0), none, []⟩, ⟨some 8, .blt 0 .len [(.tmp 7)] [66], none, []⟩, ⟨some 9, .bin .sub 3 (.tmp 8) (.const (.int .i64 1)), none, []⟩, ⟨some 10, .indexAddr 66 (.tmp 6) (.tmp 9), none, []⟩, ⟨some 11, .load 2 (.tmp 10), none, []⟩, ⟨some 2, .asg 0 (.tmp 11) 2, none, []⟩] false) .ret)))
def impl_row_lead_L : Live := [(0, [0]), (1, [0]), (2, []), (3, [0]), (100005, [0, 5])]
theorem impl_row_lead_body : Try.f107.body = some (Try.f107.body.getD .skip) := by kernel_rfl
theorem impl_row_lead_strip : strip [] (Try.f107.body.getD .skip) = impl_row_lead_c := by kernel_rfl
noncomputable def impl_row_lead (a0 : (List Int)) : Option Int :=
  (if ((a0.length : Int) == 0) then (some 0) else (ifp (0 ≤ IntKind.i64.wrap ((a0.length : Int) - 1) ∧ IntKind.i64.wrap ((a0.length : Int) - 1) < ((a0.length : Nat) : Int)) ((some ((rd a0 (IntKind.i64.wrap ((a0.length : Int) - 1)).toNat))))))
set_option maxHeartbeats 16000000 in
theorem impl_row_lead_ok (a0 : (List Int)) (r : Int) (h : impl_row_lead a0 = some r) : Den Try.prog 107 [(eSi64 a0)] { r := (.int .i64 r) } := by
  refine den_of (rs := [(.int .i64 r)]) (ac := impl_row_lead_c) (L := impl_row_lead_L) (n := 12) (m := []) good Try.func107 impl_row_lead_body (by kernel_rfl) Try.ntmps107 rfl rfl impl_row_lead_strip rfl rfl ?_
  refine a_st (σ' := ⟨[(0, (eSi64 a0))], []⟩) rfl ?_
  unfold impl_row_lead_c
  refine a_seq ?_
  refine a_region ?_
  refine a_val (v := (.int .i64 0)) (u := []) rfl trivial rfl ?_
  refine a_nil ?_
  refine a_next (σ' := ⟨[(0, (eSi64 a0))], []⟩) rfl ?_
  refine a_seq ?_
  refine a_seq ?_
  refine a_region ?_
  refine a_val (v := (eSi64 a0)) (u := []) rfl trivial rfl ?_
  refine a_val (v := (.int .i64 (a0.length : Int))) (u := []) (len_run rfl rfl) trivial rfl ?_
  refine a_val (v := (.bool (((a0.length : Int) == 0)))) (u := []) rfl trivial rfl ?_
  refine a_nil ?_
  refine a_next (σ' := ⟨[(0, (eSi64 a0)), (5, (.bool (((a0.length : Int) == 0))))], []⟩) rfl ?_
  cases hb1 : ((a0.length : Int) == 0)
  · have h := ite_f hb1 h
    refine a_cond_f rfl ?_
    refine a_skip ?_
    refine a_next (σ' := ⟨[(0, (eSi64 a0))], []⟩) rfl ?_
    refine a_seq ?_
    refine a_region ?_
    refine a_val (v := (eSi64 a0)) (u := []) rfl trivial rfl ?_
    refine a_val (v := (eSi64 a0)) (u := []) rfl trivial rfl ?_
    refine a_val (v := (.int .i64 (a0.length : Int))) (u := []) (len_run rfl rfl) trivial rfl ?_
    refine a_val (v := (.int .i64 (IntKind.i64.wrap ((a0.length : Int) - 1)))) (u := []) rfl trivial rfl ?_
    obtain ⟨hc2, h⟩ := ifp_some h
    refine a_val (v := (.ref (.row 1 (a0.map (AV.int .i64))) [(IntKind.i64.wrap ((a0.length : Int) - 1)).toNat] [(IntKind.i64.wrap ((a0.length : Int) - 1)).toNat * 1])) (u := []) rfl (lmap hc2) rfl ?_
    have hl3 : LdOk [(IntKind.i64.wrap ((a0.length : Int) - 1)).toNat] (.row 1 (a0.map (AV.int .i64))) [(IntKind.i64.wrap ((a0.length : Int) - 1)).toNat * 1] 1 false (.int .i64 ((rd a0 (IntKind.i64.wrap ((a0.length : Int) - 1)).toNat))) := (.row (llt hc2) rfl (.nil rfl rfl rfl))
    refine a_val (v := (.int .i64 ((rd a0 (IntKind.i64.wrap ((a0.length : Int) - 1)).toNat)))) (u := []) (ld_ref (i := ⟨.int .i64, 1, 8, (.int .i64 0)⟩) rfl rfl hl3) hl3.c rfl ?_
    refine a_val (v := (.int .i64 ((rd a0 (IntKind.i64.wrap ((a0.length : Int) - 1)).toNat)))) (u := []) rfl trivial rfl ?_
    refine a_nil ?_
    refine a_next rfl ?_
    refine a_ret ?_
    refine ⟨.inr rfl, ?_⟩
    rw [Try.results107]
    cases h
    exact ⟨_, _, _, _, _, rfl, trivial, .inl ⟨rfl, .inl rfl⟩, rfl, rfl⟩
  · have h := ite_t hb1 h
    refine a_cond_t rfl ?_
    refine a_seq ?_
    refine a_region ?_
    refine a_val (v := (.int .i64 0)) (u := []) rfl trivial rfl ?_
    refine a_nil ?_
    refine a_next rfl ?_
    refine a_ret ?_
    refine t_ret ?_
    refine ⟨.inr rfl, ?_⟩
    rw [Try.results107]
    cases h
    exact ⟨_, _, _, _, _, rfl, trivial, .inl ⟨rfl, .inl rfl⟩, rfl, rfl⟩
def impl_isModulus_c : ACode := (.seq (.region 0 [⟨some 1, .box 23 (.tmp 0), none, []⟩, ⟨some 2, .asg 0 (.const (.bool false)) 4, none, []⟩] false) (.seq (.region 1 [⟨some 4, .load 23 (.tmp 1), none, []⟩, ⟨some 5, .call 0 (.func 76) [(.tmp 4)], none, []⟩, ⟨some 3, .asg 1 (.tmp 5) 66, none, []⟩] false) (.seq (.region 2 [⟨some 6, .mov (.tmp 3), none, []⟩, ⟨some 7, .call 0 (.func 107) [(.tmp 6)], none, []⟩, ⟨some 8, .bin .eql 2 (.tmp 7) (.const (.int .i64 1)), none, []⟩, ⟨some 9, .mov (.tmp 8), none, []⟩, ⟨some 10, .mov (.tmp 3), some (9, true), []⟩, ⟨some 11, .call 0 (.func 100) [(.tmp 10)], some (9, true), []⟩, ⟨some 12, .call 0 (.func 66) [(.tmp 11), (.const (.int .i64 1)), (.const (.int .i64 5))], some (9, true), []⟩, ⟨some 13, .pick (.tmp 9) (.tmp 12) (.const (.bool false)), none, []⟩, ⟨some 2, .asg 0 (.tmp 13) 4, none, []⟩] false) .ret)))
def impl_isModulus_L : Live := [(0, [0]), (1, [1]), (2, [3])]
theorem impl_isModulus_body : Try.f64.body = some (Try.f64.body.getD .skip) := by kernel_rfl
theorem impl_isModulus_strip : strip [(3, 1)] (Try.f64.body.getD .skip) = impl_isModulus_c := by kernel_rfl
noncomputable def impl_isModulus (a0 : (Vec Int 64)) : Option Bool :=
  (Option.bind (impl_rowOf a0) fun r2 => (Option.bind (impl_row_lead r2) fun r4 => (if (r4 == 1) then (Option.bind (impl_row_degree r2) fun r7 => (Option.bind (impl_within r7 1 5) fun r9 => (some r9))) else (some false))))
set_option maxHeartbeats 16000000 in
theorem impl_isModulus_ok (a0 : (Vec Int 64)) (r : Bool) (h : impl_isModulus a0 = some r) : Den Try.prog 64 [(eA64u8 a0)] { r := (.bool r) } := by
  refine den_of (rs := [(.bool r)]) (ac := impl_isModulus_c) (L := impl_isModulus_L) (n := 14) (m := [(3, 1)]) good Try.func64 impl_isModulus_body (by kernel_rfl) Try.ntmps64 rfl rfl impl_isModulus_strip rfl rfl ?_
  refine a_st (σ' := ⟨[(0, (eA64u8 a0))], []⟩) rfl ?_
  unfold impl_isModulus_c
  refine a_seq ?_
  refine a_region ?_
  refine a_val (v := (.own 1100 [] [])) (u := [(1100, some ⟨(eA64u8 a0), false⟩)]) rfl trivial rfl ?_
  refine a_val (v := (.bool false)) (u := []) rfl trivial rfl ?_
  refine a_nil ?_
  refine a_next (σ' := ⟨[(1, (.own 1 [] []))], [(1, some ⟨(eA64u8 a0), false⟩)]⟩) rfl ?_
  refine a_seq ?_
  refine a_region ?_
  have hl1 : LdOk [] (eA64u8 a0) [] 64 true (eA64u8 a0) := (.nil rfl rfl rfl)
  refine a_val (v := (eA64u8 a0)) (u := []) (ld_own (i := ⟨.arr 64 5, 64, 64, (eA64u8 (vrep 64 (0 : Int)))⟩) rfl rfl rfl hl1) hl1.c rfl ?_
  obtain ⟨r2, hr3, h⟩ := bind_some h
  refine a_call (args := [(eA64u8 a0)]) (u := []) (r := (eSi64 r2)) rfl rfl (impl_rowOf_ok a0 r2 hr3) rfl ?_
  refine a_val (v := (eSi64 r2)) (u := []) rfl trivial rfl ?_
  refine a_nil ?_
  refine a_next (σ' := ⟨[(3, (eSi64 r2))], []⟩) rfl ?_
  refine a_seq ?_
  refine a_region ?_
  refine a_val (v := (eSi64 r2)) (u := []) rfl trivial rfl ?_
  obtain ⟨r4, hr5, h⟩ := bind_some h
  refine a_call (args := [(eSi64 r2)]) (u := []) (r := (.int .i64 r4)) rfl rfl (impl_row_lead_ok r2 r4 hr5) rfl ?_
  refine a_val (v := (.bool (r4 == 1))) (u := []) rfl trivial rfl ?_
  refine a_val (v := (.bool (r4 == 1))) (u := []) rfl trivial rfl ?_
  cases hb6 : (r4 == 1)
  · have h := ite_f hb6 h
    refine a_gskip rfl ?_
    refine a_gskip rfl ?_
    refine a_gskip rfl ?_
    refine a_val (v := (.bool false)) (u := []) rfl trivial rfl ?_
    refine a_val (v := (.bool false)) (u := []) rfl trivial rfl ?_
    refine a_nil ?_
    refine a_next rfl ?_
    refine a_ret ?_
    refine ⟨.inr rfl, ?_⟩
    rw [Try.results64]
    cases h
    exact ⟨_, _, _, _, _, rfl, trivial, .inl ⟨rfl, .inl rfl⟩, rfl, rfl⟩
  · have h := ite_t hb6 h
    refine a_gval rfl (v := (eSi64 r2)) (u := []) rfl trivial rfl ?_
    obtain ⟨r7, hr8, h⟩ := bind_some h
    refine a_gcall rfl (args := [(eSi64 r2)]) (u := []) (r := (.int .i64 r7)) rfl rfl (impl_row_degree_ok r2 r7 hr8) rfl ?_
    obtain ⟨r9, hr10, h⟩ := bind_some h
    refine a_gcall rfl (args := [(.int .i64 r7), (.int .i64 1), (.int .i64 5)]) (u := []) (r := (.bool r9)) rfl rfl (impl_within_ok r7 1 5 r9 hr10) rfl ?_
    refine a_val (v := (.bool r9)) (u := []) rfl trivial rfl ?_
    refine a_val (v := (.bool r9)) (u := []) rfl trivial rfl ?_
    refine a_nil ?_
    refine a_next rfl ?_
    refine a_ret ?_
    refine ⟨.inr rfl, ?_⟩
    rw [Try.results64]
    cases h
    exact ⟨_, _, _, _, _, rfl, trivial, .inl ⟨rfl, .inl rfl⟩, rfl, rfl⟩
def impl_IsDesk_c : ACode := (.seq (.region 0 [⟨some 1, .box 25 (.tmp 0), none, []⟩, ⟨some 2, .asg 0 (.const (.bool false)) 4, none, []⟩] false) (.seq (.region 1 [⟨some 3, .fieldAddr 25 (.tmp 1) 0, none, []⟩, ⟨some 4, .load 2 (.tmp 3), none, []⟩, ⟨some 5, .fieldAddr 25 (.tmp 1) 1, none, []⟩, ⟨some 6, .load 23 (.tmp 5), none, []⟩, ⟨some 7, .call 0 (.func 63) [(.tmp 4), (.tmp 6)], none, []⟩, ⟨some 8, .mov (.tmp 7), none, []⟩, ⟨some 9, .fieldAddr 25 (.tmp 1) 0, some (8, true), []⟩, ⟨some 10, .load 2 (.tmp 9), some (8, true), []⟩, ⟨some 11, .fieldAddr 25 (.tmp 1) 2, some (8, true), []⟩, ⟨some 12, .load 23 (.tmp 11), some (8, true), []⟩, ⟨some 13, .call 0 (.func 63) [(.tmp 10), (.tmp 12)], some (8, true), []⟩, ⟨some 14, .pick (.tmp 8) (.tmp 13) (.const (.bool false)), none, []⟩, ⟨some 15, .mov (.tmp 14), none, []⟩, ⟨some 16, .fieldAddr 25 (.tmp 1) 0, some (15, true), []⟩, ⟨some 17, .load 2 (.tmp 16), some (15, true), []⟩, ⟨some 18, .fieldAddr 25 (.tmp 1) 3, some (15, true), []⟩, ⟨some 19, .load 23 (.tmp 18), some (15, true), []⟩, ⟨some 20, .call 0 (.func 63) [(.tmp 17), (.tmp 19)], some (15, true), []⟩, ⟨some 21, .pick (.tmp 15) (.tmp 20) (.const (.bool false)), none, []⟩, ⟨some 22, .mov (.tmp 21), none, []⟩, ⟨some 23, .fieldAddr 25 (.tmp 1) 3, some (22, true), []⟩, ⟨some 24, .load 23 (.tmp 23), some (22, true), []⟩, ⟨some 25, .call 0 (.func 64) [(.tmp 24)], some (22, true), []⟩, ⟨some 26, .pick (.tmp 22) (.tmp 25) (.const (.bool false)), none, []⟩, ⟨some 2, .asg 0 (.tmp 26) 4, none, []⟩] false) .ret))
def impl_IsDesk_L : Live := [(0, [0]), (1, [1])]
theorem impl_IsDesk_body : Try.f25.body = some (Try.f25.body.getD .skip) := by kernel_rfl
theorem impl_IsDesk_strip : strip [] (Try.f25.body.getD .skip) = impl_IsDesk_c := by kernel_rfl
noncomputable def impl_IsDesk (a0 : (Int × (Vec Int 64) × (Vec Int 64) × (Vec Int 64))) : Option Bool :=
  (Option.bind (impl_IsPoly a0.1 a0.2.1) fun r3 => (if r3 then (Option.bind (impl_IsPoly a0.1 a0.2.2.1) fun r8 => (if r8 then (Option.bind (impl_IsPoly a0.1 a0.2.2.2) fun r13 => (if r13 then (Option.bind (impl_isModulus a0.2.2.2) fun r17 => (some r17)) else (some false))) else (some false))) else (some false)))
set_option maxHeartbeats 16000000 in
theorem impl_IsDesk_ok (a0 : (Int × (Vec Int 64) × (Vec Int 64) × (Vec Int 64))) (r : Bool) (h : impl_IsDesk a0 = some r) : Den Try.prog 25 [(eT_i64_A64u8_A64u8_A64u8_Z a0)] { r := (.bool r) } := by
  refine den_of (rs := [(.bool r)]) (ac := impl_IsDesk_c) (L := impl_IsDesk_L) (n := 27) (m := []) good Try.func25 impl_IsDesk_body (by kernel_rfl) Try.ntmps25 rfl rfl impl_IsDesk_strip rfl rfl ?_
  refine a_st (σ' := ⟨[(0, (eT_i64_A64u8_A64u8_A64u8_Z a0))], []⟩) rfl ?_
  unfold impl_IsDesk_c
  refine a_seq ?_
  refine a_region ?_
  refine a_val (v := (.own 1100 [] [])) (u := [(1100, some ⟨(eT_i64_A64u8_A64u8_A64u8_Z a0), false⟩)]) rfl trivial rfl ?_
  refine a_val (v := (.bool false)) (u := []) rfl trivial rfl ?_
  refine a_nil ?_
  refine a_next (σ' := ⟨[(1, (.own 1 [] []))], [(1, some ⟨(eT_i64_A64u8_A64u8_A64u8_Z a0), false⟩)]⟩) rfl ?_
  refine a_seq ?_
  refine a_region ?_
  refine a_val (v := (.own 1 [0] [0])) (u := []) rfl (Nat.le_of_ble_eq_true rfl) rfl ?_
  have hl1 : LdOk [0] (eT_i64_A64u8_A64u8_A64u8_Z a0) [0] 1 false (.int .i64 a0.1) := (.fld rfl rfl rfl rfl (.nil rfl rfl rfl))
  refine a_val (v := (.int .i64 a0.1)) (u := []) (ld_own (i := ⟨.int .i64, 1, 8, (.int .i64 0)⟩) rfl rfl rfl hl1) hl1.c rfl ?_
  refine a_val (v := (.own 1 [1] [1])) (u := []) rfl (Nat.le_of_ble_eq_true rfl) rfl ?_
  have hl2 : LdOk [1] (eT_i64_A64u8_A64u8_A64u8_Z a0) [1] 64 true (eA64u8 a0.2.1) := (.fld rfl rfl rfl rfl (.nil rfl rfl rfl))
  refine a_val (v := (eA64u8 a0.2.1)) (u := []) (ld_own (i := ⟨.arr 64 5, 64, 64, (eA64u8 (vrep 64 (0 : Int)))⟩) rfl rfl rfl hl2) hl2.c rfl ?_
  obtain ⟨r3, hr4, h⟩ := bind_some h
  refine a_call (args := [(.int .i64 a0.1), (eA64u8 a0.2.1)]) (u := []) (r := (.bool r3)) rfl rfl (impl_IsPoly_ok a0.1 a0.2.1 r3 hr4) rfl ?_
  refine a_val (v := (.bool r3)) (u := []) rfl trivial rfl ?_
  cases hb5 : r3
  · have h := ite_f hb5 h
    refine a_gskip rfl ?_
    refine a_gskip rfl ?_
    refine a_gskip rfl ?_
    refine a_gskip rfl ?_
    refine a_gskip rfl ?_
    refine a_val (v := (.bool false)) (u := []) rfl trivial rfl ?_
    refine a_val (v := (.bool false)) (u := []) rfl trivial rfl ?_
    refine a_gskip rfl ?_
    refine a_gskip rfl ?_
    refine a_gskip rfl ?_
    refine a_gskip rfl ?_
    refine a_gskip rfl ?_
    refine a_val (v := (.bool false)) (u := []) rfl trivial rfl ?_
    refine a_val (v := (.bool false)) (u := []) rfl trivial rfl ?_
    refine a_gskip rfl ?_
    refine a_gskip rfl ?_
    refine a_gskip rfl ?_
    refine a_val (v := (.bool false)) (u := []) rfl trivial rfl ?_
    refine a_val (v := (.bool false)) (u := []) rfl trivial rfl ?_
    refine a_nil ?_
    refine a_next rfl ?_
    refine a_ret ?_
    refine ⟨.inr rfl, ?_⟩
    rw [Try.results25]
    cases h
    exact ⟨_, _, _, _, _, rfl, trivial, .inl ⟨rfl, .inl rfl⟩, rfl, rfl⟩
  · have h := ite_t hb5 h
    refine a_gval rfl (v := (.own 1 [0] [0])) (u := []) rfl (Nat.le_of_ble_eq_true rfl) rfl ?_
    have hl6 : LdOk [0] (eT_i64_A64u8_A64u8_A64u8_Z a0) [0] 1 false (.int .i64 a0.1) := (.fld rfl rfl rfl rfl (.nil rfl rfl rfl))
    refine a_gval rfl (v := (.int .i64 a0.1)) (u := []) (ld_own (i := ⟨.int .i64, 1, 8, (.int .i64 0)⟩) rfl rfl rfl hl6) hl6.c rfl ?_
    refine a_gval rfl (v := (.own 1 [2] [65])) (u := []) rfl (Nat.le_of_ble_eq_true rfl) rfl ?_
    have hl7 : LdOk [2] (eT_i64_A64u8_A64u8_A64u8_Z a0) [65] 64 true (eA64u8 a0.2.2.1) := (.fld rfl rfl rfl rfl (.nil rfl rfl rfl))
    refine a_gval rfl (v := (eA64u8 a0.2.2.1)) (u := []) (ld_own (i := ⟨.arr 64 5, 64, 64, (eA64u8 (vrep 64 (0 : Int)))⟩) rfl rfl rfl hl7) hl7.c rfl ?_
    obtain ⟨r8, hr9, h⟩ := bind_some h
    refine a_gcall rfl (args := [(.int .i64 a0.1), (eA64u8 a0.2.2.1)]) (u := []) (r := (.bool r8)) rfl rfl (impl_IsPoly_ok a0.1 a0.2.2.1 r8 hr9) rfl ?_
    refine a_val (v := (.bool r8)) (u := []) rfl trivial rfl ?_
    refine a_val (v := (.bool r8)) (u := []) rfl trivial rfl ?_
    cases hb10 : r8
    · have h := ite_f hb10 h
      refine a_gskip rfl ?_
      refine a_gskip rfl ?_
      refine a_gskip rfl ?_
      refine a_gskip rfl ?_
      refine a_gskip rfl ?_
      refine a_val (v := (.bool false)) (u := []) rfl trivial rfl ?_
      refine a_val (v := (.bool false)) (u := []) rfl trivial rfl ?_
      refine a_gskip rfl ?_
      refine a_gskip rfl ?_
      refine a_gskip rfl ?_
      refine a_val (v := (.bool false)) (u := []) rfl trivial rfl ?_
      refine a_val (v := (.bool false)) (u := []) rfl trivial rfl ?_
      refine a_nil ?_
      refine a_next rfl ?_
      refine a_ret ?_
      refine ⟨.inr rfl, ?_⟩
      rw [Try.results25]
      cases h
      exact ⟨_, _, _, _, _, rfl, trivial, .inl ⟨rfl, .inl rfl⟩, rfl, rfl⟩
    · have h := ite_t hb10 h
      refine a_gval rfl (v := (.own 1 [0] [0])) (u := []) rfl (Nat.le_of_ble_eq_true rfl) rfl ?_
      have hl11 : LdOk [0] (eT_i64_A64u8_A64u8_A64u8_Z a0) [0] 1 false (.int .i64 a0.1) := (.fld rfl rfl rfl rfl (.nil rfl rfl rfl))
      refine a_gval rfl (v := (.int .i64 a0.1)) (u := []) (ld_own (i := ⟨.int .i64, 1, 8, (.int .i64 0)⟩) rfl rfl rfl hl11) hl11.c rfl ?_
      refine a_gval rfl (v := (.own 1 [3] [129])) (u := []) rfl (Nat.le_of_ble_eq_true rfl) rfl ?_
      have hl12 : LdOk [3] (eT_i64_A64u8_A64u8_A64u8_Z a0) [129] 64 true (eA64u8 a0.2.2.2) := (.fld rfl rfl rfl rfl (.nil rfl rfl rfl))
      refine a_gval rfl (v := (eA64u8 a0.2.2.2)) (u := []) (ld_own (i := ⟨.arr 64 5, 64, 64, (eA64u8 (vrep 64 (0 : Int)))⟩) rfl rfl rfl hl12) hl12.c rfl ?_
      obtain ⟨r13, hr14, h⟩ := bind_some h
      refine a_gcall rfl (args := [(.int .i64 a0.1), (eA64u8 a0.2.2.2)]) (u := []) (r := (.bool r13)) rfl rfl (impl_IsPoly_ok a0.1 a0.2.2.2 r13 hr14) rfl ?_
      refine a_val (v := (.bool r13)) (u := []) rfl trivial rfl ?_
      refine a_val (v := (.bool r13)) (u := []) rfl trivial rfl ?_
      cases hb15 : r13
      · have h := ite_f hb15 h
        refine a_gskip rfl ?_
        refine a_gskip rfl ?_
        refine a_gskip rfl ?_
        refine a_val (v := (.bool false)) (u := []) rfl trivial rfl ?_
        refine a_val (v := (.bool false)) (u := []) rfl trivial rfl ?_
        refine a_nil ?_
        refine a_next rfl ?_
        refine a_ret ?_
        refine ⟨.inr rfl, ?_⟩
        rw [Try.results25]
        cases h
        exact ⟨_, _, _, _, _, rfl, trivial, .inl ⟨rfl, .inl rfl⟩, rfl, rfl⟩
      · have h := ite_t hb15 h
        refine a_gval rfl (v := (.own 1 [3] [129])) (u := []) rfl (Nat.le_of_ble_eq_true rfl) rfl ?_
        have hl16 : LdOk [3] (eT_i64_A64u8_A64u8_A64u8_Z a0) [129] 64 true (eA64u8 a0.2.2.2) := (.fld rfl rfl rfl rfl (.nil rfl rfl rfl))
        refine a_gval rfl (v := (eA64u8 a0.2.2.2)) (u := []) (ld_own (i := ⟨.arr 64 5, 64, 64, (eA64u8 (vrep 64 (0 : Int)))⟩) rfl rfl rfl hl16) hl16.c rfl ?_
        obtain ⟨r17, hr18, h⟩ := bind_some h
        refine a_gcall rfl (args := [(eA64u8 a0.2.2.2)]) (u := []) (r := (.bool r17)) rfl rfl (impl_isModulus_ok a0.2.2.2 r17 hr18) rfl ?_
        refine a_val (v := (.bool r17)) (u := []) rfl trivial rfl ?_
        refine a_val (v := (.bool r17)) (u := []) rfl trivial rfl ?_
        refine a_nil ?_
        refine a_next rfl ?_
        refine a_ret ?_
        refine ⟨.inr rfl, ?_⟩
        rw [Try.results25]
        cases h
        exact ⟨_, _, _, _, _, rfl, trivial, .inl ⟨rfl, .inl rfl⟩, rfl, rfl⟩
def laws_FnExactIsDesk_c : ACode := (.seq (.region 0 [⟨some 1, .box 36 (.tmp 0), none, []⟩, ⟨some 2, .asg 0 (.const (.bool false)) 4, none, []⟩] false) (.seq (.region 1 [⟨some 5, .load 36 (.tmp 1), none, []⟩, ⟨some 6, .call 0 (.func 24) [(.tmp 5)], none, []⟩, ⟨some 7, .call 0 (.func 23) [(.tmp 6)], none, []⟩, ⟨some 3, .asg 0 (.tmp 7) 4, none, []⟩] false) (.seq (.region 2 [⟨some 8, .load 36 (.tmp 1), none, []⟩, ⟨some 9, .call 0 (.func 24) [(.tmp 8)], none, []⟩, ⟨some 10, .call 0 (.func 25) [(.tmp 9)], none, []⟩, ⟨some 4, .asg 0 (.tmp 10) 4, none, []⟩] false) (.seq (.seq (.region 3 [⟨some 11, .mov (.tmp 4), none, []⟩, ⟨some 12, .mov (.tmp 3), none, []⟩, ⟨some 13, .bin .neq 4 (.tmp 11) (.tmp 12), none, []⟩] false) (.cond (.tmp 13) (.seq (.region 4 [⟨some 2, .asg 0 (.const (.bool false)) 4, none, []⟩] false) .ret) .skip)) (.seq (.region 5 [⟨some 2, .asg 0 (.const (.bool true)) 4, none, []⟩] false) .ret)))))
def laws_FnExactIsDesk_L : Live := [(0, [0]), (1, [1]), (2, [1, 3]), (3, [3, 4]), (4, []), (5, []), (100013, [13])]
theorem laws_FnExactIsDesk_body : Try.f6.body = some (Try.f6.body.getD .skip) := by kernel_rfl
theorem laws_FnExactIsDesk_strip : strip [] (Try.f6.body.getD .skip) = laws_FnExactIsDesk_c := by kernel_rfl
noncomputable def laws_FnExactIsDesk (a0 : (Int × (Vec Int 64) × (Vec Int 64) × (Vec Int 64))) : Option Bool :=
  (Option.bind (laws_toDesk a0) fun r2 => (Option.bind (spec_IsDesk r2) fun r4 => (Option.bind (laws_toDesk a0) fun r7 => (Option.bind (impl_IsDesk r7) fun r9 => (if (!(r9 == r4)) then (some false) else (some true))))))
set_option maxHeartbeats 16000000 in
theorem laws_FnExactIsDesk_ok (a0 : (Int × (Vec Int 64) × (Vec Int 64) × (Vec Int 64))) (r : Bool) (h : laws_FnExactIsDesk a0 = some r) : Den Try.prog 6 [(eT_i64_A64u8_A64u8_A64u8_Z a0)] { r := (.bool r) } := by
  refine den_of (rs := [(.bool r)]) (ac := laws_FnExactIsDesk_c) (L := laws_FnExactIsDesk_L) (n := 14) (m := []) good Try.func6 laws_FnExactIsDesk_body (by kernel_rfl) Try.ntmps6 rfl rfl laws_FnExactIsDesk_strip rfl rfl ?_
  refine a_st (σ' := ⟨[(0, (eT_i64_A64u8_A64u8_A64u8_Z a0))], []⟩) rfl ?_
  unfold laws_FnExactIsDesk_c
  refine a_seq ?_
  refine a_region ?_
  refine a_val (v := (.own 1100 [] [])) (u := [(1100, some ⟨(eT_i64_A64u8_A64u8_A64u8_Z a0), false⟩)]) rfl trivial rfl ?_
  refine a_val (v := (.bool false)) (u := []) rfl trivial rfl ?_
  refine a_nil ?_
  refine a_next (σ' := ⟨[(1, (.own 1 [] []))], [(1, some ⟨(eT_i64_A64u8_A64u8_A64u8_Z a0), false⟩)]⟩) rfl ?_
  refine a_seq ?_
  refine a_region ?_
  have hl1 : LdOk [] (eT_i64_A64u8_A64u8_A64u8_Z a0) [] 193 true (eT_i64_A64u8_A64u8_A64u8_Z a0) := (.nil rfl rfl rfl)
  refine a_val (v := (eT_i64_A64u8_A64u8_A64u8_Z a0)) (u := []) (ld_own (i := ⟨.struct [(0, 2), (1, 22), (65, 22), (129, 22)], 193, 200, (eT_i64_A64u8_A64u8_A64u8_Z ((0 : Int), (vrep 64 (0 : Int)), (vrep 64 (0 : Int)), (vrep 64 (0 : Int))))⟩) rfl rfl rfl hl1) hl1.c rfl ?_
  obtain ⟨r2, hr3, h⟩ := bind_some h
  refine a_call (args := [(eT_i64_A64u8_A64u8_A64u8_Z a0)]) (u := []) (r := (eT_i64_A64u8_A64u8_A64u8_Z r2)) rfl rfl (laws_toDesk_ok a0 r2 hr3) rfl ?_
  obtain ⟨r4, hr5, h⟩ := bind_some h
  refine a_call (args := [(eT_i64_A64u8_A64u8_A64u8_Z r2)]) (u := []) (r := (.bool r4)) rfl rfl (spec_IsDesk_ok r2 r4 hr5) rfl ?_
  refine a_val (v := (.bool r4)) (u := []) rfl trivial rfl ?_
  refine a_nil ?_
  refine a_next (σ' := ⟨[(1, (.own 1 [] [])), (3, (.bool r4))], [(1, some ⟨(eT_i64_A64u8_A64u8_A64u8_Z a0), false⟩)]⟩) rfl ?_
  refine a_seq ?_
  refine a_region ?_
  have hl6 : LdOk [] (eT_i64_A64u8_A64u8_A64u8_Z a0) [] 193 true (eT_i64_A64u8_A64u8_A64u8_Z a0) := (.nil rfl rfl rfl)
  refine a_val (v := (eT_i64_A64u8_A64u8_A64u8_Z a0)) (u := []) (ld_own (i := ⟨.struct [(0, 2), (1, 22), (65, 22), (129, 22)], 193, 200, (eT_i64_A64u8_A64u8_A64u8_Z ((0 : Int), (vrep 64 (0 : Int)), (vrep 64 (0 : Int)), (vrep 64 (0 : Int))))⟩) rfl rfl rfl hl6) hl6.c rfl ?_
  obtain ⟨r7, hr8, h⟩ := bind_some h
  refine a_call (args := [(eT_i64_A64u8_A64u8_A64u8_Z a0)]) (u := []) (r := (eT_i64_A64u8_A64u8_A64u8_Z r7)) rfl rfl (laws_toDesk_ok a0 r7 hr8) rfl ?_
  obtain ⟨r9, hr10, h⟩ := bind_some h
  refine a_call (args := [(eT_i64_A64u8_A64u8_A64u8_Z r7)]) (u := []) (r := (.bool r9)) rfl rfl (impl_IsDesk_ok r7 r9 hr10) rfl ?_
  refine a_val (v := (.bool r9)) (u := []) rfl trivial rfl ?_
  refine a_nil ?_
  refine a_next (σ' := ⟨[(3, (.bool r4)), (4, (.bool r9))], []⟩) rfl ?_
  refine a_seq ?_
  refine a_seq ?_
  refine a_region ?_
  refine a_val (v := (.bool r9)) (u := []) rfl trivial rfl ?_
  refine a_val (v := (.bool r4)) (u := []) rfl trivial rfl ?_
  refine a_val (v := (.bool ((!(r9 == r4))))) (u := []) rfl trivial rfl ?_
  refine a_nil ?_
  refine a_next (σ' := ⟨[(13, (.bool ((!(r9 == r4)))))], []⟩) rfl ?_
  cases hb11 : (!(r9 == r4))
  · have h := ite_f hb11 h
    refine a_cond_f rfl ?_
    refine a_skip ?_
    refine a_next (σ' := ⟨[], []⟩) rfl ?_
    refine a_seq ?_
    refine a_region ?_
    refine a_val (v := (.bool true)) (u := []) rfl trivial rfl ?_
    refine a_nil ?_
    refine a_next rfl ?_
    refine a_ret ?_
    refine ⟨.inr rfl, ?_⟩
    rw [Try.results6]
    cases h
    exact ⟨_, _, _, _, _, rfl, trivial, .inl ⟨rfl, .inl rfl⟩, rfl, rfl⟩
  · have h := ite_t hb11 h
    refine a_cond_t rfl ?_
    refine a_seq ?_
    refine a_region ?_
    refine a_val (v := (.bool false)) (u := []) rfl trivial rfl ?_
    refine a_nil ?_
    refine a_next rfl ?_
    refine a_ret ?_
    refine t_ret ?_
    refine ⟨.inr rfl, ?_⟩
    rw [Try.results6]
    cases h
    exact ⟨_, _, _, _, _, rfl, trivial, .inl ⟨rfl, .inl rfl⟩, rfl, rfl⟩
def spec_l01Count_c : ACode := (.seq (.region 0 [⟨some 4, .asg 0 (.const (.int .i64 0)) 2, none, []⟩] false) (.seq (.region 1 [⟨some 5, .asg 0 (.const (.int .i64 1)) 2, none, []⟩] false) (.seq (.block 0 (.loop (.seq (.seq (.region 2 [⟨some 6, .mov (.tmp 1), none, []⟩, ⟨some 7, .bin .gtr 2 (.tmp 6) (.const (.int .i64 0)), none, []⟩, ⟨some 8, .mov (.tmp 7), none, []⟩, ⟨some 9, .mov (.tmp 5), some (8, true), []⟩, ⟨some 10, .bin .leq 2 (.tmp 9) (.const (.int .i64 1000000000000)), some (8, true), []⟩, ⟨some 11, .pick (.tmp 8) (.tmp 10) (.const (.bool false)), none, []⟩] false) (.cond (.tmp 11) .skip (.exit 0))) (.seq (.block 1 (.region 4 [⟨some 14, .mov (.tmp 5), none, []⟩, ⟨some 15, .mov (.tmp 0), none, []⟩, ⟨some 16, .bin .mul 2 (.tmp 14) (.tmp 15), none, []⟩, ⟨some 5, .asg 0 (.tmp 16) 2, none, []⟩] false)) (.region 3 [⟨some 12, .mov (.tmp 1), none, []⟩, ⟨some 13, .bin .sub 2 (.tmp 12) (.const (.int .i64 1)), none, []⟩, ⟨some 1, .asg 0 (.tmp 13) 2, none, []⟩] false))))) (.seq (.region 5 [⟨some 17, .mov (.tmp 5), none, []⟩, ⟨some 18, .blt 0 .min [(.tmp 17), (.const (.int .i64 1000000000001))] [2, 2], none, []⟩, ⟨some 4, .asg 0 (.tmp 18) 2, none, []⟩] false) .ret))))
def spec_l01Count_L : Live := [(0, [0, 1]), (1, [0, 1]), (2, [0, 1, 5]), (3, [0, 1, 5]), (4, [0, 1, 5]), (5, [5]), (100011, [0, 1, 5, 11])]
theorem spec_l01Count_body : Try.f65.body = some (Try.f65.body.getD .skip) := by kernel_rfl
theorem spec_l01Count_strip : strip [] (Try.f65.body.getD .skip) = spec_l01Count_c := by kernel_rfl
noncomputable def spec_l01Count_l1 (a0 : Int) (x39 : Int) (x40 : Int) : Option ((Int × Int) ⊕ Int) :=
  (Option.bind ((if (decide (x39 > 0)) then (some ((decide (x40 ≤ 1000000000000)))) else (some false))) fun x52 => (if x52 then (some (.inl ((IntKind.i64.wrap (x39 - 1), IntKind.i64.wrap (x40 * a0))))) else (some (.inr x40))))
noncomputable def spec_l01Count (a0 : Int) (a1 : Int) : Option Int :=
  (Option.bind ((loopM (fun s : (Int × Int) => spec_l01Count_l1 a0 s.1 s.2) (a1, 1))) fun x28 => (some (if 1000000000001 < x28 then 1000000000001 else x28)))
set_option maxHeartbeats 16000000 in
theorem spec_l01Count_ok (a0 : Int) (a1 : Int) (r : Int) (h : spec_l01Count a0 a1 = some r) : Den Try.prog 65 [(.int .i64 a0), (.int .i64 a1)] { r := (.int .i64 r) } := by
  refine den_of (rs := [(.int .i64 r)]) (ac := spec_l01Count_c) (L := spec_l01Count_L) (n := 19) (m := []) good Try.func65 spec_l01Count_body (by kernel_rfl) Try.ntmps65 rfl rfl spec_l01Count_strip rfl rfl ?_
  refine a_st (σ' := ⟨[(0, (.int .i64 a0)), (1, (.int .i64 a1))], []⟩) rfl ?_
  unfold spec_l01Count_c
  refine a_seq ?_
  refine a_region ?_
  refine a_val (v := (.int .i64 0)) (u := []) rfl trivial rfl ?_
  refine a_nil ?_
  refine a_next (σ' := ⟨[(0, (.int .i64 a0)), (1, (.int .i64 a1))], []⟩) rfl ?_
  refine a_seq ?_
  refine a_region ?_
  refine a_val (v := (.int .i64 1)) (u := []) rfl trivial rfl ?_
  refine a_nil ?_
  refine a_next (σ' := ⟨[(0, (.int .i64 a0)), (1, (.int .i64 a1)), (5, (.int .i64 1))], []⟩) rfl ?_
  obtain ⟨y29, hy30, hk31⟩ := bind_some h
  clear h
  refine a_join (emb := fun (s : Int) => ⟨[(5, (.int .i64 s))], []⟩) (pre := fun s => s = y29) ?_ ?_
  · rintro x28 rfl
    have h := hk31
    refine a_st (σ' := ⟨[(5, (.int .i64 x28))], []⟩) rfl ?_
    refine a_seq ?_
    refine a_region ?_
    refine a_val (v := (.int .i64 x28)) (u := []) rfl trivial rfl ?_
    refine a_val (v := (.int .i64 (if 1000000000001 < x28 then 1000000000001 else x28))) (u := []) rfl trivial rfl ?_
    refine a_val (v := (.int .i64 (if 1000000000001 < x28 then 1000000000001 else x28))) (u := []) rfl trivial rfl ?_
    refine a_nil ?_
    refine a_next rfl ?_
    refine a_ret ?_
    refine ⟨.inr rfl, ?_⟩
    rw [Try.results65]
    cases h
    exact ⟨_, _, _, _, _, rfl, trivial, .inl ⟨rfl, .inl rfl⟩, rfl, rfl⟩
  · have h := hy30
    refine a_block ?_
    refine a_loop (emb := fun (s : (Int × Int)) => ⟨[(0, (.int .i64 a0)), (1, (.int .i64 s.1)), (5, (.int .i64 s.2))], []⟩) (body := (fun s : (Int × Int) => spec_l01Count_l1 a0 s.1 s.2)) (G := fun q => some q = some y29) h rfl ?_ rfl
    rintro X48 ⟨x39, x40⟩ x49 h hX50
    have h : spec_l01Count_l1 a0 x39 x40 = some x49 := h
    refine a_st (σ' := ⟨[(0, (.int .i64 a0)), (1, (.int .i64 x39)), (5, (.int .i64 x40))], []⟩) rfl ?_
    refine a_seq ?_
    obtain ⟨y53, hy54, hk55⟩ := bind_some h
    clear h
    refine a_join (emb := fun (s : Bool) => ⟨[(0, (.int .i64 a0)), (1, (.int .i64 x39)), (5, (.int .i64 x40)), (11, (.bool s))], []⟩) (pre := fun s => s = y53) ?_ ?_
    · rintro x52 rfl
      have h := hk55
      refine a_st (σ' := ⟨[(0, (.int .i64 a0)), (1, (.int .i64 x39)), (5, (.int .i64 x40)), (11, (.bool x52))], []⟩) rfl ?_
      cases hb57 : x52
      · have h := ite_f hb57 h
        refine a_cond_f rfl ?_
        refine a_exit ?_
        refine t_exit ?_
        cases h
        have h := hX50
        refine t_exit ?_
        refine b_exit ?_
        exact j_leaf x40 (Option.some.inj h) rfl
      · have h := ite_t hb57 h
        refine a_cond_t rfl ?_
        refine a_skip ?_
        refine a_next (σ' := ⟨[(0, (.int .i64 a0)), (1, (.int .i64 x39)), (5, (.int .i64 x40))], []⟩) rfl ?_
        refine a_seq ?_
        refine a_block ?_
        refine a_region ?_
        refine a_val (v := (.int .i64 x40)) (u := []) rfl trivial rfl ?_
        refine a_val (v := (.int .i64 a0)) (u := []) rfl trivial rfl ?_
        refine a_val (v := (.int .i64 (IntKind.i64.wrap (x40 * a0)))) (u := []) rfl trivial rfl ?_
        refine a_val (v := (.int .i64 (IntKind.i64.wrap (x40 * a0)))) (u := []) rfl trivial rfl ?_
        refine a_nil ?_
        refine b_norm ?_
        refine a_next (σ' := ⟨[(0, (.int .i64 a0)), (1, (.int .i64 x39)), (5, (.int .i64 (IntKind.i64.wrap (x40 * a0))))], []⟩) rfl ?_
        refine a_region ?_
        refine a_val (v := (.int .i64 x39)) (u := []) rfl trivial rfl ?_
        refine a_val (v := (.int .i64 (IntKind.i64.wrap (x39 - 1)))) (u := []) rfl trivial rfl ?_
        refine a_val (v := (.int .i64 (IntKind.i64.wrap (x39 - 1)))) (u := []) rfl trivial rfl ?_
        refine a_nil ?_
        cases h
        exact a_again rfl hX50
    · have h := hy54
      refine a_region ?_
      refine a_val (v := (.int .i64 x39)) (u := []) rfl trivial rfl ?_
      refine a_val (v := (.bool ((decide (x39 > 0))))) (u := []) rfl trivial rfl ?_
      refine a_val (v := (.bool ((decide (x39 > 0))))) (u := []) rfl trivial rfl ?_
      cases hb56 : (decide (x39 > 0))
      · have h := ite_f hb56 h
        refine a_gskip rfl ?_
        refine a_gskip rfl ?_
        refine a_val (v := (.bool false)) (u := []) rfl trivial rfl ?_
        refine a_nil ?_
        exact j_leaf false (Option.some.inj h) rfl
      · have h := ite_t hb56 h
        refine a_gval rfl (v := (.int .i64 x40)) (u := []) rfl trivial rfl ?_
        refine a_gval rfl (v := (.bool ((decide (x40 ≤ 1000000000000))))) (u := []) rfl trivial rfl ?_
        refine a_val (v := (.bool ((decide (x40 ≤ 1000000000000))))) (u := []) rfl trivial rfl ?_
        refine a_nil ?_
        exact j_leaf ((decide (x40 ≤ 1000000000000))) (Option.some.inj h) rfl
def spec_l08Code_c : ACode := (.seq (.region 0 [⟨some 6, .asg 0 (.const (.int .i64 0)) 2, none, []⟩] false) (.seq (.block 0 (.seq (.region 1 [⟨some 9, .mov (.tmp 0), none, []⟩, ⟨some 10, .call 0 (.func 56) [(.tmp 9)], none, []⟩, ⟨some 11, .un .not (.tmp 10), none, []⟩, ⟨some 8, .asg 0 (.tmp 11) 4, none, []⟩] false) (.cond (.tmp 8) (.seq (.region 2 [⟨some 6, .asg 0 (.const (.int .i64 1)) 2, none, []⟩] false) .ret) (.seq (.region 3 [⟨some 13, .mov (.tmp 1), none, []⟩, ⟨some 14, .call 0 (.func 57) [(.tmp 13), (.const (.int .i64 0)), (.const (.int .i64 8))], none, []⟩, ⟨some 15, .un .not (.tmp 14), none, []⟩, ⟨some 16, .mov (.tmp 15), none, []⟩, ⟨some 17, .mov (.tmp 0), some (16, false), []⟩, ⟨some 18, .mov (.tmp 1), some (16, false), []⟩, ⟨some 19, .call 0 (.func 65) [(.tmp 17), (.tmp 18)], some (16, false), []⟩, ⟨some 20, .bin .gtr 2 (.tmp 19) (.const (.int .i64 343)), some (16, false), []⟩, ⟨some 21, .pick (.tmp 16) (.const (.bool true)) (.tmp 20), none, []⟩, ⟨some 12, .asg 0 (.tmp 21) 4, none, []⟩] false) (.cond (.tmp 12) (.seq (.region 4 [⟨some 6, .asg 0 (.const (.int .i64 2)) 2, none, []⟩] false) .ret) .skip))))) (.seq (.seq (.region 5 [⟨some 7, .asg 0 (.const (.int .i64 0)) 3, none, []⟩] false) (.block 1 (.loop (.seq (.seq (.region 6 [⟨some 22, .mov (.tmp 7), none, []⟩, ⟨some 23, .mov (.tmp 2), none, []⟩, ⟨some 24, .blt 0 .len [(.tmp 23)] [45], none, []⟩, ⟨some 25, .bin .lss 3 (.tmp 22) (.tmp 24), none, []⟩] false) (.cond (.tmp 25) .skip (.exit 1))) (.seq (.block 2 (.seq (.region 8 [⟨some 28, .mov (.tmp 2), none, []⟩, ⟨some 29, .mov (.tmp 7), none, []⟩, ⟨some 30, .indexAddr 45 (.tmp 28) (.tmp 29), none, []⟩, ⟨some 31, .load 2 (.tmp 30), none, []⟩, ⟨some 32, .call 0 (.func 57) [(.tmp 31), (.const (.int .i64 0)), (.const (.int .i64 40))], none, []⟩, ⟨some 33, .un .not (.tmp 32), none, []⟩] false) (.cond (.tmp 33) (.seq (.region 9 [⟨some 6, .asg 0 (.const (.int .i64 2)) 2, none, []⟩] false) .ret) .skip))) (.region 7 [⟨some 26, .mov (.tmp 7), none, []⟩, ⟨some 27, .bin .add 3 (.tmp 26) (.const (.int .i64 1)), none, []⟩, ⟨some 7, .asg 0 (.tmp 27) 3, none, []⟩] false)))))) (.seq (.region 10 [⟨some 6, .asg 0 (.const (.int .i64 0)) 2, none, []⟩] false) .ret))))
def spec_l08Code_L : Live := [(0, [0, 1, 2]), (1, [0, 1, 2]), (2, []), (3, [0, 1, 2]), (4, []), (5, [2]), (6, [2, 7]), (7, [2, 7]), (8, [2, 7]), (9, []), (10, []), (100008, [0, 1, 2, 8]), (100012, [2, 12]), (100025, [2, 7, 25]), (100033, [2, 7, 33])]
theorem spec_l08Code_body : Try.f87.body = some (Try.f87.body.getD .skip) := by kernel_rfl
theorem spec_l08Code_strip : strip [] (Try.f87.body.getD .skip) = spec_l08Code_c := by kernel_rfl
noncomputable def spec_l08Code_l1 (a2 : (List Int)) (x51 : Int) : Option (Int ⊕ (Unit ⊕ Int)) :=
  (if (decide (x51 < (a2.length : Int))) then (ifp (0 ≤ x51 ∧ x51 < ((a2.length : Nat) : Int)) ((Option.bind (spec_l01In (rd a2 x51.toNat) 0 40) fun r64 => (if (!r64) then (some (.inr (.inr 2))) else (some (.inl (IntKind.i64.wrap (x51 + 1)))))))) else (some (.inr (((.inl ()))))))
noncomputable def spec_l08Code (a0 : Int) (a1 : Int) (a2 : (List Int)) : Option Int :=
  (Option.bind (spec_l01Prime a0) fun r1 => (if (!r1) then (some 1) else (Option.bind ((Option.bind (spec_l01In a1 0 8) fun r13 => (if (!r13) then (some true) else (Option.bind (spec_l01Count a0 a1) fun r16 => (some ((decide (r16 > 343)))))))) fun x9 => (if x9 then (some 2) else (Option.bind ((loopM (fun s : Int => spec_l08Code_l1 a2 s) 0)) fun z => match z with | .inl _ => (some 0) | .inr r68 => (some r68))))))
set_option maxHeartbeats 16000000 in
theorem spec_l08Code_ok (a0 : Int) (a1 : Int) (a2 : (List Int)) (r : Int) (h : spec_l08Code a0 a1 a2 = some r) : Den Try.prog 87 [(.int .i64 a0), (.int .i64 a1), (eSi64 a2)] { r := (.int .i64 r) } := by
  refine den_of (rs := [(.int .i64 r)]) (ac := spec_l08Code_c) (L := spec_l08Code_L) (n := 34) (m := []) good Try.func87 spec_l08Code_body (by kernel_rfl) Try.ntmps87 rfl rfl spec_l08Code_strip rfl rfl ?_
  refine a_st (σ' := ⟨[(0, (.int .i64 a0)), (1, (.int .i64 a1)), (2, (eSi64 a2))], []⟩) rfl ?_
  unfold spec_l08Code_c
  refine a_seq ?_
  refine a_region ?_
  refine a_val (v := (.int .i64 0)) (u := []) rfl trivial rfl ?_
  refine a_nil ?_
  refine a_next (σ' := ⟨[(0, (.int .i64 a0)), (1, (.int .i64 a1)), (2, (eSi64 a2))], []⟩) rfl ?_
  refine a_seq ?_
  refine a_block ?_
  refine a_seq ?_
  refine a_region ?_
  refine a_val (v := (.int .i64 a0)) (u := []) rfl trivial rfl ?_
  obtain ⟨r1, hr2, h⟩ := bind_some h
  refine a_call (args := [(.int .i64 a0)]) (u := []) (r := (.bool r1)) rfl rfl (spec_l01Prime_ok a0 r1 hr2) rfl ?_
  refine a_val (v := (.bool (!r1))) (u := []) rfl trivial rfl ?_
  refine a_val (v := (.bool (!r1))) (u := []) rfl trivial rfl ?_
  refine a_nil ?_
  refine a_next (σ' := ⟨[(0, (.int .i64 a0)), (1, (.int .i64 a1)), (2, (eSi64 a2)), (8, (.bool (!r1)))], []⟩) rfl ?_
  cases hb3 : (!r1)
  · have h := ite_f hb3 h
    refine a_cond_f rfl ?_
    obtain ⟨y10, hy11, hk12⟩ := bind_some h
    clear h
    refine a_join (emb := fun (s : Bool) => ⟨[(2, (eSi64 a2)), (12, (.bool s))], []⟩) (pre := fun s => s = y10) ?_ ?_
    · rintro x9 rfl
      have h := hk12
      refine a_st (σ' := ⟨[(2, (eSi64 a2)), (12, (.bool x9))], []⟩) rfl ?_
      cases hb18 : x9
      · have h := ite_f hb18 h
        refine a_cond_f rfl ?_
        refine a_skip ?_
        refine b_norm ?_
        refine a_next (σ' := ⟨[(2, (eSi64 a2))], []⟩) rfl ?_
        obtain ⟨y42, hy43, hk44⟩ := bind_some h
        clear h
        refine a_join (emb := fun (s : Unit) => ⟨[], []⟩) (pre := fun s => (.inl s) = y42) ?_ ?_
        · rintro _ rfl
          have h := hk44
          refine a_st (σ' := ⟨[], []⟩) rfl ?_
          refine a_seq ?_
          refine a_region ?_
          refine a_val (v := (.int .i64 0)) (u := []) rfl trivial rfl ?_
          refine a_nil ?_
          refine a_next rfl ?_
          refine a_ret ?_
          refine ⟨.inr rfl, ?_⟩
          rw [Try.results87]
          cases h
          exact ⟨_, _, _, _, _, rfl, trivial, .inl ⟨rfl, .inl rfl⟩, rfl, rfl⟩
        · have h := hy43
          refine a_seq ?_
          refine a_region ?_
          refine a_val (v := (.int .i64 0)) (u := []) rfl trivial rfl ?_
          refine a_nil ?_
          refine a_next (σ' := ⟨[(2, (eSi64 a2)), (7, (.int .i64 0))], []⟩) rfl ?_
          refine a_block ?_
          refine a_loop (emb := fun (s : Int) => ⟨[(2, (eSi64 a2)), (7, (.int .i64 s))], []⟩) (body := (fun s : Int => spec_l08Code_l1 a2 s)) (G := fun q => some q = some y42) h rfl ?_ rfl
          rintro X58 x51 x59 h hX60
          have h : spec_l08Code_l1 a2 x51 = some x59 := h
          refine a_st (σ' := ⟨[(2, (eSi64 a2)), (7, (.int .i64 x51))], []⟩) rfl ?_
          refine a_seq ?_
          refine a_seq ?_
          refine a_region ?_
          refine a_val (v := (.int .i64 x51)) (u := []) rfl trivial rfl ?_
          refine a_val (v := (eSi64 a2)) (u := []) rfl trivial rfl ?_
          refine a_val (v := (.int .i64 (a2.length : Int))) (u := []) (len_run rfl rfl) trivial rfl ?_
          refine a_val (v := (.bool ((decide (x51 < (a2.length : Int)))))) (u := []) rfl trivial rfl ?_
          refine a_nil ?_
          refine a_next (σ' := ⟨[(2, (eSi64 a2)), (7, (.int .i64 x51)), (25, (.bool ((decide (x51 < (a2.length : Int))))))], []⟩) rfl ?_
          cases hb61 : (decide (x51 < (a2.length : Int)))
          · have h := ite_f hb61 h
            refine a_cond_f rfl ?_
            refine a_exit ?_
            refine t_exit ?_
            cases h
            have h := hX60
            refine t_exit ?_
            refine b_exit ?_
            exact j_leaf () (Option.some.inj h) rfl
          · have h := ite_t hb61 h
            refine a_cond_t rfl ?_
            refine a_skip ?_
            refine a_next (σ' := ⟨[(2, (eSi64 a2)), (7, (.int .i64 x51))], []⟩) rfl ?_
            refine a_seq ?_
            refine a_block ?_
            refine a_seq ?_
            refine a_region ?_
            refine a_val (v := (eSi64 a2)) (u := []) rfl trivial rfl ?_
            refine a_val (v := (.int .i64 x51)) (u := []) rfl trivial rfl ?_
            obtain ⟨hc62, h⟩ := ifp_some h
            refine a_val (v := (.ref (.row 1 (a2.map (AV.int .i64))) [x51.toNat] [x51.toNat * 1])) (u := []) rfl (lmap hc62) rfl ?_
            have hl63 : LdOk [x51.toNat] (.row 1 (a2.map (AV.int .i64))) [x51.toNat * 1] 1 false (.int .i64 (rd a2 x51.toNat)) := (.row (llt hc62) rfl (.nil rfl rfl rfl))
            refine a_val (v := (.int .i64 (rd a2 x51.toNat))) (u := []) (ld_ref (i := ⟨.int .i64, 1, 8, (.int .i64 0)⟩) rfl rfl hl63) hl63.c rfl ?_
            obtain ⟨r64, hr65, h⟩ := bind_some h
            refine a_call (args := [(.int .i64 (rd a2 x51.toNat)), (.int .i64 0), (.int .i64 40)]) (u := []) (r := (.bool r64)) rfl rfl (spec_l01In_ok (rd a2 x51.toNat) 0 40 r64 hr65) rfl ?_
            refine a_val (v := (.bool (!r64))) (u := []) rfl trivial rfl ?_
            refine a_nil ?_
            refine a_next (σ' := ⟨[(2, (eSi64 a2)), (7, (.int .i64 x51)), (33, (.bool (!r64)))], []⟩) rfl ?_
            cases hb66 : (!r64)
            · have h := ite_f hb66 h
              refine a_cond_f rfl ?_
              refine a_skip ?_
              refine b_norm ?_
              refine a_next (σ' := ⟨[(2, (eSi64 a2)), (7, (.int .i64 x51))], []⟩) rfl ?_
              refine a_region ?_
              refine a_val (v := (.int .i64 x51)) (u := []) rfl trivial rfl ?_
              refine a_val (v := (.int .i64 (IntKind.i64.wrap (x51 + 1)))) (u := []) rfl trivial rfl ?_
              refine a_val (v := (.int .i64 (IntKind.i64.wrap (x51 + 1)))) (u := []) rfl trivial rfl ?_
              refine a_nil ?_
              cases h
              exact a_again rfl hX60
            · have h := ite_t hb66 h
              refine a_cond_t rfl ?_
              refine a_seq ?_
              refine a_region ?_
              refine a_val (v := (.int .i64 2)) (u := []) rfl trivial rfl ?_
              refine a_nil ?_
              refine a_next rfl ?_
              refine a_ret ?_
              refine b_ret ?_
              refine t_ret ?_
              cases h
              have h := hX60
              refine t_ret ?_
              refine b_ret ?_
              refine t_ret ?_
              cases h
              have h := hk44
              refine ⟨.inr rfl, ?_⟩
              rw [Try.results87]
              cases h
              exact ⟨_, _, _, _, _, rfl, trivial, .inl ⟨rfl, .inl rfl⟩, rfl, rfl⟩
      · have h := ite_t hb18 h
        refine a_cond_t rfl ?_
        refine a_seq ?_
        refine a_region ?_
        refine a_val (v := (.int .i64 2)) (u := []) rfl trivial rfl ?_
        refine a_nil ?_
        refine a_next rfl ?_
        refine a_ret ?_
        refine b_ret ?_
        refine t_ret ?_
        refine ⟨.inr rfl, ?_⟩
        rw [Try.results87]
        cases h
        exact ⟨_, _, _, _, _, rfl, trivial, .inl ⟨rfl, .inl rfl⟩, rfl, rfl⟩
    · have h := hy11
      refine a_region ?_
      refine a_val (v := (.int .i64 a1)) (u := []) rfl trivial rfl ?_
      obtain ⟨r13, hr14, h⟩ := bind_some h
      refine a_call (args := [(.int .i64 a1), (.int .i64 0), (.int .i64 8)]) (u := []) (r := (.bool r13)) rfl rfl (spec_l01In_ok a1 0 8 r13 hr14) rfl ?_
      refine a_val (v := (.bool (!r13))) (u := []) rfl trivial rfl ?_
      refine a_val (v := (.bool (!r13))) (u := []) rfl trivial rfl ?_
      cases hb15 : (!r13)
      · have h := ite_f hb15 h
        refine a_gval rfl (v := (.int .i64 a0)) (u := []) rfl trivial rfl ?_
        refine a_gval rfl (v := (.int .i64 a1)) (u := []) rfl trivial rfl ?_
        obtain ⟨r16, hr17, h⟩ := bind_some h
        refine a_gcall rfl (args := [(.int .i64 a0), (.int .i64 a1)]) (u := []) (r := (.int .i64 r16)) rfl rfl (spec_l01Count_ok a0 a1 r16 hr17) rfl ?_
        refine a_gval rfl (v := (.bool ((decide (r16 > 343))))) (u := []) rfl trivial rfl ?_
        refine a_val (v := (.bool ((decide (r16 > 343))))) (u := []) rfl trivial rfl ?_
        refine a_val (v := (.bool ((decide (r16 > 343))))) (u := []) rfl trivial rfl ?_
        refine a_nil ?_
        exact j_leaf ((decide (r16 > 343))) (Option.some.inj h) rfl
      · have h := ite_t hb15 h
        refine a_gskip rfl ?_
        refine a_gskip rfl ?_
        refine a_gskip rfl ?_
        refine a_gskip rfl ?_
        refine a_val (v := (.bool true)) (u := []) rfl trivial rfl ?_
        refine a_val (v := (.bool true)) (u := []) rfl trivial rfl ?_
        refine a_nil ?_
        exact j_leaf true (Option.some.inj h) rfl
  · have h := ite_t hb3 h
    refine a_cond_t rfl ?_
    refine a_seq ?_
    refine a_region ?_
    refine a_val (v := (.int .i64 1)) (u := []) rfl trivial rfl ?_
    refine a_nil ?_
    refine a_next rfl ?_
    refine a_ret ?_
    refine b_ret ?_
    refine t_ret ?_
    refine ⟨.inr rfl, ?_⟩
    rw [Try.results87]
    cases h
    exact ⟨_, _, _, _, _, rfl, trivial, .inl ⟨rfl, .inl rfl⟩, rfl, rfl⟩
def spec_l01Times_c : ACode := (.seq (.region 0 [⟨some 4, .box 23 (.tmp 1), none, []⟩, ⟨some 5, .box 23 (.tmp 2), none, []⟩, ⟨some 6, .alloc 23, none, []⟩, ⟨some 7, .asg 0 (.const (.bool false)) 4, none, []⟩] false) (.seq (.region 1 [⟨some 13, .load 23 (.tmp 4), none, []⟩, ⟨some 14, .call 0 (.func 71) [(.tmp 13)], none, [0]⟩, ⟨some 15, .load 23 (.tmp 5), none, []⟩, ⟨some 16, .call 0 (.func 71) [(.tmp 15)], none, [2, 1]⟩, ⟨some 17, .build 23 [], none, []⟩, ⟨some 10, .alloc 23, none, []⟩, ⟨some 8, .asg 0 (.tmp 14) 2, none, [1, 3, 0, 1, 5]⟩, ⟨some 9, .asg 0 (.tmp 16) 2, none, [3, 6, 0, 1, 2, 3, 5, 6]⟩, ⟨none, .store 23 (.tmp 10) (.tmp 17), none, [5, 4, 7, 0, 1, 2, 3, 4, 5, 6, 7]⟩] true) (.seq (.seq (.region 2 [⟨some 18, .mov (.tmp 8), none, []⟩, ⟨some 19, .bin .lss 2 (.tmp 18) (.const (.int .i64 0)), none, []⟩, ⟨some 20, .mov (.tmp 19), none, []⟩, ⟨some 21, .mov (.tmp 9), some (20, false), []⟩, ⟨some 22, .bin .lss 2 (.tmp 21) (.const (.int .i64 0)), some (20, false), []⟩, ⟨some 23, .pick (.tmp 20) (.const (.bool true)) (.tmp 22), none, []⟩] false) (.cond (.tmp 23) (.seq (.region 3 [⟨some 24, .load 23 (.tmp 10), none, []⟩, ⟨none, .store 23 (.tmp 6) (.tmp 24), none, []⟩, ⟨some 7, .asg 0 (.const (.bool true)) 4, none, []⟩] false) .ret) .skip)) (.seq (.seq (.region 4 [⟨some 25, .mov (.tmp 8), none, []⟩, ⟨some 26, .mov (.tmp 9), none, []⟩, ⟨some 27, .bin .add 2 (.tmp 25) (.tmp 26), none, []⟩, ⟨some 28, .bin .gtr 2 (.tmp 27) (.const (.int .i64 63)), none, []⟩] false) (.cond (.tmp 28) (.seq (.region 5 [⟨some 29, .load 23 (.tmp 10), none, []⟩, ⟨none, .store 23 (.tmp 6) (.tmp 29), none, []⟩, ⟨some 7, .asg 0 (.const (.bool false)) 4, none, []⟩] false) .ret) .skip)) (.seq (.seq (.region 6 [⟨some 11, .asg 0 (.const (.int .i64 0)) 2, none, []⟩] false) (.block 0 (.loop (.seq (.seq (.region 7 [⟨some 30, .mov (.tmp 11), none, []⟩, ⟨some 31, .mov (.tmp 8), none, []⟩, ⟨some 32, .bin .leq 2 (.tmp 30) (.tmp 31), none, []⟩] false) (.cond (.tmp 32) .skip (.exit 0))) (.seq (.block 1 (.seq (.region 9 [⟨some 12, .asg 0 (.const (.int .i64 0)) 2, none, []⟩] false) (.block 2 (.loop (.seq (.seq (.region 10 [⟨some 35, .mov (.tmp 12), none, []⟩, ⟨some 36, .mov (.tmp 9), none, []⟩, ⟨some 37, .bin .leq 2 (.tmp 35) (.tmp 36), none, []⟩, ⟨some 38, .mov (.tmp 37), none, []⟩, ⟨some 39, .mov (.tmp 11), some (38, true), []⟩, ⟨some 40, .indexAddr 23 (.tmp 4) (.tmp 39), some (38, true), []⟩, ⟨some 41, .load 5 (.tmp 40), some (38, true), []⟩, ⟨some 42, .bin .neq 5 (.tmp 41) (.const (.int .u8 0)), some (38, true), []⟩, ⟨some 43, .pick (.tmp 38) (.tmp 42) (.const (.bool false)), none, []⟩] false) (.cond (.tmp 43) .skip (.exit 2))) (.seq (.block 3 (.region 12 [⟨some 46, .mov (.tmp 11), none, []⟩, ⟨some 47, .mov (.tmp 12), none, []⟩, ⟨some 48, .bin .add 2 (.tmp 46) (.tmp 47), none, [0, 1]⟩, ⟨some 49, .mov (.tmp 11), none, []⟩, ⟨some 50, .mov (.tmp 12), none, []⟩, ⟨some 51, .bin .add 2 (.tmp 49) (.tmp 50), none, [3, 4]⟩, ⟨some 52, .indexAddr 23 (.tmp 10) (.tmp 51), none, [5]⟩, ⟨some 53, .load 5 (.tmp 52), none, [6]⟩, ⟨some 54, .conv 5 2 (.tmp 53), none, [7]⟩, ⟨some 55, .mov (.tmp 11), none, []⟩, ⟨some 56, .indexAddr 23 (.tmp 4) (.tmp 55), none, [9]⟩, ⟨some 57, .load 5 (.tmp 56), none, [10]⟩, ⟨some 58, .conv 5 2 (.tmp 57), none, [11]⟩, ⟨some 59, .mov (.tmp 12), none, []⟩, ⟨some 60, .indexAddr 23 (.tmp 5) (.tmp 59), none, [13]⟩, ⟨some 61, .load 5 (.tmp 60), none, [14]⟩, ⟨some 62, .conv 5 2 (.tmp 61), none, [15]⟩, ⟨some 63, .bin .mul 2 (.tmp 58) (.tmp 62), none, [12, 16]⟩, ⟨some 64, .bin .add 2 (.tmp 54) (.tmp 63), none, [8, 17]⟩, ⟨some 65, .mov (.tmp 0), none, []⟩, ⟨some 66, .bin .rem 2 (.tmp 64) (.tmp 65), none, [18, 19]⟩, ⟨some 67, .conv 2 5 (.tmp 66), none, [20]⟩, ⟨some 68, .indexAddr 23 (.tmp 10) (.tmp 48), none, [2, 0, 1, 2, 3, 4, 5, 6, 7, 8, 9, 10, 11, 12, 13, 14, 15, 16, 17, 18, 19, 20, 21]⟩, ⟨none, .store 5 (.tmp 68) (.tmp 67), none, [22, 21, 0, 1, 2, 3, 4, 5, 6, 7, 8, 9, 10, 11, 12, 13, 14, 15, 16, 17, 18, 19, 20, 21]⟩] true)) (.region 11 [⟨some 44, .mov (.tmp 12), none, []⟩, ⟨some 45, .bin .add 2 (.tmp 44) (.const (.int .i64 1)), none, []⟩, ⟨some 12, .asg 0 (.tmp 45) 2, none, []⟩] false))))))) (.region 8 [⟨some 33, .mov (.tmp 11), none, []⟩, ⟨some 34, .bin .add 2 (.tmp 33) (.const (.int .i64 1)), none, []⟩, ⟨some 11, .asg 0 (.tmp 34) 2, none, []⟩] false)))))) (.seq (.region 13 [⟨some 69, .load 23 (.tmp 10), none, []⟩, ⟨none, .store 23 (.tmp 6) (.tmp 69), none, []⟩, ⟨some 7, .asg 0 (.const (.bool true)) 4, none, []⟩] false) .ret))))))
def spec_l01Times_L : Live := [(0, [0, 1, 2]), (1, [0, 4, 5, 6]), (2, [0, 4, 5, 6, 8, 9, 10]), (3, [6, 10]), (4, [0, 4, 5, 6, 8, 9, 10]), (5, [6, 10]), (6, [0, 4, 5, 6, 8, 9, 10]), (7, [0, 4, 5, 6, 8, 9, 10, 11]), (8, [0, 4, 5, 6, 8, 9, 10, 11]), (9, [0, 4, 5, 6, 8, 9, 10, 11]), (10, [0, 4, 5, 6, 8, 9, 10, 11, 12]), (11, [0, 4, 5, 6, 8, 9, 10, 11, 12]), (12, [0, 4, 5, 6, 8, 9, 10, 11, 12]), (13, [6, 10]), (100023, [0, 4, 5, 6, 8, 9, 10, 23]), (100028, [0, 4, 5, 6, 8, 9, 10, 28]), (100032, [0, 4, 5, 6, 8, 9, 10, 11, 32]), (100043, [0, 4, 5, 6, 8, 9, 10, 11, 12, 43])]
theorem spec_l01Times_body : Try.f84.body = some (Try.f84.body.getD .skip) := by kernel_rfl
theorem spec_l01Times_strip : strip [] (Try.f84.body.getD .skip) = spec_l01Times_c := by kernel_rfl
noncomputable def spec_l01Times_l2 (r12 : Int) (x1081 : Int) (a1 : (Vec Int 64)) (a2 : (Vec Int 64)) (a0 : Int) (x1524 : Int) (x1525 : (Vec Int 64)) : Option ((Int × (Vec Int 64)) ⊕ (Vec Int 64)) :=
  (Option.bind ((if (decide (x1524 ≤ r12)) then (ifp (0 ≤ x1081 ∧ x1081 < ((64 : Nat) : Int)) ((some (((rd a1.1 x1081.toNat) != 0))))) else (some false))) fun x1573 => (if x1573 then (ifp (0 ≤ IntKind.i64.wrap (x1081 + x1524) ∧ IntKind.i64.wrap (x1081 + x1524) < ((64 : Nat) : Int)) ((letp (IntKind.i64.wrap ((rd x1525.1 (IntKind.i64.wrap (x1081 + x1524)).toNat))) fun x1598 => (ifp (0 ≤ x1081 ∧ x1081 < ((64 : Nat) : Int)) ((ifp (0 ≤ x1524 ∧ x1524 < ((64 : Nat) : Int)) ((letp (IntKind.i64.wrap ((IntKind.i64.wrap (rd a1.1 x1081.toNat)) * (IntKind.i64.wrap (rd a2.1 x1524.toNat)))) fun x1604 => (ifp (a0 ≠ 0) ((letp (IntKind.u8.wrap (Int.tmod (IntKind.i64.wrap (x1598 + x1604)) a0)) fun x1607 => (ifp (0 ≤ IntKind.i64.wrap (x1081 + x1524) ∧ IntKind.i64.wrap (x1081 + x1524) < ((64 : Nat) : Int)) ((some (.inl ((IntKind.i64.wrap (x1524 + 1), (vset x1525 (IntKind.i64.wrap (x1081 + x1524)).toNat x1607)))))))))))))))))) else (some (.inr x1525))))
noncomputable def spec_l01Times_l1 (r9 : Int) (r12 : Int) (a1 : (Vec Int 64)) (a2 : (Vec Int 64)) (a0 : Int) (x1081 : Int) (x1082 : (Vec Int 64)) : Option ((Int × (Vec Int 64)) ⊕ (Vec Int 64)) :=
  (if (decide (x1081 ≤ r9)) then (Option.bind ((loopM (fun s : (Int × (Vec Int 64)) => spec_l01Times_l2 r12 x1081 a1 a2 a0 s.1 s.2) (0, x1082))) fun x1479 => (some (.inl ((IntKind.i64.wrap (x1081 + 1), x1479))))) else (some (.inr x1082)))
noncomputable def spec_l01Times (a0 : Int) (a1 : (Vec Int 64)) (a2 : (Vec Int 64)) : Option ((Vec Int 64) × Bool) :=
  (Option.bind (spec_l01Deg a1) fun r9 => (Option.bind (spec_l01Deg a2) fun r12 => (Option.bind ((if (decide (r9 < 0)) then (some true) else (some ((decide (r12 < 0)))))) fun x16 => (if x16 then (some (((vrep 64 (0 : Int)), true))) else (if (decide ((IntKind.i64.wrap (r9 + r12)) > 63)) then (some (((vrep 64 (0 : Int)), false))) else (Option.bind ((loopM (fun s : (Int × (Vec Int 64)) => spec_l01Times_l1 r9 r12 a1 a2 a0 s.1 s.2) (0, (vrep 64 (0 : Int))))) fun x814 => (some (x814, true))))))))
set_option maxHeartbeats 16000000 in
theorem spec_l01Times_ok (a0 : Int) (a1 : (Vec Int 64)) (a2 : (Vec Int 64)) (r : ((Vec Int 64) × Bool)) (h : spec_l01Times a0 a1 a2 = some r) : Den Try.prog 84 [(.int .i64 a0), (eA64u8 a1), (eA64u8 a2)] { r := (.tuple [(eA64u8 r.1), (.bool r.2)]) } := by
  refine den_of (rs := [(eA64u8 r.1), (.bool r.2)]) (ac := spec_l01Times_c) (L := spec_l01Times_L) (n := 70) (m := []) good Try.func84 spec_l01Times_body (by kernel_rfl) Try.ntmps84 rfl rfl spec_l01Times_strip rfl rfl ?_
  refine a_st (σ' := ⟨[(0, (.int .i64 a0)), (1, (eA64u8 a1)), (2, (eA64u8 a2))], []⟩) rfl ?_
  unfold spec_l01Times_c
  refine a_seq ?_
  refine a_region ?_
  refine a_val (v := (.own 1400 [] [])) (u := [(1400, some ⟨(eA64u8 a1), false⟩)]) rfl trivial rfl ?_
  refine a_val (v := (.own 1500 [] [])) (u := [(1500, some ⟨(eA64u8 a2), false⟩)]) rfl trivial rfl ?_
  refine a_val (v := (.own 1600 [] [])) (u := [(1600, some ⟨(eA64u8 ((vrep 64 (0 : Int)))), false⟩)]) rfl trivial rfl ?_
  refine a_val (v := (.bool false)) (u := []) rfl trivial rfl ?_
  refine a_nil ?_
  refine a_next (σ' := ⟨[(0, (.int .i64 a0)), (4, (.own 4 [] [])), (5, (.own 5 [] [])), (6, (.own 6 [] []))], [(4, some ⟨(eA64u8 a1), false⟩), (5, some ⟨(eA64u8 a2), false⟩), (6, some ⟨(eA64u8 ((vrep 64 (0 : Int)))), false⟩)]⟩) rfl ?_
  refine a_seq ?_
  refine a_draw [⟨[4], [], [], []⟩, ⟨[], [], [], [0]⟩, ⟨[5], [], [], []⟩, ⟨[], [], [], [0, 1, 2]⟩, ⟨[], [], [], []⟩, ⟨[2000], [2000], [2000], []⟩, ⟨[], [], [], [0, 1, 2, 3, 5]⟩, ⟨[], [], [], [0, 1, 2, 3, 5, 6]⟩, ⟨[2000], [2000], [], [0, 1, 2, 3, 4, 5, 6, 7]⟩] (by kernel_rfl) ?_
  refine d_cons ?_
  have hl8 : LdOk [] (eA64u8 a1) [] 64 true (eA64u8 a1) := (.nil rfl rfl rfl)
  refine a_val (v := (eA64u8 a1)) (u := []) (ld_own (i := ⟨.arr 64 5, 64, 64, (eA64u8 (vrep 64 (0 : Int)))⟩) rfl rfl rfl hl8) hl8.c rfl ?_
  refine d_next rfl ?_
  refine d_cons ?_
  obtain ⟨r9, hr10, h⟩ := bind_some h
  refine a_call (args := [(eA64u8 a1)]) (u := []) (r := (.int .i64 r9)) rfl rfl (spec_l01Deg_ok a1 r9 hr10) rfl ?_
  refine d_next rfl ?_
  refine d_cons ?_
  have hl11 : LdOk [] (eA64u8 a2) [] 64 true (eA64u8 a2) := (.nil rfl rfl rfl)
  refine a_val (v := (eA64u8 a2)) (u := []) (ld_own (i := ⟨.arr 64 5, 64, 64, (eA64u8 (vrep 64 (0 : Int)))⟩) rfl rfl rfl hl11) hl11.c rfl ?_
  refine d_next rfl ?_
  refine d_cons ?_
  obtain ⟨r12, hr13, h⟩ := bind_some h
  refine a_call (args := [(eA64u8 a2)]) (u := []) (r := (.int .i64 r12)) rfl rfl (spec_l01Deg_ok a2 r12 hr13) rfl ?_
  refine d_next rfl ?_
  refine d_cons ?_
  refine a_val (v := (eA64u8 ((vrep 64 (0 : Int))))) (u := []) rfl ⟨⟨_, rfl, rfl⟩, all_nil⟩ rfl ?_
  refine d_next rfl ?_
  refine d_cons ?_
  refine a_val (v := (.own 2000 [] [])) (u := [(2000, some ⟨(eA64u8 ((vrep 64 (0 : Int)))), false⟩)]) rfl trivial rfl ?_
  refine d_next rfl ?_
  refine d_cons ?_
  refine a_val (v := (.int .i64 r9)) (u := []) rfl trivial rfl ?_
  refine d_next rfl ?_
  refine d_cons ?_
  refine a_val (v := (.int .i64 r12)) (u := []) rfl trivial rfl ?_
  refine d_next rfl ?_
  refine d_cons ?_
  have hs14 : StOk [] (eA64u8 ((vrep 64 (0 : Int)))) [] 64 (eA64u8 ((vrep 64 (0 : Int)))) (eA64u8 ((vrep 64 (0 : Int)))) := (.nil rfl rfl rfl rfl)
  refine a_val (v := .top) (u := [(2000, some ⟨(eA64u8 ((vrep 64 (0 : Int)))), false⟩)]) (st_own (i := ⟨.arr 64 5, 64, 64, (eA64u8 (vrep 64 (0 : Int)))⟩) rfl rfl (fun _ => rfl) rfl hs14) (hs14.c rfl) rfl ?_
  refine d_next rfl ?_
  refine d_nil ?_
  refine a_next (σ' := ⟨[(0, (.int .i64 a0)), (4, (.own 4 [] [])), (5, (.own 5 [] [])), (6, (.own 6 [] [])), (8, (.int .i64 r9)), (9, (.int .i64 r12)), (10, (.own 10 [] []))], [(4, some ⟨(eA64u8 a1), false⟩), (5, some ⟨(eA64u8 a2), false⟩), (6, some ⟨(eA64u8 ((vrep 64 (0 : Int)))), false⟩), (10, some ⟨(eA64u8 ((vrep 64 (0 : Int)))), false⟩)]⟩) rfl ?_
  refine a_seq ?_
  obtain ⟨y17, hy18, hk19⟩ := bind_some h
  clear h
  refine a_join (emb := fun (s : Bool) => ⟨[(0, (.int .i64 a0)), (4, (.own 4 [] [])), (5, (.own 5 [] [])), (6, (.own 6 [] [])), (8, (.int .i64 r9)), (9, (.int .i64 r12)), (10, (.own 10 [] [])), (23, (.bool s))], [(4, some ⟨(eA64u8 a1), false⟩), (5, some ⟨(eA64u8 a2), false⟩), (6, some ⟨(eA64u8 ((vrep 64 (0 : Int)))), false⟩), (10, some ⟨(eA64u8 ((vrep 64 (0 : Int)))), false⟩)]⟩) (pre := fun s => s = y17) ?_ ?_
  · rintro x16 rfl
    have h := hk19
    refine a_st (σ' := ⟨[(0, (.int .i64 a0)), (4, (.own 4 [] [])), (5, (.own 5 [] [])), (6, (.own 6 [] [])), (8, (.int .i64 r9)), (9, (.int .i64 r12)), (10, (.own 10 [] [])), (23, (.bool x16))], [(4, some ⟨(eA64u8 a1), false⟩), (5, some ⟨(eA64u8 a2), false⟩), (6, some ⟨(eA64u8 ((vrep 64 (0 : Int)))), false⟩), (10, some ⟨(eA64u8 ((vrep 64 (0 : Int)))), false⟩)]⟩) rfl ?_
    cases hb21 : x16
    · have h := ite_f hb21 h
      refine a_cond_f rfl ?_
      refine a_skip ?_
      refine a_next (σ' := ⟨[(0, (.int .i64 a0)), (4, (.own 4 [] [])), (5, (.own 5 [] [])), (6, (.own 6 [] [])), (8, (.int .i64 r9)), (9, (.int .i64 r12)), (10, (.own 10 [] []))], [(4, some ⟨(eA64u8 a1), false⟩), (5, some ⟨(eA64u8 a2), false⟩), (6, some ⟨(eA64u8 ((vrep 64 (0 : Int)))), false⟩), (10, some ⟨(eA64u8 ((vrep 64 (0 : Int)))), false⟩)]⟩) rfl ?_
      refine a_seq ?_
      refine a_seq ?_
      refine a_region ?_
      refine a_val (v := (.int .i64 r9)) (u := []) rfl trivial rfl ?_
      refine a_val (v := (.int .i64 r12)) (u := []) rfl trivial rfl ?_
      refine a_val (v := (.int .i64 (IntKind.i64.wrap (r9 + r12)))) (u := []) rfl trivial rfl ?_
      refine a_val (v := (.bool ((decide ((IntKind.i64.wrap (r9 + r12)) > 63))))) (u := []) rfl trivial rfl ?_
      refine a_nil ?_
      refine a_next (σ' := ⟨[(0, (.int .i64 a0)), (4, (.own 4 [] [])), (5, (.own 5 [] [])), (6, (.own 6 [] [])), (8, (.int .i64 r9)), (9, (.int .i64 r12)), (10, (.own 10 [] [])), (28, (.bool ((decide ((IntKind.i64.wrap (r9 + r12)) > 63)))))], [(4, some ⟨(eA64u8 a1), false⟩), (5, some ⟨(eA64u8 a2), false⟩), (6, some ⟨(eA64u8 ((vrep 64 (0 : Int)))), false⟩), (10, some ⟨(eA64u8 ((vrep 64 (0 : Int)))), false⟩)]⟩) rfl ?_
      cases hb22 : (decide ((IntKind.i64.wrap (r9 + r12)) > 63))
      · have h := ite_f hb22 h
        refine a_cond_f rfl ?_
        refine a_skip ?_
        refine a_next (σ' := ⟨[(0, (.int .i64 a0)), (4, (.own 4 [] [])), (5, (.own 5 [] [])), (6, (.own 6 [] [])), (8, (.int .i64 r9)), (9, (.int .i64 r12)), (10, (.own 10 [] []))], [(4, some ⟨(eA64u8 a1), false⟩), (5, some ⟨(eA64u8 a2), false⟩), (6, some ⟨(eA64u8 ((vrep 64 (0 : Int)))), false⟩), (10, some ⟨(eA64u8 ((vrep 64 (0 : Int)))), false⟩)]⟩) rfl ?_
        obtain ⟨y815, hy816, hk817⟩ := bind_some h
        clear h
        refine a_join (emb := fun (s : (Vec Int 64)) => ⟨[(6, (.own 6 [] [])), (10, (.own 10 [] []))], [(6, some ⟨(eA64u8 ((vrep 64 (0 : Int)))), false⟩), (10, some ⟨(eA64u8 s), false⟩)]⟩) (pre := fun s => s = y815) ?_ ?_
        · rintro x814 rfl
          have h := hk817
          refine a_st (σ' := ⟨[(6, (.own 6 [] [])), (10, (.own 10 [] []))], [(6, some ⟨(eA64u8 ((vrep 64 (0 : Int)))), false⟩), (10, some ⟨(eA64u8 x814), false⟩)]⟩) rfl ?_
          refine a_seq ?_
          refine a_region ?_
          have hl1613 : LdOk [] (eA64u8 x814) [] 64 true (eA64u8 x814) := (.nil rfl rfl rfl)
          refine a_val (v := (eA64u8 x814)) (u := []) (ld_own (i := ⟨.arr 64 5, 64, 64, (eA64u8 (vrep 64 (0 : Int)))⟩) rfl rfl rfl hl1613) hl1613.c rfl ?_
          have hs1614 : StOk [] (eA64u8 ((vrep 64 (0 : Int)))) [] 64 (eA64u8 x814) (eA64u8 x814) := (.nil rfl rfl rfl rfl)
          refine a_val (v := .top) (u := [(6, some ⟨(eA64u8 x814), false⟩)]) (st_own (i := ⟨.arr 64 5, 64, 64, (eA64u8 (vrep 64 (0 : Int)))⟩) rfl rfl (fun _ => rfl) rfl hs1614) (hs1614.c rfl) rfl ?_
          refine a_val (v := (.bool true)) (u := []) rfl trivial rfl ?_
          refine a_nil ?_
          refine a_next rfl ?_
          refine a_ret ?_
          have hl1615 : LdOk [] (eA64u8 x814) [] 64 true (eA64u8 x814) := (.nil rfl rfl rfl)
          refine ⟨.inr rfl, ?_⟩
          rw [Try.results84]
          cases h
          exact ⟨_, _, _, _, _, ld_own (i := ⟨.arr 64 5, 64, 64, (eA64u8 (vrep 64 (0 : Int)))⟩) rfl rfl rfl hl1615, hl1615.c, .inl ⟨rfl, .inl rfl⟩, rfl, ⟨_, _, _, _, _, rfl, trivial, .inl ⟨rfl, .inl rfl⟩, rfl, rfl⟩⟩
        · have h := hy816
          refine a_seq ?_
          refine a_region ?_
          refine a_val (v := (.int .i64 0)) (u := []) rfl trivial rfl ?_
          refine a_nil ?_
          refine a_next (σ' := ⟨[(0, (.int .i64 a0)), (4, (.own 4 [] [])), (5, (.own 5 [] [])), (6, (.own 6 [] [])), (8, (.int .i64 r9)), (9, (.int .i64 r12)), (10, (.own 10 [] [])), (11, (.int .i64 0))], [(4, some ⟨(eA64u8 a1), false⟩), (5, some ⟨(eA64u8 a2), false⟩), (6, some ⟨(eA64u8 ((vrep 64 (0 : Int)))), false⟩), (10, some ⟨(eA64u8 ((vrep 64 (0 : Int)))), false⟩)]⟩) rfl ?_
          refine a_block ?_
          refine a_loop (emb := fun (s : (Int × (Vec Int 64))) => ⟨[(0, (.int .i64 a0)), (4, (.own 4 [] [])), (5, (.own 5 [] [])), (6, (.own 6 [] [])), (8, (.int .i64 r9)), (9, (.int .i64 r12)), (10, (.own 10 [] [])), (11, (.int .i64 s.1))], [(4, some ⟨(eA64u8 a1), false⟩), (5, some ⟨(eA64u8 a2), false⟩), (6, some ⟨(eA64u8 ((vrep 64 (0 : Int)))), false⟩), (10, some ⟨(eA64u8 s.2), false⟩)]⟩) (body := (fun s : (Int × (Vec Int 64)) => spec_l01Times_l1 r9 r12 a1 a2 a0 s.1 s.2)) (G := fun q => some q = some y815) h rfl ?_ rfl
          rintro X1346 ⟨x1081, x1082⟩ x1347 h hX1348
          have h : spec_l01Times_l1 r9 r12 a1 a2 a0 x1081 x1082 = some x1347 := h
          refine a_st (σ' := ⟨[(0, (.int .i64 a0)), (4, (.own 4 [] [])), (5, (.own 5 [] [])), (6, (.own 6 [] [])), (8, (.int .i64 r9)), (9, (.int .i64 r12)), (10, (.own 10 [] [])), (11, (.int .i64 x1081))], [(4, some ⟨(eA64u8 a1), false⟩), (5, some ⟨(eA64u8 a2), false⟩), (6, some ⟨(eA64u8 ((vrep 64 (0 : Int)))), false⟩), (10, some ⟨(eA64u8 x1082), false⟩)]⟩) rfl ?_
          refine a_seq ?_
          refine a_seq ?_
          refine a_region ?_
          refine a_val (v := (.int .i64 x1081)) (u := []) rfl trivial rfl ?_
          refine a_val (v := (.int .i64 r9)) (u := []) rfl trivial rfl ?_
          refine a_val (v := (.bool ((decide (x1081 ≤ r9))))) (u := []) rfl trivial rfl ?_
          refine a_nil ?_
          refine a_next (σ' := ⟨[(0, (.int .i64 a0)), (4, (.own 4 [] [])), (5, (.own 5 [] [])), (6, (.own 6 [] [])), (8, (.int .i64 r9)), (9, (.int .i64 r12)), (10, (.own 10 [] [])), (11, (.int .i64 x1081)), (32, (.bool ((decide (x1081 ≤ r9)))))], [(4, some ⟨(eA64u8 a1), false⟩), (5, some ⟨(eA64u8 a2), false⟩), (6, some ⟨(eA64u8 ((vrep 64 (0 : Int)))), false⟩), (10, some ⟨(eA64u8 x1082), false⟩)]⟩) rfl ?_
          cases hb1349 : (decide (x1081 ≤ r9))
          · have h := ite_f hb1349 h
            refine a_cond_f rfl ?_
            refine a_exit ?_
            refine t_exit ?_
            cases h
            have h := hX1348
            refine t_exit ?_
            refine b_exit ?_
            exact j_leaf x1082 (Option.some.inj h) rfl
          · have h := ite_t hb1349 h
            refine a_cond_t rfl ?_
            refine a_skip ?_
            refine a_next (σ' := ⟨[(0, (.int .i64 a0)), (4, (.own 4 [] [])), (5, (.own 5 [] [])), (6, (.own 6 [] [])), (8, (.int .i64 r9)), (9, (.int .i64 r12)), (10, (.own 10 [] [])), (11, (.int .i64 x1081))], [(4, some ⟨(eA64u8 a1), false⟩), (5, some ⟨(eA64u8 a2), false⟩), (6, some ⟨(eA64u8 ((vrep 64 (0 : Int)))), false⟩), (10, some ⟨(eA64u8 x1082), false⟩)]⟩) rfl ?_
            obtain ⟨y1480, hy1481, hk1482⟩ := bind_some h
            clear h
            refine a_join (emb := fun (s : (Vec Int 64)) => ⟨[(0, (.int .i64 a0)), (4, (.own 4 [] [])), (5, (.own 5 [] [])), (6, (.own 6 [] [])), (8, (.int .i64 r9)), (9, (.int .i64 r12)), (10, (.own 10 [] [])), (11, (.int .i64 x1081))], [(4, some ⟨(eA64u8 a1), false⟩), (5, some ⟨(eA64u8 a2), false⟩), (6, some ⟨(eA64u8 ((vrep 64 (0 : Int)))), false⟩), (10, some ⟨(eA64u8 s), false⟩)]⟩) (pre := fun s => s = y1480) ?_ ?_
            · rintro x1479 rfl
              have h := hk1482
              refine a_st (σ' := ⟨[(0, (.int .i64 a0)), (4, (.own 4 [] [])), (5, (.own 5 [] [])), (6, (.own 6 [] [])), (8, (.int .i64 r9)), (9, (.int .i64 r12)), (10, (.own 10 [] [])), (11, (.int .i64 x1081))], [(4, some ⟨(eA64u8 a1), false⟩), (5, some ⟨(eA64u8 a2), false⟩), (6, some ⟨(eA64u8 ((vrep 64 (0 : Int)))), false⟩), (10, some ⟨(eA64u8 x1479), false⟩)]⟩) rfl ?_
              refine a_region ?_
              refine a_val (v := (.int .i64 x1081)) (u := []) rfl trivial rfl ?_
              refine a_val (v := (.int .i64 (IntKind.i64.wrap (x1081 + 1)))) (u := []) rfl trivial rfl ?_
              refine a_val (v := (.int .i64 (IntKind.i64.wrap (x1081 + 1)))) (u := []) rfl trivial rfl ?_
              refine a_nil ?_
              cases h
              exact a_again rfl hX1348
            · have h := hy1481
              refine a_block ?_
              refine a_seq ?_
              refine a_region ?_
              refine a_val (v := (.int .i64 0)) (u := []) rfl trivial rfl ?_
              refine a_nil ?_
              refine a_next (σ' := ⟨[(0, (.int .i64 a0)), (4, (.own 4 [] [])), (5, (.own 5 [] [])), (6, (.own 6 [] [])), (8, (.int .i64 r9)), (9, (.int .i64 r12)), (10, (.own 10 [] [])), (11, (.int .i64 x1081)), (12, (.int .i64 0))], [(4, some ⟨(eA64u8 a1), false⟩), (5, some ⟨(eA64u8 a2), false⟩), (6, some ⟨(eA64u8 ((vrep 64 (0 : Int)))), false⟩), (10, some ⟨(eA64u8 x1082), false⟩)]⟩) rfl ?_
              refine a_block ?_
              refine a_loop (emb := fun (s : (Int × (Vec Int 64))) => ⟨[(0, (.int .i64 a0)), (4, (.own 4 [] [])), (5, (.own 5 [] [])), (6, (.own 6 [] [])), (8, (.int .i64 r9)), (9, (.int .i64 r12)), (10, (.own 10 [] [])), (11, (.int .i64 x1081)), (12, (.int .i64 s.1))], [(4, some ⟨(eA64u8 a1), false⟩), (5, some ⟨(eA64u8 a2), false⟩), (6, some ⟨(eA64u8 ((vrep 64 (0 : Int)))), false⟩), (10, some ⟨(eA64u8 s.2), false⟩)]⟩) (body := (fun s : (Int × (Vec Int 64)) => spec_l01Times_l2 r12 x1081 a1 a2 a0 s.1 s.2)) (G := fun q => some q = some y1480) h rfl ?_ rfl
              rintro X1567 ⟨x1524, x1525⟩ x1568 h hX1569
              have h : spec_l01Times_l2 r12 x1081 a1 a2 a0 x1524 x1525 = some x1568 := h
              refine a_st (σ' := ⟨[(0, (.int .i64 a0)), (4, (.own 4 [] [])), (5, (.own 5 [] [])), (6, (.own 6 [] [])), (8, (.int .i64 r9)), (9, (.int .i64 r12)), (10, (.own 10 [] [])), (11, (.int .i64 x1081)), (12, (.int .i64 x1524))], [(4, some ⟨(eA64u8 a1), false⟩), (5, some ⟨(eA64u8 a2), false⟩), (6, some ⟨(eA64u8 ((vrep 64 (0 : Int)))), false⟩), (10, some ⟨(eA64u8 x1525), false⟩)]⟩) rfl ?_
              refine a_seq ?_
              obtain ⟨y1574, hy1575, hk1576⟩ := bind_some h
              clear h
              refine a_join (emb := fun (s : Bool) => ⟨[(0, (.int .i64 a0)), (4, (.own 4 [] [])), (5, (.own 5 [] [])), (6, (.own 6 [] [])), (8, (.int .i64 r9)), (9, (.int .i64 r12)), (10, (.own 10 [] [])), (11, (.int .i64 x1081)), (12, (.int .i64 x1524)), (43, (.bool s))], [(4, some ⟨(eA64u8 a1), false⟩), (5, some ⟨(eA64u8 a2), false⟩), (6, some ⟨(eA64u8 ((vrep 64 (0 : Int)))), false⟩), (10, some ⟨(eA64u8 x1525), false⟩)]⟩) (pre := fun s => s = y1574) ?_ ?_
              · rintro x1573 rfl
                have h := hk1576
                refine a_st (σ' := ⟨[(0, (.int .i64 a0)), (4, (.own 4 [] [])), (5, (.own 5 [] [])), (6, (.own 6 [] [])), (8, (.int .i64 r9)), (9, (.int .i64 r12)), (10, (.own 10 [] [])), (11, (.int .i64 x1081)), (12, (.int .i64 x1524)), (43, (.bool x1573))], [(4, some ⟨(eA64u8 a1), false⟩), (5, some ⟨(eA64u8 a2), false⟩), (6, some ⟨(eA64u8 ((vrep 64 (0 : Int)))), false⟩), (10, some ⟨(eA64u8 x1525), false⟩)]⟩) rfl ?_
                cases hb1580 : x1573
                · have h := ite_f hb1580 h
                  refine a_cond_f rfl ?_
                  refine a_exit ?_
                  refine t_exit ?_
                  cases h
                  have h := hX1569
                  refine t_exit ?_
                  refine b_exit ?_
                  refine b_norm ?_
                  exact j_leaf x1525 (Option.some.inj h) rfl
                · have h := ite_t hb1580 h
                  refine a_cond_t rfl ?_
                  refine a_skip ?_
                  refine a_next (σ' := ⟨[(0, (.int .i64 a0)), (4, (.own 4 [] [])), (5, (.own 5 [] [])), (6, (.own 6 [] [])), (8, (.int .i64 r9)), (9, (.int .i64 r12)), (10, (.own 10 [] [])), (11, (.int .i64 x1081)), (12, (.int .i64 x1524))], [(4, some ⟨(eA64u8 a1), false⟩), (5, some ⟨(eA64u8 a2), false⟩), (6, some ⟨(eA64u8 ((vrep 64 (0 : Int)))), false⟩), (10, some ⟨(eA64u8 x1525), false⟩)]⟩) rfl ?_
                  refine a_seq ?_
                  refine a_block ?_
                  refine a_draw [⟨[], [], [], []⟩, ⟨[], [], [], []⟩, ⟨[], [], [], [0, 1]⟩, ⟨[], [], [], []⟩, ⟨[], [], [], []⟩, ⟨[], [], [], [3, 4]⟩, ⟨[10], [], [10], [3, 4, 5]⟩, ⟨[10], [], [], [3, 4, 5, 6]⟩, ⟨[], [], [], [3, 4, 5, 6, 7]⟩, ⟨[], [], [], []⟩, ⟨[4], [], [4], [9]⟩, ⟨[4], [], [], [9, 10]⟩, ⟨[], [], [], [9, 10, 11]⟩, ⟨[], [], [], []⟩, ⟨[5], [], [5], [13]⟩, ⟨[5], [], [], [13, 14]⟩, ⟨[], [], [], [13, 14, 15]⟩, ⟨[], [], [], [9, 10, 11, 12, 13, 14, 15, 16]⟩, ⟨[], [], [], [3, 4, 5, 6, 7, 8, 9, 10, 11, 12, 13, 14, 15, 16, 17]⟩, ⟨[], [], [], []⟩, ⟨[], [], [], [3, 4, 5, 6, 7, 8, 9, 10, 11, 12, 13, 14, 15, 16, 17, 18, 19]⟩, ⟨[], [], [], [3, 4, 5, 6, 7, 8, 9, 10, 11, 12, 13, 14, 15, 16, 17, 18, 19, 20]⟩, ⟨[10], [], [10], [0, 1, 2, 3, 4, 5, 6, 7, 8, 9, 10, 11, 12, 13, 14, 15, 16, 17, 18, 19, 20, 21]⟩, ⟨[10], [10], [], [0, 1, 2, 3, 4, 5, 6, 7, 8, 9, 10, 11, 12, 13, 14, 15, 16, 17, 18, 19, 20, 21, 22]⟩] (by kernel_rfl) ?_
                  refine d_cons ?_
                  refine a_val (v := (.int .i64 x1081)) (u := []) rfl trivial rfl ?_
                  refine d_next rfl ?_
                  refine d_cons ?_
                  refine a_val (v := (.int .i64 x1524)) (u := []) rfl trivial rfl ?_
                  refine d_next rfl ?_
                  refine d_cons ?_
                  refine a_val (v := (.int .i64 (IntKind.i64.wrap (x1081 + x1524)))) (u := []) rfl trivial rfl ?_
                  refine d_next rfl ?_
                  refine d_cons ?_
                  refine a_val (v := (.int .i64 x1081)) (u := []) rfl trivial rfl ?_
                  refine d_next rfl ?_
                  refine d_cons ?_
                  refine a_val (v := (.int .i64 x1524)) (u := []) rfl trivial rfl ?_
                  refine d_next rfl ?_
                  refine d_cons ?_
                  refine a_val (v := (.int .i64 (IntKind.i64.wrap (x1081 + x1524)))) (u := []) rfl trivial rfl ?_
                  refine d_next rfl ?_
                  refine d_cons ?_
                  obtain ⟨hc1596, h⟩ := ifp_some h
                  refine a_val (v := (.own 10 [(IntKind.i64.wrap (x1081 + x1524)).toNat] [(IntKind.i64.wrap (x1081 + x1524)).toNat * 1])) (u := []) rfl hc1596 rfl ?_
                  refine d_next rfl ?_
                  refine d_cons ?_
                  have hl1597 : LdOk [(IntKind.i64.wrap (x1081 + x1524)).toNat] (eA64u8 x1525) [(IntKind.i64.wrap (x1081 + x1524)).toNat * 1] 1 false (.int .u8 ((rd x1525.1 (IntKind.i64.wrap (x1081 + x1524)).toNat))) := (.arr (vlt x1525 hc1596) rfl (.nil rfl rfl rfl))
                  refine a_val (v := (.int .u8 ((rd x1525.1 (IntKind.i64.wrap (x1081 + x1524)).toNat)))) (u := []) (ld_own (i := ⟨.int .u8, 1, 1, (.int .u8 0)⟩) rfl rfl rfl hl1597) hl1597.c rfl ?_
                  refine d_next rfl ?_
                  refine d_cons ?_
                  obtain ⟨x1598, hx1599, h⟩ := letp_some h
                  refine a_val' (v := (.int .i64 (IntKind.i64.wrap ((rd x1525.1 (IntKind.i64.wrap (x1081 + x1524)).toNat))))) (v' := (.int .i64 x1598)) (u := []) (u' := []) rfl (congrArg (fun z => ((.int .i64 z) : AV)) hx1599) rfl trivial rfl ?_
                  refine d_next rfl ?_
                  refine d_cons ?_
                  refine a_val (v := (.int .i64 x1081)) (u := []) rfl trivial rfl ?_
                  refine d_next rfl ?_
                  refine d_cons ?_
                  obtain ⟨hc1600, h⟩ := ifp_some h
                  refine a_val (v := (.own 4 [x1081.toNat] [x1081.toNat * 1])) (u := []) rfl hc1600 rfl ?_
                  refine d_next rfl ?_
                  refine d_cons ?_
                  have hl1601 : LdOk [x1081.toNat] (eA64u8 a1) [x1081.toNat * 1] 1 false (.int .u8 (rd a1.1 x1081.toNat)) := (.arr (vlt a1 hc1600) rfl (.nil rfl rfl rfl))
                  refine a_val (v := (.int .u8 (rd a1.1 x1081.toNat))) (u := []) (ld_own (i := ⟨.int .u8, 1, 1, (.int .u8 0)⟩) rfl rfl rfl hl1601) hl1601.c rfl ?_
                  refine d_next rfl ?_
                  refine d_cons ?_
                  refine a_val (v := (.int .i64 (IntKind.i64.wrap (rd a1.1 x1081.toNat)))) (u := []) rfl trivial rfl ?_
                  refine d_next rfl ?_
                  refine d_cons ?_
                  refine a_val (v := (.int .i64 x1524)) (u := []) rfl trivial rfl ?_
                  refine d_next rfl ?_
                  refine d_cons ?_
                  obtain ⟨hc1602, h⟩ := ifp_some h
                  refine a_val (v := (.own 5 [x1524.toNat] [x1524.toNat * 1])) (u := []) rfl hc1602 rfl ?_
                  refine d_next rfl ?_
                  refine d_cons ?_
                  have hl1603 : LdOk [x1524.toNat] (eA64u8 a2) [x1524.toNat * 1] 1 false (.int .u8 (rd a2.1 x1524.toNat)) := (.arr (vlt a2 hc1602) rfl (.nil rfl rfl rfl))
                  refine a_val (v := (.int .u8 (rd a2.1 x1524.toNat))) (u := []) (ld_own (i := ⟨.int .u8, 1, 1, (.int .u8 0)⟩) rfl rfl rfl hl1603) hl1603.c rfl ?_
                  refine d_next rfl ?_
                  refine d_cons ?_
                  refine a_val (v := (.int .i64 (IntKind.i64.wrap (rd a2.1 x1524.toNat)))) (u := []) rfl trivial rfl ?_
                  refine d_next rfl ?_
                  refine d_cons ?_
                  obtain ⟨x1604, hx1605, h⟩ := letp_some h
                  refine a_val' (v := (.int .i64 (IntKind.i64.wrap ((IntKind.i64.wrap (rd a1.1 x1081.toNat)) * (IntKind.i64.wrap (rd a2.1 x1524.toNat)))))) (v' := (.int .i64 x1604)) (u := []) (u' := []) rfl (congrArg (fun z => ((.int .i64 z) : AV)) hx1605) rfl trivial rfl ?_
                  refine d_next rfl ?_
                  refine d_cons ?_
                  refine a_val (v := (.int .i64 (IntKind.i64.wrap (x1598 + x1604)))) (u := []) rfl trivial rfl ?_
                  refine d_next rfl ?_
                  refine d_cons ?_
                  refine a_val (v := (.int .i64 a0)) (u := []) rfl trivial rfl ?_
                  refine d_next rfl ?_
                  refine d_cons ?_
                  obtain ⟨hc1606, h⟩ := ifp_some h
                  refine a_val (v := (.int .i64 (Int.tmod (IntKind.i64.wrap (x1598 + x1604)) a0))) (u := []) rfl hc1606 rfl ?_
                  refine d_next rfl ?_
                  refine d_cons ?_
                  obtain ⟨x1607, hx1608, h⟩ := letp_some h
                  refine a_val' (v := (.int .u8 (IntKind.u8.wrap (Int.tmod (IntKind.i64.wrap (x1598 + x1604)) a0)))) (v' := (.int .u8 x1607)) (u := []) (u' := []) rfl (congrArg (fun z => ((.int .u8 z) : AV)) hx1608) rfl trivial rfl ?_
                  refine d_next rfl ?_
                  refine d_cons ?_
                  obtain ⟨hc1609, h⟩ := ifp_some h
                  refine a_val (v := (.own 10 [(IntKind.i64.wrap (x1081 + x1524)).toNat] [(IntKind.i64.wrap (x1081 + x1524)).toNat * 1])) (u := []) rfl hc1609 rfl ?_
                  refine d_next rfl ?_
                  refine d_cons ?_
                  have hs1610 : StOk [(IntKind.i64.wrap (x1081 + x1524)).toNat] (eA64u8 x1525) [(IntKind.i64.wrap (x1081 + x1524)).toNat * 1] 1 (.int .u8 x1607) (eA64u8 ((vset x1525 (IntKind.i64.wrap (x1081 + x1524)).toNat x1607))) := (.arr (y := x1607) (vlt x1525 hc1609) rfl (.nil rfl rfl rfl rfl))
                  refine a_val (v := .top) (u := [(10, some ⟨(eA64u8 ((vset x1525 (IntKind.i64.wrap (x1081 + x1524)).toNat x1607))), false⟩)]) (st_own (i := ⟨.int .u8, 1, 1, (.int .u8 0)⟩) rfl rfl (fun _ => rfl) rfl hs1610) (hs1610.c rfl) rfl ?_
                  refine d_next rfl ?_
                  refine d_nil ?_
                  refine b_norm ?_
                  refine a_next (σ' := ⟨[(0, (.int .i64 a0)), (4, (.own 4 [] [])), (5, (.own 5 [] [])), (6, (.own 6 [] [])), (8, (.int .i64 r9)), (9, (.int .i64 r12)), (10, (.own 10 [] [])), (11, (.int .i64 x1081)), (12, (.int .i64 x1524))], [(4, some ⟨(eA64u8 a1), false⟩), (5, some ⟨(eA64u8 a2), false⟩), (6, some ⟨(eA64u8 ((vrep 64 (0 : Int)))), false⟩), (10, some ⟨(eA64u8 ((vset x1525 (IntKind.i64.wrap (x1081 + x1524)).toNat x1607))), false⟩)]⟩) rfl ?_
                  refine a_region ?_
                  refine a_val (v := (.int .i64 x1524)) (u := []) rfl trivial rfl ?_
                  refine a_val (v := (.int .i64 (IntKind.i64.wrap (x1524 + 1)))) (u := []) rfl trivial rfl ?_
                  refine a_val (v := (.int .i64 (IntKind.i64.wrap (x1524 + 1)))) (u := []) rfl trivial rfl ?_
                  refine a_nil ?_
                  cases h
                  exact a_again rfl hX1569
              · have h := hy1575
                refine a_region ?_
                refine a_val (v := (.int .i64 x1524)) (u := []) rfl trivial rfl ?_
                refine a_val (v := (.int .i64 r12)) (u := []) rfl trivial rfl ?_
                refine a_val (v := (.bool ((decide (x1524 ≤ r12))))) (u := []) rfl trivial rfl ?_
                refine a_val (v := (.bool ((decide (x1524 ≤ r12))))) (u := []) rfl trivial rfl ?_
                cases hb1577 : (decide (x1524 ≤ r12))
                · have h := ite_f hb1577 h
                  refine a_gskip rfl ?_
                  refine a_gskip rfl ?_
                  refine a_gskip rfl ?_
                  refine a_gskip rfl ?_
                  refine a_val (v := (.bool false)) (u := []) rfl trivial rfl ?_
                  refine a_nil ?_
                  exact j_leaf false (Option.some.inj h) rfl
                · have h := ite_t hb1577 h
                  refine a_gval rfl (v := (.int .i64 x1081)) (u := []) rfl trivial rfl ?_
                  obtain ⟨hc1578, h⟩ := ifp_some h
                  refine a_gval rfl (v := (.own 4 [x1081.toNat] [x1081.toNat * 1])) (u := []) rfl hc1578 rfl ?_
                  have hl1579 : LdOk [x1081.toNat] (eA64u8 a1) [x1081.toNat * 1] 1 false (.int .u8 (rd a1.1 x1081.toNat)) := (.arr (vlt a1 hc1578) rfl (.nil rfl rfl rfl))
                  refine a_gval rfl (v := (.int .u8 (rd a1.1 x1081.toNat))) (u := []) (ld_own (i := ⟨.int .u8, 1, 1, (.int .u8 0)⟩) rfl rfl rfl hl1579) hl1579.c rfl ?_
                  refine a_gval rfl (v := (.bool (((rd a1.1 x1081.toNat) != 0)))) (u := []) rfl trivial rfl ?_
                  refine a_val (v := (.bool (((rd a1.1 x1081.toNat) != 0)))) (u := []) rfl trivial rfl ?_
                  refine a_nil ?_
                  exact j_leaf (((rd a1.1 x1081.toNat) != 0)) (Option.some.inj h) rfl
      · have h := ite_t hb22 h
        refine a_cond_t rfl ?_
        refine a_seq ?_
        refine a_region ?_
        have hl1616 : LdOk [] (eA64u8 ((vrep 64 (0 : Int)))) [] 64 true (eA64u8 ((vrep 64 (0 : Int)))) := (.nil rfl rfl rfl)
        refine a_val (v := (eA64u8 ((vrep 64 (0 : Int))))) (u := []) (ld_own (i := ⟨.arr 64 5, 64, 64, (eA64u8 (vrep 64 (0 : Int)))⟩) rfl rfl rfl hl1616) hl1616.c rfl ?_
        have hs1617 : StOk [] (eA64u8 ((vrep 64 (0 : Int)))) [] 64 (eA64u8 ((vrep 64 (0 : Int)))) (eA64u8 ((vrep 64 (0 : Int)))) := (.nil rfl rfl rfl rfl)
        refine a_val (v := .top) (u := [(6, some ⟨(eA64u8 ((vrep 64 (0 : Int)))), false⟩)]) (st_own (i := ⟨.arr 64 5, 64, 64, (eA64u8 (vrep 64 (0 : Int)))⟩) rfl rfl (fun _ => rfl) rfl hs1617) (hs1617.c rfl) rfl ?_
        refine a_val (v := (.bool false)) (u := []) rfl trivial rfl ?_
        refine a_nil ?_
        refine a_next rfl ?_
        refine a_ret ?_
        refine t_ret ?_
        have hl1618 : LdOk [] (eA64u8 ((vrep 64 (0 : Int)))) [] 64 true (eA64u8 ((vrep 64 (0 : Int)))) := (.nil rfl rfl rfl)
        refine ⟨.inr rfl, ?_⟩
        rw [Try.results84]
        cases h
        exact ⟨_, _, _, _, _, ld_own (i := ⟨.arr 64 5, 64, 64, (eA64u8 (vrep 64 (0 : Int)))⟩) rfl rfl rfl hl1618, hl1618.c, .inl ⟨rfl, .inl rfl⟩, rfl, ⟨_, _, _, _, _, rfl, trivial, .inl ⟨rfl, .inl rfl⟩, rfl, rfl⟩⟩
    · have h := ite_t hb21 h
      refine a_cond_t rfl ?_
      refine a_seq ?_
      refine a_region ?_
      have hl1619 : LdOk [] (eA64u8 ((vrep 64 (0 : Int)))) [] 64 true (eA64u8 ((vrep 64 (0 : Int)))) := (.nil rfl rfl rfl)
      refine a_val (v := (eA64u8 ((vrep 64 (0 : Int))))) (u := []) (ld_own (i := ⟨.arr 64 5, 64, 64, (eA64u8 (vrep 64 (0 : Int)))⟩) rfl rfl rfl hl1619) hl1619.c rfl ?_
      have hs1620 : StOk [] (eA64u8 ((vrep 64 (0 : Int)))) [] 64 (eA64u8 ((vrep 64 (0 : Int)))) (eA64u8 ((vrep 64 (0 : Int)))) := (.nil rfl rfl rfl rfl)
      refine a_val (v := .top) (u := [(6, some ⟨(eA64u8 ((vrep 64 (0 : Int)))), false⟩)]) (st_own (i := ⟨.arr 64 5, 64, 64, (eA64u8 (vrep 64 (0 : Int)))⟩) rfl rfl (fun _ => rfl) rfl hs1620) (hs1620.c rfl) rfl ?_
      refine a_val (v := (.bool true)) (u := []) rfl trivial rfl ?_
      refine a_nil ?_
      refine a_next rfl ?_
      refine a_ret ?_
      refine t_ret ?_
      have hl1621 : LdOk [] (eA64u8 ((vrep 64 (0 : Int)))) [] 64 true (eA64u8 ((vrep 64 (0 : Int)))) := (.nil rfl rfl rfl)
      refine ⟨.inr rfl, ?_⟩
      rw [Try.results84]
      cases h
      exact ⟨_, _, _, _, _, ld_own (i := ⟨.arr 64 5, 64, 64, (eA64u8 (vrep 64 (0 : Int)))⟩) rfl rfl rfl hl1621, hl1621.c, .inl ⟨rfl, .inl rfl⟩, rfl, ⟨_, _, _, _, _, rfl, trivial, .inl ⟨rfl, .inl rfl⟩, rfl, rfl⟩⟩
  · have h := hy18
    refine a_region ?_
    refine a_val (v := (.int .i64 r9)) (u := []) rfl trivial rfl ?_
    refine a_val (v := (.bool ((decide (r9 < 0))))) (u := []) rfl trivial rfl ?_
    refine a_val (v := (.bool ((decide (r9 < 0))))) (u := []) rfl trivial rfl ?_
    cases hb20 : (decide (r9 < 0))
    · have h := ite_f hb20 h
      refine a_gval rfl (v := (.int .i64 r12)) (u := []) rfl trivial rfl ?_
      refine a_gval rfl (v := (.bool ((decide (r12 < 0))))) (u := []) rfl trivial rfl ?_
      refine a_val (v := (.bool ((decide (r12 < 0))))) (u := []) rfl trivial rfl ?_
      refine a_nil ?_
      exact j_leaf ((decide (r12 < 0))) (Option.some.inj h) rfl
    · have h := ite_t hb20 h
      refine a_gskip rfl ?_
      refine a_gskip rfl ?_
      refine a_val (v := (.bool true)) (u := []) rfl trivial rfl ?_
      refine a_nil ?_
      exact j_leaf true (Option.some.inj h) rfl
def spec_l08Power_c : ACode := (.seq (.region 0 [⟨some 4, .box 23 (.tmp 1), none, []⟩, ⟨some 6, .alloc 23, none, []⟩, ⟨some 7, .asg 0 (.const (.bool false)) 4, none, []⟩] false) (.seq (.region 1 [⟨some 11, .call 0 (.func 102) [], none, []⟩, ⟨some 8, .alloc 23, none, []⟩, ⟨none, .store 23 (.tmp 8) (.tmp 11), none, []⟩] false) (.seq (.block 0 (.loop (.seq (.seq (.region 2 [⟨some 12, .mov (.tmp 2), none, []⟩, ⟨some 13, .bin .gtr 2 (.tmp 12) (.const (.int .i64 0)), none, []⟩] false) (.cond (.tmp 13) .skip (.exit 0))) (.seq (.block 1 (.seq (.region 4 [⟨some 17, .mov (.tmp 0), none, []⟩, ⟨some 18, .load 23 (.tmp 8), none, []⟩, ⟨some 19, .load 23 (.tmp 4), none, []⟩, ⟨some 20, .call 0 (.func 84) [(.tmp 17), (.tmp 18), (.tmp 19)], none, []⟩, ⟨some 16, .mov (.tmp 20), none, []⟩, ⟨some 21, .extract (.tmp 16) 0, none, []⟩, ⟨some 22, .extract (.tmp 16) 1, none, []⟩, ⟨some 9, .alloc 23, none, []⟩, ⟨none, .store 23 (.tmp 9) (.tmp 21), none, []⟩, ⟨some 10, .asg 0 (.tmp 22) 4, none, []⟩] false) (.seq (.seq (.region 5 [⟨some 23, .mov (.tmp 10), none, []⟩, ⟨some 24, .un .not (.tmp 23), none, []⟩] false) (.cond (.tmp 24) (.seq (.region 6 [⟨some 25, .build 23 [], none, []⟩, ⟨none, .store 23 (.tmp 6) (.tmp 25), none, []⟩, ⟨some 7, .asg 0 (.const (.bool false)) 4, none, []⟩] false) .ret) .skip)) (.region 7 [⟨some 26, .load 23 (.tmp 9), none, []⟩, ⟨none, .store 23 (.tmp 8) (.tmp 26), none, []⟩] false)))) (.region 3 [⟨some 14, .mov (.tmp 2), none, []⟩, ⟨some 15, .bin .sub 2 (.tmp 14) (.const (.int .i64 1)), none, []⟩, ⟨some 2, .asg 0 (.tmp 15) 2, none, []⟩] false))))) (.seq (.region 8 [⟨some 27, .load 23 (.tmp 8), none, []⟩, ⟨none, .store 23 (.tmp 6) (.tmp 27), none, []⟩, ⟨some 7, .asg 0 (.const (.bool true)) 4, none, []⟩] false) .ret))))
def spec_l08Power_L : Live := [(0, [0, 1, 2]), (1, [0, 2, 4, 6]), (2, [0, 2, 4, 6, 8]), (3, [0, 2, 4, 6, 8]), (4, [0, 2, 4, 6, 8]), (5, [0, 2, 4, 6, 8, 9, 10]), (6, [6]), (7, [0, 2, 4, 6, 8, 9]), (8, [6, 8]), (100013, [0, 2, 4, 6, 8, 13]), (100024, [0, 2, 4, 6, 8, 9, 24])]
theorem spec_l08Power_body : Try.f122.body = some (Try.f122.body.getD .skip) := by kernel_rfl
theorem spec_l08Power_strip : strip [] (Try.f122.body.getD .skip) = spec_l08Power_c := by kernel_rfl
noncomputable def spec_l08Power_l1 (a0 : Int) (a1 : (Vec Int 64)) (x54 : Int) (x55 : (Vec Int 64)) : Option ((Int × (Vec Int 64)) ⊕ ((Vec Int 64) ⊕ ((Vec Int 64) × Bool))) :=
  (if (decide (x54 > 0)) then (Option.bind (spec_l01Times a0 x55 a1) fun r72 => (if (!r72.2) then (some (.inr ((.inr ((((vrep 64 (0 : Int)), false))))))) else (some (.inl ((IntKind.i64.wrap (x54 - 1), r72.1)))))) else (some (.inr (.inl x55))))
noncomputable def spec_l08Power (a0 : Int) (a1 : (Vec Int 64)) (a2 : Int) : Option ((Vec Int 64) × Bool) :=
  (Option.bind (spec_l01One) fun r1 => (Option.bind ((loopM (fun s : (Int × (Vec Int 64)) => spec_l08Power_l1 a0 a1 s.1 s.2) (a2, r1))) fun z => match z with | .inl x40 => (some (x40, true)) | .inr r84 => (some r84)))
set_option maxHeartbeats 16000000 in
theorem spec_l08Power_ok (a0 : Int) (a1 : (Vec Int 64)) (a2 : Int) (r : ((Vec Int 64) × Bool)) (h : spec_l08Power a0 a1 a2 = some r) : Den Try.prog 122 [(.int .i64 a0), (eA64u8 a1), (.int .i64 a2)] { r := (.tuple [(eA64u8 r.1), (.bool r.2)]) } := by
  refine den_of (rs := [(eA64u8 r.1), (.bool r.2)]) (ac := spec_l08Power_c) (L := spec_l08Power_L) (n := 28) (m := []) good Try.func122 spec_l08Power_body (by kernel_rfl) Try.ntmps122 rfl rfl spec_l08Power_strip rfl rfl ?_
  refine a_st (σ' := ⟨[(0, (.int .i64 a0)), (1, (eA64u8 a1)), (2, (.int .i64 a2))], []⟩) rfl ?_
  unfold spec_l08Power_c
  refine a_seq ?_
  refine a_region ?_
  refine a_val (v := (.own 1400 [] [])) (u := [(1400, some ⟨(eA64u8 a1), false⟩)]) rfl trivial rfl ?_
  refine a_val (v := (.own 1600 [] [])) (u := [(1600, some ⟨(eA64u8 ((vrep 64 (0 : Int)))), false⟩)]) rfl trivial rfl ?_
  refine a_val (v := (.bool false)) (u := []) rfl trivial rfl ?_
  refine a_nil ?_
  refine a_next (σ' := ⟨[(0, (.int .i64 a0)), (2, (.int .i64 a2)), (4, (.own 4 [] [])), (6, (.own 6 [] []))], [(4, some ⟨(eA64u8 a1), false⟩), (6, some ⟨(eA64u8 ((vrep 64 (0 : Int)))), false⟩)]⟩) rfl ?_
  refine a_seq ?_
  refine a_region ?_
  obtain ⟨r1, hr2, h⟩ := bind_some h
  refine a_call (args := []) (u := []) (r := (eA64u8 r1)) rfl rfl (spec_l01One_ok r1 hr2) rfl ?_
  refine a_val (v := (.own 1800 [] [])) (u := [(1800, some ⟨(eA64u8 ((vrep 64 (0 : Int)))), false⟩)]) rfl trivial rfl ?_
  have hs3 : StOk [] (eA64u8 ((vrep 64 (0 : Int)))) [] 64 (eA64u8 r1) (eA64u8 r1) := (.nil rfl rfl rfl rfl)
  refine a_val (v := .top) (u := [(1800, some ⟨(eA64u8 r1), false⟩)]) (st_own (i := ⟨.arr 64 5, 64, 64, (eA64u8 (vrep 64 (0 : Int)))⟩) rfl rfl (fun _ => rfl) rfl hs3) (hs3.c rfl) rfl ?_
  refine a_nil ?_
  refine a_next (σ' := ⟨[(0, (.int .i64 a0)), (2, (.int .i64 a2)), (4, (.own 4 [] [])), (6, (.own 6 [] [])), (8, (.own 8 [] []))], [(4, some ⟨(eA64u8 a1), false⟩), (6, some ⟨(eA64u8 ((vrep 64 (0 : Int)))), false⟩), (8, some ⟨(eA64u8 r1), false⟩)]⟩) rfl ?_
  obtain ⟨y41, hy42, hk43⟩ := bind_some h
  clear h
  refine a_join (emb := fun (s : (Vec Int 64)) => ⟨[(6, (.own 6 [] [])), (8, (.own 8 [] []))], [(6, some ⟨(eA64u8 ((vrep 64 (0 : Int)))), false⟩), (8, some ⟨(eA64u8 s), false⟩)]⟩) (pre := fun s => (.inl s) = y41) ?_ ?_
  · rintro x40 rfl
    have h := hk43
    refine a_st (σ' := ⟨[(6, (.own 6 [] [])), (8, (.own 8 [] []))], [(6, some ⟨(eA64u8 ((vrep 64 (0 : Int)))), false⟩), (8, some ⟨(eA64u8 x40), false⟩)]⟩) rfl ?_
    refine a_seq ?_
    refine a_region ?_
    have hl81 : LdOk [] (eA64u8 x40) [] 64 true (eA64u8 x40) := (.nil rfl rfl rfl)
    refine a_val (v := (eA64u8 x40)) (u := []) (ld_own (i := ⟨.arr 64 5, 64, 64, (eA64u8 (vrep 64 (0 : Int)))⟩) rfl rfl rfl hl81) hl81.c rfl ?_
    have hs82 : StOk [] (eA64u8 ((vrep 64 (0 : Int)))) [] 64 (eA64u8 x40) (eA64u8 x40) := (.nil rfl rfl rfl rfl)
    refine a_val (v := .top) (u := [(6, some ⟨(eA64u8 x40), false⟩)]) (st_own (i := ⟨.arr 64 5, 64, 64, (eA64u8 (vrep 64 (0 : Int)))⟩) rfl rfl (fun _ => rfl) rfl hs82) (hs82.c rfl) rfl ?_
    refine a_val (v := (.bool true)) (u := []) rfl trivial rfl ?_
    refine a_nil ?_
    refine a_next rfl ?_
    refine a_ret ?_
    have hl83 : LdOk [] (eA64u8 x40) [] 64 true (eA64u8 x40) := (.nil rfl rfl rfl)
    refine ⟨.inr rfl, ?_⟩
    rw [Try.results122]
    cases h
    exact ⟨_, _, _, _, _, ld_own (i := ⟨.arr 64 5, 64, 64, (eA64u8 (vrep 64 (0 : Int)))⟩) rfl rfl rfl hl83, hl83.c, .inl ⟨rfl, .inl rfl⟩, rfl, ⟨_, _, _, _, _, rfl, trivial, .inl ⟨rfl, .inl rfl⟩, rfl, rfl⟩⟩
  · have h := hy42
    refine a_block ?_
    refine a_loop (emb := fun (s : (Int × (Vec Int 64))) => ⟨[(0, (.int .i64 a0)), (2, (.int .i64 s.1)), (4, (.own 4 [] [])), (6, (.own 6 [] [])), (8, (.own 8 [] []))], [(4, some ⟨(eA64u8 a1), false⟩), (6, some ⟨(eA64u8 ((vrep 64 (0 : Int)))), false⟩), (8, some ⟨(eA64u8 s.2), false⟩)]⟩) (body := (fun s : (Int × (Vec Int 64)) => spec_l08Power_l1 a0 a1 s.1 s.2)) (G := fun q => some q = some y41) h rfl ?_ rfl
    rintro X66 ⟨x54, x55⟩ x67 h hX68
    have h : spec_l08Power_l1 a0 a1 x54 x55 = some x67 := h
    refine a_st (σ' := ⟨[(0, (.int .i64 a0)), (2, (.int .i64 x54)), (4, (.own 4 [] [])), (6, (.own 6 [] [])), (8, (.own 8 [] []))], [(4, some ⟨(eA64u8 a1), false⟩), (6, some ⟨(eA64u8 ((vrep 64 (0 : Int)))), false⟩), (8, some ⟨(eA64u8 x55), false⟩)]⟩) rfl ?_
    refine a_seq ?_
    refine a_seq ?_
    refine a_region ?_
    refine a_val (v := (.int .i64 x54)) (u := []) rfl trivial rfl ?_
    refine a_val (v := (.bool ((decide (x54 > 0))))) (u := []) rfl trivial rfl ?_
    refine a_nil ?_
    refine a_next (σ' := ⟨[(0, (.int .i64 a0)), (2, (.int .i64 x54)), (4, (.own 4 [] [])), (6, (.own 6 [] [])), (8, (.own 8 [] [])), (13, (.bool ((decide (x54 > 0)))))], [(4, some ⟨(eA64u8 a1), false⟩), (6, some ⟨(eA64u8 ((vrep 64 (0 : Int)))), false⟩), (8, some ⟨(eA64u8 x55), false⟩)]⟩) rfl ?_
    cases hb69 : (decide (x54 > 0))
    · have h := ite_f hb69 h
      refine a_cond_f rfl ?_
      refine a_exit ?_
      refine t_exit ?_
      cases h
      have h := hX68
      refine t_exit ?_
      refine b_exit ?_
      exact j_leaf x55 (Option.some.inj h) rfl
    · have h := ite_t hb69 h
      refine a_cond_t rfl ?_
      refine a_skip ?_
      refine a_next (σ' := ⟨[(0, (.int .i64 a0)), (2, (.int .i64 x54)), (4, (.own 4 [] [])), (6, (.own 6 [] [])), (8, (.own 8 [] []))], [(4, some ⟨(eA64u8 a1), false⟩), (6, some ⟨(eA64u8 ((vrep 64 (0 : Int)))), false⟩), (8, some ⟨(eA64u8 x55), false⟩)]⟩) rfl ?_
      refine a_seq ?_
      refine a_block ?_
      refine a_seq ?_
      refine a_region ?_
      refine a_val (v := (.int .i64 a0)) (u := []) rfl trivial rfl ?_
      have hl70 : LdOk [] (eA64u8 x55) [] 64 true (eA64u8 x55) := (.nil rfl rfl rfl)
      refine a_val (v := (eA64u8 x55)) (u := []) (ld_own (i := ⟨.arr 64 5, 64, 64, (eA64u8 (vrep 64 (0 : Int)))⟩) rfl rfl rfl hl70) hl70.c rfl ?_
      have hl71 : LdOk [] (eA64u8 a1) [] 64 true (eA64u8 a1) := (.nil rfl rfl rfl)
      refine a_val (v := (eA64u8 a1)) (u := []) (ld_own (i := ⟨.arr 64 5, 64, 64, (eA64u8 (vrep 64 (0 : Int)))⟩) rfl rfl rfl hl71) hl71.c rfl ?_
      obtain ⟨r72, hr73, h⟩ := bind_some h
      refine a_call (args := [(.int .i64 a0), (eA64u8 x55), (eA64u8 a1)]) (u := []) (r := (.tuple [(eA64u8 r72.1), (.bool r72.2)])) rfl rfl (spec_l01Times_ok a0 x55 a1 r72 hr73) rfl ?_
      refine a_val (v := (.tuple [(eA64u8 r72.1), (.bool r72.2)])) (u := []) rfl trivial rfl ?_
      refine a_val (v := (eA64u8 r72.1)) (u := []) rfl (Nat.le_of_ble_eq_true rfl) rfl ?_
      refine a_val (v := (.bool r72.2)) (u := []) rfl (Nat.le_of_ble_eq_true rfl) rfl ?_
      refine a_val (v := (.own 1900 [] [])) (u := [(1900, some ⟨(eA64u8 ((vrep 64 (0 : Int)))), false⟩)]) rfl trivial rfl ?_
      have hs74 : StOk [] (eA64u8 ((vrep 64 (0 : Int)))) [] 64 (eA64u8 r72.1) (eA64u8 r72.1) := (.nil rfl rfl rfl rfl)
      refine a_val (v := .top) (u := [(1900, some ⟨(eA64u8 r72.1), false⟩)]) (st_own (i := ⟨.arr 64 5, 64, 64, (eA64u8 (vrep 64 (0 : Int)))⟩) rfl rfl (fun _ => rfl) rfl hs74) (hs74.c rfl) rfl ?_
      refine a_val (v := (.bool r72.2)) (u := []) rfl trivial rfl ?_
      refine a_nil ?_
      refine a_next (σ' := ⟨[(0, (.int .i64 a0)), (2, (.int .i64 x54)), (4, (.own 4 [] [])), (6, (.own 6 [] [])), (8, (.own 8 [] [])), (9, (.own 9 [] [])), (10, (.bool r72.2))], [(4, some ⟨(eA64u8 a1), false⟩), (6, some ⟨(eA64u8 ((vrep 64 (0 : Int)))), false⟩), (8, some ⟨(eA64u8 x55), false⟩), (9, some ⟨(eA64u8 r72.1), false⟩)]⟩) rfl ?_
      refine a_seq ?_
      refine a_seq ?_
      refine a_region ?_
      refine a_val (v := (.bool r72.2)) (u := []) rfl trivial rfl ?_
      refine a_val (v := (.bool (!r72.2))) (u := []) rfl trivial rfl ?_
      refine a_nil ?_
      refine a_next (σ' := ⟨[(0, (.int .i64 a0)), (2, (.int .i64 x54)), (4, (.own 4 [] [])), (6, (.own 6 [] [])), (8, (.own 8 [] [])), (9, (.own 9 [] [])), (24, (.bool (!r72.2)))], [(4, some ⟨(eA64u8 a1), false⟩), (6, some ⟨(eA64u8 ((vrep 64 (0 : Int)))), false⟩), (8, some ⟨(eA64u8 x55), false⟩), (9, some ⟨(eA64u8 r72.1), false⟩)]⟩) rfl ?_
      cases hb75 : (!r72.2)
      · have h := ite_f hb75 h
        refine a_cond_f rfl ?_
        refine a_skip ?_
        refine a_next (σ' := ⟨[(0, (.int .i64 a0)), (2, (.int .i64 x54)), (4, (.own 4 [] [])), (6, (.own 6 [] [])), (8, (.own 8 [] [])), (9, (.own 9 [] []))], [(4, some ⟨(eA64u8 a1), false⟩), (6, some ⟨(eA64u8 ((vrep 64 (0 : Int)))), false⟩), (8, some ⟨(eA64u8 x55), false⟩), (9, some ⟨(eA64u8 r72.1), false⟩)]⟩) rfl ?_
        refine a_region ?_
        have hl76 : LdOk [] (eA64u8 r72.1) [] 64 true (eA64u8 r72.1) := (.nil rfl rfl rfl)
        refine a_val (v := (eA64u8 r72.1)) (u := []) (ld_own (i := ⟨.arr 64 5, 64, 64, (eA64u8 (vrep 64 (0 : Int)))⟩) rfl rfl rfl hl76) hl76.c rfl ?_
        have hs77 : StOk [] (eA64u8 x55) [] 64 (eA64u8 r72.1) (eA64u8 r72.1) := (.nil rfl rfl rfl rfl)
        refine a_val (v := .top) (u := [(8, some ⟨(eA64u8 r72.1), false⟩)]) (st_own (i := ⟨.arr 64 5, 64, 64, (eA64u8 (vrep 64 (0 : Int)))⟩) rfl rfl (fun _ => rfl) rfl hs77) (hs77.c rfl) rfl ?_
        refine a_nil ?_
        refine b_norm ?_
        refine a_next (σ' := ⟨[(0, (.int .i64 a0)), (2, (.int .i64 x54)), (4, (.own 4 [] [])), (6, (.own 6 [] [])), (8, (.own 8 [] []))], [(4, some ⟨(eA64u8 a1), false⟩), (6, some ⟨(eA64u8 ((vrep 64 (0 : Int)))), false⟩), (8, some ⟨(eA64u8 r72.1), false⟩)]⟩) rfl ?_
        refine a_region ?_
        refine a_val (v := (.int .i64 x54)) (u := []) rfl trivial rfl ?_
        refine a_val (v := (.int .i64 (IntKind.i64.wrap (x54 - 1)))) (u := []) rfl trivial rfl ?_
        refine a_val (v := (.int .i64 (IntKind.i64.wrap (x54 - 1)))) (u := []) rfl trivial rfl ?_
        refine a_nil ?_
        cases h
        exact a_again rfl hX68
      · have h := ite_t hb75 h
        refine a_cond_t rfl ?_
        refine a_seq ?_
        refine a_region ?_
        refine a_val (v := (eA64u8 ((vrep 64 (0 : Int))))) (u := []) rfl ⟨⟨_, rfl, rfl⟩, all_nil⟩ rfl ?_
        have hs78 : StOk [] (eA64u8 ((vrep 64 (0 : Int)))) [] 64 (eA64u8 ((vrep 64 (0 : Int)))) (eA64u8 ((vrep 64 (0 : Int)))) := (.nil rfl rfl rfl rfl)
        refine a_val (v := .top) (u := [(6, some ⟨(eA64u8 ((vrep 64 (0 : Int)))), false⟩)]) (st_own (i := ⟨.arr 64 5, 64, 64, (eA64u8 (vrep 64 (0 : Int)))⟩) rfl rfl (fun _ => rfl) rfl hs78) (hs78.c rfl) rfl ?_
        refine a_val (v := (.bool false)) (u := []) rfl trivial rfl ?_
        refine a_nil ?_
        refine a_next rfl ?_
        refine a_ret ?_
        refine t_ret ?_
        refine b_ret ?_
        refine t_ret ?_
        cases h
        have h := hX68
        refine t_ret ?_
        refine b_ret ?_
        refine t_ret ?_
        cases h
        have h := hk43
        have hl79 : LdOk [] (eA64u8 ((vrep 64 (0 : Int)))) [] 64 true (eA64u8 ((vrep 64 (0 : Int)))) := (.nil rfl rfl rfl)
        refine ⟨.inr rfl, ?_⟩
        rw [Try.results122]
        cases h
        exact ⟨_, _, _, _, _, ld_own (i := ⟨.arr 64 5, 64, 64, (eA64u8 (vrep 64 (0 : Int)))⟩) rfl rfl rfl hl79, hl79.c, .inl ⟨rfl, .inl rfl⟩, rfl, ⟨_, _, _, _, _, rfl, trivial, .inl ⟨rfl, .inl rfl⟩, rfl, rfl⟩⟩
def spec_l01Add_c : ACode := (.seq (.region 0 [⟨some 5, .box 23 (.tmp 1), none, []⟩, ⟨some 6, .box 23 (.tmp 2), none, []⟩, ⟨some 8, .alloc 23, none, []⟩] false) (.seq (.seq (.region 1 [⟨some 9, .asg 0 (.const (.int .i64 0)) 3, none, []⟩] false) (.block 0 (.loop (.seq (.seq (.region 2 [⟨some 10, .mov (.tmp 9), none, []⟩, ⟨some 11, .bin .lss 3 (.tmp 10) (.const (.int .i64 64)), none, []⟩] false) (.cond (.tmp 11) .skip (.exit 0))) (.seq (.block 1 (.region 4 [⟨some 14, .mov (.tmp 9), none, []⟩, ⟨some 15, .mov (.tmp 9), none, []⟩, ⟨some 16, .indexAddr 23 (.tmp 5) (.tmp 15), none, [1]⟩, ⟨some 17, .load 5 (.tmp 16), none, [2]⟩, ⟨some 18, .conv 5 2 (.tmp 17), none, [3]⟩, ⟨some 19, .mov (.tmp 3), none, []⟩, ⟨some 20, .mov (.tmp 9), none, []⟩, ⟨some 21, .indexAddr 23 (.tmp 6) (.tmp 20), none, [6]⟩, ⟨some 22, .load 5 (.tmp 21), none, [7]⟩, ⟨some 23, .conv 5 2 (.tmp 22), none, [8]⟩, ⟨some 24, .bin .mul 2 (.tmp 19) (.tmp 23), none, [5, 9]⟩, ⟨some 25, .bin .add 2 (.tmp 18) (.tmp 24), none, [4, 10]⟩, ⟨some 26, .mov (.tmp 0), none, []⟩, ⟨some 27, .bin .rem 2 (.tmp 25) (.tmp 26), none, [11, 12]⟩, ⟨some 28, .mov (.tmp 0), none, []⟩, ⟨some 29, .bin .add 2 (.tmp 27) (.tmp 28), none, [13, 14]⟩, ⟨some 30, .mov (.tmp 0), none, []⟩, ⟨some 31, .bin .rem 2 (.tmp 29) (.tmp 30), none, [15, 16]⟩, ⟨some 32, .conv 2 5 (.tmp 31), none, [17]⟩, ⟨some 33, .indexAddr 23 (.tmp 5) (.tmp 14), none, [0, 0, 1, 2, 3, 4, 5, 6, 7, 8, 9, 10, 11, 12, 13, 14, 15, 16, 17, 18]⟩, ⟨none, .store 5 (.tmp 33) (.tmp 32), none, [19, 18, 0, 1, 2, 3, 4, 5, 6, 7, 8, 9, 10, 11, 12, 13, 14, 15, 16, 17, 18]⟩] true)) (.region 3 [⟨some 12, .mov (.tmp 9), none, []⟩, ⟨some 13, .bin .add 3 (.tmp 12) (.const (.int .i64 1)), none, []⟩, ⟨some 9, .asg 0 (.tmp 13) 3, none, []⟩] false)))))) (.seq (.region 5 [⟨some 34, .load 23 (.tmp 5), none, []⟩, ⟨none, .store 23 (.tmp 8) (.tmp 34), none, []⟩] false) .ret)))
def spec_l01Add_L : Live := [(0, [0, 1, 2, 3]), (1, [0, 3, 5, 6, 8]), (2, [0, 3, 5, 6, 8, 9]), (3, [0, 3, 5, 6, 8, 9]), (4, [0, 3, 5, 6, 8, 9]), (5, [5, 8]), (100011, [0, 3, 5, 6, 8, 9, 11])]
theorem spec_l01Add_body : Try.f123.body = some (Try.f123.body.getD .skip) := by kernel_rfl
theorem spec_l01Add_strip : strip [] (Try.f123.body.getD .skip) = spec_l01Add_c := by kernel_rfl
noncomputable def spec_l01Add_l1 (a3 : Int) (a2 : (Vec Int 64)) (a0 : Int) (x119 : Int) (x120 : (Vec Int 64)) : Option ((Int × (Vec Int 64)) ⊕ (Vec Int 64)) :=
  (if (decide (x119 < 64)) then (ifp (0 ≤ x119 ∧ x119 < ((64 : Nat) : Int)) ((ifp (0 ≤ x119 ∧ x119 < ((64 : Nat) : Int)) ((letp (IntKind.i64.wrap (a3 * (IntKind.i64.wrap (rd a2.1 x119.toNat)))) fun x172 => (letp (IntKind.i64.wrap ((IntKind.i64.wrap (rd x120.1 x119.toNat)) + x172)) fun x174 => (ifp (a0 ≠ 0) ((ifp (a0 ≠ 0) ((letp (IntKind.u8.wrap (Int.tmod (IntKind.i64.wrap ((Int.tmod x174 a0) + a0)) a0)) fun x178 => (ifp (0 ≤ x119 ∧ x119 < ((64 : Nat) : Int)) ((some (.inl ((IntKind.i64.wrap (x119 + 1), (vset x120 x119.toNat x178)))))))))))))))))) else (some (.inr x120)))
noncomputable def spec_l01Add (a0 : Int) (a1 : (Vec Int 64)) (a2 : (Vec Int 64)) (a3 : Int) : Option (Vec Int 64) :=
  (Option.bind ((loopM (fun s : (Int × (Vec Int 64)) => spec_l01Add_l1 a3 a2 a0 s.1 s.2) (0, a1))) fun x90 => (some x90))
set_option maxHeartbeats 16000000 in
theorem spec_l01Add_ok (a0 : Int) (a1 : (Vec Int 64)) (a2 : (Vec Int 64)) (a3 : Int) (r : (Vec Int 64)) (h : spec_l01Add a0 a1 a2 a3 = some r) : Den Try.prog 123 [(.int .i64 a0), (eA64u8 a1), (eA64u8 a2), (.int .i64 a3)] { r := (eA64u8 r) } := by
  refine den_of (rs := [(eA64u8 r)]) (ac := spec_l01Add_c) (L := spec_l01Add_L) (n := 35) (m := []) good Try.func123 spec_l01Add_body (by kernel_rfl) Try.ntmps123 rfl rfl spec_l01Add_strip rfl rfl ?_
  refine a_st (σ' := ⟨[(0, (.int .i64 a0)), (1, (eA64u8 a1)), (2, (eA64u8 a2)), (3, (.int .i64 a3))], []⟩) rfl ?_
  unfold spec_l01Add_c
  refine a_seq ?_
  refine a_region ?_
  refine a_val (v := (.own 1500 [] [])) (u := [(1500, some ⟨(eA64u8 a1), false⟩)]) rfl trivial rfl ?_
  refine a_val (v := (.own 1600 [] [])) (u := [(1600, some ⟨(eA64u8 a2), false⟩)]) rfl trivial rfl ?_
  refine a_val (v := (.own 1800 [] [])) (u := [(1800, some ⟨(eA64u8 ((vrep 64 (0 : Int)))), false⟩)]) rfl trivial rfl ?_
  refine a_nil ?_
  refine a_next (σ' := ⟨[(0, (.int .i64 a0)), (3, (.int .i64 a3)), (5, (.own 5 [] [])), (6, (.own 6 [] [])), (8, (.own 8 [] []))], [(5, some ⟨(eA64u8 a1), false⟩), (6, some ⟨(eA64u8 a2), false⟩), (8, some ⟨(eA64u8 ((vrep 64 (0 : Int)))), false⟩)]⟩) rfl ?_
  obtain ⟨y91, hy92, hk93⟩ := bind_some h
  clear h
  refine a_join (emb := fun (s : (Vec Int 64)) => ⟨[(5, (.own 5 [] [])), (8, (.own 8 [] []))], [(5, some ⟨(eA64u8 s), false⟩), (8, some ⟨(eA64u8 ((vrep 64 (0 : Int)))), false⟩)]⟩) (pre := fun s => s = y91) ?_ ?_
  · rintro x90 rfl
    have h := hk93
    refine a_st (σ' := ⟨[(5, (.own 5 [] [])), (8, (.own 8 [] []))], [(5, some ⟨(eA64u8 x90), false⟩), (8, some ⟨(eA64u8 ((vrep 64 (0 : Int)))), false⟩)]⟩) rfl ?_
    refine a_seq ?_
    refine a_region ?_
    have hl183 : LdOk [] (eA64u8 x90) [] 64 true (eA64u8 x90) := (.nil rfl rfl rfl)
    refine a_val (v := (eA64u8 x90)) (u := []) (ld_own (i := ⟨.arr 64 5, 64, 64, (eA64u8 (vrep 64 (0 : Int)))⟩) rfl rfl rfl hl183) hl183.c rfl ?_
    have hs184 : StOk [] (eA64u8 ((vrep 64 (0 : Int)))) [] 64 (eA64u8 x90) (eA64u8 x90) := (.nil rfl rfl rfl rfl)
    refine a_val (v := .top) (u := [(8, some ⟨(eA64u8 x90), false⟩)]) (st_own (i := ⟨.arr 64 5, 64, 64, (eA64u8 (vrep 64 (0 : Int)))⟩) rfl rfl (fun _ => rfl) rfl hs184) (hs184.c rfl) rfl ?_
    refine a_nil ?_
    refine a_next rfl ?_
    refine a_ret ?_
    have hl185 : LdOk [] (eA64u8 x90) [] 64 true (eA64u8 x90) := (.nil rfl rfl rfl)
    refine ⟨.inr rfl, ?_⟩
    rw [Try.results123]
    cases h
    exact ⟨_, _, _, _, _, ld_own (i := ⟨.arr 64 5, 64, 64, (eA64u8 (vrep 64 (0 : Int)))⟩) rfl rfl rfl hl185, hl185.c, .inl ⟨rfl, .inl rfl⟩, rfl, rfl⟩
  · have h := hy92
    refine a_seq ?_
    refine a_region ?_
    refine a_val (v := (.int .i64 0)) (u := []) rfl trivial rfl ?_
    refine a_nil ?_
    refine a_next (σ' := ⟨[(0, (.int .i64 a0)), (3, (.int .i64 a3)), (5, (.own 5 [] [])), (6, (.own 6 [] [])), (8, (.own 8 [] [])), (9, (.int .i64 0))], [(5, some ⟨(eA64u8 a1), false⟩), (6, some ⟨(eA64u8 a2), false⟩), (8, some ⟨(eA64u8 ((vrep 64 (0 : Int)))), false⟩)]⟩) rfl ?_
    refine a_block ?_
    refine a_loop (emb := fun (s : (Int × (Vec Int 64))) => ⟨[(0, (.int .i64 a0)), (3, (.int .i64 a3)), (5, (.own 5 [] [])), (6, (.own 6 [] [])), (8, (.own 8 [] [])), (9, (.int .i64 s.1))], [(5, some ⟨(eA64u8 s.2), false⟩), (6, some ⟨(eA64u8 a2), false⟩), (8, some ⟨(eA64u8 ((vrep 64 (0 : Int)))), false⟩)]⟩) (body := (fun s : (Int × (Vec Int 64)) => spec_l01Add_l1 a3 a2 a0 s.1 s.2)) (G := fun q => some q = some y91) h rfl ?_ rfl
    rintro X150 ⟨x119, x120⟩ x151 h hX152
    have h : spec_l01Add_l1 a3 a2 a0 x119 x120 = some x151 := h
    refine a_st (σ' := ⟨[(0, (.int .i64 a0)), (3, (.int .i64 a3)), (5, (.own 5 [] [])), (6, (.own 6 [] [])), (8, (.own 8 [] [])), (9, (.int .i64 x119))], [(5, some ⟨(eA64u8 x120), false⟩), (6, some ⟨(eA64u8 a2), false⟩), (8, some ⟨(eA64u8 ((vrep 64 (0 : Int)))), false⟩)]⟩) rfl ?_
    refine a_seq ?_
    refine a_seq ?_
    refine a_region ?_
    refine a_val (v := (.int .i64 x119)) (u := []) rfl trivial rfl ?_
    refine a_val (v := (.bool ((decide (x119 < 64))))) (u := []) rfl trivial rfl ?_
    refine a_nil ?_
    refine a_next (σ' := ⟨[(0, (.int .i64 a0)), (3, (.int .i64 a3)), (5, (.own 5 [] [])), (6, (.own 6 [] [])), (8, (.own 8 [] [])), (9, (.int .i64 x119)), (11, (.bool ((decide (x119 < 64)))))], [(5, some ⟨(eA64u8 x120), false⟩), (6, some ⟨(eA64u8 a2), false⟩), (8, some ⟨(eA64u8 ((vrep 64 (0 : Int)))), false⟩)]⟩) rfl ?_
    cases hb153 : (decide (x119 < 64))
    · have h := ite_f hb153 h
      refine a_cond_f rfl ?_
      refine a_exit ?_
      refine t_exit ?_
      cases h
      have h := hX152
      refine t_exit ?_
      refine b_exit ?_
      exact j_leaf x120 (Option.some.inj h) rfl
    · have h := ite_t hb153 h
      refine a_cond_t rfl ?_
      refine a_skip ?_
      refine a_next (σ' := ⟨[(0, (.int .i64 a0)), (3, (.int .i64 a3)), (5, (.own 5 [] [])), (6, (.own 6 [] [])), (8, (.own 8 [] [])), (9, (.int .i64 x119))], [(5, some ⟨(eA64u8 x120), false⟩), (6, some ⟨(eA64u8 a2), false⟩), (8, some ⟨(eA64u8 ((vrep 64 (0 : Int)))), false⟩)]⟩) rfl ?_
      refine a_seq ?_
      refine a_block ?_
      refine a_draw [⟨[], [], [], []⟩, ⟨[], [], [], []⟩, ⟨[5], [], [5], [1]⟩, ⟨[5], [], [], [1, 2]⟩, ⟨[], [], [], [1, 2, 3]⟩, ⟨[], [], [], []⟩, ⟨[], [], [], []⟩, ⟨[6], [], [6], [6]⟩, ⟨[6], [], [], [6, 7]⟩, ⟨[], [], [], [6, 7, 8]⟩, ⟨[], [], [], [5, 6, 7, 8, 9]⟩, ⟨[], [], [], [1, 2, 3, 4, 5, 6, 7, 8, 9, 10]⟩, ⟨[], [], [], []⟩, ⟨[], [], [], [1, 2, 3, 4, 5, 6, 7, 8, 9, 10, 11, 12]⟩, ⟨[], [], [], []⟩, ⟨[], [], [], [1, 2, 3, 4, 5, 6, 7, 8, 9, 10, 11, 12, 13, 14]⟩, ⟨[], [], [], []⟩, ⟨[], [], [], [1, 2, 3, 4, 5, 6, 7, 8, 9, 10, 11, 12, 13, 14, 15, 16]⟩, ⟨[], [], [], [1, 2, 3, 4, 5, 6, 7, 8, 9, 10, 11, 12, 13, 14, 15, 16, 17]⟩, ⟨[5], [], [5], [0, 1, 2, 3, 4, 5, 6, 7, 8, 9, 10, 11, 12, 13, 14, 15, 16, 17, 18]⟩, ⟨[5], [5], [], [0, 1, 2, 3, 4, 5, 6, 7, 8, 9, 10, 11, 12, 13, 14, 15, 16, 17, 18, 19]⟩] (by kernel_rfl) ?_
      refine d_cons ?_
      refine a_val (v := (.int .i64 x119)) (u := []) rfl trivial rfl ?_
      refine d_next rfl ?_
      refine d_cons ?_
      refine a_val (v := (.int .i64 x119)) (u := []) rfl trivial rfl ?_
      refine d_next rfl ?_
      refine d_cons ?_
      obtain ⟨hc168, h⟩ := ifp_some h
      refine a_val (v := (.own 5 [x119.toNat] [x119.toNat * 1])) (u := []) rfl hc168 rfl ?_
      refine d_next rfl ?_
      refine d_cons ?_
      have hl169 : LdOk [x119.toNat] (eA64u8 x120) [x119.toNat * 1] 1 false (.int .u8 (rd x120.1 x119.toNat)) := (.arr (vlt x120 hc168) rfl (.nil rfl rfl rfl))
      refine a_val (v := (.int .u8 (rd x120.1 x119.toNat))) (u := []) (ld_own (i := ⟨.int .u8, 1, 1, (.int .u8 0)⟩) rfl rfl rfl hl169) hl169.c rfl ?_
      refine d_next rfl ?_
      refine d_cons ?_
      refine a_val (v := (.int .i64 (IntKind.i64.wrap (rd x120.1 x119.toNat)))) (u := []) rfl trivial rfl ?_
      refine d_next rfl ?_
      refine d_cons ?_
      refine a_val (v := (.int .i64 a3)) (u := []) rfl trivial rfl ?_
      refine d_next rfl ?_
      refine d_cons ?_
      refine a_val (v := (.int .i64 x119)) (u := []) rfl trivial rfl ?_
      refine d_next rfl ?_
      refine d_cons ?_
      obtain ⟨hc170, h⟩ := ifp_some h
      refine a_val (v := (.own 6 [x119.toNat] [x119.toNat * 1])) (u := []) rfl hc170 rfl ?_
      refine d_next rfl ?_
      refine d_cons ?_
      have hl171 : LdOk [x119.toNat] (eA64u8 a2) [x119.toNat * 1] 1 false (.int .u8 (rd a2.1 x119.toNat)) := (.arr (vlt a2 hc170) rfl (.nil rfl rfl rfl))
      refine a_val (v := (.int .u8 (rd a2.1 x119.toNat))) (u := []) (ld_own (i := ⟨.int .u8, 1, 1, (.int .u8 0)⟩) rfl rfl rfl hl171) hl171.c rfl ?_
      refine d_next rfl ?_
      refine d_cons ?_
      refine a_val (v := (.int .i64 (IntKind.i64.wrap (rd a2.1 x119.toNat)))) (u := []) rfl trivial rfl ?_
      refine d_next rfl ?_
      refine d_cons ?_
      obtain ⟨x172, hx173, h⟩ := letp_some h
      refine a_val' (v := (.int .i64 (IntKind.i64.wrap (a3 * (IntKind.i64.wrap (rd a2.1 x119.toNat)))))) (v' := (.int .i64 x172)) (u := []) (u' := []) rfl (congrArg (fun z => ((.int .i64 z) : AV)) hx173) rfl trivial rfl ?_
      refine d_next rfl ?_
      refine d_cons ?_
      obtain ⟨x174, hx175, h⟩ := letp_some h
      refine a_val' (v := (.int .i64 (IntKind.i64.wrap ((IntKind.i64.wrap (rd x120.1 x119.toNat)) + x172)))) (v' := (.int .i64 x174)) (u := []) (u' := []) rfl (congrArg (fun z => ((.int .i64 z) : AV)) hx175) rfl trivial rfl ?_
      refine d_next rfl ?_
      refine d_cons ?_
      refine a_val (v := (.int .i64 a0)) (u := []) rfl trivial rfl ?_
      refine d_next rfl ?_
      refine d_cons ?_
      obtain ⟨hc176, h⟩ := ifp_some h
      refine a_val (v := (.int .i64 (Int.tmod x174 a0))) (u := []) rfl hc176 rfl ?_
      refine d_next rfl ?_
      refine d_cons ?_
      refine a_val (v := (.int .i64 a0)) (u := []) rfl trivial rfl ?_
      refine d_next rfl ?_
      refine d_cons ?_
      refine a_val (v := (.int .i64 (IntKind.i64.wrap ((Int.tmod x174 a0) + a0)))) (u := []) rfl trivial rfl ?_
      refine d_next rfl ?_
      refine d_cons ?_
      refine a_val (v := (.int .i64 a0)) (u := []) rfl trivial rfl ?_
      refine d_next rfl ?_
      refine d_cons ?_
      obtain ⟨hc177, h⟩ := ifp_some h
      refine a_val (v := (.int .i64 (Int.tmod (IntKind.i64.wrap ((Int.tmod x174 a0) + a0)) a0))) (u := []) rfl hc177 rfl ?_
      refine d_next rfl ?_
      refine d_cons ?_
      obtain ⟨x178, hx179, h⟩ := letp_some h
      refine a_val' (v := (.int .u8 (IntKind.u8.wrap (Int.tmod (IntKind.i64.wrap ((Int.tmod x174 a0) + a0)) a0)))) (v' := (.int .u8 x178)) (u := []) (u' := []) rfl (congrArg (fun z => ((.int .u8 z) : AV)) hx179) rfl trivial rfl ?_
      refine d_next rfl ?_
      refine d_cons ?_
      obtain ⟨hc180, h⟩ := ifp_some h
      refine a_val (v := (.own 5 [x119.toNat] [x119.toNat * 1])) (u := []) rfl hc180 rfl ?_
      refine d_next rfl ?_
      refine d_cons ?_
      have hs181 : StOk [x119.toNat] (eA64u8 x120) [x119.toNat * 1] 1 (.int .u8 x178) (eA64u8 (vset x120 x119.toNat x178)) := (.arr (y := x178) (vlt x120 hc180) rfl (.nil rfl rfl rfl rfl))
      refine a_val (v := .top) (u := [(5, some ⟨(eA64u8 (vset x120 x119.toNat x178)), false⟩)]) (st_own (i := ⟨.int .u8, 1, 1, (.int .u8 0)⟩) rfl rfl (fun _ => rfl) rfl hs181) (hs181.c rfl) rfl ?_
      refine d_next rfl ?_
      refine d_nil ?_
      refine b_norm ?_
      refine a_next (σ' := ⟨[(0, (.int .i64 a0)), (3, (.int .i64 a3)), (5, (.own 5 [] [])), (6, (.own 6 [] [])), (8, (.own 8 [] [])), (9, (.int .i64 x119))], [(5, some ⟨(eA64u8 (vset x120 x119.toNat x178)), false⟩), (6, some ⟨(eA64u8 a2), false⟩), (8, some ⟨(eA64u8 ((vrep 64 (0 : Int)))), false⟩)]⟩) rfl ?_
      refine a_region ?_
      refine a_val (v := (.int .i64 x119)) (u := []) rfl trivial rfl ?_
      refine a_val (v := (.int .i64 (IntKind.i64.wrap (x119 + 1)))) (u := []) rfl trivial rfl ?_
      refine a_val (v := (.int .i64 (IntKind.i64.wrap (x119 + 1)))) (u := []) rfl trivial rfl ?_
      refine a_nil ?_
      cases h
      exact a_again rfl hX152
def spec_l08Sum_c : ACode := (.seq (.region 0 [⟨some 6, .alloc 23, none, []⟩, ⟨some 7, .asg 0 (.const (.bool false)) 4, none, []⟩] false) (.seq (.region 1 [⟨some 12, .build 23 [], none, []⟩, ⟨some 8, .alloc 23, none, []⟩, ⟨none, .store 23 (.tmp 8) (.tmp 12), none, []⟩] false) (.seq (.seq (.region 2 [⟨some 13, .mov (.tmp 1), none, []⟩, ⟨some 14, .mov (.tmp 2), none, []⟩, ⟨some 15, .bin .mul 2 (.tmp 13) (.tmp 14), none, []⟩, ⟨some 16, .bin .gtr 2 (.tmp 15) (.const (.int .i64 63)), none, []⟩] false) (.cond (.tmp 16) (.seq (.region 3 [⟨some 17, .load 23 (.tmp 8), none, []⟩, ⟨none, .store 23 (.tmp 6) (.tmp 17), none, []⟩, ⟨some 7, .asg 0 (.const (.bool false)) 4, none, []⟩] false) .ret) .skip)) (.seq (.seq (.region 4 [⟨some 18, .mov (.tmp 0), none, []⟩, ⟨some 19, .mov (.tmp 1), none, []⟩, ⟨some 20, .call 0 (.func 65) [(.tmp 18), (.tmp 19)], none, []⟩, ⟨some 9, .asg 0 (.tmp 20) 2, none, []⟩] false) (.block 0 (.loop (.seq (.seq (.region 5 [⟨some 21, .mov (.tmp 9), none, []⟩, ⟨some 22, .mov (.tmp 0), none, []⟩, ⟨some 23, .mov (.tmp 1), none, []⟩, ⟨some 24, .call 0 (.func 65) [(.tmp 22), (.tmp 23)], none, []⟩, ⟨some 25, .bin .mul 2 (.const (.int .i64 2)) (.tmp 24), none, []⟩, ⟨some 26, .bin .lss 2 (.tmp 21) (.tmp 25), none, []⟩] false) (.cond (.tmp 26) .skip (.exit 0))) (.seq (.block 1 (.seq (.region 7 [⟨some 30, .mov (.tmp 0), none, []⟩, ⟨some 31, .mov (.tmp 0), none, []⟩, ⟨some 32, .mov (.tmp 9), none, []⟩, ⟨some 33, .call 0 (.func 58) [(.tmp 31), (.tmp 32)], none, []⟩, ⟨some 34, .mov (.tmp 2), none, []⟩, ⟨some 35, .call 0 (.func 122) [(.tmp 30), (.tmp 33), (.tmp 34)], none, []⟩, ⟨some 29, .mov (.tmp 35), none, []⟩, ⟨some 36, .extract (.tmp 29) 0, none, []⟩, ⟨some 37, .extract (.tmp 29) 1, none, []⟩, ⟨some 10, .alloc 23, none, []⟩, ⟨none, .store 23 (.tmp 10) (.tmp 36), none, []⟩, ⟨some 11, .asg 0 (.tmp 37) 4, none, []⟩] false) (.region 8 [⟨some 38, .mov (.tmp 0), none, []⟩, ⟨some 39, .load 23 (.tmp 8), none, []⟩, ⟨some 40, .load 23 (.tmp 10), none, []⟩, ⟨some 41, .call 0 (.func 123) [(.tmp 38), (.tmp 39), (.tmp 40), (.const (.int .i64 1))], none, []⟩, ⟨none, .store 23 (.tmp 8) (.tmp 41), none, []⟩] false))) (.region 6 [⟨some 27, .mov (.tmp 9), none, []⟩, ⟨some 28, .bin .add 2 (.tmp 27) (.const (.int .i64 1)), none, []⟩, ⟨some 9, .asg 0 (.tmp 28) 2, none, []⟩] false)))))) (.seq (.region 9 [⟨some 42, .load 23 (.tmp 8), none, []⟩, ⟨none, .store 23 (.tmp 6) (.tmp 42), none, []⟩, ⟨some 7, .asg 0 (.const (.bool true)) 4, none, []⟩] false) .ret)))))
def spec_l08Sum_L : Live := [(0, [0, 1, 2]), (1, [0, 1, 2, 6]), (2, [0, 1, 2, 6, 8]), (3, [6, 8]), (4, [0, 1, 2, 6, 8]), (5, [0, 1, 2, 6, 8, 9]), (6, [0, 1, 2, 6, 8, 9]), (7, [0, 1, 2, 6, 8, 9]), (8, [0, 1, 2, 6, 8, 9, 10]), (9, [6, 8]), (100016, [0, 1, 2, 6, 8, 16]), (100026, [0, 1, 2, 6, 8, 9, 26])]
theorem spec_l08Sum_body : Try.f88.body = some (Try.f88.body.getD .skip) := by kernel_rfl
theorem spec_l08Sum_strip : strip [] (Try.f88.body.getD .skip) = spec_l08Sum_c := by kernel_rfl
noncomputable def spec_l08Sum_l1 (a0 : Int) (a1 : Int) (a2 : Int) (x69 : Int) (x70 : (Vec Int 64)) : Option ((Int × (Vec Int 64)) ⊕ (Vec Int 64)) :=
  (Option.bind (spec_l01Count a0 a1) fun r87 => (if (decide (x69 < (IntKind.i64.wrap (2 * r87)))) then (Option.bind (spec_l01Of a0 x69) fun r90 => (Option.bind (spec_l08Power a0 r90 a2) fun r92 => (Option.bind (spec_l01Add a0 x70 r92.1 1) fun r97 => (some (.inl ((IntKind.i64.wrap (x69 + 1), r97))))))) else (some (.inr x70))))
noncomputable def spec_l08Sum (a0 : Int) (a1 : Int) (a2 : Int) : Option ((Vec Int 64) × Bool) :=
  (if (decide ((IntKind.i64.wrap (a1 * a2)) > 63)) then (some (((vrep 64 (0 : Int)), false))) else (Option.bind ((Option.bind (spec_l01Count a0 a1) fun r54 => (loopM (fun s : (Int × (Vec Int 64)) => spec_l08Sum_l1 a0 a1 a2 s.1 s.2) (r54, (vrep 64 (0 : Int)))))) fun x50 => (some (x50, true))))
set_option maxHeartbeats 16000000 in
theorem spec_l08Sum_ok (a0 : Int) (a1 : Int) (a2 : Int) (r : ((Vec Int 64) × Bool)) (h : spec_l08Sum a0 a1 a2 = some r) : Den Try.prog 88 [(.int .i64 a0), (.int .i64 a1), (.int .i64 a2)] { r := (.tuple [(eA64u8 r.1), (.bool r.2)]) } := by
  refine den_of (rs := [(eA64u8 r.1), (.bool r.2)]) (ac := spec_l08Sum_c) (L := spec_l08Sum_L) (n := 43) (m := []) good Try.func88 spec_l08Sum_body (by kernel_rfl) Try.ntmps88 rfl rfl spec_l08Sum_strip rfl rfl ?_
  refine a_st (σ' := ⟨[(0, (.int .i64 a0)), (1, (.int .i64 a1)), (2, (.int .i64 a2))], []⟩) rfl ?_
  unfold spec_l08Sum_c
  refine a_seq ?_
  refine a_region ?_
  refine a_val (v := (.own 1600 [] [])) (u := [(1600, some ⟨(eA64u8 ((vrep 64 (0 : Int)))), false⟩)]) rfl trivial rfl ?_
  refine a_val (v := (.bool false)) (u := []) rfl trivial rfl ?_
  refine a_nil ?_
  refine a_next (σ' := ⟨[(0, (.int .i64 a0)), (1, (.int .i64 a1)), (2, (.int .i64 a2)), (6, (.own 6 [] []))], [(6, some ⟨(eA64u8 ((vrep 64 (0 : Int)))), false⟩)]⟩) rfl ?_
  refine a_seq ?_
  refine a_region ?_
  refine a_val (v := (eA64u8 ((vrep 64 (0 : Int))))) (u := []) rfl ⟨⟨_, rfl, rfl⟩, all_nil⟩ rfl ?_
  refine a_val (v := (.own 1800 [] [])) (u := [(1800, some ⟨(eA64u8 ((vrep 64 (0 : Int)))), false⟩)]) rfl trivial rfl ?_
  have hs1 : StOk [] (eA64u8 ((vrep 64 (0 : Int)))) [] 64 (eA64u8 ((vrep 64 (0 : Int)))) (eA64u8 ((vrep 64 (0 : Int)))) := (.nil rfl rfl rfl rfl)
  refine a_val (v := .top) (u := [(1800, some ⟨(eA64u8 ((vrep 64 (0 : Int)))), false⟩)]) (st_own (i := ⟨.arr 64 5, 64, 64, (eA64u8 (vrep 64 (0 : Int)))⟩) rfl rfl (fun _ => rfl) rfl hs1) (hs1.c rfl) rfl ?_
  refine a_nil ?_
  refine a_next (σ' := ⟨[(0, (.int .i64 a0)), (1, (.int .i64 a1)), (2, (.int .i64 a2)), (6, (.own 6 [] [])), (8, (.own 8 [] []))], [(6, some ⟨(eA64u8 ((vrep 64 (0 : Int)))), false⟩), (8, some ⟨(eA64u8 ((vrep 64 (0 : Int)))), false⟩)]⟩) rfl ?_
  refine a_seq ?_
  refine a_seq ?_
  refine a_region ?_
  refine a_val (v := (.int .i64 a1)) (u := []) rfl trivial rfl ?_
  refine a_val (v := (.int .i64 a2)) (u := []) rfl trivial rfl ?_
  refine a_val (v := (.int .i64 (IntKind.i64.wrap (a1 * a2)))) (u := []) rfl trivial rfl ?_
  refine a_val (v := (.bool ((decide ((IntKind.i64.wrap (a1 * a2)) > 63))))) (u := []) rfl trivial rfl ?_
  refine a_nil ?_
  refine a_next (σ' := ⟨[(0, (.int .i64 a0)), (1, (.int .i64 a1)), (2, (.int .i64 a2)), (6, (.own 6 [] [])), (8, (.own 8 [] [])), (16, (.bool ((decide ((IntKind.i64.wrap (a1 * a2)) > 63)))))], [(6, some ⟨(eA64u8 ((vrep 64 (0 : Int)))), false⟩), (8, some ⟨(eA64u8 ((vrep 64 (0 : Int)))), false⟩)]⟩) rfl ?_
  cases hb2 : (decide ((IntKind.i64.wrap (a1 * a2)) > 63))
  · have h := ite_f hb2 h
    refine a_cond_f rfl ?_
    refine a_skip ?_
    refine a_next (σ' := ⟨[(0, (.int .i64 a0)), (1, (.int .i64 a1)), (2, (.int .i64 a2)), (6, (.own 6 [] [])), (8, (.own 8 [] []))], [(6, some ⟨(eA64u8 ((vrep 64 (0 : Int)))), false⟩), (8, some ⟨(eA64u8 ((vrep 64 (0 : Int)))), false⟩)]⟩) rfl ?_
    obtain ⟨y51, hy52, hk53⟩ := bind_some h
    clear h
    refine a_join (emb := fun (s : (Vec Int 64)) => ⟨[(6, (.own 6 [] [])), (8, (.own 8 [] []))], [(6, some ⟨(eA64u8 ((vrep 64 (0 : Int)))), false⟩), (8, some ⟨(eA64u8 s), false⟩)]⟩) (pre := fun s => s = y51) ?_ ?_
    · rintro x50 rfl
      have h := hk53
      refine a_st (σ' := ⟨[(6, (.own 6 [] [])), (8, (.own 8 [] []))], [(6, some ⟨(eA64u8 ((vrep 64 (0 : Int)))), false⟩), (8, some ⟨(eA64u8 x50), false⟩)]⟩) rfl ?_
      refine a_seq ?_
      refine a_region ?_
      have hl101 : LdOk [] (eA64u8 x50) [] 64 true (eA64u8 x50) := (.nil rfl rfl rfl)
      refine a_val (v := (eA64u8 x50)) (u := []) (ld_own (i := ⟨.arr 64 5, 64, 64, (eA64u8 (vrep 64 (0 : Int)))⟩) rfl rfl rfl hl101) hl101.c rfl ?_
      have hs102 : StOk [] (eA64u8 ((vrep 64 (0 : Int)))) [] 64 (eA64u8 x50) (eA64u8 x50) := (.nil rfl rfl rfl rfl)
      refine a_val (v := .top) (u := [(6, some ⟨(eA64u8 x50), false⟩)]) (st_own (i := ⟨.arr 64 5, 64, 64, (eA64u8 (vrep 64 (0 : Int)))⟩) rfl rfl (fun _ => rfl) rfl hs102) (hs102.c rfl) rfl ?_
      refine a_val (v := (.bool true)) (u := []) rfl trivial rfl ?_
      refine a_nil ?_
      refine a_next rfl ?_
      refine a_ret ?_
      have hl103 : LdOk [] (eA64u8 x50) [] 64 true (eA64u8 x50) := (.nil rfl rfl rfl)
      refine ⟨.inr rfl, ?_⟩
      rw [Try.results88]
      cases h
      exact ⟨_, _, _, _, _, ld_own (i := ⟨.arr 64 5, 64, 64, (eA64u8 (vrep 64 (0 : Int)))⟩) rfl rfl rfl hl103, hl103.c, .inl ⟨rfl, .inl rfl⟩, rfl, ⟨_, _, _, _, _, rfl, trivial, .inl ⟨rfl, .inl rfl⟩, rfl, rfl⟩⟩
    · have h := hy52
      refine a_seq ?_
      refine a_region ?_
      refine a_val (v := (.int .i64 a0)) (u := []) rfl trivial rfl ?_
      refine a_val (v := (.int .i64 a1)) (u := []) rfl trivial rfl ?_
      obtain ⟨r54, hr55, h⟩ := bind_some h
      refine a_call (args := [(.int .i64 a0), (.int .i64 a1)]) (u := []) (r := (.int .i64 r54)) rfl rfl (spec_l01Count_ok a0 a1 r54 hr55) rfl ?_
      refine a_val (v := (.int .i64 r54)) (u := []) rfl trivial rfl ?_
      refine a_nil ?_
      refine a_next (σ' := ⟨[(0, (.int .i64 a0)), (1, (.int .i64 a1)), (2, (.int .i64 a2)), (6, (.own 6 [] [])), (8, (.own 8 [] [])), (9, (.int .i64 r54))], [(6, some ⟨(eA64u8 ((vrep 64 (0 : Int)))), false⟩), (8, some ⟨(eA64u8 ((vrep 64 (0 : Int)))), false⟩)]⟩) rfl ?_
      refine a_block ?_
      refine a_loop (emb := fun (s : (Int × (Vec Int 64))) => ⟨[(0, (.int .i64 a0)), (1, (.int .i64 a1)), (2, (.int .i64 a2)), (6, (.own 6 [] [])), (8, (.own 8 [] [])), (9, (.int .i64 s.1))], [(6, some ⟨(eA64u8 ((vrep 64 (0 : Int)))), false⟩), (8, some ⟨(eA64u8 s.2), false⟩)]⟩) (body := (fun s : (Int × (Vec Int 64)) => spec_l08Sum_l1 a0 a1 a2 s.1 s.2)) (G := fun q => some q = some y51) h rfl ?_ rfl
      rintro X84 ⟨x69, x70⟩ x85 h hX86
      have h : spec_l08Sum_l1 a0 a1 a2 x69 x70 = some x85 := h
      refine a_st (σ' := ⟨[(0, (.int .i64 a0)), (1, (.int .i64 a1)), (2, (.int .i64 a2)), (6, (.own 6 [] [])), (8, (.own 8 [] [])), (9, (.int .i64 x69))], [(6, some ⟨(eA64u8 ((vrep 64 (0 : Int)))), false⟩), (8, some ⟨(eA64u8 x70), false⟩)]⟩) rfl ?_
      refine a_seq ?_
      refine a_seq ?_
      refine a_region ?_
      refine a_val (v := (.int .i64 x69)) (u := []) rfl trivial rfl ?_
      refine a_val (v := (.int .i64 a0)) (u := []) rfl trivial rfl ?_
      refine a_val (v := (.int .i64 a1)) (u := []) rfl trivial rfl ?_
      obtain ⟨r87, hr88, h⟩ := bind_some h
      refine a_call (args := [(.int .i64 a0), (.int .i64 a1)]) (u := []) (r := (.int .i64 r87)) rfl rfl (spec_l01Count_ok a0 a1 r87 hr88) rfl ?_
      refine a_val (v := (.int .i64 (IntKind.i64.wrap (2 * r87)))) (u := []) rfl trivial rfl ?_
      refine a_val (v := (.bool ((decide (x69 < (IntKind.i64.wrap (2 * r87))))))) (u := []) rfl trivial rfl ?_
      refine a_nil ?_
      refine a_next (σ' := ⟨[(0, (.int .i64 a0)), (1, (.int .i64 a1)), (2, (.int .i64 a2)), (6, (.own 6 [] [])), (8, (.own 8 [] [])), (9, (.int .i64 x69)), (26, (.bool ((decide (x69 < (IntKind.i64.wrap (2 * r87)))))))], [(6, some ⟨(eA64u8 ((vrep 64 (0 : Int)))), false⟩), (8, some ⟨(eA64u8 x70), false⟩)]⟩) rfl ?_
      cases hb89 : (decide (x69 < (IntKind.i64.wrap (2 * r87))))
      · have h := ite_f hb89 h
        refine a_cond_f rfl ?_
        refine a_exit ?_
        refine t_exit ?_
        cases h
        have h := hX86
        refine t_exit ?_
        refine b_exit ?_
        exact j_leaf x70 (Option.some.inj h) rfl
      · have h := ite_t hb89 h
        refine a_cond_t rfl ?_
        refine a_skip ?_
        refine a_next (σ' := ⟨[(0, (.int .i64 a0)), (1, (.int .i64 a1)), (2, (.int .i64 a2)), (6, (.own 6 [] [])), (8, (.own 8 [] [])), (9, (.int .i64 x69))], [(6, some ⟨(eA64u8 ((vrep 64 (0 : Int)))), false⟩), (8, some ⟨(eA64u8 x70), false⟩)]⟩) rfl ?_
        refine a_seq ?_
        refine a_block ?_
        refine a_seq ?_
        refine a_region ?_
        refine a_val (v := (.int .i64 a0)) (u := []) rfl trivial rfl ?_
        refine a_val (v := (.int .i64 a0)) (u := []) rfl trivial rfl ?_
        refine a_val (v := (.int .i64 x69)) (u := []) rfl trivial rfl ?_
        obtain ⟨r90, hr91, h⟩ := bind_some h
        refine a_call (args := [(.int .i64 a0), (.int .i64 x69)]) (u := []) (r := (eA64u8 r90)) rfl rfl (spec_l01Of_ok a0 x69 r90 hr91) rfl ?_
        refine a_val (v := (.int .i64 a2)) (u := []) rfl trivial rfl ?_
        obtain ⟨r92, hr93, h⟩ := bind_some h
        refine a_call (args := [(.int .i64 a0), (eA64u8 r90), (.int .i64 a2)]) (u := []) (r := (.tuple [(eA64u8 r92.1), (.bool r92.2)])) rfl rfl (spec_l08Power_ok a0 r90 a2 r92 hr93) rfl ?_
        refine a_val (v := (.tuple [(eA64u8 r92.1), (.bool r92.2)])) (u := []) rfl trivial rfl ?_
        refine a_val (v := (eA64u8 r92.1)) (u := []) rfl (Nat.le_of_ble_eq_true rfl) rfl ?_
        refine a_val (v := (.bool r92.2)) (u := []) rfl (Nat.le_of_ble_eq_true rfl) rfl ?_
        refine a_val (v := (.own 2000 [] [])) (u := [(2000, some ⟨(eA64u8 ((vrep 64 (0 : Int)))), false⟩)]) rfl trivial rfl ?_
        have hs94 : StOk [] (eA64u8 ((vrep 64 (0 : Int)))) [] 64 (eA64u8 r92.1) (eA64u8 r92.1) := (.nil rfl rfl rfl rfl)
        refine a_val (v := .top) (u := [(2000, some ⟨(eA64u8 r92.1), false⟩)]) (st_own (i := ⟨.arr 64 5, 64, 64, (eA64u8 (vrep 64 (0 : Int)))⟩) rfl rfl (fun _ => rfl) rfl hs94) (hs94.c rfl) rfl ?_
        refine a_val (v := (.bool r92.2)) (u := []) rfl trivial rfl ?_
        refine a_nil ?_
        refine a_next (σ' := ⟨[(0, (.int .i64 a0)), (1, (.int .i64 a1)), (2, (.int .i64 a2)), (6, (.own 6 [] [])), (8, (.own 8 [] [])), (9, (.int .i64 x69)), (10, (.own 10 [] []))], [(6, some ⟨(eA64u8 ((vrep 64 (0 : Int)))), false⟩), (8, some ⟨(eA64u8 x70), false⟩), (10, some ⟨(eA64u8 r92.1), false⟩)]⟩) rfl ?_
        refine a_region ?_
        refine a_val (v := (.int .i64 a0)) (u := []) rfl trivial rfl ?_
        have hl95 : LdOk [] (eA64u8 x70) [] 64 true (eA64u8 x70) := (.nil rfl rfl rfl)
        refine a_val (v := (eA64u8 x70)) (u := []) (ld_own (i := ⟨.arr 64 5, 64, 64, (eA64u8 (vrep 64 (0 : Int)))⟩) rfl rfl rfl hl95) hl95.c rfl ?_
        have hl96 : LdOk [] (eA64u8 r92.1) [] 64 true (eA64u8 r92.1) := (.nil rfl rfl rfl)
        refine a_val (v := (eA64u8 r92.1)) (u := []) (ld_own (i := ⟨.arr 64 5, 64, 64, (eA64u8 (vrep 64 (0 : Int)))⟩) rfl rfl rfl hl96) hl96.c rfl ?_
        obtain ⟨r97, hr98, h⟩ := bind_some h
        refine a_call (args := [(.int .i64 a0), (eA64u8 x70), (eA64u8 r92.1), (.int .i64 1)]) (u := []) (r := (eA64u8 r97)) rfl rfl (spec_l01Add_ok a0 x70 r92.1 1 r97 hr98) rfl ?_
        have hs99 : StOk [] (eA64u8 x70) [] 64 (eA64u8 r97) (eA64u8 r97) := (.nil rfl rfl rfl rfl)
        refine a_val (v := .top) (u := [(8, some ⟨(eA64u8 r97), false⟩)]) (st_own (i := ⟨.arr 64 5, 64, 64, (eA64u8 (vrep 64 (0 : Int)))⟩) rfl rfl (fun _ => rfl) rfl hs99) (hs99.c rfl) rfl ?_
        refine a_nil ?_
        refine b_norm ?_
        refine a_next (σ' := ⟨[(0, (.int .i64 a0)), (1, (.int .i64 a1)), (2, (.int .i64 a2)), (6, (.own 6 [] [])), (8, (.own 8 [] [])), (9, (.int .i64 x69))], [(6, some ⟨(eA64u8 ((vrep 64 (0 : Int)))), false⟩), (8, some ⟨(eA64u8 r97), false⟩)]⟩) rfl ?_
        refine a_region ?_
        refine a_val (v := (.int .i64 x69)) (u := []) rfl trivial rfl ?_
        refine a_val (v := (.int .i64 (IntKind.i64.wrap (x69 + 1)))) (u := []) rfl trivial rfl ?_
        refine a_val (v := (.int .i64 (IntKind.i64.wrap (x69 + 1)))) (u := []) rfl trivial rfl ?_
        refine a_nil ?_
        cases h
        exact a_again rfl hX86
  · have h := ite_t hb2 h
    refine a_cond_t rfl ?_
    refine a_seq ?_
    refine a_region ?_
    have hl104 : LdOk [] (eA64u8 ((vrep 64 (0 : Int)))) [] 64 true (eA64u8 ((vrep 64 (0 : Int)))) := (.nil rfl rfl rfl)
    refine a_val (v := (eA64u8 ((vrep 64 (0 : Int))))) (u := []) (ld_own (i := ⟨.arr 64 5, 64, 64, (eA64u8 (vrep 64 (0 : Int)))⟩) rfl rfl rfl hl104) hl104.c rfl ?_
    have hs105 : StOk [] (eA64u8 ((vrep 64 (0 : Int)))) [] 64 (eA64u8 ((vrep 64 (0 : Int)))) (eA64u8 ((vrep 64 (0 : Int)))) := (.nil rfl rfl rfl rfl)
    refine a_val (v := .top) (u := [(6, some ⟨(eA64u8 ((vrep 64 (0 : Int)))), false⟩)]) (st_own (i := ⟨.arr 64 5, 64, 64, (eA64u8 (vrep 64 (0 : Int)))⟩) rfl rfl (fun _ => rfl) rfl hs105) (hs105.c rfl) rfl ?_
    refine a_val (v := (.bool false)) (u := []) rfl trivial rfl ?_
    refine a_nil ?_
    refine a_next rfl ?_
    refine a_ret ?_
    refine t_ret ?_
    have hl106 : LdOk [] (eA64u8 ((vrep 64 (0 : Int)))) [] 64 true (eA64u8 ((vrep 64 (0 : Int)))) := (.nil rfl rfl rfl)
    refine ⟨.inr rfl, ?_⟩
    rw [Try.results88]
    cases h
    exact ⟨_, _, _, _, _, ld_own (i := ⟨.arr 64 5, 64, 64, (eA64u8 (vrep 64 (0 : Int)))⟩) rfl rfl rfl hl106, hl106.c, .inl ⟨rfl, .inl rfl⟩, rfl, ⟨_, _, _, _, _, rfl, trivial, .inl ⟨rfl, .inl rfl⟩, rfl, rfl⟩⟩
def spec_PowerSum_c : ACode := (.seq (.region 0 [⟨some 6, .alloc 23, none, []⟩, ⟨some 7, .asg 0 (.const (.int .i64 0)) 2, none, []⟩] false) (.seq (.seq (.region 1 [⟨some 11, .mov (.tmp 0), none, []⟩, ⟨some 12, .mov (.tmp 1), none, []⟩, ⟨some 13, .mov (.tmp 2), none, []⟩, ⟨some 14, .bslice 45 1 [(0, (.tmp 13))], none, []⟩, ⟨some 15, .call 0 (.func 87) [(.tmp 11), (.tmp 12), (.tmp 14)], none, []⟩, ⟨some 8, .asg 0 (.tmp 15) 2, none, []⟩] false) (.seq (.region 2 [⟨some 16, .mov (.tmp 8), none, []⟩, ⟨some 17, .bin .neq 2 (.tmp 16) (.const (.int .i64 0)), none, []⟩] false) (.cond (.tmp 17) (.seq (.region 3 [⟨some 18, .build 23 [], none, []⟩, ⟨some 19, .mov (.tmp 8), none, []⟩, ⟨none, .store 23 (.tmp 6) (.tmp 18), none, []⟩, ⟨some 7, .asg 0 (.tmp 19) 2, none, []⟩] false) .ret) .skip))) (.seq (.region 4 [⟨some 21, .mov (.tmp 0), none, []⟩, ⟨some 22, .mov (.tmp 1), none, []⟩, ⟨some 23, .mov (.tmp 2), none, []⟩, ⟨some 24, .call 0 (.func 88) [(.tmp 21), (.tmp 22), (.tmp 23)], none, []⟩, ⟨some 20, .mov (.tmp 24), none, []⟩, ⟨some 25, .extract (.tmp 20) 0, none, []⟩, ⟨some 26, .extract (.tmp 20) 1, none, []⟩, ⟨some 9, .alloc 23, none, []⟩, ⟨none, .store 23 (.tmp 9) (.tmp 25), none, []⟩, ⟨some 10, .asg 0 (.tmp 26) 4, none, []⟩] false) (.seq (.seq (.region 5 [⟨some 27, .mov (.tmp 10), none, []⟩, ⟨some 28, .un .not (.tmp 27), none, []⟩] false) (.cond (.tmp 28) (.seq (.region 6 [⟨some 29, .build 23 [], none, []⟩, ⟨none, .store 23 (.tmp 6) (.tmp 29), none, []⟩, ⟨some 7, .asg 0 (.const (.int .i64 3)) 2, none, []⟩] false) .ret) .skip)) (.seq (.region 7 [⟨some 30, .load 23 (.tmp 9), none, []⟩, ⟨none, .store 23 (.tmp 6) (.tmp 30), none, []⟩, ⟨some 7, .asg 0 (.const (.int .i64 0)) 2, none, []⟩] false) .ret)))))
def spec_PowerSum_L : Live := [(0, [0, 1, 2]), (1, [0, 1, 2, 6]), (2, [0, 1, 2, 6, 8]), (3, [6, 8]), (4, [0, 1, 2, 6]), (5, [6, 9, 10]), (6, [6]), (7, [6, 9]), (100017, [0, 1, 2, 6, 8, 17]), (100028, [6, 9, 28])]
theorem spec_PowerSum_body : Try.f42.body = some (Try.f42.body.getD .skip) := by kernel_rfl
theorem spec_PowerSum_strip : strip [] (Try.f42.body.getD .skip) = spec_PowerSum_c := by kernel_rfl
noncomputable def spec_PowerSum (a0 : Int) (a1 : Int) (a2 : Int) : Option ((Vec Int 64) × Int) :=
  (Option.bind (spec_l08Code a0 a1 ([a2])) fun r1 => (if (r1 != 0) then (some (((vrep 64 (0 : Int)), r1))) else (Option.bind (spec_l08Sum a0 a1 a2) fun r4 => (if (!r4.2) then (some (((vrep 64 (0 : Int)), 3))) else (some (r4.1, 0))))))
set_option maxHeartbeats 16000000 in
theorem spec_PowerSum_ok (a0 : Int) (a1 : Int) (a2 : Int) (r : ((Vec Int 64) × Int)) (h : spec_PowerSum a0 a1 a2 = some r) : Den Try.prog 42 [(.int .i64 a0), (.int .i64 a1), (.int .i64 a2)] { r := (.tuple [(eA64u8 r.1), (.int .i64 r.2)]) } := by
  refine den_of (rs := [(eA64u8 r.1), (.int .i64 r.2)]) (ac := spec_PowerSum_c) (L := spec_PowerSum_L) (n := 31) (m := []) good Try.func42 spec_PowerSum_body (by kernel_rfl) Try.ntmps42 rfl rfl spec_PowerSum_strip rfl rfl ?_
  refine a_st (σ' := ⟨[(0, (.int .i64 a0)), (1, (.int .i64 a1)), (2, (.int .i64 a2))], []⟩) rfl ?_
  unfold spec_PowerSum_c
  refine a_seq ?_
  refine a_region ?_
  refine a_val (v := (.own 1600 [] [])) (u := [(1600, some ⟨(eA64u8 ((vrep 64 (0 : Int)))), false⟩)]) rfl trivial rfl ?_
  refine a_val (v := (.int .i64 0)) (u := []) rfl trivial rfl ?_
  refine a_nil ?_
  refine a_next (σ' := ⟨[(0, (.int .i64 a0)), (1, (.int .i64 a1)), (2, (.int .i64 a2)), (6, (.own 6 [] []))], [(6, some ⟨(eA64u8 ((vrep 64 (0 : Int)))), false⟩)]⟩) rfl ?_
  refine a_seq ?_
  refine a_seq ?_
  refine a_region ?_
  refine a_val (v := (.int .i64 a0)) (u := []) rfl trivial rfl ?_
  refine a_val (v := (.int .i64 a1)) (u := []) rfl trivial rfl ?_
  refine a_val (v := (.int .i64 a2)) (u := []) rfl trivial rfl ?_
  refine a_val (v := (.sl 1 true (([a2]).map (AV.int .i64)))) (u := []) rfl ⟨(Nat.le_of_ble_eq_true rfl), (Nat.le_of_ble_eq_true rfl), (all_cons ⟨(Nat.le_of_ble_eq_true rfl), rfl⟩ all_nil)⟩ rfl ?_
  obtain ⟨r1, hr2, h⟩ := bind_some h
  refine a_call (args := [(.int .i64 a0), (.int .i64 a1), (.sl 1 true (([a2]).map (AV.int .i64)))]) (u := []) (r := (.int .i64 r1)) rfl rfl (Den.args (spec_l08Code_ok a0 a1 ([a2]) r1 hr2) rfl rfl (.cons (.refl _) (.cons (.refl _) (.cons (.loose _) .nil)))) rfl ?_
  refine a_val (v := (.int .i64 r1)) (u := []) rfl trivial rfl ?_
  refine a_nil ?_
  refine a_next (σ' := ⟨[(0, (.int .i64 a0)), (1, (.int .i64 a1)), (2, (.int .i64 a2)), (6, (.own 6 [] [])), (8, (.int .i64 r1))], [(6, some ⟨(eA64u8 ((vrep 64 (0 : Int)))), false⟩)]⟩) rfl ?_
  refine a_seq ?_
  refine a_region ?_
  refine a_val (v := (.int .i64 r1)) (u := []) rfl trivial rfl ?_
  refine a_val (v := (.bool (r1 != 0))) (u := []) rfl trivial rfl ?_
  refine a_nil ?_
  refine a_next (σ' := ⟨[(0, (.int .i64 a0)), (1, (.int .i64 a1)), (2, (.int .i64 a2)), (6, (.own 6 [] [])), (8, (.int .i64 r1)), (17, (.bool (r1 != 0)))], [(6, some ⟨(eA64u8 ((vrep 64 (0 : Int)))), false⟩)]⟩) rfl ?_
  cases hb3 : (r1 != 0)
  · have h := ite_f hb3 h
    refine a_cond_f rfl ?_
    refine a_skip ?_
    refine a_next (σ' := ⟨[(0, (.int .i64 a0)), (1, (.int .i64 a1)), (2, (.int .i64 a2)), (6, (.own 6 [] []))], [(6, some ⟨(eA64u8 ((vrep 64 (0 : Int)))), false⟩)]⟩) rfl ?_
    refine a_seq ?_
    refine a_region ?_
    refine a_val (v := (.int .i64 a0)) (u := []) rfl trivial rfl ?_
    refine a_val (v := (.int .i64 a1)) (u := []) rfl trivial rfl ?_
    refine a_val (v := (.int .i64 a2)) (u := []) rfl trivial rfl ?_
    obtain ⟨r4, hr5, h⟩ := bind_some h
    refine a_call (args := [(.int .i64 a0), (.int .i64 a1), (.int .i64 a2)]) (u := []) (r := (.tuple [(eA64u8 r4.1), (.bool r4.2)])) rfl rfl (spec_l08Sum_ok a0 a1 a2 r4 hr5) rfl ?_
    refine a_val (v := (.tuple [(eA64u8 r4.1), (.bool r4.2)])) (u := []) rfl trivial rfl ?_
    refine a_val (v := (eA64u8 r4.1)) (u := []) rfl (Nat.le_of_ble_eq_true rfl) rfl ?_
    refine a_val (v := (.bool r4.2)) (u := []) rfl (Nat.le_of_ble_eq_true rfl) rfl ?_
    refine a_val (v := (.own 1900 [] [])) (u := [(1900, some ⟨(eA64u8 ((vrep 64 (0 : Int)))), false⟩)]) rfl trivial rfl ?_
    have hs6 : StOk [] (eA64u8 ((vrep 64 (0 : Int)))) [] 64 (eA64u8 r4.1) (eA64u8 r4.1) := (.nil rfl rfl rfl rfl)
    refine a_val (v := .top) (u := [(1900, some ⟨(eA64u8 r4.1), false⟩)]) (st_own (i := ⟨.arr 64 5, 64, 64, (eA64u8 (vrep 64 (0 : Int)))⟩) rfl rfl (fun _ => rfl) rfl hs6) (hs6.c rfl) rfl ?_
    refine a_val (v := (.bool r4.2)) (u := []) rfl trivial rfl ?_
    refine a_nil ?_
    refine a_next (σ' := ⟨[(6, (.own 6 [] [])), (9, (.own 9 [] [])), (10, (.bool r4.2))], [(6, some ⟨(eA64u8 ((vrep 64 (0 : Int)))), false⟩), (9, some ⟨(eA64u8 r4.1), false⟩)]⟩) rfl ?_
    refine a_seq ?_
    refine a_seq ?_
    refine a_region ?_
    refine a_val (v := (.bool r4.2)) (u := []) rfl trivial rfl ?_
    refine a_val (v := (.bool (!r4.2))) (u := []) rfl trivial rfl ?_
    refine a_nil ?_
    refine a_next (σ' := ⟨[(6, (.own 6 [] [])), (9, (.own 9 [] [])), (28, (.bool (!r4.2)))], [(6, some ⟨(eA64u8 ((vrep 64 (0 : Int)))), false⟩), (9, some ⟨(eA64u8 r4.1), false⟩)]⟩) rfl ?_
    cases hb7 : (!r4.2)
    · have h := ite_f hb7 h
      refine a_cond_f rfl ?_
      refine a_skip ?_
      refine a_next (σ' := ⟨[(6, (.own 6 [] [])), (9, (.own 9 [] []))], [(6, some ⟨(eA64u8 ((vrep 64 (0 : Int)))), false⟩), (9, some ⟨(eA64u8 r4.1), false⟩)]⟩) rfl ?_
      refine a_seq ?_
      refine a_region ?_
      have hl8 : LdOk [] (eA64u8 r4.1) [] 64 true (eA64u8 r4.1) := (.nil rfl rfl rfl)
      refine a_val (v := (eA64u8 r4.1)) (u := []) (ld_own (i := ⟨.arr 64 5, 64, 64, (eA64u8 (vrep 64 (0 : Int)))⟩) rfl rfl rfl hl8) hl8.c rfl ?_
      have hs9 : StOk [] (eA64u8 ((vrep 64 (0 : Int)))) [] 64 (eA64u8 r4.1) (eA64u8 r4.1) := (.nil rfl rfl rfl rfl)
      refine a_val (v := .top) (u := [(6, some ⟨(eA64u8 r4.1), false⟩)]) (st_own (i := ⟨.arr 64 5, 64, 64, (eA64u8 (vrep 64 (0 : Int)))⟩) rfl rfl (fun _ => rfl) rfl hs9) (hs9.c rfl) rfl ?_
      refine a_val (v := (.int .i64 0)) (u := []) rfl trivial rfl ?_
      refine a_nil ?_
      refine a_next rfl ?_
      refine a_ret ?_
      have hl10 : LdOk [] (eA64u8 r4.1) [] 64 true (eA64u8 r4.1) := (.nil rfl rfl rfl)
      refine ⟨.inr rfl, ?_⟩
      rw [Try.results42]
      cases h
      exact ⟨_, _, _, _, _, ld_own (i := ⟨.arr 64 5, 64, 64, (eA64u8 (vrep 64 (0 : Int)))⟩) rfl rfl rfl hl10, hl10.c, .inl ⟨rfl, .inl rfl⟩, rfl, ⟨_, _, _, _, _, rfl, trivial, .inl ⟨rfl, .inl rfl⟩, rfl, rfl⟩⟩
    · have h := ite_t hb7 h
      refine a_cond_t rfl ?_
      refine a_seq ?_
      refine a_region ?_
      refine a_val (v := (eA64u8 ((vrep 64 (0 : Int))))) (u := []) rfl ⟨⟨_, rfl, rfl⟩, all_nil⟩ rfl ?_
      have hs11 : StOk [] (eA64u8 ((vrep 64 (0 : Int)))) [] 64 (eA64u8 ((vrep 64 (0 : Int)))) (eA64u8 ((vrep 64 (0 : Int)))) := (.nil rfl rfl rfl rfl)
      refine a_val (v := .top) (u := [(6, some ⟨(eA64u8 ((vrep 64 (0 : Int)))), false⟩)]) (st_own (i := ⟨.arr 64 5, 64, 64, (eA64u8 (vrep 64 (0 : Int)))⟩) rfl rfl (fun _ => rfl) rfl hs11) (hs11.c rfl) rfl ?_
      refine a_val (v := (.int .i64 3)) (u := []) rfl trivial rfl ?_
      refine a_nil ?_
      refine a_next rfl ?_
      refine a_ret ?_
      refine t_ret ?_
      have hl12 : LdOk [] (eA64u8 ((vrep 64 (0 : Int)))) [] 64 true (eA64u8 ((vrep 64 (0 : Int)))) := (.nil rfl rfl rfl)
      refine ⟨.inr rfl, ?_⟩
      rw [Try.results42]
      cases h
      exact ⟨_, _, _, _, _, ld_own (i := ⟨.arr 64 5, 64, 64, (eA64u8 (vrep 64 (0 : Int)))⟩) rfl rfl rfl hl12, hl12.c, .inl ⟨rfl, .inl rfl⟩, rfl, ⟨_, _, _, _, _, rfl, trivial, .inl ⟨rfl, .inl rfl⟩, rfl, rfl⟩⟩
  · have h := ite_t hb3 h
    refine a_cond_t rfl ?_
    refine a_seq ?_
    refine a_region ?_
    refine a_val (v := (eA64u8 ((vrep 64 (0 : Int))))) (u := []) rfl ⟨⟨_, rfl, rfl⟩, all_nil⟩ rfl ?_
    refine a_val (v := (.int .i64 r1)) (u := []) rfl trivial rfl ?_
    have hs13 : StOk [] (eA64u8 ((vrep 64 (0 : Int)))) [] 64 (eA64u8 ((vrep 64 (0 : Int)))) (eA64u8 ((vrep 64 (0 : Int)))) := (.nil rfl rfl rfl rfl)
    refine a_val (v := .top) (u := [(6, some ⟨(eA64u8 ((vrep 64 (0 : Int)))), false⟩)]) (st_own (i := ⟨.arr 64 5, 64, 64, (eA64u8 (vrep 64 (0 : Int)))⟩) rfl rfl (fun _ => rfl) rfl hs13) (hs13.c rfl) rfl ?_
    refine a_val (v := (.int .i64 r1)) (u := []) rfl trivial rfl ?_
    refine a_nil ?_
    refine a_next rfl ?_
    refine a_ret ?_
    refine t_ret ?_
    have hl14 : LdOk [] (eA64u8 ((vrep 64 (0 : Int)))) [] 64 true (eA64u8 ((vrep 64 (0 : Int)))) := (.nil rfl rfl rfl)
    refine ⟨.inr rfl, ?_⟩
    rw [Try.results42]
    cases h
    exact ⟨_, _, _, _, _, ld_own (i := ⟨.arr 64 5, 64, 64, (eA64u8 (vrep 64 (0 : Int)))⟩) rfl rfl rfl hl14, hl14.c, .inl ⟨rfl, .inl rfl⟩, rfl, ⟨_, _, _, _, _, rfl, trivial, .inl ⟨rfl, .inl rfl⟩, rfl, rfl⟩⟩
def impl_isExponent_c : ACode := (.seq (.region 0 [⟨some 2, .asg 0 (.const (.bool false)) 4, none, []⟩] false) (.seq (.region 1 [⟨some 3, .mov (.tmp 0), none, []⟩, ⟨some 4, .call 0 (.func 66) [(.tmp 3), (.const (.int .i64 0)), (.const (.int .i64 40))], none, []⟩, ⟨some 2, .asg 0 (.tmp 4) 4, none, []⟩] false) .ret))
def impl_isExponent_L : Live := [(0, [0]), (1, [0])]
theorem impl_isExponent_body : Try.f89.body = some (Try.f89.body.getD .skip) := by kernel_rfl
theorem impl_isExponent_strip : strip [] (Try.f89.body.getD .skip) = impl_isExponent_c := by kernel_rfl
noncomputable def impl_isExponent (a0 : Int) : Option Bool :=
  (Option.bind (impl_within a0 0 40) fun r1 => (some r1))
set_option maxHeartbeats 16000000 in
theorem impl_isExponent_ok (a0 : Int) (r : Bool) (h : impl_isExponent a0 = some r) : Den Try.prog 89 [(.int .i64 a0)] { r := (.bool r) } := by
  refine den_of (rs := [(.bool r)]) (ac := impl_isExponent_c) (L := impl_isExponent_L) (n := 5) (m := []) good Try.func89 impl_isExponent_body (by kernel_rfl) Try.ntmps89 rfl rfl impl_isExponent_strip rfl rfl ?_
  refine a_st (σ' := ⟨[(0, (.int .i64 a0))], []⟩) rfl ?_
  unfold impl_isExponent_c
  refine a_seq ?_
  refine a_region ?_
  refine a_val (v := (.bool false)) (u := []) rfl trivial rfl ?_
  refine a_nil ?_
  refine a_next (σ' := ⟨[(0, (.int .i64 a0))], []⟩) rfl ?_
  refine a_seq ?_
  refine a_region ?_
  refine a_val (v := (.int .i64 a0)) (u := []) rfl trivial rfl ?_
  obtain ⟨r1, hr2, h⟩ := bind_some h
  refine a_call (args := [(.int .i64 a0), (.int .i64 0), (.int .i64 40)]) (u := []) (r := (.bool r1)) rfl rfl (impl_within_ok a0 0 40 r1 hr2) rfl ?_
  refine a_val (v := (.bool r1)) (u := []) rfl trivial rfl ?_
  refine a_nil ?_
  refine a_next rfl ?_
  refine a_ret ?_
  refine ⟨.inr rfl, ?_⟩
  rw [Try.results89]
  cases h
  exact ⟨_, _, _, _, _, rfl, trivial, .inl ⟨rfl, .inl rfl⟩, rfl, rfl⟩
def impl_prime_norm_c : ACode := (.seq (.region 0 [⟨some 6, .asg 0 (.const (.int .i64 0)) 2, none, []⟩] false) (.seq (.region 1 [⟨some 7, .asg 0 (.const (.int .i64 1)) 2, none, []⟩] false) (.seq (.seq (.region 2 [⟨some 8, .mov (.tmp 1), none, []⟩, ⟨some 9, .mov (.const (.int .i64 0)), none, []⟩] false) (.block 0 (.loop (.seq (.region 3 [⟨some 10, .bin .lss 2 (.tmp 9) (.tmp 8), none, []⟩] false) (.seq (.cond (.tmp 10) .skip (.exit 0)) (.seq (.block 1 (.seq (.seq (.region 4 [⟨some 11, .mov (.tmp 7), none, []⟩, ⟨some 12, .mov (.tmp 2), none, []⟩, ⟨some 13, .bin .gtr 2 (.tmp 11) (.tmp 12), none, []⟩] false) (.cond (.tmp 13) (.exit 0) .skip)) (.region 5 [⟨some 14, .mov (.tmp 7), none, []⟩, ⟨some 15, .mov (.tmp 0), none, []⟩, ⟨some 16, .bin .mul 2 (.tmp 14) (.tmp 15), none, []⟩, ⟨some 7, .asg 0 (.tmp 16) 2, none, []⟩] false))) (.region 6 [⟨some 17, .bin .add 2 (.tmp 9) (.const (.int .i64 1)), none, []⟩, ⟨some 9, .mov (.tmp 17), none, []⟩] false))))))) (.seq (.region 7 [⟨some 18, .mov (.tmp 7), none, []⟩, ⟨some 6, .asg 0 (.tmp 18) 2, none, []⟩] false) .ret))))
def impl_prime_norm_L : Live := [(0, [0, 1, 2]), (1, [0, 1, 2]), (2, [0, 1, 2, 7]), (3, [0, 2, 7, 8, 9]), (4, [0, 2, 7, 8, 9]), (5, [0, 2, 7, 8, 9]), (6, [0, 2, 7, 8, 9]), (7, [7]), (100010, [0, 2, 7, 8, 9, 10]), (100013, [0, 2, 7, 8, 9, 13])]
theorem impl_prime_norm_body : Try.f67.body = some (Try.f67.body.getD .skip) := by kernel_rfl
theorem impl_prime_norm_strip : strip [] (Try.f67.body.getD .skip) = impl_prime_norm_c := by kernel_rfl
noncomputable def impl_prime_norm_l1 (a1 : Int) (a2 : Int) (a0 : Int) (x19 : Int) (x20 : Int) : Option ((Int × Int) ⊕ Int) :=
  (if (decide (x20 < a1)) then (if (decide (x19 > a2)) then (some (.inr x19)) else (some (.inl ((IntKind.i64.wrap (x19 * a0), IntKind.i64.wrap (x20 + 1)))))) else (some (.inr x19)))
noncomputable def impl_prime_norm (a0 : Int) (a1 : Int) (a2 : Int) : Option Int :=
  (Option.bind ((loopM (fun s : (Int × Int) => impl_prime_norm_l1 a1 a2 a0 s.1 s.2) (1, 0))) fun x13 => (some x13))
set_option maxHeartbeats 16000000 in
theorem impl_prime_norm_ok (a0 : Int) (a1 : Int) (a2 : Int) (r : Int) (h : impl_prime_norm a0 a1 a2 = some r) : Den Try.prog 67 [(.int .i64 a0), (.int .i64 a1), (.int .i64 a2)] { r := (.int .i64 r) } := by
  refine den_of (rs := [(.int .i64 r)]) (ac := impl_prime_norm_c) (L := impl_prime_norm_L) (n := 19) (m := []) good Try.func67 impl_prime_norm_body (by kernel_rfl) Try.ntmps67 rfl rfl impl_prime_norm_strip rfl rfl ?_
  refine a_st (σ' := ⟨[(0, (.int .i64 a0)), (1, (.int .i64 a1)), (2, (.int .i64 a2))], []⟩) rfl ?_
  unfold impl_prime_norm_c
  refine a_seq ?_
  refine a_region ?_
  refine a_val (v := (.int .i64 0)) (u := []) rfl trivial rfl ?_
  refine a_nil ?_
  refine a_next (σ' := ⟨[(0, (.int .i64 a0)), (1, (.int .i64 a1)), (2, (.int .i64 a2))], []⟩) rfl ?_
  refine a_seq ?_
  refine a_region ?_
  refine a_val (v := (.int .i64 1)) (u := []) rfl trivial rfl ?_
  refine a_nil ?_
  refine a_next (σ' := ⟨[(0, (.int .i64 a0)), (1, (.int .i64 a1)), (2, (.int .i64 a2)), (7, (.int .i64 1))], []⟩) rfl ?_
  obtain ⟨y14, hy15, hk16⟩ := bind_some h
  clear h
  refine a_join (emb := fun (s : Int) => ⟨[(7, (.int .i64 s))], []⟩) (pre := fun s => s = y14) ?_ ?_
  · rintro x13 rfl
    have h := hk16
    refine a_st (σ' := ⟨[(7, (.int .i64 x13))], []⟩) rfl ?_
    refine a_seq ?_
    refine a_region ?_
    refine a_val (v := (.int .i64 x13)) (u := []) rfl trivial rfl ?_
    refine a_val (v := (.int .i64 x13)) (u := []) rfl trivial rfl ?_
    refine a_nil ?_
    refine a_next rfl ?_
    refine a_ret ?_
    refine ⟨.inr rfl, ?_⟩
    rw [Try.results67]
    cases h
    exact ⟨_, _, _, _, _, rfl, trivial, .inl ⟨rfl, .inl rfl⟩, rfl, rfl⟩
  · have h := hy15
    refine a_seq ?_
    refine a_region ?_
    refine a_val (v := (.int .i64 a1)) (u := []) rfl trivial rfl ?_
    refine a_val (v := (.int .i64 0)) (u := []) rfl trivial rfl ?_
    refine a_nil ?_
    refine a_next (σ' := ⟨[(0, (.int .i64 a0)), (2, (.int .i64 a2)), (7, (.int .i64 1)), (8, (.int .i64 a1)), (9, (.int .i64 0))], []⟩) rfl ?_
    refine a_block ?_
    refine a_loop (emb := fun (s : (Int × Int)) => ⟨[(0, (.int .i64 a0)), (2, (.int .i64 a2)), (7, (.int .i64 s.1)), (8, (.int .i64 a1)), (9, (.int .i64 s.2))], []⟩) (body := (fun s : (Int × Int) => impl_prime_norm_l1 a1 a2 a0 s.1 s.2)) (G := fun q => some q = some y14) h rfl ?_ rfl
    rintro X23 ⟨x19, x20⟩ x24 h hX25
    have h : impl_prime_norm_l1 a1 a2 a0 x19 x20 = some x24 := h
    refine a_st (σ' := ⟨[(0, (.int .i64 a0)), (2, (.int .i64 a2)), (7, (.int .i64 x19)), (8, (.int .i64 a1)), (9, (.int .i64 x20))], []⟩) rfl ?_
    refine a_seq ?_
    refine a_region ?_
    refine a_val (v := (.bool ((decide (x20 < a1))))) (u := []) rfl trivial rfl ?_
    refine a_nil ?_
    refine a_next (σ' := ⟨[(0, (.int .i64 a0)), (2, (.int .i64 a2)), (7, (.int .i64 x19)), (8, (.int .i64 a1)), (9, (.int .i64 x20)), (10, (.bool ((decide (x20 < a1)))))], []⟩) rfl ?_
    refine a_seq ?_
    cases hb26 : (decide (x20 < a1))
    · have h := ite_f hb26 h
      refine a_cond_f rfl ?_
      refine a_exit ?_
      refine t_exit ?_
      cases h
      have h := hX25
      refine t_exit ?_
      refine b_exit ?_
      exact j_leaf x19 (Option.some.inj h) rfl
    · have h := ite_t hb26 h
      refine a_cond_t rfl ?_
      refine a_skip ?_
      refine a_next (σ' := ⟨[(0, (.int .i64 a0)), (2, (.int .i64 a2)), (7, (.int .i64 x19)), (8, (.int .i64 a1)), (9, (.int .i64 x20))], []⟩) rfl ?_
      refine a_seq ?_
      refine a_block ?_
      refine a_seq ?_
      refine a_seq ?_
      refine a_region ?_
      refine a_val (v := (.int .i64 x19)) (u := []) rfl trivial rfl ?_
      refine a_val (v := (.int .i64 a2)) (u := []) rfl trivial rfl ?_
      refine a_val (v := (.bool ((decide (x19 > a2))))) (u := []) rfl trivial rfl ?_
      refine a_nil ?_
      refine a_next (σ' := ⟨[(0, (.int .i64 a0)), (2, (.int .i64 a2)), (7, (.int .i64 x19)), (8, (.int .i64 a1)), (9, (.int .i64 x20)), (13, (.bool ((decide (x19 > a2)))))], []⟩) rfl ?_
      cases hb27 : (decide (x19 > a2))
      · have h := ite_f hb27 h
        refine a_cond_f rfl ?_
        refine a_skip ?_
        refine a_next (σ' := ⟨[(0, (.int .i64 a0)), (2, (.int .i64 a2)), (7, (.int .i64 x19)), (8, (.int .i64 a1)), (9, (.int .i64 x20))], []⟩) rfl ?_
        refine a_region ?_
        refine a_val (v := (.int .i64 x19)) (u := []) rfl trivial rfl ?_
        refine a_val (v := (.int .i64 a0)) (u := []) rfl trivial rfl ?_
        refine a_val (v := (.int .i64 (IntKind.i64.wrap (x19 * a0)))) (u := []) rfl trivial rfl ?_
        refine a_val (v := (.int .i64 (IntKind.i64.wrap (x19 * a0)))) (u := []) rfl trivial rfl ?_
        refine a_nil ?_
        refine b_norm ?_
        refine a_next (σ' := ⟨[(0, (.int .i64 a0)), (2, (.int .i64 a2)), (7, (.int .i64 (IntKind.i64.wrap (x19 * a0)))), (8, (.int .i64 a1)), (9, (.int .i64 x20))], []⟩) rfl ?_
        refine a_region ?_
        refine a_val (v := (.int .i64 (IntKind.i64.wrap (x20 + 1)))) (u := []) rfl trivial rfl ?_
        refine a_val (v := (.int .i64 (IntKind.i64.wrap (x20 + 1)))) (u := []) rfl trivial rfl ?_
        refine a_nil ?_
        cases h
        exact a_again rfl hX25
      · have h := ite_t hb27 h
        refine a_cond_t rfl ?_
        refine a_exit ?_
        refine t_exit ?_
        refine b_other rfl ?_
        refine t_exit ?_
        cases h
        have h := hX25
        refine t_exit ?_
        refine b_exit ?_
        exact j_leaf x19 (Option.some.inj h) rfl
def impl_prime_isSummed_c : ACode := (.seq (.region 0 [⟨some 4, .asg 0 (.const (.bool false)) 4, none, []⟩] false) (.seq (.region 1 [⟨some 5, .mov (.tmp 0), none, []⟩, ⟨some 6, .mov (.tmp 1), none, []⟩, ⟨some 7, .call 0 (.func 67) [(.tmp 5), (.tmp 6), (.const (.int .i64 343))], none, []⟩, ⟨some 8, .bin .leq 2 (.tmp 7) (.const (.int .i64 343)), none, []⟩, ⟨some 4, .asg 0 (.tmp 8) 4, none, []⟩] false) .ret))
def impl_prime_isSummed_L : Live := [(0, [0, 1]), (1, [0, 1])]
theorem impl_prime_isSummed_body : Try.f124.body = some (Try.f124.body.getD .skip) := by kernel_rfl
theorem impl_prime_isSummed_strip : strip [] (Try.f124.body.getD .skip) = impl_prime_isSummed_c := by kernel_rfl
noncomputable def impl_prime_isSummed (a0 : Int) (a1 : Int) : Option Bool :=
  (Option.bind (impl_prime_norm a0 a1 343) fun r1 => (some ((decide (r1 ≤ 343)))))
set_option maxHeartbeats 16000000 in
theorem impl_prime_isSummed_ok (a0 : Int) (a1 : Int) (r : Bool) (h : impl_prime_isSummed a0 a1 = some r) : Den Try.prog 124 [(.int .i64 a0), (.int .i64 a1)] { r := (.bool r) } := by
  refine den_of (rs := [(.bool r)]) (ac := impl_prime_isSummed_c) (L := impl_prime_isSummed_L) (n := 9) (m := []) good Try.func124 impl_prime_isSummed_body (by kernel_rfl) Try.ntmps124 rfl rfl impl_prime_isSummed_strip rfl rfl ?_
  refine a_st (σ' := ⟨[(0, (.int .i64 a0)), (1, (.int .i64 a1))], []⟩) rfl ?_
  unfold impl_prime_isSummed_c
  refine a_seq ?_
  refine a_region ?_
  refine a_val (v := (.bool false)) (u := []) rfl trivial rfl ?_
  refine a_nil ?_
  refine a_next (σ' := ⟨[(0, (.int .i64 a0)), (1, (.int .i64 a1))], []⟩) rfl ?_
  refine a_seq ?_
  refine a_region ?_
  refine a_val (v := (.int .i64 a0)) (u := []) rfl trivial rfl ?_
  refine a_val (v := (.int .i64 a1)) (u := []) rfl trivial rfl ?_
  obtain ⟨r1, hr2, h⟩ := bind_some h
  refine a_call (args := [(.int .i64 a0), (.int .i64 a1), (.int .i64 343)]) (u := []) (r := (.int .i64 r1)) rfl rfl (impl_prime_norm_ok a0 a1 343 r1 hr2) rfl ?_
  refine a_val (v := (.bool ((decide (r1 ≤ 343))))) (u := []) rfl trivial rfl ?_
  refine a_val (v := (.bool ((decide (r1 ≤ 343))))) (u := []) rfl trivial rfl ?_
  refine a_nil ?_
  refine a_next rfl ?_
  refine a_ret ?_
  refine ⟨.inr rfl, ?_⟩
  rw [Try.results124]
  cases h
  exact ⟨_, _, _, _, _, rfl, trivial, .inl ⟨rfl, .inl rfl⟩, rfl, rfl⟩
def impl_prime_isSumDegree_c : ACode := (.seq (.region 0 [⟨some 4, .asg 0 (.const (.bool false)) 4, none, []⟩] false) (.seq (.region 1 [⟨some 5, .mov (.tmp 1), none, []⟩, ⟨some 6, .call 0 (.func 66) [(.tmp 5), (.const (.int .i64 0)), (.const (.int .i64 8))], none, []⟩, ⟨some 7, .mov (.tmp 6), none, []⟩, ⟨some 8, .mov (.tmp 0), some (7, true), []⟩, ⟨some 9, .mov (.tmp 1), some (7, true), []⟩, ⟨some 10, .call 0 (.func 124) [(.tmp 8), (.tmp 9)], some (7, true), []⟩, ⟨some 11, .pick (.tmp 7) (.tmp 10) (.const (.bool false)), none, []⟩, ⟨some 4, .asg 0 (.tmp 11) 4, none, []⟩] false) .ret))
def impl_prime_isSumDegree_L : Live := [(0, [0, 1]), (1, [0, 1])]
theorem impl_prime_isSumDegree_body : Try.f90.body = some (Try.f90.body.getD .skip) := by kernel_rfl
theorem impl_prime_isSumDegree_strip : strip [] (Try.f90.body.getD .skip) = impl_prime_isSumDegree_c := by kernel_rfl
noncomputable def impl_prime_isSumDegree (a0 : Int) (a1 : Int) : Option Bool :=
  (Option.bind (impl_within a1 0 8) fun r1 => (if r1 then (Option.bind (impl_prime_isSummed a0 a1) fun r4 => (some r4)) else (some false)))
set_option maxHeartbeats 16000000 in
theorem impl_prime_isSumDegree_ok (a0 : Int) (a1 : Int) (r : Bool) (h : impl_prime_isSumDegree a0 a1 = some r) : Den Try.prog 90 [(.int .i64 a0), (.int .i64 a1)] { r := (.bool r) } := by
  refine den_of (rs := [(.bool r)]) (ac := impl_prime_isSumDegree_c) (L := impl_prime_isSumDegree_L) (n := 12) (m := []) good Try.func90 impl_prime_isSumDegree_body (by kernel_rfl) Try.ntmps90 rfl rfl impl_prime_isSumDegree_strip rfl rfl ?_
  refine a_st (σ' := ⟨[(0, (.int .i64 a0)), (1, (.int .i64 a1))], []⟩) rfl ?_
  unfold impl_prime_isSumDegree_c
  refine a_seq ?_
  refine a_region ?_
  refine a_val (v := (.bool false)) (u := []) rfl trivial rfl ?_
  refine a_nil ?_
  refine a_next (σ' := ⟨[(0, (.int .i64 a0)), (1, (.int .i64 a1))], []⟩) rfl ?_
  refine a_seq ?_
  refine a_region ?_
  refine a_val (v := (.int .i64 a1)) (u := []) rfl trivial rfl ?_
  obtain ⟨r1, hr2, h⟩ := bind_some h
  refine a_call (args := [(.int .i64 a1), (.int .i64 0), (.int .i64 8)]) (u := []) (r := (.bool r1)) rfl rfl (impl_within_ok a1 0 8 r1 hr2) rfl ?_
  refine a_val (v := (.bool r1)) (u := []) rfl trivial rfl ?_
  cases hb3 : r1
  · have h := ite_f hb3 h
    refine a_gskip rfl ?_
    refine a_gskip rfl ?_
    refine a_gskip rfl ?_
    refine a_val (v := (.bool false)) (u := []) rfl trivial rfl ?_
    refine a_val (v := (.bool false)) (u := []) rfl trivial rfl ?_
    refine a_nil ?_
    refine a_next rfl ?_
    refine a_ret ?_
    refine ⟨.inr rfl, ?_⟩
    rw [Try.results90]
    cases h
    exact ⟨_, _, _, _, _, rfl, trivial, .inl ⟨rfl, .inl rfl⟩, rfl, rfl⟩
  · have h := ite_t hb3 h
    refine a_gval rfl (v := (.int .i64 a0)) (u := []) rfl trivial rfl ?_
    refine a_gval rfl (v := (.int .i64 a1)) (u := []) rfl trivial rfl ?_
    obtain ⟨r4, hr5, h⟩ := bind_some h
    refine a_gcall rfl (args := [(.int .i64 a0), (.int .i64 a1)]) (u := []) (r := (.bool r4)) rfl rfl (impl_prime_isSummed_ok a0 a1 r4 hr5) rfl ?_
    refine a_val (v := (.bool r4)) (u := []) rfl trivial rfl ?_
    refine a_val (v := (.bool r4)) (u := []) rfl trivial rfl ?_
    refine a_nil ?_
    refine a_next rfl ?_
    refine a_ret ?_
    refine ⟨.inr rfl, ?_⟩
    rw [Try.results90]
    cases h
    exact ⟨_, _, _, _, _, rfl, trivial, .inl ⟨rfl, .inl rfl⟩, rfl, rfl⟩
def impl_prime_monics_c : ACode := (.seq (.region 0 [⟨some 4, .asg 1 (.const (.slice none 0 0)) 79, none, []⟩] false) (.seq (.region 1 [⟨some 8, .mov (.tmp 0), none, []⟩, ⟨some 9, .mov (.tmp 1), none, []⟩, ⟨some 10, .call 0 (.func 67) [(.tmp 8), (.tmp 9), (.const (.int .i64 343))], none, []⟩, ⟨some 5, .asg 0 (.tmp 10) 2, none, []⟩] false) (.seq (.region 2 [⟨some 6, .asg 2 (.const (.slice none 0 0)) 79, none, []⟩] false) (.seq (.seq (.region 3 [⟨some 11, .mov (.tmp 5), none, []⟩, ⟨some 12, .mov (.const (.int .i64 0)), none, []⟩] false) (.block 0 (.loop (.seq (.region 4 [⟨some 13, .bin .lss 2 (.tmp 12) (.tmp 11), none, []⟩] false) (.seq (.cond (.tmp 13) .skip (.exit 0)) (.seq (.block 1 (.seq (.region 5 [⟨some 14, .mov (.tmp 12), none, []⟩, ⟨some 7, .asg 0 (.tmp 14) 2, none, []⟩] false) (.region 6 [⟨some 15, .mov (.tmp 6), none, []⟩, ⟨some 16, .mov (.tmp 0), none, []⟩, ⟨some 17, .mov (.tmp 5), none, []⟩, ⟨some 18, .mov (.tmp 7), none, []⟩, ⟨some 19, .bin .add 2 (.tmp 17) (.tmp 18), none, []⟩, ⟨some 20, .call 0 (.func 55) [(.tmp 16), (.tmp 19)], none, []⟩, ⟨some 21, .bslice 79 1 [(0, (.tmp 20))], none, []⟩, ⟨some 22, .blt 0 .append [(.tmp 15), (.tmp 21)] [79, 79], none, []⟩, ⟨some 6, .asg 2 (.tmp 22) 79, none, []⟩] false))) (.region 7 [⟨some 23, .bin .add 2 (.tmp 12) (.const (.int .i64 1)), none, []⟩, ⟨some 12, .mov (.tmp 23), none, []⟩] false))))))) (.seq (.region 8 [⟨some 24, .mov (.tmp 6), none, []⟩, ⟨some 4, .asg 1 (.tmp 24) 79, none, []⟩] false) .ret)))))
def impl_prime_monics_L : Live := [(0, [0, 1]), (1, [0, 1]), (2, [0, 5]), (3, [0, 5, 6]), (4, [0, 5, 6, 11, 12]), (5, [0, 5, 6, 11, 12]), (6, [0, 5, 6, 7, 11, 12]), (7, [0, 5, 6, 11, 12]), (8, [6]), (100013, [0, 5, 6, 11, 12, 13])]
theorem impl_prime_monics_body : Try.f69.body = some (Try.f69.body.getD .skip) := by kernel_rfl
theorem impl_prime_monics_strip : strip [(4, 1), (6, 2)] (Try.f69.body.getD .skip) = impl_prime_monics_c := by kernel_rfl
noncomputable def impl_prime_monics_l1 (r1 : Int) (a0 : Int) (x29 : Int) (x30 : (List (List Int))) : Option ((Int × (List (List Int))) ⊕ (List (List Int))) :=
  (if (decide (x29 < r1)) then (Option.bind (impl_prime_numbered a0 (IntKind.i64.wrap (r1 + x29))) fun r39 => (ifp ((x30.length + ([r39] : List (List Int)).length) * 24 ≤ 140737488355328) ((some (.inl ((IntKind.i64.wrap (x29 + 1), (x30 ++ ([r39]))))))))) else (some (.inr x30)))
noncomputable def impl_prime_monics (a0 : Int) (a1 : Int) : Option (List (List Int)) :=
  (Option.bind (impl_prime_norm a0 a1 343) fun r1 => (Option.bind ((loopM (fun s : (Int × (List (List Int))) => impl_prime_monics_l1 r1 a0 s.1 s.2) (0, []))) fun x21 => (some x21)))
set_option maxHeartbeats 16000000 in
theorem impl_prime_monics_ok (a0 : Int) (a1 : Int) (r : (List (List Int))) (h : impl_prime_monics a0 a1 = some r) : Den Try.prog 69 [(.int .i64 a0), (.int .i64 a1)] { r := (eSSi64 r) } := by
  refine den_of (rs := [(eSSi64 r)]) (ac := impl_prime_monics_c) (L := impl_prime_monics_L) (n := 25) (m := [(4, 1), (6, 2)]) good Try.func69 impl_prime_monics_body (by kernel_rfl) Try.ntmps69 rfl rfl impl_prime_monics_strip rfl rfl ?_
  refine a_st (σ' := ⟨[(0, (.int .i64 a0)), (1, (.int .i64 a1))], []⟩) rfl ?_
  unfold impl_prime_monics_c
  refine a_seq ?_
  refine a_region ?_
  refine a_val (v := (eSSi64 ([]))) (u := []) rfl trivial rfl ?_
  refine a_nil ?_
  refine a_next (σ' := ⟨[(0, (.int .i64 a0)), (1, (.int .i64 a1))], []⟩) rfl ?_
  refine a_seq ?_
  refine a_region ?_
  refine a_val (v := (.int .i64 a0)) (u := []) rfl trivial rfl ?_
  refine a_val (v := (.int .i64 a1)) (u := []) rfl trivial rfl ?_
  obtain ⟨r1, hr2, h⟩ := bind_some h
  refine a_call (args := [(.int .i64 a0), (.int .i64 a1), (.int .i64 343)]) (u := []) (r := (.int .i64 r1)) rfl rfl (impl_prime_norm_ok a0 a1 343 r1 hr2) rfl ?_
  refine a_val (v := (.int .i64 r1)) (u := []) rfl trivial rfl ?_
  refine a_nil ?_
  refine a_next (σ' := ⟨[(0, (.int .i64 a0)), (5, (.int .i64 r1))], []⟩) rfl ?_
  refine a_seq ?_
  refine a_region ?_
  refine a_val (v := (.osl 1600)) (u := [(1600, some ⟨(.row 1 (([]).map eSi64)), false⟩)]) rfl trivial rfl ?_
  refine a_nil ?_
  refine a_next (σ' := ⟨[(0, (.int .i64 a0)), (5, (.int .i64 r1)), (6, (.osl 6))], [(6, some ⟨(.row 1 (([]).map eSi64)), false⟩)]⟩) rfl ?_
  obtain ⟨y22, hy23, hk24⟩ := bind_some h
  clear h
  refine a_join (emb := fun (s : (List (List Int))) => ⟨[(6, (.osl 6))], [(6, some ⟨(.row 1 (s.map eSi64)), false⟩)]⟩) (pre := fun s => s = y22) ?_ ?_
  · rintro x21 rfl
    have h := hk24
    refine a_st (σ' := ⟨[(6, (.osl 6))], [(6, some ⟨(.row 1 (x21.map eSi64)), false⟩)]⟩) rfl ?_
    refine a_seq ?_
    refine a_region ?_
    refine a_val (v := (.osl 6)) (u := []) rfl trivial rfl ?_
    refine a_val (v := (eSSi64 x21)) (u := [(6, some ⟨(.row 1 (x21.map eSi64)), true⟩)]) rfl trivial rfl ?_
    refine a_nil ?_
    refine a_next rfl ?_
    refine a_ret ?_
    refine ⟨.inr rfl, ?_⟩
    rw [Try.results69]
    cases h
    exact ⟨_, _, _, _, _, rfl, trivial, .inl ⟨rfl, .inl rfl⟩, rfl, rfl⟩
  · have h := hy23
    refine a_seq ?_
    refine a_region ?_
    refine a_val (v := (.int .i64 r1)) (u := []) rfl trivial rfl ?_
    refine a_val (v := (.int .i64 0)) (u := []) rfl trivial rfl ?_
    refine a_nil ?_
    refine a_next (σ' := ⟨[(0, (.int .i64 a0)), (5, (.int .i64 r1)), (6, (.osl 6)), (11, (.int .i64 r1)), (12, (.int .i64 0))], [(6, some ⟨(.row 1 (([]).map eSi64)), false⟩)]⟩) rfl ?_
    refine a_block ?_
    refine a_loop (emb := fun (s : (Int × (List (List Int)))) => ⟨[(0, (.int .i64 a0)), (5, (.int .i64 r1)), (6, (.osl 6)), (11, (.int .i64 r1)), (12, (.int .i64 s.1))], [(6, some ⟨(.row 1 (s.2.map eSi64)), false⟩)]⟩) (body := (fun s : (Int × (List (List Int))) => impl_prime_monics_l1 r1 a0 s.1 s.2)) (G := fun q => some q = some y22) h rfl ?_ rfl
    rintro X35 ⟨x29, x30⟩ x36 h hX37
    have h : impl_prime_monics_l1 r1 a0 x29 x30 = some x36 := h
    refine a_st (σ' := ⟨[(0, (.int .i64 a0)), (5, (.int .i64 r1)), (6, (.osl 6)), (11, (.int .i64 r1)), (12, (.int .i64 x29))], [(6, some ⟨(.row 1 (x30.map eSi64)), false⟩)]⟩) rfl ?_
    refine a_seq ?_
    refine a_region ?_
    refine a_val (v := (.bool ((decide (x29 < r1))))) (u := []) rfl trivial rfl ?_
    refine a_nil ?_
    refine a_next (σ' := ⟨[(0, (.int .i64 a0)), (5, (.int .i64 r1)), (6, (.osl 6)), (11, (.int .i64 r1)), (12, (.int .i64 x29)), (13, (.bool ((decide (x29 < r1)))))], [(6, some ⟨(.row 1 (x30.map eSi64)), false⟩)]⟩) rfl ?_
    refine a_seq ?_
    cases hb38 : (decide (x29 < r1))
    · have h := ite_f hb38 h
      refine a_cond_f rfl ?_
      refine a_exit ?_
      refine t_exit ?_
      cases h
      have h := hX37
      refine t_exit ?_
      refine b_exit ?_
      exact j_leaf x30 (Option.some.inj h) rfl
    · have h := ite_t hb38 h
      refine a_cond_t rfl ?_
      refine a_skip ?_
      refine a_next (σ' := ⟨[(0, (.int .i64 a0)), (5, (.int .i64 r1)), (6, (.osl 6)), (11, (.int .i64 r1)), (12, (.int .i64 x29))], [(6, some ⟨(.row 1 (x30.map eSi64)), false⟩)]⟩) rfl ?_
      refine a_seq ?_
      refine a_block ?_
      refine a_seq ?_
      refine a_region ?_
      refine a_val (v := (.int .i64 x29)) (u := []) rfl trivial rfl ?_
      refine a_val (v := (.int .i64 x29)) (u := []) rfl trivial rfl ?_
      refine a_nil ?_
      refine a_next (σ' := ⟨[(0, (.int .i64 a0)), (5, (.int .i64 r1)), (6, (.osl 6)), (7, (.int .i64 x29)), (11, (.int .i64 r1)), (12, (.int .i64 x29))], [(6, some ⟨(.row 1 (x30.map eSi64)), false⟩)]⟩) rfl ?_
      refine a_region ?_
      refine a_val (v := (.osl 6)) (u := []) rfl trivial rfl ?_
      refine a_val (v := (.int .i64 a0)) (u := []) rfl trivial rfl ?_
      refine a_val (v := (.int .i64 r1)) (u := []) rfl trivial rfl ?_
      refine a_val (v := (.int .i64 x29)) (u := []) rfl trivial rfl ?_
      refine a_val (v := (.int .i64 (IntKind.i64.wrap (r1 + x29)))) (u := []) rfl trivial rfl ?_
      obtain ⟨r39, hr40, h⟩ := bind_some h
      refine a_call (args := [(.int .i64 a0), (.int .i64 (IntKind.i64.wrap (r1 + x29)))]) (u := []) (r := (eSi64 r39)) rfl rfl (impl_prime_numbered_ok a0 (IntKind.i64.wrap (r1 + x29)) r39 hr40) rfl ?_
      refine a_val (v := (.sl 1 true (([r39]).map eSi64))) (u := []) rfl ⟨(Nat.le_of_ble_eq_true rfl), (Nat.le_of_ble_eq_true rfl), (all_cons ⟨(Nat.le_of_ble_eq_true rfl), rfl⟩ all_nil)⟩ rfl ?_
      obtain ⟨hc41, h⟩ := ifp_some h
      refine a_val (v := (.osl 3200)) (u := [(3200, some ⟨(.row 1 (((x30 ++ ([r39]))).map eSi64)), false⟩), (6, none)]) (app_run (i := ⟨.slice 2, 1, 24, (eSi64 [])⟩) (f := eSi64) (l := x30) (l2 := [r39]) rfl rfl rfl rfl (fun _ => rfl) rfl rfl) (app_c (f := eSi64) (s := 1) (sz := 1) (by' := 24) (u := []) (id := 6) hc41 (.inr rfl) rfl rfl rfl) rfl ?_
      refine a_val (v := (.osl 3200)) (u := []) rfl trivial rfl ?_
      refine a_nil ?_
      refine b_norm ?_
      refine a_next (σ' := ⟨[(0, (.int .i64 a0)), (5, (.int .i64 r1)), (6, (.osl 6)), (11, (.int .i64 r1)), (12, (.int .i64 x29))], [(6, some ⟨(.row 1 (((x30 ++ ([r39]))).map eSi64)), false⟩)]⟩) rfl ?_
      refine a_region ?_
      refine a_val (v := (.int .i64 (IntKind.i64.wrap (x29 + 1)))) (u := []) rfl trivial rfl ?_
      refine a_val (v := (.int .i64 (IntKind.i64.wrap (x29 + 1)))) (u := []) rfl trivial rfl ?_
      refine a_nil ?_
      cases h
      exact a_again rfl hX37
def impl_prime_times_c : ACode := (.seq (.region 0 [⟨some 6, .asg 1 (.const (.slice none 0 0)) 66, none, []⟩] false) (.seq (.seq (.region 1 [⟨some 14, .mov (.tmp 1), none, []⟩, ⟨some 15, .blt 0 .len [(.tmp 14)] [66], none, []⟩, ⟨some 16, .bin .eql 3 (.tmp 15) (.const (.int .i64 0)), none, []⟩, ⟨some 17, .mov (.tmp 16), none, []⟩, ⟨some 18, .mov (.tmp 2), some (17, false), []⟩, ⟨some 19, .blt 0 .len [(.tmp 18)] [66], some (17, false), []⟩, ⟨some 20, .bin .eql 3 (.tmp 19) (.const (.int .i64 0)), some (17, false), []⟩, ⟨some 21, .pick (.tmp 17) (.const (.bool true)) (.tmp 20), none, []⟩] false) (.cond (.tmp 21) (.seq (.region 2 [⟨some 6, .asg 1 (.const (.slice none 0 0)) 66, none, []⟩] false) .ret) .skip)) (.seq (.region 3 [⟨some 22, .mov (.tmp 1), none, []⟩, ⟨some 23, .blt 0 .len [(.tmp 22)] [66], none, []⟩, ⟨some 24, .mov (.tmp 2), none, []⟩, ⟨some 25, .blt 0 .len [(.tmp 24)] [66], none, []⟩, ⟨some 26, .bin .add 3 (.tmp 23) (.tmp 25), none, []⟩, ⟨some 27, .bin .sub 3 (.tmp 26) (.const (.int .i64 1)), none, []⟩, ⟨some 28, .mkslice 66 (.tmp 27) (.tmp 27), none, []⟩, ⟨some 7, .asg 2 (.tmp 28) 66, none, []⟩] false) (.seq (.seq (.region 4 [⟨some 29, .mov (.tmp 1), none, []⟩, ⟨some 30, .blt 0 .len [(.tmp 29)] [66], none, []⟩, ⟨some 31, .mov (.const (.int .i64 0)), none, []⟩] false) (.block 0 (.loop (.seq (.region 5 [⟨some 32, .bin .lss 3 (.tmp 31) (.tmp 30), none, []⟩] false) (.seq (.cond (.tmp 32) .skip (.exit 0)) (.seq (.block 1 (.seq (.region 6 [⟨some 33, .mov (.tmp 31), none, []⟩, ⟨some 34, .indexAddr 66 (.tmp 29) (.tmp 31), none, []⟩, ⟨some 35, .load 2 (.tmp 34), none, []⟩, ⟨some 8, .asg 0 (.tmp 33) 3, none, []⟩, ⟨some 9, .asg 0 (.tmp 35) 2, none, []⟩] false) (.seq (.region 7 [⟨some 36, .mov (.tmp 2), none, []⟩, ⟨some 37, .blt 0 .len [(.tmp 36)] [66], none, []⟩, ⟨some 38, .mov (.const (.int .i64 0)), none, []⟩] false) (.block 2 (.loop (.seq (.region 8 [⟨some 39, .bin .lss 3 (.tmp 38) (.tmp 37), none, []⟩] false) (.seq (.cond (.tmp 39) .skip (.exit 2)) (.seq (.block 3 (.seq (.region 9 [⟨some 40, .mov (.tmp 38), none, []⟩, ⟨some 41, .indexAddr 66 (.tmp 36) (.tmp 38), none, []⟩, ⟨some 42, .load 2 (.tmp 41), none, []⟩, ⟨some 10, .asg 0 (.tmp 40) 3, none, []⟩, ⟨some 11, .asg 0 (.tmp 42) 2, none, []⟩] false) (.region 10 [⟨some 43, .mov (.tmp 7), none, []⟩, ⟨some 44, .mov (.tmp 8), none, []⟩, ⟨some 45, .mov (.tmp 10), none, []⟩, ⟨some 46, .bin .add 3 (.tmp 44) (.tmp 45), none, []⟩, ⟨some 47, .indexAddr 66 (.tmp 43) (.tmp 46), none, []⟩, ⟨some 48, .load 2 (.tmp 47), none, []⟩, ⟨some 49, .mov (.tmp 9), none, []⟩, ⟨some 50, .mov (.tmp 11), none, []⟩, ⟨some 51, .bin .mul 2 (.tmp 49) (.tmp 50), none, []⟩, ⟨some 52, .bin .add 2 (.tmp 48) (.tmp 51), none, []⟩, ⟨some 53, .indexAddr 66 (.tmp 43) (.tmp 46), none, []⟩, ⟨none, .store 2 (.tmp 53) (.tmp 52), none, []⟩] false))) (.region 11 [⟨some 54, .bin .add 3 (.tmp 38) (.const (.int .i64 1)), none, []⟩, ⟨some 38, .mov (.tmp 54), none, []⟩] false))))))))) (.region 12 [⟨some 55, .bin .add 3 (.tmp 31) (.const (.int .i64 1)), none, []⟩, ⟨some 31, .mov (.tmp 55), none, []⟩] false))))))) (.seq (.seq (.region 13 [⟨some 56, .mov (.tmp 7), none, []⟩, ⟨some 57, .blt 0 .len [(.tmp 56)] [66], none, []⟩, ⟨some 58, .mov (.const (.int .i64 0)), none, []⟩] false) (.block 4 (.loop (.seq (.region 14 [⟨some 59, .bin .lss 3 (.tmp 58) (.tmp 57), none, []⟩] false) (.seq (.cond (.tmp 59) .skip (.exit 4)) (.seq (.block 5 (.seq (.region 15 [⟨some 60, .mov (.tmp 58), none, []⟩, ⟨some 61, .indexAddr 66 (.tmp 56) (.tmp 58), none, []⟩, ⟨some 62, .load 2 (.tmp 61), none, []⟩, ⟨some 12, .asg 0 (.tmp 60) 3, none, []⟩, ⟨some 13, .asg 0 (.tmp 62) 2, none, []⟩] false) (.region 16 [⟨some 63, .mov (.tmp 7), none, []⟩, ⟨some 64, .mov (.tmp 12), none, []⟩, ⟨some 65, .mov (.tmp 13), none, []⟩, ⟨some 66, .mov (.tmp 0), none, []⟩, ⟨some 67, .bin .rem 2 (.tmp 65) (.tmp 66), none, []⟩, ⟨some 68, .indexAddr 66 (.tmp 63) (.tmp 64), none, []⟩, ⟨none, .store 2 (.tmp 68) (.tmp 67), none, []⟩] false))) (.region 17 [⟨some 69, .bin .add 3 (.tmp 58) (.const (.int .i64 1)), none, []⟩, ⟨some 58, .mov (.tmp 69), none, []⟩] false))))))) (.seq (.region 18 [⟨some 70, .mov (.tmp 7), none, []⟩, ⟨some 71, .call 0 (.func 111) [(.tmp 70)], none, []⟩, ⟨some 6, .asg 1 (.tmp 71) 66, none, []⟩] false) .ret))))))
def impl_prime_times_L : Live := [(0, [0, 1, 2]), (1, [0, 1, 2]), (2, []), (3, [0, 1, 2]), (4, [0, 1, 2, 7]), (5, [0, 2, 7, 29, 30, 31]), (6, [0, 2, 7, 29, 30, 31]), (7, [0, 2, 7, 8, 9, 29, 30, 31]), (8, [0, 2, 7, 8, 9, 29, 30, 31, 36, 37, 38]), (9, [0, 2, 7, 8, 9, 29, 30, 31, 36, 37, 38]), (10, [0, 2, 7, 8, 9, 10, 11, 29, 30, 31, 36, 37, 38]), (11, [0, 2, 7, 8, 9, 29, 30, 31, 36, 37, 38]), (12, [0, 2, 7, 29, 30, 31]), (13, [0, 7]), (14, [0, 7, 56, 57, 58]), (15, [0, 7, 56, 57, 58]), (16, [0, 7, 12, 13, 56, 57, 58]), (17, [0, 7, 56, 57, 58]), (18, [7]), (100021, [0, 1, 2, 21]), (100032, [0, 2, 7, 29, 30, 31, 32]), (100039, [0, 2, 7, 8, 9, 29, 30, 31, 36, 37, 38, 39]), (100059, [0, 7, 56, 57, 58, 59])]
theorem impl_prime_times_body : Try.f86.body = some (Try.f86.body.getD .skip) := by kernel_rfl
theorem impl_prime_times_strip : strip [(6, 1), (7, 2)] (Try.f86.body.getD .skip) = impl_prime_times_c := by kernel_rfl
noncomputable def impl_prime_times_l2 (a2 : (List Int)) (x329 : Int) (a1 : (List Int)) (x460 : Int) (x461 : (List Int)) : Option ((Int × (List Int)) ⊕ (List Int)) :=
  (if (decide (x460 < (a2.length : Int))) then (ifp (0 ≤ x460 ∧ x460 < ((a2.length : Nat) : Int)) ((ifp (0 ≤ IntKind.i64.wrap (x329 + x460) ∧ IntKind.i64.wrap (x329 + x460) < ((x461.length : Nat) : Int)) ((letp (IntKind.i64.wrap (((rd x461 (IntKind.i64.wrap (x329 + x460)).toNat)) + (IntKind.i64.wrap ((rd a1 x329.toNat) * (rd a2 x460.toNat))))) fun x479 => (ifp (0 ≤ IntKind.i64.wrap (x329 + x460) ∧ IntKind.i64.wrap (x329 + x460) < ((x461.length : Nat) : Int)) ((some (.inl ((IntKind.i64.wrap (x460 + 1), (x461.set (IntKind.i64.wrap (x329 + x460)).toNat x479)))))))))))) else (some (.inr x461)))
noncomputable def impl_prime_times_l1 (a1 : (List Int)) (a2 : (List Int)) (x329 : Int) (x330 : (List Int)) : Option ((Int × (List Int)) ⊕ (List Int)) :=
  (if (decide (x329 < (a1.length : Int))) then (Option.bind ((ifp (0 ≤ x329 ∧ x329 < ((a1.length : Nat) : Int)) ((loopM (fun s : (Int × (List Int)) => impl_prime_times_l2 a2 x329 a1 s.1 s.2) (0, x330))))) fun x445 => (some (.inl ((IntKind.i64.wrap (x329 + 1), x445))))) else (some (.inr x330)))
noncomputable def impl_prime_times_l3 (x246 : (List Int)) (a0 : Int) (x519 : Int) (x520 : (List Int)) : Option ((Int × (List Int)) ⊕ (List Int)) :=
  (if (decide (x519 < (x246.length : Int))) then (ifp (0 ≤ x519 ∧ x519 < ((x520.length : Nat) : Int)) ((ifp (a0 ≠ 0) ((ifp (0 ≤ x519 ∧ x519 < ((x520.length : Nat) : Int)) ((some (.inl ((IntKind.i64.wrap (x519 + 1), (x520.set x519.toNat (Int.tmod (rd x520 x519.toNat) a0)))))))))))) else (some (.inr x520)))
noncomputable def impl_prime_times (a0 : Int) (a1 : (List Int)) (a2 : (List Int)) : Option (List Int) :=
  (Option.bind ((if ((a1.length : Int) == 0) then (some true) else (some (((a2.length : Int) == 0))))) fun x2 => (if x2 then (some ([])) else (letp (IntKind.i64.wrap ((IntKind.i64.wrap ((a1.length : Int) + (a2.length : Int))) - 1)) fun x8 => (ifp (0 ≤ x8 ∧ x8 ≤ 140737488355328 ∧ 8 * x8 ≤ 140737488355328) ((Option.bind ((loopM (fun s : (Int × (List Int)) => impl_prime_times_l1 a1 a2 s.1 s.2) (0, List.replicate x8.toNat (0 : Int)))) fun x246 => (Option.bind ((loopM (fun s : (Int × (List Int)) => impl_prime_times_l3 x246 a0 s.1 s.2) (0, x246))) fun x509 => (Option.bind (impl_row_trimmed x509) fun r537 => (some r537)))))))))
set_option maxHeartbeats 16000000 in
theorem impl_prime_times_ok (a0 : Int) (a1 : (List Int)) (a2 : (List Int)) (r : (List Int)) (h : impl_prime_times a0 a1 a2 = some r) : Den Try.prog 86 [(.int .i64 a0), (eSi64 a1), (eSi64 a2)] { r := (eSi64 r) } := by
  refine den_of (rs := [(eSi64 r)]) (ac := impl_prime_times_c) (L := impl_prime_times_L) (n := 72) (m := [(6, 1), (7, 2)]) good Try.func86 impl_prime_times_body (by kernel_rfl) Try.ntmps86 rfl rfl impl_prime_times_strip rfl rfl ?_
  refine a_st (σ' := ⟨[(0, (.int .i64 a0)), (1, (eSi64 a1)), (2, (eSi64 a2))], []⟩) rfl ?_
  unfold impl_prime_times_c
  refine a_seq ?_
  refine a_region ?_
  refine a_val (v := (eSi64 ([]))) (u := []) rfl trivial rfl ?_
  refine a_nil ?_
  refine a_next (σ' := ⟨[(0, (.int .i64 a0)), (1, (eSi64 a1)), (2, (eSi64 a2))], []⟩) rfl ?_
  refine a_seq ?_
  obtain ⟨y3, hy4, hk5⟩ := bind_some h
  clear h
  refine a_join (emb := fun (s : Bool) => ⟨[(0, (.int .i64 a0)), (1, (eSi64 a1)), (2, (eSi64 a2)), (21, (.bool s))], []⟩) (pre := fun s => s = y3) ?_ ?_
  · rintro x2 rfl
    have h := hk5
    refine a_st (σ' := ⟨[(0, (.int .i64 a0)), (1, (eSi64 a1)), (2, (eSi64 a2)), (21, (.bool x2))], []⟩) rfl ?_
    cases hb7 : x2
    · have h := ite_f hb7 h
      refine a_cond_f rfl ?_
      refine a_skip ?_
      refine a_next (σ' := ⟨[(0, (.int .i64 a0)), (1, (eSi64 a1)), (2, (eSi64 a2))], []⟩) rfl ?_
      refine a_seq ?_
      refine a_region ?_
      refine a_val (v := (eSi64 a1)) (u := []) rfl trivial rfl ?_
      refine a_val (v := (.int .i64 (a1.length : Int))) (u := []) (len_run rfl rfl) trivial rfl ?_
      refine a_val (v := (eSi64 a2)) (u := []) rfl trivial rfl ?_
      refine a_val (v := (.int .i64 (a2.length : Int))) (u := []) (len_run rfl rfl) trivial rfl ?_
      refine a_val (v := (.int .i64 (IntKind.i64.wrap ((a1.length : Int) + (a2.length : Int))))) (u := []) rfl trivial rfl ?_
      obtain ⟨x8, hx9, h⟩ := letp_some h
      refine a_val' (v := (.int .i64 (IntKind.i64.wrap ((IntKind.i64.wrap ((a1.length : Int) + (a2.length : Int))) - 1)))) (v' := (.int .i64 x8)) (u := []) (u' := []) rfl (congrArg (fun z => ((.int .i64 z) : AV)) hx9) rfl trivial rfl ?_
      obtain ⟨hc10, h⟩ := ifp_some h
      refine a_val (v := (.osl 3800)) (u := [(3800, some ⟨(.row 1 ((List.replicate x8.toNat (0 : Int)).map (AV.int .i64))), false⟩)]) (mk_run (i := ⟨.int .i64, 1, 8, (.int .i64 0)⟩) (f := (AV.int .i64)) (y := (0 : Int)) rfl rfl rfl rfl rfl rfl) ⟨rfl, hc10.1, hc10.2.1, hc10.2.2, (Nat.le_of_ble_eq_true rfl)⟩ rfl ?_
      refine a_val (v := (.osl 3800)) (u := []) rfl trivial rfl ?_
      refine a_nil ?_
      refine a_next (σ' := ⟨[(0, (.int .i64 a0)), (1, (eSi64 a1)), (2, (eSi64 a2)), (7, (.osl 7))], [(7, some ⟨(.row 1 ((List.replicate x8.toNat (0 : Int)).map (AV.int .i64))), false⟩)]⟩) rfl ?_
      obtain ⟨y247, hy248, hk249⟩ := bind_some h
      clear h
      refine a_join (emb := fun (s : (List Int)) => ⟨[(0, (.int .i64 a0)), (7, (.osl 7))], [(7, some ⟨(.row 1 (s.map (AV.int .i64))), false⟩)]⟩) (pre := fun s => s = y247) ?_ ?_
      · rintro x246 rfl
        have h := hk249
        refine a_st (σ' := ⟨[(0, (.int .i64 a0)), (7, (.osl 7))], [(7, some ⟨(.row 1 (x246.map (AV.int .i64))), false⟩)]⟩) rfl ?_
        obtain ⟨y510, hy511, hk512⟩ := bind_some h
        clear h
        refine a_join (emb := fun (s : (List Int)) => ⟨[(7, (.osl 7))], [(7, some ⟨(.row 1 (s.map (AV.int .i64))), false⟩)]⟩) (pre := fun s => s = y510) ?_ ?_
        · rintro x509 rfl
          have h := hk512
          refine a_st (σ' := ⟨[(7, (.osl 7))], [(7, some ⟨(.row 1 (x509.map (AV.int .i64))), false⟩)]⟩) rfl ?_
          refine a_seq ?_
          refine a_region ?_
          refine a_val (v := (.osl 7)) (u := []) rfl trivial rfl ?_
          obtain ⟨r537, hr538, h⟩ := bind_some h
          refine a_call (args := [(eSi64 x509)]) (u := [(7, some ⟨(.row 1 (x509.map (AV.int .i64))), true⟩)]) (r := (eSi64 r537)) rfl rfl (impl_row_trimmed_ok x509 r537 hr538) rfl ?_
          refine a_val (v := (eSi64 r537)) (u := []) rfl trivial rfl ?_
          refine a_nil ?_
          refine a_next rfl ?_
          refine a_ret ?_
          refine ⟨.inr rfl, ?_⟩
          rw [Try.results86]
          cases h
          exact ⟨_, _, _, _, _, rfl, trivial, .inl ⟨rfl, .inl rfl⟩, rfl, rfl⟩
        · have h := hy511
          refine a_seq ?_
          refine a_region ?_
          refine a_val (v := (.osl 7)) (u := []) rfl trivial rfl ?_
          refine a_val (v := (.int .i64 (x246.length : Int))) (u := []) (leno_run rfl rfl rfl) trivial rfl ?_
          refine a_val (v := (.int .i64 0)) (u := []) rfl trivial rfl ?_
          refine a_nil ?_
          refine a_next (σ' := ⟨[(0, (.int .i64 a0)), (7, (.osl 7)), (56, (.osl 7)), (57, (.int .i64 (x246.length : Int))), (58, (.int .i64 0))], [(7, some ⟨(.row 1 (x246.map (AV.int .i64))), false⟩)]⟩) rfl ?_
          refine a_block ?_
          refine a_loop (emb := fun (s : (Int × (List Int))) => ⟨[(0, (.int .i64 a0)), (7, (.osl 7)), (56, (.osl 7)), (57, (.int .i64 (x246.length : Int))), (58, (.int .i64 s.1))], [(7, some ⟨(.row 1 (s.2.map (AV.int .i64))), false⟩)]⟩) (body := (fun s : (Int × (List Int)) => impl_prime_times_l3 x246 a0 s.1 s.2)) (G := fun q => some q = some y510) h rfl ?_ rfl
          rintro X527 ⟨x519, x520⟩ x528 h hX529
          have h : impl_prime_times_l3 x246 a0 x519 x520 = some x528 := h
          refine a_st (σ' := ⟨[(0, (.int .i64 a0)), (7, (.osl 7)), (56, (.osl 7)), (57, (.int .i64 (x246.length : Int))), (58, (.int .i64 x519))], [(7, some ⟨(.row 1 (x520.map (AV.int .i64))), false⟩)]⟩) rfl ?_
          refine a_seq ?_
          refine a_region ?_
          refine a_val (v := (.bool ((decide (x519 < (x246.length : Int)))))) (u := []) rfl trivial rfl ?_
          refine a_nil ?_
          refine a_next (σ' := ⟨[(0, (.int .i64 a0)), (7, (.osl 7)), (56, (.osl 7)), (57, (.int .i64 (x246.length : Int))), (58, (.int .i64 x519)), (59, (.bool ((decide (x519 < (x246.length : Int))))))], [(7, some ⟨(.row 1 (x520.map (AV.int .i64))), false⟩)]⟩) rfl ?_
          refine a_seq ?_
          cases hb530 : (decide (x519 < (x246.length : Int)))
          · have h := ite_f hb530 h
            refine a_cond_f rfl ?_
            refine a_exit ?_
            refine t_exit ?_
            cases h
            have h := hX529
            refine t_exit ?_
            refine b_exit ?_
            exact j_leaf x520 (Option.some.inj h) rfl
          · have h := ite_t hb530 h
            refine a_cond_t rfl ?_
            refine a_skip ?_
            refine a_next (σ' := ⟨[(0, (.int .i64 a0)), (7, (.osl 7)), (56, (.osl 7)), (57, (.int .i64 (x246.length : Int))), (58, (.int .i64 x519))], [(7, some ⟨(.row 1 (x520.map (AV.int .i64))), false⟩)]⟩) rfl ?_
            refine a_seq ?_
            refine a_block ?_
            refine a_seq ?_
            refine a_region ?_
            refine a_val (v := (.int .i64 x519)) (u := []) rfl trivial rfl ?_
            obtain ⟨hc531, h⟩ := ifp_some h
            refine a_val (v := (.own 7 [x519.toNat] [x519.toNat * 1])) (u := []) rfl (lmap hc531) rfl ?_
            have hl532 : LdOk [x519.toNat] (.row 1 (x520.map (AV.int .i64))) [x519.toNat * 1] 1 false (.int .i64 (rd x520 x519.toNat)) := (.row (llt hc531) rfl (.nil rfl rfl rfl))
            refine a_val (v := (.int .i64 (rd x520 x519.toNat))) (u := []) (ld_own (i := ⟨.int .i64, 1, 8, (.int .i64 0)⟩) rfl rfl rfl hl532) hl532.c rfl ?_
            refine a_val (v := (.int .i64 x519)) (u := []) rfl trivial rfl ?_
            refine a_val (v := (.int .i64 (rd x520 x519.toNat))) (u := []) rfl trivial rfl ?_
            refine a_nil ?_
            refine a_next (σ' := ⟨[(0, (.int .i64 a0)), (7, (.osl 7)), (12, (.int .i64 x519)), (13, (.int .i64 (rd x520 x519.toNat))), (56, (.osl 7)), (57, (.int .i64 (x246.length : Int))), (58, (.int .i64 x519))], [(7, some ⟨(.row 1 (x520.map (AV.int .i64))), false⟩)]⟩) rfl ?_
            refine a_region ?_
            refine a_val (v := (.osl 7)) (u := []) rfl trivial rfl ?_
            refine a_val (v := (.int .i64 x519)) (u := []) rfl trivial rfl ?_
            refine a_val (v := (.int .i64 (rd x520 x519.toNat))) (u := []) rfl trivial rfl ?_
            refine a_val (v := (.int .i64 a0)) (u := []) rfl trivial rfl ?_
            obtain ⟨hc533, h⟩ := ifp_some h
            refine a_val (v := (.int .i64 (Int.tmod (rd x520 x519.toNat) a0))) (u := []) rfl hc533 rfl ?_
            obtain ⟨hc534, h⟩ := ifp_some h
            refine a_val (v := (.own 7 [x519.toNat] [x519.toNat * 1])) (u := []) rfl (lmap hc534) rfl ?_
            have hs535 : StOk [x519.toNat] (.row 1 (x520.map (AV.int .i64))) [x519.toNat * 1] 1 (.int .i64 (Int.tmod (rd x520 x519.toNat) a0)) (.row 1 (((x520.set x519.toNat (Int.tmod (rd x520 x519.toNat) a0))).map (AV.int .i64))) := (.row (y := Int.tmod (rd x520 x519.toNat) a0) (llt hc534) rfl (.nil rfl rfl rfl rfl))
            refine a_val (v := .top) (u := [(7, some ⟨(.row 1 (((x520.set x519.toNat (Int.tmod (rd x520 x519.toNat) a0))).map (AV.int .i64))), false⟩)]) (st_own (i := ⟨.int .i64, 1, 8, (.int .i64 0)⟩) rfl rfl (fun _ => rfl) rfl hs535) (hs535.c rfl) rfl ?_
            refine a_nil ?_
            refine b_norm ?_
            refine a_next (σ' := ⟨[(0, (.int .i64 a0)), (7, (.osl 7)), (56, (.osl 7)), (57, (.int .i64 (x246.length : Int))), (58, (.int .i64 x519))], [(7, some ⟨(.row 1 (((x520.set x519.toNat (Int.tmod (rd x520 x519.toNat) a0))).map (AV.int .i64))), false⟩)]⟩) rfl ?_
            refine a_region ?_
            refine a_val (v := (.int .i64 (IntKind.i64.wrap (x519 + 1)))) (u := []) rfl trivial rfl ?_
            refine a_val (v := (.int .i64 (IntKind.i64.wrap (x519 + 1)))) (u := []) rfl trivial rfl ?_
            refine a_nil ?_
            cases h
            exact a_again rfl hX529
      · have h := hy248
        refine a_seq ?_
        refine a_region ?_
        refine a_val (v := (eSi64 a1)) (u := []) rfl trivial rfl ?_
        refine a_val (v := (.int .i64 (a1.length : Int))) (u := []) (len_run rfl rfl) trivial rfl ?_
        refine a_val (v := (.int .i64 0)) (u := []) rfl trivial rfl ?_
        refine a_nil ?_
        refine a_next (σ' := ⟨[(0, (.int .i64 a0)), (2, (eSi64 a2)), (7, (.osl 7)), (29, (eSi64 a1)), (30, (.int .i64 (a1.length : Int))), (31, (.int .i64 0))], [(7, some ⟨(.row 1 ((List.replicate x8.toNat (0 : Int)).map (AV.int .i64))), false⟩)]⟩) rfl ?_
        refine a_block ?_
        refine a_loop (emb := fun (s : (Int × (List Int))) => ⟨[(0, (.int .i64 a0)), (2, (eSi64 a2)), (7, (.osl 7)), (29, (eSi64 a1)), (30, (.int .i64 (a1.length : Int))), (31, (.int .i64 s.1))], [(7, some ⟨(.row 1 (s.2.map (AV.int .i64))), false⟩)]⟩) (body := (fun s : (Int × (List Int)) => impl_prime_times_l1 a1 a2 s.1 s.2)) (G := fun q => some q = some y247) h rfl ?_ rfl
        rintro X406 ⟨x329, x330⟩ x407 h hX408
        have h : impl_prime_times_l1 a1 a2 x329 x330 = some x407 := h
        refine a_st (σ' := ⟨[(0, (.int .i64 a0)), (2, (eSi64 a2)), (7, (.osl 7)), (29, (eSi64 a1)), (30, (.int .i64 (a1.length : Int))), (31, (.int .i64 x329))], [(7, some ⟨(.row 1 (x330.map (AV.int .i64))), false⟩)]⟩) rfl ?_
        refine a_seq ?_
        refine a_region ?_
        refine a_val (v := (.bool ((decide (x329 < (a1.length : Int)))))) (u := []) rfl trivial rfl ?_
        refine a_nil ?_
        refine a_next (σ' := ⟨[(0, (.int .i64 a0)), (2, (eSi64 a2)), (7, (.osl 7)), (29, (eSi64 a1)), (30, (.int .i64 (a1.length : Int))), (31, (.int .i64 x329)), (32, (.bool ((decide (x329 < (a1.length : Int))))))], [(7, some ⟨(.row 1 (x330.map (AV.int .i64))), false⟩)]⟩) rfl ?_
        refine a_seq ?_
        cases hb409 : (decide (x329 < (a1.length : Int)))
        · have h := ite_f hb409 h
          refine a_cond_f rfl ?_
          refine a_exit ?_
          refine t_exit ?_
          cases h
          have h := hX408
          refine t_exit ?_
          refine b_exit ?_
          exact j_leaf x330 (Option.some.inj h) rfl
        · have h := ite_t hb409 h
          refine a_cond_t rfl ?_
          refine a_skip ?_
          refine a_next (σ' := ⟨[(0, (.int .i64 a0)), (2, (eSi64 a2)), (7, (.osl 7)), (29, (eSi64 a1)), (30, (.int .i64 (a1.length : Int))), (31, (.int .i64 x329))], [(7, some ⟨(.row 1 (x330.map (AV.int .i64))), false⟩)]⟩) rfl ?_
          obtain ⟨y446, hy447, hk448⟩ := bind_some h
          clear h
          refine a_join (emb := fun (s : (List Int)) => ⟨[(0, (.int .i64 a0)), (2, (eSi64 a2)), (7, (.osl 7)), (29, (eSi64 a1)), (30, (.int .i64 (a1.length : Int))), (31, (.int .i64 x329))], [(7, some ⟨(.row 1 (s.map (AV.int .i64))), false⟩)]⟩) (pre := fun s => s = y446) ?_ ?_
          · rintro x445 rfl
            have h := hk448
            refine a_st (σ' := ⟨[(0, (.int .i64 a0)), (2, (eSi64 a2)), (7, (.osl 7)), (29, (eSi64 a1)), (30, (.int .i64 (a1.length : Int))), (31, (.int .i64 x329))], [(7, some ⟨(.row 1 (x445.map (AV.int .i64))), false⟩)]⟩) rfl ?_
            refine a_region ?_
            refine a_val (v := (.int .i64 (IntKind.i64.wrap (x329 + 1)))) (u := []) rfl trivial rfl ?_
            refine a_val (v := (.int .i64 (IntKind.i64.wrap (x329 + 1)))) (u := []) rfl trivial rfl ?_
            refine a_nil ?_
            cases h
            exact a_again rfl hX408
          · have h := hy447
            refine a_block ?_
            refine a_seq ?_
            refine a_region ?_
            refine a_val (v := (.int .i64 x329)) (u := []) rfl trivial rfl ?_
            obtain ⟨hc449, h⟩ := ifp_some h
            refine a_val (v := (.ref (.row 1 (a1.map (AV.int .i64))) [x329.toNat] [x329.toNat * 1])) (u := []) rfl (lmap hc449) rfl ?_
            have hl450 : LdOk [x329.toNat] (.row 1 (a1.map (AV.int .i64))) [x329.toNat * 1] 1 false (.int .i64 (rd a1 x329.toNat)) := (.row (llt hc449) rfl (.nil rfl rfl rfl))
            refine a_val (v := (.int .i64 (rd a1 x329.toNat))) (u := []) (ld_ref (i := ⟨.int .i64, 1, 8, (.int .i64 0)⟩) rfl rfl hl450) hl450.c rfl ?_
            refine a_val (v := (.int .i64 x329)) (u := []) rfl trivial rfl ?_
            refine a_val (v := (.int .i64 (rd a1 x329.toNat))) (u := []) rfl trivial rfl ?_
            refine a_nil ?_
            refine a_next (σ' := ⟨[(0, (.int .i64 a0)), (2, (eSi64 a2)), (7, (.osl 7)), (8, (.int .i64 x329)), (9, (.int .i64 (rd a1 x329.toNat))), (29, (eSi64 a1)), (30, (.int .i64 (a1.length : Int))), (31, (.int .i64 x329))], [(7, some ⟨(.row 1 (x330.map (AV.int .i64))), false⟩)]⟩) rfl ?_
            refine a_seq ?_
            refine a_region ?_
            refine a_val (v := (eSi64 a2)) (u := []) rfl trivial rfl ?_
            refine a_val (v := (.int .i64 (a2.length : Int))) (u := []) (len_run rfl rfl) trivial rfl ?_
            refine a_val (v := (.int .i64 0)) (u := []) rfl trivial rfl ?_
            refine a_nil ?_
            refine a_next (σ' := ⟨[(0, (.int .i64 a0)), (2, (eSi64 a2)), (7, (.osl 7)), (8, (.int .i64 x329)), (9, (.int .i64 (rd a1 x329.toNat))), (29, (eSi64 a1)), (30, (.int .i64 (a1.length : Int))), (31, (.int .i64 x329)), (36, (eSi64 a2)), (37, (.int .i64 (a2.length : Int))), (38, (.int .i64 0))], [(7, some ⟨(.row 1 (x330.map (AV.int .i64))), false⟩)]⟩) rfl ?_
            refine a_block ?_
            refine a_loop (emb := fun (s : (Int × (List Int))) => ⟨[(0, (.int .i64 a0)), (2, (eSi64 a2)), (7, (.osl 7)), (8, (.int .i64 x329)), (9, (.int .i64 (rd a1 x329.toNat))), (29, (eSi64 a1)), (30, (.int .i64 (a1.length : Int))), (31, (.int .i64 x329)), (36, (eSi64 a2)), (37, (.int .i64 (a2.length : Int))), (38, (.int .i64 s.1))], [(7, some ⟨(.row 1 (s.2.map (AV.int .i64))), false⟩)]⟩) (body := (fun s : (Int × (List Int)) => impl_prime_times_l2 a2 x329 a1 s.1 s.2)) (G := fun q => some q = some y446) h rfl ?_ rfl
            rintro X471 ⟨x460, x461⟩ x472 h hX473
            have h : impl_prime_times_l2 a2 x329 a1 x460 x461 = some x472 := h
            refine a_st (σ' := ⟨[(0, (.int .i64 a0)), (2, (eSi64 a2)), (7, (.osl 7)), (8, (.int .i64 x329)), (9, (.int .i64 (rd a1 x329.toNat))), (29, (eSi64 a1)), (30, (.int .i64 (a1.length : Int))), (31, (.int .i64 x329)), (36, (eSi64 a2)), (37, (.int .i64 (a2.length : Int))), (38, (.int .i64 x460))], [(7, some ⟨(.row 1 (x461.map (AV.int .i64))), false⟩)]⟩) rfl ?_
            refine a_seq ?_
            refine a_region ?_
            refine a_val (v := (.bool ((decide (x460 < (a2.length : Int)))))) (u := []) rfl trivial rfl ?_
            refine a_nil ?_
            refine a_next (σ' := ⟨[(0, (.int .i64 a0)), (2, (eSi64 a2)), (7, (.osl 7)), (8, (.int .i64 x329)), (9, (.int .i64 (rd a1 x329.toNat))), (29, (eSi64 a1)), (30, (.int .i64 (a1.length : Int))), (31, (.int .i64 x329)), (36, (eSi64 a2)), (37, (.int .i64 (a2.length : Int))), (38, (.int .i64 x460)), (39, (.bool ((decide (x460 < (a2.length : Int))))))], [(7, some ⟨(.row 1 (x461.map (AV.int .i64))), false⟩)]⟩) rfl ?_
            refine a_seq ?_
            cases hb474 : (decide (x460 < (a2.length : Int)))
            · have h := ite_f hb474 h
              refine a_cond_f rfl ?_
              refine a_exit ?_
              refine t_exit ?_
              cases h
              have h := hX473
              refine t_exit ?_
              refine b_exit ?_
              refine b_norm ?_
              exact j_leaf x461 (Option.some.inj h) rfl
            · have h := ite_t hb474 h
              refine a_cond_t rfl ?_
              refine a_skip ?_
              refine a_next (σ' := ⟨[(0, (.int .i64 a0)), (2, (eSi64 a2)), (7, (.osl 7)), (8, (.int .i64 x329)), (9, (.int .i64 (rd a1 x329.toNat))), (29, (eSi64 a1)), (30, (.int .i64 (a1.length : Int))), (31, (.int .i64 x329)), (36, (eSi64 a2)), (37, (.int .i64 (a2.length : Int))), (38, (.int .i64 x460))], [(7, some ⟨(.row 1 (x461.map (AV.int .i64))), false⟩)]⟩) rfl ?_
              refine a_seq ?_
              refine a_block ?_
              refine a_seq ?_
              refine a_region ?_
              refine a_val (v := (.int .i64 x460)) (u := []) rfl trivial rfl ?_
              obtain ⟨hc475, h⟩ := ifp_some h
              refine a_val (v := (.ref (.row 1 (a2.map (AV.int .i64))) [x460.toNat] [x460.toNat * 1])) (u := []) rfl (lmap hc475) rfl ?_
              have hl476 : LdOk [x460.toNat] (.row 1 (a2.map (AV.int .i64))) [x460.toNat * 1] 1 false (.int .i64 (rd a2 x460.toNat)) := (.row (llt hc475) rfl (.nil rfl rfl rfl))
              refine a_val (v := (.int .i64 (rd a2 x460.toNat))) (u := []) (ld_ref (i := ⟨.int .i64, 1, 8, (.int .i64 0)⟩) rfl rfl hl476) hl476.c rfl ?_
              refine a_val (v := (.int .i64 x460)) (u := []) rfl trivial rfl ?_
              refine a_val (v := (.int .i64 (rd a2 x460.toNat))) (u := []) rfl trivial rfl ?_
              refine a_nil ?_
              refine a_next (σ' := ⟨[(0, (.int .i64 a0)), (2, (eSi64 a2)), (7, (.osl 7)), (8, (.int .i64 x329)), (9, (.int .i64 (rd a1 x329.toNat))), (10, (.int .i64 x460)), (11, (.int .i64 (rd a2 x460.toNat))), (29, (eSi64 a1)), (30, (.int .i64 (a1.length : Int))), (31, (.int .i64 x329)), (36, (eSi64 a2)), (37, (.int .i64 (a2.length : Int))), (38, (.int .i64 x460))], [(7, some ⟨(.row 1 (x461.map (AV.int .i64))), false⟩)]⟩) rfl ?_
              refine a_region ?_
              refine a_val (v := (.osl 7)) (u := []) rfl trivial rfl ?_
              refine a_val (v := (.int .i64 x329)) (u := []) rfl trivial rfl ?_
              refine a_val (v := (.int .i64 x460)) (u := []) rfl trivial rfl ?_
              refine a_val (v := (.int .i64 (IntKind.i64.wrap (x329 + x460)))) (u := []) rfl trivial rfl ?_
              obtain ⟨hc477, h⟩ := ifp_some h
              refine a_val (v := (.own 7 [(IntKind.i64.wrap (x329 + x460)).toNat] [(IntKind.i64.wrap (x329 + x460)).toNat * 1])) (u := []) rfl (lmap hc477) rfl ?_
              have hl478 : LdOk [(IntKind.i64.wrap (x329 + x460)).toNat] (.row 1 (x461.map (AV.int .i64))) [(IntKind.i64.wrap (x329 + x460)).toNat * 1] 1 false (.int .i64 ((rd x461 (IntKind.i64.wrap (x329 + x460)).toNat))) := (.row (llt hc477) rfl (.nil rfl rfl rfl))
              refine a_val (v := (.int .i64 ((rd x461 (IntKind.i64.wrap (x329 + x460)).toNat)))) (u := []) (ld_own (i := ⟨.int .i64, 1, 8, (.int .i64 0)⟩) rfl rfl rfl hl478) hl478.c rfl ?_
              refine a_val (v := (.int .i64 (rd a1 x329.toNat))) (u := []) rfl trivial rfl ?_
              refine a_val (v := (.int .i64 (rd a2 x460.toNat))) (u := []) rfl trivial rfl ?_
              refine a_val (v := (.int .i64 (IntKind.i64.wrap ((rd a1 x329.toNat) * (rd a2 x460.toNat))))) (u := []) rfl trivial rfl ?_
              obtain ⟨x479, hx480, h⟩ := letp_some h
              refine a_val' (v := (.int .i64 (IntKind.i64.wrap (((rd x461 (IntKind.i64.wrap (x329 + x460)).toNat)) + (IntKind.i64.wrap ((rd a1 x329.toNat) * (rd a2 x460.toNat))))))) (v' := (.int .i64 x479)) (u := []) (u' := []) rfl (congrArg (fun z => ((.int .i64 z) : AV)) hx480) rfl trivial rfl ?_
              obtain ⟨hc481, h⟩ := ifp_some h
              refine a_val (v := (.own 7 [(IntKind.i64.wrap (x329 + x460)).toNat] [(IntKind.i64.wrap (x329 + x460)).toNat * 1])) (u := []) rfl (lmap hc481) rfl ?_
              have hs482 : StOk [(IntKind.i64.wrap (x329 + x460)).toNat] (.row 1 (x461.map (AV.int .i64))) [(IntKind.i64.wrap (x329 + x460)).toNat * 1] 1 (.int .i64 x479) (.row 1 (((x461.set (IntKind.i64.wrap (x329 + x460)).toNat x479)).map (AV.int .i64))) := (.row (y := x479) (llt hc481) rfl (.nil rfl rfl rfl rfl))
              refine a_val (v := .top) (u := [(7, some ⟨(.row 1 (((x461.set (IntKind.i64.wrap (x329 + x460)).toNat x479)).map (AV.int .i64))), false⟩)]) (st_own (i := ⟨.int .i64, 1, 8, (.int .i64 0)⟩) rfl rfl (fun _ => rfl) rfl hs482) (hs482.c rfl) rfl ?_
              refine a_nil ?_
              refine b_norm ?_
              refine a_next (σ' := ⟨[(0, (.int .i64 a0)), (2, (eSi64 a2)), (7, (.osl 7)), (8, (.int .i64 x329)), (9, (.int .i64 (rd a1 x329.toNat))), (29, (eSi64 a1)), (30, (.int .i64 (a1.length : Int))), (31, (.int .i64 x329)), (36, (eSi64 a2)), (37, (.int .i64 (a2.length : Int))), (38, (.int .i64 x460))], [(7, some ⟨(.row 1 (((x461.set (IntKind.i64.wrap (x329 + x460)).toNat x479)).map (AV.int .i64))), false⟩)]⟩) rfl ?_
              refine a_region ?_
              refine a_val (v := (.int .i64 (IntKind.i64.wrap (x460 + 1)))) (u := []) rfl trivial rfl ?_
              refine a_val (v := (.int .i64 (IntKind.i64.wrap (x460 + 1)))) (u := []) rfl trivial rfl ?_
              refine a_nil ?_
              cases h
              exact a_again rfl hX473
    · have h := ite_t hb7 h
      refine a_cond_t rfl ?_
      refine a_seq ?_
      refine a_region ?_
      refine a_val (v := (eSi64 ([]))) (u := []) rfl trivial rfl ?_
      refine a_nil ?_
      refine a_next rfl ?_
      refine a_ret ?_
      refine t_ret ?_
      refine ⟨.inr rfl, ?_⟩
      rw [Try.results86]
      cases h
      exact ⟨_, _, _, _, _, rfl, trivial, .inl ⟨rfl, .inl rfl⟩, rfl, rfl⟩
  · have h := hy4
    refine a_region ?_
    refine a_val (v := (eSi64 a1)) (u := []) rfl trivial rfl ?_
    refine a_val (v := (.int .i64 (a1.length : Int))) (u := []) (len_run rfl rfl) trivial rfl ?_
    refine a_val (v := (.bool (((a1.length : Int) == 0)))) (u := []) rfl trivial rfl ?_
    refine a_val (v := (.bool (((a1.length : Int) == 0)))) (u := []) rfl trivial rfl ?_
    cases hb6 : ((a1.length : Int) == 0)
    · have h := ite_f hb6 h
      refine a_gval rfl (v := (eSi64 a2)) (u := []) rfl trivial rfl ?_
      refine a_gval rfl (v := (.int .i64 (a2.length : Int))) (u := []) (len_run rfl rfl) trivial rfl ?_
      refine a_gval rfl (v := (.bool (((a2.length : Int) == 0)))) (u := []) rfl trivial rfl ?_
      refine a_val (v := (.bool (((a2.length : Int) == 0)))) (u := []) rfl trivial rfl ?_
      refine a_nil ?_
      exact j_leaf (((a2.length : Int) == 0)) (Option.some.inj h) rfl
    · have h := ite_t hb6 h
      refine a_gskip rfl ?_
      refine a_gskip rfl ?_
      refine a_gskip rfl ?_
      refine a_val (v := (.bool true)) (u := []) rfl trivial rfl ?_
      refine a_nil ?_
      exact j_leaf true (Option.some.inj h) rfl
end Go.Proofs.Ytacebpbhddkelaa
