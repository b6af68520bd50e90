/- Functions of the program: plain Lean functions, and that the program computes them. Printed by gen.py. -/
import Derived.Test.YtacebpbhddkelaaFnT
import Derived.Test.YtacebpbhddkelaaFn1
namespace Go.Proofs.Ytacebpbhddkelaa
open Go.Abs Go.Proofs
set_option linter.unusedSimpArgs false
set_option linter.unusedVariables false

def impl_isPoly_c1_of_p_c : ACode := (.seq (.region 0 [⟨some 3, .asg 0 (.const (.bool false)) 4, none, []⟩] false) (.seq (.region 1 [⟨some 4, .mov (.tmp 0), none, []⟩, ⟨some 5, .conv 5 2 (.tmp 4), none, []⟩, ⟨some 6, .load 2 (.tmp 1), none, []⟩, ⟨some 7, .bin .lss 2 (.tmp 5) (.tmp 6), none, []⟩, ⟨some 3, .asg 0 (.tmp 7) 4, none, []⟩] false) .ret))
def impl_isPoly_c1_of_p_L : Live := [(0, [0, 1]), (1, [0, 1])]
theorem impl_isPoly_c1_of_p_body : Try.f133.body = some (Try.f133.body.getD .skip) := by kernel_rfl
theorem impl_isPoly_c1_of_p_strip : strip [] (Try.f133.body.getD .skip) = impl_isPoly_c1_of_p_c := by kernel_rfl
noncomputable def impl_isPoly_c1_of_p (a0 : Int) (a1 : Int) : Option Bool :=
  (some ((decide ((IntKind.i64.wrap a0) < a1))))
set_option maxHeartbeats 16000000 in
theorem impl_isPoly_c1_of_p_ok (a0 : Int) (a1 : Int) (r : Bool) (h : impl_isPoly_c1_of_p a0 a1 = some r) : Den Try.prog 133 [(.int .u8 a0), (.ref (.int .i64 a1) [] [])] { r := (.bool r) } := by
  refine den_of (rs := [(.bool r)]) (ac := impl_isPoly_c1_of_p_c) (L := impl_isPoly_c1_of_p_L) (n := 8) (m := []) good Try.func133 impl_isPoly_c1_of_p_body (by kernel_rfl) Try.ntmps133 rfl rfl impl_isPoly_c1_of_p_strip rfl rfl ?_
  refine a_st (σ' := ⟨[(0, (.int .u8 a0)), (1, (.ref (.int .i64 a1) [] []))], []⟩) rfl ?_
  unfold impl_isPoly_c1_of_p_c
  refine a_seq ?_
  refine a_region ?_
  refine a_val (v := (.bool false)) (u := []) rfl trivial rfl ?_
  refine a_nil ?_
  refine a_next (σ' := ⟨[(0, (.int .u8 a0)), (1, (.ref (.int .i64 a1) [] []))], []⟩) rfl ?_
  refine a_seq ?_
  refine a_region ?_
  refine a_val (v := (.int .u8 a0)) (u := []) rfl trivial rfl ?_
  refine a_val (v := (.int .i64 (IntKind.i64.wrap a0))) (u := []) rfl trivial rfl ?_
  have hl1 : LdOk [] (.int .i64 a1) [] 1 false (.int .i64 a1) := (.nil rfl rfl rfl)
  refine a_val (v := (.int .i64 a1)) (u := []) (ld_ref (i := ⟨.int .i64, 1, 8, (.int .i64 0)⟩) rfl rfl hl1) hl1.c rfl ?_
  refine a_val (v := (.bool ((decide ((IntKind.i64.wrap a0) < a1))))) (u := []) rfl trivial rfl ?_
  refine a_val (v := (.bool ((decide ((IntKind.i64.wrap a0) < a1))))) (u := []) rfl trivial rfl ?_
  refine a_nil ?_
  refine a_next rfl ?_
  refine a_ret ?_
  refine ⟨.inr rfl, ?_⟩
  rw [Try.results133]
  cases h
  exact ⟨_, _, _, _, _, rfl, trivial, .inl ⟨rfl, .inl rfl⟩, rfl, rfl⟩
def impl_areAll_byte__c1_of_p_c : ACode := (.seq (.region 0 [⟨some 3, .asg 0 (.const (.bool false)) 4, none, []⟩] false) (.seq (.region 1 [⟨some 4, .load 127 (.tmp 1), none, []⟩, ⟨some 5, .mov (.tmp 0), none, []⟩, ⟨some 6, .call 0 (.tmp 4) [(.tmp 5)], none, []⟩, ⟨some 7, .un .not (.tmp 6), none, []⟩, ⟨some 3, .asg 0 (.tmp 7) 4, none, []⟩] false) .ret))
def impl_areAll_byte__c1_of_p_L : Live := [(0, [0, 1]), (1, [0, 1])]
theorem impl_areAll_byte__c1_of_p_body : Try.f149.body = some (Try.f149.body.getD .skip) := by kernel_rfl
theorem impl_areAll_byte__c1_of_p_strip : strip [] (Try.f149.body.getD .skip) = impl_areAll_byte__c1_of_p_c := by kernel_rfl
noncomputable def impl_areAll_byte__c1_of_p (a0 : Int) (a1c0 : Int) : Option Bool :=
  (Option.bind (impl_isPoly_c1_of_p a0 a1c0) fun r2 => (some (!r2)))
set_option maxHeartbeats 16000000 in
theorem impl_areAll_byte__c1_of_p_ok (a0 : Int) (a1c0 : Int) (r : Bool) (h : impl_areAll_byte__c1_of_p a0 a1c0 = some r) : Den Try.prog 149 [(.int .u8 a0), (.ref (.clo 133 [] [(.ref (.int .i64 a1c0) [] [])]) [] [])] { r := (.bool r) } := by
  refine den_of (rs := [(.bool r)]) (ac := impl_areAll_byte__c1_of_p_c) (L := impl_areAll_byte__c1_of_p_L) (n := 8) (m := []) good Try.func149 impl_areAll_byte__c1_of_p_body (by kernel_rfl) Try.ntmps149 rfl rfl impl_areAll_byte__c1_of_p_strip rfl rfl ?_
  refine a_st (σ' := ⟨[(0, (.int .u8 a0)), (1, (.ref (.clo 133 [] [(.ref (.int .i64 a1c0) [] [])]) [] []))], []⟩) rfl ?_
  unfold impl_areAll_byte__c1_of_p_c
  refine a_seq ?_
  refine a_region ?_
  refine a_val (v := (.bool false)) (u := []) rfl trivial rfl ?_
  refine a_nil ?_
  refine a_next (σ' := ⟨[(0, (.int .u8 a0)), (1, (.ref (.clo 133 [] [(.ref (.int .i64 a1c0) [] [])]) [] []))], []⟩) rfl ?_
  refine a_seq ?_
  refine a_region ?_
  have hl1 : LdOk [] (.clo 133 [] [(.ref (.int .i64 a1c0) [] [])]) [] 1 false (.clo 133 [] [(.ref (.int .i64 a1c0) [] [])]) := (.nil rfl rfl rfl)
  refine a_val (v := (.clo 133 [] [(.ref (.int .i64 a1c0) [] [])])) (u := []) (ld_ref (i := ⟨.other, 1, 8, (.raw .nilFunc)⟩) rfl rfl hl1) hl1.c rfl ?_
  refine a_val (v := (.int .u8 a0)) (u := []) rfl trivial rfl ?_
  obtain ⟨r2, hr3, h⟩ := bind_some h
  refine a_call (args := [(.int .u8 a0), (.ref (.int .i64 a1c0) [] [])]) (u := []) (r := (.bool r2)) rfl rfl (impl_isPoly_c1_of_p_ok a0 a1c0 r2 hr3) rfl ?_
  refine a_val (v := (.bool (!r2))) (u := []) rfl trivial rfl ?_
  refine a_val (v := (.bool (!r2))) (u := []) rfl trivial rfl ?_
  refine a_nil ?_
  refine a_next rfl ?_
  refine a_ret ?_
  refine ⟨.inr rfl, ?_⟩
  rw [Try.results149]
  cases h
  exact ⟨_, _, _, _, _, rfl, trivial, .inl ⟨rfl, .inl rfl⟩, rfl, rfl⟩
def slices_IndexFunc_byte_byte_of_impl_areAll_byte__c1_p_c : ACode := (.seq (.region 0 [⟨some 4, .asg 0 (.const (.int .i64 0)) 3, none, []⟩] false) (.seq (.seq (.region 1 [⟨some 6, .mov (.tmp 0), none, []⟩, ⟨some 7, .blt 0 .len [(.tmp 6)] [126], none, []⟩, ⟨some 8, .mov (.const (.int .i64 0)), none, []⟩] false) (.block 0 (.loop (.seq (.region 2 [⟨some 9, .bin .lss 3 (.tmp 8) (.tmp 7), none, []⟩] false) (.seq (.cond (.tmp 9) .skip (.exit 0)) (.seq (.block 1 (.seq (.region 3 [⟨some 10, .mov (.tmp 8), none, []⟩, ⟨some 5, .asg 0 (.tmp 10) 3, none, []⟩] false) (.seq (.region 4 [⟨some 11, .mov (.tmp 1), none, []⟩, ⟨some 12, .mov (.tmp 0), none, []⟩, ⟨some 13, .mov (.tmp 5), none, []⟩, ⟨some 14, .indexAddr 126 (.tmp 12) (.tmp 13), none, []⟩, ⟨some 15, .load 5 (.tmp 14), none, []⟩, ⟨some 16, .call 0 (.tmp 11) [(.tmp 15)], none, []⟩] false) (.cond (.tmp 16) (.seq (.region 5 [⟨some 17, .mov (.tmp 5), none, []⟩, ⟨some 4, .asg 0 (.tmp 17) 3, none, []⟩] false) .ret) .skip)))) (.region 6 [⟨some 18, .bin .add 3 (.tmp 8) (.const (.int .i64 1)), none, []⟩, ⟨some 8, .mov (.tmp 18), none, []⟩] false))))))) (.seq (.region 7 [⟨some 4, .asg 0 (.const (.int .i64 (-1))) 3, none, []⟩] false) .ret)))
def slices_IndexFunc_byte_byte_of_impl_areAll_byte__c1_p_L : Live := [(0, [0, 1]), (1, [0, 1]), (2, [0, 1, 7, 8]), (3, [0, 1, 7, 8]), (4, [0, 1, 5, 7, 8]), (5, [5]), (6, [0, 1, 7, 8]), (7, []), (100009, [0, 1, 7, 8, 9]), (100016, [0, 1, 5, 7, 8, 16])]
theorem slices_IndexFunc_byte_byte_of_impl_areAll_byte__c1_p_body : Try.f155.body = some (Try.f155.body.getD .skip) := by kernel_rfl
theorem slices_IndexFunc_byte_byte_of_impl_areAll_byte__c1_p_strip : strip [] (Try.f155.body.getD .skip) = slices_IndexFunc_byte_byte_of_impl_areAll_byte__c1_p_c := by kernel_rfl
noncomputable def slices_IndexFunc_byte_byte_of_impl_areAll_byte__c1_p_l1 (a0 : (List Int)) (a1c0c0 : Int) (x33 : Int) : Option (Int ⊕ (Unit ⊕ Int)) :=
  (if (decide (x33 < (a0.length : Int))) then (ifp (0 ≤ x33 ∧ x33 < ((a0.length : Nat) : Int)) ((Option.bind (impl_areAll_byte__c1_of_p (rd a0 x33.toNat) a1c0c0) fun r46 => (if r46 then (some (.inr (.inr x33))) else (some (.inl (IntKind.i64.wrap (x33 + 1)))))))) else (some (.inr (((.inl ()))))))
noncomputable def slices_IndexFunc_byte_byte_of_impl_areAll_byte__c1_p (a0 : (List Int)) (a1c0c0 : Int) : Option Int :=
  (Option.bind (α := (Unit ⊕ Int)) ((loopM (fun s : Int => slices_IndexFunc_byte_byte_of_impl_areAll_byte__c1_p_l1 a0 a1c0c0 s) 0)) fun z => match z with | .inl _ => (some (-1)) | .inr r50 => (some r50))
set_option maxHeartbeats 16000000 in
theorem slices_IndexFunc_byte_byte_of_impl_areAll_byte__c1_p_ok (a0 : (List Int)) (a1c0c0 : Int) (r : Int) (h : slices_IndexFunc_byte_byte_of_impl_areAll_byte__c1_p a0 a1c0c0 = some r) : Den Try.prog 155 [(eSu8 a0), (.clo 149 [] [(.ref (.clo 133 [] [(.ref (.int .i64 a1c0c0) [] [])]) [] [])])] { r := (.int .i64 r) } := by
  refine den_of (rs := [(.int .i64 r)]) (ac := slices_IndexFunc_byte_byte_of_impl_areAll_byte__c1_p_c) (L := slices_IndexFunc_byte_byte_of_impl_areAll_byte__c1_p_L) (n := 19) (m := []) good Try.func155 slices_IndexFunc_byte_byte_of_impl_areAll_byte__c1_p_body (by kernel_rfl) Try.ntmps155 rfl rfl slices_IndexFunc_byte_byte_of_impl_areAll_byte__c1_p_strip rfl rfl ?_
  refine a_st (σ' := ⟨[(0, (eSu8 a0)), (1, (.clo 149 [] [(.ref (.clo 133 [] [(.ref (.int .i64 a1c0c0) [] [])]) [] [])]))], []⟩) rfl ?_
  unfold slices_IndexFunc_byte_byte_of_impl_areAll_byte__c1_p_c
  refine a_seq ?_
  refine a_region ?_
  refine a_val (v := (.int .i64 0)) (u := []) rfl trivial rfl ?_
  refine a_nil ?_
  refine a_next (σ' := ⟨[(0, (eSu8 a0)), (1, (.clo 149 [] [(.ref (.clo 133 [] [(.ref (.int .i64 a1c0c0) [] [])]) [] [])]))], []⟩) rfl ?_
  obtain ⟨y24, hy25, hk26⟩ := bind_some h
  clear h
  refine a_join (emb := fun (s : Unit) => ⟨[], []⟩) (pre := fun s => (.inl s) = y24) ?_ ?_
  · rintro _ rfl
    have h := hk26
    refine a_st (σ' := ⟨[], []⟩) rfl ?_
    refine a_seq ?_
    refine a_region ?_
    refine a_val (v := (.int .i64 (-1))) (u := []) rfl trivial rfl ?_
    refine a_nil ?_
    refine a_next rfl ?_
    refine a_ret ?_
    refine ⟨.inr rfl, ?_⟩
    rw [Try.results155]
    cases h
    exact ⟨_, _, _, _, _, rfl, trivial, .inl ⟨rfl, .inl rfl⟩, rfl, rfl⟩
  · have h := hy25
    refine a_seq ?_
    refine a_region ?_
    refine a_val (v := (eSu8 a0)) (u := []) rfl trivial rfl ?_
    refine a_val (v := (.int .i64 (a0.length : Int))) (u := []) (len_run rfl rfl) trivial rfl ?_
    refine a_val (v := (.int .i64 0)) (u := []) rfl trivial rfl ?_
    refine a_nil ?_
    refine a_next (σ' := ⟨[(0, (eSu8 a0)), (1, (.clo 149 [] [(.ref (.clo 133 [] [(.ref (.int .i64 a1c0c0) [] [])]) [] [])])), (7, (.int .i64 (a0.length : Int))), (8, (.int .i64 0))], []⟩) rfl ?_
    refine a_block ?_
    refine a_loop (emb := fun (s : Int) => ⟨[(0, (eSu8 a0)), (1, (.clo 149 [] [(.ref (.clo 133 [] [(.ref (.int .i64 a1c0c0) [] [])]) [] [])])), (7, (.int .i64 (a0.length : Int))), (8, (.int .i64 s))], []⟩) (body := (fun s : Int => slices_IndexFunc_byte_byte_of_impl_areAll_byte__c1_p_l1 a0 a1c0c0 s)) (G := fun q => some q = some y24) h rfl ?_ rfl
    rintro X40 x33 x41 h hX42
    have h : slices_IndexFunc_byte_byte_of_impl_areAll_byte__c1_p_l1 a0 a1c0c0 x33 = some x41 := h
    refine a_st (σ' := ⟨[(0, (eSu8 a0)), (1, (.clo 149 [] [(.ref (.clo 133 [] [(.ref (.int .i64 a1c0c0) [] [])]) [] [])])), (7, (.int .i64 (a0.length : Int))), (8, (.int .i64 x33))], []⟩) rfl ?_
    refine a_seq ?_
    refine a_region ?_
    refine a_val (v := (.bool ((decide (x33 < (a0.length : Int)))))) (u := []) rfl trivial rfl ?_
    refine a_nil ?_
    refine a_next (σ' := ⟨[(0, (eSu8 a0)), (1, (.clo 149 [] [(.ref (.clo 133 [] [(.ref (.int .i64 a1c0c0) [] [])]) [] [])])), (7, (.int .i64 (a0.length : Int))), (8, (.int .i64 x33)), (9, (.bool ((decide (x33 < (a0.length : Int))))))], []⟩) rfl ?_
    refine a_seq ?_
    cases hb43 : (decide (x33 < (a0.length : Int)))
    · have h := ite_f hb43 h
      refine a_cond_f rfl ?_
      refine a_exit ?_
      refine t_exit ?_
      cases h
      have h := hX42
      refine t_exit ?_
      refine b_exit ?_
      exact j_leaf () (Option.some.inj h) rfl
    · have h := ite_t hb43 h
      refine a_cond_t rfl ?_
      refine a_skip ?_
      refine a_next (σ' := ⟨[(0, (eSu8 a0)), (1, (.clo 149 [] [(.ref (.clo 133 [] [(.ref (.int .i64 a1c0c0) [] [])]) [] [])])), (7, (.int .i64 (a0.length : Int))), (8, (.int .i64 x33))], []⟩) rfl ?_
      refine a_seq ?_
      refine a_block ?_
      refine a_seq ?_
      refine a_region ?_
      refine a_val (v := (.int .i64 x33)) (u := []) rfl trivial rfl ?_
      refine a_val (v := (.int .i64 x33)) (u := []) rfl trivial rfl ?_
      refine a_nil ?_
      refine a_next (σ' := ⟨[(0, (eSu8 a0)), (1, (.clo 149 [] [(.ref (.clo 133 [] [(.ref (.int .i64 a1c0c0) [] [])]) [] [])])), (5, (.int .i64 x33)), (7, (.int .i64 (a0.length : Int))), (8, (.int .i64 x33))], []⟩) rfl ?_
      refine a_seq ?_
      refine a_region ?_
      refine a_val (v := (.clo 149 [] [(.ref (.clo 133 [] [(.ref (.int .i64 a1c0c0) [] [])]) [] [])])) (u := []) rfl trivial rfl ?_
      refine a_val (v := (eSu8 a0)) (u := []) rfl trivial rfl ?_
      refine a_val (v := (.int .i64 x33)) (u := []) rfl trivial rfl ?_
      obtain ⟨hc44, h⟩ := ifp_some h
      refine a_val (v := (.ref (.row 1 (a0.map (AV.int .u8))) [x33.toNat] [x33.toNat * 1])) (u := []) rfl (lmap hc44) rfl ?_
      have hl45 : LdOk [x33.toNat] (.row 1 (a0.map (AV.int .u8))) [x33.toNat * 1] 1 false (.int .u8 (rd a0 x33.toNat)) := (.row (llt hc44) rfl (.nil rfl rfl rfl))
      refine a_val (v := (.int .u8 (rd a0 x33.toNat))) (u := []) (ld_ref (i := ⟨.int .u8, 1, 1, (.int .u8 0)⟩) rfl rfl hl45) hl45.c rfl ?_
      obtain ⟨r46, hr47, h⟩ := bind_some h
      refine a_call (args := [(.int .u8 (rd a0 x33.toNat)), (.ref (.clo 133 [] [(.ref (.int .i64 a1c0c0) [] [])]) [] [])]) (u := []) (r := (.bool r46)) rfl rfl (impl_areAll_byte__c1_of_p_ok (rd a0 x33.toNat) a1c0c0 r46 hr47) rfl ?_
      refine a_nil ?_
      refine a_next (σ' := ⟨[(0, (eSu8 a0)), (1, (.clo 149 [] [(.ref (.clo 133 [] [(.ref (.int .i64 a1c0c0) [] [])]) [] [])])), (5, (.int .i64 x33)), (7, (.int .i64 (a0.length : Int))), (8, (.int .i64 x33)), (16, (.bool r46))], []⟩) rfl ?_
      cases hb48 : r46
      · have h := ite_f hb48 h
        refine a_cond_f rfl ?_
        refine a_skip ?_
        refine b_norm ?_
        refine a_next (σ' := ⟨[(0, (eSu8 a0)), (1, (.clo 149 [] [(.ref (.clo 133 [] [(.ref (.int .i64 a1c0c0) [] [])]) [] [])])), (7, (.int .i64 (a0.length : Int))), (8, (.int .i64 x33))], []⟩) rfl ?_
        refine a_region ?_
        refine a_val (v := (.int .i64 (IntKind.i64.wrap (x33 + 1)))) (u := []) rfl trivial rfl ?_
        refine a_val (v := (.int .i64 (IntKind.i64.wrap (x33 + 1)))) (u := []) rfl trivial rfl ?_
        refine a_nil ?_
        cases h
        exact a_again rfl hX42
      · have h := ite_t hb48 h
        refine a_cond_t rfl ?_
        refine a_seq ?_
        refine a_region ?_
        refine a_val (v := (.int .i64 x33)) (u := []) rfl trivial rfl ?_
        refine a_val (v := (.int .i64 x33)) (u := []) rfl trivial rfl ?_
        refine a_nil ?_
        refine a_next rfl ?_
        refine a_ret ?_
        refine b_ret ?_
        refine t_ret ?_
        cases h
        have h := hX42
        refine t_ret ?_
        refine b_ret ?_
        refine t_ret ?_
        cases h
        have h := hk26
        refine ⟨.inr rfl, ?_⟩
        rw [Try.results155]
        cases h
        exact ⟨_, _, _, _, _, rfl, trivial, .inl ⟨rfl, .inl rfl⟩, rfl, rfl⟩
def slices_ContainsFunc_byte_byte_of_impl_areAll_byte__c1_p_c : ACode := (.seq (.region 0 [⟨some 4, .asg 0 (.const (.bool false)) 4, none, []⟩] false) (.seq (.region 1 [⟨some 5, .mov (.tmp 0), none, []⟩, ⟨some 6, .mov (.tmp 1), none, []⟩, ⟨some 7, .call 0 (.func 155) [(.tmp 5), (.tmp 6)], none, []⟩, ⟨some 8, .bin .geq 3 (.tmp 7) (.const (.int .i64 0)), none, []⟩, ⟨some 4, .asg 0 (.tmp 8) 4, none, []⟩] false) .ret))
def slices_ContainsFunc_byte_byte_of_impl_areAll_byte__c1_p_L : Live := [(0, [0, 1]), (1, [0, 1])]
theorem slices_ContainsFunc_byte_byte_of_impl_areAll_byte__c1_p_body : Try.f148.body = some (Try.f148.body.getD .skip) := by kernel_rfl
theorem slices_ContainsFunc_byte_byte_of_impl_areAll_byte__c1_p_strip : strip [] (Try.f148.body.getD .skip) = slices_ContainsFunc_byte_byte_of_impl_areAll_byte__c1_p_c := by kernel_rfl
noncomputable def slices_ContainsFunc_byte_byte_of_impl_areAll_byte__c1_p (a0 : (List Int)) (a1c0c0 : Int) : Option Bool :=
  (Option.bind (slices_IndexFunc_byte_byte_of_impl_areAll_byte__c1_p a0 a1c0c0) fun r1 => (some ((decide (r1 ≥ 0)))))
set_option maxHeartbeats 16000000 in
theorem slices_ContainsFunc_byte_byte_of_impl_areAll_byte__c1_p_ok (a0 : (List Int)) (a1c0c0 : Int) (r : Bool) (h : slices_ContainsFunc_byte_byte_of_impl_areAll_byte__c1_p a0 a1c0c0 = some r) : Den Try.prog 148 [(eSu8 a0), (.clo 149 [] [(.ref (.clo 133 [] [(.ref (.int .i64 a1c0c0) [] [])]) [] [])])] { r := (.bool r) } := by
  refine den_of (rs := [(.bool r)]) (ac := slices_ContainsFunc_byte_byte_of_impl_areAll_byte__c1_p_c) (L := slices_ContainsFunc_byte_byte_of_impl_areAll_byte__c1_p_L) (n := 9) (m := []) good Try.func148 slices_ContainsFunc_byte_byte_of_impl_areAll_byte__c1_p_body (by kernel_rfl) Try.ntmps148 rfl rfl slices_ContainsFunc_byte_byte_of_impl_areAll_byte__c1_p_strip rfl rfl ?_
  refine a_st (σ' := ⟨[(0, (eSu8 a0)), (1, (.clo 149 [] [(.ref (.clo 133 [] [(.ref (.int .i64 a1c0c0) [] [])]) [] [])]))], []⟩) rfl ?_
  unfold slices_ContainsFunc_byte_byte_of_impl_areAll_byte__c1_p_c
  refine a_seq ?_
  refine a_region ?_
  refine a_val (v := (.bool false)) (u := []) rfl trivial rfl ?_
  refine a_nil ?_
  refine a_next (σ' := ⟨[(0, (eSu8 a0)), (1, (.clo 149 [] [(.ref (.clo 133 [] [(.ref (.int .i64 a1c0c0) [] [])]) [] [])]))], []⟩) rfl ?_
  refine a_seq ?_
  refine a_region ?_
  refine a_val (v := (eSu8 a0)) (u := []) rfl trivial rfl ?_
  refine a_val (v := (.clo 149 [] [(.ref (.clo 133 [] [(.ref (.int .i64 a1c0c0) [] [])]) [] [])])) (u := []) rfl trivial rfl ?_
  obtain ⟨r1, hr2, h⟩ := bind_some h
  refine a_call (args := [(eSu8 a0), (.clo 149 [] [(.ref (.clo 133 [] [(.ref (.int .i64 a1c0c0) [] [])]) [] [])])]) (u := []) (r := (.int .i64 r1)) rfl rfl (slices_IndexFunc_byte_byte_of_impl_areAll_byte__c1_p_ok a0 a1c0c0 r1 hr2) rfl ?_
  refine a_val (v := (.bool ((decide (r1 ≥ 0))))) (u := []) rfl trivial rfl ?_
  refine a_val (v := (.bool ((decide (r1 ≥ 0))))) (u := []) rfl trivial rfl ?_
  refine a_nil ?_
  refine a_next rfl ?_
  refine a_ret ?_
  refine ⟨.inr rfl, ?_⟩
  rw [Try.results148]
  cases h
  exact ⟨_, _, _, _, _, rfl, trivial, .inl ⟨rfl, .inl rfl⟩, rfl, rfl⟩
def impl_areAll_byte_of_impl_isPoly_c1_p_c : ACode := (.seq (.region 0 [⟨some 3, .box 127 (.tmp 1), none, []⟩, ⟨some 4, .asg 0 (.const (.bool false)) 4, none, []⟩] false) (.seq (.region 1 [⟨some 5, .mov (.tmp 0), none, []⟩, ⟨some 6, .mkfn 149 [] [(.tmp 3)], none, []⟩, ⟨some 7, .call 0 (.func 148) [(.tmp 5), (.tmp 6)], none, []⟩, ⟨some 8, .un .not (.tmp 7), none, []⟩, ⟨some 4, .asg 0 (.tmp 8) 4, none, []⟩] false) .ret))
def impl_areAll_byte_of_impl_isPoly_c1_p_L : Live := [(0, [0, 1]), (1, [0, 3])]
theorem impl_areAll_byte_of_impl_isPoly_c1_p_body : Try.f132.body = some (Try.f132.body.getD .skip) := by kernel_rfl
theorem impl_areAll_byte_of_impl_isPoly_c1_p_strip : strip [] (Try.f132.body.getD .skip) = impl_areAll_byte_of_impl_isPoly_c1_p_c := by kernel_rfl
noncomputable def impl_areAll_byte_of_impl_isPoly_c1_p (a0 : (List Int)) (a1c0 : Int) : Option Bool :=
  (Option.bind (slices_ContainsFunc_byte_byte_of_impl_areAll_byte__c1_p a0 a1c0) fun r1 => (some (!r1)))
set_option maxHeartbeats 16000000 in
theorem impl_areAll_byte_of_impl_isPoly_c1_p_ok (a0 : (List Int)) (a1c0 : Int) (r : Bool) (h : impl_areAll_byte_of_impl_isPoly_c1_p a0 a1c0 = some r) : Den Try.prog 132 [(eSu8 a0), (.clo 133 [] [(.ref (.int .i64 a1c0) [] [])])] { r := (.bool r) } := by
  refine den_of (rs := [(.bool r)]) (ac := impl_areAll_byte_of_impl_isPoly_c1_p_c) (L := impl_areAll_byte_of_impl_isPoly_c1_p_L) (n := 9) (m := []) good Try.func132 impl_areAll_byte_of_impl_isPoly_c1_p_body (by kernel_rfl) Try.ntmps132 rfl rfl impl_areAll_byte_of_impl_isPoly_c1_p_strip rfl rfl ?_
  refine a_st (σ' := ⟨[(0, (eSu8 a0)), (1, (.clo 133 [] [(.ref (.int .i64 a1c0) [] [])]))], []⟩) rfl ?_
  unfold impl_areAll_byte_of_impl_isPoly_c1_p_c
  refine a_seq ?_
  refine a_region ?_
  refine a_val (v := (.own 1300 [] [])) (u := [(1300, some ⟨(.clo 133 [] [(.ref (.int .i64 a1c0) [] [])]), false⟩)]) rfl trivial rfl ?_
  refine a_val (v := (.bool false)) (u := []) rfl trivial rfl ?_
  refine a_nil ?_
  refine a_next (σ' := ⟨[(0, (eSu8 a0)), (3, (.own 3 [] []))], [(3, some ⟨(.clo 133 [] [(.ref (.int .i64 a1c0) [] [])]), false⟩)]⟩) rfl ?_
  refine a_seq ?_
  refine a_region ?_
  refine a_val (v := (eSu8 a0)) (u := []) rfl trivial rfl ?_
  refine a_val (v := (.clo 149 [] [(.ref (.clo 133 [] [(.ref (.int .i64 a1c0) [] [])]) [] [])])) (u := [(3, some ⟨(.clo 133 [] [(.ref (.int .i64 a1c0) [] [])]), true⟩)]) rfl ⟨all_nil, (all_cons ⟨rfl, rfl⟩ all_nil)⟩ rfl ?_
  obtain ⟨r1, hr2, h⟩ := bind_some h
  refine a_call (args := [(eSu8 a0), (.clo 149 [] [(.ref (.clo 133 [] [(.ref (.int .i64 a1c0) [] [])]) [] [])])]) (u := []) (r := (.bool r1)) rfl rfl (slices_ContainsFunc_byte_byte_of_impl_areAll_byte__c1_p_ok a0 a1c0 r1 hr2) rfl ?_
  refine a_val (v := (.bool (!r1))) (u := []) rfl trivial rfl ?_
  refine a_val (v := (.bool (!r1))) (u := []) rfl trivial rfl ?_
  refine a_nil ?_
  refine a_next rfl ?_
  refine a_ret ?_
  refine ⟨.inr rfl, ?_⟩
  rw [Try.results132]
  cases h
  exact ⟨_, _, _, _, _, rfl, trivial, .inl ⟨rfl, .inl rfl⟩, rfl, rfl⟩
def impl_isPoly_c : ACode := (.seq (.region 0 [⟨some 2, .box 2 (.tmp 0), none, []⟩, ⟨some 3, .box 23 (.tmp 1), none, []⟩, ⟨some 4, .asg 0 (.const (.bool false)) 4, none, []⟩] false) (.seq (.region 1 [⟨some 5, .slice 23 (.tmp 3) none none none, none, []⟩, ⟨some 6, .mkfn 133 [] [(.tmp 2)], none, []⟩, ⟨some 7, .call 0 (.func 132) [(.tmp 5), (.tmp 6)], none, []⟩, ⟨some 4, .asg 0 (.tmp 7) 4, none, []⟩] false) .ret))
def impl_isPoly_L : Live := [(0, [0, 1]), (1, [2, 3])]
theorem impl_isPoly_body : Try.f106.body = some (Try.f106.body.getD .skip) := by kernel_rfl
theorem impl_isPoly_strip : strip [] (Try.f106.body.getD .skip) = impl_isPoly_c := by kernel_rfl
noncomputable def impl_isPoly (a0 : Int) (a1 : (Vec Int 64)) : Option Bool :=
  (Option.bind (impl_areAll_byte_of_impl_isPoly_c1_p a1.1 a0) fun r1 => (some r1))
set_option maxHeartbeats 16000000 in
theorem impl_isPoly_ok (a0 : Int) (a1 : (Vec Int 64)) (r : Bool) (h : impl_isPoly a0 a1 = some r) : Den Try.prog 106 [(.int .i64 a0), (eA64u8 a1)] { r := (.bool r) } := by
  refine den_of (rs := [(.bool r)]) (ac := impl_isPoly_c) (L := impl_isPoly_L) (n := 8) (m := []) good Try.func106 impl_isPoly_body (by kernel_rfl) Try.ntmps106 rfl rfl impl_isPoly_strip rfl rfl ?_
  refine a_st (σ' := ⟨[(0, (.int .i64 a0)), (1, (eA64u8 a1))], []⟩) rfl ?_
  unfold impl_isPoly_c
  refine a_seq ?_
  refine a_region ?_
  refine a_val (v := (.own 1200 [] [])) (u := [(1200, some ⟨(.int .i64 a0), false⟩)]) rfl trivial rfl ?_
  refine a_val (v := (.own 1300 [] [])) (u := [(1300, some ⟨(eA64u8 a1), false⟩)]) rfl trivial rfl ?_
  refine a_val (v := (.bool false)) (u := []) rfl trivial rfl ?_
  refine a_nil ?_
  refine a_next (σ' := ⟨[(2, (.own 2 [] [])), (3, (.own 3 [] []))], [(2, some ⟨(.int .i64 a0), false⟩), (3, some ⟨(eA64u8 a1), false⟩)]⟩) rfl ?_
  refine a_seq ?_
  refine a_region ?_
  refine a_val (v := (.sl 1 true (a1.1.map (AV.int .u8)))) (u := [(3, some ⟨(eA64u8 a1), true⟩)]) rfl ⟨rfl, trivial, rfl, rfl⟩ rfl ?_
  refine a_val (v := (.clo 133 [] [(.ref (.int .i64 a0) [] [])])) (u := [(2, some ⟨(.int .i64 a0), true⟩)]) rfl ⟨all_nil, (all_cons ⟨rfl, rfl⟩ all_nil)⟩ rfl ?_
  obtain ⟨r1, hr2, h⟩ := bind_some h
  refine a_call (args := [(.sl 1 true (a1.1.map (AV.int .u8))), (.clo 133 [] [(.ref (.int .i64 a0) [] [])])]) (u := []) (r := (.bool r1)) rfl rfl (Den.args (impl_areAll_byte_of_impl_isPoly_c1_p_ok a1.1 a0 r1 hr2) rfl rfl (.cons (.loose _) (.cons (.refl _) .nil))) rfl ?_
  refine a_val (v := (.bool r1)) (u := []) rfl trivial rfl ?_
  refine a_nil ?_
  refine a_next rfl ?_
  refine a_ret ?_
  refine ⟨.inr rfl, ?_⟩
  rw [Try.results106]
  cases h
  exact ⟨_, _, _, _, _, rfl, trivial, .inl ⟨rfl, .inl rfl⟩, rfl, rfl⟩
def impl_polysCode_c1_of_p_c : ACode := (.seq (.region 0 [⟨some 2, .box 23 (.tmp 0), none, []⟩, ⟨some 3, .asg 0 (.const (.bool false)) 4, none, []⟩] false) (.seq (.region 1 [⟨some 4, .load 2 (.tmp 1), none, []⟩, ⟨some 5, .load 23 (.tmp 2), none, []⟩, ⟨some 6, .call 0 (.func 106) [(.tmp 4), (.tmp 5)], none, []⟩, ⟨some 3, .asg 0 (.tmp 6) 4, none, []⟩] false) .ret))
def impl_polysCode_c1_of_p_L : Live := [(0, [0, 1]), (1, [1, 2])]
theorem impl_polysCode_c1_of_p_body : Try.f134.body = some (Try.f134.body.getD .skip) := by kernel_rfl
theorem impl_polysCode_c1_of_p_strip : strip [] (Try.f134.body.getD .skip) = impl_polysCode_c1_of_p_c := by kernel_rfl
noncomputable def impl_polysCode_c1_of_p (a0 : (Vec Int 64)) (a1 : Int) : Option Bool :=
  (Option.bind (impl_isPoly a1 a0) fun r3 => (some r3))
set_option maxHeartbeats 16000000 in
theorem impl_polysCode_c1_of_p_ok (a0 : (Vec Int 64)) (a1 : Int) (r : Bool) (h : impl_polysCode_c1_of_p a0 a1 = some r) : Den Try.prog 134 [(eA64u8 a0), (.ref (.int .i64 a1) [] [])] { r := (.bool r) } := by
  refine den_of (rs := [(.bool r)]) (ac := impl_polysCode_c1_of_p_c) (L := impl_polysCode_c1_of_p_L) (n := 7) (m := []) good Try.func134 impl_polysCode_c1_of_p_body (by kernel_rfl) Try.ntmps134 rfl rfl impl_polysCode_c1_of_p_strip rfl rfl ?_
  refine a_st (σ' := ⟨[(0, (eA64u8 a0)), (1, (.ref (.int .i64 a1) [] []))], []⟩) rfl ?_
  unfold impl_polysCode_c1_of_p_c
  refine a_seq ?_
  refine a_region ?_
  refine a_val (v := (.own 1200 [] [])) (u := [(1200, some ⟨(eA64u8 a0), false⟩)]) rfl trivial rfl ?_
  refine a_val (v := (.bool false)) (u := []) rfl trivial rfl ?_
  refine a_nil ?_
  refine a_next (σ' := ⟨[(1, (.ref (.int .i64 a1) [] [])), (2, (.own 2 [] []))], [(2, some ⟨(eA64u8 a0), false⟩)]⟩) rfl ?_
  refine a_seq ?_
  refine a_region ?_
  have hl1 : LdOk [] (.int .i64 a1) [] 1 false (.int .i64 a1) := (.nil rfl rfl rfl)
  refine a_val (v := (.int .i64 a1)) (u := []) (ld_ref (i := ⟨.int .i64, 1, 8, (.int .i64 0)⟩) rfl rfl hl1) hl1.c rfl ?_
  have hl2 : LdOk [] (eA64u8 a0) [] 64 true (eA64u8 a0) := (.nil rfl rfl rfl)
  refine a_val (v := (eA64u8 a0)) (u := []) (ld_own (i := ⟨.arr 64 5, 64, 64, (eA64u8 (vrep 64 (0 : Int)))⟩) rfl rfl rfl hl2) hl2.c rfl ?_
  obtain ⟨r3, hr4, h⟩ := bind_some h
  refine a_call (args := [(.int .i64 a1), (eA64u8 a0)]) (u := []) (r := (.bool r3)) rfl rfl (impl_isPoly_ok a1 a0 r3 hr4) rfl ?_
  refine a_val (v := (.bool r3)) (u := []) rfl trivial rfl ?_
  refine a_nil ?_
  refine a_next rfl ?_
  refine a_ret ?_
  refine ⟨.inr rfl, ?_⟩
  rw [Try.results134]
  cases h
  exact ⟨_, _, _, _, _, rfl, trivial, .inl ⟨rfl, .inl rfl⟩, rfl, rfl⟩
def impl_areAll_impl_Poly__c1_of_p_c : ACode := (.seq (.region 0 [⟨some 2, .box 23 (.tmp 0), none, []⟩, ⟨some 3, .asg 0 (.const (.bool false)) 4, none, []⟩] false) (.seq (.region 1 [⟨some 4, .load 77 (.tmp 1), none, []⟩, ⟨some 5, .load 23 (.tmp 2), none, []⟩, ⟨some 6, .call 0 (.tmp 4) [(.tmp 5)], none, []⟩, ⟨some 7, .un .not (.tmp 6), none, []⟩, ⟨some 3, .asg 0 (.tmp 7) 4, none, []⟩] false) .ret))
def impl_areAll_impl_Poly__c1_of_p_L : Live := [(0, [0, 1]), (1, [1, 2])]
theorem impl_areAll_impl_Poly__c1_of_p_body : Try.f140.body = some (Try.f140.body.getD .skip) := by kernel_rfl
theorem impl_areAll_impl_Poly__c1_of_p_strip : strip [] (Try.f140.body.getD .skip) = impl_areAll_impl_Poly__c1_of_p_c := by kernel_rfl
noncomputable def impl_areAll_impl_Poly__c1_of_p (a0 : (Vec Int 64)) (a1c0 : Int) : Option Bool :=
  (Option.bind (impl_polysCode_c1_of_p a0 a1c0) fun r3 => (some (!r3)))
set_option maxHeartbeats 16000000 in
theorem impl_areAll_impl_Poly__c1_of_p_ok (a0 : (Vec Int 64)) (a1c0 : Int) (r : Bool) (h : impl_areAll_impl_Poly__c1_of_p a0 a1c0 = some r) : Den Try.prog 140 [(eA64u8 a0), (.ref (.clo 134 [] [(.ref (.int .i64 a1c0) [] [])]) [] [])] { r := (.bool r) } := by
  refine den_of (rs := [(.bool r)]) (ac := impl_areAll_impl_Poly__c1_of_p_c) (L := impl_areAll_impl_Poly__c1_of_p_L) (n := 8) (m := []) good Try.func140 impl_areAll_impl_Poly__c1_of_p_body (by kernel_rfl) Try.ntmps140 rfl rfl impl_areAll_impl_Poly__c1_of_p_strip rfl rfl ?_
  refine a_st (σ' := ⟨[(0, (eA64u8 a0)), (1, (.ref (.clo 134 [] [(.ref (.int .i64 a1c0) [] [])]) [] []))], []⟩) rfl ?_
  unfold impl_areAll_impl_Poly__c1_of_p_c
  refine a_seq ?_
  refine a_region ?_
  refine a_val (v := (.own 1200 [] [])) (u := [(1200, some ⟨(eA64u8 a0), false⟩)]) rfl trivial rfl ?_
  refine a_val (v := (.bool false)) (u := []) rfl trivial rfl ?_
  refine a_nil ?_
  refine a_next (σ' := ⟨[(1, (.ref (.clo 134 [] [(.ref (.int .i64 a1c0) [] [])]) [] [])), (2, (.own 2 [] []))], [(2, some ⟨(eA64u8 a0), false⟩)]⟩) rfl ?_
  refine a_seq ?_
  refine a_region ?_
  have hl1 : LdOk [] (.clo 134 [] [(.ref (.int .i64 a1c0) [] [])]) [] 1 false (.clo 134 [] [(.ref (.int .i64 a1c0) [] [])]) := (.nil rfl rfl rfl)
  refine a_val (v := (.clo 134 [] [(.ref (.int .i64 a1c0) [] [])])) (u := []) (ld_ref (i := ⟨.other, 1, 8, (.raw .nilFunc)⟩) rfl rfl hl1) hl1.c rfl ?_
  have hl2 : LdOk [] (eA64u8 a0) [] 64 true (eA64u8 a0) := (.nil rfl rfl rfl)
  refine a_val (v := (eA64u8 a0)) (u := []) (ld_own (i := ⟨.arr 64 5, 64, 64, (eA64u8 (vrep 64 (0 : Int)))⟩) rfl rfl rfl hl2) hl2.c rfl ?_
  obtain ⟨r3, hr4, h⟩ := bind_some h
  refine a_call (args := [(eA64u8 a0), (.ref (.int .i64 a1c0) [] [])]) (u := []) (r := (.bool r3)) rfl rfl (impl_polysCode_c1_of_p_ok a0 a1c0 r3 hr4) rfl ?_
  refine a_val (v := (.bool (!r3))) (u := []) rfl trivial rfl ?_
  refine a_val (v := (.bool (!r3))) (u := []) rfl trivial rfl ?_
  refine a_nil ?_
  refine a_next rfl ?_
  refine a_ret ?_
  refine ⟨.inr rfl, ?_⟩
  rw [Try.results140]
  cases h
  exact ⟨_, _, _, _, _, rfl, trivial, .inl ⟨rfl, .inl rfl⟩, rfl, rfl⟩
def slices_IndexFunc_impl_Poly_impl_Poly_of_impl_areAll_impl_Poly__c1_p_c : ACode := (.seq (.region 0 [⟨some 4, .asg 0 (.const (.int .i64 0)) 3, none, []⟩] false) (.seq (.seq (.region 1 [⟨some 6, .mov (.tmp 0), none, []⟩, ⟨some 7, .blt 0 .len [(.tmp 6)] [40], none, []⟩, ⟨some 8, .mov (.const (.int .i64 0)), none, []⟩] false) (.block 0 (.loop (.seq (.region 2 [⟨some 9, .bin .lss 3 (.tmp 8) (.tmp 7), none, []⟩] false) (.seq (.cond (.tmp 9) .skip (.exit 0)) (.seq (.block 1 (.seq (.region 3 [⟨some 10, .mov (.tmp 8), none, []⟩, ⟨some 5, .asg 0 (.tmp 10) 3, none, []⟩] false) (.seq (.region 4 [⟨some 11, .mov (.tmp 1), none, []⟩, ⟨some 12, .mov (.tmp 0), none, []⟩, ⟨some 13, .mov (.tmp 5), none, []⟩, ⟨some 14, .indexAddr 40 (.tmp 12) (.tmp 13), none, []⟩, ⟨some 15, .load 23 (.tmp 14), none, []⟩, ⟨some 16, .call 0 (.tmp 11) [(.tmp 15)], none, []⟩] false) (.cond (.tmp 16) (.seq (.region 5 [⟨some 17, .mov (.tmp 5), none, []⟩, ⟨some 4, .asg 0 (.tmp 17) 3, none, []⟩] false) .ret) .skip)))) (.region 6 [⟨some 18, .bin .add 3 (.tmp 8) (.const (.int .i64 1)), none, []⟩, ⟨some 8, .mov (.tmp 18), none, []⟩] false))))))) (.seq (.region 7 [⟨some 4, .asg 0 (.const (.int .i64 (-1))) 3, none, []⟩] false) .ret)))
def slices_IndexFunc_impl_Poly_impl_Poly_of_impl_areAll_impl_Poly__c1_p_L : Live := [(0, [0, 1]), (1, [0, 1]), (2, [0, 1, 7, 8]), (3, [0, 1, 7, 8]), (4, [0, 1, 5, 7, 8]), (5, [5]), (6, [0, 1, 7, 8]), (7, []), (100009, [0, 1, 7, 8, 9]), (100016, [0, 1, 5, 7, 8, 16])]
theorem slices_IndexFunc_impl_Poly_impl_Poly_of_impl_areAll_impl_Poly__c1_p_body : Try.f154.body = some (Try.f154.body.getD .skip) := by kernel_rfl
theorem slices_IndexFunc_impl_Poly_impl_Poly_of_impl_areAll_impl_Poly__c1_p_strip : strip [] (Try.f154.body.getD .skip) = slices_IndexFunc_impl_Poly_impl_Poly_of_impl_areAll_impl_Poly__c1_p_c := by kernel_rfl
noncomputable def slices_IndexFunc_impl_Poly_impl_Poly_of_impl_areAll_impl_Poly__c1_p_l1 (a0 : (List (Vec Int 64))) (a1c0c0 : Int) (x33 : Int) : Option (Int ⊕ (Unit ⊕ Int)) :=
  (if (decide (x33 < (a0.length : Int))) then (ifp (0 ≤ x33 ∧ x33 < ((a0.length : Nat) : Int)) ((Option.bind (impl_areAll_impl_Poly__c1_of_p (rd a0 x33.toNat) a1c0c0) fun r46 => (if r46 then (some (.inr (.inr x33))) else (some (.inl (IntKind.i64.wrap (x33 + 1)))))))) else (some (.inr (((.inl ()))))))
noncomputable def slices_IndexFunc_impl_Poly_impl_Poly_of_impl_areAll_impl_Poly__c1_p (a0 : (List (Vec Int 64))) (a1c0c0 : Int) : Option Int :=
  (Option.bind (α := (Unit ⊕ Int)) ((loopM (fun s : Int => slices_IndexFunc_impl_Poly_impl_Poly_of_impl_areAll_impl_Poly__c1_p_l1 a0 a1c0c0 s) 0)) fun z => match z with | .inl _ => (some (-1)) | .inr r50 => (some r50))
set_option maxHeartbeats 16000000 in
theorem slices_IndexFunc_impl_Poly_impl_Poly_of_impl_areAll_impl_Poly__c1_p_ok (a0 : (List (Vec Int 64))) (a1c0c0 : Int) (r : Int) (h : slices_IndexFunc_impl_Poly_impl_Poly_of_impl_areAll_impl_Poly__c1_p a0 a1c0c0 = some r) : Den Try.prog 154 [(eSA64u8 a0), (.clo 140 [] [(.ref (.clo 134 [] [(.ref (.int .i64 a1c0c0) [] [])]) [] [])])] { r := (.int .i64 r) } := by
  refine den_of (rs := [(.int .i64 r)]) (ac := slices_IndexFunc_impl_Poly_impl_Poly_of_impl_areAll_impl_Poly__c1_p_c) (L := slices_IndexFunc_impl_Poly_impl_Poly_of_impl_areAll_impl_Poly__c1_p_L) (n := 19) (m := []) good Try.func154 slices_IndexFunc_impl_Poly_impl_Poly_of_impl_areAll_impl_Poly__c1_p_body (by kernel_rfl) Try.ntmps154 rfl rfl slices_IndexFunc_impl_Poly_impl_Poly_of_impl_areAll_impl_Poly__c1_p_strip rfl rfl ?_
  refine a_st (σ' := ⟨[(0, (eSA64u8 a0)), (1, (.clo 140 [] [(.ref (.clo 134 [] [(.ref (.int .i64 a1c0c0) [] [])]) [] [])]))], []⟩) rfl ?_
  unfold slices_IndexFunc_impl_Poly_impl_Poly_of_impl_areAll_impl_Poly__c1_p_c
  refine a_seq ?_
  refine a_region ?_
  refine a_val (v := (.int .i64 0)) (u := []) rfl trivial rfl ?_
  refine a_nil ?_
  refine a_next (σ' := ⟨[(0, (eSA64u8 a0)), (1, (.clo 140 [] [(.ref (.clo 134 [] [(.ref (.int .i64 a1c0c0) [] [])]) [] [])]))], []⟩) rfl ?_
  obtain ⟨y24, hy25, hk26⟩ := bind_some h
  clear h
  refine a_join (emb := fun (s : Unit) => ⟨[], []⟩) (pre := fun s => (.inl s) = y24) ?_ ?_
  · rintro _ rfl
    have h := hk26
    refine a_st (σ' := ⟨[], []⟩) rfl ?_
    refine a_seq ?_
    refine a_region ?_
    refine a_val (v := (.int .i64 (-1))) (u := []) rfl trivial rfl ?_
    refine a_nil ?_
    refine a_next rfl ?_
    refine a_ret ?_
    refine ⟨.inr rfl, ?_⟩
    rw [Try.results154]
    cases h
    exact ⟨_, _, _, _, _, rfl, trivial, .inl ⟨rfl, .inl rfl⟩, rfl, rfl⟩
  · have h := hy25
    refine a_seq ?_
    refine a_region ?_
    refine a_val (v := (eSA64u8 a0)) (u := []) rfl trivial rfl ?_
    refine a_val (v := (.int .i64 (a0.length : Int))) (u := []) (len_run rfl rfl) trivial rfl ?_
    refine a_val (v := (.int .i64 0)) (u := []) rfl trivial rfl ?_
    refine a_nil ?_
    refine a_next (σ' := ⟨[(0, (eSA64u8 a0)), (1, (.clo 140 [] [(.ref (.clo 134 [] [(.ref (.int .i64 a1c0c0) [] [])]) [] [])])), (7, (.int .i64 (a0.length : Int))), (8, (.int .i64 0))], []⟩) rfl ?_
    refine a_block ?_
    refine a_loop (emb := fun (s : Int) => ⟨[(0, (eSA64u8 a0)), (1, (.clo 140 [] [(.ref (.clo 134 [] [(.ref (.int .i64 a1c0c0) [] [])]) [] [])])), (7, (.int .i64 (a0.length : Int))), (8, (.int .i64 s))], []⟩) (body := (fun s : Int => slices_IndexFunc_impl_Poly_impl_Poly_of_impl_areAll_impl_Poly__c1_p_l1 a0 a1c0c0 s)) (G := fun q => some q = some y24) h rfl ?_ rfl
    rintro X40 x33 x41 h hX42
    have h : slices_IndexFunc_impl_Poly_impl_Poly_of_impl_areAll_impl_Poly__c1_p_l1 a0 a1c0c0 x33 = some x41 := h
    refine a_st (σ' := ⟨[(0, (eSA64u8 a0)), (1, (.clo 140 [] [(.ref (.clo 134 [] [(.ref (.int .i64 a1c0c0) [] [])]) [] [])])), (7, (.int .i64 (a0.length : Int))), (8, (.int .i64 x33))], []⟩) rfl ?_
    refine a_seq ?_
    refine a_region ?_
    refine a_val (v := (.bool ((decide (x33 < (a0.length : Int)))))) (u := []) rfl trivial rfl ?_
    refine a_nil ?_
    refine a_next (σ' := ⟨[(0, (eSA64u8 a0)), (1, (.clo 140 [] [(.ref (.clo 134 [] [(.ref (.int .i64 a1c0c0) [] [])]) [] [])])), (7, (.int .i64 (a0.length : Int))), (8, (.int .i64 x33)), (9, (.bool ((decide (x33 < (a0.length : Int))))))], []⟩) rfl ?_
    refine a_seq ?_
    cases hb43 : (decide (x33 < (a0.length : Int)))
    · have h := ite_f hb43 h
      refine a_cond_f rfl ?_
      refine a_exit ?_
      refine t_exit ?_
      cases h
      have h := hX42
      refine t_exit ?_
      refine b_exit ?_
      exact j_leaf () (Option.some.inj h) rfl
    · have h := ite_t hb43 h
      refine a_cond_t rfl ?_
      refine a_skip ?_
      refine a_next (σ' := ⟨[(0, (eSA64u8 a0)), (1, (.clo 140 [] [(.ref (.clo 134 [] [(.ref (.int .i64 a1c0c0) [] [])]) [] [])])), (7, (.int .i64 (a0.length : Int))), (8, (.int .i64 x33))], []⟩) rfl ?_
      refine a_seq ?_
      refine a_block ?_
      refine a_seq ?_
      refine a_region ?_
      refine a_val (v := (.int .i64 x33)) (u := []) rfl trivial rfl ?_
      refine a_val (v := (.int .i64 x33)) (u := []) rfl trivial rfl ?_
      refine a_nil ?_
      refine a_next (σ' := ⟨[(0, (eSA64u8 a0)), (1, (.clo 140 [] [(.ref (.clo 134 [] [(.ref (.int .i64 a1c0c0) [] [])]) [] [])])), (5, (.int .i64 x33)), (7, (.int .i64 (a0.length : Int))), (8, (.int .i64 x33))], []⟩) rfl ?_
      refine a_seq ?_
      refine a_region ?_
      refine a_val (v := (.clo 140 [] [(.ref (.clo 134 [] [(.ref (.int .i64 a1c0c0) [] [])]) [] [])])) (u := []) rfl trivial rfl ?_
      refine a_val (v := (eSA64u8 a0)) (u := []) rfl trivial rfl ?_
      refine a_val (v := (.int .i64 x33)) (u := []) rfl trivial rfl ?_
      obtain ⟨hc44, h⟩ := ifp_some h
      refine a_val (v := (.ref (.row 64 (a0.map eA64u8)) [x33.toNat] [x33.toNat * 64])) (u := []) rfl (lmap hc44) rfl ?_
      have hl45 : LdOk [x33.toNat] (.row 64 (a0.map eA64u8)) [x33.toNat * 64] 64 true (eA64u8 (rd a0 x33.toNat)) := (.row (llt hc44) rfl (.nil rfl rfl rfl))
      refine a_val (v := (eA64u8 (rd a0 x33.toNat))) (u := []) (ld_ref (i := ⟨.arr 64 5, 64, 64, (eA64u8 (vrep 64 (0 : Int)))⟩) rfl rfl hl45) hl45.c rfl ?_
      obtain ⟨r46, hr47, h⟩ := bind_some h
      refine a_call (args := [(eA64u8 (rd a0 x33.toNat)), (.ref (.clo 134 [] [(.ref (.int .i64 a1c0c0) [] [])]) [] [])]) (u := []) (r := (.bool r46)) rfl rfl (impl_areAll_impl_Poly__c1_of_p_ok (rd a0 x33.toNat) a1c0c0 r46 hr47) rfl ?_
      refine a_nil ?_
      refine a_next (σ' := ⟨[(0, (eSA64u8 a0)), (1, (.clo 140 [] [(.ref (.clo 134 [] [(.ref (.int .i64 a1c0c0) [] [])]) [] [])])), (5, (.int .i64 x33)), (7, (.int .i64 (a0.length : Int))), (8, (.int .i64 x33)), (16, (.bool r46))], []⟩) rfl ?_
      cases hb48 : r46
      · have h := ite_f hb48 h
        refine a_cond_f rfl ?_
        refine a_skip ?_
        refine b_norm ?_
        refine a_next (σ' := ⟨[(0, (eSA64u8 a0)), (1, (.clo 140 [] [(.ref (.clo 134 [] [(.ref (.int .i64 a1c0c0) [] [])]) [] [])])), (7, (.int .i64 (a0.length : Int))), (8, (.int .i64 x33))], []⟩) rfl ?_
        refine a_region ?_
        refine a_val (v := (.int .i64 (IntKind.i64.wrap (x33 + 1)))) (u := []) rfl trivial rfl ?_
        refine a_val (v := (.int .i64 (IntKind.i64.wrap (x33 + 1)))) (u := []) rfl trivial rfl ?_
        refine a_nil ?_
        cases h
        exact a_again rfl hX42
      · have h := ite_t hb48 h
        refine a_cond_t rfl ?_
        refine a_seq ?_
        refine a_region ?_
        refine a_val (v := (.int .i64 x33)) (u := []) rfl trivial rfl ?_
        refine a_val (v := (.int .i64 x33)) (u := []) rfl trivial rfl ?_
        refine a_nil ?_
        refine a_next rfl ?_
        refine a_ret ?_
        refine b_ret ?_
        refine t_ret ?_
        cases h
        have h := hX42
        refine t_ret ?_
        refine b_ret ?_
        refine t_ret ?_
        cases h
        have h := hk26
        refine ⟨.inr rfl, ?_⟩
        rw [Try.results154]
        cases h
        exact ⟨_, _, _, _, _, rfl, trivial, .inl ⟨rfl, .inl rfl⟩, rfl, rfl⟩
def slices_ContainsFunc_impl_Poly_impl_Poly_of_impl_areAll_impl_Poly__c1_p_c : ACode := (.seq (.region 0 [⟨some 4, .asg 0 (.const (.bool false)) 4, none, []⟩] false) (.seq (.region 1 [⟨some 5, .mov (.tmp 0), none, []⟩, ⟨some 6, .mov (.tmp 1), none, []⟩, ⟨some 7, .call 0 (.func 154) [(.tmp 5), (.tmp 6)], none, []⟩, ⟨some 8, .bin .geq 3 (.tmp 7) (.const (.int .i64 0)), none, []⟩, ⟨some 4, .asg 0 (.tmp 8) 4, none, []⟩] false) .ret))
def slices_ContainsFunc_impl_Poly_impl_Poly_of_impl_areAll_impl_Poly__c1_p_L : Live := [(0, [0, 1]), (1, [0, 1])]
theorem slices_ContainsFunc_impl_Poly_impl_Poly_of_impl_areAll_impl_Poly__c1_p_body : Try.f139.body = some (Try.f139.body.getD .skip) := by kernel_rfl
theorem slices_ContainsFunc_impl_Poly_impl_Poly_of_impl_areAll_impl_Poly__c1_p_strip : strip [] (Try.f139.body.getD .skip) = slices_ContainsFunc_impl_Poly_impl_Poly_of_impl_areAll_impl_Poly__c1_p_c := by kernel_rfl
noncomputable def slices_ContainsFunc_impl_Poly_impl_Poly_of_impl_areAll_impl_Poly__c1_p (a0 : (List (Vec Int 64))) (a1c0c0 : Int) : Option Bool :=
  (Option.bind (slices_IndexFunc_impl_Poly_impl_Poly_of_impl_areAll_impl_Poly__c1_p a0 a1c0c0) fun r1 => (some ((decide (r1 ≥ 0)))))
set_option maxHeartbeats 16000000 in
theorem slices_ContainsFunc_impl_Poly_impl_Poly_of_impl_areAll_impl_Poly__c1_p_ok (a0 : (List (Vec Int 64))) (a1c0c0 : Int) (r : Bool) (h : slices_ContainsFunc_impl_Poly_impl_Poly_of_impl_areAll_impl_Poly__c1_p a0 a1c0c0 = some r) : Den Try.prog 139 [(eSA64u8 a0), (.clo 140 [] [(.ref (.clo 134 [] [(.ref (.int .i64 a1c0c0) [] [])]) [] [])])] { r := (.bool r) } := by
  refine den_of (rs := [(.bool r)]) (ac := slices_ContainsFunc_impl_Poly_impl_Poly_of_impl_areAll_impl_Poly__c1_p_c) (L := slices_ContainsFunc_impl_Poly_impl_Poly_of_impl_areAll_impl_Poly__c1_p_L) (n := 9) (m := []) good Try.func139 slices_ContainsFunc_impl_Poly_impl_Poly_of_impl_areAll_impl_Poly__c1_p_body (by kernel_rfl) Try.ntmps139 rfl rfl slices_ContainsFunc_impl_Poly_impl_Poly_of_impl_areAll_impl_Poly__c1_p_strip rfl rfl ?_
  refine a_st (σ' := ⟨[(0, (eSA64u8 a0)), (1, (.clo 140 [] [(.ref (.clo 134 [] [(.ref (.int .i64 a1c0c0) [] [])]) [] [])]))], []⟩) rfl ?_
  unfold slices_ContainsFunc_impl_Poly_impl_Poly_of_impl_areAll_impl_Poly__c1_p_c
  refine a_seq ?_
  refine a_region ?_
  refine a_val (v := (.bool false)) (u := []) rfl trivial rfl ?_
  refine a_nil ?_
  refine a_next (σ' := ⟨[(0, (eSA64u8 a0)), (1, (.clo 140 [] [(.ref (.clo 134 [] [(.ref (.int .i64 a1c0c0) [] [])]) [] [])]))], []⟩) rfl ?_
  refine a_seq ?_
  refine a_region ?_
  refine a_val (v := (eSA64u8 a0)) (u := []) rfl trivial rfl ?_
  refine a_val (v := (.clo 140 [] [(.ref (.clo 134 [] [(.ref (.int .i64 a1c0c0) [] [])]) [] [])])) (u := []) rfl trivial rfl ?_
  obtain ⟨r1, hr2, h⟩ := bind_some h
  refine a_call (args := [(eSA64u8 a0), (.clo 140 [] [(.ref (.clo 134 [] [(.ref (.int .i64 a1c0c0) [] [])]) [] [])])]) (u := []) (r := (.int .i64 r1)) rfl rfl (slices_IndexFunc_impl_Poly_impl_Poly_of_impl_areAll_impl_Poly__c1_p_ok a0 a1c0c0 r1 hr2) rfl ?_
  refine a_val (v := (.bool ((decide (r1 ≥ 0))))) (u := []) rfl trivial rfl ?_
  refine a_val (v := (.bool ((decide (r1 ≥ 0))))) (u := []) rfl trivial rfl ?_
  refine a_nil ?_
  refine a_next rfl ?_
  refine a_ret ?_
  refine ⟨.inr rfl, ?_⟩
  rw [Try.results139]
  cases h
  exact ⟨_, _, _, _, _, rfl, trivial, .inl ⟨rfl, .inl rfl⟩, rfl, rfl⟩
def impl_areAll_impl_Poly_of_impl_polysCode_c1_p_c : ACode := (.seq (.region 0 [⟨some 3, .box 77 (.tmp 1), none, []⟩, ⟨some 4, .asg 0 (.const (.bool false)) 4, none, []⟩] false) (.seq (.region 1 [⟨some 5, .mov (.tmp 0), none, []⟩, ⟨some 6, .mkfn 140 [] [(.tmp 3)], none, []⟩, ⟨some 7, .call 0 (.func 139) [(.tmp 5), (.tmp 6)], none, []⟩, ⟨some 8, .un .not (.tmp 7), none, []⟩, ⟨some 4, .asg 0 (.tmp 8) 4, none, []⟩] false) .ret))
def impl_areAll_impl_Poly_of_impl_polysCode_c1_p_L : Live := [(0, [0, 1]), (1, [0, 3])]
theorem impl_areAll_impl_Poly_of_impl_polysCode_c1_p_body : Try.f116.body = some (Try.f116.body.getD .skip) := by kernel_rfl
theorem impl_areAll_impl_Poly_of_impl_polysCode_c1_p_strip : strip [] (Try.f116.body.getD .skip) = impl_areAll_impl_Poly_of_impl_polysCode_c1_p_c := by kernel_rfl
noncomputable def impl_areAll_impl_Poly_of_impl_polysCode_c1_p (a0 : (List (Vec Int 64))) (a1c0 : Int) : Option Bool :=
  (Option.bind (slices_ContainsFunc_impl_Poly_impl_Poly_of_impl_areAll_impl_Poly__c1_p a0 a1c0) fun r1 => (some (!r1)))
set_option maxHeartbeats 16000000 in
theorem impl_areAll_impl_Poly_of_impl_polysCode_c1_p_ok (a0 : (List (Vec Int 64))) (a1c0 : Int) (r : Bool) (h : impl_areAll_impl_Poly_of_impl_polysCode_c1_p a0 a1c0 = some r) : Den Try.prog 116 [(eSA64u8 a0), (.clo 134 [] [(.ref (.int .i64 a1c0) [] [])])] { r := (.bool r) } := by
  refine den_of (rs := [(.bool r)]) (ac := impl_areAll_impl_Poly_of_impl_polysCode_c1_p_c) (L := impl_areAll_impl_Poly_of_impl_polysCode_c1_p_L) (n := 9) (m := []) good Try.func116 impl_areAll_impl_Poly_of_impl_polysCode_c1_p_body (by kernel_rfl) Try.ntmps116 rfl rfl impl_areAll_impl_Poly_of_impl_polysCode_c1_p_strip rfl rfl ?_
  refine a_st (σ' := ⟨[(0, (eSA64u8 a0)), (1, (.clo 134 [] [(.ref (.int .i64 a1c0) [] [])]))], []⟩) rfl ?_
  unfold impl_areAll_impl_Poly_of_impl_polysCode_c1_p_c
  refine a_seq ?_
  refine a_region ?_
  refine a_val (v := (.own 1300 [] [])) (u := [(1300, some ⟨(.clo 134 [] [(.ref (.int .i64 a1c0) [] [])]), false⟩)]) rfl trivial rfl ?_
  refine a_val (v := (.bool false)) (u := []) rfl trivial rfl ?_
  refine a_nil ?_
  refine a_next (σ' := ⟨[(0, (eSA64u8 a0)), (3, (.own 3 [] []))], [(3, some ⟨(.clo 134 [] [(.ref (.int .i64 a1c0) [] [])]), false⟩)]⟩) rfl ?_
  refine a_seq ?_
  refine a_region ?_
  refine a_val (v := (eSA64u8 a0)) (u := []) rfl trivial rfl ?_
  refine a_val (v := (.clo 140 [] [(.ref (.clo 134 [] [(.ref (.int .i64 a1c0) [] [])]) [] [])])) (u := [(3, some ⟨(.clo 134 [] [(.ref (.int .i64 a1c0) [] [])]), true⟩)]) rfl ⟨all_nil, (all_cons ⟨rfl, rfl⟩ all_nil)⟩ rfl ?_
  obtain ⟨r1, hr2, h⟩ := bind_some h
  refine a_call (args := [(eSA64u8 a0), (.clo 140 [] [(.ref (.clo 134 [] [(.ref (.int .i64 a1c0) [] [])]) [] [])])]) (u := []) (r := (.bool r1)) rfl rfl (slices_ContainsFunc_impl_Poly_impl_Poly_of_impl_areAll_impl_Poly__c1_p_ok a0 a1c0 r1 hr2) rfl ?_
  refine a_val (v := (.bool (!r1))) (u := []) rfl trivial rfl ?_
  refine a_val (v := (.bool (!r1))) (u := []) rfl trivial rfl ?_
  refine a_nil ?_
  refine a_next rfl ?_
  refine a_ret ?_
  refine ⟨.inr rfl, ?_⟩
  rw [Try.results116]
  cases h
  exact ⟨_, _, _, _, _, rfl, trivial, .inl ⟨rfl, .inl rfl⟩, rfl, rfl⟩
def impl_polysCode_c : ACode := (.seq (.region 0 [⟨some 2, .box 2 (.tmp 0), none, []⟩, ⟨some 4, .asg 0 (.const (.int .i64 0)) 2, none, []⟩] false) (.seq (.seq (.region 1 [⟨some 5, .load 2 (.tmp 2), none, []⟩, ⟨some 6, .call 0 (.func 59) [(.tmp 5)], none, []⟩, ⟨some 7, .un .not (.tmp 6), none, []⟩, ⟨some 8, .mov (.tmp 7), none, []⟩, ⟨some 9, .mov (.tmp 1), some (8, false), []⟩, ⟨some 10, .mkfn 134 [] [(.tmp 2)], some (8, false), []⟩, ⟨some 11, .call 0 (.func 116) [(.tmp 9), (.tmp 10)], some (8, false), []⟩, ⟨some 12, .un .not (.tmp 11), some (8, false), []⟩, ⟨some 13, .pick (.tmp 8) (.const (.bool true)) (.tmp 12), none, []⟩] false) (.cond (.tmp 13) (.seq (.region 2 [⟨some 4, .asg 0 (.const (.int .i64 1)) 2, none, []⟩] false) .ret) .skip)) (.seq (.region 3 [⟨some 4, .asg 0 (.const (.int .i64 0)) 2, none, []⟩] false) .ret)))
def impl_polysCode_L : Live := [(0, [0, 1]), (1, [1, 2]), (2, []), (3, []), (100013, [13])]
theorem impl_polysCode_body : Try.f108.body = some (Try.f108.body.getD .skip) := by kernel_rfl
theorem impl_polysCode_strip : strip [] (Try.f108.body.getD .skip) = impl_polysCode_c := by kernel_rfl
noncomputable def impl_polysCode (a0 : Int) (a1 : (List (Vec Int 64))) : Option Int :=
  (Option.bind (α := Bool) ((Option.bind (impl_isPrime a0) fun r12 => (if (!r12) then (some true) else (Option.bind (impl_areAll_impl_Poly_of_impl_polysCode_c1_p a1 a0) fun r15 => (some (!r15)))))) fun x7 => (if x7 then (some 1) else (some 0)))
set_option maxHeartbeats 16000000 in
theorem impl_polysCode_ok (a0 : Int) (a1 : (List (Vec Int 64))) (r : Int) (h : impl_polysCode a0 a1 = some r) : Den Try.prog 108 [(.int .i64 a0), (eSA64u8 a1)] { r := (.int .i64 r) } := by
  refine den_of (rs := [(.int .i64 r)]) (ac := impl_polysCode_c) (L := impl_polysCode_L) (n := 14) (m := []) good Try.func108 impl_polysCode_body (by kernel_rfl) Try.ntmps108 rfl rfl impl_polysCode_strip rfl rfl ?_
  refine a_st (σ' := ⟨[(0, (.int .i64 a0)), (1, (eSA64u8 a1))], []⟩) rfl ?_
  unfold impl_polysCode_c
  refine a_seq ?_
  refine a_region ?_
  refine a_val (v := (.own 1200 [] [])) (u := [(1200, some ⟨(.int .i64 a0), false⟩)]) rfl trivial rfl ?_
  refine a_val (v := (.int .i64 0)) (u := []) rfl trivial rfl ?_
  refine a_nil ?_
  refine a_next (σ' := ⟨[(1, (eSA64u8 a1)), (2, (.own 2 [] []))], [(2, some ⟨(.int .i64 a0), false⟩)]⟩) rfl ?_
  refine a_seq ?_
  obtain ⟨y8, hy9, hk10⟩ := bind_some h
  clear h
  refine a_join (emb := fun (s : Bool) => ⟨[(13, (.bool s))], []⟩) (pre := fun s => s = y8) ?_ ?_
  · rintro x7 rfl
    have h := hk10
    refine a_st (σ' := ⟨[(13, (.bool x7))], []⟩) rfl ?_
    cases hb17 : x7
    · have h := ite_f hb17 h
      refine a_cond_f rfl ?_
      refine a_skip ?_
      refine a_next (σ' := ⟨[], []⟩) rfl ?_
      refine a_seq ?_
      refine a_region ?_
      refine a_val (v := (.int .i64 0)) (u := []) rfl trivial rfl ?_
      refine a_nil ?_
      refine a_next rfl ?_
      refine a_ret ?_
      refine ⟨.inr rfl, ?_⟩
      rw [Try.results108]
      cases h
      exact ⟨_, _, _, _, _, rfl, trivial, .inl ⟨rfl, .inl rfl⟩, rfl, rfl⟩
    · have h := ite_t hb17 h
      refine a_cond_t rfl ?_
      refine a_seq ?_
      refine a_region ?_
      refine a_val (v := (.int .i64 1)) (u := []) rfl trivial rfl ?_
      refine a_nil ?_
      refine a_next rfl ?_
      refine a_ret ?_
      refine t_ret ?_
      refine ⟨.inr rfl, ?_⟩
      rw [Try.results108]
      cases h
      exact ⟨_, _, _, _, _, rfl, trivial, .inl ⟨rfl, .inl rfl⟩, rfl, rfl⟩
  · have h := hy9
    refine a_region ?_
    have hl11 : LdOk [] (.int .i64 a0) [] 1 false (.int .i64 a0) := (.nil rfl rfl rfl)
    refine a_val (v := (.int .i64 a0)) (u := []) (ld_own (i := ⟨.int .i64, 1, 8, (.int .i64 0)⟩) rfl rfl rfl hl11) hl11.c rfl ?_
    obtain ⟨r12, hr13, h⟩ := bind_some h
    refine a_call (args := [(.int .i64 a0)]) (u := []) (r := (.bool r12)) rfl rfl (impl_isPrime_ok a0 r12 hr13) rfl ?_
    refine a_val (v := (.bool (!r12))) (u := []) rfl trivial rfl ?_
    refine a_val (v := (.bool (!r12))) (u := []) rfl trivial rfl ?_
    cases hb14 : (!r12)
    · have h := ite_f hb14 h
      refine a_gval rfl (v := (eSA64u8 a1)) (u := []) rfl trivial rfl ?_
      refine a_gval rfl (v := (.clo 134 [] [(.ref (.int .i64 a0) [] [])])) (u := [(2, some ⟨(.int .i64 a0), true⟩)]) rfl ⟨all_nil, (all_cons ⟨rfl, rfl⟩ all_nil)⟩ rfl ?_
      obtain ⟨r15, hr16, h⟩ := bind_some h
      refine a_gcall rfl (args := [(eSA64u8 a1), (.clo 134 [] [(.ref (.int .i64 a0) [] [])])]) (u := []) (r := (.bool r15)) rfl rfl (impl_areAll_impl_Poly_of_impl_polysCode_c1_p_ok a1 a0 r15 hr16) rfl ?_
      refine a_gval rfl (v := (.bool (!r15))) (u := []) rfl trivial rfl ?_
      refine a_val (v := (.bool (!r15))) (u := []) rfl trivial rfl ?_
      refine a_nil ?_
      exact j_leaf (!r15) (Option.some.inj h) rfl
    · have h := ite_t hb14 h
      refine a_gskip rfl ?_
      refine a_gskip rfl ?_
      refine a_gskip rfl ?_
      refine a_gskip rfl ?_
      refine a_val (v := (.bool true)) (u := []) rfl trivial rfl ?_
      refine a_nil ?_
      exact j_leaf true (Option.some.inj h) rfl
def impl_row_trimmed_c : ACode := (.seq (.region 0 [⟨some 2, .asg 1 (.const (.slice none 0 0)) 66, none, []⟩] false) (.seq (.region 1 [⟨some 4, .mov (.tmp 0), none, []⟩, ⟨some 5, .blt 0 .len [(.tmp 4)] [66], none, []⟩, ⟨some 3, .asg 0 (.tmp 5) 3, none, []⟩] false) (.seq (.block 0 (.loop (.seq (.seq (.region 2 [⟨some 6, .mov (.tmp 3), none, []⟩, ⟨some 7, .bin .gtr 3 (.tmp 6) (.const (.int .i64 0)), none, []⟩, ⟨some 8, .mov (.tmp 7), none, []⟩, ⟨some 9, .mov (.tmp 0), some (8, true), []⟩, ⟨some 10, .mov (.tmp 3), some (8, true), []⟩, ⟨some 11, .bin .sub 3 (.tmp 10) (.const (.int .i64 1)), some (8, true), []⟩, ⟨some 12, .indexAddr 66 (.tmp 9) (.tmp 11), some (8, true), []⟩, ⟨some 13, .load 2 (.tmp 12), some (8, true), []⟩, ⟨some 14, .bin .eql 2 (.tmp 13) (.const (.int .i64 0)), some (8, true), []⟩, ⟨some 15, .pick (.tmp 8) (.tmp 14) (.const (.bool false)), none, []⟩] false) (.cond (.tmp 15) .skip (.exit 0))) (.block 1 (.region 3 [⟨some 16, .mov (.tmp 3), none, []⟩, ⟨some 17, .bin .sub 3 (.tmp 16) (.const (.int .i64 1)), none, []⟩, ⟨some 3, .asg 0 (.tmp 17) 3, none, []⟩] false))))) (.seq (.region 4 [⟨some 18, .mov (.tmp 0), none, []⟩, ⟨some 19, .mov (.tmp 3), none, []⟩, ⟨some 20, .mov (.tmp 3), none, []⟩, ⟨some 21, .slice 66 (.tmp 18) none (some (.tmp 19)) (some (.tmp 20)), none, []⟩, ⟨some 2, .asg 1 (.tmp 21) 66, none, []⟩] false) .ret))))
def impl_row_trimmed_L : Live := [(0, [0]), (1, [0]), (2, [0, 3]), (3, [0, 3]), (4, [0, 3]), (100015, [0, 3, 15])]
theorem impl_row_trimmed_body : Try.f111.body = some (Try.f111.body.getD .skip) := by kernel_rfl
theorem impl_row_trimmed_strip : strip [(2, 1)] (Try.f111.body.getD .skip) = impl_row_trimmed_c := by kernel_rfl
noncomputable def impl_row_trimmed_l1 (a0 : (List Int)) (x62 : Int) : Option (Int ⊕ Int) :=
  (Option.bind (α := Bool) ((if (decide (x62 > 0)) then (ifp (0 ≤ IntKind.i64.wrap (x62 - 1) ∧ IntKind.i64.wrap (x62 - 1) < ((a0.length : Nat) : Int)) ((some ((((rd a0 (IntKind.i64.wrap (x62 - 1)).toNat)) == 0))))) else (some false))) fun x80 => (if x80 then (some (.inl (IntKind.i64.wrap (x62 - 1)))) else (some (.inr x62))))
noncomputable def impl_row_trimmed (a0 : (List Int)) : Option (List Int) :=
  (Option.bind (α := Int) ((loopM (fun s : Int => impl_row_trimmed_l1 a0 s) (a0.length : Int))) fun x43 => (ifp (0 ≤ x43 ∧ x43 ≤ (a0.length : Int)) ((some (a0.take x43.toNat)))))
set_option maxHeartbeats 16000000 in
theorem impl_row_trimmed_ok (a0 : (List Int)) (r : (List Int)) (h : impl_row_trimmed a0 = some r) : Den Try.prog 111 [(eSi64 a0)] { r := (eSi64 r) } := by
  refine den_of (rs := [(eSi64 r)]) (ac := impl_row_trimmed_c) (L := impl_row_trimmed_L) (n := 22) (m := [(2, 1)]) good Try.func111 impl_row_trimmed_body (by kernel_rfl) Try.ntmps111 rfl rfl impl_row_trimmed_strip rfl rfl ?_
  refine a_st (σ' := ⟨[(0, (eSi64 a0))], []⟩) rfl ?_
  unfold impl_row_trimmed_c
  refine a_seq ?_
  refine a_region ?_
  refine a_val (v := (eSi64 ([]))) (u := []) rfl trivial rfl ?_
  refine a_nil ?_
  refine a_next (σ' := ⟨[(0, (eSi64 a0))], []⟩) rfl ?_
  refine a_seq ?_
  refine a_region ?_
  refine a_val (v := (eSi64 a0)) (u := []) rfl trivial rfl ?_
  refine a_val (v := (.int .i64 (a0.length : Int))) (u := []) (len_run rfl rfl) trivial rfl ?_
  refine a_val (v := (.int .i64 (a0.length : Int))) (u := []) rfl trivial rfl ?_
  refine a_nil ?_
  refine a_next (σ' := ⟨[(0, (eSi64 a0)), (3, (.int .i64 (a0.length : Int)))], []⟩) rfl ?_
  obtain ⟨y44, hy45, hk46⟩ := bind_some h
  clear h
  refine a_join (emb := fun (s : Int) => ⟨[(0, (eSi64 a0)), (3, (.int .i64 s))], []⟩) (pre := fun s => s = y44) ?_ ?_
  · rintro x43 rfl
    have h := hk46
    refine a_st (σ' := ⟨[(0, (eSi64 a0)), (3, (.int .i64 x43))], []⟩) rfl ?_
    refine a_seq ?_
    refine a_region ?_
    refine a_val (v := (eSi64 a0)) (u := []) rfl trivial rfl ?_
    refine a_val (v := (.int .i64 x43)) (u := []) rfl trivial rfl ?_
    refine a_val (v := (.int .i64 x43)) (u := []) rfl trivial rfl ?_
    obtain ⟨hc89, h⟩ := ifp_some h
    refine a_val (v := (.sl 1 true ((a0.take x43.toNat).map (AV.int .i64)))) (u := []) (take3_run (f := (AV.int .i64)) (l := a0) (i := ⟨.int .i64, 1, 8, (.int .i64 0)⟩) rfl rfl rfl rfl (fun _ => rfl)) ⟨hc89.1, lmap_le hc89.2, rfl⟩ rfl ?_
    refine a_val (v := (eSi64 (a0.take x43.toNat))) (u := []) (asg_tight (i := ⟨.int .i64, 1, 8, (.int .i64 0)⟩) (f := (AV.int .i64)) (l := (a0.take x43.toNat)) rfl rfl rfl) trivial rfl ?_
    refine a_nil ?_
    refine a_next rfl ?_
    refine a_ret ?_
    refine ⟨.inr rfl, ?_⟩
    rw [Try.results111]
    cases h
    exact ⟨_, _, _, _, _, rfl, trivial, .inl ⟨rfl, .inl rfl⟩, rfl, rfl⟩
  · have h := hy45
    refine a_block ?_
    refine a_loop (emb := fun (s : Int) => ⟨[(0, (eSi64 a0)), (3, (.int .i64 s))], []⟩) (body := (fun s : Int => impl_row_trimmed_l1 a0 s)) (G := fun q => some q = some y44) h rfl ?_ rfl
    rintro X74 x62 x75 h hX76
    have h : impl_row_trimmed_l1 a0 x62 = some x75 := h
    refine a_st (σ' := ⟨[(0, (eSi64 a0)), (3, (.int .i64 x62))], []⟩) rfl ?_
    refine a_seq ?_
    obtain ⟨y81, hy82, hk83⟩ := bind_some h
    clear h
    refine a_join (emb := fun (s : Bool) => ⟨[(0, (eSi64 a0)), (3, (.int .i64 x62)), (15, (.bool s))], []⟩) (pre := fun s => s = y81) ?_ ?_
    · rintro x80 rfl
      have h := hk83
      refine a_st (σ' := ⟨[(0, (eSi64 a0)), (3, (.int .i64 x62)), (15, (.bool x80))], []⟩) rfl ?_
      cases hb87 : x80
      · have h := ite_f hb87 h
        refine a_cond_f rfl ?_
        refine a_exit ?_
        refine t_exit ?_
        cases h
        have h := hX76
        refine t_exit ?_
        refine b_exit ?_
        exact j_leaf x62 (Option.some.inj h) rfl
      · have h := ite_t hb87 h
        refine a_cond_t rfl ?_
        refine a_skip ?_
        refine a_next (σ' := ⟨[(0, (eSi64 a0)), (3, (.int .i64 x62))], []⟩) rfl ?_
        refine a_block ?_
        refine a_region ?_
        refine a_val (v := (.int .i64 x62)) (u := []) rfl trivial rfl ?_
        refine a_val (v := (.int .i64 (IntKind.i64.wrap (x62 - 1)))) (u := []) rfl trivial rfl ?_
        refine a_val (v := (.int .i64 (IntKind.i64.wrap (x62 - 1)))) (u := []) rfl trivial rfl ?_
        refine a_nil ?_
        refine b_norm ?_
        cases h
        exact a_again rfl hX76
    · have h := hy82
      refine a_region ?_
      refine a_val (v := (.int .i64 x62)) (u := []) rfl trivial rfl ?_
      refine a_val (v := (.bool ((decide (x62 > 0))))) (u := []) rfl trivial rfl ?_
      refine a_val (v := (.bool ((decide (x62 > 0))))) (u := []) rfl trivial rfl ?_
      cases hb84 : (decide (x62 > 0))
      · have h := ite_f hb84 h
        refine a_gskip rfl ?_
        refine a_gskip rfl ?_
        refine a_gskip rfl ?_
        refine a_gskip rfl ?_
        refine a_gskip rfl ?_
        refine a_gskip rfl ?_
        refine a_val (v := (.bool false)) (u := []) rfl trivial rfl ?_
        refine a_nil ?_
        exact j_leaf false (Option.some.inj h) rfl
      · have h := ite_t hb84 h
        refine a_gval rfl (v := (eSi64 a0)) (u := []) rfl trivial rfl ?_
        refine a_gval rfl (v := (.int .i64 x62)) (u := []) rfl trivial rfl ?_
        refine a_gval rfl (v := (.int .i64 (IntKind.i64.wrap (x62 - 1)))) (u := []) rfl trivial rfl ?_
        obtain ⟨hc85, h⟩ := ifp_some h
        refine a_gval rfl (v := (.ref (.row 1 (a0.map (AV.int .i64))) [(IntKind.i64.wrap (x62 - 1)).toNat] [(IntKind.i64.wrap (x62 - 1)).toNat * 1])) (u := []) rfl (lmap hc85) rfl ?_
        have hl86 : LdOk [(IntKind.i64.wrap (x62 - 1)).toNat] (.row 1 (a0.map (AV.int .i64))) [(IntKind.i64.wrap (x62 - 1)).toNat * 1] 1 false (.int .i64 ((rd a0 (IntKind.i64.wrap (x62 - 1)).toNat))) := (.row (llt hc85) rfl (.nil rfl rfl rfl))
        refine a_gval rfl (v := (.int .i64 ((rd a0 (IntKind.i64.wrap (x62 - 1)).toNat)))) (u := []) (ld_ref (i := ⟨.int .i64, 1, 8, (.int .i64 0)⟩) rfl rfl hl86) hl86.c rfl ?_
        refine a_gval rfl (v := (.bool ((((rd a0 (IntKind.i64.wrap (x62 - 1)).toNat)) == 0)))) (u := []) rfl trivial rfl ?_
        refine a_val (v := (.bool ((((rd a0 (IntKind.i64.wrap (x62 - 1)).toNat)) == 0)))) (u := []) rfl trivial rfl ?_
        refine a_nil ?_
        exact j_leaf ((((rd a0 (IntKind.i64.wrap (x62 - 1)).toNat)) == 0)) (Option.some.inj h) rfl
def impl_rowOf_c : ACode := (.seq (.region 0 [⟨some 1, .box 23 (.tmp 0), none, []⟩, ⟨some 2, .asg 1 (.const (.slice none 0 0)) 66, none, []⟩] false) (.seq (.region 1 [⟨some 3, .asg 2 (.const (.slice none 0 0)) 66, none, []⟩] false) (.seq (.seq (.region 2 [⟨some 6, .load 23 (.tmp 1), none, []⟩, ⟨some 7, .mov (.const (.int .i64 0)), none, []⟩] false) (.block 0 (.loop (.seq (.region 3 [⟨some 8, .bin .lss 3 (.tmp 7) (.const (.int .i64 64)), none, []⟩] false) (.seq (.cond (.tmp 8) .skip (.exit 0)) (.seq (.block 1 (.seq (.region 4 [⟨some 9, .index 23 (.tmp 6) (.tmp 7), none, []⟩, ⟨some 5, .asg 0 (.tmp 9) 5, none, []⟩] false) (.region 5 [⟨some 10, .mov (.tmp 3), none, []⟩, ⟨some 11, .mov (.tmp 5), none, []⟩, ⟨some 12, .conv 5 2 (.tmp 11), none, []⟩, ⟨some 13, .bslice 0 66 1 [(0, (.tmp 12))], none, []⟩, ⟨some 14, .blt 0 .append [(.tmp 10), (.tmp 13)] [66, 66], none, []⟩, ⟨some 3, .asg 2 (.tmp 14) 66, none, []⟩] false))) (.region 6 [⟨some 15, .bin .add 3 (.tmp 7) (.const (.int .i64 1)), none, []⟩, ⟨some 7, .mov (.tmp 15), none, []⟩] false))))))) (.seq (.region 7 [⟨some 16, .mov (.tmp 3), none, []⟩, ⟨some 17, .call 0 (.func 111) [(.tmp 16)], none, []⟩, ⟨some 2, .asg 1 (.tmp 17) 66, none, []⟩] false) .ret))))
def impl_rowOf_L : Live := [(0, [0]), (1, [1]), (2, [1, 3]), (3, [3, 6, 7]), (4, [3, 6, 7]), (5, [3, 5, 6, 7]), (6, [3, 6, 7]), (7, [3]), (100008, [3, 6, 7, 8])]
theorem impl_rowOf_body : Try.f76.body = some (Try.f76.body.getD .skip) := by kernel_rfl
theorem impl_rowOf_strip : strip [(2, 1), (3, 2)] (Try.f76.body.getD .skip) = impl_rowOf_c := by kernel_rfl
noncomputable def impl_rowOf_l1 (a0 : (Vec Int 64)) (x25 : Int) (x26 : (List Int)) : Option ((Int × (List Int)) ⊕ (List Int)) :=
  (if (decide (x25 < 64)) then (ifp (0 ≤ x25 ∧ x25 < ((64 : Nat) : Int)) ((ifp ((x26.length + ([IntKind.i64.wrap (rd a0.1 x25.toNat)] : List Int).length) * 8 ≤ 140737488355328) ((some (.inl ((IntKind.i64.wrap (x25 + 1), (x26 ++ ([IntKind.i64.wrap (rd a0.1 x25.toNat)])))))))))) else (some (.inr x26)))
noncomputable def impl_rowOf (a0 : (Vec Int 64)) : Option (List Int) :=
  (Option.bind (α := (List Int)) ((loopM (fun s : (Int × (List Int)) => impl_rowOf_l1 a0 s.1 s.2) (0, []))) fun x17 => (Option.bind (impl_row_trimmed x17) fun r37 => (some r37)))
set_option maxHeartbeats 16000000 in
theorem impl_rowOf_ok (a0 : (Vec Int 64)) (r : (List Int)) (h : impl_rowOf a0 = some r) : Den Try.prog 76 [(eA64u8 a0)] { r := (eSi64 r) } := by
  refine den_of (rs := [(eSi64 r)]) (ac := impl_rowOf_c) (L := impl_rowOf_L) (n := 18) (m := [(2, 1), (3, 2)]) good Try.func76 impl_rowOf_body (by kernel_rfl) Try.ntmps76 rfl rfl impl_rowOf_strip rfl rfl ?_
  refine a_st (σ' := ⟨[(0, (eA64u8 a0))], []⟩) rfl ?_
  unfold impl_rowOf_c
  refine a_seq ?_
  refine a_region ?_
  refine a_val (v := (.own 1100 [] [])) (u := [(1100, some ⟨(eA64u8 a0), false⟩)]) rfl trivial rfl ?_
  refine a_val (v := (eSi64 ([]))) (u := []) rfl trivial rfl ?_
  refine a_nil ?_
  refine a_next (σ' := ⟨[(1, (.own 1 [] []))], [(1, some ⟨(eA64u8 a0), false⟩)]⟩) rfl ?_
  refine a_seq ?_
  refine a_region ?_
  refine a_val (v := (.osl 1300)) (u := [(1300, some ⟨(.row 1 (([]).map (AV.int .i64))), false⟩)]) rfl trivial rfl ?_
  refine a_nil ?_
  refine a_next (σ' := ⟨[(1, (.own 1 [] [])), (3, (.osl 3))], [(1, some ⟨(eA64u8 a0), false⟩), (3, some ⟨(.row 1 (([]).map (AV.int .i64))), false⟩)]⟩) rfl ?_
  obtain ⟨y18, hy19, hk20⟩ := bind_some h
  clear h
  refine a_join (emb := fun (s : (List Int)) => ⟨[(3, (.osl 3))], [(3, some ⟨(.row 1 (s.map (AV.int .i64))), false⟩)]⟩) (pre := fun s => s = y18) ?_ ?_
  · rintro x17 rfl
    have h := hk20
    refine a_st (σ' := ⟨[(3, (.osl 3))], [(3, some ⟨(.row 1 (x17.map (AV.int .i64))), false⟩)]⟩) rfl ?_
    refine a_seq ?_
    refine a_region ?_
    refine a_val (v := (.osl 3)) (u := []) rfl trivial rfl ?_
    obtain ⟨r37, hr38, h⟩ := bind_some h
    refine a_call (args := [(eSi64 x17)]) (u := [(3, some ⟨(.row 1 (x17.map (AV.int .i64))), true⟩)]) (r := (eSi64 r37)) rfl rfl (impl_row_trimmed_ok x17 r37 hr38) rfl ?_
    refine a_val (v := (eSi64 r37)) (u := []) rfl trivial rfl ?_
    refine a_nil ?_
    refine a_next rfl ?_
    refine a_ret ?_
    refine ⟨.inr rfl, ?_⟩
    rw [Try.results76]
    cases h
    exact ⟨_, _, _, _, _, rfl, trivial, .inl ⟨rfl, .inl rfl⟩, rfl, rfl⟩
  · have h := hy19
    refine a_seq ?_
    refine a_region ?_
    have hl21 : LdOk [] (eA64u8 a0) [] 64 true (eA64u8 a0) := (.nil rfl rfl rfl)
    refine a_val (v := (eA64u8 a0)) (u := []) (ld_own (i := ⟨.arr 64 5, 64, 64, (eA64u8 (vrep 64 (0 : Int)))⟩) rfl rfl rfl hl21) hl21.c rfl ?_
    refine a_val (v := (.int .i64 0)) (u := []) rfl trivial rfl ?_
    refine a_nil ?_
    refine a_next (σ' := ⟨[(3, (.osl 3)), (6, (eA64u8 a0)), (7, (.int .i64 0))], [(3, some ⟨(.row 1 (([]).map (AV.int .i64))), false⟩)]⟩) rfl ?_
    refine a_block ?_
    refine a_loop (emb := fun (s : (Int × (List Int))) => ⟨[(3, (.osl 3)), (6, (eA64u8 a0)), (7, (.int .i64 s.1))], [(3, some ⟨(.row 1 (s.2.map (AV.int .i64))), false⟩)]⟩) (body := (fun s : (Int × (List Int)) => impl_rowOf_l1 a0 s.1 s.2)) (G := fun q => some q = some y18) h rfl ?_ rfl
    rintro X30 ⟨x25, x26⟩ x31 h hX32
    have h : impl_rowOf_l1 a0 x25 x26 = some x31 := h
    refine a_st (σ' := ⟨[(3, (.osl 3)), (6, (eA64u8 a0)), (7, (.int .i64 x25))], [(3, some ⟨(.row 1 (x26.map (AV.int .i64))), false⟩)]⟩) rfl ?_
    refine a_seq ?_
    refine a_region ?_
    refine a_val (v := (.bool ((decide (x25 < 64))))) (u := []) rfl trivial rfl ?_
    refine a_nil ?_
    refine a_next (σ' := ⟨[(3, (.osl 3)), (6, (eA64u8 a0)), (7, (.int .i64 x25)), (8, (.bool ((decide (x25 < 64)))))], [(3, some ⟨(.row 1 (x26.map (AV.int .i64))), false⟩)]⟩) rfl ?_
    refine a_seq ?_
    cases hb33 : (decide (x25 < 64))
    · have h := ite_f hb33 h
      refine a_cond_f rfl ?_
      refine a_exit ?_
      refine t_exit ?_
      cases h
      have h := hX32
      refine t_exit ?_
      refine b_exit ?_
      exact j_leaf x26 (Option.some.inj h) rfl
    · have h := ite_t hb33 h
      refine a_cond_t rfl ?_
      refine a_skip ?_
      refine a_next (σ' := ⟨[(3, (.osl 3)), (6, (eA64u8 a0)), (7, (.int .i64 x25))], [(3, some ⟨(.row 1 (x26.map (AV.int .i64))), false⟩)]⟩) rfl ?_
      refine a_seq ?_
      refine a_block ?_
      refine a_seq ?_
      refine a_region ?_
      obtain ⟨hc34, h⟩ := ifp_some h
      refine a_val (v := (.int .u8 (rd a0.1 x25.toNat))) (u := []) (ix_run (i := ⟨.int .u8, 1, 1, (.int .u8 0)⟩) (f := (AV.int .u8)) rfl rfl rfl rfl (vlt a0 hc34)) ⟨hc34.1, hc34.2, rfl, rfl, rfl, rfl⟩ rfl ?_
      refine a_val (v := (.int .u8 (rd a0.1 x25.toNat))) (u := []) rfl trivial rfl ?_
      refine a_nil ?_
      refine a_next (σ' := ⟨[(3, (.osl 3)), (5, (.int .u8 (rd a0.1 x25.toNat))), (6, (eA64u8 a0)), (7, (.int .i64 x25))], [(3, some ⟨(.row 1 (x26.map (AV.int .i64))), false⟩)]⟩) rfl ?_
      refine a_region ?_
      refine a_val (v := (.osl 3)) (u := []) rfl trivial rfl ?_
      refine a_val (v := (.int .u8 (rd a0.1 x25.toNat))) (u := []) rfl trivial rfl ?_
      refine a_val (v := (.int .i64 (IntKind.i64.wrap (rd a0.1 x25.toNat)))) (u := []) rfl trivial rfl ?_
      refine a_val (v := (.sl 1 true (([IntKind.i64.wrap (rd a0.1 x25.toNat)]).map (AV.int .i64)))) (u := []) rfl ⟨(Nat.le_of_ble_eq_true rfl), (Nat.le_of_ble_eq_true rfl), (all_cons ⟨(Nat.le_of_ble_eq_true rfl), rfl⟩ all_nil)⟩ rfl ?_
      obtain ⟨hc35, h⟩ := ifp_some h
      refine a_val (v := (.osl 2400)) (u := [(2400, some ⟨(.row 1 (((x26 ++ ([IntKind.i64.wrap (rd a0.1 x25.toNat)]))).map (AV.int .i64))), false⟩), (3, none)]) (app_run (i := ⟨.int .i64, 1, 8, (.int .i64 0)⟩) (f := (AV.int .i64)) (l := x26) (l2 := [IntKind.i64.wrap (rd a0.1 x25.toNat)]) rfl rfl rfl rfl (fun _ => rfl) rfl rfl) (app_c (f := (AV.int .i64)) (s := 1) (sz := 1) (by' := 8) (u := []) (id := 3) hc35 (.inr rfl) rfl rfl rfl) rfl ?_
      refine a_val (v := (.osl 2400)) (u := []) rfl trivial rfl ?_
      refine a_nil ?_
      refine b_norm ?_
      refine a_next (σ' := ⟨[(3, (.osl 3)), (6, (eA64u8 a0)), (7, (.int .i64 x25))], [(3, some ⟨(.row 1 (((x26 ++ ([IntKind.i64.wrap (rd a0.1 x25.toNat)]))).map (AV.int .i64))), false⟩)]⟩) rfl ?_
      refine a_region ?_
      refine a_val (v := (.int .i64 (IntKind.i64.wrap (x25 + 1)))) (u := []) rfl trivial rfl ?_
      refine a_val (v := (.int .i64 (IntKind.i64.wrap (x25 + 1)))) (u := []) rfl trivial rfl ?_
      refine a_nil ?_
      cases h
      exact a_again rfl hX32
def impl_row_lead_c : ACode := (.seq (.region 0 [⟨some 2, .asg 0 (.const (.int .i64 0)) 2, none, []⟩] false) (.seq (.seq (.region 1 [⟨some 3, .mov (.tmp 0), none, []⟩, ⟨some 4, .blt 0 .len [(.tmp 3)] [66], none, []⟩, ⟨some 5, .bin .eql 3 (.tmp 4) (.const (.int .i64 0)), none, []⟩] false) (.cond (.tmp 5) (.seq (.region 2 [⟨some 2, .asg 0 (.const (.int .i64 0)) 2, none, []⟩] false) .ret) .skip)) (.seq (.region 3 [⟨some 6, .mov (.tmp 0), none, []⟩, ⟨some 7, .mov (.tmp 0), none, []⟩, ⟨some 8, .blt 0 .len [(.tmp 7)] [66], none, []⟩, ⟨some 9, .bin .sub 3 (.tmp 8) (.const (.int .i64 1)), none, []⟩, ⟨some 10, .indexAddr 66 (.tmp 6) (.tmp 9), none, []⟩, ⟨some 11, .load 2 (.tmp 10), none, []⟩, ⟨some 2, .asg 0 (.tmp 11) 2, none, []⟩] false) .ret)))
def impl_row_lead_L : Live := [(0, [0]), (1, [0]), (2, []), (3, [0]), (100005, [0, 5])]
theorem impl_row_lead_body : Try.f107.body = some (Try.f107.body.getD .skip) := by kernel_rfl
theorem impl_row_lead_strip : strip [] (Try.f107.body.getD .skip) = impl_row_lead_c := by kernel_rfl
noncomputable def impl_row_lead (a0 : (List Int)) : Option Int :=
  (if ((a0.length : Int) == 0) then (some 0) else (ifp (0 ≤ IntKind.i64.wrap ((a0.length : Int) - 1) ∧ IntKind.i64.wrap ((a0.length : Int) - 1) < ((a0.length : Nat) : Int)) ((some ((rd a0 (IntKind.i64.wrap ((a0.length : Int) - 1)).toNat))))))
set_option maxHeartbeats 16000000 in
theorem impl_row_lead_ok (a0 : (List Int)) (r : Int) (h : impl_row_lead a0 = some r) : Den Try.prog 107 [(eSi64 a0)] { r := (.int .i64 r) } := by
  refine den_of (rs := [(.int .i64 r)]) (ac := impl_row_lead_c) (L := impl_row_lead_L) (n := 12) (m := []) good Try.func107 impl_row_lead_body (by kernel_rfl) Try.ntmps107 rfl rfl impl_row_lead_strip rfl rfl ?_
  refine a_st (σ' := ⟨[(0, (eSi64 a0))], []⟩) rfl ?_
  unfold impl_row_lead_c
  refine a_seq ?_
  refine a_region ?_
  refine a_val (v := (.int .i64 0)) (u := []) rfl trivial rfl ?_
  refine a_nil ?_
  refine a_next (σ' := ⟨[(0, (eSi64 a0))], []⟩) rfl ?_
  refine a_seq ?_
  refine a_seq ?_
  refine a_region ?_
  refine a_val (v := (eSi64 a0)) (u := []) rfl trivial rfl ?_
  refine a_val (v := (.int .i64 (a0.length : Int))) (u := []) (len_run rfl rfl) trivial rfl ?_
  refine a_val (v := (.bool (((a0.length : Int) == 0)))) (u := []) rfl trivial rfl ?_
  refine a_nil ?_
  refine a_next (σ' := ⟨[(0, (eSi64 a0)), (5, (.bool (((a0.length : Int) == 0))))], []⟩) rfl ?_
  cases hb1 : ((a0.length : Int) == 0)
  · have h := ite_f hb1 h
    refine a_cond_f rfl ?_
    refine a_skip ?_
    refine a_next (σ' := ⟨[(0, (eSi64 a0))], []⟩) rfl ?_
    refine a_seq ?_
    refine a_region ?_
    refine a_val (v := (eSi64 a0)) (u := []) rfl trivial rfl ?_
    refine a_val (v := (eSi64 a0)) (u := []) rfl trivial rfl ?_
    refine a_val (v := (.int .i64 (a0.length : Int))) (u := []) (len_run rfl rfl) trivial rfl ?_
    refine a_val (v := (.int .i64 (IntKind.i64.wrap ((a0.length : Int) - 1)))) (u := []) rfl trivial rfl ?_
    obtain ⟨hc2, h⟩ := ifp_some h
    refine a_val (v := (.ref (.row 1 (a0.map (AV.int .i64))) [(IntKind.i64.wrap ((a0.length : Int) - 1)).toNat] [(IntKind.i64.wrap ((a0.length : Int) - 1)).toNat * 1])) (u := []) rfl (lmap hc2) rfl ?_
    have hl3 : LdOk [(IntKind.i64.wrap ((a0.length : Int) - 1)).toNat] (.row 1 (a0.map (AV.int .i64))) [(IntKind.i64.wrap ((a0.length : Int) - 1)).toNat * 1] 1 false (.int .i64 ((rd a0 (IntKind.i64.wrap ((a0.length : Int) - 1)).toNat))) := (.row (llt hc2) rfl (.nil rfl rfl rfl))
    refine a_val (v := (.int .i64 ((rd a0 (IntKind.i64.wrap ((a0.length : Int) - 1)).toNat)))) (u := []) (ld_ref (i := ⟨.int .i64, 1, 8, (.int .i64 0)⟩) rfl rfl hl3) hl3.c rfl ?_
    refine a_val (v := (.int .i64 ((rd a0 (IntKind.i64.wrap ((a0.length : Int) - 1)).toNat)))) (u := []) rfl trivial rfl ?_
    refine a_nil ?_
    refine a_next rfl ?_
    refine a_ret ?_
    refine ⟨.inr rfl, ?_⟩
    rw [Try.results107]
    cases h
    exact ⟨_, _, _, _, _, rfl, trivial, .inl ⟨rfl, .inl rfl⟩, rfl, rfl⟩
  · have h := ite_t hb1 h
    refine a_cond_t rfl ?_
    refine a_seq ?_
    refine a_region ?_
    refine a_val (v := (.int .i64 0)) (u := []) rfl trivial rfl ?_
    refine a_nil ?_
    refine a_next rfl ?_
    refine a_ret ?_
    refine t_ret ?_
    refine ⟨.inr rfl, ?_⟩
    rw [Try.results107]
    cases h
    exact ⟨_, _, _, _, _, rfl, trivial, .inl ⟨rfl, .inl rfl⟩, rfl, rfl⟩
def impl_row_degree_c : ACode := (.seq (.region 0 [⟨some 2, .asg 0 (.const (.int .i64 0)) 2, none, []⟩] false) (.seq (.region 1 [⟨some 3, .mov (.tmp 0), none, []⟩, ⟨some 4, .blt 0 .len [(.tmp 3)] [66], none, []⟩, ⟨some 5, .bin .sub 2 (.tmp 4) (.const (.int .i64 1)), none, []⟩, ⟨some 2, .asg 0 (.tmp 5) 2, none, []⟩] false) .ret))
def impl_row_degree_L : Live := [(0, [0]), (1, [0])]
theorem impl_row_degree_body : Try.f100.body = some (Try.f100.body.getD .skip) := by kernel_rfl
theorem impl_row_degree_strip : strip [] (Try.f100.body.getD .skip) = impl_row_degree_c := by kernel_rfl
noncomputable def impl_row_degree (a0 : (List Int)) : Option Int :=
  (some (IntKind.i64.wrap ((a0.length : Int) - 1)))
set_option maxHeartbeats 16000000 in
theorem impl_row_degree_ok (a0 : (List Int)) (r : Int) (h : impl_row_degree a0 = some r) : Den Try.prog 100 [(eSi64 a0)] { r := (.int .i64 r) } := by
  refine den_of (rs := [(.int .i64 r)]) (ac := impl_row_degree_c) (L := impl_row_degree_L) (n := 6) (m := []) good Try.func100 impl_row_degree_body (by kernel_rfl) Try.ntmps100 rfl rfl impl_row_degree_strip rfl rfl ?_
  refine a_st (σ' := ⟨[(0, (eSi64 a0))], []⟩) rfl ?_
  unfold impl_row_degree_c
  refine a_seq ?_
  refine a_region ?_
  refine a_val (v := (.int .i64 0)) (u := []) rfl trivial rfl ?_
  refine a_nil ?_
  refine a_next (σ' := ⟨[(0, (eSi64 a0))], []⟩) rfl ?_
  refine a_seq ?_
  refine a_region ?_
  refine a_val (v := (eSi64 a0)) (u := []) rfl trivial rfl ?_
  refine a_val (v := (.int .i64 (a0.length : Int))) (u := []) (len_run rfl rfl) trivial rfl ?_
  refine a_val (v := (.int .i64 (IntKind.i64.wrap ((a0.length : Int) - 1)))) (u := []) rfl trivial rfl ?_
  refine a_val (v := (.int .i64 (IntKind.i64.wrap ((a0.length : Int) - 1)))) (u := []) rfl trivial rfl ?_
  refine a_nil ?_
  refine a_next rfl ?_
  refine a_ret ?_
  refine ⟨.inr rfl, ?_⟩
  rw [Try.results100]
  cases h
  exact ⟨_, _, _, _, _, rfl, trivial, .inl ⟨rfl, .inl rfl⟩, rfl, rfl⟩
def impl_squareCode_c : ACode := (.seq (.region 0 [⟨some 4, .box 23 (.tmp 1), none, []⟩, ⟨some 6, .asg 0 (.const (.int .i64 0)) 2, none, []⟩] false) (.seq (.seq (.region 1 [⟨some 9, .mov (.tmp 0), none, []⟩, ⟨some 10, .load 23 (.tmp 4), none, []⟩, ⟨some 11, .bslice 0 40 1 [(0, (.tmp 10))], none, []⟩, ⟨some 12, .call 0 (.func 108) [(.tmp 9), (.tmp 11)], none, []⟩, ⟨some 7, .asg 0 (.tmp 12) 2, none, []⟩] false) (.seq (.region 2 [⟨some 13, .mov (.tmp 7), none, []⟩, ⟨some 14, .bin .neq 2 (.tmp 13) (.const (.int .i64 0)), none, []⟩] false) (.cond (.tmp 14) (.seq (.region 3 [⟨some 15, .mov (.tmp 7), none, []⟩, ⟨some 6, .asg 0 (.tmp 15) 2, none, []⟩] false) .ret) .skip))) (.seq (.region 4 [⟨some 16, .load 23 (.tmp 4), none, []⟩, ⟨some 17, .call 0 (.func 76) [(.tmp 16)], none, []⟩, ⟨some 8, .asg 1 (.tmp 17) 66, none, []⟩] false) (.seq (.seq (.region 5 [⟨some 18, .mov (.tmp 0), none, []⟩, ⟨some 19, .bin .eql 2 (.tmp 18) (.const (.int .i64 2)), none, []⟩, ⟨some 20, .mov (.tmp 19), none, []⟩, ⟨some 21, .mov (.tmp 8), some (20, false), []⟩, ⟨some 22, .call 0 (.func 107) [(.tmp 21)], some (20, false), []⟩, ⟨some 23, .bin .neq 2 (.tmp 22) (.const (.int .i64 1)), some (20, false), []⟩, ⟨some 24, .pick (.tmp 20) (.const (.bool true)) (.tmp 23), none, []⟩, ⟨some 25, .mov (.tmp 24), none, []⟩, ⟨some 26, .mov (.tmp 8), some (25, false), []⟩, ⟨some 27, .call 0 (.func 100) [(.tmp 26)], some (25, false), []⟩, ⟨some 28, .bin .rem 2 (.tmp 27) (.const (.int .i64 2)), some (25, false), []⟩, ⟨some 29, .bin .neq 2 (.tmp 28) (.const (.int .i64 0)), some (25, false), []⟩, ⟨some 30, .pick (.tmp 25) (.const (.bool true)) (.tmp 29), none, []⟩, ⟨some 31, .mov (.tmp 30), none, []⟩, ⟨some 32, .mov (.tmp 2), some (31, false), []⟩, ⟨some 33, .un .not (.tmp 32), some (31, false), []⟩, ⟨some 34, .pick (.tmp 31) (.const (.bool true)) (.tmp 33), none, []⟩] false) (.cond (.tmp 34) (.seq (.region 6 [⟨some 6, .asg 0 (.const (.int .i64 2)) 2, none, []⟩] false) .ret) .skip)) (.seq (.region 7 [⟨some 6, .asg 0 (.const (.int .i64 0)) 2, none, []⟩] false) .ret)))))
def impl_squareCode_L : Live := [(0, [0, 1, 2]), (1, [0, 2, 4]), (2, [0, 2, 4, 7]), (3, [7]), (4, [0, 2, 4]), (5, [0, 2, 8]), (6, []), (7, []), (100014, [0, 2, 4, 7, 14]), (100034, [34])]
theorem impl_squareCode_body : Try.f73.body = some (Try.f73.body.getD .skip) := by kernel_rfl
theorem impl_squareCode_strip : strip [(8, 1)] (Try.f73.body.getD .skip) = impl_squareCode_c := by kernel_rfl
noncomputable def impl_squareCode (a0 : Int) (a1 : (Vec Int 64)) (a2 : Bool) : Option Int :=
  (Option.bind (impl_polysCode a0 ([a1])) fun r2 => (if (r2 != 0) then (some r2) else (Option.bind (impl_rowOf a1) fun r6 => (Option.bind (α := Bool) ((if (a0 == 2) then (some true) else (Option.bind (impl_row_lead r6) fun r20 => (if (r20 != 1) then (some true) else (Option.bind (impl_row_degree r6) fun r23 => (if ((Int.tmod r23 2) != 0) then (some true) else (some (!a2)))))))) fun x15 => (if x15 then (some 2) else (some 0))))))
set_option maxHeartbeats 16000000 in
theorem impl_squareCode_ok (a0 : Int) (a1 : (Vec Int 64)) (a2 : Bool) (r : Int) (h : impl_squareCode a0 a1 a2 = some r) : Den Try.prog 73 [(.int .i64 a0), (eA64u8 a1), (.bool a2)] { r := (.int .i64 r) } := by
  refine den_of (rs := [(.int .i64 r)]) (ac := impl_squareCode_c) (L := impl_squareCode_L) (n := 35) (m := [(8, 1)]) good Try.func73 impl_squareCode_body (by kernel_rfl) Try.ntmps73 rfl rfl impl_squareCode_strip rfl rfl ?_
  refine a_st (σ' := ⟨[(0, (.int .i64 a0)), (1, (eA64u8 a1)), (2, (.bool a2))], []⟩) rfl ?_
  unfold impl_squareCode_c
  refine a_seq ?_
  refine a_region ?_
  refine a_val (v := (.own 1400 [] [])) (u := [(1400, some ⟨(eA64u8 a1), false⟩)]) rfl trivial rfl ?_
  refine a_val (v := (.int .i64 0)) (u := []) rfl trivial rfl ?_
  refine a_nil ?_
  refine a_next (σ' := ⟨[(0, (.int .i64 a0)), (2, (.bool a2)), (4, (.own 4 [] []))], [(4, some ⟨(eA64u8 a1), false⟩)]⟩) rfl ?_
  refine a_seq ?_
  refine a_seq ?_
  refine a_region ?_
  refine a_val (v := (.int .i64 a0)) (u := []) rfl trivial rfl ?_
  have hl1 : LdOk [] (eA64u8 a1) [] 64 true (eA64u8 a1) := (.nil rfl rfl rfl)
  refine a_val (v := (eA64u8 a1)) (u := []) (ld_own (i := ⟨.arr 64 5, 64, 64, (eA64u8 (vrep 64 (0 : Int)))⟩) rfl rfl rfl hl1) hl1.c rfl ?_
  refine a_val (v := (.sl 64 true (([a1]).map eA64u8))) (u := []) rfl ⟨(Nat.le_of_ble_eq_true rfl), (Nat.le_of_ble_eq_true rfl), (all_cons ⟨(Nat.le_of_ble_eq_true rfl), rfl⟩ all_nil)⟩ rfl ?_
  obtain ⟨r2, hr3, h⟩ := bind_some h
  refine a_call (args := [(.int .i64 a0), (.sl 64 true (([a1]).map eA64u8))]) (u := []) (r := (.int .i64 r2)) rfl rfl (Den.args (impl_polysCode_ok a0 ([a1]) r2 hr3) rfl rfl (.cons (.refl _) (.cons (.loose _) .nil))) rfl ?_
  refine a_val (v := (.int .i64 r2)) (u := []) rfl trivial rfl ?_
  refine a_nil ?_
  refine a_next (σ' := ⟨[(0, (.int .i64 a0)), (2, (.bool a2)), (4, (.own 4 [] [])), (7, (.int .i64 r2))], [(4, some ⟨(eA64u8 a1), false⟩)]⟩) rfl ?_
  refine a_seq ?_
  refine a_region ?_
  refine a_val (v := (.int .i64 r2)) (u := []) rfl trivial rfl ?_
  refine a_val (v := (.bool (r2 != 0))) (u := []) rfl trivial rfl ?_
  refine a_nil ?_
  refine a_next (σ' := ⟨[(0, (.int .i64 a0)), (2, (.bool a2)), (4, (.own 4 [] [])), (7, (.int .i64 r2)), (14, (.bool (r2 != 0)))], [(4, some ⟨(eA64u8 a1), false⟩)]⟩) rfl ?_
  cases hb4 : (r2 != 0)
  · have h := ite_f hb4 h
    refine a_cond_f rfl ?_
    refine a_skip ?_
    refine a_next (σ' := ⟨[(0, (.int .i64 a0)), (2, (.bool a2)), (4, (.own 4 [] []))], [(4, some ⟨(eA64u8 a1), false⟩)]⟩) rfl ?_
    refine a_seq ?_
    refine a_region ?_
    have hl5 : LdOk [] (eA64u8 a1) [] 64 true (eA64u8 a1) := (.nil rfl rfl rfl)
    refine a_val (v := (eA64u8 a1)) (u := []) (ld_own (i := ⟨.arr 64 5, 64, 64, (eA64u8 (vrep 64 (0 : Int)))⟩) rfl rfl rfl hl5) hl5.c rfl ?_
    obtain ⟨r6, hr7, h⟩ := bind_some h
    refine a_call (args := [(eA64u8 a1)]) (u := []) (r := (eSi64 r6)) rfl rfl (impl_rowOf_ok a1 r6 hr7) rfl ?_
    refine a_val (v := (eSi64 r6)) (u := []) rfl trivial rfl ?_
    refine a_nil ?_
    refine a_next (σ' := ⟨[(0, (.int .i64 a0)), (2, (.bool a2)), (8, (eSi64 r6))], []⟩) rfl ?_
    refine a_seq ?_
    obtain ⟨y16, hy17, hk18⟩ := bind_some h
    clear h
    refine a_join (emb := fun (s : Bool) => ⟨[(34, (.bool s))], []⟩) (pre := fun s => s = y16) ?_ ?_
    · rintro x15 rfl
      have h := hk18
      refine a_st (σ' := ⟨[(34, (.bool x15))], []⟩) rfl ?_
      cases hb26 : x15
      · have h := ite_f hb26 h
        refine a_cond_f rfl ?_
        refine a_skip ?_
        refine a_next (σ' := ⟨[], []⟩) rfl ?_
        refine a_seq ?_
        refine a_region ?_
        refine a_val (v := (.int .i64 0)) (u := []) rfl trivial rfl ?_
        refine a_nil ?_
        refine a_next rfl ?_
        refine a_ret ?_
        refine ⟨.inr rfl, ?_⟩
        rw [Try.results73]
        cases h
        exact ⟨_, _, _, _, _, rfl, trivial, .inl ⟨rfl, .inl rfl⟩, rfl, rfl⟩
      · have h := ite_t hb26 h
        refine a_cond_t rfl ?_
        refine a_seq ?_
        refine a_region ?_
        refine a_val (v := (.int .i64 2)) (u := []) rfl trivial rfl ?_
        refine a_nil ?_
        refine a_next rfl ?_
        refine a_ret ?_
        refine t_ret ?_
        refine ⟨.inr rfl, ?_⟩
        rw [Try.results73]
        cases h
        exact ⟨_, _, _, _, _, rfl, trivial, .inl ⟨rfl, .inl rfl⟩, rfl, rfl⟩
    · have h := hy17
      refine a_region ?_
      refine a_val (v := (.int .i64 a0)) (u := []) rfl trivial rfl ?_
      refine a_val (v := (.bool (a0 == 2))) (u := []) rfl trivial rfl ?_
      refine a_val (v := (.bool (a0 == 2))) (u := []) rfl trivial rfl ?_
      cases hb19 : (a0 == 2)
      · have h := ite_f hb19 h
        refine a_gval rfl (v := (eSi64 r6)) (u := []) rfl trivial rfl ?_
        obtain ⟨r20, hr21, h⟩ := bind_some h
        refine a_gcall rfl (args := [(eSi64 r6)]) (u := []) (r := (.int .i64 r20)) rfl rfl (impl_row_lead_ok r6 r20 hr21) rfl ?_
        refine a_gval rfl (v := (.bool (r20 != 1))) (u := []) rfl trivial rfl ?_
        refine a_val (v := (.bool (r20 != 1))) (u := []) rfl trivial rfl ?_
        refine a_val (v := (.bool (r20 != 1))) (u := []) rfl trivial rfl ?_
        cases hb22 : (r20 != 1)
        · have h := ite_f hb22 h
          refine a_gval rfl (v := (eSi64 r6)) (u := []) rfl trivial rfl ?_
          obtain ⟨r23, hr24, h⟩ := bind_some h
          refine a_gcall rfl (args := [(eSi64 r6)]) (u := []) (r := (.int .i64 r23)) rfl rfl (impl_row_degree_ok r6 r23 hr24) rfl ?_
          refine a_gval rfl (v := (.int .i64 (Int.tmod r23 2))) (u := []) rfl (by decide) rfl ?_
          refine a_gval rfl (v := (.bool (((Int.tmod r23 2) != 0)))) (u := []) rfl trivial rfl ?_
          refine a_val (v := (.bool (((Int.tmod r23 2) != 0)))) (u := []) rfl trivial rfl ?_
          refine a_val (v := (.bool (((Int.tmod r23 2) != 0)))) (u := []) rfl trivial rfl ?_
          cases hb25 : ((Int.tmod r23 2) != 0)
          · have h := ite_f hb25 h
            refine a_gval rfl (v := (.bool a2)) (u := []) rfl trivial rfl ?_
            refine a_gval rfl (v := (.bool (!a2))) (u := []) rfl trivial rfl ?_
            refine a_val (v := (.bool (!a2))) (u := []) rfl trivial rfl ?_
            refine a_nil ?_
            exact j_leaf (!a2) (Option.some.inj h) rfl
          · have h := ite_t hb25 h
            refine a_gskip rfl ?_
            refine a_gskip rfl ?_
            refine a_val (v := (.bool true)) (u := []) rfl trivial rfl ?_
            refine a_nil ?_
            exact j_leaf true (Option.some.inj h) rfl
        · have h := ite_t hb22 h
          refine a_gskip rfl ?_
          refine a_gskip rfl ?_
          refine a_gskip rfl ?_
          refine a_gskip rfl ?_
          refine a_val (v := (.bool true)) (u := []) rfl trivial rfl ?_
          refine a_val (v := (.bool true)) (u := []) rfl trivial rfl ?_
          refine a_gskip rfl ?_
          refine a_gskip rfl ?_
          refine a_val (v := (.bool true)) (u := []) rfl trivial rfl ?_
          refine a_nil ?_
          exact j_leaf true (Option.some.inj h) rfl
      · have h := ite_t hb19 h
        refine a_gskip rfl ?_
        refine a_gskip rfl ?_
        refine a_gskip rfl ?_
        refine a_val (v := (.bool true)) (u := []) rfl trivial rfl ?_
        refine a_val (v := (.bool true)) (u := []) rfl trivial rfl ?_
        refine a_gskip rfl ?_
        refine a_gskip rfl ?_
        refine a_gskip rfl ?_
        refine a_gskip rfl ?_
        refine a_val (v := (.bool true)) (u := []) rfl trivial rfl ?_
        refine a_val (v := (.bool true)) (u := []) rfl trivial rfl ?_
        refine a_gskip rfl ?_
        refine a_gskip rfl ?_
        refine a_val (v := (.bool true)) (u := []) rfl trivial rfl ?_
        refine a_nil ?_
        exact j_leaf true (Option.some.inj h) rfl
  · have h := ite_t hb4 h
    refine a_cond_t rfl ?_
    refine a_seq ?_
    refine a_region ?_
    refine a_val (v := (.int .i64 r2)) (u := []) rfl trivial rfl ?_
    refine a_val (v := (.int .i64 r2)) (u := []) rfl trivial rfl ?_
    refine a_nil ?_
    refine a_next rfl ?_
    refine a_ret ?_
    refine t_ret ?_
    refine ⟨.inr rfl, ?_⟩
    rw [Try.results73]
    cases h
    exact ⟨_, _, _, _, _, rfl, trivial, .inl ⟨rfl, .inl rfl⟩, rfl, rfl⟩
def impl_prime_inverse_c : ACode := (.seq (.region 0 [⟨some 4, .asg 0 (.const (.int .i64 0)) 2, none, []⟩] false) (.seq (.region 1 [⟨some 5, .asg 0 (.const (.int .i64 1)) 2, none, []⟩] false) (.seq (.seq (.region 2 [⟨some 6, .mov (.tmp 0), none, []⟩, ⟨some 7, .bin .sub 2 (.tmp 6) (.const (.int .i64 2)), none, []⟩, ⟨some 8, .mov (.const (.int .i64 0)), none, []⟩] false) (.block 0 (.loop (.seq (.region 3 [⟨some 9, .bin .lss 2 (.tmp 8) (.tmp 7), none, []⟩] false) (.seq (.cond (.tmp 9) .skip (.exit 0)) (.seq (.block 1 (.region 4 [⟨some 10, .mov (.tmp 5), none, []⟩, ⟨some 11, .mov (.tmp 1), none, []⟩, ⟨some 12, .bin .mul 2 (.tmp 10) (.tmp 11), none, []⟩, ⟨some 13, .mov (.tmp 0), none, []⟩, ⟨some 14, .bin .rem 2 (.tmp 12) (.tmp 13), none, []⟩, ⟨some 5, .asg 0 (.tmp 14) 2, none, []⟩] false)) (.region 5 [⟨some 15, .bin .add 2 (.tmp 8) (.const (.int .i64 1)), none, []⟩, ⟨some 8, .mov (.tmp 15), none, []⟩] false))))))) (.seq (.region 6 [⟨some 16, .mov (.tmp 5), none, []⟩, ⟨some 4, .asg 0 (.tmp 16) 2, none, []⟩] false) .ret))))
def impl_prime_inverse_L : Live := [(0, [0, 1]), (1, [0, 1]), (2, [0, 1, 5]), (3, [0, 1, 5, 7, 8]), (4, [0, 1, 5, 7, 8]), (5, [0, 1, 5, 7, 8]), (6, [5]), (100009, [0, 1, 5, 7, 8, 9])]
theorem impl_prime_inverse_body : Try.f109.body = some (Try.f109.body.getD .skip) := by kernel_rfl
theorem impl_prime_inverse_strip : strip [] (Try.f109.body.getD .skip) = impl_prime_inverse_c := by kernel_rfl
noncomputable def impl_prime_inverse_l1 (a0 : Int) (a1 : Int) (x19 : Int) (x20 : Int) : Option ((Int × Int) ⊕ Int) :=
  (if (decide (x20 < (IntKind.i64.wrap (a0 - 2)))) then (ifp (a0 ≠ 0) ((some (.inl ((Int.tmod (IntKind.i64.wrap (x19 * a1)) a0, IntKind.i64.wrap (x20 + 1))))))) else (some (.inr x19)))
noncomputable def impl_prime_inverse (a0 : Int) (a1 : Int) : Option Int :=
  (Option.bind (α := Int) ((loopM (fun s : (Int × Int) => impl_prime_inverse_l1 a0 a1 s.1 s.2) (1, 0))) fun x13 => (some x13))
set_option maxHeartbeats 16000000 in
theorem impl_prime_inverse_ok (a0 : Int) (a1 : Int) (r : Int) (h : impl_prime_inverse a0 a1 = some r) : Den Try.prog 109 [(.int .i64 a0), (.int .i64 a1)] { r := (.int .i64 r) } := by
  refine den_of (rs := [(.int .i64 r)]) (ac := impl_prime_inverse_c) (L := impl_prime_inverse_L) (n := 17) (m := []) good Try.func109 impl_prime_inverse_body (by kernel_rfl) Try.ntmps109 rfl rfl impl_prime_inverse_strip rfl rfl ?_
  refine a_st (σ' := ⟨[(0, (.int .i64 a0)), (1, (.int .i64 a1))], []⟩) rfl ?_
  unfold impl_prime_inverse_c
  refine a_seq ?_
  refine a_region ?_
  refine a_val (v := (.int .i64 0)) (u := []) rfl trivial rfl ?_
  refine a_nil ?_
  refine a_next (σ' := ⟨[(0, (.int .i64 a0)), (1, (.int .i64 a1))], []⟩) rfl ?_
  refine a_seq ?_
  refine a_region ?_
  refine a_val (v := (.int .i64 1)) (u := []) rfl trivial rfl ?_
  refine a_nil ?_
  refine a_next (σ' := ⟨[(0, (.int .i64 a0)), (1, (.int .i64 a1)), (5, (.int .i64 1))], []⟩) rfl ?_
  obtain ⟨y14, hy15, hk16⟩ := bind_some h
  clear h
  refine a_join (emb := fun (s : Int) => ⟨[(5, (.int .i64 s))], []⟩) (pre := fun s => s = y14) ?_ ?_
  · rintro x13 rfl
    have h := hk16
    refine a_st (σ' := ⟨[(5, (.int .i64 x13))], []⟩) rfl ?_
    refine a_seq ?_
    refine a_region ?_
    refine a_val (v := (.int .i64 x13)) (u := []) rfl trivial rfl ?_
    refine a_val (v := (.int .i64 x13)) (u := []) rfl trivial rfl ?_
    refine a_nil ?_
    refine a_next rfl ?_
    refine a_ret ?_
    refine ⟨.inr rfl, ?_⟩
    rw [Try.results109]
    cases h
    exact ⟨_, _, _, _, _, rfl, trivial, .inl ⟨rfl, .inl rfl⟩, rfl, rfl⟩
  · have h := hy15
    refine a_seq ?_
    refine a_region ?_
    refine a_val (v := (.int .i64 a0)) (u := []) rfl trivial rfl ?_
    refine a_val (v := (.int .i64 (IntKind.i64.wrap (a0 - 2)))) (u := []) rfl trivial rfl ?_
    refine a_val (v := (.int .i64 0)) (u := []) rfl trivial rfl ?_
    refine a_nil ?_
    refine a_next (σ' := ⟨[(0, (.int .i64 a0)), (1, (.int .i64 a1)), (5, (.int .i64 1)), (7, (.int .i64 (IntKind.i64.wrap (a0 - 2)))), (8, (.int .i64 0))], []⟩) rfl ?_
    refine a_block ?_
    refine a_loop (emb := fun (s : (Int × Int)) => ⟨[(0, (.int .i64 a0)), (1, (.int .i64 a1)), (5, (.int .i64 s.1)), (7, (.int .i64 (IntKind.i64.wrap (a0 - 2)))), (8, (.int .i64 s.2))], []⟩) (body := (fun s : (Int × Int) => impl_prime_inverse_l1 a0 a1 s.1 s.2)) (G := fun q => some q = some y14) h rfl ?_ rfl
    rintro X23 ⟨x19, x20⟩ x24 h hX25
    have h : impl_prime_inverse_l1 a0 a1 x19 x20 = some x24 := h
    refine a_st (σ' := ⟨[(0, (.int .i64 a0)), (1, (.int .i64 a1)), (5, (.int .i64 x19)), (7, (.int .i64 (IntKind.i64.wrap (a0 - 2)))), (8, (.int .i64 x20))], []⟩) rfl ?_
    refine a_seq ?_
    refine a_region ?_
    refine a_val (v := (.bool ((decide (x20 < (IntKind.i64.wrap (a0 - 2))))))) (u := []) rfl trivial rfl ?_
    refine a_nil ?_
    refine a_next (σ' := ⟨[(0, (.int .i64 a0)), (1, (.int .i64 a1)), (5, (.int .i64 x19)), (7, (.int .i64 (IntKind.i64.wrap (a0 - 2)))), (8, (.int .i64 x20)), (9, (.bool ((decide (x20 < (IntKind.i64.wrap (a0 - 2)))))))], []⟩) rfl ?_
    refine a_seq ?_
    cases hb26 : (decide (x20 < (IntKind.i64.wrap (a0 - 2))))
    · have h := ite_f hb26 h
      refine a_cond_f rfl ?_
      refine a_exit ?_
      refine t_exit ?_
      cases h
      have h := hX25
      refine t_exit ?_
      refine b_exit ?_
      exact j_leaf x19 (Option.some.inj h) rfl
    · have h := ite_t hb26 h
      refine a_cond_t rfl ?_
      refine a_skip ?_
      refine a_next (σ' := ⟨[(0, (.int .i64 a0)), (1, (.int .i64 a1)), (5, (.int .i64 x19)), (7, (.int .i64 (IntKind.i64.wrap (a0 - 2)))), (8, (.int .i64 x20))], []⟩) rfl ?_
      refine a_seq ?_
      refine a_block ?_
      refine a_region ?_
      refine a_val (v := (.int .i64 x19)) (u := []) rfl trivial rfl ?_
      refine a_val (v := (.int .i64 a1)) (u := []) rfl trivial rfl ?_
      refine a_val (v := (.int .i64 (IntKind.i64.wrap (x19 * a1)))) (u := []) rfl trivial rfl ?_
      refine a_val (v := (.int .i64 a0)) (u := []) rfl trivial rfl ?_
      obtain ⟨hc27, h⟩ := ifp_some h
      refine a_val (v := (.int .i64 (Int.tmod (IntKind.i64.wrap (x19 * a1)) a0))) (u := []) rfl hc27 rfl ?_
      refine a_val (v := (.int .i64 (Int.tmod (IntKind.i64.wrap (x19 * a1)) a0))) (u := []) rfl trivial rfl ?_
      refine a_nil ?_
      refine b_norm ?_
      refine a_next (σ' := ⟨[(0, (.int .i64 a0)), (1, (.int .i64 a1)), (5, (.int .i64 (Int.tmod (IntKind.i64.wrap (x19 * a1)) a0))), (7, (.int .i64 (IntKind.i64.wrap (a0 - 2)))), (8, (.int .i64 x20))], []⟩) rfl ?_
      refine a_region ?_
      refine a_val (v := (.int .i64 (IntKind.i64.wrap (x20 + 1)))) (u := []) rfl trivial rfl ?_
      refine a_val (v := (.int .i64 (IntKind.i64.wrap (x20 + 1)))) (u := []) rfl trivial rfl ?_
      refine a_nil ?_
      cases h
      exact a_again rfl hX25
def impl_prime_reduce_c : ACode := (.seq (.region 0 [⟨some 4, .asg 0 (.const (.int .i64 0)) 2, none, []⟩] false) (.seq (.region 1 [⟨some 5, .mov (.tmp 1), none, []⟩, ⟨some 6, .mov (.tmp 0), none, []⟩, ⟨some 7, .bin .rem 2 (.tmp 5) (.tmp 6), none, []⟩, ⟨some 8, .mov (.tmp 0), none, []⟩, ⟨some 9, .bin .add 2 (.tmp 7) (.tmp 8), none, []⟩, ⟨some 10, .mov (.tmp 0), none, []⟩, ⟨some 11, .bin .rem 2 (.tmp 9) (.tmp 10), none, []⟩, ⟨some 4, .asg 0 (.tmp 11) 2, none, []⟩] false) .ret))
def impl_prime_reduce_L : Live := [(0, [0, 1]), (1, [0, 1])]
theorem impl_prime_reduce_body : Try.f110.body = some (Try.f110.body.getD .skip) := by kernel_rfl
theorem impl_prime_reduce_strip : strip [] (Try.f110.body.getD .skip) = impl_prime_reduce_c := by kernel_rfl
noncomputable def impl_prime_reduce (a0 : Int) (a1 : Int) : Option Int :=
  (ifp (a0 ≠ 0) ((ifp (a0 ≠ 0) ((some (Int.tmod (IntKind.i64.wrap ((Int.tmod a1 a0) + a0)) a0))))))
set_option maxHeartbeats 16000000 in
theorem impl_prime_reduce_ok (a0 : Int) (a1 : Int) (r : Int) (h : impl_prime_reduce a0 a1 = some r) : Den Try.prog 110 [(.int .i64 a0), (.int .i64 a1)] { r := (.int .i64 r) } := by
  refine den_of (rs := [(.int .i64 r)]) (ac := impl_prime_reduce_c) (L := impl_prime_reduce_L) (n := 12) (m := []) good Try.func110 impl_prime_reduce_body (by kernel_rfl) Try.ntmps110 rfl rfl impl_prime_reduce_strip rfl rfl ?_
  refine a_st (σ' := ⟨[(0, (.int .i64 a0)), (1, (.int .i64 a1))], []⟩) rfl ?_
  unfold impl_prime_reduce_c
  refine a_seq ?_
  refine a_region ?_
  refine a_val (v := (.int .i64 0)) (u := []) rfl trivial rfl ?_
  refine a_nil ?_
  refine a_next (σ' := ⟨[(0, (.int .i64 a0)), (1, (.int .i64 a1))], []⟩) rfl ?_
  refine a_seq ?_
  refine a_region ?_
  refine a_val (v := (.int .i64 a1)) (u := []) rfl trivial rfl ?_
  refine a_val (v := (.int .i64 a0)) (u := []) rfl trivial rfl ?_
  obtain ⟨hc1, h⟩ := ifp_some h
  refine a_val (v := (.int .i64 (Int.tmod a1 a0))) (u := []) rfl hc1 rfl ?_
  refine a_val (v := (.int .i64 a0)) (u := []) rfl trivial rfl ?_
  refine a_val (v := (.int .i64 (IntKind.i64.wrap ((Int.tmod a1 a0) + a0)))) (u := []) rfl trivial rfl ?_
  refine a_val (v := (.int .i64 a0)) (u := []) rfl trivial rfl ?_
  obtain ⟨hc2, h⟩ := ifp_some h
  refine a_val (v := (.int .i64 (Int.tmod (IntKind.i64.wrap ((Int.tmod a1 a0) + a0)) a0))) (u := []) rfl hc2 rfl ?_
  refine a_val (v := (.int .i64 (Int.tmod (IntKind.i64.wrap ((Int.tmod a1 a0) + a0)) a0))) (u := []) rfl trivial rfl ?_
  refine a_nil ?_
  refine a_next rfl ?_
  refine a_ret ?_
  refine ⟨.inr rfl, ?_⟩
  rw [Try.results110]
  cases h
  exact ⟨_, _, _, _, _, rfl, trivial, .inl ⟨rfl, .inl rfl⟩, rfl, rfl⟩
end Go.Proofs.Ytacebpbhddkelaa
