/- Functions of the program: plain Lean functions, and that the program computes them. Printed by gen.py. -/
import Derived.Test.YtcgohoclbjgmkaaFnT
import Derived.Test.YtcgohoclbjgmkaaFn1
import Derived.Test.YtcgohoclbjgmkaaFn3
import Derived.Test.YtcgohoclbjgmkaaFn5
namespace Go.Proofs.Ytcgohoclbjgmkaa
open Go.Abs Go.Proofs
set_option linter.unusedSimpArgs false
set_option linter.unusedVariables false
set_option maxHeartbeats 16000000
attribute [local irreducible] Abs.acode Abs.aops Abs.aopsT Abs.thenK Abs.blockK

def impl_field_isSkew_c : ACode := (.seq (.region 0 [q 2 (.box 88 (t 0)), q 3 (.box 45 (t 1)), q 4 (.asg 0 (.const (.bool false)) 4)] false) (.seq (.region 1 [q 5 (.slice 45 (t 3) none none none), q 6 (.load 88 (t 2)), ⟨some 7, .mkfn 74 [(t 6)] [], none, [1]⟩, ⟨some 8, .call 0 (.func 119) [(t 5), (t 7)], none, [0, 2]⟩, ⟨some 4, .asg 0 (t 8) 4, none, [3, 3, 0, 1, 2, 3]⟩] true) .ret))
def impl_field_isSkew_L : Live := [(0, [0, 1]), (1, [2, 3])]
noncomputable def impl_field_isSkew (a0 : (Int × (List Int))) (a1 : (Vec (Vec Int 64) 8)) : Option Bool :=
  (Option.bind (impl_areAll_impl_Poly_of_impl_field_isResidue a1.1 a0) fun r5 => (some r5))
theorem impl_field_isSkew_ok (a0 : (Int × (List Int))) (a1 : (Vec (Vec Int 64) 8)) (r : Bool) (h : impl_field_isSkew a0 a1 = some r) : Den Try.prog 72 [(eT_i64_Si64_Z a0), (eA8A64u8 a1)] { r := (.bool r) } := by
  refine den_of (rs := [(.bool r)]) (ac := impl_field_isSkew_c) (L := impl_field_isSkew_L) (n := 9) (m := []) (c := Try.f72.body.getD .skip) good Try.func72 (by kernel_rfl) (by kernel_rfl) Try.ntmps72 rfl rfl (by kernel_rfl) rfl rfl ?_
  refine a_st (σ' := ⟨[(0, (eT_i64_Si64_Z a0)), (1, (eA8A64u8 a1))], []⟩) (by kernel_rfl) ?_
  unfold impl_field_isSkew_c
  refine sr (vo 1200 (eT_i64_Si64_Z a0) rfl rfl (vo 1300 (eA8A64u8 a1) rfl rfl (vp (.bool false) rfl (nx ⟨[(2, (ow 2)), (3, (ow 3))], [(2, (bk (eT_i64_Si64_Z a0))), (3, (bk (eA8A64u8 a1)))]⟩ (by kernel_rfl) (a_seq (a_draw [⟨[3], [3], [], []⟩, ⟨[2], [], [], []⟩, ⟨[], [], [], [1]⟩, ⟨[], [], [], [0, 1, 2]⟩, ⟨[], [], [], [0, 1, 2, 3]⟩] (by kernel_rfl) (d_cons (vu (.sl 64 true (a1.1.map eA64u8)) [(3, (bf (eA8A64u8 a1)))] rfl ⟨rfl, trivial, rfl, rfl⟩ rfl (d_next (by kernel_rfl) ?_)))))))))
  refine d_cons (vl (eT_i64_Si64_Z a0) rfl rfl rfl rfl rfl rfl (d_next (by kernel_rfl) (dp (.clo 74 [(eT_i64_Si64_Z a0)] []) rfl (by kernel_rfl) (d_cons ?_))))
  obtain ⟨r5, hr6, h⟩ := bind_some h
  refine a_call (args := [(.sl 64 true (a1.1.map eA64u8)), (.clo 74 [(eT_i64_Si64_Z a0)] [])]) (u := []) (r := (.bool r5)) rfl rfl (Den.args (impl_areAll_impl_Poly_of_impl_field_isResidue_ok a1.1 a0 r5 hr6) rfl rfl (.cons (.loose _) (.cons (.refl _) .nil))) rfl (d_next (by kernel_rfl) (dp (.bool r5) rfl (by kernel_rfl) (d_nil (a_next rfl (a_ret ?_)))))
  refine ⟨.inr rfl, ?_⟩
  rw [Try.results72]
  cases h
  exact ⟨_, _, _, _, _, rfl, trivial, .inl ⟨rfl, .inl rfl⟩, rfl, rfl⟩
def impl_areAll_impl_Skew__c1_of_p_isSkew_c : ACode := (.seq (.region 0 [q 2 (.box 45 (t 0)), q 3 (.asg 0 (.const (.bool false)) 4)] false) (.seq (.region 1 [q 4 (.load 90 (t 1)), q 5 (.load 45 (t 2)), q 6 (.call 0 (t 4) [(t 5)]), q 7 (.un .not (t 6)), q 3 (.asg 0 (t 7) 4)] false) .ret))
def impl_areAll_impl_Skew__c1_of_p_isSkew_L : Live := [(0, [0, 1]), (1, [1, 2])]
noncomputable def impl_areAll_impl_Skew__c1_of_p_isSkew (a0 : (Vec (Vec Int 64) 8)) (a1f0 : (Int × (List Int))) : Option Bool :=
  (Option.bind (impl_field_isSkew a1f0 a0) fun r3 => (some (!r3)))
theorem impl_areAll_impl_Skew__c1_of_p_isSkew_ok (a0 : (Vec (Vec Int 64) 8)) (a1f0 : (Int × (List Int))) (r : Bool) (h : impl_areAll_impl_Skew__c1_of_p_isSkew a0 a1f0 = some r) : Den Try.prog 149 [(eA8A64u8 a0), (.ref (.clo 72 [(eT_i64_Si64_Z a1f0)] []) [] [])] { r := (.bool r) } := by
  refine den_of (rs := [(.bool r)]) (ac := impl_areAll_impl_Skew__c1_of_p_isSkew_c) (L := impl_areAll_impl_Skew__c1_of_p_isSkew_L) (n := 8) (m := []) (c := Try.f149.body.getD .skip) good Try.func149 (by kernel_rfl) (by kernel_rfl) Try.ntmps149 rfl rfl (by kernel_rfl) rfl rfl ?_
  refine a_st (σ' := ⟨[(0, (eA8A64u8 a0)), (1, (.ref (.clo 72 [(eT_i64_Si64_Z a1f0)] []) [] []))], []⟩) (by kernel_rfl) ?_
  unfold impl_areAll_impl_Skew__c1_of_p_isSkew_c
  refine sr (vo 1200 (eA8A64u8 a0) rfl rfl (vp (.bool false) rfl (nx ⟨[(1, (.ref (.clo 72 [(eT_i64_Si64_Z a1f0)] []) [] [])), (2, (ow 2))], [(2, (bk (eA8A64u8 a0)))]⟩ (by kernel_rfl) (sr ?_))))
  have hl1 : LdOk [] (.clo 72 [(eT_i64_Si64_Z a1f0)] []) [] 1 false (.clo 72 [(eT_i64_Si64_Z a1f0)] []) := (.nil rfl rfl rfl)
  refine vq (.clo 72 [(eT_i64_Si64_Z a1f0)] []) (ld_ref (i := ⟨.other, 1, 8, (.raw .nilFunc)⟩) rfl rfl hl1) hl1.c (vl (eA8A64u8 a0) rfl rfl rfl rfl rfl rfl ?_)
  obtain ⟨r3, hr4, h⟩ := bind_some h
  refine a_call (args := [(eT_i64_Si64_Z a1f0), (eA8A64u8 a0)]) (u := []) (r := (.bool r3)) rfl rfl (impl_field_isSkew_ok a1f0 a0 r3 hr4) rfl (vp (.bool (!r3)) rfl (vp (.bool (!r3)) rfl (nx _ rfl (a_ret ?_))))
  refine ⟨.inr rfl, ?_⟩
  rw [Try.results149]
  cases h
  exact ⟨_, _, _, _, _, rfl, trivial, .inl ⟨rfl, .inl rfl⟩, rfl, rfl⟩
def slices_IndexFunc_impl_Skew_impl_Skew_of_impl_areAll_impl_Skew__c1_p_isSkew_c : ACode := (.seq (.region 0 [q 4 (.asg 0 (.const (.int .i64 0)) 3)] false) (.seq (.seq (.region 1 [q 6 (.mov (t 0)), q 7 (.blt 0 .len [(t 6)] [125]), q 8 (.mov (.const (.int .i64 0)))] false) (.block 0 (.loop (.seq (.region 2 [q 9 (.bin .lss 3 (t 8) (t 7))] false) (.seq (.cond (t 9) .skip (.exit 0)) (.seq (.block 1 (.seq (.region 3 [q 10 (.mov (t 8)), q 5 (.asg 0 (t 10) 3)] false) (.seq (.region 4 [q 11 (.mov (t 1)), q 12 (.mov (t 0)), q 13 (.mov (t 5)), q 14 (.indexAddr 125 (t 12) (t 13)), q 15 (.load 45 (t 14)), q 16 (.call 0 (t 11) [(t 15)])] false) (.cond (t 16) (.seq (.region 5 [q 17 (.mov (t 5)), q 4 (.asg 0 (t 17) 3)] false) .ret) .skip)))) (.region 6 [q 18 (.bin .add 3 (t 8) (.const (.int .i64 1))), q 8 (.mov (t 18))] false))))))) (.seq (.region 7 [q 4 (.asg 0 (.const (.int .i64 (-1))) 3)] false) .ret)))
def slices_IndexFunc_impl_Skew_impl_Skew_of_impl_areAll_impl_Skew__c1_p_isSkew_L : Live := [(0, [0, 1]), (1, [0, 1]), (2, [0, 1, 7, 8]), (3, [0, 1, 7, 8]), (4, [0, 1, 5, 7, 8]), (5, [5]), (6, [0, 1, 7, 8]), (7, []), (100009, [0, 1, 7, 8, 9]), (100016, [0, 1, 5, 7, 8, 16])]
noncomputable def slices_IndexFunc_impl_Skew_impl_Skew_of_impl_areAll_impl_Skew__c1_p_isSkew_l1 (a0 : (List (Vec (Vec Int 64) 8))) (a1c0f0 : (Int × (List Int))) (x33 : Int) : Option (Int ⊕ (Unit ⊕ Int)) :=
  (if (decide (x33 < (a0.length : Int))) then (ifp (0 ≤ x33 ∧ x33 < ((a0.length : Nat) : Int)) ((Option.bind (impl_areAll_impl_Skew__c1_of_p_isSkew (rd a0 x33.toNat) a1c0f0) fun r46 => (if r46 then (some (.inr (.inr x33))) else (some (.inl (IntKind.i64.wrap (x33 + 1)))))))) else (some (.inr (((.inl ()))))))
noncomputable def slices_IndexFunc_impl_Skew_impl_Skew_of_impl_areAll_impl_Skew__c1_p_isSkew (a0 : (List (Vec (Vec Int 64) 8))) (a1c0f0 : (Int × (List Int))) : Option Int :=
  (Option.bind (α := (Unit ⊕ Int)) ((loopM (fun s : Int => slices_IndexFunc_impl_Skew_impl_Skew_of_impl_areAll_impl_Skew__c1_p_isSkew_l1 a0 a1c0f0 s) 0)) fun z => match z with | .inl _ => (some (-1)) | .inr r50 => (some r50))
theorem slices_IndexFunc_impl_Skew_impl_Skew_of_impl_areAll_impl_Skew__c1_p_isSkew_ok (a0 : (List (Vec (Vec Int 64) 8))) (a1c0f0 : (Int × (List Int))) (r : Int) (h : slices_IndexFunc_impl_Skew_impl_Skew_of_impl_areAll_impl_Skew__c1_p_isSkew a0 a1c0f0 = some r) : Den Try.prog 168 [(eSA8A64u8 a0), (.clo 149 [] [(.ref (.clo 72 [(eT_i64_Si64_Z a1c0f0)] []) [] [])])] { r := (i6 r) } := by
  refine den_of (rs := [(i6 r)]) (ac := slices_IndexFunc_impl_Skew_impl_Skew_of_impl_areAll_impl_Skew__c1_p_isSkew_c) (L := slices_IndexFunc_impl_Skew_impl_Skew_of_impl_areAll_impl_Skew__c1_p_isSkew_L) (n := 19) (m := []) (c := Try.f168.body.getD .skip) good Try.func168 (by kernel_rfl) (by kernel_rfl) Try.ntmps168 rfl rfl (by kernel_rfl) rfl rfl ?_
  refine a_st (σ' := ⟨[(0, (eSA8A64u8 a0)), (1, (.clo 149 [] [(.ref (.clo 72 [(eT_i64_Si64_Z a1c0f0)] []) [] [])]))], []⟩) (by kernel_rfl) ?_
  unfold slices_IndexFunc_impl_Skew_impl_Skew_of_impl_areAll_impl_Skew__c1_p_isSkew_c
  refine sr (vp (i6 0) rfl (nx ⟨[(0, (eSA8A64u8 a0)), (1, (.clo 149 [] [(.ref (.clo 72 [(eT_i64_Si64_Z a1c0f0)] []) [] [])]))], []⟩ (by kernel_rfl) ?_))
  obtain ⟨y24, hy25, hk26⟩ := bind_some h
  clear h
  refine a_join (emb := fun (s : Unit) => ⟨[], []⟩) (pre := fun s => (.inl s) = y24) ?_ ?_
  · rintro _ rfl
    have h := hk26
    refine a_st (σ' := ⟨[], []⟩) (by kernel_rfl) (sr (vp (i6 (-1)) rfl (nx _ rfl (a_ret ?_))))
    refine ⟨.inr rfl, ?_⟩
    rw [Try.results168]
    cases h
    exact ⟨_, _, _, _, _, rfl, trivial, .inl ⟨rfl, .inl rfl⟩, rfl, rfl⟩
  · have h := hy25
    refine sr (vp (eSA8A64u8 a0) rfl (vq (i6 (a0.length : Int)) (len_run rfl rfl) trivial (vp (i6 0) rfl (nx ⟨[(0, (eSA8A64u8 a0)), (1, (.clo 149 [] [(.ref (.clo 72 [(eT_i64_Si64_Z a1c0f0)] []) [] [])])), (7, (i6 (a0.length : Int))), (8, (i6 0))], []⟩ (by kernel_rfl) (a_block ?_)))))
    refine a_loop (emb := fun (s : Int) => ⟨[(0, (eSA8A64u8 a0)), (1, (.clo 149 [] [(.ref (.clo 72 [(eT_i64_Si64_Z a1c0f0)] []) [] [])])), (7, (i6 (a0.length : Int))), (8, (i6 s))], []⟩) (body := (fun s : Int => slices_IndexFunc_impl_Skew_impl_Skew_of_impl_areAll_impl_Skew__c1_p_isSkew_l1 a0 a1c0f0 s)) (G := fun q => some q = some y24) h rfl ?_ (by kernel_rfl)
    rintro X40 x33 x41 h hX42
    have h : slices_IndexFunc_impl_Skew_impl_Skew_of_impl_areAll_impl_Skew__c1_p_isSkew_l1 a0 a1c0f0 x33 = some x41 := h
    refine a_st (σ' := ⟨[(0, (eSA8A64u8 a0)), (1, (.clo 149 [] [(.ref (.clo 72 [(eT_i64_Si64_Z a1c0f0)] []) [] [])])), (7, (i6 (a0.length : Int))), (8, (i6 x33))], []⟩) (by kernel_rfl) (sr (vp (.bool ((decide (x33 < (a0.length : Int))))) rfl (nx ⟨[(0, (eSA8A64u8 a0)), (1, (.clo 149 [] [(.ref (.clo 72 [(eT_i64_Si64_Z a1c0f0)] []) [] [])])), (7, (i6 (a0.length : Int))), (8, (i6 x33)), (9, (.bool ((decide (x33 < (a0.length : Int))))))], []⟩ (by kernel_rfl) (a_seq ?_))))
    cases hb43 : (decide (x33 < (a0.length : Int)))
    · have h := ite_f hb43 h
      refine a_cond_f rfl (a_exit (t_exit ?_))
      cases h
      have h := hX42
      refine t_exit (b_exit ?_)
      exact j_leaf () (Option.some.inj h) (by kernel_rfl)
    · have h := ite_t hb43 h
      refine a_cond_t rfl (a_skip (a_next (σ' := ⟨[(0, (eSA8A64u8 a0)), (1, (.clo 149 [] [(.ref (.clo 72 [(eT_i64_Si64_Z a1c0f0)] []) [] [])])), (7, (i6 (a0.length : Int))), (8, (i6 x33))], []⟩) (by kernel_rfl) (a_seq (a_block (sr (vp (i6 x33) rfl (vp (i6 x33) rfl (nx ⟨[(0, (eSA8A64u8 a0)), (1, (.clo 149 [] [(.ref (.clo 72 [(eT_i64_Si64_Z a1c0f0)] []) [] [])])), (5, (i6 x33)), (7, (i6 (a0.length : Int))), (8, (i6 x33))], []⟩ (by kernel_rfl) (sr ?_)))))))))
      refine vp (.clo 149 [] [(.ref (.clo 72 [(eT_i64_Si64_Z a1c0f0)] []) [] [])]) rfl (vp (eSA8A64u8 a0) rfl (vp (i6 x33) rfl ?_))
      obtain ⟨hc44, h⟩ := ifp_some h
      refine vq (.ref (.row 512 (a0.map eA8A64u8)) [x33.toNat] [x33.toNat * 512]) rfl (lmap hc44) ?_
      have hl45 : LdOk [x33.toNat] (.row 512 (a0.map eA8A64u8)) [x33.toNat * 512] 512 true (eA8A64u8 (rd a0 x33.toNat)) := (.row (llt hc44) rfl (.nil rfl rfl rfl))
      refine vq (eA8A64u8 (rd a0 x33.toNat)) (ld_ref (i := ⟨.arr 8 24, 512, 512, (eA8A64u8 (vrep 8 (vrep 64 (0 : Int))))⟩) rfl rfl hl45) hl45.c ?_
      obtain ⟨r46, hr47, h⟩ := bind_some h
      refine a_call (args := [(eA8A64u8 (rd a0 x33.toNat)), (.ref (.clo 72 [(eT_i64_Si64_Z a1c0f0)] []) [] [])]) (u := []) (r := (.bool r46)) rfl rfl (impl_areAll_impl_Skew__c1_of_p_isSkew_ok (rd a0 x33.toNat) a1c0f0 r46 hr47) rfl (nx ⟨[(0, (eSA8A64u8 a0)), (1, (.clo 149 [] [(.ref (.clo 72 [(eT_i64_Si64_Z a1c0f0)] []) [] [])])), (5, (i6 x33)), (7, (i6 (a0.length : Int))), (8, (i6 x33)), (16, (.bool r46))], []⟩ (by kernel_rfl) ?_)
      cases hb48 : r46
      · have h := ite_f hb48 h
        refine a_cond_f rfl (a_skip (b_norm (a_next (σ' := ⟨[(0, (eSA8A64u8 a0)), (1, (.clo 149 [] [(.ref (.clo 72 [(eT_i64_Si64_Z a1c0f0)] []) [] [])])), (7, (i6 (a0.length : Int))), (8, (i6 x33))], []⟩) (by kernel_rfl) (a_region (vp (i6 (IntKind.i64.wrap (x33 + 1))) rfl (vp (i6 (IntKind.i64.wrap (x33 + 1))) rfl (a_nil ?_)))))))
        cases h
        exact a_again (by kernel_rfl) hX42
      · have h := ite_t hb48 h
        refine a_cond_t rfl (sr (vp (i6 x33) rfl (vp (i6 x33) rfl (nx _ rfl (a_ret (b_ret (t_ret ?_)))))))
        cases h
        have h := hX42
        refine t_ret (b_ret (t_ret ?_))
        cases h
        have h := hk26
        refine ⟨.inr rfl, ?_⟩
        rw [Try.results168]
        cases h
        exact ⟨_, _, _, _, _, rfl, trivial, .inl ⟨rfl, .inl rfl⟩, rfl, rfl⟩
def slices_ContainsFunc_impl_Skew_impl_Skew_of_impl_areAll_impl_Skew__c1_p_isSkew_c : ACode := (.seq (.region 0 [q 4 (.asg 0 (.const (.bool false)) 4)] false) (.seq (.region 1 [q 5 (.mov (t 0)), q 6 (.mov (t 1)), q 7 (.call 0 (.func 168) [(t 5), (t 6)]), q 8 (.bin .geq 3 (t 7) (.const (.int .i64 0))), q 4 (.asg 0 (t 8) 4)] false) .ret))
def slices_ContainsFunc_impl_Skew_impl_Skew_of_impl_areAll_impl_Skew__c1_p_isSkew_L : Live := [(0, [0, 1]), (1, [0, 1])]
noncomputable def slices_ContainsFunc_impl_Skew_impl_Skew_of_impl_areAll_impl_Skew__c1_p_isSkew (a0 : (List (Vec (Vec Int 64) 8))) (a1c0f0 : (Int × (List Int))) : Option Bool :=
  (Option.bind (slices_IndexFunc_impl_Skew_impl_Skew_of_impl_areAll_impl_Skew__c1_p_isSkew a0 a1c0f0) fun r1 => (some ((decide (r1 ≥ 0)))))
theorem slices_ContainsFunc_impl_Skew_impl_Skew_of_impl_areAll_impl_Skew__c1_p_isSkew_ok (a0 : (List (Vec (Vec Int 64) 8))) (a1c0f0 : (Int × (List Int))) (r : Bool) (h : slices_ContainsFunc_impl_Skew_impl_Skew_of_impl_areAll_impl_Skew__c1_p_isSkew a0 a1c0f0 = some r) : Den Try.prog 148 [(eSA8A64u8 a0), (.clo 149 [] [(.ref (.clo 72 [(eT_i64_Si64_Z a1c0f0)] []) [] [])])] { r := (.bool r) } := by
  refine den_of (rs := [(.bool r)]) (ac := slices_ContainsFunc_impl_Skew_impl_Skew_of_impl_areAll_impl_Skew__c1_p_isSkew_c) (L := slices_ContainsFunc_impl_Skew_impl_Skew_of_impl_areAll_impl_Skew__c1_p_isSkew_L) (n := 9) (m := []) (c := Try.f148.body.getD .skip) good Try.func148 (by kernel_rfl) (by kernel_rfl) Try.ntmps148 rfl rfl (by kernel_rfl) rfl rfl ?_
  refine a_st (σ' := ⟨[(0, (eSA8A64u8 a0)), (1, (.clo 149 [] [(.ref (.clo 72 [(eT_i64_Si64_Z a1c0f0)] []) [] [])]))], []⟩) (by kernel_rfl) ?_
  unfold slices_ContainsFunc_impl_Skew_impl_Skew_of_impl_areAll_impl_Skew__c1_p_isSkew_c
  refine sr (vp (.bool false) rfl (nx ⟨[(0, (eSA8A64u8 a0)), (1, (.clo 149 [] [(.ref (.clo 72 [(eT_i64_Si64_Z a1c0f0)] []) [] [])]))], []⟩ (by kernel_rfl) (sr (vp (eSA8A64u8 a0) rfl (vp (.clo 149 [] [(.ref (.clo 72 [(eT_i64_Si64_Z a1c0f0)] []) [] [])]) rfl ?_)))))
  obtain ⟨r1, hr2, h⟩ := bind_some h
  refine a_call (args := [(eSA8A64u8 a0), (.clo 149 [] [(.ref (.clo 72 [(eT_i64_Si64_Z a1c0f0)] []) [] [])])]) (u := []) (r := (i6 r1)) rfl rfl (slices_IndexFunc_impl_Skew_impl_Skew_of_impl_areAll_impl_Skew__c1_p_isSkew_ok a0 a1c0f0 r1 hr2) rfl (vp (.bool ((decide (r1 ≥ 0)))) rfl (vp (.bool ((decide (r1 ≥ 0)))) rfl (nx _ rfl (a_ret ?_))))
  refine ⟨.inr rfl, ?_⟩
  rw [Try.results148]
  cases h
  exact ⟨_, _, _, _, _, rfl, trivial, .inl ⟨rfl, .inl rfl⟩, rfl, rfl⟩
def impl_areAll_impl_Skew_of_impl_field_isSkew_c : ACode := (.seq (.region 0 [q 3 (.box 90 (t 1)), q 4 (.asg 0 (.const (.bool false)) 4)] false) (.seq (.region 1 [q 5 (.mov (t 0)), q 6 (.mkfn 149 [] [(t 3)]), q 7 (.call 0 (.func 148) [(t 5), (t 6)]), q 8 (.un .not (t 7)), q 4 (.asg 0 (t 8) 4)] false) .ret))
def impl_areAll_impl_Skew_of_impl_field_isSkew_L : Live := [(0, [0, 1]), (1, [0, 3])]
noncomputable def impl_areAll_impl_Skew_of_impl_field_isSkew (a0 : (List (Vec (Vec Int 64) 8))) (a1f0 : (Int × (List Int))) : Option Bool :=
  (Option.bind (slices_ContainsFunc_impl_Skew_impl_Skew_of_impl_areAll_impl_Skew__c1_p_isSkew a0 a1f0) fun r1 => (some (!r1)))
theorem impl_areAll_impl_Skew_of_impl_field_isSkew_ok (a0 : (List (Vec (Vec Int 64) 8))) (a1f0 : (Int × (List Int))) (r : Bool) (h : impl_areAll_impl_Skew_of_impl_field_isSkew a0 a1f0 = some r) : Den Try.prog 121 [(eSA8A64u8 a0), (.clo 72 [(eT_i64_Si64_Z a1f0)] [])] { r := (.bool r) } := by
  refine den_of (rs := [(.bool r)]) (ac := impl_areAll_impl_Skew_of_impl_field_isSkew_c) (L := impl_areAll_impl_Skew_of_impl_field_isSkew_L) (n := 9) (m := []) (c := Try.f121.body.getD .skip) good Try.func121 (by kernel_rfl) (by kernel_rfl) Try.ntmps121 rfl rfl (by kernel_rfl) rfl rfl ?_
  refine a_st (σ' := ⟨[(0, (eSA8A64u8 a0)), (1, (.clo 72 [(eT_i64_Si64_Z a1f0)] []))], []⟩) (by kernel_rfl) ?_
  unfold impl_areAll_impl_Skew_of_impl_field_isSkew_c
  refine sr (vo 1300 (.clo 72 [(eT_i64_Si64_Z a1f0)] []) rfl rfl (vp (.bool false) rfl (nx ⟨[(0, (eSA8A64u8 a0)), (3, (ow 3))], [(3, (bk (.clo 72 [(eT_i64_Si64_Z a1f0)] [])))]⟩ (by kernel_rfl) (sr (vp (eSA8A64u8 a0) rfl (vu (.clo 149 [] [(.ref (.clo 72 [(eT_i64_Si64_Z a1f0)] []) [] [])]) [(3, (bf (.clo 72 [(eT_i64_Si64_Z a1f0)] [])))] rfl trivial rfl ?_))))))
  obtain ⟨r1, hr2, h⟩ := bind_some h
  refine a_call (args := [(eSA8A64u8 a0), (.clo 149 [] [(.ref (.clo 72 [(eT_i64_Si64_Z a1f0)] []) [] [])])]) (u := []) (r := (.bool r1)) rfl rfl (slices_ContainsFunc_impl_Skew_impl_Skew_of_impl_areAll_impl_Skew__c1_p_isSkew_ok a0 a1f0 r1 hr2) rfl (vp (.bool (!r1)) rfl (vp (.bool (!r1)) rfl (nx _ rfl (a_ret ?_))))
  refine ⟨.inr rfl, ?_⟩
  rw [Try.results121]
  cases h
  exact ⟨_, _, _, _, _, rfl, trivial, .inl ⟨rfl, .inl rfl⟩, rfl, rfl⟩
def impl_skewsCode_c : ACode := (.seq (.region 0 [q 4 (.box 24 (t 1)), q 6 (.asg 0 (.const (.int .i64 0)) 2)] false) (.seq (.seq (.region 1 [q 7 (.mov (t 0)), q 8 (.load 24 (t 4)), q 9 (.call 0 (.func 46) [(t 7), (t 8)]), q 10 (.un .not (t 9)), q 11 (.mov (t 10)), ⟨some 12, .mov (t 2), some (11, false), []⟩, ⟨some 13, .mov (t 0), some (11, false), []⟩, ⟨some 14, .load 24 (t 4), some (11, false), []⟩, ⟨some 15, .call 0 (.func 71) [(t 13), (t 14)], some (11, false), []⟩, ⟨some 16, .mkfn 72 [(t 15)] [], some (11, false), []⟩, ⟨some 17, .call 0 (.func 121) [(t 12), (t 16)], some (11, false), []⟩, ⟨some 18, .un .not (t 17), some (11, false), []⟩, q 19 (.pick (t 11) (.const (.bool true)) (t 18))] false) (.cond (t 19) (.seq (.region 2 [q 6 (.asg 0 (.const (.int .i64 1)) 2)] false) .ret) .skip)) (.seq (.region 3 [q 6 (.asg 0 (.const (.int .i64 0)) 2)] false) .ret)))
def impl_skewsCode_L : Live := [(0, [0, 1, 2]), (1, [0, 2, 4]), (2, []), (3, []), (100019, [19])]
noncomputable def impl_skewsCode (a0 : Int) (a1 : (Vec Int 64)) (a2 : (List (Vec (Vec Int 64) 8))) : Option Int :=
  (Option.bind (α := Bool) ((Option.bind (impl_isField a0 a1) fun r15 => (if (!r15) then (some true) else (Option.bind (impl_fieldOf a0 a1) fun r19 => (Option.bind (impl_areAll_impl_Skew_of_impl_field_isSkew a2 r19) fun r21 => (some (!r21))))))) fun x10 => (if x10 then (some 1) else (some 0)))
theorem impl_skewsCode_ok (a0 : Int) (a1 : (Vec Int 64)) (a2 : (List (Vec (Vec Int 64) 8))) (r : Int) (h : impl_skewsCode a0 a1 a2 = some r) : Den Try.prog 77 [(i6 a0), (eA64u8 a1), (eSA8A64u8 a2)] { r := (i6 r) } := by
  refine den_of (rs := [(i6 r)]) (ac := impl_skewsCode_c) (L := impl_skewsCode_L) (n := 20) (m := []) (c := Try.f77.body.getD .skip) good Try.func77 (by kernel_rfl) (by kernel_rfl) Try.ntmps77 rfl rfl (by kernel_rfl) rfl rfl ?_
  refine a_st (σ' := ⟨[(0, (i6 a0)), (1, (eA64u8 a1)), (2, (eSA8A64u8 a2))], []⟩) (by kernel_rfl) ?_
  unfold impl_skewsCode_c
  refine sr (vo 1400 (eA64u8 a1) rfl rfl (vp (i6 0) rfl (nx ⟨[(0, (i6 a0)), (2, (eSA8A64u8 a2)), (4, (ow 4))], [(4, (bk (eA64u8 a1)))]⟩ (by kernel_rfl) (a_seq ?_))))
  obtain ⟨y11, hy12, hk13⟩ := bind_some h
  clear h
  refine a_join (emb := fun (s : Bool) => ⟨[(19, (.bool s))], []⟩) (pre := fun s => s = y11) ?_ ?_
  · rintro x10 rfl
    have h := hk13
    refine a_st (σ' := ⟨[(19, (.bool x10))], []⟩) (by kernel_rfl) ?_
    cases hb23 : x10
    · have h := ite_f hb23 h
      refine a_cond_f rfl (a_skip (a_next (σ' := ⟨[], []⟩) (by kernel_rfl) (sr (vp (i6 0) rfl (nx _ rfl (a_ret ?_))))))
      refine ⟨.inr rfl, ?_⟩
      rw [Try.results77]
      cases h
      exact ⟨_, _, _, _, _, rfl, trivial, .inl ⟨rfl, .inl rfl⟩, rfl, rfl⟩
    · have h := ite_t hb23 h
      refine a_cond_t rfl (sr (vp (i6 1) rfl (nx _ rfl (a_ret (t_ret ?_)))))
      refine ⟨.inr rfl, ?_⟩
      rw [Try.results77]
      cases h
      exact ⟨_, _, _, _, _, rfl, trivial, .inl ⟨rfl, .inl rfl⟩, rfl, rfl⟩
  · have h := hy12
    refine a_region (vp (i6 a0) rfl (vl (eA64u8 a1) rfl rfl rfl rfl rfl rfl ?_))
    obtain ⟨r15, hr16, h⟩ := bind_some h
    refine a_call (args := [(i6 a0), (eA64u8 a1)]) (u := []) (r := (.bool r15)) rfl rfl (impl_isField_ok a0 a1 r15 hr16) rfl (vp (.bool (!r15)) rfl (vp (.bool (!r15)) rfl ?_))
    cases hb17 : (!r15)
    · have h := ite_f hb17 h
      refine gp (eSA8A64u8 a2) rfl rfl (gp (i6 a0) rfl rfl ?_)
      have hl18 : LdOk [] (eA64u8 a1) [] 64 true (eA64u8 a1) := (.nil rfl rfl rfl)
      refine gq (eA64u8 a1) rfl (ld_own (i := ⟨.arr 64 5, 64, 64, (eA64u8 (vrep 64 (0 : Int)))⟩) rfl rfl rfl hl18) hl18.c ?_
      obtain ⟨r19, hr20, h⟩ := bind_some h
      refine a_gcall rfl (args := [(i6 a0), (eA64u8 a1)]) (u := []) (r := (eT_i64_Si64_Z r19)) rfl rfl (impl_fieldOf_ok a0 a1 r19 hr20) rfl (gp (.clo 72 [(eT_i64_Si64_Z r19)] []) rfl rfl ?_)
      obtain ⟨r21, hr22, h⟩ := bind_some h
      refine a_gcall rfl (args := [(eSA8A64u8 a2), (.clo 72 [(eT_i64_Si64_Z r19)] [])]) (u := []) (r := (.bool r21)) rfl rfl (impl_areAll_impl_Skew_of_impl_field_isSkew_ok a2 r19 r21 hr22) rfl (gp (.bool (!r21)) rfl rfl (vp (.bool (!r21)) rfl (a_nil ?_)))
      exact j_leaf (!r21) (Option.some.inj h) (by kernel_rfl)
    · have h := ite_t hb17 h
      refine a_gskip rfl (a_gskip rfl (a_gskip rfl (a_gskip rfl (a_gskip rfl (a_gskip rfl (a_gskip rfl (vp (.bool true) rfl (a_nil ?_))))))))
      exact j_leaf true (Option.some.inj h) (by kernel_rfl)
def impl_skew_trimmed_c : ACode := (.seq (.region 0 [q 2 (.asg 1 (.const (.slice none 0 0)) 93)] false) (.seq (.region 1 [q 4 (.mov (t 0)), q 5 (.blt 0 .len [(t 4)] [93]), q 3 (.asg 0 (t 5) 3)] false) (.seq (.block 0 (.loop (.seq (.seq (.region 2 [q 6 (.mov (t 3)), q 7 (.bin .gtr 3 (t 6) (.const (.int .i64 0))), q 8 (.mov (t 7)), ⟨some 9, .mov (t 0), some (8, true), []⟩, ⟨some 10, .mov (t 3), some (8, true), []⟩, ⟨some 11, .bin .sub 3 (t 10) (.const (.int .i64 1)), some (8, true), []⟩, ⟨some 12, .indexAddr 93 (t 9) (t 11), some (8, true), []⟩, ⟨some 13, .load 65 (t 12), some (8, true), []⟩, ⟨some 14, .blt 0 .len [(t 13)] [65], some (8, true), []⟩, ⟨some 15, .bin .eql 3 (t 14) (.const (.int .i64 0)), some (8, true), []⟩, q 16 (.pick (t 8) (t 15) (.const (.bool false)))] false) (.cond (t 16) .skip (.exit 0))) (.block 1 (.region 3 [q 17 (.mov (t 3)), q 18 (.bin .sub 3 (t 17) (.const (.int .i64 1))), q 3 (.asg 0 (t 18) 3)] false))))) (.seq (.region 4 [q 19 (.mov (t 0)), q 20 (.mov (t 3)), q 21 (.mov (t 3)), q 22 (.slice 93 (t 19) none (some (t 20)) (some (t 21))), q 2 (.asg 1 (t 22) 93)] false) .ret))))
def impl_skew_trimmed_L : Live := [(0, [0]), (1, [0]), (2, [0, 3]), (3, [0, 3]), (4, [0, 3]), (100016, [0, 3, 16])]
noncomputable def impl_skew_trimmed_l1 (a0 : (List (List Int))) (x70 : Int) : Option (Int ⊕ Int) :=
  (Option.bind (α := Bool) ((if (decide (x70 > 0)) then (ifp (0 ≤ IntKind.i64.wrap (x70 - 1) ∧ IntKind.i64.wrap (x70 - 1) < ((a0.length : Nat) : Int)) ((letp ((((((rd a0 (IntKind.i64.wrap (x70 - 1)).toNat)).length : Int)) == 0)) fun x101 => (some x101)))) else (some false))) fun x94 => (if x94 then (some (.inl (IntKind.i64.wrap (x70 - 1)))) else (some (.inr x70))))
noncomputable def impl_skew_trimmed (a0 : (List (List Int))) : Option (List (List Int)) :=
  (Option.bind (α := Int) ((loopM (fun s : Int => impl_skew_trimmed_l1 a0 s) (a0.length : Int))) fun x51 => (ifp (0 ≤ x51 ∧ x51 ≤ (a0.length : Int)) ((some (a0.take x51.toNat)))))
theorem impl_skew_trimmed_ok (a0 : (List (List Int))) (r : (List (List Int))) (h : impl_skew_trimmed a0 = some r) : Den Try.prog 122 [(eSSi64 a0)] { r := (eSSi64 r) } := by
  refine den_of (rs := [(eSSi64 r)]) (ac := impl_skew_trimmed_c) (L := impl_skew_trimmed_L) (n := 23) (m := [(2, 1)]) (c := Try.f122.body.getD .skip) good Try.func122 (by kernel_rfl) (by kernel_rfl) Try.ntmps122 rfl rfl (by kernel_rfl) rfl rfl ?_
  refine a_st (σ' := ⟨[(0, (eSSi64 a0))], []⟩) (by kernel_rfl) ?_
  unfold impl_skew_trimmed_c
  refine sr (vp (eSSi64 ([])) rfl (nx ⟨[(0, (eSSi64 a0))], []⟩ (by kernel_rfl) (sr (vp (eSSi64 a0) rfl (vq (i6 (a0.length : Int)) (len_run rfl rfl) trivial (vp (i6 (a0.length : Int)) rfl (nx ⟨[(0, (eSSi64 a0)), (3, (i6 (a0.length : Int)))], []⟩ (by kernel_rfl) ?_)))))))
  obtain ⟨y52, hy53, hk54⟩ := bind_some h
  clear h
  refine a_join (emb := fun (s : Int) => ⟨[(0, (eSSi64 a0)), (3, (i6 s))], []⟩) (pre := fun s => s = y52) ?_ ?_
  · rintro x51 rfl
    have h := hk54
    refine a_st (σ' := ⟨[(0, (eSSi64 a0)), (3, (i6 x51))], []⟩) (by kernel_rfl) (sr (vp (eSSi64 a0) rfl (vp (i6 x51) rfl (vp (i6 x51) rfl ?_))))
    obtain ⟨hc105, h⟩ := ifp_some h
    refine vq (.sl 1 true ((a0.take x51.toNat).map eSi64)) (take3_run (f := eSi64) (l := a0) (i := ⟨.slice 2, 1, 24, (eSi64 [])⟩) rfl rfl rfl rfl (fun _ => rfl)) ⟨hc105.1, lmap_le hc105.2, rfl⟩ (vq (eSSi64 (a0.take x51.toNat)) (asg_tight (i := ⟨.slice 2, 1, 24, (eSi64 [])⟩) (f := eSi64) (l := (a0.take x51.toNat)) rfl rfl rfl) trivial (nx _ rfl (a_ret ?_)))
    refine ⟨.inr rfl, ?_⟩
    rw [Try.results122]
    cases h
    exact ⟨_, _, _, _, _, rfl, trivial, .inl ⟨rfl, .inl rfl⟩, rfl, rfl⟩
  · have h := hy53
    refine a_block ?_
    refine a_loop (emb := fun (s : Int) => ⟨[(0, (eSSi64 a0)), (3, (i6 s))], []⟩) (body := (fun s : Int => impl_skew_trimmed_l1 a0 s)) (G := fun q => some q = some y52) h rfl ?_ (by kernel_rfl)
    rintro X86 x70 x87 h hX88
    have h : impl_skew_trimmed_l1 a0 x70 = some x87 := h
    refine a_st (σ' := ⟨[(0, (eSSi64 a0)), (3, (i6 x70))], []⟩) (by kernel_rfl) (a_seq ?_)
    obtain ⟨y95, hy96, hk97⟩ := bind_some h
    clear h
    refine a_join (emb := fun (s : Bool) => ⟨[(0, (eSSi64 a0)), (3, (i6 x70)), (16, (.bool s))], []⟩) (pre := fun s => s = y95) ?_ ?_
    · rintro x94 rfl
      have h := hk97
      refine a_st (σ' := ⟨[(0, (eSSi64 a0)), (3, (i6 x70)), (16, (.bool x94))], []⟩) (by kernel_rfl) ?_
      cases hb103 : x94
      · have h := ite_f hb103 h
        refine a_cond_f rfl (a_exit (t_exit ?_))
        cases h
        have h := hX88
        refine t_exit (b_exit ?_)
        exact j_leaf x70 (Option.some.inj h) (by kernel_rfl)
      · have h := ite_t hb103 h
        refine a_cond_t rfl (a_skip (a_next (σ' := ⟨[(0, (eSSi64 a0)), (3, (i6 x70))], []⟩) (by kernel_rfl) (a_block (a_region (vp (i6 x70) rfl (vp (i6 (IntKind.i64.wrap (x70 - 1))) rfl (vp (i6 (IntKind.i64.wrap (x70 - 1))) rfl (a_nil (b_norm ?_)))))))))
        cases h
        exact a_again (by kernel_rfl) hX88
    · have h := hy96
      refine a_region (vp (i6 x70) rfl (vp (.bool ((decide (x70 > 0)))) rfl (vp (.bool ((decide (x70 > 0)))) rfl ?_)))
      cases hb98 : (decide (x70 > 0))
      · have h := ite_f hb98 h
        refine a_gskip rfl (a_gskip rfl (a_gskip rfl (a_gskip rfl (a_gskip rfl (a_gskip rfl (a_gskip rfl (vp (.bool false) rfl (a_nil ?_))))))))
        exact j_leaf false (Option.some.inj h) (by kernel_rfl)
      · have h := ite_t hb98 h
        refine gp (eSSi64 a0) rfl rfl (gp (i6 x70) rfl rfl (gp (i6 (IntKind.i64.wrap (x70 - 1))) rfl rfl ?_))
        obtain ⟨hc99, h⟩ := ifp_some h
        refine gq (.ref (.row 1 (a0.map eSi64)) [(IntKind.i64.wrap (x70 - 1)).toNat] [(IntKind.i64.wrap (x70 - 1)).toNat * 1]) rfl rfl (lmap hc99) ?_
        have hl100 : LdOk [(IntKind.i64.wrap (x70 - 1)).toNat] (.row 1 (a0.map eSi64)) [(IntKind.i64.wrap (x70 - 1)).toNat * 1] 1 false (eSi64 ((rd a0 (IntKind.i64.wrap (x70 - 1)).toNat))) := (.row (llt hc99) rfl (.nil rfl rfl rfl))
        refine gq (eSi64 ((rd a0 (IntKind.i64.wrap (x70 - 1)).toNat))) rfl (ld_ref (i := ⟨.slice 2, 1, 24, (eSi64 [])⟩) rfl rfl hl100) hl100.c (gq (i6 ((((rd a0 (IntKind.i64.wrap (x70 - 1)).toNat)).length : Int))) rfl (len_run rfl rfl) trivial ?_)
        obtain ⟨x101, hx102, h⟩ := letp_some h
        refine a_gval' rfl (v := (.bool ((((((rd a0 (IntKind.i64.wrap (x70 - 1)).toNat)).length : Int)) == 0)))) (v' := (.bool x101)) (u := []) (u' := []) rfl (congrArg (fun z => ((.bool z) : AV)) hx102) rfl trivial rfl (vp (.bool x101) rfl (a_nil ?_))
        exact j_leaf x101 (Option.some.inj h) (by kernel_rfl)
def impl_skewOf_c : ACode := (.seq (.region 0 [q 1 (.box 45 (t 0)), q 2 (.asg 1 (.const (.slice none 0 0)) 93)] false) (.seq (.region 1 [q 3 (.asg 2 (.const (.slice none 0 0)) 93)] false) (.seq (.seq (.region 2 [q 6 (.load 45 (t 1)), q 7 (.mov (.const (.int .i64 0)))] false) (.block 0 (.loop (.seq (.region 3 [q 8 (.bin .lss 3 (t 7) (.const (.int .i64 8)))] false) (.seq (.cond (t 8) .skip (.exit 0)) (.seq (.block 1 (.seq (.region 4 [q 9 (.index 45 (t 6) (t 7)), q 5 (.alloc 24), ⟨none, .store 24 (t 5) (t 9), none, []⟩] false) (.region 5 [q 10 (.mov (t 3)), q 11 (.load 24 (t 5)), q 12 (.call 0 (.func 52) [(t 11)]), q 13 (.bslice 0 93 1 [(0, (t 12))]), q 14 (.blt 0 .append [(t 10), (t 13)] [93, 93]), q 3 (.asg 2 (t 14) 93)] false))) (.region 6 [q 15 (.bin .add 3 (t 7) (.const (.int .i64 1))), q 7 (.mov (t 15))] false))))))) (.seq (.region 7 [q 16 (.mov (t 3)), q 17 (.call 0 (.func 122) [(t 16)]), q 2 (.asg 1 (t 17) 93)] false) .ret))))
def impl_skewOf_L : Live := [(0, [0]), (1, [1]), (2, [1, 3]), (3, [3, 6, 7]), (4, [3, 6, 7]), (5, [3, 5, 6, 7]), (6, [3, 6, 7]), (7, [3]), (100008, [3, 6, 7, 8])]
noncomputable def impl_skewOf_l1 (a0 : (Vec (Vec Int 64) 8)) (x41 : Int) (x42 : (List (List Int))) : Option ((Int × (List (List Int))) ⊕ (List (List Int))) :=
  (if (decide (x41 < 8)) then (ifp (0 ≤ x41 ∧ x41 < ((8 : Nat) : Int)) ((Option.bind (impl_rowOf (rd a0.1 x41.toNat)) fun r57 => (ifp ((x42.length + ([r57] : List (List Int)).length) * 24 ≤ 140737488355328) ((some (.inl ((IntKind.i64.wrap (x41 + 1), (x42 ++ ([r57]))))))))))) else (some (.inr x42)))
noncomputable def impl_skewOf (a0 : (Vec (Vec Int 64) 8)) : Option (List (List Int)) :=
  (Option.bind (α := (List (List Int))) ((loopM (fun s : (Int × (List (List Int))) => impl_skewOf_l1 a0 s.1 s.2) (0, []))) fun x29 => (Option.bind (impl_skew_trimmed x29) fun r61 => (some r61)))
theorem impl_skewOf_ok (a0 : (Vec (Vec Int 64) 8)) (r : (List (List Int))) (h : impl_skewOf a0 = some r) : Den Try.prog 78 [(eA8A64u8 a0)] { r := (eSSi64 r) } := by
  refine den_of (rs := [(eSSi64 r)]) (ac := impl_skewOf_c) (L := impl_skewOf_L) (n := 18) (m := [(2, 1), (3, 2)]) (c := Try.f78.body.getD .skip) good Try.func78 (by kernel_rfl) (by kernel_rfl) Try.ntmps78 rfl rfl (by kernel_rfl) rfl rfl ?_
  refine a_st (σ' := ⟨[(0, (eA8A64u8 a0))], []⟩) (by kernel_rfl) ?_
  unfold impl_skewOf_c
  refine sr (vo 1100 (eA8A64u8 a0) rfl rfl (vp (eSSi64 ([])) rfl (nx ⟨[(1, (ow 1))], [(1, (bk (eA8A64u8 a0)))]⟩ (by kernel_rfl) (sr (vu (.osl 1300) [(1300, (bk (.row 1 (([]).map eSi64))))] rfl trivial rfl (nx ⟨[(1, (ow 1)), (3, (.osl 3))], [(1, (bk (eA8A64u8 a0))), (3, (bk (.row 1 (([]).map eSi64))))]⟩ (by kernel_rfl) ?_))))))
  obtain ⟨y30, hy31, hk32⟩ := bind_some h
  clear h
  refine a_join (emb := fun (s : (List (List Int))) => ⟨[(3, (.osl 3))], [(3, (bk (.row 1 (s.map eSi64))))]⟩) (pre := fun s => s = y30) ?_ ?_
  · rintro x29 rfl
    have h := hk32
    refine a_st (σ' := ⟨[(3, (.osl 3))], [(3, (bk (.row 1 (x29.map eSi64))))]⟩) (by kernel_rfl) (sr (vp (.osl 3) rfl ?_))
    obtain ⟨r61, hr62, h⟩ := bind_some h
    refine a_call (args := [(eSSi64 x29)]) (u := [(3, (bf (.row 1 (x29.map eSi64))))]) (r := (eSSi64 r61)) rfl rfl (impl_skew_trimmed_ok x29 r61 hr62) rfl (vp (eSSi64 r61) rfl (nx _ rfl (a_ret ?_)))
    refine ⟨.inr rfl, ?_⟩
    rw [Try.results78]
    cases h
    exact ⟨_, _, _, _, _, rfl, trivial, .inl ⟨rfl, .inl rfl⟩, rfl, rfl⟩
  · have h := hy31
    refine sr (vl (eA8A64u8 a0) rfl rfl rfl rfl rfl rfl (vp (i6 0) rfl (nx ⟨[(3, (.osl 3)), (6, (eA8A64u8 a0)), (7, (i6 0))], [(3, (bk (.row 1 (([]).map eSi64))))]⟩ (by kernel_rfl) (a_block ?_))))
    refine a_loop (emb := fun (s : (Int × (List (List Int)))) => ⟨[(3, (.osl 3)), (6, (eA8A64u8 a0)), (7, (i6 s.1))], [(3, (bk (.row 1 (s.2.map eSi64))))]⟩) (body := (fun s : (Int × (List (List Int))) => impl_skewOf_l1 a0 s.1 s.2)) (G := fun q => some q = some y30) h rfl ?_ (by kernel_rfl)
    rintro X50 ⟨x41, x42⟩ x51 h hX52
    have h : impl_skewOf_l1 a0 x41 x42 = some x51 := h
    refine a_st (σ' := ⟨[(3, (.osl 3)), (6, (eA8A64u8 a0)), (7, (i6 x41))], [(3, (bk (.row 1 (x42.map eSi64))))]⟩) (by kernel_rfl) (sr (vp (.bool ((decide (x41 < 8)))) rfl (nx ⟨[(3, (.osl 3)), (6, (eA8A64u8 a0)), (7, (i6 x41)), (8, (.bool ((decide (x41 < 8)))))], [(3, (bk (.row 1 (x42.map eSi64))))]⟩ (by kernel_rfl) (a_seq ?_))))
    cases hb53 : (decide (x41 < 8))
    · have h := ite_f hb53 h
      refine a_cond_f rfl (a_exit (t_exit ?_))
      cases h
      have h := hX52
      refine t_exit (b_exit ?_)
      exact j_leaf x42 (Option.some.inj h) (by kernel_rfl)
    · have h := ite_t hb53 h
      refine a_cond_t rfl (a_skip (a_next (σ' := ⟨[(3, (.osl 3)), (6, (eA8A64u8 a0)), (7, (i6 x41))], [(3, (bk (.row 1 (x42.map eSi64))))]⟩) (by kernel_rfl) (a_seq (a_block (sr ?_)))))
      obtain ⟨hc54, h⟩ := ifp_some h
      refine vq (eA64u8 (rd a0.1 x41.toNat)) (ix_run (i := ⟨.arr 64 5, 64, 64, (eA64u8 (vrep 64 (0 : Int)))⟩) (f := eA64u8) rfl rfl rfl rfl (vlt a0 hc54)) ⟨hc54.1, hc54.2, rfl, rfl, rfl, rfl⟩ (vo 1500 (eA64u8 ((vrep 64 (0 : Int)))) rfl rfl (vs (eA64u8 (rd a0.1 x41.toNat)) rfl rfl (fun _ => rfl) rfl rfl rfl rfl rfl rfl (nx ⟨[(3, (.osl 3)), (5, (ow 5)), (6, (eA8A64u8 a0)), (7, (i6 x41))], [(3, (bk (.row 1 (x42.map eSi64)))), (5, (bk (eA64u8 (rd a0.1 x41.toNat))))]⟩ (by kernel_rfl) (a_region (vp (.osl 3) rfl (vl (eA64u8 (rd a0.1 x41.toNat)) rfl rfl rfl rfl rfl rfl ?_))))))
      obtain ⟨r57, hr58, h⟩ := bind_some h
      refine a_call (args := [(eA64u8 (rd a0.1 x41.toNat))]) (u := []) (r := (eSi64 r57)) rfl rfl (impl_rowOf_ok (rd a0.1 x41.toNat) r57 hr58) rfl (vq (.sl 1 true (([r57]).map eSi64)) rfl ⟨(Nat.le_of_ble_eq_true rfl), (Nat.le_of_ble_eq_true rfl), (all_cons ⟨(Nat.le_of_ble_eq_true rfl), rfl⟩ all_nil)⟩ ?_)
      obtain ⟨hc59, h⟩ := ifp_some h
      refine vu (.osl 2400) [(2400, (bk (.row 1 (((x42 ++ ([r57]))).map eSi64)))), (3, none)] (app_run (i := ⟨.slice 2, 1, 24, (eSi64 [])⟩) (f := eSi64) (l := x42) (l2 := [r57]) rfl rfl rfl rfl (fun _ => rfl) rfl rfl) (app_c (f := eSi64) (s := 1) (sz := 1) (by' := 24) (u := []) (id := 3) hc59 (.inr rfl) rfl rfl rfl) rfl (vp (.osl 2400) rfl (a_nil (b_norm (a_next (σ' := ⟨[(3, (.osl 3)), (6, (eA8A64u8 a0)), (7, (i6 x41))], [(3, (bk (.row 1 (((x42 ++ ([r57]))).map eSi64))))]⟩) (by kernel_rfl) (a_region (vp (i6 (IntKind.i64.wrap (x41 + 1))) rfl (vp (i6 (IntKind.i64.wrap (x41 + 1))) rfl (a_nil ?_))))))))
      cases h
      exact a_again (by kernel_rfl) hX52
def impl_skew_degree_c : ACode := (.seq (.region 0 [q 2 (.asg 0 (.const (.int .i64 0)) 2)] false) (.seq (.region 1 [q 3 (.mov (t 0)), q 4 (.blt 0 .len [(t 3)] [93]), q 5 (.bin .sub 2 (t 4) (.const (.int .i64 1))), q 2 (.asg 0 (t 5) 2)] false) .ret))
def impl_skew_degree_L : Live := [(0, [0]), (1, [0])]
noncomputable def impl_skew_degree (a0 : (List (List Int))) : Option Int :=
  (some (IntKind.i64.wrap ((a0.length : Int) - 1)))
theorem impl_skew_degree_ok (a0 : (List (List Int))) (r : Int) (h : impl_skew_degree a0 = some r) : Den Try.prog 79 [(eSSi64 a0)] { r := (i6 r) } := by
  refine den_of (rs := [(i6 r)]) (ac := impl_skew_degree_c) (L := impl_skew_degree_L) (n := 6) (m := []) (c := Try.f79.body.getD .skip) good Try.func79 (by kernel_rfl) (by kernel_rfl) Try.ntmps79 rfl rfl (by kernel_rfl) rfl rfl ?_
  refine a_st (σ' := ⟨[(0, (eSSi64 a0))], []⟩) (by kernel_rfl) ?_
  unfold impl_skew_degree_c
  refine sr (vp (i6 0) rfl (nx ⟨[(0, (eSSi64 a0))], []⟩ (by kernel_rfl) (sr (vp (eSSi64 a0) rfl (vq (i6 (a0.length : Int)) (len_run rfl rfl) trivial (vp (i6 (IntKind.i64.wrap ((a0.length : Int) - 1))) rfl (vp (i6 (IntKind.i64.wrap ((a0.length : Int) - 1))) rfl (nx _ rfl (a_ret ?_)))))))))
  refine ⟨.inr rfl, ?_⟩
  rw [Try.results79]
  cases h
  exact ⟨_, _, _, _, _, rfl, trivial, .inl ⟨rfl, .inl rfl⟩, rfl, rfl⟩
def impl_SkewDegree_c : ACode := (.seq (.region 0 [q 4 (.box 24 (t 1)), q 5 (.box 45 (t 2)), q 6 (.asg 0 (.const (.int .i64 0)) 2), q 7 (.asg 0 (.const (.int .i64 0)) 2)] false) (.seq (.seq (.region 1 [q 9 (.mov (t 0)), q 10 (.load 24 (t 4)), q 11 (.load 45 (t 5)), q 12 (.bslice 0 125 1 [(0, (t 11))]), q 13 (.call 0 (.func 77) [(t 9), (t 10), (t 12)]), q 8 (.asg 0 (t 13) 2)] false) (.seq (.region 2 [q 14 (.mov (t 8)), q 15 (.bin .neq 2 (t 14) (.const (.int .i64 0)))] false) (.cond (t 15) (.seq (.region 3 [q 16 (.mov (t 8)), q 6 (.asg 0 (.const (.int .i64 0)) 2), q 7 (.asg 0 (t 16) 2)] false) .ret) .skip))) (.seq (.region 4 [q 17 (.load 45 (t 5)), q 18 (.call 0 (.func 78) [(t 17)]), q 19 (.call 0 (.func 79) [(t 18)]), q 6 (.asg 0 (t 19) 2), q 7 (.asg 0 (.const (.int .i64 0)) 2)] false) .ret)))
def impl_SkewDegree_L : Live := [(0, [0, 1, 2]), (1, [0, 4, 5]), (2, [5, 8]), (3, [8]), (4, [5]), (100015, [5, 8, 15])]
noncomputable def impl_SkewDegree (a0 : Int) (a1 : (Vec Int 64)) (a2 : (Vec (Vec Int 64) 8)) : Option (Int × Int) :=
  (Option.bind (impl_skewsCode a0 a1 ([a2])) fun r3 => (if (r3 != 0) then (some (0, r3)) else (Option.bind (impl_skewOf a2) fun r7 => (Option.bind (impl_skew_degree r7) fun r9 => (some (r9, 0))))))
theorem impl_SkewDegree_ok (a0 : Int) (a1 : (Vec Int 64)) (a2 : (Vec (Vec Int 64) 8)) (r : (Int × Int)) (h : impl_SkewDegree a0 a1 a2 = some r) : Den Try.prog 40 [(i6 a0), (eA64u8 a1), (eA8A64u8 a2)] { r := (.tuple [(i6 r.1), (i6 r.2)]) } := by
  refine den_of (rs := [(i6 r.1), (i6 r.2)]) (ac := impl_SkewDegree_c) (L := impl_SkewDegree_L) (n := 20) (m := []) (c := Try.f40.body.getD .skip) good Try.func40 (by kernel_rfl) (by kernel_rfl) Try.ntmps40 rfl rfl (by kernel_rfl) rfl rfl ?_
  refine a_st (σ' := ⟨[(0, (i6 a0)), (1, (eA64u8 a1)), (2, (eA8A64u8 a2))], []⟩) (by kernel_rfl) ?_
  unfold impl_SkewDegree_c
  refine sr (vo 1400 (eA64u8 a1) rfl rfl (vo 1500 (eA8A64u8 a2) rfl rfl (vp (i6 0) rfl (vp (i6 0) rfl (nx ⟨[(0, (i6 a0)), (4, (ow 4)), (5, (ow 5))], [(4, (bk (eA64u8 a1))), (5, (bk (eA8A64u8 a2)))]⟩ (by kernel_rfl) (a_seq (sr (vp (i6 a0) rfl (vl (eA64u8 a1) rfl rfl rfl rfl rfl rfl ?_)))))))))
  refine vl (eA8A64u8 a2) rfl rfl rfl rfl rfl rfl (vq (.sl 512 true (([a2]).map eA8A64u8)) rfl ⟨(Nat.le_of_ble_eq_true rfl), (Nat.le_of_ble_eq_true rfl), (all_cons ⟨(Nat.le_of_ble_eq_true rfl), rfl⟩ all_nil)⟩ ?_)
  obtain ⟨r3, hr4, h⟩ := bind_some h
  refine a_call (args := [(i6 a0), (eA64u8 a1), (.sl 512 true (([a2]).map eA8A64u8))]) (u := []) (r := (i6 r3)) rfl rfl (Den.args (impl_skewsCode_ok a0 a1 ([a2]) r3 hr4) rfl rfl (.cons (.refl _) (.cons (.refl _) (.cons (.loose _) .nil)))) rfl (vp (i6 r3) rfl (nx ⟨[(5, (ow 5)), (8, (i6 r3))], [(5, (bk (eA8A64u8 a2)))]⟩ (by kernel_rfl) (sr (vp (i6 r3) rfl (vp (.bool (r3 != 0)) rfl (nx ⟨[(5, (ow 5)), (8, (i6 r3)), (15, (.bool (r3 != 0)))], [(5, (bk (eA8A64u8 a2)))]⟩ (by kernel_rfl) ?_))))))
  cases hb5 : (r3 != 0)
  · have h := ite_f hb5 h
    refine a_cond_f rfl (a_skip (a_next (σ' := ⟨[(5, (ow 5))], [(5, (bk (eA8A64u8 a2)))]⟩) (by kernel_rfl) (sr (vl (eA8A64u8 a2) rfl rfl rfl rfl rfl rfl ?_))))
    obtain ⟨r7, hr8, h⟩ := bind_some h
    refine a_call (args := [(eA8A64u8 a2)]) (u := []) (r := (eSSi64 r7)) rfl rfl (impl_skewOf_ok a2 r7 hr8) rfl ?_
    obtain ⟨r9, hr10, h⟩ := bind_some h
    refine a_call (args := [(eSSi64 r7)]) (u := []) (r := (i6 r9)) rfl rfl (impl_skew_degree_ok r7 r9 hr10) rfl (vp (i6 r9) rfl (vp (i6 0) rfl (nx _ rfl (a_ret ?_))))
    refine ⟨.inr rfl, ?_⟩
    rw [Try.results40]
    cases h
    exact ⟨_, _, _, _, _, rfl, trivial, .inl ⟨rfl, .inl rfl⟩, rfl, ⟨_, _, _, _, _, rfl, trivial, .inl ⟨rfl, .inl rfl⟩, rfl, rfl⟩⟩
  · have h := ite_t hb5 h
    refine a_cond_t rfl (sr (vp (i6 r3) rfl (vp (i6 0) rfl (vp (i6 r3) rfl (nx _ rfl (a_ret (t_ret ?_)))))))
    refine ⟨.inr rfl, ?_⟩
    rw [Try.results40]
    cases h
    exact ⟨_, _, _, _, _, rfl, trivial, .inl ⟨rfl, .inl rfl⟩, rfl, ⟨_, _, _, _, _, rfl, trivial, .inl ⟨rfl, .inl rfl⟩, rfl, rfl⟩⟩
def laws_FnExactSkewDegree_c : ACode := (.seq (.region 0 [q 4 (.box 22 (t 1)), q 5 (.box 42 (t 2)), q 6 (.asg 0 (.const (.bool false)) 4)] false) (.seq (.region 1 [q 12 (.mov (t 0)), q 13 (.load 22 (t 4)), ⟨some 14, .call 0 (.func 15) [(t 13)], none, [1]⟩, q 15 (.load 42 (t 5)), ⟨some 16, .call 0 (.func 34) [(t 15)], none, [3, 2]⟩, ⟨some 17, .call 0 (.func 39) [(t 12), (t 14), (t 16)], none, [0, 2, 4, 4]⟩, ⟨some 11, .mov (t 17), none, [5]⟩, ⟨some 18, .extract (t 11) 0, none, [6]⟩, ⟨some 19, .extract (t 11) 1, none, [6]⟩, ⟨some 7, .asg 0 (t 18) 2, none, [7, 5, 0, 1, 2, 3, 4, 5, 6, 7]⟩, ⟨some 8, .asg 0 (t 19) 2, none, [8, 9, 0, 1, 2, 3, 4, 5, 6, 7, 8, 9]⟩] true) (.seq (.region 2 [q 21 (.mov (t 0)), q 22 (.load 22 (t 4)), ⟨some 23, .call 0 (.func 15) [(t 22)], none, [1]⟩, q 24 (.load 42 (t 5)), ⟨some 25, .call 0 (.func 34) [(t 24)], none, [3, 2]⟩, ⟨some 26, .call 0 (.func 40) [(t 21), (t 23), (t 25)], none, [0, 2, 4, 4]⟩, ⟨some 20, .mov (t 26), none, [5]⟩, ⟨some 27, .extract (t 20) 0, none, [6]⟩, ⟨some 28, .extract (t 20) 1, none, [6]⟩, ⟨some 9, .asg 0 (t 27) 2, none, [7, 5, 0, 1, 2, 3, 4, 5, 6, 7]⟩, ⟨some 10, .asg 0 (t 28) 2, none, [8, 9, 0, 1, 2, 3, 4, 5, 6, 7, 8, 9]⟩] true) (.seq (.seq (.region 3 [q 29 (.mov (t 9)), q 30 (.mov (t 7)), q 31 (.bin .neq 2 (t 29) (t 30)), q 32 (.mov (t 31)), ⟨some 33, .mov (t 10), some (32, false), []⟩, ⟨some 34, .mov (t 8), some (32, false), []⟩, ⟨some 35, .bin .neq 2 (t 33) (t 34), some (32, false), []⟩, q 36 (.pick (t 32) (.const (.bool true)) (t 35))] false) (.cond (t 36) (.seq (.region 4 [q 6 (.asg 0 (.const (.bool false)) 4)] false) .ret) .skip)) (.seq (.region 5 [q 6 (.asg 0 (.const (.bool true)) 4)] false) .ret)))))
def laws_FnExactSkewDegree_L : Live := [(0, [0, 1, 2]), (1, [0, 4, 5]), (2, [0, 4, 5, 7, 8]), (3, [7, 8, 9, 10]), (4, []), (5, []), (100036, [36])]
noncomputable def laws_FnExactSkewDegree (a0 : Int) (a1 : (Vec Int 64)) (a2 : (Vec (Vec Int 64) 8)) : Option Bool :=
  (Option.bind (laws_toPoly a1) fun r10 => (Option.bind (laws_toSkew a2) fun r13 => (Option.bind (spec_SkewDegree a0 r10 r13) fun r15 => (Option.bind (laws_toPoly a1) fun r26 => (Option.bind (laws_toSkew a2) fun r29 => (Option.bind (impl_SkewDegree a0 r26 r29) fun r31 => (Option.bind (α := Bool) ((if (r31.1 != r15.1) then (some true) else (some (r31.2 != r15.2)))) fun x34 => (if x34 then (some false) else (some true)))))))))
theorem laws_FnExactSkewDegree_ok (a0 : Int) (a1 : (Vec Int 64)) (a2 : (Vec (Vec Int 64) 8)) (r : Bool) (h : laws_FnExactSkewDegree a0 a1 a2 = some r) : Den Try.prog 11 [(i6 a0), (eA64u8 a1), (eA8A64u8 a2)] { r := (.bool r) } := by
  refine den_of (rs := [(.bool r)]) (ac := laws_FnExactSkewDegree_c) (L := laws_FnExactSkewDegree_L) (n := 37) (m := []) (c := Try.f11.body.getD .skip) good Try.func11 (by kernel_rfl) (by kernel_rfl) Try.ntmps11 rfl rfl (by kernel_rfl) rfl rfl ?_
  refine a_st (σ' := ⟨[(0, (i6 a0)), (1, (eA64u8 a1)), (2, (eA8A64u8 a2))], []⟩) (by kernel_rfl) ?_
  unfold laws_FnExactSkewDegree_c
  refine sr (vo 1400 (eA64u8 a1) rfl rfl (vo 1500 (eA8A64u8 a2) rfl rfl (vp (.bool false) rfl (nx ⟨[(0, (i6 a0)), (4, (ow 4)), (5, (ow 5))], [(4, (bk (eA64u8 a1))), (5, (bk (eA8A64u8 a2)))]⟩ (by kernel_rfl) (a_seq (a_draw [⟨[], [], [], []⟩, ⟨[4], [], [], []⟩, ⟨[], [], [], [1]⟩, ⟨[5], [], [], []⟩, ⟨[], [], [], [1, 2, 3]⟩, ⟨[], [], [], [0, 1, 2, 3, 4]⟩, ⟨[], [], [], [0, 1, 2, 3, 4, 5]⟩, ⟨[], [], [], [0, 1, 2, 3, 4, 5, 6]⟩, ⟨[], [], [], [0, 1, 2, 3, 4, 5, 6]⟩, ⟨[], [], [], [0, 1, 2, 3, 4, 5, 6, 7]⟩, ⟨[], [], [], [0, 1, 2, 3, 4, 5, 6, 7, 8, 9]⟩] (by kernel_rfl) (dp (i6 a0) rfl (by kernel_rfl) (d_cons (vl (eA64u8 a1) rfl rfl rfl rfl rfl rfl ?_)))))))))
  refine d_next (by kernel_rfl) (d_cons ?_)
  obtain ⟨r10, hr11, h⟩ := bind_some h
  refine a_call (args := [(eA64u8 a1)]) (u := []) (r := (eA64u8 r10)) rfl rfl (laws_toPoly_ok a1 r10 hr11) rfl (d_next (by kernel_rfl) (d_cons (vl (eA8A64u8 a2) rfl rfl rfl rfl rfl rfl (d_next (by kernel_rfl) (d_cons ?_)))))
  obtain ⟨r13, hr14, h⟩ := bind_some h
  refine a_call (args := [(eA8A64u8 a2)]) (u := []) (r := (eA8A64u8 r13)) rfl rfl (laws_toSkew_ok a2 r13 hr14) rfl (d_next (by kernel_rfl) (d_cons ?_))
  obtain ⟨r15, hr16, h⟩ := bind_some h
  refine a_call (args := [(i6 a0), (eA64u8 r10), (eA8A64u8 r13)]) (u := []) (r := (.tuple [(i6 r15.1), (i6 r15.2)])) rfl rfl (spec_SkewDegree_ok a0 r10 r13 r15 hr16) rfl (d_next (by kernel_rfl) (dp (.tuple [(i6 r15.1), (i6 r15.2)]) rfl (by kernel_rfl) (d_cons (vb (i6 r15.1) rfl rfl (d_next (by kernel_rfl) (d_cons (vb (i6 r15.2) rfl rfl (d_next (by kernel_rfl) (dp (i6 r15.1) rfl (by kernel_rfl) ?_)))))))))
  refine dp (i6 r15.2) rfl (by kernel_rfl) (d_nil (a_next (σ' := ⟨[(0, (i6 a0)), (4, (ow 4)), (5, (ow 5)), (7, (i6 r15.1)), (8, (i6 r15.2))], [(4, (bk (eA64u8 a1))), (5, (bk (eA8A64u8 a2)))]⟩) (by kernel_rfl) (a_seq (a_draw [⟨[], [], [], []⟩, ⟨[4], [], [], []⟩, ⟨[], [], [], [1]⟩, ⟨[5], [], [], []⟩, ⟨[], [], [], [1, 2, 3]⟩, ⟨[], [], [], [0, 1, 2, 3, 4]⟩, ⟨[], [], [], [0, 1, 2, 3, 4, 5]⟩, ⟨[], [], [], [0, 1, 2, 3, 4, 5, 6]⟩, ⟨[], [], [], [0, 1, 2, 3, 4, 5, 6]⟩, ⟨[], [], [], [0, 1, 2, 3, 4, 5, 6, 7]⟩, ⟨[], [], [], [0, 1, 2, 3, 4, 5, 6, 7, 8, 9]⟩] (by kernel_rfl) (dp (i6 a0) rfl (by kernel_rfl) (d_cons (vl (eA64u8 a1) rfl rfl rfl rfl rfl rfl (d_next (by kernel_rfl) (d_cons ?_)))))))))
  obtain ⟨r26, hr27, h⟩ := bind_some h
  refine a_call (args := [(eA64u8 a1)]) (u := []) (r := (eA64u8 r26)) rfl rfl (laws_toPoly_ok a1 r26 hr27) rfl (d_next (by kernel_rfl) (d_cons (vl (eA8A64u8 a2) rfl rfl rfl rfl rfl rfl (d_next (by kernel_rfl) (d_cons ?_)))))
  obtain ⟨r29, hr30, h⟩ := bind_some h
  refine a_call (args := [(eA8A64u8 a2)]) (u := []) (r := (eA8A64u8 r29)) rfl rfl (laws_toSkew_ok a2 r29 hr30) rfl (d_next (by kernel_rfl) (d_cons ?_))
  obtain ⟨r31, hr32, h⟩ := bind_some h
  refine a_call (args := [(i6 a0), (eA64u8 r26), (eA8A64u8 r29)]) (u := []) (r := (.tuple [(i6 r31.1), (i6 r31.2)])) rfl rfl (impl_SkewDegree_ok a0 r26 r29 r31 hr32) rfl (d_next (by kernel_rfl) (dp (.tuple [(i6 r31.1), (i6 r31.2)]) rfl (by kernel_rfl) (d_cons (vb (i6 r31.1) rfl rfl (d_next (by kernel_rfl) (d_cons (vb (i6 r31.2) rfl rfl (d_next (by kernel_rfl) (dp (i6 r31.1) rfl (by kernel_rfl) ?_)))))))))
  refine dp (i6 r31.2) rfl (by kernel_rfl) (d_nil (a_next (σ' := ⟨[(7, (i6 r15.1)), (8, (i6 r15.2)), (9, (i6 r31.1)), (10, (i6 r31.2))], []⟩) (by kernel_rfl) (a_seq ?_)))
  obtain ⟨y35, hy36, hk37⟩ := bind_some h
  clear h
  refine a_join (emb := fun (s : Bool) => ⟨[(36, (.bool s))], []⟩) (pre := fun s => s = y35) ?_ ?_
  · rintro x34 rfl
    have h := hk37
    refine a_st (σ' := ⟨[(36, (.bool x34))], []⟩) (by kernel_rfl) ?_
    cases hb39 : x34
    · have h := ite_f hb39 h
      refine a_cond_f rfl (a_skip (a_next (σ' := ⟨[], []⟩) (by kernel_rfl) (sr (vp (.bool true) rfl (nx _ rfl (a_ret ?_))))))
      refine ⟨.inr rfl, ?_⟩
      rw [Try.results11]
      cases h
      exact ⟨_, _, _, _, _, rfl, trivial, .inl ⟨rfl, .inl rfl⟩, rfl, rfl⟩
    · have h := ite_t hb39 h
      refine a_cond_t rfl (sr (vp (.bool false) rfl (nx _ rfl (a_ret (t_ret ?_)))))
      refine ⟨.inr rfl, ?_⟩
      rw [Try.results11]
      cases h
      exact ⟨_, _, _, _, _, rfl, trivial, .inl ⟨rfl, .inl rfl⟩, rfl, rfl⟩
  · have h := hy36
    refine a_region (vp (i6 r31.1) rfl (vp (i6 r15.1) rfl (vp (.bool (r31.1 != r15.1)) rfl (vp (.bool (r31.1 != r15.1)) rfl ?_))))
    cases hb38 : (r31.1 != r15.1)
    · have h := ite_f hb38 h
      refine gp (i6 r31.2) rfl rfl (gp (i6 r15.2) rfl rfl (gp (.bool (r31.2 != r15.2)) rfl rfl (vp (.bool (r31.2 != r15.2)) rfl (a_nil ?_))))
      exact j_leaf (r31.2 != r15.2) (Option.some.inj h) (by kernel_rfl)
    · have h := ite_t hb38 h
      refine a_gskip rfl (a_gskip rfl (a_gskip rfl (vp (.bool true) rfl (a_nil ?_))))
      exact j_leaf true (Option.some.inj h) (by kernel_rfl)
def spec_l01Count_c : ACode := (.seq (.region 0 [q 4 (.asg 0 (.const (.int .i64 0)) 2)] false) (.seq (.region 1 [q 5 (.asg 0 (.const (.int .i64 1)) 2)] false) (.seq (.block 0 (.loop (.seq (.seq (.region 2 [q 6 (.mov (t 1)), q 7 (.bin .gtr 2 (t 6) (.const (.int .i64 0))), q 8 (.mov (t 7)), ⟨some 9, .mov (t 5), some (8, true), []⟩, ⟨some 10, .bin .leq 2 (t 9) (.const (.int .i64 1000000000000)), some (8, true), []⟩, q 11 (.pick (t 8) (t 10) (.const (.bool false)))] false) (.cond (t 11) .skip (.exit 0))) (.seq (.block 1 (.region 4 [q 14 (.mov (t 5)), q 15 (.mov (t 0)), q 16 (.bin .mul 2 (t 14) (t 15)), q 5 (.asg 0 (t 16) 2)] false)) (.region 3 [q 12 (.mov (t 1)), q 13 (.bin .sub 2 (t 12) (.const (.int .i64 1))), q 1 (.asg 0 (t 13) 2)] false))))) (.seq (.region 5 [q 17 (.mov (t 5)), q 18 (.blt 0 .min [(t 17), (.const (.int .i64 1000000000001))] [2, 2]), q 4 (.asg 0 (t 18) 2)] false) .ret))))
def spec_l01Count_L : Live := [(0, [0, 1]), (1, [0, 1]), (2, [0, 1, 5]), (3, [0, 1, 5]), (4, [0, 1, 5]), (5, [5]), (100011, [0, 1, 5, 11])]
noncomputable def spec_l01Count_l1 (a0 : Int) (x39 : Int) (x40 : Int) : Option ((Int × Int) ⊕ Int) :=
  (Option.bind (α := Bool) ((if (decide (x39 > 0)) then (some ((decide (x40 ≤ 1000000000000)))) else (some false))) fun x52 => (if x52 then (some (.inl ((IntKind.i64.wrap (x39 - 1), IntKind.i64.wrap (x40 * a0))))) else (some (.inr x40))))
noncomputable def spec_l01Count (a0 : Int) (a1 : Int) : Option Int :=
  (Option.bind (α := Int) ((loopM (fun s : (Int × Int) => spec_l01Count_l1 a0 s.1 s.2) (a1, 1))) fun x28 => (some (if 1000000000001 < x28 then 1000000000001 else x28)))
theorem spec_l01Count_ok (a0 : Int) (a1 : Int) (r : Int) (h : spec_l01Count a0 a1 = some r) : Den Try.prog 62 [(i6 a0), (i6 a1)] { r := (i6 r) } := by
  refine den_of (rs := [(i6 r)]) (ac := spec_l01Count_c) (L := spec_l01Count_L) (n := 19) (m := []) (c := Try.f62.body.getD .skip) good Try.func62 (by kernel_rfl) (by kernel_rfl) Try.ntmps62 rfl rfl (by kernel_rfl) rfl rfl ?_
  refine a_st (σ' := ⟨[(0, (i6 a0)), (1, (i6 a1))], []⟩) (by kernel_rfl) ?_
  unfold spec_l01Count_c
  refine sr (vp (i6 0) rfl (nx ⟨[(0, (i6 a0)), (1, (i6 a1))], []⟩ (by kernel_rfl) (sr (vp (i6 1) rfl (nx ⟨[(0, (i6 a0)), (1, (i6 a1)), (5, (i6 1))], []⟩ (by kernel_rfl) ?_)))))
  obtain ⟨y29, hy30, hk31⟩ := bind_some h
  clear h
  refine a_join (emb := fun (s : Int) => ⟨[(5, (i6 s))], []⟩) (pre := fun s => s = y29) ?_ ?_
  · rintro x28 rfl
    have h := hk31
    refine a_st (σ' := ⟨[(5, (i6 x28))], []⟩) (by kernel_rfl) (sr (vp (i6 x28) rfl (vp (i6 (if 1000000000001 < x28 then 1000000000001 else x28)) rfl (vp (i6 (if 1000000000001 < x28 then 1000000000001 else x28)) rfl (nx _ rfl (a_ret ?_))))))
    refine ⟨.inr rfl, ?_⟩
    rw [Try.results62]
    cases h
    exact ⟨_, _, _, _, _, rfl, trivial, .inl ⟨rfl, .inl rfl⟩, rfl, rfl⟩
  · have h := hy30
    refine a_block ?_
    refine a_loop (emb := fun (s : (Int × Int)) => ⟨[(0, (i6 a0)), (1, (i6 s.1)), (5, (i6 s.2))], []⟩) (body := (fun s : (Int × Int) => spec_l01Count_l1 a0 s.1 s.2)) (G := fun q => some q = some y29) h rfl ?_ (by kernel_rfl)
    rintro X48 ⟨x39, x40⟩ x49 h hX50
    have h : spec_l01Count_l1 a0 x39 x40 = some x49 := h
    refine a_st (σ' := ⟨[(0, (i6 a0)), (1, (i6 x39)), (5, (i6 x40))], []⟩) (by kernel_rfl) (a_seq ?_)
    obtain ⟨y53, hy54, hk55⟩ := bind_some h
    clear h
    refine a_join (emb := fun (s : Bool) => ⟨[(0, (i6 a0)), (1, (i6 x39)), (5, (i6 x40)), (11, (.bool s))], []⟩) (pre := fun s => s = y53) ?_ ?_
    · rintro x52 rfl
      have h := hk55
      refine a_st (σ' := ⟨[(0, (i6 a0)), (1, (i6 x39)), (5, (i6 x40)), (11, (.bool x52))], []⟩) (by kernel_rfl) ?_
      cases hb57 : x52
      · have h := ite_f hb57 h
        refine a_cond_f rfl (a_exit (t_exit ?_))
        cases h
        have h := hX50
        refine t_exit (b_exit ?_)
        exact j_leaf x40 (Option.some.inj h) (by kernel_rfl)
      · have h := ite_t hb57 h
        refine a_cond_t rfl (a_skip (a_next (σ' := ⟨[(0, (i6 a0)), (1, (i6 x39)), (5, (i6 x40))], []⟩) (by kernel_rfl) (a_seq (a_block (a_region (vp (i6 x40) rfl (vp (i6 a0) rfl (vp (i6 (IntKind.i64.wrap (x40 * a0))) rfl (vp (i6 (IntKind.i64.wrap (x40 * a0))) rfl ?_)))))))))
        refine a_nil (b_norm (a_next (σ' := ⟨[(0, (i6 a0)), (1, (i6 x39)), (5, (i6 (IntKind.i64.wrap (x40 * a0))))], []⟩) (by kernel_rfl) (a_region (vp (i6 x39) rfl (vp (i6 (IntKind.i64.wrap (x39 - 1))) rfl (vp (i6 (IntKind.i64.wrap (x39 - 1))) rfl (a_nil ?_)))))))
        cases h
        exact a_again (by kernel_rfl) hX50
    · have h := hy54
      refine a_region (vp (i6 x39) rfl (vp (.bool ((decide (x39 > 0)))) rfl (vp (.bool ((decide (x39 > 0)))) rfl ?_)))
      cases hb56 : (decide (x39 > 0))
      · have h := ite_f hb56 h
        refine a_gskip rfl (a_gskip rfl (vp (.bool false) rfl (a_nil ?_)))
        exact j_leaf false (Option.some.inj h) (by kernel_rfl)
      · have h := ite_t hb56 h
        refine gp (i6 x40) rfl rfl (gp (.bool ((decide (x40 ≤ 1000000000000)))) rfl rfl (vp (.bool ((decide (x40 ≤ 1000000000000)))) rfl (a_nil ?_)))
        exact j_leaf ((decide (x40 ≤ 1000000000000))) (Option.some.inj h) (by kernel_rfl)
def spec_l01Of_c : ACode := (.seq (.region 0 [q 4 (.alloc 24)] false) (.seq (.region 1 [q 7 (.build 24 []), q 5 (.alloc 24), ⟨none, .store 24 (t 5) (t 7), none, []⟩] false) (.seq (.seq (.region 2 [q 6 (.asg 0 (.const (.int .i64 0)) 3)] false) (.block 0 (.loop (.seq (.seq (.region 3 [q 8 (.mov (t 1)), q 9 (.bin .gtr 2 (t 8) (.const (.int .i64 0)))] false) (.cond (t 9) .skip (.exit 0))) (.seq (.block 1 (.seq (.region 5 [q 12 (.mov (t 6)), q 13 (.mov (t 1)), q 14 (.mov (t 0)), q 15 (.bin .rem 2 (t 13) (t 14)), q 16 (.conv 2 5 (t 15)), q 17 (.indexAddr 24 (t 5) (t 12)), ⟨none, .store 5 (t 17) (t 16), none, []⟩] false) (.region 6 [q 18 (.mov (t 1)), q 19 (.mov (t 0)), q 20 (.bin .quo 2 (t 18) (t 19)), q 1 (.asg 0 (t 20) 2)] false))) (.region 4 [q 10 (.mov (t 6)), q 11 (.bin .add 3 (t 10) (.const (.int .i64 1))), q 6 (.asg 0 (t 11) 3)] false)))))) (.seq (.region 7 [q 21 (.load 24 (t 5)), ⟨none, .store 24 (t 4) (t 21), none, []⟩] false) .ret))))
def spec_l01Of_L : Live := [(0, [0, 1]), (1, [0, 1, 4]), (2, [0, 1, 4, 5]), (3, [0, 1, 4, 5, 6]), (4, [0, 1, 4, 5, 6]), (5, [0, 1, 4, 5, 6]), (6, [0, 1, 4, 5, 6]), (7, [4, 5]), (100009, [0, 1, 4, 5, 6, 9])]
noncomputable def spec_l01Of_l1 (a0 : Int) (x33 : Int) (x34 : Int) (x35 : (Vec Int 64)) : Option ((Int × Int × (Vec Int 64)) ⊕ (Vec Int 64)) :=
  (if (decide (x33 > 0)) then (ifp (a0 ≠ 0) ((ifp (0 ≤ x34 ∧ x34 < ((64 : Nat) : Int)) ((ifp (a0 ≠ 0) ((some (.inl ((IntKind.i64.wrap (Int.tdiv x33 a0), IntKind.i64.wrap (x34 + 1), (vset x35 x34.toNat (IntKind.u8.wrap (Int.tmod x33 a0))))))))))))) else (some (.inr x35)))
noncomputable def spec_l01Of (a0 : Int) (a1 : Int) : Option (Vec Int 64) :=
  (Option.bind (α := (Vec Int 64)) ((loopM (fun s : (Int × Int × (Vec Int 64)) => spec_l01Of_l1 a0 s.1 s.2.1 s.2.2) (a1, 0, (vrep 64 (0 : Int))))) fun x24 => (some x24))
theorem spec_l01Of_ok (a0 : Int) (a1 : Int) (r : (Vec Int 64)) (h : spec_l01Of a0 a1 = some r) : Den Try.prog 63 [(i6 a0), (i6 a1)] { r := (eA64u8 r) } := by
  refine den_of (rs := [(eA64u8 r)]) (ac := spec_l01Of_c) (L := spec_l01Of_L) (n := 22) (m := []) (c := Try.f63.body.getD .skip) good Try.func63 (by kernel_rfl) (by kernel_rfl) Try.ntmps63 rfl rfl (by kernel_rfl) rfl rfl ?_
  refine a_st (σ' := ⟨[(0, (i6 a0)), (1, (i6 a1))], []⟩) (by kernel_rfl) ?_
  unfold spec_l01Of_c
  refine sr (vo 1400 (eA64u8 ((vrep 64 (0 : Int)))) rfl rfl (nx ⟨[(0, (i6 a0)), (1, (i6 a1)), (4, (ow 4))], [(4, (bk (eA64u8 ((vrep 64 (0 : Int))))))]⟩ (by kernel_rfl) (sr (vq (eA64u8 ((vrep 64 (0 : Int)))) rfl ⟨⟨_, rfl, rfl⟩, all_nil⟩ (vo 1500 (eA64u8 ((vrep 64 (0 : Int)))) rfl rfl (vs (eA64u8 ((vrep 64 (0 : Int)))) rfl rfl (fun _ => rfl) rfl rfl rfl rfl rfl rfl (nx ⟨[(0, (i6 a0)), (1, (i6 a1)), (4, (ow 4)), (5, (ow 5))], [(4, (bk (eA64u8 ((vrep 64 (0 : Int)))))), (5, (bk (eA64u8 ((vrep 64 (0 : Int))))))]⟩ (by kernel_rfl) ?_)))))))
  obtain ⟨y25, hy26, hk27⟩ := bind_some h
  clear h
  refine a_join (emb := fun (s : (Vec Int 64)) => ⟨[(4, (ow 4)), (5, (ow 5))], [(4, (bk (eA64u8 ((vrep 64 (0 : Int)))))), (5, (bk (eA64u8 s)))]⟩) (pre := fun s => s = y25) ?_ ?_
  · rintro x24 rfl
    have h := hk27
    refine a_st (σ' := ⟨[(4, (ow 4)), (5, (ow 5))], [(4, (bk (eA64u8 ((vrep 64 (0 : Int)))))), (5, (bk (eA64u8 x24)))]⟩) (by kernel_rfl) (sr (vl (eA64u8 x24) rfl rfl rfl rfl rfl rfl (vs (eA64u8 x24) rfl rfl (fun _ => rfl) rfl rfl rfl rfl rfl rfl (nx _ rfl (a_ret ?_)))))
    have hl52 : LdOk [] (eA64u8 x24) [] 64 true (eA64u8 x24) := (.nil rfl rfl rfl)
    refine ⟨.inr rfl, ?_⟩
    rw [Try.results63]
    cases h
    exact ⟨_, _, _, _, _, ld_own (i := ⟨.arr 64 5, 64, 64, (eA64u8 (vrep 64 (0 : Int)))⟩) rfl rfl rfl hl52, hl52.c, .inl ⟨rfl, .inl rfl⟩, rfl, rfl⟩
  · have h := hy26
    refine sr (vp (i6 0) rfl (nx ⟨[(0, (i6 a0)), (1, (i6 a1)), (4, (ow 4)), (5, (ow 5)), (6, (i6 0))], [(4, (bk (eA64u8 ((vrep 64 (0 : Int)))))), (5, (bk (eA64u8 ((vrep 64 (0 : Int))))))]⟩ (by kernel_rfl) (a_block ?_)))
    refine a_loop (emb := fun (s : (Int × Int × (Vec Int 64))) => ⟨[(0, (i6 a0)), (1, (i6 s.1)), (4, (ow 4)), (5, (ow 5)), (6, (i6 s.2.1))], [(4, (bk (eA64u8 ((vrep 64 (0 : Int)))))), (5, (bk (eA64u8 s.2.2)))]⟩) (body := (fun s : (Int × Int × (Vec Int 64)) => spec_l01Of_l1 a0 s.1 s.2.1 s.2.2)) (G := fun q => some q = some y25) h rfl ?_ (by kernel_rfl)
    rintro X41 ⟨x33, x34, x35⟩ x42 h hX43
    have h : spec_l01Of_l1 a0 x33 x34 x35 = some x42 := h
    refine a_st (σ' := ⟨[(0, (i6 a0)), (1, (i6 x33)), (4, (ow 4)), (5, (ow 5)), (6, (i6 x34))], [(4, (bk (eA64u8 ((vrep 64 (0 : Int)))))), (5, (bk (eA64u8 x35)))]⟩) (by kernel_rfl) (a_seq (sr (vp (i6 x33) rfl (vp (.bool ((decide (x33 > 0)))) rfl (nx ⟨[(0, (i6 a0)), (1, (i6 x33)), (4, (ow 4)), (5, (ow 5)), (6, (i6 x34)), (9, (.bool ((decide (x33 > 0)))))], [(4, (bk (eA64u8 ((vrep 64 (0 : Int)))))), (5, (bk (eA64u8 x35)))]⟩ (by kernel_rfl) ?_)))))
    cases hb44 : (decide (x33 > 0))
    · have h := ite_f hb44 h
      refine a_cond_f rfl (a_exit (t_exit ?_))
      cases h
      have h := hX43
      refine t_exit (b_exit ?_)
      exact j_leaf x35 (Option.some.inj h) (by kernel_rfl)
    · have h := ite_t hb44 h
      refine a_cond_t rfl (a_skip (a_next (σ' := ⟨[(0, (i6 a0)), (1, (i6 x33)), (4, (ow 4)), (5, (ow 5)), (6, (i6 x34))], [(4, (bk (eA64u8 ((vrep 64 (0 : Int)))))), (5, (bk (eA64u8 x35)))]⟩) (by kernel_rfl) (a_seq (a_block (sr (vp (i6 x34) rfl (vp (i6 x33) rfl (vp (i6 a0) rfl ?_))))))))
      obtain ⟨hc45, h⟩ := ifp_some h
      refine vq (i6 (Int.tmod x33 a0)) rfl hc45 (vp (b8 (IntKind.u8.wrap (Int.tmod x33 a0))) rfl ?_)
      obtain ⟨hc46, h⟩ := ifp_some h
      refine vq (.own 5 [x34.toNat] [x34.toNat * 1]) rfl hc46 ?_
      have hs47 : StOk [x34.toNat] (eA64u8 x35) [x34.toNat * 1] 1 (b8 (IntKind.u8.wrap (Int.tmod x33 a0))) (eA64u8 ((vset x35 x34.toNat (IntKind.u8.wrap (Int.tmod x33 a0))))) := (.arr (y := IntKind.u8.wrap (Int.tmod x33 a0)) (vlt x35 hc46) rfl (.nil rfl rfl rfl rfl))
      refine vu .top [(5, (bk (eA64u8 ((vset x35 x34.toNat (IntKind.u8.wrap (Int.tmod x33 a0)))))))] (st_own (i := ⟨.int .u8, 1, 1, (.int .u8 0)⟩) rfl rfl (fun _ => rfl) rfl hs47) (hs47.c rfl) rfl (nx ⟨[(0, (i6 a0)), (1, (i6 x33)), (4, (ow 4)), (5, (ow 5)), (6, (i6 x34))], [(4, (bk (eA64u8 ((vrep 64 (0 : Int)))))), (5, (bk (eA64u8 ((vset x35 x34.toNat (IntKind.u8.wrap (Int.tmod x33 a0)))))))]⟩ (by kernel_rfl) (a_region (vp (i6 x33) rfl (vp (i6 a0) rfl ?_))))
      obtain ⟨hc48, h⟩ := ifp_some h
      refine vq (i6 (IntKind.i64.wrap (Int.tdiv x33 a0))) rfl hc48 (vp (i6 (IntKind.i64.wrap (Int.tdiv x33 a0))) rfl (a_nil (b_norm (a_next (σ' := ⟨[(0, (i6 a0)), (1, (i6 (IntKind.i64.wrap (Int.tdiv x33 a0)))), (4, (ow 4)), (5, (ow 5)), (6, (i6 x34))], [(4, (bk (eA64u8 ((vrep 64 (0 : Int)))))), (5, (bk (eA64u8 ((vset x35 x34.toNat (IntKind.u8.wrap (Int.tmod x33 a0)))))))]⟩) (by kernel_rfl) (a_region (vp (i6 x34) rfl (vp (i6 (IntKind.i64.wrap (x34 + 1))) rfl (vp (i6 (IntKind.i64.wrap (x34 + 1))) rfl (a_nil ?_)))))))))
      cases h
      exact a_again (by kernel_rfl) hX43
def spec_l01Code_c : ACode := (.seq (.region 0 [q 4 (.asg 0 (.const (.int .i64 0)) 2)] false) (.seq (.seq (.region 1 [q 6 (.mov (t 0)), q 7 (.call 0 (.func 60) [(t 6)]), q 8 (.un .not (t 7))] false) (.cond (t 8) (.seq (.region 2 [q 4 (.asg 0 (.const (.int .i64 1)) 2)] false) .ret) .skip)) (.seq (.seq (.region 3 [q 5 (.asg 0 (.const (.int .i64 0)) 3)] false) (.block 0 (.loop (.seq (.seq (.region 4 [q 9 (.mov (t 5)), q 10 (.mov (t 1)), q 11 (.blt 0 .len [(t 10)] [36]), q 12 (.bin .lss 3 (t 9) (t 11))] false) (.cond (t 12) .skip (.exit 0))) (.seq (.block 1 (.seq (.region 6 [q 15 (.mov (t 0)), q 16 (.mov (t 1)), q 17 (.mov (t 5)), q 18 (.indexAddr 36 (t 16) (t 17)), q 19 (.load 24 (t 18)), q 20 (.call 0 (.func 91) [(t 15), (t 19)]), q 21 (.un .not (t 20))] false) (.cond (t 21) (.seq (.region 7 [q 4 (.asg 0 (.const (.int .i64 1)) 2)] false) .ret) .skip))) (.region 5 [q 13 (.mov (t 5)), q 14 (.bin .add 3 (t 13) (.const (.int .i64 1))), q 5 (.asg 0 (t 14) 3)] false)))))) (.seq (.region 8 [q 4 (.asg 0 (.const (.int .i64 0)) 2)] false) .ret))))
def spec_l01Code_L : Live := [(0, [0, 1]), (1, [0, 1]), (2, []), (3, [0, 1]), (4, [0, 1, 5]), (5, [0, 1, 5]), (6, [0, 1, 5]), (7, []), (8, []), (100008, [0, 1, 8]), (100012, [0, 1, 5, 12]), (100021, [0, 1, 5, 21])]
noncomputable def spec_l01Code_l1 (a1 : (List (Vec Int 64))) (a0 : Int) (x36 : Int) : Option (Int ⊕ (Unit ⊕ Int)) :=
  (if (decide (x36 < (a1.length : Int))) then (ifp (0 ≤ x36 ∧ x36 < ((a1.length : Nat) : Int)) ((Option.bind (spec_l01Is a0 (rd a1 x36.toNat)) fun r49 => (if (!r49) then (some (.inr (.inr 1))) else (some (.inl (IntKind.i64.wrap (x36 + 1)))))))) else (some (.inr (((.inl ()))))))
noncomputable def spec_l01Code (a0 : Int) (a1 : (List (Vec Int 64))) : Option Int :=
  (Option.bind (spec_l01Prime a0) fun r1 => (if (!r1) then (some 1) else (Option.bind (α := (Unit ⊕ Int)) ((loopM (fun s : Int => spec_l01Code_l1 a1 a0 s) 0)) fun z => match z with | .inl _ => (some 0) | .inr r53 => (some r53))))
theorem spec_l01Code_ok (a0 : Int) (a1 : (List (Vec Int 64))) (r : Int) (h : spec_l01Code a0 a1 = some r) : Den Try.prog 94 [(i6 a0), (eSA64u8 a1)] { r := (i6 r) } := by
  refine den_of (rs := [(i6 r)]) (ac := spec_l01Code_c) (L := spec_l01Code_L) (n := 22) (m := []) (c := Try.f94.body.getD .skip) good Try.func94 (by kernel_rfl) (by kernel_rfl) Try.ntmps94 rfl rfl (by kernel_rfl) rfl rfl ?_
  refine a_st (σ' := ⟨[(0, (i6 a0)), (1, (eSA64u8 a1))], []⟩) (by kernel_rfl) ?_
  unfold spec_l01Code_c
  refine sr (vp (i6 0) rfl (nx ⟨[(0, (i6 a0)), (1, (eSA64u8 a1))], []⟩ (by kernel_rfl) (a_seq (sr (vp (i6 a0) rfl ?_)))))
  obtain ⟨r1, hr2, h⟩ := bind_some h
  refine a_call (args := [(i6 a0)]) (u := []) (r := (.bool r1)) rfl rfl (spec_l01Prime_ok a0 r1 hr2) rfl (vp (.bool (!r1)) rfl (nx ⟨[(0, (i6 a0)), (1, (eSA64u8 a1)), (8, (.bool (!r1)))], []⟩ (by kernel_rfl) ?_))
  cases hb3 : (!r1)
  · have h := ite_f hb3 h
    refine a_cond_f rfl (a_skip (a_next (σ' := ⟨[(0, (i6 a0)), (1, (eSA64u8 a1))], []⟩) (by kernel_rfl) ?_))
    obtain ⟨y27, hy28, hk29⟩ := bind_some h
    clear h
    refine a_join (emb := fun (s : Unit) => ⟨[], []⟩) (pre := fun s => (.inl s) = y27) ?_ ?_
    · rintro _ rfl
      have h := hk29
      refine a_st (σ' := ⟨[], []⟩) (by kernel_rfl) (sr (vp (i6 0) rfl (nx _ rfl (a_ret ?_))))
      refine ⟨.inr rfl, ?_⟩
      rw [Try.results94]
      cases h
      exact ⟨_, _, _, _, _, rfl, trivial, .inl ⟨rfl, .inl rfl⟩, rfl, rfl⟩
    · have h := hy28
      refine sr (vp (i6 0) rfl (nx ⟨[(0, (i6 a0)), (1, (eSA64u8 a1)), (5, (i6 0))], []⟩ (by kernel_rfl) (a_block ?_)))
      refine a_loop (emb := fun (s : Int) => ⟨[(0, (i6 a0)), (1, (eSA64u8 a1)), (5, (i6 s))], []⟩) (body := (fun s : Int => spec_l01Code_l1 a1 a0 s)) (G := fun q => some q = some y27) h rfl ?_ (by kernel_rfl)
      rintro X43 x36 x44 h hX45
      have h : spec_l01Code_l1 a1 a0 x36 = some x44 := h
      refine a_st (σ' := ⟨[(0, (i6 a0)), (1, (eSA64u8 a1)), (5, (i6 x36))], []⟩) (by kernel_rfl) (a_seq (sr (vp (i6 x36) rfl (vp (eSA64u8 a1) rfl (vq (i6 (a1.length : Int)) (len_run rfl rfl) trivial (vp (.bool ((decide (x36 < (a1.length : Int))))) rfl (nx ⟨[(0, (i6 a0)), (1, (eSA64u8 a1)), (5, (i6 x36)), (12, (.bool ((decide (x36 < (a1.length : Int))))))], []⟩ (by kernel_rfl) ?_)))))))
      cases hb46 : (decide (x36 < (a1.length : Int)))
      · have h := ite_f hb46 h
        refine a_cond_f rfl (a_exit (t_exit ?_))
        cases h
        have h := hX45
        refine t_exit (b_exit ?_)
        exact j_leaf () (Option.some.inj h) (by kernel_rfl)
      · have h := ite_t hb46 h
        refine a_cond_t rfl (a_skip (a_next (σ' := ⟨[(0, (i6 a0)), (1, (eSA64u8 a1)), (5, (i6 x36))], []⟩) (by kernel_rfl) (a_seq (a_block (sr (vp (i6 a0) rfl (vp (eSA64u8 a1) rfl (vp (i6 x36) rfl ?_))))))))
        obtain ⟨hc47, h⟩ := ifp_some h
        refine vq (.ref (.row 64 (a1.map eA64u8)) [x36.toNat] [x36.toNat * 64]) rfl (lmap hc47) ?_
        have hl48 : LdOk [x36.toNat] (.row 64 (a1.map eA64u8)) [x36.toNat * 64] 64 true (eA64u8 (rd a1 x36.toNat)) := (.row (llt hc47) rfl (.nil rfl rfl rfl))
        refine vq (eA64u8 (rd a1 x36.toNat)) (ld_ref (i := ⟨.arr 64 5, 64, 64, (eA64u8 (vrep 64 (0 : Int)))⟩) rfl rfl hl48) hl48.c ?_
        obtain ⟨r49, hr50, h⟩ := bind_some h
        refine a_call (args := [(i6 a0), (eA64u8 (rd a1 x36.toNat))]) (u := []) (r := (.bool r49)) rfl rfl (spec_l01Is_ok a0 (rd a1 x36.toNat) r49 hr50) rfl (vp (.bool (!r49)) rfl (nx ⟨[(0, (i6 a0)), (1, (eSA64u8 a1)), (5, (i6 x36)), (21, (.bool (!r49)))], []⟩ (by kernel_rfl) ?_))
        cases hb51 : (!r49)
        · have h := ite_f hb51 h
          refine a_cond_f rfl (a_skip (b_norm (a_next (σ' := ⟨[(0, (i6 a0)), (1, (eSA64u8 a1)), (5, (i6 x36))], []⟩) (by kernel_rfl) (a_region (vp (i6 x36) rfl (vp (i6 (IntKind.i64.wrap (x36 + 1))) rfl (vp (i6 (IntKind.i64.wrap (x36 + 1))) rfl (a_nil ?_))))))))
          cases h
          exact a_again (by kernel_rfl) hX45
        · have h := ite_t hb51 h
          refine a_cond_t rfl (sr (vp (i6 1) rfl (nx _ rfl (a_ret (b_ret (t_ret ?_))))))
          cases h
          have h := hX45
          refine t_ret (b_ret (t_ret ?_))
          cases h
          have h := hk29
          refine ⟨.inr rfl, ?_⟩
          rw [Try.results94]
          cases h
          exact ⟨_, _, _, _, _, rfl, trivial, .inl ⟨rfl, .inl rfl⟩, rfl, rfl⟩
  · have h := ite_t hb3 h
    refine a_cond_t rfl (sr (vp (i6 1) rfl (nx _ rfl (a_ret (t_ret ?_)))))
    refine ⟨.inr rfl, ?_⟩
    rw [Try.results94]
    cases h
    exact ⟨_, _, _, _, _, rfl, trivial, .inl ⟨rfl, .inl rfl⟩, rfl, rfl⟩
end Go.Proofs.Ytcgohoclbjgmkaa
