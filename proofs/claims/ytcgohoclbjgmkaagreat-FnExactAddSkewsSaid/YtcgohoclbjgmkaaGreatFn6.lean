/- Functions of the program: plain Lean functions, and that the program computes them. Printed by gen.py. -/
import Derived.Test.YtcgohoclbjgmkaaGreatFnT
import Derived.Test.YtcgohoclbjgmkaaGreatFn1
import Derived.Test.YtcgohoclbjgmkaaGreatFn3
import Derived.Test.YtcgohoclbjgmkaaGreatFn4
import Derived.Test.YtcgohoclbjgmkaaGreatFn5
namespace Go.Proofs.YtcgohoclbjgmkaaGreat
open Go.Abs Go.Proofs
set_option linter.unusedSimpArgs false
set_option linter.unusedVariables false
set_option maxHeartbeats 16000000
attribute [local irreducible] Abs.acode Abs.aops Abs.aopsT Abs.thenK Abs.blockK

def impl_field_isSkew_c : ACode := (.seq (.region 0 [q 2 (.box 42 (t 0)), q 3 (.box 26 (t 1)), q 4 (.asg 0 (.const (.bool false)) 4)] false) (.seq (.region 1 [q 5 (.slice 26 (t 3) none none none), q 6 (.load 42 (t 2)), ⟨some 7, .mkfn 42 [(t 6)] [], none, [1]⟩, ⟨some 8, .call 0 (.func 41) [(t 5), (t 7)], none, [0, 2]⟩, ⟨some 4, .asg 0 (t 8) 4, none, [3, 3, 0, 1, 2, 3]⟩] true) .ret))
def impl_field_isSkew_L : Live := [(0, [0, 1]), (1, [2, 3])]
noncomputable def impl_field_isSkew (a0 : (Int × (List Int))) (a1 : (Vec (Vec Int 64) 8)) : Option Bool :=
  (Option.bind (impl_areAll_impl_Poly_of_impl_field_isResidue a1.1 a0) fun r5 => (some r5))
theorem impl_field_isSkew_ok (a0 : (Int × (List Int))) (a1 : (Vec (Vec Int 64) 8)) (r : Bool) (h : impl_field_isSkew a0 a1 = some r) : Den Tryz.prog 22 [(eT_i64_Si64_Z a0), (eA8A64u8 a1)] { r := (.bool r) } := by
  refine den_of (rs := [(.bool r)]) (ac := impl_field_isSkew_c) (L := impl_field_isSkew_L) (n := 9) (m := []) (c := Tryz.f22.body.getD .skip) good Tryz.func22 (by kernel_rfl) (by kernel_rfl) Tryz.ntmps22 rfl rfl (by kernel_rfl) rfl rfl ?_
  refine a_st (σ' := ⟨[(0, (eT_i64_Si64_Z a0)), (1, (eA8A64u8 a1))], []⟩) (by kernel_rfl) ?_
  unfold impl_field_isSkew_c
  refine sr (vo 1200 (eT_i64_Si64_Z a0) rfl rfl (vo 1300 (eA8A64u8 a1) rfl rfl (vp (.bool false) rfl (nx ⟨[(2, (ow 2)), (3, (ow 3))], [(2, (bk (eT_i64_Si64_Z a0))), (3, (bk (eA8A64u8 a1)))]⟩ (by kernel_rfl) (a_seq (a_draw [⟨[3], [3], [], []⟩, ⟨[2], [], [], []⟩, ⟨[], [], [], [1]⟩, ⟨[], [], [], [0, 1, 2]⟩, ⟨[], [], [], [0, 1, 2, 3]⟩] (by kernel_rfl) (d_cons (vu (.sl 64 true (a1.1.map eA64u8)) [(3, (bf (eA8A64u8 a1)))] rfl ⟨rfl, trivial, rfl, rfl⟩ rfl (d_next (by kernel_rfl) ?_)))))))))
  refine d_cons (vl (eT_i64_Si64_Z a0) rfl rfl rfl rfl rfl rfl (d_next (by kernel_rfl) (dp (.clo 42 [(eT_i64_Si64_Z a0)] []) rfl (by kernel_rfl) (d_cons ?_))))
  obtain ⟨r5, hr6, h⟩ := bind_some h
  refine a_call (args := [(.sl 64 true (a1.1.map eA64u8)), (.clo 42 [(eT_i64_Si64_Z a0)] [])]) (u := []) (r := (.bool r5)) rfl rfl (Den.args (impl_areAll_impl_Poly_of_impl_field_isResidue_ok a1.1 a0 r5 hr6) rfl rfl (.cons (.loose _) (.cons (.refl _) .nil))) rfl (d_next (by kernel_rfl) (dp (.bool r5) rfl (by kernel_rfl) (d_nil (a_next rfl (a_ret ?_)))))
  refine ⟨.inr rfl, ?_⟩
  rw [Tryz.results22]
  cases h
  exact ⟨_, _, _, _, _, rfl, trivial, .inl ⟨rfl, .inl rfl⟩, rfl, rfl⟩
def impl_areAll_impl_Skew__c1_of_p_isSkew_c : ACode := (.seq (.region 0 [q 2 (.box 26 (t 0)), q 3 (.asg 0 (.const (.bool false)) 4)] false) (.seq (.region 1 [q 4 (.load 52 (t 1)), q 5 (.load 26 (t 2)), q 6 (.call 0 (t 4) [(t 5)]), q 7 (.un .not (t 6)), q 3 (.asg 0 (t 7) 4)] false) .ret))
def impl_areAll_impl_Skew__c1_of_p_isSkew_L : Live := [(0, [0, 1]), (1, [1, 2])]
noncomputable def impl_areAll_impl_Skew__c1_of_p_isSkew (a0 : (Vec (Vec Int 64) 8)) (a1f0 : (Int × (List Int))) : Option Bool :=
  (Option.bind (impl_field_isSkew a1f0 a0) fun r3 => (some (!r3)))
theorem impl_areAll_impl_Skew__c1_of_p_isSkew_ok (a0 : (Vec (Vec Int 64) 8)) (a1f0 : (Int × (List Int))) (r : Bool) (h : impl_areAll_impl_Skew__c1_of_p_isSkew a0 a1f0 = some r) : Den Tryz.prog 40 [(eA8A64u8 a0), (.ref (.clo 22 [(eT_i64_Si64_Z a1f0)] []) [] [])] { r := (.bool r) } := by
  refine den_of (rs := [(.bool r)]) (ac := impl_areAll_impl_Skew__c1_of_p_isSkew_c) (L := impl_areAll_impl_Skew__c1_of_p_isSkew_L) (n := 8) (m := []) (c := Tryz.f40.body.getD .skip) good Tryz.func40 (by kernel_rfl) (by kernel_rfl) Tryz.ntmps40 rfl rfl (by kernel_rfl) rfl rfl ?_
  refine a_st (σ' := ⟨[(0, (eA8A64u8 a0)), (1, (.ref (.clo 22 [(eT_i64_Si64_Z a1f0)] []) [] []))], []⟩) (by kernel_rfl) ?_
  unfold impl_areAll_impl_Skew__c1_of_p_isSkew_c
  refine sr (vo 1200 (eA8A64u8 a0) rfl rfl (vp (.bool false) rfl (nx ⟨[(1, (.ref (.clo 22 [(eT_i64_Si64_Z a1f0)] []) [] [])), (2, (ow 2))], [(2, (bk (eA8A64u8 a0)))]⟩ (by kernel_rfl) (sr ?_))))
  have hl1 : LdOk [] (.clo 22 [(eT_i64_Si64_Z a1f0)] []) [] 1 false (.clo 22 [(eT_i64_Si64_Z a1f0)] []) := (.nil rfl rfl rfl)
  refine vq (.clo 22 [(eT_i64_Si64_Z a1f0)] []) (ld_ref (i := ⟨.other, 1, 8, (.raw .nilFunc)⟩) rfl rfl hl1) hl1.c (vl (eA8A64u8 a0) rfl rfl rfl rfl rfl rfl ?_)
  obtain ⟨r3, hr4, h⟩ := bind_some h
  refine a_call (args := [(eT_i64_Si64_Z a1f0), (eA8A64u8 a0)]) (u := []) (r := (.bool r3)) rfl rfl (impl_field_isSkew_ok a1f0 a0 r3 hr4) rfl (vp (.bool (!r3)) rfl (vp (.bool (!r3)) rfl (nx _ rfl (a_ret ?_))))
  refine ⟨.inr rfl, ?_⟩
  rw [Tryz.results40]
  cases h
  exact ⟨_, _, _, _, _, rfl, trivial, .inl ⟨rfl, .inl rfl⟩, rfl, rfl⟩
def slices_IndexFunc_impl_Skew_impl_Skew_of_impl_areAll_impl_Skew__c1_p_isSkew_c : ACode := (.seq (.region 0 [q 4 (.asg 0 (.const (.int .i64 0)) 3)] false) (.seq (.seq (.region 1 [q 6 (.mov (t 0)), q 7 (.blt 0 .len [(t 6)] [47]), q 8 (.mov (.const (.int .i64 0)))] false) (.block 0 (.loop (.seq (.region 2 [q 9 (.bin .lss 3 (t 8) (t 7))] false) (.seq (.cond (t 9) .skip (.exit 0)) (.seq (.block 1 (.seq (.region 3 [q 10 (.mov (t 8)), q 5 (.asg 0 (t 10) 3)] false) (.seq (.region 4 [q 11 (.mov (t 1)), q 12 (.mov (t 0)), q 13 (.mov (t 5)), q 14 (.indexAddr 47 (t 12) (t 13)), q 15 (.load 26 (t 14)), q 16 (.call 0 (t 11) [(t 15)])] false) (.cond (t 16) (.seq (.region 5 [q 17 (.mov (t 5)), q 4 (.asg 0 (t 17) 3)] false) .ret) .skip)))) (.region 6 [q 18 (.bin .add 3 (t 8) (.const (.int .i64 1))), q 8 (.mov (t 18))] false))))))) (.seq (.region 7 [q 4 (.asg 0 (.const (.int .i64 (-1))) 3)] false) .ret)))
def slices_IndexFunc_impl_Skew_impl_Skew_of_impl_areAll_impl_Skew__c1_p_isSkew_L : Live := [(0, [0, 1]), (1, [0, 1]), (2, [0, 1, 7, 8]), (3, [0, 1, 7, 8]), (4, [0, 1, 5, 7, 8]), (5, [5]), (6, [0, 1, 7, 8]), (7, []), (100009, [0, 1, 7, 8, 9]), (100016, [0, 1, 5, 7, 8, 16])]
noncomputable def slices_IndexFunc_impl_Skew_impl_Skew_of_impl_areAll_impl_Skew__c1_p_isSkew_l1 (a0 : (List (Vec (Vec Int 64) 8))) (a1c0f0 : (Int × (List Int))) (x33 : Int) : Option (Int ⊕ (Unit ⊕ Int)) :=
  (if (decide (x33 < (a0.length : Int))) then (ifp (0 ≤ x33 ∧ x33 < ((a0.length : Nat) : Int)) ((Option.bind (impl_areAll_impl_Skew__c1_of_p_isSkew (rd a0 x33.toNat) a1c0f0) fun r46 => (if r46 then (some (.inr (.inr x33))) else (some (.inl (IntKind.i64.wrap (x33 + 1)))))))) else (some (.inr (((.inl ()))))))
noncomputable def slices_IndexFunc_impl_Skew_impl_Skew_of_impl_areAll_impl_Skew__c1_p_isSkew (a0 : (List (Vec (Vec Int 64) 8))) (a1c0f0 : (Int × (List Int))) : Option Int :=
  (Option.bind (α := (Unit ⊕ Int)) ((loopM (fun s : Int => slices_IndexFunc_impl_Skew_impl_Skew_of_impl_areAll_impl_Skew__c1_p_isSkew_l1 a0 a1c0f0 s) 0)) fun z => match z with | .inl _ => (some (-1)) | .inr r50 => (some r50))
theorem slices_IndexFunc_impl_Skew_impl_Skew_of_impl_areAll_impl_Skew__c1_p_isSkew_ok (a0 : (List (Vec (Vec Int 64) 8))) (a1c0f0 : (Int × (List Int))) (r : Int) (h : slices_IndexFunc_impl_Skew_impl_Skew_of_impl_areAll_impl_Skew__c1_p_isSkew a0 a1c0f0 = some r) : Den Tryz.prog 55 [(eSA8A64u8 a0), (.clo 40 [] [(.ref (.clo 22 [(eT_i64_Si64_Z a1c0f0)] []) [] [])])] { r := (i6 r) } := by
  refine den_of (rs := [(i6 r)]) (ac := slices_IndexFunc_impl_Skew_impl_Skew_of_impl_areAll_impl_Skew__c1_p_isSkew_c) (L := slices_IndexFunc_impl_Skew_impl_Skew_of_impl_areAll_impl_Skew__c1_p_isSkew_L) (n := 19) (m := []) (c := Tryz.f55.body.getD .skip) good Tryz.func55 (by kernel_rfl) (by kernel_rfl) Tryz.ntmps55 rfl rfl (by kernel_rfl) rfl rfl ?_
  refine a_st (σ' := ⟨[(0, (eSA8A64u8 a0)), (1, (.clo 40 [] [(.ref (.clo 22 [(eT_i64_Si64_Z a1c0f0)] []) [] [])]))], []⟩) (by kernel_rfl) ?_
  unfold slices_IndexFunc_impl_Skew_impl_Skew_of_impl_areAll_impl_Skew__c1_p_isSkew_c
  refine sr (vp (i6 0) rfl (nx ⟨[(0, (eSA8A64u8 a0)), (1, (.clo 40 [] [(.ref (.clo 22 [(eT_i64_Si64_Z a1c0f0)] []) [] [])]))], []⟩ (by kernel_rfl) ?_))
  obtain ⟨y24, hy25, hk26⟩ := bind_some h
  clear h
  refine a_join (emb := fun (s : Unit) => ⟨[], []⟩) (pre := fun s => (.inl s) = y24) ?_ ?_
  · rintro _ rfl
    have h := hk26
    refine a_st (σ' := ⟨[], []⟩) (by kernel_rfl) (sr (vp (i6 (-1)) rfl (nx _ rfl (a_ret ?_))))
    refine ⟨.inr rfl, ?_⟩
    rw [Tryz.results55]
    cases h
    exact ⟨_, _, _, _, _, rfl, trivial, .inl ⟨rfl, .inl rfl⟩, rfl, rfl⟩
  · have h := hy25
    refine sr (vp (eSA8A64u8 a0) rfl (vq (i6 (a0.length : Int)) (len_run rfl rfl) trivial (vp (i6 0) rfl (nx ⟨[(0, (eSA8A64u8 a0)), (1, (.clo 40 [] [(.ref (.clo 22 [(eT_i64_Si64_Z a1c0f0)] []) [] [])])), (7, (i6 (a0.length : Int))), (8, (i6 0))], []⟩ (by kernel_rfl) (a_block ?_)))))
    refine a_loop (emb := fun (s : Int) => ⟨[(0, (eSA8A64u8 a0)), (1, (.clo 40 [] [(.ref (.clo 22 [(eT_i64_Si64_Z a1c0f0)] []) [] [])])), (7, (i6 (a0.length : Int))), (8, (i6 s))], []⟩) (body := (fun s : Int => slices_IndexFunc_impl_Skew_impl_Skew_of_impl_areAll_impl_Skew__c1_p_isSkew_l1 a0 a1c0f0 s)) (G := fun q => some q = some y24) h rfl ?_ (by kernel_rfl)
    rintro X40 x33 x41 h hX42
    have h : slices_IndexFunc_impl_Skew_impl_Skew_of_impl_areAll_impl_Skew__c1_p_isSkew_l1 a0 a1c0f0 x33 = some x41 := h
    refine a_st (σ' := ⟨[(0, (eSA8A64u8 a0)), (1, (.clo 40 [] [(.ref (.clo 22 [(eT_i64_Si64_Z a1c0f0)] []) [] [])])), (7, (i6 (a0.length : Int))), (8, (i6 x33))], []⟩) (by kernel_rfl) (sr (vp (.bool ((decide (x33 < (a0.length : Int))))) rfl (nx ⟨[(0, (eSA8A64u8 a0)), (1, (.clo 40 [] [(.ref (.clo 22 [(eT_i64_Si64_Z a1c0f0)] []) [] [])])), (7, (i6 (a0.length : Int))), (8, (i6 x33)), (9, (.bool ((decide (x33 < (a0.length : Int))))))], []⟩ (by kernel_rfl) (a_seq ?_))))
    cases hb43 : (decide (x33 < (a0.length : Int)))
    · have h := ite_f hb43 h
      refine a_cond_f rfl (a_exit (t_exit ?_))
      cases h
      have h := hX42
      refine t_exit (b_exit ?_)
      exact j_leaf () (Option.some.inj h) (by kernel_rfl)
    · have h := ite_t hb43 h
      refine a_cond_t rfl (a_skip (a_next (σ' := ⟨[(0, (eSA8A64u8 a0)), (1, (.clo 40 [] [(.ref (.clo 22 [(eT_i64_Si64_Z a1c0f0)] []) [] [])])), (7, (i6 (a0.length : Int))), (8, (i6 x33))], []⟩) (by kernel_rfl) (a_seq (a_block (sr (vp (i6 x33) rfl (vp (i6 x33) rfl (nx ⟨[(0, (eSA8A64u8 a0)), (1, (.clo 40 [] [(.ref (.clo 22 [(eT_i64_Si64_Z a1c0f0)] []) [] [])])), (5, (i6 x33)), (7, (i6 (a0.length : Int))), (8, (i6 x33))], []⟩ (by kernel_rfl) (sr ?_)))))))))
      refine vp (.clo 40 [] [(.ref (.clo 22 [(eT_i64_Si64_Z a1c0f0)] []) [] [])]) rfl (vp (eSA8A64u8 a0) rfl (vp (i6 x33) rfl ?_))
      obtain ⟨hc44, h⟩ := ifp_some h
      refine vq (.ref (.row 512 (a0.map eA8A64u8)) [x33.toNat] [x33.toNat * 512]) rfl (lmap hc44) ?_
      have hl45 : LdOk [x33.toNat] (.row 512 (a0.map eA8A64u8)) [x33.toNat * 512] 512 true (eA8A64u8 (rd a0 x33.toNat)) := (.row (llt hc44) rfl (.nil rfl rfl rfl))
      refine vq (eA8A64u8 (rd a0 x33.toNat)) (ld_ref (i := ⟨.arr 8 24, 512, 512, (eA8A64u8 (vrep 8 (vrep 64 (0 : Int))))⟩) rfl rfl hl45) hl45.c ?_
      obtain ⟨r46, hr47, h⟩ := bind_some h
      refine a_call (args := [(eA8A64u8 (rd a0 x33.toNat)), (.ref (.clo 22 [(eT_i64_Si64_Z a1c0f0)] []) [] [])]) (u := []) (r := (.bool r46)) rfl rfl (impl_areAll_impl_Skew__c1_of_p_isSkew_ok (rd a0 x33.toNat) a1c0f0 r46 hr47) rfl (nx ⟨[(0, (eSA8A64u8 a0)), (1, (.clo 40 [] [(.ref (.clo 22 [(eT_i64_Si64_Z a1c0f0)] []) [] [])])), (5, (i6 x33)), (7, (i6 (a0.length : Int))), (8, (i6 x33)), (16, (.bool r46))], []⟩ (by kernel_rfl) ?_)
      cases hb48 : r46
      · have h := ite_f hb48 h
        refine a_cond_f rfl (a_skip (b_norm (a_next (σ' := ⟨[(0, (eSA8A64u8 a0)), (1, (.clo 40 [] [(.ref (.clo 22 [(eT_i64_Si64_Z a1c0f0)] []) [] [])])), (7, (i6 (a0.length : Int))), (8, (i6 x33))], []⟩) (by kernel_rfl) (a_region (vp (i6 (IntKind.i64.wrap (x33 + 1))) rfl (vp (i6 (IntKind.i64.wrap (x33 + 1))) rfl (a_nil ?_)))))))
        cases h
        exact a_again (by kernel_rfl) hX42
      · have h := ite_t hb48 h
        refine a_cond_t rfl (sr (vp (i6 x33) rfl (vp (i6 x33) rfl (nx _ rfl (a_ret (b_ret (t_ret ?_)))))))
        cases h
        have h := hX42
        refine t_ret (b_ret (t_ret ?_))
        cases h
        have h := hk26
        refine ⟨.inr rfl, ?_⟩
        rw [Tryz.results55]
        cases h
        exact ⟨_, _, _, _, _, rfl, trivial, .inl ⟨rfl, .inl rfl⟩, rfl, rfl⟩
def slices_ContainsFunc_impl_Skew_impl_Skew_of_impl_areAll_impl_Skew__c1_p_isSkew_c : ACode := (.seq (.region 0 [q 4 (.asg 0 (.const (.bool false)) 4)] false) (.seq (.region 1 [q 5 (.mov (t 0)), q 6 (.mov (t 1)), q 7 (.call 0 (.func 55) [(t 5), (t 6)]), q 8 (.bin .geq 3 (t 7) (.const (.int .i64 0))), q 4 (.asg 0 (t 8) 4)] false) .ret))
def slices_ContainsFunc_impl_Skew_impl_Skew_of_impl_areAll_impl_Skew__c1_p_isSkew_L : Live := [(0, [0, 1]), (1, [0, 1])]
noncomputable def slices_ContainsFunc_impl_Skew_impl_Skew_of_impl_areAll_impl_Skew__c1_p_isSkew (a0 : (List (Vec (Vec Int 64) 8))) (a1c0f0 : (Int × (List Int))) : Option Bool :=
  (Option.bind (slices_IndexFunc_impl_Skew_impl_Skew_of_impl_areAll_impl_Skew__c1_p_isSkew a0 a1c0f0) fun r1 => (some ((decide (r1 ≥ 0)))))
theorem slices_ContainsFunc_impl_Skew_impl_Skew_of_impl_areAll_impl_Skew__c1_p_isSkew_ok (a0 : (List (Vec (Vec Int 64) 8))) (a1c0f0 : (Int × (List Int))) (r : Bool) (h : slices_ContainsFunc_impl_Skew_impl_Skew_of_impl_areAll_impl_Skew__c1_p_isSkew a0 a1c0f0 = some r) : Den Tryz.prog 39 [(eSA8A64u8 a0), (.clo 40 [] [(.ref (.clo 22 [(eT_i64_Si64_Z a1c0f0)] []) [] [])])] { r := (.bool r) } := by
  refine den_of (rs := [(.bool r)]) (ac := slices_ContainsFunc_impl_Skew_impl_Skew_of_impl_areAll_impl_Skew__c1_p_isSkew_c) (L := slices_ContainsFunc_impl_Skew_impl_Skew_of_impl_areAll_impl_Skew__c1_p_isSkew_L) (n := 9) (m := []) (c := Tryz.f39.body.getD .skip) good Tryz.func39 (by kernel_rfl) (by kernel_rfl) Tryz.ntmps39 rfl rfl (by kernel_rfl) rfl rfl ?_
  refine a_st (σ' := ⟨[(0, (eSA8A64u8 a0)), (1, (.clo 40 [] [(.ref (.clo 22 [(eT_i64_Si64_Z a1c0f0)] []) [] [])]))], []⟩) (by kernel_rfl) ?_
  unfold slices_ContainsFunc_impl_Skew_impl_Skew_of_impl_areAll_impl_Skew__c1_p_isSkew_c
  refine sr (vp (.bool false) rfl (nx ⟨[(0, (eSA8A64u8 a0)), (1, (.clo 40 [] [(.ref (.clo 22 [(eT_i64_Si64_Z a1c0f0)] []) [] [])]))], []⟩ (by kernel_rfl) (sr (vp (eSA8A64u8 a0) rfl (vp (.clo 40 [] [(.ref (.clo 22 [(eT_i64_Si64_Z a1c0f0)] []) [] [])]) rfl ?_)))))
  obtain ⟨r1, hr2, h⟩ := bind_some h
  refine a_call (args := [(eSA8A64u8 a0), (.clo 40 [] [(.ref (.clo 22 [(eT_i64_Si64_Z a1c0f0)] []) [] [])])]) (u := []) (r := (i6 r1)) rfl rfl (slices_IndexFunc_impl_Skew_impl_Skew_of_impl_areAll_impl_Skew__c1_p_isSkew_ok a0 a1c0f0 r1 hr2) rfl (vp (.bool ((decide (r1 ≥ 0)))) rfl (vp (.bool ((decide (r1 ≥ 0)))) rfl (nx _ rfl (a_ret ?_))))
  refine ⟨.inr rfl, ?_⟩
  rw [Tryz.results39]
  cases h
  exact ⟨_, _, _, _, _, rfl, trivial, .inl ⟨rfl, .inl rfl⟩, rfl, rfl⟩
def impl_areAll_impl_Skew_of_impl_field_isSkew_c : ACode := (.seq (.region 0 [q 3 (.box 52 (t 1)), q 4 (.asg 0 (.const (.bool false)) 4)] false) (.seq (.region 1 [q 5 (.mov (t 0)), q 6 (.mkfn 40 [] [(t 3)]), q 7 (.call 0 (.func 39) [(t 5), (t 6)]), q 8 (.un .not (t 7)), q 4 (.asg 0 (t 8) 4)] false) .ret))
def impl_areAll_impl_Skew_of_impl_field_isSkew_L : Live := [(0, [0, 1]), (1, [0, 3])]
noncomputable def impl_areAll_impl_Skew_of_impl_field_isSkew (a0 : (List (Vec (Vec Int 64) 8))) (a1f0 : (Int × (List Int))) : Option Bool :=
  (Option.bind (slices_ContainsFunc_impl_Skew_impl_Skew_of_impl_areAll_impl_Skew__c1_p_isSkew a0 a1f0) fun r1 => (some (!r1)))
theorem impl_areAll_impl_Skew_of_impl_field_isSkew_ok (a0 : (List (Vec (Vec Int 64) 8))) (a1f0 : (Int × (List Int))) (r : Bool) (h : impl_areAll_impl_Skew_of_impl_field_isSkew a0 a1f0 = some r) : Den Tryz.prog 21 [(eSA8A64u8 a0), (.clo 22 [(eT_i64_Si64_Z a1f0)] [])] { r := (.bool r) } := by
  refine den_of (rs := [(.bool r)]) (ac := impl_areAll_impl_Skew_of_impl_field_isSkew_c) (L := impl_areAll_impl_Skew_of_impl_field_isSkew_L) (n := 9) (m := []) (c := Tryz.f21.body.getD .skip) good Tryz.func21 (by kernel_rfl) (by kernel_rfl) Tryz.ntmps21 rfl rfl (by kernel_rfl) rfl rfl ?_
  refine a_st (σ' := ⟨[(0, (eSA8A64u8 a0)), (1, (.clo 22 [(eT_i64_Si64_Z a1f0)] []))], []⟩) (by kernel_rfl) ?_
  unfold impl_areAll_impl_Skew_of_impl_field_isSkew_c
  refine sr (vo 1300 (.clo 22 [(eT_i64_Si64_Z a1f0)] []) rfl rfl (vp (.bool false) rfl (nx ⟨[(0, (eSA8A64u8 a0)), (3, (ow 3))], [(3, (bk (.clo 22 [(eT_i64_Si64_Z a1f0)] [])))]⟩ (by kernel_rfl) (sr (vp (eSA8A64u8 a0) rfl (vu (.clo 40 [] [(.ref (.clo 22 [(eT_i64_Si64_Z a1f0)] []) [] [])]) [(3, (bf (.clo 22 [(eT_i64_Si64_Z a1f0)] [])))] rfl trivial rfl ?_))))))
  obtain ⟨r1, hr2, h⟩ := bind_some h
  refine a_call (args := [(eSA8A64u8 a0), (.clo 40 [] [(.ref (.clo 22 [(eT_i64_Si64_Z a1f0)] []) [] [])])]) (u := []) (r := (.bool r1)) rfl rfl (slices_ContainsFunc_impl_Skew_impl_Skew_of_impl_areAll_impl_Skew__c1_p_isSkew_ok a0 a1f0 r1 hr2) rfl (vp (.bool (!r1)) rfl (vp (.bool (!r1)) rfl (nx _ rfl (a_ret ?_))))
  refine ⟨.inr rfl, ?_⟩
  rw [Tryz.results21]
  cases h
  exact ⟨_, _, _, _, _, rfl, trivial, .inl ⟨rfl, .inl rfl⟩, rfl, rfl⟩
def impl_skewsCode_c : ACode := (.seq (.region 0 [q 4 (.box 24 (t 1)), q 6 (.asg 0 (.const (.int .i64 0)) 2)] false) (.seq (.seq (.region 1 [q 7 (.mov (t 0)), q 8 (.load 24 (t 4)), q 9 (.call 0 (.func 20) [(t 7), (t 8)]), q 10 (.un .not (t 9)), q 11 (.mov (t 10)), ⟨some 12, .mov (t 2), some (11, false), []⟩, ⟨some 13, .mov (t 0), some (11, false), []⟩, ⟨some 14, .load 24 (t 4), some (11, false), []⟩, ⟨some 15, .call 0 (.func 13) [(t 13), (t 14)], some (11, false), []⟩, ⟨some 16, .mkfn 22 [(t 15)] [], some (11, false), []⟩, ⟨some 17, .call 0 (.func 21) [(t 12), (t 16)], some (11, false), []⟩, ⟨some 18, .un .not (t 17), some (11, false), []⟩, q 19 (.pick (t 11) (.const (.bool true)) (t 18))] false) (.cond (t 19) (.seq (.region 2 [q 6 (.asg 0 (.const (.int .i64 1)) 2)] false) .ret) .skip)) (.seq (.region 3 [q 6 (.asg 0 (.const (.int .i64 0)) 2)] false) .ret)))
def impl_skewsCode_L : Live := [(0, [0, 1, 2]), (1, [0, 2, 4]), (2, []), (3, []), (100019, [19])]
noncomputable def impl_skewsCode (a0 : Int) (a1 : (Vec Int 64)) (a2 : (List (Vec (Vec Int 64) 8))) : Option Int :=
  (Option.bind (α := Bool) ((Option.bind (impl_isField a0 a1) fun r15 => (if (!r15) then (some true) else (Option.bind (impl_fieldOf a0 a1) fun r19 => (Option.bind (impl_areAll_impl_Skew_of_impl_field_isSkew a2 r19) fun r21 => (some (!r21))))))) fun x10 => (if x10 then (some 1) else (some 0)))
theorem impl_skewsCode_ok (a0 : Int) (a1 : (Vec Int 64)) (a2 : (List (Vec (Vec Int 64) 8))) (r : Int) (h : impl_skewsCode a0 a1 a2 = some r) : Den Tryz.prog 11 [(i6 a0), (eA64u8 a1), (eSA8A64u8 a2)] { r := (i6 r) } := by
  refine den_of (rs := [(i6 r)]) (ac := impl_skewsCode_c) (L := impl_skewsCode_L) (n := 20) (m := []) (c := Tryz.f11.body.getD .skip) good Tryz.func11 (by kernel_rfl) (by kernel_rfl) Tryz.ntmps11 rfl rfl (by kernel_rfl) rfl rfl ?_
  refine a_st (σ' := ⟨[(0, (i6 a0)), (1, (eA64u8 a1)), (2, (eSA8A64u8 a2))], []⟩) (by kernel_rfl) ?_
  unfold impl_skewsCode_c
  refine sr (vo 1400 (eA64u8 a1) rfl rfl (vp (i6 0) rfl (nx ⟨[(0, (i6 a0)), (2, (eSA8A64u8 a2)), (4, (ow 4))], [(4, (bk (eA64u8 a1)))]⟩ (by kernel_rfl) (a_seq ?_))))
  obtain ⟨y11, hy12, hk13⟩ := bind_some h
  clear h
  refine a_join (emb := fun (s : Bool) => ⟨[(19, (.bool s))], []⟩) (pre := fun s => s = y11) ?_ ?_
  · rintro x10 rfl
    have h := hk13
    refine a_st (σ' := ⟨[(19, (.bool x10))], []⟩) (by kernel_rfl) ?_
    cases hb23 : x10
    · have h := ite_f hb23 h
      refine a_cond_f rfl (a_skip (a_next (σ' := ⟨[], []⟩) (by kernel_rfl) (sr (vp (i6 0) rfl (nx _ rfl (a_ret ?_))))))
      refine ⟨.inr rfl, ?_⟩
      rw [Tryz.results11]
      cases h
      exact ⟨_, _, _, _, _, rfl, trivial, .inl ⟨rfl, .inl rfl⟩, rfl, rfl⟩
    · have h := ite_t hb23 h
      refine a_cond_t rfl (sr (vp (i6 1) rfl (nx _ rfl (a_ret (t_ret ?_)))))
      refine ⟨.inr rfl, ?_⟩
      rw [Tryz.results11]
      cases h
      exact ⟨_, _, _, _, _, rfl, trivial, .inl ⟨rfl, .inl rfl⟩, rfl, rfl⟩
  · have h := hy12
    refine a_region (vp (i6 a0) rfl (vl (eA64u8 a1) rfl rfl rfl rfl rfl rfl ?_))
    obtain ⟨r15, hr16, h⟩ := bind_some h
    refine a_call (args := [(i6 a0), (eA64u8 a1)]) (u := []) (r := (.bool r15)) rfl rfl (impl_isField_ok a0 a1 r15 hr16) rfl (vp (.bool (!r15)) rfl (vp (.bool (!r15)) rfl ?_))
    cases hb17 : (!r15)
    · have h := ite_f hb17 h
      refine gp (eSA8A64u8 a2) rfl rfl (gp (i6 a0) rfl rfl ?_)
      have hl18 : LdOk [] (eA64u8 a1) [] 64 true (eA64u8 a1) := (.nil rfl rfl rfl)
      refine gq (eA64u8 a1) rfl (ld_own (i := ⟨.arr 64 5, 64, 64, (eA64u8 (vrep 64 (0 : Int)))⟩) rfl rfl rfl hl18) hl18.c ?_
      obtain ⟨r19, hr20, h⟩ := bind_some h
      refine a_gcall rfl (args := [(i6 a0), (eA64u8 a1)]) (u := []) (r := (eT_i64_Si64_Z r19)) rfl rfl (impl_fieldOf_ok a0 a1 r19 hr20) rfl (gp (.clo 22 [(eT_i64_Si64_Z r19)] []) rfl rfl ?_)
      obtain ⟨r21, hr22, h⟩ := bind_some h
      refine a_gcall rfl (args := [(eSA8A64u8 a2), (.clo 22 [(eT_i64_Si64_Z r19)] [])]) (u := []) (r := (.bool r21)) rfl rfl (impl_areAll_impl_Skew_of_impl_field_isSkew_ok a2 r19 r21 hr22) rfl (gp (.bool (!r21)) rfl rfl (vp (.bool (!r21)) rfl (a_nil ?_)))
      exact j_leaf (!r21) (Option.some.inj h) (by kernel_rfl)
    · have h := ite_t hb17 h
      refine a_gskip rfl (a_gskip rfl (a_gskip rfl (a_gskip rfl (a_gskip rfl (a_gskip rfl (a_gskip rfl (vp (.bool true) rfl (a_nil ?_))))))))
      exact j_leaf true (Option.some.inj h) (by kernel_rfl)
def impl_skew_trimmed_c : ACode := (.seq (.region 0 [q 2 (.asg 1 (.const (.slice none 0 0)) 37)] false) (.seq (.region 1 [q 4 (.mov (t 0)), q 5 (.blt 0 .len [(t 4)] [37]), q 3 (.asg 0 (t 5) 3)] false) (.seq (.block 0 (.loop (.seq (.seq (.region 2 [q 6 (.mov (t 3)), q 7 (.bin .gtr 3 (t 6) (.const (.int .i64 0))), q 8 (.mov (t 7)), ⟨some 9, .mov (t 0), some (8, true), []⟩, ⟨some 10, .mov (t 3), some (8, true), []⟩, ⟨some 11, .bin .sub 3 (t 10) (.const (.int .i64 1)), some (8, true), []⟩, ⟨some 12, .indexAddr 37 (t 9) (t 11), some (8, true), []⟩, ⟨some 13, .load 40 (t 12), some (8, true), []⟩, ⟨some 14, .blt 0 .len [(t 13)] [40], some (8, true), []⟩, ⟨some 15, .bin .eql 3 (t 14) (.const (.int .i64 0)), some (8, true), []⟩, q 16 (.pick (t 8) (t 15) (.const (.bool false)))] false) (.cond (t 16) .skip (.exit 0))) (.block 1 (.region 3 [q 17 (.mov (t 3)), q 18 (.bin .sub 3 (t 17) (.const (.int .i64 1))), q 3 (.asg 0 (t 18) 3)] false))))) (.seq (.region 4 [q 19 (.mov (t 0)), q 20 (.mov (t 3)), q 21 (.mov (t 3)), q 22 (.slice 37 (t 19) none (some (t 20)) (some (t 21))), q 2 (.asg 1 (t 22) 37)] false) .ret))))
def impl_skew_trimmed_L : Live := [(0, [0]), (1, [0]), (2, [0, 3]), (3, [0, 3]), (4, [0, 3]), (100016, [0, 3, 16])]
noncomputable def impl_skew_trimmed_l1 (a0 : (List (List Int))) (x70 : Int) : Option (Int ⊕ Int) :=
  (Option.bind (α := Bool) ((if (decide (x70 > 0)) then (ifp (0 ≤ IntKind.i64.wrap (x70 - 1) ∧ IntKind.i64.wrap (x70 - 1) < ((a0.length : Nat) : Int)) ((letp ((((((rd a0 (IntKind.i64.wrap (x70 - 1)).toNat)).length : Int)) == 0)) fun x101 => (some x101)))) else (some false))) fun x94 => (if x94 then (some (.inl (IntKind.i64.wrap (x70 - 1)))) else (some (.inr x70))))
noncomputable def impl_skew_trimmed (a0 : (List (List Int))) : Option (List (List Int)) :=
  (Option.bind (α := Int) ((loopM (fun s : Int => impl_skew_trimmed_l1 a0 s) (a0.length : Int))) fun x51 => (ifp (0 ≤ x51 ∧ x51 ≤ (a0.length : Int)) ((some (a0.take x51.toNat)))))
theorem impl_skew_trimmed_ok (a0 : (List (List Int))) (r : (List (List Int))) (h : impl_skew_trimmed a0 = some r) : Den Tryz.prog 28 [(eSSi64 a0)] { r := (eSSi64 r) } := by
  refine den_of (rs := [(eSSi64 r)]) (ac := impl_skew_trimmed_c) (L := impl_skew_trimmed_L) (n := 23) (m := [(2, 1)]) (c := Tryz.f28.body.getD .skip) good Tryz.func28 (by kernel_rfl) (by kernel_rfl) Tryz.ntmps28 rfl rfl (by kernel_rfl) rfl rfl ?_
  refine a_st (σ' := ⟨[(0, (eSSi64 a0))], []⟩) (by kernel_rfl) ?_
  unfold impl_skew_trimmed_c
  refine sr (vp (eSSi64 ([])) rfl (nx ⟨[(0, (eSSi64 a0))], []⟩ (by kernel_rfl) (sr (vp (eSSi64 a0) rfl (vq (i6 (a0.length : Int)) (len_run rfl rfl) trivial (vp (i6 (a0.length : Int)) rfl (nx ⟨[(0, (eSSi64 a0)), (3, (i6 (a0.length : Int)))], []⟩ (by kernel_rfl) ?_)))))))
  obtain ⟨y52, hy53, hk54⟩ := bind_some h
  clear h
  refine a_join (emb := fun (s : Int) => ⟨[(0, (eSSi64 a0)), (3, (i6 s))], []⟩) (pre := fun s => s = y52) ?_ ?_
  · rintro x51 rfl
    have h := hk54
    refine a_st (σ' := ⟨[(0, (eSSi64 a0)), (3, (i6 x51))], []⟩) (by kernel_rfl) (sr (vp (eSSi64 a0) rfl (vp (i6 x51) rfl (vp (i6 x51) rfl ?_))))
    obtain ⟨hc105, h⟩ := ifp_some h
    refine vq (.sl 1 true ((a0.take x51.toNat).map eSi64)) (take3_run (f := eSi64) (l := a0) (i := ⟨.slice 2, 1, 24, (eSi64 [])⟩) rfl rfl rfl rfl (fun _ => rfl)) ⟨hc105.1, lmap_le hc105.2, rfl⟩ (vq (eSSi64 (a0.take x51.toNat)) (asg_tight (i := ⟨.slice 2, 1, 24, (eSi64 [])⟩) (f := eSi64) (l := (a0.take x51.toNat)) rfl rfl rfl) trivial (nx _ rfl (a_ret ?_)))
    refine ⟨.inr rfl, ?_⟩
    rw [Tryz.results28]
    cases h
    exact ⟨_, _, _, _, _, rfl, trivial, .inl ⟨rfl, .inl rfl⟩, rfl, rfl⟩
  · have h := hy53
    refine a_block ?_
    refine a_loop (emb := fun (s : Int) => ⟨[(0, (eSSi64 a0)), (3, (i6 s))], []⟩) (body := (fun s : Int => impl_skew_trimmed_l1 a0 s)) (G := fun q => some q = some y52) h rfl ?_ (by kernel_rfl)
    rintro X86 x70 x87 h hX88
    have h : impl_skew_trimmed_l1 a0 x70 = some x87 := h
    refine a_st (σ' := ⟨[(0, (eSSi64 a0)), (3, (i6 x70))], []⟩) (by kernel_rfl) (a_seq ?_)
    obtain ⟨y95, hy96, hk97⟩ := bind_some h
    clear h
    refine a_join (emb := fun (s : Bool) => ⟨[(0, (eSSi64 a0)), (3, (i6 x70)), (16, (.bool s))], []⟩) (pre := fun s => s = y95) ?_ ?_
    · rintro x94 rfl
      have h := hk97
      refine a_st (σ' := ⟨[(0, (eSSi64 a0)), (3, (i6 x70)), (16, (.bool x94))], []⟩) (by kernel_rfl) ?_
      cases hb103 : x94
      · have h := ite_f hb103 h
        refine a_cond_f rfl (a_exit (t_exit ?_))
        cases h
        have h := hX88
        refine t_exit (b_exit ?_)
        exact j_leaf x70 (Option.some.inj h) (by kernel_rfl)
      · have h := ite_t hb103 h
        refine a_cond_t rfl (a_skip (a_next (σ' := ⟨[(0, (eSSi64 a0)), (3, (i6 x70))], []⟩) (by kernel_rfl) (a_block (a_region (vp (i6 x70) rfl (vp (i6 (IntKind.i64.wrap (x70 - 1))) rfl (vp (i6 (IntKind.i64.wrap (x70 - 1))) rfl (a_nil (b_norm ?_)))))))))
        cases h
        exact a_again (by kernel_rfl) hX88
    · have h := hy96
      refine a_region (vp (i6 x70) rfl (vp (.bool ((decide (x70 > 0)))) rfl (vp (.bool ((decide (x70 > 0)))) rfl ?_)))
      cases hb98 : (decide (x70 > 0))
      · have h := ite_f hb98 h
        refine a_gskip rfl (a_gskip rfl (a_gskip rfl (a_gskip rfl (a_gskip rfl (a_gskip rfl (a_gskip rfl (vp (.bool false) rfl (a_nil ?_))))))))
        exact j_leaf false (Option.some.inj h) (by kernel_rfl)
      · have h := ite_t hb98 h
        refine gp (eSSi64 a0) rfl rfl (gp (i6 x70) rfl rfl (gp (i6 (IntKind.i64.wrap (x70 - 1))) rfl rfl ?_))
        obtain ⟨hc99, h⟩ := ifp_some h
        refine gq (.ref (.row 1 (a0.map eSi64)) [(IntKind.i64.wrap (x70 - 1)).toNat] [(IntKind.i64.wrap (x70 - 1)).toNat * 1]) rfl rfl (lmap hc99) ?_
        have hl100 : LdOk [(IntKind.i64.wrap (x70 - 1)).toNat] (.row 1 (a0.map eSi64)) [(IntKind.i64.wrap (x70 - 1)).toNat * 1] 1 false (eSi64 ((rd a0 (IntKind.i64.wrap (x70 - 1)).toNat))) := (.row (llt hc99) rfl (.nil rfl rfl rfl))
        refine gq (eSi64 ((rd a0 (IntKind.i64.wrap (x70 - 1)).toNat))) rfl (ld_ref (i := ⟨.slice 2, 1, 24, (eSi64 [])⟩) rfl rfl hl100) hl100.c (gq (i6 ((((rd a0 (IntKind.i64.wrap (x70 - 1)).toNat)).length : Int))) rfl (len_run rfl rfl) trivial ?_)
        obtain ⟨x101, hx102, h⟩ := letp_some h
        refine a_gval' rfl (v := (.bool ((((((rd a0 (IntKind.i64.wrap (x70 - 1)).toNat)).length : Int)) == 0)))) (v' := (.bool x101)) (u := []) (u' := []) rfl (congrArg (fun z => ((.bool z) : AV)) hx102) rfl trivial rfl (vp (.bool x101) rfl (a_nil ?_))
        exact j_leaf x101 (Option.some.inj h) (by kernel_rfl)
def impl_skewOf_c : ACode := (.seq (.region 0 [q 1 (.box 26 (t 0)), q 2 (.asg 1 (.const (.slice none 0 0)) 37)] false) (.seq (.region 1 [q 3 (.asg 2 (.const (.slice none 0 0)) 37)] false) (.seq (.seq (.region 2 [q 6 (.load 26 (t 1)), q 7 (.mov (.const (.int .i64 0)))] false) (.block 0 (.loop (.seq (.region 3 [q 8 (.bin .lss 3 (t 7) (.const (.int .i64 8)))] false) (.seq (.cond (t 8) .skip (.exit 0)) (.seq (.block 1 (.seq (.region 4 [q 9 (.index 26 (t 6) (t 7)), q 5 (.alloc 24), ⟨none, .store 24 (t 5) (t 9), none, []⟩] false) (.region 5 [q 10 (.mov (t 3)), q 11 (.load 24 (t 5)), q 12 (.call 0 (.func 25) [(t 11)]), q 13 (.bslice 0 37 1 [(0, (t 12))]), q 14 (.blt 0 .append [(t 10), (t 13)] [37, 37]), q 3 (.asg 2 (t 14) 37)] false))) (.region 6 [q 15 (.bin .add 3 (t 7) (.const (.int .i64 1))), q 7 (.mov (t 15))] false))))))) (.seq (.region 7 [q 16 (.mov (t 3)), q 17 (.call 0 (.func 28) [(t 16)]), q 2 (.asg 1 (t 17) 37)] false) .ret))))
def impl_skewOf_L : Live := [(0, [0]), (1, [1]), (2, [1, 3]), (3, [3, 6, 7]), (4, [3, 6, 7]), (5, [3, 5, 6, 7]), (6, [3, 6, 7]), (7, [3]), (100008, [3, 6, 7, 8])]
noncomputable def impl_skewOf_l1 (a0 : (Vec (Vec Int 64) 8)) (x41 : Int) (x42 : (List (List Int))) : Option ((Int × (List (List Int))) ⊕ (List (List Int))) :=
  (if (decide (x41 < 8)) then (ifp (0 ≤ x41 ∧ x41 < ((8 : Nat) : Int)) ((Option.bind (impl_rowOf (rd a0.1 x41.toNat)) fun r57 => (ifp ((x42.length + ([r57] : List (List Int)).length) * 24 ≤ 140737488355328) ((some (.inl ((IntKind.i64.wrap (x41 + 1), (x42 ++ ([r57]))))))))))) else (some (.inr x42)))
noncomputable def impl_skewOf (a0 : (Vec (Vec Int 64) 8)) : Option (List (List Int)) :=
  (Option.bind (α := (List (List Int))) ((loopM (fun s : (Int × (List (List Int))) => impl_skewOf_l1 a0 s.1 s.2) (0, []))) fun x29 => (Option.bind (impl_skew_trimmed x29) fun r61 => (some r61)))
theorem impl_skewOf_ok (a0 : (Vec (Vec Int 64) 8)) (r : (List (List Int))) (h : impl_skewOf a0 = some r) : Den Tryz.prog 15 [(eA8A64u8 a0)] { r := (eSSi64 r) } := by
  refine den_of (rs := [(eSSi64 r)]) (ac := impl_skewOf_c) (L := impl_skewOf_L) (n := 18) (m := [(2, 1), (3, 2)]) (c := Tryz.f15.body.getD .skip) good Tryz.func15 (by kernel_rfl) (by kernel_rfl) Tryz.ntmps15 rfl rfl (by kernel_rfl) rfl rfl ?_
  refine a_st (σ' := ⟨[(0, (eA8A64u8 a0))], []⟩) (by kernel_rfl) ?_
  unfold impl_skewOf_c
  refine sr (vo 1100 (eA8A64u8 a0) rfl rfl (vp (eSSi64 ([])) rfl (nx ⟨[(1, (ow 1))], [(1, (bk (eA8A64u8 a0)))]⟩ (by kernel_rfl) (sr (vu (.osl 1300) [(1300, (bk (.row 1 (([]).map eSi64))))] rfl trivial rfl (nx ⟨[(1, (ow 1)), (3, (.osl 3))], [(1, (bk (eA8A64u8 a0))), (3, (bk (.row 1 (([]).map eSi64))))]⟩ (by kernel_rfl) ?_))))))
  obtain ⟨y30, hy31, hk32⟩ := bind_some h
  clear h
  refine a_join (emb := fun (s : (List (List Int))) => ⟨[(3, (.osl 3))], [(3, (bk (.row 1 (s.map eSi64))))]⟩) (pre := fun s => s = y30) ?_ ?_
  · rintro x29 rfl
    have h := hk32
    refine a_st (σ' := ⟨[(3, (.osl 3))], [(3, (bk (.row 1 (x29.map eSi64))))]⟩) (by kernel_rfl) (sr (vp (.osl 3) rfl ?_))
    obtain ⟨r61, hr62, h⟩ := bind_some h
    refine a_call (args := [(eSSi64 x29)]) (u := [(3, (bf (.row 1 (x29.map eSi64))))]) (r := (eSSi64 r61)) rfl rfl (impl_skew_trimmed_ok x29 r61 hr62) rfl (vp (eSSi64 r61) rfl (nx _ rfl (a_ret ?_)))
    refine ⟨.inr rfl, ?_⟩
    rw [Tryz.results15]
    cases h
    exact ⟨_, _, _, _, _, rfl, trivial, .inl ⟨rfl, .inl rfl⟩, rfl, rfl⟩
  · have h := hy31
    refine sr (vl (eA8A64u8 a0) rfl rfl rfl rfl rfl rfl (vp (i6 0) rfl (nx ⟨[(3, (.osl 3)), (6, (eA8A64u8 a0)), (7, (i6 0))], [(3, (bk (.row 1 (([]).map eSi64))))]⟩ (by kernel_rfl) (a_block ?_))))
    refine a_loop (emb := fun (s : (Int × (List (List Int)))) => ⟨[(3, (.osl 3)), (6, (eA8A64u8 a0)), (7, (i6 s.1))], [(3, (bk (.row 1 (s.2.map eSi64))))]⟩) (body := (fun s : (Int × (List (List Int))) => impl_skewOf_l1 a0 s.1 s.2)) (G := fun q => some q = some y30) h rfl ?_ (by kernel_rfl)
    rintro X50 ⟨x41, x42⟩ x51 h hX52
    have h : impl_skewOf_l1 a0 x41 x42 = some x51 := h
    refine a_st (σ' := ⟨[(3, (.osl 3)), (6, (eA8A64u8 a0)), (7, (i6 x41))], [(3, (bk (.row 1 (x42.map eSi64))))]⟩) (by kernel_rfl) (sr (vp (.bool ((decide (x41 < 8)))) rfl (nx ⟨[(3, (.osl 3)), (6, (eA8A64u8 a0)), (7, (i6 x41)), (8, (.bool ((decide (x41 < 8)))))], [(3, (bk (.row 1 (x42.map eSi64))))]⟩ (by kernel_rfl) (a_seq ?_))))
    cases hb53 : (decide (x41 < 8))
    · have h := ite_f hb53 h
      refine a_cond_f rfl (a_exit (t_exit ?_))
      cases h
      have h := hX52
      refine t_exit (b_exit ?_)
      exact j_leaf x42 (Option.some.inj h) (by kernel_rfl)
    · have h := ite_t hb53 h
      refine a_cond_t rfl (a_skip (a_next (σ' := ⟨[(3, (.osl 3)), (6, (eA8A64u8 a0)), (7, (i6 x41))], [(3, (bk (.row 1 (x42.map eSi64))))]⟩) (by kernel_rfl) (a_seq (a_block (sr ?_)))))
      obtain ⟨hc54, h⟩ := ifp_some h
      refine vq (eA64u8 (rd a0.1 x41.toNat)) (ix_run (i := ⟨.arr 64 5, 64, 64, (eA64u8 (vrep 64 (0 : Int)))⟩) (f := eA64u8) rfl rfl rfl rfl (vlt a0 hc54)) ⟨hc54.1, hc54.2, rfl, rfl, rfl, rfl⟩ (vo 1500 (eA64u8 ((vrep 64 (0 : Int)))) rfl rfl (vs (eA64u8 (rd a0.1 x41.toNat)) rfl rfl (fun _ => rfl) rfl rfl rfl rfl rfl rfl (nx ⟨[(3, (.osl 3)), (5, (ow 5)), (6, (eA8A64u8 a0)), (7, (i6 x41))], [(3, (bk (.row 1 (x42.map eSi64)))), (5, (bk (eA64u8 (rd a0.1 x41.toNat))))]⟩ (by kernel_rfl) (a_region (vp (.osl 3) rfl (vl (eA64u8 (rd a0.1 x41.toNat)) rfl rfl rfl rfl rfl rfl ?_))))))
      obtain ⟨r57, hr58, h⟩ := bind_some h
      refine a_call (args := [(eA64u8 (rd a0.1 x41.toNat))]) (u := []) (r := (eSi64 r57)) rfl rfl (impl_rowOf_ok (rd a0.1 x41.toNat) r57 hr58) rfl (vq (.sl 1 true (([r57]).map eSi64)) rfl ⟨(Nat.le_of_ble_eq_true rfl), (Nat.le_of_ble_eq_true rfl), (all_cons ⟨(Nat.le_of_ble_eq_true rfl), rfl⟩ all_nil)⟩ ?_)
      obtain ⟨hc59, h⟩ := ifp_some h
      refine vu (.osl 2400) [(2400, (bk (.row 1 (((x42 ++ ([r57]))).map eSi64)))), (3, none)] (app_run (i := ⟨.slice 2, 1, 24, (eSi64 [])⟩) (f := eSi64) (l := x42) (l2 := [r57]) rfl rfl rfl rfl (fun _ => rfl) rfl rfl) (app_c (f := eSi64) (s := 1) (sz := 1) (by' := 24) (u := []) (id := 3) hc59 (.inr rfl) rfl rfl rfl) rfl (vp (.osl 2400) rfl (a_nil (b_norm (a_next (σ' := ⟨[(3, (.osl 3)), (6, (eA8A64u8 a0)), (7, (i6 x41))], [(3, (bk (.row 1 (((x42 ++ ([r57]))).map eSi64))))]⟩) (by kernel_rfl) (a_region (vp (i6 (IntKind.i64.wrap (x41 + 1))) rfl (vp (i6 (IntKind.i64.wrap (x41 + 1))) rfl (a_nil ?_))))))))
      cases h
      exact a_again (by kernel_rfl) hX52
def impl_skew_at_c : ACode := (.seq (.region 0 [q 4 (.asg 1 (.const (.slice none 0 0)) 40)] false) (.seq (.seq (.region 1 [q 5 (.mov (t 1)), q 6 (.mov (t 0)), q 7 (.blt 0 .len [(t 6)] [37]), q 8 (.bin .lss 3 (t 5) (t 7))] false) (.cond (t 8) (.seq (.region 2 [q 9 (.mov (t 0)), q 10 (.mov (t 1)), q 11 (.indexAddr 37 (t 9) (t 10)), q 12 (.load 40 (t 11)), q 4 (.asg 1 (t 12) 40)] false) .ret) .skip)) (.seq (.region 3 [q 4 (.asg 1 (.const (.slice none 0 0)) 40)] false) .ret)))
def impl_skew_at_L : Live := [(0, [0, 1]), (1, [0, 1]), (2, [0, 1]), (3, []), (100008, [0, 1, 8])]
noncomputable def impl_skew_at (a0 : (List (List Int))) (a1 : Int) : Option (List Int) :=
  (if (decide (a1 < (a0.length : Int))) then (ifp (0 ≤ a1 ∧ a1 < ((a0.length : Nat) : Int)) ((some (rd a0 a1.toNat)))) else (some ([])))
theorem impl_skew_at_ok (a0 : (List (List Int))) (a1 : Int) (r : (List Int)) (h : impl_skew_at a0 a1 = some r) : Den Tryz.prog 27 [(eSSi64 a0), (i6 a1)] { r := (eSi64 r) } := by
  refine den_of (rs := [(eSi64 r)]) (ac := impl_skew_at_c) (L := impl_skew_at_L) (n := 13) (m := [(4, 1)]) (c := Tryz.f27.body.getD .skip) good Tryz.func27 (by kernel_rfl) (by kernel_rfl) Tryz.ntmps27 rfl rfl (by kernel_rfl) rfl rfl ?_
  refine a_st (σ' := ⟨[(0, (eSSi64 a0)), (1, (i6 a1))], []⟩) (by kernel_rfl) ?_
  unfold impl_skew_at_c
  refine sr (vp (eSi64 ([])) rfl (nx ⟨[(0, (eSSi64 a0)), (1, (i6 a1))], []⟩ (by kernel_rfl) (a_seq (sr (vp (i6 a1) rfl (vp (eSSi64 a0) rfl (vq (i6 (a0.length : Int)) (len_run rfl rfl) trivial (vp (.bool ((decide (a1 < (a0.length : Int))))) rfl (nx ⟨[(0, (eSSi64 a0)), (1, (i6 a1)), (8, (.bool ((decide (a1 < (a0.length : Int))))))], []⟩ (by kernel_rfl) ?_)))))))))
  cases hb1 : (decide (a1 < (a0.length : Int)))
  · have h := ite_f hb1 h
    refine a_cond_f rfl (a_skip (a_next (σ' := ⟨[], []⟩) (by kernel_rfl) (sr (vp (eSi64 ([])) rfl (nx _ rfl (a_ret ?_))))))
    refine ⟨.inr rfl, ?_⟩
    rw [Tryz.results27]
    cases h
    exact ⟨_, _, _, _, _, rfl, trivial, .inl ⟨rfl, .inl rfl⟩, rfl, rfl⟩
  · have h := ite_t hb1 h
    refine a_cond_t rfl (sr (vp (eSSi64 a0) rfl (vp (i6 a1) rfl ?_)))
    obtain ⟨hc2, h⟩ := ifp_some h
    refine vq (.ref (.row 1 (a0.map eSi64)) [a1.toNat] [a1.toNat * 1]) rfl (lmap hc2) ?_
    have hl3 : LdOk [a1.toNat] (.row 1 (a0.map eSi64)) [a1.toNat * 1] 1 false (eSi64 (rd a0 a1.toNat)) := (.row (llt hc2) rfl (.nil rfl rfl rfl))
    refine vq (eSi64 (rd a0 a1.toNat)) (ld_ref (i := ⟨.slice 2, 1, 24, (eSi64 [])⟩) rfl rfl hl3) hl3.c (vp (eSi64 (rd a0 a1.toNat)) rfl (nx _ rfl (a_ret (t_ret ?_))))
    refine ⟨.inr rfl, ?_⟩
    rw [Tryz.results27]
    cases h
    exact ⟨_, _, _, _, _, rfl, trivial, .inl ⟨rfl, .inl rfl⟩, rfl, rfl⟩
def impl_field_plus_c : ACode := (.seq (.region 0 [q 4 (.box 42 (t 0)), q 8 (.asg 1 (.const (.slice none 0 0)) 37)] false) (.seq (.region 1 [q 11 (.mov (t 1)), q 12 (.blt 0 .len [(t 11)] [37]), q 13 (.mov (t 2)), q 14 (.blt 0 .len [(t 13)] [37]), q 15 (.blt 0 .max [(t 12), (t 14)] [3, 3]), q 16 (.mkslice 37 (t 15) (t 15)), q 9 (.asg 2 (t 16) 37)] false) (.seq (.seq (.region 2 [q 17 (.mov (t 9)), q 18 (.blt 0 .len [(t 17)] [37]), q 19 (.mov (.const (.int .i64 0)))] false) (.block 0 (.loop (.seq (.region 3 [q 20 (.bin .lss 3 (t 19) (t 18))] false) (.seq (.cond (t 20) .skip (.exit 0)) (.seq (.block 1 (.seq (.region 4 [q 21 (.mov (t 19)), q 10 (.asg 0 (t 21) 3)] false) (.region 5 [q 22 (.mov (t 9)), q 23 (.mov (t 10)), q 24 (.fieldAddr 42 (t 4) 0), ⟨some 25, .load 38 (t 24), none, [2]⟩, q 26 (.mov (t 1)), q 27 (.mov (t 10)), ⟨some 28, .call 0 (.func 27) [(t 26), (t 27)], none, [4, 5]⟩, q 29 (.mov (t 2)), q 30 (.mov (t 10)), ⟨some 31, .call 0 (.func 27) [(t 29), (t 30)], none, [7, 8, 6]⟩, q 32 (.mov (t 3)), ⟨some 33, .call 0 (.func 26) [(t 25), (t 28), (t 31), (t 32)], none, [3, 6, 9, 10, 9]⟩, ⟨some 34, .indexAddr 37 (t 22) (t 23), none, [0, 1, 0, 1, 2, 3, 4, 5, 6, 7, 8, 9, 10, 11]⟩, ⟨none, .store 40 (t 34) (t 33), none, [12, 11, 11, 0, 1, 2, 3, 4, 5, 6, 7, 8, 9, 10, 11]⟩] true))) (.region 6 [q 35 (.bin .add 3 (t 19) (.const (.int .i64 1))), q 19 (.mov (t 35))] false))))))) (.seq (.region 7 [q 36 (.mov (t 9)), q 37 (.call 0 (.func 28) [(t 36)]), q 8 (.asg 1 (t 37) 37)] false) .ret))))
def impl_field_plus_L : Live := [(0, [0, 1, 2, 3]), (1, [1, 2, 3, 4]), (2, [1, 2, 3, 4, 9]), (3, [1, 2, 3, 4, 9, 18, 19]), (4, [1, 2, 3, 4, 9, 18, 19]), (5, [1, 2, 3, 4, 9, 10, 18, 19]), (6, [1, 2, 3, 4, 9, 18, 19]), (7, [9]), (100020, [1, 2, 3, 4, 9, 18, 19, 20])]
noncomputable def impl_field_plus_l1 (x1 : Int) (a1 : (List (List Int))) (a2 : (List (List Int))) (a0 : (Int × (List Int))) (a3 : Int) (x98 : Int) (x99 : (List (List Int))) : Option ((Int × (List (List Int))) ⊕ (List (List Int))) :=
  (letp ((decide (x98 < (((List.replicate x1.toNat ([] : (List Int))).length : Int))))) fun x124 => (if x124 then (Option.bind (impl_skew_at a1 x98) fun r137 => (Option.bind (impl_skew_at a2 x98) fun r139 => (Option.bind (impl_prime_combine a0.1 r137 r139 a3) fun r141 => (ifp (0 ≤ x98 ∧ x98 < ((x99.length : Nat) : Int)) ((some (.inl ((IntKind.i64.wrap (x98 + 1), (x99.set x98.toNat r141)))))))))) else (some (.inr x99))))
noncomputable def impl_field_plus (a0 : (Int × (List Int))) (a1 : (List (List Int))) (a2 : (List (List Int))) (a3 : Int) : Option (List (List Int)) :=
  (letp ((if (a2.length : Int) > (a1.length : Int) then (a2.length : Int) else (a1.length : Int))) fun x1 => (ifp (0 ≤ x1 ∧ x1 ≤ 140737488355328 ∧ 24 * x1 ≤ 140737488355328) ((Option.bind (α := (List (List Int))) ((loopM (fun s : (Int × (List (List Int))) => impl_field_plus_l1 x1 a1 a2 a0 a3 s.1 s.2) (0, List.replicate x1.toNat ([] : (List Int))))) fun x73 => (Option.bind (impl_skew_trimmed x73) fun r146 => (some r146))))))
theorem impl_field_plus_ok (a0 : (Int × (List Int))) (a1 : (List (List Int))) (a2 : (List (List Int))) (a3 : Int) (r : (List (List Int))) (h : impl_field_plus a0 a1 a2 a3 = some r) : Den Tryz.prog 14 [(eT_i64_Si64_Z a0), (eSSi64 a1), (eSSi64 a2), (i6 a3)] { r := (eSSi64 r) } := by
  refine den_of (rs := [(eSSi64 r)]) (ac := impl_field_plus_c) (L := impl_field_plus_L) (n := 38) (m := [(8, 1), (9, 2)]) (c := Tryz.f14.body.getD .skip) good Tryz.func14 (by kernel_rfl) (by kernel_rfl) Tryz.ntmps14 rfl rfl (by kernel_rfl) rfl rfl ?_
  refine a_st (σ' := ⟨[(0, (eT_i64_Si64_Z a0)), (1, (eSSi64 a1)), (2, (eSSi64 a2)), (3, (i6 a3))], []⟩) (by kernel_rfl) ?_
  unfold impl_field_plus_c
  refine sr (vo 1400 (eT_i64_Si64_Z a0) rfl rfl (vp (eSSi64 ([])) rfl (nx ⟨[(1, (eSSi64 a1)), (2, (eSSi64 a2)), (3, (i6 a3)), (4, (ow 4))], [(4, (bk (eT_i64_Si64_Z a0)))]⟩ (by kernel_rfl) (sr (vp (eSSi64 a1) rfl (vq (i6 (a1.length : Int)) (len_run rfl rfl) trivial (vp (eSSi64 a2) rfl (vq (i6 (a2.length : Int)) (len_run rfl rfl) trivial ?_))))))))
  obtain ⟨x1, hx2, h⟩ := letp_some h
  refine a_val' (v := (i6 ((if (a2.length : Int) > (a1.length : Int) then (a2.length : Int) else (a1.length : Int))))) (v' := (i6 x1)) (u := []) (u' := []) rfl (congrArg (fun z => ((i6 z) : AV)) hx2) rfl trivial rfl ?_
  obtain ⟨hc3, h⟩ := ifp_some h
  refine vu (.osl 2600) [(2600, (bk (.row 1 ((List.replicate x1.toNat ([] : (List Int))).map eSi64))))] (mk_run (i := ⟨.slice 2, 1, 24, (eSi64 [])⟩) (f := eSi64) (y := []) rfl rfl rfl rfl rfl rfl) ⟨rfl, hc3.1, hc3.2.1, hc3.2.2, (Nat.le_of_ble_eq_true rfl)⟩ rfl (vp (.osl 2600) rfl (nx ⟨[(1, (eSSi64 a1)), (2, (eSSi64 a2)), (3, (i6 a3)), (4, (ow 4)), (9, (.osl 9))], [(4, (bk (eT_i64_Si64_Z a0))), (9, (bk (.row 1 ((List.replicate x1.toNat ([] : (List Int))).map eSi64))))]⟩ (by kernel_rfl) ?_))
  obtain ⟨y74, hy75, hk76⟩ := bind_some h
  clear h
  refine a_join (emb := fun (s : (List (List Int))) => ⟨[(9, (.osl 9))], [(9, (bk (.row 1 (s.map eSi64))))]⟩) (pre := fun s => s = y74) ?_ ?_
  · rintro x73 rfl
    have h := hk76
    refine a_st (σ' := ⟨[(9, (.osl 9))], [(9, (bk (.row 1 (x73.map eSi64))))]⟩) (by kernel_rfl) (sr (vp (.osl 9) rfl ?_))
    obtain ⟨r146, hr147, h⟩ := bind_some h
    refine a_call (args := [(eSSi64 x73)]) (u := [(9, (bf (.row 1 (x73.map eSi64))))]) (r := (eSSi64 r146)) rfl rfl (impl_skew_trimmed_ok x73 r146 hr147) rfl (vp (eSSi64 r146) rfl (nx _ rfl (a_ret ?_)))
    refine ⟨.inr rfl, ?_⟩
    rw [Tryz.results14]
    cases h
    exact ⟨_, _, _, _, _, rfl, trivial, .inl ⟨rfl, .inl rfl⟩, rfl, rfl⟩
  · have h := hy75
    refine sr (vp (.osl 9) rfl (vq (i6 (((List.replicate x1.toNat ([] : (List Int))).length : Int))) (leno_run rfl rfl rfl) trivial (vp (i6 0) rfl (nx ⟨[(1, (eSSi64 a1)), (2, (eSSi64 a2)), (3, (i6 a3)), (4, (ow 4)), (9, (.osl 9)), (18, (i6 (((List.replicate x1.toNat ([] : (List Int))).length : Int)))), (19, (i6 0))], [(4, (bk (eT_i64_Si64_Z a0))), (9, (bk (.row 1 ((List.replicate x1.toNat ([] : (List Int))).map eSi64))))]⟩ (by kernel_rfl) (a_block ?_)))))
    refine a_loop (emb := fun (s : (Int × (List (List Int)))) => ⟨[(1, (eSSi64 a1)), (2, (eSSi64 a2)), (3, (i6 a3)), (4, (ow 4)), (9, (.osl 9)), (18, (i6 (((List.replicate x1.toNat ([] : (List Int))).length : Int)))), (19, (i6 s.1))], [(4, (bk (eT_i64_Si64_Z a0))), (9, (bk (.row 1 (s.2.map eSi64))))]⟩) (body := (fun s : (Int × (List (List Int))) => impl_field_plus_l1 x1 a1 a2 a0 a3 s.1 s.2)) (G := fun q => some q = some y74) h rfl ?_ (by kernel_rfl)
    rintro X121 ⟨x98, x99⟩ x122 h hX123
    have h : impl_field_plus_l1 x1 a1 a2 a0 a3 x98 x99 = some x122 := h
    refine a_st (σ' := ⟨[(1, (eSSi64 a1)), (2, (eSSi64 a2)), (3, (i6 a3)), (4, (ow 4)), (9, (.osl 9)), (18, (i6 (((List.replicate x1.toNat ([] : (List Int))).length : Int)))), (19, (i6 x98))], [(4, (bk (eT_i64_Si64_Z a0))), (9, (bk (.row 1 (x99.map eSi64))))]⟩) (by kernel_rfl) (sr ?_)
    obtain ⟨x124, hx125, h⟩ := letp_some h
    refine a_val' (v := (.bool ((decide (x98 < (((List.replicate x1.toNat ([] : (List Int))).length : Int))))))) (v' := (.bool x124)) (u := []) (u' := []) rfl (congrArg (fun z => ((.bool z) : AV)) hx125) rfl trivial rfl (nx ⟨[(1, (eSSi64 a1)), (2, (eSSi64 a2)), (3, (i6 a3)), (4, (ow 4)), (9, (.osl 9)), (18, (i6 (((List.replicate x1.toNat ([] : (List Int))).length : Int)))), (19, (i6 x98)), (20, (.bool x124))], [(4, (bk (eT_i64_Si64_Z a0))), (9, (bk (.row 1 (x99.map eSi64))))]⟩ (by kernel_rfl) (a_seq ?_))
    cases hb126 : x124
    · have h := ite_f hb126 h
      refine a_cond_f rfl (a_exit (t_exit ?_))
      cases h
      have h := hX123
      refine t_exit (b_exit ?_)
      exact j_leaf x99 (Option.some.inj h) (by kernel_rfl)
    · have h := ite_t hb126 h
      refine a_cond_t rfl (a_skip (a_next (σ' := ⟨[(1, (eSSi64 a1)), (2, (eSSi64 a2)), (3, (i6 a3)), (4, (ow 4)), (9, (.osl 9)), (18, (i6 (((List.replicate x1.toNat ([] : (List Int))).length : Int)))), (19, (i6 x98))], [(4, (bk (eT_i64_Si64_Z a0))), (9, (bk (.row 1 (x99.map eSi64))))]⟩) (by kernel_rfl) (a_seq (a_block (sr (vp (i6 x98) rfl (vp (i6 x98) rfl (nx ⟨[(1, (eSSi64 a1)), (2, (eSSi64 a2)), (3, (i6 a3)), (4, (ow 4)), (9, (.osl 9)), (10, (i6 x98)), (18, (i6 (((List.replicate x1.toNat ([] : (List Int))).length : Int)))), (19, (i6 x98))], [(4, (bk (eT_i64_Si64_Z a0))), (9, (bk (.row 1 (x99.map eSi64))))]⟩ (by kernel_rfl) (a_draw [⟨[], [], [9], []⟩, ⟨[], [], [], []⟩, ⟨[4], [], [4], []⟩, ⟨[4], [], [], [2]⟩, ⟨[], [], [], []⟩, ⟨[], [], [], []⟩, ⟨[], [], [], [4, 5]⟩, ⟨[], [], [], []⟩, ⟨[], [], [], []⟩, ⟨[], [], [], [4, 5, 6, 7, 8]⟩, ⟨[], [], [], []⟩, ⟨[], [], [], [2, 3, 4, 5, 6, 7, 8, 9, 10]⟩, ⟨[9], [], [9], [0, 1, 2, 3, 4, 5, 6, 7, 8, 9, 10, 11]⟩, ⟨[9], [9], [], [0, 1, 2, 3, 4, 5, 6, 7, 8, 9, 10, 11, 12]⟩] (by kernel_rfl) ?_)))))))))
      refine dp (.osl 9) rfl (by kernel_rfl) (dp (i6 x98) rfl (by kernel_rfl) (d_cons (vb (.own 4 [0] [0]) rfl rfl (d_next (by kernel_rfl) (d_cons ?_)))))
      have hl136 : LdOk [0] (eT_i64_Si64_Z a0) [0] 1 false (i6 a0.1) := (.fld rfl rfl rfl rfl (.nil rfl rfl rfl))
      refine vq (i6 a0.1) (ld_own (i := ⟨.int .i64, 1, 8, (.int .i64 0)⟩) rfl rfl rfl hl136) hl136.c (d_next (by kernel_rfl) (dp (eSSi64 a1) rfl (by kernel_rfl) (dp (i6 x98) rfl (by kernel_rfl) (d_cons ?_))))
      obtain ⟨r137, hr138, h⟩ := bind_some h
      refine a_call (args := [(eSSi64 a1), (i6 x98)]) (u := []) (r := (eSi64 r137)) rfl rfl (impl_skew_at_ok a1 x98 r137 hr138) rfl (d_next (by kernel_rfl) (dp (eSSi64 a2) rfl (by kernel_rfl) (dp (i6 x98) rfl (by kernel_rfl) (d_cons ?_))))
      obtain ⟨r139, hr140, h⟩ := bind_some h
      refine a_call (args := [(eSSi64 a2), (i6 x98)]) (u := []) (r := (eSi64 r139)) rfl rfl (impl_skew_at_ok a2 x98 r139 hr140) rfl (d_next (by kernel_rfl) (dp (i6 a3) rfl (by kernel_rfl) (d_cons ?_)))
      obtain ⟨r141, hr142, h⟩ := bind_some h
      refine a_call (args := [(i6 a0.1), (eSi64 r137), (eSi64 r139), (i6 a3)]) (u := []) (r := (eSi64 r141)) rfl rfl (impl_prime_combine_ok a0.1 r137 r139 a3 r141 hr142) rfl (d_next (by kernel_rfl) (d_cons ?_))
      obtain ⟨hc143, h⟩ := ifp_some h
      refine vq (.own 9 [x98.toNat] [x98.toNat * 1]) rfl (lmap hc143) (d_next (by kernel_rfl) (d_cons ?_))
      have hs144 : StOk [x98.toNat] (.row 1 (x99.map eSi64)) [x98.toNat * 1] 1 (eSi64 r141) (.row 1 ((x99.set x98.toNat r141).map eSi64)) := (.row (y := r141) (llt hc143) rfl (.nil rfl rfl rfl rfl))
      refine vu .top [(9, (bk (.row 1 ((x99.set x98.toNat r141).map eSi64))))] (st_own (i := ⟨.slice 2, 1, 24, (eSi64 [])⟩) rfl rfl (fun _ => rfl) rfl hs144) (hs144.c rfl) rfl (d_next (by kernel_rfl) (d_nil (b_norm (a_next (σ' := ⟨[(1, (eSSi64 a1)), (2, (eSSi64 a2)), (3, (i6 a3)), (4, (ow 4)), (9, (.osl 9)), (18, (i6 (((List.replicate x1.toNat ([] : (List Int))).length : Int)))), (19, (i6 x98))], [(4, (bk (eT_i64_Si64_Z a0))), (9, (bk (.row 1 ((x99.set x98.toNat r141).map eSi64))))]⟩) (by kernel_rfl) (a_region (vp (i6 (IntKind.i64.wrap (x98 + 1))) rfl (vp (i6 (IntKind.i64.wrap (x98 + 1))) rfl (a_nil ?_))))))))
      cases h
      exact a_again (by kernel_rfl) hX123
def impl_skew_degree_c : ACode := (.seq (.region 0 [q 2 (.asg 0 (.const (.int .i64 0)) 2)] false) (.seq (.region 1 [q 3 (.mov (t 0)), q 4 (.blt 0 .len [(t 3)] [37]), q 5 (.bin .sub 2 (t 4) (.const (.int .i64 1))), q 2 (.asg 0 (t 5) 2)] false) .ret))
def impl_skew_degree_L : Live := [(0, [0]), (1, [0])]
noncomputable def impl_skew_degree (a0 : (List (List Int))) : Option Int :=
  (some (IntKind.i64.wrap ((a0.length : Int) - 1)))
theorem impl_skew_degree_ok (a0 : (List (List Int))) (r : Int) (h : impl_skew_degree a0 = some r) : Den Tryz.prog 23 [(eSSi64 a0)] { r := (i6 r) } := by
  refine den_of (rs := [(i6 r)]) (ac := impl_skew_degree_c) (L := impl_skew_degree_L) (n := 6) (m := []) (c := Tryz.f23.body.getD .skip) good Tryz.func23 (by kernel_rfl) (by kernel_rfl) Tryz.ntmps23 rfl rfl (by kernel_rfl) rfl rfl ?_
  refine a_st (σ' := ⟨[(0, (eSSi64 a0))], []⟩) (by kernel_rfl) ?_
  unfold impl_skew_degree_c
  refine sr (vp (i6 0) rfl (nx ⟨[(0, (eSSi64 a0))], []⟩ (by kernel_rfl) (sr (vp (eSSi64 a0) rfl (vq (i6 (a0.length : Int)) (len_run rfl rfl) trivial (vp (i6 (IntKind.i64.wrap ((a0.length : Int) - 1))) rfl (vp (i6 (IntKind.i64.wrap ((a0.length : Int) - 1))) rfl (nx _ rfl (a_ret ?_)))))))))
  refine ⟨.inr rfl, ?_⟩
  rw [Tryz.results23]
  cases h
  exact ⟨_, _, _, _, _, rfl, trivial, .inl ⟨rfl, .inl rfl⟩, rfl, rfl⟩
def impl_row_poly_c : ACode := (.seq (.region 0 [q 2 (.alloc 24)] false) (.seq (.region 1 [q 3 (.alloc 24)] false) (.seq (.seq (.region 2 [q 6 (.mov (t 0)), q 7 (.blt 0 .len [(t 6)] [40]), q 8 (.mov (.const (.int .i64 0)))] false) (.block 0 (.loop (.seq (.region 3 [q 9 (.bin .lss 3 (t 8) (t 7))] false) (.seq (.cond (t 9) .skip (.exit 0)) (.seq (.block 1 (.seq (.region 4 [q 10 (.mov (t 8)), q 11 (.indexAddr 40 (t 6) (t 8)), q 12 (.load 2 (t 11)), q 4 (.asg 0 (t 10) 3), q 5 (.asg 0 (t 12) 2)] false) (.region 5 [q 13 (.mov (t 4)), q 14 (.mov (t 5)), q 15 (.conv 2 5 (t 14)), q 16 (.indexAddr 24 (t 3) (t 13)), ⟨none, .store 5 (t 16) (t 15), none, []⟩] false))) (.region 6 [q 17 (.bin .add 3 (t 8) (.const (.int .i64 1))), q 8 (.mov (t 17))] false))))))) (.seq (.region 7 [q 18 (.load 24 (t 3)), ⟨none, .store 24 (t 2) (t 18), none, []⟩] false) .ret))))
def impl_row_poly_L : Live := [(0, [0]), (1, [0, 2]), (2, [0, 2, 3]), (3, [2, 3, 6, 7, 8]), (4, [2, 3, 6, 7, 8]), (5, [2, 3, 4, 5, 6, 7, 8]), (6, [2, 3, 6, 7, 8]), (7, [2, 3]), (100009, [2, 3, 6, 7, 8, 9])]
noncomputable def impl_row_poly_l1 (a0 : (List Int)) (x31 : Int) (x32 : (Vec Int 64)) : Option ((Int × (Vec Int 64)) ⊕ (Vec Int 64)) :=
  (if (decide (x31 < (a0.length : Int))) then (ifp (0 ≤ x31 ∧ x31 < ((a0.length : Nat) : Int)) ((ifp (0 ≤ x31 ∧ x31 < ((64 : Nat) : Int)) ((some (.inl ((IntKind.i64.wrap (x31 + 1), (vset x32 x31.toNat (IntKind.u8.wrap (rd a0 x31.toNat))))))))))) else (some (.inr x32)))
noncomputable def impl_row_poly (a0 : (List Int)) : Option (Vec Int 64) :=
  (Option.bind (α := (Vec Int 64)) ((loopM (fun s : (Int × (Vec Int 64)) => impl_row_poly_l1 a0 s.1 s.2) (0, (vrep 64 (0 : Int))))) fun x22 => (some x22))
theorem impl_row_poly_ok (a0 : (List Int)) (r : (Vec Int 64)) (h : impl_row_poly a0 = some r) : Den Tryz.prog 24 [(eSi64 a0)] { r := (eA64u8 r) } := by
  refine den_of (rs := [(eA64u8 r)]) (ac := impl_row_poly_c) (L := impl_row_poly_L) (n := 19) (m := []) (c := Tryz.f24.body.getD .skip) good Tryz.func24 (by kernel_rfl) (by kernel_rfl) Tryz.ntmps24 rfl rfl (by kernel_rfl) rfl rfl ?_
  refine a_st (σ' := ⟨[(0, (eSi64 a0))], []⟩) (by kernel_rfl) ?_
  unfold impl_row_poly_c
  refine sr (vo 1200 (eA64u8 ((vrep 64 (0 : Int)))) rfl rfl (nx ⟨[(0, (eSi64 a0)), (2, (ow 2))], [(2, (bk (eA64u8 ((vrep 64 (0 : Int))))))]⟩ (by kernel_rfl) (sr (vo 1300 (eA64u8 ((vrep 64 (0 : Int)))) rfl rfl (nx ⟨[(0, (eSi64 a0)), (2, (ow 2)), (3, (ow 3))], [(2, (bk (eA64u8 ((vrep 64 (0 : Int)))))), (3, (bk (eA64u8 ((vrep 64 (0 : Int))))))]⟩ (by kernel_rfl) ?_)))))
  obtain ⟨y23, hy24, hk25⟩ := bind_some h
  clear h
  refine a_join (emb := fun (s : (Vec Int 64)) => ⟨[(2, (ow 2)), (3, (ow 3))], [(2, (bk (eA64u8 ((vrep 64 (0 : Int)))))), (3, (bk (eA64u8 s)))]⟩) (pre := fun s => s = y23) ?_ ?_
  · rintro x22 rfl
    have h := hk25
    refine a_st (σ' := ⟨[(2, (ow 2)), (3, (ow 3))], [(2, (bk (eA64u8 ((vrep 64 (0 : Int)))))), (3, (bk (eA64u8 x22)))]⟩) (by kernel_rfl) (sr (vl (eA64u8 x22) rfl rfl rfl rfl rfl rfl (vs (eA64u8 x22) rfl rfl (fun _ => rfl) rfl rfl rfl rfl rfl rfl (nx _ rfl (a_ret ?_)))))
    have hl49 : LdOk [] (eA64u8 x22) [] 64 true (eA64u8 x22) := (.nil rfl rfl rfl)
    refine ⟨.inr rfl, ?_⟩
    rw [Tryz.results24]
    cases h
    exact ⟨_, _, _, _, _, ld_own (i := ⟨.arr 64 5, 64, 64, (eA64u8 (vrep 64 (0 : Int)))⟩) rfl rfl rfl hl49, hl49.c, .inl ⟨rfl, .inl rfl⟩, rfl, rfl⟩
  · have h := hy24
    refine sr (vp (eSi64 a0) rfl (vq (i6 (a0.length : Int)) (len_run rfl rfl) trivial (vp (i6 0) rfl (nx ⟨[(2, (ow 2)), (3, (ow 3)), (6, (eSi64 a0)), (7, (i6 (a0.length : Int))), (8, (i6 0))], [(2, (bk (eA64u8 ((vrep 64 (0 : Int)))))), (3, (bk (eA64u8 ((vrep 64 (0 : Int))))))]⟩ (by kernel_rfl) (a_block ?_)))))
    refine a_loop (emb := fun (s : (Int × (Vec Int 64))) => ⟨[(2, (ow 2)), (3, (ow 3)), (6, (eSi64 a0)), (7, (i6 (a0.length : Int))), (8, (i6 s.1))], [(2, (bk (eA64u8 ((vrep 64 (0 : Int)))))), (3, (bk (eA64u8 s.2)))]⟩) (body := (fun s : (Int × (Vec Int 64)) => impl_row_poly_l1 a0 s.1 s.2)) (G := fun q => some q = some y23) h rfl ?_ (by kernel_rfl)
    rintro X38 ⟨x31, x32⟩ x39 h hX40
    have h : impl_row_poly_l1 a0 x31 x32 = some x39 := h
    refine a_st (σ' := ⟨[(2, (ow 2)), (3, (ow 3)), (6, (eSi64 a0)), (7, (i6 (a0.length : Int))), (8, (i6 x31))], [(2, (bk (eA64u8 ((vrep 64 (0 : Int)))))), (3, (bk (eA64u8 x32)))]⟩) (by kernel_rfl) (sr (vp (.bool ((decide (x31 < (a0.length : Int))))) rfl (nx ⟨[(2, (ow 2)), (3, (ow 3)), (6, (eSi64 a0)), (7, (i6 (a0.length : Int))), (8, (i6 x31)), (9, (.bool ((decide (x31 < (a0.length : Int))))))], [(2, (bk (eA64u8 ((vrep 64 (0 : Int)))))), (3, (bk (eA64u8 x32)))]⟩ (by kernel_rfl) (a_seq ?_))))
    cases hb41 : (decide (x31 < (a0.length : Int)))
    · have h := ite_f hb41 h
      refine a_cond_f rfl (a_exit (t_exit ?_))
      cases h
      have h := hX40
      refine t_exit (b_exit ?_)
      exact j_leaf x32 (Option.some.inj h) (by kernel_rfl)
    · have h := ite_t hb41 h
      refine a_cond_t rfl (a_skip (a_next (σ' := ⟨[(2, (ow 2)), (3, (ow 3)), (6, (eSi64 a0)), (7, (i6 (a0.length : Int))), (8, (i6 x31))], [(2, (bk (eA64u8 ((vrep 64 (0 : Int)))))), (3, (bk (eA64u8 x32)))]⟩) (by kernel_rfl) (a_seq (a_block (sr (vp (i6 x31) rfl ?_))))))
      obtain ⟨hc42, h⟩ := ifp_some h
      refine vq (.ref (.row 1 (a0.map (AV.int .i64))) [x31.toNat] [x31.toNat * 1]) rfl (lmap hc42) ?_
      have hl43 : LdOk [x31.toNat] (.row 1 (a0.map (AV.int .i64))) [x31.toNat * 1] 1 false (i6 (rd a0 x31.toNat)) := (.row (llt hc42) rfl (.nil rfl rfl rfl))
      refine vq (i6 (rd a0 x31.toNat)) (ld_ref (i := ⟨.int .i64, 1, 8, (.int .i64 0)⟩) rfl rfl hl43) hl43.c (vp (i6 x31) rfl (vp (i6 (rd a0 x31.toNat)) rfl (nx ⟨[(2, (ow 2)), (3, (ow 3)), (4, (i6 x31)), (5, (i6 (rd a0 x31.toNat))), (6, (eSi64 a0)), (7, (i6 (a0.length : Int))), (8, (i6 x31))], [(2, (bk (eA64u8 ((vrep 64 (0 : Int)))))), (3, (bk (eA64u8 x32)))]⟩ (by kernel_rfl) (a_region (vp (i6 x31) rfl (vp (i6 (rd a0 x31.toNat)) rfl (vp (b8 (IntKind.u8.wrap (rd a0 x31.toNat))) rfl ?_)))))))
      obtain ⟨hc44, h⟩ := ifp_some h
      refine vq (.own 3 [x31.toNat] [x31.toNat * 1]) rfl hc44 ?_
      have hs45 : StOk [x31.toNat] (eA64u8 x32) [x31.toNat * 1] 1 (b8 (IntKind.u8.wrap (rd a0 x31.toNat))) (eA64u8 ((vset x32 x31.toNat (IntKind.u8.wrap (rd a0 x31.toNat))))) := (.arr (y := IntKind.u8.wrap (rd a0 x31.toNat)) (vlt x32 hc44) rfl (.nil rfl rfl rfl rfl))
      refine vu .top [(3, (bk (eA64u8 ((vset x32 x31.toNat (IntKind.u8.wrap (rd a0 x31.toNat)))))))] (st_own (i := ⟨.int .u8, 1, 1, (.int .u8 0)⟩) rfl rfl (fun _ => rfl) rfl hs45) (hs45.c rfl) rfl (a_nil (b_norm (a_next (σ' := ⟨[(2, (ow 2)), (3, (ow 3)), (6, (eSi64 a0)), (7, (i6 (a0.length : Int))), (8, (i6 x31))], [(2, (bk (eA64u8 ((vrep 64 (0 : Int)))))), (3, (bk (eA64u8 ((vset x32 x31.toNat (IntKind.u8.wrap (rd a0 x31.toNat)))))))]⟩) (by kernel_rfl) (a_region (vp (i6 (IntKind.i64.wrap (x31 + 1))) rfl (vp (i6 (IntKind.i64.wrap (x31 + 1))) rfl (a_nil ?_)))))))
      cases h
      exact a_again (by kernel_rfl) hX40
def impl_toldSkew_c : ACode := (.seq (.region 0 [q 2 (.alloc 26), q 3 (.asg 0 (.const (.int .i64 0)) 2)] false) (.seq (.region 1 [q 4 (.alloc 26)] false) (.seq (.seq (.region 2 [q 7 (.mov (t 0)), q 8 (.call 0 (.func 23) [(t 7)]), q 9 (.bin .gtr 2 (t 8) (.const (.int .i64 7)))] false) (.cond (t 9) (.seq (.region 3 [q 10 (.load 26 (t 4)), ⟨none, .store 26 (t 2) (t 10), none, []⟩, q 3 (.asg 0 (.const (.int .i64 3)) 2)] false) .ret) .skip)) (.seq (.seq (.region 4 [q 11 (.mov (t 0)), q 12 (.blt 0 .len [(t 11)] [37]), q 13 (.mov (.const (.int .i64 0)))] false) (.block 0 (.loop (.seq (.region 5 [q 14 (.bin .lss 3 (t 13) (t 12))] false) (.seq (.cond (t 14) .skip (.exit 0)) (.seq (.block 1 (.seq (.region 6 [q 15 (.mov (t 13)), q 16 (.indexAddr 37 (t 11) (t 13)), q 17 (.load 40 (t 16)), q 5 (.asg 0 (t 15) 3), q 6 (.asg 1 (t 17) 40)] false) (.region 7 [q 18 (.mov (t 5)), q 19 (.mov (t 6)), q 20 (.call 0 (.func 24) [(t 19)]), q 21 (.indexAddr 26 (t 4) (t 18)), ⟨none, .store 24 (t 21) (t 20), none, []⟩] false))) (.region 8 [q 22 (.bin .add 3 (t 13) (.const (.int .i64 1))), q 13 (.mov (t 22))] false))))))) (.seq (.region 9 [q 23 (.load 26 (t 4)), ⟨none, .store 26 (t 2) (t 23), none, []⟩, q 3 (.asg 0 (.const (.int .i64 0)) 2)] false) .ret)))))
def impl_toldSkew_L : Live := [(0, [0]), (1, [0, 2]), (2, [0, 2, 4]), (3, [2, 4]), (4, [0, 2, 4]), (5, [2, 4, 11, 12, 13]), (6, [2, 4, 11, 12, 13]), (7, [2, 4, 5, 6, 11, 12, 13]), (8, [2, 4, 11, 12, 13]), (9, [2, 4]), (100009, [0, 2, 4, 9]), (100014, [2, 4, 11, 12, 13, 14])]
noncomputable def impl_toldSkew_l1 (a0 : (List (List Int))) (x42 : Int) (x43 : (Vec (Vec Int 64) 8)) : Option ((Int × (Vec (Vec Int 64) 8)) ⊕ (Vec (Vec Int 64) 8)) :=
  (if (decide (x42 < (a0.length : Int))) then (ifp (0 ≤ x42 ∧ x42 < ((a0.length : Nat) : Int)) ((Option.bind (impl_row_poly (rd a0 x42.toNat)) fun r57 => (ifp (0 ≤ x42 ∧ x42 < ((8 : Nat) : Int)) ((some (.inl ((IntKind.i64.wrap (x42 + 1), (vset x43 x42.toNat r57)))))))))) else (some (.inr x43)))
noncomputable def impl_toldSkew (a0 : (List (List Int))) : Option ((Vec (Vec Int 64) 8) × Int) :=
  (Option.bind (impl_skew_degree a0) fun r1 => (if (decide (r1 > 7)) then (some (((vrep 8 (vrep 64 (0 : Int))), 3))) else (Option.bind (α := (Vec (Vec Int 64) 8)) ((loopM (fun s : (Int × (Vec (Vec Int 64) 8)) => impl_toldSkew_l1 a0 s.1 s.2) (0, (vrep 8 (vrep 64 (0 : Int)))))) fun x31 => (some (x31, 0)))))
theorem impl_toldSkew_ok (a0 : (List (List Int))) (r : ((Vec (Vec Int 64) 8) × Int)) (h : impl_toldSkew a0 = some r) : Den Tryz.prog 12 [(eSSi64 a0)] { r := (.tuple [(eA8A64u8 r.1), (i6 r.2)]) } := by
  refine den_of (rs := [(eA8A64u8 r.1), (i6 r.2)]) (ac := impl_toldSkew_c) (L := impl_toldSkew_L) (n := 24) (m := [(6, 1)]) (c := Tryz.f12.body.getD .skip) good Tryz.func12 (by kernel_rfl) (by kernel_rfl) Tryz.ntmps12 rfl rfl (by kernel_rfl) rfl rfl ?_
  refine a_st (σ' := ⟨[(0, (eSSi64 a0))], []⟩) (by kernel_rfl) ?_
  unfold impl_toldSkew_c
  refine sr (vo 1200 (eA8A64u8 ((vrep 8 (vrep 64 (0 : Int))))) rfl rfl (vp (i6 0) rfl (nx ⟨[(0, (eSSi64 a0)), (2, (ow 2))], [(2, (bk (eA8A64u8 ((vrep 8 (vrep 64 (0 : Int)))))))]⟩ (by kernel_rfl) (sr (vo 1400 (eA8A64u8 ((vrep 8 (vrep 64 (0 : Int))))) rfl rfl (nx ⟨[(0, (eSSi64 a0)), (2, (ow 2)), (4, (ow 4))], [(2, (bk (eA8A64u8 ((vrep 8 (vrep 64 (0 : Int))))))), (4, (bk (eA8A64u8 ((vrep 8 (vrep 64 (0 : Int)))))))]⟩ (by kernel_rfl) (a_seq (sr (vp (eSSi64 a0) rfl ?_)))))))))
  obtain ⟨r1, hr2, h⟩ := bind_some h
  refine a_call (args := [(eSSi64 a0)]) (u := []) (r := (i6 r1)) rfl rfl (impl_skew_degree_ok a0 r1 hr2) rfl (vp (.bool ((decide (r1 > 7)))) rfl (nx ⟨[(0, (eSSi64 a0)), (2, (ow 2)), (4, (ow 4)), (9, (.bool ((decide (r1 > 7)))))], [(2, (bk (eA8A64u8 ((vrep 8 (vrep 64 (0 : Int))))))), (4, (bk (eA8A64u8 ((vrep 8 (vrep 64 (0 : Int)))))))]⟩ (by kernel_rfl) ?_))
  cases hb3 : (decide (r1 > 7))
  · have h := ite_f hb3 h
    refine a_cond_f rfl (a_skip (a_next (σ' := ⟨[(0, (eSSi64 a0)), (2, (ow 2)), (4, (ow 4))], [(2, (bk (eA8A64u8 ((vrep 8 (vrep 64 (0 : Int))))))), (4, (bk (eA8A64u8 ((vrep 8 (vrep 64 (0 : Int)))))))]⟩) (by kernel_rfl) ?_))
    obtain ⟨y32, hy33, hk34⟩ := bind_some h
    clear h
    refine a_join (emb := fun (s : (Vec (Vec Int 64) 8)) => ⟨[(2, (ow 2)), (4, (ow 4))], [(2, (bk (eA8A64u8 ((vrep 8 (vrep 64 (0 : Int))))))), (4, (bk (eA8A64u8 s)))]⟩) (pre := fun s => s = y32) ?_ ?_
    · rintro x31 rfl
      have h := hk34
      refine a_st (σ' := ⟨[(2, (ow 2)), (4, (ow 4))], [(2, (bk (eA8A64u8 ((vrep 8 (vrep 64 (0 : Int))))))), (4, (bk (eA8A64u8 x31)))]⟩) (by kernel_rfl) (sr (vl (eA8A64u8 x31) rfl rfl rfl rfl rfl rfl (vs (eA8A64u8 x31) rfl rfl (fun _ => rfl) rfl rfl rfl rfl rfl rfl (vp (i6 0) rfl (nx _ rfl (a_ret ?_))))))
      have hl64 : LdOk [] (eA8A64u8 x31) [] 512 true (eA8A64u8 x31) := (.nil rfl rfl rfl)
      refine ⟨.inr rfl, ?_⟩
      rw [Tryz.results12]
      cases h
      exact ⟨_, _, _, _, _, ld_own (i := ⟨.arr 8 24, 512, 512, (eA8A64u8 (vrep 8 (vrep 64 (0 : Int))))⟩) rfl rfl rfl hl64, hl64.c, .inl ⟨rfl, .inl rfl⟩, rfl, ⟨_, _, _, _, _, rfl, trivial, .inl ⟨rfl, .inl rfl⟩, rfl, rfl⟩⟩
    · have h := hy33
      refine sr (vp (eSSi64 a0) rfl (vq (i6 (a0.length : Int)) (len_run rfl rfl) trivial (vp (i6 0) rfl (nx ⟨[(2, (ow 2)), (4, (ow 4)), (11, (eSSi64 a0)), (12, (i6 (a0.length : Int))), (13, (i6 0))], [(2, (bk (eA8A64u8 ((vrep 8 (vrep 64 (0 : Int))))))), (4, (bk (eA8A64u8 ((vrep 8 (vrep 64 (0 : Int)))))))]⟩ (by kernel_rfl) (a_block ?_)))))
      refine a_loop (emb := fun (s : (Int × (Vec (Vec Int 64) 8))) => ⟨[(2, (ow 2)), (4, (ow 4)), (11, (eSSi64 a0)), (12, (i6 (a0.length : Int))), (13, (i6 s.1))], [(2, (bk (eA8A64u8 ((vrep 8 (vrep 64 (0 : Int))))))), (4, (bk (eA8A64u8 s.2)))]⟩) (body := (fun s : (Int × (Vec (Vec Int 64) 8)) => impl_toldSkew_l1 a0 s.1 s.2)) (G := fun q => some q = some y32) h rfl ?_ (by kernel_rfl)
      rintro X51 ⟨x42, x43⟩ x52 h hX53
      have h : impl_toldSkew_l1 a0 x42 x43 = some x52 := h
      refine a_st (σ' := ⟨[(2, (ow 2)), (4, (ow 4)), (11, (eSSi64 a0)), (12, (i6 (a0.length : Int))), (13, (i6 x42))], [(2, (bk (eA8A64u8 ((vrep 8 (vrep 64 (0 : Int))))))), (4, (bk (eA8A64u8 x43)))]⟩) (by kernel_rfl) (sr (vp (.bool ((decide (x42 < (a0.length : Int))))) rfl (nx ⟨[(2, (ow 2)), (4, (ow 4)), (11, (eSSi64 a0)), (12, (i6 (a0.length : Int))), (13, (i6 x42)), (14, (.bool ((decide (x42 < (a0.length : Int))))))], [(2, (bk (eA8A64u8 ((vrep 8 (vrep 64 (0 : Int))))))), (4, (bk (eA8A64u8 x43)))]⟩ (by kernel_rfl) (a_seq ?_))))
      cases hb54 : (decide (x42 < (a0.length : Int)))
      · have h := ite_f hb54 h
        refine a_cond_f rfl (a_exit (t_exit ?_))
        cases h
        have h := hX53
        refine t_exit (b_exit ?_)
        exact j_leaf x43 (Option.some.inj h) (by kernel_rfl)
      · have h := ite_t hb54 h
        refine a_cond_t rfl (a_skip (a_next (σ' := ⟨[(2, (ow 2)), (4, (ow 4)), (11, (eSSi64 a0)), (12, (i6 (a0.length : Int))), (13, (i6 x42))], [(2, (bk (eA8A64u8 ((vrep 8 (vrep 64 (0 : Int))))))), (4, (bk (eA8A64u8 x43)))]⟩) (by kernel_rfl) (a_seq (a_block (sr (vp (i6 x42) rfl ?_))))))
        obtain ⟨hc55, h⟩ := ifp_some h
        refine vq (.ref (.row 1 (a0.map eSi64)) [x42.toNat] [x42.toNat * 1]) rfl (lmap hc55) ?_
        have hl56 : LdOk [x42.toNat] (.row 1 (a0.map eSi64)) [x42.toNat * 1] 1 false (eSi64 (rd a0 x42.toNat)) := (.row (llt hc55) rfl (.nil rfl rfl rfl))
        refine vq (eSi64 (rd a0 x42.toNat)) (ld_ref (i := ⟨.slice 2, 1, 24, (eSi64 [])⟩) rfl rfl hl56) hl56.c (vp (i6 x42) rfl (vp (eSi64 (rd a0 x42.toNat)) rfl (nx ⟨[(2, (ow 2)), (4, (ow 4)), (5, (i6 x42)), (6, (eSi64 (rd a0 x42.toNat))), (11, (eSSi64 a0)), (12, (i6 (a0.length : Int))), (13, (i6 x42))], [(2, (bk (eA8A64u8 ((vrep 8 (vrep 64 (0 : Int))))))), (4, (bk (eA8A64u8 x43)))]⟩ (by kernel_rfl) (a_region (vp (i6 x42) rfl (vp (eSi64 (rd a0 x42.toNat)) rfl ?_))))))
        obtain ⟨r57, hr58, h⟩ := bind_some h
        refine a_call (args := [(eSi64 (rd a0 x42.toNat))]) (u := []) (r := (eA64u8 r57)) rfl rfl (impl_row_poly_ok (rd a0 x42.toNat) r57 hr58) rfl ?_
        obtain ⟨hc59, h⟩ := ifp_some h
        refine vq (.own 4 [x42.toNat] [x42.toNat * 64]) rfl hc59 ?_
        have hs60 : StOk [x42.toNat] (eA8A64u8 x43) [x42.toNat * 64] 64 (eA64u8 r57) (eA8A64u8 (vset x43 x42.toNat r57)) := (.arr (y := r57) (vlt x43 hc59) rfl (.nil rfl rfl rfl rfl))
        refine vu .top [(4, (bk (eA8A64u8 (vset x43 x42.toNat r57))))] (st_own (i := ⟨.arr 64 5, 64, 64, (eA64u8 (vrep 64 (0 : Int)))⟩) rfl rfl (fun _ => rfl) rfl hs60) (hs60.c rfl) rfl (a_nil (b_norm (a_next (σ' := ⟨[(2, (ow 2)), (4, (ow 4)), (11, (eSSi64 a0)), (12, (i6 (a0.length : Int))), (13, (i6 x42))], [(2, (bk (eA8A64u8 ((vrep 8 (vrep 64 (0 : Int))))))), (4, (bk (eA8A64u8 (vset x43 x42.toNat r57))))]⟩) (by kernel_rfl) (a_region (vp (i6 (IntKind.i64.wrap (x42 + 1))) rfl (vp (i6 (IntKind.i64.wrap (x42 + 1))) rfl (a_nil ?_)))))))
        cases h
        exact a_again (by kernel_rfl) hX53
  · have h := ite_t hb3 h
    refine a_cond_t rfl (sr (vl (eA8A64u8 ((vrep 8 (vrep 64 (0 : Int))))) rfl rfl rfl rfl rfl rfl (vs (eA8A64u8 ((vrep 8 (vrep 64 (0 : Int))))) rfl rfl (fun _ => rfl) rfl rfl rfl rfl rfl rfl (vp (i6 3) rfl (nx _ rfl (a_ret (t_ret ?_)))))))
    have hl67 : LdOk [] (eA8A64u8 ((vrep 8 (vrep 64 (0 : Int))))) [] 512 true (eA8A64u8 ((vrep 8 (vrep 64 (0 : Int))))) := (.nil rfl rfl rfl)
    refine ⟨.inr rfl, ?_⟩
    rw [Tryz.results12]
    cases h
    exact ⟨_, _, _, _, _, ld_own (i := ⟨.arr 8 24, 512, 512, (eA8A64u8 (vrep 8 (vrep 64 (0 : Int))))⟩) rfl rfl rfl hl67, hl67.c, .inl ⟨rfl, .inl rfl⟩, rfl, ⟨_, _, _, _, _, rfl, trivial, .inl ⟨rfl, .inl rfl⟩, rfl, rfl⟩⟩
def impl_AddSkews_c : ACode := (.seq (.region 0 [q 5 (.box 24 (t 1)), q 6 (.box 26 (t 2)), q 7 (.box 26 (t 3)), q 8 (.alloc 26), q 9 (.asg 0 (.const (.int .i64 0)) 2)] false) (.seq (.seq (.region 1 [q 11 (.mov (t 0)), q 12 (.load 24 (t 5)), q 13 (.load 26 (t 6)), q 14 (.load 26 (t 7)), q 15 (.bslice 0 47 2 [(0, (t 13)), (1, (t 14))]), q 16 (.call 0 (.func 11) [(t 11), (t 12), (t 15)]), q 10 (.asg 0 (t 16) 2)] false) (.seq (.region 2 [q 17 (.mov (t 10)), q 18 (.bin .neq 2 (t 17) (.const (.int .i64 0)))] false) (.cond (t 18) (.seq (.region 3 [q 19 (.build 26 []), q 20 (.mov (t 10)), ⟨none, .store 26 (t 8) (t 19), none, []⟩, q 9 (.asg 0 (t 20) 2)] false) .ret) .skip))) (.seq (.region 4 [q 21 (.mov (t 0)), q 22 (.load 24 (t 5)), ⟨some 23, .call 0 (.func 13) [(t 21), (t 22)], none, [0, 1]⟩, q 24 (.load 26 (t 6)), ⟨some 25, .call 0 (.func 15) [(t 24)], none, [3, 2]⟩, q 26 (.load 26 (t 7)), ⟨some 27, .call 0 (.func 15) [(t 26)], none, [5, 4]⟩, ⟨some 28, .call 0 (.func 14) [(t 23), (t 25), (t 27), (.const (.int .i64 1))], none, [2, 4, 6, 6]⟩, ⟨some 29, .call 0 (.func 12) [(t 28)], none, [7, 7]⟩, ⟨some 30, .extract (t 29) 0, none, [8]⟩, ⟨some 31, .extract (t 29) 1, none, [8]⟩, ⟨none, .store 26 (t 8) (t 30), none, [9, 8, 0, 1, 2, 3, 4, 5, 6, 7, 8, 9, 10]⟩, ⟨some 9, .asg 0 (t 31) 2, none, [10, 11, 0, 1, 2, 3, 4, 5, 6, 7, 8, 9, 10, 11]⟩] true) .ret)))
def impl_AddSkews_L : Live := [(0, [0, 1, 2, 3]), (1, [0, 5, 6, 7, 8]), (2, [0, 5, 6, 7, 8, 10]), (3, [8, 10]), (4, [0, 5, 6, 7, 8]), (100018, [0, 5, 6, 7, 8, 10, 18])]
noncomputable def impl_AddSkews (a0 : Int) (a1 : (Vec Int 64)) (a2 : (Vec (Vec Int 64) 8)) (a3 : (Vec (Vec Int 64) 8)) : Option ((Vec (Vec Int 64) 8) × Int) :=
  (Option.bind (impl_skewsCode a0 a1 ([a2, a3])) fun r4 => (if (r4 != 0) then (some (((vrep 8 (vrep 64 (0 : Int))), r4))) else (Option.bind (impl_fieldOf a0 a1) fun r22 => (Option.bind (impl_skewOf a2) fun r25 => (Option.bind (impl_skewOf a3) fun r28 => (Option.bind (impl_field_plus r22 r25 r28 1) fun r30 => (Option.bind (impl_toldSkew r30) fun r32 => (some (r32.1, r32.2)))))))))
theorem impl_AddSkews_ok (a0 : Int) (a1 : (Vec Int 64)) (a2 : (Vec (Vec Int 64) 8)) (a3 : (Vec (Vec Int 64) 8)) (r : ((Vec (Vec Int 64) 8) × Int)) (h : impl_AddSkews a0 a1 a2 a3 = some r) : Den Tryz.prog 7 [(i6 a0), (eA64u8 a1), (eA8A64u8 a2), (eA8A64u8 a3)] { r := (.tuple [(eA8A64u8 r.1), (i6 r.2)]) } := by
  refine den_of (rs := [(eA8A64u8 r.1), (i6 r.2)]) (ac := impl_AddSkews_c) (L := impl_AddSkews_L) (n := 32) (m := []) (c := Tryz.f7.body.getD .skip) good Tryz.func7 (by kernel_rfl) (by kernel_rfl) Tryz.ntmps7 rfl rfl (by kernel_rfl) rfl rfl ?_
  refine a_st (σ' := ⟨[(0, (i6 a0)), (1, (eA64u8 a1)), (2, (eA8A64u8 a2)), (3, (eA8A64u8 a3))], []⟩) (by kernel_rfl) ?_
  unfold impl_AddSkews_c
  refine sr (vo 1500 (eA64u8 a1) rfl rfl (vo 1600 (eA8A64u8 a2) rfl rfl (vo 1700 (eA8A64u8 a3) rfl rfl (vo 1800 (eA8A64u8 ((vrep 8 (vrep 64 (0 : Int))))) rfl rfl (vp (i6 0) rfl (nx ⟨[(0, (i6 a0)), (5, (ow 5)), (6, (ow 6)), (7, (ow 7)), (8, (ow 8))], [(5, (bk (eA64u8 a1))), (6, (bk (eA8A64u8 a2))), (7, (bk (eA8A64u8 a3))), (8, (bk (eA8A64u8 ((vrep 8 (vrep 64 (0 : Int)))))))]⟩ (by kernel_rfl) (a_seq (sr (vp (i6 a0) rfl ?_)))))))))
  refine vl (eA64u8 a1) rfl rfl rfl rfl rfl rfl (vl (eA8A64u8 a2) rfl rfl rfl rfl rfl rfl (vl (eA8A64u8 a3) rfl rfl rfl rfl rfl rfl (vq (.sl 512 true (([a2, a3]).map eA8A64u8)) rfl ⟨(Nat.le_of_ble_eq_true rfl), (Nat.le_of_ble_eq_true rfl), (all_cons ⟨(Nat.le_of_ble_eq_true rfl), rfl⟩ (all_cons ⟨(Nat.le_of_ble_eq_true rfl), rfl⟩ all_nil))⟩ ?_)))
  obtain ⟨r4, hr5, h⟩ := bind_some h
  refine a_call (args := [(i6 a0), (eA64u8 a1), (.sl 512 true (([a2, a3]).map eA8A64u8))]) (u := []) (r := (i6 r4)) rfl rfl (Den.args (impl_skewsCode_ok a0 a1 ([a2, a3]) r4 hr5) rfl rfl (.cons (.refl _) (.cons (.refl _) (.cons (.loose _) .nil)))) rfl (vp (i6 r4) rfl (nx ⟨[(0, (i6 a0)), (5, (ow 5)), (6, (ow 6)), (7, (ow 7)), (8, (ow 8)), (10, (i6 r4))], [(5, (bk (eA64u8 a1))), (6, (bk (eA8A64u8 a2))), (7, (bk (eA8A64u8 a3))), (8, (bk (eA8A64u8 ((vrep 8 (vrep 64 (0 : Int)))))))]⟩ (by kernel_rfl) (sr (vp (i6 r4) rfl (vp (.bool (r4 != 0)) rfl (nx ⟨[(0, (i6 a0)), (5, (ow 5)), (6, (ow 6)), (7, (ow 7)), (8, (ow 8)), (10, (i6 r4)), (18, (.bool (r4 != 0)))], [(5, (bk (eA64u8 a1))), (6, (bk (eA8A64u8 a2))), (7, (bk (eA8A64u8 a3))), (8, (bk (eA8A64u8 ((vrep 8 (vrep 64 (0 : Int)))))))]⟩ (by kernel_rfl) ?_))))))
  cases hb6 : (r4 != 0)
  · have h := ite_f hb6 h
    refine a_cond_f rfl (a_skip (a_next (σ' := ⟨[(0, (i6 a0)), (5, (ow 5)), (6, (ow 6)), (7, (ow 7)), (8, (ow 8))], [(5, (bk (eA64u8 a1))), (6, (bk (eA8A64u8 a2))), (7, (bk (eA8A64u8 a3))), (8, (bk (eA8A64u8 ((vrep 8 (vrep 64 (0 : Int)))))))]⟩) (by kernel_rfl) (a_seq (a_draw [⟨[], [], [], []⟩, ⟨[5], [], [], []⟩, ⟨[], [], [], [0, 1]⟩, ⟨[6], [], [], []⟩, ⟨[], [], [], [0, 1, 2, 3]⟩, ⟨[7], [], [], []⟩, ⟨[], [], [], [0, 1, 2, 3, 4, 5]⟩, ⟨[], [], [], [0, 1, 2, 3, 4, 5, 6]⟩, ⟨[], [], [], [0, 1, 2, 3, 4, 5, 6, 7]⟩, ⟨[], [], [], [0, 1, 2, 3, 4, 5, 6, 7, 8]⟩, ⟨[], [], [], [0, 1, 2, 3, 4, 5, 6, 7, 8]⟩, ⟨[8], [8], [], [0, 1, 2, 3, 4, 5, 6, 7, 8, 9, 10]⟩, ⟨[], [], [], [0, 1, 2, 3, 4, 5, 6, 7, 8, 9, 10, 11]⟩] (by kernel_rfl) (dp (i6 a0) rfl (by kernel_rfl) (d_cons (vl (eA64u8 a1) rfl rfl rfl rfl rfl rfl (d_next (by kernel_rfl) (d_cons ?_)))))))))
    obtain ⟨r22, hr23, h⟩ := bind_some h
    refine a_call (args := [(i6 a0), (eA64u8 a1)]) (u := []) (r := (eT_i64_Si64_Z r22)) rfl rfl (impl_fieldOf_ok a0 a1 r22 hr23) rfl (d_next (by kernel_rfl) (d_cons (vl (eA8A64u8 a2) rfl rfl rfl rfl rfl rfl (d_next (by kernel_rfl) (d_cons ?_)))))
    obtain ⟨r25, hr26, h⟩ := bind_some h
    refine a_call (args := [(eA8A64u8 a2)]) (u := []) (r := (eSSi64 r25)) rfl rfl (impl_skewOf_ok a2 r25 hr26) rfl (d_next (by kernel_rfl) (d_cons (vl (eA8A64u8 a3) rfl rfl rfl rfl rfl rfl (d_next (by kernel_rfl) (d_cons ?_)))))
    obtain ⟨r28, hr29, h⟩ := bind_some h
    refine a_call (args := [(eA8A64u8 a3)]) (u := []) (r := (eSSi64 r28)) rfl rfl (impl_skewOf_ok a3 r28 hr29) rfl (d_next (by kernel_rfl) (d_cons ?_))
    obtain ⟨r30, hr31, h⟩ := bind_some h
    refine a_call (args := [(eT_i64_Si64_Z r22), (eSSi64 r25), (eSSi64 r28), (i6 1)]) (u := []) (r := (eSSi64 r30)) rfl rfl (impl_field_plus_ok r22 r25 r28 1 r30 hr31) rfl (d_next (by kernel_rfl) (d_cons ?_))
    obtain ⟨r32, hr33, h⟩ := bind_some h
    refine a_call (args := [(eSSi64 r30)]) (u := []) (r := (.tuple [(eA8A64u8 r32.1), (i6 r32.2)])) rfl rfl (impl_toldSkew_ok r30 r32 hr33) rfl (d_next (by kernel_rfl) (d_cons (vb (eA8A64u8 r32.1) rfl rfl (d_next (by kernel_rfl) (d_cons (vb (i6 r32.2) rfl rfl (d_next (by kernel_rfl) (d_cons (vs (eA8A64u8 r32.1) rfl rfl (fun _ => rfl) rfl rfl rfl rfl rfl rfl ?_)))))))))
    refine d_next (by kernel_rfl) (dp (i6 r32.2) rfl (by kernel_rfl) (d_nil (a_next rfl (a_ret ?_))))
    have hl35 : LdOk [] (eA8A64u8 r32.1) [] 512 true (eA8A64u8 r32.1) := (.nil rfl rfl rfl)
    refine ⟨.inr rfl, ?_⟩
    rw [Tryz.results7]
    cases h
    exact ⟨_, _, _, _, _, ld_own (i := ⟨.arr 8 24, 512, 512, (eA8A64u8 (vrep 8 (vrep 64 (0 : Int))))⟩) rfl rfl rfl hl35, hl35.c, .inl ⟨rfl, .inl rfl⟩, rfl, ⟨_, _, _, _, _, rfl, trivial, .inl ⟨rfl, .inl rfl⟩, rfl, rfl⟩⟩
  · have h := ite_t hb6 h
    refine a_cond_t rfl (sr (vq (eA8A64u8 ((vrep 8 (vrep 64 (0 : Int))))) rfl ⟨⟨_, rfl, rfl⟩, all_nil⟩ (vp (i6 r4) rfl (vs (eA8A64u8 ((vrep 8 (vrep 64 (0 : Int))))) rfl rfl (fun _ => rfl) rfl rfl rfl rfl rfl rfl (vp (i6 r4) rfl (nx _ rfl (a_ret (t_ret ?_))))))))
    have hl37 : LdOk [] (eA8A64u8 ((vrep 8 (vrep 64 (0 : Int))))) [] 512 true (eA8A64u8 ((vrep 8 (vrep 64 (0 : Int))))) := (.nil rfl rfl rfl)
    refine ⟨.inr rfl, ?_⟩
    rw [Tryz.results7]
    cases h
    exact ⟨_, _, _, _, _, ld_own (i := ⟨.arr 8 24, 512, 512, (eA8A64u8 (vrep 8 (vrep 64 (0 : Int))))⟩) rfl rfl rfl hl37, hl37.c, .inl ⟨rfl, .inl rfl⟩, rfl, ⟨_, _, _, _, _, rfl, trivial, .inl ⟨rfl, .inl rfl⟩, rfl, rfl⟩⟩
def laws_eqPoly_c : ACode := (.seq (.region 0 [q 2 (.box 24 (t 0)), q 3 (.box 24 (t 1)), q 4 (.asg 0 (.const (.bool false)) 4)] false) (.seq (.seq (.region 1 [q 5 (.asg 0 (.const (.int .i64 0)) 3)] false) (.block 0 (.loop (.seq (.seq (.region 2 [q 6 (.mov (t 5)), q 7 (.bin .lss 3 (t 6) (.const (.int .i64 64)))] false) (.cond (t 7) .skip (.exit 0))) (.seq (.block 1 (.seq (.region 4 [q 10 (.mov (t 5)), ⟨some 11, .indexAddr 24 (t 2) (t 10), none, [0]⟩, ⟨some 12, .load 5 (t 11), none, [1]⟩, q 13 (.mov (t 5)), ⟨some 14, .indexAddr 24 (t 3) (t 13), none, [3]⟩, ⟨some 15, .load 5 (t 14), none, [4]⟩, ⟨some 16, .bin .neq 5 (t 12) (t 15), none, [2, 5]⟩] true) (.cond (t 16) (.seq (.region 5 [q 4 (.asg 0 (.const (.bool false)) 4)] false) .ret) .skip))) (.region 3 [q 8 (.mov (t 5)), q 9 (.bin .add 3 (t 8) (.const (.int .i64 1))), q 5 (.asg 0 (t 9) 3)] false)))))) (.seq (.region 6 [q 4 (.asg 0 (.const (.bool true)) 4)] false) .ret)))
def laws_eqPoly_L : Live := [(0, [0, 1]), (1, [2, 3]), (2, [2, 3, 5]), (3, [2, 3, 5]), (4, [2, 3, 5]), (5, []), (6, []), (100007, [2, 3, 5, 7]), (100016, [2, 3, 5, 16])]
noncomputable def laws_eqPoly_l1 (a0 : (Vec Int 64)) (a1 : (Vec Int 64)) (x49 : Int) : Option (Int ⊕ (Unit ⊕ Bool)) :=
  (if (decide (x49 < 64)) then (ifp (0 ≤ x49 ∧ x49 < ((64 : Nat) : Int)) ((ifp (0 ≤ x49 ∧ x49 < ((64 : Nat) : Int)) ((if ((rd a0.1 x49.toNat) != (rd a1.1 x49.toNat)) then (some (.inr (.inr false))) else (some (.inl (IntKind.i64.wrap (x49 + 1))))))))) else (some (.inr (((.inl ()))))))
noncomputable def laws_eqPoly (a0 : (Vec Int 64)) (a1 : (Vec Int 64)) : Option Bool :=
  (Option.bind (α := (Unit ⊕ Bool)) ((loopM (fun s : Int => laws_eqPoly_l1 a0 a1 s) 0)) fun z => match z with | .inl _ => (some true) | .inr r74 => (some r74))
theorem laws_eqPoly_ok (a0 : (Vec Int 64)) (a1 : (Vec Int 64)) (r : Bool) (h : laws_eqPoly a0 a1 = some r) : Den Tryz.prog 16 [(eA64u8 a0), (eA64u8 a1)] { r := (.bool r) } := by
  refine den_of (rs := [(.bool r)]) (ac := laws_eqPoly_c) (L := laws_eqPoly_L) (n := 17) (m := []) (c := Tryz.f16.body.getD .skip) good Tryz.func16 (by kernel_rfl) (by kernel_rfl) Tryz.ntmps16 rfl rfl (by kernel_rfl) rfl rfl ?_
  refine a_st (σ' := ⟨[(0, (eA64u8 a0)), (1, (eA64u8 a1))], []⟩) (by kernel_rfl) ?_
  unfold laws_eqPoly_c
  refine sr (vo 1200 (eA64u8 a0) rfl rfl (vo 1300 (eA64u8 a1) rfl rfl (vp (.bool false) rfl (nx ⟨[(2, (ow 2)), (3, (ow 3))], [(2, (bk (eA64u8 a0))), (3, (bk (eA64u8 a1)))]⟩ (by kernel_rfl) ?_))))
  obtain ⟨y36, hy37, hk38⟩ := bind_some h
  clear h
  refine a_join (emb := fun (s : Unit) => ⟨[], []⟩) (pre := fun s => (.inl s) = y36) ?_ ?_
  · rintro _ rfl
    have h := hk38
    refine a_st (σ' := ⟨[], []⟩) (by kernel_rfl) (sr (vp (.bool true) rfl (nx _ rfl (a_ret ?_))))
    refine ⟨.inr rfl, ?_⟩
    rw [Tryz.results16]
    cases h
    exact ⟨_, _, _, _, _, rfl, trivial, .inl ⟨rfl, .inl rfl⟩, rfl, rfl⟩
  · have h := hy37
    refine sr (vp (i6 0) rfl (nx ⟨[(2, (ow 2)), (3, (ow 3)), (5, (i6 0))], [(2, (bk (eA64u8 a0))), (3, (bk (eA64u8 a1)))]⟩ (by kernel_rfl) (a_block ?_)))
    refine a_loop (emb := fun (s : Int) => ⟨[(2, (ow 2)), (3, (ow 3)), (5, (i6 s))], [(2, (bk (eA64u8 a0))), (3, (bk (eA64u8 a1)))]⟩) (body := (fun s : Int => laws_eqPoly_l1 a0 a1 s)) (G := fun q => some q = some y36) h rfl ?_ (by kernel_rfl)
    rintro X60 x49 x61 h hX62
    have h : laws_eqPoly_l1 a0 a1 x49 = some x61 := h
    refine a_st (σ' := ⟨[(2, (ow 2)), (3, (ow 3)), (5, (i6 x49))], [(2, (bk (eA64u8 a0))), (3, (bk (eA64u8 a1)))]⟩) (by kernel_rfl) (a_seq (sr (vp (i6 x49) rfl (vp (.bool ((decide (x49 < 64)))) rfl (nx ⟨[(2, (ow 2)), (3, (ow 3)), (5, (i6 x49)), (7, (.bool ((decide (x49 < 64)))))], [(2, (bk (eA64u8 a0))), (3, (bk (eA64u8 a1)))]⟩ (by kernel_rfl) ?_)))))
    cases hb63 : (decide (x49 < 64))
    · have h := ite_f hb63 h
      refine a_cond_f rfl (a_exit (t_exit ?_))
      cases h
      have h := hX62
      refine t_exit (b_exit ?_)
      exact j_leaf () (Option.some.inj h) (by kernel_rfl)
    · have h := ite_t hb63 h
      refine a_cond_t rfl (a_skip (a_next (σ' := ⟨[(2, (ow 2)), (3, (ow 3)), (5, (i6 x49))], [(2, (bk (eA64u8 a0))), (3, (bk (eA64u8 a1)))]⟩) (by kernel_rfl) (a_seq (a_block (a_seq (a_draw [⟨[], [], [], []⟩, ⟨[2], [], [2], [0]⟩, ⟨[2], [], [], [0, 1]⟩, ⟨[], [], [], []⟩, ⟨[3], [], [3], [3]⟩, ⟨[3], [], [], [3, 4]⟩, ⟨[], [], [], [0, 1, 2, 3, 4, 5]⟩] (by kernel_rfl) (dp (i6 x49) rfl (by kernel_rfl) (d_cons ?_))))))))
      obtain ⟨hc68, h⟩ := ifp_some h
      refine vq (.own 2 [x49.toNat] [x49.toNat * 1]) rfl hc68 (d_next (by kernel_rfl) (d_cons ?_))
      have hl69 : LdOk [x49.toNat] (eA64u8 a0) [x49.toNat * 1] 1 false (b8 (rd a0.1 x49.toNat)) := (.arr (vlt a0 hc68) rfl (.nil rfl rfl rfl))
      refine vq (b8 (rd a0.1 x49.toNat)) (ld_own (i := ⟨.int .u8, 1, 1, (.int .u8 0)⟩) rfl rfl rfl hl69) hl69.c (d_next (by kernel_rfl) (dp (i6 x49) rfl (by kernel_rfl) (d_cons ?_)))
      obtain ⟨hc70, h⟩ := ifp_some h
      refine vq (.own 3 [x49.toNat] [x49.toNat * 1]) rfl hc70 (d_next (by kernel_rfl) (d_cons ?_))
      have hl71 : LdOk [x49.toNat] (eA64u8 a1) [x49.toNat * 1] 1 false (b8 (rd a1.1 x49.toNat)) := (.arr (vlt a1 hc70) rfl (.nil rfl rfl rfl))
      refine vq (b8 (rd a1.1 x49.toNat)) (ld_own (i := ⟨.int .u8, 1, 1, (.int .u8 0)⟩) rfl rfl rfl hl71) hl71.c (d_next (by kernel_rfl) (dp (.bool (((rd a0.1 x49.toNat) != (rd a1.1 x49.toNat)))) rfl (by kernel_rfl) (d_nil (a_next (σ' := ⟨[(2, (ow 2)), (3, (ow 3)), (5, (i6 x49)), (16, (.bool (((rd a0.1 x49.toNat) != (rd a1.1 x49.toNat)))))], [(2, (bk (eA64u8 a0))), (3, (bk (eA64u8 a1)))]⟩) (by kernel_rfl) ?_))))
      cases hb72 : ((rd a0.1 x49.toNat) != (rd a1.1 x49.toNat))
      · have h := ite_f hb72 h
        refine a_cond_f rfl (a_skip (b_norm (a_next (σ' := ⟨[(2, (ow 2)), (3, (ow 3)), (5, (i6 x49))], [(2, (bk (eA64u8 a0))), (3, (bk (eA64u8 a1)))]⟩) (by kernel_rfl) (a_region (vp (i6 x49) rfl (vp (i6 (IntKind.i64.wrap (x49 + 1))) rfl (vp (i6 (IntKind.i64.wrap (x49 + 1))) rfl (a_nil ?_))))))))
        cases h
        exact a_again (by kernel_rfl) hX62
      · have h := ite_t hb72 h
        refine a_cond_t rfl (sr (vp (.bool false) rfl (nx _ rfl (a_ret (b_ret (t_ret ?_))))))
        cases h
        have h := hX62
        refine t_ret (b_ret (t_ret ?_))
        cases h
        have h := hk38
        refine ⟨.inr rfl, ?_⟩
        rw [Tryz.results16]
        cases h
        exact ⟨_, _, _, _, _, rfl, trivial, .inl ⟨rfl, .inl rfl⟩, rfl, rfl⟩
def laws_eqSkew_c : ACode := (.seq (.region 0 [q 2 (.box 26 (t 0)), q 3 (.box 26 (t 1)), q 4 (.asg 0 (.const (.bool false)) 4)] false) (.seq (.seq (.region 1 [q 5 (.asg 0 (.const (.int .i64 0)) 3)] false) (.block 0 (.loop (.seq (.seq (.region 2 [q 6 (.mov (t 5)), q 7 (.bin .lss 3 (t 6) (.const (.int .i64 8)))] false) (.cond (t 7) .skip (.exit 0))) (.seq (.block 1 (.seq (.region 4 [q 10 (.mov (t 5)), ⟨some 11, .indexAddr 26 (t 2) (t 10), none, [0]⟩, ⟨some 12, .load 24 (t 11), none, [1]⟩, q 13 (.mov (t 5)), ⟨some 14, .indexAddr 26 (t 3) (t 13), none, [3]⟩, ⟨some 15, .load 24 (t 14), none, [4]⟩, ⟨some 16, .call 0 (.func 16) [(t 12), (t 15)], none, [2, 5]⟩, ⟨some 17, .un .not (t 16), none, [6]⟩] true) (.cond (t 17) (.seq (.region 5 [q 4 (.asg 0 (.const (.bool false)) 4)] false) .ret) .skip))) (.region 3 [q 8 (.mov (t 5)), q 9 (.bin .add 3 (t 8) (.const (.int .i64 1))), q 5 (.asg 0 (t 9) 3)] false)))))) (.seq (.region 6 [q 4 (.asg 0 (.const (.bool true)) 4)] false) .ret)))
def laws_eqSkew_L : Live := [(0, [0, 1]), (1, [2, 3]), (2, [2, 3, 5]), (3, [2, 3, 5]), (4, [2, 3, 5]), (5, []), (6, []), (100007, [2, 3, 5, 7]), (100017, [2, 3, 5, 17])]
noncomputable def laws_eqSkew_l1 (a0 : (Vec (Vec Int 64) 8)) (a1 : (Vec (Vec Int 64) 8)) (x65 : Int) : Option (Int ⊕ (Unit ⊕ Bool)) :=
  (if (decide (x65 < 8)) then (ifp (0 ≤ x65 ∧ x65 < ((8 : Nat) : Int)) ((ifp (0 ≤ x65 ∧ x65 < ((8 : Nat) : Int)) ((Option.bind (laws_eqPoly (rd a0.1 x65.toNat) (rd a1.1 x65.toNat)) fun r94 => (if (!r94) then (some (.inr (.inr false))) else (some (.inl (IntKind.i64.wrap (x65 + 1)))))))))) else (some (.inr (((.inl ()))))))
noncomputable def laws_eqSkew (a0 : (Vec (Vec Int 64) 8)) (a1 : (Vec (Vec Int 64) 8)) : Option Bool :=
  (Option.bind (α := (Unit ⊕ Bool)) ((loopM (fun s : Int => laws_eqSkew_l1 a0 a1 s) 0)) fun z => match z with | .inl _ => (some true) | .inr r98 => (some r98))
theorem laws_eqSkew_ok (a0 : (Vec (Vec Int 64) 8)) (a1 : (Vec (Vec Int 64) 8)) (r : Bool) (h : laws_eqSkew a0 a1 = some r) : Den Tryz.prog 8 [(eA8A64u8 a0), (eA8A64u8 a1)] { r := (.bool r) } := by
  refine den_of (rs := [(.bool r)]) (ac := laws_eqSkew_c) (L := laws_eqSkew_L) (n := 18) (m := []) (c := Tryz.f8.body.getD .skip) good Tryz.func8 (by kernel_rfl) (by kernel_rfl) Tryz.ntmps8 rfl rfl (by kernel_rfl) rfl rfl ?_
  refine a_st (σ' := ⟨[(0, (eA8A64u8 a0)), (1, (eA8A64u8 a1))], []⟩) (by kernel_rfl) ?_
  unfold laws_eqSkew_c
  refine sr (vo 1200 (eA8A64u8 a0) rfl rfl (vo 1300 (eA8A64u8 a1) rfl rfl (vp (.bool false) rfl (nx ⟨[(2, (ow 2)), (3, (ow 3))], [(2, (bk (eA8A64u8 a0))), (3, (bk (eA8A64u8 a1)))]⟩ (by kernel_rfl) ?_))))
  obtain ⟨y48, hy49, hk50⟩ := bind_some h
  clear h
  refine a_join (emb := fun (s : Unit) => ⟨[], []⟩) (pre := fun s => (.inl s) = y48) ?_ ?_
  · rintro _ rfl
    have h := hk50
    refine a_st (σ' := ⟨[], []⟩) (by kernel_rfl) (sr (vp (.bool true) rfl (nx _ rfl (a_ret ?_))))
    refine ⟨.inr rfl, ?_⟩
    rw [Tryz.results8]
    cases h
    exact ⟨_, _, _, _, _, rfl, trivial, .inl ⟨rfl, .inl rfl⟩, rfl, rfl⟩
  · have h := hy49
    refine sr (vp (i6 0) rfl (nx ⟨[(2, (ow 2)), (3, (ow 3)), (5, (i6 0))], [(2, (bk (eA8A64u8 a0))), (3, (bk (eA8A64u8 a1)))]⟩ (by kernel_rfl) (a_block ?_)))
    refine a_loop (emb := fun (s : Int) => ⟨[(2, (ow 2)), (3, (ow 3)), (5, (i6 s))], [(2, (bk (eA8A64u8 a0))), (3, (bk (eA8A64u8 a1)))]⟩) (body := (fun s : Int => laws_eqSkew_l1 a0 a1 s)) (G := fun q => some q = some y48) h rfl ?_ (by kernel_rfl)
    rintro X80 x65 x81 h hX82
    have h : laws_eqSkew_l1 a0 a1 x65 = some x81 := h
    refine a_st (σ' := ⟨[(2, (ow 2)), (3, (ow 3)), (5, (i6 x65))], [(2, (bk (eA8A64u8 a0))), (3, (bk (eA8A64u8 a1)))]⟩) (by kernel_rfl) (a_seq (sr (vp (i6 x65) rfl (vp (.bool ((decide (x65 < 8)))) rfl (nx ⟨[(2, (ow 2)), (3, (ow 3)), (5, (i6 x65)), (7, (.bool ((decide (x65 < 8)))))], [(2, (bk (eA8A64u8 a0))), (3, (bk (eA8A64u8 a1)))]⟩ (by kernel_rfl) ?_)))))
    cases hb83 : (decide (x65 < 8))
    · have h := ite_f hb83 h
      refine a_cond_f rfl (a_exit (t_exit ?_))
      cases h
      have h := hX82
      refine t_exit (b_exit ?_)
      exact j_leaf () (Option.some.inj h) (by kernel_rfl)
    · have h := ite_t hb83 h
      refine a_cond_t rfl (a_skip (a_next (σ' := ⟨[(2, (ow 2)), (3, (ow 3)), (5, (i6 x65))], [(2, (bk (eA8A64u8 a0))), (3, (bk (eA8A64u8 a1)))]⟩) (by kernel_rfl) (a_seq (a_block (a_seq (a_draw [⟨[], [], [], []⟩, ⟨[2], [], [2], [0]⟩, ⟨[2], [], [], [0, 1]⟩, ⟨[], [], [], []⟩, ⟨[3], [], [3], [3]⟩, ⟨[3], [], [], [3, 4]⟩, ⟨[], [], [], [0, 1, 2, 3, 4, 5]⟩, ⟨[], [], [], [0, 1, 2, 3, 4, 5, 6]⟩] (by kernel_rfl) (dp (i6 x65) rfl (by kernel_rfl) (d_cons ?_))))))))
      obtain ⟨hc90, h⟩ := ifp_some h
      refine vq (.own 2 [x65.toNat] [x65.toNat * 64]) rfl hc90 (d_next (by kernel_rfl) (d_cons ?_))
      have hl91 : LdOk [x65.toNat] (eA8A64u8 a0) [x65.toNat * 64] 64 true (eA64u8 (rd a0.1 x65.toNat)) := (.arr (vlt a0 hc90) rfl (.nil rfl rfl rfl))
      refine vq (eA64u8 (rd a0.1 x65.toNat)) (ld_own (i := ⟨.arr 64 5, 64, 64, (eA64u8 (vrep 64 (0 : Int)))⟩) rfl rfl rfl hl91) hl91.c (d_next (by kernel_rfl) (dp (i6 x65) rfl (by kernel_rfl) (d_cons ?_)))
      obtain ⟨hc92, h⟩ := ifp_some h
      refine vq (.own 3 [x65.toNat] [x65.toNat * 64]) rfl hc92 (d_next (by kernel_rfl) (d_cons ?_))
      have hl93 : LdOk [x65.toNat] (eA8A64u8 a1) [x65.toNat * 64] 64 true (eA64u8 (rd a1.1 x65.toNat)) := (.arr (vlt a1 hc92) rfl (.nil rfl rfl rfl))
      refine vq (eA64u8 (rd a1.1 x65.toNat)) (ld_own (i := ⟨.arr 64 5, 64, 64, (eA64u8 (vrep 64 (0 : Int)))⟩) rfl rfl rfl hl93) hl93.c (d_next (by kernel_rfl) (d_cons ?_))
      obtain ⟨r94, hr95, h⟩ := bind_some h
      refine a_call (args := [(eA64u8 (rd a0.1 x65.toNat)), (eA64u8 (rd a1.1 x65.toNat))]) (u := []) (r := (.bool r94)) rfl rfl (laws_eqPoly_ok (rd a0.1 x65.toNat) (rd a1.1 x65.toNat) r94 hr95) rfl (d_next (by kernel_rfl) (dp (.bool (!r94)) rfl (by kernel_rfl) (d_nil (a_next (σ' := ⟨[(2, (ow 2)), (3, (ow 3)), (5, (i6 x65)), (17, (.bool (!r94)))], [(2, (bk (eA8A64u8 a0))), (3, (bk (eA8A64u8 a1)))]⟩) (by kernel_rfl) ?_))))
      cases hb96 : (!r94)
      · have h := ite_f hb96 h
        refine a_cond_f rfl (a_skip (b_norm (a_next (σ' := ⟨[(2, (ow 2)), (3, (ow 3)), (5, (i6 x65))], [(2, (bk (eA8A64u8 a0))), (3, (bk (eA8A64u8 a1)))]⟩) (by kernel_rfl) (a_region (vp (i6 x65) rfl (vp (i6 (IntKind.i64.wrap (x65 + 1))) rfl (vp (i6 (IntKind.i64.wrap (x65 + 1))) rfl (a_nil ?_))))))))
        cases h
        exact a_again (by kernel_rfl) hX82
      · have h := ite_t hb96 h
        refine a_cond_t rfl (sr (vp (.bool false) rfl (nx _ rfl (a_ret (b_ret (t_ret ?_))))))
        cases h
        have h := hX82
        refine t_ret (b_ret (t_ret ?_))
        cases h
        have h := hk50
        refine ⟨.inr rfl, ?_⟩
        rw [Tryz.results8]
        cases h
        exact ⟨_, _, _, _, _, rfl, trivial, .inl ⟨rfl, .inl rfl⟩, rfl, rfl⟩
def laws_FnExactAddSkews_c : ACode := (.seq (.region 0 [q 5 (.box 22 (t 1)), q 6 (.box 23 (t 2)), q 7 (.box 23 (t 3)), q 8 (.asg 0 (.const (.bool false)) 4)] false) (.seq (.region 1 [q 14 (.mov (t 0)), q 15 (.load 22 (t 5)), ⟨some 16, .call 0 (.func 5) [(t 15)], none, [1]⟩, q 17 (.load 23 (t 6)), ⟨some 18, .call 0 (.func 6) [(t 17)], none, [3, 2]⟩, q 19 (.load 23 (t 7)), ⟨some 20, .call 0 (.func 6) [(t 19)], none, [5, 4]⟩, ⟨some 21, .call 0 (.func 4) [(t 14), (t 16), (t 18), (t 20)], none, [0, 2, 4, 6, 6]⟩, ⟨some 13, .mov (t 21), none, [7]⟩, ⟨some 22, .extract (t 13) 0, none, [8]⟩, ⟨some 23, .extract (t 13) 1, none, [8]⟩, q 9 (.alloc 26), ⟨none, .store 26 (t 9) (t 22), none, [11, 9, 7, 0, 1, 2, 3, 4, 5, 6, 7, 8, 9, 11]⟩, ⟨some 10, .asg 0 (t 23) 2, none, [10, 12, 0, 1, 2, 3, 4, 5, 6, 7, 8, 9, 10, 11, 12]⟩] true) (.seq (.region 2 [q 25 (.mov (t 0)), q 26 (.load 22 (t 5)), ⟨some 27, .call 0 (.func 5) [(t 26)], none, [1]⟩, q 28 (.load 23 (t 6)), ⟨some 29, .call 0 (.func 6) [(t 28)], none, [3, 2]⟩, q 30 (.load 23 (t 7)), ⟨some 31, .call 0 (.func 6) [(t 30)], none, [5, 4]⟩, ⟨some 32, .call 0 (.func 7) [(t 25), (t 27), (t 29), (t 31)], none, [0, 2, 4, 6, 6]⟩, ⟨some 24, .mov (t 32), none, [7]⟩, ⟨some 33, .extract (t 24) 0, none, [8]⟩, ⟨some 34, .extract (t 24) 1, none, [8]⟩, q 11 (.alloc 26), ⟨none, .store 26 (t 11) (t 33), none, [11, 9, 7, 0, 1, 2, 3, 4, 5, 6, 7, 8, 9, 11]⟩, ⟨some 12, .asg 0 (t 34) 2, none, [10, 12, 0, 1, 2, 3, 4, 5, 6, 7, 8, 9, 10, 11, 12]⟩] true) (.seq (.seq (.region 3 [q 35 (.load 26 (t 11)), q 36 (.load 26 (t 9)), q 37 (.call 0 (.func 8) [(t 35), (t 36)]), q 38 (.un .not (t 37)), q 39 (.mov (t 38)), ⟨some 40, .mov (t 12), some (39, false), []⟩, ⟨some 41, .mov (t 10), some (39, false), []⟩, ⟨some 42, .bin .neq 2 (t 40) (t 41), some (39, false), []⟩, q 43 (.pick (t 39) (.const (.bool true)) (t 42))] false) (.cond (t 43) (.seq (.region 4 [q 8 (.asg 0 (.const (.bool false)) 4)] false) .ret) .skip)) (.seq (.region 5 [q 8 (.asg 0 (.const (.bool true)) 4)] false) .ret)))))
def laws_FnExactAddSkews_L : Live := [(0, [0, 1, 2, 3]), (1, [0, 5, 6, 7]), (2, [0, 5, 6, 7, 9, 10]), (3, [9, 10, 11, 12]), (4, []), (5, []), (100043, [43])]
noncomputable def laws_FnExactAddSkews (a0 : Int) (a1 : (Vec Int 64)) (a2 : (Vec (Vec Int 64) 8)) (a3 : (Vec (Vec Int 64) 8)) : Option Bool :=
  (Option.bind (laws_toPoly a1) fun r14 => (Option.bind (laws_toSkew a2) fun r17 => (Option.bind (laws_toSkew a3) fun r20 => (Option.bind (spec_AddSkews a0 r14 r17 r20) fun r22 => (Option.bind (laws_toPoly a1) fun r38 => (Option.bind (laws_toSkew a2) fun r41 => (Option.bind (laws_toSkew a3) fun r44 => (Option.bind (impl_AddSkews a0 r38 r41 r44) fun r46 => (Option.bind (α := Bool) ((Option.bind (laws_eqSkew r46.1 r22.1) fun r60 => (if (!r60) then (some true) else (some (r46.2 != r22.2))))) fun x54 => (if x54 then (some false) else (some true)))))))))))
theorem laws_FnExactAddSkews_ok (a0 : Int) (a1 : (Vec Int 64)) (a2 : (Vec (Vec Int 64) 8)) (a3 : (Vec (Vec Int 64) 8)) (r : Bool) (h : laws_FnExactAddSkews a0 a1 a2 a3 = some r) : Den Tryz.prog 3 [(i6 a0), (eA64u8 a1), (eA8A64u8 a2), (eA8A64u8 a3)] { r := (.bool r) } := by
  refine den_of (rs := [(.bool r)]) (ac := laws_FnExactAddSkews_c) (L := laws_FnExactAddSkews_L) (n := 44) (m := []) (c := Tryz.f3.body.getD .skip) good Tryz.func3 (by kernel_rfl) (by kernel_rfl) Tryz.ntmps3 rfl rfl (by kernel_rfl) rfl rfl ?_
  refine a_st (σ' := ⟨[(0, (i6 a0)), (1, (eA64u8 a1)), (2, (eA8A64u8 a2)), (3, (eA8A64u8 a3))], []⟩) (by kernel_rfl) ?_
  unfold laws_FnExactAddSkews_c
  refine sr (vo 1500 (eA64u8 a1) rfl rfl (vo 1600 (eA8A64u8 a2) rfl rfl (vo 1700 (eA8A64u8 a3) rfl rfl (vp (.bool false) rfl (nx ⟨[(0, (i6 a0)), (5, (ow 5)), (6, (ow 6)), (7, (ow 7))], [(5, (bk (eA64u8 a1))), (6, (bk (eA8A64u8 a2))), (7, (bk (eA8A64u8 a3)))]⟩ (by kernel_rfl) (a_seq (a_draw [⟨[], [], [], []⟩, ⟨[5], [], [], []⟩, ⟨[], [], [], [1]⟩, ⟨[6], [], [], []⟩, ⟨[], [], [], [1, 2, 3]⟩, ⟨[7], [], [], []⟩, ⟨[], [], [], [1, 2, 3, 4, 5]⟩, ⟨[], [], [], [0, 1, 2, 3, 4, 5, 6]⟩, ⟨[], [], [], [0, 1, 2, 3, 4, 5, 6, 7]⟩, ⟨[], [], [], [0, 1, 2, 3, 4, 5, 6, 7, 8]⟩, ⟨[], [], [], [0, 1, 2, 3, 4, 5, 6, 7, 8]⟩, ⟨[1900], [1900], [1900], []⟩, ⟨[1900], [1900], [], [0, 1, 2, 3, 4, 5, 6, 7, 8, 9, 11]⟩, ⟨[], [], [], [0, 1, 2, 3, 4, 5, 6, 7, 8, 9, 10, 11, 12]⟩] (by kernel_rfl) (dp (i6 a0) rfl (by kernel_rfl) (d_cons ?_)))))))))
  refine vl (eA64u8 a1) rfl rfl rfl rfl rfl rfl (d_next (by kernel_rfl) (d_cons ?_))
  obtain ⟨r14, hr15, h⟩ := bind_some h
  refine a_call (args := [(eA64u8 a1)]) (u := []) (r := (eA64u8 r14)) rfl rfl (laws_toPoly_ok a1 r14 hr15) rfl (d_next (by kernel_rfl) (d_cons (vl (eA8A64u8 a2) rfl rfl rfl rfl rfl rfl (d_next (by kernel_rfl) (d_cons ?_)))))
  obtain ⟨r17, hr18, h⟩ := bind_some h
  refine a_call (args := [(eA8A64u8 a2)]) (u := []) (r := (eA8A64u8 r17)) rfl rfl (laws_toSkew_ok a2 r17 hr18) rfl (d_next (by kernel_rfl) (d_cons (vl (eA8A64u8 a3) rfl rfl rfl rfl rfl rfl (d_next (by kernel_rfl) (d_cons ?_)))))
  obtain ⟨r20, hr21, h⟩ := bind_some h
  refine a_call (args := [(eA8A64u8 a3)]) (u := []) (r := (eA8A64u8 r20)) rfl rfl (laws_toSkew_ok a3 r20 hr21) rfl (d_next (by kernel_rfl) (d_cons ?_))
  obtain ⟨r22, hr23, h⟩ := bind_some h
  refine a_call (args := [(i6 a0), (eA64u8 r14), (eA8A64u8 r17), (eA8A64u8 r20)]) (u := []) (r := (.tuple [(eA8A64u8 r22.1), (i6 r22.2)])) rfl rfl (spec_AddSkews_ok a0 r14 r17 r20 r22 hr23) rfl (d_next (by kernel_rfl) (dp (.tuple [(eA8A64u8 r22.1), (i6 r22.2)]) rfl (by kernel_rfl) (d_cons (vb (eA8A64u8 r22.1) rfl rfl (d_next (by kernel_rfl) (d_cons (vb (i6 r22.2) rfl rfl (d_next (by kernel_rfl) (d_cons ?_)))))))))
  refine vo 1900 (eA8A64u8 ((vrep 8 (vrep 64 (0 : Int))))) rfl rfl (d_next (by kernel_rfl) (d_cons (vs (eA8A64u8 r22.1) rfl rfl (fun _ => rfl) rfl rfl rfl rfl rfl rfl (d_next (by kernel_rfl) (dp (i6 r22.2) rfl (by kernel_rfl) (d_nil (a_next (σ' := ⟨[(0, (i6 a0)), (5, (ow 5)), (6, (ow 6)), (7, (ow 7)), (9, (ow 9)), (10, (i6 r22.2))], [(5, (bk (eA64u8 a1))), (6, (bk (eA8A64u8 a2))), (7, (bk (eA8A64u8 a3))), (9, (bk (eA8A64u8 r22.1)))]⟩) (by kernel_rfl) (a_seq (a_draw [⟨[], [], [], []⟩, ⟨[5], [], [], []⟩, ⟨[], [], [], [1]⟩, ⟨[6], [], [], []⟩, ⟨[], [], [], [1, 2, 3]⟩, ⟨[7], [], [], []⟩, ⟨[], [], [], [1, 2, 3, 4, 5]⟩, ⟨[], [], [], [0, 1, 2, 3, 4, 5, 6]⟩, ⟨[], [], [], [0, 1, 2, 3, 4, 5, 6, 7]⟩, ⟨[], [], [], [0, 1, 2, 3, 4, 5, 6, 7, 8]⟩, ⟨[], [], [], [0, 1, 2, 3, 4, 5, 6, 7, 8]⟩, ⟨[2100], [2100], [2100], []⟩, ⟨[2100], [2100], [], [0, 1, 2, 3, 4, 5, 6, 7, 8, 9, 11]⟩, ⟨[], [], [], [0, 1, 2, 3, 4, 5, 6, 7, 8, 9, 10, 11, 12]⟩] (by kernel_rfl) ?_)))))))))
  refine dp (i6 a0) rfl (by kernel_rfl) (d_cons (vl (eA64u8 a1) rfl rfl rfl rfl rfl rfl (d_next (by kernel_rfl) (d_cons ?_))))
  obtain ⟨r38, hr39, h⟩ := bind_some h
  refine a_call (args := [(eA64u8 a1)]) (u := []) (r := (eA64u8 r38)) rfl rfl (laws_toPoly_ok a1 r38 hr39) rfl (d_next (by kernel_rfl) (d_cons (vl (eA8A64u8 a2) rfl rfl rfl rfl rfl rfl (d_next (by kernel_rfl) (d_cons ?_)))))
  obtain ⟨r41, hr42, h⟩ := bind_some h
  refine a_call (args := [(eA8A64u8 a2)]) (u := []) (r := (eA8A64u8 r41)) rfl rfl (laws_toSkew_ok a2 r41 hr42) rfl (d_next (by kernel_rfl) (d_cons (vl (eA8A64u8 a3) rfl rfl rfl rfl rfl rfl (d_next (by kernel_rfl) (d_cons ?_)))))
  obtain ⟨r44, hr45, h⟩ := bind_some h
  refine a_call (args := [(eA8A64u8 a3)]) (u := []) (r := (eA8A64u8 r44)) rfl rfl (laws_toSkew_ok a3 r44 hr45) rfl (d_next (by kernel_rfl) (d_cons ?_))
  obtain ⟨r46, hr47, h⟩ := bind_some h
  refine a_call (args := [(i6 a0), (eA64u8 r38), (eA8A64u8 r41), (eA8A64u8 r44)]) (u := []) (r := (.tuple [(eA8A64u8 r46.1), (i6 r46.2)])) rfl rfl (impl_AddSkews_ok a0 r38 r41 r44 r46 hr47) rfl (d_next (by kernel_rfl) (dp (.tuple [(eA8A64u8 r46.1), (i6 r46.2)]) rfl (by kernel_rfl) (d_cons (vb (eA8A64u8 r46.1) rfl rfl (d_next (by kernel_rfl) (d_cons (vb (i6 r46.2) rfl rfl (d_next (by kernel_rfl) (d_cons ?_)))))))))
  refine vo 2100 (eA8A64u8 ((vrep 8 (vrep 64 (0 : Int))))) rfl rfl (d_next (by kernel_rfl) (d_cons (vs (eA8A64u8 r46.1) rfl rfl (fun _ => rfl) rfl rfl rfl rfl rfl rfl (d_next (by kernel_rfl) (dp (i6 r46.2) rfl (by kernel_rfl) (d_nil (a_next (σ' := ⟨[(9, (ow 9)), (10, (i6 r22.2)), (11, (ow 11)), (12, (i6 r46.2))], [(9, (bk (eA8A64u8 r22.1))), (11, (bk (eA8A64u8 r46.1)))]⟩) (by kernel_rfl) (a_seq ?_))))))))
  obtain ⟨y55, hy56, hk57⟩ := bind_some h
  clear h
  refine a_join (emb := fun (s : Bool) => ⟨[(43, (.bool s))], []⟩) (pre := fun s => s = y55) ?_ ?_
  · rintro x54 rfl
    have h := hk57
    refine a_st (σ' := ⟨[(43, (.bool x54))], []⟩) (by kernel_rfl) ?_
    cases hb63 : x54
    · have h := ite_f hb63 h
      refine a_cond_f rfl (a_skip (a_next (σ' := ⟨[], []⟩) (by kernel_rfl) (sr (vp (.bool true) rfl (nx _ rfl (a_ret ?_))))))
      refine ⟨.inr rfl, ?_⟩
      rw [Tryz.results3]
      cases h
      exact ⟨_, _, _, _, _, rfl, trivial, .inl ⟨rfl, .inl rfl⟩, rfl, rfl⟩
    · have h := ite_t hb63 h
      refine a_cond_t rfl (sr (vp (.bool false) rfl (nx _ rfl (a_ret (t_ret ?_)))))
      refine ⟨.inr rfl, ?_⟩
      rw [Tryz.results3]
      cases h
      exact ⟨_, _, _, _, _, rfl, trivial, .inl ⟨rfl, .inl rfl⟩, rfl, rfl⟩
  · have h := hy56
    refine a_region (vl (eA8A64u8 r46.1) rfl rfl rfl rfl rfl rfl (vl (eA8A64u8 r22.1) rfl rfl rfl rfl rfl rfl ?_))
    obtain ⟨r60, hr61, h⟩ := bind_some h
    refine a_call (args := [(eA8A64u8 r46.1), (eA8A64u8 r22.1)]) (u := []) (r := (.bool r60)) rfl rfl (laws_eqSkew_ok r46.1 r22.1 r60 hr61) rfl (vp (.bool (!r60)) rfl (vp (.bool (!r60)) rfl ?_))
    cases hb62 : (!r60)
    · have h := ite_f hb62 h
      refine gp (i6 r46.2) rfl rfl (gp (i6 r22.2) rfl rfl (gp (.bool (r46.2 != r22.2)) rfl rfl (vp (.bool (r46.2 != r22.2)) rfl (a_nil ?_))))
      exact j_leaf (r46.2 != r22.2) (Option.some.inj h) (by kernel_rfl)
    · have h := ite_t hb62 h
      refine a_gskip rfl (a_gskip rfl (a_gskip rfl (vp (.bool true) rfl (a_nil ?_))))
      exact j_leaf true (Option.some.inj h) (by kernel_rfl)
end Go.Proofs.YtcgohoclbjgmkaaGreat
