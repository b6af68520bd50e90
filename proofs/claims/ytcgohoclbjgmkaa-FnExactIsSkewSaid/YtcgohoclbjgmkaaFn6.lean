/- Functions of the program: plain Lean functions, and that the program computes them. Printed by gen.py. -/
import Derived.Test.YtcgohoclbjgmkaaFnT
import Derived.Test.YtcgohoclbjgmkaaFn1
import Derived.Test.YtcgohoclbjgmkaaFn3
import Derived.Test.YtcgohoclbjgmkaaFn5
namespace Go.Proofs.Ytcgohoclbjgmkaa
open Go.Abs Go.Proofs
set_option linter.unusedSimpArgs false
set_option linter.unusedVariables false
set_option maxHeartbeats 16000000
attribute [local irreducible] Abs.acode Abs.aops Abs.aopsT Abs.thenK Abs.blockK

def impl_field_isSkew_c : ACode := (.seq (.region 0 [q 2 (.box 88 (t 0)), q 3 (.box 45 (t 1)), q 4 (.asg 0 (.const (.bool false)) 4)] false) (.seq (.region 1 [q 5 (.slice 45 (t 3) none none none), q 6 (.load 88 (t 2)), ⟨some 7, .mkfn 74 [(t 6)] [], none, [1]⟩, ⟨some 8, .call 0 (.func 119) [(t 5), (t 7)], none, [0, 2]⟩, ⟨some 4, .asg 0 (t 8) 4, none, [3, 3, 0, 1, 2, 3]⟩] true) .ret))
def impl_field_isSkew_L : Live := [(0, [0, 1]), (1, [2, 3])]
noncomputable def impl_field_isSkew (a0 : (Int × (List Int))) (a1 : (Vec (Vec Int 64) 8)) : Option Bool :=
  (Option.bind (impl_areAll_impl_Poly_of_impl_field_isResidue a1.1 a0) fun r5 => (some r5))
theorem impl_field_isSkew_ok (a0 : (Int × (List Int))) (a1 : (Vec (Vec Int 64) 8)) (r : Bool) (h : impl_field_isSkew a0 a1 = some r) : Den Try.prog 72 [(eT_i64_Si64_Z a0), (eA8A64u8 a1)] { r := (.bool r) } := by
  refine den_of (rs := [(.bool r)]) (ac := impl_field_isSkew_c) (L := impl_field_isSkew_L) (n := 9) (m := []) (c := Try.f72.body.getD .skip) good Try.func72 (by kernel_rfl) (by kernel_rfl) Try.ntmps72 rfl rfl (by kernel_rfl) rfl rfl ?_
  refine a_st (σ' := ⟨[(0, (eT_i64_Si64_Z a0)), (1, (eA8A64u8 a1))], []⟩) (by kernel_rfl) ?_
  unfold impl_field_isSkew_c
  refine sr (vo 1200 (eT_i64_Si64_Z a0) rfl rfl (vo 1300 (eA8A64u8 a1) rfl rfl (vp (.bool false) rfl (nx ⟨[(2, (ow 2)), (3, (ow 3))], [(2, (bk (eT_i64_Si64_Z a0))), (3, (bk (eA8A64u8 a1)))]⟩ (by kernel_rfl) (a_seq (a_draw [⟨[3], [3], [], []⟩, ⟨[2], [], [], []⟩, ⟨[], [], [], [1]⟩, ⟨[], [], [], [0, 1, 2]⟩, ⟨[], [], [], [0, 1, 2, 3]⟩] (by kernel_rfl) (d_cons (vu (.sl 64 true (a1.1.map eA64u8)) [(3, (bf (eA8A64u8 a1)))] rfl ⟨rfl, trivial, rfl, rfl⟩ rfl (d_next (by kernel_rfl) ?_)))))))))
  refine d_cons (vl (eT_i64_Si64_Z a0) rfl rfl rfl rfl rfl rfl (d_next (by kernel_rfl) (dp (.clo 74 [(eT_i64_Si64_Z a0)] []) rfl (by kernel_rfl) (d_cons ?_))))
  obtain ⟨r5, hr6, h⟩ := bind_some h
  refine a_call (args := [(.sl 64 true (a1.1.map eA64u8)), (.clo 74 [(eT_i64_Si64_Z a0)] [])]) (u := []) (r := (.bool r5)) rfl rfl (Den.args (impl_areAll_impl_Poly_of_impl_field_isResidue_ok a1.1 a0 r5 hr6) rfl rfl (.cons (.loose _) (.cons (.refl _) .nil))) rfl (d_next (by kernel_rfl) (dp (.bool r5) rfl (by kernel_rfl) (d_nil (a_next rfl (a_ret ?_)))))
  refine ⟨.inr rfl, ?_⟩
  rw [Try.results72]
  cases h
  exact ⟨_, _, _, _, _, rfl, trivial, .inl ⟨rfl, .inl rfl⟩, rfl, rfl⟩
def impl_IsSkew_c : ACode := (.seq (.region 0 [q 4 (.box 24 (t 1)), q 5 (.box 45 (t 2)), q 6 (.asg 0 (.const (.bool false)) 4)] false) (.seq (.region 1 [q 7 (.mov (t 0)), q 8 (.load 24 (t 4)), ⟨some 9, .call 0 (.func 46) [(t 7), (t 8)], none, [0, 1]⟩, ⟨some 10, .mov (t 9), none, [2, 2]⟩, ⟨some 11, .mov (t 0), some (10, true), [3]⟩, ⟨some 12, .load 24 (t 4), some (10, true), [3]⟩, ⟨some 13, .call 0 (.func 71) [(t 11), (t 12)], some (10, true), [4, 5, 3, 3]⟩, ⟨some 14, .load 45 (t 5), some (10, true), [3]⟩, ⟨some 15, .call 0 (.func 72) [(t 13), (t 14)], some (10, true), [6, 7, 6, 3]⟩, ⟨some 16, .pick (t 10) (t 15) (.const (.bool false)), none, [3, 8]⟩, ⟨some 6, .asg 0 (t 16) 4, none, [9, 8, 0, 1, 2, 3, 4, 5, 6, 7, 8, 9]⟩] true) .ret))
def impl_IsSkew_L : Live := [(0, [0, 1, 2]), (1, [0, 4, 5])]
noncomputable def impl_IsSkew (a0 : Int) (a1 : (Vec Int 64)) (a2 : (Vec (Vec Int 64) 8)) : Option Bool :=
  (Option.bind (impl_isField a0 a1) fun r12 => (if r12 then (Option.bind (impl_fieldOf a0 a1) fun r16 => (Option.bind (impl_field_isSkew r16 a2) fun r19 => (some r19))) else (some false)))
theorem impl_IsSkew_ok (a0 : Int) (a1 : (Vec Int 64)) (a2 : (Vec (Vec Int 64) 8)) (r : Bool) (h : impl_IsSkew a0 a1 a2 = some r) : Den Try.prog 35 [(i6 a0), (eA64u8 a1), (eA8A64u8 a2)] { r := (.bool r) } := by
  refine den_of (rs := [(.bool r)]) (ac := impl_IsSkew_c) (L := impl_IsSkew_L) (n := 17) (m := []) (c := Try.f35.body.getD .skip) good Try.func35 (by kernel_rfl) (by kernel_rfl) Try.ntmps35 rfl rfl (by kernel_rfl) rfl rfl ?_
  refine a_st (σ' := ⟨[(0, (i6 a0)), (1, (eA64u8 a1)), (2, (eA8A64u8 a2))], []⟩) (by kernel_rfl) ?_
  unfold impl_IsSkew_c
  refine sr (vo 1400 (eA64u8 a1) rfl rfl (vo 1500 (eA8A64u8 a2) rfl rfl (vp (.bool false) rfl (nx ⟨[(0, (i6 a0)), (4, (ow 4)), (5, (ow 5))], [(4, (bk (eA64u8 a1))), (5, (bk (eA8A64u8 a2)))]⟩ (by kernel_rfl) (a_seq (a_draw [⟨[], [], [], []⟩, ⟨[4], [], [], []⟩, ⟨[], [], [], [0, 1]⟩, ⟨[], [], [], [0, 1, 2]⟩, ⟨[], [], [], [0, 1, 2, 3]⟩, ⟨[4], [], [], [0, 1, 2, 3]⟩, ⟨[], [], [], [0, 1, 2, 3, 4, 5]⟩, ⟨[5], [], [], [0, 1, 2, 3]⟩, ⟨[], [], [], [0, 1, 2, 3, 4, 5, 6, 7]⟩, ⟨[], [], [], [0, 1, 2, 3, 4, 5, 6, 7, 8]⟩, ⟨[], [], [], [0, 1, 2, 3, 4, 5, 6, 7, 8, 9]⟩] (by kernel_rfl) (dp (i6 a0) rfl (by kernel_rfl) (d_cons (vl (eA64u8 a1) rfl rfl rfl rfl rfl rfl ?_)))))))))
  refine d_next (by kernel_rfl) (d_cons ?_)
  obtain ⟨r12, hr13, h⟩ := bind_some h
  refine a_call (args := [(i6 a0), (eA64u8 a1)]) (u := []) (r := (.bool r12)) rfl rfl (impl_isField_ok a0 a1 r12 hr13) rfl (d_next (by kernel_rfl) (dp (.bool r12) rfl (by kernel_rfl) ?_))
  cases hb14 : r12
  · have h := ite_f hb14 h
    refine dk rfl (by kernel_rfl) (dk rfl (by kernel_rfl) (dk rfl (by kernel_rfl) (dk rfl (by kernel_rfl) (dk rfl (by kernel_rfl) (dp (.bool false) rfl (by kernel_rfl) (dp (.bool false) rfl (by kernel_rfl) (d_nil (a_next rfl (a_ret ?_)))))))))
    refine ⟨.inr rfl, ?_⟩
    rw [Try.results35]
    cases h
    exact ⟨_, _, _, _, _, rfl, trivial, .inl ⟨rfl, .inl rfl⟩, rfl, rfl⟩
  · have h := ite_t hb14 h
    refine dg (i6 a0) rfl rfl (by kernel_rfl) (d_cons ?_)
    have hl15 : LdOk [] (eA64u8 a1) [] 64 true (eA64u8 a1) := (.nil rfl rfl rfl)
    refine gq (eA64u8 a1) rfl (ld_own (i := ⟨.arr 64 5, 64, 64, (eA64u8 (vrep 64 (0 : Int)))⟩) rfl rfl rfl hl15) hl15.c (d_next (by kernel_rfl) (d_cons ?_))
    obtain ⟨r16, hr17, h⟩ := bind_some h
    refine a_gcall rfl (args := [(i6 a0), (eA64u8 a1)]) (u := []) (r := (eT_i64_Si64_Z r16)) rfl rfl (impl_fieldOf_ok a0 a1 r16 hr17) rfl (d_next (by kernel_rfl) (d_cons ?_))
    have hl18 : LdOk [] (eA8A64u8 a2) [] 512 true (eA8A64u8 a2) := (.nil rfl rfl rfl)
    refine gq (eA8A64u8 a2) rfl (ld_own (i := ⟨.arr 8 24, 512, 512, (eA8A64u8 (vrep 8 (vrep 64 (0 : Int))))⟩) rfl rfl rfl hl18) hl18.c (d_next (by kernel_rfl) (d_cons ?_))
    obtain ⟨r19, hr20, h⟩ := bind_some h
    refine a_gcall rfl (args := [(eT_i64_Si64_Z r16), (eA8A64u8 a2)]) (u := []) (r := (.bool r19)) rfl rfl (impl_field_isSkew_ok r16 a2 r19 hr20) rfl (d_next (by kernel_rfl) (dp (.bool r19) rfl (by kernel_rfl) (dp (.bool r19) rfl (by kernel_rfl) (d_nil (a_next rfl (a_ret ?_))))))
    refine ⟨.inr rfl, ?_⟩
    rw [Try.results35]
    cases h
    exact ⟨_, _, _, _, _, rfl, trivial, .inl ⟨rfl, .inl rfl⟩, rfl, rfl⟩
def laws_FnExactIsSkew_c : ACode := (.seq (.region 0 [q 4 (.box 22 (t 1)), q 5 (.box 42 (t 2)), q 6 (.asg 0 (.const (.bool false)) 4)] false) (.seq (.region 1 [q 9 (.mov (t 0)), q 10 (.load 22 (t 4)), ⟨some 11, .call 0 (.func 15) [(t 10)], none, [1]⟩, q 12 (.load 42 (t 5)), ⟨some 13, .call 0 (.func 34) [(t 12)], none, [3, 2]⟩, ⟨some 14, .call 0 (.func 33) [(t 9), (t 11), (t 13)], none, [0, 2, 4, 4]⟩, ⟨some 7, .asg 0 (t 14) 4, none, [5, 5, 0, 1, 2, 3, 4, 5]⟩] true) (.seq (.region 2 [q 15 (.mov (t 0)), q 16 (.load 22 (t 4)), ⟨some 17, .call 0 (.func 15) [(t 16)], none, [1]⟩, q 18 (.load 42 (t 5)), ⟨some 19, .call 0 (.func 34) [(t 18)], none, [3, 2]⟩, ⟨some 20, .call 0 (.func 35) [(t 15), (t 17), (t 19)], none, [0, 2, 4, 4]⟩, ⟨some 8, .asg 0 (t 20) 4, none, [5, 5, 0, 1, 2, 3, 4, 5]⟩] true) (.seq (.seq (.region 3 [q 21 (.mov (t 8)), q 22 (.mov (t 7)), q 23 (.bin .neq 4 (t 21) (t 22))] false) (.cond (t 23) (.seq (.region 4 [q 6 (.asg 0 (.const (.bool false)) 4)] false) .ret) .skip)) (.seq (.region 5 [q 6 (.asg 0 (.const (.bool true)) 4)] false) .ret)))))
def laws_FnExactIsSkew_L : Live := [(0, [0, 1, 2]), (1, [0, 4, 5]), (2, [0, 4, 5, 7]), (3, [7, 8]), (4, []), (5, []), (100023, [23])]
noncomputable def laws_FnExactIsSkew (a0 : Int) (a1 : (Vec Int 64)) (a2 : (Vec (Vec Int 64) 8)) : Option Bool :=
  (Option.bind (laws_toPoly a1) fun r10 => (Option.bind (laws_toSkew a2) fun r13 => (Option.bind (spec_IsSkew a0 r10 r13) fun r15 => (Option.bind (laws_toPoly a1) fun r26 => (Option.bind (laws_toSkew a2) fun r29 => (Option.bind (impl_IsSkew a0 r26 r29) fun r31 => (if (!(r31 == r15)) then (some false) else (some true))))))))
theorem laws_FnExactIsSkew_ok (a0 : Int) (a1 : (Vec Int 64)) (a2 : (Vec (Vec Int 64) 8)) (r : Bool) (h : laws_FnExactIsSkew a0 a1 a2 = some r) : Den Try.prog 9 [(i6 a0), (eA64u8 a1), (eA8A64u8 a2)] { r := (.bool r) } := by
  refine den_of (rs := [(.bool r)]) (ac := laws_FnExactIsSkew_c) (L := laws_FnExactIsSkew_L) (n := 24) (m := []) (c := Try.f9.body.getD .skip) good Try.func9 (by kernel_rfl) (by kernel_rfl) Try.ntmps9 rfl rfl (by kernel_rfl) rfl rfl ?_
  refine a_st (σ' := ⟨[(0, (i6 a0)), (1, (eA64u8 a1)), (2, (eA8A64u8 a2))], []⟩) (by kernel_rfl) ?_
  unfold laws_FnExactIsSkew_c
  refine sr (vo 1400 (eA64u8 a1) rfl rfl (vo 1500 (eA8A64u8 a2) rfl rfl (vp (.bool false) rfl (nx ⟨[(0, (i6 a0)), (4, (ow 4)), (5, (ow 5))], [(4, (bk (eA64u8 a1))), (5, (bk (eA8A64u8 a2)))]⟩ (by kernel_rfl) (a_seq (a_draw [⟨[], [], [], []⟩, ⟨[4], [], [], []⟩, ⟨[], [], [], [1]⟩, ⟨[5], [], [], []⟩, ⟨[], [], [], [1, 2, 3]⟩, ⟨[], [], [], [0, 1, 2, 3, 4]⟩, ⟨[], [], [], [0, 1, 2, 3, 4, 5]⟩] (by kernel_rfl) (dp (i6 a0) rfl (by kernel_rfl) (d_cons (vl (eA64u8 a1) rfl rfl rfl rfl rfl rfl ?_)))))))))
  refine d_next (by kernel_rfl) (d_cons ?_)
  obtain ⟨r10, hr11, h⟩ := bind_some h
  refine a_call (args := [(eA64u8 a1)]) (u := []) (r := (eA64u8 r10)) rfl rfl (laws_toPoly_ok a1 r10 hr11) rfl (d_next (by kernel_rfl) (d_cons (vl (eA8A64u8 a2) rfl rfl rfl rfl rfl rfl (d_next (by kernel_rfl) (d_cons ?_)))))
  obtain ⟨r13, hr14, h⟩ := bind_some h
  refine a_call (args := [(eA8A64u8 a2)]) (u := []) (r := (eA8A64u8 r13)) rfl rfl (laws_toSkew_ok a2 r13 hr14) rfl (d_next (by kernel_rfl) (d_cons ?_))
  obtain ⟨r15, hr16, h⟩ := bind_some h
  refine a_call (args := [(i6 a0), (eA64u8 r10), (eA8A64u8 r13)]) (u := []) (r := (.bool r15)) rfl rfl (spec_IsSkew_ok a0 r10 r13 r15 hr16) rfl (d_next (by kernel_rfl) (dp (.bool r15) rfl (by kernel_rfl) (d_nil (a_next (σ' := ⟨[(0, (i6 a0)), (4, (ow 4)), (5, (ow 5)), (7, (.bool r15))], [(4, (bk (eA64u8 a1))), (5, (bk (eA8A64u8 a2)))]⟩) (by kernel_rfl) (a_seq (a_draw [⟨[], [], [], []⟩, ⟨[4], [], [], []⟩, ⟨[], [], [], [1]⟩, ⟨[5], [], [], []⟩, ⟨[], [], [], [1, 2, 3]⟩, ⟨[], [], [], [0, 1, 2, 3, 4]⟩, ⟨[], [], [], [0, 1, 2, 3, 4, 5]⟩] (by kernel_rfl) (dp (i6 a0) rfl (by kernel_rfl) (d_cons (vl (eA64u8 a1) rfl rfl rfl rfl rfl rfl ?_)))))))))
  refine d_next (by kernel_rfl) (d_cons ?_)
  obtain ⟨r26, hr27, h⟩ := bind_some h
  refine a_call (args := [(eA64u8 a1)]) (u := []) (r := (eA64u8 r26)) rfl rfl (laws_toPoly_ok a1 r26 hr27) rfl (d_next (by kernel_rfl) (d_cons (vl (eA8A64u8 a2) rfl rfl rfl rfl rfl rfl (d_next (by kernel_rfl) (d_cons ?_)))))
  obtain ⟨r29, hr30, h⟩ := bind_some h
  refine a_call (args := [(eA8A64u8 a2)]) (u := []) (r := (eA8A64u8 r29)) rfl rfl (laws_toSkew_ok a2 r29 hr30) rfl (d_next (by kernel_rfl) (d_cons ?_))
  obtain ⟨r31, hr32, h⟩ := bind_some h
  refine a_call (args := [(i6 a0), (eA64u8 r26), (eA8A64u8 r29)]) (u := []) (r := (.bool r31)) rfl rfl (impl_IsSkew_ok a0 r26 r29 r31 hr32) rfl (d_next (by kernel_rfl) (dp (.bool r31) rfl (by kernel_rfl) (d_nil (a_next (σ' := ⟨[(7, (.bool r15)), (8, (.bool r31))], []⟩) (by kernel_rfl) (a_seq (sr (vp (.bool r31) rfl (vp (.bool r15) rfl (vp (.bool ((!(r31 == r15)))) rfl ?_)))))))))
  refine nx ⟨[(23, (.bool ((!(r31 == r15)))))], []⟩ (by kernel_rfl) ?_
  cases hb33 : (!(r31 == r15))
  · have h := ite_f hb33 h
    refine a_cond_f rfl (a_skip (a_next (σ' := ⟨[], []⟩) (by kernel_rfl) (sr (vp (.bool true) rfl (nx _ rfl (a_ret ?_))))))
    refine ⟨.inr rfl, ?_⟩
    rw [Try.results9]
    cases h
    exact ⟨_, _, _, _, _, rfl, trivial, .inl ⟨rfl, .inl rfl⟩, rfl, rfl⟩
  · have h := ite_t hb33 h
    refine a_cond_t rfl (sr (vp (.bool false) rfl (nx _ rfl (a_ret (t_ret ?_)))))
    refine ⟨.inr rfl, ?_⟩
    rw [Try.results9]
    cases h
    exact ⟨_, _, _, _, _, rfl, trivial, .inl ⟨rfl, .inl rfl⟩, rfl, rfl⟩
def spec_l01Count_c : ACode := (.seq (.region 0 [q 4 (.asg 0 (.const (.int .i64 0)) 2)] false) (.seq (.region 1 [q 5 (.asg 0 (.const (.int .i64 1)) 2)] false) (.seq (.block 0 (.loop (.seq (.seq (.region 2 [q 6 (.mov (t 1)), q 7 (.bin .gtr 2 (t 6) (.const (.int .i64 0))), q 8 (.mov (t 7)), ⟨some 9, .mov (t 5), some (8, true), []⟩, ⟨some 10, .bin .leq 2 (t 9) (.const (.int .i64 1000000000000)), some (8, true), []⟩, q 11 (.pick (t 8) (t 10) (.const (.bool false)))] false) (.cond (t 11) .skip (.exit 0))) (.seq (.block 1 (.region 4 [q 14 (.mov (t 5)), q 15 (.mov (t 0)), q 16 (.bin .mul 2 (t 14) (t 15)), q 5 (.asg 0 (t 16) 2)] false)) (.region 3 [q 12 (.mov (t 1)), q 13 (.bin .sub 2 (t 12) (.const (.int .i64 1))), q 1 (.asg 0 (t 13) 2)] false))))) (.seq (.region 5 [q 17 (.mov (t 5)), q 18 (.blt 0 .min [(t 17), (.const (.int .i64 1000000000001))] [2, 2]), q 4 (.asg 0 (t 18) 2)] false) .ret))))
def spec_l01Count_L : Live := [(0, [0, 1]), (1, [0, 1]), (2, [0, 1, 5]), (3, [0, 1, 5]), (4, [0, 1, 5]), (5, [5]), (100011, [0, 1, 5, 11])]
noncomputable def spec_l01Count_l1 (a0 : Int) (x39 : Int) (x40 : Int) : Option ((Int × Int) ⊕ Int) :=
  (Option.bind (α := Bool) ((if (decide (x39 > 0)) then (some ((decide (x40 ≤ 1000000000000)))) else (some false))) fun x52 => (if x52 then (some (.inl ((IntKind.i64.wrap (x39 - 1), IntKind.i64.wrap (x40 * a0))))) else (some (.inr x40))))
noncomputable def spec_l01Count (a0 : Int) (a1 : Int) : Option Int :=
  (Option.bind (α := Int) ((loopM (fun s : (Int × Int) => spec_l01Count_l1 a0 s.1 s.2) (a1, 1))) fun x28 => (some (if 1000000000001 < x28 then 1000000000001 else x28)))
theorem spec_l01Count_ok (a0 : Int) (a1 : Int) (r : Int) (h : spec_l01Count a0 a1 = some r) : Den Try.prog 62 [(i6 a0), (i6 a1)] { r := (i6 r) } := by
  refine den_of (rs := [(i6 r)]) (ac := spec_l01Count_c) (L := spec_l01Count_L) (n := 19) (m := []) (c := Try.f62.body.getD .skip) good Try.func62 (by kernel_rfl) (by kernel_rfl) Try.ntmps62 rfl rfl (by kernel_rfl) rfl rfl ?_
  refine a_st (σ' := ⟨[(0, (i6 a0)), (1, (i6 a1))], []⟩) (by kernel_rfl) ?_
  unfold spec_l01Count_c
  refine sr (vp (i6 0) rfl (nx ⟨[(0, (i6 a0)), (1, (i6 a1))], []⟩ (by kernel_rfl) (sr (vp (i6 1) rfl (nx ⟨[(0, (i6 a0)), (1, (i6 a1)), (5, (i6 1))], []⟩ (by kernel_rfl) ?_)))))
  obtain ⟨y29, hy30, hk31⟩ := bind_some h
  clear h
  refine a_join (emb := fun (s : Int) => ⟨[(5, (i6 s))], []⟩) (pre := fun s => s = y29) ?_ ?_
  · rintro x28 rfl
    have h := hk31
    refine a_st (σ' := ⟨[(5, (i6 x28))], []⟩) (by kernel_rfl) (sr (vp (i6 x28) rfl (vp (i6 (if 1000000000001 < x28 then 1000000000001 else x28)) rfl (vp (i6 (if 1000000000001 < x28 then 1000000000001 else x28)) rfl (nx _ rfl (a_ret ?_))))))
    refine ⟨.inr rfl, ?_⟩
    rw [Try.results62]
    cases h
    exact ⟨_, _, _, _, _, rfl, trivial, .inl ⟨rfl, .inl rfl⟩, rfl, rfl⟩
  · have h := hy30
    refine a_block ?_
    refine a_loop (emb := fun (s : (Int × Int)) => ⟨[(0, (i6 a0)), (1, (i6 s.1)), (5, (i6 s.2))], []⟩) (body := (fun s : (Int × Int) => spec_l01Count_l1 a0 s.1 s.2)) (G := fun q => some q = some y29) h rfl ?_ (by kernel_rfl)
    rintro X48 ⟨x39, x40⟩ x49 h hX50
    have h : spec_l01Count_l1 a0 x39 x40 = some x49 := h
    refine a_st (σ' := ⟨[(0, (i6 a0)), (1, (i6 x39)), (5, (i6 x40))], []⟩) (by kernel_rfl) (a_seq ?_)
    obtain ⟨y53, hy54, hk55⟩ := bind_some h
    clear h
    refine a_join (emb := fun (s : Bool) => ⟨[(0, (i6 a0)), (1, (i6 x39)), (5, (i6 x40)), (11, (.bool s))], []⟩) (pre := fun s => s = y53) ?_ ?_
    · rintro x52 rfl
      have h := hk55
      refine a_st (σ' := ⟨[(0, (i6 a0)), (1, (i6 x39)), (5, (i6 x40)), (11, (.bool x52))], []⟩) (by kernel_rfl) ?_
      cases hb57 : x52
      · have h := ite_f hb57 h
        refine a_cond_f rfl (a_exit (t_exit ?_))
        cases h
        have h := hX50
        refine t_exit (b_exit ?_)
        exact j_leaf x40 (Option.some.inj h) (by kernel_rfl)
      · have h := ite_t hb57 h
        refine a_cond_t rfl (a_skip (a_next (σ' := ⟨[(0, (i6 a0)), (1, (i6 x39)), (5, (i6 x40))], []⟩) (by kernel_rfl) (a_seq (a_block (a_region (vp (i6 x40) rfl (vp (i6 a0) rfl (vp (i6 (IntKind.i64.wrap (x40 * a0))) rfl (vp (i6 (IntKind.i64.wrap (x40 * a0))) rfl ?_)))))))))
        refine a_nil (b_norm (a_next (σ' := ⟨[(0, (i6 a0)), (1, (i6 x39)), (5, (i6 (IntKind.i64.wrap (x40 * a0))))], []⟩) (by kernel_rfl) (a_region (vp (i6 x39) rfl (vp (i6 (IntKind.i64.wrap (x39 - 1))) rfl (vp (i6 (IntKind.i64.wrap (x39 - 1))) rfl (a_nil ?_)))))))
        cases h
        exact a_again (by kernel_rfl) hX50
    · have h := hy54
      refine a_region (vp (i6 x39) rfl (vp (.bool ((decide (x39 > 0)))) rfl (vp (.bool ((decide (x39 > 0)))) rfl ?_)))
      cases hb56 : (decide (x39 > 0))
      · have h := ite_f hb56 h
        refine a_gskip rfl (a_gskip rfl (vp (.bool false) rfl (a_nil ?_)))
        exact j_leaf false (Option.some.inj h) (by kernel_rfl)
      · have h := ite_t hb56 h
        refine gp (i6 x40) rfl rfl (gp (.bool ((decide (x40 ≤ 1000000000000)))) rfl rfl (vp (.bool ((decide (x40 ≤ 1000000000000)))) rfl (a_nil ?_)))
        exact j_leaf ((decide (x40 ≤ 1000000000000))) (Option.some.inj h) (by kernel_rfl)
def spec_l01Of_c : ACode := (.seq (.region 0 [q 4 (.alloc 24)] false) (.seq (.region 1 [q 7 (.build 24 []), q 5 (.alloc 24), ⟨none, .store 24 (t 5) (t 7), none, []⟩] false) (.seq (.seq (.region 2 [q 6 (.asg 0 (.const (.int .i64 0)) 3)] false) (.block 0 (.loop (.seq (.seq (.region 3 [q 8 (.mov (t 1)), q 9 (.bin .gtr 2 (t 8) (.const (.int .i64 0)))] false) (.cond (t 9) .skip (.exit 0))) (.seq (.block 1 (.seq (.region 5 [q 12 (.mov (t 6)), q 13 (.mov (t 1)), q 14 (.mov (t 0)), q 15 (.bin .rem 2 (t 13) (t 14)), q 16 (.conv 2 5 (t 15)), q 17 (.indexAddr 24 (t 5) (t 12)), ⟨none, .store 5 (t 17) (t 16), none, []⟩] false) (.region 6 [q 18 (.mov (t 1)), q 19 (.mov (t 0)), q 20 (.bin .quo 2 (t 18) (t 19)), q 1 (.asg 0 (t 20) 2)] false))) (.region 4 [q 10 (.mov (t 6)), q 11 (.bin .add 3 (t 10) (.const (.int .i64 1))), q 6 (.asg 0 (t 11) 3)] false)))))) (.seq (.region 7 [q 21 (.load 24 (t 5)), ⟨none, .store 24 (t 4) (t 21), none, []⟩] false) .ret))))
def spec_l01Of_L : Live := [(0, [0, 1]), (1, [0, 1, 4]), (2, [0, 1, 4, 5]), (3, [0, 1, 4, 5, 6]), (4, [0, 1, 4, 5, 6]), (5, [0, 1, 4, 5, 6]), (6, [0, 1, 4, 5, 6]), (7, [4, 5]), (100009, [0, 1, 4, 5, 6, 9])]
noncomputable def spec_l01Of_l1 (a0 : Int) (x33 : Int) (x34 : Int) (x35 : (Vec Int 64)) : Option ((Int × Int × (Vec Int 64)) ⊕ (Vec Int 64)) :=
  (if (decide (x33 > 0)) then (ifp (a0 ≠ 0) ((ifp (0 ≤ x34 ∧ x34 < ((64 : Nat) : Int)) ((ifp (a0 ≠ 0) ((some (.inl ((IntKind.i64.wrap (Int.tdiv x33 a0), IntKind.i64.wrap (x34 + 1), (vset x35 x34.toNat (IntKind.u8.wrap (Int.tmod x33 a0))))))))))))) else (some (.inr x35)))
noncomputable def spec_l01Of (a0 : Int) (a1 : Int) : Option (Vec Int 64) :=
  (Option.bind (α := (Vec Int 64)) ((loopM (fun s : (Int × Int × (Vec Int 64)) => spec_l01Of_l1 a0 s.1 s.2.1 s.2.2) (a1, 0, (vrep 64 (0 : Int))))) fun x24 => (some x24))
theorem spec_l01Of_ok (a0 : Int) (a1 : Int) (r : (Vec Int 64)) (h : spec_l01Of a0 a1 = some r) : Den Try.prog 63 [(i6 a0), (i6 a1)] { r := (eA64u8 r) } := by
  refine den_of (rs := [(eA64u8 r)]) (ac := spec_l01Of_c) (L := spec_l01Of_L) (n := 22) (m := []) (c := Try.f63.body.getD .skip) good Try.func63 (by kernel_rfl) (by kernel_rfl) Try.ntmps63 rfl rfl (by kernel_rfl) rfl rfl ?_
  refine a_st (σ' := ⟨[(0, (i6 a0)), (1, (i6 a1))], []⟩) (by kernel_rfl) ?_
  unfold spec_l01Of_c
  refine sr (vo 1400 (eA64u8 ((vrep 64 (0 : Int)))) rfl rfl (nx ⟨[(0, (i6 a0)), (1, (i6 a1)), (4, (ow 4))], [(4, (bk (eA64u8 ((vrep 64 (0 : Int))))))]⟩ (by kernel_rfl) (sr (vq (eA64u8 ((vrep 64 (0 : Int)))) rfl ⟨⟨_, rfl, rfl⟩, all_nil⟩ (vo 1500 (eA64u8 ((vrep 64 (0 : Int)))) rfl rfl (vs (eA64u8 ((vrep 64 (0 : Int)))) rfl rfl (fun _ => rfl) rfl rfl rfl rfl rfl rfl (nx ⟨[(0, (i6 a0)), (1, (i6 a1)), (4, (ow 4)), (5, (ow 5))], [(4, (bk (eA64u8 ((vrep 64 (0 : Int)))))), (5, (bk (eA64u8 ((vrep 64 (0 : Int))))))]⟩ (by kernel_rfl) ?_)))))))
  obtain ⟨y25, hy26, hk27⟩ := bind_some h
  clear h
  refine a_join (emb := fun (s : (Vec Int 64)) => ⟨[(4, (ow 4)), (5, (ow 5))], [(4, (bk (eA64u8 ((vrep 64 (0 : Int)))))), (5, (bk (eA64u8 s)))]⟩) (pre := fun s => s = y25) ?_ ?_
  · rintro x24 rfl
    have h := hk27
    refine a_st (σ' := ⟨[(4, (ow 4)), (5, (ow 5))], [(4, (bk (eA64u8 ((vrep 64 (0 : Int)))))), (5, (bk (eA64u8 x24)))]⟩) (by kernel_rfl) (sr (vl (eA64u8 x24) rfl rfl rfl rfl rfl rfl (vs (eA64u8 x24) rfl rfl (fun _ => rfl) rfl rfl rfl rfl rfl rfl (nx _ rfl (a_ret ?_)))))
    have hl52 : LdOk [] (eA64u8 x24) [] 64 true (eA64u8 x24) := (.nil rfl rfl rfl)
    refine ⟨.inr rfl, ?_⟩
    rw [Try.results63]
    cases h
    exact ⟨_, _, _, _, _, ld_own (i := ⟨.arr 64 5, 64, 64, (eA64u8 (vrep 64 (0 : Int)))⟩) rfl rfl rfl hl52, hl52.c, .inl ⟨rfl, .inl rfl⟩, rfl, rfl⟩
  · have h := hy26
    refine sr (vp (i6 0) rfl (nx ⟨[(0, (i6 a0)), (1, (i6 a1)), (4, (ow 4)), (5, (ow 5)), (6, (i6 0))], [(4, (bk (eA64u8 ((vrep 64 (0 : Int)))))), (5, (bk (eA64u8 ((vrep 64 (0 : Int))))))]⟩ (by kernel_rfl) (a_block ?_)))
    refine a_loop (emb := fun (s : (Int × Int × (Vec Int 64))) => ⟨[(0, (i6 a0)), (1, (i6 s.1)), (4, (ow 4)), (5, (ow 5)), (6, (i6 s.2.1))], [(4, (bk (eA64u8 ((vrep 64 (0 : Int)))))), (5, (bk (eA64u8 s.2.2)))]⟩) (body := (fun s : (Int × Int × (Vec Int 64)) => spec_l01Of_l1 a0 s.1 s.2.1 s.2.2)) (G := fun q => some q = some y25) h rfl ?_ (by kernel_rfl)
    rintro X41 ⟨x33, x34, x35⟩ x42 h hX43
    have h : spec_l01Of_l1 a0 x33 x34 x35 = some x42 := h
    refine a_st (σ' := ⟨[(0, (i6 a0)), (1, (i6 x33)), (4, (ow 4)), (5, (ow 5)), (6, (i6 x34))], [(4, (bk (eA64u8 ((vrep 64 (0 : Int)))))), (5, (bk (eA64u8 x35)))]⟩) (by kernel_rfl) (a_seq (sr (vp (i6 x33) rfl (vp (.bool ((decide (x33 > 0)))) rfl (nx ⟨[(0, (i6 a0)), (1, (i6 x33)), (4, (ow 4)), (5, (ow 5)), (6, (i6 x34)), (9, (.bool ((decide (x33 > 0)))))], [(4, (bk (eA64u8 ((vrep 64 (0 : Int)))))), (5, (bk (eA64u8 x35)))]⟩ (by kernel_rfl) ?_)))))
    cases hb44 : (decide (x33 > 0))
    · have h := ite_f hb44 h
      refine a_cond_f rfl (a_exit (t_exit ?_))
      cases h
      have h := hX43
      refine t_exit (b_exit ?_)
      exact j_leaf x35 (Option.some.inj h) (by kernel_rfl)
    · have h := ite_t hb44 h
      refine a_cond_t rfl (a_skip (a_next (σ' := ⟨[(0, (i6 a0)), (1, (i6 x33)), (4, (ow 4)), (5, (ow 5)), (6, (i6 x34))], [(4, (bk (eA64u8 ((vrep 64 (0 : Int)))))), (5, (bk (eA64u8 x35)))]⟩) (by kernel_rfl) (a_seq (a_block (sr (vp (i6 x34) rfl (vp (i6 x33) rfl (vp (i6 a0) rfl ?_))))))))
      obtain ⟨hc45, h⟩ := ifp_some h
      refine vq (i6 (Int.tmod x33 a0)) rfl hc45 (vp (b8 (IntKind.u8.wrap (Int.tmod x33 a0))) rfl ?_)
      obtain ⟨hc46, h⟩ := ifp_some h
      refine vq (.own 5 [x34.toNat] [x34.toNat * 1]) rfl hc46 ?_
      have hs47 : StOk [x34.toNat] (eA64u8 x35) [x34.toNat * 1] 1 (b8 (IntKind.u8.wrap (Int.tmod x33 a0))) (eA64u8 ((vset x35 x34.toNat (IntKind.u8.wrap (Int.tmod x33 a0))))) := (.arr (y := IntKind.u8.wrap (Int.tmod x33 a0)) (vlt x35 hc46) rfl (.nil rfl rfl rfl rfl))
      refine vu .top [(5, (bk (eA64u8 ((vset x35 x34.toNat (IntKind.u8.wrap (Int.tmod x33 a0)))))))] (st_own (i := ⟨.int .u8, 1, 1, (.int .u8 0)⟩) rfl rfl (fun _ => rfl) rfl hs47) (hs47.c rfl) rfl (nx ⟨[(0, (i6 a0)), (1, (i6 x33)), (4, (ow 4)), (5, (ow 5)), (6, (i6 x34))], [(4, (bk (eA64u8 ((vrep 64 (0 : Int)))))), (5, (bk (eA64u8 ((vset x35 x34.toNat (IntKind.u8.wrap (Int.tmod x33 a0)))))))]⟩ (by kernel_rfl) (a_region (vp (i6 x33) rfl (vp (i6 a0) rfl ?_))))
      obtain ⟨hc48, h⟩ := ifp_some h
      refine vq (i6 (IntKind.i64.wrap (Int.tdiv x33 a0))) rfl hc48 (vp (i6 (IntKind.i64.wrap (Int.tdiv x33 a0))) rfl (a_nil (b_norm (a_next (σ' := ⟨[(0, (i6 a0)), (1, (i6 (IntKind.i64.wrap (Int.tdiv x33 a0)))), (4, (ow 4)), (5, (ow 5)), (6, (i6 x34))], [(4, (bk (eA64u8 ((vrep 64 (0 : Int)))))), (5, (bk (eA64u8 ((vset x35 x34.toNat (IntKind.u8.wrap (Int.tmod x33 a0)))))))]⟩) (by kernel_rfl) (a_region (vp (i6 x34) rfl (vp (i6 (IntKind.i64.wrap (x34 + 1))) rfl (vp (i6 (IntKind.i64.wrap (x34 + 1))) rfl (a_nil ?_)))))))))
      cases h
      exact a_again (by kernel_rfl) hX43
def spec_l01Code_c : ACode := (.seq (.region 0 [q 4 (.asg 0 (.const (.int .i64 0)) 2)] false) (.seq (.seq (.region 1 [q 6 (.mov (t 0)), q 7 (.call 0 (.func 60) [(t 6)]), q 8 (.un .not (t 7))] false) (.cond (t 8) (.seq (.region 2 [q 4 (.asg 0 (.const (.int .i64 1)) 2)] false) .ret) .skip)) (.seq (.seq (.region 3 [q 5 (.asg 0 (.const (.int .i64 0)) 3)] false) (.block 0 (.loop (.seq (.seq (.region 4 [q 9 (.mov (t 5)), q 10 (.mov (t 1)), q 11 (.blt 0 .len [(t 10)] [36]), q 12 (.bin .lss 3 (t 9) (t 11))] false) (.cond (t 12) .skip (.exit 0))) (.seq (.block 1 (.seq (.region 6 [q 15 (.mov (t 0)), q 16 (.mov (t 1)), q 17 (.mov (t 5)), q 18 (.indexAddr 36 (t 16) (t 17)), q 19 (.load 24 (t 18)), q 20 (.call 0 (.func 91) [(t 15), (t 19)]), q 21 (.un .not (t 20))] false) (.cond (t 21) (.seq (.region 7 [q 4 (.asg 0 (.const (.int .i64 1)) 2)] false) .ret) .skip))) (.region 5 [q 13 (.mov (t 5)), q 14 (.bin .add 3 (t 13) (.const (.int .i64 1))), q 5 (.asg 0 (t 14) 3)] false)))))) (.seq (.region 8 [q 4 (.asg 0 (.const (.int .i64 0)) 2)] false) .ret))))
def spec_l01Code_L : Live := [(0, [0, 1]), (1, [0, 1]), (2, []), (3, [0, 1]), (4, [0, 1, 5]), (5, [0, 1, 5]), (6, [0, 1, 5]), (7, []), (8, []), (100008, [0, 1, 8]), (100012, [0, 1, 5, 12]), (100021, [0, 1, 5, 21])]
noncomputable def spec_l01Code_l1 (a1 : (List (Vec Int 64))) (a0 : Int) (x36 : Int) : Option (Int ⊕ (Unit ⊕ Int)) :=
  (if (decide (x36 < (a1.length : Int))) then (ifp (0 ≤ x36 ∧ x36 < ((a1.length : Nat) : Int)) ((Option.bind (spec_l01Is a0 (rd a1 x36.toNat)) fun r49 => (if (!r49) then (some (.inr (.inr 1))) else (some (.inl (IntKind.i64.wrap (x36 + 1)))))))) else (some (.inr (((.inl ()))))))
noncomputable def spec_l01Code (a0 : Int) (a1 : (List (Vec Int 64))) : Option Int :=
  (Option.bind (spec_l01Prime a0) fun r1 => (if (!r1) then (some 1) else (Option.bind (α := (Unit ⊕ Int)) ((loopM (fun s : Int => spec_l01Code_l1 a1 a0 s) 0)) fun z => match z with | .inl _ => (some 0) | .inr r53 => (some r53))))
theorem spec_l01Code_ok (a0 : Int) (a1 : (List (Vec Int 64))) (r : Int) (h : spec_l01Code a0 a1 = some r) : Den Try.prog 94 [(i6 a0), (eSA64u8 a1)] { r := (i6 r) } := by
  refine den_of (rs := [(i6 r)]) (ac := spec_l01Code_c) (L := spec_l01Code_L) (n := 22) (m := []) (c := Try.f94.body.getD .skip) good Try.func94 (by kernel_rfl) (by kernel_rfl) Try.ntmps94 rfl rfl (by kernel_rfl) rfl rfl ?_
  refine a_st (σ' := ⟨[(0, (i6 a0)), (1, (eSA64u8 a1))], []⟩) (by kernel_rfl) ?_
  unfold spec_l01Code_c
  refine sr (vp (i6 0) rfl (nx ⟨[(0, (i6 a0)), (1, (eSA64u8 a1))], []⟩ (by kernel_rfl) (a_seq (sr (vp (i6 a0) rfl ?_)))))
  obtain ⟨r1, hr2, h⟩ := bind_some h
  refine a_call (args := [(i6 a0)]) (u := []) (r := (.bool r1)) rfl rfl (spec_l01Prime_ok a0 r1 hr2) rfl (vp (.bool (!r1)) rfl (nx ⟨[(0, (i6 a0)), (1, (eSA64u8 a1)), (8, (.bool (!r1)))], []⟩ (by kernel_rfl) ?_))
  cases hb3 : (!r1)
  · have h := ite_f hb3 h
    refine a_cond_f rfl (a_skip (a_next (σ' := ⟨[(0, (i6 a0)), (1, (eSA64u8 a1))], []⟩) (by kernel_rfl) ?_))
    obtain ⟨y27, hy28, hk29⟩ := bind_some h
    clear h
    refine a_join (emb := fun (s : Unit) => ⟨[], []⟩) (pre := fun s => (.inl s) = y27) ?_ ?_
    · rintro _ rfl
      have h := hk29
      refine a_st (σ' := ⟨[], []⟩) (by kernel_rfl) (sr (vp (i6 0) rfl (nx _ rfl (a_ret ?_))))
      refine ⟨.inr rfl, ?_⟩
      rw [Try.results94]
      cases h
      exact ⟨_, _, _, _, _, rfl, trivial, .inl ⟨rfl, .inl rfl⟩, rfl, rfl⟩
    · have h := hy28
      refine sr (vp (i6 0) rfl (nx ⟨[(0, (i6 a0)), (1, (eSA64u8 a1)), (5, (i6 0))], []⟩ (by kernel_rfl) (a_block ?_)))
      refine a_loop (emb := fun (s : Int) => ⟨[(0, (i6 a0)), (1, (eSA64u8 a1)), (5, (i6 s))], []⟩) (body := (fun s : Int => spec_l01Code_l1 a1 a0 s)) (G := fun q => some q = some y27) h rfl ?_ (by kernel_rfl)
      rintro X43 x36 x44 h hX45
      have h : spec_l01Code_l1 a1 a0 x36 = some x44 := h
      refine a_st (σ' := ⟨[(0, (i6 a0)), (1, (eSA64u8 a1)), (5, (i6 x36))], []⟩) (by kernel_rfl) (a_seq (sr (vp (i6 x36) rfl (vp (eSA64u8 a1) rfl (vq (i6 (a1.length : Int)) (len_run rfl rfl) trivial (vp (.bool ((decide (x36 < (a1.length : Int))))) rfl (nx ⟨[(0, (i6 a0)), (1, (eSA64u8 a1)), (5, (i6 x36)), (12, (.bool ((decide (x36 < (a1.length : Int))))))], []⟩ (by kernel_rfl) ?_)))))))
      cases hb46 : (decide (x36 < (a1.length : Int)))
      · have h := ite_f hb46 h
        refine a_cond_f rfl (a_exit (t_exit ?_))
        cases h
        have h := hX45
        refine t_exit (b_exit ?_)
        exact j_leaf () (Option.some.inj h) (by kernel_rfl)
      · have h := ite_t hb46 h
        refine a_cond_t rfl (a_skip (a_next (σ' := ⟨[(0, (i6 a0)), (1, (eSA64u8 a1)), (5, (i6 x36))], []⟩) (by kernel_rfl) (a_seq (a_block (sr (vp (i6 a0) rfl (vp (eSA64u8 a1) rfl (vp (i6 x36) rfl ?_))))))))
        obtain ⟨hc47, h⟩ := ifp_some h
        refine vq (.ref (.row 64 (a1.map eA64u8)) [x36.toNat] [x36.toNat * 64]) rfl (lmap hc47) ?_
        have hl48 : LdOk [x36.toNat] (.row 64 (a1.map eA64u8)) [x36.toNat * 64] 64 true (eA64u8 (rd a1 x36.toNat)) := (.row (llt hc47) rfl (.nil rfl rfl rfl))
        refine vq (eA64u8 (rd a1 x36.toNat)) (ld_ref (i := ⟨.arr 64 5, 64, 64, (eA64u8 (vrep 64 (0 : Int)))⟩) rfl rfl hl48) hl48.c ?_
        obtain ⟨r49, hr50, h⟩ := bind_some h
        refine a_call (args := [(i6 a0), (eA64u8 (rd a1 x36.toNat))]) (u := []) (r := (.bool r49)) rfl rfl (spec_l01Is_ok a0 (rd a1 x36.toNat) r49 hr50) rfl (vp (.bool (!r49)) rfl (nx ⟨[(0, (i6 a0)), (1, (eSA64u8 a1)), (5, (i6 x36)), (21, (.bool (!r49)))], []⟩ (by kernel_rfl) ?_))
        cases hb51 : (!r49)
        · have h := ite_f hb51 h
          refine a_cond_f rfl (a_skip (b_norm (a_next (σ' := ⟨[(0, (i6 a0)), (1, (eSA64u8 a1)), (5, (i6 x36))], []⟩) (by kernel_rfl) (a_region (vp (i6 x36) rfl (vp (i6 (IntKind.i64.wrap (x36 + 1))) rfl (vp (i6 (IntKind.i64.wrap (x36 + 1))) rfl (a_nil ?_))))))))
          cases h
          exact a_again (by kernel_rfl) hX45
        · have h := ite_t hb51 h
          refine a_cond_t rfl (sr (vp (i6 1) rfl (nx _ rfl (a_ret (b_ret (t_ret ?_))))))
          cases h
          have h := hX45
          refine t_ret (b_ret (t_ret ?_))
          cases h
          have h := hk29
          refine ⟨.inr rfl, ?_⟩
          rw [Try.results94]
          cases h
          exact ⟨_, _, _, _, _, rfl, trivial, .inl ⟨rfl, .inl rfl⟩, rfl, rfl⟩
  · have h := ite_t hb3 h
    refine a_cond_t rfl (sr (vp (i6 1) rfl (nx _ rfl (a_ret (t_ret ?_)))))
    refine ⟨.inr rfl, ?_⟩
    rw [Try.results94]
    cases h
    exact ⟨_, _, _, _, _, rfl, trivial, .inl ⟨rfl, .inl rfl⟩, rfl, rfl⟩
end Go.Proofs.Ytcgohoclbjgmkaa
