/- Functions of the program: plain Lean functions, and that the program computes them. Printed by gen.py. -/
import Derived.Test.YtcgohoclbjgmkaaFnT
import Derived.Test.YtcgohoclbjgmkaaFn1
import Derived.Test.YtcgohoclbjgmkaaFn3
import Derived.Test.YtcgohoclbjgmkaaFn6
namespace Go.Proofs.Ytcgohoclbjgmkaa
open Go.Abs Go.Proofs
set_option linter.unusedSimpArgs false
set_option linter.unusedVariables false
set_option maxHeartbeats 16000000
attribute [local irreducible] Abs.acode Abs.aops Abs.aopsT Abs.thenK Abs.blockK

def laws_FnExactAreIsomorphic_c : ACode := (.seq (.region 0 [q 2 (.box 49 (t 0)), q 3 (.box 49 (t 1)), q 4 (.asg 0 (.const (.bool false)) 4)] false) (.seq (.region 1 [q 10 (.load 49 (t 2)), ⟨some 11, .call 0 (.func 37) [(t 10)], none, [0]⟩, q 12 (.load 49 (t 3)), ⟨some 13, .call 0 (.func 37) [(t 12)], none, [2, 1]⟩, ⟨some 14, .call 0 (.func 43) [(t 11), (t 13)], none, [1, 3, 3]⟩, ⟨some 9, .mov (t 14), none, [4]⟩, ⟨some 15, .extract (t 9) 0, none, [5]⟩, ⟨some 16, .extract (t 9) 1, none, [5]⟩, ⟨some 5, .asg 0 (t 15) 4, none, [6, 4, 0, 1, 2, 3, 4, 5, 6]⟩, ⟨some 6, .asg 0 (t 16) 2, none, [7, 8, 0, 1, 2, 3, 4, 5, 6, 7, 8]⟩] true) (.seq (.region 2 [q 18 (.load 49 (t 2)), ⟨some 19, .call 0 (.func 37) [(t 18)], none, [0]⟩, q 20 (.load 49 (t 3)), ⟨some 21, .call 0 (.func 37) [(t 20)], none, [2, 1]⟩, ⟨some 22, .call 0 (.func 44) [(t 19), (t 21)], none, [1, 3, 3]⟩, ⟨some 17, .mov (t 22), none, [4]⟩, ⟨some 23, .extract (t 17) 0, none, [5]⟩, ⟨some 24, .extract (t 17) 1, none, [5]⟩, ⟨some 7, .asg 0 (t 23) 4, none, [6, 4, 0, 1, 2, 3, 4, 5, 6]⟩, ⟨some 8, .asg 0 (t 24) 2, none, [7, 8, 0, 1, 2, 3, 4, 5, 6, 7, 8]⟩] true) (.seq (.seq (.region 3 [q 25 (.mov (t 7)), q 26 (.mov (t 5)), q 27 (.bin .neq 4 (t 25) (t 26)), q 28 (.mov (t 27)), ⟨some 29, .mov (t 8), some (28, false), []⟩, ⟨some 30, .mov (t 6), some (28, false), []⟩, ⟨some 31, .bin .neq 2 (t 29) (t 30), some (28, false), []⟩, q 32 (.pick (t 28) (.const (.bool true)) (t 31))] false) (.cond (t 32) (.seq (.region 4 [q 4 (.asg 0 (.const (.bool false)) 4)] false) .ret) .skip)) (.seq (.region 5 [q 4 (.asg 0 (.const (.bool true)) 4)] false) .ret)))))
def laws_FnExactAreIsomorphic_L : Live := [(0, [0, 1]), (1, [2, 3]), (2, [2, 3, 5, 6]), (3, [5, 6, 7, 8]), (4, []), (5, []), (100032, [32])]
noncomputable def laws_FnExactAreIsomorphic (a0 : (Int × (Vec Int 64) × (Vec Int 64) × (Vec Int 64))) (a1 : (Int × (Vec Int 64) × (Vec Int 64) × (Vec Int 64))) : Option Bool :=
  (Option.bind (laws_toDrinfeld a0) fun r10 => (Option.bind (laws_toDrinfeld a1) fun r13 => (Option.bind (spec_AreIsomorphic r10 r13) fun r15 => (Option.bind (laws_toDrinfeld a0) fun r26 => (Option.bind (laws_toDrinfeld a1) fun r29 => (Option.bind (impl_AreIsomorphic r26 r29) fun r31 => (Option.bind (α := Bool) ((if (!(r31.1 == r15.1)) then (some true) else (some (r31.2 != r15.2)))) fun x34 => (if x34 then (some false) else (some true)))))))))
theorem laws_FnExactAreIsomorphic_ok (a0 : (Int × (Vec Int 64) × (Vec Int 64) × (Vec Int 64))) (a1 : (Int × (Vec Int 64) × (Vec Int 64) × (Vec Int 64))) (r : Bool) (h : laws_FnExactAreIsomorphic a0 a1 = some r) : Den Try.prog 13 [(eT_i64_A64u8_A64u8_A64u8_Z a0), (eT_i64_A64u8_A64u8_A64u8_Z a1)] { r := (.bool r) } := by
  refine den_of (rs := [(.bool r)]) (ac := laws_FnExactAreIsomorphic_c) (L := laws_FnExactAreIsomorphic_L) (n := 33) (m := []) (c := Try.f13.body.getD .skip) good Try.func13 (by kernel_rfl) (by kernel_rfl) Try.ntmps13 rfl rfl (by kernel_rfl) rfl rfl ?_
  refine a_st (σ' := ⟨[(0, (eT_i64_A64u8_A64u8_A64u8_Z a0)), (1, (eT_i64_A64u8_A64u8_A64u8_Z a1))], []⟩) (by kernel_rfl) ?_
  unfold laws_FnExactAreIsomorphic_c
  refine sr (vo 1200 (eT_i64_A64u8_A64u8_A64u8_Z a0) rfl rfl (vo 1300 (eT_i64_A64u8_A64u8_A64u8_Z a1) rfl rfl (vp (.bool false) rfl (nx ⟨[(2, (ow 2)), (3, (ow 3))], [(2, (bk (eT_i64_A64u8_A64u8_A64u8_Z a0))), (3, (bk (eT_i64_A64u8_A64u8_A64u8_Z a1)))]⟩ (by kernel_rfl) (a_seq (a_draw [⟨[2], [], [], []⟩, ⟨[], [], [], [0]⟩, ⟨[3], [], [], []⟩, ⟨[], [], [], [0, 1, 2]⟩, ⟨[], [], [], [0, 1, 2, 3]⟩, ⟨[], [], [], [0, 1, 2, 3, 4]⟩, ⟨[], [], [], [0, 1, 2, 3, 4, 5]⟩, ⟨[], [], [], [0, 1, 2, 3, 4, 5]⟩, ⟨[], [], [], [0, 1, 2, 3, 4, 5, 6]⟩, ⟨[], [], [], [0, 1, 2, 3, 4, 5, 6, 7, 8]⟩] (by kernel_rfl) (d_cons (vl (eT_i64_A64u8_A64u8_A64u8_Z a0) rfl rfl rfl rfl rfl rfl (d_next (by kernel_rfl) ?_)))))))))
  refine d_cons ?_
  obtain ⟨r10, hr11, h⟩ := bind_some h
  refine a_call (args := [(eT_i64_A64u8_A64u8_A64u8_Z a0)]) (u := []) (r := (eT_i64_A64u8_A64u8_A64u8_Z r10)) rfl rfl (laws_toDrinfeld_ok a0 r10 hr11) rfl (d_next (by kernel_rfl) (d_cons (vl (eT_i64_A64u8_A64u8_A64u8_Z a1) rfl rfl rfl rfl rfl rfl (d_next (by kernel_rfl) (d_cons ?_)))))
  obtain ⟨r13, hr14, h⟩ := bind_some h
  refine a_call (args := [(eT_i64_A64u8_A64u8_A64u8_Z a1)]) (u := []) (r := (eT_i64_A64u8_A64u8_A64u8_Z r13)) rfl rfl (laws_toDrinfeld_ok a1 r13 hr14) rfl (d_next (by kernel_rfl) (d_cons ?_))
  obtain ⟨r15, hr16, h⟩ := bind_some h
  refine a_call (args := [(eT_i64_A64u8_A64u8_A64u8_Z r10), (eT_i64_A64u8_A64u8_A64u8_Z r13)]) (u := []) (r := (.tuple [(.bool r15.1), (i6 r15.2)])) rfl rfl (spec_AreIsomorphic_ok r10 r13 r15 hr16) rfl (d_next (by kernel_rfl) (dp (.tuple [(.bool r15.1), (i6 r15.2)]) rfl (by kernel_rfl) (d_cons (vb (.bool r15.1) rfl rfl (d_next (by kernel_rfl) (d_cons (vb (i6 r15.2) rfl rfl (d_next (by kernel_rfl) (dp (.bool r15.1) rfl (by kernel_rfl) ?_)))))))))
  refine dp (i6 r15.2) rfl (by kernel_rfl) (d_nil (a_next (σ' := ⟨[(2, (ow 2)), (3, (ow 3)), (5, (.bool r15.1)), (6, (i6 r15.2))], [(2, (bk (eT_i64_A64u8_A64u8_A64u8_Z a0))), (3, (bk (eT_i64_A64u8_A64u8_A64u8_Z a1)))]⟩) (by kernel_rfl) (a_seq (a_draw [⟨[2], [], [], []⟩, ⟨[], [], [], [0]⟩, ⟨[3], [], [], []⟩, ⟨[], [], [], [0, 1, 2]⟩, ⟨[], [], [], [0, 1, 2, 3]⟩, ⟨[], [], [], [0, 1, 2, 3, 4]⟩, ⟨[], [], [], [0, 1, 2, 3, 4, 5]⟩, ⟨[], [], [], [0, 1, 2, 3, 4, 5]⟩, ⟨[], [], [], [0, 1, 2, 3, 4, 5, 6]⟩, ⟨[], [], [], [0, 1, 2, 3, 4, 5, 6, 7, 8]⟩] (by kernel_rfl) (d_cons (vl (eT_i64_A64u8_A64u8_A64u8_Z a0) rfl rfl rfl rfl rfl rfl (d_next (by kernel_rfl) (d_cons ?_))))))))
  obtain ⟨r26, hr27, h⟩ := bind_some h
  refine a_call (args := [(eT_i64_A64u8_A64u8_A64u8_Z a0)]) (u := []) (r := (eT_i64_A64u8_A64u8_A64u8_Z r26)) rfl rfl (laws_toDrinfeld_ok a0 r26 hr27) rfl (d_next (by kernel_rfl) (d_cons (vl (eT_i64_A64u8_A64u8_A64u8_Z a1) rfl rfl rfl rfl rfl rfl (d_next (by kernel_rfl) (d_cons ?_)))))
  obtain ⟨r29, hr30, h⟩ := bind_some h
  refine a_call (args := [(eT_i64_A64u8_A64u8_A64u8_Z a1)]) (u := []) (r := (eT_i64_A64u8_A64u8_A64u8_Z r29)) rfl rfl (laws_toDrinfeld_ok a1 r29 hr30) rfl (d_next (by kernel_rfl) (d_cons ?_))
  obtain ⟨r31, hr32, h⟩ := bind_some h
  refine a_call (args := [(eT_i64_A64u8_A64u8_A64u8_Z r26), (eT_i64_A64u8_A64u8_A64u8_Z r29)]) (u := []) (r := (.tuple [(.bool r31.1), (i6 r31.2)])) rfl rfl (impl_AreIsomorphic_ok r26 r29 r31 hr32) rfl (d_next (by kernel_rfl) (dp (.tuple [(.bool r31.1), (i6 r31.2)]) rfl (by kernel_rfl) (d_cons (vb (.bool r31.1) rfl rfl (d_next (by kernel_rfl) (d_cons (vb (i6 r31.2) rfl rfl (d_next (by kernel_rfl) (dp (.bool r31.1) rfl (by kernel_rfl) ?_)))))))))
  refine dp (i6 r31.2) rfl (by kernel_rfl) (d_nil (a_next (σ' := ⟨[(5, (.bool r15.1)), (6, (i6 r15.2)), (7, (.bool r31.1)), (8, (i6 r31.2))], []⟩) (by kernel_rfl) (a_seq ?_)))
  obtain ⟨y35, hy36, hk37⟩ := bind_some h
  clear h
  refine a_join (emb := fun (s : Bool) => ⟨[(32, (.bool s))], []⟩) (pre := fun s => s = y35) ?_ ?_
  · rintro x34 rfl
    have h := hk37
    refine a_st (σ' := ⟨[(32, (.bool x34))], []⟩) (by kernel_rfl) ?_
    cases hb39 : x34
    · have h := ite_f hb39 h
      refine a_cond_f rfl (a_skip (a_next (σ' := ⟨[], []⟩) (by kernel_rfl) (sr (vp (.bool true) rfl (nx _ rfl (a_ret ?_))))))
      refine ⟨.inr rfl, ?_⟩
      rw [Try.results13]
      cases h
      exact ⟨_, _, _, _, _, rfl, trivial, .inl ⟨rfl, .inl rfl⟩, rfl, rfl⟩
    · have h := ite_t hb39 h
      refine a_cond_t rfl (sr (vp (.bool false) rfl (nx _ rfl (a_ret (t_ret ?_)))))
      refine ⟨.inr rfl, ?_⟩
      rw [Try.results13]
      cases h
      exact ⟨_, _, _, _, _, rfl, trivial, .inl ⟨rfl, .inl rfl⟩, rfl, rfl⟩
  · have h := hy36
    refine a_region (vp (.bool r31.1) rfl (vp (.bool r15.1) rfl (vp (.bool ((!(r31.1 == r15.1)))) rfl (vp (.bool ((!(r31.1 == r15.1)))) rfl ?_))))
    cases hb38 : (!(r31.1 == r15.1))
    · have h := ite_f hb38 h
      refine gp (i6 r31.2) rfl rfl (gp (i6 r15.2) rfl rfl (gp (.bool (r31.2 != r15.2)) rfl rfl (vp (.bool (r31.2 != r15.2)) rfl (a_nil ?_))))
      exact j_leaf (r31.2 != r15.2) (Option.some.inj h) (by kernel_rfl)
    · have h := ite_t hb38 h
      refine a_gskip rfl (a_gskip rfl (a_gskip rfl (vp (.bool true) rfl (a_nil ?_))))
      exact j_leaf true (Option.some.inj h) (by kernel_rfl)
end Go.Proofs.Ytcgohoclbjgmkaa
