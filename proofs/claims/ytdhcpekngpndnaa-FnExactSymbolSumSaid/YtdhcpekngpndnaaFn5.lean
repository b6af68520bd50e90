/- Functions of the program: plain Lean functions, and that the program computes them. Printed by gen.py. -/
import Derived.Test.YtdhcpekngpndnaaFnT
import Derived.Test.YtdhcpekngpndnaaFn3
import Derived.Test.YtdhcpekngpndnaaFn4
namespace Go.Proofs.Ytdhcpekngpndnaa
open Go.Abs Go.Proofs
set_option linter.unusedSimpArgs false
set_option linter.unusedVariables false
set_option maxHeartbeats 16000000
attribute [local irreducible] Abs.acode Abs.aops Abs.aopsT Abs.thenK Abs.blockK

def math_bits_Len64_c : ACode := (.seq (.region 0 [q 2 (.asg 0 (.const (.int .i64 0)) 3)] false) (.seq (.seq (.region 1 [q 3 (.mov (t 0)), q 4 (.bin .geq 192 (t 3) (.const (.int .u64 4294967296)))] false) (.cond (t 4) (.seq (.region 2 [q 5 (.mov (t 0)), q 6 (.bin .shr 192 (t 5) (.const (.int .u64 32))), q 0 (.asg 0 (t 6) 192)] false) (.region 3 [q 2 (.asg 0 (.const (.int .i64 32)) 3)] false)) .skip)) (.seq (.seq (.region 4 [q 7 (.mov (t 0)), q 8 (.bin .geq 192 (t 7) (.const (.int .u64 65536)))] false) (.cond (t 8) (.seq (.region 5 [q 9 (.mov (t 0)), q 10 (.bin .shr 192 (t 9) (.const (.int .u64 16))), q 0 (.asg 0 (t 10) 192)] false) (.region 6 [q 11 (.mov (t 2)), q 12 (.bin .add 3 (t 11) (.const (.int .i64 16))), q 2 (.asg 0 (t 12) 3)] false)) .skip)) (.seq (.seq (.region 7 [q 13 (.mov (t 0)), q 14 (.bin .geq 192 (t 13) (.const (.int .u64 256)))] false) (.cond (t 14) (.seq (.region 8 [q 15 (.mov (t 0)), q 16 (.bin .shr 192 (t 15) (.const (.int .u64 8))), q 0 (.asg 0 (t 16) 192)] false) (.region 9 [q 17 (.mov (t 2)), q 18 (.bin .add 3 (t 17) (.const (.int .i64 8))), q 2 (.asg 0 (t 18) 3)] false)) .skip)) (.seq (.region 10 [q 19 (.mov (t 2)), q 20 (.mov (t 0)), q 21 (.conv 192 5 (t 20)), q 22 (.index 9 (.const (.string ⟨#[0, 1, 2, 2, 3, 3, 3, 3, 4, 4, 4, 4, 4, 4, 4, 4, 5, 5, 5, 5, 5, 5, 5, 5, 5, 5, 5, 5, 5, 5, 5, 5, 6, 6, 6, 6, 6, 6, 6, 6, 6, 6, 6, 6, 6, 6, 6, 6, 6, 6, 6, 6, 6, 6, 6, 6, 6, 6, 6, 6, 6, 6, 6, 6, 7, 7, 7, 7, 7, 7, 7, 7, 7, 7, 7, 7, 7, 7, 7, 7, 7, 7, 7, 7, 7, 7, 7, 7, 7, 7, 7, 7, 7, 7, 7, 7, 7, 7, 7, 7, 7, 7, 7, 7, 7, 7, 7, 7, 7, 7, 7, 7, 7, 7, 7, 7, 7, 7, 7, 7, 7, 7, 7, 7, 7, 7, 7, 7, 8, 8, 8, 8, 8, 8, 8, 8, 8, 8, 8, 8, 8, 8, 8, 8, 8, 8, 8, 8, 8, 8, 8, 8, 8, 8, 8, 8, 8, 8, 8, 8, 8, 8, 8, 8, 8, 8, 8, 8, 8, 8, 8, 8, 8, 8, 8, 8, 8, 8, 8, 8, 8, 8, 8, 8, 8, 8, 8, 8, 8, 8, 8, 8, 8, 8, 8, 8, 8, 8, 8, 8, 8, 8, 8, 8, 8, 8, 8, 8, 8, 8, 8, 8, 8, 8, 8, 8, 8, 8, 8, 8, 8, 8, 8, 8, 8, 8, 8, 8, 8, 8, 8, 8, 8, 8, 8, 8, 8, 8, 8, 8, 8, 8, 8, 8, 8, 8, 8, 8, 8, 8, 8, 8, 8, 8, 8, 8]⟩)) (t 21)), q 23 (.conv 5 3 (t 22)), q 24 (.bin .add 3 (t 19) (t 23)), q 2 (.asg 0 (t 24) 3)] false) .ret)))))
def math_bits_Len64_L : Live := [(0, [0]), (1, [0, 2]), (2, [0]), (3, [0]), (4, [0, 2]), (5, [0, 2]), (6, [0, 2]), (7, [0, 2]), (8, [0, 2]), (9, [0, 2]), (10, [0, 2]), (100004, [0, 2, 4]), (100008, [0, 2, 8]), (100014, [0, 2, 14])]
noncomputable def math_bits_Len64 (a0 : Int) : Option Int :=
  (if (decide (a0 ≥ 4294967296)) then none else (if (decide (a0 ≥ 65536)) then none else (if (decide (a0 ≥ 256)) then none else (ifp (0 ≤ IntKind.u8.wrap a0 ∧ IntKind.u8.wrap a0 < (((⟨#[0, 1, 2, 2, 3, 3, 3, 3, 4, 4, 4, 4, 4, 4, 4, 4, 5, 5, 5, 5, 5, 5, 5, 5, 5, 5, 5, 5, 5, 5, 5, 5, 6, 6, 6, 6, 6, 6, 6, 6, 6, 6, 6, 6, 6, 6, 6, 6, 6, 6, 6, 6, 6, 6, 6, 6, 6, 6, 6, 6, 6, 6, 6, 6, 7, 7, 7, 7, 7, 7, 7, 7, 7, 7, 7, 7, 7, 7, 7, 7, 7, 7, 7, 7, 7, 7, 7, 7, 7, 7, 7, 7, 7, 7, 7, 7, 7, 7, 7, 7, 7, 7, 7, 7, 7, 7, 7, 7, 7, 7, 7, 7, 7, 7, 7, 7, 7, 7, 7, 7, 7, 7, 7, 7, 7, 7, 7, 7, 8, 8, 8, 8, 8, 8, 8, 8, 8, 8, 8, 8, 8, 8, 8, 8, 8, 8, 8, 8, 8, 8, 8, 8, 8, 8, 8, 8, 8, 8, 8, 8, 8, 8, 8, 8, 8, 8, 8, 8, 8, 8, 8, 8, 8, 8, 8, 8, 8, 8, 8, 8, 8, 8, 8, 8, 8, 8, 8, 8, 8, 8, 8, 8, 8, 8, 8, 8, 8, 8, 8, 8, 8, 8, 8, 8, 8, 8, 8, 8, 8, 8, 8, 8, 8, 8, 8, 8, 8, 8, 8, 8, 8, 8, 8, 8, 8, 8, 8, 8, 8, 8, 8, 8, 8, 8, 8, 8, 8, 8, 8, 8, 8, 8, 8, 8, 8, 8, 8, 8, 8, 8, 8, 8, 8, 8, 8, 8]⟩ : ByteArray).size : Nat) : Int)) ((letp (((((⟨#[0, 1, 2, 2, 3, 3, 3, 3, 4, 4, 4, 4, 4, 4, 4, 4, 5, 5, 5, 5, 5, 5, 5, 5, 5, 5, 5, 5, 5, 5, 5, 5, 6, 6, 6, 6, 6, 6, 6, 6, 6, 6, 6, 6, 6, 6, 6, 6, 6, 6, 6, 6, 6, 6, 6, 6, 6, 6, 6, 6, 6, 6, 6, 6, 7, 7, 7, 7, 7, 7, 7, 7, 7, 7, 7, 7, 7, 7, 7, 7, 7, 7, 7, 7, 7, 7, 7, 7, 7, 7, 7, 7, 7, 7, 7, 7, 7, 7, 7, 7, 7, 7, 7, 7, 7, 7, 7, 7, 7, 7, 7, 7, 7, 7, 7, 7, 7, 7, 7, 7, 7, 7, 7, 7, 7, 7, 7, 7, 8, 8, 8, 8, 8, 8, 8, 8, 8, 8, 8, 8, 8, 8, 8, 8, 8, 8, 8, 8, 8, 8, 8, 8, 8, 8, 8, 8, 8, 8, 8, 8, 8, 8, 8, 8, 8, 8, 8, 8, 8, 8, 8, 8, 8, 8, 8, 8, 8, 8, 8, 8, 8, 8, 8, 8, 8, 8, 8, 8, 8, 8, 8, 8, 8, 8, 8, 8, 8, 8, 8, 8, 8, 8, 8, 8, 8, 8, 8, 8, 8, 8, 8, 8, 8, 8, 8, 8, 8, 8, 8, 8, 8, 8, 8, 8, 8, 8, 8, 8, 8, 8, 8, 8, 8, 8, 8, 8, 8, 8, 8, 8, 8, 8, 8, 8, 8, 8, 8, 8, 8, 8, 8, 8, 8, 8, 8, 8]⟩ : ByteArray)).data.toList.getD (IntKind.u8.wrap a0).toNat 0).toNat : Int)) fun x8 => (some (IntKind.i64.wrap (0 + (IntKind.i64.wrap x8))))))))))
theorem math_bits_Len64_ok (a0 : Int) (r : Int) (h : math_bits_Len64 a0 = some r) : Den Try.prog 211 [(.int .u64 a0)] { r := (i6 r) } := by
  refine den_of (rs := [(i6 r)]) (ac := math_bits_Len64_c) (L := math_bits_Len64_L) (n := 25) (m := []) (c := Try.f211.body.getD .skip) good Try.func211 (by kernel_rfl) (by kernel_rfl) Try.ntmps211 rfl rfl (by kernel_rfl) rfl rfl ?_
  refine a_st (σ' := ⟨[(0, (.int .u64 a0))], []⟩) (by kernel_rfl) ?_
  unfold math_bits_Len64_c
  refine sr (vp (i6 0) rfl (nx ⟨[(0, (.int .u64 a0)), (2, (i6 0))], []⟩ (by kernel_rfl) (a_seq (sr (vp (.int .u64 a0) rfl (vp (.bool ((decide (a0 ≥ 4294967296)))) rfl (nx ⟨[(0, (.int .u64 a0)), (2, (i6 0)), (4, (.bool ((decide (a0 ≥ 4294967296)))))], []⟩ (by kernel_rfl) ?_)))))))
  cases hb2 : (decide (a0 ≥ 4294967296))
  · have h := ite_f hb2 h
    refine a_cond_f rfl (a_skip (a_next (σ' := ⟨[(0, (.int .u64 a0)), (2, (i6 0))], []⟩) (by kernel_rfl) (a_seq (sr (vp (.int .u64 a0) rfl (vp (.bool ((decide (a0 ≥ 65536)))) rfl (nx ⟨[(0, (.int .u64 a0)), (2, (i6 0)), (8, (.bool ((decide (a0 ≥ 65536)))))], []⟩ (by kernel_rfl) ?_)))))))
    cases hb4 : (decide (a0 ≥ 65536))
    · have h := ite_f hb4 h
      refine a_cond_f rfl (a_skip (a_next (σ' := ⟨[(0, (.int .u64 a0)), (2, (i6 0))], []⟩) (by kernel_rfl) (a_seq (sr (vp (.int .u64 a0) rfl (vp (.bool ((decide (a0 ≥ 256)))) rfl (nx ⟨[(0, (.int .u64 a0)), (2, (i6 0)), (14, (.bool ((decide (a0 ≥ 256)))))], []⟩ (by kernel_rfl) ?_)))))))
      cases hb6 : (decide (a0 ≥ 256))
      · have h := ite_f hb6 h
        refine a_cond_f rfl (a_skip (a_next (σ' := ⟨[(0, (.int .u64 a0)), (2, (i6 0))], []⟩) (by kernel_rfl) (sr (vp (i6 0) rfl (vp (.int .u64 a0) rfl (vp (b8 (IntKind.u8.wrap a0)) rfl ?_))))))
        obtain ⟨hc7, h⟩ := ifp_some h
        obtain ⟨x8, hx9, h⟩ := letp_some h
        refine a_val' (v := (b8 (((((⟨#[0, 1, 2, 2, 3, 3, 3, 3, 4, 4, 4, 4, 4, 4, 4, 4, 5, 5, 5, 5, 5, 5, 5, 5, 5, 5, 5, 5, 5, 5, 5, 5, 6, 6, 6, 6, 6, 6, 6, 6, 6, 6, 6, 6, 6, 6, 6, 6, 6, 6, 6, 6, 6, 6, 6, 6, 6, 6, 6, 6, 6, 6, 6, 6, 7, 7, 7, 7, 7, 7, 7, 7, 7, 7, 7, 7, 7, 7, 7, 7, 7, 7, 7, 7, 7, 7, 7, 7, 7, 7, 7, 7, 7, 7, 7, 7, 7, 7, 7, 7, 7, 7, 7, 7, 7, 7, 7, 7, 7, 7, 7, 7, 7, 7, 7, 7, 7, 7, 7, 7, 7, 7, 7, 7, 7, 7, 7, 7, 8, 8, 8, 8, 8, 8, 8, 8, 8, 8, 8, 8, 8, 8, 8, 8, 8, 8, 8, 8, 8, 8, 8, 8, 8, 8, 8, 8, 8, 8, 8, 8, 8, 8, 8, 8, 8, 8, 8, 8, 8, 8, 8, 8, 8, 8, 8, 8, 8, 8, 8, 8, 8, 8, 8, 8, 8, 8, 8, 8, 8, 8, 8, 8, 8, 8, 8, 8, 8, 8, 8, 8, 8, 8, 8, 8, 8, 8, 8, 8, 8, 8, 8, 8, 8, 8, 8, 8, 8, 8, 8, 8, 8, 8, 8, 8, 8, 8, 8, 8, 8, 8, 8, 8, 8, 8, 8, 8, 8, 8, 8, 8, 8, 8, 8, 8, 8, 8, 8, 8, 8, 8, 8, 8, 8, 8, 8, 8]⟩ : ByteArray)).data.toList.getD (IntKind.u8.wrap a0).toNat 0).toNat : Int)))) (v' := (b8 x8)) (u := []) (u' := []) rfl (congrArg (fun z => ((b8 z) : AV)) hx9) rfl hc7 rfl (vp (i6 (IntKind.i64.wrap x8)) rfl (vp (i6 (IntKind.i64.wrap (0 + (IntKind.i64.wrap x8)))) rfl (vp (i6 (IntKind.i64.wrap (0 + (IntKind.i64.wrap x8)))) rfl (nx _ rfl (a_ret ?_)))))
        refine ⟨.inr rfl, ?_⟩
        rw [Try.results211]
        cases h
        exact ⟨_, _, _, _, _, rfl, trivial, .inl ⟨rfl, .inl rfl⟩, rfl, rfl⟩
      · have h := ite_t hb6 h
        cases h
    · have h := ite_t hb4 h
      cases h
  · have h := ite_t hb2 h
    cases h
def math_bits_Len_c : ACode := (.seq (.region 0 [q 2 (.asg 0 (.const (.int .i64 0)) 3)] false) (.seq (.cond (.const (.bool false)) (.seq (.region 1 [q 3 (.mov (t 0)), q 4 (.conv 161 190 (t 3)), q 5 (.call 0 (.func 210) [(t 4)]), q 2 (.asg 0 (t 5) 3)] false) .ret) .skip) (.seq (.region 2 [q 6 (.mov (t 0)), q 7 (.call 0 (.func 211) [(t 6)]), q 2 (.asg 0 (t 7) 3)] false) .ret)))
def math_bits_Len_L : Live := [(0, [0]), (1, [0]), (2, [0])]
noncomputable def math_bits_Len (a0 : Int) : Option Int :=
  (Option.bind (math_bits_Len64 a0) fun r1 => (some r1))
theorem math_bits_Len_ok (a0 : Int) (r : Int) (h : math_bits_Len a0 = some r) : Den Try.prog 185 [(.int .u64 a0)] { r := (i6 r) } := by
  refine den_of (rs := [(i6 r)]) (ac := math_bits_Len_c) (L := math_bits_Len_L) (n := 8) (m := []) (c := Try.f185.body.getD .skip) good Try.func185 (by kernel_rfl) (by kernel_rfl) Try.ntmps185 rfl rfl (by kernel_rfl) rfl rfl ?_
  refine a_st (σ' := ⟨[(0, (.int .u64 a0))], []⟩) (by kernel_rfl) ?_
  unfold math_bits_Len_c
  refine sr (vp (i6 0) rfl (nx _ rfl (a_seq (a_cond_f rfl (a_skip (a_next (σ' := ⟨[(0, (.int .u64 a0))], []⟩) (by kernel_rfl) (sr (vp (.int .u64 a0) rfl ?_))))))))
  obtain ⟨r1, hr2, h⟩ := bind_some h
  refine a_call (args := [(.int .u64 a0)]) (u := []) (r := (i6 r1)) rfl rfl (math_bits_Len64_ok a0 r1 hr2) rfl (vp (i6 r1) rfl (nx _ rfl (a_ret ?_)))
  refine ⟨.inr rfl, ?_⟩
  rw [Try.results185]
  cases h
  exact ⟨_, _, _, _, _, rfl, trivial, .inl ⟨rfl, .inl rfl⟩, rfl, rfl⟩
def cmp_isNaN_int_c : ACode := (.seq (.region 0 [q 2 (.asg 0 (.const (.bool false)) 4)] false) (.seq (.region 1 [q 3 (.mov (t 0)), q 4 (.mov (t 0)), q 5 (.bin .neq 3 (t 3) (t 4)), q 2 (.asg 0 (t 5) 4)] false) .ret))
def cmp_isNaN_int_L : Live := [(0, [0]), (1, [0])]
noncomputable def cmp_isNaN_int (a0 : Int) : Option Bool :=
  (some (a0 != a0))
theorem cmp_isNaN_int_ok (a0 : Int) (r : Bool) (h : cmp_isNaN_int a0 = some r) : Den Try.prog 230 [(i6 a0)] { r := (.bool r) } := by
  refine den_of (rs := [(.bool r)]) (ac := cmp_isNaN_int_c) (L := cmp_isNaN_int_L) (n := 6) (m := []) (c := Try.f230.body.getD .skip) good Try.func230 (by kernel_rfl) (by kernel_rfl) Try.ntmps230 rfl rfl (by kernel_rfl) rfl rfl ?_
  refine a_st (σ' := ⟨[(0, (i6 a0))], []⟩) (by kernel_rfl) ?_
  unfold cmp_isNaN_int_c
  refine sr (vp (.bool false) rfl (nx ⟨[(0, (i6 a0))], []⟩ (by kernel_rfl) (sr (vp (i6 a0) rfl (vp (i6 a0) rfl (vp (.bool (a0 != a0)) rfl (vp (.bool (a0 != a0)) rfl (nx _ rfl (a_ret ?_)))))))))
  refine ⟨.inr rfl, ?_⟩
  rw [Try.results230]
  cases h
  exact ⟨_, _, _, _, _, rfl, trivial, .inl ⟨rfl, .inl rfl⟩, rfl, rfl⟩
def cmp_Compare_int_c : ACode := (.seq (.region 0 [q 4 (.asg 0 (.const (.int .i64 0)) 3)] false) (.seq (.region 1 [q 7 (.mov (t 0)), q 8 (.call 0 (.func 230) [(t 7)]), q 5 (.asg 0 (t 8) 4)] false) (.seq (.region 2 [q 9 (.mov (t 1)), q 10 (.call 0 (.func 230) [(t 9)]), q 6 (.asg 0 (t 10) 4)] false) (.seq (.seq (.region 3 [q 11 (.mov (t 5))] false) (.cond (t 11) (.seq (.seq (.region 4 [q 12 (.mov (t 6))] false) (.cond (t 12) (.seq (.region 5 [q 4 (.asg 0 (.const (.int .i64 0)) 3)] false) .ret) .skip)) (.seq (.region 6 [q 4 (.asg 0 (.const (.int .i64 (-1))) 3)] false) .ret)) .skip)) (.seq (.seq (.region 7 [q 13 (.mov (t 6))] false) (.cond (t 13) (.seq (.region 8 [q 4 (.asg 0 (.const (.int .i64 1)) 3)] false) .ret) .skip)) (.seq (.seq (.region 9 [q 14 (.mov (t 0)), q 15 (.mov (t 1)), q 16 (.bin .lss 3 (t 14) (t 15))] false) (.cond (t 16) (.seq (.region 10 [q 4 (.asg 0 (.const (.int .i64 (-1))) 3)] false) .ret) .skip)) (.seq (.seq (.region 11 [q 17 (.mov (t 0)), q 18 (.mov (t 1)), q 19 (.bin .gtr 3 (t 17) (t 18))] false) (.cond (t 19) (.seq (.region 12 [q 4 (.asg 0 (.const (.int .i64 1)) 3)] false) .ret) .skip)) (.seq (.region 13 [q 4 (.asg 0 (.const (.int .i64 0)) 3)] false) .ret))))))))
def cmp_Compare_int_L : Live := [(0, [0, 1]), (1, [0, 1]), (2, [0, 1, 5]), (3, [0, 1, 5, 6]), (4, [6]), (5, []), (6, []), (7, [0, 1, 6]), (8, []), (9, [0, 1]), (10, []), (11, [0, 1]), (12, []), (13, []), (100011, [0, 1, 6, 11]), (100012, [12]), (100013, [0, 1, 13]), (100016, [0, 1, 16]), (100019, [19])]
noncomputable def cmp_Compare_int (a0 : Int) (a1 : Int) : Option Int :=
  (Option.bind (cmp_isNaN_int a0) fun r1 => (Option.bind (cmp_isNaN_int a1) fun r3 => (if r1 then (if r3 then (some 0) else (some (-1))) else (if r3 then (some 1) else (if (decide (a0 < a1)) then (some (-1)) else (if (decide (a0 > a1)) then (some 1) else (some 0)))))))
theorem cmp_Compare_int_ok (a0 : Int) (a1 : Int) (r : Int) (h : cmp_Compare_int a0 a1 = some r) : Den Try.prog 213 [(i6 a0), (i6 a1)] { r := (i6 r) } := by
  refine den_of (rs := [(i6 r)]) (ac := cmp_Compare_int_c) (L := cmp_Compare_int_L) (n := 20) (m := []) (c := Try.f213.body.getD .skip) good Try.func213 (by kernel_rfl) (by kernel_rfl) Try.ntmps213 rfl rfl (by kernel_rfl) rfl rfl ?_
  refine a_st (σ' := ⟨[(0, (i6 a0)), (1, (i6 a1))], []⟩) (by kernel_rfl) ?_
  unfold cmp_Compare_int_c
  refine sr (vp (i6 0) rfl (nx ⟨[(0, (i6 a0)), (1, (i6 a1))], []⟩ (by kernel_rfl) (sr (vp (i6 a0) rfl ?_))))
  obtain ⟨r1, hr2, h⟩ := bind_some h
  refine a_call (args := [(i6 a0)]) (u := []) (r := (.bool r1)) rfl rfl (cmp_isNaN_int_ok a0 r1 hr2) rfl (vp (.bool r1) rfl (nx ⟨[(0, (i6 a0)), (1, (i6 a1)), (5, (.bool r1))], []⟩ (by kernel_rfl) (sr (vp (i6 a1) rfl ?_))))
  obtain ⟨r3, hr4, h⟩ := bind_some h
  refine a_call (args := [(i6 a1)]) (u := []) (r := (.bool r3)) rfl rfl (cmp_isNaN_int_ok a1 r3 hr4) rfl (vp (.bool r3) rfl (nx ⟨[(0, (i6 a0)), (1, (i6 a1)), (5, (.bool r1)), (6, (.bool r3))], []⟩ (by kernel_rfl) (a_seq (sr (vp (.bool r1) rfl (nx ⟨[(0, (i6 a0)), (1, (i6 a1)), (6, (.bool r3)), (11, (.bool r1))], []⟩ (by kernel_rfl) ?_))))))
  cases hb5 : r1
  · have h := ite_f hb5 h
    refine a_cond_f rfl (a_skip (a_next (σ' := ⟨[(0, (i6 a0)), (1, (i6 a1)), (6, (.bool r3))], []⟩) (by kernel_rfl) (a_seq (sr (vp (.bool r3) rfl (nx ⟨[(0, (i6 a0)), (1, (i6 a1)), (13, (.bool r3))], []⟩ (by kernel_rfl) ?_))))))
    cases hb6 : r3
    · have h := ite_f hb6 h
      refine a_cond_f rfl (a_skip (a_next (σ' := ⟨[(0, (i6 a0)), (1, (i6 a1))], []⟩) (by kernel_rfl) (a_seq (sr (vp (i6 a0) rfl (vp (i6 a1) rfl (vp (.bool ((decide (a0 < a1)))) rfl (nx ⟨[(0, (i6 a0)), (1, (i6 a1)), (16, (.bool ((decide (a0 < a1)))))], []⟩ (by kernel_rfl) ?_))))))))
      cases hb7 : (decide (a0 < a1))
      · have h := ite_f hb7 h
        refine a_cond_f rfl (a_skip (a_next (σ' := ⟨[(0, (i6 a0)), (1, (i6 a1))], []⟩) (by kernel_rfl) (a_seq (sr (vp (i6 a0) rfl (vp (i6 a1) rfl (vp (.bool ((decide (a0 > a1)))) rfl (nx ⟨[(19, (.bool ((decide (a0 > a1)))))], []⟩ (by kernel_rfl) ?_))))))))
        cases hb8 : (decide (a0 > a1))
        · have h := ite_f hb8 h
          refine a_cond_f rfl (a_skip (a_next (σ' := ⟨[], []⟩) (by kernel_rfl) (sr (vp (i6 0) rfl (nx _ rfl (a_ret ?_))))))
          refine ⟨.inr rfl, ?_⟩
          rw [Try.results213]
          cases h
          exact ⟨_, _, _, _, _, rfl, trivial, .inl ⟨rfl, .inl rfl⟩, rfl, rfl⟩
        · have h := ite_t hb8 h
          refine a_cond_t rfl (sr (vp (i6 1) rfl (nx _ rfl (a_ret (t_ret ?_)))))
          refine ⟨.inr rfl, ?_⟩
          rw [Try.results213]
          cases h
          exact ⟨_, _, _, _, _, rfl, trivial, .inl ⟨rfl, .inl rfl⟩, rfl, rfl⟩
      · have h := ite_t hb7 h
        refine a_cond_t rfl (sr (vp (i6 (-1)) rfl (nx _ rfl (a_ret (t_ret ?_)))))
        refine ⟨.inr rfl, ?_⟩
        rw [Try.results213]
        cases h
        exact ⟨_, _, _, _, _, rfl, trivial, .inl ⟨rfl, .inl rfl⟩, rfl, rfl⟩
    · have h := ite_t hb6 h
      refine a_cond_t rfl (sr (vp (i6 1) rfl (nx _ rfl (a_ret (t_ret ?_)))))
      refine ⟨.inr rfl, ?_⟩
      rw [Try.results213]
      cases h
      exact ⟨_, _, _, _, _, rfl, trivial, .inl ⟨rfl, .inl rfl⟩, rfl, rfl⟩
  · have h := ite_t hb5 h
    refine a_cond_t rfl (a_seq (sr (vp (.bool r3) rfl (nx ⟨[(12, (.bool r3))], []⟩ (by kernel_rfl) ?_))))
    cases hb9 : r3
    · have h := ite_f hb9 h
      refine a_cond_f rfl (a_skip (a_next (σ' := ⟨[], []⟩) (by kernel_rfl) (sr (vp (i6 (-1)) rfl (nx _ rfl (a_ret (t_ret ?_)))))))
      refine ⟨.inr rfl, ?_⟩
      rw [Try.results213]
      cases h
      exact ⟨_, _, _, _, _, rfl, trivial, .inl ⟨rfl, .inl rfl⟩, rfl, rfl⟩
    · have h := ite_t hb9 h
      refine a_cond_t rfl (sr (vp (i6 0) rfl (nx _ rfl (a_ret (t_ret (t_ret ?_))))))
      refine ⟨.inr rfl, ?_⟩
      rw [Try.results213]
      cases h
      exact ⟨_, _, _, _, _, rfl, trivial, .inl ⟨rfl, .inl rfl⟩, rfl, rfl⟩
def cmp_isNaN_int64_c : ACode := (.seq (.region 0 [q 2 (.asg 0 (.const (.bool false)) 4)] false) (.seq (.region 1 [q 3 (.mov (t 0)), q 4 (.mov (t 0)), q 5 (.bin .neq 2 (t 3) (t 4)), q 2 (.asg 0 (t 5) 4)] false) .ret))
def cmp_isNaN_int64_L : Live := [(0, [0]), (1, [0])]
noncomputable def cmp_isNaN_int64 (a0 : Int) : Option Bool :=
  (some (a0 != a0))
theorem cmp_isNaN_int64_ok (a0 : Int) (r : Bool) (h : cmp_isNaN_int64 a0 = some r) : Den Try.prog 231 [(i6 a0)] { r := (.bool r) } := by
  refine den_of (rs := [(.bool r)]) (ac := cmp_isNaN_int64_c) (L := cmp_isNaN_int64_L) (n := 6) (m := []) (c := Try.f231.body.getD .skip) good Try.func231 (by kernel_rfl) (by kernel_rfl) Try.ntmps231 rfl rfl (by kernel_rfl) rfl rfl ?_
  refine a_st (σ' := ⟨[(0, (i6 a0))], []⟩) (by kernel_rfl) ?_
  unfold cmp_isNaN_int64_c
  refine sr (vp (.bool false) rfl (nx ⟨[(0, (i6 a0))], []⟩ (by kernel_rfl) (sr (vp (i6 a0) rfl (vp (i6 a0) rfl (vp (.bool (a0 != a0)) rfl (vp (.bool (a0 != a0)) rfl (nx _ rfl (a_ret ?_)))))))))
  refine ⟨.inr rfl, ?_⟩
  rw [Try.results231]
  cases h
  exact ⟨_, _, _, _, _, rfl, trivial, .inl ⟨rfl, .inl rfl⟩, rfl, rfl⟩
def cmp_Compare_int64_c : ACode := (.seq (.region 0 [q 4 (.asg 0 (.const (.int .i64 0)) 3)] false) (.seq (.region 1 [q 7 (.mov (t 0)), q 8 (.call 0 (.func 231) [(t 7)]), q 5 (.asg 0 (t 8) 4)] false) (.seq (.region 2 [q 9 (.mov (t 1)), q 10 (.call 0 (.func 231) [(t 9)]), q 6 (.asg 0 (t 10) 4)] false) (.seq (.seq (.region 3 [q 11 (.mov (t 5))] false) (.cond (t 11) (.seq (.seq (.region 4 [q 12 (.mov (t 6))] false) (.cond (t 12) (.seq (.region 5 [q 4 (.asg 0 (.const (.int .i64 0)) 3)] false) .ret) .skip)) (.seq (.region 6 [q 4 (.asg 0 (.const (.int .i64 (-1))) 3)] false) .ret)) .skip)) (.seq (.seq (.region 7 [q 13 (.mov (t 6))] false) (.cond (t 13) (.seq (.region 8 [q 4 (.asg 0 (.const (.int .i64 1)) 3)] false) .ret) .skip)) (.seq (.seq (.region 9 [q 14 (.mov (t 0)), q 15 (.mov (t 1)), q 16 (.bin .lss 2 (t 14) (t 15))] false) (.cond (t 16) (.seq (.region 10 [q 4 (.asg 0 (.const (.int .i64 (-1))) 3)] false) .ret) .skip)) (.seq (.seq (.region 11 [q 17 (.mov (t 0)), q 18 (.mov (t 1)), q 19 (.bin .gtr 2 (t 17) (t 18))] false) (.cond (t 19) (.seq (.region 12 [q 4 (.asg 0 (.const (.int .i64 1)) 3)] false) .ret) .skip)) (.seq (.region 13 [q 4 (.asg 0 (.const (.int .i64 0)) 3)] false) .ret))))))))
def cmp_Compare_int64_L : Live := [(0, [0, 1]), (1, [0, 1]), (2, [0, 1, 5]), (3, [0, 1, 5, 6]), (4, [6]), (5, []), (6, []), (7, [0, 1, 6]), (8, []), (9, [0, 1]), (10, []), (11, [0, 1]), (12, []), (13, []), (100011, [0, 1, 6, 11]), (100012, [12]), (100013, [0, 1, 13]), (100016, [0, 1, 16]), (100019, [19])]
noncomputable def cmp_Compare_int64 (a0 : Int) (a1 : Int) : Option Int :=
  (Option.bind (cmp_isNaN_int64 a0) fun r1 => (Option.bind (cmp_isNaN_int64 a1) fun r3 => (if r1 then (if r3 then (some 0) else (some (-1))) else (if r3 then (some 1) else (if (decide (a0 < a1)) then (some (-1)) else (if (decide (a0 > a1)) then (some 1) else (some 0)))))))
theorem cmp_Compare_int64_ok (a0 : Int) (a1 : Int) (r : Int) (h : cmp_Compare_int64 a0 a1 = some r) : Den Try.prog 214 [(i6 a0), (i6 a1)] { r := (i6 r) } := by
  refine den_of (rs := [(i6 r)]) (ac := cmp_Compare_int64_c) (L := cmp_Compare_int64_L) (n := 20) (m := []) (c := Try.f214.body.getD .skip) good Try.func214 (by kernel_rfl) (by kernel_rfl) Try.ntmps214 rfl rfl (by kernel_rfl) rfl rfl ?_
  refine a_st (σ' := ⟨[(0, (i6 a0)), (1, (i6 a1))], []⟩) (by kernel_rfl) ?_
  unfold cmp_Compare_int64_c
  refine sr (vp (i6 0) rfl (nx ⟨[(0, (i6 a0)), (1, (i6 a1))], []⟩ (by kernel_rfl) (sr (vp (i6 a0) rfl ?_))))
  obtain ⟨r1, hr2, h⟩ := bind_some h
  refine a_call (args := [(i6 a0)]) (u := []) (r := (.bool r1)) rfl rfl (cmp_isNaN_int64_ok a0 r1 hr2) rfl (vp (.bool r1) rfl (nx ⟨[(0, (i6 a0)), (1, (i6 a1)), (5, (.bool r1))], []⟩ (by kernel_rfl) (sr (vp (i6 a1) rfl ?_))))
  obtain ⟨r3, hr4, h⟩ := bind_some h
  refine a_call (args := [(i6 a1)]) (u := []) (r := (.bool r3)) rfl rfl (cmp_isNaN_int64_ok a1 r3 hr4) rfl (vp (.bool r3) rfl (nx ⟨[(0, (i6 a0)), (1, (i6 a1)), (5, (.bool r1)), (6, (.bool r3))], []⟩ (by kernel_rfl) (a_seq (sr (vp (.bool r1) rfl (nx ⟨[(0, (i6 a0)), (1, (i6 a1)), (6, (.bool r3)), (11, (.bool r1))], []⟩ (by kernel_rfl) ?_))))))
  cases hb5 : r1
  · have h := ite_f hb5 h
    refine a_cond_f rfl (a_skip (a_next (σ' := ⟨[(0, (i6 a0)), (1, (i6 a1)), (6, (.bool r3))], []⟩) (by kernel_rfl) (a_seq (sr (vp (.bool r3) rfl (nx ⟨[(0, (i6 a0)), (1, (i6 a1)), (13, (.bool r3))], []⟩ (by kernel_rfl) ?_))))))
    cases hb6 : r3
    · have h := ite_f hb6 h
      refine a_cond_f rfl (a_skip (a_next (σ' := ⟨[(0, (i6 a0)), (1, (i6 a1))], []⟩) (by kernel_rfl) (a_seq (sr (vp (i6 a0) rfl (vp (i6 a1) rfl (vp (.bool ((decide (a0 < a1)))) rfl (nx ⟨[(0, (i6 a0)), (1, (i6 a1)), (16, (.bool ((decide (a0 < a1)))))], []⟩ (by kernel_rfl) ?_))))))))
      cases hb7 : (decide (a0 < a1))
      · have h := ite_f hb7 h
        refine a_cond_f rfl (a_skip (a_next (σ' := ⟨[(0, (i6 a0)), (1, (i6 a1))], []⟩) (by kernel_rfl) (a_seq (sr (vp (i6 a0) rfl (vp (i6 a1) rfl (vp (.bool ((decide (a0 > a1)))) rfl (nx ⟨[(19, (.bool ((decide (a0 > a1)))))], []⟩ (by kernel_rfl) ?_))))))))
        cases hb8 : (decide (a0 > a1))
        · have h := ite_f hb8 h
          refine a_cond_f rfl (a_skip (a_next (σ' := ⟨[], []⟩) (by kernel_rfl) (sr (vp (i6 0) rfl (nx _ rfl (a_ret ?_))))))
          refine ⟨.inr rfl, ?_⟩
          rw [Try.results214]
          cases h
          exact ⟨_, _, _, _, _, rfl, trivial, .inl ⟨rfl, .inl rfl⟩, rfl, rfl⟩
        · have h := ite_t hb8 h
          refine a_cond_t rfl (sr (vp (i6 1) rfl (nx _ rfl (a_ret (t_ret ?_)))))
          refine ⟨.inr rfl, ?_⟩
          rw [Try.results214]
          cases h
          exact ⟨_, _, _, _, _, rfl, trivial, .inl ⟨rfl, .inl rfl⟩, rfl, rfl⟩
      · have h := ite_t hb7 h
        refine a_cond_t rfl (sr (vp (i6 (-1)) rfl (nx _ rfl (a_ret (t_ret ?_)))))
        refine ⟨.inr rfl, ?_⟩
        rw [Try.results214]
        cases h
        exact ⟨_, _, _, _, _, rfl, trivial, .inl ⟨rfl, .inl rfl⟩, rfl, rfl⟩
    · have h := ite_t hb6 h
      refine a_cond_t rfl (sr (vp (i6 1) rfl (nx _ rfl (a_ret (t_ret ?_)))))
      refine ⟨.inr rfl, ?_⟩
      rw [Try.results214]
      cases h
      exact ⟨_, _, _, _, _, rfl, trivial, .inl ⟨rfl, .inl rfl⟩, rfl, rfl⟩
  · have h := ite_t hb5 h
    refine a_cond_t rfl (a_seq (sr (vp (.bool r3) rfl (nx ⟨[(12, (.bool r3))], []⟩ (by kernel_rfl) ?_))))
    cases hb9 : r3
    · have h := ite_f hb9 h
      refine a_cond_f rfl (a_skip (a_next (σ' := ⟨[], []⟩) (by kernel_rfl) (sr (vp (i6 (-1)) rfl (nx _ rfl (a_ret (t_ret ?_)))))))
      refine ⟨.inr rfl, ?_⟩
      rw [Try.results214]
      cases h
      exact ⟨_, _, _, _, _, rfl, trivial, .inl ⟨rfl, .inl rfl⟩, rfl, rfl⟩
    · have h := ite_t hb9 h
      refine a_cond_t rfl (sr (vp (i6 0) rfl (nx _ rfl (a_ret (t_ret (t_ret ?_))))))
      refine ⟨.inr rfl, ?_⟩
      rw [Try.results214]
      cases h
      exact ⟨_, _, _, _, _, rfl, trivial, .inl ⟨rfl, .inl rfl⟩, rfl, rfl⟩
def impl_compare_c : ACode := (.seq (.region 0 [q 4 (.asg 0 (.const (.int .i64 0)) 3)] false) (.seq (.seq (.region 1 [q 8 (.mov (t 0)), q 9 (.blt 0 .len [(t 8)] [66]), q 10 (.mov (t 1)), q 11 (.blt 0 .len [(t 10)] [66]), q 12 (.call 0 (.func 213) [(t 9), (t 11)]), q 5 (.asg 0 (t 12) 3)] false) (.seq (.region 2 [q 13 (.mov (t 5)), q 14 (.bin .neq 3 (t 13) (.const (.int .i64 0)))] false) (.cond (t 14) (.seq (.region 3 [q 15 (.mov (t 5)), q 4 (.asg 0 (t 15) 3)] false) .ret) .skip))) (.seq (.seq (.region 4 [q 16 (.mov (t 0)), q 17 (.blt 0 .len [(t 16)] [66]), q 18 (.bin .sub 3 (t 17) (.const (.int .i64 1))), q 6 (.asg 0 (t 18) 3)] false) (.block 0 (.loop (.seq (.seq (.region 5 [q 19 (.mov (t 6)), q 20 (.bin .geq 3 (t 19) (.const (.int .i64 0)))] false) (.cond (t 20) .skip (.exit 0))) (.seq (.block 1 (.seq (.region 7 [q 23 (.mov (t 0)), q 24 (.mov (t 6)), ⟨some 25, .indexAddr 66 (t 23) (t 24), none, [0, 1]⟩, ⟨some 26, .load 2 (t 25), none, [2]⟩, q 27 (.mov (t 1)), q 28 (.mov (t 6)), ⟨some 29, .indexAddr 66 (t 27) (t 28), none, [4, 5]⟩, ⟨some 30, .load 2 (t 29), none, [6]⟩, ⟨some 31, .call 0 (.func 214) [(t 26), (t 30)], none, [3, 7]⟩, ⟨some 7, .asg 0 (t 31) 3, none, [8, 8, 0, 1, 2, 3, 4, 5, 6, 7, 8]⟩] true) (.seq (.region 8 [q 32 (.mov (t 7)), q 33 (.bin .neq 3 (t 32) (.const (.int .i64 0)))] false) (.cond (t 33) (.seq (.region 9 [q 34 (.mov (t 7)), q 4 (.asg 0 (t 34) 3)] false) .ret) .skip)))) (.region 6 [q 21 (.mov (t 6)), q 22 (.bin .sub 3 (t 21) (.const (.int .i64 1))), q 6 (.asg 0 (t 22) 3)] false)))))) (.seq (.region 10 [q 4 (.asg 0 (.const (.int .i64 0)) 3)] false) .ret))))
def impl_compare_L : Live := [(0, [0, 1]), (1, [0, 1]), (2, [0, 1, 5]), (3, [5]), (4, [0, 1]), (5, [0, 1, 6]), (6, [0, 1, 6]), (7, [0, 1, 6]), (8, [0, 1, 6, 7]), (9, [7]), (10, []), (100014, [0, 1, 5, 14]), (100020, [0, 1, 6, 20]), (100033, [0, 1, 6, 7, 33])]
noncomputable def impl_compare_l1 (a0 : (List Int)) (a1 : (List Int)) (x72 : Int) : Option (Int ⊕ (Unit ⊕ Int)) :=
  (if (decide (x72 ≥ 0)) then (ifp (0 ≤ x72 ∧ x72 < ((a0.length : Nat) : Int)) ((ifp (0 ≤ x72 ∧ x72 < ((a1.length : Nat) : Int)) ((Option.bind (cmp_Compare_int64 (rd a0 x72.toNat) (rd a1 x72.toNat)) fun r101 => (if (r101 != 0) then (some (.inr (.inr r101))) else (some (.inl (IntKind.i64.wrap (x72 - 1)))))))))) else (some (.inr (((.inl ()))))))
noncomputable def impl_compare (a0 : (List Int)) (a1 : (List Int)) : Option Int :=
  (Option.bind (cmp_Compare_int (a0.length : Int) (a1.length : Int)) fun r1 => (if (r1 != 0) then (some r1) else (Option.bind (α := (Unit ⊕ Int)) ((loopM (fun s : Int => impl_compare_l1 a0 a1 s) (IntKind.i64.wrap ((a0.length : Int) - 1)))) fun z => match z with | .inl _ => (some 0) | .inr r105 => (some r105))))
theorem impl_compare_ok (a0 : (List Int)) (a1 : (List Int)) (r : Int) (h : impl_compare a0 a1 = some r) : Den Try.prog 190 [(eSi64 a0), (eSi64 a1)] { r := (i6 r) } := by
  refine den_of (rs := [(i6 r)]) (ac := impl_compare_c) (L := impl_compare_L) (n := 35) (m := []) (c := Try.f190.body.getD .skip) good Try.func190 (by kernel_rfl) (by kernel_rfl) Try.ntmps190 rfl rfl (by kernel_rfl) rfl rfl ?_
  refine a_st (σ' := ⟨[(0, (eSi64 a0)), (1, (eSi64 a1))], []⟩) (by kernel_rfl) ?_
  unfold impl_compare_c
  refine sr (vp (i6 0) rfl (nx ⟨[(0, (eSi64 a0)), (1, (eSi64 a1))], []⟩ (by kernel_rfl) (a_seq (sr (vp (eSi64 a0) rfl (vq (i6 (a0.length : Int)) (len_run rfl rfl) trivial (vp (eSi64 a1) rfl (vq (i6 (a1.length : Int)) (len_run rfl rfl) trivial ?_))))))))
  obtain ⟨r1, hr2, h⟩ := bind_some h
  refine a_call (args := [(i6 (a0.length : Int)), (i6 (a1.length : Int))]) (u := []) (r := (i6 r1)) rfl rfl (cmp_Compare_int_ok (a0.length : Int) (a1.length : Int) r1 hr2) rfl (vp (i6 r1) rfl (nx ⟨[(0, (eSi64 a0)), (1, (eSi64 a1)), (5, (i6 r1))], []⟩ (by kernel_rfl) (sr (vp (i6 r1) rfl (vp (.bool (r1 != 0)) rfl (nx ⟨[(0, (eSi64 a0)), (1, (eSi64 a1)), (5, (i6 r1)), (14, (.bool (r1 != 0)))], []⟩ (by kernel_rfl) ?_))))))
  cases hb3 : (r1 != 0)
  · have h := ite_f hb3 h
    refine a_cond_f rfl (a_skip (a_next (σ' := ⟨[(0, (eSi64 a0)), (1, (eSi64 a1))], []⟩) (by kernel_rfl) ?_))
    obtain ⟨y53, hy54, hk55⟩ := bind_some h
    clear h
    refine a_join (emb := fun (s : Unit) => ⟨[], []⟩) (pre := fun s => (.inl s) = y53) ?_ ?_
    · rintro _ rfl
      have h := hk55
      refine a_st (σ' := ⟨[], []⟩) (by kernel_rfl) (sr (vp (i6 0) rfl (nx _ rfl (a_ret ?_))))
      refine ⟨.inr rfl, ?_⟩
      rw [Try.results190]
      cases h
      exact ⟨_, _, _, _, _, rfl, trivial, .inl ⟨rfl, .inl rfl⟩, rfl, rfl⟩
    · have h := hy54
      refine sr (vp (eSi64 a0) rfl (vq (i6 (a0.length : Int)) (len_run rfl rfl) trivial (vp (i6 (IntKind.i64.wrap ((a0.length : Int) - 1))) rfl (vp (i6 (IntKind.i64.wrap ((a0.length : Int) - 1))) rfl (nx ⟨[(0, (eSi64 a0)), (1, (eSi64 a1)), (6, (i6 (IntKind.i64.wrap ((a0.length : Int) - 1))))], []⟩ (by kernel_rfl) (a_block ?_))))))
      refine a_loop (emb := fun (s : Int) => ⟨[(0, (eSi64 a0)), (1, (eSi64 a1)), (6, (i6 s))], []⟩) (body := (fun s : Int => impl_compare_l1 a0 a1 s)) (G := fun q => some q = some y53) h rfl ?_ (by kernel_rfl)
      rintro X87 x72 x88 h hX89
      have h : impl_compare_l1 a0 a1 x72 = some x88 := h
      refine a_st (σ' := ⟨[(0, (eSi64 a0)), (1, (eSi64 a1)), (6, (i6 x72))], []⟩) (by kernel_rfl) (a_seq (sr (vp (i6 x72) rfl (vp (.bool ((decide (x72 ≥ 0)))) rfl (nx ⟨[(0, (eSi64 a0)), (1, (eSi64 a1)), (6, (i6 x72)), (20, (.bool ((decide (x72 ≥ 0)))))], []⟩ (by kernel_rfl) ?_)))))
      cases hb90 : (decide (x72 ≥ 0))
      · have h := ite_f hb90 h
        refine a_cond_f rfl (a_exit (t_exit ?_))
        cases h
        have h := hX89
        refine t_exit (b_exit ?_)
        exact j_leaf () (Option.some.inj h) (by kernel_rfl)
      · have h := ite_t hb90 h
        refine a_cond_t rfl (a_skip (a_next (σ' := ⟨[(0, (eSi64 a0)), (1, (eSi64 a1)), (6, (i6 x72))], []⟩) (by kernel_rfl) (a_seq (a_block (a_seq (a_draw [⟨[], [], [], []⟩, ⟨[], [], [], []⟩, ⟨[], [], [], [0, 1]⟩, ⟨[], [], [], [0, 1, 2]⟩, ⟨[], [], [], []⟩, ⟨[], [], [], []⟩, ⟨[], [], [], [4, 5]⟩, ⟨[], [], [], [4, 5, 6]⟩, ⟨[], [], [], [0, 1, 2, 3, 4, 5, 6, 7]⟩, ⟨[], [], [], [0, 1, 2, 3, 4, 5, 6, 7, 8]⟩] (by kernel_rfl) (dp (eSi64 a0) rfl (by kernel_rfl) (dp (i6 x72) rfl (by kernel_rfl) (d_cons ?_)))))))))
        obtain ⟨hc97, h⟩ := ifp_some h
        refine vq (.ref (.row 1 (a0.map (AV.int .i64))) [x72.toNat] [x72.toNat * 1]) rfl (lmap hc97) (d_next (by kernel_rfl) (d_cons ?_))
        have hl98 : LdOk [x72.toNat] (.row 1 (a0.map (AV.int .i64))) [x72.toNat * 1] 1 false (i6 (rd a0 x72.toNat)) := (.row (llt hc97) rfl (.nil rfl rfl rfl))
        refine vq (i6 (rd a0 x72.toNat)) (ld_ref (i := ⟨.int .i64, 1, 8, (.int .i64 0)⟩) rfl rfl hl98) hl98.c (d_next (by kernel_rfl) (dp (eSi64 a1) rfl (by kernel_rfl) (dp (i6 x72) rfl (by kernel_rfl) (d_cons ?_))))
        obtain ⟨hc99, h⟩ := ifp_some h
        refine vq (.ref (.row 1 (a1.map (AV.int .i64))) [x72.toNat] [x72.toNat * 1]) rfl (lmap hc99) (d_next (by kernel_rfl) (d_cons ?_))
        have hl100 : LdOk [x72.toNat] (.row 1 (a1.map (AV.int .i64))) [x72.toNat * 1] 1 false (i6 (rd a1 x72.toNat)) := (.row (llt hc99) rfl (.nil rfl rfl rfl))
        refine vq (i6 (rd a1 x72.toNat)) (ld_ref (i := ⟨.int .i64, 1, 8, (.int .i64 0)⟩) rfl rfl hl100) hl100.c (d_next (by kernel_rfl) (d_cons ?_))
        obtain ⟨r101, hr102, h⟩ := bind_some h
        refine a_call (args := [(i6 (rd a0 x72.toNat)), (i6 (rd a1 x72.toNat))]) (u := []) (r := (i6 r101)) rfl rfl (cmp_Compare_int64_ok (rd a0 x72.toNat) (rd a1 x72.toNat) r101 hr102) rfl (d_next (by kernel_rfl) (dp (i6 r101) rfl (by kernel_rfl) (d_nil (a_next (σ' := ⟨[(0, (eSi64 a0)), (1, (eSi64 a1)), (6, (i6 x72)), (7, (i6 r101))], []⟩) (by kernel_rfl) (sr (vp (i6 r101) rfl (vp (.bool (r101 != 0)) rfl (nx ⟨[(0, (eSi64 a0)), (1, (eSi64 a1)), (6, (i6 x72)), (7, (i6 r101)), (33, (.bool (r101 != 0)))], []⟩ (by kernel_rfl) ?_))))))))
        cases hb103 : (r101 != 0)
        · have h := ite_f hb103 h
          refine a_cond_f rfl (a_skip (b_norm (a_next (σ' := ⟨[(0, (eSi64 a0)), (1, (eSi64 a1)), (6, (i6 x72))], []⟩) (by kernel_rfl) (a_region (vp (i6 x72) rfl (vp (i6 (IntKind.i64.wrap (x72 - 1))) rfl (vp (i6 (IntKind.i64.wrap (x72 - 1))) rfl (a_nil ?_))))))))
          cases h
          exact a_again (by kernel_rfl) hX89
        · have h := ite_t hb103 h
          refine a_cond_t rfl (sr (vp (i6 r101) rfl (vp (i6 r101) rfl (nx _ rfl (a_ret (b_ret (t_ret ?_)))))))
          cases h
          have h := hX89
          refine t_ret (b_ret (t_ret ?_))
          cases h
          have h := hk55
          refine ⟨.inr rfl, ?_⟩
          rw [Try.results190]
          cases h
          exact ⟨_, _, _, _, _, rfl, trivial, .inl ⟨rfl, .inl rfl⟩, rfl, rfl⟩
  · have h := ite_t hb3 h
    refine a_cond_t rfl (sr (vp (i6 r1) rfl (vp (i6 r1) rfl (nx _ rfl (a_ret (t_ret ?_))))))
    refine ⟨.inr rfl, ?_⟩
    rw [Try.results190]
    cases h
    exact ⟨_, _, _, _, _, rfl, trivial, .inl ⟨rfl, .inl rfl⟩, rfl, rfl⟩
def impl_prime_factors_c1_c : ACode := (.seq (.region 0 [q 2 (.box 156 (t 0)), q 3 (.box 156 (t 1)), q 4 (.asg 0 (.const (.int .i64 0)) 3)] false) (.seq (.region 1 [q 5 (.fieldAddr 156 (t 2) 0), q 6 (.load 66 (t 5)), q 7 (.fieldAddr 156 (t 3) 0), q 8 (.load 66 (t 7)), q 9 (.call 0 (.func 190) [(t 6), (t 8)]), q 4 (.asg 0 (t 9) 3)] false) .ret))
def impl_prime_factors_c1_L : Live := [(0, [0, 1]), (1, [2, 3])]
noncomputable def impl_prime_factors_c1 (a0 : ((List Int) × Int)) (a1 : ((List Int) × Int)) : Option Int :=
  (Option.bind (impl_compare a0.1 a1.1) fun r3 => (some r3))
theorem impl_prime_factors_c1_ok (a0 : ((List Int) × Int)) (a1 : ((List Int) × Int)) (r : Int) (h : impl_prime_factors_c1 a0 a1 = some r) : Den Try.prog 189 [(eT_Si64_i64_Z a0), (eT_Si64_i64_Z a1)] { r := (i6 r) } := by
  refine den_of (rs := [(i6 r)]) (ac := impl_prime_factors_c1_c) (L := impl_prime_factors_c1_L) (n := 10) (m := []) (c := Try.f189.body.getD .skip) good Try.func189 (by kernel_rfl) (by kernel_rfl) Try.ntmps189 rfl rfl (by kernel_rfl) rfl rfl ?_
  refine a_st (σ' := ⟨[(0, (eT_Si64_i64_Z a0)), (1, (eT_Si64_i64_Z a1))], []⟩) (by kernel_rfl) ?_
  unfold impl_prime_factors_c1_c
  refine sr (vo 1200 (eT_Si64_i64_Z a0) rfl rfl (vo 1300 (eT_Si64_i64_Z a1) rfl rfl (vp (i6 0) rfl (nx ⟨[(2, (ow 2)), (3, (ow 3))], [(2, (bk (eT_Si64_i64_Z a0))), (3, (bk (eT_Si64_i64_Z a1)))]⟩ (by kernel_rfl) (sr (vb (.own 2 [0] [0]) rfl rfl ?_))))))
  have hl1 : LdOk [0] (eT_Si64_i64_Z a0) [0] 1 false (eSi64 a0.1) := (.fld rfl rfl rfl rfl (.nil rfl rfl rfl))
  refine vq (eSi64 a0.1) (ld_own (i := ⟨.slice 2, 1, 24, (eSi64 [])⟩) rfl rfl rfl hl1) hl1.c (vb (.own 3 [0] [0]) rfl rfl ?_)
  have hl2 : LdOk [0] (eT_Si64_i64_Z a1) [0] 1 false (eSi64 a1.1) := (.fld rfl rfl rfl rfl (.nil rfl rfl rfl))
  refine vq (eSi64 a1.1) (ld_own (i := ⟨.slice 2, 1, 24, (eSi64 [])⟩) rfl rfl rfl hl2) hl2.c ?_
  obtain ⟨r3, hr4, h⟩ := bind_some h
  refine a_call (args := [(eSi64 a0.1), (eSi64 a1.1)]) (u := []) (r := (i6 r3)) rfl rfl (impl_compare_ok a0.1 a1.1 r3 hr4) rfl (vp (i6 r3) rfl (nx _ rfl (a_ret ?_)))
  refine ⟨.inr rfl, ?_⟩
  rw [Try.results189]
  cases h
  exact ⟨_, _, _, _, _, rfl, trivial, .inl ⟨rfl, .inl rfl⟩, rfl, rfl⟩
def slices_insertionSortCmpFunc_impl_factor_of_mut_impl_prime_factors_c1_c : ACode := (.seq (.region 0 [q 10 (.mov (t 1)), q 11 (.bin .add 3 (t 10) (.const (.int .i64 1))), q 8 (.asg 0 (t 11) 3)] false) (.block 0 (.loop (.seq (.seq (.region 1 [q 12 (.mov (t 8)), q 13 (.mov (t 2)), q 14 (.bin .lss 3 (t 12) (t 13))] false) (.cond (t 14) .skip (.exit 0))) (.seq (.block 1 (.seq (.region 3 [q 17 (.mov (t 8)), q 9 (.asg 0 (t 17) 3)] false) (.block 2 (.loop (.seq (.seq (.region 4 [q 18 (.mov (t 9)), q 19 (.mov (t 1)), ⟨some 20, .bin .gtr 3 (t 18) (t 19), none, [0, 1]⟩, ⟨some 21, .mov (t 20), none, [2]⟩, ⟨some 22, .mov (t 3), some (21, true), [3]⟩, ⟨some 23, .mov (t 0), some (21, true), [3]⟩, ⟨some 24, .mov (t 9), some (21, true), [3]⟩, ⟨some 25, .indexAddr 153 (t 23) (t 24), some (21, true), [5, 6, 3]⟩, ⟨some 26, .load 156 (t 25), some (21, true), [7, 3]⟩, ⟨some 27, .mov (t 0), some (21, true), [3]⟩, ⟨some 28, .mov (t 9), some (21, true), [3]⟩, ⟨some 29, .bin .sub 3 (t 28) (.const (.int .i64 1)), some (21, true), [10, 3]⟩, ⟨some 30, .indexAddr 153 (t 27) (t 29), some (21, true), [9, 11, 3]⟩, ⟨some 31, .load 156 (t 30), some (21, true), [12, 3]⟩, ⟨some 32, .call 0 (t 22) [(t 26), (t 31)], some (21, true), [4, 8, 13, 3, 3]⟩, ⟨some 33, .bin .lss 3 (t 32) (.const (.int .i64 0)), some (21, true), [14, 3]⟩, ⟨some 34, .pick (t 21) (t 33) (.const (.bool false)), none, [3, 15]⟩] true) (.cond (t 34) .skip (.exit 2))) (.seq (.block 3 (.region 6 [q 37 (.mov (t 0)), q 38 (.mov (t 9)), q 39 (.mov (t 0)), q 40 (.mov (t 9)), ⟨some 41, .bin .sub 3 (t 40) (.const (.int .i64 1)), none, [3]⟩, q 42 (.mov (t 0)), q 43 (.mov (t 9)), ⟨some 44, .bin .sub 3 (t 43) (.const (.int .i64 1)), none, [6]⟩, ⟨some 45, .indexAddr 153 (t 42) (t 44), none, [5, 7]⟩, ⟨some 46, .load 156 (t 45), none, [8]⟩, q 47 (.mov (t 0)), q 48 (.mov (t 9)), ⟨some 49, .indexAddr 153 (t 47) (t 48), none, [10, 11]⟩, ⟨some 50, .load 156 (t 49), none, [12]⟩, ⟨some 51, .indexAddr 153 (t 37) (t 38), none, [0, 1, 0, 1, 5, 6, 7, 8, 9, 13]⟩, ⟨none, .store 156 (t 51) (t 46), none, [14, 9, 0, 1, 5, 6, 7, 8, 9, 13]⟩, ⟨some 52, .indexAddr 153 (t 39) (t 41), none, [2, 4, 0, 1, 2, 3, 4, 5, 6, 7, 8, 9, 10, 11, 12, 13, 14, 15]⟩, ⟨none, .store 156 (t 52) (t 50), none, [16, 13, 15, 0, 1, 2, 3, 4, 5, 6, 7, 8, 9, 10, 11, 12, 13, 14, 15]⟩] true)) (.region 5 [q 35 (.mov (t 9)), q 36 (.bin .sub 3 (t 35) (.const (.int .i64 1))), q 9 (.asg 0 (t 36) 3)] false))))))) (.region 2 [q 15 (.mov (t 8)), q 16 (.bin .add 3 (t 15) (.const (.int .i64 1))), q 8 (.asg 0 (t 16) 3)] false))))))
def slices_insertionSortCmpFunc_impl_factor_of_mut_impl_prime_factors_c1_L : Live := [(0, [0, 1, 2, 3]), (1, [0, 1, 2, 3, 8]), (2, [0, 1, 2, 3, 8]), (3, [0, 1, 2, 3, 8]), (4, [0, 1, 2, 3, 8, 9]), (5, [0, 1, 2, 3, 8, 9]), (6, [0, 1, 2, 3, 8, 9]), (100014, [0, 1, 2, 3, 8, 14]), (100034, [0, 1, 2, 3, 8, 9, 34])]
noncomputable def slices_insertionSortCmpFunc_impl_factor_of_mut_impl_prime_factors_c1_l2 (a1 : Int) (x859 : Int) (x860 : (List ((List Int) × Int))) : Option ((Int × (List ((List Int) × Int))) ⊕ (List ((List Int) × Int))) :=
  (Option.bind (α := Bool) ((if (decide (x859 > a1)) then (ifp (0 ≤ x859 ∧ x859 < ((x860.length : Nat) : Int)) ((ifp (0 ≤ IntKind.i64.wrap (x859 - 1) ∧ IntKind.i64.wrap (x859 - 1) < ((x860.length : Nat) : Int)) ((Option.bind (impl_prime_factors_c1 (rd x860 x859.toNat) ((rd x860 (IntKind.i64.wrap (x859 - 1)).toNat))) fun r943 => (some ((decide (r943 < 0))))))))) else (some false))) fun x927 => (if x927 then (ifp (0 ≤ IntKind.i64.wrap (x859 - 1) ∧ IntKind.i64.wrap (x859 - 1) < ((x860.length : Nat) : Int)) ((ifp (0 ≤ x859 ∧ x859 < ((x860.length : Nat) : Int)) ((ifp (0 ≤ x859 ∧ x859 < ((x860.length : Nat) : Int)) ((ifp (0 ≤ IntKind.i64.wrap (x859 - 1) ∧ IntKind.i64.wrap (x859 - 1) < ((((x860.set x859.toNat ((rd x860 (IntKind.i64.wrap (x859 - 1)).toNat)))).length : Nat) : Int)) ((some (.inl ((IntKind.i64.wrap (x859 - 1), (((x860.set x859.toNat ((rd x860 (IntKind.i64.wrap (x859 - 1)).toNat)))).set (IntKind.i64.wrap (x859 - 1)).toNat (rd x860 x859.toNat)))))))))))))) else (some (.inr x860))))
noncomputable def slices_insertionSortCmpFunc_impl_factor_of_mut_impl_prime_factors_c1_l1 (a2 : Int) (a1 : Int) (x336 : Int) (x337 : (List ((List Int) × Int))) : Option ((Int × (List ((List Int) × Int))) ⊕ (List ((List Int) × Int))) :=
  (if (decide (x336 < a2)) then (Option.bind (α := (List ((List Int) × Int))) ((loopM (fun s : (Int × (List ((List Int) × Int))) => slices_insertionSortCmpFunc_impl_factor_of_mut_impl_prime_factors_c1_l2 a1 s.1 s.2) (x336, x337))) fun x806 => (some (.inl ((IntKind.i64.wrap (x336 + 1), x806))))) else (some (.inr x337)))
noncomputable def slices_insertionSortCmpFunc_impl_factor_of_mut_impl_prime_factors_c1 (a0 : (List ((List Int) × Int))) (a1 : Int) (a2 : Int) : Option (List ((List Int) × Int)) :=
  (loopM (fun s : (Int × (List ((List Int) × Int))) => slices_insertionSortCmpFunc_impl_factor_of_mut_impl_prime_factors_c1_l1 a2 a1 s.1 s.2) (IntKind.i64.wrap (a1 + 1), a0))
theorem slices_insertionSortCmpFunc_impl_factor_of_mut_impl_prime_factors_c1_ok (a0 : (List ((List Int) × Int))) (a1 : Int) (a2 : Int) (r : (List ((List Int) × Int))) (h : slices_insertionSortCmpFunc_impl_factor_of_mut_impl_prime_factors_c1 a0 a1 a2 = some r) : Den Try.prog 222 [(.mutsl 2 (a0.map eT_Si64_i64_Z)), (i6 a1), (i6 a2), (.clo 189 [] [])] { r := (.tuple []), ms := [(.row 2 (r.map eT_Si64_i64_Z))], fs := [] } := by
  refine den_ofX (rs := []) (ac := slices_insertionSortCmpFunc_impl_factor_of_mut_impl_prime_factors_c1_c) (L := slices_insertionSortCmpFunc_impl_factor_of_mut_impl_prime_factors_c1_L) (n := 53) (m := []) (c := Try.f222.body.getD .skip) good Try.func222 (by kernel_rfl) (by kernel_rfl) Try.ntmps222 rfl rfl (by kernel_rfl) rfl ?_
  refine a_st (σ' := ⟨[(0, (.osl 1000000)), (1, (i6 a1)), (2, (i6 a2)), (3, (.clo 189 [] []))], [(1000000, (bk (.row 2 (a0.map eT_Si64_i64_Z))))]⟩) (by kernel_rfl) ?_
  unfold slices_insertionSortCmpFunc_impl_factor_of_mut_impl_prime_factors_c1_c
  refine sr (vp (i6 a1) rfl (vp (i6 (IntKind.i64.wrap (a1 + 1))) rfl (vp (i6 (IntKind.i64.wrap (a1 + 1))) rfl (nx ⟨[(0, (.osl 1000000)), (1, (i6 a1)), (2, (i6 a2)), (3, (.clo 189 [] [])), (8, (i6 (IntKind.i64.wrap (a1 + 1))))], [(1000000, (bk (.row 2 (a0.map eT_Si64_i64_Z))))]⟩ (by kernel_rfl) (a_block ?_)))))
  refine a_loop (emb := fun (s : (Int × (List ((List Int) × Int)))) => ⟨[(0, (.osl 1000000)), (1, (i6 a1)), (2, (i6 a2)), (3, (.clo 189 [] [])), (8, (i6 s.1))], [(1000000, (bk (.row 2 (s.2.map eT_Si64_i64_Z))))]⟩) (body := (fun s : (Int × (List ((List Int) × Int))) => slices_insertionSortCmpFunc_impl_factor_of_mut_impl_prime_factors_c1_l1 a2 a1 s.1 s.2)) (G := fun q => some q = some r) h rfl ?_ (by kernel_rfl)
  rintro X649 ⟨x336, x337⟩ x650 h hX651
  have h : slices_insertionSortCmpFunc_impl_factor_of_mut_impl_prime_factors_c1_l1 a2 a1 x336 x337 = some x650 := h
  refine a_st (σ' := ⟨[(0, (.osl 1000000)), (1, (i6 a1)), (2, (i6 a2)), (3, (.clo 189 [] [])), (8, (i6 x336))], [(1000000, (bk (.row 2 (x337.map eT_Si64_i64_Z))))]⟩) (by kernel_rfl) (a_seq (sr (vp (i6 x336) rfl (vp (i6 a2) rfl (vp (.bool ((decide (x336 < a2)))) rfl (nx ⟨[(0, (.osl 1000000)), (1, (i6 a1)), (2, (i6 a2)), (3, (.clo 189 [] [])), (8, (i6 x336)), (14, (.bool ((decide (x336 < a2)))))], [(1000000, (bk (.row 2 (x337.map eT_Si64_i64_Z))))]⟩ (by kernel_rfl) ?_))))))
  cases hb652 : (decide (x336 < a2))
  · have h := ite_f hb652 h
    refine a_cond_f rfl (a_exit (t_exit ?_))
    cases h
    have h := hX651
    refine t_exit (b_exit ?_)
    refine ⟨.inl rfl, ?_⟩
    rw [Try.results222]
    cases h
    exact ⟨[], ⟨rfl, rfl, rfl⟩, rfl, ⟨_, _, rfl, rfl, rfl⟩⟩
  · have h := ite_t hb652 h
    refine a_cond_t rfl (a_skip (a_next (σ' := ⟨[(0, (.osl 1000000)), (1, (i6 a1)), (2, (i6 a2)), (3, (.clo 189 [] [])), (8, (i6 x336))], [(1000000, (bk (.row 2 (x337.map eT_Si64_i64_Z))))]⟩) (by kernel_rfl) ?_))
    obtain ⟨y807, hy808, hk809⟩ := bind_some h
    clear h
    refine a_join (emb := fun (s : (List ((List Int) × Int))) => ⟨[(0, (.osl 1000000)), (1, (i6 a1)), (2, (i6 a2)), (3, (.clo 189 [] [])), (8, (i6 x336))], [(1000000, (bk (.row 2 (s.map eT_Si64_i64_Z))))]⟩) (pre := fun s => s = y807) ?_ ?_
    · rintro x806 rfl
      have h := hk809
      refine a_st (σ' := ⟨[(0, (.osl 1000000)), (1, (i6 a1)), (2, (i6 a2)), (3, (.clo 189 [] [])), (8, (i6 x336))], [(1000000, (bk (.row 2 (x806.map eT_Si64_i64_Z))))]⟩) (by kernel_rfl) (a_region (vp (i6 x336) rfl (vp (i6 (IntKind.i64.wrap (x336 + 1))) rfl (vp (i6 (IntKind.i64.wrap (x336 + 1))) rfl (a_nil ?_)))))
      cases h
      exact a_again (by kernel_rfl) hX651
    · have h := hy808
      refine a_block (sr (vp (i6 x336) rfl (vp (i6 x336) rfl (nx ⟨[(0, (.osl 1000000)), (1, (i6 a1)), (2, (i6 a2)), (3, (.clo 189 [] [])), (8, (i6 x336)), (9, (i6 x336))], [(1000000, (bk (.row 2 (x337.map eT_Si64_i64_Z))))]⟩ (by kernel_rfl) (a_block ?_)))))
      refine a_loop (emb := fun (s : (Int × (List ((List Int) × Int)))) => ⟨[(0, (.osl 1000000)), (1, (i6 a1)), (2, (i6 a2)), (3, (.clo 189 [] [])), (8, (i6 x336)), (9, (i6 s.1))], [(1000000, (bk (.row 2 (s.2.map eT_Si64_i64_Z))))]⟩) (body := (fun s : (Int × (List ((List Int) × Int))) => slices_insertionSortCmpFunc_impl_factor_of_mut_impl_prime_factors_c1_l2 a1 s.1 s.2)) (G := fun q => some q = some y807) h rfl ?_ (by kernel_rfl)
      rintro X910 ⟨x859, x860⟩ x911 h hX912
      have h : slices_insertionSortCmpFunc_impl_factor_of_mut_impl_prime_factors_c1_l2 a1 x859 x860 = some x911 := h
      refine a_st (σ' := ⟨[(0, (.osl 1000000)), (1, (i6 a1)), (2, (i6 a2)), (3, (.clo 189 [] [])), (8, (i6 x336)), (9, (i6 x859))], [(1000000, (bk (.row 2 (x860.map eT_Si64_i64_Z))))]⟩) (by kernel_rfl) (a_seq ?_)
      obtain ⟨y928, hy929, hk930⟩ := bind_some h
      clear h
      refine a_join (emb := fun (s : Bool) => ⟨[(0, (.osl 1000000)), (1, (i6 a1)), (2, (i6 a2)), (3, (.clo 189 [] [])), (8, (i6 x336)), (9, (i6 x859)), (34, (.bool s))], [(1000000, (bk (.row 2 (x860.map eT_Si64_i64_Z))))]⟩) (pre := fun s => s = y928) ?_ ?_
      · rintro x927 rfl
        have h := hk930
        refine a_st (σ' := ⟨[(0, (.osl 1000000)), (1, (i6 a1)), (2, (i6 a2)), (3, (.clo 189 [] [])), (8, (i6 x336)), (9, (i6 x859)), (34, (.bool x927))], [(1000000, (bk (.row 2 (x860.map eT_Si64_i64_Z))))]⟩) (by kernel_rfl) ?_
        cases hb945 : x927
        · have h := ite_f hb945 h
          refine a_cond_f rfl (a_exit (t_exit ?_))
          cases h
          have h := hX912
          refine t_exit (b_exit (b_norm ?_))
          exact j_leaf x860 (Option.some.inj h) (by kernel_rfl)
        · have h := ite_t hb945 h
          refine a_cond_t rfl (a_skip (a_next (σ' := ⟨[(0, (.osl 1000000)), (1, (i6 a1)), (2, (i6 a2)), (3, (.clo 189 [] [])), (8, (i6 x336)), (9, (i6 x859))], [(1000000, (bk (.row 2 (x860.map eT_Si64_i64_Z))))]⟩) (by kernel_rfl) (a_seq (a_block (a_draw [⟨[], [], [1000000], []⟩, ⟨[], [], [], []⟩, ⟨[], [], [1000000], []⟩, ⟨[], [], [], []⟩, ⟨[], [], [], [3]⟩, ⟨[], [], [1000000], []⟩, ⟨[], [], [], []⟩, ⟨[], [], [], [6]⟩, ⟨[1000000], [], [1000000], [5, 6, 7]⟩, ⟨[1000000], [], [], [5, 6, 7, 8]⟩, ⟨[], [], [1000000], []⟩, ⟨[], [], [], []⟩, ⟨[1000000], [], [1000000], [10, 11]⟩, ⟨[1000000], [], [], [10, 11, 12]⟩, ⟨[1000000], [], [1000000], [0, 1, 5, 6, 7, 8, 9, 10, 11, 12, 13]⟩, ⟨[1000000], [1000000], [], [0, 1, 5, 6, 7, 8, 9, 10, 11, 12, 13, 14]⟩, ⟨[1000000], [], [1000000], [0, 1, 2, 3, 4, 5, 6, 7, 8, 9, 10, 11, 12, 13, 14, 15]⟩, ⟨[1000000], [1000000], [], [0, 1, 2, 3, 4, 5, 6, 7, 8, 9, 10, 11, 12, 13, 14, 15, 16]⟩] (by kernel_rfl) (dp (.osl 1000000) rfl (by kernel_rfl) (dp (i6 x859) rfl (by kernel_rfl) (dp (.osl 1000000) rfl (by kernel_rfl) (dp (i6 x859) rfl (by kernel_rfl) ?_)))))))))
          refine dp (i6 (IntKind.i64.wrap (x859 - 1))) rfl (by kernel_rfl) (dp (.osl 1000000) rfl (by kernel_rfl) (dp (i6 x859) rfl (by kernel_rfl) (dp (i6 (IntKind.i64.wrap (x859 - 1))) rfl (by kernel_rfl) (d_cons ?_))))
          obtain ⟨hc954, h⟩ := ifp_some h
          refine vq (.own 1000000 [(IntKind.i64.wrap (x859 - 1)).toNat] [(IntKind.i64.wrap (x859 - 1)).toNat * 2]) rfl (lmap hc954) (d_next (by kernel_rfl) (d_cons ?_))
          have hl955 : LdOk [(IntKind.i64.wrap (x859 - 1)).toNat] (.row 2 (x860.map eT_Si64_i64_Z)) [(IntKind.i64.wrap (x859 - 1)).toNat * 2] 2 true (eT_Si64_i64_Z ((rd x860 (IntKind.i64.wrap (x859 - 1)).toNat))) := (.row (llt hc954) rfl (.nil rfl rfl rfl))
          refine vq (eT_Si64_i64_Z ((rd x860 (IntKind.i64.wrap (x859 - 1)).toNat))) (ld_own (i := ⟨.struct [(0, 66), (1, 2)], 2, 32, (eT_Si64_i64_Z ([], (0 : Int)))⟩) rfl rfl rfl hl955) hl955.c (d_next (by kernel_rfl) (dp (.osl 1000000) rfl (by kernel_rfl) (dp (i6 x859) rfl (by kernel_rfl) (d_cons ?_))))
          obtain ⟨hc956, h⟩ := ifp_some h
          refine vq (.own 1000000 [x859.toNat] [x859.toNat * 2]) rfl (lmap hc956) (d_next (by kernel_rfl) (d_cons ?_))
          have hl957 : LdOk [x859.toNat] (.row 2 (x860.map eT_Si64_i64_Z)) [x859.toNat * 2] 2 true (eT_Si64_i64_Z (rd x860 x859.toNat)) := (.row (llt hc956) rfl (.nil rfl rfl rfl))
          refine vq (eT_Si64_i64_Z (rd x860 x859.toNat)) (ld_own (i := ⟨.struct [(0, 66), (1, 2)], 2, 32, (eT_Si64_i64_Z ([], (0 : Int)))⟩) rfl rfl rfl hl957) hl957.c (d_next (by kernel_rfl) (d_cons ?_))
          obtain ⟨hc958, h⟩ := ifp_some h
          refine vq (.own 1000000 [x859.toNat] [x859.toNat * 2]) rfl (lmap hc958) (d_next (by kernel_rfl) (d_cons ?_))
          have hs959 : StOk [x859.toNat] (.row 2 (x860.map eT_Si64_i64_Z)) [x859.toNat * 2] 2 (eT_Si64_i64_Z ((rd x860 (IntKind.i64.wrap (x859 - 1)).toNat))) (.row 2 (((x860.set x859.toNat ((rd x860 (IntKind.i64.wrap (x859 - 1)).toNat)))).map eT_Si64_i64_Z)) := (.row (y := (rd x860 (IntKind.i64.wrap (x859 - 1)).toNat)) (llt hc958) rfl (.nil rfl rfl rfl rfl))
          refine vu .top [(1000000, (bk (.row 2 (((x860.set x859.toNat ((rd x860 (IntKind.i64.wrap (x859 - 1)).toNat)))).map eT_Si64_i64_Z))))] (st_own (i := ⟨.struct [(0, 66), (1, 2)], 2, 32, (eT_Si64_i64_Z ([], (0 : Int)))⟩) rfl rfl (fun _ => rfl) rfl hs959) (hs959.c rfl) rfl (d_next (by kernel_rfl) (d_cons ?_))
          obtain ⟨hc960, h⟩ := ifp_some h
          refine vq (.own 1000000 [(IntKind.i64.wrap (x859 - 1)).toNat] [(IntKind.i64.wrap (x859 - 1)).toNat * 2]) rfl (lmap hc960) (d_next (by kernel_rfl) (d_cons ?_))
          have hs961 : StOk [(IntKind.i64.wrap (x859 - 1)).toNat] (.row 2 (((x860.set x859.toNat ((rd x860 (IntKind.i64.wrap (x859 - 1)).toNat)))).map eT_Si64_i64_Z)) [(IntKind.i64.wrap (x859 - 1)).toNat * 2] 2 (eT_Si64_i64_Z (rd x860 x859.toNat)) (.row 2 (((((x860.set x859.toNat ((rd x860 (IntKind.i64.wrap (x859 - 1)).toNat)))).set (IntKind.i64.wrap (x859 - 1)).toNat (rd x860 x859.toNat))).map eT_Si64_i64_Z)) := (.row (y := (rd x860 x859.toNat)) (llt hc960) rfl (.nil rfl rfl rfl rfl))
          refine vu .top [(1000000, (bk (.row 2 (((((x860.set x859.toNat ((rd x860 (IntKind.i64.wrap (x859 - 1)).toNat)))).set (IntKind.i64.wrap (x859 - 1)).toNat (rd x860 x859.toNat))).map eT_Si64_i64_Z))))] (st_own (i := ⟨.struct [(0, 66), (1, 2)], 2, 32, (eT_Si64_i64_Z ([], (0 : Int)))⟩) rfl rfl (fun _ => rfl) rfl hs961) (hs961.c rfl) rfl (d_next (by kernel_rfl) (d_nil (b_norm (a_next (σ' := ⟨[(0, (.osl 1000000)), (1, (i6 a1)), (2, (i6 a2)), (3, (.clo 189 [] [])), (8, (i6 x336)), (9, (i6 x859))], [(1000000, (bk (.row 2 (((((x860.set x859.toNat ((rd x860 (IntKind.i64.wrap (x859 - 1)).toNat)))).set (IntKind.i64.wrap (x859 - 1)).toNat (rd x860 x859.toNat))).map eT_Si64_i64_Z))))]⟩) (by kernel_rfl) (a_region (vp (i6 x859) rfl (vp (i6 (IntKind.i64.wrap (x859 - 1))) rfl (vp (i6 (IntKind.i64.wrap (x859 - 1))) rfl (a_nil ?_)))))))))
          cases h
          exact a_again (by kernel_rfl) hX912
      · have h := hy929
        refine a_draw [⟨[], [], [], []⟩, ⟨[], [], [], []⟩, ⟨[], [], [], [0, 1]⟩, ⟨[], [], [], [0, 1, 2]⟩, ⟨[], [], [], [0, 1, 2, 3]⟩, ⟨[], [], [1000000], [0, 1, 2, 3]⟩, ⟨[], [], [], [0, 1, 2, 3]⟩, ⟨[1000000], [], [1000000], [0, 1, 2, 3, 5, 6]⟩, ⟨[1000000], [], [], [0, 1, 2, 3, 5, 6, 7]⟩, ⟨[], [], [1000000], [0, 1, 2, 3]⟩, ⟨[], [], [], [0, 1, 2, 3]⟩, ⟨[], [], [], [0, 1, 2, 3, 10]⟩, ⟨[1000000], [], [1000000], [0, 1, 2, 3, 9, 10, 11]⟩, ⟨[1000000], [], [], [0, 1, 2, 3, 9, 10, 11, 12]⟩, ⟨[], [], [], [0, 1, 2, 3, 4, 5, 6, 7, 8, 9, 10, 11, 12, 13]⟩, ⟨[], [], [], [0, 1, 2, 3, 4, 5, 6, 7, 8, 9, 10, 11, 12, 13, 14]⟩, ⟨[], [], [], [0, 1, 2, 3, 4, 5, 6, 7, 8, 9, 10, 11, 12, 13, 14, 15]⟩] (by kernel_rfl) (dp (i6 x859) rfl (by kernel_rfl) (dp (i6 a1) rfl (by kernel_rfl) (dp (.bool ((decide (x859 > a1)))) rfl (by kernel_rfl) (dp (.bool ((decide (x859 > a1)))) rfl (by kernel_rfl) ?_))))
        cases hb938 : (decide (x859 > a1))
        · have h := ite_f hb938 h
          refine dk rfl (by kernel_rfl) (dk rfl (by kernel_rfl) (dk rfl (by kernel_rfl) (dk rfl (by kernel_rfl) (dk rfl (by kernel_rfl) (dk rfl (by kernel_rfl) (dk rfl (by kernel_rfl) (dk rfl (by kernel_rfl) (dk rfl (by kernel_rfl) (dk rfl (by kernel_rfl) ?_)))))))))
          refine dk rfl (by kernel_rfl) (dk rfl (by kernel_rfl) (dp (.bool false) rfl (by kernel_rfl) (d_nil ?_)))
          exact j_leaf false (Option.some.inj h) (by kernel_rfl)
        · have h := ite_t hb938 h
          refine dg (.clo 189 [] []) rfl rfl (by kernel_rfl) (dg (.osl 1000000) rfl rfl (by kernel_rfl) (dg (i6 x859) rfl rfl (by kernel_rfl) (d_cons ?_)))
          obtain ⟨hc939, h⟩ := ifp_some h
          refine gq (.own 1000000 [x859.toNat] [x859.toNat * 2]) rfl rfl (lmap hc939) (d_next (by kernel_rfl) (d_cons ?_))
          have hl940 : LdOk [x859.toNat] (.row 2 (x860.map eT_Si64_i64_Z)) [x859.toNat * 2] 2 true (eT_Si64_i64_Z (rd x860 x859.toNat)) := (.row (llt hc939) rfl (.nil rfl rfl rfl))
          refine gq (eT_Si64_i64_Z (rd x860 x859.toNat)) rfl (ld_own (i := ⟨.struct [(0, 66), (1, 2)], 2, 32, (eT_Si64_i64_Z ([], (0 : Int)))⟩) rfl rfl rfl hl940) hl940.c (d_next (by kernel_rfl) (dg (.osl 1000000) rfl rfl (by kernel_rfl) (dg (i6 x859) rfl rfl (by kernel_rfl) (dg (i6 (IntKind.i64.wrap (x859 - 1))) rfl rfl (by kernel_rfl) (d_cons ?_)))))
          obtain ⟨hc941, h⟩ := ifp_some h
          refine gq (.own 1000000 [(IntKind.i64.wrap (x859 - 1)).toNat] [(IntKind.i64.wrap (x859 - 1)).toNat * 2]) rfl rfl (lmap hc941) (d_next (by kernel_rfl) (d_cons ?_))
          have hl942 : LdOk [(IntKind.i64.wrap (x859 - 1)).toNat] (.row 2 (x860.map eT_Si64_i64_Z)) [(IntKind.i64.wrap (x859 - 1)).toNat * 2] 2 true (eT_Si64_i64_Z ((rd x860 (IntKind.i64.wrap (x859 - 1)).toNat))) := (.row (llt hc941) rfl (.nil rfl rfl rfl))
          refine gq (eT_Si64_i64_Z ((rd x860 (IntKind.i64.wrap (x859 - 1)).toNat))) rfl (ld_own (i := ⟨.struct [(0, 66), (1, 2)], 2, 32, (eT_Si64_i64_Z ([], (0 : Int)))⟩) rfl rfl rfl hl942) hl942.c (d_next (by kernel_rfl) (d_cons ?_))
          obtain ⟨r943, hr944, h⟩ := bind_some h
          refine a_gcall rfl (args := [(eT_Si64_i64_Z (rd x860 x859.toNat)), (eT_Si64_i64_Z ((rd x860 (IntKind.i64.wrap (x859 - 1)).toNat)))]) (u := []) (r := (i6 r943)) rfl rfl (impl_prime_factors_c1_ok (rd x860 x859.toNat) ((rd x860 (IntKind.i64.wrap (x859 - 1)).toNat)) r943 hr944) rfl (d_next (by kernel_rfl) (dg (.bool ((decide (r943 < 0)))) rfl rfl (by kernel_rfl) (dp (.bool ((decide (r943 < 0)))) rfl (by kernel_rfl) (d_nil ?_))))
          exact j_leaf ((decide (r943 < 0))) (Option.some.inj h) (by kernel_rfl)
def slices_pdqsortCmpFunc_impl_factor_of_mut_impl_prime_factors_c1_c : ACode := (.seq (.region 0 [q 10 (.asg 0 (.const (.bool true)) 4)] false) (.seq (.region 1 [q 11 (.asg 0 (.const (.bool true)) 4)] false) (.block 0 (.loop (.block 1 (.seq (.region 2 [q 21 (.mov (t 2)), q 22 (.mov (t 1)), q 23 (.bin .sub 3 (t 21) (t 22)), q 12 (.asg 0 (t 23) 3)] false) (.seq (.seq (.region 3 [q 24 (.mov (t 12)), q 25 (.bin .leq 3 (t 24) (.const (.int .i64 12)))] false) (.cond (t 25) (.seq (.region 4 [q 26 (.mov (t 0)), q 27 (.mov (t 1)), q 28 (.mov (t 2)), q 29 (.mov (t 4)), q 30 (.call 1 (.func 222) [(t 26), (t 27), (t 28), (t 29)])] false) .ret) .skip)) (.seq (.seq (.region 5 [q 31 (.mov (t 3)), q 32 (.bin .eql 3 (t 31) (.const (.int .i64 0)))] false) (.cond (t 32) (.seq (.region 6 [q 33 (.mov (t 0)), q 34 (.mov (t 1)), q 35 (.mov (t 2)), q 36 (.mov (t 4)), q 37 (.call 1 (.func 223) [(t 33), (t 34), (t 35), (t 36)])] false) .ret) .skip)) (.seq (.seq (.region 7 [q 38 (.mov (t 10)), q 39 (.un .not (t 38))] false) (.cond (t 39) (.seq (.region 8 [q 40 (.mov (t 0)), q 41 (.mov (t 1)), q 42 (.mov (t 2)), q 43 (.mov (t 4)), q 44 (.call 1 (.func 224) [(t 40), (t 41), (t 42), (t 43)])] false) (.region 9 [q 45 (.mov (t 3)), q 46 (.bin .sub 3 (t 45) (.const (.int .i64 1))), q 3 (.asg 0 (t 46) 3)] false)) .skip)) (.seq (.region 10 [q 48 (.mov (t 0)), q 49 (.mov (t 1)), q 50 (.mov (t 2)), q 51 (.mov (t 4)), q 52 (.call 0 (.func 225) [(t 48), (t 49), (t 50), (t 51)]), q 47 (.mov (t 52)), q 53 (.extract (t 47) 0), q 54 (.extract (t 47) 1), q 13 (.asg 0 (t 53) 3), q 14 (.asg 0 (t 54) 182)] false) (.seq (.seq (.region 11 [q 55 (.mov (t 14)), q 56 (.bin .eql 182 (t 55) (.const (.int .i64 2)))] false) (.cond (t 56) (.seq (.region 12 [q 57 (.mov (t 0)), q 58 (.mov (t 1)), q 59 (.mov (t 2)), q 60 (.mov (t 4)), q 61 (.call 1 (.func 226) [(t 57), (t 58), (t 59), (t 60)])] false) (.seq (.region 13 [q 62 (.mov (t 2)), q 63 (.bin .sub 3 (t 62) (.const (.int .i64 1))), q 64 (.mov (t 13)), q 65 (.mov (t 1)), q 66 (.bin .sub 3 (t 64) (t 65)), q 67 (.bin .sub 3 (t 63) (t 66)), q 13 (.asg 0 (t 67) 3)] false) (.region 14 [q 14 (.asg 0 (.const (.int .i64 1)) 182)] false))) .skip)) (.seq (.seq (.region 15 [q 68 (.mov (t 10)), q 69 (.mov (t 68)), ⟨some 70, .mov (t 11), some (69, true), []⟩, q 71 (.pick (t 69) (t 70) (.const (.bool false))), q 72 (.mov (t 71)), ⟨some 73, .mov (t 14), some (72, true), []⟩, ⟨some 74, .bin .eql 182 (t 73) (.const (.int .i64 1)), some (72, true), []⟩, q 75 (.pick (t 72) (t 74) (.const (.bool false)))] false) (.cond (t 75) (.seq (.region 16 [q 76 (.mov (t 0)), q 77 (.mov (t 1)), q 78 (.mov (t 2)), q 79 (.mov (t 4)), q 80 (.call 1 (.func 227) [(t 76), (t 77), (t 78), (t 79)])] false) (.cond (t 80) .ret .skip)) .skip)) (.seq (.seq (.region 17 [q 81 (.mov (t 1)), ⟨some 82, .bin .gtr 3 (t 81) (.const (.int .i64 0)), none, [0]⟩, ⟨some 83, .mov (t 82), none, [1]⟩, ⟨some 84, .mov (t 4), some (83, true), [2]⟩, ⟨some 85, .mov (t 0), some (83, true), [2]⟩, ⟨some 86, .mov (t 1), some (83, true), [2]⟩, ⟨some 87, .bin .sub 3 (t 86) (.const (.int .i64 1)), some (83, true), [5, 2]⟩, ⟨some 88, .indexAddr 153 (t 85) (t 87), some (83, true), [4, 6, 2]⟩, ⟨some 89, .load 156 (t 88), some (83, true), [7, 2]⟩, ⟨some 90, .mov (t 0), some (83, true), [2]⟩, ⟨some 91, .mov (t 13), some (83, true), [2]⟩, ⟨some 92, .indexAddr 153 (t 90) (t 91), some (83, true), [9, 10, 2]⟩, ⟨some 93, .load 156 (t 92), some (83, true), [11, 2]⟩, ⟨some 94, .call 0 (t 84) [(t 89), (t 93)], some (83, true), [3, 8, 12, 2, 2]⟩, ⟨some 95, .bin .lss 3 (t 94) (.const (.int .i64 0)), some (83, true), [13, 2]⟩, ⟨some 96, .un .not (t 95), some (83, true), [14, 2]⟩, ⟨some 97, .pick (t 83) (t 96) (.const (.bool false)), none, [2, 15]⟩] true) (.cond (t 97) (.seq (.region 18 [q 98 (.mov (t 0)), q 99 (.mov (t 1)), q 100 (.mov (t 2)), q 101 (.mov (t 13)), q 102 (.mov (t 4)), q 103 (.call 1 (.func 228) [(t 98), (t 99), (t 100), (t 101), (t 102)]), q 15 (.asg 0 (t 103) 3)] false) (.seq (.region 19 [q 104 (.mov (t 15)), q 1 (.asg 0 (t 104) 3)] false) (.exit 1))) .skip)) (.seq (.region 20 [q 106 (.mov (t 0)), q 107 (.mov (t 1)), q 108 (.mov (t 2)), q 109 (.mov (t 13)), q 110 (.mov (t 4)), q 111 (.call 1 (.func 229) [(t 106), (t 107), (t 108), (t 109), (t 110)]), q 105 (.mov (t 111)), q 112 (.extract (t 105) 0), q 113 (.extract (t 105) 1), q 16 (.asg 0 (t 112) 3), q 17 (.asg 0 (t 113) 4)] false) (.seq (.region 21 [q 114 (.mov (t 17)), q 11 (.asg 0 (t 114) 4)] false) (.seq (.region 22 [q 115 (.mov (t 16)), q 116 (.mov (t 1)), q 117 (.bin .sub 3 (t 115) (t 116)), q 118 (.mov (t 2)), q 119 (.mov (t 16)), q 120 (.bin .sub 3 (t 118) (t 119)), q 18 (.asg 0 (t 117) 3), q 19 (.asg 0 (t 120) 3)] false) (.seq (.region 23 [q 121 (.mov (t 12)), q 122 (.bin .quo 3 (t 121) (.const (.int .i64 8))), q 20 (.asg 0 (t 122) 3)] false) (.seq (.region 24 [q 123 (.mov (t 18)), q 124 (.mov (t 19)), q 125 (.bin .lss 3 (t 123) (t 124))] false) (.cond (t 125) (.seq (.region 25 [q 126 (.mov (t 18)), q 127 (.mov (t 20)), q 128 (.bin .geq 3 (t 126) (t 127)), q 10 (.asg 0 (t 128) 4)] false) (.seq (.region 26 [q 129 (.mov (t 0)), q 130 (.mov (t 1)), q 131 (.mov (t 16)), q 132 (.mov (t 3)), q 133 (.mov (t 4)), q 134 (.call 1 (.func 212) [(t 129), (t 130), (t 131), (t 132), (t 133)])] false) (.region 27 [q 135 (.mov (t 16)), q 136 (.bin .add 3 (t 135) (.const (.int .i64 1))), q 1 (.asg 0 (t 136) 3)] false))) (.seq (.region 28 [q 137 (.mov (t 19)), q 138 (.mov (t 20)), q 139 (.bin .geq 3 (t 137) (t 138)), q 10 (.asg 0 (t 139) 4)] false) (.seq (.region 29 [q 140 (.mov (t 0)), q 141 (.mov (t 16)), q 142 (.bin .add 3 (t 141) (.const (.int .i64 1))), q 143 (.mov (t 2)), q 144 (.mov (t 3)), q 145 (.mov (t 4)), q 146 (.call 1 (.func 212) [(t 140), (t 142), (t 143), (t 144), (t 145)])] false) (.region 30 [q 147 (.mov (t 16)), q 2 (.asg 0 (t 147) 3)] false))))))))))))))))))))))
def slices_pdqsortCmpFunc_impl_factor_of_mut_impl_prime_factors_c1_L : Live := [(0, [0, 1, 2, 3, 4]), (1, [0, 1, 2, 3, 4, 10]), (2, [0, 1, 2, 3, 4, 10, 11]), (3, [0, 1, 2, 3, 4, 10, 11, 12]), (4, [0, 1, 2, 4]), (5, [0, 1, 2, 3, 4, 10, 11, 12]), (6, [0, 1, 2, 4]), (7, [0, 1, 2, 3, 4, 10, 11, 12]), (8, [0, 1, 2, 3, 4, 10, 11, 12]), (9, [0, 1, 2, 3, 4, 10, 11, 12]), (10, [0, 1, 2, 3, 4, 10, 11, 12]), (11, [0, 1, 2, 3, 4, 10, 11, 12, 13, 14]), (12, [0, 1, 2, 3, 4, 10, 11, 12, 13]), (13, [0, 1, 2, 3, 4, 10, 11, 12, 13]), (14, [0, 1, 2, 3, 4, 10, 11, 12, 13]), (15, [0, 1, 2, 3, 4, 10, 11, 12, 13, 14]), (16, [0, 1, 2, 3, 4, 10, 11, 12, 13]), (17, [0, 1, 2, 3, 4, 10, 11, 12, 13]), (18, [0, 1, 2, 3, 4, 10, 11, 13]), (19, [0, 2, 3, 4, 10, 11, 15]), (20, [0, 1, 2, 3, 4, 12, 13]), (21, [0, 1, 2, 3, 4, 12, 16, 17]), (22, [0, 1, 2, 3, 4, 11, 12, 16]), (23, [0, 1, 2, 3, 4, 11, 12, 16, 18, 19]), (24, [0, 1, 2, 3, 4, 11, 16, 18, 19, 20]), (25, [0, 1, 2, 3, 4, 11, 16, 18, 20]), (26, [0, 1, 2, 3, 4, 10, 11, 16]), (27, [0, 2, 3, 4, 10, 11, 16]), (28, [0, 1, 2, 3, 4, 11, 16, 19, 20]), (29, [0, 1, 2, 3, 4, 10, 11, 16]), (30, [0, 1, 3, 4, 10, 11, 16]), (100025, [0, 1, 2, 3, 4, 10, 11, 12, 25]), (100032, [0, 1, 2, 3, 4, 10, 11, 12, 32]), (100039, [0, 1, 2, 3, 4, 10, 11, 12, 39]), (100056, [0, 1, 2, 3, 4, 10, 11, 12, 13, 14, 56]), (100075, [0, 1, 2, 3, 4, 10, 11, 12, 13, 75]), (100080, [0, 1, 2, 3, 4, 10, 11, 12, 13, 80]), (100097, [0, 1, 2, 3, 4, 10, 11, 12, 13, 97]), (100125, [0, 1, 2, 3, 4, 11, 16, 18, 19, 20, 125])]
noncomputable def slices_pdqsortCmpFunc_impl_factor_of_mut_impl_prime_factors_c1_l1 (a2 : Int) (a1 : Int) (a0 : (List ((List Int) × Int))) (_u : Unit) : Option (Unit ⊕ (List ((List Int) × Int))) :=
  (if (decide ((IntKind.i64.wrap (a2 - a1)) ≤ 12)) then (Option.bind (slices_insertionSortCmpFunc_impl_factor_of_mut_impl_prime_factors_c1 a0 a1 a2) fun r9 => (ifp (r9.length = a0.length) ((some (.inr r9))))) else none)
noncomputable def slices_pdqsortCmpFunc_impl_factor_of_mut_impl_prime_factors_c1 (a0 : (List ((List Int) × Int))) (a1 : Int) (a2 : Int) (a3 : Int) : Option (List ((List Int) × Int)) :=
  (loopM (fun s : Unit => slices_pdqsortCmpFunc_impl_factor_of_mut_impl_prime_factors_c1_l1 a2 a1 a0 ()) ())
theorem slices_pdqsortCmpFunc_impl_factor_of_mut_impl_prime_factors_c1_ok (a0 : (List ((List Int) × Int))) (a1 : Int) (a2 : Int) (a3 : Int) (r : (List ((List Int) × Int))) (h : slices_pdqsortCmpFunc_impl_factor_of_mut_impl_prime_factors_c1 a0 a1 a2 a3 = some r) : Den Try.prog 212 [(.mutsl 2 (a0.map eT_Si64_i64_Z)), (i6 a1), (i6 a2), (i6 a3), (.clo 189 [] [])] { r := (.tuple []), ms := [(.row 2 (r.map eT_Si64_i64_Z))], fs := [] } := by
  refine den_ofX (rs := []) (ac := slices_pdqsortCmpFunc_impl_factor_of_mut_impl_prime_factors_c1_c) (L := slices_pdqsortCmpFunc_impl_factor_of_mut_impl_prime_factors_c1_L) (n := 148) (m := [(30, 1), (37, 1), (44, 1), (61, 1), (80, 1), (103, 1), (111, 1), (134, 1), (146, 1)]) (c := Try.f212.body.getD .skip) good Try.func212 (by kernel_rfl) (by kernel_rfl) Try.ntmps212 rfl rfl (by kernel_rfl) rfl ?_
  refine a_st (σ' := ⟨[(0, (.osl 1000000)), (1, (i6 a1)), (2, (i6 a2)), (3, (i6 a3)), (4, (.clo 189 [] []))], [(1000000, (bk (.row 2 (a0.map eT_Si64_i64_Z))))]⟩) (by kernel_rfl) ?_
  unfold slices_pdqsortCmpFunc_impl_factor_of_mut_impl_prime_factors_c1_c
  refine sr (vp (.bool true) rfl (nx ⟨[(0, (.osl 1000000)), (1, (i6 a1)), (2, (i6 a2)), (3, (i6 a3)), (4, (.clo 189 [] [])), (10, (.bool true))], [(1000000, (bk (.row 2 (a0.map eT_Si64_i64_Z))))]⟩ (by kernel_rfl) (sr (vp (.bool true) rfl (nx ⟨[(0, (.osl 1000000)), (1, (i6 a1)), (2, (i6 a2)), (3, (i6 a3)), (4, (.clo 189 [] [])), (10, (.bool true)), (11, (.bool true))], [(1000000, (bk (.row 2 (a0.map eT_Si64_i64_Z))))]⟩ (by kernel_rfl) (a_block ?_))))))
  refine a_loop (emb := fun (s : Unit) => ⟨[(0, (.osl 1000000)), (1, (i6 a1)), (2, (i6 a2)), (3, (i6 a3)), (4, (.clo 189 [] [])), (10, (.bool true)), (11, (.bool true))], [(1000000, (bk (.row 2 (a0.map eT_Si64_i64_Z))))]⟩) (body := (fun s : Unit => slices_pdqsortCmpFunc_impl_factor_of_mut_impl_prime_factors_c1_l1 a2 a1 a0 ())) (G := fun q => some q = some r) h rfl ?_ (by kernel_rfl)
  rintro X5 _ x6 h hX7
  have h : slices_pdqsortCmpFunc_impl_factor_of_mut_impl_prime_factors_c1_l1 a2 a1 a0 () = some x6 := h
  refine a_st (σ' := ⟨[(0, (.osl 1000000)), (1, (i6 a1)), (2, (i6 a2)), (3, (i6 a3)), (4, (.clo 189 [] [])), (10, (.bool true)), (11, (.bool true))], [(1000000, (bk (.row 2 (a0.map eT_Si64_i64_Z))))]⟩) (by kernel_rfl) (a_block (sr (vp (i6 a2) rfl (vp (i6 a1) rfl (vp (i6 (IntKind.i64.wrap (a2 - a1))) rfl (vp (i6 (IntKind.i64.wrap (a2 - a1))) rfl (nx ⟨[(0, (.osl 1000000)), (1, (i6 a1)), (2, (i6 a2)), (3, (i6 a3)), (4, (.clo 189 [] [])), (10, (.bool true)), (11, (.bool true)), (12, (i6 (IntKind.i64.wrap (a2 - a1))))], [(1000000, (bk (.row 2 (a0.map eT_Si64_i64_Z))))]⟩ (by kernel_rfl) (a_seq (sr ?_)))))))))
  refine vp (i6 (IntKind.i64.wrap (a2 - a1))) rfl (vp (.bool ((decide ((IntKind.i64.wrap (a2 - a1)) ≤ 12)))) rfl (nx ⟨[(0, (.osl 1000000)), (1, (i6 a1)), (2, (i6 a2)), (3, (i6 a3)), (4, (.clo 189 [] [])), (10, (.bool true)), (11, (.bool true)), (12, (i6 (IntKind.i64.wrap (a2 - a1)))), (25, (.bool ((decide ((IntKind.i64.wrap (a2 - a1)) ≤ 12)))))], [(1000000, (bk (.row 2 (a0.map eT_Si64_i64_Z))))]⟩ (by kernel_rfl) ?_))
  cases hb8 : (decide ((IntKind.i64.wrap (a2 - a1)) ≤ 12))
  · have h := ite_f hb8 h
    cases h
  · have h := ite_t hb8 h
    refine a_cond_t rfl (sr (vp (.osl 1000000) rfl (vp (i6 a1) rfl (vp (i6 a2) rfl (vp (.clo 189 [] []) rfl ?_)))))
    obtain ⟨r9, hr10, h⟩ := bind_some h
    obtain ⟨hl11, h⟩ := ifp_some h
    refine a_callM (args := [(.mutsl 2 (a0.map eT_Si64_i64_Z)), (i6 a1), (i6 a2), (.clo 189 [] [])]) (i := 0) (id := 1000000) (r := (.tuple [])) (c := (.row 2 (r9.map eT_Si64_i64_Z))) rfl rfl (slices_insertionSortCmpFunc_impl_factor_of_mut_impl_prime_factors_c1_ok a0 a1 a2 r9 hr10) rfl (shape_map hl11) (nx _ rfl (a_ret (t_ret (b_ret ?_))))
    cases h
    have h := hX7
    refine t_ret (b_ret ?_)
    refine ⟨.inr rfl, ?_⟩
    rw [Try.results212]
    cases h
    exact ⟨[], ⟨rfl, rfl, rfl⟩, rfl, ⟨_, _, rfl, rfl, rfl⟩⟩
def slices_SortFunc_impl_factor_impl_factor_of_mut_impl_prime_factors_c1_c : ACode := (.seq (.region 0 [q 5 (.mov (t 0)), q 6 (.blt 0 .len [(t 5)] [153]), q 4 (.asg 0 (t 6) 3)] false) (.region 1 [q 7 (.mov (t 0)), q 8 (.mov (t 4)), q 9 (.mov (t 4)), q 10 (.conv 3 161 (t 9)), q 11 (.call 0 (.func 185) [(t 10)]), q 12 (.mov (t 1)), q 13 (.call 1 (.func 212) [(t 7), (.const (.int .i64 0)), (t 8), (t 11), (t 12)])] false))
def slices_SortFunc_impl_factor_impl_factor_of_mut_impl_prime_factors_c1_L : Live := [(0, [0, 1]), (1, [0, 1, 4])]
noncomputable def slices_SortFunc_impl_factor_impl_factor_of_mut_impl_prime_factors_c1 (a0 : (List ((List Int) × Int))) : Option (List ((List Int) × Int)) :=
  (Option.bind (math_bits_Len (IntKind.u64.wrap (a0.length : Int))) fun r1 => (Option.bind (slices_pdqsortCmpFunc_impl_factor_of_mut_impl_prime_factors_c1 a0 0 (a0.length : Int) r1) fun r3 => (ifp (r3.length = a0.length) (some r3))))
theorem slices_SortFunc_impl_factor_impl_factor_of_mut_impl_prime_factors_c1_ok (a0 : (List ((List Int) × Int))) (r : (List ((List Int) × Int))) (h : slices_SortFunc_impl_factor_impl_factor_of_mut_impl_prime_factors_c1 a0 = some r) : Den Try.prog 188 [(.mutsl 2 (a0.map eT_Si64_i64_Z)), (.clo 189 [] [])] { r := (.tuple []), ms := [(.row 2 (r.map eT_Si64_i64_Z))], fs := [] } := by
  refine den_ofX (rs := []) (ac := slices_SortFunc_impl_factor_impl_factor_of_mut_impl_prime_factors_c1_c) (L := slices_SortFunc_impl_factor_impl_factor_of_mut_impl_prime_factors_c1_L) (n := 14) (m := [(13, 1)]) (c := Try.f188.body.getD .skip) good Try.func188 (by kernel_rfl) (by kernel_rfl) Try.ntmps188 rfl rfl (by kernel_rfl) rfl ?_
  refine a_st (σ' := ⟨[(0, (.osl 1000000)), (1, (.clo 189 [] []))], [(1000000, (bk (.row 2 (a0.map eT_Si64_i64_Z))))]⟩) (by kernel_rfl) ?_
  unfold slices_SortFunc_impl_factor_impl_factor_of_mut_impl_prime_factors_c1_c
  refine sr (vp (.osl 1000000) rfl (vq (i6 (a0.length : Int)) (leno_run rfl rfl rfl) trivial (vp (i6 (a0.length : Int)) rfl (nx ⟨[(0, (.osl 1000000)), (1, (.clo 189 [] [])), (4, (i6 (a0.length : Int)))], [(1000000, (bk (.row 2 (a0.map eT_Si64_i64_Z))))]⟩ (by kernel_rfl) (a_region (vp (.osl 1000000) rfl (vp (i6 (a0.length : Int)) rfl (vp (i6 (a0.length : Int)) rfl (vp (.int .u64 (IntKind.u64.wrap (a0.length : Int))) rfl ?_)))))))))
  obtain ⟨r1, hr2, h⟩ := bind_some h
  refine a_call (args := [(.int .u64 (IntKind.u64.wrap (a0.length : Int)))]) (u := []) (r := (i6 r1)) rfl rfl (math_bits_Len_ok (IntKind.u64.wrap (a0.length : Int)) r1 hr2) rfl (vp (.clo 189 [] []) rfl ?_)
  obtain ⟨r3, hr4, h⟩ := bind_some h
  obtain ⟨hl5, h⟩ := ifp_some h
  refine a_callM (args := [(.mutsl 2 (a0.map eT_Si64_i64_Z)), (i6 0), (i6 (a0.length : Int)), (i6 r1), (.clo 189 [] [])]) (i := 0) (id := 1000000) (r := (.tuple [])) (c := (.row 2 (r3.map eT_Si64_i64_Z))) rfl rfl (slices_pdqsortCmpFunc_impl_factor_of_mut_impl_prime_factors_c1_ok a0 0 (a0.length : Int) r1 r3 hr4) rfl (shape_map hl5) (a_nil ?_)
  refine ⟨.inl rfl, ?_⟩
  rw [Try.results188]
  cases h
  exact ⟨[], ⟨rfl, rfl, rfl⟩, rfl, ⟨_, _, rfl, rfl, rfl⟩⟩
def impl_prime_factors_c : ACode := (.seq (.region 0 [q 4 (.asg 1 (.const (.slice none 0 0)) 153)] false) (.seq (.region 1 [q 5 (.asg 2 (.const (.slice none 0 0)) 153)] false) (.seq (.seq (.region 2 [q 6 (.asg 0 (.const (.int .i64 1)) 2)] false) (.block 0 (.loop (.seq (.seq (.region 3 [q 12 (.mov (t 1)), q 13 (.call 0 (.func 69) [(t 12)]), q 14 (.bin .gtr 2 (t 13) (.const (.int .i64 0)))] false) (.cond (t 14) .skip (.exit 0))) (.seq (.block 1 (.seq (.seq (.region 5 [q 17 (.mov (t 6)), q 18 (.bin .mul 2 (.const (.int .i64 2)) (t 17)), q 19 (.mov (t 1)), q 20 (.call 0 (.func 69) [(t 19)]), q 21 (.bin .gtr 2 (t 18) (t 20))] false) (.cond (t 21) (.seq (.region 6 [q 22 (.mov (t 5)), q 23 (.mov (t 0)), q 24 (.mov (t 1)), q 25 (.mov (t 0)), q 26 (.mov (t 1)), q 27 (.call 0 (.func 85) [(t 26)]), q 28 (.call 0 (.func 151) [(t 25), (t 27)]), q 29 (.call 0 (.func 150) [(t 23), (t 24), (t 28)]), q 30 (.build 156 [(0, (t 29)), (1, (.const (.int .i64 1)))]), q 31 (.bslice 0 153 1 [(0, (t 30))]), q 32 (.blt 0 .append [(t 22), (t 31)] [153, 153]), q 5 (.asg 2 (t 32) 153)] false) (.exit 0)) .skip)) (.seq (.region 7 [q 33 (.call 0 (.func 183) []), q 7 (.asg 1 (t 33) 66)] false) (.seq (.seq (.region 8 [q 34 (.mov (t 6)), q 35 (.mov (.const (.int .i64 0)))] false) (.block 2 (.loop (.seq (.region 9 [q 36 (.bin .lss 2 (t 35) (t 34))] false) (.seq (.cond (t 36) .skip (.exit 2)) (.seq (.block 3 (.region 10 [q 37 (.mov (t 0)), q 38 (.mov (t 7)), q 39 (.mov (t 0)), q 40 (.mov (t 1)), q 41 (.call 0 (.func 115) [(t 37), (t 38), (t 39), (t 40)]), q 7 (.asg 1 (t 41) 66)] false)) (.region 11 [q 42 (.bin .add 2 (t 35) (.const (.int .i64 1))), q 35 (.mov (t 42))] false))))))) (.seq (.region 12 [q 43 (.mov (t 0)), q 44 (.mov (t 0)), q 45 (.mov (t 7)), q 46 (.call 0 (.func 183) []), q 47 (.call 0 (.func 99) [(t 44), (t 45), (t 46), (.const (.int .i64 (-1)))]), q 48 (.mov (t 1)), q 49 (.call 0 (.func 143) [(t 43), (t 47), (t 48)]), q 8 (.asg 1 (t 49) 66)] false) (.block 4 (.loop (.seq (.seq (.region 13 [q 50 (.mov (t 8)), q 51 (.call 0 (.func 69) [(t 50)]), q 52 (.bin .gtr 2 (t 51) (.const (.int .i64 0)))] false) (.cond (t 52) .skip (.exit 4))) (.block 5 (.seq (.region 14 [q 53 (.mov (t 0)), q 54 (.mov (t 8)), q 55 (.mov (t 6)), q 56 (.call 0 (.func 186) [(t 53), (t 54), (t 55)]), q 9 (.asg 1 (t 56) 66)] false) (.seq (.region 15 [q 58 (.mov (t 0)), q 59 (.mov (t 1)), q 60 (.mov (t 9)), q 61 (.call 0 (.func 187) [(t 58), (t 59), (t 60)]), q 57 (.mov (t 61)), q 62 (.extract (t 57) 0), q 63 (.extract (t 57) 1), q 10 (.asg 1 (t 62) 66), q 11 (.asg 0 (t 63) 2)] false) (.seq (.region 16 [q 64 (.mov (t 10)), q 1 (.asg 1 (t 64) 66)] false) (.seq (.region 17 [q 66 (.mov (t 0)), q 67 (.mov (t 8)), q 68 (.mov (t 9)), q 69 (.call 0 (.func 187) [(t 66), (t 67), (t 68)]), q 65 (.mov (t 69)), q 70 (.extract (t 65) 0), q 71 (.extract (t 65) 1), q 8 (.asg 1 (t 70) 66)] false) (.region 18 [q 72 (.mov (t 5)), q 73 (.mov (t 9)), q 74 (.mov (t 11)), q 75 (.build 156 [(0, (t 73)), (1, (t 74))]), q 76 (.bslice 0 153 1 [(0, (t 75))]), q 77 (.blt 0 .append [(t 72), (t 76)] [153, 153]), q 5 (.asg 2 (t 77) 153)] false)))))))))))))) (.region 4 [q 15 (.mov (t 6)), q 16 (.bin .add 2 (t 15) (.const (.int .i64 1))), q 6 (.asg 0 (t 16) 2)] false)))))) (.seq (.region 19 [q 78 (.mov (t 5)), q 79 (.call 1 (.func 188) [(t 78), (.func 189)])] false) (.seq (.region 20 [q 80 (.mov (t 5)), q 4 (.asg 1 (t 80) 153)] false) .ret)))))
def impl_prime_factors_L : Live := [(0, [0, 1]), (1, [0, 1]), (2, [0, 1, 5]), (3, [0, 1, 5, 6]), (4, [0, 1, 5, 6]), (5, [0, 1, 5, 6]), (6, [0, 1, 5]), (7, [0, 1, 5, 6]), (8, [0, 1, 5, 6, 7]), (9, [0, 1, 5, 6, 7, 34, 35]), (10, [0, 1, 5, 6, 7, 34, 35]), (11, [0, 1, 5, 6, 7, 34, 35]), (12, [0, 1, 5, 6, 7]), (13, [0, 1, 5, 6, 8]), (14, [0, 1, 5, 6, 8]), (15, [0, 1, 5, 6, 8, 9]), (16, [0, 5, 6, 8, 9, 10, 11]), (17, [0, 1, 5, 6, 8, 9, 11]), (18, [0, 1, 5, 6, 8, 9, 11]), (19, [5]), (20, [5]), (100014, [0, 1, 5, 6, 14]), (100021, [0, 1, 5, 6, 21]), (100036, [0, 1, 5, 6, 7, 34, 35, 36]), (100052, [0, 1, 5, 6, 8, 52])]
noncomputable def impl_prime_factors_l2 (x761 : Int) (a0 : Int) (x760 : (List Int)) (x1077 : (List Int)) (x1078 : Int) : Option (((List Int) × Int) ⊕ (List Int)) :=
  (if (decide (x1078 < x761)) then (Option.bind (impl_prime_power a0 x1077 a0 x760) fun r1086 => (some (.inl ((r1086, IntKind.i64.wrap (x1078 + 1)))))) else (some (.inr x1077)))
noncomputable def impl_prime_factors_l3 (a0 : Int) (x761 : Int) (x1105 : (List Int)) (x1106 : (List Int)) (x1107 : (List ((List Int) × Int))) : Option (((List Int) × (List Int) × (List ((List Int) × Int))) ⊕ (((List Int) × (List ((List Int) × Int))) ⊕ (((List Int) × Int × (List ((List Int) × Int))) ⊕ (List ((List Int) × Int))))) :=
  (Option.bind (impl_row_degree x1106) fun r1121 => (if (decide (r1121 > 0)) then (Option.bind (impl_prime_withDegree a0 x1106 x761) fun r1124 => (Option.bind (impl_prime_strip a0 x1105 r1124) fun r1126 => (Option.bind (impl_prime_strip a0 x1106 r1124) fun r1128 => (ifp ((x1107.length + ([(r1124, r1126.2)] : List ((List Int) × Int)).length) * 32 ≤ 140737488355328) ((some (.inl ((r1126.1, r1128.1, (x1107 ++ ([(r1124, r1126.2)]))))))))))) else (some (.inr (((.inl (x1105, x1107))))))))
noncomputable def impl_prime_factors_l1 (a0 : Int) (x760 : (List Int)) (x761 : Int) (x762 : (List ((List Int) × Int))) : Option (((List Int) × Int × (List ((List Int) × Int))) ⊕ (List ((List Int) × Int))) :=
  (Option.bind (impl_row_degree x760) fun r953 => (if (decide (r953 > 0)) then (Option.bind (α := (((List Int) × (List ((List Int) × Int))) ⊕ (((List Int) × Int × (List ((List Int) × Int))) ⊕ (List ((List Int) × Int))))) ((Option.bind (impl_row_degree x760) fun r1050 => (if (decide ((IntKind.i64.wrap (2 * x761)) > r1050)) then (Option.bind (impl_row_lead x760) fun r1132 => (Option.bind (impl_prime_inverse a0 r1132) fun r1134 => (Option.bind (impl_prime_scale a0 x760 r1134) fun r1136 => (ifp ((x762.length + ([(r1136, 1)] : List ((List Int) × Int)).length) * 32 ≤ 140737488355328) ((some (.inr ((.inr (((x762 ++ ([(r1136, 1)]))))))))))))) else (Option.bind (impl_letter) fun r1053 => (Option.bind (α := (List Int)) ((loopM (fun s : ((List Int) × Int) => impl_prime_factors_l2 x761 a0 x760 s.1 s.2) (r1053, 0))) fun x1070 => (Option.bind (impl_letter) fun r1089 => (Option.bind (impl_prime_combine a0 x1070 r1089 (-1)) fun r1091 => (Option.bind (impl_prime_gcd a0 r1091 x760) fun r1093 => (loopM (fun s : ((List Int) × (List Int) × (List ((List Int) × Int))) => impl_prime_factors_l3 a0 x761 s.1 s.2.1 s.2.2) (x760, r1093, x762)))))))))) fun z => match z with | .inl ⟨x1045, x1046⟩ => (some (.inl ((x1045, IntKind.i64.wrap (x761 + 1), x1046)))) | .inr r1139 => (some r1139)) else (some (.inr x762))))
noncomputable def impl_prime_factors (a0 : Int) (a1 : (List Int)) : Option (List ((List Int) × Int)) :=
  (Option.bind (α := (List ((List Int) × Int))) ((loopM (fun s : ((List Int) × Int × (List ((List Int) × Int))) => impl_prime_factors_l1 a0 s.1 s.2.1 s.2.2) (a1, 1, []))) fun x569 => (Option.bind (slices_SortFunc_impl_factor_impl_factor_of_mut_impl_prime_factors_c1 x569) fun r1141 => (ifp (r1141.length = x569.length) (some r1141))))
theorem impl_prime_factors_ok (a0 : Int) (a1 : (List Int)) (r : (List ((List Int) × Int))) (h : impl_prime_factors a0 a1 = some r) : Den Try.prog 156 [(i6 a0), (eSi64 a1)] { r := (eST_Si64_i64_Z r) } := by
  refine den_of (rs := [(eST_Si64_i64_Z r)]) (ac := impl_prime_factors_c) (L := impl_prime_factors_L) (n := 81) (m := [(1, 1), (4, 1), (5, 2), (7, 1), (8, 1), (9, 1), (10, 1), (79, 1)]) (c := Try.f156.body.getD .skip) good Try.func156 (by kernel_rfl) (by kernel_rfl) Try.ntmps156 rfl rfl (by kernel_rfl) rfl rfl ?_
  refine a_st (σ' := ⟨[(0, (i6 a0)), (1, (eSi64 a1))], []⟩) (by kernel_rfl) ?_
  unfold impl_prime_factors_c
  refine sr (vp (eST_Si64_i64_Z ([])) rfl (nx ⟨[(0, (i6 a0)), (1, (eSi64 a1))], []⟩ (by kernel_rfl) (sr (vu (.osl 1500) [(1500, (bk (.row 2 (([]).map eT_Si64_i64_Z))))] rfl trivial rfl (nx ⟨[(0, (i6 a0)), (1, (eSi64 a1)), (5, (.osl 5))], [(5, (bk (.row 2 (([]).map eT_Si64_i64_Z))))]⟩ (by kernel_rfl) ?_)))))
  obtain ⟨y570, hy571, hk572⟩ := bind_some h
  clear h
  refine a_join (emb := fun (s : (List ((List Int) × Int))) => ⟨[(5, (.osl 5))], [(5, (bk (.row 2 (s.map eT_Si64_i64_Z))))]⟩) (pre := fun s => s = y570) ?_ ?_
  · rintro x569 rfl
    have h := hk572
    refine a_st (σ' := ⟨[(5, (.osl 5))], [(5, (bk (.row 2 (x569.map eT_Si64_i64_Z))))]⟩) (by kernel_rfl) (sr (vp (.osl 5) rfl ?_))
    obtain ⟨r1141, hr1142, h⟩ := bind_some h
    obtain ⟨hl1143, h⟩ := ifp_some h
    refine a_callM (args := [(.mutsl 2 (x569.map eT_Si64_i64_Z)), (.clo 189 [] [])]) (i := 0) (id := 5) (r := (.tuple [])) (c := (.row 2 (r1141.map eT_Si64_i64_Z))) rfl rfl (slices_SortFunc_impl_factor_impl_factor_of_mut_impl_prime_factors_c1_ok x569 r1141 hr1142) rfl (shape_map hl1143) (nx ⟨[(5, (.osl 5))], [(5, (bk (.row 2 (r1141.map eT_Si64_i64_Z))))]⟩ (by kernel_rfl) (sr (vp (.osl 5) rfl (vu (eST_Si64_i64_Z r1141) [(5, (bf (.row 2 (r1141.map eT_Si64_i64_Z))))] rfl trivial rfl (nx _ rfl (a_ret ?_))))))
    refine ⟨.inr rfl, ?_⟩
    rw [Try.results156]
    cases h
    exact ⟨_, _, _, _, _, rfl, trivial, .inl ⟨rfl, .inl rfl⟩, rfl, rfl⟩
  · have h := hy571
    refine sr (vp (i6 1) rfl (nx ⟨[(0, (i6 a0)), (1, (eSi64 a1)), (5, (.osl 5)), (6, (i6 1))], [(5, (bk (.row 2 (([]).map eT_Si64_i64_Z))))]⟩ (by kernel_rfl) (a_block ?_)))
    refine a_loop (emb := fun (s : ((List Int) × Int × (List ((List Int) × Int)))) => ⟨[(0, (i6 a0)), (1, (eSi64 s.1)), (5, (.osl 5)), (6, (i6 s.2.1))], [(5, (bk (.row 2 (s.2.2.map eT_Si64_i64_Z))))]⟩) (body := (fun s : ((List Int) × Int × (List ((List Int) × Int))) => impl_prime_factors_l1 a0 s.1 s.2.1 s.2.2)) (G := fun q => some q = some y570) h rfl ?_ (by kernel_rfl)
    rintro X950 ⟨x760, x761, x762⟩ x951 h hX952
    have h : impl_prime_factors_l1 a0 x760 x761 x762 = some x951 := h
    refine a_st (σ' := ⟨[(0, (i6 a0)), (1, (eSi64 x760)), (5, (.osl 5)), (6, (i6 x761))], [(5, (bk (.row 2 (x762.map eT_Si64_i64_Z))))]⟩) (by kernel_rfl) (a_seq (sr (vp (eSi64 x760) rfl ?_)))
    obtain ⟨r953, hr954, h⟩ := bind_some h
    refine a_call (args := [(eSi64 x760)]) (u := []) (r := (i6 r953)) rfl rfl (impl_row_degree_ok x760 r953 hr954) rfl (vp (.bool ((decide (r953 > 0)))) rfl (nx ⟨[(0, (i6 a0)), (1, (eSi64 x760)), (5, (.osl 5)), (6, (i6 x761)), (14, (.bool ((decide (r953 > 0)))))], [(5, (bk (.row 2 (x762.map eT_Si64_i64_Z))))]⟩ (by kernel_rfl) ?_))
    cases hb955 : (decide (r953 > 0))
    · have h := ite_f hb955 h
      refine a_cond_f rfl (a_exit (t_exit ?_))
      cases h
      have h := hX952
      refine t_exit (b_exit ?_)
      exact j_leaf x762 (Option.some.inj h) (by kernel_rfl)
    · have h := ite_t hb955 h
      refine a_cond_t rfl (a_skip (a_next (σ' := ⟨[(0, (i6 a0)), (1, (eSi64 x760)), (5, (.osl 5)), (6, (i6 x761))], [(5, (bk (.row 2 (x762.map eT_Si64_i64_Z))))]⟩) (by kernel_rfl) ?_))
      obtain ⟨y1047, hy1048, hk1049⟩ := bind_some h
      clear h
      refine a_join (emb := fun (s : ((List Int) × (List ((List Int) × Int)))) => ⟨[(0, (i6 a0)), (1, (eSi64 s.1)), (5, (.osl 5)), (6, (i6 x761))], [(5, (bk (.row 2 (s.2.map eT_Si64_i64_Z))))]⟩) (pre := fun s => (.inl s) = y1047) ?_ ?_
      · rintro ⟨x1045, x1046⟩ rfl
        have h := hk1049
        refine a_st (σ' := ⟨[(0, (i6 a0)), (1, (eSi64 x1045)), (5, (.osl 5)), (6, (i6 x761))], [(5, (bk (.row 2 (x1046.map eT_Si64_i64_Z))))]⟩) (by kernel_rfl) (a_region (vp (i6 x761) rfl (vp (i6 (IntKind.i64.wrap (x761 + 1))) rfl (vp (i6 (IntKind.i64.wrap (x761 + 1))) rfl (a_nil ?_)))))
        cases h
        exact a_again (by kernel_rfl) hX952
      · have h := hy1048
        refine a_block (a_seq (sr (vp (i6 x761) rfl (vp (i6 (IntKind.i64.wrap (2 * x761))) rfl (vp (eSi64 x760) rfl ?_)))))
        obtain ⟨r1050, hr1051, h⟩ := bind_some h
        refine a_call (args := [(eSi64 x760)]) (u := []) (r := (i6 r1050)) rfl rfl (impl_row_degree_ok x760 r1050 hr1051) rfl (vp (.bool ((decide ((IntKind.i64.wrap (2 * x761)) > r1050)))) rfl (nx ⟨[(0, (i6 a0)), (1, (eSi64 x760)), (5, (.osl 5)), (6, (i6 x761)), (21, (.bool ((decide ((IntKind.i64.wrap (2 * x761)) > r1050)))))], [(5, (bk (.row 2 (x762.map eT_Si64_i64_Z))))]⟩ (by kernel_rfl) ?_))
        cases hb1052 : (decide ((IntKind.i64.wrap (2 * x761)) > r1050))
        · have h := ite_f hb1052 h
          refine a_cond_f rfl (a_skip (a_next (σ' := ⟨[(0, (i6 a0)), (1, (eSi64 x760)), (5, (.osl 5)), (6, (i6 x761))], [(5, (bk (.row 2 (x762.map eT_Si64_i64_Z))))]⟩) (by kernel_rfl) (sr ?_)))
          obtain ⟨r1053, hr1054, h⟩ := bind_some h
          refine a_call (args := []) (u := []) (r := (eSi64 r1053)) rfl rfl (impl_letter_ok r1053 hr1054) rfl (vp (eSi64 r1053) rfl (nx ⟨[(0, (i6 a0)), (1, (eSi64 x760)), (5, (.osl 5)), (6, (i6 x761)), (7, (eSi64 r1053))], [(5, (bk (.row 2 (x762.map eT_Si64_i64_Z))))]⟩ (by kernel_rfl) ?_))
          obtain ⟨y1071, hy1072, hk1073⟩ := bind_some h
          clear h
          refine a_join (emb := fun (s : (List Int)) => ⟨[(0, (i6 a0)), (1, (eSi64 x760)), (5, (.osl 5)), (6, (i6 x761)), (7, (eSi64 s))], [(5, (bk (.row 2 (x762.map eT_Si64_i64_Z))))]⟩) (pre := fun s => s = y1071) ?_ ?_
          · rintro x1070 rfl
            have h := hk1073
            refine a_st (σ' := ⟨[(0, (i6 a0)), (1, (eSi64 x760)), (5, (.osl 5)), (6, (i6 x761)), (7, (eSi64 x1070))], [(5, (bk (.row 2 (x762.map eT_Si64_i64_Z))))]⟩) (by kernel_rfl) (sr (vp (i6 a0) rfl (vp (i6 a0) rfl (vp (eSi64 x1070) rfl ?_))))
            obtain ⟨r1089, hr1090, h⟩ := bind_some h
            refine a_call (args := []) (u := []) (r := (eSi64 r1089)) rfl rfl (impl_letter_ok r1089 hr1090) rfl ?_
            obtain ⟨r1091, hr1092, h⟩ := bind_some h
            refine a_call (args := [(i6 a0), (eSi64 x1070), (eSi64 r1089), (i6 (-1))]) (u := []) (r := (eSi64 r1091)) rfl rfl (impl_prime_combine_ok a0 x1070 r1089 (-1) r1091 hr1092) rfl (vp (eSi64 x760) rfl ?_)
            obtain ⟨r1093, hr1094, h⟩ := bind_some h
            refine a_call (args := [(i6 a0), (eSi64 r1091), (eSi64 x760)]) (u := []) (r := (eSi64 r1093)) rfl rfl (impl_prime_gcd_ok a0 r1091 x760 r1093 hr1094) rfl (vp (eSi64 r1093) rfl (nx ⟨[(0, (i6 a0)), (1, (eSi64 x760)), (5, (.osl 5)), (6, (i6 x761)), (8, (eSi64 r1093))], [(5, (bk (.row 2 (x762.map eT_Si64_i64_Z))))]⟩ (by kernel_rfl) (a_block ?_)))
            refine a_loop (emb := fun (s : ((List Int) × (List Int) × (List ((List Int) × Int)))) => ⟨[(0, (i6 a0)), (1, (eSi64 s.1)), (5, (.osl 5)), (6, (i6 x761)), (8, (eSi64 s.2.1))], [(5, (bk (.row 2 (s.2.2.map eT_Si64_i64_Z))))]⟩) (body := (fun s : ((List Int) × (List Int) × (List ((List Int) × Int))) => impl_prime_factors_l3 a0 x761 s.1 s.2.1 s.2.2)) (G := fun q => some q = some y1047) h rfl ?_ (by kernel_rfl)
            rintro X1118 ⟨x1105, x1106, x1107⟩ x1119 h hX1120
            have h : impl_prime_factors_l3 a0 x761 x1105 x1106 x1107 = some x1119 := h
            refine a_st (σ' := ⟨[(0, (i6 a0)), (1, (eSi64 x1105)), (5, (.osl 5)), (6, (i6 x761)), (8, (eSi64 x1106))], [(5, (bk (.row 2 (x1107.map eT_Si64_i64_Z))))]⟩) (by kernel_rfl) (a_seq (sr (vp (eSi64 x1106) rfl ?_)))
            obtain ⟨r1121, hr1122, h⟩ := bind_some h
            refine a_call (args := [(eSi64 x1106)]) (u := []) (r := (i6 r1121)) rfl rfl (impl_row_degree_ok x1106 r1121 hr1122) rfl (vp (.bool ((decide (r1121 > 0)))) rfl (nx ⟨[(0, (i6 a0)), (1, (eSi64 x1105)), (5, (.osl 5)), (6, (i6 x761)), (8, (eSi64 x1106)), (52, (.bool ((decide (r1121 > 0)))))], [(5, (bk (.row 2 (x1107.map eT_Si64_i64_Z))))]⟩ (by kernel_rfl) ?_))
            cases hb1123 : (decide (r1121 > 0))
            · have h := ite_f hb1123 h
              refine a_cond_f rfl (a_exit (t_exit ?_))
              cases h
              have h := hX1120
              refine t_exit (b_exit (b_norm ?_))
              exact j_leaf (x1105, x1107) (Option.some.inj h) (by kernel_rfl)
            · have h := ite_t hb1123 h
              refine a_cond_t rfl (a_skip (a_next (σ' := ⟨[(0, (i6 a0)), (1, (eSi64 x1105)), (5, (.osl 5)), (6, (i6 x761)), (8, (eSi64 x1106))], [(5, (bk (.row 2 (x1107.map eT_Si64_i64_Z))))]⟩) (by kernel_rfl) (a_block (sr (vp (i6 a0) rfl (vp (eSi64 x1106) rfl (vp (i6 x761) rfl ?_)))))))
              obtain ⟨r1124, hr1125, h⟩ := bind_some h
              refine a_call (args := [(i6 a0), (eSi64 x1106), (i6 x761)]) (u := []) (r := (eSi64 r1124)) rfl rfl (impl_prime_withDegree_ok a0 x1106 x761 r1124 hr1125) rfl (vp (eSi64 r1124) rfl (nx ⟨[(0, (i6 a0)), (1, (eSi64 x1105)), (5, (.osl 5)), (6, (i6 x761)), (8, (eSi64 x1106)), (9, (eSi64 r1124))], [(5, (bk (.row 2 (x1107.map eT_Si64_i64_Z))))]⟩ (by kernel_rfl) (sr (vp (i6 a0) rfl (vp (eSi64 x1105) rfl (vp (eSi64 r1124) rfl ?_))))))
              obtain ⟨r1126, hr1127, h⟩ := bind_some h
              refine a_call (args := [(i6 a0), (eSi64 x1105), (eSi64 r1124)]) (u := []) (r := (.tuple [(eSi64 r1126.1), (i6 r1126.2)])) rfl rfl (impl_prime_strip_ok a0 x1105 r1124 r1126 hr1127) rfl (vp (.tuple [(eSi64 r1126.1), (i6 r1126.2)]) rfl (vb (eSi64 r1126.1) rfl rfl (vb (i6 r1126.2) rfl rfl (vp (eSi64 r1126.1) rfl (vp (i6 r1126.2) rfl (nx ⟨[(0, (i6 a0)), (5, (.osl 5)), (6, (i6 x761)), (8, (eSi64 x1106)), (9, (eSi64 r1124)), (10, (eSi64 r1126.1)), (11, (i6 r1126.2))], [(5, (bk (.row 2 (x1107.map eT_Si64_i64_Z))))]⟩ (by kernel_rfl) (sr (vp (eSi64 r1126.1) rfl (vp (eSi64 r1126.1) rfl ?_)))))))))
              refine nx ⟨[(0, (i6 a0)), (1, (eSi64 r1126.1)), (5, (.osl 5)), (6, (i6 x761)), (8, (eSi64 x1106)), (9, (eSi64 r1124)), (11, (i6 r1126.2))], [(5, (bk (.row 2 (x1107.map eT_Si64_i64_Z))))]⟩ (by kernel_rfl) (sr (vp (i6 a0) rfl (vp (eSi64 x1106) rfl (vp (eSi64 r1124) rfl ?_))))
              obtain ⟨r1128, hr1129, h⟩ := bind_some h
              refine a_call (args := [(i6 a0), (eSi64 x1106), (eSi64 r1124)]) (u := []) (r := (.tuple [(eSi64 r1128.1), (i6 r1128.2)])) rfl rfl (impl_prime_strip_ok a0 x1106 r1124 r1128 hr1129) rfl (vp (.tuple [(eSi64 r1128.1), (i6 r1128.2)]) rfl (vb (eSi64 r1128.1) rfl rfl (vb (i6 r1128.2) rfl rfl (vp (eSi64 r1128.1) rfl (nx ⟨[(0, (i6 a0)), (1, (eSi64 r1126.1)), (5, (.osl 5)), (6, (i6 x761)), (8, (eSi64 r1128.1)), (9, (eSi64 r1124)), (11, (i6 r1126.2))], [(5, (bk (.row 2 (x1107.map eT_Si64_i64_Z))))]⟩ (by kernel_rfl) (a_region (vp (.osl 5) rfl (vp (eSi64 r1124) rfl (vp (i6 r1126.2) rfl ?_)))))))))
              refine vq (eT_Si64_i64_Z (r1124, r1126.2)) rfl ⟨rfl, (all_cons ⟨(Nat.le_of_ble_eq_true rfl), rfl⟩ (all_cons ⟨(Nat.le_of_ble_eq_true rfl), rfl⟩ all_nil))⟩ (vq (.sl 2 true (([(r1124, r1126.2)]).map eT_Si64_i64_Z)) rfl ⟨(Nat.le_of_ble_eq_true rfl), (Nat.le_of_ble_eq_true rfl), (all_cons ⟨(Nat.le_of_ble_eq_true rfl), rfl⟩ all_nil)⟩ ?_)
              obtain ⟨hc1130, h⟩ := ifp_some h
              refine vu (.osl 8700) [(8700, (bk (.row 2 (((x1107 ++ ([(r1124, r1126.2)]))).map eT_Si64_i64_Z)))), (5, none)] (app_run (i := ⟨.struct [(0, 66), (1, 2)], 2, 32, (eT_Si64_i64_Z ([], (0 : Int)))⟩) (f := eT_Si64_i64_Z) (l := x1107) (l2 := [(r1124, r1126.2)]) rfl rfl rfl rfl (fun _ => rfl) rfl rfl) (app_c (f := eT_Si64_i64_Z) (s := 2) (sz := 2) (by' := 32) (u := []) (id := 5) hc1130 (.inr rfl) rfl rfl rfl) rfl (vp (.osl 8700) rfl (a_nil (b_norm ?_)))
              cases h
              exact a_again (by kernel_rfl) hX1120
          · have h := hy1072
            refine sr (vp (i6 x761) rfl (vp (i6 0) rfl (nx ⟨[(0, (i6 a0)), (1, (eSi64 x760)), (5, (.osl 5)), (6, (i6 x761)), (7, (eSi64 r1053)), (34, (i6 x761)), (35, (i6 0))], [(5, (bk (.row 2 (x762.map eT_Si64_i64_Z))))]⟩ (by kernel_rfl) (a_block ?_))))
            refine a_loop (emb := fun (s : ((List Int) × Int)) => ⟨[(0, (i6 a0)), (1, (eSi64 x760)), (5, (.osl 5)), (6, (i6 x761)), (7, (eSi64 s.1)), (34, (i6 x761)), (35, (i6 s.2))], [(5, (bk (.row 2 (x762.map eT_Si64_i64_Z))))]⟩) (body := (fun s : ((List Int) × Int) => impl_prime_factors_l2 x761 a0 x760 s.1 s.2)) (G := fun q => some q = some y1071) h rfl ?_ (by kernel_rfl)
            rintro X1082 ⟨x1077, x1078⟩ x1083 h hX1084
            have h : impl_prime_factors_l2 x761 a0 x760 x1077 x1078 = some x1083 := h
            refine a_st (σ' := ⟨[(0, (i6 a0)), (1, (eSi64 x760)), (5, (.osl 5)), (6, (i6 x761)), (7, (eSi64 x1077)), (34, (i6 x761)), (35, (i6 x1078))], [(5, (bk (.row 2 (x762.map eT_Si64_i64_Z))))]⟩) (by kernel_rfl) (sr (vp (.bool ((decide (x1078 < x761)))) rfl (nx ⟨[(0, (i6 a0)), (1, (eSi64 x760)), (5, (.osl 5)), (6, (i6 x761)), (7, (eSi64 x1077)), (34, (i6 x761)), (35, (i6 x1078)), (36, (.bool ((decide (x1078 < x761)))))], [(5, (bk (.row 2 (x762.map eT_Si64_i64_Z))))]⟩ (by kernel_rfl) (a_seq ?_))))
            cases hb1085 : (decide (x1078 < x761))
            · have h := ite_f hb1085 h
              refine a_cond_f rfl (a_exit (t_exit ?_))
              cases h
              have h := hX1084
              refine t_exit (b_exit ?_)
              exact j_leaf x1077 (Option.some.inj h) (by kernel_rfl)
            · have h := ite_t hb1085 h
              refine a_cond_t rfl (a_skip (a_next (σ' := ⟨[(0, (i6 a0)), (1, (eSi64 x760)), (5, (.osl 5)), (6, (i6 x761)), (7, (eSi64 x1077)), (34, (i6 x761)), (35, (i6 x1078))], [(5, (bk (.row 2 (x762.map eT_Si64_i64_Z))))]⟩) (by kernel_rfl) (a_seq (a_block (a_region (vp (i6 a0) rfl (vp (eSi64 x1077) rfl (vp (i6 a0) rfl (vp (eSi64 x760) rfl ?_)))))))))
              obtain ⟨r1086, hr1087, h⟩ := bind_some h
              refine a_call (args := [(i6 a0), (eSi64 x1077), (i6 a0), (eSi64 x760)]) (u := []) (r := (eSi64 r1086)) rfl rfl (impl_prime_power_ok a0 x1077 a0 x760 r1086 hr1087) rfl (vp (eSi64 r1086) rfl (a_nil (b_norm (a_next (σ' := ⟨[(0, (i6 a0)), (1, (eSi64 x760)), (5, (.osl 5)), (6, (i6 x761)), (7, (eSi64 r1086)), (34, (i6 x761)), (35, (i6 x1078))], [(5, (bk (.row 2 (x762.map eT_Si64_i64_Z))))]⟩) (by kernel_rfl) (a_region (vp (i6 (IntKind.i64.wrap (x1078 + 1))) rfl (vp (i6 (IntKind.i64.wrap (x1078 + 1))) rfl (a_nil ?_))))))))
              cases h
              exact a_again (by kernel_rfl) hX1084
        · have h := ite_t hb1052 h
          refine a_cond_t rfl (sr (vp (.osl 5) rfl (vp (i6 a0) rfl (vp (eSi64 x760) rfl (vp (i6 a0) rfl (vp (eSi64 x760) rfl ?_))))))
          obtain ⟨r1132, hr1133, h⟩ := bind_some h
          refine a_call (args := [(eSi64 x760)]) (u := []) (r := (i6 r1132)) rfl rfl (impl_row_lead_ok x760 r1132 hr1133) rfl ?_
          obtain ⟨r1134, hr1135, h⟩ := bind_some h
          refine a_call (args := [(i6 a0), (i6 r1132)]) (u := []) (r := (i6 r1134)) rfl rfl (impl_prime_inverse_ok a0 r1132 r1134 hr1135) rfl ?_
          obtain ⟨r1136, hr1137, h⟩ := bind_some h
          refine a_call (args := [(i6 a0), (eSi64 x760), (i6 r1134)]) (u := []) (r := (eSi64 r1136)) rfl rfl (impl_prime_scale_ok a0 x760 r1134 r1136 hr1137) rfl (vq (eT_Si64_i64_Z (r1136, 1)) rfl ⟨rfl, (all_cons ⟨(Nat.le_of_ble_eq_true rfl), rfl⟩ (all_cons ⟨(Nat.le_of_ble_eq_true rfl), rfl⟩ all_nil))⟩ (vq (.sl 2 true (([(r1136, 1)]).map eT_Si64_i64_Z)) rfl ⟨(Nat.le_of_ble_eq_true rfl), (Nat.le_of_ble_eq_true rfl), (all_cons ⟨(Nat.le_of_ble_eq_true rfl), rfl⟩ all_nil)⟩ ?_))
          obtain ⟨hc1138, h⟩ := ifp_some h
          refine vu (.osl 4200) [(4200, (bk (.row 2 (((x762 ++ ([(r1136, 1)]))).map eT_Si64_i64_Z)))), (5, none)] (app_run (i := ⟨.struct [(0, 66), (1, 2)], 2, 32, (eT_Si64_i64_Z ([], (0 : Int)))⟩) (f := eT_Si64_i64_Z) (l := x762) (l2 := [(r1136, 1)]) rfl rfl rfl rfl (fun _ => rfl) rfl rfl) (app_c (f := eT_Si64_i64_Z) (s := 2) (sz := 2) (by' := 32) (u := []) (id := 5) hc1138 (.inr rfl) rfl rfl rfl) rfl (vp (.osl 4200) rfl (nx _ rfl (a_exit (t_exit (b_other rfl (t_exit ?_))))))
          cases h
          have h := hk1049
          cases h
          have h := hX952
          refine t_exit (b_exit ?_)
          exact j_leaf ((x762 ++ ([(r1136, 1)]))) (Option.some.inj h) (by kernel_rfl)
def impl_prime_symbol_c : ACode := (.seq (.region 0 [q 6 (.asg 0 (.const (.int .i64 0)) 2)] false) (.seq (.region 1 [q 7 (.asg 0 (.const (.int .i64 1)) 2)] false) (.seq (.seq (.region 2 [q 12 (.mov (t 0)), q 13 (.mov (t 2)), q 14 (.call 0 (.func 156) [(t 12), (t 13)]), q 15 (.blt 0 .len [(t 14)] [153]), q 16 (.mov (.const (.int .i64 0)))] false) (.block 0 (.loop (.seq (.region 3 [q 17 (.bin .lss 3 (t 16) (t 15))] false) (.seq (.cond (t 17) .skip (.exit 0)) (.seq (.block 1 (.seq (.region 4 [q 18 (.indexAddr 153 (t 14) (t 16)), q 19 (.load 156 (t 18)), q 9 (.alloc 156), ⟨none, .store 156 (t 9) (t 19), none, []⟩] false) (.seq (.region 5 [q 20 (.mov (t 0)), q 21 (.fieldAddr 156 (t 9) 0), q 22 (.load 66 (t 21)), q 23 (.call 0 (.func 69) [(t 22)]), q 24 (.call 0 (.func 73) [(t 20), (t 23), (.const (.int .i64 1152921504606846976))]), q 10 (.asg 0 (t 24) 2)] false) (.seq (.region 6 [q 25 (.mov (t 0)), q 26 (.mov (t 1)), q 27 (.mov (t 10)), ⟨some 28, .bin .sub 2 (t 27) (.const (.int .i64 1)), none, [2]⟩, q 29 (.mov (t 0)), ⟨some 30, .bin .sub 2 (t 29) (.const (.int .i64 1)), none, [4]⟩, ⟨some 31, .bin .quo 2 (t 28) (t 30), none, [3, 5]⟩, q 32 (.fieldAddr 156 (t 9) 0), ⟨some 33, .load 66 (t 32), none, [7]⟩, ⟨some 34, .call 0 (.func 115) [(t 25), (t 26), (t 31), (t 33)], none, [0, 1, 6, 8]⟩, ⟨some 35, .call 0 (.func 149) [(t 34), (.const (.int .i64 0))], none, [9, 9]⟩, ⟨some 11, .asg 0 (t 35) 2, none, [10, 10, 0, 1, 2, 3, 4, 5, 6, 7, 8, 9, 10]⟩] true) (.seq (.region 7 [q 36 (.fieldAddr 156 (t 9) 1), q 37 (.load 2 (t 36)), q 38 (.mov (.const (.int .i64 0)))] false) (.block 2 (.loop (.seq (.region 8 [q 39 (.bin .lss 2 (t 38) (t 37))] false) (.seq (.cond (t 39) .skip (.exit 2)) (.seq (.block 3 (.region 9 [q 40 (.mov (t 7)), q 41 (.mov (t 11)), q 42 (.bin .mul 2 (t 40) (t 41)), q 43 (.mov (t 0)), q 44 (.bin .rem 2 (t 42) (t 43)), q 7 (.asg 0 (t 44) 2)] false)) (.region 10 [q 45 (.bin .add 2 (t 38) (.const (.int .i64 1))), q 38 (.mov (t 45))] false))))))))))) (.region 11 [q 46 (.bin .add 3 (t 16) (.const (.int .i64 1))), q 16 (.mov (t 46))] false))))))) (.seq (.region 12 [q 47 (.mov (t 7)), q 6 (.asg 0 (t 47) 2)] false) .ret))))
def impl_prime_symbol_L : Live := [(0, [0, 1, 2]), (1, [0, 1, 2]), (2, [0, 1, 2, 7]), (3, [0, 1, 7, 14, 15, 16]), (4, [0, 1, 7, 14, 15, 16]), (5, [0, 1, 7, 9, 14, 15, 16]), (6, [0, 1, 7, 9, 10, 14, 15, 16]), (7, [0, 1, 7, 9, 11, 14, 15, 16]), (8, [0, 1, 7, 11, 14, 15, 16, 37, 38]), (9, [0, 1, 7, 11, 14, 15, 16, 37, 38]), (10, [0, 1, 7, 11, 14, 15, 16, 37, 38]), (11, [0, 1, 7, 14, 15, 16]), (12, [7]), (100017, [0, 1, 7, 14, 15, 16, 17]), (100039, [0, 1, 7, 11, 14, 15, 16, 37, 38, 39])]
noncomputable def impl_prime_symbol_l2 (r250 : (List ((List Int) × Int))) (x332 : Int) (a0 : Int) (r479 : Int) (x484 : Int) (x485 : Int) : Option ((Int × Int) ⊕ Int) :=
  (if (decide (x485 < ((rd r250 x332.toNat).2))) then (ifp (a0 ≠ 0) ((some (.inl ((Int.tmod (IntKind.i64.wrap (x484 * r479)) a0, IntKind.i64.wrap (x485 + 1))))))) else (some (.inr x484)))
noncomputable def impl_prime_symbol_l1 (r250 : (List ((List Int) × Int))) (a0 : Int) (a1 : (List Int)) (x331 : Int) (x332 : Int) : Option ((Int × Int) ⊕ Int) :=
  (if (decide (x332 < (r250.length : Int))) then (Option.bind (α := Int) ((ifp (0 ≤ x332 ∧ x332 < ((r250.length : Nat) : Int)) ((Option.bind (impl_row_degree ((rd r250 x332.toNat).1)) fun r461 => (Option.bind (impl_prime_norm a0 r461 1152921504606846976) fun r463 => (ifp ((IntKind.i64.wrap (a0 - 1)) ≠ 0) ((letp (IntKind.i64.wrap (Int.tdiv (IntKind.i64.wrap (r463 - 1)) (IntKind.i64.wrap (a0 - 1)))) fun x474 => (Option.bind (impl_prime_power a0 a1 x474 ((rd r250 x332.toNat).1)) fun r477 => (Option.bind (impl_row_at r477 0) fun r479 => (loopM (fun s : (Int × Int) => impl_prime_symbol_l2 r250 x332 a0 r479 s.1 s.2) (x331, 0)))))))))))) fun x453 => (some (.inl ((x453, IntKind.i64.wrap (x332 + 1)))))) else (some (.inr x331)))
noncomputable def impl_prime_symbol (a0 : Int) (a1 : (List Int)) (a2 : (List Int)) : Option Int :=
  (Option.bind (α := Int) ((Option.bind (impl_prime_factors a0 a2) fun r250 => (loopM (fun s : (Int × Int) => impl_prime_symbol_l1 r250 a0 a1 s.1 s.2) (1, 0)))) fun x246 => (some x246))
theorem impl_prime_symbol_ok (a0 : Int) (a1 : (List Int)) (a2 : (List Int)) (r : Int) (h : impl_prime_symbol a0 a1 a2 = some r) : Den Try.prog 87 [(i6 a0), (eSi64 a1), (eSi64 a2)] { r := (i6 r) } := by
  refine den_of (rs := [(i6 r)]) (ac := impl_prime_symbol_c) (L := impl_prime_symbol_L) (n := 48) (m := []) (c := Try.f87.body.getD .skip) good Try.func87 (by kernel_rfl) (by kernel_rfl) Try.ntmps87 rfl rfl (by kernel_rfl) rfl rfl ?_
  refine a_st (σ' := ⟨[(0, (i6 a0)), (1, (eSi64 a1)), (2, (eSi64 a2))], []⟩) (by kernel_rfl) ?_
  unfold impl_prime_symbol_c
  refine sr (vp (i6 0) rfl (nx ⟨[(0, (i6 a0)), (1, (eSi64 a1)), (2, (eSi64 a2))], []⟩ (by kernel_rfl) (sr (vp (i6 1) rfl (nx ⟨[(0, (i6 a0)), (1, (eSi64 a1)), (2, (eSi64 a2)), (7, (i6 1))], []⟩ (by kernel_rfl) ?_)))))
  obtain ⟨y247, hy248, hk249⟩ := bind_some h
  clear h
  refine a_join (emb := fun (s : Int) => ⟨[(7, (i6 s))], []⟩) (pre := fun s => s = y247) ?_ ?_
  · rintro x246 rfl
    have h := hk249
    refine a_st (σ' := ⟨[(7, (i6 x246))], []⟩) (by kernel_rfl) (sr (vp (i6 x246) rfl (vp (i6 x246) rfl (nx _ rfl (a_ret ?_)))))
    refine ⟨.inr rfl, ?_⟩
    rw [Try.results87]
    cases h
    exact ⟨_, _, _, _, _, rfl, trivial, .inl ⟨rfl, .inl rfl⟩, rfl, rfl⟩
  · have h := hy248
    refine sr (vp (i6 a0) rfl (vp (eSi64 a2) rfl ?_))
    obtain ⟨r250, hr251, h⟩ := bind_some h
    refine a_call (args := [(i6 a0), (eSi64 a2)]) (u := []) (r := (eST_Si64_i64_Z r250)) rfl rfl (impl_prime_factors_ok a0 a2 r250 hr251) rfl (vq (i6 (r250.length : Int)) (len_run rfl rfl) trivial (vp (i6 0) rfl (nx ⟨[(0, (i6 a0)), (1, (eSi64 a1)), (7, (i6 1)), (14, (eST_Si64_i64_Z r250)), (15, (i6 (r250.length : Int))), (16, (i6 0))], []⟩ (by kernel_rfl) (a_block ?_))))
    refine a_loop (emb := fun (s : (Int × Int)) => ⟨[(0, (i6 a0)), (1, (eSi64 a1)), (7, (i6 s.1)), (14, (eST_Si64_i64_Z r250)), (15, (i6 (r250.length : Int))), (16, (i6 s.2))], []⟩) (body := (fun s : (Int × Int) => impl_prime_symbol_l1 r250 a0 a1 s.1 s.2)) (G := fun q => some q = some y247) h rfl ?_ (by kernel_rfl)
    rintro X412 ⟨x331, x332⟩ x413 h hX414
    have h : impl_prime_symbol_l1 r250 a0 a1 x331 x332 = some x413 := h
    refine a_st (σ' := ⟨[(0, (i6 a0)), (1, (eSi64 a1)), (7, (i6 x331)), (14, (eST_Si64_i64_Z r250)), (15, (i6 (r250.length : Int))), (16, (i6 x332))], []⟩) (by kernel_rfl) (sr (vp (.bool ((decide (x332 < (r250.length : Int))))) rfl (nx ⟨[(0, (i6 a0)), (1, (eSi64 a1)), (7, (i6 x331)), (14, (eST_Si64_i64_Z r250)), (15, (i6 (r250.length : Int))), (16, (i6 x332)), (17, (.bool ((decide (x332 < (r250.length : Int))))))], []⟩ (by kernel_rfl) (a_seq ?_))))
    cases hb415 : (decide (x332 < (r250.length : Int)))
    · have h := ite_f hb415 h
      refine a_cond_f rfl (a_exit (t_exit ?_))
      cases h
      have h := hX414
      refine t_exit (b_exit ?_)
      exact j_leaf x331 (Option.some.inj h) (by kernel_rfl)
    · have h := ite_t hb415 h
      refine a_cond_t rfl (a_skip (a_next (σ' := ⟨[(0, (i6 a0)), (1, (eSi64 a1)), (7, (i6 x331)), (14, (eST_Si64_i64_Z r250)), (15, (i6 (r250.length : Int))), (16, (i6 x332))], []⟩) (by kernel_rfl) ?_))
      obtain ⟨y454, hy455, hk456⟩ := bind_some h
      clear h
      refine a_join (emb := fun (s : Int) => ⟨[(0, (i6 a0)), (1, (eSi64 a1)), (7, (i6 s)), (14, (eST_Si64_i64_Z r250)), (15, (i6 (r250.length : Int))), (16, (i6 x332))], []⟩) (pre := fun s => s = y454) ?_ ?_
      · rintro x453 rfl
        have h := hk456
        refine a_st (σ' := ⟨[(0, (i6 a0)), (1, (eSi64 a1)), (7, (i6 x453)), (14, (eST_Si64_i64_Z r250)), (15, (i6 (r250.length : Int))), (16, (i6 x332))], []⟩) (by kernel_rfl) (a_region (vp (i6 (IntKind.i64.wrap (x332 + 1))) rfl (vp (i6 (IntKind.i64.wrap (x332 + 1))) rfl (a_nil ?_))))
        cases h
        exact a_again (by kernel_rfl) hX414
      · have h := hy455
        refine a_block (sr ?_)
        obtain ⟨hc457, h⟩ := ifp_some h
        refine vq (.ref (.row 2 (r250.map eT_Si64_i64_Z)) [x332.toNat] [x332.toNat * 2]) rfl (lmap hc457) ?_
        have hl458 : LdOk [x332.toNat] (.row 2 (r250.map eT_Si64_i64_Z)) [x332.toNat * 2] 2 true (eT_Si64_i64_Z (rd r250 x332.toNat)) := (.row (llt hc457) rfl (.nil rfl rfl rfl))
        refine vq (eT_Si64_i64_Z (rd r250 x332.toNat)) (ld_ref (i := ⟨.struct [(0, 66), (1, 2)], 2, 32, (eT_Si64_i64_Z ([], (0 : Int)))⟩) rfl rfl hl458) hl458.c (vo 1900 (eT_Si64_i64_Z (([], (0 : Int)))) rfl rfl (vs (eT_Si64_i64_Z (rd r250 x332.toNat)) rfl rfl (fun _ => rfl) rfl rfl rfl rfl rfl rfl (nx ⟨[(0, (i6 a0)), (1, (eSi64 a1)), (7, (i6 x331)), (9, (ow 9)), (14, (eST_Si64_i64_Z r250)), (15, (i6 (r250.length : Int))), (16, (i6 x332))], [(9, (bk (eT_Si64_i64_Z (rd r250 x332.toNat))))]⟩ (by kernel_rfl) (sr (vp (i6 a0) rfl (vb (.own 9 [0] [0]) rfl rfl ?_))))))
        have hl460 : LdOk [0] (eT_Si64_i64_Z (rd r250 x332.toNat)) [0] 1 false (eSi64 ((rd r250 x332.toNat).1)) := (.fld rfl rfl rfl rfl (.nil rfl rfl rfl))
        refine vq (eSi64 ((rd r250 x332.toNat).1)) (ld_own (i := ⟨.slice 2, 1, 24, (eSi64 [])⟩) rfl rfl rfl hl460) hl460.c ?_
        obtain ⟨r461, hr462, h⟩ := bind_some h
        refine a_call (args := [(eSi64 ((rd r250 x332.toNat).1))]) (u := []) (r := (i6 r461)) rfl rfl (impl_row_degree_ok ((rd r250 x332.toNat).1) r461 hr462) rfl ?_
        obtain ⟨r463, hr464, h⟩ := bind_some h
        refine a_call (args := [(i6 a0), (i6 r461), (i6 1152921504606846976)]) (u := []) (r := (i6 r463)) rfl rfl (impl_prime_norm_ok a0 r461 1152921504606846976 r463 hr464) rfl (vp (i6 r463) rfl (nx ⟨[(0, (i6 a0)), (1, (eSi64 a1)), (7, (i6 x331)), (9, (ow 9)), (10, (i6 r463)), (14, (eST_Si64_i64_Z r250)), (15, (i6 (r250.length : Int))), (16, (i6 x332))], [(9, (bk (eT_Si64_i64_Z (rd r250 x332.toNat))))]⟩ (by kernel_rfl) (a_seq (a_draw [⟨[], [], [], []⟩, ⟨[], [], [], []⟩, ⟨[], [], [], []⟩, ⟨[], [], [], [2]⟩, ⟨[], [], [], []⟩, ⟨[], [], [], [4]⟩, ⟨[], [], [], [2, 3, 4, 5]⟩, ⟨[9], [], [9], []⟩, ⟨[9], [], [], [7]⟩, ⟨[], [], [], [0, 1, 2, 3, 4, 5, 6, 7, 8]⟩, ⟨[], [], [], [0, 1, 2, 3, 4, 5, 6, 7, 8, 9]⟩, ⟨[], [], [], [0, 1, 2, 3, 4, 5, 6, 7, 8, 9, 10]⟩] (by kernel_rfl) (dp (i6 a0) rfl (by kernel_rfl) (dp (eSi64 a1) rfl (by kernel_rfl) (dp (i6 r463) rfl (by kernel_rfl) (dp (i6 (IntKind.i64.wrap (r463 - 1))) rfl (by kernel_rfl) (dp (i6 a0) rfl (by kernel_rfl) ?_)))))))))
        refine dp (i6 (IntKind.i64.wrap (a0 - 1))) rfl (by kernel_rfl) (d_cons ?_)
        obtain ⟨hc473, h⟩ := ifp_some h
        obtain ⟨x474, hx475, h⟩ := letp_some h
        refine a_val' (v := (i6 (IntKind.i64.wrap (Int.tdiv (IntKind.i64.wrap (r463 - 1)) (IntKind.i64.wrap (a0 - 1)))))) (v' := (i6 x474)) (u := []) (u' := []) rfl (congrArg (fun z => ((i6 z) : AV)) hx475) rfl hc473 rfl (d_next (by kernel_rfl) (d_cons (vb (.own 9 [0] [0]) rfl rfl (d_next (by kernel_rfl) (d_cons ?_)))))
        have hl476 : LdOk [0] (eT_Si64_i64_Z (rd r250 x332.toNat)) [0] 1 false (eSi64 ((rd r250 x332.toNat).1)) := (.fld rfl rfl rfl rfl (.nil rfl rfl rfl))
        refine vq (eSi64 ((rd r250 x332.toNat).1)) (ld_own (i := ⟨.slice 2, 1, 24, (eSi64 [])⟩) rfl rfl rfl hl476) hl476.c (d_next (by kernel_rfl) (d_cons ?_))
        obtain ⟨r477, hr478, h⟩ := bind_some h
        refine a_call (args := [(i6 a0), (eSi64 a1), (i6 x474), (eSi64 ((rd r250 x332.toNat).1))]) (u := []) (r := (eSi64 r477)) rfl rfl (impl_prime_power_ok a0 a1 x474 ((rd r250 x332.toNat).1) r477 hr478) rfl (d_next (by kernel_rfl) (d_cons ?_))
        obtain ⟨r479, hr480, h⟩ := bind_some h
        refine a_call (args := [(eSi64 r477), (i6 0)]) (u := []) (r := (i6 r479)) rfl rfl (impl_row_at_ok r477 0 r479 hr480) rfl (d_next (by kernel_rfl) (dp (i6 r479) rfl (by kernel_rfl) (d_nil (a_next (σ' := ⟨[(0, (i6 a0)), (1, (eSi64 a1)), (7, (i6 x331)), (9, (ow 9)), (11, (i6 r479)), (14, (eST_Si64_i64_Z r250)), (15, (i6 (r250.length : Int))), (16, (i6 x332))], [(9, (bk (eT_Si64_i64_Z (rd r250 x332.toNat))))]⟩) (by kernel_rfl) (sr (vb (.own 9 [1] [1]) rfl rfl ?_))))))
        have hl481 : LdOk [1] (eT_Si64_i64_Z (rd r250 x332.toNat)) [1] 1 false (i6 ((rd r250 x332.toNat).2)) := (.fld rfl rfl rfl rfl (.nil rfl rfl rfl))
        refine vq (i6 ((rd r250 x332.toNat).2)) (ld_own (i := ⟨.int .i64, 1, 8, (.int .i64 0)⟩) rfl rfl rfl hl481) hl481.c (vp (i6 0) rfl (nx ⟨[(0, (i6 a0)), (1, (eSi64 a1)), (7, (i6 x331)), (11, (i6 r479)), (14, (eST_Si64_i64_Z r250)), (15, (i6 (r250.length : Int))), (16, (i6 x332)), (37, (i6 ((rd r250 x332.toNat).2))), (38, (i6 0))], []⟩ (by kernel_rfl) (a_block ?_)))
        refine a_loop (emb := fun (s : (Int × Int)) => ⟨[(0, (i6 a0)), (1, (eSi64 a1)), (7, (i6 s.1)), (11, (i6 r479)), (14, (eST_Si64_i64_Z r250)), (15, (i6 (r250.length : Int))), (16, (i6 x332)), (37, (i6 ((rd r250 x332.toNat).2))), (38, (i6 s.2))], []⟩) (body := (fun s : (Int × Int) => impl_prime_symbol_l2 r250 x332 a0 r479 s.1 s.2)) (G := fun q => some q = some y454) h rfl ?_ (by kernel_rfl)
        rintro X488 ⟨x484, x485⟩ x489 h hX490
        have h : impl_prime_symbol_l2 r250 x332 a0 r479 x484 x485 = some x489 := h
        refine a_st (σ' := ⟨[(0, (i6 a0)), (1, (eSi64 a1)), (7, (i6 x484)), (11, (i6 r479)), (14, (eST_Si64_i64_Z r250)), (15, (i6 (r250.length : Int))), (16, (i6 x332)), (37, (i6 ((rd r250 x332.toNat).2))), (38, (i6 x485))], []⟩) (by kernel_rfl) (sr (vp (.bool ((decide (x485 < ((rd r250 x332.toNat).2))))) rfl (nx ⟨[(0, (i6 a0)), (1, (eSi64 a1)), (7, (i6 x484)), (11, (i6 r479)), (14, (eST_Si64_i64_Z r250)), (15, (i6 (r250.length : Int))), (16, (i6 x332)), (37, (i6 ((rd r250 x332.toNat).2))), (38, (i6 x485)), (39, (.bool ((decide (x485 < ((rd r250 x332.toNat).2))))))], []⟩ (by kernel_rfl) (a_seq ?_))))
        cases hb491 : (decide (x485 < ((rd r250 x332.toNat).2)))
        · have h := ite_f hb491 h
          refine a_cond_f rfl (a_exit (t_exit ?_))
          cases h
          have h := hX490
          refine t_exit (b_exit (b_norm ?_))
          exact j_leaf x484 (Option.some.inj h) (by kernel_rfl)
        · have h := ite_t hb491 h
          refine a_cond_t rfl (a_skip (a_next (σ' := ⟨[(0, (i6 a0)), (1, (eSi64 a1)), (7, (i6 x484)), (11, (i6 r479)), (14, (eST_Si64_i64_Z r250)), (15, (i6 (r250.length : Int))), (16, (i6 x332)), (37, (i6 ((rd r250 x332.toNat).2))), (38, (i6 x485))], []⟩) (by kernel_rfl) (a_seq (a_block (a_region (vp (i6 x484) rfl (vp (i6 r479) rfl (vp (i6 (IntKind.i64.wrap (x484 * r479))) rfl (vp (i6 a0) rfl ?_)))))))))
          obtain ⟨hc492, h⟩ := ifp_some h
          refine vq (i6 (Int.tmod (IntKind.i64.wrap (x484 * r479)) a0)) rfl hc492 (vp (i6 (Int.tmod (IntKind.i64.wrap (x484 * r479)) a0)) rfl (a_nil (b_norm (a_next (σ' := ⟨[(0, (i6 a0)), (1, (eSi64 a1)), (7, (i6 (Int.tmod (IntKind.i64.wrap (x484 * r479)) a0))), (11, (i6 r479)), (14, (eST_Si64_i64_Z r250)), (15, (i6 (r250.length : Int))), (16, (i6 x332)), (37, (i6 ((rd r250 x332.toNat).2))), (38, (i6 x485))], []⟩) (by kernel_rfl) (a_region (vp (i6 (IntKind.i64.wrap (x485 + 1))) rfl (vp (i6 (IntKind.i64.wrap (x485 + 1))) rfl (a_nil ?_))))))))
          cases h
          exact a_again (by kernel_rfl) hX490
end Go.Proofs.Ytdhcpekngpndnaa
