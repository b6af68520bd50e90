/- Functions of the program: plain Lean functions, and that the program computes them. Printed by gen.py. -/
import Derived.Test.YtdhcpekngpndnaaFnT
import Derived.Test.YtdhcpekngpndnaaFn1
import Derived.Test.YtdhcpekngpndnaaFn3
import Derived.Test.YtdhcpekngpndnaaFn4
import Derived.Test.YtdhcpekngpndnaaFn5
namespace Go.Proofs.Ytdhcpekngpndnaa
open Go.Abs Go.Proofs
set_option linter.unusedSimpArgs false
set_option linter.unusedVariables false
set_option maxHeartbeats 16000000
attribute [local irreducible] Abs.acode Abs.aops Abs.aopsT Abs.thenK Abs.blockK

def impl_fieldOf_c : ACode := (.seq (.region 0 [q 3 (.box 26 (t 1)), q 4 (.alloc 128)] false) (.seq (.region 1 [q 5 (.mov (t 0)), q 6 (.load 26 (t 3)), q 7 (.call 0 (.func 68) [(t 6)]), q 8 (.build 128 [(0, (t 5)), (1, (t 7))]), ⟨none, .store 128 (t 4) (t 8), none, []⟩] false) .ret))
def impl_fieldOf_L : Live := [(0, [0, 1]), (1, [0, 3, 4])]
noncomputable def impl_fieldOf (a0 : Int) (a1 : (Vec Int 64)) : Option (Int × (List Int)) :=
  (Option.bind (impl_rowOf a1) fun r2 => (some (a0, r2)))
theorem impl_fieldOf_ok (a0 : Int) (a1 : (Vec Int 64)) (r : (Int × (List Int))) (h : impl_fieldOf a0 a1 = some r) : Den Try.prog 166 [(i6 a0), (eA64u8 a1)] { r := (eT_i64_Si64_Z r) } := by
  refine den_of (rs := [(eT_i64_Si64_Z r)]) (ac := impl_fieldOf_c) (L := impl_fieldOf_L) (n := 9) (m := []) (c := Try.f166.body.getD .skip) good Try.func166 (by kernel_rfl) (by kernel_rfl) Try.ntmps166 rfl rfl (by kernel_rfl) rfl rfl ?_
  refine a_st (σ' := ⟨[(0, (i6 a0)), (1, (eA64u8 a1))], []⟩) (by kernel_rfl) ?_
  unfold impl_fieldOf_c
  refine sr (vo 1300 (eA64u8 a1) rfl rfl (vo 1400 (eT_i64_Si64_Z (((0 : Int), []))) rfl rfl (nx ⟨[(0, (i6 a0)), (3, (ow 3)), (4, (ow 4))], [(3, (bk (eA64u8 a1))), (4, (bk (eT_i64_Si64_Z (((0 : Int), [])))))]⟩ (by kernel_rfl) (sr (vp (i6 a0) rfl (vl (eA64u8 a1) rfl rfl rfl rfl rfl rfl ?_))))))
  obtain ⟨r2, hr3, h⟩ := bind_some h
  refine a_call (args := [(eA64u8 a1)]) (u := []) (r := (eSi64 r2)) rfl rfl (impl_rowOf_ok a1 r2 hr3) rfl (vq (eT_i64_Si64_Z (a0, r2)) rfl ⟨rfl, (all_cons ⟨(Nat.le_of_ble_eq_true rfl), rfl⟩ (all_cons ⟨(Nat.le_of_ble_eq_true rfl), rfl⟩ all_nil))⟩ (vs (eT_i64_Si64_Z (a0, r2)) rfl rfl (fun _ => rfl) rfl rfl rfl rfl rfl rfl (nx _ rfl (a_ret ?_))))
  have hl5 : LdOk [] (eT_i64_Si64_Z (a0, r2)) [] 2 true (eT_i64_Si64_Z (a0, r2)) := (.nil rfl rfl rfl)
  refine ⟨.inr rfl, ?_⟩
  rw [Try.results166]
  cases h
  exact ⟨_, _, _, _, _, ld_own (i := ⟨.struct [(0, 65), (1, 66)], 2, 32, (eT_i64_Si64_Z ((0 : Int), []))⟩) rfl rfl rfl hl5, hl5.c, .inl ⟨rfl, .inl rfl⟩, rfl, rfl⟩
def impl_field_isResidue_c : ACode := (.seq (.region 0 [q 2 (.box 128 (t 0)), q 3 (.box 26 (t 1)), q 4 (.asg 0 (.const (.bool false)) 4)] false) (.seq (.region 1 [q 5 (.fieldAddr 128 (t 2) 0), ⟨some 6, .load 65 (t 5), none, [0]⟩, q 7 (.load 26 (t 3)), ⟨some 8, .call 0 (.func 139) [(t 6), (t 7)], none, [1, 2]⟩, ⟨some 9, .mov (t 8), none, [3, 3]⟩, ⟨some 10, .load 26 (t 3), some (9, true), [4]⟩, ⟨some 11, .call 0 (.func 68) [(t 10)], some (9, true), [5, 4, 4]⟩, ⟨some 12, .call 0 (.func 69) [(t 11)], some (9, true), [6, 6, 4]⟩, ⟨some 13, .fieldAddr 128 (t 2) 1, some (9, true), [4]⟩, ⟨some 14, .load 66 (t 13), some (9, true), [8, 4]⟩, ⟨some 15, .call 0 (.func 69) [(t 14)], some (9, true), [9, 7, 4]⟩, ⟨some 16, .bin .lss 2 (t 12) (t 15), some (9, true), [7, 10, 4]⟩, ⟨some 17, .pick (t 9) (t 16) (.const (.bool false)), none, [4, 11]⟩, ⟨some 4, .asg 0 (t 17) 4, none, [12, 10, 0, 1, 2, 3, 4, 5, 6, 7, 8, 9, 10, 11, 12]⟩] true) .ret))
def impl_field_isResidue_L : Live := [(0, [0, 1]), (1, [2, 3])]
noncomputable def impl_field_isResidue (a0 : (Int × (List Int))) (a1 : (Vec Int 64)) : Option Bool :=
  (Option.bind (impl_isPoly a0.1 a1) fun r16 => (if r16 then (Option.bind (impl_rowOf a1) fun r20 => (Option.bind (impl_row_degree r20) fun r22 => (Option.bind (impl_row_degree a0.2) fun r25 => (some ((decide (r22 < r25))))))) else (some false)))
theorem impl_field_isResidue_ok (a0 : (Int × (List Int))) (a1 : (Vec Int 64)) (r : Bool) (h : impl_field_isResidue a0 a1 = some r) : Den Try.prog 193 [(eT_i64_Si64_Z a0), (eA64u8 a1)] { r := (.bool r) } := by
  refine den_of (rs := [(.bool r)]) (ac := impl_field_isResidue_c) (L := impl_field_isResidue_L) (n := 18) (m := []) (c := Try.f193.body.getD .skip) good Try.func193 (by kernel_rfl) (by kernel_rfl) Try.ntmps193 rfl rfl (by kernel_rfl) rfl rfl ?_
  refine a_st (σ' := ⟨[(0, (eT_i64_Si64_Z a0)), (1, (eA64u8 a1))], []⟩) (by kernel_rfl) ?_
  unfold impl_field_isResidue_c
  refine sr (vo 1200 (eT_i64_Si64_Z a0) rfl rfl (vo 1300 (eA64u8 a1) rfl rfl (vp (.bool false) rfl (nx ⟨[(2, (ow 2)), (3, (ow 3))], [(2, (bk (eT_i64_Si64_Z a0))), (3, (bk (eA64u8 a1)))]⟩ (by kernel_rfl) (a_seq (a_draw [⟨[2], [], [2], []⟩, ⟨[2], [], [], [0]⟩, ⟨[3], [], [], []⟩, ⟨[], [], [], [0, 1, 2]⟩, ⟨[], [], [], [0, 1, 2, 3]⟩, ⟨[3], [], [], [0, 1, 2, 3, 4]⟩, ⟨[], [], [], [0, 1, 2, 3, 4, 5]⟩, ⟨[], [], [], [0, 1, 2, 3, 4, 5, 6]⟩, ⟨[2], [], [2], [0, 1, 2, 3, 4]⟩, ⟨[2], [], [], [0, 1, 2, 3, 4, 8]⟩, ⟨[], [], [], [0, 1, 2, 3, 4, 5, 6, 7, 8, 9]⟩, ⟨[], [], [], [0, 1, 2, 3, 4, 5, 6, 7, 8, 9, 10]⟩, ⟨[], [], [], [0, 1, 2, 3, 4, 5, 6, 7, 8, 9, 10, 11]⟩, ⟨[], [], [], [0, 1, 2, 3, 4, 5, 6, 7, 8, 9, 10, 11, 12]⟩] (by kernel_rfl) (d_cons (vb (.own 2 [0] [0]) rfl rfl (d_next (by kernel_rfl) ?_)))))))))
  refine d_cons ?_
  have hl14 : LdOk [0] (eT_i64_Si64_Z a0) [0] 1 false (i6 a0.1) := (.fld rfl rfl rfl rfl (.nil rfl rfl rfl))
  refine vq (i6 a0.1) (ld_own (i := ⟨.int .i64, 1, 8, (.int .i64 0)⟩) rfl rfl rfl hl14) hl14.c (d_next (by kernel_rfl) (d_cons (vl (eA64u8 a1) rfl rfl rfl rfl rfl rfl (d_next (by kernel_rfl) (d_cons ?_)))))
  obtain ⟨r16, hr17, h⟩ := bind_some h
  refine a_call (args := [(i6 a0.1), (eA64u8 a1)]) (u := []) (r := (.bool r16)) rfl rfl (impl_isPoly_ok a0.1 a1 r16 hr17) rfl (d_next (by kernel_rfl) (dp (.bool r16) rfl (by kernel_rfl) ?_))
  cases hb18 : r16
  · have h := ite_f hb18 h
    refine dk rfl (by kernel_rfl) (dk rfl (by kernel_rfl) (dk rfl (by kernel_rfl) (dk rfl (by kernel_rfl) (dk rfl (by kernel_rfl) (dk rfl (by kernel_rfl) (dk rfl (by kernel_rfl) (dp (.bool false) rfl (by kernel_rfl) (dp (.bool false) rfl (by kernel_rfl) (d_nil ?_)))))))))
    refine a_next rfl (a_ret ?_)
    refine ⟨.inr rfl, ?_⟩
    rw [Try.results193]
    cases h
    exact ⟨_, _, _, _, _, rfl, trivial, .inl ⟨rfl, .inl rfl⟩, rfl, rfl⟩
  · have h := ite_t hb18 h
    refine d_cons ?_
    have hl19 : LdOk [] (eA64u8 a1) [] 64 true (eA64u8 a1) := (.nil rfl rfl rfl)
    refine gq (eA64u8 a1) rfl (ld_own (i := ⟨.arr 64 5, 64, 64, (eA64u8 (vrep 64 (0 : Int)))⟩) rfl rfl rfl hl19) hl19.c (d_next (by kernel_rfl) (d_cons ?_))
    obtain ⟨r20, hr21, h⟩ := bind_some h
    refine a_gcall rfl (args := [(eA64u8 a1)]) (u := []) (r := (eSi64 r20)) rfl rfl (impl_rowOf_ok a1 r20 hr21) rfl (d_next (by kernel_rfl) (d_cons ?_))
    obtain ⟨r22, hr23, h⟩ := bind_some h
    refine a_gcall rfl (args := [(eSi64 r20)]) (u := []) (r := (i6 r22)) rfl rfl (impl_row_degree_ok r20 r22 hr23) rfl (d_next (by kernel_rfl) (d_cons (gq (.own 2 [1] [1]) rfl rfl (Nat.le_of_ble_eq_true rfl) (d_next (by kernel_rfl) (d_cons ?_)))))
    have hl24 : LdOk [1] (eT_i64_Si64_Z a0) [1] 1 false (eSi64 a0.2) := (.fld rfl rfl rfl rfl (.nil rfl rfl rfl))
    refine gq (eSi64 a0.2) rfl (ld_own (i := ⟨.slice 2, 1, 24, (eSi64 [])⟩) rfl rfl rfl hl24) hl24.c (d_next (by kernel_rfl) (d_cons ?_))
    obtain ⟨r25, hr26, h⟩ := bind_some h
    refine a_gcall rfl (args := [(eSi64 a0.2)]) (u := []) (r := (i6 r25)) rfl rfl (impl_row_degree_ok a0.2 r25 hr26) rfl (d_next (by kernel_rfl) (dg (.bool ((decide (r22 < r25)))) rfl rfl (by kernel_rfl) (dp (.bool ((decide (r22 < r25)))) rfl (by kernel_rfl) (dp (.bool ((decide (r22 < r25)))) rfl (by kernel_rfl) (d_nil (a_next rfl (a_ret ?_)))))))
    refine ⟨.inr rfl, ?_⟩
    rw [Try.results193]
    cases h
    exact ⟨_, _, _, _, _, rfl, trivial, .inl ⟨rfl, .inl rfl⟩, rfl, rfl⟩
def impl_IsDrinfeld_c : ACode := (.seq (.region 0 [q 1 (.box 58 (t 0)), q 2 (.asg 0 (.const (.bool false)) 4)] false) (.seq (.seq (.region 1 [q 4 (.fieldAddr 58 (t 1) 0), q 5 (.load 2 (t 4)), q 6 (.fieldAddr 58 (t 1) 1), q 7 (.load 26 (t 6)), q 8 (.call 0 (.func 192) [(t 5), (t 7)]), q 9 (.un .not (t 8))] false) (.cond (t 9) (.seq (.region 2 [q 2 (.asg 0 (.const (.bool false)) 4)] false) .ret) .skip)) (.seq (.region 3 [q 10 (.fieldAddr 58 (t 1) 0), q 11 (.load 2 (t 10)), q 12 (.fieldAddr 58 (t 1) 1), q 13 (.load 26 (t 12)), q 14 (.call 0 (.func 166) [(t 11), (t 13)]), q 3 (.alloc 128), ⟨none, .store 128 (t 3) (t 14), none, []⟩] false) (.seq (.region 4 [q 15 (.load 128 (t 3)), q 16 (.fieldAddr 58 (t 1) 2), q 17 (.load 26 (t 16)), q 18 (.call 0 (.func 193) [(t 15), (t 17)]), q 19 (.mov (t 18)), ⟨some 20, .load 128 (t 3), some (19, true), []⟩, ⟨some 21, .fieldAddr 58 (t 1) 3, some (19, true), []⟩, ⟨some 22, .load 26 (t 21), some (19, true), []⟩, ⟨some 23, .call 0 (.func 193) [(t 20), (t 22)], some (19, true), []⟩, q 24 (.pick (t 19) (t 23) (.const (.bool false))), q 25 (.mov (t 24)), ⟨some 26, .fieldAddr 58 (t 1) 3, some (25, true), []⟩, ⟨some 27, .load 26 (t 26), some (25, true), []⟩, ⟨some 28, .build 26 [], some (25, true), []⟩, ⟨some 29, .bin .neq 26 (t 27) (t 28), some (25, true), []⟩, q 30 (.pick (t 25) (t 29) (.const (.bool false))), q 2 (.asg 0 (t 30) 4)] false) .ret))))
def impl_IsDrinfeld_L : Live := [(0, [0]), (1, [1]), (2, []), (3, [1]), (4, [1, 3]), (100009, [1, 9])]
noncomputable def impl_IsDrinfeld (a0 : (Int × (Vec Int 64) × (Vec Int 64) × (Vec Int 64))) : Option Bool :=
  (Option.bind (impl_isField a0.1 a0.2.1) fun r3 => (if (!r3) then (some false) else (Option.bind (impl_fieldOf a0.1 a0.2.1) fun r8 => (Option.bind (impl_field_isResidue r8 a0.2.2.1) fun r13 => (if r13 then (Option.bind (impl_field_isResidue r8 a0.2.2.2) fun r18 => (if r18 then (some ((!decide (a0.2.2.2 = ((vrep 64 (0 : Int))))))) else (some false))) else (some false))))))
theorem impl_IsDrinfeld_ok (a0 : (Int × (Vec Int 64) × (Vec Int 64) × (Vec Int 64))) (r : Bool) (h : impl_IsDrinfeld a0 = some r) : Den Try.prog 164 [(eT_i64_A64u8_A64u8_A64u8_Z a0)] { r := (.bool r) } := by
  refine den_of (rs := [(.bool r)]) (ac := impl_IsDrinfeld_c) (L := impl_IsDrinfeld_L) (n := 31) (m := []) (c := Try.f164.body.getD .skip) good Try.func164 (by kernel_rfl) (by kernel_rfl) Try.ntmps164 rfl rfl (by kernel_rfl) rfl rfl ?_
  refine a_st (σ' := ⟨[(0, (eT_i64_A64u8_A64u8_A64u8_Z a0))], []⟩) (by kernel_rfl) ?_
  unfold impl_IsDrinfeld_c
  refine sr (vo 1100 (eT_i64_A64u8_A64u8_A64u8_Z a0) rfl rfl (vp (.bool false) rfl (nx ⟨[(1, (ow 1))], [(1, (bk (eT_i64_A64u8_A64u8_A64u8_Z a0)))]⟩ (by kernel_rfl) (a_seq (sr (vb (.own 1 [0] [0]) rfl rfl ?_))))))
  have hl1 : LdOk [0] (eT_i64_A64u8_A64u8_A64u8_Z a0) [0] 1 false (i6 a0.1) := (.fld rfl rfl rfl rfl (.nil rfl rfl rfl))
  refine vq (i6 a0.1) (ld_own (i := ⟨.int .i64, 1, 8, (.int .i64 0)⟩) rfl rfl rfl hl1) hl1.c (vb (.own 1 [1] [1]) rfl rfl ?_)
  have hl2 : LdOk [1] (eT_i64_A64u8_A64u8_A64u8_Z a0) [1] 64 true (eA64u8 a0.2.1) := (.fld rfl rfl rfl rfl (.nil rfl rfl rfl))
  refine vq (eA64u8 a0.2.1) (ld_own (i := ⟨.arr 64 5, 64, 64, (eA64u8 (vrep 64 (0 : Int)))⟩) rfl rfl rfl hl2) hl2.c ?_
  obtain ⟨r3, hr4, h⟩ := bind_some h
  refine a_call (args := [(i6 a0.1), (eA64u8 a0.2.1)]) (u := []) (r := (.bool r3)) rfl rfl (impl_isField_ok a0.1 a0.2.1 r3 hr4) rfl (vp (.bool (!r3)) rfl (nx ⟨[(1, (ow 1)), (9, (.bool (!r3)))], [(1, (bk (eT_i64_A64u8_A64u8_A64u8_Z a0)))]⟩ (by kernel_rfl) ?_))
  cases hb5 : (!r3)
  · have h := ite_f hb5 h
    refine a_cond_f rfl (a_skip (a_next (σ' := ⟨[(1, (ow 1))], [(1, (bk (eT_i64_A64u8_A64u8_A64u8_Z a0)))]⟩) (by kernel_rfl) (sr (vb (.own 1 [0] [0]) rfl rfl ?_))))
    have hl6 : LdOk [0] (eT_i64_A64u8_A64u8_A64u8_Z a0) [0] 1 false (i6 a0.1) := (.fld rfl rfl rfl rfl (.nil rfl rfl rfl))
    refine vq (i6 a0.1) (ld_own (i := ⟨.int .i64, 1, 8, (.int .i64 0)⟩) rfl rfl rfl hl6) hl6.c (vb (.own 1 [1] [1]) rfl rfl ?_)
    have hl7 : LdOk [1] (eT_i64_A64u8_A64u8_A64u8_Z a0) [1] 64 true (eA64u8 a0.2.1) := (.fld rfl rfl rfl rfl (.nil rfl rfl rfl))
    refine vq (eA64u8 a0.2.1) (ld_own (i := ⟨.arr 64 5, 64, 64, (eA64u8 (vrep 64 (0 : Int)))⟩) rfl rfl rfl hl7) hl7.c ?_
    obtain ⟨r8, hr9, h⟩ := bind_some h
    refine a_call (args := [(i6 a0.1), (eA64u8 a0.2.1)]) (u := []) (r := (eT_i64_Si64_Z r8)) rfl rfl (impl_fieldOf_ok a0.1 a0.2.1 r8 hr9) rfl (vo 1300 (eT_i64_Si64_Z (((0 : Int), []))) rfl rfl (vs (eT_i64_Si64_Z r8) rfl rfl (fun _ => rfl) rfl rfl rfl rfl rfl rfl (nx ⟨[(1, (ow 1)), (3, (ow 3))], [(1, (bk (eT_i64_A64u8_A64u8_A64u8_Z a0))), (3, (bk (eT_i64_Si64_Z r8)))]⟩ (by kernel_rfl) (sr (vl (eT_i64_Si64_Z r8) rfl rfl rfl rfl rfl rfl (vb (.own 1 [2] [65]) rfl rfl ?_))))))
    have hl12 : LdOk [2] (eT_i64_A64u8_A64u8_A64u8_Z a0) [65] 64 true (eA64u8 a0.2.2.1) := (.fld rfl rfl rfl rfl (.nil rfl rfl rfl))
    refine vq (eA64u8 a0.2.2.1) (ld_own (i := ⟨.arr 64 5, 64, 64, (eA64u8 (vrep 64 (0 : Int)))⟩) rfl rfl rfl hl12) hl12.c ?_
    obtain ⟨r13, hr14, h⟩ := bind_some h
    refine a_call (args := [(eT_i64_Si64_Z r8), (eA64u8 a0.2.2.1)]) (u := []) (r := (.bool r13)) rfl rfl (impl_field_isResidue_ok r8 a0.2.2.1 r13 hr14) rfl (vp (.bool r13) rfl ?_)
    cases hb15 : r13
    · have h := ite_f hb15 h
      refine a_gskip rfl (a_gskip rfl (a_gskip rfl (a_gskip rfl (vp (.bool false) rfl (vp (.bool false) rfl (a_gskip rfl (a_gskip rfl (a_gskip rfl (a_gskip rfl ?_)))))))))
      refine vp (.bool false) rfl (vp (.bool false) rfl (nx _ rfl (a_ret ?_)))
      refine ⟨.inr rfl, ?_⟩
      rw [Try.results164]
      cases h
      exact ⟨_, _, _, _, _, rfl, trivial, .inl ⟨rfl, .inl rfl⟩, rfl, rfl⟩
    · have h := ite_t hb15 h
      have hl16 : LdOk [] (eT_i64_Si64_Z r8) [] 2 true (eT_i64_Si64_Z r8) := (.nil rfl rfl rfl)
      refine gq (eT_i64_Si64_Z r8) rfl (ld_own (i := ⟨.struct [(0, 65), (1, 66)], 2, 32, (eT_i64_Si64_Z ((0 : Int), []))⟩) rfl rfl rfl hl16) hl16.c (gq (.own 1 [3] [129]) rfl rfl (Nat.le_of_ble_eq_true rfl) ?_)
      have hl17 : LdOk [3] (eT_i64_A64u8_A64u8_A64u8_Z a0) [129] 64 true (eA64u8 a0.2.2.2) := (.fld rfl rfl rfl rfl (.nil rfl rfl rfl))
      refine gq (eA64u8 a0.2.2.2) rfl (ld_own (i := ⟨.arr 64 5, 64, 64, (eA64u8 (vrep 64 (0 : Int)))⟩) rfl rfl rfl hl17) hl17.c ?_
      obtain ⟨r18, hr19, h⟩ := bind_some h
      refine a_gcall rfl (args := [(eT_i64_Si64_Z r8), (eA64u8 a0.2.2.2)]) (u := []) (r := (.bool r18)) rfl rfl (impl_field_isResidue_ok r8 a0.2.2.2 r18 hr19) rfl (vp (.bool r18) rfl (vp (.bool r18) rfl ?_))
      cases hb20 : r18
      · have h := ite_f hb20 h
        refine a_gskip rfl (a_gskip rfl (a_gskip rfl (a_gskip rfl (vp (.bool false) rfl (vp (.bool false) rfl (nx _ rfl (a_ret ?_)))))))
        refine ⟨.inr rfl, ?_⟩
        rw [Try.results164]
        cases h
        exact ⟨_, _, _, _, _, rfl, trivial, .inl ⟨rfl, .inl rfl⟩, rfl, rfl⟩
      · have h := ite_t hb20 h
        refine gq (.own 1 [3] [129]) rfl rfl (Nat.le_of_ble_eq_true rfl) ?_
        have hl21 : LdOk [3] (eT_i64_A64u8_A64u8_A64u8_Z a0) [129] 64 true (eA64u8 a0.2.2.2) := (.fld rfl rfl rfl rfl (.nil rfl rfl rfl))
        refine gq (eA64u8 a0.2.2.2) rfl (ld_own (i := ⟨.arr 64 5, 64, 64, (eA64u8 (vrep 64 (0 : Int)))⟩) rfl rfl rfl hl21) hl21.c (gq (eA64u8 ((vrep 64 (0 : Int)))) rfl rfl ⟨⟨_, rfl, rfl⟩, all_nil⟩ (gq (.bool ((!decide (a0.2.2.2 = ((vrep 64 (0 : Int))))))) rfl (nea_run (f := (AV.int .u8)) (a := a0.2.2.2.1) (b := ((vrep 64 (0 : Int))).1) rfl rfl (eqb_vec (fun _ _ => eqb_int _ _) a0.2.2.2 ((vrep 64 (0 : Int))))) (cmp_arr (g := 8) (f := (AV.int .u8)) (x := a0.2.2.2) (y := ((vrep 64 (0 : Int)))) rfl rfl rfl (fun _ _ => rfl) (fun _ _ => cmp_int rfl)) (vp (.bool ((!decide (a0.2.2.2 = ((vrep 64 (0 : Int))))))) rfl (vp (.bool ((!decide (a0.2.2.2 = ((vrep 64 (0 : Int))))))) rfl (nx _ rfl (a_ret ?_))))))
        refine ⟨.inr rfl, ?_⟩
        rw [Try.results164]
        cases h
        exact ⟨_, _, _, _, _, rfl, trivial, .inl ⟨rfl, .inl rfl⟩, rfl, rfl⟩
  · have h := ite_t hb5 h
    refine a_cond_t rfl (sr (vp (.bool false) rfl (nx _ rfl (a_ret (t_ret ?_)))))
    refine ⟨.inr rfl, ?_⟩
    rw [Try.results164]
    cases h
    exact ⟨_, _, _, _, _, rfl, trivial, .inl ⟨rfl, .inl rfl⟩, rfl, rfl⟩
def impl_drinfeldCode_c1_of_p_c : ACode := (.seq (.region 0 [q 2 (.box 26 (t 0)), q 3 (.asg 0 (.const (.bool false)) 4)] false) (.seq (.region 1 [q 4 (.fieldAddr 58 (t 1) 0), q 5 (.load 2 (t 4)), q 6 (.load 26 (t 2)), q 7 (.call 0 (.func 139) [(t 5), (t 6)]), q 3 (.asg 0 (t 7) 4)] false) .ret))
def impl_drinfeldCode_c1_of_p_L : Live := [(0, [0, 1]), (1, [1, 2])]
noncomputable def impl_drinfeldCode_c1_of_p (a0 : (Vec Int 64)) (a1 : (Int × (Vec Int 64) × (Vec Int 64) × (Vec Int 64))) : Option Bool :=
  (Option.bind (impl_isPoly a1.1 a0) fun r3 => (some r3))
theorem impl_drinfeldCode_c1_of_p_ok (a0 : (Vec Int 64)) (a1 : (Int × (Vec Int 64) × (Vec Int 64) × (Vec Int 64))) (r : Bool) (h : impl_drinfeldCode_c1_of_p a0 a1 = some r) : Den Try.prog 165 [(eA64u8 a0), (.ref (eT_i64_A64u8_A64u8_A64u8_Z a1) [] [])] { r := (.bool r) } := by
  refine den_of (rs := [(.bool r)]) (ac := impl_drinfeldCode_c1_of_p_c) (L := impl_drinfeldCode_c1_of_p_L) (n := 8) (m := []) (c := Try.f165.body.getD .skip) good Try.func165 (by kernel_rfl) (by kernel_rfl) Try.ntmps165 rfl rfl (by kernel_rfl) rfl rfl ?_
  refine a_st (σ' := ⟨[(0, (eA64u8 a0)), (1, (.ref (eT_i64_A64u8_A64u8_A64u8_Z a1) [] []))], []⟩) (by kernel_rfl) ?_
  unfold impl_drinfeldCode_c1_of_p_c
  refine sr (vo 1200 (eA64u8 a0) rfl rfl (vp (.bool false) rfl (nx ⟨[(1, (.ref (eT_i64_A64u8_A64u8_A64u8_Z a1) [] [])), (2, (ow 2))], [(2, (bk (eA64u8 a0)))]⟩ (by kernel_rfl) (sr (vb (.ref (eT_i64_A64u8_A64u8_A64u8_Z a1) [0] [0]) rfl rfl ?_)))))
  have hl1 : LdOk [0] (eT_i64_A64u8_A64u8_A64u8_Z a1) [0] 1 false (i6 a1.1) := (.fld rfl rfl rfl rfl (.nil rfl rfl rfl))
  refine vq (i6 a1.1) (ld_ref (i := ⟨.int .i64, 1, 8, (.int .i64 0)⟩) rfl rfl hl1) hl1.c (vl (eA64u8 a0) rfl rfl rfl rfl rfl rfl ?_)
  obtain ⟨r3, hr4, h⟩ := bind_some h
  refine a_call (args := [(i6 a1.1), (eA64u8 a0)]) (u := []) (r := (.bool r3)) rfl rfl (impl_isPoly_ok a1.1 a0 r3 hr4) rfl (vp (.bool r3) rfl (nx _ rfl (a_ret ?_)))
  refine ⟨.inr rfl, ?_⟩
  rw [Try.results165]
  cases h
  exact ⟨_, _, _, _, _, rfl, trivial, .inl ⟨rfl, .inl rfl⟩, rfl, rfl⟩
def impl_areAll_impl_Poly__c1_of_p_drinfeldCode_c1_c : ACode := (.seq (.region 0 [q 2 (.box 26 (t 0)), q 3 (.asg 0 (.const (.bool false)) 4)] false) (.seq (.region 1 [q 4 (.load 103 (t 1)), q 5 (.load 26 (t 2)), q 6 (.call 0 (t 4) [(t 5)]), q 7 (.un .not (t 6)), q 3 (.asg 0 (t 7) 4)] false) .ret))
def impl_areAll_impl_Poly__c1_of_p_drinfeldCode_c1_L : Live := [(0, [0, 1]), (1, [1, 2])]
noncomputable def impl_areAll_impl_Poly__c1_of_p_drinfeldCode_c1 (a0 : (Vec Int 64)) (a1c0 : (Int × (Vec Int 64) × (Vec Int 64) × (Vec Int 64))) : Option Bool :=
  (Option.bind (impl_drinfeldCode_c1_of_p a0 a1c0) fun r3 => (some (!r3)))
theorem impl_areAll_impl_Poly__c1_of_p_drinfeldCode_c1_ok (a0 : (Vec Int 64)) (a1c0 : (Int × (Vec Int 64) × (Vec Int 64) × (Vec Int 64))) (r : Bool) (h : impl_areAll_impl_Poly__c1_of_p_drinfeldCode_c1 a0 a1c0 = some r) : Den Try.prog 177 [(eA64u8 a0), (.ref (.clo 165 [] [(.ref (eT_i64_A64u8_A64u8_A64u8_Z a1c0) [] [])]) [] [])] { r := (.bool r) } := by
  refine den_of (rs := [(.bool r)]) (ac := impl_areAll_impl_Poly__c1_of_p_drinfeldCode_c1_c) (L := impl_areAll_impl_Poly__c1_of_p_drinfeldCode_c1_L) (n := 8) (m := []) (c := Try.f177.body.getD .skip) good Try.func177 (by kernel_rfl) (by kernel_rfl) Try.ntmps177 rfl rfl (by kernel_rfl) rfl rfl ?_
  refine a_st (σ' := ⟨[(0, (eA64u8 a0)), (1, (.ref (.clo 165 [] [(.ref (eT_i64_A64u8_A64u8_A64u8_Z a1c0) [] [])]) [] []))], []⟩) (by kernel_rfl) ?_
  unfold impl_areAll_impl_Poly__c1_of_p_drinfeldCode_c1_c
  refine sr (vo 1200 (eA64u8 a0) rfl rfl (vp (.bool false) rfl (nx ⟨[(1, (.ref (.clo 165 [] [(.ref (eT_i64_A64u8_A64u8_A64u8_Z a1c0) [] [])]) [] [])), (2, (ow 2))], [(2, (bk (eA64u8 a0)))]⟩ (by kernel_rfl) (sr ?_))))
  have hl1 : LdOk [] (.clo 165 [] [(.ref (eT_i64_A64u8_A64u8_A64u8_Z a1c0) [] [])]) [] 1 false (.clo 165 [] [(.ref (eT_i64_A64u8_A64u8_A64u8_Z a1c0) [] [])]) := (.nil rfl rfl rfl)
  refine vq (.clo 165 [] [(.ref (eT_i64_A64u8_A64u8_A64u8_Z a1c0) [] [])]) (ld_ref (i := ⟨.other, 1, 8, (.raw .nilFunc)⟩) rfl rfl hl1) hl1.c (vl (eA64u8 a0) rfl rfl rfl rfl rfl rfl ?_)
  obtain ⟨r3, hr4, h⟩ := bind_some h
  refine a_call (args := [(eA64u8 a0), (.ref (eT_i64_A64u8_A64u8_A64u8_Z a1c0) [] [])]) (u := []) (r := (.bool r3)) rfl rfl (impl_drinfeldCode_c1_of_p_ok a0 a1c0 r3 hr4) rfl (vp (.bool (!r3)) rfl (vp (.bool (!r3)) rfl (nx _ rfl (a_ret ?_))))
  refine ⟨.inr rfl, ?_⟩
  rw [Try.results177]
  cases h
  exact ⟨_, _, _, _, _, rfl, trivial, .inl ⟨rfl, .inl rfl⟩, rfl, rfl⟩
def slices_IndexFunc_impl_Poly_impl_Poly_of_impl_areAll_impl_Poly__c1_p_drinfeldCode_c1_c : ACode := (.seq (.region 0 [q 4 (.asg 0 (.const (.int .i64 0)) 3)] false) (.seq (.seq (.region 1 [q 6 (.mov (t 0)), q 7 (.blt 0 .len [(t 6)] [38]), q 8 (.mov (.const (.int .i64 0)))] false) (.block 0 (.loop (.seq (.region 2 [q 9 (.bin .lss 3 (t 8) (t 7))] false) (.seq (.cond (t 9) .skip (.exit 0)) (.seq (.block 1 (.seq (.region 3 [q 10 (.mov (t 8)), q 5 (.asg 0 (t 10) 3)] false) (.seq (.region 4 [q 11 (.mov (t 1)), q 12 (.mov (t 0)), q 13 (.mov (t 5)), q 14 (.indexAddr 38 (t 12) (t 13)), q 15 (.load 26 (t 14)), q 16 (.call 0 (t 11) [(t 15)])] false) (.cond (t 16) (.seq (.region 5 [q 17 (.mov (t 5)), q 4 (.asg 0 (t 17) 3)] false) .ret) .skip)))) (.region 6 [q 18 (.bin .add 3 (t 8) (.const (.int .i64 1))), q 8 (.mov (t 18))] false))))))) (.seq (.region 7 [q 4 (.asg 0 (.const (.int .i64 (-1))) 3)] false) .ret)))
def slices_IndexFunc_impl_Poly_impl_Poly_of_impl_areAll_impl_Poly__c1_p_drinfeldCode_c1_L : Live := [(0, [0, 1]), (1, [0, 1]), (2, [0, 1, 7, 8]), (3, [0, 1, 7, 8]), (4, [0, 1, 5, 7, 8]), (5, [5]), (6, [0, 1, 7, 8]), (7, []), (100009, [0, 1, 7, 8, 9]), (100016, [0, 1, 5, 7, 8, 16])]
noncomputable def slices_IndexFunc_impl_Poly_impl_Poly_of_impl_areAll_impl_Poly__c1_p_drinfeldCode_c1_l1 (a0 : (List (Vec Int 64))) (a1c0c0 : (Int × (Vec Int 64) × (Vec Int 64) × (Vec Int 64))) (x33 : Int) : Option (Int ⊕ (Unit ⊕ Int)) :=
  (if (decide (x33 < (a0.length : Int))) then (ifp (0 ≤ x33 ∧ x33 < ((a0.length : Nat) : Int)) ((Option.bind (impl_areAll_impl_Poly__c1_of_p_drinfeldCode_c1 (rd a0 x33.toNat) a1c0c0) fun r46 => (if r46 then (some (.inr (.inr x33))) else (some (.inl (IntKind.i64.wrap (x33 + 1)))))))) else (some (.inr (((.inl ()))))))
noncomputable def slices_IndexFunc_impl_Poly_impl_Poly_of_impl_areAll_impl_Poly__c1_p_drinfeldCode_c1 (a0 : (List (Vec Int 64))) (a1c0c0 : (Int × (Vec Int 64) × (Vec Int 64) × (Vec Int 64))) : Option Int :=
  (Option.bind (α := (Unit ⊕ Int)) ((loopM (fun s : Int => slices_IndexFunc_impl_Poly_impl_Poly_of_impl_areAll_impl_Poly__c1_p_drinfeldCode_c1_l1 a0 a1c0c0 s) 0)) fun z => match z with | .inl _ => (some (-1)) | .inr r50 => (some r50))
theorem slices_IndexFunc_impl_Poly_impl_Poly_of_impl_areAll_impl_Poly__c1_p_drinfeldCode_c1_ok (a0 : (List (Vec Int 64))) (a1c0c0 : (Int × (Vec Int 64) × (Vec Int 64) × (Vec Int 64))) (r : Int) (h : slices_IndexFunc_impl_Poly_impl_Poly_of_impl_areAll_impl_Poly__c1_p_drinfeldCode_c1 a0 a1c0c0 = some r) : Den Try.prog 197 [(eSA64u8 a0), (.clo 177 [] [(.ref (.clo 165 [] [(.ref (eT_i64_A64u8_A64u8_A64u8_Z a1c0c0) [] [])]) [] [])])] { r := (i6 r) } := by
  refine den_of (rs := [(i6 r)]) (ac := slices_IndexFunc_impl_Poly_impl_Poly_of_impl_areAll_impl_Poly__c1_p_drinfeldCode_c1_c) (L := slices_IndexFunc_impl_Poly_impl_Poly_of_impl_areAll_impl_Poly__c1_p_drinfeldCode_c1_L) (n := 19) (m := []) (c := Try.f197.body.getD .skip) good Try.func197 (by kernel_rfl) (by kernel_rfl) Try.ntmps197 rfl rfl (by kernel_rfl) rfl rfl ?_
  refine a_st (σ' := ⟨[(0, (eSA64u8 a0)), (1, (.clo 177 [] [(.ref (.clo 165 [] [(.ref (eT_i64_A64u8_A64u8_A64u8_Z a1c0c0) [] [])]) [] [])]))], []⟩) (by kernel_rfl) ?_
  unfold slices_IndexFunc_impl_Poly_impl_Poly_of_impl_areAll_impl_Poly__c1_p_drinfeldCode_c1_c
  refine sr (vp (i6 0) rfl (nx ⟨[(0, (eSA64u8 a0)), (1, (.clo 177 [] [(.ref (.clo 165 [] [(.ref (eT_i64_A64u8_A64u8_A64u8_Z a1c0c0) [] [])]) [] [])]))], []⟩ (by kernel_rfl) ?_))
  obtain ⟨y24, hy25, hk26⟩ := bind_some h
  clear h
  refine a_join (emb := fun (s : Unit) => ⟨[], []⟩) (pre := fun s => (.inl s) = y24) ?_ ?_
  · rintro _ rfl
    have h := hk26
    refine a_st (σ' := ⟨[], []⟩) (by kernel_rfl) (sr (vp (i6 (-1)) rfl (nx _ rfl (a_ret ?_))))
    refine ⟨.inr rfl, ?_⟩
    rw [Try.results197]
    cases h
    exact ⟨_, _, _, _, _, rfl, trivial, .inl ⟨rfl, .inl rfl⟩, rfl, rfl⟩
  · have h := hy25
    refine sr (vp (eSA64u8 a0) rfl (vq (i6 (a0.length : Int)) (len_run rfl rfl) trivial (vp (i6 0) rfl (nx ⟨[(0, (eSA64u8 a0)), (1, (.clo 177 [] [(.ref (.clo 165 [] [(.ref (eT_i64_A64u8_A64u8_A64u8_Z a1c0c0) [] [])]) [] [])])), (7, (i6 (a0.length : Int))), (8, (i6 0))], []⟩ (by kernel_rfl) (a_block ?_)))))
    refine a_loop (emb := fun (s : Int) => ⟨[(0, (eSA64u8 a0)), (1, (.clo 177 [] [(.ref (.clo 165 [] [(.ref (eT_i64_A64u8_A64u8_A64u8_Z a1c0c0) [] [])]) [] [])])), (7, (i6 (a0.length : Int))), (8, (i6 s))], []⟩) (body := (fun s : Int => slices_IndexFunc_impl_Poly_impl_Poly_of_impl_areAll_impl_Poly__c1_p_drinfeldCode_c1_l1 a0 a1c0c0 s)) (G := fun q => some q = some y24) h rfl ?_ (by kernel_rfl)
    rintro X40 x33 x41 h hX42
    have h : slices_IndexFunc_impl_Poly_impl_Poly_of_impl_areAll_impl_Poly__c1_p_drinfeldCode_c1_l1 a0 a1c0c0 x33 = some x41 := h
    refine a_st (σ' := ⟨[(0, (eSA64u8 a0)), (1, (.clo 177 [] [(.ref (.clo 165 [] [(.ref (eT_i64_A64u8_A64u8_A64u8_Z a1c0c0) [] [])]) [] [])])), (7, (i6 (a0.length : Int))), (8, (i6 x33))], []⟩) (by kernel_rfl) (sr (vp (.bool ((decide (x33 < (a0.length : Int))))) rfl (nx ⟨[(0, (eSA64u8 a0)), (1, (.clo 177 [] [(.ref (.clo 165 [] [(.ref (eT_i64_A64u8_A64u8_A64u8_Z a1c0c0) [] [])]) [] [])])), (7, (i6 (a0.length : Int))), (8, (i6 x33)), (9, (.bool ((decide (x33 < (a0.length : Int))))))], []⟩ (by kernel_rfl) (a_seq ?_))))
    cases hb43 : (decide (x33 < (a0.length : Int)))
    · have h := ite_f hb43 h
      refine a_cond_f rfl (a_exit (t_exit ?_))
      cases h
      have h := hX42
      refine t_exit (b_exit ?_)
      exact j_leaf () (Option.some.inj h) (by kernel_rfl)
    · have h := ite_t hb43 h
      refine a_cond_t rfl (a_skip (a_next (σ' := ⟨[(0, (eSA64u8 a0)), (1, (.clo 177 [] [(.ref (.clo 165 [] [(.ref (eT_i64_A64u8_A64u8_A64u8_Z a1c0c0) [] [])]) [] [])])), (7, (i6 (a0.length : Int))), (8, (i6 x33))], []⟩) (by kernel_rfl) (a_seq (a_block (sr (vp (i6 x33) rfl (vp (i6 x33) rfl (nx ⟨[(0, (eSA64u8 a0)), (1, (.clo 177 [] [(.ref (.clo 165 [] [(.ref (eT_i64_A64u8_A64u8_A64u8_Z a1c0c0) [] [])]) [] [])])), (5, (i6 x33)), (7, (i6 (a0.length : Int))), (8, (i6 x33))], []⟩ (by kernel_rfl) (sr ?_)))))))))
      refine vp (.clo 177 [] [(.ref (.clo 165 [] [(.ref (eT_i64_A64u8_A64u8_A64u8_Z a1c0c0) [] [])]) [] [])]) rfl (vp (eSA64u8 a0) rfl (vp (i6 x33) rfl ?_))
      obtain ⟨hc44, h⟩ := ifp_some h
      refine vq (.ref (.row 64 (a0.map eA64u8)) [x33.toNat] [x33.toNat * 64]) rfl (lmap hc44) ?_
      have hl45 : LdOk [x33.toNat] (.row 64 (a0.map eA64u8)) [x33.toNat * 64] 64 true (eA64u8 (rd a0 x33.toNat)) := (.row (llt hc44) rfl (.nil rfl rfl rfl))
      refine vq (eA64u8 (rd a0 x33.toNat)) (ld_ref (i := ⟨.arr 64 5, 64, 64, (eA64u8 (vrep 64 (0 : Int)))⟩) rfl rfl hl45) hl45.c ?_
      obtain ⟨r46, hr47, h⟩ := bind_some h
      refine a_call (args := [(eA64u8 (rd a0 x33.toNat)), (.ref (.clo 165 [] [(.ref (eT_i64_A64u8_A64u8_A64u8_Z a1c0c0) [] [])]) [] [])]) (u := []) (r := (.bool r46)) rfl rfl (impl_areAll_impl_Poly__c1_of_p_drinfeldCode_c1_ok (rd a0 x33.toNat) a1c0c0 r46 hr47) rfl (nx ⟨[(0, (eSA64u8 a0)), (1, (.clo 177 [] [(.ref (.clo 165 [] [(.ref (eT_i64_A64u8_A64u8_A64u8_Z a1c0c0) [] [])]) [] [])])), (5, (i6 x33)), (7, (i6 (a0.length : Int))), (8, (i6 x33)), (16, (.bool r46))], []⟩ (by kernel_rfl) ?_)
      cases hb48 : r46
      · have h := ite_f hb48 h
        refine a_cond_f rfl (a_skip (b_norm (a_next (σ' := ⟨[(0, (eSA64u8 a0)), (1, (.clo 177 [] [(.ref (.clo 165 [] [(.ref (eT_i64_A64u8_A64u8_A64u8_Z a1c0c0) [] [])]) [] [])])), (7, (i6 (a0.length : Int))), (8, (i6 x33))], []⟩) (by kernel_rfl) (a_region (vp (i6 (IntKind.i64.wrap (x33 + 1))) rfl (vp (i6 (IntKind.i64.wrap (x33 + 1))) rfl (a_nil ?_)))))))
        cases h
        exact a_again (by kernel_rfl) hX42
      · have h := ite_t hb48 h
        refine a_cond_t rfl (sr (vp (i6 x33) rfl (vp (i6 x33) rfl (nx _ rfl (a_ret (b_ret (t_ret ?_)))))))
        cases h
        have h := hX42
        refine t_ret (b_ret (t_ret ?_))
        cases h
        have h := hk26
        refine ⟨.inr rfl, ?_⟩
        rw [Try.results197]
        cases h
        exact ⟨_, _, _, _, _, rfl, trivial, .inl ⟨rfl, .inl rfl⟩, rfl, rfl⟩
def slices_ContainsFunc_impl_Poly_impl_Poly_of_impl_areAll_impl_Poly__c1_p_drinfeldCode_c1_c : ACode := (.seq (.region 0 [q 4 (.asg 0 (.const (.bool false)) 4)] false) (.seq (.region 1 [q 5 (.mov (t 0)), q 6 (.mov (t 1)), q 7 (.call 0 (.func 197) [(t 5), (t 6)]), q 8 (.bin .geq 3 (t 7) (.const (.int .i64 0))), q 4 (.asg 0 (t 8) 4)] false) .ret))
def slices_ContainsFunc_impl_Poly_impl_Poly_of_impl_areAll_impl_Poly__c1_p_drinfeldCode_c1_L : Live := [(0, [0, 1]), (1, [0, 1])]
noncomputable def slices_ContainsFunc_impl_Poly_impl_Poly_of_impl_areAll_impl_Poly__c1_p_drinfeldCode_c1 (a0 : (List (Vec Int 64))) (a1c0c0 : (Int × (Vec Int 64) × (Vec Int 64) × (Vec Int 64))) : Option Bool :=
  (Option.bind (slices_IndexFunc_impl_Poly_impl_Poly_of_impl_areAll_impl_Poly__c1_p_drinfeldCode_c1 a0 a1c0c0) fun r1 => (some ((decide (r1 ≥ 0)))))
theorem slices_ContainsFunc_impl_Poly_impl_Poly_of_impl_areAll_impl_Poly__c1_p_drinfeldCode_c1_ok (a0 : (List (Vec Int 64))) (a1c0c0 : (Int × (Vec Int 64) × (Vec Int 64) × (Vec Int 64))) (r : Bool) (h : slices_ContainsFunc_impl_Poly_impl_Poly_of_impl_areAll_impl_Poly__c1_p_drinfeldCode_c1 a0 a1c0c0 = some r) : Den Try.prog 176 [(eSA64u8 a0), (.clo 177 [] [(.ref (.clo 165 [] [(.ref (eT_i64_A64u8_A64u8_A64u8_Z a1c0c0) [] [])]) [] [])])] { r := (.bool r) } := by
  refine den_of (rs := [(.bool r)]) (ac := slices_ContainsFunc_impl_Poly_impl_Poly_of_impl_areAll_impl_Poly__c1_p_drinfeldCode_c1_c) (L := slices_ContainsFunc_impl_Poly_impl_Poly_of_impl_areAll_impl_Poly__c1_p_drinfeldCode_c1_L) (n := 9) (m := []) (c := Try.f176.body.getD .skip) good Try.func176 (by kernel_rfl) (by kernel_rfl) Try.ntmps176 rfl rfl (by kernel_rfl) rfl rfl ?_
  refine a_st (σ' := ⟨[(0, (eSA64u8 a0)), (1, (.clo 177 [] [(.ref (.clo 165 [] [(.ref (eT_i64_A64u8_A64u8_A64u8_Z a1c0c0) [] [])]) [] [])]))], []⟩) (by kernel_rfl) ?_
  unfold slices_ContainsFunc_impl_Poly_impl_Poly_of_impl_areAll_impl_Poly__c1_p_drinfeldCode_c1_c
  refine sr (vp (.bool false) rfl (nx ⟨[(0, (eSA64u8 a0)), (1, (.clo 177 [] [(.ref (.clo 165 [] [(.ref (eT_i64_A64u8_A64u8_A64u8_Z a1c0c0) [] [])]) [] [])]))], []⟩ (by kernel_rfl) (sr (vp (eSA64u8 a0) rfl (vp (.clo 177 [] [(.ref (.clo 165 [] [(.ref (eT_i64_A64u8_A64u8_A64u8_Z a1c0c0) [] [])]) [] [])]) rfl ?_)))))
  obtain ⟨r1, hr2, h⟩ := bind_some h
  refine a_call (args := [(eSA64u8 a0), (.clo 177 [] [(.ref (.clo 165 [] [(.ref (eT_i64_A64u8_A64u8_A64u8_Z a1c0c0) [] [])]) [] [])])]) (u := []) (r := (i6 r1)) rfl rfl (slices_IndexFunc_impl_Poly_impl_Poly_of_impl_areAll_impl_Poly__c1_p_drinfeldCode_c1_ok a0 a1c0c0 r1 hr2) rfl (vp (.bool ((decide (r1 ≥ 0)))) rfl (vp (.bool ((decide (r1 ≥ 0)))) rfl (nx _ rfl (a_ret ?_))))
  refine ⟨.inr rfl, ?_⟩
  rw [Try.results176]
  cases h
  exact ⟨_, _, _, _, _, rfl, trivial, .inl ⟨rfl, .inl rfl⟩, rfl, rfl⟩
def impl_areAll_impl_Poly_of_impl_drinfeldCode_c1_p_c : ACode := (.seq (.region 0 [q 3 (.box 103 (t 1)), q 4 (.asg 0 (.const (.bool false)) 4)] false) (.seq (.region 1 [q 5 (.mov (t 0)), q 6 (.mkfn 177 [] [(t 3)]), q 7 (.call 0 (.func 176) [(t 5), (t 6)]), q 8 (.un .not (t 7)), q 4 (.asg 0 (t 8) 4)] false) .ret))
def impl_areAll_impl_Poly_of_impl_drinfeldCode_c1_p_L : Live := [(0, [0, 1]), (1, [0, 3])]
noncomputable def impl_areAll_impl_Poly_of_impl_drinfeldCode_c1_p (a0 : (List (Vec Int 64))) (a1c0 : (Int × (Vec Int 64) × (Vec Int 64) × (Vec Int 64))) : Option Bool :=
  (Option.bind (slices_ContainsFunc_impl_Poly_impl_Poly_of_impl_areAll_impl_Poly__c1_p_drinfeldCode_c1 a0 a1c0) fun r1 => (some (!r1)))
theorem impl_areAll_impl_Poly_of_impl_drinfeldCode_c1_p_ok (a0 : (List (Vec Int 64))) (a1c0 : (Int × (Vec Int 64) × (Vec Int 64) × (Vec Int 64))) (r : Bool) (h : impl_areAll_impl_Poly_of_impl_drinfeldCode_c1_p a0 a1c0 = some r) : Den Try.prog 137 [(eSA64u8 a0), (.clo 165 [] [(.ref (eT_i64_A64u8_A64u8_A64u8_Z a1c0) [] [])])] { r := (.bool r) } := by
  refine den_of (rs := [(.bool r)]) (ac := impl_areAll_impl_Poly_of_impl_drinfeldCode_c1_p_c) (L := impl_areAll_impl_Poly_of_impl_drinfeldCode_c1_p_L) (n := 9) (m := []) (c := Try.f137.body.getD .skip) good Try.func137 (by kernel_rfl) (by kernel_rfl) Try.ntmps137 rfl rfl (by kernel_rfl) rfl rfl ?_
  refine a_st (σ' := ⟨[(0, (eSA64u8 a0)), (1, (.clo 165 [] [(.ref (eT_i64_A64u8_A64u8_A64u8_Z a1c0) [] [])]))], []⟩) (by kernel_rfl) ?_
  unfold impl_areAll_impl_Poly_of_impl_drinfeldCode_c1_p_c
  refine sr (vo 1300 (.clo 165 [] [(.ref (eT_i64_A64u8_A64u8_A64u8_Z a1c0) [] [])]) rfl rfl (vp (.bool false) rfl (nx ⟨[(0, (eSA64u8 a0)), (3, (ow 3))], [(3, (bk (.clo 165 [] [(.ref (eT_i64_A64u8_A64u8_A64u8_Z a1c0) [] [])])))]⟩ (by kernel_rfl) (sr (vp (eSA64u8 a0) rfl (vu (.clo 177 [] [(.ref (.clo 165 [] [(.ref (eT_i64_A64u8_A64u8_A64u8_Z a1c0) [] [])]) [] [])]) [(3, (bf (.clo 165 [] [(.ref (eT_i64_A64u8_A64u8_A64u8_Z a1c0) [] [])])))] rfl trivial rfl ?_))))))
  obtain ⟨r1, hr2, h⟩ := bind_some h
  refine a_call (args := [(eSA64u8 a0), (.clo 177 [] [(.ref (.clo 165 [] [(.ref (eT_i64_A64u8_A64u8_A64u8_Z a1c0) [] [])]) [] [])])]) (u := []) (r := (.bool r1)) rfl rfl (slices_ContainsFunc_impl_Poly_impl_Poly_of_impl_areAll_impl_Poly__c1_p_drinfeldCode_c1_ok a0 a1c0 r1 hr2) rfl (vp (.bool (!r1)) rfl (vp (.bool (!r1)) rfl (nx _ rfl (a_ret ?_))))
  refine ⟨.inr rfl, ?_⟩
  rw [Try.results137]
  cases h
  exact ⟨_, _, _, _, _, rfl, trivial, .inl ⟨rfl, .inl rfl⟩, rfl, rfl⟩
def impl_drinfeldCode_c : ACode := (.seq (.region 0 [q 2 (.box 58 (t 0)), q 4 (.asg 0 (.const (.int .i64 0)) 2)] false) (.seq (.seq (.region 1 [q 5 (.load 58 (t 2)), q 6 (.call 0 (.func 164) [(t 5)]), q 7 (.un .not (t 6)), q 8 (.mov (t 7)), ⟨some 9, .mov (t 1), some (8, false), []⟩, ⟨some 10, .mkfn 165 [] [(t 2)], some (8, false), []⟩, ⟨some 11, .call 0 (.func 137) [(t 9), (t 10)], some (8, false), []⟩, ⟨some 12, .un .not (t 11), some (8, false), []⟩, q 13 (.pick (t 8) (.const (.bool true)) (t 12))] false) (.cond (t 13) (.seq (.region 2 [q 4 (.asg 0 (.const (.int .i64 1)) 2)] false) .ret) .skip)) (.seq (.region 3 [q 4 (.asg 0 (.const (.int .i64 0)) 2)] false) .ret)))
def impl_drinfeldCode_L : Live := [(0, [0, 1]), (1, [1, 2]), (2, []), (3, []), (100013, [13])]
noncomputable def impl_drinfeldCode (a0 : (Int × (Vec Int 64) × (Vec Int 64) × (Vec Int 64))) (a1 : (List (Vec Int 64))) : Option Int :=
  (Option.bind (α := Bool) ((Option.bind (impl_IsDrinfeld a0) fun r12 => (if (!r12) then (some true) else (Option.bind (impl_areAll_impl_Poly_of_impl_drinfeldCode_c1_p a1 a0) fun r15 => (some (!r15)))))) fun x7 => (if x7 then (some 1) else (some 0)))
theorem impl_drinfeldCode_ok (a0 : (Int × (Vec Int 64) × (Vec Int 64) × (Vec Int 64))) (a1 : (List (Vec Int 64))) (r : Int) (h : impl_drinfeldCode a0 a1 = some r) : Den Try.prog 112 [(eT_i64_A64u8_A64u8_A64u8_Z a0), (eSA64u8 a1)] { r := (i6 r) } := by
  refine den_of (rs := [(i6 r)]) (ac := impl_drinfeldCode_c) (L := impl_drinfeldCode_L) (n := 14) (m := []) (c := Try.f112.body.getD .skip) good Try.func112 (by kernel_rfl) (by kernel_rfl) Try.ntmps112 rfl rfl (by kernel_rfl) rfl rfl ?_
  refine a_st (σ' := ⟨[(0, (eT_i64_A64u8_A64u8_A64u8_Z a0)), (1, (eSA64u8 a1))], []⟩) (by kernel_rfl) ?_
  unfold impl_drinfeldCode_c
  refine sr (vo 1200 (eT_i64_A64u8_A64u8_A64u8_Z a0) rfl rfl (vp (i6 0) rfl (nx ⟨[(1, (eSA64u8 a1)), (2, (ow 2))], [(2, (bk (eT_i64_A64u8_A64u8_A64u8_Z a0)))]⟩ (by kernel_rfl) (a_seq ?_))))
  obtain ⟨y8, hy9, hk10⟩ := bind_some h
  clear h
  refine a_join (emb := fun (s : Bool) => ⟨[(13, (.bool s))], []⟩) (pre := fun s => s = y8) ?_ ?_
  · rintro x7 rfl
    have h := hk10
    refine a_st (σ' := ⟨[(13, (.bool x7))], []⟩) (by kernel_rfl) ?_
    cases hb17 : x7
    · have h := ite_f hb17 h
      refine a_cond_f rfl (a_skip (a_next (σ' := ⟨[], []⟩) (by kernel_rfl) (sr (vp (i6 0) rfl (nx _ rfl (a_ret ?_))))))
      refine ⟨.inr rfl, ?_⟩
      rw [Try.results112]
      cases h
      exact ⟨_, _, _, _, _, rfl, trivial, .inl ⟨rfl, .inl rfl⟩, rfl, rfl⟩
    · have h := ite_t hb17 h
      refine a_cond_t rfl (sr (vp (i6 1) rfl (nx _ rfl (a_ret (t_ret ?_)))))
      refine ⟨.inr rfl, ?_⟩
      rw [Try.results112]
      cases h
      exact ⟨_, _, _, _, _, rfl, trivial, .inl ⟨rfl, .inl rfl⟩, rfl, rfl⟩
  · have h := hy9
    refine a_region (vl (eT_i64_A64u8_A64u8_A64u8_Z a0) rfl rfl rfl rfl rfl rfl ?_)
    obtain ⟨r12, hr13, h⟩ := bind_some h
    refine a_call (args := [(eT_i64_A64u8_A64u8_A64u8_Z a0)]) (u := []) (r := (.bool r12)) rfl rfl (impl_IsDrinfeld_ok a0 r12 hr13) rfl (vp (.bool (!r12)) rfl (vp (.bool (!r12)) rfl ?_))
    cases hb14 : (!r12)
    · have h := ite_f hb14 h
      refine gp (eSA64u8 a1) rfl rfl (a_gval rfl (v := (.clo 165 [] [(.ref (eT_i64_A64u8_A64u8_A64u8_Z a0) [] [])])) (u := [(2, (bf (eT_i64_A64u8_A64u8_A64u8_Z a0)))]) rfl trivial rfl ?_)
      obtain ⟨r15, hr16, h⟩ := bind_some h
      refine a_gcall rfl (args := [(eSA64u8 a1), (.clo 165 [] [(.ref (eT_i64_A64u8_A64u8_A64u8_Z a0) [] [])])]) (u := []) (r := (.bool r15)) rfl rfl (impl_areAll_impl_Poly_of_impl_drinfeldCode_c1_p_ok a1 a0 r15 hr16) rfl (gp (.bool (!r15)) rfl rfl (vp (.bool (!r15)) rfl (a_nil ?_)))
      exact j_leaf (!r15) (Option.some.inj h) (by kernel_rfl)
    · have h := ite_t hb14 h
      refine a_gskip rfl (a_gskip rfl (a_gskip rfl (a_gskip rfl (vp (.bool true) rfl (a_nil ?_)))))
      exact j_leaf true (Option.some.inj h) (by kernel_rfl)
def impl_Drinfeld_field_c : ACode := (.seq (.region 0 [q 1 (.box 58 (t 0)), q 2 (.alloc 128)] false) (.seq (.region 1 [q 3 (.fieldAddr 58 (t 1) 0), q 4 (.load 2 (t 3)), q 5 (.fieldAddr 58 (t 1) 1), q 6 (.load 26 (t 5)), q 7 (.call 0 (.func 166) [(t 4), (t 6)]), ⟨none, .store 128 (t 2) (t 7), none, []⟩] false) .ret))
def impl_Drinfeld_field_L : Live := [(0, [0]), (1, [1, 2])]
noncomputable def impl_Drinfeld_field (a0 : (Int × (Vec Int 64) × (Vec Int 64) × (Vec Int 64))) : Option (Int × (List Int)) :=
  (Option.bind (impl_fieldOf a0.1 a0.2.1) fun r3 => (some r3))
theorem impl_Drinfeld_field_ok (a0 : (Int × (Vec Int 64) × (Vec Int 64) × (Vec Int 64))) (r : (Int × (List Int))) (h : impl_Drinfeld_field a0 = some r) : Den Try.prog 113 [(eT_i64_A64u8_A64u8_A64u8_Z a0)] { r := (eT_i64_Si64_Z r) } := by
  refine den_of (rs := [(eT_i64_Si64_Z r)]) (ac := impl_Drinfeld_field_c) (L := impl_Drinfeld_field_L) (n := 8) (m := []) (c := Try.f113.body.getD .skip) good Try.func113 (by kernel_rfl) (by kernel_rfl) Try.ntmps113 rfl rfl (by kernel_rfl) rfl rfl ?_
  refine a_st (σ' := ⟨[(0, (eT_i64_A64u8_A64u8_A64u8_Z a0))], []⟩) (by kernel_rfl) ?_
  unfold impl_Drinfeld_field_c
  refine sr (vo 1100 (eT_i64_A64u8_A64u8_A64u8_Z a0) rfl rfl (vo 1200 (eT_i64_Si64_Z (((0 : Int), []))) rfl rfl (nx ⟨[(1, (ow 1)), (2, (ow 2))], [(1, (bk (eT_i64_A64u8_A64u8_A64u8_Z a0))), (2, (bk (eT_i64_Si64_Z (((0 : Int), [])))))]⟩ (by kernel_rfl) (sr (vb (.own 1 [0] [0]) rfl rfl ?_)))))
  have hl1 : LdOk [0] (eT_i64_A64u8_A64u8_A64u8_Z a0) [0] 1 false (i6 a0.1) := (.fld rfl rfl rfl rfl (.nil rfl rfl rfl))
  refine vq (i6 a0.1) (ld_own (i := ⟨.int .i64, 1, 8, (.int .i64 0)⟩) rfl rfl rfl hl1) hl1.c (vb (.own 1 [1] [1]) rfl rfl ?_)
  have hl2 : LdOk [1] (eT_i64_A64u8_A64u8_A64u8_Z a0) [1] 64 true (eA64u8 a0.2.1) := (.fld rfl rfl rfl rfl (.nil rfl rfl rfl))
  refine vq (eA64u8 a0.2.1) (ld_own (i := ⟨.arr 64 5, 64, 64, (eA64u8 (vrep 64 (0 : Int)))⟩) rfl rfl rfl hl2) hl2.c ?_
  obtain ⟨r3, hr4, h⟩ := bind_some h
  refine a_call (args := [(i6 a0.1), (eA64u8 a0.2.1)]) (u := []) (r := (eT_i64_Si64_Z r3)) rfl rfl (impl_fieldOf_ok a0.1 a0.2.1 r3 hr4) rfl (vs (eT_i64_Si64_Z r3) rfl rfl (fun _ => rfl) rfl rfl rfl rfl rfl rfl (nx _ rfl (a_ret ?_)))
  have hl6 : LdOk [] (eT_i64_Si64_Z r3) [] 2 true (eT_i64_Si64_Z r3) := (.nil rfl rfl rfl)
  refine ⟨.inr rfl, ?_⟩
  rw [Try.results113]
  cases h
  exact ⟨_, _, _, _, _, ld_own (i := ⟨.struct [(0, 65), (1, 66)], 2, 32, (eT_i64_Si64_Z ((0 : Int), []))⟩) rfl rfl rfl hl6, hl6.c, .inl ⟨rfl, .inl rfl⟩, rfl, rfl⟩
def impl_field_inverted_c : ACode := (.seq (.region 0 [q 2 (.box 128 (t 0)), q 4 (.asg 1 (.const (.slice none 0 0)) 66)] false) (.seq (.region 1 [q 9 (.fieldAddr 128 (t 2) 0), q 10 (.load 65 (t 9)), q 11 (.mov (t 1)), q 12 (.fieldAddr 128 (t 2) 1), q 13 (.load 66 (t 12)), q 14 (.call 0 (.func 167) [(t 10), (t 11), (t 13)]), q 8 (.mov (t 14)), q 15 (.extract (t 8) 0), q 16 (.extract (t 8) 1), q 17 (.extract (t 8) 2), q 5 (.asg 1 (t 15) 66), q 6 (.asg 1 (t 16) 66), q 7 (.asg 1 (t 17) 66)] false) (.seq (.region 2 [q 18 (.fieldAddr 128 (t 2) 0), q 19 (.load 65 (t 18)), q 20 (.mov (t 6)), q 21 (.fieldAddr 128 (t 2) 1), q 22 (.load 66 (t 21)), q 23 (.call 0 (.func 100) [(t 19), (t 20), (t 22)]), q 4 (.asg 1 (t 23) 66)] false) .ret)))
def impl_field_inverted_L : Live := [(0, [0, 1]), (1, [1, 2]), (2, [2, 6])]
noncomputable def impl_field_inverted (a0 : (Int × (List Int))) (a1 : (List Int)) : Option (List Int) :=
  (Option.bind (impl_prime_bezout a0.1 a1 a0.2) fun r3 => (Option.bind (impl_prime_rest a0.1 r3.2.1 a0.2) fun r7 => (some r7)))
theorem impl_field_inverted_ok (a0 : (Int × (List Int))) (a1 : (List Int)) (r : (List Int)) (h : impl_field_inverted a0 a1 = some r) : Den Try.prog 116 [(eT_i64_Si64_Z a0), (eSi64 a1)] { r := (eSi64 r) } := by
  refine den_of (rs := [(eSi64 r)]) (ac := impl_field_inverted_c) (L := impl_field_inverted_L) (n := 24) (m := [(4, 1), (5, 1), (6, 1), (7, 1)]) (c := Try.f116.body.getD .skip) good Try.func116 (by kernel_rfl) (by kernel_rfl) Try.ntmps116 rfl rfl (by kernel_rfl) rfl rfl ?_
  refine a_st (σ' := ⟨[(0, (eT_i64_Si64_Z a0)), (1, (eSi64 a1))], []⟩) (by kernel_rfl) ?_
  unfold impl_field_inverted_c
  refine sr (vo 1200 (eT_i64_Si64_Z a0) rfl rfl (vp (eSi64 ([])) rfl (nx ⟨[(1, (eSi64 a1)), (2, (ow 2))], [(2, (bk (eT_i64_Si64_Z a0)))]⟩ (by kernel_rfl) (sr (vb (.own 2 [0] [0]) rfl rfl ?_)))))
  have hl1 : LdOk [0] (eT_i64_Si64_Z a0) [0] 1 false (i6 a0.1) := (.fld rfl rfl rfl rfl (.nil rfl rfl rfl))
  refine vq (i6 a0.1) (ld_own (i := ⟨.int .i64, 1, 8, (.int .i64 0)⟩) rfl rfl rfl hl1) hl1.c (vp (eSi64 a1) rfl (vb (.own 2 [1] [1]) rfl rfl ?_))
  have hl2 : LdOk [1] (eT_i64_Si64_Z a0) [1] 1 false (eSi64 a0.2) := (.fld rfl rfl rfl rfl (.nil rfl rfl rfl))
  refine vq (eSi64 a0.2) (ld_own (i := ⟨.slice 2, 1, 24, (eSi64 [])⟩) rfl rfl rfl hl2) hl2.c ?_
  obtain ⟨r3, hr4, h⟩ := bind_some h
  refine a_call (args := [(i6 a0.1), (eSi64 a1), (eSi64 a0.2)]) (u := []) (r := (.tuple [(eSi64 r3.1), (eSi64 r3.2.1), (eSi64 r3.2.2)])) rfl rfl (impl_prime_bezout_ok a0.1 a1 a0.2 r3 hr4) rfl (vp (.tuple [(eSi64 r3.1), (eSi64 r3.2.1), (eSi64 r3.2.2)]) rfl (vb (eSi64 r3.1) rfl rfl (vb (eSi64 r3.2.1) rfl rfl (vb (eSi64 r3.2.2) rfl rfl (vp (eSi64 r3.1) rfl (vp (eSi64 r3.2.1) rfl (vp (eSi64 r3.2.2) rfl (nx ⟨[(2, (ow 2)), (6, (eSi64 r3.2.1))], [(2, (bk (eT_i64_Si64_Z a0)))]⟩ (by kernel_rfl) (sr ?_)))))))))
  refine vb (.own 2 [0] [0]) rfl rfl ?_
  have hl5 : LdOk [0] (eT_i64_Si64_Z a0) [0] 1 false (i6 a0.1) := (.fld rfl rfl rfl rfl (.nil rfl rfl rfl))
  refine vq (i6 a0.1) (ld_own (i := ⟨.int .i64, 1, 8, (.int .i64 0)⟩) rfl rfl rfl hl5) hl5.c (vp (eSi64 r3.2.1) rfl (vb (.own 2 [1] [1]) rfl rfl ?_))
  have hl6 : LdOk [1] (eT_i64_Si64_Z a0) [1] 1 false (eSi64 a0.2) := (.fld rfl rfl rfl rfl (.nil rfl rfl rfl))
  refine vq (eSi64 a0.2) (ld_own (i := ⟨.slice 2, 1, 24, (eSi64 [])⟩) rfl rfl rfl hl6) hl6.c ?_
  obtain ⟨r7, hr8, h⟩ := bind_some h
  refine a_call (args := [(i6 a0.1), (eSi64 r3.2.1), (eSi64 a0.2)]) (u := []) (r := (eSi64 r7)) rfl rfl (impl_prime_rest_ok a0.1 r3.2.1 a0.2 r7 hr8) rfl (vp (eSi64 r7) rfl (nx _ rfl (a_ret ?_)))
  refine ⟨.inr rfl, ?_⟩
  rw [Try.results116]
  cases h
  exact ⟨_, _, _, _, _, rfl, trivial, .inl ⟨rfl, .inl rfl⟩, rfl, rfl⟩
def impl_field_product_c : ACode := (.seq (.region 0 [q 3 (.box 128 (t 0)), q 6 (.asg 1 (.const (.slice none 0 0)) 66)] false) (.seq (.region 1 [q 7 (.fieldAddr 128 (t 3) 0), ⟨some 8, .load 65 (t 7), none, [0]⟩, q 9 (.fieldAddr 128 (t 3) 0), ⟨some 10, .load 65 (t 9), none, [2]⟩, q 11 (.mov (t 1)), q 12 (.mov (t 2)), ⟨some 13, .call 0 (.func 101) [(t 10), (t 11), (t 12)], none, [3, 4, 5]⟩, q 14 (.fieldAddr 128 (t 3) 1), ⟨some 15, .load 66 (t 14), none, [7]⟩, ⟨some 16, .call 0 (.func 100) [(t 8), (t 13), (t 15)], none, [1, 6, 8, 6]⟩, ⟨some 6, .asg 1 (t 16) 66, none, [9, 9, 0, 1, 2, 3, 4, 5, 6, 7, 8, 9]⟩] true) .ret))
def impl_field_product_L : Live := [(0, [0, 1, 2]), (1, [1, 2, 3])]
noncomputable def impl_field_product (a0 : (Int × (List Int))) (a1 : (List Int)) (a2 : (List Int)) : Option (List Int) :=
  (Option.bind (impl_prime_times a0.1 a1 a2) fun r10 => (Option.bind (impl_prime_rest a0.1 r10 a0.2) fun r13 => (some r13)))
theorem impl_field_product_ok (a0 : (Int × (List Int))) (a1 : (List Int)) (a2 : (List Int)) (r : (List Int)) (h : impl_field_product a0 a1 a2 = some r) : Den Try.prog 114 [(eT_i64_Si64_Z a0), (eSi64 a1), (eSi64 a2)] { r := (eSi64 r) } := by
  refine den_of (rs := [(eSi64 r)]) (ac := impl_field_product_c) (L := impl_field_product_L) (n := 17) (m := [(6, 1)]) (c := Try.f114.body.getD .skip) good Try.func114 (by kernel_rfl) (by kernel_rfl) Try.ntmps114 rfl rfl (by kernel_rfl) rfl rfl ?_
  refine a_st (σ' := ⟨[(0, (eT_i64_Si64_Z a0)), (1, (eSi64 a1)), (2, (eSi64 a2))], []⟩) (by kernel_rfl) ?_
  unfold impl_field_product_c
  refine sr (vo 1300 (eT_i64_Si64_Z a0) rfl rfl (vp (eSi64 ([])) rfl (nx ⟨[(1, (eSi64 a1)), (2, (eSi64 a2)), (3, (ow 3))], [(3, (bk (eT_i64_Si64_Z a0)))]⟩ (by kernel_rfl) (a_seq (a_draw [⟨[3], [], [3], []⟩, ⟨[3], [], [], [0]⟩, ⟨[3], [], [3], []⟩, ⟨[3], [], [], [2]⟩, ⟨[], [], [], []⟩, ⟨[], [], [], []⟩, ⟨[], [], [], [2, 3, 4, 5]⟩, ⟨[3], [], [3], []⟩, ⟨[3], [], [], [7]⟩, ⟨[], [], [], [0, 1, 2, 3, 4, 5, 6, 7, 8]⟩, ⟨[], [], [], [0, 1, 2, 3, 4, 5, 6, 7, 8, 9]⟩] (by kernel_rfl) (d_cons (vb (.own 3 [0] [0]) rfl rfl (d_next (by kernel_rfl) (d_cons ?_)))))))))
  have hl8 : LdOk [0] (eT_i64_Si64_Z a0) [0] 1 false (i6 a0.1) := (.fld rfl rfl rfl rfl (.nil rfl rfl rfl))
  refine vq (i6 a0.1) (ld_own (i := ⟨.int .i64, 1, 8, (.int .i64 0)⟩) rfl rfl rfl hl8) hl8.c (d_next (by kernel_rfl) (d_cons (vb (.own 3 [0] [0]) rfl rfl (d_next (by kernel_rfl) (d_cons ?_)))))
  have hl9 : LdOk [0] (eT_i64_Si64_Z a0) [0] 1 false (i6 a0.1) := (.fld rfl rfl rfl rfl (.nil rfl rfl rfl))
  refine vq (i6 a0.1) (ld_own (i := ⟨.int .i64, 1, 8, (.int .i64 0)⟩) rfl rfl rfl hl9) hl9.c (d_next (by kernel_rfl) (dp (eSi64 a1) rfl (by kernel_rfl) (dp (eSi64 a2) rfl (by kernel_rfl) (d_cons ?_))))
  obtain ⟨r10, hr11, h⟩ := bind_some h
  refine a_call (args := [(i6 a0.1), (eSi64 a1), (eSi64 a2)]) (u := []) (r := (eSi64 r10)) rfl rfl (impl_prime_times_ok a0.1 a1 a2 r10 hr11) rfl (d_next (by kernel_rfl) (d_cons (vb (.own 3 [1] [1]) rfl rfl (d_next (by kernel_rfl) (d_cons ?_)))))
  have hl12 : LdOk [1] (eT_i64_Si64_Z a0) [1] 1 false (eSi64 a0.2) := (.fld rfl rfl rfl rfl (.nil rfl rfl rfl))
  refine vq (eSi64 a0.2) (ld_own (i := ⟨.slice 2, 1, 24, (eSi64 [])⟩) rfl rfl rfl hl12) hl12.c (d_next (by kernel_rfl) (d_cons ?_))
  obtain ⟨r13, hr14, h⟩ := bind_some h
  refine a_call (args := [(i6 a0.1), (eSi64 r10), (eSi64 a0.2)]) (u := []) (r := (eSi64 r13)) rfl rfl (impl_prime_rest_ok a0.1 r10 a0.2 r13 hr14) rfl (d_next (by kernel_rfl) (dp (eSi64 r13) rfl (by kernel_rfl) (d_nil (a_next rfl (a_ret ?_)))))
  refine ⟨.inr rfl, ?_⟩
  rw [Try.results114]
  cases h
  exact ⟨_, _, _, _, _, rfl, trivial, .inl ⟨rfl, .inl rfl⟩, rfl, rfl⟩
def impl_row_fits_c : ACode := (.seq (.region 0 [q 2 (.asg 0 (.const (.bool false)) 4)] false) (.seq (.region 1 [q 3 (.mov (t 0)), q 4 (.call 0 (.func 69) [(t 3)]), q 5 (.bin .leq 2 (t 4) (.const (.int .i64 63))), q 2 (.asg 0 (t 5) 4)] false) .ret))
def impl_row_fits_L : Live := [(0, [0]), (1, [0])]
noncomputable def impl_row_fits (a0 : (List Int)) : Option Bool :=
  (Option.bind (impl_row_degree a0) fun r1 => (some ((decide (r1 ≤ 63)))))
theorem impl_row_fits_ok (a0 : (List Int)) (r : Bool) (h : impl_row_fits a0 = some r) : Den Try.prog 140 [(eSi64 a0)] { r := (.bool r) } := by
  refine den_of (rs := [(.bool r)]) (ac := impl_row_fits_c) (L := impl_row_fits_L) (n := 6) (m := []) (c := Try.f140.body.getD .skip) good Try.func140 (by kernel_rfl) (by kernel_rfl) Try.ntmps140 rfl rfl (by kernel_rfl) rfl rfl ?_
  refine a_st (σ' := ⟨[(0, (eSi64 a0))], []⟩) (by kernel_rfl) ?_
  unfold impl_row_fits_c
  refine sr (vp (.bool false) rfl (nx ⟨[(0, (eSi64 a0))], []⟩ (by kernel_rfl) (sr (vp (eSi64 a0) rfl ?_))))
  obtain ⟨r1, hr2, h⟩ := bind_some h
  refine a_call (args := [(eSi64 a0)]) (u := []) (r := (i6 r1)) rfl rfl (impl_row_degree_ok a0 r1 hr2) rfl (vp (.bool ((decide (r1 ≤ 63)))) rfl (vp (.bool ((decide (r1 ≤ 63)))) rfl (nx _ rfl (a_ret ?_))))
  refine ⟨.inr rfl, ?_⟩
  rw [Try.results140]
  cases h
  exact ⟨_, _, _, _, _, rfl, trivial, .inl ⟨rfl, .inl rfl⟩, rfl, rfl⟩
def impl_row_poly_c : ACode := (.seq (.region 0 [q 2 (.alloc 26)] false) (.seq (.region 1 [q 3 (.alloc 26)] false) (.seq (.seq (.region 2 [q 6 (.mov (t 0)), q 7 (.blt 0 .len [(t 6)] [66]), q 8 (.mov (.const (.int .i64 0)))] false) (.block 0 (.loop (.seq (.region 3 [q 9 (.bin .lss 3 (t 8) (t 7))] false) (.seq (.cond (t 9) .skip (.exit 0)) (.seq (.block 1 (.seq (.region 4 [q 10 (.mov (t 8)), q 11 (.indexAddr 66 (t 6) (t 8)), q 12 (.load 2 (t 11)), q 4 (.asg 0 (t 10) 3), q 5 (.asg 0 (t 12) 2)] false) (.region 5 [q 13 (.mov (t 4)), q 14 (.mov (t 5)), q 15 (.conv 2 5 (t 14)), q 16 (.indexAddr 26 (t 3) (t 13)), ⟨none, .store 5 (t 16) (t 15), none, []⟩] false))) (.region 6 [q 17 (.bin .add 3 (t 8) (.const (.int .i64 1))), q 8 (.mov (t 17))] false))))))) (.seq (.region 7 [q 18 (.load 26 (t 3)), ⟨none, .store 26 (t 2) (t 18), none, []⟩] false) .ret))))
def impl_row_poly_L : Live := [(0, [0]), (1, [0, 2]), (2, [0, 2, 3]), (3, [2, 3, 6, 7, 8]), (4, [2, 3, 6, 7, 8]), (5, [2, 3, 4, 5, 6, 7, 8]), (6, [2, 3, 6, 7, 8]), (7, [2, 3]), (100009, [2, 3, 6, 7, 8, 9])]
noncomputable def impl_row_poly_l1 (a0 : (List Int)) (x31 : Int) (x32 : (Vec Int 64)) : Option ((Int × (Vec Int 64)) ⊕ (Vec Int 64)) :=
  (if (decide (x31 < (a0.length : Int))) then (ifp (0 ≤ x31 ∧ x31 < ((a0.length : Nat) : Int)) ((ifp (0 ≤ x31 ∧ x31 < ((64 : Nat) : Int)) ((some (.inl ((IntKind.i64.wrap (x31 + 1), (vset x32 x31.toNat (IntKind.u8.wrap (rd a0 x31.toNat))))))))))) else (some (.inr x32)))
noncomputable def impl_row_poly (a0 : (List Int)) : Option (Vec Int 64) :=
  (Option.bind (α := (Vec Int 64)) ((loopM (fun s : (Int × (Vec Int 64)) => impl_row_poly_l1 a0 s.1 s.2) (0, (vrep 64 (0 : Int))))) fun x22 => (some x22))
theorem impl_row_poly_ok (a0 : (List Int)) (r : (Vec Int 64)) (h : impl_row_poly a0 = some r) : Den Try.prog 131 [(eSi64 a0)] { r := (eA64u8 r) } := by
  refine den_of (rs := [(eA64u8 r)]) (ac := impl_row_poly_c) (L := impl_row_poly_L) (n := 19) (m := []) (c := Try.f131.body.getD .skip) good Try.func131 (by kernel_rfl) (by kernel_rfl) Try.ntmps131 rfl rfl (by kernel_rfl) rfl rfl ?_
  refine a_st (σ' := ⟨[(0, (eSi64 a0))], []⟩) (by kernel_rfl) ?_
  unfold impl_row_poly_c
  refine sr (vo 1200 (eA64u8 ((vrep 64 (0 : Int)))) rfl rfl (nx ⟨[(0, (eSi64 a0)), (2, (ow 2))], [(2, (bk (eA64u8 ((vrep 64 (0 : Int))))))]⟩ (by kernel_rfl) (sr (vo 1300 (eA64u8 ((vrep 64 (0 : Int)))) rfl rfl (nx ⟨[(0, (eSi64 a0)), (2, (ow 2)), (3, (ow 3))], [(2, (bk (eA64u8 ((vrep 64 (0 : Int)))))), (3, (bk (eA64u8 ((vrep 64 (0 : Int))))))]⟩ (by kernel_rfl) ?_)))))
  obtain ⟨y23, hy24, hk25⟩ := bind_some h
  clear h
  refine a_join (emb := fun (s : (Vec Int 64)) => ⟨[(2, (ow 2)), (3, (ow 3))], [(2, (bk (eA64u8 ((vrep 64 (0 : Int)))))), (3, (bk (eA64u8 s)))]⟩) (pre := fun s => s = y23) ?_ ?_
  · rintro x22 rfl
    have h := hk25
    refine a_st (σ' := ⟨[(2, (ow 2)), (3, (ow 3))], [(2, (bk (eA64u8 ((vrep 64 (0 : Int)))))), (3, (bk (eA64u8 x22)))]⟩) (by kernel_rfl) (sr (vl (eA64u8 x22) rfl rfl rfl rfl rfl rfl (vs (eA64u8 x22) rfl rfl (fun _ => rfl) rfl rfl rfl rfl rfl rfl (nx _ rfl (a_ret ?_)))))
    have hl49 : LdOk [] (eA64u8 x22) [] 64 true (eA64u8 x22) := (.nil rfl rfl rfl)
    refine ⟨.inr rfl, ?_⟩
    rw [Try.results131]
    cases h
    exact ⟨_, _, _, _, _, ld_own (i := ⟨.arr 64 5, 64, 64, (eA64u8 (vrep 64 (0 : Int)))⟩) rfl rfl rfl hl49, hl49.c, .inl ⟨rfl, .inl rfl⟩, rfl, rfl⟩
  · have h := hy24
    refine sr (vp (eSi64 a0) rfl (vq (i6 (a0.length : Int)) (len_run rfl rfl) trivial (vp (i6 0) rfl (nx ⟨[(2, (ow 2)), (3, (ow 3)), (6, (eSi64 a0)), (7, (i6 (a0.length : Int))), (8, (i6 0))], [(2, (bk (eA64u8 ((vrep 64 (0 : Int)))))), (3, (bk (eA64u8 ((vrep 64 (0 : Int))))))]⟩ (by kernel_rfl) (a_block ?_)))))
    refine a_loop (emb := fun (s : (Int × (Vec Int 64))) => ⟨[(2, (ow 2)), (3, (ow 3)), (6, (eSi64 a0)), (7, (i6 (a0.length : Int))), (8, (i6 s.1))], [(2, (bk (eA64u8 ((vrep 64 (0 : Int)))))), (3, (bk (eA64u8 s.2)))]⟩) (body := (fun s : (Int × (Vec Int 64)) => impl_row_poly_l1 a0 s.1 s.2)) (G := fun q => some q = some y23) h rfl ?_ (by kernel_rfl)
    rintro X38 ⟨x31, x32⟩ x39 h hX40
    have h : impl_row_poly_l1 a0 x31 x32 = some x39 := h
    refine a_st (σ' := ⟨[(2, (ow 2)), (3, (ow 3)), (6, (eSi64 a0)), (7, (i6 (a0.length : Int))), (8, (i6 x31))], [(2, (bk (eA64u8 ((vrep 64 (0 : Int)))))), (3, (bk (eA64u8 x32)))]⟩) (by kernel_rfl) (sr (vp (.bool ((decide (x31 < (a0.length : Int))))) rfl (nx ⟨[(2, (ow 2)), (3, (ow 3)), (6, (eSi64 a0)), (7, (i6 (a0.length : Int))), (8, (i6 x31)), (9, (.bool ((decide (x31 < (a0.length : Int))))))], [(2, (bk (eA64u8 ((vrep 64 (0 : Int)))))), (3, (bk (eA64u8 x32)))]⟩ (by kernel_rfl) (a_seq ?_))))
    cases hb41 : (decide (x31 < (a0.length : Int)))
    · have h := ite_f hb41 h
      refine a_cond_f rfl (a_exit (t_exit ?_))
      cases h
      have h := hX40
      refine t_exit (b_exit ?_)
      exact j_leaf x32 (Option.some.inj h) (by kernel_rfl)
    · have h := ite_t hb41 h
      refine a_cond_t rfl (a_skip (a_next (σ' := ⟨[(2, (ow 2)), (3, (ow 3)), (6, (eSi64 a0)), (7, (i6 (a0.length : Int))), (8, (i6 x31))], [(2, (bk (eA64u8 ((vrep 64 (0 : Int)))))), (3, (bk (eA64u8 x32)))]⟩) (by kernel_rfl) (a_seq (a_block (sr (vp (i6 x31) rfl ?_))))))
      obtain ⟨hc42, h⟩ := ifp_some h
      refine vq (.ref (.row 1 (a0.map (AV.int .i64))) [x31.toNat] [x31.toNat * 1]) rfl (lmap hc42) ?_
      have hl43 : LdOk [x31.toNat] (.row 1 (a0.map (AV.int .i64))) [x31.toNat * 1] 1 false (i6 (rd a0 x31.toNat)) := (.row (llt hc42) rfl (.nil rfl rfl rfl))
      refine vq (i6 (rd a0 x31.toNat)) (ld_ref (i := ⟨.int .i64, 1, 8, (.int .i64 0)⟩) rfl rfl hl43) hl43.c (vp (i6 x31) rfl (vp (i6 (rd a0 x31.toNat)) rfl (nx ⟨[(2, (ow 2)), (3, (ow 3)), (4, (i6 x31)), (5, (i6 (rd a0 x31.toNat))), (6, (eSi64 a0)), (7, (i6 (a0.length : Int))), (8, (i6 x31))], [(2, (bk (eA64u8 ((vrep 64 (0 : Int)))))), (3, (bk (eA64u8 x32)))]⟩ (by kernel_rfl) (a_region (vp (i6 x31) rfl (vp (i6 (rd a0 x31.toNat)) rfl (vp (b8 (IntKind.u8.wrap (rd a0 x31.toNat))) rfl ?_)))))))
      obtain ⟨hc44, h⟩ := ifp_some h
      refine vq (.own 3 [x31.toNat] [x31.toNat * 1]) rfl hc44 ?_
      have hs45 : StOk [x31.toNat] (eA64u8 x32) [x31.toNat * 1] 1 (b8 (IntKind.u8.wrap (rd a0 x31.toNat))) (eA64u8 ((vset x32 x31.toNat (IntKind.u8.wrap (rd a0 x31.toNat))))) := (.arr (y := IntKind.u8.wrap (rd a0 x31.toNat)) (vlt x32 hc44) rfl (.nil rfl rfl rfl rfl))
      refine vu .top [(3, (bk (eA64u8 ((vset x32 x31.toNat (IntKind.u8.wrap (rd a0 x31.toNat)))))))] (st_own (i := ⟨.int .u8, 1, 1, (.int .u8 0)⟩) rfl rfl (fun _ => rfl) rfl hs45) (hs45.c rfl) rfl (a_nil (b_norm (a_next (σ' := ⟨[(2, (ow 2)), (3, (ow 3)), (6, (eSi64 a0)), (7, (i6 (a0.length : Int))), (8, (i6 x31))], [(2, (bk (eA64u8 ((vrep 64 (0 : Int)))))), (3, (bk (eA64u8 ((vset x32 x31.toNat (IntKind.u8.wrap (rd a0 x31.toNat)))))))]⟩) (by kernel_rfl) (a_region (vp (i6 (IntKind.i64.wrap (x31 + 1))) rfl (vp (i6 (IntKind.i64.wrap (x31 + 1))) rfl (a_nil ?_)))))))
      cases h
      exact a_again (by kernel_rfl) hX40
def impl_told_c : ACode := (.seq (.region 0 [q 2 (.alloc 26), q 3 (.asg 0 (.const (.int .i64 0)) 2)] false) (.seq (.seq (.region 1 [q 4 (.mov (t 0)), q 5 (.call 0 (.func 140) [(t 4)]), q 6 (.un .not (t 5))] false) (.cond (t 6) (.seq (.region 2 [q 7 (.build 26 []), ⟨none, .store 26 (t 2) (t 7), none, []⟩, q 3 (.asg 0 (.const (.int .i64 3)) 2)] false) .ret) .skip)) (.seq (.region 3 [q 8 (.mov (t 0)), q 9 (.call 0 (.func 131) [(t 8)]), ⟨none, .store 26 (t 2) (t 9), none, []⟩, q 3 (.asg 0 (.const (.int .i64 0)) 2)] false) .ret)))
def impl_told_L : Live := [(0, [0]), (1, [0, 2]), (2, [2]), (3, [0, 2]), (100006, [0, 2, 6])]
noncomputable def impl_told (a0 : (List Int)) : Option ((Vec Int 64) × Int) :=
  (Option.bind (impl_row_fits a0) fun r1 => (if (!r1) then (some (((vrep 64 (0 : Int)), 3))) else (Option.bind (impl_row_poly a0) fun r4 => (some (r4, 0)))))
theorem impl_told_ok (a0 : (List Int)) (r : ((Vec Int 64) × Int)) (h : impl_told a0 = some r) : Den Try.prog 74 [(eSi64 a0)] { r := (.tuple [(eA64u8 r.1), (i6 r.2)]) } := by
  refine den_of (rs := [(eA64u8 r.1), (i6 r.2)]) (ac := impl_told_c) (L := impl_told_L) (n := 10) (m := []) (c := Try.f74.body.getD .skip) good Try.func74 (by kernel_rfl) (by kernel_rfl) Try.ntmps74 rfl rfl (by kernel_rfl) rfl rfl ?_
  refine a_st (σ' := ⟨[(0, (eSi64 a0))], []⟩) (by kernel_rfl) ?_
  unfold impl_told_c
  refine sr (vo 1200 (eA64u8 ((vrep 64 (0 : Int)))) rfl rfl (vp (i6 0) rfl (nx ⟨[(0, (eSi64 a0)), (2, (ow 2))], [(2, (bk (eA64u8 ((vrep 64 (0 : Int))))))]⟩ (by kernel_rfl) (a_seq (sr (vp (eSi64 a0) rfl ?_))))))
  obtain ⟨r1, hr2, h⟩ := bind_some h
  refine a_call (args := [(eSi64 a0)]) (u := []) (r := (.bool r1)) rfl rfl (impl_row_fits_ok a0 r1 hr2) rfl (vp (.bool (!r1)) rfl (nx ⟨[(0, (eSi64 a0)), (2, (ow 2)), (6, (.bool (!r1)))], [(2, (bk (eA64u8 ((vrep 64 (0 : Int))))))]⟩ (by kernel_rfl) ?_))
  cases hb3 : (!r1)
  · have h := ite_f hb3 h
    refine a_cond_f rfl (a_skip (a_next (σ' := ⟨[(0, (eSi64 a0)), (2, (ow 2))], [(2, (bk (eA64u8 ((vrep 64 (0 : Int))))))]⟩) (by kernel_rfl) (sr (vp (eSi64 a0) rfl ?_))))
    obtain ⟨r4, hr5, h⟩ := bind_some h
    refine a_call (args := [(eSi64 a0)]) (u := []) (r := (eA64u8 r4)) rfl rfl (impl_row_poly_ok a0 r4 hr5) rfl (vs (eA64u8 r4) rfl rfl (fun _ => rfl) rfl rfl rfl rfl rfl rfl (vp (i6 0) rfl (nx _ rfl (a_ret ?_))))
    have hl7 : LdOk [] (eA64u8 r4) [] 64 true (eA64u8 r4) := (.nil rfl rfl rfl)
    refine ⟨.inr rfl, ?_⟩
    rw [Try.results74]
    cases h
    exact ⟨_, _, _, _, _, ld_own (i := ⟨.arr 64 5, 64, 64, (eA64u8 (vrep 64 (0 : Int)))⟩) rfl rfl rfl hl7, hl7.c, .inl ⟨rfl, .inl rfl⟩, rfl, ⟨_, _, _, _, _, rfl, trivial, .inl ⟨rfl, .inl rfl⟩, rfl, rfl⟩⟩
  · have h := ite_t hb3 h
    refine a_cond_t rfl (sr (vq (eA64u8 ((vrep 64 (0 : Int)))) rfl ⟨⟨_, rfl, rfl⟩, all_nil⟩ (vs (eA64u8 ((vrep 64 (0 : Int)))) rfl rfl (fun _ => rfl) rfl rfl rfl rfl rfl rfl (vp (i6 3) rfl (nx _ rfl (a_ret (t_ret ?_)))))))
    have hl9 : LdOk [] (eA64u8 ((vrep 64 (0 : Int)))) [] 64 true (eA64u8 ((vrep 64 (0 : Int)))) := (.nil rfl rfl rfl)
    refine ⟨.inr rfl, ?_⟩
    rw [Try.results74]
    cases h
    exact ⟨_, _, _, _, _, ld_own (i := ⟨.arr 64 5, 64, 64, (eA64u8 (vrep 64 (0 : Int)))⟩) rfl rfl rfl hl9, hl9.c, .inl ⟨rfl, .inl rfl⟩, rfl, ⟨_, _, _, _, _, rfl, trivial, .inl ⟨rfl, .inl rfl⟩, rfl, rfl⟩⟩
def impl_InvariantOf_c : ACode := (.seq (.region 0 [q 1 (.box 58 (t 0)), q 2 (.alloc 26), q 3 (.asg 0 (.const (.int .i64 0)) 2)] false) (.seq (.seq (.region 1 [q 6 (.load 58 (t 1)), q 7 (.call 0 (.func 112) [(t 6), (.const (.slice none 0 0))]), q 4 (.asg 0 (t 7) 2)] false) (.seq (.region 2 [q 8 (.mov (t 4)), q 9 (.bin .neq 2 (t 8) (.const (.int .i64 0)))] false) (.cond (t 9) (.seq (.region 3 [q 10 (.build 26 []), q 11 (.mov (t 4)), ⟨none, .store 26 (t 2) (t 10), none, []⟩, q 3 (.asg 0 (t 11) 2)] false) .ret) .skip))) (.seq (.region 4 [q 12 (.load 58 (t 1)), q 13 (.call 0 (.func 113) [(t 12)]), q 5 (.alloc 128), ⟨none, .store 128 (t 5) (t 13), none, []⟩] false) (.seq (.region 5 [q 14 (.load 128 (t 5)), q 15 (.fieldAddr 128 (t 5) 0), ⟨some 16, .load 65 (t 15), none, [1]⟩, q 17 (.fieldAddr 58 (t 1) 2), ⟨some 18, .load 26 (t 17), none, [3]⟩, ⟨some 19, .call 0 (.func 68) [(t 18)], none, [4]⟩, q 20 (.fieldAddr 58 (t 1) 0), ⟨some 21, .load 2 (t 20), none, [6]⟩, ⟨some 22, .bin .add 2 (t 21) (.const (.int .i64 1)), none, [7]⟩, q 23 (.fieldAddr 128 (t 5) 1), ⟨some 24, .load 66 (t 23), none, [9]⟩, ⟨some 25, .call 0 (.func 115) [(t 16), (t 19), (t 22), (t 24)], none, [2, 5, 8, 10, 5]⟩, q 26 (.load 128 (t 5)), q 27 (.fieldAddr 58 (t 1) 3), ⟨some 28, .load 26 (t 27), none, [13]⟩, ⟨some 29, .call 0 (.func 68) [(t 28)], none, [14, 11]⟩, ⟨some 30, .call 0 (.func 116) [(t 26), (t 29)], none, [12, 15, 15]⟩, ⟨some 31, .call 0 (.func 114) [(t 14), (t 25), (t 30)], none, [0, 11, 16, 16]⟩, ⟨some 32, .call 0 (.func 74) [(t 31)], none, [17, 17]⟩, ⟨some 33, .extract (t 32) 0, none, [18]⟩, ⟨some 34, .extract (t 32) 1, none, [18]⟩, ⟨none, .store 26 (t 2) (t 33), none, [19, 18, 0, 1, 2, 3, 4, 5, 6, 7, 8, 9, 10, 11, 12, 13, 14, 15, 16, 17, 18, 19, 20]⟩, ⟨some 3, .asg 0 (t 34) 2, none, [20, 21, 0, 1, 2, 3, 4, 5, 6, 7, 8, 9, 10, 11, 12, 13, 14, 15, 16, 17, 18, 19, 20, 21]⟩] true) .ret))))
def impl_InvariantOf_L : Live := [(0, [0]), (1, [1, 2]), (2, [1, 2, 4]), (3, [2, 4]), (4, [1, 2]), (5, [1, 2, 5]), (100009, [1, 2, 4, 9])]
noncomputable def impl_InvariantOf (a0 : (Int × (Vec Int 64) × (Vec Int 64) × (Vec Int 64))) : Option ((Vec Int 64) × Int) :=
  (Option.bind (impl_drinfeldCode a0 ([])) fun r2 => (if (r2 != 0) then (some (((vrep 64 (0 : Int)), r2))) else (Option.bind (impl_Drinfeld_field a0) fun r6 => (Option.bind (impl_rowOf a0.2.2.1) fun r32 => (Option.bind (impl_prime_power r6.1 r32 (IntKind.i64.wrap (a0.1 + 1)) r6.2) fun r36 => (Option.bind (impl_rowOf a0.2.2.2) fun r40 => (Option.bind (impl_field_inverted r6 r40) fun r42 => (Option.bind (impl_field_product r6 r36 r42) fun r44 => (Option.bind (impl_told r44) fun r46 => (some (r46.1, r46.2)))))))))))
theorem impl_InvariantOf_ok (a0 : (Int × (Vec Int 64) × (Vec Int 64) × (Vec Int 64))) (r : ((Vec Int 64) × Int)) (h : impl_InvariantOf a0 = some r) : Den Try.prog 49 [(eT_i64_A64u8_A64u8_A64u8_Z a0)] { r := (.tuple [(eA64u8 r.1), (i6 r.2)]) } := by
  refine den_of (rs := [(eA64u8 r.1), (i6 r.2)]) (ac := impl_InvariantOf_c) (L := impl_InvariantOf_L) (n := 35) (m := []) (c := Try.f49.body.getD .skip) good Try.func49 (by kernel_rfl) (by kernel_rfl) Try.ntmps49 rfl rfl (by kernel_rfl) rfl rfl ?_
  refine a_st (σ' := ⟨[(0, (eT_i64_A64u8_A64u8_A64u8_Z a0))], []⟩) (by kernel_rfl) ?_
  unfold impl_InvariantOf_c
  refine sr (vo 1100 (eT_i64_A64u8_A64u8_A64u8_Z a0) rfl rfl (vo 1200 (eA64u8 ((vrep 64 (0 : Int)))) rfl rfl (vp (i6 0) rfl (nx ⟨[(1, (ow 1)), (2, (ow 2))], [(1, (bk (eT_i64_A64u8_A64u8_A64u8_Z a0))), (2, (bk (eA64u8 ((vrep 64 (0 : Int))))))]⟩ (by kernel_rfl) (a_seq (sr (vl (eT_i64_A64u8_A64u8_A64u8_Z a0) rfl rfl rfl rfl rfl rfl ?_)))))))
  obtain ⟨r2, hr3, h⟩ := bind_some h
  refine a_call (args := [(eT_i64_A64u8_A64u8_A64u8_Z a0), (.sl 0 true [])]) (u := []) (r := (i6 r2)) rfl rfl (Den.args (impl_drinfeldCode_ok a0 ([]) r2 hr3) rfl rfl (.cons (.refl _) (.cons (.nil _ _ _ _ (fun _ => rfl)) .nil))) rfl (vp (i6 r2) rfl (nx ⟨[(1, (ow 1)), (2, (ow 2)), (4, (i6 r2))], [(1, (bk (eT_i64_A64u8_A64u8_A64u8_Z a0))), (2, (bk (eA64u8 ((vrep 64 (0 : Int))))))]⟩ (by kernel_rfl) (sr (vp (i6 r2) rfl (vp (.bool (r2 != 0)) rfl (nx ⟨[(1, (ow 1)), (2, (ow 2)), (4, (i6 r2)), (9, (.bool (r2 != 0)))], [(1, (bk (eT_i64_A64u8_A64u8_A64u8_Z a0))), (2, (bk (eA64u8 ((vrep 64 (0 : Int))))))]⟩ (by kernel_rfl) ?_))))))
  cases hb4 : (r2 != 0)
  · have h := ite_f hb4 h
    refine a_cond_f rfl (a_skip (a_next (σ' := ⟨[(1, (ow 1)), (2, (ow 2))], [(1, (bk (eT_i64_A64u8_A64u8_A64u8_Z a0))), (2, (bk (eA64u8 ((vrep 64 (0 : Int))))))]⟩) (by kernel_rfl) (sr (vl (eT_i64_A64u8_A64u8_A64u8_Z a0) rfl rfl rfl rfl rfl rfl ?_))))
    obtain ⟨r6, hr7, h⟩ := bind_some h
    refine a_call (args := [(eT_i64_A64u8_A64u8_A64u8_Z a0)]) (u := []) (r := (eT_i64_Si64_Z r6)) rfl rfl (impl_Drinfeld_field_ok a0 r6 hr7) rfl (vo 1500 (eT_i64_Si64_Z (((0 : Int), []))) rfl rfl (vs (eT_i64_Si64_Z r6) rfl rfl (fun _ => rfl) rfl rfl rfl rfl rfl rfl (nx ⟨[(1, (ow 1)), (2, (ow 2)), (5, (ow 5))], [(1, (bk (eT_i64_A64u8_A64u8_A64u8_Z a0))), (2, (bk (eA64u8 ((vrep 64 (0 : Int)))))), (5, (bk (eT_i64_Si64_Z r6)))]⟩ (by kernel_rfl) (a_seq (a_draw [⟨[5], [], [], []⟩, ⟨[5], [], [5], []⟩, ⟨[5], [], [], [1]⟩, ⟨[1], [], [1], []⟩, ⟨[1], [], [], [3]⟩, ⟨[], [], [], [3, 4]⟩, ⟨[1], [], [1], []⟩, ⟨[1], [], [], [6]⟩, ⟨[], [], [], [6, 7]⟩, ⟨[5], [], [5], []⟩, ⟨[5], [], [], [9]⟩, ⟨[], [], [], [1, 2, 3, 4, 5, 6, 7, 8, 9, 10]⟩, ⟨[5], [], [], []⟩, ⟨[1], [], [1], []⟩, ⟨[1], [], [], [13]⟩, ⟨[], [], [], [1, 2, 3, 4, 5, 6, 7, 8, 9, 10, 11, 13, 14]⟩, ⟨[], [], [], [1, 2, 3, 4, 5, 6, 7, 8, 9, 10, 11, 12, 13, 14, 15]⟩, ⟨[], [], [], [0, 1, 2, 3, 4, 5, 6, 7, 8, 9, 10, 11, 12, 13, 14, 15, 16]⟩, ⟨[], [], [], [0, 1, 2, 3, 4, 5, 6, 7, 8, 9, 10, 11, 12, 13, 14, 15, 16, 17]⟩, ⟨[], [], [], [0, 1, 2, 3, 4, 5, 6, 7, 8, 9, 10, 11, 12, 13, 14, 15, 16, 17, 18]⟩, ⟨[], [], [], [0, 1, 2, 3, 4, 5, 6, 7, 8, 9, 10, 11, 12, 13, 14, 15, 16, 17, 18]⟩, ⟨[2], [2], [], [0, 1, 2, 3, 4, 5, 6, 7, 8, 9, 10, 11, 12, 13, 14, 15, 16, 17, 18, 19, 20]⟩, ⟨[], [], [], [0, 1, 2, 3, 4, 5, 6, 7, 8, 9, 10, 11, 12, 13, 14, 15, 16, 17, 18, 19, 20, 21]⟩] (by kernel_rfl) (d_cons (vl (eT_i64_Si64_Z r6) rfl rfl rfl rfl rfl rfl (d_next (by kernel_rfl) (d_cons ?_)))))))))
    refine vb (.own 5 [0] [0]) rfl rfl (d_next (by kernel_rfl) (d_cons ?_))
    have hl30 : LdOk [0] (eT_i64_Si64_Z r6) [0] 1 false (i6 r6.1) := (.fld rfl rfl rfl rfl (.nil rfl rfl rfl))
    refine vq (i6 r6.1) (ld_own (i := ⟨.int .i64, 1, 8, (.int .i64 0)⟩) rfl rfl rfl hl30) hl30.c (d_next (by kernel_rfl) (d_cons (vb (.own 1 [2] [65]) rfl rfl (d_next (by kernel_rfl) (d_cons ?_)))))
    have hl31 : LdOk [2] (eT_i64_A64u8_A64u8_A64u8_Z a0) [65] 64 true (eA64u8 a0.2.2.1) := (.fld rfl rfl rfl rfl (.nil rfl rfl rfl))
    refine vq (eA64u8 a0.2.2.1) (ld_own (i := ⟨.arr 64 5, 64, 64, (eA64u8 (vrep 64 (0 : Int)))⟩) rfl rfl rfl hl31) hl31.c (d_next (by kernel_rfl) (d_cons ?_))
    obtain ⟨r32, hr33, h⟩ := bind_some h
    refine a_call (args := [(eA64u8 a0.2.2.1)]) (u := []) (r := (eSi64 r32)) rfl rfl (impl_rowOf_ok a0.2.2.1 r32 hr33) rfl (d_next (by kernel_rfl) (d_cons (vb (.own 1 [0] [0]) rfl rfl (d_next (by kernel_rfl) (d_cons ?_)))))
    have hl34 : LdOk [0] (eT_i64_A64u8_A64u8_A64u8_Z a0) [0] 1 false (i6 a0.1) := (.fld rfl rfl rfl rfl (.nil rfl rfl rfl))
    refine vq (i6 a0.1) (ld_own (i := ⟨.int .i64, 1, 8, (.int .i64 0)⟩) rfl rfl rfl hl34) hl34.c (d_next (by kernel_rfl) (dp (i6 (IntKind.i64.wrap (a0.1 + 1))) rfl (by kernel_rfl) (d_cons (vb (.own 5 [1] [1]) rfl rfl (d_next (by kernel_rfl) (d_cons ?_))))))
    have hl35 : LdOk [1] (eT_i64_Si64_Z r6) [1] 1 false (eSi64 r6.2) := (.fld rfl rfl rfl rfl (.nil rfl rfl rfl))
    refine vq (eSi64 r6.2) (ld_own (i := ⟨.slice 2, 1, 24, (eSi64 [])⟩) rfl rfl rfl hl35) hl35.c (d_next (by kernel_rfl) (d_cons ?_))
    obtain ⟨r36, hr37, h⟩ := bind_some h
    refine a_call (args := [(i6 r6.1), (eSi64 r32), (i6 (IntKind.i64.wrap (a0.1 + 1))), (eSi64 r6.2)]) (u := []) (r := (eSi64 r36)) rfl rfl (impl_prime_power_ok r6.1 r32 (IntKind.i64.wrap (a0.1 + 1)) r6.2 r36 hr37) rfl (d_next (by kernel_rfl) (d_cons (vl (eT_i64_Si64_Z r6) rfl rfl rfl rfl rfl rfl (d_next (by kernel_rfl) (d_cons (vb (.own 1 [3] [129]) rfl rfl (d_next (by kernel_rfl) (d_cons ?_))))))))
    have hl39 : LdOk [3] (eT_i64_A64u8_A64u8_A64u8_Z a0) [129] 64 true (eA64u8 a0.2.2.2) := (.fld rfl rfl rfl rfl (.nil rfl rfl rfl))
    refine vq (eA64u8 a0.2.2.2) (ld_own (i := ⟨.arr 64 5, 64, 64, (eA64u8 (vrep 64 (0 : Int)))⟩) rfl rfl rfl hl39) hl39.c (d_next (by kernel_rfl) (d_cons ?_))
    obtain ⟨r40, hr41, h⟩ := bind_some h
    refine a_call (args := [(eA64u8 a0.2.2.2)]) (u := []) (r := (eSi64 r40)) rfl rfl (impl_rowOf_ok a0.2.2.2 r40 hr41) rfl (d_next (by kernel_rfl) (d_cons ?_))
    obtain ⟨r42, hr43, h⟩ := bind_some h
    refine a_call (args := [(eT_i64_Si64_Z r6), (eSi64 r40)]) (u := []) (r := (eSi64 r42)) rfl rfl (impl_field_inverted_ok r6 r40 r42 hr43) rfl (d_next (by kernel_rfl) (d_cons ?_))
    obtain ⟨r44, hr45, h⟩ := bind_some h
    refine a_call (args := [(eT_i64_Si64_Z r6), (eSi64 r36), (eSi64 r42)]) (u := []) (r := (eSi64 r44)) rfl rfl (impl_field_product_ok r6 r36 r42 r44 hr45) rfl (d_next (by kernel_rfl) (d_cons ?_))
    obtain ⟨r46, hr47, h⟩ := bind_some h
    refine a_call (args := [(eSi64 r44)]) (u := []) (r := (.tuple [(eA64u8 r46.1), (i6 r46.2)])) rfl rfl (impl_told_ok r44 r46 hr47) rfl (d_next (by kernel_rfl) (d_cons (vb (eA64u8 r46.1) rfl rfl (d_next (by kernel_rfl) (d_cons (vb (i6 r46.2) rfl rfl (d_next (by kernel_rfl) (d_cons (vs (eA64u8 r46.1) rfl rfl (fun _ => rfl) rfl rfl rfl rfl rfl rfl ?_)))))))))
    refine d_next (by kernel_rfl) (dp (i6 r46.2) rfl (by kernel_rfl) (d_nil (a_next rfl (a_ret ?_))))
    have hl49 : LdOk [] (eA64u8 r46.1) [] 64 true (eA64u8 r46.1) := (.nil rfl rfl rfl)
    refine ⟨.inr rfl, ?_⟩
    rw [Try.results49]
    cases h
    exact ⟨_, _, _, _, _, ld_own (i := ⟨.arr 64 5, 64, 64, (eA64u8 (vrep 64 (0 : Int)))⟩) rfl rfl rfl hl49, hl49.c, .inl ⟨rfl, .inl rfl⟩, rfl, ⟨_, _, _, _, _, rfl, trivial, .inl ⟨rfl, .inl rfl⟩, rfl, rfl⟩⟩
  · have h := ite_t hb4 h
    refine a_cond_t rfl (sr (vq (eA64u8 ((vrep 64 (0 : Int)))) rfl ⟨⟨_, rfl, rfl⟩, all_nil⟩ (vp (i6 r2) rfl (vs (eA64u8 ((vrep 64 (0 : Int)))) rfl rfl (fun _ => rfl) rfl rfl rfl rfl rfl rfl (vp (i6 r2) rfl (nx _ rfl (a_ret (t_ret ?_))))))))
    have hl51 : LdOk [] (eA64u8 ((vrep 64 (0 : Int)))) [] 64 true (eA64u8 ((vrep 64 (0 : Int)))) := (.nil rfl rfl rfl)
    refine ⟨.inr rfl, ?_⟩
    rw [Try.results49]
    cases h
    exact ⟨_, _, _, _, _, ld_own (i := ⟨.arr 64 5, 64, 64, (eA64u8 (vrep 64 (0 : Int)))⟩) rfl rfl rfl hl51, hl51.c, .inl ⟨rfl, .inl rfl⟩, rfl, ⟨_, _, _, _, _, rfl, trivial, .inl ⟨rfl, .inl rfl⟩, rfl, rfl⟩⟩
def laws_eqPoly_c : ACode := (.seq (.region 0 [q 2 (.box 26 (t 0)), q 3 (.box 26 (t 1)), q 4 (.asg 0 (.const (.bool false)) 4)] false) (.seq (.seq (.region 1 [q 5 (.asg 0 (.const (.int .i64 0)) 3)] false) (.block 0 (.loop (.seq (.seq (.region 2 [q 6 (.mov (t 5)), q 7 (.bin .lss 3 (t 6) (.const (.int .i64 64)))] false) (.cond (t 7) .skip (.exit 0))) (.seq (.block 1 (.seq (.region 4 [q 10 (.mov (t 5)), ⟨some 11, .indexAddr 26 (t 2) (t 10), none, [0]⟩, ⟨some 12, .load 5 (t 11), none, [1]⟩, q 13 (.mov (t 5)), ⟨some 14, .indexAddr 26 (t 3) (t 13), none, [3]⟩, ⟨some 15, .load 5 (t 14), none, [4]⟩, ⟨some 16, .bin .neq 5 (t 12) (t 15), none, [2, 5]⟩] true) (.cond (t 16) (.seq (.region 5 [q 4 (.asg 0 (.const (.bool false)) 4)] false) .ret) .skip))) (.region 3 [q 8 (.mov (t 5)), q 9 (.bin .add 3 (t 8) (.const (.int .i64 1))), q 5 (.asg 0 (t 9) 3)] false)))))) (.seq (.region 6 [q 4 (.asg 0 (.const (.bool true)) 4)] false) .ret)))
def laws_eqPoly_L : Live := [(0, [0, 1]), (1, [2, 3]), (2, [2, 3, 5]), (3, [2, 3, 5]), (4, [2, 3, 5]), (5, []), (6, []), (100007, [2, 3, 5, 7]), (100016, [2, 3, 5, 16])]
noncomputable def laws_eqPoly_l1 (a0 : (Vec Int 64)) (a1 : (Vec Int 64)) (x49 : Int) : Option (Int ⊕ (Unit ⊕ Bool)) :=
  (if (decide (x49 < 64)) then (ifp (0 ≤ x49 ∧ x49 < ((64 : Nat) : Int)) ((ifp (0 ≤ x49 ∧ x49 < ((64 : Nat) : Int)) ((if ((rd a0.1 x49.toNat) != (rd a1.1 x49.toNat)) then (some (.inr (.inr false))) else (some (.inl (IntKind.i64.wrap (x49 + 1))))))))) else (some (.inr (((.inl ()))))))
noncomputable def laws_eqPoly (a0 : (Vec Int 64)) (a1 : (Vec Int 64)) : Option Bool :=
  (Option.bind (α := (Unit ⊕ Bool)) ((loopM (fun s : Int => laws_eqPoly_l1 a0 a1 s) 0)) fun z => match z with | .inl _ => (some true) | .inr r74 => (some r74))
theorem laws_eqPoly_ok (a0 : (Vec Int 64)) (a1 : (Vec Int 64)) (r : Bool) (h : laws_eqPoly a0 a1 = some r) : Den Try.prog 34 [(eA64u8 a0), (eA64u8 a1)] { r := (.bool r) } := by
  refine den_of (rs := [(.bool r)]) (ac := laws_eqPoly_c) (L := laws_eqPoly_L) (n := 17) (m := []) (c := Try.f34.body.getD .skip) good Try.func34 (by kernel_rfl) (by kernel_rfl) Try.ntmps34 rfl rfl (by kernel_rfl) rfl rfl ?_
  refine a_st (σ' := ⟨[(0, (eA64u8 a0)), (1, (eA64u8 a1))], []⟩) (by kernel_rfl) ?_
  unfold laws_eqPoly_c
  refine sr (vo 1200 (eA64u8 a0) rfl rfl (vo 1300 (eA64u8 a1) rfl rfl (vp (.bool false) rfl (nx ⟨[(2, (ow 2)), (3, (ow 3))], [(2, (bk (eA64u8 a0))), (3, (bk (eA64u8 a1)))]⟩ (by kernel_rfl) ?_))))
  obtain ⟨y36, hy37, hk38⟩ := bind_some h
  clear h
  refine a_join (emb := fun (s : Unit) => ⟨[], []⟩) (pre := fun s => (.inl s) = y36) ?_ ?_
  · rintro _ rfl
    have h := hk38
    refine a_st (σ' := ⟨[], []⟩) (by kernel_rfl) (sr (vp (.bool true) rfl (nx _ rfl (a_ret ?_))))
    refine ⟨.inr rfl, ?_⟩
    rw [Try.results34]
    cases h
    exact ⟨_, _, _, _, _, rfl, trivial, .inl ⟨rfl, .inl rfl⟩, rfl, rfl⟩
  · have h := hy37
    refine sr (vp (i6 0) rfl (nx ⟨[(2, (ow 2)), (3, (ow 3)), (5, (i6 0))], [(2, (bk (eA64u8 a0))), (3, (bk (eA64u8 a1)))]⟩ (by kernel_rfl) (a_block ?_)))
    refine a_loop (emb := fun (s : Int) => ⟨[(2, (ow 2)), (3, (ow 3)), (5, (i6 s))], [(2, (bk (eA64u8 a0))), (3, (bk (eA64u8 a1)))]⟩) (body := (fun s : Int => laws_eqPoly_l1 a0 a1 s)) (G := fun q => some q = some y36) h rfl ?_ (by kernel_rfl)
    rintro X60 x49 x61 h hX62
    have h : laws_eqPoly_l1 a0 a1 x49 = some x61 := h
    refine a_st (σ' := ⟨[(2, (ow 2)), (3, (ow 3)), (5, (i6 x49))], [(2, (bk (eA64u8 a0))), (3, (bk (eA64u8 a1)))]⟩) (by kernel_rfl) (a_seq (sr (vp (i6 x49) rfl (vp (.bool ((decide (x49 < 64)))) rfl (nx ⟨[(2, (ow 2)), (3, (ow 3)), (5, (i6 x49)), (7, (.bool ((decide (x49 < 64)))))], [(2, (bk (eA64u8 a0))), (3, (bk (eA64u8 a1)))]⟩ (by kernel_rfl) ?_)))))
    cases hb63 : (decide (x49 < 64))
    · have h := ite_f hb63 h
      refine a_cond_f rfl (a_exit (t_exit ?_))
      cases h
      have h := hX62
      refine t_exit (b_exit ?_)
      exact j_leaf () (Option.some.inj h) (by kernel_rfl)
    · have h := ite_t hb63 h
      refine a_cond_t rfl (a_skip (a_next (σ' := ⟨[(2, (ow 2)), (3, (ow 3)), (5, (i6 x49))], [(2, (bk (eA64u8 a0))), (3, (bk (eA64u8 a1)))]⟩) (by kernel_rfl) (a_seq (a_block (a_seq (a_draw [⟨[], [], [], []⟩, ⟨[2], [], [2], [0]⟩, ⟨[2], [], [], [0, 1]⟩, ⟨[], [], [], []⟩, ⟨[3], [], [3], [3]⟩, ⟨[3], [], [], [3, 4]⟩, ⟨[], [], [], [0, 1, 2, 3, 4, 5]⟩] (by kernel_rfl) (dp (i6 x49) rfl (by kernel_rfl) (d_cons ?_))))))))
      obtain ⟨hc68, h⟩ := ifp_some h
      refine vq (.own 2 [x49.toNat] [x49.toNat * 1]) rfl hc68 (d_next (by kernel_rfl) (d_cons ?_))
      have hl69 : LdOk [x49.toNat] (eA64u8 a0) [x49.toNat * 1] 1 false (b8 (rd a0.1 x49.toNat)) := (.arr (vlt a0 hc68) rfl (.nil rfl rfl rfl))
      refine vq (b8 (rd a0.1 x49.toNat)) (ld_own (i := ⟨.int .u8, 1, 1, (.int .u8 0)⟩) rfl rfl rfl hl69) hl69.c (d_next (by kernel_rfl) (dp (i6 x49) rfl (by kernel_rfl) (d_cons ?_)))
      obtain ⟨hc70, h⟩ := ifp_some h
      refine vq (.own 3 [x49.toNat] [x49.toNat * 1]) rfl hc70 (d_next (by kernel_rfl) (d_cons ?_))
      have hl71 : LdOk [x49.toNat] (eA64u8 a1) [x49.toNat * 1] 1 false (b8 (rd a1.1 x49.toNat)) := (.arr (vlt a1 hc70) rfl (.nil rfl rfl rfl))
      refine vq (b8 (rd a1.1 x49.toNat)) (ld_own (i := ⟨.int .u8, 1, 1, (.int .u8 0)⟩) rfl rfl rfl hl71) hl71.c (d_next (by kernel_rfl) (dp (.bool (((rd a0.1 x49.toNat) != (rd a1.1 x49.toNat)))) rfl (by kernel_rfl) (d_nil (a_next (σ' := ⟨[(2, (ow 2)), (3, (ow 3)), (5, (i6 x49)), (16, (.bool (((rd a0.1 x49.toNat) != (rd a1.1 x49.toNat)))))], [(2, (bk (eA64u8 a0))), (3, (bk (eA64u8 a1)))]⟩) (by kernel_rfl) ?_))))
      cases hb72 : ((rd a0.1 x49.toNat) != (rd a1.1 x49.toNat))
      · have h := ite_f hb72 h
        refine a_cond_f rfl (a_skip (b_norm (a_next (σ' := ⟨[(2, (ow 2)), (3, (ow 3)), (5, (i6 x49))], [(2, (bk (eA64u8 a0))), (3, (bk (eA64u8 a1)))]⟩) (by kernel_rfl) (a_region (vp (i6 x49) rfl (vp (i6 (IntKind.i64.wrap (x49 + 1))) rfl (vp (i6 (IntKind.i64.wrap (x49 + 1))) rfl (a_nil ?_))))))))
        cases h
        exact a_again (by kernel_rfl) hX62
      · have h := ite_t hb72 h
        refine a_cond_t rfl (sr (vp (.bool false) rfl (nx _ rfl (a_ret (b_ret (t_ret ?_))))))
        cases h
        have h := hX62
        refine t_ret (b_ret (t_ret ?_))
        cases h
        have h := hk38
        refine ⟨.inr rfl, ?_⟩
        rw [Try.results34]
        cases h
        exact ⟨_, _, _, _, _, rfl, trivial, .inl ⟨rfl, .inl rfl⟩, rfl, rfl⟩
def laws_FnExactInvariantOf_c : ACode := (.seq (.region 0 [q 1 (.box 55 (t 0)), q 2 (.asg 0 (.const (.bool false)) 4)] false) (.seq (.region 1 [q 8 (.load 55 (t 1)), q 9 (.call 0 (.func 48) [(t 8)]), q 10 (.call 0 (.func 47) [(t 9)]), q 7 (.mov (t 10)), q 11 (.extract (t 7) 0), q 12 (.extract (t 7) 1), q 3 (.alloc 26), ⟨none, .store 26 (t 3) (t 11), none, []⟩, q 4 (.asg 0 (t 12) 2)] false) (.seq (.region 2 [q 14 (.load 55 (t 1)), q 15 (.call 0 (.func 48) [(t 14)]), q 16 (.call 0 (.func 49) [(t 15)]), q 13 (.mov (t 16)), q 17 (.extract (t 13) 0), q 18 (.extract (t 13) 1), q 5 (.alloc 26), ⟨none, .store 26 (t 5) (t 17), none, []⟩, q 6 (.asg 0 (t 18) 2)] false) (.seq (.seq (.region 3 [q 19 (.load 26 (t 5)), q 20 (.load 26 (t 3)), q 21 (.call 0 (.func 34) [(t 19), (t 20)]), q 22 (.un .not (t 21)), q 23 (.mov (t 22)), ⟨some 24, .mov (t 6), some (23, false), []⟩, ⟨some 25, .mov (t 4), some (23, false), []⟩, ⟨some 26, .bin .neq 2 (t 24) (t 25), some (23, false), []⟩, q 27 (.pick (t 23) (.const (.bool true)) (t 26))] false) (.cond (t 27) (.seq (.region 4 [q 2 (.asg 0 (.const (.bool false)) 4)] false) .ret) .skip)) (.seq (.region 5 [q 2 (.asg 0 (.const (.bool true)) 4)] false) .ret)))))
def laws_FnExactInvariantOf_L : Live := [(0, [0]), (1, [1]), (2, [1, 3, 4]), (3, [3, 4, 5, 6]), (4, []), (5, []), (100027, [27])]
noncomputable def laws_FnExactInvariantOf (a0 : (Int × (Vec Int 64) × (Vec Int 64) × (Vec Int 64))) : Option Bool :=
  (Option.bind (laws_toDrinfeld a0) fun r2 => (Option.bind (spec_InvariantOf r2) fun r4 => (Option.bind (laws_toDrinfeld a0) fun r8 => (Option.bind (impl_InvariantOf r8) fun r10 => (Option.bind (α := Bool) ((Option.bind (laws_eqPoly r10.1 r4.1) fun r24 => (if (!r24) then (some true) else (some (r10.2 != r4.2))))) fun x18 => (if x18 then (some false) else (some true)))))))
theorem laws_FnExactInvariantOf_ok (a0 : (Int × (Vec Int 64) × (Vec Int 64) × (Vec Int 64))) (r : Bool) (h : laws_FnExactInvariantOf a0 = some r) : Den Try.prog 13 [(eT_i64_A64u8_A64u8_A64u8_Z a0)] { r := (.bool r) } := by
  refine den_of (rs := [(.bool r)]) (ac := laws_FnExactInvariantOf_c) (L := laws_FnExactInvariantOf_L) (n := 28) (m := []) (c := Try.f13.body.getD .skip) good Try.func13 (by kernel_rfl) (by kernel_rfl) Try.ntmps13 rfl rfl (by kernel_rfl) rfl rfl ?_
  refine a_st (σ' := ⟨[(0, (eT_i64_A64u8_A64u8_A64u8_Z a0))], []⟩) (by kernel_rfl) ?_
  unfold laws_FnExactInvariantOf_c
  refine sr (vo 1100 (eT_i64_A64u8_A64u8_A64u8_Z a0) rfl rfl (vp (.bool false) rfl (nx ⟨[(1, (ow 1))], [(1, (bk (eT_i64_A64u8_A64u8_A64u8_Z a0)))]⟩ (by kernel_rfl) (sr (vl (eT_i64_A64u8_A64u8_A64u8_Z a0) rfl rfl rfl rfl rfl rfl ?_)))))
  obtain ⟨r2, hr3, h⟩ := bind_some h
  refine a_call (args := [(eT_i64_A64u8_A64u8_A64u8_Z a0)]) (u := []) (r := (eT_i64_A64u8_A64u8_A64u8_Z r2)) rfl rfl (laws_toDrinfeld_ok a0 r2 hr3) rfl ?_
  obtain ⟨r4, hr5, h⟩ := bind_some h
  refine a_call (args := [(eT_i64_A64u8_A64u8_A64u8_Z r2)]) (u := []) (r := (.tuple [(eA64u8 r4.1), (i6 r4.2)])) rfl rfl (spec_InvariantOf_ok r2 r4 hr5) rfl (vp (.tuple [(eA64u8 r4.1), (i6 r4.2)]) rfl (vb (eA64u8 r4.1) rfl rfl (vb (i6 r4.2) rfl rfl (vo 1300 (eA64u8 ((vrep 64 (0 : Int)))) rfl rfl (vs (eA64u8 r4.1) rfl rfl (fun _ => rfl) rfl rfl rfl rfl rfl rfl (vp (i6 r4.2) rfl (nx ⟨[(1, (ow 1)), (3, (ow 3)), (4, (i6 r4.2))], [(1, (bk (eT_i64_A64u8_A64u8_A64u8_Z a0))), (3, (bk (eA64u8 r4.1)))]⟩ (by kernel_rfl) (sr (vl (eT_i64_A64u8_A64u8_A64u8_Z a0) rfl rfl rfl rfl rfl rfl ?_)))))))))
  obtain ⟨r8, hr9, h⟩ := bind_some h
  refine a_call (args := [(eT_i64_A64u8_A64u8_A64u8_Z a0)]) (u := []) (r := (eT_i64_A64u8_A64u8_A64u8_Z r8)) rfl rfl (laws_toDrinfeld_ok a0 r8 hr9) rfl ?_
  obtain ⟨r10, hr11, h⟩ := bind_some h
  refine a_call (args := [(eT_i64_A64u8_A64u8_A64u8_Z r8)]) (u := []) (r := (.tuple [(eA64u8 r10.1), (i6 r10.2)])) rfl rfl (impl_InvariantOf_ok r8 r10 hr11) rfl (vp (.tuple [(eA64u8 r10.1), (i6 r10.2)]) rfl (vb (eA64u8 r10.1) rfl rfl (vb (i6 r10.2) rfl rfl (vo 1500 (eA64u8 ((vrep 64 (0 : Int)))) rfl rfl (vs (eA64u8 r10.1) rfl rfl (fun _ => rfl) rfl rfl rfl rfl rfl rfl (vp (i6 r10.2) rfl (nx ⟨[(3, (ow 3)), (4, (i6 r4.2)), (5, (ow 5)), (6, (i6 r10.2))], [(3, (bk (eA64u8 r4.1))), (5, (bk (eA64u8 r10.1)))]⟩ (by kernel_rfl) (a_seq ?_))))))))
  obtain ⟨y19, hy20, hk21⟩ := bind_some h
  clear h
  refine a_join (emb := fun (s : Bool) => ⟨[(27, (.bool s))], []⟩) (pre := fun s => s = y19) ?_ ?_
  · rintro x18 rfl
    have h := hk21
    refine a_st (σ' := ⟨[(27, (.bool x18))], []⟩) (by kernel_rfl) ?_
    cases hb27 : x18
    · have h := ite_f hb27 h
      refine a_cond_f rfl (a_skip (a_next (σ' := ⟨[], []⟩) (by kernel_rfl) (sr (vp (.bool true) rfl (nx _ rfl (a_ret ?_))))))
      refine ⟨.inr rfl, ?_⟩
      rw [Try.results13]
      cases h
      exact ⟨_, _, _, _, _, rfl, trivial, .inl ⟨rfl, .inl rfl⟩, rfl, rfl⟩
    · have h := ite_t hb27 h
      refine a_cond_t rfl (sr (vp (.bool false) rfl (nx _ rfl (a_ret (t_ret ?_)))))
      refine ⟨.inr rfl, ?_⟩
      rw [Try.results13]
      cases h
      exact ⟨_, _, _, _, _, rfl, trivial, .inl ⟨rfl, .inl rfl⟩, rfl, rfl⟩
  · have h := hy20
    refine a_region (vl (eA64u8 r10.1) rfl rfl rfl rfl rfl rfl (vl (eA64u8 r4.1) rfl rfl rfl rfl rfl rfl ?_))
    obtain ⟨r24, hr25, h⟩ := bind_some h
    refine a_call (args := [(eA64u8 r10.1), (eA64u8 r4.1)]) (u := []) (r := (.bool r24)) rfl rfl (laws_eqPoly_ok r10.1 r4.1 r24 hr25) rfl (vp (.bool (!r24)) rfl (vp (.bool (!r24)) rfl ?_))
    cases hb26 : (!r24)
    · have h := ite_f hb26 h
      refine gp (i6 r10.2) rfl rfl (gp (i6 r4.2) rfl rfl (gp (.bool (r10.2 != r4.2)) rfl rfl (vp (.bool (r10.2 != r4.2)) rfl (a_nil ?_))))
      exact j_leaf (r10.2 != r4.2) (Option.some.inj h) (by kernel_rfl)
    · have h := ite_t hb26 h
      refine a_gskip rfl (a_gskip rfl (a_gskip rfl (vp (.bool true) rfl (a_nil ?_))))
      exact j_leaf true (Option.some.inj h) (by kernel_rfl)
def spec_l01Count_c : ACode := (.seq (.region 0 [q 4 (.asg 0 (.const (.int .i64 0)) 2)] false) (.seq (.region 1 [q 5 (.asg 0 (.const (.int .i64 1)) 2)] false) (.seq (.block 0 (.loop (.seq (.seq (.region 2 [q 6 (.mov (t 1)), q 7 (.bin .gtr 2 (t 6) (.const (.int .i64 0))), q 8 (.mov (t 7)), ⟨some 9, .mov (t 5), some (8, true), []⟩, ⟨some 10, .bin .leq 2 (t 9) (.const (.int .i64 1000000000000)), some (8, true), []⟩, q 11 (.pick (t 8) (t 10) (.const (.bool false)))] false) (.cond (t 11) .skip (.exit 0))) (.seq (.block 1 (.region 4 [q 14 (.mov (t 5)), q 15 (.mov (t 0)), q 16 (.bin .mul 2 (t 14) (t 15)), q 5 (.asg 0 (t 16) 2)] false)) (.region 3 [q 12 (.mov (t 1)), q 13 (.bin .sub 2 (t 12) (.const (.int .i64 1))), q 1 (.asg 0 (t 13) 2)] false))))) (.seq (.region 5 [q 17 (.mov (t 5)), q 18 (.blt 0 .min [(t 17), (.const (.int .i64 1000000000001))] [2, 2]), q 4 (.asg 0 (t 18) 2)] false) .ret))))
def spec_l01Count_L : Live := [(0, [0, 1]), (1, [0, 1]), (2, [0, 1, 5]), (3, [0, 1, 5]), (4, [0, 1, 5]), (5, [5]), (100011, [0, 1, 5, 11])]
noncomputable def spec_l01Count_l1 (a0 : Int) (x39 : Int) (x40 : Int) : Option ((Int × Int) ⊕ Int) :=
  (Option.bind (α := Bool) ((if (decide (x39 > 0)) then (some ((decide (x40 ≤ 1000000000000)))) else (some false))) fun x52 => (if x52 then (some (.inl ((IntKind.i64.wrap (x39 - 1), IntKind.i64.wrap (x40 * a0))))) else (some (.inr x40))))
noncomputable def spec_l01Count (a0 : Int) (a1 : Int) : Option Int :=
  (Option.bind (α := Int) ((loopM (fun s : (Int × Int) => spec_l01Count_l1 a0 s.1 s.2) (a1, 1))) fun x28 => (some (if 1000000000001 < x28 then 1000000000001 else x28)))
theorem spec_l01Count_ok (a0 : Int) (a1 : Int) (r : Int) (h : spec_l01Count a0 a1 = some r) : Den Try.prog 104 [(i6 a0), (i6 a1)] { r := (i6 r) } := by
  refine den_of (rs := [(i6 r)]) (ac := spec_l01Count_c) (L := spec_l01Count_L) (n := 19) (m := []) (c := Try.f104.body.getD .skip) good Try.func104 (by kernel_rfl) (by kernel_rfl) Try.ntmps104 rfl rfl (by kernel_rfl) rfl rfl ?_
  refine a_st (σ' := ⟨[(0, (i6 a0)), (1, (i6 a1))], []⟩) (by kernel_rfl) ?_
  unfold spec_l01Count_c
  refine sr (vp (i6 0) rfl (nx ⟨[(0, (i6 a0)), (1, (i6 a1))], []⟩ (by kernel_rfl) (sr (vp (i6 1) rfl (nx ⟨[(0, (i6 a0)), (1, (i6 a1)), (5, (i6 1))], []⟩ (by kernel_rfl) ?_)))))
  obtain ⟨y29, hy30, hk31⟩ := bind_some h
  clear h
  refine a_join (emb := fun (s : Int) => ⟨[(5, (i6 s))], []⟩) (pre := fun s => s = y29) ?_ ?_
  · rintro x28 rfl
    have h := hk31
    refine a_st (σ' := ⟨[(5, (i6 x28))], []⟩) (by kernel_rfl) (sr (vp (i6 x28) rfl (vp (i6 (if 1000000000001 < x28 then 1000000000001 else x28)) rfl (vp (i6 (if 1000000000001 < x28 then 1000000000001 else x28)) rfl (nx _ rfl (a_ret ?_))))))
    refine ⟨.inr rfl, ?_⟩
    rw [Try.results104]
    cases h
    exact ⟨_, _, _, _, _, rfl, trivial, .inl ⟨rfl, .inl rfl⟩, rfl, rfl⟩
  · have h := hy30
    refine a_block ?_
    refine a_loop (emb := fun (s : (Int × Int)) => ⟨[(0, (i6 a0)), (1, (i6 s.1)), (5, (i6 s.2))], []⟩) (body := (fun s : (Int × Int) => spec_l01Count_l1 a0 s.1 s.2)) (G := fun q => some q = some y29) h rfl ?_ (by kernel_rfl)
    rintro X48 ⟨x39, x40⟩ x49 h hX50
    have h : spec_l01Count_l1 a0 x39 x40 = some x49 := h
    refine a_st (σ' := ⟨[(0, (i6 a0)), (1, (i6 x39)), (5, (i6 x40))], []⟩) (by kernel_rfl) (a_seq ?_)
    obtain ⟨y53, hy54, hk55⟩ := bind_some h
    clear h
    refine a_join (emb := fun (s : Bool) => ⟨[(0, (i6 a0)), (1, (i6 x39)), (5, (i6 x40)), (11, (.bool s))], []⟩) (pre := fun s => s = y53) ?_ ?_
    · rintro x52 rfl
      have h := hk55
      refine a_st (σ' := ⟨[(0, (i6 a0)), (1, (i6 x39)), (5, (i6 x40)), (11, (.bool x52))], []⟩) (by kernel_rfl) ?_
      cases hb57 : x52
      · have h := ite_f hb57 h
        refine a_cond_f rfl (a_exit (t_exit ?_))
        cases h
        have h := hX50
        refine t_exit (b_exit ?_)
        exact j_leaf x40 (Option.some.inj h) (by kernel_rfl)
      · have h := ite_t hb57 h
        refine a_cond_t rfl (a_skip (a_next (σ' := ⟨[(0, (i6 a0)), (1, (i6 x39)), (5, (i6 x40))], []⟩) (by kernel_rfl) (a_seq (a_block (a_region (vp (i6 x40) rfl (vp (i6 a0) rfl (vp (i6 (IntKind.i64.wrap (x40 * a0))) rfl (vp (i6 (IntKind.i64.wrap (x40 * a0))) rfl ?_)))))))))
        refine a_nil (b_norm (a_next (σ' := ⟨[(0, (i6 a0)), (1, (i6 x39)), (5, (i6 (IntKind.i64.wrap (x40 * a0))))], []⟩) (by kernel_rfl) (a_region (vp (i6 x39) rfl (vp (i6 (IntKind.i64.wrap (x39 - 1))) rfl (vp (i6 (IntKind.i64.wrap (x39 - 1))) rfl (a_nil ?_)))))))
        cases h
        exact a_again (by kernel_rfl) hX50
    · have h := hy54
      refine a_region (vp (i6 x39) rfl (vp (.bool ((decide (x39 > 0)))) rfl (vp (.bool ((decide (x39 > 0)))) rfl ?_)))
      cases hb56 : (decide (x39 > 0))
      · have h := ite_f hb56 h
        refine a_gskip rfl (a_gskip rfl (vp (.bool false) rfl (a_nil ?_)))
        exact j_leaf false (Option.some.inj h) (by kernel_rfl)
      · have h := ite_t hb56 h
        refine gp (i6 x40) rfl rfl (gp (.bool ((decide (x40 ≤ 1000000000000)))) rfl rfl (vp (.bool ((decide (x40 ≤ 1000000000000)))) rfl (a_nil ?_)))
        exact j_leaf ((decide (x40 ≤ 1000000000000))) (Option.some.inj h) (by kernel_rfl)
def spec_l01Of_c : ACode := (.seq (.region 0 [q 4 (.alloc 26)] false) (.seq (.region 1 [q 7 (.build 26 []), q 5 (.alloc 26), ⟨none, .store 26 (t 5) (t 7), none, []⟩] false) (.seq (.seq (.region 2 [q 6 (.asg 0 (.const (.int .i64 0)) 3)] false) (.block 0 (.loop (.seq (.seq (.region 3 [q 8 (.mov (t 1)), q 9 (.bin .gtr 2 (t 8) (.const (.int .i64 0)))] false) (.cond (t 9) .skip (.exit 0))) (.seq (.block 1 (.seq (.region 5 [q 12 (.mov (t 6)), q 13 (.mov (t 1)), q 14 (.mov (t 0)), q 15 (.bin .rem 2 (t 13) (t 14)), q 16 (.conv 2 5 (t 15)), q 17 (.indexAddr 26 (t 5) (t 12)), ⟨none, .store 5 (t 17) (t 16), none, []⟩] false) (.region 6 [q 18 (.mov (t 1)), q 19 (.mov (t 0)), q 20 (.bin .quo 2 (t 18) (t 19)), q 1 (.asg 0 (t 20) 2)] false))) (.region 4 [q 10 (.mov (t 6)), q 11 (.bin .add 3 (t 10) (.const (.int .i64 1))), q 6 (.asg 0 (t 11) 3)] false)))))) (.seq (.region 7 [q 21 (.load 26 (t 5)), ⟨none, .store 26 (t 4) (t 21), none, []⟩] false) .ret))))
def spec_l01Of_L : Live := [(0, [0, 1]), (1, [0, 1, 4]), (2, [0, 1, 4, 5]), (3, [0, 1, 4, 5, 6]), (4, [0, 1, 4, 5, 6]), (5, [0, 1, 4, 5, 6]), (6, [0, 1, 4, 5, 6]), (7, [4, 5]), (100009, [0, 1, 4, 5, 6, 9])]
noncomputable def spec_l01Of_l1 (a0 : Int) (x33 : Int) (x34 : Int) (x35 : (Vec Int 64)) : Option ((Int × Int × (Vec Int 64)) ⊕ (Vec Int 64)) :=
  (if (decide (x33 > 0)) then (ifp (a0 ≠ 0) ((ifp (0 ≤ x34 ∧ x34 < ((64 : Nat) : Int)) ((ifp (a0 ≠ 0) ((some (.inl ((IntKind.i64.wrap (Int.tdiv x33 a0), IntKind.i64.wrap (x34 + 1), (vset x35 x34.toNat (IntKind.u8.wrap (Int.tmod x33 a0))))))))))))) else (some (.inr x35)))
noncomputable def spec_l01Of (a0 : Int) (a1 : Int) : Option (Vec Int 64) :=
  (Option.bind (α := (Vec Int 64)) ((loopM (fun s : (Int × Int × (Vec Int 64)) => spec_l01Of_l1 a0 s.1 s.2.1 s.2.2) (a1, 0, (vrep 64 (0 : Int))))) fun x24 => (some x24))
theorem spec_l01Of_ok (a0 : Int) (a1 : Int) (r : (Vec Int 64)) (h : spec_l01Of a0 a1 = some r) : Den Try.prog 76 [(i6 a0), (i6 a1)] { r := (eA64u8 r) } := by
  refine den_of (rs := [(eA64u8 r)]) (ac := spec_l01Of_c) (L := spec_l01Of_L) (n := 22) (m := []) (c := Try.f76.body.getD .skip) good Try.func76 (by kernel_rfl) (by kernel_rfl) Try.ntmps76 rfl rfl (by kernel_rfl) rfl rfl ?_
  refine a_st (σ' := ⟨[(0, (i6 a0)), (1, (i6 a1))], []⟩) (by kernel_rfl) ?_
  unfold spec_l01Of_c
  refine sr (vo 1400 (eA64u8 ((vrep 64 (0 : Int)))) rfl rfl (nx ⟨[(0, (i6 a0)), (1, (i6 a1)), (4, (ow 4))], [(4, (bk (eA64u8 ((vrep 64 (0 : Int))))))]⟩ (by kernel_rfl) (sr (vq (eA64u8 ((vrep 64 (0 : Int)))) rfl ⟨⟨_, rfl, rfl⟩, all_nil⟩ (vo 1500 (eA64u8 ((vrep 64 (0 : Int)))) rfl rfl (vs (eA64u8 ((vrep 64 (0 : Int)))) rfl rfl (fun _ => rfl) rfl rfl rfl rfl rfl rfl (nx ⟨[(0, (i6 a0)), (1, (i6 a1)), (4, (ow 4)), (5, (ow 5))], [(4, (bk (eA64u8 ((vrep 64 (0 : Int)))))), (5, (bk (eA64u8 ((vrep 64 (0 : Int))))))]⟩ (by kernel_rfl) ?_)))))))
  obtain ⟨y25, hy26, hk27⟩ := bind_some h
  clear h
  refine a_join (emb := fun (s : (Vec Int 64)) => ⟨[(4, (ow 4)), (5, (ow 5))], [(4, (bk (eA64u8 ((vrep 64 (0 : Int)))))), (5, (bk (eA64u8 s)))]⟩) (pre := fun s => s = y25) ?_ ?_
  · rintro x24 rfl
    have h := hk27
    refine a_st (σ' := ⟨[(4, (ow 4)), (5, (ow 5))], [(4, (bk (eA64u8 ((vrep 64 (0 : Int)))))), (5, (bk (eA64u8 x24)))]⟩) (by kernel_rfl) (sr (vl (eA64u8 x24) rfl rfl rfl rfl rfl rfl (vs (eA64u8 x24) rfl rfl (fun _ => rfl) rfl rfl rfl rfl rfl rfl (nx _ rfl (a_ret ?_)))))
    have hl52 : LdOk [] (eA64u8 x24) [] 64 true (eA64u8 x24) := (.nil rfl rfl rfl)
    refine ⟨.inr rfl, ?_⟩
    rw [Try.results76]
    cases h
    exact ⟨_, _, _, _, _, ld_own (i := ⟨.arr 64 5, 64, 64, (eA64u8 (vrep 64 (0 : Int)))⟩) rfl rfl rfl hl52, hl52.c, .inl ⟨rfl, .inl rfl⟩, rfl, rfl⟩
  · have h := hy26
    refine sr (vp (i6 0) rfl (nx ⟨[(0, (i6 a0)), (1, (i6 a1)), (4, (ow 4)), (5, (ow 5)), (6, (i6 0))], [(4, (bk (eA64u8 ((vrep 64 (0 : Int)))))), (5, (bk (eA64u8 ((vrep 64 (0 : Int))))))]⟩ (by kernel_rfl) (a_block ?_)))
    refine a_loop (emb := fun (s : (Int × Int × (Vec Int 64))) => ⟨[(0, (i6 a0)), (1, (i6 s.1)), (4, (ow 4)), (5, (ow 5)), (6, (i6 s.2.1))], [(4, (bk (eA64u8 ((vrep 64 (0 : Int)))))), (5, (bk (eA64u8 s.2.2)))]⟩) (body := (fun s : (Int × Int × (Vec Int 64)) => spec_l01Of_l1 a0 s.1 s.2.1 s.2.2)) (G := fun q => some q = some y25) h rfl ?_ (by kernel_rfl)
    rintro X41 ⟨x33, x34, x35⟩ x42 h hX43
    have h : spec_l01Of_l1 a0 x33 x34 x35 = some x42 := h
    refine a_st (σ' := ⟨[(0, (i6 a0)), (1, (i6 x33)), (4, (ow 4)), (5, (ow 5)), (6, (i6 x34))], [(4, (bk (eA64u8 ((vrep 64 (0 : Int)))))), (5, (bk (eA64u8 x35)))]⟩) (by kernel_rfl) (a_seq (sr (vp (i6 x33) rfl (vp (.bool ((decide (x33 > 0)))) rfl (nx ⟨[(0, (i6 a0)), (1, (i6 x33)), (4, (ow 4)), (5, (ow 5)), (6, (i6 x34)), (9, (.bool ((decide (x33 > 0)))))], [(4, (bk (eA64u8 ((vrep 64 (0 : Int)))))), (5, (bk (eA64u8 x35)))]⟩ (by kernel_rfl) ?_)))))
    cases hb44 : (decide (x33 > 0))
    · have h := ite_f hb44 h
      refine a_cond_f rfl (a_exit (t_exit ?_))
      cases h
      have h := hX43
      refine t_exit (b_exit ?_)
      exact j_leaf x35 (Option.some.inj h) (by kernel_rfl)
    · have h := ite_t hb44 h
      refine a_cond_t rfl (a_skip (a_next (σ' := ⟨[(0, (i6 a0)), (1, (i6 x33)), (4, (ow 4)), (5, (ow 5)), (6, (i6 x34))], [(4, (bk (eA64u8 ((vrep 64 (0 : Int)))))), (5, (bk (eA64u8 x35)))]⟩) (by kernel_rfl) (a_seq (a_block (sr (vp (i6 x34) rfl (vp (i6 x33) rfl (vp (i6 a0) rfl ?_))))))))
      obtain ⟨hc45, h⟩ := ifp_some h
      refine vq (i6 (Int.tmod x33 a0)) rfl hc45 (vp (b8 (IntKind.u8.wrap (Int.tmod x33 a0))) rfl ?_)
      obtain ⟨hc46, h⟩ := ifp_some h
      refine vq (.own 5 [x34.toNat] [x34.toNat * 1]) rfl hc46 ?_
      have hs47 : StOk [x34.toNat] (eA64u8 x35) [x34.toNat * 1] 1 (b8 (IntKind.u8.wrap (Int.tmod x33 a0))) (eA64u8 ((vset x35 x34.toNat (IntKind.u8.wrap (Int.tmod x33 a0))))) := (.arr (y := IntKind.u8.wrap (Int.tmod x33 a0)) (vlt x35 hc46) rfl (.nil rfl rfl rfl rfl))
      refine vu .top [(5, (bk (eA64u8 ((vset x35 x34.toNat (IntKind.u8.wrap (Int.tmod x33 a0)))))))] (st_own (i := ⟨.int .u8, 1, 1, (.int .u8 0)⟩) rfl rfl (fun _ => rfl) rfl hs47) (hs47.c rfl) rfl (nx ⟨[(0, (i6 a0)), (1, (i6 x33)), (4, (ow 4)), (5, (ow 5)), (6, (i6 x34))], [(4, (bk (eA64u8 ((vrep 64 (0 : Int)))))), (5, (bk (eA64u8 ((vset x35 x34.toNat (IntKind.u8.wrap (Int.tmod x33 a0)))))))]⟩ (by kernel_rfl) (a_region (vp (i6 x33) rfl (vp (i6 a0) rfl ?_))))
      obtain ⟨hc48, h⟩ := ifp_some h
      refine vq (i6 (IntKind.i64.wrap (Int.tdiv x33 a0))) rfl hc48 (vp (i6 (IntKind.i64.wrap (Int.tdiv x33 a0))) rfl (a_nil (b_norm (a_next (σ' := ⟨[(0, (i6 a0)), (1, (i6 (IntKind.i64.wrap (Int.tdiv x33 a0)))), (4, (ow 4)), (5, (ow 5)), (6, (i6 x34))], [(4, (bk (eA64u8 ((vrep 64 (0 : Int)))))), (5, (bk (eA64u8 ((vset x35 x34.toNat (IntKind.u8.wrap (Int.tmod x33 a0)))))))]⟩) (by kernel_rfl) (a_region (vp (i6 x34) rfl (vp (i6 (IntKind.i64.wrap (x34 + 1))) rfl (vp (i6 (IntKind.i64.wrap (x34 + 1))) rfl (a_nil ?_)))))))))
      cases h
      exact a_again (by kernel_rfl) hX43
end Go.Proofs.Ytdhcpekngpndnaa
