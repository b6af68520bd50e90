/- Functions of the program: plain Lean functions, and that the program computes them. Printed by gen.py. -/
import Derived.Test.YtcgohoclbjgmkaaFnT
import Derived.Test.YtcgohoclbjgmkaaFn1
import Derived.Test.YtcgohoclbjgmkaaFn2
import Derived.Test.YtcgohoclbjgmkaaFn3
import Derived.Test.YtcgohoclbjgmkaaFn4
import Derived.Test.YtcgohoclbjgmkaaFn5
namespace Go.Proofs.Ytcgohoclbjgmkaa
open Go.Abs Go.Proofs
set_option linter.unusedSimpArgs false
set_option linter.unusedVariables false
set_option maxHeartbeats 16000000
attribute [local irreducible] Abs.acode Abs.aops Abs.aopsT Abs.thenK Abs.blockK

def impl_fieldOf_c : ACode := (.seq (.region 0 [q 3 (.box 24 (t 1)), q 4 (.alloc 88)] false) (.seq (.region 1 [q 5 (.mov (t 0)), q 6 (.load 24 (t 3)), q 7 (.call 0 (.func 52) [(t 6)]), q 8 (.build 88 [(0, (t 5)), (1, (t 7))]), ⟨none, .store 88 (t 4) (t 8), none, []⟩] false) .ret))
def impl_fieldOf_L : Live := [(0, [0, 1]), (1, [0, 3, 4])]
noncomputable def impl_fieldOf (a0 : Int) (a1 : (Vec Int 64)) : Option (Int × (List Int)) :=
  (Option.bind (impl_rowOf a1) fun r2 => (some (a0, r2)))
theorem impl_fieldOf_ok (a0 : Int) (a1 : (Vec Int 64)) (r : (Int × (List Int))) (h : impl_fieldOf a0 a1 = some r) : Den Try.prog 71 [(i6 a0), (eA64u8 a1)] { r := (eT_i64_Si64_Z r) } := by
  refine den_of (rs := [(eT_i64_Si64_Z r)]) (ac := impl_fieldOf_c) (L := impl_fieldOf_L) (n := 9) (m := []) (c := Try.f71.body.getD .skip) good Try.func71 (by kernel_rfl) (by kernel_rfl) Try.ntmps71 rfl rfl (by kernel_rfl) rfl rfl ?_
  refine a_st (σ' := ⟨[(0, (i6 a0)), (1, (eA64u8 a1))], []⟩) (by kernel_rfl) ?_
  unfold impl_fieldOf_c
  refine sr (vo 1300 (eA64u8 a1) rfl rfl (vo 1400 (eT_i64_Si64_Z (((0 : Int), []))) rfl rfl (nx ⟨[(0, (i6 a0)), (3, (ow 3)), (4, (ow 4))], [(3, (bk (eA64u8 a1))), (4, (bk (eT_i64_Si64_Z (((0 : Int), [])))))]⟩ (by kernel_rfl) (sr (vp (i6 a0) rfl (vl (eA64u8 a1) rfl rfl rfl rfl rfl rfl ?_))))))
  obtain ⟨r2, hr3, h⟩ := bind_some h
  refine a_call (args := [(eA64u8 a1)]) (u := []) (r := (eSi64 r2)) rfl rfl (impl_rowOf_ok a1 r2 hr3) rfl (vq (eT_i64_Si64_Z (a0, r2)) rfl ⟨rfl, (all_cons ⟨(Nat.le_of_ble_eq_true rfl), rfl⟩ (all_cons ⟨(Nat.le_of_ble_eq_true rfl), rfl⟩ all_nil))⟩ (vs (eT_i64_Si64_Z (a0, r2)) rfl rfl (fun _ => rfl) rfl rfl rfl rfl rfl rfl (nx _ rfl (a_ret ?_))))
  have hl5 : LdOk [] (eT_i64_Si64_Z (a0, r2)) [] 2 true (eT_i64_Si64_Z (a0, r2)) := (.nil rfl rfl rfl)
  refine ⟨.inr rfl, ?_⟩
  rw [Try.results71]
  cases h
  exact ⟨_, _, _, _, _, ld_own (i := ⟨.struct [(0, 62), (1, 65)], 2, 32, (eT_i64_Si64_Z ((0 : Int), []))⟩) rfl rfl rfl hl5, hl5.c, .inl ⟨rfl, .inl rfl⟩, rfl, rfl⟩
def impl_field_isResidue_c : ACode := (.seq (.region 0 [q 2 (.box 88 (t 0)), q 3 (.box 24 (t 1)), q 4 (.asg 0 (.const (.bool false)) 4)] false) (.seq (.region 1 [q 5 (.fieldAddr 88 (t 2) 0), ⟨some 6, .load 62 (t 5), none, [0]⟩, q 7 (.load 24 (t 3)), ⟨some 8, .call 0 (.func 120) [(t 6), (t 7)], none, [1, 2]⟩, ⟨some 9, .mov (t 8), none, [3, 3]⟩, ⟨some 10, .load 24 (t 3), some (9, true), [4]⟩, ⟨some 11, .call 0 (.func 52) [(t 10)], some (9, true), [5, 4, 4]⟩, ⟨some 12, .call 0 (.func 59) [(t 11)], some (9, true), [6, 6, 4]⟩, ⟨some 13, .fieldAddr 88 (t 2) 1, some (9, true), [4]⟩, ⟨some 14, .load 65 (t 13), some (9, true), [8, 4]⟩, ⟨some 15, .call 0 (.func 59) [(t 14)], some (9, true), [9, 7, 4]⟩, ⟨some 16, .bin .lss 2 (t 12) (t 15), some (9, true), [7, 10, 4]⟩, ⟨some 17, .pick (t 9) (t 16) (.const (.bool false)), none, [4, 11]⟩, ⟨some 4, .asg 0 (t 17) 4, none, [12, 10, 0, 1, 2, 3, 4, 5, 6, 7, 8, 9, 10, 11, 12]⟩] true) .ret))
def impl_field_isResidue_L : Live := [(0, [0, 1]), (1, [2, 3])]
noncomputable def impl_field_isResidue (a0 : (Int × (List Int))) (a1 : (Vec Int 64)) : Option Bool :=
  (Option.bind (impl_isPoly a0.1 a1) fun r16 => (if r16 then (Option.bind (impl_rowOf a1) fun r20 => (Option.bind (impl_row_degree r20) fun r22 => (Option.bind (impl_row_degree a0.2) fun r25 => (some ((decide (r22 < r25))))))) else (some false)))
theorem impl_field_isResidue_ok (a0 : (Int × (List Int))) (a1 : (Vec Int 64)) (r : Bool) (h : impl_field_isResidue a0 a1 = some r) : Den Try.prog 74 [(eT_i64_Si64_Z a0), (eA64u8 a1)] { r := (.bool r) } := by
  refine den_of (rs := [(.bool r)]) (ac := impl_field_isResidue_c) (L := impl_field_isResidue_L) (n := 18) (m := []) (c := Try.f74.body.getD .skip) good Try.func74 (by kernel_rfl) (by kernel_rfl) Try.ntmps74 rfl rfl (by kernel_rfl) rfl rfl ?_
  refine a_st (σ' := ⟨[(0, (eT_i64_Si64_Z a0)), (1, (eA64u8 a1))], []⟩) (by kernel_rfl) ?_
  unfold impl_field_isResidue_c
  refine sr (vo 1200 (eT_i64_Si64_Z a0) rfl rfl (vo 1300 (eA64u8 a1) rfl rfl (vp (.bool false) rfl (nx ⟨[(2, (ow 2)), (3, (ow 3))], [(2, (bk (eT_i64_Si64_Z a0))), (3, (bk (eA64u8 a1)))]⟩ (by kernel_rfl) (a_seq (a_draw [⟨[2], [], [2], []⟩, ⟨[2], [], [], [0]⟩, ⟨[3], [], [], []⟩, ⟨[], [], [], [0, 1, 2]⟩, ⟨[], [], [], [0, 1, 2, 3]⟩, ⟨[3], [], [], [0, 1, 2, 3, 4]⟩, ⟨[], [], [], [0, 1, 2, 3, 4, 5]⟩, ⟨[], [], [], [0, 1, 2, 3, 4, 5, 6]⟩, ⟨[2], [], [2], [0, 1, 2, 3, 4]⟩, ⟨[2], [], [], [0, 1, 2, 3, 4, 8]⟩, ⟨[], [], [], [0, 1, 2, 3, 4, 5, 6, 7, 8, 9]⟩, ⟨[], [], [], [0, 1, 2, 3, 4, 5, 6, 7, 8, 9, 10]⟩, ⟨[], [], [], [0, 1, 2, 3, 4, 5, 6, 7, 8, 9, 10, 11]⟩, ⟨[], [], [], [0, 1, 2, 3, 4, 5, 6, 7, 8, 9, 10, 11, 12]⟩] (by kernel_rfl) (d_cons (vb (.own 2 [0] [0]) rfl rfl (d_next (by kernel_rfl) ?_)))))))))
  refine d_cons ?_
  have hl14 : LdOk [0] (eT_i64_Si64_Z a0) [0] 1 false (i6 a0.1) := (.fld rfl rfl rfl rfl (.nil rfl rfl rfl))
  refine vq (i6 a0.1) (ld_own (i := ⟨.int .i64, 1, 8, (.int .i64 0)⟩) rfl rfl rfl hl14) hl14.c (d_next (by kernel_rfl) (d_cons (vl (eA64u8 a1) rfl rfl rfl rfl rfl rfl (d_next (by kernel_rfl) (d_cons ?_)))))
  obtain ⟨r16, hr17, h⟩ := bind_some h
  refine a_call (args := [(i6 a0.1), (eA64u8 a1)]) (u := []) (r := (.bool r16)) rfl rfl (impl_isPoly_ok a0.1 a1 r16 hr17) rfl (d_next (by kernel_rfl) (dp (.bool r16) rfl (by kernel_rfl) ?_))
  cases hb18 : r16
  · have h := ite_f hb18 h
    refine dk rfl (by kernel_rfl) (dk rfl (by kernel_rfl) (dk rfl (by kernel_rfl) (dk rfl (by kernel_rfl) (dk rfl (by kernel_rfl) (dk rfl (by kernel_rfl) (dk rfl (by kernel_rfl) (dp (.bool false) rfl (by kernel_rfl) (dp (.bool false) rfl (by kernel_rfl) (d_nil ?_)))))))))
    refine a_next rfl (a_ret ?_)
    refine ⟨.inr rfl, ?_⟩
    rw [Try.results74]
    cases h
    exact ⟨_, _, _, _, _, rfl, trivial, .inl ⟨rfl, .inl rfl⟩, rfl, rfl⟩
  · have h := ite_t hb18 h
    refine d_cons ?_
    have hl19 : LdOk [] (eA64u8 a1) [] 64 true (eA64u8 a1) := (.nil rfl rfl rfl)
    refine gq (eA64u8 a1) rfl (ld_own (i := ⟨.arr 64 5, 64, 64, (eA64u8 (vrep 64 (0 : Int)))⟩) rfl rfl rfl hl19) hl19.c (d_next (by kernel_rfl) (d_cons ?_))
    obtain ⟨r20, hr21, h⟩ := bind_some h
    refine a_gcall rfl (args := [(eA64u8 a1)]) (u := []) (r := (eSi64 r20)) rfl rfl (impl_rowOf_ok a1 r20 hr21) rfl (d_next (by kernel_rfl) (d_cons ?_))
    obtain ⟨r22, hr23, h⟩ := bind_some h
    refine a_gcall rfl (args := [(eSi64 r20)]) (u := []) (r := (i6 r22)) rfl rfl (impl_row_degree_ok r20 r22 hr23) rfl (d_next (by kernel_rfl) (d_cons (gq (.own 2 [1] [1]) rfl rfl (Nat.le_of_ble_eq_true rfl) (d_next (by kernel_rfl) (d_cons ?_)))))
    have hl24 : LdOk [1] (eT_i64_Si64_Z a0) [1] 1 false (eSi64 a0.2) := (.fld rfl rfl rfl rfl (.nil rfl rfl rfl))
    refine gq (eSi64 a0.2) rfl (ld_own (i := ⟨.slice 2, 1, 24, (eSi64 [])⟩) rfl rfl rfl hl24) hl24.c (d_next (by kernel_rfl) (d_cons ?_))
    obtain ⟨r25, hr26, h⟩ := bind_some h
    refine a_gcall rfl (args := [(eSi64 a0.2)]) (u := []) (r := (i6 r25)) rfl rfl (impl_row_degree_ok a0.2 r25 hr26) rfl (d_next (by kernel_rfl) (dg (.bool ((decide (r22 < r25)))) rfl rfl (by kernel_rfl) (dp (.bool ((decide (r22 < r25)))) rfl (by kernel_rfl) (dp (.bool ((decide (r22 < r25)))) rfl (by kernel_rfl) (d_nil (a_next rfl (a_ret ?_)))))))
    refine ⟨.inr rfl, ?_⟩
    rw [Try.results74]
    cases h
    exact ⟨_, _, _, _, _, rfl, trivial, .inl ⟨rfl, .inl rfl⟩, rfl, rfl⟩
def impl_IsDrinfeld_c : ACode := (.seq (.region 0 [q 1 (.box 52 (t 0)), q 2 (.asg 0 (.const (.bool false)) 4)] false) (.seq (.seq (.region 1 [q 4 (.fieldAddr 52 (t 1) 0), q 5 (.load 2 (t 4)), q 6 (.fieldAddr 52 (t 1) 1), q 7 (.load 24 (t 6)), q 8 (.call 0 (.func 46) [(t 5), (t 7)]), q 9 (.un .not (t 8))] false) (.cond (t 9) (.seq (.region 2 [q 2 (.asg 0 (.const (.bool false)) 4)] false) .ret) .skip)) (.seq (.region 3 [q 10 (.fieldAddr 52 (t 1) 0), q 11 (.load 2 (t 10)), q 12 (.fieldAddr 52 (t 1) 1), q 13 (.load 24 (t 12)), q 14 (.call 0 (.func 71) [(t 11), (t 13)]), q 3 (.alloc 88), ⟨none, .store 88 (t 3) (t 14), none, []⟩] false) (.seq (.region 4 [q 15 (.load 88 (t 3)), q 16 (.fieldAddr 52 (t 1) 2), q 17 (.load 24 (t 16)), q 18 (.call 0 (.func 74) [(t 15), (t 17)]), q 19 (.mov (t 18)), ⟨some 20, .load 88 (t 3), some (19, true), []⟩, ⟨some 21, .fieldAddr 52 (t 1) 3, some (19, true), []⟩, ⟨some 22, .load 24 (t 21), some (19, true), []⟩, ⟨some 23, .call 0 (.func 74) [(t 20), (t 22)], some (19, true), []⟩, q 24 (.pick (t 19) (t 23) (.const (.bool false))), q 25 (.mov (t 24)), ⟨some 26, .fieldAddr 52 (t 1) 3, some (25, true), []⟩, ⟨some 27, .load 24 (t 26), some (25, true), []⟩, ⟨some 28, .build 24 [], some (25, true), []⟩, ⟨some 29, .bin .neq 24 (t 27) (t 28), some (25, true), []⟩, q 30 (.pick (t 25) (t 29) (.const (.bool false))), q 2 (.asg 0 (t 30) 4)] false) .ret))))
def impl_IsDrinfeld_L : Live := [(0, [0]), (1, [1]), (2, []), (3, [1]), (4, [1, 3]), (100009, [1, 9])]
noncomputable def impl_IsDrinfeld (a0 : (Int × (Vec Int 64) × (Vec Int 64) × (Vec Int 64))) : Option Bool :=
  (Option.bind (impl_isField a0.1 a0.2.1) fun r3 => (if (!r3) then (some false) else (Option.bind (impl_fieldOf a0.1 a0.2.1) fun r8 => (Option.bind (impl_field_isResidue r8 a0.2.2.1) fun r13 => (if r13 then (Option.bind (impl_field_isResidue r8 a0.2.2.2) fun r18 => (if r18 then (some ((!decide (a0.2.2.2 = ((vrep 64 (0 : Int))))))) else (some false))) else (some false))))))
theorem impl_IsDrinfeld_ok (a0 : (Int × (Vec Int 64) × (Vec Int 64) × (Vec Int 64))) (r : Bool) (h : impl_IsDrinfeld a0 = some r) : Den Try.prog 38 [(eT_i64_A64u8_A64u8_A64u8_Z a0)] { r := (.bool r) } := by
  refine den_of (rs := [(.bool r)]) (ac := impl_IsDrinfeld_c) (L := impl_IsDrinfeld_L) (n := 31) (m := []) (c := Try.f38.body.getD .skip) good Try.func38 (by kernel_rfl) (by kernel_rfl) Try.ntmps38 rfl rfl (by kernel_rfl) rfl rfl ?_
  refine a_st (σ' := ⟨[(0, (eT_i64_A64u8_A64u8_A64u8_Z a0))], []⟩) (by kernel_rfl) ?_
  unfold impl_IsDrinfeld_c
  refine sr (vo 1100 (eT_i64_A64u8_A64u8_A64u8_Z a0) rfl rfl (vp (.bool false) rfl (nx ⟨[(1, (ow 1))], [(1, (bk (eT_i64_A64u8_A64u8_A64u8_Z a0)))]⟩ (by kernel_rfl) (a_seq (sr (vb (.own 1 [0] [0]) rfl rfl ?_))))))
  have hl1 : LdOk [0] (eT_i64_A64u8_A64u8_A64u8_Z a0) [0] 1 false (i6 a0.1) := (.fld rfl rfl rfl rfl (.nil rfl rfl rfl))
  refine vq (i6 a0.1) (ld_own (i := ⟨.int .i64, 1, 8, (.int .i64 0)⟩) rfl rfl rfl hl1) hl1.c (vb (.own 1 [1] [1]) rfl rfl ?_)
  have hl2 : LdOk [1] (eT_i64_A64u8_A64u8_A64u8_Z a0) [1] 64 true (eA64u8 a0.2.1) := (.fld rfl rfl rfl rfl (.nil rfl rfl rfl))
  refine vq (eA64u8 a0.2.1) (ld_own (i := ⟨.arr 64 5, 64, 64, (eA64u8 (vrep 64 (0 : Int)))⟩) rfl rfl rfl hl2) hl2.c ?_
  obtain ⟨r3, hr4, h⟩ := bind_some h
  refine a_call (args := [(i6 a0.1), (eA64u8 a0.2.1)]) (u := []) (r := (.bool r3)) rfl rfl (impl_isField_ok a0.1 a0.2.1 r3 hr4) rfl (vp (.bool (!r3)) rfl (nx ⟨[(1, (ow 1)), (9, (.bool (!r3)))], [(1, (bk (eT_i64_A64u8_A64u8_A64u8_Z a0)))]⟩ (by kernel_rfl) ?_))
  cases hb5 : (!r3)
  · have h := ite_f hb5 h
    refine a_cond_f rfl (a_skip (a_next (σ' := ⟨[(1, (ow 1))], [(1, (bk (eT_i64_A64u8_A64u8_A64u8_Z a0)))]⟩) (by kernel_rfl) (sr (vb (.own 1 [0] [0]) rfl rfl ?_))))
    have hl6 : LdOk [0] (eT_i64_A64u8_A64u8_A64u8_Z a0) [0] 1 false (i6 a0.1) := (.fld rfl rfl rfl rfl (.nil rfl rfl rfl))
    refine vq (i6 a0.1) (ld_own (i := ⟨.int .i64, 1, 8, (.int .i64 0)⟩) rfl rfl rfl hl6) hl6.c (vb (.own 1 [1] [1]) rfl rfl ?_)
    have hl7 : LdOk [1] (eT_i64_A64u8_A64u8_A64u8_Z a0) [1] 64 true (eA64u8 a0.2.1) := (.fld rfl rfl rfl rfl (.nil rfl rfl rfl))
    refine vq (eA64u8 a0.2.1) (ld_own (i := ⟨.arr 64 5, 64, 64, (eA64u8 (vrep 64 (0 : Int)))⟩) rfl rfl rfl hl7) hl7.c ?_
    obtain ⟨r8, hr9, h⟩ := bind_some h
    refine a_call (args := [(i6 a0.1), (eA64u8 a0.2.1)]) (u := []) (r := (eT_i64_Si64_Z r8)) rfl rfl (impl_fieldOf_ok a0.1 a0.2.1 r8 hr9) rfl (vo 1300 (eT_i64_Si64_Z (((0 : Int), []))) rfl rfl (vs (eT_i64_Si64_Z r8) rfl rfl (fun _ => rfl) rfl rfl rfl rfl rfl rfl (nx ⟨[(1, (ow 1)), (3, (ow 3))], [(1, (bk (eT_i64_A64u8_A64u8_A64u8_Z a0))), (3, (bk (eT_i64_Si64_Z r8)))]⟩ (by kernel_rfl) (sr (vl (eT_i64_Si64_Z r8) rfl rfl rfl rfl rfl rfl (vb (.own 1 [2] [65]) rfl rfl ?_))))))
    have hl12 : LdOk [2] (eT_i64_A64u8_A64u8_A64u8_Z a0) [65] 64 true (eA64u8 a0.2.2.1) := (.fld rfl rfl rfl rfl (.nil rfl rfl rfl))
    refine vq (eA64u8 a0.2.2.1) (ld_own (i := ⟨.arr 64 5, 64, 64, (eA64u8 (vrep 64 (0 : Int)))⟩) rfl rfl rfl hl12) hl12.c ?_
    obtain ⟨r13, hr14, h⟩ := bind_some h
    refine a_call (args := [(eT_i64_Si64_Z r8), (eA64u8 a0.2.2.1)]) (u := []) (r := (.bool r13)) rfl rfl (impl_field_isResidue_ok r8 a0.2.2.1 r13 hr14) rfl (vp (.bool r13) rfl ?_)
    cases hb15 : r13
    · have h := ite_f hb15 h
      refine a_gskip rfl (a_gskip rfl (a_gskip rfl (a_gskip rfl (vp (.bool false) rfl (vp (.bool false) rfl (a_gskip rfl (a_gskip rfl (a_gskip rfl (a_gskip rfl ?_)))))))))
      refine vp (.bool false) rfl (vp (.bool false) rfl (nx _ rfl (a_ret ?_)))
      refine ⟨.inr rfl, ?_⟩
      rw [Try.results38]
      cases h
      exact ⟨_, _, _, _, _, rfl, trivial, .inl ⟨rfl, .inl rfl⟩, rfl, rfl⟩
    · have h := ite_t hb15 h
      have hl16 : LdOk [] (eT_i64_Si64_Z r8) [] 2 true (eT_i64_Si64_Z r8) := (.nil rfl rfl rfl)
      refine gq (eT_i64_Si64_Z r8) rfl (ld_own (i := ⟨.struct [(0, 62), (1, 65)], 2, 32, (eT_i64_Si64_Z ((0 : Int), []))⟩) rfl rfl rfl hl16) hl16.c (gq (.own 1 [3] [129]) rfl rfl (Nat.le_of_ble_eq_true rfl) ?_)
      have hl17 : LdOk [3] (eT_i64_A64u8_A64u8_A64u8_Z a0) [129] 64 true (eA64u8 a0.2.2.2) := (.fld rfl rfl rfl rfl (.nil rfl rfl rfl))
      refine gq (eA64u8 a0.2.2.2) rfl (ld_own (i := ⟨.arr 64 5, 64, 64, (eA64u8 (vrep 64 (0 : Int)))⟩) rfl rfl rfl hl17) hl17.c ?_
      obtain ⟨r18, hr19, h⟩ := bind_some h
      refine a_gcall rfl (args := [(eT_i64_Si64_Z r8), (eA64u8 a0.2.2.2)]) (u := []) (r := (.bool r18)) rfl rfl (impl_field_isResidue_ok r8 a0.2.2.2 r18 hr19) rfl (vp (.bool r18) rfl (vp (.bool r18) rfl ?_))
      cases hb20 : r18
      · have h := ite_f hb20 h
        refine a_gskip rfl (a_gskip rfl (a_gskip rfl (a_gskip rfl (vp (.bool false) rfl (vp (.bool false) rfl (nx _ rfl (a_ret ?_)))))))
        refine ⟨.inr rfl, ?_⟩
        rw [Try.results38]
        cases h
        exact ⟨_, _, _, _, _, rfl, trivial, .inl ⟨rfl, .inl rfl⟩, rfl, rfl⟩
      · have h := ite_t hb20 h
        refine gq (.own 1 [3] [129]) rfl rfl (Nat.le_of_ble_eq_true rfl) ?_
        have hl21 : LdOk [3] (eT_i64_A64u8_A64u8_A64u8_Z a0) [129] 64 true (eA64u8 a0.2.2.2) := (.fld rfl rfl rfl rfl (.nil rfl rfl rfl))
        refine gq (eA64u8 a0.2.2.2) rfl (ld_own (i := ⟨.arr 64 5, 64, 64, (eA64u8 (vrep 64 (0 : Int)))⟩) rfl rfl rfl hl21) hl21.c (gq (eA64u8 ((vrep 64 (0 : Int)))) rfl rfl ⟨⟨_, rfl, rfl⟩, all_nil⟩ (gq (.bool ((!decide (a0.2.2.2 = ((vrep 64 (0 : Int))))))) rfl (nea_run (f := (AV.int .u8)) (a := a0.2.2.2.1) (b := ((vrep 64 (0 : Int))).1) rfl rfl (eqb_vec (fun _ _ => eqb_int _ _) a0.2.2.2 ((vrep 64 (0 : Int))))) (cmp_arr (g := 8) (f := (AV.int .u8)) (x := a0.2.2.2) (y := ((vrep 64 (0 : Int)))) rfl rfl rfl (fun _ _ => rfl) (fun _ _ => cmp_int rfl)) (vp (.bool ((!decide (a0.2.2.2 = ((vrep 64 (0 : Int))))))) rfl (vp (.bool ((!decide (a0.2.2.2 = ((vrep 64 (0 : Int))))))) rfl (nx _ rfl (a_ret ?_))))))
        refine ⟨.inr rfl, ?_⟩
        rw [Try.results38]
        cases h
        exact ⟨_, _, _, _, _, rfl, trivial, .inl ⟨rfl, .inl rfl⟩, rfl, rfl⟩
  · have h := ite_t hb5 h
    refine a_cond_t rfl (sr (vp (.bool false) rfl (nx _ rfl (a_ret (t_ret ?_)))))
    refine ⟨.inr rfl, ?_⟩
    rw [Try.results38]
    cases h
    exact ⟨_, _, _, _, _, rfl, trivial, .inl ⟨rfl, .inl rfl⟩, rfl, rfl⟩
def impl_drinfeldCode_c1_of_p_c : ACode := (.seq (.region 0 [q 2 (.box 24 (t 0)), q 3 (.asg 0 (.const (.bool false)) 4)] false) (.seq (.region 1 [q 4 (.fieldAddr 52 (t 1) 0), q 5 (.load 2 (t 4)), q 6 (.load 24 (t 2)), q 7 (.call 0 (.func 120) [(t 5), (t 6)]), q 3 (.asg 0 (t 7) 4)] false) .ret))
def impl_drinfeldCode_c1_of_p_L : Live := [(0, [0, 1]), (1, [1, 2])]
noncomputable def impl_drinfeldCode_c1_of_p (a0 : (Vec Int 64)) (a1 : (Int × (Vec Int 64) × (Vec Int 64) × (Vec Int 64))) : Option Bool :=
  (Option.bind (impl_isPoly a1.1 a0) fun r3 => (some r3))
theorem impl_drinfeldCode_c1_of_p_ok (a0 : (Vec Int 64)) (a1 : (Int × (Vec Int 64) × (Vec Int 64) × (Vec Int 64))) (r : Bool) (h : impl_drinfeldCode_c1_of_p a0 a1 = some r) : Den Try.prog 126 [(eA64u8 a0), (.ref (eT_i64_A64u8_A64u8_A64u8_Z a1) [] [])] { r := (.bool r) } := by
  refine den_of (rs := [(.bool r)]) (ac := impl_drinfeldCode_c1_of_p_c) (L := impl_drinfeldCode_c1_of_p_L) (n := 8) (m := []) (c := Try.f126.body.getD .skip) good Try.func126 (by kernel_rfl) (by kernel_rfl) Try.ntmps126 rfl rfl (by kernel_rfl) rfl rfl ?_
  refine a_st (σ' := ⟨[(0, (eA64u8 a0)), (1, (.ref (eT_i64_A64u8_A64u8_A64u8_Z a1) [] []))], []⟩) (by kernel_rfl) ?_
  unfold impl_drinfeldCode_c1_of_p_c
  refine sr (vo 1200 (eA64u8 a0) rfl rfl (vp (.bool false) rfl (nx ⟨[(1, (.ref (eT_i64_A64u8_A64u8_A64u8_Z a1) [] [])), (2, (ow 2))], [(2, (bk (eA64u8 a0)))]⟩ (by kernel_rfl) (sr (vb (.ref (eT_i64_A64u8_A64u8_A64u8_Z a1) [0] [0]) rfl rfl ?_)))))
  have hl1 : LdOk [0] (eT_i64_A64u8_A64u8_A64u8_Z a1) [0] 1 false (i6 a1.1) := (.fld rfl rfl rfl rfl (.nil rfl rfl rfl))
  refine vq (i6 a1.1) (ld_ref (i := ⟨.int .i64, 1, 8, (.int .i64 0)⟩) rfl rfl hl1) hl1.c (vl (eA64u8 a0) rfl rfl rfl rfl rfl rfl ?_)
  obtain ⟨r3, hr4, h⟩ := bind_some h
  refine a_call (args := [(i6 a1.1), (eA64u8 a0)]) (u := []) (r := (.bool r3)) rfl rfl (impl_isPoly_ok a1.1 a0 r3 hr4) rfl (vp (.bool r3) rfl (nx _ rfl (a_ret ?_)))
  refine ⟨.inr rfl, ?_⟩
  rw [Try.results126]
  cases h
  exact ⟨_, _, _, _, _, rfl, trivial, .inl ⟨rfl, .inl rfl⟩, rfl, rfl⟩
def impl_areAll_impl_Poly__c1_of_p_drinfeldCode_c1_c : ACode := (.seq (.region 0 [q 2 (.box 24 (t 0)), q 3 (.asg 0 (.const (.bool false)) 4)] false) (.seq (.region 1 [q 4 (.load 61 (t 1)), q 5 (.load 24 (t 2)), q 6 (.call 0 (t 4) [(t 5)]), q 7 (.un .not (t 6)), q 3 (.asg 0 (t 7) 4)] false) .ret))
def impl_areAll_impl_Poly__c1_of_p_drinfeldCode_c1_L : Live := [(0, [0, 1]), (1, [1, 2])]
noncomputable def impl_areAll_impl_Poly__c1_of_p_drinfeldCode_c1 (a0 : (Vec Int 64)) (a1c0 : (Int × (Vec Int 64) × (Vec Int 64) × (Vec Int 64))) : Option Bool :=
  (Option.bind (impl_drinfeldCode_c1_of_p a0 a1c0) fun r3 => (some (!r3)))
theorem impl_areAll_impl_Poly__c1_of_p_drinfeldCode_c1_ok (a0 : (Vec Int 64)) (a1c0 : (Int × (Vec Int 64) × (Vec Int 64) × (Vec Int 64))) (r : Bool) (h : impl_areAll_impl_Poly__c1_of_p_drinfeldCode_c1 a0 a1c0 = some r) : Den Try.prog 145 [(eA64u8 a0), (.ref (.clo 126 [] [(.ref (eT_i64_A64u8_A64u8_A64u8_Z a1c0) [] [])]) [] [])] { r := (.bool r) } := by
  refine den_of (rs := [(.bool r)]) (ac := impl_areAll_impl_Poly__c1_of_p_drinfeldCode_c1_c) (L := impl_areAll_impl_Poly__c1_of_p_drinfeldCode_c1_L) (n := 8) (m := []) (c := Try.f145.body.getD .skip) good Try.func145 (by kernel_rfl) (by kernel_rfl) Try.ntmps145 rfl rfl (by kernel_rfl) rfl rfl ?_
  refine a_st (σ' := ⟨[(0, (eA64u8 a0)), (1, (.ref (.clo 126 [] [(.ref (eT_i64_A64u8_A64u8_A64u8_Z a1c0) [] [])]) [] []))], []⟩) (by kernel_rfl) ?_
  unfold impl_areAll_impl_Poly__c1_of_p_drinfeldCode_c1_c
  refine sr (vo 1200 (eA64u8 a0) rfl rfl (vp (.bool false) rfl (nx ⟨[(1, (.ref (.clo 126 [] [(.ref (eT_i64_A64u8_A64u8_A64u8_Z a1c0) [] [])]) [] [])), (2, (ow 2))], [(2, (bk (eA64u8 a0)))]⟩ (by kernel_rfl) (sr ?_))))
  have hl1 : LdOk [] (.clo 126 [] [(.ref (eT_i64_A64u8_A64u8_A64u8_Z a1c0) [] [])]) [] 1 false (.clo 126 [] [(.ref (eT_i64_A64u8_A64u8_A64u8_Z a1c0) [] [])]) := (.nil rfl rfl rfl)
  refine vq (.clo 126 [] [(.ref (eT_i64_A64u8_A64u8_A64u8_Z a1c0) [] [])]) (ld_ref (i := ⟨.other, 1, 8, (.raw .nilFunc)⟩) rfl rfl hl1) hl1.c (vl (eA64u8 a0) rfl rfl rfl rfl rfl rfl ?_)
  obtain ⟨r3, hr4, h⟩ := bind_some h
  refine a_call (args := [(eA64u8 a0), (.ref (eT_i64_A64u8_A64u8_A64u8_Z a1c0) [] [])]) (u := []) (r := (.bool r3)) rfl rfl (impl_drinfeldCode_c1_of_p_ok a0 a1c0 r3 hr4) rfl (vp (.bool (!r3)) rfl (vp (.bool (!r3)) rfl (nx _ rfl (a_ret ?_))))
  refine ⟨.inr rfl, ?_⟩
  rw [Try.results145]
  cases h
  exact ⟨_, _, _, _, _, rfl, trivial, .inl ⟨rfl, .inl rfl⟩, rfl, rfl⟩
def slices_IndexFunc_impl_Poly_impl_Poly_of_impl_areAll_impl_Poly__c1_p_drinfeldCode_c1_c : ACode := (.seq (.region 0 [q 4 (.asg 0 (.const (.int .i64 0)) 3)] false) (.seq (.seq (.region 1 [q 6 (.mov (t 0)), q 7 (.blt 0 .len [(t 6)] [36]), q 8 (.mov (.const (.int .i64 0)))] false) (.block 0 (.loop (.seq (.region 2 [q 9 (.bin .lss 3 (t 8) (t 7))] false) (.seq (.cond (t 9) .skip (.exit 0)) (.seq (.block 1 (.seq (.region 3 [q 10 (.mov (t 8)), q 5 (.asg 0 (t 10) 3)] false) (.seq (.region 4 [q 11 (.mov (t 1)), q 12 (.mov (t 0)), q 13 (.mov (t 5)), q 14 (.indexAddr 36 (t 12) (t 13)), q 15 (.load 24 (t 14)), q 16 (.call 0 (t 11) [(t 15)])] false) (.cond (t 16) (.seq (.region 5 [q 17 (.mov (t 5)), q 4 (.asg 0 (t 17) 3)] false) .ret) .skip)))) (.region 6 [q 18 (.bin .add 3 (t 8) (.const (.int .i64 1))), q 8 (.mov (t 18))] false))))))) (.seq (.region 7 [q 4 (.asg 0 (.const (.int .i64 (-1))) 3)] false) .ret)))
def slices_IndexFunc_impl_Poly_impl_Poly_of_impl_areAll_impl_Poly__c1_p_drinfeldCode_c1_L : Live := [(0, [0, 1]), (1, [0, 1]), (2, [0, 1, 7, 8]), (3, [0, 1, 7, 8]), (4, [0, 1, 5, 7, 8]), (5, [5]), (6, [0, 1, 7, 8]), (7, []), (100009, [0, 1, 7, 8, 9]), (100016, [0, 1, 5, 7, 8, 16])]
noncomputable def slices_IndexFunc_impl_Poly_impl_Poly_of_impl_areAll_impl_Poly__c1_p_drinfeldCode_c1_l1 (a0 : (List (Vec Int 64))) (a1c0c0 : (Int × (Vec Int 64) × (Vec Int 64) × (Vec Int 64))) (x33 : Int) : Option (Int ⊕ (Unit ⊕ Int)) :=
  (if (decide (x33 < (a0.length : Int))) then (ifp (0 ≤ x33 ∧ x33 < ((a0.length : Nat) : Int)) ((Option.bind (impl_areAll_impl_Poly__c1_of_p_drinfeldCode_c1 (rd a0 x33.toNat) a1c0c0) fun r46 => (if r46 then (some (.inr (.inr x33))) else (some (.inl (IntKind.i64.wrap (x33 + 1)))))))) else (some (.inr (((.inl ()))))))
noncomputable def slices_IndexFunc_impl_Poly_impl_Poly_of_impl_areAll_impl_Poly__c1_p_drinfeldCode_c1 (a0 : (List (Vec Int 64))) (a1c0c0 : (Int × (Vec Int 64) × (Vec Int 64) × (Vec Int 64))) : Option Int :=
  (Option.bind (α := (Unit ⊕ Int)) ((loopM (fun s : Int => slices_IndexFunc_impl_Poly_impl_Poly_of_impl_areAll_impl_Poly__c1_p_drinfeldCode_c1_l1 a0 a1c0c0 s) 0)) fun z => match z with | .inl _ => (some (-1)) | .inr r50 => (some r50))
theorem slices_IndexFunc_impl_Poly_impl_Poly_of_impl_areAll_impl_Poly__c1_p_drinfeldCode_c1_ok (a0 : (List (Vec Int 64))) (a1c0c0 : (Int × (Vec Int 64) × (Vec Int 64) × (Vec Int 64))) (r : Int) (h : slices_IndexFunc_impl_Poly_impl_Poly_of_impl_areAll_impl_Poly__c1_p_drinfeldCode_c1 a0 a1c0c0 = some r) : Den Try.prog 165 [(eSA64u8 a0), (.clo 145 [] [(.ref (.clo 126 [] [(.ref (eT_i64_A64u8_A64u8_A64u8_Z a1c0c0) [] [])]) [] [])])] { r := (i6 r) } := by
  refine den_of (rs := [(i6 r)]) (ac := slices_IndexFunc_impl_Poly_impl_Poly_of_impl_areAll_impl_Poly__c1_p_drinfeldCode_c1_c) (L := slices_IndexFunc_impl_Poly_impl_Poly_of_impl_areAll_impl_Poly__c1_p_drinfeldCode_c1_L) (n := 19) (m := []) (c := Try.f165.body.getD .skip) good Try.func165 (by kernel_rfl) (by kernel_rfl) Try.ntmps165 rfl rfl (by kernel_rfl) rfl rfl ?_
  refine a_st (σ' := ⟨[(0, (eSA64u8 a0)), (1, (.clo 145 [] [(.ref (.clo 126 [] [(.ref (eT_i64_A64u8_A64u8_A64u8_Z a1c0c0) [] [])]) [] [])]))], []⟩) (by kernel_rfl) ?_
  unfold slices_IndexFunc_impl_Poly_impl_Poly_of_impl_areAll_impl_Poly__c1_p_drinfeldCode_c1_c
  refine sr (vp (i6 0) rfl (nx ⟨[(0, (eSA64u8 a0)), (1, (.clo 145 [] [(.ref (.clo 126 [] [(.ref (eT_i64_A64u8_A64u8_A64u8_Z a1c0c0) [] [])]) [] [])]))], []⟩ (by kernel_rfl) ?_))
  obtain ⟨y24, hy25, hk26⟩ := bind_some h
  clear h
  refine a_join (emb := fun (s : Unit) => ⟨[], []⟩) (pre := fun s => (.inl s) = y24) ?_ ?_
  · rintro _ rfl
    have h := hk26
    refine a_st (σ' := ⟨[], []⟩) (by kernel_rfl) (sr (vp (i6 (-1)) rfl (nx _ rfl (a_ret ?_))))
    refine ⟨.inr rfl, ?_⟩
    rw [Try.results165]
    cases h
    exact ⟨_, _, _, _, _, rfl, trivial, .inl ⟨rfl, .inl rfl⟩, rfl, rfl⟩
  · have h := hy25
    refine sr (vp (eSA64u8 a0) rfl (vq (i6 (a0.length : Int)) (len_run rfl rfl) trivial (vp (i6 0) rfl (nx ⟨[(0, (eSA64u8 a0)), (1, (.clo 145 [] [(.ref (.clo 126 [] [(.ref (eT_i64_A64u8_A64u8_A64u8_Z a1c0c0) [] [])]) [] [])])), (7, (i6 (a0.length : Int))), (8, (i6 0))], []⟩ (by kernel_rfl) (a_block ?_)))))
    refine a_loop (emb := fun (s : Int) => ⟨[(0, (eSA64u8 a0)), (1, (.clo 145 [] [(.ref (.clo 126 [] [(.ref (eT_i64_A64u8_A64u8_A64u8_Z a1c0c0) [] [])]) [] [])])), (7, (i6 (a0.length : Int))), (8, (i6 s))], []⟩) (body := (fun s : Int => slices_IndexFunc_impl_Poly_impl_Poly_of_impl_areAll_impl_Poly__c1_p_drinfeldCode_c1_l1 a0 a1c0c0 s)) (G := fun q => some q = some y24) h rfl ?_ (by kernel_rfl)
    rintro X40 x33 x41 h hX42
    have h : slices_IndexFunc_impl_Poly_impl_Poly_of_impl_areAll_impl_Poly__c1_p_drinfeldCode_c1_l1 a0 a1c0c0 x33 = some x41 := h
    refine a_st (σ' := ⟨[(0, (eSA64u8 a0)), (1, (.clo 145 [] [(.ref (.clo 126 [] [(.ref (eT_i64_A64u8_A64u8_A64u8_Z a1c0c0) [] [])]) [] [])])), (7, (i6 (a0.length : Int))), (8, (i6 x33))], []⟩) (by kernel_rfl) (sr (vp (.bool ((decide (x33 < (a0.length : Int))))) rfl (nx ⟨[(0, (eSA64u8 a0)), (1, (.clo 145 [] [(.ref (.clo 126 [] [(.ref (eT_i64_A64u8_A64u8_A64u8_Z a1c0c0) [] [])]) [] [])])), (7, (i6 (a0.length : Int))), (8, (i6 x33)), (9, (.bool ((decide (x33 < (a0.length : Int))))))], []⟩ (by kernel_rfl) (a_seq ?_))))
    cases hb43 : (decide (x33 < (a0.length : Int)))
    · have h := ite_f hb43 h
      refine a_cond_f rfl (a_exit (t_exit ?_))
      cases h
      have h := hX42
      refine t_exit (b_exit ?_)
      exact j_leaf () (Option.some.inj h) (by kernel_rfl)
    · have h := ite_t hb43 h
      refine a_cond_t rfl (a_skip (a_next (σ' := ⟨[(0, (eSA64u8 a0)), (1, (.clo 145 [] [(.ref (.clo 126 [] [(.ref (eT_i64_A64u8_A64u8_A64u8_Z a1c0c0) [] [])]) [] [])])), (7, (i6 (a0.length : Int))), (8, (i6 x33))], []⟩) (by kernel_rfl) (a_seq (a_block (sr (vp (i6 x33) rfl (vp (i6 x33) rfl (nx ⟨[(0, (eSA64u8 a0)), (1, (.clo 145 [] [(.ref (.clo 126 [] [(.ref (eT_i64_A64u8_A64u8_A64u8_Z a1c0c0) [] [])]) [] [])])), (5, (i6 x33)), (7, (i6 (a0.length : Int))), (8, (i6 x33))], []⟩ (by kernel_rfl) (sr ?_)))))))))
      refine vp (.clo 145 [] [(.ref (.clo 126 [] [(.ref (eT_i64_A64u8_A64u8_A64u8_Z a1c0c0) [] [])]) [] [])]) rfl (vp (eSA64u8 a0) rfl (vp (i6 x33) rfl ?_))
      obtain ⟨hc44, h⟩ := ifp_some h
      refine vq (.ref (.row 64 (a0.map eA64u8)) [x33.toNat] [x33.toNat * 64]) rfl (lmap hc44) ?_
      have hl45 : LdOk [x33.toNat] (.row 64 (a0.map eA64u8)) [x33.toNat * 64] 64 true (eA64u8 (rd a0 x33.toNat)) := (.row (llt hc44) rfl (.nil rfl rfl rfl))
      refine vq (eA64u8 (rd a0 x33.toNat)) (ld_ref (i := ⟨.arr 64 5, 64, 64, (eA64u8 (vrep 64 (0 : Int)))⟩) rfl rfl hl45) hl45.c ?_
      obtain ⟨r46, hr47, h⟩ := bind_some h
      refine a_call (args := [(eA64u8 (rd a0 x33.toNat)), (.ref (.clo 126 [] [(.ref (eT_i64_A64u8_A64u8_A64u8_Z a1c0c0) [] [])]) [] [])]) (u := []) (r := (.bool r46)) rfl rfl (impl_areAll_impl_Poly__c1_of_p_drinfeldCode_c1_ok (rd a0 x33.toNat) a1c0c0 r46 hr47) rfl (nx ⟨[(0, (eSA64u8 a0)), (1, (.clo 145 [] [(.ref (.clo 126 [] [(.ref (eT_i64_A64u8_A64u8_A64u8_Z a1c0c0) [] [])]) [] [])])), (5, (i6 x33)), (7, (i6 (a0.length : Int))), (8, (i6 x33)), (16, (.bool r46))], []⟩ (by kernel_rfl) ?_)
      cases hb48 : r46
      · have h := ite_f hb48 h
        refine a_cond_f rfl (a_skip (b_norm (a_next (σ' := ⟨[(0, (eSA64u8 a0)), (1, (.clo 145 [] [(.ref (.clo 126 [] [(.ref (eT_i64_A64u8_A64u8_A64u8_Z a1c0c0) [] [])]) [] [])])), (7, (i6 (a0.length : Int))), (8, (i6 x33))], []⟩) (by kernel_rfl) (a_region (vp (i6 (IntKind.i64.wrap (x33 + 1))) rfl (vp (i6 (IntKind.i64.wrap (x33 + 1))) rfl (a_nil ?_)))))))
        cases h
        exact a_again (by kernel_rfl) hX42
      · have h := ite_t hb48 h
        refine a_cond_t rfl (sr (vp (i6 x33) rfl (vp (i6 x33) rfl (nx _ rfl (a_ret (b_ret (t_ret ?_)))))))
        cases h
        have h := hX42
        refine t_ret (b_ret (t_ret ?_))
        cases h
        have h := hk26
        refine ⟨.inr rfl, ?_⟩
        rw [Try.results165]
        cases h
        exact ⟨_, _, _, _, _, rfl, trivial, .inl ⟨rfl, .inl rfl⟩, rfl, rfl⟩
def slices_ContainsFunc_impl_Poly_impl_Poly_of_impl_areAll_impl_Poly__c1_p_drinfeldCode_c1_c : ACode := (.seq (.region 0 [q 4 (.asg 0 (.const (.bool false)) 4)] false) (.seq (.region 1 [q 5 (.mov (t 0)), q 6 (.mov (t 1)), q 7 (.call 0 (.func 165) [(t 5), (t 6)]), q 8 (.bin .geq 3 (t 7) (.const (.int .i64 0))), q 4 (.asg 0 (t 8) 4)] false) .ret))
def slices_ContainsFunc_impl_Poly_impl_Poly_of_impl_areAll_impl_Poly__c1_p_drinfeldCode_c1_L : Live := [(0, [0, 1]), (1, [0, 1])]
noncomputable def slices_ContainsFunc_impl_Poly_impl_Poly_of_impl_areAll_impl_Poly__c1_p_drinfeldCode_c1 (a0 : (List (Vec Int 64))) (a1c0c0 : (Int × (Vec Int 64) × (Vec Int 64) × (Vec Int 64))) : Option Bool :=
  (Option.bind (slices_IndexFunc_impl_Poly_impl_Poly_of_impl_areAll_impl_Poly__c1_p_drinfeldCode_c1 a0 a1c0c0) fun r1 => (some ((decide (r1 ≥ 0)))))
theorem slices_ContainsFunc_impl_Poly_impl_Poly_of_impl_areAll_impl_Poly__c1_p_drinfeldCode_c1_ok (a0 : (List (Vec Int 64))) (a1c0c0 : (Int × (Vec Int 64) × (Vec Int 64) × (Vec Int 64))) (r : Bool) (h : slices_ContainsFunc_impl_Poly_impl_Poly_of_impl_areAll_impl_Poly__c1_p_drinfeldCode_c1 a0 a1c0c0 = some r) : Den Try.prog 144 [(eSA64u8 a0), (.clo 145 [] [(.ref (.clo 126 [] [(.ref (eT_i64_A64u8_A64u8_A64u8_Z a1c0c0) [] [])]) [] [])])] { r := (.bool r) } := by
  refine den_of (rs := [(.bool r)]) (ac := slices_ContainsFunc_impl_Poly_impl_Poly_of_impl_areAll_impl_Poly__c1_p_drinfeldCode_c1_c) (L := slices_ContainsFunc_impl_Poly_impl_Poly_of_impl_areAll_impl_Poly__c1_p_drinfeldCode_c1_L) (n := 9) (m := []) (c := Try.f144.body.getD .skip) good Try.func144 (by kernel_rfl) (by kernel_rfl) Try.ntmps144 rfl rfl (by kernel_rfl) rfl rfl ?_
  refine a_st (σ' := ⟨[(0, (eSA64u8 a0)), (1, (.clo 145 [] [(.ref (.clo 126 [] [(.ref (eT_i64_A64u8_A64u8_A64u8_Z a1c0c0) [] [])]) [] [])]))], []⟩) (by kernel_rfl) ?_
  unfold slices_ContainsFunc_impl_Poly_impl_Poly_of_impl_areAll_impl_Poly__c1_p_drinfeldCode_c1_c
  refine sr (vp (.bool false) rfl (nx ⟨[(0, (eSA64u8 a0)), (1, (.clo 145 [] [(.ref (.clo 126 [] [(.ref (eT_i64_A64u8_A64u8_A64u8_Z a1c0c0) [] [])]) [] [])]))], []⟩ (by kernel_rfl) (sr (vp (eSA64u8 a0) rfl (vp (.clo 145 [] [(.ref (.clo 126 [] [(.ref (eT_i64_A64u8_A64u8_A64u8_Z a1c0c0) [] [])]) [] [])]) rfl ?_)))))
  obtain ⟨r1, hr2, h⟩ := bind_some h
  refine a_call (args := [(eSA64u8 a0), (.clo 145 [] [(.ref (.clo 126 [] [(.ref (eT_i64_A64u8_A64u8_A64u8_Z a1c0c0) [] [])]) [] [])])]) (u := []) (r := (i6 r1)) rfl rfl (slices_IndexFunc_impl_Poly_impl_Poly_of_impl_areAll_impl_Poly__c1_p_drinfeldCode_c1_ok a0 a1c0c0 r1 hr2) rfl (vp (.bool ((decide (r1 ≥ 0)))) rfl (vp (.bool ((decide (r1 ≥ 0)))) rfl (nx _ rfl (a_ret ?_))))
  refine ⟨.inr rfl, ?_⟩
  rw [Try.results144]
  cases h
  exact ⟨_, _, _, _, _, rfl, trivial, .inl ⟨rfl, .inl rfl⟩, rfl, rfl⟩
def impl_areAll_impl_Poly_of_impl_drinfeldCode_c1_p_c : ACode := (.seq (.region 0 [q 3 (.box 61 (t 1)), q 4 (.asg 0 (.const (.bool false)) 4)] false) (.seq (.region 1 [q 5 (.mov (t 0)), q 6 (.mkfn 145 [] [(t 3)]), q 7 (.call 0 (.func 144) [(t 5), (t 6)]), q 8 (.un .not (t 7)), q 4 (.asg 0 (t 8) 4)] false) .ret))
def impl_areAll_impl_Poly_of_impl_drinfeldCode_c1_p_L : Live := [(0, [0, 1]), (1, [0, 3])]
noncomputable def impl_areAll_impl_Poly_of_impl_drinfeldCode_c1_p (a0 : (List (Vec Int 64))) (a1c0 : (Int × (Vec Int 64) × (Vec Int 64) × (Vec Int 64))) : Option Bool :=
  (Option.bind (slices_ContainsFunc_impl_Poly_impl_Poly_of_impl_areAll_impl_Poly__c1_p_drinfeldCode_c1 a0 a1c0) fun r1 => (some (!r1)))
theorem impl_areAll_impl_Poly_of_impl_drinfeldCode_c1_p_ok (a0 : (List (Vec Int 64))) (a1c0 : (Int × (Vec Int 64) × (Vec Int 64) × (Vec Int 64))) (r : Bool) (h : impl_areAll_impl_Poly_of_impl_drinfeldCode_c1_p a0 a1c0 = some r) : Den Try.prog 119 [(eSA64u8 a0), (.clo 126 [] [(.ref (eT_i64_A64u8_A64u8_A64u8_Z a1c0) [] [])])] { r := (.bool r) } := by
  refine den_of (rs := [(.bool r)]) (ac := impl_areAll_impl_Poly_of_impl_drinfeldCode_c1_p_c) (L := impl_areAll_impl_Poly_of_impl_drinfeldCode_c1_p_L) (n := 9) (m := []) (c := Try.f119.body.getD .skip) good Try.func119 (by kernel_rfl) (by kernel_rfl) Try.ntmps119 rfl rfl (by kernel_rfl) rfl rfl ?_
  refine a_st (σ' := ⟨[(0, (eSA64u8 a0)), (1, (.clo 126 [] [(.ref (eT_i64_A64u8_A64u8_A64u8_Z a1c0) [] [])]))], []⟩) (by kernel_rfl) ?_
  unfold impl_areAll_impl_Poly_of_impl_drinfeldCode_c1_p_c
  refine sr (vo 1300 (.clo 126 [] [(.ref (eT_i64_A64u8_A64u8_A64u8_Z a1c0) [] [])]) rfl rfl (vp (.bool false) rfl (nx ⟨[(0, (eSA64u8 a0)), (3, (ow 3))], [(3, (bk (.clo 126 [] [(.ref (eT_i64_A64u8_A64u8_A64u8_Z a1c0) [] [])])))]⟩ (by kernel_rfl) (sr (vp (eSA64u8 a0) rfl (vu (.clo 145 [] [(.ref (.clo 126 [] [(.ref (eT_i64_A64u8_A64u8_A64u8_Z a1c0) [] [])]) [] [])]) [(3, (bf (.clo 126 [] [(.ref (eT_i64_A64u8_A64u8_A64u8_Z a1c0) [] [])])))] rfl trivial rfl ?_))))))
  obtain ⟨r1, hr2, h⟩ := bind_some h
  refine a_call (args := [(eSA64u8 a0), (.clo 145 [] [(.ref (.clo 126 [] [(.ref (eT_i64_A64u8_A64u8_A64u8_Z a1c0) [] [])]) [] [])])]) (u := []) (r := (.bool r1)) rfl rfl (slices_ContainsFunc_impl_Poly_impl_Poly_of_impl_areAll_impl_Poly__c1_p_drinfeldCode_c1_ok a0 a1c0 r1 hr2) rfl (vp (.bool (!r1)) rfl (vp (.bool (!r1)) rfl (nx _ rfl (a_ret ?_))))
  refine ⟨.inr rfl, ?_⟩
  rw [Try.results119]
  cases h
  exact ⟨_, _, _, _, _, rfl, trivial, .inl ⟨rfl, .inl rfl⟩, rfl, rfl⟩
def impl_drinfeldCode_c : ACode := (.seq (.region 0 [q 2 (.box 52 (t 0)), q 4 (.asg 0 (.const (.int .i64 0)) 2)] false) (.seq (.seq (.region 1 [q 5 (.load 52 (t 2)), q 6 (.call 0 (.func 38) [(t 5)]), q 7 (.un .not (t 6)), q 8 (.mov (t 7)), ⟨some 9, .mov (t 1), some (8, false), []⟩, ⟨some 10, .mkfn 126 [] [(t 2)], some (8, false), []⟩, ⟨some 11, .call 0 (.func 119) [(t 9), (t 10)], some (8, false), []⟩, ⟨some 12, .un .not (t 11), some (8, false), []⟩, q 13 (.pick (t 8) (.const (.bool true)) (t 12))] false) (.cond (t 13) (.seq (.region 2 [q 4 (.asg 0 (.const (.int .i64 1)) 2)] false) .ret) .skip)) (.seq (.region 3 [q 4 (.asg 0 (.const (.int .i64 0)) 2)] false) .ret)))
def impl_drinfeldCode_L : Live := [(0, [0, 1]), (1, [1, 2]), (2, []), (3, []), (100013, [13])]
noncomputable def impl_drinfeldCode (a0 : (Int × (Vec Int 64) × (Vec Int 64) × (Vec Int 64))) (a1 : (List (Vec Int 64))) : Option Int :=
  (Option.bind (α := Bool) ((Option.bind (impl_IsDrinfeld a0) fun r12 => (if (!r12) then (some true) else (Option.bind (impl_areAll_impl_Poly_of_impl_drinfeldCode_c1_p a1 a0) fun r15 => (some (!r15)))))) fun x7 => (if x7 then (some 1) else (some 0)))
theorem impl_drinfeldCode_ok (a0 : (Int × (Vec Int 64) × (Vec Int 64) × (Vec Int 64))) (a1 : (List (Vec Int 64))) (r : Int) (h : impl_drinfeldCode a0 a1 = some r) : Den Try.prog 83 [(eT_i64_A64u8_A64u8_A64u8_Z a0), (eSA64u8 a1)] { r := (i6 r) } := by
  refine den_of (rs := [(i6 r)]) (ac := impl_drinfeldCode_c) (L := impl_drinfeldCode_L) (n := 14) (m := []) (c := Try.f83.body.getD .skip) good Try.func83 (by kernel_rfl) (by kernel_rfl) Try.ntmps83 rfl rfl (by kernel_rfl) rfl rfl ?_
  refine a_st (σ' := ⟨[(0, (eT_i64_A64u8_A64u8_A64u8_Z a0)), (1, (eSA64u8 a1))], []⟩) (by kernel_rfl) ?_
  unfold impl_drinfeldCode_c
  refine sr (vo 1200 (eT_i64_A64u8_A64u8_A64u8_Z a0) rfl rfl (vp (i6 0) rfl (nx ⟨[(1, (eSA64u8 a1)), (2, (ow 2))], [(2, (bk (eT_i64_A64u8_A64u8_A64u8_Z a0)))]⟩ (by kernel_rfl) (a_seq ?_))))
  obtain ⟨y8, hy9, hk10⟩ := bind_some h
  clear h
  refine a_join (emb := fun (s : Bool) => ⟨[(13, (.bool s))], []⟩) (pre := fun s => s = y8) ?_ ?_
  · rintro x7 rfl
    have h := hk10
    refine a_st (σ' := ⟨[(13, (.bool x7))], []⟩) (by kernel_rfl) ?_
    cases hb17 : x7
    · have h := ite_f hb17 h
      refine a_cond_f rfl (a_skip (a_next (σ' := ⟨[], []⟩) (by kernel_rfl) (sr (vp (i6 0) rfl (nx _ rfl (a_ret ?_))))))
      refine ⟨.inr rfl, ?_⟩
      rw [Try.results83]
      cases h
      exact ⟨_, _, _, _, _, rfl, trivial, .inl ⟨rfl, .inl rfl⟩, rfl, rfl⟩
    · have h := ite_t hb17 h
      refine a_cond_t rfl (sr (vp (i6 1) rfl (nx _ rfl (a_ret (t_ret ?_)))))
      refine ⟨.inr rfl, ?_⟩
      rw [Try.results83]
      cases h
      exact ⟨_, _, _, _, _, rfl, trivial, .inl ⟨rfl, .inl rfl⟩, rfl, rfl⟩
  · have h := hy9
    refine a_region (vl (eT_i64_A64u8_A64u8_A64u8_Z a0) rfl rfl rfl rfl rfl rfl ?_)
    obtain ⟨r12, hr13, h⟩ := bind_some h
    refine a_call (args := [(eT_i64_A64u8_A64u8_A64u8_Z a0)]) (u := []) (r := (.bool r12)) rfl rfl (impl_IsDrinfeld_ok a0 r12 hr13) rfl (vp (.bool (!r12)) rfl (vp (.bool (!r12)) rfl ?_))
    cases hb14 : (!r12)
    · have h := ite_f hb14 h
      refine gp (eSA64u8 a1) rfl rfl (a_gval rfl (v := (.clo 126 [] [(.ref (eT_i64_A64u8_A64u8_A64u8_Z a0) [] [])])) (u := [(2, (bf (eT_i64_A64u8_A64u8_A64u8_Z a0)))]) rfl trivial rfl ?_)
      obtain ⟨r15, hr16, h⟩ := bind_some h
      refine a_gcall rfl (args := [(eSA64u8 a1), (.clo 126 [] [(.ref (eT_i64_A64u8_A64u8_A64u8_Z a0) [] [])])]) (u := []) (r := (.bool r15)) rfl rfl (impl_areAll_impl_Poly_of_impl_drinfeldCode_c1_p_ok a1 a0 r15 hr16) rfl (gp (.bool (!r15)) rfl rfl (vp (.bool (!r15)) rfl (a_nil ?_)))
      exact j_leaf (!r15) (Option.some.inj h) (by kernel_rfl)
    · have h := ite_t hb14 h
      refine a_gskip rfl (a_gskip rfl (a_gskip rfl (a_gskip rfl (vp (.bool true) rfl (a_nil ?_)))))
      exact j_leaf true (Option.some.inj h) (by kernel_rfl)
def impl_Drinfeld_field_c : ACode := (.seq (.region 0 [q 1 (.box 52 (t 0)), q 2 (.alloc 88)] false) (.seq (.region 1 [q 3 (.fieldAddr 52 (t 1) 0), q 4 (.load 2 (t 3)), q 5 (.fieldAddr 52 (t 1) 1), q 6 (.load 24 (t 5)), q 7 (.call 0 (.func 71) [(t 4), (t 6)]), ⟨none, .store 88 (t 2) (t 7), none, []⟩] false) .ret))
def impl_Drinfeld_field_L : Live := [(0, [0]), (1, [1, 2])]
noncomputable def impl_Drinfeld_field (a0 : (Int × (Vec Int 64) × (Vec Int 64) × (Vec Int 64))) : Option (Int × (List Int)) :=
  (Option.bind (impl_fieldOf a0.1 a0.2.1) fun r3 => (some r3))
theorem impl_Drinfeld_field_ok (a0 : (Int × (Vec Int 64) × (Vec Int 64) × (Vec Int 64))) (r : (Int × (List Int))) (h : impl_Drinfeld_field a0 = some r) : Den Try.prog 84 [(eT_i64_A64u8_A64u8_A64u8_Z a0)] { r := (eT_i64_Si64_Z r) } := by
  refine den_of (rs := [(eT_i64_Si64_Z r)]) (ac := impl_Drinfeld_field_c) (L := impl_Drinfeld_field_L) (n := 8) (m := []) (c := Try.f84.body.getD .skip) good Try.func84 (by kernel_rfl) (by kernel_rfl) Try.ntmps84 rfl rfl (by kernel_rfl) rfl rfl ?_
  refine a_st (σ' := ⟨[(0, (eT_i64_A64u8_A64u8_A64u8_Z a0))], []⟩) (by kernel_rfl) ?_
  unfold impl_Drinfeld_field_c
  refine sr (vo 1100 (eT_i64_A64u8_A64u8_A64u8_Z a0) rfl rfl (vo 1200 (eT_i64_Si64_Z (((0 : Int), []))) rfl rfl (nx ⟨[(1, (ow 1)), (2, (ow 2))], [(1, (bk (eT_i64_A64u8_A64u8_A64u8_Z a0))), (2, (bk (eT_i64_Si64_Z (((0 : Int), [])))))]⟩ (by kernel_rfl) (sr (vb (.own 1 [0] [0]) rfl rfl ?_)))))
  have hl1 : LdOk [0] (eT_i64_A64u8_A64u8_A64u8_Z a0) [0] 1 false (i6 a0.1) := (.fld rfl rfl rfl rfl (.nil rfl rfl rfl))
  refine vq (i6 a0.1) (ld_own (i := ⟨.int .i64, 1, 8, (.int .i64 0)⟩) rfl rfl rfl hl1) hl1.c (vb (.own 1 [1] [1]) rfl rfl ?_)
  have hl2 : LdOk [1] (eT_i64_A64u8_A64u8_A64u8_Z a0) [1] 64 true (eA64u8 a0.2.1) := (.fld rfl rfl rfl rfl (.nil rfl rfl rfl))
  refine vq (eA64u8 a0.2.1) (ld_own (i := ⟨.arr 64 5, 64, 64, (eA64u8 (vrep 64 (0 : Int)))⟩) rfl rfl rfl hl2) hl2.c ?_
  obtain ⟨r3, hr4, h⟩ := bind_some h
  refine a_call (args := [(i6 a0.1), (eA64u8 a0.2.1)]) (u := []) (r := (eT_i64_Si64_Z r3)) rfl rfl (impl_fieldOf_ok a0.1 a0.2.1 r3 hr4) rfl (vs (eT_i64_Si64_Z r3) rfl rfl (fun _ => rfl) rfl rfl rfl rfl rfl rfl (nx _ rfl (a_ret ?_)))
  have hl6 : LdOk [] (eT_i64_Si64_Z r3) [] 2 true (eT_i64_Si64_Z r3) := (.nil rfl rfl rfl)
  refine ⟨.inr rfl, ?_⟩
  rw [Try.results84]
  cases h
  exact ⟨_, _, _, _, _, ld_own (i := ⟨.struct [(0, 62), (1, 65)], 2, 32, (eT_i64_Si64_Z ((0 : Int), []))⟩) rfl rfl rfl hl6, hl6.c, .inl ⟨rfl, .inl rfl⟩, rfl, rfl⟩
def impl_field_product_c : ACode := (.seq (.region 0 [q 3 (.box 88 (t 0)), q 6 (.asg 1 (.const (.slice none 0 0)) 65)] false) (.seq (.region 1 [q 7 (.fieldAddr 88 (t 3) 0), ⟨some 8, .load 62 (t 7), none, [0]⟩, q 9 (.fieldAddr 88 (t 3) 0), ⟨some 10, .load 62 (t 9), none, [2]⟩, q 11 (.mov (t 1)), q 12 (.mov (t 2)), ⟨some 13, .call 0 (.func 136) [(t 10), (t 11), (t 12)], none, [3, 4, 5]⟩, q 14 (.fieldAddr 88 (t 3) 1), ⟨some 15, .load 65 (t 14), none, [7]⟩, ⟨some 16, .call 0 (.func 135) [(t 8), (t 13), (t 15)], none, [1, 6, 8, 6]⟩, ⟨some 6, .asg 1 (t 16) 65, none, [9, 9, 0, 1, 2, 3, 4, 5, 6, 7, 8, 9]⟩] true) .ret))
def impl_field_product_L : Live := [(0, [0, 1, 2]), (1, [1, 2, 3])]
noncomputable def impl_field_product (a0 : (Int × (List Int))) (a1 : (List Int)) (a2 : (List Int)) : Option (List Int) :=
  (Option.bind (impl_prime_times a0.1 a1 a2) fun r10 => (Option.bind (impl_prime_rest a0.1 r10 a0.2) fun r13 => (some r13)))
theorem impl_field_product_ok (a0 : (Int × (List Int))) (a1 : (List Int)) (a2 : (List Int)) (r : (List Int)) (h : impl_field_product a0 a1 a2 = some r) : Den Try.prog 127 [(eT_i64_Si64_Z a0), (eSi64 a1), (eSi64 a2)] { r := (eSi64 r) } := by
  refine den_of (rs := [(eSi64 r)]) (ac := impl_field_product_c) (L := impl_field_product_L) (n := 17) (m := [(6, 1)]) (c := Try.f127.body.getD .skip) good Try.func127 (by kernel_rfl) (by kernel_rfl) Try.ntmps127 rfl rfl (by kernel_rfl) rfl rfl ?_
  refine a_st (σ' := ⟨[(0, (eT_i64_Si64_Z a0)), (1, (eSi64 a1)), (2, (eSi64 a2))], []⟩) (by kernel_rfl) ?_
  unfold impl_field_product_c
  refine sr (vo 1300 (eT_i64_Si64_Z a0) rfl rfl (vp (eSi64 ([])) rfl (nx ⟨[(1, (eSi64 a1)), (2, (eSi64 a2)), (3, (ow 3))], [(3, (bk (eT_i64_Si64_Z a0)))]⟩ (by kernel_rfl) (a_seq (a_draw [⟨[3], [], [3], []⟩, ⟨[3], [], [], [0]⟩, ⟨[3], [], [3], []⟩, ⟨[3], [], [], [2]⟩, ⟨[], [], [], []⟩, ⟨[], [], [], []⟩, ⟨[], [], [], [2, 3, 4, 5]⟩, ⟨[3], [], [3], []⟩, ⟨[3], [], [], [7]⟩, ⟨[], [], [], [0, 1, 2, 3, 4, 5, 6, 7, 8]⟩, ⟨[], [], [], [0, 1, 2, 3, 4, 5, 6, 7, 8, 9]⟩] (by kernel_rfl) (d_cons (vb (.own 3 [0] [0]) rfl rfl (d_next (by kernel_rfl) (d_cons ?_)))))))))
  have hl8 : LdOk [0] (eT_i64_Si64_Z a0) [0] 1 false (i6 a0.1) := (.fld rfl rfl rfl rfl (.nil rfl rfl rfl))
  refine vq (i6 a0.1) (ld_own (i := ⟨.int .i64, 1, 8, (.int .i64 0)⟩) rfl rfl rfl hl8) hl8.c (d_next (by kernel_rfl) (d_cons (vb (.own 3 [0] [0]) rfl rfl (d_next (by kernel_rfl) (d_cons ?_)))))
  have hl9 : LdOk [0] (eT_i64_Si64_Z a0) [0] 1 false (i6 a0.1) := (.fld rfl rfl rfl rfl (.nil rfl rfl rfl))
  refine vq (i6 a0.1) (ld_own (i := ⟨.int .i64, 1, 8, (.int .i64 0)⟩) rfl rfl rfl hl9) hl9.c (d_next (by kernel_rfl) (dp (eSi64 a1) rfl (by kernel_rfl) (dp (eSi64 a2) rfl (by kernel_rfl) (d_cons ?_))))
  obtain ⟨r10, hr11, h⟩ := bind_some h
  refine a_call (args := [(i6 a0.1), (eSi64 a1), (eSi64 a2)]) (u := []) (r := (eSi64 r10)) rfl rfl (impl_prime_times_ok a0.1 a1 a2 r10 hr11) rfl (d_next (by kernel_rfl) (d_cons (vb (.own 3 [1] [1]) rfl rfl (d_next (by kernel_rfl) (d_cons ?_)))))
  have hl12 : LdOk [1] (eT_i64_Si64_Z a0) [1] 1 false (eSi64 a0.2) := (.fld rfl rfl rfl rfl (.nil rfl rfl rfl))
  refine vq (eSi64 a0.2) (ld_own (i := ⟨.slice 2, 1, 24, (eSi64 [])⟩) rfl rfl rfl hl12) hl12.c (d_next (by kernel_rfl) (d_cons ?_))
  obtain ⟨r13, hr14, h⟩ := bind_some h
  refine a_call (args := [(i6 a0.1), (eSi64 r10), (eSi64 a0.2)]) (u := []) (r := (eSi64 r13)) rfl rfl (impl_prime_rest_ok a0.1 r10 a0.2 r13 hr14) rfl (d_next (by kernel_rfl) (dp (eSi64 r13) rfl (by kernel_rfl) (d_nil (a_next rfl (a_ret ?_)))))
  refine ⟨.inr rfl, ?_⟩
  rw [Try.results127]
  cases h
  exact ⟨_, _, _, _, _, rfl, trivial, .inl ⟨rfl, .inl rfl⟩, rfl, rfl⟩
def impl_field_frobenius_c : ACode := (.seq (.region 0 [q 3 (.box 88 (t 0)), q 6 (.asg 1 (.const (.slice none 0 0)) 65)] false) (.seq (.seq (.region 1 [q 7 (.mov (t 2)), q 8 (.fieldAddr 88 (t 3) 1), q 9 (.load 65 (t 8)), q 10 (.call 0 (.func 59) [(t 9)]), q 11 (.bin .rem 2 (t 7) (t 10)), q 12 (.mov (.const (.int .i64 0)))] false) (.block 0 (.loop (.seq (.region 2 [q 13 (.bin .lss 2 (t 12) (t 11))] false) (.seq (.cond (t 13) .skip (.exit 0)) (.seq (.block 1 (.region 3 [q 14 (.fieldAddr 88 (t 3) 0), q 15 (.load 62 (t 14)), q 16 (.mov (t 1)), q 17 (.fieldAddr 88 (t 3) 0), q 18 (.load 62 (t 17)), q 19 (.fieldAddr 88 (t 3) 1), q 20 (.load 65 (t 19)), q 21 (.call 0 (.func 108) [(t 15), (t 16), (t 18), (t 20)]), q 1 (.asg 1 (t 21) 65)] false)) (.region 4 [q 22 (.bin .add 2 (t 12) (.const (.int .i64 1))), q 12 (.mov (t 22))] false))))))) (.seq (.region 5 [q 23 (.mov (t 1)), q 6 (.asg 1 (t 23) 65)] false) .ret)))
def impl_field_frobenius_L : Live := [(0, [0, 1, 2]), (1, [1, 2, 3]), (2, [1, 3, 11, 12]), (3, [1, 3, 11, 12]), (4, [1, 3, 11, 12]), (5, [1]), (100013, [1, 3, 11, 12, 13])]
noncomputable def impl_field_frobenius_l1 (a2 : Int) (r34 : Int) (a0 : (Int × (List Int))) (x43 : (List Int)) (x44 : Int) : Option (((List Int) × Int) ⊕ (List Int)) :=
  (if (decide (x44 < (Int.tmod a2 r34))) then (Option.bind (impl_prime_power a0.1 x43 a0.1 a0.2) fun r58 => (some (.inl ((r58, IntKind.i64.wrap (x44 + 1)))))) else (some (.inr x43)))
noncomputable def impl_field_frobenius (a0 : (Int × (List Int))) (a1 : (List Int)) (a2 : Int) : Option (List Int) :=
  (Option.bind (α := (List Int)) ((Option.bind (impl_row_degree a0.2) fun r34 => (ifp (r34 ≠ 0) ((loopM (fun s : ((List Int) × Int) => impl_field_frobenius_l1 a2 r34 a0 s.1 s.2) (a1, 0)))))) fun x29 => (some x29))
theorem impl_field_frobenius_ok (a0 : (Int × (List Int))) (a1 : (List Int)) (a2 : Int) (r : (List Int)) (h : impl_field_frobenius a0 a1 a2 = some r) : Den Try.prog 128 [(eT_i64_Si64_Z a0), (eSi64 a1), (i6 a2)] { r := (eSi64 r) } := by
  refine den_of (rs := [(eSi64 r)]) (ac := impl_field_frobenius_c) (L := impl_field_frobenius_L) (n := 24) (m := [(1, 1), (6, 1)]) (c := Try.f128.body.getD .skip) good Try.func128 (by kernel_rfl) (by kernel_rfl) Try.ntmps128 rfl rfl (by kernel_rfl) rfl rfl ?_
  refine a_st (σ' := ⟨[(0, (eT_i64_Si64_Z a0)), (1, (eSi64 a1)), (2, (i6 a2))], []⟩) (by kernel_rfl) ?_
  unfold impl_field_frobenius_c
  refine sr (vo 1300 (eT_i64_Si64_Z a0) rfl rfl (vp (eSi64 ([])) rfl (nx ⟨[(1, (eSi64 a1)), (2, (i6 a2)), (3, (ow 3))], [(3, (bk (eT_i64_Si64_Z a0)))]⟩ (by kernel_rfl) ?_)))
  obtain ⟨y30, hy31, hk32⟩ := bind_some h
  clear h
  refine a_join (emb := fun (s : (List Int)) => ⟨[(1, (eSi64 s))], []⟩) (pre := fun s => s = y30) ?_ ?_
  · rintro x29 rfl
    have h := hk32
    refine a_st (σ' := ⟨[(1, (eSi64 x29))], []⟩) (by kernel_rfl) (sr (vp (eSi64 x29) rfl (vp (eSi64 x29) rfl (nx _ rfl (a_ret ?_)))))
    refine ⟨.inr rfl, ?_⟩
    rw [Try.results128]
    cases h
    exact ⟨_, _, _, _, _, rfl, trivial, .inl ⟨rfl, .inl rfl⟩, rfl, rfl⟩
  · have h := hy31
    refine sr (vp (i6 a2) rfl (vb (.own 3 [1] [1]) rfl rfl ?_))
    have hl33 : LdOk [1] (eT_i64_Si64_Z a0) [1] 1 false (eSi64 a0.2) := (.fld rfl rfl rfl rfl (.nil rfl rfl rfl))
    refine vq (eSi64 a0.2) (ld_own (i := ⟨.slice 2, 1, 24, (eSi64 [])⟩) rfl rfl rfl hl33) hl33.c ?_
    obtain ⟨r34, hr35, h⟩ := bind_some h
    refine a_call (args := [(eSi64 a0.2)]) (u := []) (r := (i6 r34)) rfl rfl (impl_row_degree_ok a0.2 r34 hr35) rfl ?_
    obtain ⟨hc36, h⟩ := ifp_some h
    refine vq (i6 (Int.tmod a2 r34)) rfl hc36 (vp (i6 0) rfl (nx ⟨[(1, (eSi64 a1)), (3, (ow 3)), (11, (i6 (Int.tmod a2 r34))), (12, (i6 0))], [(3, (bk (eT_i64_Si64_Z a0)))]⟩ (by kernel_rfl) (a_block ?_)))
    refine a_loop (emb := fun (s : ((List Int) × Int)) => ⟨[(1, (eSi64 s.1)), (3, (ow 3)), (11, (i6 (Int.tmod a2 r34))), (12, (i6 s.2))], [(3, (bk (eT_i64_Si64_Z a0)))]⟩) (body := (fun s : ((List Int) × Int) => impl_field_frobenius_l1 a2 r34 a0 s.1 s.2)) (G := fun q => some q = some y30) h rfl ?_ (by kernel_rfl)
    rintro X51 ⟨x43, x44⟩ x52 h hX53
    have h : impl_field_frobenius_l1 a2 r34 a0 x43 x44 = some x52 := h
    refine a_st (σ' := ⟨[(1, (eSi64 x43)), (3, (ow 3)), (11, (i6 (Int.tmod a2 r34))), (12, (i6 x44))], [(3, (bk (eT_i64_Si64_Z a0)))]⟩) (by kernel_rfl) (sr (vp (.bool ((decide (x44 < (Int.tmod a2 r34))))) rfl (nx ⟨[(1, (eSi64 x43)), (3, (ow 3)), (11, (i6 (Int.tmod a2 r34))), (12, (i6 x44)), (13, (.bool ((decide (x44 < (Int.tmod a2 r34))))))], [(3, (bk (eT_i64_Si64_Z a0)))]⟩ (by kernel_rfl) (a_seq ?_))))
    cases hb54 : (decide (x44 < (Int.tmod a2 r34)))
    · have h := ite_f hb54 h
      refine a_cond_f rfl (a_exit (t_exit ?_))
      cases h
      have h := hX53
      refine t_exit (b_exit ?_)
      exact j_leaf x43 (Option.some.inj h) (by kernel_rfl)
    · have h := ite_t hb54 h
      refine a_cond_t rfl (a_skip (a_next (σ' := ⟨[(1, (eSi64 x43)), (3, (ow 3)), (11, (i6 (Int.tmod a2 r34))), (12, (i6 x44))], [(3, (bk (eT_i64_Si64_Z a0)))]⟩) (by kernel_rfl) (a_seq (a_block (a_region (vb (.own 3 [0] [0]) rfl rfl ?_))))))
      have hl55 : LdOk [0] (eT_i64_Si64_Z a0) [0] 1 false (i6 a0.1) := (.fld rfl rfl rfl rfl (.nil rfl rfl rfl))
      refine vq (i6 a0.1) (ld_own (i := ⟨.int .i64, 1, 8, (.int .i64 0)⟩) rfl rfl rfl hl55) hl55.c (vp (eSi64 x43) rfl (vb (.own 3 [0] [0]) rfl rfl ?_))
      have hl56 : LdOk [0] (eT_i64_Si64_Z a0) [0] 1 false (i6 a0.1) := (.fld rfl rfl rfl rfl (.nil rfl rfl rfl))
      refine vq (i6 a0.1) (ld_own (i := ⟨.int .i64, 1, 8, (.int .i64 0)⟩) rfl rfl rfl hl56) hl56.c (vb (.own 3 [1] [1]) rfl rfl ?_)
      have hl57 : LdOk [1] (eT_i64_Si64_Z a0) [1] 1 false (eSi64 a0.2) := (.fld rfl rfl rfl rfl (.nil rfl rfl rfl))
      refine vq (eSi64 a0.2) (ld_own (i := ⟨.slice 2, 1, 24, (eSi64 [])⟩) rfl rfl rfl hl57) hl57.c ?_
      obtain ⟨r58, hr59, h⟩ := bind_some h
      refine a_call (args := [(i6 a0.1), (eSi64 x43), (i6 a0.1), (eSi64 a0.2)]) (u := []) (r := (eSi64 r58)) rfl rfl (impl_prime_power_ok a0.1 x43 a0.1 a0.2 r58 hr59) rfl (vp (eSi64 r58) rfl (a_nil (b_norm (a_next (σ' := ⟨[(1, (eSi64 r58)), (3, (ow 3)), (11, (i6 (Int.tmod a2 r34))), (12, (i6 x44))], [(3, (bk (eT_i64_Si64_Z a0)))]⟩) (by kernel_rfl) (a_region (vp (i6 (IntKind.i64.wrap (x44 + 1))) rfl (vp (i6 (IntKind.i64.wrap (x44 + 1))) rfl (a_nil ?_))))))))
      cases h
      exact a_again (by kernel_rfl) hX53
def impl_field_normOf_c : ACode := (.seq (.region 0 [q 2 (.box 88 (t 0)), q 4 (.asg 0 (.const (.int .i64 0)) 2)] false) (.seq (.region 1 [q 6 (.bslice 0 65 1 [(0, (.const (.int .i64 1)))]), q 5 (.asg 1 (t 6) 65)] false) (.seq (.seq (.region 2 [q 7 (.fieldAddr 88 (t 2) 1), q 8 (.load 65 (t 7)), q 9 (.call 0 (.func 59) [(t 8)]), q 10 (.mov (.const (.int .i64 0)))] false) (.block 0 (.loop (.seq (.region 3 [q 11 (.bin .lss 2 (t 10) (t 9))] false) (.seq (.cond (t 11) .skip (.exit 0)) (.seq (.block 1 (.seq (.region 4 [q 12 (.load 88 (t 2)), q 13 (.mov (t 5)), q 14 (.mov (t 1)), q 15 (.call 0 (.func 127) [(t 12), (t 13), (t 14)]), q 5 (.asg 1 (t 15) 65)] false) (.region 5 [q 16 (.load 88 (t 2)), q 17 (.mov (t 1)), q 18 (.call 0 (.func 128) [(t 16), (t 17), (.const (.int .i64 1))]), q 1 (.asg 1 (t 18) 65)] false))) (.region 6 [q 19 (.bin .add 2 (t 10) (.const (.int .i64 1))), q 10 (.mov (t 19))] false))))))) (.seq (.region 7 [q 20 (.mov (t 5)), q 21 (.call 0 (.func 129) [(t 20), (.const (.int .i64 0))]), q 4 (.asg 0 (t 21) 2)] false) .ret))))
def impl_field_normOf_L : Live := [(0, [0, 1]), (1, [1, 2]), (2, [1, 2, 5]), (3, [1, 2, 5, 9, 10]), (4, [1, 2, 5, 9, 10]), (5, [1, 2, 5, 9, 10]), (6, [1, 2, 5, 9, 10]), (7, [5]), (100011, [1, 2, 5, 9, 10, 11])]
noncomputable def impl_field_normOf_l1 (r37 : Int) (a0 : (Int × (List Int))) (x46 : (List Int)) (x47 : (List Int)) (x48 : Int) : Option (((List Int) × (List Int) × Int) ⊕ (List Int)) :=
  (if (decide (x48 < r37)) then (Option.bind (impl_field_product a0 x47 x46) fun r61 => (Option.bind (impl_field_frobenius a0 x46 1) fun r64 => (some (.inl ((r64, r61, IntKind.i64.wrap (x48 + 1))))))) else (some (.inr x47)))
noncomputable def impl_field_normOf (a0 : (Int × (List Int))) (a1 : (List Int)) : Option Int :=
  (Option.bind (α := (List Int)) ((Option.bind (impl_row_degree a0.2) fun r37 => (loopM (fun s : ((List Int) × (List Int) × Int) => impl_field_normOf_l1 r37 a0 s.1 s.2.1 s.2.2) (a1, [1], 0)))) fun x32 => (Option.bind (impl_row_at x32 0) fun r67 => (some r67)))
theorem impl_field_normOf_ok (a0 : (Int × (List Int))) (a1 : (List Int)) (r : Int) (h : impl_field_normOf a0 a1 = some r) : Den Try.prog 85 [(eT_i64_Si64_Z a0), (eSi64 a1)] { r := (i6 r) } := by
  refine den_of (rs := [(i6 r)]) (ac := impl_field_normOf_c) (L := impl_field_normOf_L) (n := 22) (m := [(1, 1), (5, 1)]) (c := Try.f85.body.getD .skip) good Try.func85 (by kernel_rfl) (by kernel_rfl) Try.ntmps85 rfl rfl (by kernel_rfl) rfl rfl ?_
  refine a_st (σ' := ⟨[(0, (eT_i64_Si64_Z a0)), (1, (eSi64 a1))], []⟩) (by kernel_rfl) ?_
  unfold impl_field_normOf_c
  refine sr (vo 1200 (eT_i64_Si64_Z a0) rfl rfl (vp (i6 0) rfl (nx ⟨[(1, (eSi64 a1)), (2, (ow 2))], [(2, (bk (eT_i64_Si64_Z a0)))]⟩ (by kernel_rfl) (sr (vq (.sl 1 true (([1]).map (AV.int .i64))) rfl ⟨(Nat.le_of_ble_eq_true rfl), (Nat.le_of_ble_eq_true rfl), (all_cons ⟨(Nat.le_of_ble_eq_true rfl), rfl⟩ all_nil)⟩ (vq (eSi64 ([1])) (asg_tight (i := ⟨.int .i64, 1, 8, (.int .i64 0)⟩) (f := (AV.int .i64)) (l := [1]) rfl rfl rfl) trivial (nx ⟨[(1, (eSi64 a1)), (2, (ow 2)), (5, (eSi64 ([1])))], [(2, (bk (eT_i64_Si64_Z a0)))]⟩ (by kernel_rfl) ?_)))))))
  obtain ⟨y33, hy34, hk35⟩ := bind_some h
  clear h
  refine a_join (emb := fun (s : (List Int)) => ⟨[(5, (eSi64 s))], []⟩) (pre := fun s => s = y33) ?_ ?_
  · rintro x32 rfl
    have h := hk35
    refine a_st (σ' := ⟨[(5, (eSi64 x32))], []⟩) (by kernel_rfl) (sr (vp (eSi64 x32) rfl ?_))
    obtain ⟨r67, hr68, h⟩ := bind_some h
    refine a_call (args := [(eSi64 x32), (i6 0)]) (u := []) (r := (i6 r67)) rfl rfl (impl_row_at_ok x32 0 r67 hr68) rfl (vp (i6 r67) rfl (nx _ rfl (a_ret ?_)))
    refine ⟨.inr rfl, ?_⟩
    rw [Try.results85]
    cases h
    exact ⟨_, _, _, _, _, rfl, trivial, .inl ⟨rfl, .inl rfl⟩, rfl, rfl⟩
  · have h := hy34
    refine sr (vb (.own 2 [1] [1]) rfl rfl ?_)
    have hl36 : LdOk [1] (eT_i64_Si64_Z a0) [1] 1 false (eSi64 a0.2) := (.fld rfl rfl rfl rfl (.nil rfl rfl rfl))
    refine vq (eSi64 a0.2) (ld_own (i := ⟨.slice 2, 1, 24, (eSi64 [])⟩) rfl rfl rfl hl36) hl36.c ?_
    obtain ⟨r37, hr38, h⟩ := bind_some h
    refine a_call (args := [(eSi64 a0.2)]) (u := []) (r := (i6 r37)) rfl rfl (impl_row_degree_ok a0.2 r37 hr38) rfl (vp (i6 0) rfl (nx ⟨[(1, (eSi64 a1)), (2, (ow 2)), (5, (eSi64 ([1]))), (9, (i6 r37)), (10, (i6 0))], [(2, (bk (eT_i64_Si64_Z a0)))]⟩ (by kernel_rfl) (a_block ?_)))
    refine a_loop (emb := fun (s : ((List Int) × (List Int) × Int)) => ⟨[(1, (eSi64 s.1)), (2, (ow 2)), (5, (eSi64 s.2.1)), (9, (i6 r37)), (10, (i6 s.2.2))], [(2, (bk (eT_i64_Si64_Z a0)))]⟩) (body := (fun s : ((List Int) × (List Int) × Int) => impl_field_normOf_l1 r37 a0 s.1 s.2.1 s.2.2)) (G := fun q => some q = some y33) h rfl ?_ (by kernel_rfl)
    rintro X56 ⟨x46, x47, x48⟩ x57 h hX58
    have h : impl_field_normOf_l1 r37 a0 x46 x47 x48 = some x57 := h
    refine a_st (σ' := ⟨[(1, (eSi64 x46)), (2, (ow 2)), (5, (eSi64 x47)), (9, (i6 r37)), (10, (i6 x48))], [(2, (bk (eT_i64_Si64_Z a0)))]⟩) (by kernel_rfl) (sr (vp (.bool ((decide (x48 < r37)))) rfl (nx ⟨[(1, (eSi64 x46)), (2, (ow 2)), (5, (eSi64 x47)), (9, (i6 r37)), (10, (i6 x48)), (11, (.bool ((decide (x48 < r37)))))], [(2, (bk (eT_i64_Si64_Z a0)))]⟩ (by kernel_rfl) (a_seq ?_))))
    cases hb59 : (decide (x48 < r37))
    · have h := ite_f hb59 h
      refine a_cond_f rfl (a_exit (t_exit ?_))
      cases h
      have h := hX58
      refine t_exit (b_exit ?_)
      exact j_leaf x47 (Option.some.inj h) (by kernel_rfl)
    · have h := ite_t hb59 h
      refine a_cond_t rfl (a_skip (a_next (σ' := ⟨[(1, (eSi64 x46)), (2, (ow 2)), (5, (eSi64 x47)), (9, (i6 r37)), (10, (i6 x48))], [(2, (bk (eT_i64_Si64_Z a0)))]⟩) (by kernel_rfl) (a_seq (a_block (sr (vl (eT_i64_Si64_Z a0) rfl rfl rfl rfl rfl rfl (vp (eSi64 x47) rfl (vp (eSi64 x46) rfl ?_))))))))
      obtain ⟨r61, hr62, h⟩ := bind_some h
      refine a_call (args := [(eT_i64_Si64_Z a0), (eSi64 x47), (eSi64 x46)]) (u := []) (r := (eSi64 r61)) rfl rfl (impl_field_product_ok a0 x47 x46 r61 hr62) rfl (vp (eSi64 r61) rfl (nx ⟨[(1, (eSi64 x46)), (2, (ow 2)), (5, (eSi64 r61)), (9, (i6 r37)), (10, (i6 x48))], [(2, (bk (eT_i64_Si64_Z a0)))]⟩ (by kernel_rfl) (a_region (vl (eT_i64_Si64_Z a0) rfl rfl rfl rfl rfl rfl (vp (eSi64 x46) rfl ?_)))))
      obtain ⟨r64, hr65, h⟩ := bind_some h
      refine a_call (args := [(eT_i64_Si64_Z a0), (eSi64 x46), (i6 1)]) (u := []) (r := (eSi64 r64)) rfl rfl (impl_field_frobenius_ok a0 x46 1 r64 hr65) rfl (vp (eSi64 r64) rfl (a_nil (b_norm (a_next (σ' := ⟨[(1, (eSi64 r64)), (2, (ow 2)), (5, (eSi64 r61)), (9, (i6 r37)), (10, (i6 x48))], [(2, (bk (eT_i64_Si64_Z a0)))]⟩) (by kernel_rfl) (a_region (vp (i6 (IntKind.i64.wrap (x48 + 1))) rfl (vp (i6 (IntKind.i64.wrap (x48 + 1))) rfl (a_nil ?_))))))))
      cases h
      exact a_again (by kernel_rfl) hX58
def impl_NormOf_c : ACode := (.seq (.region 0 [q 2 (.box 52 (t 0)), q 3 (.box 24 (t 1)), q 4 (.asg 0 (.const (.int .i64 0)) 2), q 5 (.asg 0 (.const (.int .i64 0)) 2)] false) (.seq (.seq (.region 1 [q 7 (.load 52 (t 2)), q 8 (.load 24 (t 3)), q 9 (.bslice 0 36 1 [(0, (t 8))]), q 10 (.call 0 (.func 83) [(t 7), (t 9)]), q 6 (.asg 0 (t 10) 2)] false) (.seq (.region 2 [q 11 (.mov (t 6)), q 12 (.bin .neq 2 (t 11) (.const (.int .i64 0)))] false) (.cond (t 12) (.seq (.region 3 [q 13 (.mov (t 6)), q 4 (.asg 0 (.const (.int .i64 0)) 2), q 5 (.asg 0 (t 13) 2)] false) .ret) .skip))) (.seq (.seq (.region 4 [q 14 (.load 52 (t 2)), ⟨some 15, .call 0 (.func 84) [(t 14)], none, [0]⟩, q 16 (.load 24 (t 3)), ⟨some 17, .call 0 (.func 74) [(t 15), (t 16)], none, [1, 2, 1]⟩, ⟨some 18, .un .not (t 17), none, [3]⟩] true) (.cond (t 18) (.seq (.region 5 [q 4 (.asg 0 (.const (.int .i64 0)) 2), q 5 (.asg 0 (.const (.int .i64 2)) 2)] false) .ret) .skip)) (.seq (.region 6 [q 19 (.load 52 (t 2)), ⟨some 20, .call 0 (.func 84) [(t 19)], none, [0]⟩, q 21 (.load 24 (t 3)), ⟨some 22, .call 0 (.func 52) [(t 21)], none, [2, 1]⟩, ⟨some 23, .call 0 (.func 85) [(t 20), (t 22)], none, [1, 3, 3]⟩, ⟨some 4, .asg 0 (t 23) 2, none, [4, 4, 0, 1, 2, 3, 4]⟩, ⟨some 5, .asg 0 (.const (.int .i64 0)) 2, none, [5, 0, 1, 2, 3, 4, 5]⟩] true) .ret))))
def impl_NormOf_L : Live := [(0, [0, 1]), (1, [2, 3]), (2, [2, 3, 6]), (3, [6]), (4, [2, 3]), (5, []), (6, [2, 3]), (100012, [2, 3, 6, 12]), (100018, [2, 3, 18])]
noncomputable def impl_NormOf (a0 : (Int × (Vec Int 64) × (Vec Int 64) × (Vec Int 64))) (a1 : (Vec Int 64)) : Option (Int × Int) :=
  (Option.bind (impl_drinfeldCode a0 ([a1])) fun r3 => (if (r3 != 0) then (some (0, r3)) else (Option.bind (impl_Drinfeld_field a0) fun r13 => (Option.bind (impl_field_isResidue r13 a1) fun r16 => (if (!r16) then (some (0, 2)) else (Option.bind (impl_Drinfeld_field a0) fun r28 => (Option.bind (impl_rowOf a1) fun r31 => (Option.bind (impl_field_normOf r28 r31) fun r33 => (some (r33, 0))))))))))
theorem impl_NormOf_ok (a0 : (Int × (Vec Int 64) × (Vec Int 64) × (Vec Int 64))) (a1 : (Vec Int 64)) (r : (Int × Int)) (h : impl_NormOf a0 a1 = some r) : Den Try.prog 42 [(eT_i64_A64u8_A64u8_A64u8_Z a0), (eA64u8 a1)] { r := (.tuple [(i6 r.1), (i6 r.2)]) } := by
  refine den_of (rs := [(i6 r.1), (i6 r.2)]) (ac := impl_NormOf_c) (L := impl_NormOf_L) (n := 24) (m := []) (c := Try.f42.body.getD .skip) good Try.func42 (by kernel_rfl) (by kernel_rfl) Try.ntmps42 rfl rfl (by kernel_rfl) rfl rfl ?_
  refine a_st (σ' := ⟨[(0, (eT_i64_A64u8_A64u8_A64u8_Z a0)), (1, (eA64u8 a1))], []⟩) (by kernel_rfl) ?_
  unfold impl_NormOf_c
  refine sr (vo 1200 (eT_i64_A64u8_A64u8_A64u8_Z a0) rfl rfl (vo 1300 (eA64u8 a1) rfl rfl (vp (i6 0) rfl (vp (i6 0) rfl (nx ⟨[(2, (ow 2)), (3, (ow 3))], [(2, (bk (eT_i64_A64u8_A64u8_A64u8_Z a0))), (3, (bk (eA64u8 a1)))]⟩ (by kernel_rfl) (a_seq (sr (vl (eT_i64_A64u8_A64u8_A64u8_Z a0) rfl rfl rfl rfl rfl rfl (vl (eA64u8 a1) rfl rfl rfl rfl rfl rfl ?_)))))))))
  refine vq (.sl 64 true (([a1]).map eA64u8)) rfl ⟨(Nat.le_of_ble_eq_true rfl), (Nat.le_of_ble_eq_true rfl), (all_cons ⟨(Nat.le_of_ble_eq_true rfl), rfl⟩ all_nil)⟩ ?_
  obtain ⟨r3, hr4, h⟩ := bind_some h
  refine a_call (args := [(eT_i64_A64u8_A64u8_A64u8_Z a0), (.sl 64 true (([a1]).map eA64u8))]) (u := []) (r := (i6 r3)) rfl rfl (Den.args (impl_drinfeldCode_ok a0 ([a1]) r3 hr4) rfl rfl (.cons (.refl _) (.cons (.loose _) .nil))) rfl (vp (i6 r3) rfl (nx ⟨[(2, (ow 2)), (3, (ow 3)), (6, (i6 r3))], [(2, (bk (eT_i64_A64u8_A64u8_A64u8_Z a0))), (3, (bk (eA64u8 a1)))]⟩ (by kernel_rfl) (sr (vp (i6 r3) rfl (vp (.bool (r3 != 0)) rfl (nx ⟨[(2, (ow 2)), (3, (ow 3)), (6, (i6 r3)), (12, (.bool (r3 != 0)))], [(2, (bk (eT_i64_A64u8_A64u8_A64u8_Z a0))), (3, (bk (eA64u8 a1)))]⟩ (by kernel_rfl) ?_))))))
  cases hb5 : (r3 != 0)
  · have h := ite_f hb5 h
    refine a_cond_f rfl (a_skip (a_next (σ' := ⟨[(2, (ow 2)), (3, (ow 3))], [(2, (bk (eT_i64_A64u8_A64u8_A64u8_Z a0))), (3, (bk (eA64u8 a1)))]⟩) (by kernel_rfl) (a_seq (a_seq (a_draw [⟨[2], [], [], []⟩, ⟨[], [], [], [0]⟩, ⟨[3], [], [], []⟩, ⟨[], [], [], [0, 1, 2]⟩, ⟨[], [], [], [0, 1, 2, 3]⟩] (by kernel_rfl) (d_cons (vl (eT_i64_A64u8_A64u8_A64u8_Z a0) rfl rfl rfl rfl rfl rfl (d_next (by kernel_rfl) (d_cons ?_)))))))))
    obtain ⟨r13, hr14, h⟩ := bind_some h
    refine a_call (args := [(eT_i64_A64u8_A64u8_A64u8_Z a0)]) (u := []) (r := (eT_i64_Si64_Z r13)) rfl rfl (impl_Drinfeld_field_ok a0 r13 hr14) rfl (d_next (by kernel_rfl) (d_cons (vl (eA64u8 a1) rfl rfl rfl rfl rfl rfl (d_next (by kernel_rfl) (d_cons ?_)))))
    obtain ⟨r16, hr17, h⟩ := bind_some h
    refine a_call (args := [(eT_i64_Si64_Z r13), (eA64u8 a1)]) (u := []) (r := (.bool r16)) rfl rfl (impl_field_isResidue_ok r13 a1 r16 hr17) rfl (d_next (by kernel_rfl) (dp (.bool (!r16)) rfl (by kernel_rfl) (d_nil (a_next (σ' := ⟨[(2, (ow 2)), (3, (ow 3)), (18, (.bool (!r16)))], [(2, (bk (eT_i64_A64u8_A64u8_A64u8_Z a0))), (3, (bk (eA64u8 a1)))]⟩) (by kernel_rfl) ?_))))
    cases hb18 : (!r16)
    · have h := ite_f hb18 h
      refine a_cond_f rfl (a_skip (a_next (σ' := ⟨[(2, (ow 2)), (3, (ow 3))], [(2, (bk (eT_i64_A64u8_A64u8_A64u8_Z a0))), (3, (bk (eA64u8 a1)))]⟩) (by kernel_rfl) (a_seq (a_draw [⟨[2], [], [], []⟩, ⟨[], [], [], [0]⟩, ⟨[3], [], [], []⟩, ⟨[], [], [], [0, 1, 2]⟩, ⟨[], [], [], [0, 1, 2, 3]⟩, ⟨[], [], [], [0, 1, 2, 3, 4]⟩, ⟨[], [], [], [0, 1, 2, 3, 4, 5]⟩] (by kernel_rfl) (d_cons (vl (eT_i64_A64u8_A64u8_A64u8_Z a0) rfl rfl rfl rfl rfl rfl (d_next (by kernel_rfl) (d_cons ?_))))))))
      obtain ⟨r28, hr29, h⟩ := bind_some h
      refine a_call (args := [(eT_i64_A64u8_A64u8_A64u8_Z a0)]) (u := []) (r := (eT_i64_Si64_Z r28)) rfl rfl (impl_Drinfeld_field_ok a0 r28 hr29) rfl (d_next (by kernel_rfl) (d_cons (vl (eA64u8 a1) rfl rfl rfl rfl rfl rfl (d_next (by kernel_rfl) (d_cons ?_)))))
      obtain ⟨r31, hr32, h⟩ := bind_some h
      refine a_call (args := [(eA64u8 a1)]) (u := []) (r := (eSi64 r31)) rfl rfl (impl_rowOf_ok a1 r31 hr32) rfl (d_next (by kernel_rfl) (d_cons ?_))
      obtain ⟨r33, hr34, h⟩ := bind_some h
      refine a_call (args := [(eT_i64_Si64_Z r28), (eSi64 r31)]) (u := []) (r := (i6 r33)) rfl rfl (impl_field_normOf_ok r28 r31 r33 hr34) rfl (d_next (by kernel_rfl) (dp (i6 r33) rfl (by kernel_rfl) (dp (i6 0) rfl (by kernel_rfl) (d_nil (a_next rfl (a_ret ?_))))))
      refine ⟨.inr rfl, ?_⟩
      rw [Try.results42]
      cases h
      exact ⟨_, _, _, _, _, rfl, trivial, .inl ⟨rfl, .inl rfl⟩, rfl, ⟨_, _, _, _, _, rfl, trivial, .inl ⟨rfl, .inl rfl⟩, rfl, rfl⟩⟩
    · have h := ite_t hb18 h
      refine a_cond_t rfl (sr (vp (i6 0) rfl (vp (i6 2) rfl (nx _ rfl (a_ret (t_ret ?_))))))
      refine ⟨.inr rfl, ?_⟩
      rw [Try.results42]
      cases h
      exact ⟨_, _, _, _, _, rfl, trivial, .inl ⟨rfl, .inl rfl⟩, rfl, ⟨_, _, _, _, _, rfl, trivial, .inl ⟨rfl, .inl rfl⟩, rfl, rfl⟩⟩
  · have h := ite_t hb5 h
    refine a_cond_t rfl (sr (vp (i6 r3) rfl (vp (i6 0) rfl (vp (i6 r3) rfl (nx _ rfl (a_ret (t_ret ?_)))))))
    refine ⟨.inr rfl, ?_⟩
    rw [Try.results42]
    cases h
    exact ⟨_, _, _, _, _, rfl, trivial, .inl ⟨rfl, .inl rfl⟩, rfl, ⟨_, _, _, _, _, rfl, trivial, .inl ⟨rfl, .inl rfl⟩, rfl, rfl⟩⟩
def laws_FnExactNormOf_c : ACode := (.seq (.region 0 [q 2 (.box 49 (t 0)), q 3 (.box 22 (t 1)), q 4 (.asg 0 (.const (.bool false)) 4)] false) (.seq (.region 1 [q 10 (.load 49 (t 2)), ⟨some 11, .call 0 (.func 37) [(t 10)], none, [0]⟩, q 12 (.load 22 (t 3)), ⟨some 13, .call 0 (.func 15) [(t 12)], none, [2, 1]⟩, ⟨some 14, .call 0 (.func 41) [(t 11), (t 13)], none, [1, 3, 3]⟩, ⟨some 9, .mov (t 14), none, [4]⟩, ⟨some 15, .extract (t 9) 0, none, [5]⟩, ⟨some 16, .extract (t 9) 1, none, [5]⟩, ⟨some 5, .asg 0 (t 15) 2, none, [6, 4, 0, 1, 2, 3, 4, 5, 6]⟩, ⟨some 6, .asg 0 (t 16) 2, none, [7, 8, 0, 1, 2, 3, 4, 5, 6, 7, 8]⟩] true) (.seq (.region 2 [q 18 (.load 49 (t 2)), ⟨some 19, .call 0 (.func 37) [(t 18)], none, [0]⟩, q 20 (.load 22 (t 3)), ⟨some 21, .call 0 (.func 15) [(t 20)], none, [2, 1]⟩, ⟨some 22, .call 0 (.func 42) [(t 19), (t 21)], none, [1, 3, 3]⟩, ⟨some 17, .mov (t 22), none, [4]⟩, ⟨some 23, .extract (t 17) 0, none, [5]⟩, ⟨some 24, .extract (t 17) 1, none, [5]⟩, ⟨some 7, .asg 0 (t 23) 2, none, [6, 4, 0, 1, 2, 3, 4, 5, 6]⟩, ⟨some 8, .asg 0 (t 24) 2, none, [7, 8, 0, 1, 2, 3, 4, 5, 6, 7, 8]⟩] true) (.seq (.seq (.region 3 [q 25 (.mov (t 7)), q 26 (.mov (t 5)), q 27 (.bin .neq 2 (t 25) (t 26)), q 28 (.mov (t 27)), ⟨some 29, .mov (t 8), some (28, false), []⟩, ⟨some 30, .mov (t 6), some (28, false), []⟩, ⟨some 31, .bin .neq 2 (t 29) (t 30), some (28, false), []⟩, q 32 (.pick (t 28) (.const (.bool true)) (t 31))] false) (.cond (t 32) (.seq (.region 4 [q 4 (.asg 0 (.const (.bool false)) 4)] false) .ret) .skip)) (.seq (.region 5 [q 4 (.asg 0 (.const (.bool true)) 4)] false) .ret)))))
def laws_FnExactNormOf_L : Live := [(0, [0, 1]), (1, [2, 3]), (2, [2, 3, 5, 6]), (3, [5, 6, 7, 8]), (4, []), (5, []), (100032, [32])]
noncomputable def laws_FnExactNormOf (a0 : (Int × (Vec Int 64) × (Vec Int 64) × (Vec Int 64))) (a1 : (Vec Int 64)) : Option Bool :=
  (Option.bind (laws_toDrinfeld a0) fun r10 => (Option.bind (laws_toPoly a1) fun r13 => (Option.bind (spec_NormOf r10 r13) fun r15 => (Option.bind (laws_toDrinfeld a0) fun r26 => (Option.bind (laws_toPoly a1) fun r29 => (Option.bind (impl_NormOf r26 r29) fun r31 => (Option.bind (α := Bool) ((if (r31.1 != r15.1) then (some true) else (some (r31.2 != r15.2)))) fun x34 => (if x34 then (some false) else (some true)))))))))
theorem laws_FnExactNormOf_ok (a0 : (Int × (Vec Int 64) × (Vec Int 64) × (Vec Int 64))) (a1 : (Vec Int 64)) (r : Bool) (h : laws_FnExactNormOf a0 a1 = some r) : Den Try.prog 12 [(eT_i64_A64u8_A64u8_A64u8_Z a0), (eA64u8 a1)] { r := (.bool r) } := by
  refine den_of (rs := [(.bool r)]) (ac := laws_FnExactNormOf_c) (L := laws_FnExactNormOf_L) (n := 33) (m := []) (c := Try.f12.body.getD .skip) good Try.func12 (by kernel_rfl) (by kernel_rfl) Try.ntmps12 rfl rfl (by kernel_rfl) rfl rfl ?_
  refine a_st (σ' := ⟨[(0, (eT_i64_A64u8_A64u8_A64u8_Z a0)), (1, (eA64u8 a1))], []⟩) (by kernel_rfl) ?_
  unfold laws_FnExactNormOf_c
  refine sr (vo 1200 (eT_i64_A64u8_A64u8_A64u8_Z a0) rfl rfl (vo 1300 (eA64u8 a1) rfl rfl (vp (.bool false) rfl (nx ⟨[(2, (ow 2)), (3, (ow 3))], [(2, (bk (eT_i64_A64u8_A64u8_A64u8_Z a0))), (3, (bk (eA64u8 a1)))]⟩ (by kernel_rfl) (a_seq (a_draw [⟨[2], [], [], []⟩, ⟨[], [], [], [0]⟩, ⟨[3], [], [], []⟩, ⟨[], [], [], [0, 1, 2]⟩, ⟨[], [], [], [0, 1, 2, 3]⟩, ⟨[], [], [], [0, 1, 2, 3, 4]⟩, ⟨[], [], [], [0, 1, 2, 3, 4, 5]⟩, ⟨[], [], [], [0, 1, 2, 3, 4, 5]⟩, ⟨[], [], [], [0, 1, 2, 3, 4, 5, 6]⟩, ⟨[], [], [], [0, 1, 2, 3, 4, 5, 6, 7, 8]⟩] (by kernel_rfl) (d_cons (vl (eT_i64_A64u8_A64u8_A64u8_Z a0) rfl rfl rfl rfl rfl rfl (d_next (by kernel_rfl) ?_)))))))))
  refine d_cons ?_
  obtain ⟨r10, hr11, h⟩ := bind_some h
  refine a_call (args := [(eT_i64_A64u8_A64u8_A64u8_Z a0)]) (u := []) (r := (eT_i64_A64u8_A64u8_A64u8_Z r10)) rfl rfl (laws_toDrinfeld_ok a0 r10 hr11) rfl (d_next (by kernel_rfl) (d_cons (vl (eA64u8 a1) rfl rfl rfl rfl rfl rfl (d_next (by kernel_rfl) (d_cons ?_)))))
  obtain ⟨r13, hr14, h⟩ := bind_some h
  refine a_call (args := [(eA64u8 a1)]) (u := []) (r := (eA64u8 r13)) rfl rfl (laws_toPoly_ok a1 r13 hr14) rfl (d_next (by kernel_rfl) (d_cons ?_))
  obtain ⟨r15, hr16, h⟩ := bind_some h
  refine a_call (args := [(eT_i64_A64u8_A64u8_A64u8_Z r10), (eA64u8 r13)]) (u := []) (r := (.tuple [(i6 r15.1), (i6 r15.2)])) rfl rfl (spec_NormOf_ok r10 r13 r15 hr16) rfl (d_next (by kernel_rfl) (dp (.tuple [(i6 r15.1), (i6 r15.2)]) rfl (by kernel_rfl) (d_cons (vb (i6 r15.1) rfl rfl (d_next (by kernel_rfl) (d_cons (vb (i6 r15.2) rfl rfl (d_next (by kernel_rfl) (dp (i6 r15.1) rfl (by kernel_rfl) ?_)))))))))
  refine dp (i6 r15.2) rfl (by kernel_rfl) (d_nil (a_next (σ' := ⟨[(2, (ow 2)), (3, (ow 3)), (5, (i6 r15.1)), (6, (i6 r15.2))], [(2, (bk (eT_i64_A64u8_A64u8_A64u8_Z a0))), (3, (bk (eA64u8 a1)))]⟩) (by kernel_rfl) (a_seq (a_draw [⟨[2], [], [], []⟩, ⟨[], [], [], [0]⟩, ⟨[3], [], [], []⟩, ⟨[], [], [], [0, 1, 2]⟩, ⟨[], [], [], [0, 1, 2, 3]⟩, ⟨[], [], [], [0, 1, 2, 3, 4]⟩, ⟨[], [], [], [0, 1, 2, 3, 4, 5]⟩, ⟨[], [], [], [0, 1, 2, 3, 4, 5]⟩, ⟨[], [], [], [0, 1, 2, 3, 4, 5, 6]⟩, ⟨[], [], [], [0, 1, 2, 3, 4, 5, 6, 7, 8]⟩] (by kernel_rfl) (d_cons (vl (eT_i64_A64u8_A64u8_A64u8_Z a0) rfl rfl rfl rfl rfl rfl (d_next (by kernel_rfl) (d_cons ?_))))))))
  obtain ⟨r26, hr27, h⟩ := bind_some h
  refine a_call (args := [(eT_i64_A64u8_A64u8_A64u8_Z a0)]) (u := []) (r := (eT_i64_A64u8_A64u8_A64u8_Z r26)) rfl rfl (laws_toDrinfeld_ok a0 r26 hr27) rfl (d_next (by kernel_rfl) (d_cons (vl (eA64u8 a1) rfl rfl rfl rfl rfl rfl (d_next (by kernel_rfl) (d_cons ?_)))))
  obtain ⟨r29, hr30, h⟩ := bind_some h
  refine a_call (args := [(eA64u8 a1)]) (u := []) (r := (eA64u8 r29)) rfl rfl (laws_toPoly_ok a1 r29 hr30) rfl (d_next (by kernel_rfl) (d_cons ?_))
  obtain ⟨r31, hr32, h⟩ := bind_some h
  refine a_call (args := [(eT_i64_A64u8_A64u8_A64u8_Z r26), (eA64u8 r29)]) (u := []) (r := (.tuple [(i6 r31.1), (i6 r31.2)])) rfl rfl (impl_NormOf_ok r26 r29 r31 hr32) rfl (d_next (by kernel_rfl) (dp (.tuple [(i6 r31.1), (i6 r31.2)]) rfl (by kernel_rfl) (d_cons (vb (i6 r31.1) rfl rfl (d_next (by kernel_rfl) (d_cons (vb (i6 r31.2) rfl rfl (d_next (by kernel_rfl) (dp (i6 r31.1) rfl (by kernel_rfl) ?_)))))))))
  refine dp (i6 r31.2) rfl (by kernel_rfl) (d_nil (a_next (σ' := ⟨[(5, (i6 r15.1)), (6, (i6 r15.2)), (7, (i6 r31.1)), (8, (i6 r31.2))], []⟩) (by kernel_rfl) (a_seq ?_)))
  obtain ⟨y35, hy36, hk37⟩ := bind_some h
  clear h
  refine a_join (emb := fun (s : Bool) => ⟨[(32, (.bool s))], []⟩) (pre := fun s => s = y35) ?_ ?_
  · rintro x34 rfl
    have h := hk37
    refine a_st (σ' := ⟨[(32, (.bool x34))], []⟩) (by kernel_rfl) ?_
    cases hb39 : x34
    · have h := ite_f hb39 h
      refine a_cond_f rfl (a_skip (a_next (σ' := ⟨[], []⟩) (by kernel_rfl) (sr (vp (.bool true) rfl (nx _ rfl (a_ret ?_))))))
      refine ⟨.inr rfl, ?_⟩
      rw [Try.results12]
      cases h
      exact ⟨_, _, _, _, _, rfl, trivial, .inl ⟨rfl, .inl rfl⟩, rfl, rfl⟩
    · have h := ite_t hb39 h
      refine a_cond_t rfl (sr (vp (.bool false) rfl (nx _ rfl (a_ret (t_ret ?_)))))
      refine ⟨.inr rfl, ?_⟩
      rw [Try.results12]
      cases h
      exact ⟨_, _, _, _, _, rfl, trivial, .inl ⟨rfl, .inl rfl⟩, rfl, rfl⟩
  · have h := hy36
    refine a_region (vp (i6 r31.1) rfl (vp (i6 r15.1) rfl (vp (.bool (r31.1 != r15.1)) rfl (vp (.bool (r31.1 != r15.1)) rfl ?_))))
    cases hb38 : (r31.1 != r15.1)
    · have h := ite_f hb38 h
      refine gp (i6 r31.2) rfl rfl (gp (i6 r15.2) rfl rfl (gp (.bool (r31.2 != r15.2)) rfl rfl (vp (.bool (r31.2 != r15.2)) rfl (a_nil ?_))))
      exact j_leaf (r31.2 != r15.2) (Option.some.inj h) (by kernel_rfl)
    · have h := ite_t hb38 h
      refine a_gskip rfl (a_gskip rfl (a_gskip rfl (vp (.bool true) rfl (a_nil ?_))))
      exact j_leaf true (Option.some.inj h) (by kernel_rfl)
def spec_l03Field_c : ACode := (.seq (.region 0 [q 3 (.box 24 (t 1)), q 4 (.asg 0 (.const (.bool false)) 4)] false) (.seq (.region 1 [q 5 (.mov (t 0)), q 6 (.load 24 (t 3)), q 7 (.call 0 (.func 91) [(t 5), (t 6)]), q 8 (.mov (t 7)), ⟨some 9, .load 24 (t 3), some (8, true), []⟩, ⟨some 10, .call 0 (.func 48) [(t 9)], some (8, true), []⟩, q 11 (.pick (t 8) (t 10) (.const (.bool false))), q 12 (.mov (t 11)), ⟨some 13, .load 24 (t 3), some (12, true), []⟩, ⟨some 14, .call 0 (.func 81) [(t 13)], some (12, true), []⟩, ⟨some 15, .call 0 (.func 61) [(t 14), (.const (.int .i64 1)), (.const (.int .i64 4))], some (12, true), []⟩, q 16 (.pick (t 12) (t 15) (.const (.bool false))), q 17 (.mov (t 16)), ⟨some 18, .mov (t 0), some (17, true), []⟩, ⟨some 19, .load 24 (t 3), some (17, true), []⟩, ⟨some 20, .call 0 (.func 49) [(t 18), (t 19)], some (17, true), []⟩, q 21 (.pick (t 17) (t 20) (.const (.bool false))), q 4 (.asg 0 (t 21) 4)] false) .ret))
def spec_l03Field_L : Live := [(0, [0, 1]), (1, [0, 3])]
noncomputable def spec_l03Field (a0 : Int) (a1 : (Vec Int 64)) : Option Bool :=
  (Option.bind (spec_l01Is a0 a1) fun r2 => (if r2 then (Option.bind (spec_l01Monic a1) fun r6 => (if r6 then (Option.bind (spec_l01Deg a1) fun r10 => (Option.bind (spec_l01In r10 1 4) fun r12 => (if r12 then (Option.bind (spec_l01Irreducible a0 a1) fun r16 => (some r16)) else (some false)))) else (some false))) else (some false)))
theorem spec_l03Field_ok (a0 : Int) (a1 : (Vec Int 64)) (r : Bool) (h : spec_l03Field a0 a1 = some r) : Den Try.prog 45 [(i6 a0), (eA64u8 a1)] { r := (.bool r) } := by
  refine den_of (rs := [(.bool r)]) (ac := spec_l03Field_c) (L := spec_l03Field_L) (n := 22) (m := []) (c := Try.f45.body.getD .skip) good Try.func45 (by kernel_rfl) (by kernel_rfl) Try.ntmps45 rfl rfl (by kernel_rfl) rfl rfl ?_
  refine a_st (σ' := ⟨[(0, (i6 a0)), (1, (eA64u8 a1))], []⟩) (by kernel_rfl) ?_
  unfold spec_l03Field_c
  refine sr (vo 1300 (eA64u8 a1) rfl rfl (vp (.bool false) rfl (nx ⟨[(0, (i6 a0)), (3, (ow 3))], [(3, (bk (eA64u8 a1)))]⟩ (by kernel_rfl) (sr (vp (i6 a0) rfl (vl (eA64u8 a1) rfl rfl rfl rfl rfl rfl ?_))))))
  obtain ⟨r2, hr3, h⟩ := bind_some h
  refine a_call (args := [(i6 a0), (eA64u8 a1)]) (u := []) (r := (.bool r2)) rfl rfl (spec_l01Is_ok a0 a1 r2 hr3) rfl (vp (.bool r2) rfl ?_)
  cases hb4 : r2
  · have h := ite_f hb4 h
    refine a_gskip rfl (a_gskip rfl (vp (.bool false) rfl (vp (.bool false) rfl (a_gskip rfl (a_gskip rfl (a_gskip rfl (vp (.bool false) rfl (vp (.bool false) rfl (a_gskip rfl ?_)))))))))
    refine a_gskip rfl (a_gskip rfl (vp (.bool false) rfl (vp (.bool false) rfl (nx _ rfl (a_ret ?_)))))
    refine ⟨.inr rfl, ?_⟩
    rw [Try.results45]
    cases h
    exact ⟨_, _, _, _, _, rfl, trivial, .inl ⟨rfl, .inl rfl⟩, rfl, rfl⟩
  · have h := ite_t hb4 h
    have hl5 : LdOk [] (eA64u8 a1) [] 64 true (eA64u8 a1) := (.nil rfl rfl rfl)
    refine gq (eA64u8 a1) rfl (ld_own (i := ⟨.arr 64 5, 64, 64, (eA64u8 (vrep 64 (0 : Int)))⟩) rfl rfl rfl hl5) hl5.c ?_
    obtain ⟨r6, hr7, h⟩ := bind_some h
    refine a_gcall rfl (args := [(eA64u8 a1)]) (u := []) (r := (.bool r6)) rfl rfl (spec_l01Monic_ok a1 r6 hr7) rfl (vp (.bool r6) rfl (vp (.bool r6) rfl ?_))
    cases hb8 : r6
    · have h := ite_f hb8 h
      refine a_gskip rfl (a_gskip rfl (a_gskip rfl (vp (.bool false) rfl (vp (.bool false) rfl (a_gskip rfl (a_gskip rfl (a_gskip rfl (vp (.bool false) rfl (vp (.bool false) rfl ?_)))))))))
      refine nx _ rfl (a_ret ?_)
      refine ⟨.inr rfl, ?_⟩
      rw [Try.results45]
      cases h
      exact ⟨_, _, _, _, _, rfl, trivial, .inl ⟨rfl, .inl rfl⟩, rfl, rfl⟩
    · have h := ite_t hb8 h
      have hl9 : LdOk [] (eA64u8 a1) [] 64 true (eA64u8 a1) := (.nil rfl rfl rfl)
      refine gq (eA64u8 a1) rfl (ld_own (i := ⟨.arr 64 5, 64, 64, (eA64u8 (vrep 64 (0 : Int)))⟩) rfl rfl rfl hl9) hl9.c ?_
      obtain ⟨r10, hr11, h⟩ := bind_some h
      refine a_gcall rfl (args := [(eA64u8 a1)]) (u := []) (r := (i6 r10)) rfl rfl (spec_l01Deg_ok a1 r10 hr11) rfl ?_
      obtain ⟨r12, hr13, h⟩ := bind_some h
      refine a_gcall rfl (args := [(i6 r10), (i6 1), (i6 4)]) (u := []) (r := (.bool r12)) rfl rfl (spec_l01In_ok r10 1 4 r12 hr13) rfl (vp (.bool r12) rfl (vp (.bool r12) rfl ?_))
      cases hb14 : r12
      · have h := ite_f hb14 h
        refine a_gskip rfl (a_gskip rfl (a_gskip rfl (vp (.bool false) rfl (vp (.bool false) rfl (nx _ rfl (a_ret ?_))))))
        refine ⟨.inr rfl, ?_⟩
        rw [Try.results45]
        cases h
        exact ⟨_, _, _, _, _, rfl, trivial, .inl ⟨rfl, .inl rfl⟩, rfl, rfl⟩
      · have h := ite_t hb14 h
        refine gp (i6 a0) rfl rfl ?_
        have hl15 : LdOk [] (eA64u8 a1) [] 64 true (eA64u8 a1) := (.nil rfl rfl rfl)
        refine gq (eA64u8 a1) rfl (ld_own (i := ⟨.arr 64 5, 64, 64, (eA64u8 (vrep 64 (0 : Int)))⟩) rfl rfl rfl hl15) hl15.c ?_
        obtain ⟨r16, hr17, h⟩ := bind_some h
        refine a_gcall rfl (args := [(i6 a0), (eA64u8 a1)]) (u := []) (r := (.bool r16)) rfl rfl (spec_l01Irreducible_ok a0 a1 r16 hr17) rfl (vp (.bool r16) rfl (vp (.bool r16) rfl (nx _ rfl (a_ret ?_))))
        refine ⟨.inr rfl, ?_⟩
        rw [Try.results45]
        cases h
        exact ⟨_, _, _, _, _, rfl, trivial, .inl ⟨rfl, .inl rfl⟩, rfl, rfl⟩
def spec_l03Residue_c : ACode := (.seq (.region 0 [q 4 (.box 24 (t 1)), q 5 (.box 24 (t 2)), q 6 (.asg 0 (.const (.bool false)) 4)] false) (.seq (.region 1 [q 7 (.mov (t 0)), q 8 (.load 24 (t 5)), ⟨some 9, .call 0 (.func 91) [(t 7), (t 8)], none, [0, 1]⟩, ⟨some 10, .mov (t 9), none, [2, 2]⟩, ⟨some 11, .load 24 (t 5), some (10, true), [3]⟩, ⟨some 12, .call 0 (.func 81) [(t 11)], some (10, true), [4, 3, 3]⟩, ⟨some 13, .load 24 (t 4), some (10, true), [3]⟩, ⟨some 14, .call 0 (.func 81) [(t 13)], some (10, true), [6, 5, 3]⟩, ⟨some 15, .bin .lss 2 (t 12) (t 14), some (10, true), [5, 7, 3]⟩, ⟨some 16, .pick (t 10) (t 15) (.const (.bool false)), none, [3, 8]⟩, ⟨some 6, .asg 0 (t 16) 4, none, [9, 7, 0, 1, 2, 3, 4, 5, 6, 7, 8, 9]⟩] true) .ret))
def spec_l03Residue_L : Live := [(0, [0, 1, 2]), (1, [0, 4, 5])]
noncomputable def spec_l03Residue (a0 : Int) (a1 : (Vec Int 64)) (a2 : (Vec Int 64)) : Option Bool :=
  (Option.bind (spec_l01Is a0 a2) fun r12 => (if r12 then (Option.bind (spec_l01Deg a2) fun r16 => (Option.bind (spec_l01Deg a1) fun r19 => (some ((decide (r16 < r19)))))) else (some false)))
theorem spec_l03Residue_ok (a0 : Int) (a1 : (Vec Int 64)) (a2 : (Vec Int 64)) (r : Bool) (h : spec_l03Residue a0 a1 a2 = some r) : Den Try.prog 118 [(i6 a0), (eA64u8 a1), (eA64u8 a2)] { r := (.bool r) } := by
  refine den_of (rs := [(.bool r)]) (ac := spec_l03Residue_c) (L := spec_l03Residue_L) (n := 17) (m := []) (c := Try.f118.body.getD .skip) good Try.func118 (by kernel_rfl) (by kernel_rfl) Try.ntmps118 rfl rfl (by kernel_rfl) rfl rfl ?_
  refine a_st (σ' := ⟨[(0, (i6 a0)), (1, (eA64u8 a1)), (2, (eA64u8 a2))], []⟩) (by kernel_rfl) ?_
  unfold spec_l03Residue_c
  refine sr (vo 1400 (eA64u8 a1) rfl rfl (vo 1500 (eA64u8 a2) rfl rfl (vp (.bool false) rfl (nx ⟨[(0, (i6 a0)), (4, (ow 4)), (5, (ow 5))], [(4, (bk (eA64u8 a1))), (5, (bk (eA64u8 a2)))]⟩ (by kernel_rfl) (a_seq (a_draw [⟨[], [], [], []⟩, ⟨[5], [], [], []⟩, ⟨[], [], [], [0, 1]⟩, ⟨[], [], [], [0, 1, 2]⟩, ⟨[5], [], [], [0, 1, 2, 3]⟩, ⟨[], [], [], [0, 1, 2, 3, 4]⟩, ⟨[4], [], [], [0, 1, 2, 3]⟩, ⟨[], [], [], [0, 1, 2, 3, 4, 5, 6]⟩, ⟨[], [], [], [0, 1, 2, 3, 4, 5, 6, 7]⟩, ⟨[], [], [], [0, 1, 2, 3, 4, 5, 6, 7, 8]⟩, ⟨[], [], [], [0, 1, 2, 3, 4, 5, 6, 7, 8, 9]⟩] (by kernel_rfl) (dp (i6 a0) rfl (by kernel_rfl) (d_cons (vl (eA64u8 a2) rfl rfl rfl rfl rfl rfl ?_)))))))))
  refine d_next (by kernel_rfl) (d_cons ?_)
  obtain ⟨r12, hr13, h⟩ := bind_some h
  refine a_call (args := [(i6 a0), (eA64u8 a2)]) (u := []) (r := (.bool r12)) rfl rfl (spec_l01Is_ok a0 a2 r12 hr13) rfl (d_next (by kernel_rfl) (dp (.bool r12) rfl (by kernel_rfl) ?_))
  cases hb14 : r12
  · have h := ite_f hb14 h
    refine dk rfl (by kernel_rfl) (dk rfl (by kernel_rfl) (dk rfl (by kernel_rfl) (dk rfl (by kernel_rfl) (dk rfl (by kernel_rfl) (dp (.bool false) rfl (by kernel_rfl) (dp (.bool false) rfl (by kernel_rfl) (d_nil (a_next rfl (a_ret ?_)))))))))
    refine ⟨.inr rfl, ?_⟩
    rw [Try.results118]
    cases h
    exact ⟨_, _, _, _, _, rfl, trivial, .inl ⟨rfl, .inl rfl⟩, rfl, rfl⟩
  · have h := ite_t hb14 h
    refine d_cons ?_
    have hl15 : LdOk [] (eA64u8 a2) [] 64 true (eA64u8 a2) := (.nil rfl rfl rfl)
    refine gq (eA64u8 a2) rfl (ld_own (i := ⟨.arr 64 5, 64, 64, (eA64u8 (vrep 64 (0 : Int)))⟩) rfl rfl rfl hl15) hl15.c (d_next (by kernel_rfl) (d_cons ?_))
    obtain ⟨r16, hr17, h⟩ := bind_some h
    refine a_gcall rfl (args := [(eA64u8 a2)]) (u := []) (r := (i6 r16)) rfl rfl (spec_l01Deg_ok a2 r16 hr17) rfl (d_next (by kernel_rfl) (d_cons ?_))
    have hl18 : LdOk [] (eA64u8 a1) [] 64 true (eA64u8 a1) := (.nil rfl rfl rfl)
    refine gq (eA64u8 a1) rfl (ld_own (i := ⟨.arr 64 5, 64, 64, (eA64u8 (vrep 64 (0 : Int)))⟩) rfl rfl rfl hl18) hl18.c (d_next (by kernel_rfl) (d_cons ?_))
    obtain ⟨r19, hr20, h⟩ := bind_some h
    refine a_gcall rfl (args := [(eA64u8 a1)]) (u := []) (r := (i6 r19)) rfl rfl (spec_l01Deg_ok a1 r19 hr20) rfl (d_next (by kernel_rfl) (dg (.bool ((decide (r16 < r19)))) rfl rfl (by kernel_rfl) (dp (.bool ((decide (r16 < r19)))) rfl (by kernel_rfl) (dp (.bool ((decide (r16 < r19)))) rfl (by kernel_rfl) (d_nil (a_next rfl (a_ret ?_)))))))
    refine ⟨.inr rfl, ?_⟩
    rw [Try.results118]
    cases h
    exact ⟨_, _, _, _, _, rfl, trivial, .inl ⟨rfl, .inl rfl⟩, rfl, rfl⟩
def spec_l01Count_c : ACode := (.seq (.region 0 [q 4 (.asg 0 (.const (.int .i64 0)) 2)] false) (.seq (.region 1 [q 5 (.asg 0 (.const (.int .i64 1)) 2)] false) (.seq (.block 0 (.loop (.seq (.seq (.region 2 [q 6 (.mov (t 1)), q 7 (.bin .gtr 2 (t 6) (.const (.int .i64 0))), q 8 (.mov (t 7)), ⟨some 9, .mov (t 5), some (8, true), []⟩, ⟨some 10, .bin .leq 2 (t 9) (.const (.int .i64 1000000000000)), some (8, true), []⟩, q 11 (.pick (t 8) (t 10) (.const (.bool false)))] false) (.cond (t 11) .skip (.exit 0))) (.seq (.block 1 (.region 4 [q 14 (.mov (t 5)), q 15 (.mov (t 0)), q 16 (.bin .mul 2 (t 14) (t 15)), q 5 (.asg 0 (t 16) 2)] false)) (.region 3 [q 12 (.mov (t 1)), q 13 (.bin .sub 2 (t 12) (.const (.int .i64 1))), q 1 (.asg 0 (t 13) 2)] false))))) (.seq (.region 5 [q 17 (.mov (t 5)), q 18 (.blt 0 .min [(t 17), (.const (.int .i64 1000000000001))] [2, 2]), q 4 (.asg 0 (t 18) 2)] false) .ret))))
def spec_l01Count_L : Live := [(0, [0, 1]), (1, [0, 1]), (2, [0, 1, 5]), (3, [0, 1, 5]), (4, [0, 1, 5]), (5, [5]), (100011, [0, 1, 5, 11])]
noncomputable def spec_l01Count_l1 (a0 : Int) (x39 : Int) (x40 : Int) : Option ((Int × Int) ⊕ Int) :=
  (Option.bind (α := Bool) ((if (decide (x39 > 0)) then (some ((decide (x40 ≤ 1000000000000)))) else (some false))) fun x52 => (if x52 then (some (.inl ((IntKind.i64.wrap (x39 - 1), IntKind.i64.wrap (x40 * a0))))) else (some (.inr x40))))
noncomputable def spec_l01Count (a0 : Int) (a1 : Int) : Option Int :=
  (Option.bind (α := Int) ((loopM (fun s : (Int × Int) => spec_l01Count_l1 a0 s.1 s.2) (a1, 1))) fun x28 => (some (if 1000000000001 < x28 then 1000000000001 else x28)))
theorem spec_l01Count_ok (a0 : Int) (a1 : Int) (r : Int) (h : spec_l01Count a0 a1 = some r) : Den Try.prog 62 [(i6 a0), (i6 a1)] { r := (i6 r) } := by
  refine den_of (rs := [(i6 r)]) (ac := spec_l01Count_c) (L := spec_l01Count_L) (n := 19) (m := []) (c := Try.f62.body.getD .skip) good Try.func62 (by kernel_rfl) (by kernel_rfl) Try.ntmps62 rfl rfl (by kernel_rfl) rfl rfl ?_
  refine a_st (σ' := ⟨[(0, (i6 a0)), (1, (i6 a1))], []⟩) (by kernel_rfl) ?_
  unfold spec_l01Count_c
  refine sr (vp (i6 0) rfl (nx ⟨[(0, (i6 a0)), (1, (i6 a1))], []⟩ (by kernel_rfl) (sr (vp (i6 1) rfl (nx ⟨[(0, (i6 a0)), (1, (i6 a1)), (5, (i6 1))], []⟩ (by kernel_rfl) ?_)))))
  obtain ⟨y29, hy30, hk31⟩ := bind_some h
  clear h
  refine a_join (emb := fun (s : Int) => ⟨[(5, (i6 s))], []⟩) (pre := fun s => s = y29) ?_ ?_
  · rintro x28 rfl
    have h := hk31
    refine a_st (σ' := ⟨[(5, (i6 x28))], []⟩) (by kernel_rfl) (sr (vp (i6 x28) rfl (vp (i6 (if 1000000000001 < x28 then 1000000000001 else x28)) rfl (vp (i6 (if 1000000000001 < x28 then 1000000000001 else x28)) rfl (nx _ rfl (a_ret ?_))))))
    refine ⟨.inr rfl, ?_⟩
    rw [Try.results62]
    cases h
    exact ⟨_, _, _, _, _, rfl, trivial, .inl ⟨rfl, .inl rfl⟩, rfl, rfl⟩
  · have h := hy30
    refine a_block ?_
    refine a_loop (emb := fun (s : (Int × Int)) => ⟨[(0, (i6 a0)), (1, (i6 s.1)), (5, (i6 s.2))], []⟩) (body := (fun s : (Int × Int) => spec_l01Count_l1 a0 s.1 s.2)) (G := fun q => some q = some y29) h rfl ?_ (by kernel_rfl)
    rintro X48 ⟨x39, x40⟩ x49 h hX50
    have h : spec_l01Count_l1 a0 x39 x40 = some x49 := h
    refine a_st (σ' := ⟨[(0, (i6 a0)), (1, (i6 x39)), (5, (i6 x40))], []⟩) (by kernel_rfl) (a_seq ?_)
    obtain ⟨y53, hy54, hk55⟩ := bind_some h
    clear h
    refine a_join (emb := fun (s : Bool) => ⟨[(0, (i6 a0)), (1, (i6 x39)), (5, (i6 x40)), (11, (.bool s))], []⟩) (pre := fun s => s = y53) ?_ ?_
    · rintro x52 rfl
      have h := hk55
      refine a_st (σ' := ⟨[(0, (i6 a0)), (1, (i6 x39)), (5, (i6 x40)), (11, (.bool x52))], []⟩) (by kernel_rfl) ?_
      cases hb57 : x52
      · have h := ite_f hb57 h
        refine a_cond_f rfl (a_exit (t_exit ?_))
        cases h
        have h := hX50
        refine t_exit (b_exit ?_)
        exact j_leaf x40 (Option.some.inj h) (by kernel_rfl)
      · have h := ite_t hb57 h
        refine a_cond_t rfl (a_skip (a_next (σ' := ⟨[(0, (i6 a0)), (1, (i6 x39)), (5, (i6 x40))], []⟩) (by kernel_rfl) (a_seq (a_block (a_region (vp (i6 x40) rfl (vp (i6 a0) rfl (vp (i6 (IntKind.i64.wrap (x40 * a0))) rfl (vp (i6 (IntKind.i64.wrap (x40 * a0))) rfl ?_)))))))))
        refine a_nil (b_norm (a_next (σ' := ⟨[(0, (i6 a0)), (1, (i6 x39)), (5, (i6 (IntKind.i64.wrap (x40 * a0))))], []⟩) (by kernel_rfl) (a_region (vp (i6 x39) rfl (vp (i6 (IntKind.i64.wrap (x39 - 1))) rfl (vp (i6 (IntKind.i64.wrap (x39 - 1))) rfl (a_nil ?_)))))))
        cases h
        exact a_again (by kernel_rfl) hX50
    · have h := hy54
      refine a_region (vp (i6 x39) rfl (vp (.bool ((decide (x39 > 0)))) rfl (vp (.bool ((decide (x39 > 0)))) rfl ?_)))
      cases hb56 : (decide (x39 > 0))
      · have h := ite_f hb56 h
        refine a_gskip rfl (a_gskip rfl (vp (.bool false) rfl (a_nil ?_)))
        exact j_leaf false (Option.some.inj h) (by kernel_rfl)
      · have h := ite_t hb56 h
        refine gp (i6 x40) rfl rfl (gp (.bool ((decide (x40 ≤ 1000000000000)))) rfl rfl (vp (.bool ((decide (x40 ≤ 1000000000000)))) rfl (a_nil ?_)))
        exact j_leaf ((decide (x40 ≤ 1000000000000))) (Option.some.inj h) (by kernel_rfl)
def spec_l01Of_c : ACode := (.seq (.region 0 [q 4 (.alloc 24)] false) (.seq (.region 1 [q 7 (.build 24 []), q 5 (.alloc 24), ⟨none, .store 24 (t 5) (t 7), none, []⟩] false) (.seq (.seq (.region 2 [q 6 (.asg 0 (.const (.int .i64 0)) 3)] false) (.block 0 (.loop (.seq (.seq (.region 3 [q 8 (.mov (t 1)), q 9 (.bin .gtr 2 (t 8) (.const (.int .i64 0)))] false) (.cond (t 9) .skip (.exit 0))) (.seq (.block 1 (.seq (.region 5 [q 12 (.mov (t 6)), q 13 (.mov (t 1)), q 14 (.mov (t 0)), q 15 (.bin .rem 2 (t 13) (t 14)), q 16 (.conv 2 5 (t 15)), q 17 (.indexAddr 24 (t 5) (t 12)), ⟨none, .store 5 (t 17) (t 16), none, []⟩] false) (.region 6 [q 18 (.mov (t 1)), q 19 (.mov (t 0)), q 20 (.bin .quo 2 (t 18) (t 19)), q 1 (.asg 0 (t 20) 2)] false))) (.region 4 [q 10 (.mov (t 6)), q 11 (.bin .add 3 (t 10) (.const (.int .i64 1))), q 6 (.asg 0 (t 11) 3)] false)))))) (.seq (.region 7 [q 21 (.load 24 (t 5)), ⟨none, .store 24 (t 4) (t 21), none, []⟩] false) .ret))))
def spec_l01Of_L : Live := [(0, [0, 1]), (1, [0, 1, 4]), (2, [0, 1, 4, 5]), (3, [0, 1, 4, 5, 6]), (4, [0, 1, 4, 5, 6]), (5, [0, 1, 4, 5, 6]), (6, [0, 1, 4, 5, 6]), (7, [4, 5]), (100009, [0, 1, 4, 5, 6, 9])]
noncomputable def spec_l01Of_l1 (a0 : Int) (x33 : Int) (x34 : Int) (x35 : (Vec Int 64)) : Option ((Int × Int × (Vec Int 64)) ⊕ (Vec Int 64)) :=
  (if (decide (x33 > 0)) then (ifp (a0 ≠ 0) ((ifp (0 ≤ x34 ∧ x34 < ((64 : Nat) : Int)) ((ifp (a0 ≠ 0) ((some (.inl ((IntKind.i64.wrap (Int.tdiv x33 a0), IntKind.i64.wrap (x34 + 1), (vset x35 x34.toNat (IntKind.u8.wrap (Int.tmod x33 a0))))))))))))) else (some (.inr x35)))
noncomputable def spec_l01Of (a0 : Int) (a1 : Int) : Option (Vec Int 64) :=
  (Option.bind (α := (Vec Int 64)) ((loopM (fun s : (Int × Int × (Vec Int 64)) => spec_l01Of_l1 a0 s.1 s.2.1 s.2.2) (a1, 0, (vrep 64 (0 : Int))))) fun x24 => (some x24))
theorem spec_l01Of_ok (a0 : Int) (a1 : Int) (r : (Vec Int 64)) (h : spec_l01Of a0 a1 = some r) : Den Try.prog 63 [(i6 a0), (i6 a1)] { r := (eA64u8 r) } := by
  refine den_of (rs := [(eA64u8 r)]) (ac := spec_l01Of_c) (L := spec_l01Of_L) (n := 22) (m := []) (c := Try.f63.body.getD .skip) good Try.func63 (by kernel_rfl) (by kernel_rfl) Try.ntmps63 rfl rfl (by kernel_rfl) rfl rfl ?_
  refine a_st (σ' := ⟨[(0, (i6 a0)), (1, (i6 a1))], []⟩) (by kernel_rfl) ?_
  unfold spec_l01Of_c
  refine sr (vo 1400 (eA64u8 ((vrep 64 (0 : Int)))) rfl rfl (nx ⟨[(0, (i6 a0)), (1, (i6 a1)), (4, (ow 4))], [(4, (bk (eA64u8 ((vrep 64 (0 : Int))))))]⟩ (by kernel_rfl) (sr (vq (eA64u8 ((vrep 64 (0 : Int)))) rfl ⟨⟨_, rfl, rfl⟩, all_nil⟩ (vo 1500 (eA64u8 ((vrep 64 (0 : Int)))) rfl rfl (vs (eA64u8 ((vrep 64 (0 : Int)))) rfl rfl (fun _ => rfl) rfl rfl rfl rfl rfl rfl (nx ⟨[(0, (i6 a0)), (1, (i6 a1)), (4, (ow 4)), (5, (ow 5))], [(4, (bk (eA64u8 ((vrep 64 (0 : Int)))))), (5, (bk (eA64u8 ((vrep 64 (0 : Int))))))]⟩ (by kernel_rfl) ?_)))))))
  obtain ⟨y25, hy26, hk27⟩ := bind_some h
  clear h
  refine a_join (emb := fun (s : (Vec Int 64)) => ⟨[(4, (ow 4)), (5, (ow 5))], [(4, (bk (eA64u8 ((vrep 64 (0 : Int)))))), (5, (bk (eA64u8 s)))]⟩) (pre := fun s => s = y25) ?_ ?_
  · rintro x24 rfl
    have h := hk27
    refine a_st (σ' := ⟨[(4, (ow 4)), (5, (ow 5))], [(4, (bk (eA64u8 ((vrep 64 (0 : Int)))))), (5, (bk (eA64u8 x24)))]⟩) (by kernel_rfl) (sr (vl (eA64u8 x24) rfl rfl rfl rfl rfl rfl (vs (eA64u8 x24) rfl rfl (fun _ => rfl) rfl rfl rfl rfl rfl rfl (nx _ rfl (a_ret ?_)))))
    have hl52 : LdOk [] (eA64u8 x24) [] 64 true (eA64u8 x24) := (.nil rfl rfl rfl)
    refine ⟨.inr rfl, ?_⟩
    rw [Try.results63]
    cases h
    exact ⟨_, _, _, _, _, ld_own (i := ⟨.arr 64 5, 64, 64, (eA64u8 (vrep 64 (0 : Int)))⟩) rfl rfl rfl hl52, hl52.c, .inl ⟨rfl, .inl rfl⟩, rfl, rfl⟩
  · have h := hy26
    refine sr (vp (i6 0) rfl (nx ⟨[(0, (i6 a0)), (1, (i6 a1)), (4, (ow 4)), (5, (ow 5)), (6, (i6 0))], [(4, (bk (eA64u8 ((vrep 64 (0 : Int)))))), (5, (bk (eA64u8 ((vrep 64 (0 : Int))))))]⟩ (by kernel_rfl) (a_block ?_)))
    refine a_loop (emb := fun (s : (Int × Int × (Vec Int 64))) => ⟨[(0, (i6 a0)), (1, (i6 s.1)), (4, (ow 4)), (5, (ow 5)), (6, (i6 s.2.1))], [(4, (bk (eA64u8 ((vrep 64 (0 : Int)))))), (5, (bk (eA64u8 s.2.2)))]⟩) (body := (fun s : (Int × Int × (Vec Int 64)) => spec_l01Of_l1 a0 s.1 s.2.1 s.2.2)) (G := fun q => some q = some y25) h rfl ?_ (by kernel_rfl)
    rintro X41 ⟨x33, x34, x35⟩ x42 h hX43
    have h : spec_l01Of_l1 a0 x33 x34 x35 = some x42 := h
    refine a_st (σ' := ⟨[(0, (i6 a0)), (1, (i6 x33)), (4, (ow 4)), (5, (ow 5)), (6, (i6 x34))], [(4, (bk (eA64u8 ((vrep 64 (0 : Int)))))), (5, (bk (eA64u8 x35)))]⟩) (by kernel_rfl) (a_seq (sr (vp (i6 x33) rfl (vp (.bool ((decide (x33 > 0)))) rfl (nx ⟨[(0, (i6 a0)), (1, (i6 x33)), (4, (ow 4)), (5, (ow 5)), (6, (i6 x34)), (9, (.bool ((decide (x33 > 0)))))], [(4, (bk (eA64u8 ((vrep 64 (0 : Int)))))), (5, (bk (eA64u8 x35)))]⟩ (by kernel_rfl) ?_)))))
    cases hb44 : (decide (x33 > 0))
    · have h := ite_f hb44 h
      refine a_cond_f rfl (a_exit (t_exit ?_))
      cases h
      have h := hX43
      refine t_exit (b_exit ?_)
      exact j_leaf x35 (Option.some.inj h) (by kernel_rfl)
    · have h := ite_t hb44 h
      refine a_cond_t rfl (a_skip (a_next (σ' := ⟨[(0, (i6 a0)), (1, (i6 x33)), (4, (ow 4)), (5, (ow 5)), (6, (i6 x34))], [(4, (bk (eA64u8 ((vrep 64 (0 : Int)))))), (5, (bk (eA64u8 x35)))]⟩) (by kernel_rfl) (a_seq (a_block (sr (vp (i6 x34) rfl (vp (i6 x33) rfl (vp (i6 a0) rfl ?_))))))))
      obtain ⟨hc45, h⟩ := ifp_some h
      refine vq (i6 (Int.tmod x33 a0)) rfl hc45 (vp (b8 (IntKind.u8.wrap (Int.tmod x33 a0))) rfl ?_)
      obtain ⟨hc46, h⟩ := ifp_some h
      refine vq (.own 5 [x34.toNat] [x34.toNat * 1]) rfl hc46 ?_
      have hs47 : StOk [x34.toNat] (eA64u8 x35) [x34.toNat * 1] 1 (b8 (IntKind.u8.wrap (Int.tmod x33 a0))) (eA64u8 ((vset x35 x34.toNat (IntKind.u8.wrap (Int.tmod x33 a0))))) := (.arr (y := IntKind.u8.wrap (Int.tmod x33 a0)) (vlt x35 hc46) rfl (.nil rfl rfl rfl rfl))
      refine vu .top [(5, (bk (eA64u8 ((vset x35 x34.toNat (IntKind.u8.wrap (Int.tmod x33 a0)))))))] (st_own (i := ⟨.int .u8, 1, 1, (.int .u8 0)⟩) rfl rfl (fun _ => rfl) rfl hs47) (hs47.c rfl) rfl (nx ⟨[(0, (i6 a0)), (1, (i6 x33)), (4, (ow 4)), (5, (ow 5)), (6, (i6 x34))], [(4, (bk (eA64u8 ((vrep 64 (0 : Int)))))), (5, (bk (eA64u8 ((vset x35 x34.toNat (IntKind.u8.wrap (Int.tmod x33 a0)))))))]⟩ (by kernel_rfl) (a_region (vp (i6 x33) rfl (vp (i6 a0) rfl ?_))))
      obtain ⟨hc48, h⟩ := ifp_some h
      refine vq (i6 (IntKind.i64.wrap (Int.tdiv x33 a0))) rfl hc48 (vp (i6 (IntKind.i64.wrap (Int.tdiv x33 a0))) rfl (a_nil (b_norm (a_next (σ' := ⟨[(0, (i6 a0)), (1, (i6 (IntKind.i64.wrap (Int.tdiv x33 a0)))), (4, (ow 4)), (5, (ow 5)), (6, (i6 x34))], [(4, (bk (eA64u8 ((vrep 64 (0 : Int)))))), (5, (bk (eA64u8 ((vset x35 x34.toNat (IntKind.u8.wrap (Int.tmod x33 a0)))))))]⟩) (by kernel_rfl) (a_region (vp (i6 x34) rfl (vp (i6 (IntKind.i64.wrap (x34 + 1))) rfl (vp (i6 (IntKind.i64.wrap (x34 + 1))) rfl (a_nil ?_)))))))))
      cases h
      exact a_again (by kernel_rfl) hX43
end Go.Proofs.Ytcgohoclbjgmkaa
