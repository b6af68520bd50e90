/- Functions of the program: plain Lean functions, and that the program computes them. Printed by gen.py. -/
import Derived.Test.YtcgohoclbjgmkaaFnT
import Derived.Test.YtcgohoclbjgmkaaFn1
import Derived.Test.YtcgohoclbjgmkaaFn2
namespace Go.Proofs.Ytcgohoclbjgmkaa
open Go.Abs Go.Proofs
set_option linter.unusedSimpArgs false
set_option linter.unusedVariables false
set_option maxHeartbeats 16000000
attribute [local irreducible] Abs.acode Abs.aops Abs.aopsT Abs.thenK Abs.blockK

def spec_l06Is_c : ACode := (.seq (.region 0 [q 1 (.box 52 (t 0)), q 2 (.asg 0 (.const (.bool false)) 4)] false) (.seq (.region 1 [q 5 (.fieldAddr 52 (t 1) 0), q 6 (.load 2 (t 5)), q 3 (.asg 0 (t 6) 2)] false) (.seq (.seq (.region 2 [q 7 (.mov (t 3)), q 8 (.fieldAddr 52 (t 1) 1), q 9 (.load 24 (t 8)), q 10 (.fieldAddr 52 (t 1) 2), q 11 (.load 24 (t 10)), q 12 (.fieldAddr 52 (t 1) 3), q 13 (.load 24 (t 12)), q 14 (.bslice 0 36 3 [(0, (t 9)), (1, (t 11)), (2, (t 13))]), q 15 (.call 0 (.func 94) [(t 7), (t 14)]), q 16 (.bin .neq 2 (t 15) (.const (.int .i64 0))), q 17 (.mov (t 16)), ⟨some 18, .fieldAddr 52 (t 1) 1, some (17, false), []⟩, ⟨some 19, .load 24 (t 18), some (17, false), []⟩, ⟨some 20, .call 0 (.func 48) [(t 19)], some (17, false), []⟩, ⟨some 21, .un .not (t 20), some (17, false), []⟩, q 22 (.pick (t 17) (.const (.bool true)) (t 21))] false) (.cond (t 22) (.seq (.region 3 [q 2 (.asg 0 (.const (.bool false)) 4)] false) .ret) .skip)) (.seq (.region 4 [q 23 (.fieldAddr 52 (t 1) 1), q 24 (.load 24 (t 23)), q 25 (.call 0 (.func 81) [(t 24)]), q 4 (.asg 0 (t 25) 2)] false) (.seq (.region 5 [q 26 (.mov (t 4)), q 27 (.call 0 (.func 61) [(t 26), (.const (.int .i64 1)), (.const (.int .i64 4))]), q 28 (.mov (t 27)), ⟨some 29, .mov (t 3), some (28, true), []⟩, ⟨some 30, .fieldAddr 52 (t 1) 1, some (28, true), []⟩, ⟨some 31, .load 24 (t 30), some (28, true), []⟩, ⟨some 32, .call 0 (.func 49) [(t 29), (t 31)], some (28, true), []⟩, q 33 (.pick (t 28) (t 32) (.const (.bool false))), q 34 (.mov (t 33)), ⟨some 35, .fieldAddr 52 (t 1) 2, some (34, true), []⟩, ⟨some 36, .load 24 (t 35), some (34, true), []⟩, ⟨some 37, .call 0 (.func 81) [(t 36)], some (34, true), []⟩, ⟨some 38, .mov (t 4), some (34, true), []⟩, ⟨some 39, .bin .lss 2 (t 37) (t 38), some (34, true), []⟩, q 40 (.pick (t 34) (t 39) (.const (.bool false))), q 41 (.mov (t 40)), ⟨some 42, .fieldAddr 52 (t 1) 3, some (41, true), []⟩, ⟨some 43, .load 24 (t 42), some (41, true), []⟩, ⟨some 44, .call 0 (.func 81) [(t 43)], some (41, true), []⟩, ⟨some 45, .mov (t 4), some (41, true), []⟩, ⟨some 46, .bin .lss 2 (t 44) (t 45), some (41, true), []⟩, q 47 (.pick (t 41) (t 46) (.const (.bool false))), q 48 (.mov (t 47)), ⟨some 49, .fieldAddr 52 (t 1) 3, some (48, true), []⟩, ⟨some 50, .load 24 (t 49), some (48, true), []⟩, ⟨some 51, .build 24 [], some (48, true), []⟩, ⟨some 52, .bin .neq 24 (t 50) (t 51), some (48, true), []⟩, q 53 (.pick (t 48) (t 52) (.const (.bool false))), q 2 (.asg 0 (t 53) 4)] false) .ret)))))
def spec_l06Is_L : Live := [(0, [0]), (1, [1]), (2, [1, 3]), (3, []), (4, [1, 3]), (5, [1, 3, 4]), (100022, [1, 3, 22])]
noncomputable def spec_l06Is (a0 : (Int × (Vec Int 64) × (Vec Int 64) × (Vec Int 64))) : Option Bool :=
  (Option.bind (α := Bool) ((Option.bind (spec_l01Code a0.1 ([a0.2.1, a0.2.2.1, a0.2.2.2])) fun r18 => (if (r18 != 0) then (some true) else (Option.bind (spec_l01Monic a0.2.1) fun r22 => (some (!r22)))))) fun x11 => (if x11 then (some false) else (Option.bind (spec_l01Deg a0.2.1) fun r26 => (Option.bind (spec_l01In r26 1 4) fun r28 => (if r28 then (Option.bind (spec_l01Irreducible a0.1 a0.2.1) fun r32 => (if r32 then (Option.bind (spec_l01Deg a0.2.2.1) fun r36 => (if (decide (r36 < r26)) then (Option.bind (spec_l01Deg a0.2.2.2) fun r40 => (if (decide (r40 < r26)) then (some ((!decide (a0.2.2.2 = ((vrep 64 (0 : Int))))))) else (some false))) else (some false))) else (some false))) else (some false))))))
theorem spec_l06Is_ok (a0 : (Int × (Vec Int 64) × (Vec Int 64) × (Vec Int 64))) (r : Bool) (h : spec_l06Is a0 = some r) : Den Try.prog 73 [(eT_i64_A64u8_A64u8_A64u8_Z a0)] { r := (.bool r) } := by
  refine den_of (rs := [(.bool r)]) (ac := spec_l06Is_c) (L := spec_l06Is_L) (n := 54) (m := []) (c := Try.f73.body.getD .skip) good Try.func73 (by kernel_rfl) (by kernel_rfl) Try.ntmps73 rfl rfl (by kernel_rfl) rfl rfl ?_
  refine a_st (σ' := ⟨[(0, (eT_i64_A64u8_A64u8_A64u8_Z a0))], []⟩) (by kernel_rfl) ?_
  unfold spec_l06Is_c
  refine sr (vo 1100 (eT_i64_A64u8_A64u8_A64u8_Z a0) rfl rfl (vp (.bool false) rfl (nx ⟨[(1, (ow 1))], [(1, (bk (eT_i64_A64u8_A64u8_A64u8_Z a0)))]⟩ (by kernel_rfl) (sr (vb (.own 1 [0] [0]) rfl rfl ?_)))))
  have hl1 : LdOk [0] (eT_i64_A64u8_A64u8_A64u8_Z a0) [0] 1 false (i6 a0.1) := (.fld rfl rfl rfl rfl (.nil rfl rfl rfl))
  refine vq (i6 a0.1) (ld_own (i := ⟨.int .i64, 1, 8, (.int .i64 0)⟩) rfl rfl rfl hl1) hl1.c (vp (i6 a0.1) rfl (nx ⟨[(1, (ow 1)), (3, (i6 a0.1))], [(1, (bk (eT_i64_A64u8_A64u8_A64u8_Z a0)))]⟩ (by kernel_rfl) (a_seq ?_)))
  obtain ⟨y12, hy13, hk14⟩ := bind_some h
  clear h
  refine a_join (emb := fun (s : Bool) => ⟨[(1, (ow 1)), (3, (i6 a0.1)), (22, (.bool s))], [(1, (bk (eT_i64_A64u8_A64u8_A64u8_Z a0)))]⟩) (pre := fun s => s = y12) ?_ ?_
  · rintro x11 rfl
    have h := hk14
    refine a_st (σ' := ⟨[(1, (ow 1)), (3, (i6 a0.1)), (22, (.bool x11))], [(1, (bk (eT_i64_A64u8_A64u8_A64u8_Z a0)))]⟩) (by kernel_rfl) ?_
    cases hb24 : x11
    · have h := ite_f hb24 h
      refine a_cond_f rfl (a_skip (a_next (σ' := ⟨[(1, (ow 1)), (3, (i6 a0.1))], [(1, (bk (eT_i64_A64u8_A64u8_A64u8_Z a0)))]⟩) (by kernel_rfl) (sr (vb (.own 1 [1] [1]) rfl rfl ?_))))
      have hl25 : LdOk [1] (eT_i64_A64u8_A64u8_A64u8_Z a0) [1] 64 true (eA64u8 a0.2.1) := (.fld rfl rfl rfl rfl (.nil rfl rfl rfl))
      refine vq (eA64u8 a0.2.1) (ld_own (i := ⟨.arr 64 5, 64, 64, (eA64u8 (vrep 64 (0 : Int)))⟩) rfl rfl rfl hl25) hl25.c ?_
      obtain ⟨r26, hr27, h⟩ := bind_some h
      refine a_call (args := [(eA64u8 a0.2.1)]) (u := []) (r := (i6 r26)) rfl rfl (spec_l01Deg_ok a0.2.1 r26 hr27) rfl (vp (i6 r26) rfl (nx ⟨[(1, (ow 1)), (3, (i6 a0.1)), (4, (i6 r26))], [(1, (bk (eT_i64_A64u8_A64u8_A64u8_Z a0)))]⟩ (by kernel_rfl) (sr (vp (i6 r26) rfl ?_))))
      obtain ⟨r28, hr29, h⟩ := bind_some h
      refine a_call (args := [(i6 r26), (i6 1), (i6 4)]) (u := []) (r := (.bool r28)) rfl rfl (spec_l01In_ok r26 1 4 r28 hr29) rfl (vp (.bool r28) rfl ?_)
      cases hb30 : r28
      · have h := ite_f hb30 h
        refine a_gskip rfl (a_gskip rfl (a_gskip rfl (a_gskip rfl (vp (.bool false) rfl (vp (.bool false) rfl (a_gskip rfl (a_gskip rfl (a_gskip rfl (a_gskip rfl ?_)))))))))
        refine a_gskip rfl (vp (.bool false) rfl (vp (.bool false) rfl (a_gskip rfl (a_gskip rfl (a_gskip rfl (a_gskip rfl (a_gskip rfl (vp (.bool false) rfl (vp (.bool false) rfl ?_)))))))))
        refine a_gskip rfl (a_gskip rfl (a_gskip rfl (a_gskip rfl (vp (.bool false) rfl (vp (.bool false) rfl (nx _ rfl (a_ret ?_)))))))
        refine ⟨.inr rfl, ?_⟩
        rw [Try.results73]
        cases h
        exact ⟨_, _, _, _, _, rfl, trivial, .inl ⟨rfl, .inl rfl⟩, rfl, rfl⟩
      · have h := ite_t hb30 h
        refine gp (i6 a0.1) rfl rfl (gq (.own 1 [1] [1]) rfl rfl (Nat.le_of_ble_eq_true rfl) ?_)
        have hl31 : LdOk [1] (eT_i64_A64u8_A64u8_A64u8_Z a0) [1] 64 true (eA64u8 a0.2.1) := (.fld rfl rfl rfl rfl (.nil rfl rfl rfl))
        refine gq (eA64u8 a0.2.1) rfl (ld_own (i := ⟨.arr 64 5, 64, 64, (eA64u8 (vrep 64 (0 : Int)))⟩) rfl rfl rfl hl31) hl31.c ?_
        obtain ⟨r32, hr33, h⟩ := bind_some h
        refine a_gcall rfl (args := [(i6 a0.1), (eA64u8 a0.2.1)]) (u := []) (r := (.bool r32)) rfl rfl (spec_l01Irreducible_ok a0.1 a0.2.1 r32 hr33) rfl (vp (.bool r32) rfl (vp (.bool r32) rfl ?_))
        cases hb34 : r32
        · have h := ite_f hb34 h
          refine a_gskip rfl (a_gskip rfl (a_gskip rfl (a_gskip rfl (a_gskip rfl (vp (.bool false) rfl (vp (.bool false) rfl (a_gskip rfl (a_gskip rfl (a_gskip rfl ?_)))))))))
          refine a_gskip rfl (a_gskip rfl (vp (.bool false) rfl (vp (.bool false) rfl (a_gskip rfl (a_gskip rfl (a_gskip rfl (a_gskip rfl (vp (.bool false) rfl (vp (.bool false) rfl ?_)))))))))
          refine nx _ rfl (a_ret ?_)
          refine ⟨.inr rfl, ?_⟩
          rw [Try.results73]
          cases h
          exact ⟨_, _, _, _, _, rfl, trivial, .inl ⟨rfl, .inl rfl⟩, rfl, rfl⟩
        · have h := ite_t hb34 h
          refine gq (.own 1 [2] [65]) rfl rfl (Nat.le_of_ble_eq_true rfl) ?_
          have hl35 : LdOk [2] (eT_i64_A64u8_A64u8_A64u8_Z a0) [65] 64 true (eA64u8 a0.2.2.1) := (.fld rfl rfl rfl rfl (.nil rfl rfl rfl))
          refine gq (eA64u8 a0.2.2.1) rfl (ld_own (i := ⟨.arr 64 5, 64, 64, (eA64u8 (vrep 64 (0 : Int)))⟩) rfl rfl rfl hl35) hl35.c ?_
          obtain ⟨r36, hr37, h⟩ := bind_some h
          refine a_gcall rfl (args := [(eA64u8 a0.2.2.1)]) (u := []) (r := (i6 r36)) rfl rfl (spec_l01Deg_ok a0.2.2.1 r36 hr37) rfl (gp (i6 r26) rfl rfl (gp (.bool ((decide (r36 < r26)))) rfl rfl (vp (.bool ((decide (r36 < r26)))) rfl (vp (.bool ((decide (r36 < r26)))) rfl ?_))))
          cases hb38 : (decide (r36 < r26))
          · have h := ite_f hb38 h
            refine a_gskip rfl (a_gskip rfl (a_gskip rfl (a_gskip rfl (a_gskip rfl (vp (.bool false) rfl (vp (.bool false) rfl (a_gskip rfl (a_gskip rfl (a_gskip rfl ?_)))))))))
            refine a_gskip rfl (vp (.bool false) rfl (vp (.bool false) rfl (nx _ rfl (a_ret ?_))))
            refine ⟨.inr rfl, ?_⟩
            rw [Try.results73]
            cases h
            exact ⟨_, _, _, _, _, rfl, trivial, .inl ⟨rfl, .inl rfl⟩, rfl, rfl⟩
          · have h := ite_t hb38 h
            refine gq (.own 1 [3] [129]) rfl rfl (Nat.le_of_ble_eq_true rfl) ?_
            have hl39 : LdOk [3] (eT_i64_A64u8_A64u8_A64u8_Z a0) [129] 64 true (eA64u8 a0.2.2.2) := (.fld rfl rfl rfl rfl (.nil rfl rfl rfl))
            refine gq (eA64u8 a0.2.2.2) rfl (ld_own (i := ⟨.arr 64 5, 64, 64, (eA64u8 (vrep 64 (0 : Int)))⟩) rfl rfl rfl hl39) hl39.c ?_
            obtain ⟨r40, hr41, h⟩ := bind_some h
            refine a_gcall rfl (args := [(eA64u8 a0.2.2.2)]) (u := []) (r := (i6 r40)) rfl rfl (spec_l01Deg_ok a0.2.2.2 r40 hr41) rfl (gp (i6 r26) rfl rfl (gp (.bool ((decide (r40 < r26)))) rfl rfl (vp (.bool ((decide (r40 < r26)))) rfl (vp (.bool ((decide (r40 < r26)))) rfl ?_))))
            cases hb42 : (decide (r40 < r26))
            · have h := ite_f hb42 h
              refine a_gskip rfl (a_gskip rfl (a_gskip rfl (a_gskip rfl (vp (.bool false) rfl (vp (.bool false) rfl (nx _ rfl (a_ret ?_)))))))
              refine ⟨.inr rfl, ?_⟩
              rw [Try.results73]
              cases h
              exact ⟨_, _, _, _, _, rfl, trivial, .inl ⟨rfl, .inl rfl⟩, rfl, rfl⟩
            · have h := ite_t hb42 h
              refine gq (.own 1 [3] [129]) rfl rfl (Nat.le_of_ble_eq_true rfl) ?_
              have hl43 : LdOk [3] (eT_i64_A64u8_A64u8_A64u8_Z a0) [129] 64 true (eA64u8 a0.2.2.2) := (.fld rfl rfl rfl rfl (.nil rfl rfl rfl))
              refine gq (eA64u8 a0.2.2.2) rfl (ld_own (i := ⟨.arr 64 5, 64, 64, (eA64u8 (vrep 64 (0 : Int)))⟩) rfl rfl rfl hl43) hl43.c (gq (eA64u8 ((vrep 64 (0 : Int)))) rfl rfl ⟨⟨_, rfl, rfl⟩, all_nil⟩ (gq (.bool ((!decide (a0.2.2.2 = ((vrep 64 (0 : Int))))))) rfl (nea_run (f := (AV.int .u8)) (a := a0.2.2.2.1) (b := ((vrep 64 (0 : Int))).1) rfl rfl (eqb_vec (fun _ _ => eqb_int _ _) a0.2.2.2 ((vrep 64 (0 : Int))))) (cmp_arr (g := 8) (f := (AV.int .u8)) (x := a0.2.2.2) (y := ((vrep 64 (0 : Int)))) rfl rfl rfl (fun _ _ => rfl) (fun _ _ => cmp_int rfl)) (vp (.bool ((!decide (a0.2.2.2 = ((vrep 64 (0 : Int))))))) rfl (vp (.bool ((!decide (a0.2.2.2 = ((vrep 64 (0 : Int))))))) rfl (nx _ rfl (a_ret ?_))))))
              refine ⟨.inr rfl, ?_⟩
              rw [Try.results73]
              cases h
              exact ⟨_, _, _, _, _, rfl, trivial, .inl ⟨rfl, .inl rfl⟩, rfl, rfl⟩
    · have h := ite_t hb24 h
      refine a_cond_t rfl (sr (vp (.bool false) rfl (nx _ rfl (a_ret (t_ret ?_)))))
      refine ⟨.inr rfl, ?_⟩
      rw [Try.results73]
      cases h
      exact ⟨_, _, _, _, _, rfl, trivial, .inl ⟨rfl, .inl rfl⟩, rfl, rfl⟩
  · have h := hy13
    refine a_region (vp (i6 a0.1) rfl (vb (.own 1 [1] [1]) rfl rfl ?_))
    have hl15 : LdOk [1] (eT_i64_A64u8_A64u8_A64u8_Z a0) [1] 64 true (eA64u8 a0.2.1) := (.fld rfl rfl rfl rfl (.nil rfl rfl rfl))
    refine vq (eA64u8 a0.2.1) (ld_own (i := ⟨.arr 64 5, 64, 64, (eA64u8 (vrep 64 (0 : Int)))⟩) rfl rfl rfl hl15) hl15.c (vb (.own 1 [2] [65]) rfl rfl ?_)
    have hl16 : LdOk [2] (eT_i64_A64u8_A64u8_A64u8_Z a0) [65] 64 true (eA64u8 a0.2.2.1) := (.fld rfl rfl rfl rfl (.nil rfl rfl rfl))
    refine vq (eA64u8 a0.2.2.1) (ld_own (i := ⟨.arr 64 5, 64, 64, (eA64u8 (vrep 64 (0 : Int)))⟩) rfl rfl rfl hl16) hl16.c (vb (.own 1 [3] [129]) rfl rfl ?_)
    have hl17 : LdOk [3] (eT_i64_A64u8_A64u8_A64u8_Z a0) [129] 64 true (eA64u8 a0.2.2.2) := (.fld rfl rfl rfl rfl (.nil rfl rfl rfl))
    refine vq (eA64u8 a0.2.2.2) (ld_own (i := ⟨.arr 64 5, 64, 64, (eA64u8 (vrep 64 (0 : Int)))⟩) rfl rfl rfl hl17) hl17.c (vq (.sl 64 true (([a0.2.1, a0.2.2.1, a0.2.2.2]).map eA64u8)) rfl ⟨(Nat.le_of_ble_eq_true rfl), (Nat.le_of_ble_eq_true rfl), (all_cons ⟨(Nat.le_of_ble_eq_true rfl), rfl⟩ (all_cons ⟨(Nat.le_of_ble_eq_true rfl), rfl⟩ (all_cons ⟨(Nat.le_of_ble_eq_true rfl), rfl⟩ all_nil)))⟩ ?_)
    obtain ⟨r18, hr19, h⟩ := bind_some h
    refine a_call (args := [(i6 a0.1), (.sl 64 true (([a0.2.1, a0.2.2.1, a0.2.2.2]).map eA64u8))]) (u := []) (r := (i6 r18)) rfl rfl (Den.args (spec_l01Code_ok a0.1 ([a0.2.1, a0.2.2.1, a0.2.2.2]) r18 hr19) rfl rfl (.cons (.refl _) (.cons (.loose _) .nil))) rfl (vp (.bool (r18 != 0)) rfl (vp (.bool (r18 != 0)) rfl ?_))
    cases hb20 : (r18 != 0)
    · have h := ite_f hb20 h
      refine gq (.own 1 [1] [1]) rfl rfl (Nat.le_of_ble_eq_true rfl) ?_
      have hl21 : LdOk [1] (eT_i64_A64u8_A64u8_A64u8_Z a0) [1] 64 true (eA64u8 a0.2.1) := (.fld rfl rfl rfl rfl (.nil rfl rfl rfl))
      refine gq (eA64u8 a0.2.1) rfl (ld_own (i := ⟨.arr 64 5, 64, 64, (eA64u8 (vrep 64 (0 : Int)))⟩) rfl rfl rfl hl21) hl21.c ?_
      obtain ⟨r22, hr23, h⟩ := bind_some h
      refine a_gcall rfl (args := [(eA64u8 a0.2.1)]) (u := []) (r := (.bool r22)) rfl rfl (spec_l01Monic_ok a0.2.1 r22 hr23) rfl (gp (.bool (!r22)) rfl rfl (vp (.bool (!r22)) rfl (a_nil ?_)))
      exact j_leaf (!r22) (Option.some.inj h) (by kernel_rfl)
    · have h := ite_t hb20 h
      refine a_gskip rfl (a_gskip rfl (a_gskip rfl (a_gskip rfl (vp (.bool true) rfl (a_nil ?_)))))
      exact j_leaf true (Option.some.inj h) (by kernel_rfl)
def spec_l06Both_c : ACode := (.seq (.region 0 [q 2 (.box 52 (t 0)), q 3 (.box 52 (t 1)), q 4 (.asg 0 (.const (.int .i64 0)) 2)] false) (.seq (.block 0 (.seq (.region 1 [q 6 (.load 52 (t 2)), q 7 (.call 0 (.func 73) [(t 6)]), q 8 (.un .not (t 7)), q 9 (.mov (t 8)), ⟨some 10, .load 52 (t 3), some (9, false), []⟩, ⟨some 11, .call 0 (.func 73) [(t 10)], some (9, false), []⟩, ⟨some 12, .un .not (t 11), some (9, false), []⟩, q 13 (.pick (t 9) (.const (.bool true)) (t 12)), q 5 (.asg 0 (t 13) 4)] false) (.cond (t 5) (.seq (.region 2 [q 4 (.asg 0 (.const (.int .i64 1)) 2)] false) .ret) (.seq (.region 3 [q 15 (.fieldAddr 52 (t 2) 0), q 16 (.load 2 (t 15)), q 17 (.fieldAddr 52 (t 3) 0), q 18 (.load 2 (t 17)), q 19 (.bin .neq 2 (t 16) (t 18)), q 20 (.mov (t 19)), ⟨some 21, .fieldAddr 52 (t 2) 1, some (20, false), []⟩, ⟨some 22, .load 24 (t 21), some (20, false), []⟩, ⟨some 23, .fieldAddr 52 (t 3) 1, some (20, false), []⟩, ⟨some 24, .load 24 (t 23), some (20, false), []⟩, ⟨some 25, .bin .neq 24 (t 22) (t 24), some (20, false), []⟩, q 26 (.pick (t 20) (.const (.bool true)) (t 25)), q 14 (.asg 0 (t 26) 4)] false) (.cond (t 14) (.seq (.region 4 [q 4 (.asg 0 (.const (.int .i64 2)) 2)] false) .ret) .skip))))) (.seq (.region 5 [q 4 (.asg 0 (.const (.int .i64 0)) 2)] false) .ret)))
def spec_l06Both_L : Live := [(0, [0, 1]), (1, [2, 3]), (2, []), (3, [2, 3]), (4, []), (5, []), (100005, [2, 3, 5]), (100014, [14])]
noncomputable def spec_l06Both (a0 : (Int × (Vec Int 64) × (Vec Int 64) × (Vec Int 64))) (a1 : (Int × (Vec Int 64) × (Vec Int 64) × (Vec Int 64))) : Option Int :=
  (Option.bind (α := Bool) ((Option.bind (spec_l06Is a0) fun r13 => (if (!r13) then (some true) else (Option.bind (spec_l06Is a1) fun r17 => (some (!r17)))))) fun x8 => (if x8 then (some 1) else (Option.bind (α := Bool) ((if (a0.1 != a1.1) then (some true) else (some ((!decide (a0.2.1 = a1.2.1)))))) fun x25 => (if x25 then (some 2) else (some 0)))))
theorem spec_l06Both_ok (a0 : (Int × (Vec Int 64) × (Vec Int 64) × (Vec Int 64))) (a1 : (Int × (Vec Int 64) × (Vec Int 64) × (Vec Int 64))) (r : Int) (h : spec_l06Both a0 a1 = some r) : Den Try.prog 86 [(eT_i64_A64u8_A64u8_A64u8_Z a0), (eT_i64_A64u8_A64u8_A64u8_Z a1)] { r := (i6 r) } := by
  refine den_of (rs := [(i6 r)]) (ac := spec_l06Both_c) (L := spec_l06Both_L) (n := 27) (m := []) (c := Try.f86.body.getD .skip) good Try.func86 (by kernel_rfl) (by kernel_rfl) Try.ntmps86 rfl rfl (by kernel_rfl) rfl rfl ?_
  refine a_st (σ' := ⟨[(0, (eT_i64_A64u8_A64u8_A64u8_Z a0)), (1, (eT_i64_A64u8_A64u8_A64u8_Z a1))], []⟩) (by kernel_rfl) ?_
  unfold spec_l06Both_c
  refine sr (vo 1200 (eT_i64_A64u8_A64u8_A64u8_Z a0) rfl rfl (vo 1300 (eT_i64_A64u8_A64u8_A64u8_Z a1) rfl rfl (vp (i6 0) rfl (nx ⟨[(2, (ow 2)), (3, (ow 3))], [(2, (bk (eT_i64_A64u8_A64u8_A64u8_Z a0))), (3, (bk (eT_i64_A64u8_A64u8_A64u8_Z a1)))]⟩ (by kernel_rfl) (a_seq (a_block ?_))))))
  obtain ⟨y9, hy10, hk11⟩ := bind_some h
  clear h
  refine a_join (emb := fun (s : Bool) => ⟨[(2, (ow 2)), (3, (ow 3)), (5, (.bool s))], [(2, (bk (eT_i64_A64u8_A64u8_A64u8_Z a0))), (3, (bk (eT_i64_A64u8_A64u8_A64u8_Z a1)))]⟩) (pre := fun s => s = y9) ?_ ?_
  · rintro x8 rfl
    have h := hk11
    refine a_st (σ' := ⟨[(2, (ow 2)), (3, (ow 3)), (5, (.bool x8))], [(2, (bk (eT_i64_A64u8_A64u8_A64u8_Z a0))), (3, (bk (eT_i64_A64u8_A64u8_A64u8_Z a1)))]⟩) (by kernel_rfl) ?_
    cases hb19 : x8
    · have h := ite_f hb19 h
      refine a_cond_f rfl ?_
      obtain ⟨y26, hy27, hk28⟩ := bind_some h
      clear h
      refine a_join (emb := fun (s : Bool) => ⟨[(14, (.bool s))], []⟩) (pre := fun s => s = y26) ?_ ?_
      · rintro x25 rfl
        have h := hk28
        refine a_st (σ' := ⟨[(14, (.bool x25))], []⟩) (by kernel_rfl) ?_
        cases hb34 : x25
        · have h := ite_f hb34 h
          refine a_cond_f rfl (a_skip (b_norm (a_next (σ' := ⟨[], []⟩) (by kernel_rfl) (sr (vp (i6 0) rfl (nx _ rfl (a_ret ?_)))))))
          refine ⟨.inr rfl, ?_⟩
          rw [Try.results86]
          cases h
          exact ⟨_, _, _, _, _, rfl, trivial, .inl ⟨rfl, .inl rfl⟩, rfl, rfl⟩
        · have h := ite_t hb34 h
          refine a_cond_t rfl (sr (vp (i6 2) rfl (nx _ rfl (a_ret (b_ret (t_ret ?_))))))
          refine ⟨.inr rfl, ?_⟩
          rw [Try.results86]
          cases h
          exact ⟨_, _, _, _, _, rfl, trivial, .inl ⟨rfl, .inl rfl⟩, rfl, rfl⟩
      · have h := hy27
        refine a_region (vb (.own 2 [0] [0]) rfl rfl ?_)
        have hl29 : LdOk [0] (eT_i64_A64u8_A64u8_A64u8_Z a0) [0] 1 false (i6 a0.1) := (.fld rfl rfl rfl rfl (.nil rfl rfl rfl))
        refine vq (i6 a0.1) (ld_own (i := ⟨.int .i64, 1, 8, (.int .i64 0)⟩) rfl rfl rfl hl29) hl29.c (vb (.own 3 [0] [0]) rfl rfl ?_)
        have hl30 : LdOk [0] (eT_i64_A64u8_A64u8_A64u8_Z a1) [0] 1 false (i6 a1.1) := (.fld rfl rfl rfl rfl (.nil rfl rfl rfl))
        refine vq (i6 a1.1) (ld_own (i := ⟨.int .i64, 1, 8, (.int .i64 0)⟩) rfl rfl rfl hl30) hl30.c (vp (.bool (a0.1 != a1.1)) rfl (vp (.bool (a0.1 != a1.1)) rfl ?_))
        cases hb31 : (a0.1 != a1.1)
        · have h := ite_f hb31 h
          refine gq (.own 2 [1] [1]) rfl rfl (Nat.le_of_ble_eq_true rfl) ?_
          have hl32 : LdOk [1] (eT_i64_A64u8_A64u8_A64u8_Z a0) [1] 64 true (eA64u8 a0.2.1) := (.fld rfl rfl rfl rfl (.nil rfl rfl rfl))
          refine gq (eA64u8 a0.2.1) rfl (ld_own (i := ⟨.arr 64 5, 64, 64, (eA64u8 (vrep 64 (0 : Int)))⟩) rfl rfl rfl hl32) hl32.c (gq (.own 3 [1] [1]) rfl rfl (Nat.le_of_ble_eq_true rfl) ?_)
          have hl33 : LdOk [1] (eT_i64_A64u8_A64u8_A64u8_Z a1) [1] 64 true (eA64u8 a1.2.1) := (.fld rfl rfl rfl rfl (.nil rfl rfl rfl))
          refine gq (eA64u8 a1.2.1) rfl (ld_own (i := ⟨.arr 64 5, 64, 64, (eA64u8 (vrep 64 (0 : Int)))⟩) rfl rfl rfl hl33) hl33.c (gq (.bool ((!decide (a0.2.1 = a1.2.1)))) rfl (nea_run (f := (AV.int .u8)) (a := a0.2.1.1) (b := a1.2.1.1) rfl rfl (eqb_vec (fun _ _ => eqb_int _ _) a0.2.1 a1.2.1)) (cmp_arr (g := 8) (f := (AV.int .u8)) (x := a0.2.1) (y := a1.2.1) rfl rfl rfl (fun _ _ => rfl) (fun _ _ => cmp_int rfl)) (vp (.bool ((!decide (a0.2.1 = a1.2.1)))) rfl (vp (.bool ((!decide (a0.2.1 = a1.2.1)))) rfl (a_nil ?_))))
          exact j_leaf ((!decide (a0.2.1 = a1.2.1))) (Option.some.inj h) (by kernel_rfl)
        · have h := ite_t hb31 h
          refine a_gskip rfl (a_gskip rfl (a_gskip rfl (a_gskip rfl (a_gskip rfl (vp (.bool true) rfl (vp (.bool true) rfl (a_nil ?_)))))))
          exact j_leaf true (Option.some.inj h) (by kernel_rfl)
    · have h := ite_t hb19 h
      refine a_cond_t rfl (sr (vp (i6 1) rfl (nx _ rfl (a_ret (b_ret (t_ret ?_))))))
      refine ⟨.inr rfl, ?_⟩
      rw [Try.results86]
      cases h
      exact ⟨_, _, _, _, _, rfl, trivial, .inl ⟨rfl, .inl rfl⟩, rfl, rfl⟩
  · have h := hy10
    refine a_region (vl (eT_i64_A64u8_A64u8_A64u8_Z a0) rfl rfl rfl rfl rfl rfl ?_)
    obtain ⟨r13, hr14, h⟩ := bind_some h
    refine a_call (args := [(eT_i64_A64u8_A64u8_A64u8_Z a0)]) (u := []) (r := (.bool r13)) rfl rfl (spec_l06Is_ok a0 r13 hr14) rfl (vp (.bool (!r13)) rfl (vp (.bool (!r13)) rfl ?_))
    cases hb15 : (!r13)
    · have h := ite_f hb15 h
      have hl16 : LdOk [] (eT_i64_A64u8_A64u8_A64u8_Z a1) [] 193 true (eT_i64_A64u8_A64u8_A64u8_Z a1) := (.nil rfl rfl rfl)
      refine gq (eT_i64_A64u8_A64u8_A64u8_Z a1) rfl (ld_own (i := ⟨.struct [(0, 2), (1, 24), (65, 24), (129, 24)], 193, 200, (eT_i64_A64u8_A64u8_A64u8_Z ((0 : Int), (vrep 64 (0 : Int)), (vrep 64 (0 : Int)), (vrep 64 (0 : Int))))⟩) rfl rfl rfl hl16) hl16.c ?_
      obtain ⟨r17, hr18, h⟩ := bind_some h
      refine a_gcall rfl (args := [(eT_i64_A64u8_A64u8_A64u8_Z a1)]) (u := []) (r := (.bool r17)) rfl rfl (spec_l06Is_ok a1 r17 hr18) rfl (gp (.bool (!r17)) rfl rfl (vp (.bool (!r17)) rfl (vp (.bool (!r17)) rfl (a_nil ?_))))
      exact j_leaf (!r17) (Option.some.inj h) (by kernel_rfl)
    · have h := ite_t hb15 h
      refine a_gskip rfl (a_gskip rfl (a_gskip rfl (vp (.bool true) rfl (vp (.bool true) rfl (a_nil ?_)))))
      exact j_leaf true (Option.some.inj h) (by kernel_rfl)
def spec_l01Count_c : ACode := (.seq (.region 0 [q 4 (.asg 0 (.const (.int .i64 0)) 2)] false) (.seq (.region 1 [q 5 (.asg 0 (.const (.int .i64 1)) 2)] false) (.seq (.block 0 (.loop (.seq (.seq (.region 2 [q 6 (.mov (t 1)), q 7 (.bin .gtr 2 (t 6) (.const (.int .i64 0))), q 8 (.mov (t 7)), ⟨some 9, .mov (t 5), some (8, true), []⟩, ⟨some 10, .bin .leq 2 (t 9) (.const (.int .i64 1000000000000)), some (8, true), []⟩, q 11 (.pick (t 8) (t 10) (.const (.bool false)))] false) (.cond (t 11) .skip (.exit 0))) (.seq (.block 1 (.region 4 [q 14 (.mov (t 5)), q 15 (.mov (t 0)), q 16 (.bin .mul 2 (t 14) (t 15)), q 5 (.asg 0 (t 16) 2)] false)) (.region 3 [q 12 (.mov (t 1)), q 13 (.bin .sub 2 (t 12) (.const (.int .i64 1))), q 1 (.asg 0 (t 13) 2)] false))))) (.seq (.region 5 [q 17 (.mov (t 5)), q 18 (.blt 0 .min [(t 17), (.const (.int .i64 1000000000001))] [2, 2]), q 4 (.asg 0 (t 18) 2)] false) .ret))))
def spec_l01Count_L : Live := [(0, [0, 1]), (1, [0, 1]), (2, [0, 1, 5]), (3, [0, 1, 5]), (4, [0, 1, 5]), (5, [5]), (100011, [0, 1, 5, 11])]
noncomputable def spec_l01Count_l1 (a0 : Int) (x39 : Int) (x40 : Int) : Option ((Int × Int) ⊕ Int) :=
  (Option.bind (α := Bool) ((if (decide (x39 > 0)) then (some ((decide (x40 ≤ 1000000000000)))) else (some false))) fun x52 => (if x52 then (some (.inl ((IntKind.i64.wrap (x39 - 1), IntKind.i64.wrap (x40 * a0))))) else (some (.inr x40))))
noncomputable def spec_l01Count (a0 : Int) (a1 : Int) : Option Int :=
  (Option.bind (α := Int) ((loopM (fun s : (Int × Int) => spec_l01Count_l1 a0 s.1 s.2) (a1, 1))) fun x28 => (some (if 1000000000001 < x28 then 1000000000001 else x28)))
theorem spec_l01Count_ok (a0 : Int) (a1 : Int) (r : Int) (h : spec_l01Count a0 a1 = some r) : Den Try.prog 62 [(i6 a0), (i6 a1)] { r := (i6 r) } := by
  refine den_of (rs := [(i6 r)]) (ac := spec_l01Count_c) (L := spec_l01Count_L) (n := 19) (m := []) (c := Try.f62.body.getD .skip) good Try.func62 (by kernel_rfl) (by kernel_rfl) Try.ntmps62 rfl rfl (by kernel_rfl) rfl rfl ?_
  refine a_st (σ' := ⟨[(0, (i6 a0)), (1, (i6 a1))], []⟩) (by kernel_rfl) ?_
  unfold spec_l01Count_c
  refine sr (vp (i6 0) rfl (nx ⟨[(0, (i6 a0)), (1, (i6 a1))], []⟩ (by kernel_rfl) (sr (vp (i6 1) rfl (nx ⟨[(0, (i6 a0)), (1, (i6 a1)), (5, (i6 1))], []⟩ (by kernel_rfl) ?_)))))
  obtain ⟨y29, hy30, hk31⟩ := bind_some h
  clear h
  refine a_join (emb := fun (s : Int) => ⟨[(5, (i6 s))], []⟩) (pre := fun s => s = y29) ?_ ?_
  · rintro x28 rfl
    have h := hk31
    refine a_st (σ' := ⟨[(5, (i6 x28))], []⟩) (by kernel_rfl) (sr (vp (i6 x28) rfl (vp (i6 (if 1000000000001 < x28 then 1000000000001 else x28)) rfl (vp (i6 (if 1000000000001 < x28 then 1000000000001 else x28)) rfl (nx _ rfl (a_ret ?_))))))
    refine ⟨.inr rfl, ?_⟩
    rw [Try.results62]
    cases h
    exact ⟨_, _, _, _, _, rfl, trivial, .inl ⟨rfl, .inl rfl⟩, rfl, rfl⟩
  · have h := hy30
    refine a_block ?_
    refine a_loop (emb := fun (s : (Int × Int)) => ⟨[(0, (i6 a0)), (1, (i6 s.1)), (5, (i6 s.2))], []⟩) (body := (fun s : (Int × Int) => spec_l01Count_l1 a0 s.1 s.2)) (G := fun q => some q = some y29) h rfl ?_ (by kernel_rfl)
    rintro X48 ⟨x39, x40⟩ x49 h hX50
    have h : spec_l01Count_l1 a0 x39 x40 = some x49 := h
    refine a_st (σ' := ⟨[(0, (i6 a0)), (1, (i6 x39)), (5, (i6 x40))], []⟩) (by kernel_rfl) (a_seq ?_)
    obtain ⟨y53, hy54, hk55⟩ := bind_some h
    clear h
    refine a_join (emb := fun (s : Bool) => ⟨[(0, (i6 a0)), (1, (i6 x39)), (5, (i6 x40)), (11, (.bool s))], []⟩) (pre := fun s => s = y53) ?_ ?_
    · rintro x52 rfl
      have h := hk55
      refine a_st (σ' := ⟨[(0, (i6 a0)), (1, (i6 x39)), (5, (i6 x40)), (11, (.bool x52))], []⟩) (by kernel_rfl) ?_
      cases hb57 : x52
      · have h := ite_f hb57 h
        refine a_cond_f rfl (a_exit (t_exit ?_))
        cases h
        have h := hX50
        refine t_exit (b_exit ?_)
        exact j_leaf x40 (Option.some.inj h) (by kernel_rfl)
      · have h := ite_t hb57 h
        refine a_cond_t rfl (a_skip (a_next (σ' := ⟨[(0, (i6 a0)), (1, (i6 x39)), (5, (i6 x40))], []⟩) (by kernel_rfl) (a_seq (a_block (a_region (vp (i6 x40) rfl (vp (i6 a0) rfl (vp (i6 (IntKind.i64.wrap (x40 * a0))) rfl (vp (i6 (IntKind.i64.wrap (x40 * a0))) rfl ?_)))))))))
        refine a_nil (b_norm (a_next (σ' := ⟨[(0, (i6 a0)), (1, (i6 x39)), (5, (i6 (IntKind.i64.wrap (x40 * a0))))], []⟩) (by kernel_rfl) (a_region (vp (i6 x39) rfl (vp (i6 (IntKind.i64.wrap (x39 - 1))) rfl (vp (i6 (IntKind.i64.wrap (x39 - 1))) rfl (a_nil ?_)))))))
        cases h
        exact a_again (by kernel_rfl) hX50
    · have h := hy54
      refine a_region (vp (i6 x39) rfl (vp (.bool ((decide (x39 > 0)))) rfl (vp (.bool ((decide (x39 > 0)))) rfl ?_)))
      cases hb56 : (decide (x39 > 0))
      · have h := ite_f hb56 h
        refine a_gskip rfl (a_gskip rfl (vp (.bool false) rfl (a_nil ?_)))
        exact j_leaf false (Option.some.inj h) (by kernel_rfl)
      · have h := ite_t hb56 h
        refine gp (i6 x40) rfl rfl (gp (.bool ((decide (x40 ≤ 1000000000000)))) rfl rfl (vp (.bool ((decide (x40 ≤ 1000000000000)))) rfl (a_nil ?_)))
        exact j_leaf ((decide (x40 ≤ 1000000000000))) (Option.some.inj h) (by kernel_rfl)
def spec_l01Of_c : ACode := (.seq (.region 0 [q 4 (.alloc 24)] false) (.seq (.region 1 [q 7 (.build 24 []), q 5 (.alloc 24), ⟨none, .store 24 (t 5) (t 7), none, []⟩] false) (.seq (.seq (.region 2 [q 6 (.asg 0 (.const (.int .i64 0)) 3)] false) (.block 0 (.loop (.seq (.seq (.region 3 [q 8 (.mov (t 1)), q 9 (.bin .gtr 2 (t 8) (.const (.int .i64 0)))] false) (.cond (t 9) .skip (.exit 0))) (.seq (.block 1 (.seq (.region 5 [q 12 (.mov (t 6)), q 13 (.mov (t 1)), q 14 (.mov (t 0)), q 15 (.bin .rem 2 (t 13) (t 14)), q 16 (.conv 2 5 (t 15)), q 17 (.indexAddr 24 (t 5) (t 12)), ⟨none, .store 5 (t 17) (t 16), none, []⟩] false) (.region 6 [q 18 (.mov (t 1)), q 19 (.mov (t 0)), q 20 (.bin .quo 2 (t 18) (t 19)), q 1 (.asg 0 (t 20) 2)] false))) (.region 4 [q 10 (.mov (t 6)), q 11 (.bin .add 3 (t 10) (.const (.int .i64 1))), q 6 (.asg 0 (t 11) 3)] false)))))) (.seq (.region 7 [q 21 (.load 24 (t 5)), ⟨none, .store 24 (t 4) (t 21), none, []⟩] false) .ret))))
def spec_l01Of_L : Live := [(0, [0, 1]), (1, [0, 1, 4]), (2, [0, 1, 4, 5]), (3, [0, 1, 4, 5, 6]), (4, [0, 1, 4, 5, 6]), (5, [0, 1, 4, 5, 6]), (6, [0, 1, 4, 5, 6]), (7, [4, 5]), (100009, [0, 1, 4, 5, 6, 9])]
noncomputable def spec_l01Of_l1 (a0 : Int) (x33 : Int) (x34 : Int) (x35 : (Vec Int 64)) : Option ((Int × Int × (Vec Int 64)) ⊕ (Vec Int 64)) :=
  (if (decide (x33 > 0)) then (ifp (a0 ≠ 0) ((ifp (0 ≤ x34 ∧ x34 < ((64 : Nat) : Int)) ((ifp (a0 ≠ 0) ((some (.inl ((IntKind.i64.wrap (Int.tdiv x33 a0), IntKind.i64.wrap (x34 + 1), (vset x35 x34.toNat (IntKind.u8.wrap (Int.tmod x33 a0))))))))))))) else (some (.inr x35)))
noncomputable def spec_l01Of (a0 : Int) (a1 : Int) : Option (Vec Int 64) :=
  (Option.bind (α := (Vec Int 64)) ((loopM (fun s : (Int × Int × (Vec Int 64)) => spec_l01Of_l1 a0 s.1 s.2.1 s.2.2) (a1, 0, (vrep 64 (0 : Int))))) fun x24 => (some x24))
theorem spec_l01Of_ok (a0 : Int) (a1 : Int) (r : (Vec Int 64)) (h : spec_l01Of a0 a1 = some r) : Den Try.prog 63 [(i6 a0), (i6 a1)] { r := (eA64u8 r) } := by
  refine den_of (rs := [(eA64u8 r)]) (ac := spec_l01Of_c) (L := spec_l01Of_L) (n := 22) (m := []) (c := Try.f63.body.getD .skip) good Try.func63 (by kernel_rfl) (by kernel_rfl) Try.ntmps63 rfl rfl (by kernel_rfl) rfl rfl ?_
  refine a_st (σ' := ⟨[(0, (i6 a0)), (1, (i6 a1))], []⟩) (by kernel_rfl) ?_
  unfold spec_l01Of_c
  refine sr (vo 1400 (eA64u8 ((vrep 64 (0 : Int)))) rfl rfl (nx ⟨[(0, (i6 a0)), (1, (i6 a1)), (4, (ow 4))], [(4, (bk (eA64u8 ((vrep 64 (0 : Int))))))]⟩ (by kernel_rfl) (sr (vq (eA64u8 ((vrep 64 (0 : Int)))) rfl ⟨⟨_, rfl, rfl⟩, all_nil⟩ (vo 1500 (eA64u8 ((vrep 64 (0 : Int)))) rfl rfl (vs (eA64u8 ((vrep 64 (0 : Int)))) rfl rfl (fun _ => rfl) rfl rfl rfl rfl rfl rfl (nx ⟨[(0, (i6 a0)), (1, (i6 a1)), (4, (ow 4)), (5, (ow 5))], [(4, (bk (eA64u8 ((vrep 64 (0 : Int)))))), (5, (bk (eA64u8 ((vrep 64 (0 : Int))))))]⟩ (by kernel_rfl) ?_)))))))
  obtain ⟨y25, hy26, hk27⟩ := bind_some h
  clear h
  refine a_join (emb := fun (s : (Vec Int 64)) => ⟨[(4, (ow 4)), (5, (ow 5))], [(4, (bk (eA64u8 ((vrep 64 (0 : Int)))))), (5, (bk (eA64u8 s)))]⟩) (pre := fun s => s = y25) ?_ ?_
  · rintro x24 rfl
    have h := hk27
    refine a_st (σ' := ⟨[(4, (ow 4)), (5, (ow 5))], [(4, (bk (eA64u8 ((vrep 64 (0 : Int)))))), (5, (bk (eA64u8 x24)))]⟩) (by kernel_rfl) (sr (vl (eA64u8 x24) rfl rfl rfl rfl rfl rfl (vs (eA64u8 x24) rfl rfl (fun _ => rfl) rfl rfl rfl rfl rfl rfl (nx _ rfl (a_ret ?_)))))
    have hl52 : LdOk [] (eA64u8 x24) [] 64 true (eA64u8 x24) := (.nil rfl rfl rfl)
    refine ⟨.inr rfl, ?_⟩
    rw [Try.results63]
    cases h
    exact ⟨_, _, _, _, _, ld_own (i := ⟨.arr 64 5, 64, 64, (eA64u8 (vrep 64 (0 : Int)))⟩) rfl rfl rfl hl52, hl52.c, .inl ⟨rfl, .inl rfl⟩, rfl, rfl⟩
  · have h := hy26
    refine sr (vp (i6 0) rfl (nx ⟨[(0, (i6 a0)), (1, (i6 a1)), (4, (ow 4)), (5, (ow 5)), (6, (i6 0))], [(4, (bk (eA64u8 ((vrep 64 (0 : Int)))))), (5, (bk (eA64u8 ((vrep 64 (0 : Int))))))]⟩ (by kernel_rfl) (a_block ?_)))
    refine a_loop (emb := fun (s : (Int × Int × (Vec Int 64))) => ⟨[(0, (i6 a0)), (1, (i6 s.1)), (4, (ow 4)), (5, (ow 5)), (6, (i6 s.2.1))], [(4, (bk (eA64u8 ((vrep 64 (0 : Int)))))), (5, (bk (eA64u8 s.2.2)))]⟩) (body := (fun s : (Int × Int × (Vec Int 64)) => spec_l01Of_l1 a0 s.1 s.2.1 s.2.2)) (G := fun q => some q = some y25) h rfl ?_ (by kernel_rfl)
    rintro X41 ⟨x33, x34, x35⟩ x42 h hX43
    have h : spec_l01Of_l1 a0 x33 x34 x35 = some x42 := h
    refine a_st (σ' := ⟨[(0, (i6 a0)), (1, (i6 x33)), (4, (ow 4)), (5, (ow 5)), (6, (i6 x34))], [(4, (bk (eA64u8 ((vrep 64 (0 : Int)))))), (5, (bk (eA64u8 x35)))]⟩) (by kernel_rfl) (a_seq (sr (vp (i6 x33) rfl (vp (.bool ((decide (x33 > 0)))) rfl (nx ⟨[(0, (i6 a0)), (1, (i6 x33)), (4, (ow 4)), (5, (ow 5)), (6, (i6 x34)), (9, (.bool ((decide (x33 > 0)))))], [(4, (bk (eA64u8 ((vrep 64 (0 : Int)))))), (5, (bk (eA64u8 x35)))]⟩ (by kernel_rfl) ?_)))))
    cases hb44 : (decide (x33 > 0))
    · have h := ite_f hb44 h
      refine a_cond_f rfl (a_exit (t_exit ?_))
      cases h
      have h := hX43
      refine t_exit (b_exit ?_)
      exact j_leaf x35 (Option.some.inj h) (by kernel_rfl)
    · have h := ite_t hb44 h
      refine a_cond_t rfl (a_skip (a_next (σ' := ⟨[(0, (i6 a0)), (1, (i6 x33)), (4, (ow 4)), (5, (ow 5)), (6, (i6 x34))], [(4, (bk (eA64u8 ((vrep 64 (0 : Int)))))), (5, (bk (eA64u8 x35)))]⟩) (by kernel_rfl) (a_seq (a_block (sr (vp (i6 x34) rfl (vp (i6 x33) rfl (vp (i6 a0) rfl ?_))))))))
      obtain ⟨hc45, h⟩ := ifp_some h
      refine vq (i6 (Int.tmod x33 a0)) rfl hc45 (vp (b8 (IntKind.u8.wrap (Int.tmod x33 a0))) rfl ?_)
      obtain ⟨hc46, h⟩ := ifp_some h
      refine vq (.own 5 [x34.toNat] [x34.toNat * 1]) rfl hc46 ?_
      have hs47 : StOk [x34.toNat] (eA64u8 x35) [x34.toNat * 1] 1 (b8 (IntKind.u8.wrap (Int.tmod x33 a0))) (eA64u8 ((vset x35 x34.toNat (IntKind.u8.wrap (Int.tmod x33 a0))))) := (.arr (y := IntKind.u8.wrap (Int.tmod x33 a0)) (vlt x35 hc46) rfl (.nil rfl rfl rfl rfl))
      refine vu .top [(5, (bk (eA64u8 ((vset x35 x34.toNat (IntKind.u8.wrap (Int.tmod x33 a0)))))))] (st_own (i := ⟨.int .u8, 1, 1, (.int .u8 0)⟩) rfl rfl (fun _ => rfl) rfl hs47) (hs47.c rfl) rfl (nx ⟨[(0, (i6 a0)), (1, (i6 x33)), (4, (ow 4)), (5, (ow 5)), (6, (i6 x34))], [(4, (bk (eA64u8 ((vrep 64 (0 : Int)))))), (5, (bk (eA64u8 ((vset x35 x34.toNat (IntKind.u8.wrap (Int.tmod x33 a0)))))))]⟩ (by kernel_rfl) (a_region (vp (i6 x33) rfl (vp (i6 a0) rfl ?_))))
      obtain ⟨hc48, h⟩ := ifp_some h
      refine vq (i6 (IntKind.i64.wrap (Int.tdiv x33 a0))) rfl hc48 (vp (i6 (IntKind.i64.wrap (Int.tdiv x33 a0))) rfl (a_nil (b_norm (a_next (σ' := ⟨[(0, (i6 a0)), (1, (i6 (IntKind.i64.wrap (Int.tdiv x33 a0)))), (4, (ow 4)), (5, (ow 5)), (6, (i6 x34))], [(4, (bk (eA64u8 ((vrep 64 (0 : Int)))))), (5, (bk (eA64u8 ((vset x35 x34.toNat (IntKind.u8.wrap (Int.tmod x33 a0)))))))]⟩) (by kernel_rfl) (a_region (vp (i6 x34) rfl (vp (i6 (IntKind.i64.wrap (x34 + 1))) rfl (vp (i6 (IntKind.i64.wrap (x34 + 1))) rfl (a_nil ?_)))))))))
      cases h
      exact a_again (by kernel_rfl) hX43
def spec_l02Inverse_c : ACode := (.seq (.region 0 [q 4 (.box 24 (t 1)), q 5 (.box 24 (t 2)), q 6 (.alloc 24)] false) (.seq (.region 1 [q 11 (.mov (t 0)), q 12 (.mov (t 0)), q 13 (.load 24 (t 4)), q 14 (.load 24 (t 5)), ⟨some 15, .call 0 (.func 95) [(t 12), (t 13), (t 14)], none, [1, 2, 3]⟩, q 16 (.load 24 (t 5)), ⟨some 17, .call 0 (.func 133) [(t 11), (t 15), (t 16)], none, [0, 4, 5, 4]⟩, ⟨some 10, .mov (t 17), none, [6]⟩, ⟨some 18, .extract (t 10) 0, none, [7]⟩, ⟨some 19, .extract (t 10) 1, none, [7]⟩, ⟨some 20, .extract (t 10) 2, none, [7]⟩, q 7 (.alloc 24), q 8 (.alloc 24), q 9 (.alloc 24), ⟨none, .store 24 (t 7) (t 18), none, [11, 8, 6, 0, 1, 2, 3, 4, 5, 6, 7, 8, 11, 12, 13]⟩, ⟨none, .store 24 (t 8) (t 19), none, [12, 9, 14, 0, 1, 2, 3, 4, 5, 6, 7, 8, 9, 11, 12, 13, 14]⟩, ⟨none, .store 24 (t 9) (t 20), none, [13, 10, 15, 0, 1, 2, 3, 4, 5, 6, 7, 8, 9, 10, 11, 12, 13, 14, 15]⟩] true) (.seq (.region 2 [q 21 (.mov (t 0)), q 22 (.load 24 (t 8)), q 23 (.load 24 (t 5)), q 24 (.call 0 (.func 95) [(t 21), (t 22), (t 23)]), ⟨none, .store 24 (t 6) (t 24), none, []⟩] false) .ret)))
def spec_l02Inverse_L : Live := [(0, [0, 1, 2]), (1, [0, 4, 5, 6]), (2, [0, 5, 6, 8])]
noncomputable def spec_l02Inverse (a0 : Int) (a1 : (Vec Int 64)) (a2 : (Vec Int 64)) : Option (Vec Int 64) :=
  (Option.bind (spec_l01Mod a0 a1 a2) fun r13 => (Option.bind (spec_l01Bezout a0 r13 a2) fun r16 => (Option.bind (spec_l01Mod a0 r16.2.1 a2) fun r23 => (some r23))))
theorem spec_l02Inverse_ok (a0 : Int) (a1 : (Vec Int 64)) (a2 : (Vec Int 64)) (r : (Vec Int 64)) (h : spec_l02Inverse a0 a1 a2 = some r) : Den Try.prog 130 [(i6 a0), (eA64u8 a1), (eA64u8 a2)] { r := (eA64u8 r) } := by
  refine den_of (rs := [(eA64u8 r)]) (ac := spec_l02Inverse_c) (L := spec_l02Inverse_L) (n := 25) (m := []) (c := Try.f130.body.getD .skip) good Try.func130 (by kernel_rfl) (by kernel_rfl) Try.ntmps130 rfl rfl (by kernel_rfl) rfl rfl ?_
  refine a_st (σ' := ⟨[(0, (i6 a0)), (1, (eA64u8 a1)), (2, (eA64u8 a2))], []⟩) (by kernel_rfl) ?_
  unfold spec_l02Inverse_c
  refine sr (vo 1400 (eA64u8 a1) rfl rfl (vo 1500 (eA64u8 a2) rfl rfl (vo 1600 (eA64u8 ((vrep 64 (0 : Int)))) rfl rfl (nx ⟨[(0, (i6 a0)), (4, (ow 4)), (5, (ow 5)), (6, (ow 6))], [(4, (bk (eA64u8 a1))), (5, (bk (eA64u8 a2))), (6, (bk (eA64u8 ((vrep 64 (0 : Int))))))]⟩ (by kernel_rfl) (a_seq (a_draw [⟨[], [], [], []⟩, ⟨[], [], [], []⟩, ⟨[4], [], [], []⟩, ⟨[5], [], [], []⟩, ⟨[], [], [], [1, 2, 3]⟩, ⟨[5], [], [], []⟩, ⟨[], [], [], [0, 1, 2, 3, 4, 5]⟩, ⟨[], [], [], [0, 1, 2, 3, 4, 5, 6]⟩, ⟨[], [], [], [0, 1, 2, 3, 4, 5, 6, 7]⟩, ⟨[], [], [], [0, 1, 2, 3, 4, 5, 6, 7]⟩, ⟨[], [], [], [0, 1, 2, 3, 4, 5, 6, 7]⟩, ⟨[1700], [1700], [1700], []⟩, ⟨[1800], [1800], [1800], []⟩, ⟨[1900], [1900], [1900], []⟩, ⟨[1700], [1700], [], [0, 1, 2, 3, 4, 5, 6, 7, 8, 11, 12, 13]⟩, ⟨[1800], [1800], [], [0, 1, 2, 3, 4, 5, 6, 7, 8, 9, 11, 12, 13, 14]⟩, ⟨[1900], [1900], [], [0, 1, 2, 3, 4, 5, 6, 7, 8, 9, 10, 11, 12, 13, 14, 15]⟩] (by kernel_rfl) (dp (i6 a0) rfl (by kernel_rfl) (dp (i6 a0) rfl (by kernel_rfl) (d_cons ?_)))))))))
  refine vl (eA64u8 a1) rfl rfl rfl rfl rfl rfl (d_next (by kernel_rfl) (d_cons (vl (eA64u8 a2) rfl rfl rfl rfl rfl rfl (d_next (by kernel_rfl) (d_cons ?_)))))
  obtain ⟨r13, hr14, h⟩ := bind_some h
  refine a_call (args := [(i6 a0), (eA64u8 a1), (eA64u8 a2)]) (u := []) (r := (eA64u8 r13)) rfl rfl (spec_l01Mod_ok a0 a1 a2 r13 hr14) rfl (d_next (by kernel_rfl) (d_cons (vl (eA64u8 a2) rfl rfl rfl rfl rfl rfl (d_next (by kernel_rfl) (d_cons ?_)))))
  obtain ⟨r16, hr17, h⟩ := bind_some h
  refine a_call (args := [(i6 a0), (eA64u8 r13), (eA64u8 a2)]) (u := []) (r := (.tuple [(eA64u8 r16.1), (eA64u8 r16.2.1), (eA64u8 r16.2.2)])) rfl rfl (spec_l01Bezout_ok a0 r13 a2 r16 hr17) rfl (d_next (by kernel_rfl) (dp (.tuple [(eA64u8 r16.1), (eA64u8 r16.2.1), (eA64u8 r16.2.2)]) rfl (by kernel_rfl) (d_cons (vb (eA64u8 r16.1) rfl rfl (d_next (by kernel_rfl) (d_cons (vb (eA64u8 r16.2.1) rfl rfl (d_next (by kernel_rfl) (d_cons ?_)))))))))
  refine vb (eA64u8 r16.2.2) rfl rfl (d_next (by kernel_rfl) (d_cons (vo 1700 (eA64u8 ((vrep 64 (0 : Int)))) rfl rfl (d_next (by kernel_rfl) (d_cons (vo 1800 (eA64u8 ((vrep 64 (0 : Int)))) rfl rfl (d_next (by kernel_rfl) (d_cons (vo 1900 (eA64u8 ((vrep 64 (0 : Int)))) rfl rfl ?_)))))))))
  refine d_next (by kernel_rfl) (d_cons (vs (eA64u8 r16.1) rfl rfl (fun _ => rfl) rfl rfl rfl rfl rfl rfl (d_next (by kernel_rfl) (d_cons (vs (eA64u8 r16.2.1) rfl rfl (fun _ => rfl) rfl rfl rfl rfl rfl rfl (d_next (by kernel_rfl) (d_cons (vs (eA64u8 r16.2.2) rfl rfl (fun _ => rfl) rfl rfl rfl rfl rfl rfl (d_next (by kernel_rfl) ?_)))))))))
  refine d_nil (a_next (σ' := ⟨[(0, (i6 a0)), (5, (ow 5)), (6, (ow 6)), (8, (ow 8))], [(5, (bk (eA64u8 a2))), (6, (bk (eA64u8 ((vrep 64 (0 : Int)))))), (8, (bk (eA64u8 r16.2.1)))]⟩) (by kernel_rfl) (sr (vp (i6 a0) rfl (vl (eA64u8 r16.2.1) rfl rfl rfl rfl rfl rfl (vl (eA64u8 a2) rfl rfl rfl rfl rfl rfl ?_)))))
  obtain ⟨r23, hr24, h⟩ := bind_some h
  refine a_call (args := [(i6 a0), (eA64u8 r16.2.1), (eA64u8 a2)]) (u := []) (r := (eA64u8 r23)) rfl rfl (spec_l01Mod_ok a0 r16.2.1 a2 r23 hr24) rfl (vs (eA64u8 r23) rfl rfl (fun _ => rfl) rfl rfl rfl rfl rfl rfl (nx _ rfl (a_ret ?_)))
  have hl26 : LdOk [] (eA64u8 r23) [] 64 true (eA64u8 r23) := (.nil rfl rfl rfl)
  refine ⟨.inr rfl, ?_⟩
  rw [Try.results130]
  cases h
  exact ⟨_, _, _, _, _, ld_own (i := ⟨.arr 64 5, 64, 64, (eA64u8 (vrep 64 (0 : Int)))⟩) rfl rfl rfl hl26, hl26.c, .inl ⟨rfl, .inl rfl⟩, rfl, rfl⟩
def spec_l06Times_c : ACode := (.seq (.region 0 [q 3 (.box 52 (t 0)), q 4 (.box 24 (t 1)), q 5 (.box 24 (t 2)), q 6 (.alloc 24)] false) (.seq (.region 1 [q 7 (.fieldAddr 52 (t 3) 0), q 8 (.load 2 (t 7)), q 9 (.load 24 (t 4)), q 10 (.load 24 (t 5)), q 11 (.fieldAddr 52 (t 3) 1), q 12 (.load 24 (t 11)), q 13 (.call 0 (.func 132) [(t 8), (t 9), (t 10), (t 12)]), ⟨none, .store 24 (t 6) (t 13), none, []⟩] false) .ret))
def spec_l06Times_L : Live := [(0, [0, 1, 2]), (1, [3, 4, 5, 6])]
noncomputable def spec_l06Times (a0 : (Int × (Vec Int 64) × (Vec Int 64) × (Vec Int 64))) (a1 : (Vec Int 64)) (a2 : (Vec Int 64)) : Option (Vec Int 64) :=
  (Option.bind (spec_l01MulMod a0.1 a1 a2 a0.2.1) fun r5 => (some r5))
theorem spec_l06Times_ok (a0 : (Int × (Vec Int 64) × (Vec Int 64) × (Vec Int 64))) (a1 : (Vec Int 64)) (a2 : (Vec Int 64)) (r : (Vec Int 64)) (h : spec_l06Times a0 a1 a2 = some r) : Den Try.prog 124 [(eT_i64_A64u8_A64u8_A64u8_Z a0), (eA64u8 a1), (eA64u8 a2)] { r := (eA64u8 r) } := by
  refine den_of (rs := [(eA64u8 r)]) (ac := spec_l06Times_c) (L := spec_l06Times_L) (n := 14) (m := []) (c := Try.f124.body.getD .skip) good Try.func124 (by kernel_rfl) (by kernel_rfl) Try.ntmps124 rfl rfl (by kernel_rfl) rfl rfl ?_
  refine a_st (σ' := ⟨[(0, (eT_i64_A64u8_A64u8_A64u8_Z a0)), (1, (eA64u8 a1)), (2, (eA64u8 a2))], []⟩) (by kernel_rfl) ?_
  unfold spec_l06Times_c
  refine sr (vo 1300 (eT_i64_A64u8_A64u8_A64u8_Z a0) rfl rfl (vo 1400 (eA64u8 a1) rfl rfl (vo 1500 (eA64u8 a2) rfl rfl (vo 1600 (eA64u8 ((vrep 64 (0 : Int)))) rfl rfl (nx ⟨[(3, (ow 3)), (4, (ow 4)), (5, (ow 5)), (6, (ow 6))], [(3, (bk (eT_i64_A64u8_A64u8_A64u8_Z a0))), (4, (bk (eA64u8 a1))), (5, (bk (eA64u8 a2))), (6, (bk (eA64u8 ((vrep 64 (0 : Int))))))]⟩ (by kernel_rfl) (sr (vb (.own 3 [0] [0]) rfl rfl ?_)))))))
  have hl1 : LdOk [0] (eT_i64_A64u8_A64u8_A64u8_Z a0) [0] 1 false (i6 a0.1) := (.fld rfl rfl rfl rfl (.nil rfl rfl rfl))
  refine vq (i6 a0.1) (ld_own (i := ⟨.int .i64, 1, 8, (.int .i64 0)⟩) rfl rfl rfl hl1) hl1.c (vl (eA64u8 a1) rfl rfl rfl rfl rfl rfl (vl (eA64u8 a2) rfl rfl rfl rfl rfl rfl (vb (.own 3 [1] [1]) rfl rfl ?_)))
  have hl4 : LdOk [1] (eT_i64_A64u8_A64u8_A64u8_Z a0) [1] 64 true (eA64u8 a0.2.1) := (.fld rfl rfl rfl rfl (.nil rfl rfl rfl))
  refine vq (eA64u8 a0.2.1) (ld_own (i := ⟨.arr 64 5, 64, 64, (eA64u8 (vrep 64 (0 : Int)))⟩) rfl rfl rfl hl4) hl4.c ?_
  obtain ⟨r5, hr6, h⟩ := bind_some h
  refine a_call (args := [(i6 a0.1), (eA64u8 a1), (eA64u8 a2), (eA64u8 a0.2.1)]) (u := []) (r := (eA64u8 r5)) rfl rfl (spec_l01MulMod_ok a0.1 a1 a2 a0.2.1 r5 hr6) rfl (vs (eA64u8 r5) rfl rfl (fun _ => rfl) rfl rfl rfl rfl rfl rfl (nx _ rfl (a_ret ?_)))
  have hl8 : LdOk [] (eA64u8 r5) [] 64 true (eA64u8 r5) := (.nil rfl rfl rfl)
  refine ⟨.inr rfl, ?_⟩
  rw [Try.results124]
  cases h
  exact ⟨_, _, _, _, _, ld_own (i := ⟨.arr 64 5, 64, 64, (eA64u8 (vrep 64 (0 : Int)))⟩) rfl rfl rfl hl8, hl8.c, .inl ⟨rfl, .inl rfl⟩, rfl, rfl⟩
def spec_l06Twist_c : ACode := (.seq (.region 0 [q 2 (.box 52 (t 0)), q 3 (.box 24 (t 1)), q 4 (.alloc 52)] false) (.seq (.region 1 [q 8 (.fieldAddr 52 (t 2) 0), ⟨some 9, .load 2 (t 8), none, [0]⟩, q 10 (.fieldAddr 52 (t 2) 0), ⟨some 11, .load 2 (t 10), none, [2]⟩, q 12 (.load 24 (t 3)), q 13 (.fieldAddr 52 (t 2) 1), ⟨some 14, .load 24 (t 13), none, [5]⟩, ⟨some 15, .call 0 (.func 130) [(t 11), (t 12), (t 14)], none, [3, 4, 6]⟩, q 6 (.alloc 24), ⟨some 5, .asg 0 (t 9) 2, none, [1, 7, 0, 1, 8]⟩, ⟨none, .store 24 (t 6) (t 15), none, [8, 7, 9, 0, 1, 2, 3, 4, 5, 6, 7, 8, 9]⟩] true) (.seq (.region 2 [q 16 (.load 52 (t 2)), q 7 (.alloc 52), ⟨none, .store 52 (t 7) (t 16), none, []⟩] false) (.seq (.region 3 [q 17 (.load 52 (t 2)), q 18 (.fieldAddr 52 (t 2) 2), ⟨some 19, .load 24 (t 18), none, [1]⟩, q 20 (.mov (t 5)), q 21 (.load 24 (t 6)), q 22 (.mov (t 5)), ⟨some 23, .bin .sub 2 (t 22) (.const (.int .i64 1)), none, [5]⟩, q 24 (.fieldAddr 52 (t 2) 1), ⟨some 25, .load 24 (t 24), none, [7]⟩, ⟨some 26, .call 0 (.func 97) [(t 20), (t 21), (t 23), (t 25)], none, [3, 4, 6, 8]⟩, ⟨some 27, .call 0 (.func 124) [(t 17), (t 19), (t 26)], none, [0, 2, 9, 9]⟩, ⟨some 28, .fieldAddr 52 (t 7) 2, none, [0, 1, 2, 3, 4, 5, 6, 7, 8, 9, 10]⟩, ⟨none, .store 24 (t 28) (t 27), none, [11, 10, 10, 0, 1, 2, 3, 4, 5, 6, 7, 8, 9, 10]⟩] true) (.seq (.region 4 [q 29 (.load 52 (t 2)), q 30 (.fieldAddr 52 (t 2) 3), ⟨some 31, .load 24 (t 30), none, [1]⟩, q 32 (.mov (t 5)), q 33 (.load 24 (t 6)), q 34 (.mov (t 5)), q 35 (.mov (t 5)), ⟨some 36, .bin .mul 2 (t 34) (t 35), none, [5, 6]⟩, ⟨some 37, .bin .sub 2 (t 36) (.const (.int .i64 1)), none, [7]⟩, q 38 (.fieldAddr 52 (t 2) 1), ⟨some 39, .load 24 (t 38), none, [9]⟩, ⟨some 40, .call 0 (.func 97) [(t 32), (t 33), (t 37), (t 39)], none, [3, 4, 8, 10]⟩, ⟨some 41, .call 0 (.func 124) [(t 29), (t 31), (t 40)], none, [0, 2, 11, 11]⟩, ⟨some 42, .fieldAddr 52 (t 7) 3, none, [0, 1, 2, 3, 4, 5, 6, 7, 8, 9, 10, 11, 12]⟩, ⟨none, .store 24 (t 42) (t 41), none, [13, 12, 12, 0, 1, 2, 3, 4, 5, 6, 7, 8, 9, 10, 11, 12]⟩] true) (.seq (.region 5 [q 43 (.load 52 (t 7)), ⟨none, .store 52 (t 4) (t 43), none, []⟩] false) .ret))))))
def spec_l06Twist_L : Live := [(0, [0, 1]), (1, [2, 3, 4]), (2, [2, 4, 5, 6]), (3, [2, 4, 5, 6, 7]), (4, [2, 4, 5, 6, 7]), (5, [4, 7])]
noncomputable def spec_l06Twist (a0 : (Int × (Vec Int 64) × (Vec Int 64) × (Vec Int 64))) (a1 : (Vec Int 64)) : Option (Int × (Vec Int 64) × (Vec Int 64) × (Vec Int 64)) :=
  (Option.bind (spec_l02Inverse a0.1 a1 a0.2.1) fun r12 => (Option.bind (spec_l01PowMod a0.1 r12 (IntKind.i64.wrap (a0.1 - 1)) a0.2.1) fun r30 => (Option.bind (spec_l06Times a0 a0.2.2.1 r30) fun r32 => (Option.bind (spec_l01PowMod a0.1 r12 (IntKind.i64.wrap ((IntKind.i64.wrap (a0.1 * a0.1)) - 1)) a0.2.1) fun r48 => (Option.bind (spec_l06Times a0 a0.2.2.2 r48) fun r50 => (some (a0.1, a0.2.1, r32, r50)))))))
theorem spec_l06Twist_ok (a0 : (Int × (Vec Int 64) × (Vec Int 64) × (Vec Int 64))) (a1 : (Vec Int 64)) (r : (Int × (Vec Int 64) × (Vec Int 64) × (Vec Int 64))) (h : spec_l06Twist a0 a1 = some r) : Den Try.prog 87 [(eT_i64_A64u8_A64u8_A64u8_Z a0), (eA64u8 a1)] { r := (eT_i64_A64u8_A64u8_A64u8_Z r) } := by
  refine den_of (rs := [(eT_i64_A64u8_A64u8_A64u8_Z r)]) (ac := spec_l06Twist_c) (L := spec_l06Twist_L) (n := 44) (m := []) (c := Try.f87.body.getD .skip) good Try.func87 (by kernel_rfl) (by kernel_rfl) Try.ntmps87 rfl rfl (by kernel_rfl) rfl rfl ?_
  refine a_st (σ' := ⟨[(0, (eT_i64_A64u8_A64u8_A64u8_Z a0)), (1, (eA64u8 a1))], []⟩) (by kernel_rfl) ?_
  unfold spec_l06Twist_c
  refine sr (vo 1200 (eT_i64_A64u8_A64u8_A64u8_Z a0) rfl rfl (vo 1300 (eA64u8 a1) rfl rfl (vo 1400 (eT_i64_A64u8_A64u8_A64u8_Z (((0 : Int), (vrep 64 (0 : Int)), (vrep 64 (0 : Int)), (vrep 64 (0 : Int))))) rfl rfl (nx ⟨[(2, (ow 2)), (3, (ow 3)), (4, (ow 4))], [(2, (bk (eT_i64_A64u8_A64u8_A64u8_Z a0))), (3, (bk (eA64u8 a1))), (4, (bk (eT_i64_A64u8_A64u8_A64u8_Z (((0 : Int), (vrep 64 (0 : Int)), (vrep 64 (0 : Int)), (vrep 64 (0 : Int)))))))]⟩ (by kernel_rfl) (a_seq (a_draw [⟨[2], [], [2], []⟩, ⟨[2], [], [], [0]⟩, ⟨[2], [], [2], []⟩, ⟨[2], [], [], [2]⟩, ⟨[3], [], [], []⟩, ⟨[2], [], [2], []⟩, ⟨[2], [], [], [5]⟩, ⟨[], [], [], [2, 3, 4, 5, 6]⟩, ⟨[1600], [1600], [1600], []⟩, ⟨[], [], [], [0, 1, 2, 3, 4, 5, 6, 7, 8]⟩, ⟨[1600], [1600], [], [0, 1, 2, 3, 4, 5, 6, 7, 8, 9]⟩] (by kernel_rfl) (d_cons (vb (.own 2 [0] [0]) rfl rfl (d_next (by kernel_rfl) ?_)))))))))
  refine d_cons ?_
  have hl8 : LdOk [0] (eT_i64_A64u8_A64u8_A64u8_Z a0) [0] 1 false (i6 a0.1) := (.fld rfl rfl rfl rfl (.nil rfl rfl rfl))
  refine vq (i6 a0.1) (ld_own (i := ⟨.int .i64, 1, 8, (.int .i64 0)⟩) rfl rfl rfl hl8) hl8.c (d_next (by kernel_rfl) (d_cons (vb (.own 2 [0] [0]) rfl rfl (d_next (by kernel_rfl) (d_cons ?_)))))
  have hl9 : LdOk [0] (eT_i64_A64u8_A64u8_A64u8_Z a0) [0] 1 false (i6 a0.1) := (.fld rfl rfl rfl rfl (.nil rfl rfl rfl))
  refine vq (i6 a0.1) (ld_own (i := ⟨.int .i64, 1, 8, (.int .i64 0)⟩) rfl rfl rfl hl9) hl9.c (d_next (by kernel_rfl) (d_cons (vl (eA64u8 a1) rfl rfl rfl rfl rfl rfl (d_next (by kernel_rfl) (d_cons (vb (.own 2 [1] [1]) rfl rfl (d_next (by kernel_rfl) (d_cons ?_))))))))
  have hl11 : LdOk [1] (eT_i64_A64u8_A64u8_A64u8_Z a0) [1] 64 true (eA64u8 a0.2.1) := (.fld rfl rfl rfl rfl (.nil rfl rfl rfl))
  refine vq (eA64u8 a0.2.1) (ld_own (i := ⟨.arr 64 5, 64, 64, (eA64u8 (vrep 64 (0 : Int)))⟩) rfl rfl rfl hl11) hl11.c (d_next (by kernel_rfl) (d_cons ?_))
  obtain ⟨r12, hr13, h⟩ := bind_some h
  refine a_call (args := [(i6 a0.1), (eA64u8 a1), (eA64u8 a0.2.1)]) (u := []) (r := (eA64u8 r12)) rfl rfl (spec_l02Inverse_ok a0.1 a1 a0.2.1 r12 hr13) rfl (d_next (by kernel_rfl) (d_cons (vo 1600 (eA64u8 ((vrep 64 (0 : Int)))) rfl rfl (d_next (by kernel_rfl) (dp (i6 a0.1) rfl (by kernel_rfl) (d_cons (vs (eA64u8 r12) rfl rfl (fun _ => rfl) rfl rfl rfl rfl rfl rfl (d_next (by kernel_rfl) (d_nil ?_)))))))))
  refine a_next (σ' := ⟨[(2, (ow 2)), (4, (ow 4)), (5, (i6 a0.1)), (6, (ow 6))], [(2, (bk (eT_i64_A64u8_A64u8_A64u8_Z a0))), (4, (bk (eT_i64_A64u8_A64u8_A64u8_Z (((0 : Int), (vrep 64 (0 : Int)), (vrep 64 (0 : Int)), (vrep 64 (0 : Int))))))), (6, (bk (eA64u8 r12)))]⟩) (by kernel_rfl) (sr (vl (eT_i64_A64u8_A64u8_A64u8_Z a0) rfl rfl rfl rfl rfl rfl (vo 1700 (eT_i64_A64u8_A64u8_A64u8_Z (((0 : Int), (vrep 64 (0 : Int)), (vrep 64 (0 : Int)), (vrep 64 (0 : Int))))) rfl rfl (vs (eT_i64_A64u8_A64u8_A64u8_Z a0) rfl rfl (fun _ => rfl) rfl rfl rfl rfl rfl rfl (nx ⟨[(2, (ow 2)), (4, (ow 4)), (5, (i6 a0.1)), (6, (ow 6)), (7, (ow 7))], [(2, (bk (eT_i64_A64u8_A64u8_A64u8_Z a0))), (4, (bk (eT_i64_A64u8_A64u8_A64u8_Z (((0 : Int), (vrep 64 (0 : Int)), (vrep 64 (0 : Int)), (vrep 64 (0 : Int))))))), (6, (bk (eA64u8 r12))), (7, (bk (eT_i64_A64u8_A64u8_A64u8_Z a0)))]⟩ (by kernel_rfl) (a_seq (a_draw [⟨[2], [], [], []⟩, ⟨[2], [], [2], []⟩, ⟨[2], [], [], [1]⟩, ⟨[], [], [], []⟩, ⟨[6], [], [], []⟩, ⟨[], [], [], []⟩, ⟨[], [], [], [5]⟩, ⟨[2], [], [2], []⟩, ⟨[2], [], [], [7]⟩, ⟨[], [], [], [3, 4, 5, 6, 7, 8]⟩, ⟨[], [], [], [0, 1, 2, 3, 4, 5, 6, 7, 8, 9]⟩, ⟨[7], [], [7], [0, 1, 2, 3, 4, 5, 6, 7, 8, 9, 10]⟩, ⟨[7], [7], [], [0, 1, 2, 3, 4, 5, 6, 7, 8, 9, 10, 11]⟩] (by kernel_rfl) (d_cons (vl (eT_i64_A64u8_A64u8_A64u8_Z a0) rfl rfl rfl rfl rfl rfl ?_)))))))))
  refine d_next (by kernel_rfl) (d_cons (vb (.own 2 [2] [65]) rfl rfl (d_next (by kernel_rfl) (d_cons ?_))))
  have hl27 : LdOk [2] (eT_i64_A64u8_A64u8_A64u8_Z a0) [65] 64 true (eA64u8 a0.2.2.1) := (.fld rfl rfl rfl rfl (.nil rfl rfl rfl))
  refine vq (eA64u8 a0.2.2.1) (ld_own (i := ⟨.arr 64 5, 64, 64, (eA64u8 (vrep 64 (0 : Int)))⟩) rfl rfl rfl hl27) hl27.c (d_next (by kernel_rfl) (dp (i6 a0.1) rfl (by kernel_rfl) (d_cons (vl (eA64u8 r12) rfl rfl rfl rfl rfl rfl (d_next (by kernel_rfl) (dp (i6 a0.1) rfl (by kernel_rfl) (dp (i6 (IntKind.i64.wrap (a0.1 - 1))) rfl (by kernel_rfl) (d_cons (vb (.own 2 [1] [1]) rfl rfl ?_)))))))))
  refine d_next (by kernel_rfl) (d_cons ?_)
  have hl29 : LdOk [1] (eT_i64_A64u8_A64u8_A64u8_Z a0) [1] 64 true (eA64u8 a0.2.1) := (.fld rfl rfl rfl rfl (.nil rfl rfl rfl))
  refine vq (eA64u8 a0.2.1) (ld_own (i := ⟨.arr 64 5, 64, 64, (eA64u8 (vrep 64 (0 : Int)))⟩) rfl rfl rfl hl29) hl29.c (d_next (by kernel_rfl) (d_cons ?_))
  obtain ⟨r30, hr31, h⟩ := bind_some h
  refine a_call (args := [(i6 a0.1), (eA64u8 r12), (i6 (IntKind.i64.wrap (a0.1 - 1))), (eA64u8 a0.2.1)]) (u := []) (r := (eA64u8 r30)) rfl rfl (spec_l01PowMod_ok a0.1 r12 (IntKind.i64.wrap (a0.1 - 1)) a0.2.1 r30 hr31) rfl (d_next (by kernel_rfl) (d_cons ?_))
  obtain ⟨r32, hr33, h⟩ := bind_some h
  refine a_call (args := [(eT_i64_A64u8_A64u8_A64u8_Z a0), (eA64u8 a0.2.2.1), (eA64u8 r30)]) (u := []) (r := (eA64u8 r32)) rfl rfl (spec_l06Times_ok a0 a0.2.2.1 r30 r32 hr33) rfl (d_next (by kernel_rfl) (d_cons (vb (.own 7 [2] [65]) rfl rfl (d_next (by kernel_rfl) (d_cons ?_)))))
  have hs34 : StOk [2] (eT_i64_A64u8_A64u8_A64u8_Z a0) [65] 64 (eA64u8 r32) (eT_i64_A64u8_A64u8_A64u8_Z (a0.1, a0.2.1, r32, a0.2.2.2)) := (.fld rfl rfl rfl rfl (.nil rfl rfl rfl rfl))
  refine vu .top [(7, (bk (eT_i64_A64u8_A64u8_A64u8_Z (a0.1, a0.2.1, r32, a0.2.2.2))))] (st_own (i := ⟨.arr 64 5, 64, 64, (eA64u8 (vrep 64 (0 : Int)))⟩) rfl rfl (fun _ => rfl) rfl hs34) (hs34.c rfl) rfl (d_next (by kernel_rfl) (d_nil (a_next (σ' := ⟨[(2, (ow 2)), (4, (ow 4)), (5, (i6 a0.1)), (6, (ow 6)), (7, (ow 7))], [(2, (bk (eT_i64_A64u8_A64u8_A64u8_Z a0))), (4, (bk (eT_i64_A64u8_A64u8_A64u8_Z (((0 : Int), (vrep 64 (0 : Int)), (vrep 64 (0 : Int)), (vrep 64 (0 : Int))))))), (6, (bk (eA64u8 r12))), (7, (bk (eT_i64_A64u8_A64u8_A64u8_Z (a0.1, a0.2.1, r32, a0.2.2.2))))]⟩) (by kernel_rfl) (a_seq (a_draw [⟨[2], [], [], []⟩, ⟨[2], [], [2], []⟩, ⟨[2], [], [], [1]⟩, ⟨[], [], [], []⟩, ⟨[6], [], [], []⟩, ⟨[], [], [], []⟩, ⟨[], [], [], []⟩, ⟨[], [], [], [5, 6]⟩, ⟨[], [], [], [5, 6, 7]⟩, ⟨[2], [], [2], []⟩, ⟨[2], [], [], [9]⟩, ⟨[], [], [], [3, 4, 5, 6, 7, 8, 9, 10]⟩, ⟨[], [], [], [0, 1, 2, 3, 4, 5, 6, 7, 8, 9, 10, 11]⟩, ⟨[7], [], [7], [0, 1, 2, 3, 4, 5, 6, 7, 8, 9, 10, 11, 12]⟩, ⟨[7], [7], [], [0, 1, 2, 3, 4, 5, 6, 7, 8, 9, 10, 11, 12, 13]⟩] (by kernel_rfl) (d_cons (vl (eT_i64_A64u8_A64u8_A64u8_Z a0) rfl rfl rfl rfl rfl rfl (d_next (by kernel_rfl) (d_cons ?_)))))))))
  refine vb (.own 2 [3] [129]) rfl rfl (d_next (by kernel_rfl) (d_cons ?_))
  have hl45 : LdOk [3] (eT_i64_A64u8_A64u8_A64u8_Z a0) [129] 64 true (eA64u8 a0.2.2.2) := (.fld rfl rfl rfl rfl (.nil rfl rfl rfl))
  refine vq (eA64u8 a0.2.2.2) (ld_own (i := ⟨.arr 64 5, 64, 64, (eA64u8 (vrep 64 (0 : Int)))⟩) rfl rfl rfl hl45) hl45.c (d_next (by kernel_rfl) (dp (i6 a0.1) rfl (by kernel_rfl) (d_cons (vl (eA64u8 r12) rfl rfl rfl rfl rfl rfl (d_next (by kernel_rfl) (dp (i6 a0.1) rfl (by kernel_rfl) (dp (i6 a0.1) rfl (by kernel_rfl) (dp (i6 (IntKind.i64.wrap (a0.1 * a0.1))) rfl (by kernel_rfl) (dp (i6 (IntKind.i64.wrap ((IntKind.i64.wrap (a0.1 * a0.1)) - 1))) rfl (by kernel_rfl) ?_)))))))))
  refine d_cons (vb (.own 2 [1] [1]) rfl rfl (d_next (by kernel_rfl) (d_cons ?_)))
  have hl47 : LdOk [1] (eT_i64_A64u8_A64u8_A64u8_Z a0) [1] 64 true (eA64u8 a0.2.1) := (.fld rfl rfl rfl rfl (.nil rfl rfl rfl))
  refine vq (eA64u8 a0.2.1) (ld_own (i := ⟨.arr 64 5, 64, 64, (eA64u8 (vrep 64 (0 : Int)))⟩) rfl rfl rfl hl47) hl47.c (d_next (by kernel_rfl) (d_cons ?_))
  obtain ⟨r48, hr49, h⟩ := bind_some h
  refine a_call (args := [(i6 a0.1), (eA64u8 r12), (i6 (IntKind.i64.wrap ((IntKind.i64.wrap (a0.1 * a0.1)) - 1))), (eA64u8 a0.2.1)]) (u := []) (r := (eA64u8 r48)) rfl rfl (spec_l01PowMod_ok a0.1 r12 (IntKind.i64.wrap ((IntKind.i64.wrap (a0.1 * a0.1)) - 1)) a0.2.1 r48 hr49) rfl (d_next (by kernel_rfl) (d_cons ?_))
  obtain ⟨r50, hr51, h⟩ := bind_some h
  refine a_call (args := [(eT_i64_A64u8_A64u8_A64u8_Z a0), (eA64u8 a0.2.2.2), (eA64u8 r48)]) (u := []) (r := (eA64u8 r50)) rfl rfl (spec_l06Times_ok a0 a0.2.2.2 r48 r50 hr51) rfl (d_next (by kernel_rfl) (d_cons (vb (.own 7 [3] [129]) rfl rfl (d_next (by kernel_rfl) (d_cons ?_)))))
  have hs52 : StOk [3] (eT_i64_A64u8_A64u8_A64u8_Z (a0.1, a0.2.1, r32, a0.2.2.2)) [129] 64 (eA64u8 r50) (eT_i64_A64u8_A64u8_A64u8_Z (a0.1, a0.2.1, r32, r50)) := (.fld rfl rfl rfl rfl (.nil rfl rfl rfl rfl))
  refine vu .top [(7, (bk (eT_i64_A64u8_A64u8_A64u8_Z (a0.1, a0.2.1, r32, r50))))] (st_own (i := ⟨.arr 64 5, 64, 64, (eA64u8 (vrep 64 (0 : Int)))⟩) rfl rfl (fun _ => rfl) rfl hs52) (hs52.c rfl) rfl (d_next (by kernel_rfl) (d_nil (a_next (σ' := ⟨[(4, (ow 4)), (7, (ow 7))], [(4, (bk (eT_i64_A64u8_A64u8_A64u8_Z (((0 : Int), (vrep 64 (0 : Int)), (vrep 64 (0 : Int)), (vrep 64 (0 : Int))))))), (7, (bk (eT_i64_A64u8_A64u8_A64u8_Z (a0.1, a0.2.1, r32, r50))))]⟩) (by kernel_rfl) (sr (vl (eT_i64_A64u8_A64u8_A64u8_Z (a0.1, a0.2.1, r32, r50)) rfl rfl rfl rfl rfl rfl (vs (eT_i64_A64u8_A64u8_A64u8_Z (a0.1, a0.2.1, r32, r50)) rfl rfl (fun _ => rfl) rfl rfl rfl rfl rfl rfl (nx _ rfl (a_ret ?_))))))))
  have hl55 : LdOk [] (eT_i64_A64u8_A64u8_A64u8_Z (a0.1, a0.2.1, r32, r50)) [] 193 true (eT_i64_A64u8_A64u8_A64u8_Z (a0.1, a0.2.1, r32, r50)) := (.nil rfl rfl rfl)
  refine ⟨.inr rfl, ?_⟩
  rw [Try.results87]
  cases h
  exact ⟨_, _, _, _, _, ld_own (i := ⟨.struct [(0, 2), (1, 24), (65, 24), (129, 24)], 193, 200, (eT_i64_A64u8_A64u8_A64u8_Z ((0 : Int), (vrep 64 (0 : Int)), (vrep 64 (0 : Int)), (vrep 64 (0 : Int))))⟩) rfl rfl rfl hl55, hl55.c, .inl ⟨rfl, .inl rfl⟩, rfl, rfl⟩
def spec_AreIsomorphic_c : ACode := (.seq (.region 0 [q 2 (.box 52 (t 0)), q 3 (.box 52 (t 1)), q 4 (.asg 0 (.const (.bool false)) 4), q 5 (.asg 0 (.const (.int .i64 0)) 2)] false) (.seq (.seq (.region 1 [q 8 (.load 52 (t 2)), q 9 (.load 52 (t 3)), q 10 (.call 0 (.func 86) [(t 8), (t 9)]), q 6 (.asg 0 (t 10) 2)] false) (.seq (.region 2 [q 11 (.mov (t 6)), q 12 (.bin .neq 2 (t 11) (.const (.int .i64 0)))] false) (.cond (t 12) (.seq (.region 3 [q 13 (.mov (t 6)), q 4 (.asg 0 (.const (.bool false)) 4), q 5 (.asg 0 (t 13) 2)] false) .ret) .skip))) (.seq (.seq (.region 4 [q 7 (.asg 0 (.const (.int .i64 1)) 2)] false) (.block 0 (.loop (.seq (.seq (.region 5 [q 14 (.mov (t 7)), q 15 (.fieldAddr 52 (t 2) 0), ⟨some 16, .load 2 (t 15), none, [1]⟩, q 17 (.fieldAddr 52 (t 2) 1), ⟨some 18, .load 24 (t 17), none, [3]⟩, ⟨some 19, .call 0 (.func 81) [(t 18)], none, [4]⟩, ⟨some 20, .call 0 (.func 62) [(t 16), (t 19)], none, [2, 5, 5]⟩, ⟨some 21, .bin .lss 2 (t 14) (t 20), none, [0, 6]⟩] true) (.cond (t 21) .skip (.exit 0))) (.seq (.block 1 (.seq (.region 7 [q 24 (.load 52 (t 2)), q 25 (.fieldAddr 52 (t 2) 0), ⟨some 26, .load 2 (t 25), none, [1]⟩, q 27 (.mov (t 7)), ⟨some 28, .call 0 (.func 63) [(t 26), (t 27)], none, [2, 3]⟩, ⟨some 29, .call 0 (.func 87) [(t 24), (t 28)], none, [0, 4, 4]⟩, q 30 (.load 52 (t 3)), ⟨some 31, .bin .eql 52 (t 29) (t 30), none, [5, 6]⟩] true) (.cond (t 31) (.seq (.region 8 [q 4 (.asg 0 (.const (.bool true)) 4), q 5 (.asg 0 (.const (.int .i64 0)) 2)] false) .ret) .skip))) (.region 6 [q 22 (.mov (t 7)), q 23 (.bin .add 2 (t 22) (.const (.int .i64 1))), q 7 (.asg 0 (t 23) 2)] false)))))) (.seq (.region 9 [q 4 (.asg 0 (.const (.bool false)) 4), q 5 (.asg 0 (.const (.int .i64 0)) 2)] false) .ret))))
def spec_AreIsomorphic_L : Live := [(0, [0, 1]), (1, [2, 3]), (2, [2, 3, 6]), (3, [6]), (4, [2, 3]), (5, [2, 3, 7]), (6, [2, 3, 7]), (7, [2, 3, 7]), (8, []), (9, []), (100012, [2, 3, 6, 12]), (100021, [2, 3, 7, 21]), (100031, [2, 3, 7, 31])]
noncomputable def spec_AreIsomorphic_l1 (a0 : (Int × (Vec Int 64) × (Vec Int 64) × (Vec Int 64))) (a1 : (Int × (Vec Int 64) × (Vec Int 64) × (Vec Int 64))) (x126 : Int) : Option (Int ⊕ (Unit ⊕ (Bool × Int))) :=
  (Option.bind (spec_l01Deg a0.2.1) fun r166 => (Option.bind (spec_l01Count a0.1 r166) fun r168 => (if (decide (x126 < r168)) then (Option.bind (spec_l01Of a0.1 x126) fun r180 => (Option.bind (spec_l06Twist a0 r180) fun r182 => (if (decide (r182 = a1)) then (some (.inr ((.inr (true, 0))))) else (some (.inl (IntKind.i64.wrap (x126 + 1))))))) else (some (.inr (((.inl ()))))))))
noncomputable def spec_AreIsomorphic (a0 : (Int × (Vec Int 64) × (Vec Int 64) × (Vec Int 64))) (a1 : (Int × (Vec Int 64) × (Vec Int 64) × (Vec Int 64))) : Option (Bool × Int) :=
  (Option.bind (spec_l06Both a0 a1) fun r3 => (if (r3 != 0) then (some (false, r3)) else (Option.bind (α := (Unit ⊕ (Bool × Int))) ((loopM (fun s : Int => spec_AreIsomorphic_l1 a0 a1 s) 1)) fun z => match z with | .inl _ => (some (false, 0)) | .inr r187 => (some r187))))
theorem spec_AreIsomorphic_ok (a0 : (Int × (Vec Int 64) × (Vec Int 64) × (Vec Int 64))) (a1 : (Int × (Vec Int 64) × (Vec Int 64) × (Vec Int 64))) (r : (Bool × Int)) (h : spec_AreIsomorphic a0 a1 = some r) : Den Try.prog 43 [(eT_i64_A64u8_A64u8_A64u8_Z a0), (eT_i64_A64u8_A64u8_A64u8_Z a1)] { r := (.tuple [(.bool r.1), (i6 r.2)]) } := by
  refine den_of (rs := [(.bool r.1), (i6 r.2)]) (ac := spec_AreIsomorphic_c) (L := spec_AreIsomorphic_L) (n := 32) (m := []) (c := Try.f43.body.getD .skip) good Try.func43 (by kernel_rfl) (by kernel_rfl) Try.ntmps43 rfl rfl (by kernel_rfl) rfl rfl ?_
  refine a_st (σ' := ⟨[(0, (eT_i64_A64u8_A64u8_A64u8_Z a0)), (1, (eT_i64_A64u8_A64u8_A64u8_Z a1))], []⟩) (by kernel_rfl) ?_
  unfold spec_AreIsomorphic_c
  refine sr (vo 1200 (eT_i64_A64u8_A64u8_A64u8_Z a0) rfl rfl (vo 1300 (eT_i64_A64u8_A64u8_A64u8_Z a1) rfl rfl (vp (.bool false) rfl (vp (i6 0) rfl (nx ⟨[(2, (ow 2)), (3, (ow 3))], [(2, (bk (eT_i64_A64u8_A64u8_A64u8_Z a0))), (3, (bk (eT_i64_A64u8_A64u8_A64u8_Z a1)))]⟩ (by kernel_rfl) (a_seq (sr (vl (eT_i64_A64u8_A64u8_A64u8_Z a0) rfl rfl rfl rfl rfl rfl (vl (eT_i64_A64u8_A64u8_A64u8_Z a1) rfl rfl rfl rfl rfl rfl ?_)))))))))
  obtain ⟨r3, hr4, h⟩ := bind_some h
  refine a_call (args := [(eT_i64_A64u8_A64u8_A64u8_Z a0), (eT_i64_A64u8_A64u8_A64u8_Z a1)]) (u := []) (r := (i6 r3)) rfl rfl (spec_l06Both_ok a0 a1 r3 hr4) rfl (vp (i6 r3) rfl (nx ⟨[(2, (ow 2)), (3, (ow 3)), (6, (i6 r3))], [(2, (bk (eT_i64_A64u8_A64u8_A64u8_Z a0))), (3, (bk (eT_i64_A64u8_A64u8_A64u8_Z a1)))]⟩ (by kernel_rfl) (sr (vp (i6 r3) rfl (vp (.bool (r3 != 0)) rfl (nx ⟨[(2, (ow 2)), (3, (ow 3)), (6, (i6 r3)), (12, (.bool (r3 != 0)))], [(2, (bk (eT_i64_A64u8_A64u8_A64u8_Z a0))), (3, (bk (eT_i64_A64u8_A64u8_A64u8_Z a1)))]⟩ (by kernel_rfl) ?_))))))
  cases hb5 : (r3 != 0)
  · have h := ite_f hb5 h
    refine a_cond_f rfl (a_skip (a_next (σ' := ⟨[(2, (ow 2)), (3, (ow 3))], [(2, (bk (eT_i64_A64u8_A64u8_A64u8_Z a0))), (3, (bk (eT_i64_A64u8_A64u8_A64u8_Z a1)))]⟩) (by kernel_rfl) ?_))
    obtain ⟨y95, hy96, hk97⟩ := bind_some h
    clear h
    refine a_join (emb := fun (s : Unit) => ⟨[], []⟩) (pre := fun s => (.inl s) = y95) ?_ ?_
    · rintro _ rfl
      have h := hk97
      refine a_st (σ' := ⟨[], []⟩) (by kernel_rfl) (sr (vp (.bool false) rfl (vp (i6 0) rfl (nx _ rfl (a_ret ?_)))))
      refine ⟨.inr rfl, ?_⟩
      rw [Try.results43]
      cases h
      exact ⟨_, _, _, _, _, rfl, trivial, .inl ⟨rfl, .inl rfl⟩, rfl, ⟨_, _, _, _, _, rfl, trivial, .inl ⟨rfl, .inl rfl⟩, rfl, rfl⟩⟩
    · have h := hy96
      refine sr (vp (i6 1) rfl (nx ⟨[(2, (ow 2)), (3, (ow 3)), (7, (i6 1))], [(2, (bk (eT_i64_A64u8_A64u8_A64u8_Z a0))), (3, (bk (eT_i64_A64u8_A64u8_A64u8_Z a1)))]⟩ (by kernel_rfl) (a_block ?_)))
      refine a_loop (emb := fun (s : Int) => ⟨[(2, (ow 2)), (3, (ow 3)), (7, (i6 s))], [(2, (bk (eT_i64_A64u8_A64u8_A64u8_Z a0))), (3, (bk (eT_i64_A64u8_A64u8_A64u8_Z a1)))]⟩) (body := (fun s : Int => spec_AreIsomorphic_l1 a0 a1 s)) (G := fun q => some q = some y95) h rfl ?_ (by kernel_rfl)
      rintro X155 x126 x156 h hX157
      have h : spec_AreIsomorphic_l1 a0 a1 x126 = some x156 := h
      refine a_st (σ' := ⟨[(2, (ow 2)), (3, (ow 3)), (7, (i6 x126))], [(2, (bk (eT_i64_A64u8_A64u8_A64u8_Z a0))), (3, (bk (eT_i64_A64u8_A64u8_A64u8_Z a1)))]⟩) (by kernel_rfl) (a_seq (a_seq (a_draw [⟨[], [], [], []⟩, ⟨[2], [], [2], []⟩, ⟨[2], [], [], [1]⟩, ⟨[2], [], [2], []⟩, ⟨[2], [], [], [3]⟩, ⟨[], [], [], [3, 4]⟩, ⟨[], [], [], [1, 2, 3, 4, 5]⟩, ⟨[], [], [], [0, 1, 2, 3, 4, 5, 6]⟩] (by kernel_rfl) (dp (i6 x126) rfl (by kernel_rfl) (d_cons (vb (.own 2 [0] [0]) rfl rfl (d_next (by kernel_rfl) (d_cons ?_))))))))
      have hl164 : LdOk [0] (eT_i64_A64u8_A64u8_A64u8_Z a0) [0] 1 false (i6 a0.1) := (.fld rfl rfl rfl rfl (.nil rfl rfl rfl))
      refine vq (i6 a0.1) (ld_own (i := ⟨.int .i64, 1, 8, (.int .i64 0)⟩) rfl rfl rfl hl164) hl164.c (d_next (by kernel_rfl) (d_cons (vb (.own 2 [1] [1]) rfl rfl (d_next (by kernel_rfl) (d_cons ?_)))))
      have hl165 : LdOk [1] (eT_i64_A64u8_A64u8_A64u8_Z a0) [1] 64 true (eA64u8 a0.2.1) := (.fld rfl rfl rfl rfl (.nil rfl rfl rfl))
      refine vq (eA64u8 a0.2.1) (ld_own (i := ⟨.arr 64 5, 64, 64, (eA64u8 (vrep 64 (0 : Int)))⟩) rfl rfl rfl hl165) hl165.c (d_next (by kernel_rfl) (d_cons ?_))
      obtain ⟨r166, hr167, h⟩ := bind_some h
      refine a_call (args := [(eA64u8 a0.2.1)]) (u := []) (r := (i6 r166)) rfl rfl (spec_l01Deg_ok a0.2.1 r166 hr167) rfl (d_next (by kernel_rfl) (d_cons ?_))
      obtain ⟨r168, hr169, h⟩ := bind_some h
      refine a_call (args := [(i6 a0.1), (i6 r166)]) (u := []) (r := (i6 r168)) rfl rfl (spec_l01Count_ok a0.1 r166 r168 hr169) rfl (d_next (by kernel_rfl) (dp (.bool ((decide (x126 < r168)))) rfl (by kernel_rfl) (d_nil (a_next (σ' := ⟨[(2, (ow 2)), (3, (ow 3)), (7, (i6 x126)), (21, (.bool ((decide (x126 < r168)))))], [(2, (bk (eT_i64_A64u8_A64u8_A64u8_Z a0))), (3, (bk (eT_i64_A64u8_A64u8_A64u8_Z a1)))]⟩) (by kernel_rfl) ?_))))
      cases hb170 : (decide (x126 < r168))
      · have h := ite_f hb170 h
        refine a_cond_f rfl (a_exit (t_exit ?_))
        cases h
        have h := hX157
        refine t_exit (b_exit ?_)
        exact j_leaf () (Option.some.inj h) (by kernel_rfl)
      · have h := ite_t hb170 h
        refine a_cond_t rfl (a_skip (a_next (σ' := ⟨[(2, (ow 2)), (3, (ow 3)), (7, (i6 x126))], [(2, (bk (eT_i64_A64u8_A64u8_A64u8_Z a0))), (3, (bk (eT_i64_A64u8_A64u8_A64u8_Z a1)))]⟩) (by kernel_rfl) (a_seq (a_block (a_seq (a_draw [⟨[2], [], [], []⟩, ⟨[2], [], [2], []⟩, ⟨[2], [], [], [1]⟩, ⟨[], [], [], []⟩, ⟨[], [], [], [1, 2, 3]⟩, ⟨[], [], [], [0, 1, 2, 3, 4]⟩, ⟨[3], [], [], []⟩, ⟨[], [], [], [0, 1, 2, 3, 4, 5, 6]⟩] (by kernel_rfl) (d_cons (vl (eT_i64_A64u8_A64u8_A64u8_Z a0) rfl rfl rfl rfl rfl rfl (d_next (by kernel_rfl) ?_)))))))))
        refine d_cons (vb (.own 2 [0] [0]) rfl rfl (d_next (by kernel_rfl) (d_cons ?_)))
        have hl179 : LdOk [0] (eT_i64_A64u8_A64u8_A64u8_Z a0) [0] 1 false (i6 a0.1) := (.fld rfl rfl rfl rfl (.nil rfl rfl rfl))
        refine vq (i6 a0.1) (ld_own (i := ⟨.int .i64, 1, 8, (.int .i64 0)⟩) rfl rfl rfl hl179) hl179.c (d_next (by kernel_rfl) (dp (i6 x126) rfl (by kernel_rfl) (d_cons ?_)))
        obtain ⟨r180, hr181, h⟩ := bind_some h
        refine a_call (args := [(i6 a0.1), (i6 x126)]) (u := []) (r := (eA64u8 r180)) rfl rfl (spec_l01Of_ok a0.1 x126 r180 hr181) rfl (d_next (by kernel_rfl) (d_cons ?_))
        obtain ⟨r182, hr183, h⟩ := bind_some h
        refine a_call (args := [(eT_i64_A64u8_A64u8_A64u8_Z a0), (eA64u8 r180)]) (u := []) (r := (eT_i64_A64u8_A64u8_A64u8_Z r182)) rfl rfl (spec_l06Twist_ok a0 r180 r182 hr183) rfl (d_next (by kernel_rfl) (d_cons (vl (eT_i64_A64u8_A64u8_A64u8_Z a1) rfl rfl rfl rfl rfl rfl (d_next (by kernel_rfl) (d_cons (vq (.bool ((decide (r182 = a1)))) (eqs_run rfl rfl (eqbs_cons (f := (AV.int .i64)) (a := r182) (b := a1) (fun _ _ => eqb_int _ _) (eqbs_cons (f := eA64u8) (a := r182.2) (b := a1.2) (fun a b => eqb_arr (f := (AV.int .u8)) (fun _ _ => eqb_int _ _) a b) (eqbs_cons (f := eA64u8) (a := r182.2.2) (b := a1.2.2) (fun a b => eqb_arr (f := (AV.int .u8)) (fun _ _ => eqb_int _ _) a b) (eqbs_one (f := eA64u8) (fun a b => eqb_arr (f := (AV.int .u8)) (fun _ _ => eqb_int _ _) a b) r182.2.2.2 a1.2.2.2))))) (cmp_struct (g := 8) rfl rfl rfl rfl (by kernel_rfl) ⟨(cmp_int rfl), ⟨(cmp_arr (g := 7) (f := (AV.int .u8)) (x := r182.2.1) (y := a1.2.1) rfl rfl rfl (fun _ _ => rfl) (fun _ _ => (cmp_int rfl))), ⟨(cmp_arr (g := 7) (f := (AV.int .u8)) (x := r182.2.2.1) (y := a1.2.2.1) rfl rfl rfl (fun _ _ => rfl) (fun _ _ => (cmp_int rfl))), ⟨(cmp_arr (g := 7) (f := (AV.int .u8)) (x := r182.2.2.2) (y := a1.2.2.2) rfl rfl rfl (fun _ _ => rfl) (fun _ _ => (cmp_int rfl))), trivial⟩⟩⟩⟩) (d_next (by kernel_rfl) (d_nil (a_next (σ' := ⟨[(2, (ow 2)), (3, (ow 3)), (7, (i6 x126)), (31, (.bool ((decide (r182 = a1)))))], [(2, (bk (eT_i64_A64u8_A64u8_A64u8_Z a0))), (3, (bk (eT_i64_A64u8_A64u8_A64u8_Z a1)))]⟩) (by kernel_rfl) ?_)))))))))
        cases hb185 : (decide (r182 = a1))
        · have h := ite_f hb185 h
          refine a_cond_f rfl (a_skip (b_norm (a_next (σ' := ⟨[(2, (ow 2)), (3, (ow 3)), (7, (i6 x126))], [(2, (bk (eT_i64_A64u8_A64u8_A64u8_Z a0))), (3, (bk (eT_i64_A64u8_A64u8_A64u8_Z a1)))]⟩) (by kernel_rfl) (a_region (vp (i6 x126) rfl (vp (i6 (IntKind.i64.wrap (x126 + 1))) rfl (vp (i6 (IntKind.i64.wrap (x126 + 1))) rfl (a_nil ?_))))))))
          cases h
          exact a_again (by kernel_rfl) hX157
        · have h := ite_t hb185 h
          refine a_cond_t rfl (sr (vp (.bool true) rfl (vp (i6 0) rfl (nx _ rfl (a_ret (b_ret (t_ret ?_)))))))
          cases h
          have h := hX157
          refine t_ret (b_ret (t_ret ?_))
          cases h
          have h := hk97
          refine ⟨.inr rfl, ?_⟩
          rw [Try.results43]
          cases h
          exact ⟨_, _, _, _, _, rfl, trivial, .inl ⟨rfl, .inl rfl⟩, rfl, ⟨_, _, _, _, _, rfl, trivial, .inl ⟨rfl, .inl rfl⟩, rfl, rfl⟩⟩
  · have h := ite_t hb5 h
    refine a_cond_t rfl (sr (vp (i6 r3) rfl (vp (.bool false) rfl (vp (i6 r3) rfl (nx _ rfl (a_ret (t_ret ?_)))))))
    refine ⟨.inr rfl, ?_⟩
    rw [Try.results43]
    cases h
    exact ⟨_, _, _, _, _, rfl, trivial, .inl ⟨rfl, .inl rfl⟩, rfl, ⟨_, _, _, _, _, rfl, trivial, .inl ⟨rfl, .inl rfl⟩, rfl, rfl⟩⟩
def impl_row_trimmed_c : ACode := (.seq (.region 0 [q 2 (.asg 1 (.const (.slice none 0 0)) 65)] false) (.seq (.region 1 [q 4 (.mov (t 0)), q 5 (.blt 0 .len [(t 4)] [65]), q 3 (.asg 0 (t 5) 3)] false) (.seq (.block 0 (.loop (.seq (.seq (.region 2 [q 6 (.mov (t 3)), q 7 (.bin .gtr 3 (t 6) (.const (.int .i64 0))), q 8 (.mov (t 7)), ⟨some 9, .mov (t 0), some (8, true), []⟩, ⟨some 10, .mov (t 3), some (8, true), []⟩, ⟨some 11, .bin .sub 3 (t 10) (.const (.int .i64 1)), some (8, true), []⟩, ⟨some 12, .indexAddr 65 (t 9) (t 11), some (8, true), []⟩, ⟨some 13, .load 2 (t 12), some (8, true), []⟩, ⟨some 14, .bin .eql 2 (t 13) (.const (.int .i64 0)), some (8, true), []⟩, q 15 (.pick (t 8) (t 14) (.const (.bool false)))] false) (.cond (t 15) .skip (.exit 0))) (.block 1 (.region 3 [q 16 (.mov (t 3)), q 17 (.bin .sub 3 (t 16) (.const (.int .i64 1))), q 3 (.asg 0 (t 17) 3)] false))))) (.seq (.region 4 [q 18 (.mov (t 0)), q 19 (.mov (t 3)), q 20 (.mov (t 3)), q 21 (.slice 65 (t 18) none (some (t 19)) (some (t 20))), q 2 (.asg 1 (t 21) 65)] false) .ret))))
def impl_row_trimmed_L : Live := [(0, [0]), (1, [0]), (2, [0, 3]), (3, [0, 3]), (4, [0, 3]), (100015, [0, 3, 15])]
noncomputable def impl_row_trimmed_l1 (a0 : (List Int)) (x62 : Int) : Option (Int ⊕ Int) :=
  (Option.bind (α := Bool) ((if (decide (x62 > 0)) then (ifp (0 ≤ IntKind.i64.wrap (x62 - 1) ∧ IntKind.i64.wrap (x62 - 1) < ((a0.length : Nat) : Int)) ((some ((((rd a0 (IntKind.i64.wrap (x62 - 1)).toNat)) == 0))))) else (some false))) fun x80 => (if x80 then (some (.inl (IntKind.i64.wrap (x62 - 1)))) else (some (.inr x62))))
noncomputable def impl_row_trimmed (a0 : (List Int)) : Option (List Int) :=
  (Option.bind (α := Int) ((loopM (fun s : Int => impl_row_trimmed_l1 a0 s) (a0.length : Int))) fun x43 => (ifp (0 ≤ x43 ∧ x43 ≤ (a0.length : Int)) ((some (a0.take x43.toNat)))))
theorem impl_row_trimmed_ok (a0 : (List Int)) (r : (List Int)) (h : impl_row_trimmed a0 = some r) : Den Try.prog 102 [(eSi64 a0)] { r := (eSi64 r) } := by
  refine den_of (rs := [(eSi64 r)]) (ac := impl_row_trimmed_c) (L := impl_row_trimmed_L) (n := 22) (m := [(2, 1)]) (c := Try.f102.body.getD .skip) good Try.func102 (by kernel_rfl) (by kernel_rfl) Try.ntmps102 rfl rfl (by kernel_rfl) rfl rfl ?_
  refine a_st (σ' := ⟨[(0, (eSi64 a0))], []⟩) (by kernel_rfl) ?_
  unfold impl_row_trimmed_c
  refine sr (vp (eSi64 ([])) rfl (nx ⟨[(0, (eSi64 a0))], []⟩ (by kernel_rfl) (sr (vp (eSi64 a0) rfl (vq (i6 (a0.length : Int)) (len_run rfl rfl) trivial (vp (i6 (a0.length : Int)) rfl (nx ⟨[(0, (eSi64 a0)), (3, (i6 (a0.length : Int)))], []⟩ (by kernel_rfl) ?_)))))))
  obtain ⟨y44, hy45, hk46⟩ := bind_some h
  clear h
  refine a_join (emb := fun (s : Int) => ⟨[(0, (eSi64 a0)), (3, (i6 s))], []⟩) (pre := fun s => s = y44) ?_ ?_
  · rintro x43 rfl
    have h := hk46
    refine a_st (σ' := ⟨[(0, (eSi64 a0)), (3, (i6 x43))], []⟩) (by kernel_rfl) (sr (vp (eSi64 a0) rfl (vp (i6 x43) rfl (vp (i6 x43) rfl ?_))))
    obtain ⟨hc89, h⟩ := ifp_some h
    refine vq (.sl 1 true ((a0.take x43.toNat).map (AV.int .i64))) (take3_run (f := (AV.int .i64)) (l := a0) (i := ⟨.int .i64, 1, 8, (.int .i64 0)⟩) rfl rfl rfl rfl (fun _ => rfl)) ⟨hc89.1, lmap_le hc89.2, rfl⟩ (vq (eSi64 (a0.take x43.toNat)) (asg_tight (i := ⟨.int .i64, 1, 8, (.int .i64 0)⟩) (f := (AV.int .i64)) (l := (a0.take x43.toNat)) rfl rfl rfl) trivial (nx _ rfl (a_ret ?_)))
    refine ⟨.inr rfl, ?_⟩
    rw [Try.results102]
    cases h
    exact ⟨_, _, _, _, _, rfl, trivial, .inl ⟨rfl, .inl rfl⟩, rfl, rfl⟩
  · have h := hy45
    refine a_block ?_
    refine a_loop (emb := fun (s : Int) => ⟨[(0, (eSi64 a0)), (3, (i6 s))], []⟩) (body := (fun s : Int => impl_row_trimmed_l1 a0 s)) (G := fun q => some q = some y44) h rfl ?_ (by kernel_rfl)
    rintro X74 x62 x75 h hX76
    have h : impl_row_trimmed_l1 a0 x62 = some x75 := h
    refine a_st (σ' := ⟨[(0, (eSi64 a0)), (3, (i6 x62))], []⟩) (by kernel_rfl) (a_seq ?_)
    obtain ⟨y81, hy82, hk83⟩ := bind_some h
    clear h
    refine a_join (emb := fun (s : Bool) => ⟨[(0, (eSi64 a0)), (3, (i6 x62)), (15, (.bool s))], []⟩) (pre := fun s => s = y81) ?_ ?_
    · rintro x80 rfl
      have h := hk83
      refine a_st (σ' := ⟨[(0, (eSi64 a0)), (3, (i6 x62)), (15, (.bool x80))], []⟩) (by kernel_rfl) ?_
      cases hb87 : x80
      · have h := ite_f hb87 h
        refine a_cond_f rfl (a_exit (t_exit ?_))
        cases h
        have h := hX76
        refine t_exit (b_exit ?_)
        exact j_leaf x62 (Option.some.inj h) (by kernel_rfl)
      · have h := ite_t hb87 h
        refine a_cond_t rfl (a_skip (a_next (σ' := ⟨[(0, (eSi64 a0)), (3, (i6 x62))], []⟩) (by kernel_rfl) (a_block (a_region (vp (i6 x62) rfl (vp (i6 (IntKind.i64.wrap (x62 - 1))) rfl (vp (i6 (IntKind.i64.wrap (x62 - 1))) rfl (a_nil (b_norm ?_)))))))))
        cases h
        exact a_again (by kernel_rfl) hX76
    · have h := hy82
      refine a_region (vp (i6 x62) rfl (vp (.bool ((decide (x62 > 0)))) rfl (vp (.bool ((decide (x62 > 0)))) rfl ?_)))
      cases hb84 : (decide (x62 > 0))
      · have h := ite_f hb84 h
        refine a_gskip rfl (a_gskip rfl (a_gskip rfl (a_gskip rfl (a_gskip rfl (a_gskip rfl (vp (.bool false) rfl (a_nil ?_)))))))
        exact j_leaf false (Option.some.inj h) (by kernel_rfl)
      · have h := ite_t hb84 h
        refine gp (eSi64 a0) rfl rfl (gp (i6 x62) rfl rfl (gp (i6 (IntKind.i64.wrap (x62 - 1))) rfl rfl ?_))
        obtain ⟨hc85, h⟩ := ifp_some h
        refine gq (.ref (.row 1 (a0.map (AV.int .i64))) [(IntKind.i64.wrap (x62 - 1)).toNat] [(IntKind.i64.wrap (x62 - 1)).toNat * 1]) rfl rfl (lmap hc85) ?_
        have hl86 : LdOk [(IntKind.i64.wrap (x62 - 1)).toNat] (.row 1 (a0.map (AV.int .i64))) [(IntKind.i64.wrap (x62 - 1)).toNat * 1] 1 false (i6 ((rd a0 (IntKind.i64.wrap (x62 - 1)).toNat))) := (.row (llt hc85) rfl (.nil rfl rfl rfl))
        refine gq (i6 ((rd a0 (IntKind.i64.wrap (x62 - 1)).toNat))) rfl (ld_ref (i := ⟨.int .i64, 1, 8, (.int .i64 0)⟩) rfl rfl hl86) hl86.c (gp (.bool ((((rd a0 (IntKind.i64.wrap (x62 - 1)).toNat)) == 0))) rfl rfl (vp (.bool ((((rd a0 (IntKind.i64.wrap (x62 - 1)).toNat)) == 0))) rfl (a_nil ?_)))
        exact j_leaf ((((rd a0 (IntKind.i64.wrap (x62 - 1)).toNat)) == 0)) (Option.some.inj h) (by kernel_rfl)
def impl_rowOf_c : ACode := (.seq (.region 0 [q 1 (.box 24 (t 0)), q 2 (.asg 1 (.const (.slice none 0 0)) 65)] false) (.seq (.region 1 [q 3 (.asg 2 (.const (.slice none 0 0)) 65)] false) (.seq (.seq (.region 2 [q 6 (.load 24 (t 1)), q 7 (.mov (.const (.int .i64 0)))] false) (.block 0 (.loop (.seq (.region 3 [q 8 (.bin .lss 3 (t 7) (.const (.int .i64 64)))] false) (.seq (.cond (t 8) .skip (.exit 0)) (.seq (.block 1 (.seq (.region 4 [q 9 (.index 24 (t 6) (t 7)), q 5 (.asg 0 (t 9) 5)] false) (.region 5 [q 10 (.mov (t 3)), q 11 (.mov (t 5)), q 12 (.conv 5 2 (t 11)), q 13 (.bslice 0 65 1 [(0, (t 12))]), q 14 (.blt 0 .append [(t 10), (t 13)] [65, 65]), q 3 (.asg 2 (t 14) 65)] false))) (.region 6 [q 15 (.bin .add 3 (t 7) (.const (.int .i64 1))), q 7 (.mov (t 15))] false))))))) (.seq (.region 7 [q 16 (.mov (t 3)), q 17 (.call 0 (.func 102) [(t 16)]), q 2 (.asg 1 (t 17) 65)] false) .ret))))
def impl_rowOf_L : Live := [(0, [0]), (1, [1]), (2, [1, 3]), (3, [3, 6, 7]), (4, [3, 6, 7]), (5, [3, 5, 6, 7]), (6, [3, 6, 7]), (7, [3]), (100008, [3, 6, 7, 8])]
noncomputable def impl_rowOf_l1 (a0 : (Vec Int 64)) (x25 : Int) (x26 : (List Int)) : Option ((Int × (List Int)) ⊕ (List Int)) :=
  (if (decide (x25 < 64)) then (ifp (0 ≤ x25 ∧ x25 < ((64 : Nat) : Int)) ((ifp ((x26.length + ([IntKind.i64.wrap (rd a0.1 x25.toNat)] : List Int).length) * 8 ≤ 140737488355328) ((some (.inl ((IntKind.i64.wrap (x25 + 1), (x26 ++ ([IntKind.i64.wrap (rd a0.1 x25.toNat)])))))))))) else (some (.inr x26)))
noncomputable def impl_rowOf (a0 : (Vec Int 64)) : Option (List Int) :=
  (Option.bind (α := (List Int)) ((loopM (fun s : (Int × (List Int)) => impl_rowOf_l1 a0 s.1 s.2) (0, []))) fun x17 => (Option.bind (impl_row_trimmed x17) fun r37 => (some r37)))
theorem impl_rowOf_ok (a0 : (Vec Int 64)) (r : (List Int)) (h : impl_rowOf a0 = some r) : Den Try.prog 52 [(eA64u8 a0)] { r := (eSi64 r) } := by
  refine den_of (rs := [(eSi64 r)]) (ac := impl_rowOf_c) (L := impl_rowOf_L) (n := 18) (m := [(2, 1), (3, 2)]) (c := Try.f52.body.getD .skip) good Try.func52 (by kernel_rfl) (by kernel_rfl) Try.ntmps52 rfl rfl (by kernel_rfl) rfl rfl ?_
  refine a_st (σ' := ⟨[(0, (eA64u8 a0))], []⟩) (by kernel_rfl) ?_
  unfold impl_rowOf_c
  refine sr (vo 1100 (eA64u8 a0) rfl rfl (vp (eSi64 ([])) rfl (nx ⟨[(1, (ow 1))], [(1, (bk (eA64u8 a0)))]⟩ (by kernel_rfl) (sr (vu (.osl 1300) [(1300, (bk (.row 1 (([]).map (AV.int .i64)))))] rfl trivial rfl (nx ⟨[(1, (ow 1)), (3, (.osl 3))], [(1, (bk (eA64u8 a0))), (3, (bk (.row 1 (([]).map (AV.int .i64)))))]⟩ (by kernel_rfl) ?_))))))
  obtain ⟨y18, hy19, hk20⟩ := bind_some h
  clear h
  refine a_join (emb := fun (s : (List Int)) => ⟨[(3, (.osl 3))], [(3, (bk (.row 1 (s.map (AV.int .i64)))))]⟩) (pre := fun s => s = y18) ?_ ?_
  · rintro x17 rfl
    have h := hk20
    refine a_st (σ' := ⟨[(3, (.osl 3))], [(3, (bk (.row 1 (x17.map (AV.int .i64)))))]⟩) (by kernel_rfl) (sr (vp (.osl 3) rfl ?_))
    obtain ⟨r37, hr38, h⟩ := bind_some h
    refine a_call (args := [(eSi64 x17)]) (u := [(3, (bf (.row 1 (x17.map (AV.int .i64)))))]) (r := (eSi64 r37)) rfl rfl (impl_row_trimmed_ok x17 r37 hr38) rfl (vp (eSi64 r37) rfl (nx _ rfl (a_ret ?_)))
    refine ⟨.inr rfl, ?_⟩
    rw [Try.results52]
    cases h
    exact ⟨_, _, _, _, _, rfl, trivial, .inl ⟨rfl, .inl rfl⟩, rfl, rfl⟩
  · have h := hy19
    refine sr (vl (eA64u8 a0) rfl rfl rfl rfl rfl rfl (vp (i6 0) rfl (nx ⟨[(3, (.osl 3)), (6, (eA64u8 a0)), (7, (i6 0))], [(3, (bk (.row 1 (([]).map (AV.int .i64)))))]⟩ (by kernel_rfl) (a_block ?_))))
    refine a_loop (emb := fun (s : (Int × (List Int))) => ⟨[(3, (.osl 3)), (6, (eA64u8 a0)), (7, (i6 s.1))], [(3, (bk (.row 1 (s.2.map (AV.int .i64)))))]⟩) (body := (fun s : (Int × (List Int)) => impl_rowOf_l1 a0 s.1 s.2)) (G := fun q => some q = some y18) h rfl ?_ (by kernel_rfl)
    rintro X30 ⟨x25, x26⟩ x31 h hX32
    have h : impl_rowOf_l1 a0 x25 x26 = some x31 := h
    refine a_st (σ' := ⟨[(3, (.osl 3)), (6, (eA64u8 a0)), (7, (i6 x25))], [(3, (bk (.row 1 (x26.map (AV.int .i64)))))]⟩) (by kernel_rfl) (sr (vp (.bool ((decide (x25 < 64)))) rfl (nx ⟨[(3, (.osl 3)), (6, (eA64u8 a0)), (7, (i6 x25)), (8, (.bool ((decide (x25 < 64)))))], [(3, (bk (.row 1 (x26.map (AV.int .i64)))))]⟩ (by kernel_rfl) (a_seq ?_))))
    cases hb33 : (decide (x25 < 64))
    · have h := ite_f hb33 h
      refine a_cond_f rfl (a_exit (t_exit ?_))
      cases h
      have h := hX32
      refine t_exit (b_exit ?_)
      exact j_leaf x26 (Option.some.inj h) (by kernel_rfl)
    · have h := ite_t hb33 h
      refine a_cond_t rfl (a_skip (a_next (σ' := ⟨[(3, (.osl 3)), (6, (eA64u8 a0)), (7, (i6 x25))], [(3, (bk (.row 1 (x26.map (AV.int .i64)))))]⟩) (by kernel_rfl) (a_seq (a_block (sr ?_)))))
      obtain ⟨hc34, h⟩ := ifp_some h
      refine vq (b8 (rd a0.1 x25.toNat)) (ix_run (i := ⟨.int .u8, 1, 1, (.int .u8 0)⟩) (f := (AV.int .u8)) rfl rfl rfl rfl (vlt a0 hc34)) ⟨hc34.1, hc34.2, rfl, rfl, rfl, rfl⟩ (vp (b8 (rd a0.1 x25.toNat)) rfl (nx ⟨[(3, (.osl 3)), (5, (b8 (rd a0.1 x25.toNat))), (6, (eA64u8 a0)), (7, (i6 x25))], [(3, (bk (.row 1 (x26.map (AV.int .i64)))))]⟩ (by kernel_rfl) (a_region (vp (.osl 3) rfl (vp (b8 (rd a0.1 x25.toNat)) rfl (vp (i6 (IntKind.i64.wrap (rd a0.1 x25.toNat))) rfl (vq (.sl 1 true (([IntKind.i64.wrap (rd a0.1 x25.toNat)]).map (AV.int .i64))) rfl ⟨(Nat.le_of_ble_eq_true rfl), (Nat.le_of_ble_eq_true rfl), (all_cons ⟨(Nat.le_of_ble_eq_true rfl), rfl⟩ all_nil)⟩ ?_)))))))
      obtain ⟨hc35, h⟩ := ifp_some h
      refine vu (.osl 2400) [(2400, (bk (.row 1 (((x26 ++ ([IntKind.i64.wrap (rd a0.1 x25.toNat)]))).map (AV.int .i64))))), (3, none)] (app_run (i := ⟨.int .i64, 1, 8, (.int .i64 0)⟩) (f := (AV.int .i64)) (l := x26) (l2 := [IntKind.i64.wrap (rd a0.1 x25.toNat)]) rfl rfl rfl rfl (fun _ => rfl) rfl rfl) (app_c (f := (AV.int .i64)) (s := 1) (sz := 1) (by' := 8) (u := []) (id := 3) hc35 (.inr rfl) rfl rfl rfl) rfl (vp (.osl 2400) rfl (a_nil (b_norm (a_next (σ' := ⟨[(3, (.osl 3)), (6, (eA64u8 a0)), (7, (i6 x25))], [(3, (bk (.row 1 (((x26 ++ ([IntKind.i64.wrap (rd a0.1 x25.toNat)]))).map (AV.int .i64)))))]⟩) (by kernel_rfl) (a_region (vp (i6 (IntKind.i64.wrap (x25 + 1))) rfl (vp (i6 (IntKind.i64.wrap (x25 + 1))) rfl (a_nil ?_))))))))
      cases h
      exact a_again (by kernel_rfl) hX32
def impl_isPrime_c : ACode := (.seq (.region 0 [q 2 (.asg 0 (.const (.bool false)) 4)] false) (.seq (.region 1 [q 3 (.mov (t 0)), q 4 (.bin .eql 2 (t 3) (.const (.int .i64 2))), q 5 (.mov (t 4)), ⟨some 6, .mov (t 0), some (5, false), []⟩, ⟨some 7, .bin .eql 2 (t 6) (.const (.int .i64 3)), some (5, false), []⟩, q 8 (.pick (t 5) (.const (.bool true)) (t 7)), q 9 (.mov (t 8)), ⟨some 10, .mov (t 0), some (9, false), []⟩, ⟨some 11, .bin .eql 2 (t 10) (.const (.int .i64 5)), some (9, false), []⟩, q 12 (.pick (t 9) (.const (.bool true)) (t 11)), q 13 (.mov (t 12)), ⟨some 14, .mov (t 0), some (13, false), []⟩, ⟨some 15, .bin .eql 2 (t 14) (.const (.int .i64 7)), some (13, false), []⟩, q 16 (.pick (t 13) (.const (.bool true)) (t 15)), q 2 (.asg 0 (t 16) 4)] false) .ret))
def impl_isPrime_L : Live := [(0, [0]), (1, [0])]
noncomputable def impl_isPrime (a0 : Int) : Option Bool :=
  (if (a0 == 2) then (some true) else (if (a0 == 3) then (some true) else (if (a0 == 5) then (some true) else (some (a0 == 7)))))
theorem impl_isPrime_ok (a0 : Int) (r : Bool) (h : impl_isPrime a0 = some r) : Den Try.prog 64 [(i6 a0)] { r := (.bool r) } := by
  refine den_of (rs := [(.bool r)]) (ac := impl_isPrime_c) (L := impl_isPrime_L) (n := 17) (m := []) (c := Try.f64.body.getD .skip) good Try.func64 (by kernel_rfl) (by kernel_rfl) Try.ntmps64 rfl rfl (by kernel_rfl) rfl rfl ?_
  refine a_st (σ' := ⟨[(0, (i6 a0))], []⟩) (by kernel_rfl) ?_
  unfold impl_isPrime_c
  refine sr (vp (.bool false) rfl (nx ⟨[(0, (i6 a0))], []⟩ (by kernel_rfl) (sr (vp (i6 a0) rfl (vp (.bool (a0 == 2)) rfl (vp (.bool (a0 == 2)) rfl ?_))))))
  cases hb1 : (a0 == 2)
  · have h := ite_f hb1 h
    refine gp (i6 a0) rfl rfl (gp (.bool (a0 == 3)) rfl rfl (vp (.bool (a0 == 3)) rfl (vp (.bool (a0 == 3)) rfl ?_)))
    cases hb2 : (a0 == 3)
    · have h := ite_f hb2 h
      refine gp (i6 a0) rfl rfl (gp (.bool (a0 == 5)) rfl rfl (vp (.bool (a0 == 5)) rfl (vp (.bool (a0 == 5)) rfl ?_)))
      cases hb3 : (a0 == 5)
      · have h := ite_f hb3 h
        refine gp (i6 a0) rfl rfl (gp (.bool (a0 == 7)) rfl rfl (vp (.bool (a0 == 7)) rfl (vp (.bool (a0 == 7)) rfl (nx _ rfl (a_ret ?_)))))
        refine ⟨.inr rfl, ?_⟩
        rw [Try.results64]
        cases h
        exact ⟨_, _, _, _, _, rfl, trivial, .inl ⟨rfl, .inl rfl⟩, rfl, rfl⟩
      · have h := ite_t hb3 h
        refine a_gskip rfl (a_gskip rfl (vp (.bool true) rfl (vp (.bool true) rfl (nx _ rfl (a_ret ?_)))))
        refine ⟨.inr rfl, ?_⟩
        rw [Try.results64]
        cases h
        exact ⟨_, _, _, _, _, rfl, trivial, .inl ⟨rfl, .inl rfl⟩, rfl, rfl⟩
    · have h := ite_t hb2 h
      refine a_gskip rfl (a_gskip rfl (vp (.bool true) rfl (vp (.bool true) rfl (a_gskip rfl (a_gskip rfl (vp (.bool true) rfl (vp (.bool true) rfl (nx _ rfl (a_ret ?_)))))))))
      refine ⟨.inr rfl, ?_⟩
      rw [Try.results64]
      cases h
      exact ⟨_, _, _, _, _, rfl, trivial, .inl ⟨rfl, .inl rfl⟩, rfl, rfl⟩
  · have h := ite_t hb1 h
    refine a_gskip rfl (a_gskip rfl (vp (.bool true) rfl (vp (.bool true) rfl (a_gskip rfl (a_gskip rfl (vp (.bool true) rfl (vp (.bool true) rfl (a_gskip rfl (a_gskip rfl ?_)))))))))
    refine vp (.bool true) rfl (vp (.bool true) rfl (nx _ rfl (a_ret ?_)))
    refine ⟨.inr rfl, ?_⟩
    rw [Try.results64]
    cases h
    exact ⟨_, _, _, _, _, rfl, trivial, .inl ⟨rfl, .inl rfl⟩, rfl, rfl⟩
def impl_isPoly_c1_of_p_c : ACode := (.seq (.region 0 [q 3 (.asg 0 (.const (.bool false)) 4)] false) (.seq (.region 1 [q 4 (.mov (t 0)), q 5 (.conv 5 2 (t 4)), q 6 (.load 2 (t 1)), q 7 (.bin .lss 2 (t 5) (t 6)), q 3 (.asg 0 (t 7) 4)] false) .ret))
def impl_isPoly_c1_of_p_L : Live := [(0, [0, 1]), (1, [0, 1])]
noncomputable def impl_isPoly_c1_of_p (a0 : Int) (a1 : Int) : Option Bool :=
  (some ((decide ((IntKind.i64.wrap a0) < a1))))
theorem impl_isPoly_c1_of_p_ok (a0 : Int) (a1 : Int) (r : Bool) (h : impl_isPoly_c1_of_p a0 a1 = some r) : Den Try.prog 147 [(b8 a0), (.ref (i6 a1) [] [])] { r := (.bool r) } := by
  refine den_of (rs := [(.bool r)]) (ac := impl_isPoly_c1_of_p_c) (L := impl_isPoly_c1_of_p_L) (n := 8) (m := []) (c := Try.f147.body.getD .skip) good Try.func147 (by kernel_rfl) (by kernel_rfl) Try.ntmps147 rfl rfl (by kernel_rfl) rfl rfl ?_
  refine a_st (σ' := ⟨[(0, (b8 a0)), (1, (.ref (i6 a1) [] []))], []⟩) (by kernel_rfl) ?_
  unfold impl_isPoly_c1_of_p_c
  refine sr (vp (.bool false) rfl (nx ⟨[(0, (b8 a0)), (1, (.ref (i6 a1) [] []))], []⟩ (by kernel_rfl) (sr (vp (b8 a0) rfl (vp (i6 (IntKind.i64.wrap a0)) rfl ?_)))))
  have hl1 : LdOk [] (i6 a1) [] 1 false (i6 a1) := (.nil rfl rfl rfl)
  refine vq (i6 a1) (ld_ref (i := ⟨.int .i64, 1, 8, (.int .i64 0)⟩) rfl rfl hl1) hl1.c (vp (.bool ((decide ((IntKind.i64.wrap a0) < a1)))) rfl (vp (.bool ((decide ((IntKind.i64.wrap a0) < a1)))) rfl (nx _ rfl (a_ret ?_))))
  refine ⟨.inr rfl, ?_⟩
  rw [Try.results147]
  cases h
  exact ⟨_, _, _, _, _, rfl, trivial, .inl ⟨rfl, .inl rfl⟩, rfl, rfl⟩
def impl_areAll_byte__c1_of_p_c : ACode := (.seq (.region 0 [q 3 (.asg 0 (.const (.bool false)) 4)] false) (.seq (.region 1 [q 4 (.load 146 (t 1)), q 5 (.mov (t 0)), q 6 (.call 0 (t 4) [(t 5)]), q 7 (.un .not (t 6)), q 3 (.asg 0 (t 7) 4)] false) .ret))
def impl_areAll_byte__c1_of_p_L : Live := [(0, [0, 1]), (1, [0, 1])]
noncomputable def impl_areAll_byte__c1_of_p (a0 : Int) (a1c0 : Int) : Option Bool :=
  (Option.bind (impl_isPoly_c1_of_p a0 a1c0) fun r2 => (some (!r2)))
theorem impl_areAll_byte__c1_of_p_ok (a0 : Int) (a1c0 : Int) (r : Bool) (h : impl_areAll_byte__c1_of_p a0 a1c0 = some r) : Den Try.prog 167 [(b8 a0), (.ref (.clo 147 [] [(.ref (i6 a1c0) [] [])]) [] [])] { r := (.bool r) } := by
  refine den_of (rs := [(.bool r)]) (ac := impl_areAll_byte__c1_of_p_c) (L := impl_areAll_byte__c1_of_p_L) (n := 8) (m := []) (c := Try.f167.body.getD .skip) good Try.func167 (by kernel_rfl) (by kernel_rfl) Try.ntmps167 rfl rfl (by kernel_rfl) rfl rfl ?_
  refine a_st (σ' := ⟨[(0, (b8 a0)), (1, (.ref (.clo 147 [] [(.ref (i6 a1c0) [] [])]) [] []))], []⟩) (by kernel_rfl) ?_
  unfold impl_areAll_byte__c1_of_p_c
  refine sr (vp (.bool false) rfl (nx ⟨[(0, (b8 a0)), (1, (.ref (.clo 147 [] [(.ref (i6 a1c0) [] [])]) [] []))], []⟩ (by kernel_rfl) (sr ?_)))
  have hl1 : LdOk [] (.clo 147 [] [(.ref (i6 a1c0) [] [])]) [] 1 false (.clo 147 [] [(.ref (i6 a1c0) [] [])]) := (.nil rfl rfl rfl)
  refine vq (.clo 147 [] [(.ref (i6 a1c0) [] [])]) (ld_ref (i := ⟨.other, 1, 8, (.raw .nilFunc)⟩) rfl rfl hl1) hl1.c (vp (b8 a0) rfl ?_)
  obtain ⟨r2, hr3, h⟩ := bind_some h
  refine a_call (args := [(b8 a0), (.ref (i6 a1c0) [] [])]) (u := []) (r := (.bool r2)) rfl rfl (impl_isPoly_c1_of_p_ok a0 a1c0 r2 hr3) rfl (vp (.bool (!r2)) rfl (vp (.bool (!r2)) rfl (nx _ rfl (a_ret ?_))))
  refine ⟨.inr rfl, ?_⟩
  rw [Try.results167]
  cases h
  exact ⟨_, _, _, _, _, rfl, trivial, .inl ⟨rfl, .inl rfl⟩, rfl, rfl⟩
def slices_IndexFunc_byte_byte_of_impl_areAll_byte__c1_p_c : ACode := (.seq (.region 0 [q 4 (.asg 0 (.const (.int .i64 0)) 3)] false) (.seq (.seq (.region 1 [q 6 (.mov (t 0)), q 7 (.blt 0 .len [(t 6)] [145]), q 8 (.mov (.const (.int .i64 0)))] false) (.block 0 (.loop (.seq (.region 2 [q 9 (.bin .lss 3 (t 8) (t 7))] false) (.seq (.cond (t 9) .skip (.exit 0)) (.seq (.block 1 (.seq (.region 3 [q 10 (.mov (t 8)), q 5 (.asg 0 (t 10) 3)] false) (.seq (.region 4 [q 11 (.mov (t 1)), q 12 (.mov (t 0)), q 13 (.mov (t 5)), q 14 (.indexAddr 145 (t 12) (t 13)), q 15 (.load 5 (t 14)), q 16 (.call 0 (t 11) [(t 15)])] false) (.cond (t 16) (.seq (.region 5 [q 17 (.mov (t 5)), q 4 (.asg 0 (t 17) 3)] false) .ret) .skip)))) (.region 6 [q 18 (.bin .add 3 (t 8) (.const (.int .i64 1))), q 8 (.mov (t 18))] false))))))) (.seq (.region 7 [q 4 (.asg 0 (.const (.int .i64 (-1))) 3)] false) .ret)))
def slices_IndexFunc_byte_byte_of_impl_areAll_byte__c1_p_L : Live := [(0, [0, 1]), (1, [0, 1]), (2, [0, 1, 7, 8]), (3, [0, 1, 7, 8]), (4, [0, 1, 5, 7, 8]), (5, [5]), (6, [0, 1, 7, 8]), (7, []), (100009, [0, 1, 7, 8, 9]), (100016, [0, 1, 5, 7, 8, 16])]
noncomputable def slices_IndexFunc_byte_byte_of_impl_areAll_byte__c1_p_l1 (a0 : (List Int)) (a1c0c0 : Int) (x33 : Int) : Option (Int ⊕ (Unit ⊕ Int)) :=
  (if (decide (x33 < (a0.length : Int))) then (ifp (0 ≤ x33 ∧ x33 < ((a0.length : Nat) : Int)) ((Option.bind (impl_areAll_byte__c1_of_p (rd a0 x33.toNat) a1c0c0) fun r46 => (if r46 then (some (.inr (.inr x33))) else (some (.inl (IntKind.i64.wrap (x33 + 1)))))))) else (some (.inr (((.inl ()))))))
noncomputable def slices_IndexFunc_byte_byte_of_impl_areAll_byte__c1_p (a0 : (List Int)) (a1c0c0 : Int) : Option Int :=
  (Option.bind (α := (Unit ⊕ Int)) ((loopM (fun s : Int => slices_IndexFunc_byte_byte_of_impl_areAll_byte__c1_p_l1 a0 a1c0c0 s) 0)) fun z => match z with | .inl _ => (some (-1)) | .inr r50 => (some r50))
theorem slices_IndexFunc_byte_byte_of_impl_areAll_byte__c1_p_ok (a0 : (List Int)) (a1c0c0 : Int) (r : Int) (h : slices_IndexFunc_byte_byte_of_impl_areAll_byte__c1_p a0 a1c0c0 = some r) : Den Try.prog 174 [(eSu8 a0), (.clo 167 [] [(.ref (.clo 147 [] [(.ref (i6 a1c0c0) [] [])]) [] [])])] { r := (i6 r) } := by
  refine den_of (rs := [(i6 r)]) (ac := slices_IndexFunc_byte_byte_of_impl_areAll_byte__c1_p_c) (L := slices_IndexFunc_byte_byte_of_impl_areAll_byte__c1_p_L) (n := 19) (m := []) (c := Try.f174.body.getD .skip) good Try.func174 (by kernel_rfl) (by kernel_rfl) Try.ntmps174 rfl rfl (by kernel_rfl) rfl rfl ?_
  refine a_st (σ' := ⟨[(0, (eSu8 a0)), (1, (.clo 167 [] [(.ref (.clo 147 [] [(.ref (i6 a1c0c0) [] [])]) [] [])]))], []⟩) (by kernel_rfl) ?_
  unfold slices_IndexFunc_byte_byte_of_impl_areAll_byte__c1_p_c
  refine sr (vp (i6 0) rfl (nx ⟨[(0, (eSu8 a0)), (1, (.clo 167 [] [(.ref (.clo 147 [] [(.ref (i6 a1c0c0) [] [])]) [] [])]))], []⟩ (by kernel_rfl) ?_))
  obtain ⟨y24, hy25, hk26⟩ := bind_some h
  clear h
  refine a_join (emb := fun (s : Unit) => ⟨[], []⟩) (pre := fun s => (.inl s) = y24) ?_ ?_
  · rintro _ rfl
    have h := hk26
    refine a_st (σ' := ⟨[], []⟩) (by kernel_rfl) (sr (vp (i6 (-1)) rfl (nx _ rfl (a_ret ?_))))
    refine ⟨.inr rfl, ?_⟩
    rw [Try.results174]
    cases h
    exact ⟨_, _, _, _, _, rfl, trivial, .inl ⟨rfl, .inl rfl⟩, rfl, rfl⟩
  · have h := hy25
    refine sr (vp (eSu8 a0) rfl (vq (i6 (a0.length : Int)) (len_run rfl rfl) trivial (vp (i6 0) rfl (nx ⟨[(0, (eSu8 a0)), (1, (.clo 167 [] [(.ref (.clo 147 [] [(.ref (i6 a1c0c0) [] [])]) [] [])])), (7, (i6 (a0.length : Int))), (8, (i6 0))], []⟩ (by kernel_rfl) (a_block ?_)))))
    refine a_loop (emb := fun (s : Int) => ⟨[(0, (eSu8 a0)), (1, (.clo 167 [] [(.ref (.clo 147 [] [(.ref (i6 a1c0c0) [] [])]) [] [])])), (7, (i6 (a0.length : Int))), (8, (i6 s))], []⟩) (body := (fun s : Int => slices_IndexFunc_byte_byte_of_impl_areAll_byte__c1_p_l1 a0 a1c0c0 s)) (G := fun q => some q = some y24) h rfl ?_ (by kernel_rfl)
    rintro X40 x33 x41 h hX42
    have h : slices_IndexFunc_byte_byte_of_impl_areAll_byte__c1_p_l1 a0 a1c0c0 x33 = some x41 := h
    refine a_st (σ' := ⟨[(0, (eSu8 a0)), (1, (.clo 167 [] [(.ref (.clo 147 [] [(.ref (i6 a1c0c0) [] [])]) [] [])])), (7, (i6 (a0.length : Int))), (8, (i6 x33))], []⟩) (by kernel_rfl) (sr (vp (.bool ((decide (x33 < (a0.length : Int))))) rfl (nx ⟨[(0, (eSu8 a0)), (1, (.clo 167 [] [(.ref (.clo 147 [] [(.ref (i6 a1c0c0) [] [])]) [] [])])), (7, (i6 (a0.length : Int))), (8, (i6 x33)), (9, (.bool ((decide (x33 < (a0.length : Int))))))], []⟩ (by kernel_rfl) (a_seq ?_))))
    cases hb43 : (decide (x33 < (a0.length : Int)))
    · have h := ite_f hb43 h
      refine a_cond_f rfl (a_exit (t_exit ?_))
      cases h
      have h := hX42
      refine t_exit (b_exit ?_)
      exact j_leaf () (Option.some.inj h) (by kernel_rfl)
    · have h := ite_t hb43 h
      refine a_cond_t rfl (a_skip (a_next (σ' := ⟨[(0, (eSu8 a0)), (1, (.clo 167 [] [(.ref (.clo 147 [] [(.ref (i6 a1c0c0) [] [])]) [] [])])), (7, (i6 (a0.length : Int))), (8, (i6 x33))], []⟩) (by kernel_rfl) (a_seq (a_block (sr (vp (i6 x33) rfl (vp (i6 x33) rfl (nx ⟨[(0, (eSu8 a0)), (1, (.clo 167 [] [(.ref (.clo 147 [] [(.ref (i6 a1c0c0) [] [])]) [] [])])), (5, (i6 x33)), (7, (i6 (a0.length : Int))), (8, (i6 x33))], []⟩ (by kernel_rfl) (sr ?_)))))))))
      refine vp (.clo 167 [] [(.ref (.clo 147 [] [(.ref (i6 a1c0c0) [] [])]) [] [])]) rfl (vp (eSu8 a0) rfl (vp (i6 x33) rfl ?_))
      obtain ⟨hc44, h⟩ := ifp_some h
      refine vq (.ref (.row 1 (a0.map (AV.int .u8))) [x33.toNat] [x33.toNat * 1]) rfl (lmap hc44) ?_
      have hl45 : LdOk [x33.toNat] (.row 1 (a0.map (AV.int .u8))) [x33.toNat * 1] 1 false (b8 (rd a0 x33.toNat)) := (.row (llt hc44) rfl (.nil rfl rfl rfl))
      refine vq (b8 (rd a0 x33.toNat)) (ld_ref (i := ⟨.int .u8, 1, 1, (.int .u8 0)⟩) rfl rfl hl45) hl45.c ?_
      obtain ⟨r46, hr47, h⟩ := bind_some h
      refine a_call (args := [(b8 (rd a0 x33.toNat)), (.ref (.clo 147 [] [(.ref (i6 a1c0c0) [] [])]) [] [])]) (u := []) (r := (.bool r46)) rfl rfl (impl_areAll_byte__c1_of_p_ok (rd a0 x33.toNat) a1c0c0 r46 hr47) rfl (nx ⟨[(0, (eSu8 a0)), (1, (.clo 167 [] [(.ref (.clo 147 [] [(.ref (i6 a1c0c0) [] [])]) [] [])])), (5, (i6 x33)), (7, (i6 (a0.length : Int))), (8, (i6 x33)), (16, (.bool r46))], []⟩ (by kernel_rfl) ?_)
      cases hb48 : r46
      · have h := ite_f hb48 h
        refine a_cond_f rfl (a_skip (b_norm (a_next (σ' := ⟨[(0, (eSu8 a0)), (1, (.clo 167 [] [(.ref (.clo 147 [] [(.ref (i6 a1c0c0) [] [])]) [] [])])), (7, (i6 (a0.length : Int))), (8, (i6 x33))], []⟩) (by kernel_rfl) (a_region (vp (i6 (IntKind.i64.wrap (x33 + 1))) rfl (vp (i6 (IntKind.i64.wrap (x33 + 1))) rfl (a_nil ?_)))))))
        cases h
        exact a_again (by kernel_rfl) hX42
      · have h := ite_t hb48 h
        refine a_cond_t rfl (sr (vp (i6 x33) rfl (vp (i6 x33) rfl (nx _ rfl (a_ret (b_ret (t_ret ?_)))))))
        cases h
        have h := hX42
        refine t_ret (b_ret (t_ret ?_))
        cases h
        have h := hk26
        refine ⟨.inr rfl, ?_⟩
        rw [Try.results174]
        cases h
        exact ⟨_, _, _, _, _, rfl, trivial, .inl ⟨rfl, .inl rfl⟩, rfl, rfl⟩
def slices_ContainsFunc_byte_byte_of_impl_areAll_byte__c1_p_c : ACode := (.seq (.region 0 [q 4 (.asg 0 (.const (.bool false)) 4)] false) (.seq (.region 1 [q 5 (.mov (t 0)), q 6 (.mov (t 1)), q 7 (.call 0 (.func 174) [(t 5), (t 6)]), q 8 (.bin .geq 3 (t 7) (.const (.int .i64 0))), q 4 (.asg 0 (t 8) 4)] false) .ret))
def slices_ContainsFunc_byte_byte_of_impl_areAll_byte__c1_p_L : Live := [(0, [0, 1]), (1, [0, 1])]
noncomputable def slices_ContainsFunc_byte_byte_of_impl_areAll_byte__c1_p (a0 : (List Int)) (a1c0c0 : Int) : Option Bool :=
  (Option.bind (slices_IndexFunc_byte_byte_of_impl_areAll_byte__c1_p a0 a1c0c0) fun r1 => (some ((decide (r1 ≥ 0)))))
theorem slices_ContainsFunc_byte_byte_of_impl_areAll_byte__c1_p_ok (a0 : (List Int)) (a1c0c0 : Int) (r : Bool) (h : slices_ContainsFunc_byte_byte_of_impl_areAll_byte__c1_p a0 a1c0c0 = some r) : Den Try.prog 166 [(eSu8 a0), (.clo 167 [] [(.ref (.clo 147 [] [(.ref (i6 a1c0c0) [] [])]) [] [])])] { r := (.bool r) } := by
  refine den_of (rs := [(.bool r)]) (ac := slices_ContainsFunc_byte_byte_of_impl_areAll_byte__c1_p_c) (L := slices_ContainsFunc_byte_byte_of_impl_areAll_byte__c1_p_L) (n := 9) (m := []) (c := Try.f166.body.getD .skip) good Try.func166 (by kernel_rfl) (by kernel_rfl) Try.ntmps166 rfl rfl (by kernel_rfl) rfl rfl ?_
  refine a_st (σ' := ⟨[(0, (eSu8 a0)), (1, (.clo 167 [] [(.ref (.clo 147 [] [(.ref (i6 a1c0c0) [] [])]) [] [])]))], []⟩) (by kernel_rfl) ?_
  unfold slices_ContainsFunc_byte_byte_of_impl_areAll_byte__c1_p_c
  refine sr (vp (.bool false) rfl (nx ⟨[(0, (eSu8 a0)), (1, (.clo 167 [] [(.ref (.clo 147 [] [(.ref (i6 a1c0c0) [] [])]) [] [])]))], []⟩ (by kernel_rfl) (sr (vp (eSu8 a0) rfl (vp (.clo 167 [] [(.ref (.clo 147 [] [(.ref (i6 a1c0c0) [] [])]) [] [])]) rfl ?_)))))
  obtain ⟨r1, hr2, h⟩ := bind_some h
  refine a_call (args := [(eSu8 a0), (.clo 167 [] [(.ref (.clo 147 [] [(.ref (i6 a1c0c0) [] [])]) [] [])])]) (u := []) (r := (i6 r1)) rfl rfl (slices_IndexFunc_byte_byte_of_impl_areAll_byte__c1_p_ok a0 a1c0c0 r1 hr2) rfl (vp (.bool ((decide (r1 ≥ 0)))) rfl (vp (.bool ((decide (r1 ≥ 0)))) rfl (nx _ rfl (a_ret ?_))))
  refine ⟨.inr rfl, ?_⟩
  rw [Try.results166]
  cases h
  exact ⟨_, _, _, _, _, rfl, trivial, .inl ⟨rfl, .inl rfl⟩, rfl, rfl⟩
def impl_areAll_byte_of_impl_isPoly_c1_p_c : ACode := (.seq (.region 0 [q 3 (.box 146 (t 1)), q 4 (.asg 0 (.const (.bool false)) 4)] false) (.seq (.region 1 [q 5 (.mov (t 0)), q 6 (.mkfn 167 [] [(t 3)]), q 7 (.call 0 (.func 166) [(t 5), (t 6)]), q 8 (.un .not (t 7)), q 4 (.asg 0 (t 8) 4)] false) .ret))
def impl_areAll_byte_of_impl_isPoly_c1_p_L : Live := [(0, [0, 1]), (1, [0, 3])]
noncomputable def impl_areAll_byte_of_impl_isPoly_c1_p (a0 : (List Int)) (a1c0 : Int) : Option Bool :=
  (Option.bind (slices_ContainsFunc_byte_byte_of_impl_areAll_byte__c1_p a0 a1c0) fun r1 => (some (!r1)))
theorem impl_areAll_byte_of_impl_isPoly_c1_p_ok (a0 : (List Int)) (a1c0 : Int) (r : Bool) (h : impl_areAll_byte_of_impl_isPoly_c1_p a0 a1c0 = some r) : Den Try.prog 146 [(eSu8 a0), (.clo 147 [] [(.ref (i6 a1c0) [] [])])] { r := (.bool r) } := by
  refine den_of (rs := [(.bool r)]) (ac := impl_areAll_byte_of_impl_isPoly_c1_p_c) (L := impl_areAll_byte_of_impl_isPoly_c1_p_L) (n := 9) (m := []) (c := Try.f146.body.getD .skip) good Try.func146 (by kernel_rfl) (by kernel_rfl) Try.ntmps146 rfl rfl (by kernel_rfl) rfl rfl ?_
  refine a_st (σ' := ⟨[(0, (eSu8 a0)), (1, (.clo 147 [] [(.ref (i6 a1c0) [] [])]))], []⟩) (by kernel_rfl) ?_
  unfold impl_areAll_byte_of_impl_isPoly_c1_p_c
  refine sr (vo 1300 (.clo 147 [] [(.ref (i6 a1c0) [] [])]) rfl rfl (vp (.bool false) rfl (nx ⟨[(0, (eSu8 a0)), (3, (ow 3))], [(3, (bk (.clo 147 [] [(.ref (i6 a1c0) [] [])])))]⟩ (by kernel_rfl) (sr (vp (eSu8 a0) rfl (vu (.clo 167 [] [(.ref (.clo 147 [] [(.ref (i6 a1c0) [] [])]) [] [])]) [(3, (bf (.clo 147 [] [(.ref (i6 a1c0) [] [])])))] rfl trivial rfl ?_))))))
  obtain ⟨r1, hr2, h⟩ := bind_some h
  refine a_call (args := [(eSu8 a0), (.clo 167 [] [(.ref (.clo 147 [] [(.ref (i6 a1c0) [] [])]) [] [])])]) (u := []) (r := (.bool r1)) rfl rfl (slices_ContainsFunc_byte_byte_of_impl_areAll_byte__c1_p_ok a0 a1c0 r1 hr2) rfl (vp (.bool (!r1)) rfl (vp (.bool (!r1)) rfl (nx _ rfl (a_ret ?_))))
  refine ⟨.inr rfl, ?_⟩
  rw [Try.results146]
  cases h
  exact ⟨_, _, _, _, _, rfl, trivial, .inl ⟨rfl, .inl rfl⟩, rfl, rfl⟩
def impl_isPoly_c : ACode := (.seq (.region 0 [q 2 (.box 2 (t 0)), q 3 (.box 24 (t 1)), q 4 (.asg 0 (.const (.bool false)) 4)] false) (.seq (.region 1 [q 5 (.slice 24 (t 3) none none none), q 6 (.mkfn 147 [] [(t 2)]), q 7 (.call 0 (.func 146) [(t 5), (t 6)]), q 4 (.asg 0 (t 7) 4)] false) .ret))
def impl_isPoly_L : Live := [(0, [0, 1]), (1, [2, 3])]
noncomputable def impl_isPoly (a0 : Int) (a1 : (Vec Int 64)) : Option Bool :=
  (Option.bind (impl_areAll_byte_of_impl_isPoly_c1_p a1.1 a0) fun r1 => (some r1))
theorem impl_isPoly_ok (a0 : Int) (a1 : (Vec Int 64)) (r : Bool) (h : impl_isPoly a0 a1 = some r) : Den Try.prog 120 [(i6 a0), (eA64u8 a1)] { r := (.bool r) } := by
  refine den_of (rs := [(.bool r)]) (ac := impl_isPoly_c) (L := impl_isPoly_L) (n := 8) (m := []) (c := Try.f120.body.getD .skip) good Try.func120 (by kernel_rfl) (by kernel_rfl) Try.ntmps120 rfl rfl (by kernel_rfl) rfl rfl ?_
  refine a_st (σ' := ⟨[(0, (i6 a0)), (1, (eA64u8 a1))], []⟩) (by kernel_rfl) ?_
  unfold impl_isPoly_c
  refine sr (vo 1200 (i6 a0) rfl rfl (vo 1300 (eA64u8 a1) rfl rfl (vp (.bool false) rfl (nx ⟨[(2, (ow 2)), (3, (ow 3))], [(2, (bk (i6 a0))), (3, (bk (eA64u8 a1)))]⟩ (by kernel_rfl) (sr (vu (.sl 1 true (a1.1.map (AV.int .u8))) [(3, (bf (eA64u8 a1)))] rfl ⟨rfl, trivial, rfl, rfl⟩ rfl (vu (.clo 147 [] [(.ref (i6 a0) [] [])]) [(2, (bf (i6 a0)))] rfl trivial rfl ?_)))))))
  obtain ⟨r1, hr2, h⟩ := bind_some h
  refine a_call (args := [(.sl 1 true (a1.1.map (AV.int .u8))), (.clo 147 [] [(.ref (i6 a0) [] [])])]) (u := []) (r := (.bool r1)) rfl rfl (Den.args (impl_areAll_byte_of_impl_isPoly_c1_p_ok a1.1 a0 r1 hr2) rfl rfl (.cons (.loose _) (.cons (.refl _) .nil))) rfl (vp (.bool r1) rfl (nx _ rfl (a_ret ?_)))
  refine ⟨.inr rfl, ?_⟩
  rw [Try.results120]
  cases h
  exact ⟨_, _, _, _, _, rfl, trivial, .inl ⟨rfl, .inl rfl⟩, rfl, rfl⟩
def impl_IsPoly_c : ACode := (.seq (.region 0 [q 3 (.box 24 (t 1)), q 4 (.asg 0 (.const (.bool false)) 4)] false) (.seq (.region 1 [q 5 (.mov (t 0)), q 6 (.call 0 (.func 64) [(t 5)]), q 7 (.mov (t 6)), ⟨some 8, .mov (t 0), some (7, true), []⟩, ⟨some 9, .load 24 (t 3), some (7, true), []⟩, ⟨some 10, .call 0 (.func 120) [(t 8), (t 9)], some (7, true), []⟩, q 11 (.pick (t 7) (t 10) (.const (.bool false))), q 4 (.asg 0 (t 11) 4)] false) .ret))
def impl_IsPoly_L : Live := [(0, [0, 1]), (1, [0, 3])]
noncomputable def impl_IsPoly (a0 : Int) (a1 : (Vec Int 64)) : Option Bool :=
  (Option.bind (impl_isPrime a0) fun r1 => (if r1 then (Option.bind (impl_isPoly a0 a1) fun r5 => (some r5)) else (some false)))
theorem impl_IsPoly_ok (a0 : Int) (a1 : (Vec Int 64)) (r : Bool) (h : impl_IsPoly a0 a1 = some r) : Den Try.prog 92 [(i6 a0), (eA64u8 a1)] { r := (.bool r) } := by
  refine den_of (rs := [(.bool r)]) (ac := impl_IsPoly_c) (L := impl_IsPoly_L) (n := 12) (m := []) (c := Try.f92.body.getD .skip) good Try.func92 (by kernel_rfl) (by kernel_rfl) Try.ntmps92 rfl rfl (by kernel_rfl) rfl rfl ?_
  refine a_st (σ' := ⟨[(0, (i6 a0)), (1, (eA64u8 a1))], []⟩) (by kernel_rfl) ?_
  unfold impl_IsPoly_c
  refine sr (vo 1300 (eA64u8 a1) rfl rfl (vp (.bool false) rfl (nx ⟨[(0, (i6 a0)), (3, (ow 3))], [(3, (bk (eA64u8 a1)))]⟩ (by kernel_rfl) (sr (vp (i6 a0) rfl ?_)))))
  obtain ⟨r1, hr2, h⟩ := bind_some h
  refine a_call (args := [(i6 a0)]) (u := []) (r := (.bool r1)) rfl rfl (impl_isPrime_ok a0 r1 hr2) rfl (vp (.bool r1) rfl ?_)
  cases hb3 : r1
  · have h := ite_f hb3 h
    refine a_gskip rfl (a_gskip rfl (a_gskip rfl (vp (.bool false) rfl (vp (.bool false) rfl (nx _ rfl (a_ret ?_))))))
    refine ⟨.inr rfl, ?_⟩
    rw [Try.results92]
    cases h
    exact ⟨_, _, _, _, _, rfl, trivial, .inl ⟨rfl, .inl rfl⟩, rfl, rfl⟩
  · have h := ite_t hb3 h
    refine gp (i6 a0) rfl rfl ?_
    have hl4 : LdOk [] (eA64u8 a1) [] 64 true (eA64u8 a1) := (.nil rfl rfl rfl)
    refine gq (eA64u8 a1) rfl (ld_own (i := ⟨.arr 64 5, 64, 64, (eA64u8 (vrep 64 (0 : Int)))⟩) rfl rfl rfl hl4) hl4.c ?_
    obtain ⟨r5, hr6, h⟩ := bind_some h
    refine a_gcall rfl (args := [(i6 a0), (eA64u8 a1)]) (u := []) (r := (.bool r5)) rfl rfl (impl_isPoly_ok a0 a1 r5 hr6) rfl (vp (.bool r5) rfl (vp (.bool r5) rfl (nx _ rfl (a_ret ?_))))
    refine ⟨.inr rfl, ?_⟩
    rw [Try.results92]
    cases h
    exact ⟨_, _, _, _, _, rfl, trivial, .inl ⟨rfl, .inl rfl⟩, rfl, rfl⟩
def impl_row_degree_c : ACode := (.seq (.region 0 [q 2 (.asg 0 (.const (.int .i64 0)) 2)] false) (.seq (.region 1 [q 3 (.mov (t 0)), q 4 (.blt 0 .len [(t 3)] [65]), q 5 (.bin .sub 2 (t 4) (.const (.int .i64 1))), q 2 (.asg 0 (t 5) 2)] false) .ret))
def impl_row_degree_L : Live := [(0, [0]), (1, [0])]
noncomputable def impl_row_degree (a0 : (List Int)) : Option Int :=
  (some (IntKind.i64.wrap ((a0.length : Int) - 1)))
theorem impl_row_degree_ok (a0 : (List Int)) (r : Int) (h : impl_row_degree a0 = some r) : Den Try.prog 59 [(eSi64 a0)] { r := (i6 r) } := by
  refine den_of (rs := [(i6 r)]) (ac := impl_row_degree_c) (L := impl_row_degree_L) (n := 6) (m := []) (c := Try.f59.body.getD .skip) good Try.func59 (by kernel_rfl) (by kernel_rfl) Try.ntmps59 rfl rfl (by kernel_rfl) rfl rfl ?_
  refine a_st (σ' := ⟨[(0, (eSi64 a0))], []⟩) (by kernel_rfl) ?_
  unfold impl_row_degree_c
  refine sr (vp (i6 0) rfl (nx ⟨[(0, (eSi64 a0))], []⟩ (by kernel_rfl) (sr (vp (eSi64 a0) rfl (vq (i6 (a0.length : Int)) (len_run rfl rfl) trivial (vp (i6 (IntKind.i64.wrap ((a0.length : Int) - 1))) rfl (vp (i6 (IntKind.i64.wrap ((a0.length : Int) - 1))) rfl (nx _ rfl (a_ret ?_)))))))))
  refine ⟨.inr rfl, ?_⟩
  rw [Try.results59]
  cases h
  exact ⟨_, _, _, _, _, rfl, trivial, .inl ⟨rfl, .inl rfl⟩, rfl, rfl⟩
def impl_within_c : ACode := (.seq (.region 0 [q 6 (.asg 0 (.const (.bool false)) 4)] false) (.seq (.region 1 [q 7 (.mov (t 1)), q 8 (.mov (t 0)), q 9 (.bin .leq 2 (t 7) (t 8)), q 10 (.mov (t 9)), ⟨some 11, .mov (t 0), some (10, true), []⟩, ⟨some 12, .mov (t 2), some (10, true), []⟩, ⟨some 13, .bin .leq 2 (t 11) (t 12), some (10, true), []⟩, q 14 (.pick (t 10) (t 13) (.const (.bool false))), q 6 (.asg 0 (t 14) 4)] false) .ret))
def impl_within_L : Live := [(0, [0, 1, 2]), (1, [0, 1, 2])]
noncomputable def impl_within (a0 : Int) (a1 : Int) (a2 : Int) : Option Bool :=
  (if (decide (a1 ≤ a0)) then (some ((decide (a0 ≤ a2)))) else (some false))
theorem impl_within_ok (a0 : Int) (a1 : Int) (a2 : Int) (r : Bool) (h : impl_within a0 a1 a2 = some r) : Den Try.prog 93 [(i6 a0), (i6 a1), (i6 a2)] { r := (.bool r) } := by
  refine den_of (rs := [(.bool r)]) (ac := impl_within_c) (L := impl_within_L) (n := 15) (m := []) (c := Try.f93.body.getD .skip) good Try.func93 (by kernel_rfl) (by kernel_rfl) Try.ntmps93 rfl rfl (by kernel_rfl) rfl rfl ?_
  refine a_st (σ' := ⟨[(0, (i6 a0)), (1, (i6 a1)), (2, (i6 a2))], []⟩) (by kernel_rfl) ?_
  unfold impl_within_c
  refine sr (vp (.bool false) rfl (nx ⟨[(0, (i6 a0)), (1, (i6 a1)), (2, (i6 a2))], []⟩ (by kernel_rfl) (sr (vp (i6 a1) rfl (vp (i6 a0) rfl (vp (.bool ((decide (a1 ≤ a0)))) rfl (vp (.bool ((decide (a1 ≤ a0)))) rfl ?_)))))))
  cases hb1 : (decide (a1 ≤ a0))
  · have h := ite_f hb1 h
    refine a_gskip rfl (a_gskip rfl (a_gskip rfl (vp (.bool false) rfl (vp (.bool false) rfl (nx _ rfl (a_ret ?_))))))
    refine ⟨.inr rfl, ?_⟩
    rw [Try.results93]
    cases h
    exact ⟨_, _, _, _, _, rfl, trivial, .inl ⟨rfl, .inl rfl⟩, rfl, rfl⟩
  · have h := ite_t hb1 h
    refine gp (i6 a0) rfl rfl (gp (i6 a2) rfl rfl (gp (.bool ((decide (a0 ≤ a2)))) rfl rfl (vp (.bool ((decide (a0 ≤ a2)))) rfl (vp (.bool ((decide (a0 ≤ a2)))) rfl (nx _ rfl (a_ret ?_))))))
    refine ⟨.inr rfl, ?_⟩
    rw [Try.results93]
    cases h
    exact ⟨_, _, _, _, _, rfl, trivial, .inl ⟨rfl, .inl rfl⟩, rfl, rfl⟩
end Go.Proofs.Ytcgohoclbjgmkaa
