/- Functions of the program: plain Lean functions, and that the program computes them. Printed by gen.py. -/
import Derived.Test.YtdhcpekngpndnaaFnT
import Derived.Test.YtdhcpekngpndnaaFn1
import Derived.Test.YtdhcpekngpndnaaFn2
namespace Go.Proofs.Ytdhcpekngpndnaa
open Go.Abs Go.Proofs
set_option linter.unusedSimpArgs false
set_option linter.unusedVariables false
set_option maxHeartbeats 16000000
attribute [local irreducible] Abs.acode Abs.aops Abs.aopsT Abs.thenK Abs.blockK

def spec_l06Is_c : ACode := (.seq (.region 0 [q 1 (.box 58 (t 0)), q 2 (.asg 0 (.const (.bool false)) 4)] false) (.seq (.region 1 [q 5 (.fieldAddr 58 (t 1) 0), q 6 (.load 2 (t 5)), q 3 (.asg 0 (t 6) 2)] false) (.seq (.seq (.region 2 [q 7 (.mov (t 3)), q 8 (.fieldAddr 58 (t 1) 1), q 9 (.load 26 (t 8)), q 10 (.fieldAddr 58 (t 1) 2), q 11 (.load 26 (t 10)), q 12 (.fieldAddr 58 (t 1) 3), q 13 (.load 26 (t 12)), q 14 (.bslice 0 38 3 [(0, (t 9)), (1, (t 11)), (2, (t 13))]), q 15 (.call 0 (.func 59) [(t 7), (t 14)]), q 16 (.bin .neq 2 (t 15) (.const (.int .i64 0))), q 17 (.mov (t 16)), ⟨some 18, .fieldAddr 58 (t 1) 1, some (17, false), []⟩, ⟨some 19, .load 26 (t 18), some (17, false), []⟩, ⟨some 20, .call 0 (.func 82) [(t 19)], some (17, false), []⟩, ⟨some 21, .un .not (t 20), some (17, false), []⟩, q 22 (.pick (t 17) (.const (.bool true)) (t 21))] false) (.cond (t 22) (.seq (.region 3 [q 2 (.asg 0 (.const (.bool false)) 4)] false) .ret) .skip)) (.seq (.region 4 [q 23 (.fieldAddr 58 (t 1) 1), q 24 (.load 26 (t 23)), q 25 (.call 0 (.func 75) [(t 24)]), q 4 (.asg 0 (t 25) 2)] false) (.seq (.region 5 [q 26 (.mov (t 4)), q 27 (.call 0 (.func 83) [(t 26), (.const (.int .i64 1)), (.const (.int .i64 4))]), q 28 (.mov (t 27)), ⟨some 29, .mov (t 3), some (28, true), []⟩, ⟨some 30, .fieldAddr 58 (t 1) 1, some (28, true), []⟩, ⟨some 31, .load 26 (t 30), some (28, true), []⟩, ⟨some 32, .call 0 (.func 92) [(t 29), (t 31)], some (28, true), []⟩, q 33 (.pick (t 28) (t 32) (.const (.bool false))), q 34 (.mov (t 33)), ⟨some 35, .fieldAddr 58 (t 1) 2, some (34, true), []⟩, ⟨some 36, .load 26 (t 35), some (34, true), []⟩, ⟨some 37, .call 0 (.func 75) [(t 36)], some (34, true), []⟩, ⟨some 38, .mov (t 4), some (34, true), []⟩, ⟨some 39, .bin .lss 2 (t 37) (t 38), some (34, true), []⟩, q 40 (.pick (t 34) (t 39) (.const (.bool false))), q 41 (.mov (t 40)), ⟨some 42, .fieldAddr 58 (t 1) 3, some (41, true), []⟩, ⟨some 43, .load 26 (t 42), some (41, true), []⟩, ⟨some 44, .call 0 (.func 75) [(t 43)], some (41, true), []⟩, ⟨some 45, .mov (t 4), some (41, true), []⟩, ⟨some 46, .bin .lss 2 (t 44) (t 45), some (41, true), []⟩, q 47 (.pick (t 41) (t 46) (.const (.bool false))), q 48 (.mov (t 47)), ⟨some 49, .fieldAddr 58 (t 1) 3, some (48, true), []⟩, ⟨some 50, .load 26 (t 49), some (48, true), []⟩, ⟨some 51, .build 26 [], some (48, true), []⟩, ⟨some 52, .bin .neq 26 (t 50) (t 51), some (48, true), []⟩, q 53 (.pick (t 48) (t 52) (.const (.bool false))), q 2 (.asg 0 (t 53) 4)] false) .ret)))))
def spec_l06Is_L : Live := [(0, [0]), (1, [1]), (2, [1, 3]), (3, []), (4, [1, 3]), (5, [1, 3, 4]), (100022, [1, 3, 22])]
noncomputable def spec_l06Is (a0 : (Int × (Vec Int 64) × (Vec Int 64) × (Vec Int 64))) : Option Bool :=
  (Option.bind (α := Bool) ((Option.bind (spec_l01Code a0.1 ([a0.2.1, a0.2.2.1, a0.2.2.2])) fun r18 => (if (r18 != 0) then (some true) else (Option.bind (spec_l01Monic a0.2.1) fun r22 => (some (!r22)))))) fun x11 => (if x11 then (some false) else (Option.bind (spec_l01Deg a0.2.1) fun r26 => (Option.bind (spec_l01In r26 1 4) fun r28 => (if r28 then (Option.bind (spec_l01Irreducible a0.1 a0.2.1) fun r32 => (if r32 then (Option.bind (spec_l01Deg a0.2.2.1) fun r36 => (if (decide (r36 < r26)) then (Option.bind (spec_l01Deg a0.2.2.2) fun r40 => (if (decide (r40 < r26)) then (some ((!decide (a0.2.2.2 = ((vrep 64 (0 : Int))))))) else (some false))) else (some false))) else (some false))) else (some false))))))
theorem spec_l06Is_ok (a0 : (Int × (Vec Int 64) × (Vec Int 64) × (Vec Int 64))) (r : Bool) (h : spec_l06Is a0 = some r) : Den Try.prog 108 [(eT_i64_A64u8_A64u8_A64u8_Z a0)] { r := (.bool r) } := by
  refine den_of (rs := [(.bool r)]) (ac := spec_l06Is_c) (L := spec_l06Is_L) (n := 54) (m := []) (c := Try.f108.body.getD .skip) good Try.func108 (by kernel_rfl) (by kernel_rfl) Try.ntmps108 rfl rfl (by kernel_rfl) rfl rfl ?_
  refine a_st (σ' := ⟨[(0, (eT_i64_A64u8_A64u8_A64u8_Z a0))], []⟩) (by kernel_rfl) ?_
  unfold spec_l06Is_c
  refine sr (vo 1100 (eT_i64_A64u8_A64u8_A64u8_Z a0) rfl rfl (vp (.bool false) rfl (nx ⟨[(1, (ow 1))], [(1, (bk (eT_i64_A64u8_A64u8_A64u8_Z a0)))]⟩ (by kernel_rfl) (sr (vb (.own 1 [0] [0]) rfl rfl ?_)))))
  have hl1 : LdOk [0] (eT_i64_A64u8_A64u8_A64u8_Z a0) [0] 1 false (i6 a0.1) := (.fld rfl rfl rfl rfl (.nil rfl rfl rfl))
  refine vq (i6 a0.1) (ld_own (i := ⟨.int .i64, 1, 8, (.int .i64 0)⟩) rfl rfl rfl hl1) hl1.c (vp (i6 a0.1) rfl (nx ⟨[(1, (ow 1)), (3, (i6 a0.1))], [(1, (bk (eT_i64_A64u8_A64u8_A64u8_Z a0)))]⟩ (by kernel_rfl) (a_seq ?_)))
  obtain ⟨y12, hy13, hk14⟩ := bind_some h
  clear h
  refine a_join (emb := fun (s : Bool) => ⟨[(1, (ow 1)), (3, (i6 a0.1)), (22, (.bool s))], [(1, (bk (eT_i64_A64u8_A64u8_A64u8_Z a0)))]⟩) (pre := fun s => s = y12) ?_ ?_
  · rintro x11 rfl
    have h := hk14
    refine a_st (σ' := ⟨[(1, (ow 1)), (3, (i6 a0.1)), (22, (.bool x11))], [(1, (bk (eT_i64_A64u8_A64u8_A64u8_Z a0)))]⟩) (by kernel_rfl) ?_
    cases hb24 : x11
    · have h := ite_f hb24 h
      refine a_cond_f rfl (a_skip (a_next (σ' := ⟨[(1, (ow 1)), (3, (i6 a0.1))], [(1, (bk (eT_i64_A64u8_A64u8_A64u8_Z a0)))]⟩) (by kernel_rfl) (sr (vb (.own 1 [1] [1]) rfl rfl ?_))))
      have hl25 : LdOk [1] (eT_i64_A64u8_A64u8_A64u8_Z a0) [1] 64 true (eA64u8 a0.2.1) := (.fld rfl rfl rfl rfl (.nil rfl rfl rfl))
      refine vq (eA64u8 a0.2.1) (ld_own (i := ⟨.arr 64 5, 64, 64, (eA64u8 (vrep 64 (0 : Int)))⟩) rfl rfl rfl hl25) hl25.c ?_
      obtain ⟨r26, hr27, h⟩ := bind_some h
      refine a_call (args := [(eA64u8 a0.2.1)]) (u := []) (r := (i6 r26)) rfl rfl (spec_l01Deg_ok a0.2.1 r26 hr27) rfl (vp (i6 r26) rfl (nx ⟨[(1, (ow 1)), (3, (i6 a0.1)), (4, (i6 r26))], [(1, (bk (eT_i64_A64u8_A64u8_A64u8_Z a0)))]⟩ (by kernel_rfl) (sr (vp (i6 r26) rfl ?_))))
      obtain ⟨r28, hr29, h⟩ := bind_some h
      refine a_call (args := [(i6 r26), (i6 1), (i6 4)]) (u := []) (r := (.bool r28)) rfl rfl (spec_l01In_ok r26 1 4 r28 hr29) rfl (vp (.bool r28) rfl ?_)
      cases hb30 : r28
      · have h := ite_f hb30 h
        refine a_gskip rfl (a_gskip rfl (a_gskip rfl (a_gskip rfl (vp (.bool false) rfl (vp (.bool false) rfl (a_gskip rfl (a_gskip rfl (a_gskip rfl (a_gskip rfl ?_)))))))))
        refine a_gskip rfl (vp (.bool false) rfl (vp (.bool false) rfl (a_gskip rfl (a_gskip rfl (a_gskip rfl (a_gskip rfl (a_gskip rfl (vp (.bool false) rfl (vp (.bool false) rfl ?_)))))))))
        refine a_gskip rfl (a_gskip rfl (a_gskip rfl (a_gskip rfl (vp (.bool false) rfl (vp (.bool false) rfl (nx _ rfl (a_ret ?_)))))))
        refine ⟨.inr rfl, ?_⟩
        rw [Try.results108]
        cases h
        exact ⟨_, _, _, _, _, rfl, trivial, .inl ⟨rfl, .inl rfl⟩, rfl, rfl⟩
      · have h := ite_t hb30 h
        refine gp (i6 a0.1) rfl rfl (gq (.own 1 [1] [1]) rfl rfl (Nat.le_of_ble_eq_true rfl) ?_)
        have hl31 : LdOk [1] (eT_i64_A64u8_A64u8_A64u8_Z a0) [1] 64 true (eA64u8 a0.2.1) := (.fld rfl rfl rfl rfl (.nil rfl rfl rfl))
        refine gq (eA64u8 a0.2.1) rfl (ld_own (i := ⟨.arr 64 5, 64, 64, (eA64u8 (vrep 64 (0 : Int)))⟩) rfl rfl rfl hl31) hl31.c ?_
        obtain ⟨r32, hr33, h⟩ := bind_some h
        refine a_gcall rfl (args := [(i6 a0.1), (eA64u8 a0.2.1)]) (u := []) (r := (.bool r32)) rfl rfl (spec_l01Irreducible_ok a0.1 a0.2.1 r32 hr33) rfl (vp (.bool r32) rfl (vp (.bool r32) rfl ?_))
        cases hb34 : r32
        · have h := ite_f hb34 h
          refine a_gskip rfl (a_gskip rfl (a_gskip rfl (a_gskip rfl (a_gskip rfl (vp (.bool false) rfl (vp (.bool false) rfl (a_gskip rfl (a_gskip rfl (a_gskip rfl ?_)))))))))
          refine a_gskip rfl (a_gskip rfl (vp (.bool false) rfl (vp (.bool false) rfl (a_gskip rfl (a_gskip rfl (a_gskip rfl (a_gskip rfl (vp (.bool false) rfl (vp (.bool false) rfl ?_)))))))))
          refine nx _ rfl (a_ret ?_)
          refine ⟨.inr rfl, ?_⟩
          rw [Try.results108]
          cases h
          exact ⟨_, _, _, _, _, rfl, trivial, .inl ⟨rfl, .inl rfl⟩, rfl, rfl⟩
        · have h := ite_t hb34 h
          refine gq (.own 1 [2] [65]) rfl rfl (Nat.le_of_ble_eq_true rfl) ?_
          have hl35 : LdOk [2] (eT_i64_A64u8_A64u8_A64u8_Z a0) [65] 64 true (eA64u8 a0.2.2.1) := (.fld rfl rfl rfl rfl (.nil rfl rfl rfl))
          refine gq (eA64u8 a0.2.2.1) rfl (ld_own (i := ⟨.arr 64 5, 64, 64, (eA64u8 (vrep 64 (0 : Int)))⟩) rfl rfl rfl hl35) hl35.c ?_
          obtain ⟨r36, hr37, h⟩ := bind_some h
          refine a_gcall rfl (args := [(eA64u8 a0.2.2.1)]) (u := []) (r := (i6 r36)) rfl rfl (spec_l01Deg_ok a0.2.2.1 r36 hr37) rfl (gp (i6 r26) rfl rfl (gp (.bool ((decide (r36 < r26)))) rfl rfl (vp (.bool ((decide (r36 < r26)))) rfl (vp (.bool ((decide (r36 < r26)))) rfl ?_))))
          cases hb38 : (decide (r36 < r26))
          · have h := ite_f hb38 h
            refine a_gskip rfl (a_gskip rfl (a_gskip rfl (a_gskip rfl (a_gskip rfl (vp (.bool false) rfl (vp (.bool false) rfl (a_gskip rfl (a_gskip rfl (a_gskip rfl ?_)))))))))
            refine a_gskip rfl (vp (.bool false) rfl (vp (.bool false) rfl (nx _ rfl (a_ret ?_))))
            refine ⟨.inr rfl, ?_⟩
            rw [Try.results108]
            cases h
            exact ⟨_, _, _, _, _, rfl, trivial, .inl ⟨rfl, .inl rfl⟩, rfl, rfl⟩
          · have h := ite_t hb38 h
            refine gq (.own 1 [3] [129]) rfl rfl (Nat.le_of_ble_eq_true rfl) ?_
            have hl39 : LdOk [3] (eT_i64_A64u8_A64u8_A64u8_Z a0) [129] 64 true (eA64u8 a0.2.2.2) := (.fld rfl rfl rfl rfl (.nil rfl rfl rfl))
            refine gq (eA64u8 a0.2.2.2) rfl (ld_own (i := ⟨.arr 64 5, 64, 64, (eA64u8 (vrep 64 (0 : Int)))⟩) rfl rfl rfl hl39) hl39.c ?_
            obtain ⟨r40, hr41, h⟩ := bind_some h
            refine a_gcall rfl (args := [(eA64u8 a0.2.2.2)]) (u := []) (r := (i6 r40)) rfl rfl (spec_l01Deg_ok a0.2.2.2 r40 hr41) rfl (gp (i6 r26) rfl rfl (gp (.bool ((decide (r40 < r26)))) rfl rfl (vp (.bool ((decide (r40 < r26)))) rfl (vp (.bool ((decide (r40 < r26)))) rfl ?_))))
            cases hb42 : (decide (r40 < r26))
            · have h := ite_f hb42 h
              refine a_gskip rfl (a_gskip rfl (a_gskip rfl (a_gskip rfl (vp (.bool false) rfl (vp (.bool false) rfl (nx _ rfl (a_ret ?_)))))))
              refine ⟨.inr rfl, ?_⟩
              rw [Try.results108]
              cases h
              exact ⟨_, _, _, _, _, rfl, trivial, .inl ⟨rfl, .inl rfl⟩, rfl, rfl⟩
            · have h := ite_t hb42 h
              refine gq (.own 1 [3] [129]) rfl rfl (Nat.le_of_ble_eq_true rfl) ?_
              have hl43 : LdOk [3] (eT_i64_A64u8_A64u8_A64u8_Z a0) [129] 64 true (eA64u8 a0.2.2.2) := (.fld rfl rfl rfl rfl (.nil rfl rfl rfl))
              refine gq (eA64u8 a0.2.2.2) rfl (ld_own (i := ⟨.arr 64 5, 64, 64, (eA64u8 (vrep 64 (0 : Int)))⟩) rfl rfl rfl hl43) hl43.c (gq (eA64u8 ((vrep 64 (0 : Int)))) rfl rfl ⟨⟨_, rfl, rfl⟩, all_nil⟩ (gq (.bool ((!decide (a0.2.2.2 = ((vrep 64 (0 : Int))))))) rfl (nea_run (f := (AV.int .u8)) (a := a0.2.2.2.1) (b := ((vrep 64 (0 : Int))).1) rfl rfl (eqb_vec (fun _ _ => eqb_int _ _) a0.2.2.2 ((vrep 64 (0 : Int))))) (cmp_arr (g := 8) (f := (AV.int .u8)) (x := a0.2.2.2) (y := ((vrep 64 (0 : Int)))) rfl rfl rfl (fun _ _ => rfl) (fun _ _ => cmp_int rfl)) (vp (.bool ((!decide (a0.2.2.2 = ((vrep 64 (0 : Int))))))) rfl (vp (.bool ((!decide (a0.2.2.2 = ((vrep 64 (0 : Int))))))) rfl (nx _ rfl (a_ret ?_))))))
              refine ⟨.inr rfl, ?_⟩
              rw [Try.results108]
              cases h
              exact ⟨_, _, _, _, _, rfl, trivial, .inl ⟨rfl, .inl rfl⟩, rfl, rfl⟩
    · have h := ite_t hb24 h
      refine a_cond_t rfl (sr (vp (.bool false) rfl (nx _ rfl (a_ret (t_ret ?_)))))
      refine ⟨.inr rfl, ?_⟩
      rw [Try.results108]
      cases h
      exact ⟨_, _, _, _, _, rfl, trivial, .inl ⟨rfl, .inl rfl⟩, rfl, rfl⟩
  · have h := hy13
    refine a_region (vp (i6 a0.1) rfl (vb (.own 1 [1] [1]) rfl rfl ?_))
    have hl15 : LdOk [1] (eT_i64_A64u8_A64u8_A64u8_Z a0) [1] 64 true (eA64u8 a0.2.1) := (.fld rfl rfl rfl rfl (.nil rfl rfl rfl))
    refine vq (eA64u8 a0.2.1) (ld_own (i := ⟨.arr 64 5, 64, 64, (eA64u8 (vrep 64 (0 : Int)))⟩) rfl rfl rfl hl15) hl15.c (vb (.own 1 [2] [65]) rfl rfl ?_)
    have hl16 : LdOk [2] (eT_i64_A64u8_A64u8_A64u8_Z a0) [65] 64 true (eA64u8 a0.2.2.1) := (.fld rfl rfl rfl rfl (.nil rfl rfl rfl))
    refine vq (eA64u8 a0.2.2.1) (ld_own (i := ⟨.arr 64 5, 64, 64, (eA64u8 (vrep 64 (0 : Int)))⟩) rfl rfl rfl hl16) hl16.c (vb (.own 1 [3] [129]) rfl rfl ?_)
    have hl17 : LdOk [3] (eT_i64_A64u8_A64u8_A64u8_Z a0) [129] 64 true (eA64u8 a0.2.2.2) := (.fld rfl rfl rfl rfl (.nil rfl rfl rfl))
    refine vq (eA64u8 a0.2.2.2) (ld_own (i := ⟨.arr 64 5, 64, 64, (eA64u8 (vrep 64 (0 : Int)))⟩) rfl rfl rfl hl17) hl17.c (vq (.sl 64 true (([a0.2.1, a0.2.2.1, a0.2.2.2]).map eA64u8)) rfl ⟨(Nat.le_of_ble_eq_true rfl), (Nat.le_of_ble_eq_true rfl), (all_cons ⟨(Nat.le_of_ble_eq_true rfl), rfl⟩ (all_cons ⟨(Nat.le_of_ble_eq_true rfl), rfl⟩ (all_cons ⟨(Nat.le_of_ble_eq_true rfl), rfl⟩ all_nil)))⟩ ?_)
    obtain ⟨r18, hr19, h⟩ := bind_some h
    refine a_call (args := [(i6 a0.1), (.sl 64 true (([a0.2.1, a0.2.2.1, a0.2.2.2]).map eA64u8))]) (u := []) (r := (i6 r18)) rfl rfl (Den.args (spec_l01Code_ok a0.1 ([a0.2.1, a0.2.2.1, a0.2.2.2]) r18 hr19) rfl rfl (.cons (.refl _) (.cons (.loose _) .nil))) rfl (vp (.bool (r18 != 0)) rfl (vp (.bool (r18 != 0)) rfl ?_))
    cases hb20 : (r18 != 0)
    · have h := ite_f hb20 h
      refine gq (.own 1 [1] [1]) rfl rfl (Nat.le_of_ble_eq_true rfl) ?_
      have hl21 : LdOk [1] (eT_i64_A64u8_A64u8_A64u8_Z a0) [1] 64 true (eA64u8 a0.2.1) := (.fld rfl rfl rfl rfl (.nil rfl rfl rfl))
      refine gq (eA64u8 a0.2.1) rfl (ld_own (i := ⟨.arr 64 5, 64, 64, (eA64u8 (vrep 64 (0 : Int)))⟩) rfl rfl rfl hl21) hl21.c ?_
      obtain ⟨r22, hr23, h⟩ := bind_some h
      refine a_gcall rfl (args := [(eA64u8 a0.2.1)]) (u := []) (r := (.bool r22)) rfl rfl (spec_l01Monic_ok a0.2.1 r22 hr23) rfl (gp (.bool (!r22)) rfl rfl (vp (.bool (!r22)) rfl (a_nil ?_)))
      exact j_leaf (!r22) (Option.some.inj h) (by kernel_rfl)
    · have h := ite_t hb20 h
      refine a_gskip rfl (a_gskip rfl (a_gskip rfl (a_gskip rfl (vp (.bool true) rfl (a_nil ?_)))))
      exact j_leaf true (Option.some.inj h) (by kernel_rfl)
def spec_l02Inverse_c : ACode := (.seq (.region 0 [q 4 (.box 26 (t 1)), q 5 (.box 26 (t 2)), q 6 (.alloc 26)] false) (.seq (.region 1 [q 11 (.mov (t 0)), q 12 (.mov (t 0)), q 13 (.load 26 (t 4)), q 14 (.load 26 (t 5)), ⟨some 15, .call 0 (.func 96) [(t 12), (t 13), (t 14)], none, [1, 2, 3]⟩, q 16 (.load 26 (t 5)), ⟨some 17, .call 0 (.func 163) [(t 11), (t 15), (t 16)], none, [0, 4, 5, 4]⟩, ⟨some 10, .mov (t 17), none, [6]⟩, ⟨some 18, .extract (t 10) 0, none, [7]⟩, ⟨some 19, .extract (t 10) 1, none, [7]⟩, ⟨some 20, .extract (t 10) 2, none, [7]⟩, q 7 (.alloc 26), q 8 (.alloc 26), q 9 (.alloc 26), ⟨none, .store 26 (t 7) (t 18), none, [11, 8, 6, 0, 1, 2, 3, 4, 5, 6, 7, 8, 11, 12, 13]⟩, ⟨none, .store 26 (t 8) (t 19), none, [12, 9, 14, 0, 1, 2, 3, 4, 5, 6, 7, 8, 9, 11, 12, 13, 14]⟩, ⟨none, .store 26 (t 9) (t 20), none, [13, 10, 15, 0, 1, 2, 3, 4, 5, 6, 7, 8, 9, 10, 11, 12, 13, 14, 15]⟩] true) (.seq (.region 2 [q 21 (.mov (t 0)), q 22 (.load 26 (t 8)), q 23 (.load 26 (t 5)), q 24 (.call 0 (.func 96) [(t 21), (t 22), (t 23)]), ⟨none, .store 26 (t 6) (t 24), none, []⟩] false) .ret)))
def spec_l02Inverse_L : Live := [(0, [0, 1, 2]), (1, [0, 4, 5, 6]), (2, [0, 5, 6, 8])]
noncomputable def spec_l02Inverse (a0 : Int) (a1 : (Vec Int 64)) (a2 : (Vec Int 64)) : Option (Vec Int 64) :=
  (Option.bind (spec_l01Mod a0 a1 a2) fun r13 => (Option.bind (spec_l01Bezout a0 r13 a2) fun r16 => (Option.bind (spec_l01Mod a0 r16.2.1 a2) fun r23 => (some r23))))
theorem spec_l02Inverse_ok (a0 : Int) (a1 : (Vec Int 64)) (a2 : (Vec Int 64)) (r : (Vec Int 64)) (h : spec_l02Inverse a0 a1 a2 = some r) : Den Try.prog 111 [(i6 a0), (eA64u8 a1), (eA64u8 a2)] { r := (eA64u8 r) } := by
  refine den_of (rs := [(eA64u8 r)]) (ac := spec_l02Inverse_c) (L := spec_l02Inverse_L) (n := 25) (m := []) (c := Try.f111.body.getD .skip) good Try.func111 (by kernel_rfl) (by kernel_rfl) Try.ntmps111 rfl rfl (by kernel_rfl) rfl rfl ?_
  refine a_st (σ' := ⟨[(0, (i6 a0)), (1, (eA64u8 a1)), (2, (eA64u8 a2))], []⟩) (by kernel_rfl) ?_
  unfold spec_l02Inverse_c
  refine sr (vo 1400 (eA64u8 a1) rfl rfl (vo 1500 (eA64u8 a2) rfl rfl (vo 1600 (eA64u8 ((vrep 64 (0 : Int)))) rfl rfl (nx ⟨[(0, (i6 a0)), (4, (ow 4)), (5, (ow 5)), (6, (ow 6))], [(4, (bk (eA64u8 a1))), (5, (bk (eA64u8 a2))), (6, (bk (eA64u8 ((vrep 64 (0 : Int))))))]⟩ (by kernel_rfl) (a_seq (a_draw [⟨[], [], [], []⟩, ⟨[], [], [], []⟩, ⟨[4], [], [], []⟩, ⟨[5], [], [], []⟩, ⟨[], [], [], [1, 2, 3]⟩, ⟨[5], [], [], []⟩, ⟨[], [], [], [0, 1, 2, 3, 4, 5]⟩, ⟨[], [], [], [0, 1, 2, 3, 4, 5, 6]⟩, ⟨[], [], [], [0, 1, 2, 3, 4, 5, 6, 7]⟩, ⟨[], [], [], [0, 1, 2, 3, 4, 5, 6, 7]⟩, ⟨[], [], [], [0, 1, 2, 3, 4, 5, 6, 7]⟩, ⟨[1700], [1700], [1700], []⟩, ⟨[1800], [1800], [1800], []⟩, ⟨[1900], [1900], [1900], []⟩, ⟨[1700], [1700], [], [0, 1, 2, 3, 4, 5, 6, 7, 8, 11, 12, 13]⟩, ⟨[1800], [1800], [], [0, 1, 2, 3, 4, 5, 6, 7, 8, 9, 11, 12, 13, 14]⟩, ⟨[1900], [1900], [], [0, 1, 2, 3, 4, 5, 6, 7, 8, 9, 10, 11, 12, 13, 14, 15]⟩] (by kernel_rfl) (dp (i6 a0) rfl (by kernel_rfl) (dp (i6 a0) rfl (by kernel_rfl) (d_cons ?_)))))))))
  refine vl (eA64u8 a1) rfl rfl rfl rfl rfl rfl (d_next (by kernel_rfl) (d_cons (vl (eA64u8 a2) rfl rfl rfl rfl rfl rfl (d_next (by kernel_rfl) (d_cons ?_)))))
  obtain ⟨r13, hr14, h⟩ := bind_some h
  refine a_call (args := [(i6 a0), (eA64u8 a1), (eA64u8 a2)]) (u := []) (r := (eA64u8 r13)) rfl rfl (spec_l01Mod_ok a0 a1 a2 r13 hr14) rfl (d_next (by kernel_rfl) (d_cons (vl (eA64u8 a2) rfl rfl rfl rfl rfl rfl (d_next (by kernel_rfl) (d_cons ?_)))))
  obtain ⟨r16, hr17, h⟩ := bind_some h
  refine a_call (args := [(i6 a0), (eA64u8 r13), (eA64u8 a2)]) (u := []) (r := (.tuple [(eA64u8 r16.1), (eA64u8 r16.2.1), (eA64u8 r16.2.2)])) rfl rfl (spec_l01Bezout_ok a0 r13 a2 r16 hr17) rfl (d_next (by kernel_rfl) (dp (.tuple [(eA64u8 r16.1), (eA64u8 r16.2.1), (eA64u8 r16.2.2)]) rfl (by kernel_rfl) (d_cons (vb (eA64u8 r16.1) rfl rfl (d_next (by kernel_rfl) (d_cons (vb (eA64u8 r16.2.1) rfl rfl (d_next (by kernel_rfl) (d_cons ?_)))))))))
  refine vb (eA64u8 r16.2.2) rfl rfl (d_next (by kernel_rfl) (d_cons (vo 1700 (eA64u8 ((vrep 64 (0 : Int)))) rfl rfl (d_next (by kernel_rfl) (d_cons (vo 1800 (eA64u8 ((vrep 64 (0 : Int)))) rfl rfl (d_next (by kernel_rfl) (d_cons (vo 1900 (eA64u8 ((vrep 64 (0 : Int)))) rfl rfl ?_)))))))))
  refine d_next (by kernel_rfl) (d_cons (vs (eA64u8 r16.1) rfl rfl (fun _ => rfl) rfl rfl rfl rfl rfl rfl (d_next (by kernel_rfl) (d_cons (vs (eA64u8 r16.2.1) rfl rfl (fun _ => rfl) rfl rfl rfl rfl rfl rfl (d_next (by kernel_rfl) (d_cons (vs (eA64u8 r16.2.2) rfl rfl (fun _ => rfl) rfl rfl rfl rfl rfl rfl (d_next (by kernel_rfl) ?_)))))))))
  refine d_nil (a_next (σ' := ⟨[(0, (i6 a0)), (5, (ow 5)), (6, (ow 6)), (8, (ow 8))], [(5, (bk (eA64u8 a2))), (6, (bk (eA64u8 ((vrep 64 (0 : Int)))))), (8, (bk (eA64u8 r16.2.1)))]⟩) (by kernel_rfl) (sr (vp (i6 a0) rfl (vl (eA64u8 r16.2.1) rfl rfl rfl rfl rfl rfl (vl (eA64u8 a2) rfl rfl rfl rfl rfl rfl ?_)))))
  obtain ⟨r23, hr24, h⟩ := bind_some h
  refine a_call (args := [(i6 a0), (eA64u8 r16.2.1), (eA64u8 a2)]) (u := []) (r := (eA64u8 r23)) rfl rfl (spec_l01Mod_ok a0 r16.2.1 a2 r23 hr24) rfl (vs (eA64u8 r23) rfl rfl (fun _ => rfl) rfl rfl rfl rfl rfl rfl (nx _ rfl (a_ret ?_)))
  have hl26 : LdOk [] (eA64u8 r23) [] 64 true (eA64u8 r23) := (.nil rfl rfl rfl)
  refine ⟨.inr rfl, ?_⟩
  rw [Try.results111]
  cases h
  exact ⟨_, _, _, _, _, ld_own (i := ⟨.arr 64 5, 64, 64, (eA64u8 (vrep 64 (0 : Int)))⟩) rfl rfl rfl hl26, hl26.c, .inl ⟨rfl, .inl rfl⟩, rfl, rfl⟩
def spec_l06Times_c : ACode := (.seq (.region 0 [q 3 (.box 58 (t 0)), q 4 (.box 26 (t 1)), q 5 (.box 26 (t 2)), q 6 (.alloc 26)] false) (.seq (.region 1 [q 7 (.fieldAddr 58 (t 3) 0), q 8 (.load 2 (t 7)), q 9 (.load 26 (t 4)), q 10 (.load 26 (t 5)), q 11 (.fieldAddr 58 (t 3) 1), q 12 (.load 26 (t 11)), q 13 (.call 0 (.func 162) [(t 8), (t 9), (t 10), (t 12)]), ⟨none, .store 26 (t 6) (t 13), none, []⟩] false) .ret))
def spec_l06Times_L : Live := [(0, [0, 1, 2]), (1, [3, 4, 5, 6])]
noncomputable def spec_l06Times (a0 : (Int × (Vec Int 64) × (Vec Int 64) × (Vec Int 64))) (a1 : (Vec Int 64)) (a2 : (Vec Int 64)) : Option (Vec Int 64) :=
  (Option.bind (spec_l01MulMod a0.1 a1 a2 a0.2.1) fun r5 => (some r5))
theorem spec_l06Times_ok (a0 : (Int × (Vec Int 64) × (Vec Int 64) × (Vec Int 64))) (a1 : (Vec Int 64)) (a2 : (Vec Int 64)) (r : (Vec Int 64)) (h : spec_l06Times a0 a1 a2 = some r) : Den Try.prog 110 [(eT_i64_A64u8_A64u8_A64u8_Z a0), (eA64u8 a1), (eA64u8 a2)] { r := (eA64u8 r) } := by
  refine den_of (rs := [(eA64u8 r)]) (ac := spec_l06Times_c) (L := spec_l06Times_L) (n := 14) (m := []) (c := Try.f110.body.getD .skip) good Try.func110 (by kernel_rfl) (by kernel_rfl) Try.ntmps110 rfl rfl (by kernel_rfl) rfl rfl ?_
  refine a_st (σ' := ⟨[(0, (eT_i64_A64u8_A64u8_A64u8_Z a0)), (1, (eA64u8 a1)), (2, (eA64u8 a2))], []⟩) (by kernel_rfl) ?_
  unfold spec_l06Times_c
  refine sr (vo 1300 (eT_i64_A64u8_A64u8_A64u8_Z a0) rfl rfl (vo 1400 (eA64u8 a1) rfl rfl (vo 1500 (eA64u8 a2) rfl rfl (vo 1600 (eA64u8 ((vrep 64 (0 : Int)))) rfl rfl (nx ⟨[(3, (ow 3)), (4, (ow 4)), (5, (ow 5)), (6, (ow 6))], [(3, (bk (eT_i64_A64u8_A64u8_A64u8_Z a0))), (4, (bk (eA64u8 a1))), (5, (bk (eA64u8 a2))), (6, (bk (eA64u8 ((vrep 64 (0 : Int))))))]⟩ (by kernel_rfl) (sr (vb (.own 3 [0] [0]) rfl rfl ?_)))))))
  have hl1 : LdOk [0] (eT_i64_A64u8_A64u8_A64u8_Z a0) [0] 1 false (i6 a0.1) := (.fld rfl rfl rfl rfl (.nil rfl rfl rfl))
  refine vq (i6 a0.1) (ld_own (i := ⟨.int .i64, 1, 8, (.int .i64 0)⟩) rfl rfl rfl hl1) hl1.c (vl (eA64u8 a1) rfl rfl rfl rfl rfl rfl (vl (eA64u8 a2) rfl rfl rfl rfl rfl rfl (vb (.own 3 [1] [1]) rfl rfl ?_)))
  have hl4 : LdOk [1] (eT_i64_A64u8_A64u8_A64u8_Z a0) [1] 64 true (eA64u8 a0.2.1) := (.fld rfl rfl rfl rfl (.nil rfl rfl rfl))
  refine vq (eA64u8 a0.2.1) (ld_own (i := ⟨.arr 64 5, 64, 64, (eA64u8 (vrep 64 (0 : Int)))⟩) rfl rfl rfl hl4) hl4.c ?_
  obtain ⟨r5, hr6, h⟩ := bind_some h
  refine a_call (args := [(i6 a0.1), (eA64u8 a1), (eA64u8 a2), (eA64u8 a0.2.1)]) (u := []) (r := (eA64u8 r5)) rfl rfl (spec_l01MulMod_ok a0.1 a1 a2 a0.2.1 r5 hr6) rfl (vs (eA64u8 r5) rfl rfl (fun _ => rfl) rfl rfl rfl rfl rfl rfl (nx _ rfl (a_ret ?_)))
  have hl8 : LdOk [] (eA64u8 r5) [] 64 true (eA64u8 r5) := (.nil rfl rfl rfl)
  refine ⟨.inr rfl, ?_⟩
  rw [Try.results110]
  cases h
  exact ⟨_, _, _, _, _, ld_own (i := ⟨.arr 64 5, 64, 64, (eA64u8 (vrep 64 (0 : Int)))⟩) rfl rfl rfl hl8, hl8.c, .inl ⟨rfl, .inl rfl⟩, rfl, rfl⟩
def spec_InvariantOf_c : ACode := (.seq (.region 0 [q 1 (.box 58 (t 0)), q 2 (.alloc 26), q 3 (.asg 0 (.const (.int .i64 0)) 2)] false) (.seq (.seq (.region 1 [q 5 (.load 58 (t 1)), q 6 (.call 0 (.func 108) [(t 5)]), q 7 (.un .not (t 6))] false) (.cond (t 7) (.seq (.region 2 [q 8 (.build 26 []), ⟨none, .store 26 (t 2) (t 8), none, []⟩, q 3 (.asg 0 (.const (.int .i64 1)) 2)] false) .ret) .skip)) (.seq (.region 3 [q 9 (.fieldAddr 58 (t 1) 0), q 10 (.load 2 (t 9)), q 11 (.fieldAddr 58 (t 1) 2), q 12 (.load 26 (t 11)), q 13 (.fieldAddr 58 (t 1) 0), q 14 (.load 2 (t 13)), q 15 (.bin .add 2 (t 14) (.const (.int .i64 1))), q 16 (.fieldAddr 58 (t 1) 1), q 17 (.load 26 (t 16)), q 18 (.call 0 (.func 109) [(t 10), (t 12), (t 15), (t 17)]), q 4 (.alloc 26), ⟨none, .store 26 (t 4) (t 18), none, []⟩] false) (.seq (.region 4 [q 19 (.load 58 (t 1)), q 20 (.load 26 (t 4)), q 21 (.fieldAddr 58 (t 1) 0), ⟨some 22, .load 2 (t 21), none, [2]⟩, q 23 (.fieldAddr 58 (t 1) 3), ⟨some 24, .load 26 (t 23), none, [4]⟩, q 25 (.fieldAddr 58 (t 1) 1), ⟨some 26, .load 26 (t 25), none, [6]⟩, ⟨some 27, .call 0 (.func 111) [(t 22), (t 24), (t 26)], none, [3, 5, 7]⟩, ⟨some 28, .call 0 (.func 110) [(t 19), (t 20), (t 27)], none, [0, 1, 8, 8]⟩, ⟨none, .store 26 (t 2) (t 28), none, [9, 9, 0, 1, 2, 3, 4, 5, 6, 7, 8, 9]⟩, ⟨some 3, .asg 0 (.const (.int .i64 0)) 2, none, [10, 0, 1, 2, 3, 4, 5, 6, 7, 8, 9, 10]⟩] true) .ret))))
def spec_InvariantOf_L : Live := [(0, [0]), (1, [1, 2]), (2, [2]), (3, [1, 2]), (4, [1, 2, 4]), (100007, [1, 2, 7])]
noncomputable def spec_InvariantOf (a0 : (Int × (Vec Int 64) × (Vec Int 64) × (Vec Int 64))) : Option ((Vec Int 64) × Int) :=
  (Option.bind (spec_l06Is a0) fun r2 => (if (!r2) then (some (((vrep 64 (0 : Int)), 1))) else (Option.bind (spec_l01PowMod a0.1 a0.2.2.1 (IntKind.i64.wrap (a0.1 + 1)) a0.2.1) fun r9 => (Option.bind (spec_l02Inverse a0.1 a0.2.2.2 a0.2.1) fun r27 => (Option.bind (spec_l06Times a0 r9 r27) fun r29 => (some (r29, 0)))))))
theorem spec_InvariantOf_ok (a0 : (Int × (Vec Int 64) × (Vec Int 64) × (Vec Int 64))) (r : ((Vec Int 64) × Int)) (h : spec_InvariantOf a0 = some r) : Den Try.prog 47 [(eT_i64_A64u8_A64u8_A64u8_Z a0)] { r := (.tuple [(eA64u8 r.1), (i6 r.2)]) } := by
  refine den_of (rs := [(eA64u8 r.1), (i6 r.2)]) (ac := spec_InvariantOf_c) (L := spec_InvariantOf_L) (n := 29) (m := []) (c := Try.f47.body.getD .skip) good Try.func47 (by kernel_rfl) (by kernel_rfl) Try.ntmps47 rfl rfl (by kernel_rfl) rfl rfl ?_
  refine a_st (σ' := ⟨[(0, (eT_i64_A64u8_A64u8_A64u8_Z a0))], []⟩) (by kernel_rfl) ?_
  unfold spec_InvariantOf_c
  refine sr (vo 1100 (eT_i64_A64u8_A64u8_A64u8_Z a0) rfl rfl (vo 1200 (eA64u8 ((vrep 64 (0 : Int)))) rfl rfl (vp (i6 0) rfl (nx ⟨[(1, (ow 1)), (2, (ow 2))], [(1, (bk (eT_i64_A64u8_A64u8_A64u8_Z a0))), (2, (bk (eA64u8 ((vrep 64 (0 : Int))))))]⟩ (by kernel_rfl) (a_seq (sr (vl (eT_i64_A64u8_A64u8_A64u8_Z a0) rfl rfl rfl rfl rfl rfl ?_)))))))
  obtain ⟨r2, hr3, h⟩ := bind_some h
  refine a_call (args := [(eT_i64_A64u8_A64u8_A64u8_Z a0)]) (u := []) (r := (.bool r2)) rfl rfl (spec_l06Is_ok a0 r2 hr3) rfl (vp (.bool (!r2)) rfl (nx ⟨[(1, (ow 1)), (2, (ow 2)), (7, (.bool (!r2)))], [(1, (bk (eT_i64_A64u8_A64u8_A64u8_Z a0))), (2, (bk (eA64u8 ((vrep 64 (0 : Int))))))]⟩ (by kernel_rfl) ?_))
  cases hb4 : (!r2)
  · have h := ite_f hb4 h
    refine a_cond_f rfl (a_skip (a_next (σ' := ⟨[(1, (ow 1)), (2, (ow 2))], [(1, (bk (eT_i64_A64u8_A64u8_A64u8_Z a0))), (2, (bk (eA64u8 ((vrep 64 (0 : Int))))))]⟩) (by kernel_rfl) (sr (vb (.own 1 [0] [0]) rfl rfl ?_))))
    have hl5 : LdOk [0] (eT_i64_A64u8_A64u8_A64u8_Z a0) [0] 1 false (i6 a0.1) := (.fld rfl rfl rfl rfl (.nil rfl rfl rfl))
    refine vq (i6 a0.1) (ld_own (i := ⟨.int .i64, 1, 8, (.int .i64 0)⟩) rfl rfl rfl hl5) hl5.c (vb (.own 1 [2] [65]) rfl rfl ?_)
    have hl6 : LdOk [2] (eT_i64_A64u8_A64u8_A64u8_Z a0) [65] 64 true (eA64u8 a0.2.2.1) := (.fld rfl rfl rfl rfl (.nil rfl rfl rfl))
    refine vq (eA64u8 a0.2.2.1) (ld_own (i := ⟨.arr 64 5, 64, 64, (eA64u8 (vrep 64 (0 : Int)))⟩) rfl rfl rfl hl6) hl6.c (vb (.own 1 [0] [0]) rfl rfl ?_)
    have hl7 : LdOk [0] (eT_i64_A64u8_A64u8_A64u8_Z a0) [0] 1 false (i6 a0.1) := (.fld rfl rfl rfl rfl (.nil rfl rfl rfl))
    refine vq (i6 a0.1) (ld_own (i := ⟨.int .i64, 1, 8, (.int .i64 0)⟩) rfl rfl rfl hl7) hl7.c (vp (i6 (IntKind.i64.wrap (a0.1 + 1))) rfl (vb (.own 1 [1] [1]) rfl rfl ?_))
    have hl8 : LdOk [1] (eT_i64_A64u8_A64u8_A64u8_Z a0) [1] 64 true (eA64u8 a0.2.1) := (.fld rfl rfl rfl rfl (.nil rfl rfl rfl))
    refine vq (eA64u8 a0.2.1) (ld_own (i := ⟨.arr 64 5, 64, 64, (eA64u8 (vrep 64 (0 : Int)))⟩) rfl rfl rfl hl8) hl8.c ?_
    obtain ⟨r9, hr10, h⟩ := bind_some h
    refine a_call (args := [(i6 a0.1), (eA64u8 a0.2.2.1), (i6 (IntKind.i64.wrap (a0.1 + 1))), (eA64u8 a0.2.1)]) (u := []) (r := (eA64u8 r9)) rfl rfl (spec_l01PowMod_ok a0.1 a0.2.2.1 (IntKind.i64.wrap (a0.1 + 1)) a0.2.1 r9 hr10) rfl (vo 1400 (eA64u8 ((vrep 64 (0 : Int)))) rfl rfl (vs (eA64u8 r9) rfl rfl (fun _ => rfl) rfl rfl rfl rfl rfl rfl (nx ⟨[(1, (ow 1)), (2, (ow 2)), (4, (ow 4))], [(1, (bk (eT_i64_A64u8_A64u8_A64u8_Z a0))), (2, (bk (eA64u8 ((vrep 64 (0 : Int)))))), (4, (bk (eA64u8 r9)))]⟩ (by kernel_rfl) (a_seq (a_draw [⟨[1], [], [], []⟩, ⟨[4], [], [], []⟩, ⟨[1], [], [1], []⟩, ⟨[1], [], [], [2]⟩, ⟨[1], [], [1], []⟩, ⟨[1], [], [], [4]⟩, ⟨[1], [], [1], []⟩, ⟨[1], [], [], [6]⟩, ⟨[], [], [], [2, 3, 4, 5, 6, 7]⟩, ⟨[], [], [], [0, 1, 2, 3, 4, 5, 6, 7, 8]⟩, ⟨[2], [2], [], [0, 1, 2, 3, 4, 5, 6, 7, 8, 9]⟩, ⟨[], [], [], [0, 1, 2, 3, 4, 5, 6, 7, 8, 9, 10]⟩] (by kernel_rfl) (d_cons (vl (eT_i64_A64u8_A64u8_A64u8_Z a0) rfl rfl rfl rfl rfl rfl (d_next (by kernel_rfl) (d_cons ?_)))))))))
    refine vl (eA64u8 r9) rfl rfl rfl rfl rfl rfl (d_next (by kernel_rfl) (d_cons (vb (.own 1 [0] [0]) rfl rfl (d_next (by kernel_rfl) (d_cons ?_)))))
    have hl24 : LdOk [0] (eT_i64_A64u8_A64u8_A64u8_Z a0) [0] 1 false (i6 a0.1) := (.fld rfl rfl rfl rfl (.nil rfl rfl rfl))
    refine vq (i6 a0.1) (ld_own (i := ⟨.int .i64, 1, 8, (.int .i64 0)⟩) rfl rfl rfl hl24) hl24.c (d_next (by kernel_rfl) (d_cons (vb (.own 1 [3] [129]) rfl rfl (d_next (by kernel_rfl) (d_cons ?_)))))
    have hl25 : LdOk [3] (eT_i64_A64u8_A64u8_A64u8_Z a0) [129] 64 true (eA64u8 a0.2.2.2) := (.fld rfl rfl rfl rfl (.nil rfl rfl rfl))
    refine vq (eA64u8 a0.2.2.2) (ld_own (i := ⟨.arr 64 5, 64, 64, (eA64u8 (vrep 64 (0 : Int)))⟩) rfl rfl rfl hl25) hl25.c (d_next (by kernel_rfl) (d_cons (vb (.own 1 [1] [1]) rfl rfl (d_next (by kernel_rfl) (d_cons ?_)))))
    have hl26 : LdOk [1] (eT_i64_A64u8_A64u8_A64u8_Z a0) [1] 64 true (eA64u8 a0.2.1) := (.fld rfl rfl rfl rfl (.nil rfl rfl rfl))
    refine vq (eA64u8 a0.2.1) (ld_own (i := ⟨.arr 64 5, 64, 64, (eA64u8 (vrep 64 (0 : Int)))⟩) rfl rfl rfl hl26) hl26.c (d_next (by kernel_rfl) (d_cons ?_))
    obtain ⟨r27, hr28, h⟩ := bind_some h
    refine a_call (args := [(i6 a0.1), (eA64u8 a0.2.2.2), (eA64u8 a0.2.1)]) (u := []) (r := (eA64u8 r27)) rfl rfl (spec_l02Inverse_ok a0.1 a0.2.2.2 a0.2.1 r27 hr28) rfl (d_next (by kernel_rfl) (d_cons ?_))
    obtain ⟨r29, hr30, h⟩ := bind_some h
    refine a_call (args := [(eT_i64_A64u8_A64u8_A64u8_Z a0), (eA64u8 r9), (eA64u8 r27)]) (u := []) (r := (eA64u8 r29)) rfl rfl (spec_l06Times_ok a0 r9 r27 r29 hr30) rfl (d_next (by kernel_rfl) (d_cons (vs (eA64u8 r29) rfl rfl (fun _ => rfl) rfl rfl rfl rfl rfl rfl (d_next (by kernel_rfl) (dp (i6 0) rfl (by kernel_rfl) (d_nil (a_next rfl (a_ret ?_))))))))
    have hl32 : LdOk [] (eA64u8 r29) [] 64 true (eA64u8 r29) := (.nil rfl rfl rfl)
    refine ⟨.inr rfl, ?_⟩
    rw [Try.results47]
    cases h
    exact ⟨_, _, _, _, _, ld_own (i := ⟨.arr 64 5, 64, 64, (eA64u8 (vrep 64 (0 : Int)))⟩) rfl rfl rfl hl32, hl32.c, .inl ⟨rfl, .inl rfl⟩, rfl, ⟨_, _, _, _, _, rfl, trivial, .inl ⟨rfl, .inl rfl⟩, rfl, rfl⟩⟩
  · have h := ite_t hb4 h
    refine a_cond_t rfl (sr (vq (eA64u8 ((vrep 64 (0 : Int)))) rfl ⟨⟨_, rfl, rfl⟩, all_nil⟩ (vs (eA64u8 ((vrep 64 (0 : Int)))) rfl rfl (fun _ => rfl) rfl rfl rfl rfl rfl rfl (vp (i6 1) rfl (nx _ rfl (a_ret (t_ret ?_)))))))
    have hl34 : LdOk [] (eA64u8 ((vrep 64 (0 : Int)))) [] 64 true (eA64u8 ((vrep 64 (0 : Int)))) := (.nil rfl rfl rfl)
    refine ⟨.inr rfl, ?_⟩
    rw [Try.results47]
    cases h
    exact ⟨_, _, _, _, _, ld_own (i := ⟨.arr 64 5, 64, 64, (eA64u8 (vrep 64 (0 : Int)))⟩) rfl rfl rfl hl34, hl34.c, .inl ⟨rfl, .inl rfl⟩, rfl, ⟨_, _, _, _, _, rfl, trivial, .inl ⟨rfl, .inl rfl⟩, rfl, rfl⟩⟩
def impl_row_trimmed_c : ACode := (.seq (.region 0 [q 2 (.asg 1 (.const (.slice none 0 0)) 66)] false) (.seq (.region 1 [q 4 (.mov (t 0)), q 5 (.blt 0 .len [(t 4)] [66]), q 3 (.asg 0 (t 5) 3)] false) (.seq (.block 0 (.loop (.seq (.seq (.region 2 [q 6 (.mov (t 3)), q 7 (.bin .gtr 3 (t 6) (.const (.int .i64 0))), q 8 (.mov (t 7)), ⟨some 9, .mov (t 0), some (8, true), []⟩, ⟨some 10, .mov (t 3), some (8, true), []⟩, ⟨some 11, .bin .sub 3 (t 10) (.const (.int .i64 1)), some (8, true), []⟩, ⟨some 12, .indexAddr 66 (t 9) (t 11), some (8, true), []⟩, ⟨some 13, .load 2 (t 12), some (8, true), []⟩, ⟨some 14, .bin .eql 2 (t 13) (.const (.int .i64 0)), some (8, true), []⟩, q 15 (.pick (t 8) (t 14) (.const (.bool false)))] false) (.cond (t 15) .skip (.exit 0))) (.block 1 (.region 3 [q 16 (.mov (t 3)), q 17 (.bin .sub 3 (t 16) (.const (.int .i64 1))), q 3 (.asg 0 (t 17) 3)] false))))) (.seq (.region 4 [q 18 (.mov (t 0)), q 19 (.mov (t 3)), q 20 (.mov (t 3)), q 21 (.slice 66 (t 18) none (some (t 19)) (some (t 20))), q 2 (.asg 1 (t 21) 66)] false) .ret))))
def impl_row_trimmed_L : Live := [(0, [0]), (1, [0]), (2, [0, 3]), (3, [0, 3]), (4, [0, 3]), (100015, [0, 3, 15])]
noncomputable def impl_row_trimmed_l1 (a0 : (List Int)) (x62 : Int) : Option (Int ⊕ Int) :=
  (Option.bind (α := Bool) ((if (decide (x62 > 0)) then (ifp (0 ≤ IntKind.i64.wrap (x62 - 1) ∧ IntKind.i64.wrap (x62 - 1) < ((a0.length : Nat) : Int)) ((some ((((rd a0 (IntKind.i64.wrap (x62 - 1)).toNat)) == 0))))) else (some false))) fun x80 => (if x80 then (some (.inl (IntKind.i64.wrap (x62 - 1)))) else (some (.inr x62))))
noncomputable def impl_row_trimmed (a0 : (List Int)) : Option (List Int) :=
  (Option.bind (α := Int) ((loopM (fun s : Int => impl_row_trimmed_l1 a0 s) (a0.length : Int))) fun x43 => (ifp (0 ≤ x43 ∧ x43 ≤ (a0.length : Int)) ((some (a0.take x43.toNat)))))
theorem impl_row_trimmed_ok (a0 : (List Int)) (r : (List Int)) (h : impl_row_trimmed a0 = some r) : Den Try.prog 142 [(eSi64 a0)] { r := (eSi64 r) } := by
  refine den_of (rs := [(eSi64 r)]) (ac := impl_row_trimmed_c) (L := impl_row_trimmed_L) (n := 22) (m := [(2, 1)]) (c := Try.f142.body.getD .skip) good Try.func142 (by kernel_rfl) (by kernel_rfl) Try.ntmps142 rfl rfl (by kernel_rfl) rfl rfl ?_
  refine a_st (σ' := ⟨[(0, (eSi64 a0))], []⟩) (by kernel_rfl) ?_
  unfold impl_row_trimmed_c
  refine sr (vp (eSi64 ([])) rfl (nx ⟨[(0, (eSi64 a0))], []⟩ (by kernel_rfl) (sr (vp (eSi64 a0) rfl (vq (i6 (a0.length : Int)) (len_run rfl rfl) trivial (vp (i6 (a0.length : Int)) rfl (nx ⟨[(0, (eSi64 a0)), (3, (i6 (a0.length : Int)))], []⟩ (by kernel_rfl) ?_)))))))
  obtain ⟨y44, hy45, hk46⟩ := bind_some h
  clear h
  refine a_join (emb := fun (s : Int) => ⟨[(0, (eSi64 a0)), (3, (i6 s))], []⟩) (pre := fun s => s = y44) ?_ ?_
  · rintro x43 rfl
    have h := hk46
    refine a_st (σ' := ⟨[(0, (eSi64 a0)), (3, (i6 x43))], []⟩) (by kernel_rfl) (sr (vp (eSi64 a0) rfl (vp (i6 x43) rfl (vp (i6 x43) rfl ?_))))
    obtain ⟨hc89, h⟩ := ifp_some h
    refine vq (.sl 1 true ((a0.take x43.toNat).map (AV.int .i64))) (take3_run (f := (AV.int .i64)) (l := a0) (i := ⟨.int .i64, 1, 8, (.int .i64 0)⟩) rfl rfl rfl rfl (fun _ => rfl)) ⟨hc89.1, lmap_le hc89.2, rfl⟩ (vq (eSi64 (a0.take x43.toNat)) (asg_tight (i := ⟨.int .i64, 1, 8, (.int .i64 0)⟩) (f := (AV.int .i64)) (l := (a0.take x43.toNat)) rfl rfl rfl) trivial (nx _ rfl (a_ret ?_)))
    refine ⟨.inr rfl, ?_⟩
    rw [Try.results142]
    cases h
    exact ⟨_, _, _, _, _, rfl, trivial, .inl ⟨rfl, .inl rfl⟩, rfl, rfl⟩
  · have h := hy45
    refine a_block ?_
    refine a_loop (emb := fun (s : Int) => ⟨[(0, (eSi64 a0)), (3, (i6 s))], []⟩) (body := (fun s : Int => impl_row_trimmed_l1 a0 s)) (G := fun q => some q = some y44) h rfl ?_ (by kernel_rfl)
    rintro X74 x62 x75 h hX76
    have h : impl_row_trimmed_l1 a0 x62 = some x75 := h
    refine a_st (σ' := ⟨[(0, (eSi64 a0)), (3, (i6 x62))], []⟩) (by kernel_rfl) (a_seq ?_)
    obtain ⟨y81, hy82, hk83⟩ := bind_some h
    clear h
    refine a_join (emb := fun (s : Bool) => ⟨[(0, (eSi64 a0)), (3, (i6 x62)), (15, (.bool s))], []⟩) (pre := fun s => s = y81) ?_ ?_
    · rintro x80 rfl
      have h := hk83
      refine a_st (σ' := ⟨[(0, (eSi64 a0)), (3, (i6 x62)), (15, (.bool x80))], []⟩) (by kernel_rfl) ?_
      cases hb87 : x80
      · have h := ite_f hb87 h
        refine a_cond_f rfl (a_exit (t_exit ?_))
        cases h
        have h := hX76
        refine t_exit (b_exit ?_)
        exact j_leaf x62 (Option.some.inj h) (by kernel_rfl)
      · have h := ite_t hb87 h
        refine a_cond_t rfl (a_skip (a_next (σ' := ⟨[(0, (eSi64 a0)), (3, (i6 x62))], []⟩) (by kernel_rfl) (a_block (a_region (vp (i6 x62) rfl (vp (i6 (IntKind.i64.wrap (x62 - 1))) rfl (vp (i6 (IntKind.i64.wrap (x62 - 1))) rfl (a_nil (b_norm ?_)))))))))
        cases h
        exact a_again (by kernel_rfl) hX76
    · have h := hy82
      refine a_region (vp (i6 x62) rfl (vp (.bool ((decide (x62 > 0)))) rfl (vp (.bool ((decide (x62 > 0)))) rfl ?_)))
      cases hb84 : (decide (x62 > 0))
      · have h := ite_f hb84 h
        refine a_gskip rfl (a_gskip rfl (a_gskip rfl (a_gskip rfl (a_gskip rfl (a_gskip rfl (vp (.bool false) rfl (a_nil ?_)))))))
        exact j_leaf false (Option.some.inj h) (by kernel_rfl)
      · have h := ite_t hb84 h
        refine gp (eSi64 a0) rfl rfl (gp (i6 x62) rfl rfl (gp (i6 (IntKind.i64.wrap (x62 - 1))) rfl rfl ?_))
        obtain ⟨hc85, h⟩ := ifp_some h
        refine gq (.ref (.row 1 (a0.map (AV.int .i64))) [(IntKind.i64.wrap (x62 - 1)).toNat] [(IntKind.i64.wrap (x62 - 1)).toNat * 1]) rfl rfl (lmap hc85) ?_
        have hl86 : LdOk [(IntKind.i64.wrap (x62 - 1)).toNat] (.row 1 (a0.map (AV.int .i64))) [(IntKind.i64.wrap (x62 - 1)).toNat * 1] 1 false (i6 ((rd a0 (IntKind.i64.wrap (x62 - 1)).toNat))) := (.row (llt hc85) rfl (.nil rfl rfl rfl))
        refine gq (i6 ((rd a0 (IntKind.i64.wrap (x62 - 1)).toNat))) rfl (ld_ref (i := ⟨.int .i64, 1, 8, (.int .i64 0)⟩) rfl rfl hl86) hl86.c (gp (.bool ((((rd a0 (IntKind.i64.wrap (x62 - 1)).toNat)) == 0))) rfl rfl (vp (.bool ((((rd a0 (IntKind.i64.wrap (x62 - 1)).toNat)) == 0))) rfl (a_nil ?_)))
        exact j_leaf ((((rd a0 (IntKind.i64.wrap (x62 - 1)).toNat)) == 0)) (Option.some.inj h) (by kernel_rfl)
def impl_rowOf_c : ACode := (.seq (.region 0 [q 1 (.box 26 (t 0)), q 2 (.asg 1 (.const (.slice none 0 0)) 66)] false) (.seq (.region 1 [q 3 (.asg 2 (.const (.slice none 0 0)) 66)] false) (.seq (.seq (.region 2 [q 6 (.load 26 (t 1)), q 7 (.mov (.const (.int .i64 0)))] false) (.block 0 (.loop (.seq (.region 3 [q 8 (.bin .lss 3 (t 7) (.const (.int .i64 64)))] false) (.seq (.cond (t 8) .skip (.exit 0)) (.seq (.block 1 (.seq (.region 4 [q 9 (.index 26 (t 6) (t 7)), q 5 (.asg 0 (t 9) 5)] false) (.region 5 [q 10 (.mov (t 3)), q 11 (.mov (t 5)), q 12 (.conv 5 2 (t 11)), q 13 (.bslice 0 66 1 [(0, (t 12))]), q 14 (.blt 0 .append [(t 10), (t 13)] [66, 66]), q 3 (.asg 2 (t 14) 66)] false))) (.region 6 [q 15 (.bin .add 3 (t 7) (.const (.int .i64 1))), q 7 (.mov (t 15))] false))))))) (.seq (.region 7 [q 16 (.mov (t 3)), q 17 (.call 0 (.func 142) [(t 16)]), q 2 (.asg 1 (t 17) 66)] false) .ret))))
def impl_rowOf_L : Live := [(0, [0]), (1, [1]), (2, [1, 3]), (3, [3, 6, 7]), (4, [3, 6, 7]), (5, [3, 5, 6, 7]), (6, [3, 6, 7]), (7, [3]), (100008, [3, 6, 7, 8])]
noncomputable def impl_rowOf_l1 (a0 : (Vec Int 64)) (x25 : Int) (x26 : (List Int)) : Option ((Int × (List Int)) ⊕ (List Int)) :=
  (if (decide (x25 < 64)) then (ifp (0 ≤ x25 ∧ x25 < ((64 : Nat) : Int)) ((ifp ((x26.length + ([IntKind.i64.wrap (rd a0.1 x25.toNat)] : List Int).length) * 8 ≤ 140737488355328) ((some (.inl ((IntKind.i64.wrap (x25 + 1), (x26 ++ ([IntKind.i64.wrap (rd a0.1 x25.toNat)])))))))))) else (some (.inr x26)))
noncomputable def impl_rowOf (a0 : (Vec Int 64)) : Option (List Int) :=
  (Option.bind (α := (List Int)) ((loopM (fun s : (Int × (List Int)) => impl_rowOf_l1 a0 s.1 s.2) (0, []))) fun x17 => (Option.bind (impl_row_trimmed x17) fun r37 => (some r37)))
theorem impl_rowOf_ok (a0 : (Vec Int 64)) (r : (List Int)) (h : impl_rowOf a0 = some r) : Den Try.prog 68 [(eA64u8 a0)] { r := (eSi64 r) } := by
  refine den_of (rs := [(eSi64 r)]) (ac := impl_rowOf_c) (L := impl_rowOf_L) (n := 18) (m := [(2, 1), (3, 2)]) (c := Try.f68.body.getD .skip) good Try.func68 (by kernel_rfl) (by kernel_rfl) Try.ntmps68 rfl rfl (by kernel_rfl) rfl rfl ?_
  refine a_st (σ' := ⟨[(0, (eA64u8 a0))], []⟩) (by kernel_rfl) ?_
  unfold impl_rowOf_c
  refine sr (vo 1100 (eA64u8 a0) rfl rfl (vp (eSi64 ([])) rfl (nx ⟨[(1, (ow 1))], [(1, (bk (eA64u8 a0)))]⟩ (by kernel_rfl) (sr (vu (.osl 1300) [(1300, (bk (.row 1 (([]).map (AV.int .i64)))))] rfl trivial rfl (nx ⟨[(1, (ow 1)), (3, (.osl 3))], [(1, (bk (eA64u8 a0))), (3, (bk (.row 1 (([]).map (AV.int .i64)))))]⟩ (by kernel_rfl) ?_))))))
  obtain ⟨y18, hy19, hk20⟩ := bind_some h
  clear h
  refine a_join (emb := fun (s : (List Int)) => ⟨[(3, (.osl 3))], [(3, (bk (.row 1 (s.map (AV.int .i64)))))]⟩) (pre := fun s => s = y18) ?_ ?_
  · rintro x17 rfl
    have h := hk20
    refine a_st (σ' := ⟨[(3, (.osl 3))], [(3, (bk (.row 1 (x17.map (AV.int .i64)))))]⟩) (by kernel_rfl) (sr (vp (.osl 3) rfl ?_))
    obtain ⟨r37, hr38, h⟩ := bind_some h
    refine a_call (args := [(eSi64 x17)]) (u := [(3, (bf (.row 1 (x17.map (AV.int .i64)))))]) (r := (eSi64 r37)) rfl rfl (impl_row_trimmed_ok x17 r37 hr38) rfl (vp (eSi64 r37) rfl (nx _ rfl (a_ret ?_)))
    refine ⟨.inr rfl, ?_⟩
    rw [Try.results68]
    cases h
    exact ⟨_, _, _, _, _, rfl, trivial, .inl ⟨rfl, .inl rfl⟩, rfl, rfl⟩
  · have h := hy19
    refine sr (vl (eA64u8 a0) rfl rfl rfl rfl rfl rfl (vp (i6 0) rfl (nx ⟨[(3, (.osl 3)), (6, (eA64u8 a0)), (7, (i6 0))], [(3, (bk (.row 1 (([]).map (AV.int .i64)))))]⟩ (by kernel_rfl) (a_block ?_))))
    refine a_loop (emb := fun (s : (Int × (List Int))) => ⟨[(3, (.osl 3)), (6, (eA64u8 a0)), (7, (i6 s.1))], [(3, (bk (.row 1 (s.2.map (AV.int .i64)))))]⟩) (body := (fun s : (Int × (List Int)) => impl_rowOf_l1 a0 s.1 s.2)) (G := fun q => some q = some y18) h rfl ?_ (by kernel_rfl)
    rintro X30 ⟨x25, x26⟩ x31 h hX32
    have h : impl_rowOf_l1 a0 x25 x26 = some x31 := h
    refine a_st (σ' := ⟨[(3, (.osl 3)), (6, (eA64u8 a0)), (7, (i6 x25))], [(3, (bk (.row 1 (x26.map (AV.int .i64)))))]⟩) (by kernel_rfl) (sr (vp (.bool ((decide (x25 < 64)))) rfl (nx ⟨[(3, (.osl 3)), (6, (eA64u8 a0)), (7, (i6 x25)), (8, (.bool ((decide (x25 < 64)))))], [(3, (bk (.row 1 (x26.map (AV.int .i64)))))]⟩ (by kernel_rfl) (a_seq ?_))))
    cases hb33 : (decide (x25 < 64))
    · have h := ite_f hb33 h
      refine a_cond_f rfl (a_exit (t_exit ?_))
      cases h
      have h := hX32
      refine t_exit (b_exit ?_)
      exact j_leaf x26 (Option.some.inj h) (by kernel_rfl)
    · have h := ite_t hb33 h
      refine a_cond_t rfl (a_skip (a_next (σ' := ⟨[(3, (.osl 3)), (6, (eA64u8 a0)), (7, (i6 x25))], [(3, (bk (.row 1 (x26.map (AV.int .i64)))))]⟩) (by kernel_rfl) (a_seq (a_block (sr ?_)))))
      obtain ⟨hc34, h⟩ := ifp_some h
      refine vq (b8 (rd a0.1 x25.toNat)) (ix_run (i := ⟨.int .u8, 1, 1, (.int .u8 0)⟩) (f := (AV.int .u8)) rfl rfl rfl rfl (vlt a0 hc34)) ⟨hc34.1, hc34.2, rfl, rfl, rfl, rfl⟩ (vp (b8 (rd a0.1 x25.toNat)) rfl (nx ⟨[(3, (.osl 3)), (5, (b8 (rd a0.1 x25.toNat))), (6, (eA64u8 a0)), (7, (i6 x25))], [(3, (bk (.row 1 (x26.map (AV.int .i64)))))]⟩ (by kernel_rfl) (a_region (vp (.osl 3) rfl (vp (b8 (rd a0.1 x25.toNat)) rfl (vp (i6 (IntKind.i64.wrap (rd a0.1 x25.toNat))) rfl (vq (.sl 1 true (([IntKind.i64.wrap (rd a0.1 x25.toNat)]).map (AV.int .i64))) rfl ⟨(Nat.le_of_ble_eq_true rfl), (Nat.le_of_ble_eq_true rfl), (all_cons ⟨(Nat.le_of_ble_eq_true rfl), rfl⟩ all_nil)⟩ ?_)))))))
      obtain ⟨hc35, h⟩ := ifp_some h
      refine vu (.osl 2400) [(2400, (bk (.row 1 (((x26 ++ ([IntKind.i64.wrap (rd a0.1 x25.toNat)]))).map (AV.int .i64))))), (3, none)] (app_run (i := ⟨.int .i64, 1, 8, (.int .i64 0)⟩) (f := (AV.int .i64)) (l := x26) (l2 := [IntKind.i64.wrap (rd a0.1 x25.toNat)]) rfl rfl rfl rfl (fun _ => rfl) rfl rfl) (app_c (f := (AV.int .i64)) (s := 1) (sz := 1) (by' := 8) (u := []) (id := 3) hc35 (.inr rfl) rfl rfl rfl) rfl (vp (.osl 2400) rfl (a_nil (b_norm (a_next (σ' := ⟨[(3, (.osl 3)), (6, (eA64u8 a0)), (7, (i6 x25))], [(3, (bk (.row 1 (((x26 ++ ([IntKind.i64.wrap (rd a0.1 x25.toNat)]))).map (AV.int .i64)))))]⟩) (by kernel_rfl) (a_region (vp (i6 (IntKind.i64.wrap (x25 + 1))) rfl (vp (i6 (IntKind.i64.wrap (x25 + 1))) rfl (a_nil ?_))))))))
      cases h
      exact a_again (by kernel_rfl) hX32
def impl_isPrime_c : ACode := (.seq (.region 0 [q 2 (.asg 0 (.const (.bool false)) 4)] false) (.seq (.region 1 [q 3 (.mov (t 0)), q 4 (.bin .eql 2 (t 3) (.const (.int .i64 2))), q 5 (.mov (t 4)), ⟨some 6, .mov (t 0), some (5, false), []⟩, ⟨some 7, .bin .eql 2 (t 6) (.const (.int .i64 3)), some (5, false), []⟩, q 8 (.pick (t 5) (.const (.bool true)) (t 7)), q 9 (.mov (t 8)), ⟨some 10, .mov (t 0), some (9, false), []⟩, ⟨some 11, .bin .eql 2 (t 10) (.const (.int .i64 5)), some (9, false), []⟩, q 12 (.pick (t 9) (.const (.bool true)) (t 11)), q 13 (.mov (t 12)), ⟨some 14, .mov (t 0), some (13, false), []⟩, ⟨some 15, .bin .eql 2 (t 14) (.const (.int .i64 7)), some (13, false), []⟩, q 16 (.pick (t 13) (.const (.bool true)) (t 15)), q 2 (.asg 0 (t 16) 4)] false) .ret))
def impl_isPrime_L : Live := [(0, [0]), (1, [0])]
noncomputable def impl_isPrime (a0 : Int) : Option Bool :=
  (if (a0 == 2) then (some true) else (if (a0 == 3) then (some true) else (if (a0 == 5) then (some true) else (some (a0 == 7)))))
theorem impl_isPrime_ok (a0 : Int) (r : Bool) (h : impl_isPrime a0 = some r) : Den Try.prog 105 [(i6 a0)] { r := (.bool r) } := by
  refine den_of (rs := [(.bool r)]) (ac := impl_isPrime_c) (L := impl_isPrime_L) (n := 17) (m := []) (c := Try.f105.body.getD .skip) good Try.func105 (by kernel_rfl) (by kernel_rfl) Try.ntmps105 rfl rfl (by kernel_rfl) rfl rfl ?_
  refine a_st (σ' := ⟨[(0, (i6 a0))], []⟩) (by kernel_rfl) ?_
  unfold impl_isPrime_c
  refine sr (vp (.bool false) rfl (nx ⟨[(0, (i6 a0))], []⟩ (by kernel_rfl) (sr (vp (i6 a0) rfl (vp (.bool (a0 == 2)) rfl (vp (.bool (a0 == 2)) rfl ?_))))))
  cases hb1 : (a0 == 2)
  · have h := ite_f hb1 h
    refine gp (i6 a0) rfl rfl (gp (.bool (a0 == 3)) rfl rfl (vp (.bool (a0 == 3)) rfl (vp (.bool (a0 == 3)) rfl ?_)))
    cases hb2 : (a0 == 3)
    · have h := ite_f hb2 h
      refine gp (i6 a0) rfl rfl (gp (.bool (a0 == 5)) rfl rfl (vp (.bool (a0 == 5)) rfl (vp (.bool (a0 == 5)) rfl ?_)))
      cases hb3 : (a0 == 5)
      · have h := ite_f hb3 h
        refine gp (i6 a0) rfl rfl (gp (.bool (a0 == 7)) rfl rfl (vp (.bool (a0 == 7)) rfl (vp (.bool (a0 == 7)) rfl (nx _ rfl (a_ret ?_)))))
        refine ⟨.inr rfl, ?_⟩
        rw [Try.results105]
        cases h
        exact ⟨_, _, _, _, _, rfl, trivial, .inl ⟨rfl, .inl rfl⟩, rfl, rfl⟩
      · have h := ite_t hb3 h
        refine a_gskip rfl (a_gskip rfl (vp (.bool true) rfl (vp (.bool true) rfl (nx _ rfl (a_ret ?_)))))
        refine ⟨.inr rfl, ?_⟩
        rw [Try.results105]
        cases h
        exact ⟨_, _, _, _, _, rfl, trivial, .inl ⟨rfl, .inl rfl⟩, rfl, rfl⟩
    · have h := ite_t hb2 h
      refine a_gskip rfl (a_gskip rfl (vp (.bool true) rfl (vp (.bool true) rfl (a_gskip rfl (a_gskip rfl (vp (.bool true) rfl (vp (.bool true) rfl (nx _ rfl (a_ret ?_)))))))))
      refine ⟨.inr rfl, ?_⟩
      rw [Try.results105]
      cases h
      exact ⟨_, _, _, _, _, rfl, trivial, .inl ⟨rfl, .inl rfl⟩, rfl, rfl⟩
  · have h := ite_t hb1 h
    refine a_gskip rfl (a_gskip rfl (vp (.bool true) rfl (vp (.bool true) rfl (a_gskip rfl (a_gskip rfl (vp (.bool true) rfl (vp (.bool true) rfl (a_gskip rfl (a_gskip rfl ?_)))))))))
    refine vp (.bool true) rfl (vp (.bool true) rfl (nx _ rfl (a_ret ?_)))
    refine ⟨.inr rfl, ?_⟩
    rw [Try.results105]
    cases h
    exact ⟨_, _, _, _, _, rfl, trivial, .inl ⟨rfl, .inl rfl⟩, rfl, rfl⟩
def impl_isPoly_c1_of_p_c : ACode := (.seq (.region 0 [q 3 (.asg 0 (.const (.bool false)) 4)] false) (.seq (.region 1 [q 4 (.mov (t 0)), q 5 (.conv 5 2 (t 4)), q 6 (.load 2 (t 1)), q 7 (.bin .lss 2 (t 5) (t 6)), q 3 (.asg 0 (t 7) 4)] false) .ret))
def impl_isPoly_c1_of_p_L : Live := [(0, [0, 1]), (1, [0, 1])]
noncomputable def impl_isPoly_c1_of_p (a0 : Int) (a1 : Int) : Option Bool :=
  (some ((decide ((IntKind.i64.wrap a0) < a1))))
theorem impl_isPoly_c1_of_p_ok (a0 : Int) (a1 : Int) (r : Bool) (h : impl_isPoly_c1_of_p a0 a1 = some r) : Den Try.prog 179 [(b8 a0), (.ref (i6 a1) [] [])] { r := (.bool r) } := by
  refine den_of (rs := [(.bool r)]) (ac := impl_isPoly_c1_of_p_c) (L := impl_isPoly_c1_of_p_L) (n := 8) (m := []) (c := Try.f179.body.getD .skip) good Try.func179 (by kernel_rfl) (by kernel_rfl) Try.ntmps179 rfl rfl (by kernel_rfl) rfl rfl ?_
  refine a_st (σ' := ⟨[(0, (b8 a0)), (1, (.ref (i6 a1) [] []))], []⟩) (by kernel_rfl) ?_
  unfold impl_isPoly_c1_of_p_c
  refine sr (vp (.bool false) rfl (nx ⟨[(0, (b8 a0)), (1, (.ref (i6 a1) [] []))], []⟩ (by kernel_rfl) (sr (vp (b8 a0) rfl (vp (i6 (IntKind.i64.wrap a0)) rfl ?_)))))
  have hl1 : LdOk [] (i6 a1) [] 1 false (i6 a1) := (.nil rfl rfl rfl)
  refine vq (i6 a1) (ld_ref (i := ⟨.int .i64, 1, 8, (.int .i64 0)⟩) rfl rfl hl1) hl1.c (vp (.bool ((decide ((IntKind.i64.wrap a0) < a1)))) rfl (vp (.bool ((decide ((IntKind.i64.wrap a0) < a1)))) rfl (nx _ rfl (a_ret ?_))))
  refine ⟨.inr rfl, ?_⟩
  rw [Try.results179]
  cases h
  exact ⟨_, _, _, _, _, rfl, trivial, .inl ⟨rfl, .inl rfl⟩, rfl, rfl⟩
def impl_areAll_byte__c1_of_p_c : ACode := (.seq (.region 0 [q 3 (.asg 0 (.const (.bool false)) 4)] false) (.seq (.region 1 [q 4 (.load 168 (t 1)), q 5 (.mov (t 0)), q 6 (.call 0 (t 4) [(t 5)]), q 7 (.un .not (t 6)), q 3 (.asg 0 (t 7) 4)] false) .ret))
def impl_areAll_byte__c1_of_p_L : Live := [(0, [0, 1]), (1, [0, 1])]
noncomputable def impl_areAll_byte__c1_of_p (a0 : Int) (a1c0 : Int) : Option Bool :=
  (Option.bind (impl_isPoly_c1_of_p a0 a1c0) fun r2 => (some (!r2)))
theorem impl_areAll_byte__c1_of_p_ok (a0 : Int) (a1c0 : Int) (r : Bool) (h : impl_areAll_byte__c1_of_p a0 a1c0 = some r) : Den Try.prog 199 [(b8 a0), (.ref (.clo 179 [] [(.ref (i6 a1c0) [] [])]) [] [])] { r := (.bool r) } := by
  refine den_of (rs := [(.bool r)]) (ac := impl_areAll_byte__c1_of_p_c) (L := impl_areAll_byte__c1_of_p_L) (n := 8) (m := []) (c := Try.f199.body.getD .skip) good Try.func199 (by kernel_rfl) (by kernel_rfl) Try.ntmps199 rfl rfl (by kernel_rfl) rfl rfl ?_
  refine a_st (σ' := ⟨[(0, (b8 a0)), (1, (.ref (.clo 179 [] [(.ref (i6 a1c0) [] [])]) [] []))], []⟩) (by kernel_rfl) ?_
  unfold impl_areAll_byte__c1_of_p_c
  refine sr (vp (.bool false) rfl (nx ⟨[(0, (b8 a0)), (1, (.ref (.clo 179 [] [(.ref (i6 a1c0) [] [])]) [] []))], []⟩ (by kernel_rfl) (sr ?_)))
  have hl1 : LdOk [] (.clo 179 [] [(.ref (i6 a1c0) [] [])]) [] 1 false (.clo 179 [] [(.ref (i6 a1c0) [] [])]) := (.nil rfl rfl rfl)
  refine vq (.clo 179 [] [(.ref (i6 a1c0) [] [])]) (ld_ref (i := ⟨.other, 1, 8, (.raw .nilFunc)⟩) rfl rfl hl1) hl1.c (vp (b8 a0) rfl ?_)
  obtain ⟨r2, hr3, h⟩ := bind_some h
  refine a_call (args := [(b8 a0), (.ref (i6 a1c0) [] [])]) (u := []) (r := (.bool r2)) rfl rfl (impl_isPoly_c1_of_p_ok a0 a1c0 r2 hr3) rfl (vp (.bool (!r2)) rfl (vp (.bool (!r2)) rfl (nx _ rfl (a_ret ?_))))
  refine ⟨.inr rfl, ?_⟩
  rw [Try.results199]
  cases h
  exact ⟨_, _, _, _, _, rfl, trivial, .inl ⟨rfl, .inl rfl⟩, rfl, rfl⟩
def slices_IndexFunc_byte_byte_of_impl_areAll_byte__c1_p_c : ACode := (.seq (.region 0 [q 4 (.asg 0 (.const (.int .i64 0)) 3)] false) (.seq (.seq (.region 1 [q 6 (.mov (t 0)), q 7 (.blt 0 .len [(t 6)] [167]), q 8 (.mov (.const (.int .i64 0)))] false) (.block 0 (.loop (.seq (.region 2 [q 9 (.bin .lss 3 (t 8) (t 7))] false) (.seq (.cond (t 9) .skip (.exit 0)) (.seq (.block 1 (.seq (.region 3 [q 10 (.mov (t 8)), q 5 (.asg 0 (t 10) 3)] false) (.seq (.region 4 [q 11 (.mov (t 1)), q 12 (.mov (t 0)), q 13 (.mov (t 5)), q 14 (.indexAddr 167 (t 12) (t 13)), q 15 (.load 5 (t 14)), q 16 (.call 0 (t 11) [(t 15)])] false) (.cond (t 16) (.seq (.region 5 [q 17 (.mov (t 5)), q 4 (.asg 0 (t 17) 3)] false) .ret) .skip)))) (.region 6 [q 18 (.bin .add 3 (t 8) (.const (.int .i64 1))), q 8 (.mov (t 18))] false))))))) (.seq (.region 7 [q 4 (.asg 0 (.const (.int .i64 (-1))) 3)] false) .ret)))
def slices_IndexFunc_byte_byte_of_impl_areAll_byte__c1_p_L : Live := [(0, [0, 1]), (1, [0, 1]), (2, [0, 1, 7, 8]), (3, [0, 1, 7, 8]), (4, [0, 1, 5, 7, 8]), (5, [5]), (6, [0, 1, 7, 8]), (7, []), (100009, [0, 1, 7, 8, 9]), (100016, [0, 1, 5, 7, 8, 16])]
noncomputable def slices_IndexFunc_byte_byte_of_impl_areAll_byte__c1_p_l1 (a0 : (List Int)) (a1c0c0 : Int) (x33 : Int) : Option (Int ⊕ (Unit ⊕ Int)) :=
  (if (decide (x33 < (a0.length : Int))) then (ifp (0 ≤ x33 ∧ x33 < ((a0.length : Nat) : Int)) ((Option.bind (impl_areAll_byte__c1_of_p (rd a0 x33.toNat) a1c0c0) fun r46 => (if r46 then (some (.inr (.inr x33))) else (some (.inl (IntKind.i64.wrap (x33 + 1)))))))) else (some (.inr (((.inl ()))))))
noncomputable def slices_IndexFunc_byte_byte_of_impl_areAll_byte__c1_p (a0 : (List Int)) (a1c0c0 : Int) : Option Int :=
  (Option.bind (α := (Unit ⊕ Int)) ((loopM (fun s : Int => slices_IndexFunc_byte_byte_of_impl_areAll_byte__c1_p_l1 a0 a1c0c0 s) 0)) fun z => match z with | .inl _ => (some (-1)) | .inr r50 => (some r50))
theorem slices_IndexFunc_byte_byte_of_impl_areAll_byte__c1_p_ok (a0 : (List Int)) (a1c0c0 : Int) (r : Int) (h : slices_IndexFunc_byte_byte_of_impl_areAll_byte__c1_p a0 a1c0c0 = some r) : Den Try.prog 215 [(eSu8 a0), (.clo 199 [] [(.ref (.clo 179 [] [(.ref (i6 a1c0c0) [] [])]) [] [])])] { r := (i6 r) } := by
  refine den_of (rs := [(i6 r)]) (ac := slices_IndexFunc_byte_byte_of_impl_areAll_byte__c1_p_c) (L := slices_IndexFunc_byte_byte_of_impl_areAll_byte__c1_p_L) (n := 19) (m := []) (c := Try.f215.body.getD .skip) good Try.func215 (by kernel_rfl) (by kernel_rfl) Try.ntmps215 rfl rfl (by kernel_rfl) rfl rfl ?_
  refine a_st (σ' := ⟨[(0, (eSu8 a0)), (1, (.clo 199 [] [(.ref (.clo 179 [] [(.ref (i6 a1c0c0) [] [])]) [] [])]))], []⟩) (by kernel_rfl) ?_
  unfold slices_IndexFunc_byte_byte_of_impl_areAll_byte__c1_p_c
  refine sr (vp (i6 0) rfl (nx ⟨[(0, (eSu8 a0)), (1, (.clo 199 [] [(.ref (.clo 179 [] [(.ref (i6 a1c0c0) [] [])]) [] [])]))], []⟩ (by kernel_rfl) ?_))
  obtain ⟨y24, hy25, hk26⟩ := bind_some h
  clear h
  refine a_join (emb := fun (s : Unit) => ⟨[], []⟩) (pre := fun s => (.inl s) = y24) ?_ ?_
  · rintro _ rfl
    have h := hk26
    refine a_st (σ' := ⟨[], []⟩) (by kernel_rfl) (sr (vp (i6 (-1)) rfl (nx _ rfl (a_ret ?_))))
    refine ⟨.inr rfl, ?_⟩
    rw [Try.results215]
    cases h
    exact ⟨_, _, _, _, _, rfl, trivial, .inl ⟨rfl, .inl rfl⟩, rfl, rfl⟩
  · have h := hy25
    refine sr (vp (eSu8 a0) rfl (vq (i6 (a0.length : Int)) (len_run rfl rfl) trivial (vp (i6 0) rfl (nx ⟨[(0, (eSu8 a0)), (1, (.clo 199 [] [(.ref (.clo 179 [] [(.ref (i6 a1c0c0) [] [])]) [] [])])), (7, (i6 (a0.length : Int))), (8, (i6 0))], []⟩ (by kernel_rfl) (a_block ?_)))))
    refine a_loop (emb := fun (s : Int) => ⟨[(0, (eSu8 a0)), (1, (.clo 199 [] [(.ref (.clo 179 [] [(.ref (i6 a1c0c0) [] [])]) [] [])])), (7, (i6 (a0.length : Int))), (8, (i6 s))], []⟩) (body := (fun s : Int => slices_IndexFunc_byte_byte_of_impl_areAll_byte__c1_p_l1 a0 a1c0c0 s)) (G := fun q => some q = some y24) h rfl ?_ (by kernel_rfl)
    rintro X40 x33 x41 h hX42
    have h : slices_IndexFunc_byte_byte_of_impl_areAll_byte__c1_p_l1 a0 a1c0c0 x33 = some x41 := h
    refine a_st (σ' := ⟨[(0, (eSu8 a0)), (1, (.clo 199 [] [(.ref (.clo 179 [] [(.ref (i6 a1c0c0) [] [])]) [] [])])), (7, (i6 (a0.length : Int))), (8, (i6 x33))], []⟩) (by kernel_rfl) (sr (vp (.bool ((decide (x33 < (a0.length : Int))))) rfl (nx ⟨[(0, (eSu8 a0)), (1, (.clo 199 [] [(.ref (.clo 179 [] [(.ref (i6 a1c0c0) [] [])]) [] [])])), (7, (i6 (a0.length : Int))), (8, (i6 x33)), (9, (.bool ((decide (x33 < (a0.length : Int))))))], []⟩ (by kernel_rfl) (a_seq ?_))))
    cases hb43 : (decide (x33 < (a0.length : Int)))
    · have h := ite_f hb43 h
      refine a_cond_f rfl (a_exit (t_exit ?_))
      cases h
      have h := hX42
      refine t_exit (b_exit ?_)
      exact j_leaf () (Option.some.inj h) (by kernel_rfl)
    · have h := ite_t hb43 h
      refine a_cond_t rfl (a_skip (a_next (σ' := ⟨[(0, (eSu8 a0)), (1, (.clo 199 [] [(.ref (.clo 179 [] [(.ref (i6 a1c0c0) [] [])]) [] [])])), (7, (i6 (a0.length : Int))), (8, (i6 x33))], []⟩) (by kernel_rfl) (a_seq (a_block (sr (vp (i6 x33) rfl (vp (i6 x33) rfl (nx ⟨[(0, (eSu8 a0)), (1, (.clo 199 [] [(.ref (.clo 179 [] [(.ref (i6 a1c0c0) [] [])]) [] [])])), (5, (i6 x33)), (7, (i6 (a0.length : Int))), (8, (i6 x33))], []⟩ (by kernel_rfl) (sr ?_)))))))))
      refine vp (.clo 199 [] [(.ref (.clo 179 [] [(.ref (i6 a1c0c0) [] [])]) [] [])]) rfl (vp (eSu8 a0) rfl (vp (i6 x33) rfl ?_))
      obtain ⟨hc44, h⟩ := ifp_some h
      refine vq (.ref (.row 1 (a0.map (AV.int .u8))) [x33.toNat] [x33.toNat * 1]) rfl (lmap hc44) ?_
      have hl45 : LdOk [x33.toNat] (.row 1 (a0.map (AV.int .u8))) [x33.toNat * 1] 1 false (b8 (rd a0 x33.toNat)) := (.row (llt hc44) rfl (.nil rfl rfl rfl))
      refine vq (b8 (rd a0 x33.toNat)) (ld_ref (i := ⟨.int .u8, 1, 1, (.int .u8 0)⟩) rfl rfl hl45) hl45.c ?_
      obtain ⟨r46, hr47, h⟩ := bind_some h
      refine a_call (args := [(b8 (rd a0 x33.toNat)), (.ref (.clo 179 [] [(.ref (i6 a1c0c0) [] [])]) [] [])]) (u := []) (r := (.bool r46)) rfl rfl (impl_areAll_byte__c1_of_p_ok (rd a0 x33.toNat) a1c0c0 r46 hr47) rfl (nx ⟨[(0, (eSu8 a0)), (1, (.clo 199 [] [(.ref (.clo 179 [] [(.ref (i6 a1c0c0) [] [])]) [] [])])), (5, (i6 x33)), (7, (i6 (a0.length : Int))), (8, (i6 x33)), (16, (.bool r46))], []⟩ (by kernel_rfl) ?_)
      cases hb48 : r46
      · have h := ite_f hb48 h
        refine a_cond_f rfl (a_skip (b_norm (a_next (σ' := ⟨[(0, (eSu8 a0)), (1, (.clo 199 [] [(.ref (.clo 179 [] [(.ref (i6 a1c0c0) [] [])]) [] [])])), (7, (i6 (a0.length : Int))), (8, (i6 x33))], []⟩) (by kernel_rfl) (a_region (vp (i6 (IntKind.i64.wrap (x33 + 1))) rfl (vp (i6 (IntKind.i64.wrap (x33 + 1))) rfl (a_nil ?_)))))))
        cases h
        exact a_again (by kernel_rfl) hX42
      · have h := ite_t hb48 h
        refine a_cond_t rfl (sr (vp (i6 x33) rfl (vp (i6 x33) rfl (nx _ rfl (a_ret (b_ret (t_ret ?_)))))))
        cases h
        have h := hX42
        refine t_ret (b_ret (t_ret ?_))
        cases h
        have h := hk26
        refine ⟨.inr rfl, ?_⟩
        rw [Try.results215]
        cases h
        exact ⟨_, _, _, _, _, rfl, trivial, .inl ⟨rfl, .inl rfl⟩, rfl, rfl⟩
def slices_ContainsFunc_byte_byte_of_impl_areAll_byte__c1_p_c : ACode := (.seq (.region 0 [q 4 (.asg 0 (.const (.bool false)) 4)] false) (.seq (.region 1 [q 5 (.mov (t 0)), q 6 (.mov (t 1)), q 7 (.call 0 (.func 215) [(t 5), (t 6)]), q 8 (.bin .geq 3 (t 7) (.const (.int .i64 0))), q 4 (.asg 0 (t 8) 4)] false) .ret))
def slices_ContainsFunc_byte_byte_of_impl_areAll_byte__c1_p_L : Live := [(0, [0, 1]), (1, [0, 1])]
noncomputable def slices_ContainsFunc_byte_byte_of_impl_areAll_byte__c1_p (a0 : (List Int)) (a1c0c0 : Int) : Option Bool :=
  (Option.bind (slices_IndexFunc_byte_byte_of_impl_areAll_byte__c1_p a0 a1c0c0) fun r1 => (some ((decide (r1 ≥ 0)))))
theorem slices_ContainsFunc_byte_byte_of_impl_areAll_byte__c1_p_ok (a0 : (List Int)) (a1c0c0 : Int) (r : Bool) (h : slices_ContainsFunc_byte_byte_of_impl_areAll_byte__c1_p a0 a1c0c0 = some r) : Den Try.prog 198 [(eSu8 a0), (.clo 199 [] [(.ref (.clo 179 [] [(.ref (i6 a1c0c0) [] [])]) [] [])])] { r := (.bool r) } := by
  refine den_of (rs := [(.bool r)]) (ac := slices_ContainsFunc_byte_byte_of_impl_areAll_byte__c1_p_c) (L := slices_ContainsFunc_byte_byte_of_impl_areAll_byte__c1_p_L) (n := 9) (m := []) (c := Try.f198.body.getD .skip) good Try.func198 (by kernel_rfl) (by kernel_rfl) Try.ntmps198 rfl rfl (by kernel_rfl) rfl rfl ?_
  refine a_st (σ' := ⟨[(0, (eSu8 a0)), (1, (.clo 199 [] [(.ref (.clo 179 [] [(.ref (i6 a1c0c0) [] [])]) [] [])]))], []⟩) (by kernel_rfl) ?_
  unfold slices_ContainsFunc_byte_byte_of_impl_areAll_byte__c1_p_c
  refine sr (vp (.bool false) rfl (nx ⟨[(0, (eSu8 a0)), (1, (.clo 199 [] [(.ref (.clo 179 [] [(.ref (i6 a1c0c0) [] [])]) [] [])]))], []⟩ (by kernel_rfl) (sr (vp (eSu8 a0) rfl (vp (.clo 199 [] [(.ref (.clo 179 [] [(.ref (i6 a1c0c0) [] [])]) [] [])]) rfl ?_)))))
  obtain ⟨r1, hr2, h⟩ := bind_some h
  refine a_call (args := [(eSu8 a0), (.clo 199 [] [(.ref (.clo 179 [] [(.ref (i6 a1c0c0) [] [])]) [] [])])]) (u := []) (r := (i6 r1)) rfl rfl (slices_IndexFunc_byte_byte_of_impl_areAll_byte__c1_p_ok a0 a1c0c0 r1 hr2) rfl (vp (.bool ((decide (r1 ≥ 0)))) rfl (vp (.bool ((decide (r1 ≥ 0)))) rfl (nx _ rfl (a_ret ?_))))
  refine ⟨.inr rfl, ?_⟩
  rw [Try.results198]
  cases h
  exact ⟨_, _, _, _, _, rfl, trivial, .inl ⟨rfl, .inl rfl⟩, rfl, rfl⟩
def impl_areAll_byte_of_impl_isPoly_c1_p_c : ACode := (.seq (.region 0 [q 3 (.box 168 (t 1)), q 4 (.asg 0 (.const (.bool false)) 4)] false) (.seq (.region 1 [q 5 (.mov (t 0)), q 6 (.mkfn 199 [] [(t 3)]), q 7 (.call 0 (.func 198) [(t 5), (t 6)]), q 8 (.un .not (t 7)), q 4 (.asg 0 (t 8) 4)] false) .ret))
def impl_areAll_byte_of_impl_isPoly_c1_p_L : Live := [(0, [0, 1]), (1, [0, 3])]
noncomputable def impl_areAll_byte_of_impl_isPoly_c1_p (a0 : (List Int)) (a1c0 : Int) : Option Bool :=
  (Option.bind (slices_ContainsFunc_byte_byte_of_impl_areAll_byte__c1_p a0 a1c0) fun r1 => (some (!r1)))
theorem impl_areAll_byte_of_impl_isPoly_c1_p_ok (a0 : (List Int)) (a1c0 : Int) (r : Bool) (h : impl_areAll_byte_of_impl_isPoly_c1_p a0 a1c0 = some r) : Den Try.prog 178 [(eSu8 a0), (.clo 179 [] [(.ref (i6 a1c0) [] [])])] { r := (.bool r) } := by
  refine den_of (rs := [(.bool r)]) (ac := impl_areAll_byte_of_impl_isPoly_c1_p_c) (L := impl_areAll_byte_of_impl_isPoly_c1_p_L) (n := 9) (m := []) (c := Try.f178.body.getD .skip) good Try.func178 (by kernel_rfl) (by kernel_rfl) Try.ntmps178 rfl rfl (by kernel_rfl) rfl rfl ?_
  refine a_st (σ' := ⟨[(0, (eSu8 a0)), (1, (.clo 179 [] [(.ref (i6 a1c0) [] [])]))], []⟩) (by kernel_rfl) ?_
  unfold impl_areAll_byte_of_impl_isPoly_c1_p_c
  refine sr (vo 1300 (.clo 179 [] [(.ref (i6 a1c0) [] [])]) rfl rfl (vp (.bool false) rfl (nx ⟨[(0, (eSu8 a0)), (3, (ow 3))], [(3, (bk (.clo 179 [] [(.ref (i6 a1c0) [] [])])))]⟩ (by kernel_rfl) (sr (vp (eSu8 a0) rfl (vu (.clo 199 [] [(.ref (.clo 179 [] [(.ref (i6 a1c0) [] [])]) [] [])]) [(3, (bf (.clo 179 [] [(.ref (i6 a1c0) [] [])])))] rfl trivial rfl ?_))))))
  obtain ⟨r1, hr2, h⟩ := bind_some h
  refine a_call (args := [(eSu8 a0), (.clo 199 [] [(.ref (.clo 179 [] [(.ref (i6 a1c0) [] [])]) [] [])])]) (u := []) (r := (.bool r1)) rfl rfl (slices_ContainsFunc_byte_byte_of_impl_areAll_byte__c1_p_ok a0 a1c0 r1 hr2) rfl (vp (.bool (!r1)) rfl (vp (.bool (!r1)) rfl (nx _ rfl (a_ret ?_))))
  refine ⟨.inr rfl, ?_⟩
  rw [Try.results178]
  cases h
  exact ⟨_, _, _, _, _, rfl, trivial, .inl ⟨rfl, .inl rfl⟩, rfl, rfl⟩
def impl_isPoly_c : ACode := (.seq (.region 0 [q 2 (.box 2 (t 0)), q 3 (.box 26 (t 1)), q 4 (.asg 0 (.const (.bool false)) 4)] false) (.seq (.region 1 [q 5 (.slice 26 (t 3) none none none), q 6 (.mkfn 179 [] [(t 2)]), q 7 (.call 0 (.func 178) [(t 5), (t 6)]), q 4 (.asg 0 (t 7) 4)] false) .ret))
def impl_isPoly_L : Live := [(0, [0, 1]), (1, [2, 3])]
noncomputable def impl_isPoly (a0 : Int) (a1 : (Vec Int 64)) : Option Bool :=
  (Option.bind (impl_areAll_byte_of_impl_isPoly_c1_p a1.1 a0) fun r1 => (some r1))
theorem impl_isPoly_ok (a0 : Int) (a1 : (Vec Int 64)) (r : Bool) (h : impl_isPoly a0 a1 = some r) : Den Try.prog 139 [(i6 a0), (eA64u8 a1)] { r := (.bool r) } := by
  refine den_of (rs := [(.bool r)]) (ac := impl_isPoly_c) (L := impl_isPoly_L) (n := 8) (m := []) (c := Try.f139.body.getD .skip) good Try.func139 (by kernel_rfl) (by kernel_rfl) Try.ntmps139 rfl rfl (by kernel_rfl) rfl rfl ?_
  refine a_st (σ' := ⟨[(0, (i6 a0)), (1, (eA64u8 a1))], []⟩) (by kernel_rfl) ?_
  unfold impl_isPoly_c
  refine sr (vo 1200 (i6 a0) rfl rfl (vo 1300 (eA64u8 a1) rfl rfl (vp (.bool false) rfl (nx ⟨[(2, (ow 2)), (3, (ow 3))], [(2, (bk (i6 a0))), (3, (bk (eA64u8 a1)))]⟩ (by kernel_rfl) (sr (vu (.sl 1 true (a1.1.map (AV.int .u8))) [(3, (bf (eA64u8 a1)))] rfl ⟨rfl, trivial, rfl, rfl⟩ rfl (vu (.clo 179 [] [(.ref (i6 a0) [] [])]) [(2, (bf (i6 a0)))] rfl trivial rfl ?_)))))))
  obtain ⟨r1, hr2, h⟩ := bind_some h
  refine a_call (args := [(.sl 1 true (a1.1.map (AV.int .u8))), (.clo 179 [] [(.ref (i6 a0) [] [])])]) (u := []) (r := (.bool r1)) rfl rfl (Den.args (impl_areAll_byte_of_impl_isPoly_c1_p_ok a1.1 a0 r1 hr2) rfl rfl (.cons (.loose _) (.cons (.refl _) .nil))) rfl (vp (.bool r1) rfl (nx _ rfl (a_ret ?_)))
  refine ⟨.inr rfl, ?_⟩
  rw [Try.results139]
  cases h
  exact ⟨_, _, _, _, _, rfl, trivial, .inl ⟨rfl, .inl rfl⟩, rfl, rfl⟩
def impl_IsPoly_c : ACode := (.seq (.region 0 [q 3 (.box 26 (t 1)), q 4 (.asg 0 (.const (.bool false)) 4)] false) (.seq (.region 1 [q 5 (.mov (t 0)), q 6 (.call 0 (.func 105) [(t 5)]), q 7 (.mov (t 6)), ⟨some 8, .mov (t 0), some (7, true), []⟩, ⟨some 9, .load 26 (t 3), some (7, true), []⟩, ⟨some 10, .call 0 (.func 139) [(t 8), (t 9)], some (7, true), []⟩, q 11 (.pick (t 7) (t 10) (.const (.bool false))), q 4 (.asg 0 (t 11) 4)] false) .ret))
def impl_IsPoly_L : Live := [(0, [0, 1]), (1, [0, 3])]
noncomputable def impl_IsPoly (a0 : Int) (a1 : (Vec Int 64)) : Option Bool :=
  (Option.bind (impl_isPrime a0) fun r1 => (if r1 then (Option.bind (impl_isPoly a0 a1) fun r5 => (some r5)) else (some false)))
theorem impl_IsPoly_ok (a0 : Int) (a1 : (Vec Int 64)) (r : Bool) (h : impl_IsPoly a0 a1 = some r) : Den Try.prog 169 [(i6 a0), (eA64u8 a1)] { r := (.bool r) } := by
  refine den_of (rs := [(.bool r)]) (ac := impl_IsPoly_c) (L := impl_IsPoly_L) (n := 12) (m := []) (c := Try.f169.body.getD .skip) good Try.func169 (by kernel_rfl) (by kernel_rfl) Try.ntmps169 rfl rfl (by kernel_rfl) rfl rfl ?_
  refine a_st (σ' := ⟨[(0, (i6 a0)), (1, (eA64u8 a1))], []⟩) (by kernel_rfl) ?_
  unfold impl_IsPoly_c
  refine sr (vo 1300 (eA64u8 a1) rfl rfl (vp (.bool false) rfl (nx ⟨[(0, (i6 a0)), (3, (ow 3))], [(3, (bk (eA64u8 a1)))]⟩ (by kernel_rfl) (sr (vp (i6 a0) rfl ?_)))))
  obtain ⟨r1, hr2, h⟩ := bind_some h
  refine a_call (args := [(i6 a0)]) (u := []) (r := (.bool r1)) rfl rfl (impl_isPrime_ok a0 r1 hr2) rfl (vp (.bool r1) rfl ?_)
  cases hb3 : r1
  · have h := ite_f hb3 h
    refine a_gskip rfl (a_gskip rfl (a_gskip rfl (vp (.bool false) rfl (vp (.bool false) rfl (nx _ rfl (a_ret ?_))))))
    refine ⟨.inr rfl, ?_⟩
    rw [Try.results169]
    cases h
    exact ⟨_, _, _, _, _, rfl, trivial, .inl ⟨rfl, .inl rfl⟩, rfl, rfl⟩
  · have h := ite_t hb3 h
    refine gp (i6 a0) rfl rfl ?_
    have hl4 : LdOk [] (eA64u8 a1) [] 64 true (eA64u8 a1) := (.nil rfl rfl rfl)
    refine gq (eA64u8 a1) rfl (ld_own (i := ⟨.arr 64 5, 64, 64, (eA64u8 (vrep 64 (0 : Int)))⟩) rfl rfl rfl hl4) hl4.c ?_
    obtain ⟨r5, hr6, h⟩ := bind_some h
    refine a_gcall rfl (args := [(i6 a0), (eA64u8 a1)]) (u := []) (r := (.bool r5)) rfl rfl (impl_isPoly_ok a0 a1 r5 hr6) rfl (vp (.bool r5) rfl (vp (.bool r5) rfl (nx _ rfl (a_ret ?_))))
    refine ⟨.inr rfl, ?_⟩
    rw [Try.results169]
    cases h
    exact ⟨_, _, _, _, _, rfl, trivial, .inl ⟨rfl, .inl rfl⟩, rfl, rfl⟩
def impl_row_degree_c : ACode := (.seq (.region 0 [q 2 (.asg 0 (.const (.int .i64 0)) 2)] false) (.seq (.region 1 [q 3 (.mov (t 0)), q 4 (.blt 0 .len [(t 3)] [66]), q 5 (.bin .sub 2 (t 4) (.const (.int .i64 1))), q 2 (.asg 0 (t 5) 2)] false) .ret))
def impl_row_degree_L : Live := [(0, [0]), (1, [0])]
noncomputable def impl_row_degree (a0 : (List Int)) : Option Int :=
  (some (IntKind.i64.wrap ((a0.length : Int) - 1)))
theorem impl_row_degree_ok (a0 : (List Int)) (r : Int) (h : impl_row_degree a0 = some r) : Den Try.prog 69 [(eSi64 a0)] { r := (i6 r) } := by
  refine den_of (rs := [(i6 r)]) (ac := impl_row_degree_c) (L := impl_row_degree_L) (n := 6) (m := []) (c := Try.f69.body.getD .skip) good Try.func69 (by kernel_rfl) (by kernel_rfl) Try.ntmps69 rfl rfl (by kernel_rfl) rfl rfl ?_
  refine a_st (σ' := ⟨[(0, (eSi64 a0))], []⟩) (by kernel_rfl) ?_
  unfold impl_row_degree_c
  refine sr (vp (i6 0) rfl (nx ⟨[(0, (eSi64 a0))], []⟩ (by kernel_rfl) (sr (vp (eSi64 a0) rfl (vq (i6 (a0.length : Int)) (len_run rfl rfl) trivial (vp (i6 (IntKind.i64.wrap ((a0.length : Int) - 1))) rfl (vp (i6 (IntKind.i64.wrap ((a0.length : Int) - 1))) rfl (nx _ rfl (a_ret ?_)))))))))
  refine ⟨.inr rfl, ?_⟩
  rw [Try.results69]
  cases h
  exact ⟨_, _, _, _, _, rfl, trivial, .inl ⟨rfl, .inl rfl⟩, rfl, rfl⟩
def impl_within_c : ACode := (.seq (.region 0 [q 6 (.asg 0 (.const (.bool false)) 4)] false) (.seq (.region 1 [q 7 (.mov (t 1)), q 8 (.mov (t 0)), q 9 (.bin .leq 2 (t 7) (t 8)), q 10 (.mov (t 9)), ⟨some 11, .mov (t 0), some (10, true), []⟩, ⟨some 12, .mov (t 2), some (10, true), []⟩, ⟨some 13, .bin .leq 2 (t 11) (t 12), some (10, true), []⟩, q 14 (.pick (t 10) (t 13) (.const (.bool false))), q 6 (.asg 0 (t 14) 4)] false) .ret))
def impl_within_L : Live := [(0, [0, 1, 2]), (1, [0, 1, 2])]
noncomputable def impl_within (a0 : Int) (a1 : Int) (a2 : Int) : Option Bool :=
  (if (decide (a1 ≤ a0)) then (some ((decide (a0 ≤ a2)))) else (some false))
theorem impl_within_ok (a0 : Int) (a1 : Int) (a2 : Int) (r : Bool) (h : impl_within a0 a1 a2 = some r) : Den Try.prog 86 [(i6 a0), (i6 a1), (i6 a2)] { r := (.bool r) } := by
  refine den_of (rs := [(.bool r)]) (ac := impl_within_c) (L := impl_within_L) (n := 15) (m := []) (c := Try.f86.body.getD .skip) good Try.func86 (by kernel_rfl) (by kernel_rfl) Try.ntmps86 rfl rfl (by kernel_rfl) rfl rfl ?_
  refine a_st (σ' := ⟨[(0, (i6 a0)), (1, (i6 a1)), (2, (i6 a2))], []⟩) (by kernel_rfl) ?_
  unfold impl_within_c
  refine sr (vp (.bool false) rfl (nx ⟨[(0, (i6 a0)), (1, (i6 a1)), (2, (i6 a2))], []⟩ (by kernel_rfl) (sr (vp (i6 a1) rfl (vp (i6 a0) rfl (vp (.bool ((decide (a1 ≤ a0)))) rfl (vp (.bool ((decide (a1 ≤ a0)))) rfl ?_)))))))
  cases hb1 : (decide (a1 ≤ a0))
  · have h := ite_f hb1 h
    refine a_gskip rfl (a_gskip rfl (a_gskip rfl (vp (.bool false) rfl (vp (.bool false) rfl (nx _ rfl (a_ret ?_))))))
    refine ⟨.inr rfl, ?_⟩
    rw [Try.results86]
    cases h
    exact ⟨_, _, _, _, _, rfl, trivial, .inl ⟨rfl, .inl rfl⟩, rfl, rfl⟩
  · have h := ite_t hb1 h
    refine gp (i6 a0) rfl rfl (gp (i6 a2) rfl rfl (gp (.bool ((decide (a0 ≤ a2)))) rfl rfl (vp (.bool ((decide (a0 ≤ a2)))) rfl (vp (.bool ((decide (a0 ≤ a2)))) rfl (nx _ rfl (a_ret ?_))))))
    refine ⟨.inr rfl, ?_⟩
    rw [Try.results86]
    cases h
    exact ⟨_, _, _, _, _, rfl, trivial, .inl ⟨rfl, .inl rfl⟩, rfl, rfl⟩
def impl_row_lead_c : ACode := (.seq (.region 0 [q 2 (.asg 0 (.const (.int .i64 0)) 2)] false) (.seq (.seq (.region 1 [q 3 (.mov (t 0)), q 4 (.blt 0 .len [(t 3)] [66]), q 5 (.bin .eql 3 (t 4) (.const (.int .i64 0)))] false) (.cond (t 5) (.seq (.region 2 [q 2 (.asg 0 (.const (.int .i64 0)) 2)] false) .ret) .skip)) (.seq (.region 3 [q 6 (.mov (t 0)), q 7 (.mov (t 0)), q 8 (.blt 0 .len [(t 7)] [66]), q 9 (.bin .sub 3 (t 8) (.const (.int .i64 1))), q 10 (.indexAddr 66 (t 6) (t 9)), q 11 (.load 2 (t 10)), q 2 (.asg 0 (t 11) 2)] false) .ret)))
def impl_row_lead_L : Live := [(0, [0]), (1, [0]), (2, []), (3, [0]), (100005, [0, 5])]
noncomputable def impl_row_lead (a0 : (List Int)) : Option Int :=
  (if ((a0.length : Int) == 0) then (some 0) else (ifp (0 ≤ IntKind.i64.wrap ((a0.length : Int) - 1) ∧ IntKind.i64.wrap ((a0.length : Int) - 1) < ((a0.length : Nat) : Int)) ((some ((rd a0 (IntKind.i64.wrap ((a0.length : Int) - 1)).toNat))))))
theorem impl_row_lead_ok (a0 : (List Int)) (r : Int) (h : impl_row_lead a0 = some r) : Den Try.prog 85 [(eSi64 a0)] { r := (i6 r) } := by
  refine den_of (rs := [(i6 r)]) (ac := impl_row_lead_c) (L := impl_row_lead_L) (n := 12) (m := []) (c := Try.f85.body.getD .skip) good Try.func85 (by kernel_rfl) (by kernel_rfl) Try.ntmps85 rfl rfl (by kernel_rfl) rfl rfl ?_
  refine a_st (σ' := ⟨[(0, (eSi64 a0))], []⟩) (by kernel_rfl) ?_
  unfold impl_row_lead_c
  refine sr (vp (i6 0) rfl (nx ⟨[(0, (eSi64 a0))], []⟩ (by kernel_rfl) (a_seq (sr (vp (eSi64 a0) rfl (vq (i6 (a0.length : Int)) (len_run rfl rfl) trivial (vp (.bool (((a0.length : Int) == 0))) rfl (nx ⟨[(0, (eSi64 a0)), (5, (.bool (((a0.length : Int) == 0))))], []⟩ (by kernel_rfl) ?_))))))))
  cases hb1 : ((a0.length : Int) == 0)
  · have h := ite_f hb1 h
    refine a_cond_f rfl (a_skip (a_next (σ' := ⟨[(0, (eSi64 a0))], []⟩) (by kernel_rfl) (sr (vp (eSi64 a0) rfl (vp (eSi64 a0) rfl (vq (i6 (a0.length : Int)) (len_run rfl rfl) trivial (vp (i6 (IntKind.i64.wrap ((a0.length : Int) - 1))) rfl ?_)))))))
    obtain ⟨hc2, h⟩ := ifp_some h
    refine vq (.ref (.row 1 (a0.map (AV.int .i64))) [(IntKind.i64.wrap ((a0.length : Int) - 1)).toNat] [(IntKind.i64.wrap ((a0.length : Int) - 1)).toNat * 1]) rfl (lmap hc2) ?_
    have hl3 : LdOk [(IntKind.i64.wrap ((a0.length : Int) - 1)).toNat] (.row 1 (a0.map (AV.int .i64))) [(IntKind.i64.wrap ((a0.length : Int) - 1)).toNat * 1] 1 false (i6 ((rd a0 (IntKind.i64.wrap ((a0.length : Int) - 1)).toNat))) := (.row (llt hc2) rfl (.nil rfl rfl rfl))
    refine vq (i6 ((rd a0 (IntKind.i64.wrap ((a0.length : Int) - 1)).toNat))) (ld_ref (i := ⟨.int .i64, 1, 8, (.int .i64 0)⟩) rfl rfl hl3) hl3.c (vp (i6 ((rd a0 (IntKind.i64.wrap ((a0.length : Int) - 1)).toNat))) rfl (nx _ rfl (a_ret ?_)))
    refine ⟨.inr rfl, ?_⟩
    rw [Try.results85]
    cases h
    exact ⟨_, _, _, _, _, rfl, trivial, .inl ⟨rfl, .inl rfl⟩, rfl, rfl⟩
  · have h := ite_t hb1 h
    refine a_cond_t rfl (sr (vp (i6 0) rfl (nx _ rfl (a_ret (t_ret ?_)))))
    refine ⟨.inr rfl, ?_⟩
    rw [Try.results85]
    cases h
    exact ⟨_, _, _, _, _, rfl, trivial, .inl ⟨rfl, .inl rfl⟩, rfl, rfl⟩
def impl_letter_c : ACode := (.seq (.region 0 [q 0 (.asg 1 (.const (.slice none 0 0)) 66)] false) (.seq (.region 1 [q 1 (.bslice 0 66 2 [(0, (.const (.int .i64 0))), (1, (.const (.int .i64 1)))]), q 0 (.asg 1 (t 1) 66)] false) .ret))
def impl_letter_L : Live := [(0, []), (1, [])]
noncomputable def impl_letter  : Option (List Int) :=
  (some ([0, 1]))
theorem impl_letter_ok  (r : (List Int)) (h : impl_letter = some r) : Den Try.prog 183 [] { r := (eSi64 r) } := by
  refine den_of (rs := [(eSi64 r)]) (ac := impl_letter_c) (L := impl_letter_L) (n := 2) (m := [(0, 1)]) (c := Try.f183.body.getD .skip) good Try.func183 (by kernel_rfl) (by kernel_rfl) Try.ntmps183 rfl rfl (by kernel_rfl) rfl rfl ?_
  refine a_st (σ' := ⟨[], []⟩) (by kernel_rfl) ?_
  unfold impl_letter_c
  refine sr (vp (eSi64 ([])) rfl (nx ⟨[], []⟩ (by kernel_rfl) (sr (vq (.sl 1 true (([0, 1]).map (AV.int .i64))) rfl ⟨(Nat.le_of_ble_eq_true rfl), (Nat.le_of_ble_eq_true rfl), (all_cons ⟨(Nat.le_of_ble_eq_true rfl), rfl⟩ (all_cons ⟨(Nat.le_of_ble_eq_true rfl), rfl⟩ all_nil))⟩ (vq (eSi64 ([0, 1])) (asg_tight (i := ⟨.int .i64, 1, 8, (.int .i64 0)⟩) (f := (AV.int .i64)) (l := [0, 1]) rfl rfl rfl) trivial (nx _ rfl (a_ret ?_)))))))
  refine ⟨.inr rfl, ?_⟩
  rw [Try.results183]
  cases h
  exact ⟨_, _, _, _, _, rfl, trivial, .inl ⟨rfl, .inl rfl⟩, rfl, rfl⟩
def slices_Clone_impl_row_int64_fresh_c : ACode := (.seq (.region 0 [q 2 (.asg 2 (.const (.slice none 0 0)) 66)] false) (.seq (.seq (.region 1 [q 3 (.mov (t 0)), q 4 (.bin .eql 66 (t 3) (.const (.slice none 0 0)))] false) (.cond (t 4) (.seq (.region 2 [q 2 (.asg 2 (.const (.slice none 0 0)) 66)] false) .ret) .skip)) (.seq (.region 3 [q 5 (.bslice 0 66 0 []), q 6 (.mov (t 0)), q 7 (.blt 0 .append [(t 5), (t 6)] [66, 66]), q 2 (.asg 2 (t 7) 66)] false) .ret)))
def slices_Clone_impl_row_int64_fresh_L : Live := [(0, [0]), (1, [0]), (2, []), (3, [0]), (100004, [0, 4])]
noncomputable def slices_Clone_impl_row_int64_fresh (a0 : (List Int)) : Option (List Int) :=
  (ifc (a0 = [] → ((some ([]))) = ((ifp ((([] : List Int).length + a0.length) * 8 ≤ 140737488355328) ((some ((([] : List Int) ++ a0))))))) ((ifp ((([] : List Int).length + a0.length) * 8 ≤ 140737488355328) ((some ((([] : List Int) ++ a0)))))))
theorem slices_Clone_impl_row_int64_fresh_ok (a0 : (List Int)) (r : (List Int)) (h : slices_Clone_impl_row_int64_fresh a0 = some r) : Den Try.prog 159 [(eSi64 a0)] { r := (.osl 2000000), ms := [], fs := [(1, r.map (AV.int .i64))] } := by
  refine den_ofX (rs := [(.osl 2000000)]) (ac := slices_Clone_impl_row_int64_fresh_c) (L := slices_Clone_impl_row_int64_fresh_L) (n := 8) (m := [(2, 2)]) (c := Try.f159.body.getD .skip) good Try.func159 (by kernel_rfl) (by kernel_rfl) Try.ntmps159 rfl rfl (by kernel_rfl) rfl ?_
  refine a_st (σ' := ⟨[(0, (eSi64 a0))], []⟩) (by kernel_rfl) ?_
  unfold slices_Clone_impl_row_int64_fresh_c
  refine sr (vu (.osl 1200) [(1200, (bk (.row 1 (([]).map (AV.int .i64)))))] rfl trivial rfl (nx ⟨[(0, (eSi64 a0))], []⟩ (by kernel_rfl) (a_seq (sr (vp (eSi64 a0) rfl ?_)))))
  obtain ⟨hq2, h⟩ := ifc_some h
  refine a_split (v := .bool true) (v' := .bool false) rfl rfl (fun hn3 => ?_) ?_
  · have h := (hq2 (List.map_eq_nil_iff.1 hn3)).trans h
    refine nx ⟨[(0, (eSi64 a0)), (4, (.bool true))], []⟩ (by kernel_rfl) (a_cond_t rfl (sr (vu (.osl 1200) [(1200, (bk (.row 1 (([]).map (AV.int .i64)))))] rfl trivial rfl (nx _ rfl (a_ret (t_ret ?_))))))
    refine ⟨.inr rfl, ?_⟩
    rw [Try.results159]
    cases h
    exact ⟨[some 1200], ⟨_, _, _, _, _, rfl, trivial, rfl, .inr (.inl ⟨_, _, _, _, _, rfl, rfl, rfl, rfl, rfl, ⟨rfl, rfl, rfl⟩⟩)⟩, rfl, rfl⟩
  · skip
    refine nx ⟨[(0, (eSi64 a0)), (4, (.bool false))], []⟩ (by kernel_rfl) (a_cond_f rfl (a_skip (a_next (σ' := ⟨[(0, (eSi64 a0))], []⟩) (by kernel_rfl) (sr (vq (.sl 1 true (([]).map (AV.int .i64))) rfl ⟨(Nat.le_of_ble_eq_true rfl), (Nat.le_of_ble_eq_true rfl), all_nil⟩ (vp (eSi64 a0) rfl ?_))))))
    obtain ⟨hc1, h⟩ := ifp_some h
    refine vu (.osl 1700) [(1700, (bk (.row 1 (((([] : List Int) ++ a0)).map (AV.int .i64)))))] (appt_run (i := ⟨.int .i64, 1, 8, (.int .i64 0)⟩) (f := (AV.int .i64)) (l := []) (l2 := a0) rfl rfl rfl rfl (fun _ => rfl) rfl) (appt_c (f := (AV.int .i64)) (s := 1) (sz := 1) (sz' := 1) (by' := 8) hc1 (.inl rfl) (.inl rfl) (.inr rfl) rfl rfl) rfl (vp (.osl 1700) rfl (nx _ rfl (a_ret ?_)))
    refine ⟨.inr rfl, ?_⟩
    rw [Try.results159]
    cases h
    exact ⟨[some 1700], ⟨_, _, _, _, _, rfl, trivial, rfl, .inr (.inl ⟨_, _, _, _, _, rfl, rfl, rfl, rfl, rfl, ⟨rfl, rfl, rfl⟩⟩)⟩, rfl, rfl⟩
def impl_prime_inverse_c : ACode := (.seq (.region 0 [q 4 (.asg 0 (.const (.int .i64 0)) 2)] false) (.seq (.region 1 [q 5 (.asg 0 (.const (.int .i64 1)) 2)] false) (.seq (.seq (.region 2 [q 6 (.mov (t 0)), q 7 (.bin .sub 2 (t 6) (.const (.int .i64 2))), q 8 (.mov (.const (.int .i64 0)))] false) (.block 0 (.loop (.seq (.region 3 [q 9 (.bin .lss 2 (t 8) (t 7))] false) (.seq (.cond (t 9) .skip (.exit 0)) (.seq (.block 1 (.region 4 [q 10 (.mov (t 5)), q 11 (.mov (t 1)), q 12 (.bin .mul 2 (t 10) (t 11)), q 13 (.mov (t 0)), q 14 (.bin .rem 2 (t 12) (t 13)), q 5 (.asg 0 (t 14) 2)] false)) (.region 5 [q 15 (.bin .add 2 (t 8) (.const (.int .i64 1))), q 8 (.mov (t 15))] false))))))) (.seq (.region 6 [q 16 (.mov (t 5)), q 4 (.asg 0 (t 16) 2)] false) .ret))))
def impl_prime_inverse_L : Live := [(0, [0, 1]), (1, [0, 1]), (2, [0, 1, 5]), (3, [0, 1, 5, 7, 8]), (4, [0, 1, 5, 7, 8]), (5, [0, 1, 5, 7, 8]), (6, [5]), (100009, [0, 1, 5, 7, 8, 9])]
noncomputable def impl_prime_inverse_l1 (a0 : Int) (a1 : Int) (x19 : Int) (x20 : Int) : Option ((Int × Int) ⊕ Int) :=
  (if (decide (x20 < (IntKind.i64.wrap (a0 - 2)))) then (ifp (a0 ≠ 0) ((some (.inl ((Int.tmod (IntKind.i64.wrap (x19 * a1)) a0, IntKind.i64.wrap (x20 + 1))))))) else (some (.inr x19)))
noncomputable def impl_prime_inverse (a0 : Int) (a1 : Int) : Option Int :=
  (Option.bind (α := Int) ((loopM (fun s : (Int × Int) => impl_prime_inverse_l1 a0 a1 s.1 s.2) (1, 0))) fun x13 => (some x13))
theorem impl_prime_inverse_ok (a0 : Int) (a1 : Int) (r : Int) (h : impl_prime_inverse a0 a1 = some r) : Den Try.prog 151 [(i6 a0), (i6 a1)] { r := (i6 r) } := by
  refine den_of (rs := [(i6 r)]) (ac := impl_prime_inverse_c) (L := impl_prime_inverse_L) (n := 17) (m := []) (c := Try.f151.body.getD .skip) good Try.func151 (by kernel_rfl) (by kernel_rfl) Try.ntmps151 rfl rfl (by kernel_rfl) rfl rfl ?_
  refine a_st (σ' := ⟨[(0, (i6 a0)), (1, (i6 a1))], []⟩) (by kernel_rfl) ?_
  unfold impl_prime_inverse_c
  refine sr (vp (i6 0) rfl (nx ⟨[(0, (i6 a0)), (1, (i6 a1))], []⟩ (by kernel_rfl) (sr (vp (i6 1) rfl (nx ⟨[(0, (i6 a0)), (1, (i6 a1)), (5, (i6 1))], []⟩ (by kernel_rfl) ?_)))))
  obtain ⟨y14, hy15, hk16⟩ := bind_some h
  clear h
  refine a_join (emb := fun (s : Int) => ⟨[(5, (i6 s))], []⟩) (pre := fun s => s = y14) ?_ ?_
  · rintro x13 rfl
    have h := hk16
    refine a_st (σ' := ⟨[(5, (i6 x13))], []⟩) (by kernel_rfl) (sr (vp (i6 x13) rfl (vp (i6 x13) rfl (nx _ rfl (a_ret ?_)))))
    refine ⟨.inr rfl, ?_⟩
    rw [Try.results151]
    cases h
    exact ⟨_, _, _, _, _, rfl, trivial, .inl ⟨rfl, .inl rfl⟩, rfl, rfl⟩
  · have h := hy15
    refine sr (vp (i6 a0) rfl (vp (i6 (IntKind.i64.wrap (a0 - 2))) rfl (vp (i6 0) rfl (nx ⟨[(0, (i6 a0)), (1, (i6 a1)), (5, (i6 1)), (7, (i6 (IntKind.i64.wrap (a0 - 2)))), (8, (i6 0))], []⟩ (by kernel_rfl) (a_block ?_)))))
    refine a_loop (emb := fun (s : (Int × Int)) => ⟨[(0, (i6 a0)), (1, (i6 a1)), (5, (i6 s.1)), (7, (i6 (IntKind.i64.wrap (a0 - 2)))), (8, (i6 s.2))], []⟩) (body := (fun s : (Int × Int) => impl_prime_inverse_l1 a0 a1 s.1 s.2)) (G := fun q => some q = some y14) h rfl ?_ (by kernel_rfl)
    rintro X23 ⟨x19, x20⟩ x24 h hX25
    have h : impl_prime_inverse_l1 a0 a1 x19 x20 = some x24 := h
    refine a_st (σ' := ⟨[(0, (i6 a0)), (1, (i6 a1)), (5, (i6 x19)), (7, (i6 (IntKind.i64.wrap (a0 - 2)))), (8, (i6 x20))], []⟩) (by kernel_rfl) (sr (vp (.bool ((decide (x20 < (IntKind.i64.wrap (a0 - 2)))))) rfl (nx ⟨[(0, (i6 a0)), (1, (i6 a1)), (5, (i6 x19)), (7, (i6 (IntKind.i64.wrap (a0 - 2)))), (8, (i6 x20)), (9, (.bool ((decide (x20 < (IntKind.i64.wrap (a0 - 2)))))))], []⟩ (by kernel_rfl) (a_seq ?_))))
    cases hb26 : (decide (x20 < (IntKind.i64.wrap (a0 - 2))))
    · have h := ite_f hb26 h
      refine a_cond_f rfl (a_exit (t_exit ?_))
      cases h
      have h := hX25
      refine t_exit (b_exit ?_)
      exact j_leaf x19 (Option.some.inj h) (by kernel_rfl)
    · have h := ite_t hb26 h
      refine a_cond_t rfl (a_skip (a_next (σ' := ⟨[(0, (i6 a0)), (1, (i6 a1)), (5, (i6 x19)), (7, (i6 (IntKind.i64.wrap (a0 - 2)))), (8, (i6 x20))], []⟩) (by kernel_rfl) (a_seq (a_block (a_region (vp (i6 x19) rfl (vp (i6 a1) rfl (vp (i6 (IntKind.i64.wrap (x19 * a1))) rfl (vp (i6 a0) rfl ?_)))))))))
      obtain ⟨hc27, h⟩ := ifp_some h
      refine vq (i6 (Int.tmod (IntKind.i64.wrap (x19 * a1)) a0)) rfl hc27 (vp (i6 (Int.tmod (IntKind.i64.wrap (x19 * a1)) a0)) rfl (a_nil (b_norm (a_next (σ' := ⟨[(0, (i6 a0)), (1, (i6 a1)), (5, (i6 (Int.tmod (IntKind.i64.wrap (x19 * a1)) a0))), (7, (i6 (IntKind.i64.wrap (a0 - 2)))), (8, (i6 x20))], []⟩) (by kernel_rfl) (a_region (vp (i6 (IntKind.i64.wrap (x20 + 1))) rfl (vp (i6 (IntKind.i64.wrap (x20 + 1))) rfl (a_nil ?_))))))))
      cases h
      exact a_again (by kernel_rfl) hX25
def impl_prime_reduce_c : ACode := (.seq (.region 0 [q 4 (.asg 0 (.const (.int .i64 0)) 2)] false) (.seq (.region 1 [q 5 (.mov (t 1)), q 6 (.mov (t 0)), q 7 (.bin .rem 2 (t 5) (t 6)), q 8 (.mov (t 0)), q 9 (.bin .add 2 (t 7) (t 8)), q 10 (.mov (t 0)), q 11 (.bin .rem 2 (t 9) (t 10)), q 4 (.asg 0 (t 11) 2)] false) .ret))
def impl_prime_reduce_L : Live := [(0, [0, 1]), (1, [0, 1])]
noncomputable def impl_prime_reduce (a0 : Int) (a1 : Int) : Option Int :=
  (ifp (a0 ≠ 0) ((ifp (a0 ≠ 0) ((some (Int.tmod (IntKind.i64.wrap ((Int.tmod a1 a0) + a0)) a0))))))
theorem impl_prime_reduce_ok (a0 : Int) (a1 : Int) (r : Int) (h : impl_prime_reduce a0 a1 = some r) : Den Try.prog 158 [(i6 a0), (i6 a1)] { r := (i6 r) } := by
  refine den_of (rs := [(i6 r)]) (ac := impl_prime_reduce_c) (L := impl_prime_reduce_L) (n := 12) (m := []) (c := Try.f158.body.getD .skip) good Try.func158 (by kernel_rfl) (by kernel_rfl) Try.ntmps158 rfl rfl (by kernel_rfl) rfl rfl ?_
  refine a_st (σ' := ⟨[(0, (i6 a0)), (1, (i6 a1))], []⟩) (by kernel_rfl) ?_
  unfold impl_prime_reduce_c
  refine sr (vp (i6 0) rfl (nx ⟨[(0, (i6 a0)), (1, (i6 a1))], []⟩ (by kernel_rfl) (sr (vp (i6 a1) rfl (vp (i6 a0) rfl ?_)))))
  obtain ⟨hc1, h⟩ := ifp_some h
  refine vq (i6 (Int.tmod a1 a0)) rfl hc1 (vp (i6 a0) rfl (vp (i6 (IntKind.i64.wrap ((Int.tmod a1 a0) + a0))) rfl (vp (i6 a0) rfl ?_)))
  obtain ⟨hc2, h⟩ := ifp_some h
  refine vq (i6 (Int.tmod (IntKind.i64.wrap ((Int.tmod a1 a0) + a0)) a0)) rfl hc2 (vp (i6 (Int.tmod (IntKind.i64.wrap ((Int.tmod a1 a0) + a0)) a0)) rfl (nx _ rfl (a_ret ?_)))
  refine ⟨.inr rfl, ?_⟩
  rw [Try.results158]
  cases h
  exact ⟨_, _, _, _, _, rfl, trivial, .inl ⟨rfl, .inl rfl⟩, rfl, rfl⟩
end Go.Proofs.Ytdhcpekngpndnaa
