/- Functions of the program: plain Lean functions, and that the program computes them. Printed by gen.py. -/
import Derived.Test.YtdhcpekngpndnaaFnT
import Derived.Test.YtdhcpekngpndnaaFn1
import Derived.Test.YtdhcpekngpndnaaFn3
import Derived.Test.YtdhcpekngpndnaaFn4
import Derived.Test.YtdhcpekngpndnaaFn5
import Derived.Test.YtdhcpekngpndnaaFn6
namespace Go.Proofs.Ytdhcpekngpndnaa
open Go.Abs Go.Proofs
set_option linter.unusedSimpArgs false
set_option linter.unusedVariables false
set_option maxHeartbeats 16000000
attribute [local irreducible] Abs.acode Abs.aops Abs.aopsT Abs.thenK Abs.blockK

def impl_ReducedForms_c : ACode := (.seq (.region 0 [q 3 (.box 26 (t 1)), q 4 (.asg 1 (.const (.slice none 0 0)) 23), q 5 (.asg 0 (.const (.int .i64 0)) 2)] false) (.seq (.seq (.region 1 [q 10 (.mov (t 0)), q 11 (.load 26 (t 3)), q 12 (.call 0 (.func 52) [(t 10), (t 11), (.const (.bool true)), (.const (.bool false)), (.const (.slice none 0 0))]), q 6 (.asg 0 (t 12) 2)] false) (.seq (.region 2 [q 13 (.mov (t 6)), q 14 (.bin .neq 2 (t 13) (.const (.int .i64 0)))] false) (.cond (t 14) (.seq (.region 3 [q 15 (.mov (t 6)), q 4 (.asg 1 (.const (.slice none 0 0)) 23), q 5 (.asg 0 (t 15) 2)] false) .ret) .skip))) (.seq (.region 4 [q 7 (.asg 2 (.const (.slice none 0 0)) 23)] false) (.seq (.seq (.region 5 [q 16 (.mov (t 0)), q 17 (.load 26 (t 3)), q 18 (.call 0 (.func 53) [(t 16), (t 17)]), q 19 (.call 0 (.func 54) [(t 18)]), q 20 (.blt 0 .len [(t 19)] [64]), q 21 (.mov (.const (.int .i64 0)))] false) (.block 0 (.loop (.seq (.region 6 [q 22 (.bin .lss 3 (t 21) (t 20))] false) (.seq (.cond (t 22) .skip (.exit 0)) (.seq (.block 1 (.seq (.region 7 [q 23 (.indexAddr 64 (t 19) (t 21)), q 24 (.load 72 (t 23)), q 9 (.alloc 72), ⟨none, .store 72 (t 9) (t 24), none, []⟩] false) (.region 8 [q 25 (.mov (t 7)), q 26 (.load 72 (t 9)), q 27 (.call 0 (.func 55) [(t 26)]), q 28 (.bslice 0 23 1 [(0, (t 27))]), q 29 (.blt 0 .append [(t 25), (t 28)] [23, 23]), q 7 (.asg 2 (t 29) 23)] false))) (.region 9 [q 30 (.bin .add 3 (t 21) (.const (.int .i64 1))), q 21 (.mov (t 30))] false))))))) (.seq (.region 10 [q 31 (.mov (t 7)), q 4 (.asg 1 (t 31) 23), q 5 (.asg 0 (.const (.int .i64 0)) 2)] false) .ret)))))
def impl_ReducedForms_L : Live := [(0, [0, 1]), (1, [0, 3]), (2, [0, 3, 6]), (3, [6]), (4, [0, 3]), (5, [0, 3, 7]), (6, [7, 19, 20, 21]), (7, [7, 19, 20, 21]), (8, [7, 9, 19, 20, 21]), (9, [7, 19, 20, 21]), (10, [7]), (100014, [0, 3, 6, 14]), (100022, [7, 19, 20, 21, 22])]
noncomputable def impl_ReducedForms_l1 (r47 : (List ((List Int) × (List Int)))) (x57 : Int) (x58 : (List ((Vec Int 64) × (Vec Int 64)))) : Option ((Int × (List ((Vec Int 64) × (Vec Int 64)))) ⊕ (List ((Vec Int 64) × (Vec Int 64)))) :=
  (if (decide (x57 < (r47.length : Int))) then (ifp (0 ≤ x57 ∧ x57 < ((r47.length : Nat) : Int)) ((Option.bind (impl_form_told (rd r47 x57.toNat)) fun r75 => (ifp ((x58.length + ([r75] : List ((Vec Int 64) × (Vec Int 64))).length) * 128 ≤ 140737488355328) ((some (.inl ((IntKind.i64.wrap (x57 + 1), (x58 ++ ([r75]))))))))))) else (some (.inr x58)))
noncomputable def impl_ReducedForms (a0 : Int) (a1 : (Vec Int 64)) : Option ((List ((Vec Int 64) × (Vec Int 64))) × Int) :=
  (Option.bind (impl_formCode a0 a1 true false ([])) fun r2 => (if (r2 != 0) then (some ([], r2)) else (Option.bind (α := (List ((Vec Int 64) × (Vec Int 64)))) ((Option.bind (impl_curveOf a0 a1) fun r45 => (Option.bind (impl_curve_forms r45) fun r47 => (loopM (fun s : (Int × (List ((Vec Int 64) × (Vec Int 64)))) => impl_ReducedForms_l1 r47 s.1 s.2) (0, []))))) fun x40 => (some (x40, 0)))))
theorem impl_ReducedForms_ok (a0 : Int) (a1 : (Vec Int 64)) (r : ((List ((Vec Int 64) × (Vec Int 64))) × Int)) (h : impl_ReducedForms a0 a1 = some r) : Den Try.prog 16 [(i6 a0), (eA64u8 a1)] { r := (.tuple [(eST_A64u8_A64u8_Z r.1), (i6 r.2)]) } := by
  refine den_of (rs := [(eST_A64u8_A64u8_Z r.1), (i6 r.2)]) (ac := impl_ReducedForms_c) (L := impl_ReducedForms_L) (n := 32) (m := [(4, 1), (7, 2)]) (c := Try.f16.body.getD .skip) good Try.func16 (by kernel_rfl) (by kernel_rfl) Try.ntmps16 rfl rfl (by kernel_rfl) rfl rfl ?_
  refine a_st (σ' := ⟨[(0, (i6 a0)), (1, (eA64u8 a1))], []⟩) (by kernel_rfl) ?_
  unfold impl_ReducedForms_c
  refine sr (vo 1300 (eA64u8 a1) rfl rfl (vp (eST_A64u8_A64u8_Z ([])) rfl (vp (i6 0) rfl (nx ⟨[(0, (i6 a0)), (3, (ow 3))], [(3, (bk (eA64u8 a1)))]⟩ (by kernel_rfl) (a_seq (sr (vp (i6 a0) rfl (vl (eA64u8 a1) rfl rfl rfl rfl rfl rfl ?_))))))))
  obtain ⟨r2, hr3, h⟩ := bind_some h
  refine a_call (args := [(i6 a0), (eA64u8 a1), (.bool true), (.bool false), (.sl 0 true [])]) (u := []) (r := (i6 r2)) rfl rfl (Den.args (impl_formCode_ok a0 a1 true false ([]) r2 hr3) rfl rfl (.cons (.refl _) (.cons (.refl _) (.cons (.refl _) (.cons (.refl _) (.cons (.nil _ _ _ _ (fun _ => rfl)) .nil)))))) rfl (vp (i6 r2) rfl (nx ⟨[(0, (i6 a0)), (3, (ow 3)), (6, (i6 r2))], [(3, (bk (eA64u8 a1)))]⟩ (by kernel_rfl) (sr (vp (i6 r2) rfl (vp (.bool (r2 != 0)) rfl (nx ⟨[(0, (i6 a0)), (3, (ow 3)), (6, (i6 r2)), (14, (.bool (r2 != 0)))], [(3, (bk (eA64u8 a1)))]⟩ (by kernel_rfl) ?_))))))
  cases hb4 : (r2 != 0)
  · have h := ite_f hb4 h
    refine a_cond_f rfl (a_skip (a_next (σ' := ⟨[(0, (i6 a0)), (3, (ow 3))], [(3, (bk (eA64u8 a1)))]⟩) (by kernel_rfl) (sr (vu (.osl 1700) [(1700, (bk (.row 128 (([]).map eT_A64u8_A64u8_Z))))] rfl trivial rfl (nx ⟨[(0, (i6 a0)), (3, (ow 3)), (7, (.osl 7))], [(3, (bk (eA64u8 a1))), (7, (bk (.row 128 (([]).map eT_A64u8_A64u8_Z))))]⟩ (by kernel_rfl) ?_)))))
    obtain ⟨y41, hy42, hk43⟩ := bind_some h
    clear h
    refine a_join (emb := fun (s : (List ((Vec Int 64) × (Vec Int 64)))) => ⟨[(7, (.osl 7))], [(7, (bk (.row 128 (s.map eT_A64u8_A64u8_Z))))]⟩) (pre := fun s => s = y41) ?_ ?_
    · rintro x40 rfl
      have h := hk43
      refine a_st (σ' := ⟨[(7, (.osl 7))], [(7, (bk (.row 128 (x40.map eT_A64u8_A64u8_Z))))]⟩) (by kernel_rfl) (sr (vp (.osl 7) rfl (vu (eST_A64u8_A64u8_Z x40) [(7, (bf (.row 128 (x40.map eT_A64u8_A64u8_Z))))] rfl trivial rfl (vp (i6 0) rfl (nx _ rfl (a_ret ?_))))))
      refine ⟨.inr rfl, ?_⟩
      rw [Try.results16]
      cases h
      exact ⟨_, _, _, _, _, rfl, trivial, .inl ⟨rfl, .inl rfl⟩, rfl, ⟨_, _, _, _, _, rfl, trivial, .inl ⟨rfl, .inl rfl⟩, rfl, rfl⟩⟩
    · have h := hy42
      refine sr (vp (i6 a0) rfl (vl (eA64u8 a1) rfl rfl rfl rfl rfl rfl ?_))
      obtain ⟨r45, hr46, h⟩ := bind_some h
      refine a_call (args := [(i6 a0), (eA64u8 a1)]) (u := []) (r := (eT_i64_Si64_Z r45)) rfl rfl (impl_curveOf_ok a0 a1 r45 hr46) rfl ?_
      obtain ⟨r47, hr48, h⟩ := bind_some h
      refine a_call (args := [(eT_i64_Si64_Z r45)]) (u := []) (r := (eST_Si64_Si64_Z r47)) rfl rfl (impl_curve_forms_ok r45 r47 hr48) rfl (vq (i6 (r47.length : Int)) (len_run rfl rfl) trivial (vp (i6 0) rfl (nx ⟨[(7, (.osl 7)), (19, (eST_Si64_Si64_Z r47)), (20, (i6 (r47.length : Int))), (21, (i6 0))], [(7, (bk (.row 128 (([]).map eT_A64u8_A64u8_Z))))]⟩ (by kernel_rfl) (a_block ?_))))
      refine a_loop (emb := fun (s : (Int × (List ((Vec Int 64) × (Vec Int 64))))) => ⟨[(7, (.osl 7)), (19, (eST_Si64_Si64_Z r47)), (20, (i6 (r47.length : Int))), (21, (i6 s.1))], [(7, (bk (.row 128 (s.2.map eT_A64u8_A64u8_Z))))]⟩) (body := (fun s : (Int × (List ((Vec Int 64) × (Vec Int 64)))) => impl_ReducedForms_l1 r47 s.1 s.2)) (G := fun q => some q = some y41) h rfl ?_ (by kernel_rfl)
      rintro X67 ⟨x57, x58⟩ x68 h hX69
      have h : impl_ReducedForms_l1 r47 x57 x58 = some x68 := h
      refine a_st (σ' := ⟨[(7, (.osl 7)), (19, (eST_Si64_Si64_Z r47)), (20, (i6 (r47.length : Int))), (21, (i6 x57))], [(7, (bk (.row 128 (x58.map eT_A64u8_A64u8_Z))))]⟩) (by kernel_rfl) (sr (vp (.bool ((decide (x57 < (r47.length : Int))))) rfl (nx ⟨[(7, (.osl 7)), (19, (eST_Si64_Si64_Z r47)), (20, (i6 (r47.length : Int))), (21, (i6 x57)), (22, (.bool ((decide (x57 < (r47.length : Int))))))], [(7, (bk (.row 128 (x58.map eT_A64u8_A64u8_Z))))]⟩ (by kernel_rfl) (a_seq ?_))))
      cases hb70 : (decide (x57 < (r47.length : Int)))
      · have h := ite_f hb70 h
        refine a_cond_f rfl (a_exit (t_exit ?_))
        cases h
        have h := hX69
        refine t_exit (b_exit ?_)
        exact j_leaf x58 (Option.some.inj h) (by kernel_rfl)
      · have h := ite_t hb70 h
        refine a_cond_t rfl (a_skip (a_next (σ' := ⟨[(7, (.osl 7)), (19, (eST_Si64_Si64_Z r47)), (20, (i6 (r47.length : Int))), (21, (i6 x57))], [(7, (bk (.row 128 (x58.map eT_A64u8_A64u8_Z))))]⟩) (by kernel_rfl) (a_seq (a_block (sr ?_)))))
        obtain ⟨hc71, h⟩ := ifp_some h
        refine vq (.ref (.row 2 (r47.map eT_Si64_Si64_Z)) [x57.toNat] [x57.toNat * 2]) rfl (lmap hc71) ?_
        have hl72 : LdOk [x57.toNat] (.row 2 (r47.map eT_Si64_Si64_Z)) [x57.toNat * 2] 2 true (eT_Si64_Si64_Z (rd r47 x57.toNat)) := (.row (llt hc71) rfl (.nil rfl rfl rfl))
        refine vq (eT_Si64_Si64_Z (rd r47 x57.toNat)) (ld_ref (i := ⟨.struct [(0, 66), (1, 66)], 2, 48, (eT_Si64_Si64_Z ([], []))⟩) rfl rfl hl72) hl72.c (vo 1900 (eT_Si64_Si64_Z ([], [])) rfl rfl (vs (eT_Si64_Si64_Z (rd r47 x57.toNat)) rfl rfl (fun _ => rfl) rfl rfl rfl rfl rfl rfl (nx ⟨[(7, (.osl 7)), (9, (ow 9)), (19, (eST_Si64_Si64_Z r47)), (20, (i6 (r47.length : Int))), (21, (i6 x57))], [(7, (bk (.row 128 (x58.map eT_A64u8_A64u8_Z)))), (9, (bk (eT_Si64_Si64_Z (rd r47 x57.toNat))))]⟩ (by kernel_rfl) (a_region (vp (.osl 7) rfl (vl (eT_Si64_Si64_Z (rd r47 x57.toNat)) rfl rfl rfl rfl rfl rfl ?_))))))
        obtain ⟨r75, hr76, h⟩ := bind_some h
        refine a_call (args := [(eT_Si64_Si64_Z (rd r47 x57.toNat))]) (u := []) (r := (eT_A64u8_A64u8_Z r75)) rfl rfl (impl_form_told_ok (rd r47 x57.toNat) r75 hr76) rfl (vq (.sl 128 true (([r75]).map eT_A64u8_A64u8_Z)) rfl ⟨(Nat.le_of_ble_eq_true rfl), (Nat.le_of_ble_eq_true rfl), (all_cons ⟨(Nat.le_of_ble_eq_true rfl), rfl⟩ all_nil)⟩ ?_)
        obtain ⟨hc77, h⟩ := ifp_some h
        refine vu (.osl 3900) [(3900, (bk (.row 128 (((x58 ++ ([r75]))).map eT_A64u8_A64u8_Z)))), (7, none)] (app_run (i := ⟨.struct [(0, 26), (64, 26)], 128, 128, (eT_A64u8_A64u8_Z ((vrep 64 (0 : Int)), (vrep 64 (0 : Int))))⟩) (f := eT_A64u8_A64u8_Z) (l := x58) (l2 := [r75]) rfl rfl rfl rfl (fun _ => rfl) rfl rfl) (app_c (f := eT_A64u8_A64u8_Z) (s := 128) (sz := 128) (by' := 128) (u := []) (id := 7) hc77 (.inr rfl) rfl rfl rfl) rfl (vp (.osl 3900) rfl (a_nil (b_norm (a_next (σ' := ⟨[(7, (.osl 7)), (19, (eST_Si64_Si64_Z r47)), (20, (i6 (r47.length : Int))), (21, (i6 x57))], [(7, (bk (.row 128 (((x58 ++ ([r75]))).map eT_A64u8_A64u8_Z))))]⟩) (by kernel_rfl) (a_region (vp (i6 (IntKind.i64.wrap (x57 + 1))) rfl (vp (i6 (IntKind.i64.wrap (x57 + 1))) rfl (a_nil ?_))))))))
        cases h
        exact a_again (by kernel_rfl) hX69
  · have h := ite_t hb4 h
    refine a_cond_t rfl (sr (vp (i6 r2) rfl (vp (eST_A64u8_A64u8_Z ([])) rfl (vp (i6 r2) rfl (nx _ rfl (a_ret (t_ret ?_)))))))
    refine ⟨.inr rfl, ?_⟩
    rw [Try.results16]
    cases h
    exact ⟨_, _, _, _, _, rfl, trivial, .inl ⟨rfl, .inl rfl⟩, rfl, ⟨_, _, _, _, _, rfl, trivial, .inl ⟨rfl, .inl rfl⟩, rfl, rfl⟩⟩
def laws_FnExactReducedForms_c : ACode := (.seq (.region 0 [q 3 (.box 22 (t 1)), q 4 (.asg 0 (.const (.bool false)) 4)] false) (.seq (.region 1 [q 14 (.mov (t 0)), q 15 (.load 22 (t 3)), q 16 (.call 0 (.func 15) [(t 15)]), q 17 (.call 0 (.func 14) [(t 14), (t 16)]), q 13 (.mov (t 17)), q 18 (.extract (t 13) 0), q 19 (.extract (t 13) 1), q 5 (.asg 1 (t 18) 23), q 6 (.asg 0 (t 19) 2)] false) (.seq (.region 2 [q 21 (.mov (t 0)), q 22 (.load 22 (t 3)), q 23 (.call 0 (.func 15) [(t 22)]), q 24 (.call 0 (.func 16) [(t 21), (t 23)]), q 20 (.mov (t 24)), q 25 (.extract (t 20) 0), q 26 (.extract (t 20) 1), q 7 (.asg 2 (t 25) 23), q 8 (.asg 0 (t 26) 2)] false) (.seq (.seq (.region 3 [q 27 (.mov (t 7)), q 28 (.mov (t 5)), q 29 (.call 0 (.func 17) [(t 27), (t 28)]), q 30 (.un .not (t 29)), q 31 (.mov (t 30)), ⟨some 32, .mov (t 8), some (31, false), []⟩, ⟨some 33, .mov (t 6), some (31, false), []⟩, ⟨some 34, .bin .neq 2 (t 32) (t 33), some (31, false), []⟩, q 35 (.pick (t 31) (.const (.bool true)) (t 34))] false) (.cond (t 35) (.seq (.region 4 [q 4 (.asg 0 (.const (.bool false)) 4)] false) .ret) .skip)) (.seq (.region 5 [q 9 (.asg 0 (.const (.int .i64 1)) 3)] false) (.seq (.region 6 [q 36 (.mov (t 7)), q 37 (.mov (t 9)), q 38 (.call 1 (.func 18) [(t 36), (t 37)]), q 9 (.asg 0 (t 38) 3)] false) (.seq (.region 7 [q 10 (.asg 0 (.const (.int .i64 1)) 3)] false) (.seq (.region 8 [q 39 (.mov (t 7)), q 40 (.mov (t 10)), q 41 (.call 0 (.func 19) [(t 39), (t 40)]), q 10 (.asg 0 (t 41) 3)] false) (.seq (.seq (.region 9 [q 42 (.mov (t 10)), q 43 (.bin .lss 3 (t 42) (.const (.int .i64 0)))] false) (.cond (t 43) (.seq (.region 10 [q 4 (.asg 0 (.const (.bool false)) 4)] false) .ret) .skip)) (.seq (.seq (.region 11 [q 44 (.mov (t 10)), q 45 (.mov (t 9)), q 46 (.bin .neq 3 (t 44) (t 45))] false) (.cond (t 46) (.seq (.region 12 [q 4 (.asg 0 (.const (.bool false)) 4)] false) .ret) .skip)) (.seq (.region 13 [q 48 (.mov (t 0)), q 49 (.load 22 (t 3)), q 50 (.call 0 (.func 15) [(t 49)]), q 51 (.call 0 (.func 16) [(t 48), (t 50)]), q 47 (.mov (t 51)), q 52 (.extract (t 47) 0), q 53 (.extract (t 47) 1), q 11 (.asg 1 (t 52) 23), q 12 (.asg 0 (t 53) 2)] false) (.seq (.seq (.region 14 [q 54 (.mov (t 11)), q 55 (.mov (t 5)), q 56 (.call 0 (.func 17) [(t 54), (t 55)]), q 57 (.un .not (t 56)), q 58 (.mov (t 57)), ⟨some 59, .mov (t 12), some (58, false), []⟩, ⟨some 60, .mov (t 6), some (58, false), []⟩, ⟨some 61, .bin .neq 2 (t 59) (t 60), some (58, false), []⟩, q 62 (.pick (t 58) (.const (.bool true)) (t 61))] false) (.cond (t 62) (.seq (.region 15 [q 4 (.asg 0 (.const (.bool false)) 4)] false) .ret) .skip)) (.seq (.region 16 [q 10 (.asg 0 (.const (.int .i64 1)) 3)] false) (.seq (.region 17 [q 63 (.mov (t 7)), q 64 (.mov (t 10)), q 65 (.call 0 (.func 19) [(t 63), (t 64)]), q 10 (.asg 0 (t 65) 3)] false) (.seq (.seq (.region 18 [q 66 (.mov (t 10)), q 67 (.bin .lss 3 (t 66) (.const (.int .i64 0)))] false) (.cond (t 67) (.seq (.region 19 [q 4 (.asg 0 (.const (.bool false)) 4)] false) .ret) .skip)) (.seq (.seq (.region 20 [q 68 (.mov (t 10)), q 69 (.mov (t 9)), q 70 (.bin .neq 3 (t 68) (t 69))] false) (.cond (t 70) (.seq (.region 21 [q 4 (.asg 0 (.const (.bool false)) 4)] false) .ret) .skip)) (.seq (.region 22 [q 4 (.asg 0 (.const (.bool true)) 4)] false) .ret)))))))))))))))))
def laws_FnExactReducedForms_L : Live := [(0, [0, 1]), (1, [0, 3]), (2, [0, 3, 5, 6]), (3, [0, 3, 5, 6, 7, 8]), (4, []), (5, [0, 3, 5, 6, 7]), (6, [0, 3, 5, 6, 7, 9]), (7, [0, 3, 5, 6, 7, 9]), (8, [0, 3, 5, 6, 7, 9, 10]), (9, [0, 3, 5, 6, 7, 9, 10]), (10, []), (11, [0, 3, 5, 6, 7, 9, 10]), (12, []), (13, [0, 3, 5, 6, 7, 9]), (14, [5, 6, 7, 9, 11, 12]), (15, []), (16, [7, 9]), (17, [7, 9, 10]), (18, [9, 10]), (19, []), (20, [9, 10]), (21, []), (22, []), (100035, [0, 3, 5, 6, 7, 35]), (100043, [0, 3, 5, 6, 7, 9, 10, 43]), (100046, [0, 3, 5, 6, 7, 9, 46]), (100062, [7, 9, 62]), (100067, [9, 10, 67]), (100070, [70])]
noncomputable def laws_FnExactReducedForms (a0 : Int) (a1 : (Vec Int 64)) : Option Bool :=
  (Option.bind (laws_toPoly a1) fun r2 => (Option.bind (spec_ReducedForms a0 r2) fun r4 => (Option.bind (laws_toPoly a1) fun r7 => (Option.bind (impl_ReducedForms_fresh a0 r7) fun r9 => (Option.bind (α := Bool) ((Option.bind (laws_eqFormS r9.1 r4.1) fun r18 => (if (!r18) then (some true) else (some (r9.2 != r4.2))))) fun x14 => (if x14 then (some false) else (Option.bind (laws_markFormS_of_mut r9.1 1) fun r22 => (ifp (r22.2.length = r9.1.length) ((Option.bind (laws_heldFormS r22.2 1) fun r25 => (if (decide (r25 < 0)) then (some false) else (if (r25 != r22.1) then (some false) else (Option.bind (laws_toPoly a1) fun r30 => (Option.bind (impl_ReducedForms a0 r30) fun r32 => (Option.bind (α := Bool) ((Option.bind (laws_eqFormS r32.1 r4.1) fun r41 => (if (!r41) then (some true) else (some (r32.2 != r4.2))))) fun x37 => (if x37 then (some false) else (Option.bind (laws_heldFormS r22.2 1) fun r45 => (if (decide (r45 < 0)) then (some false) else (if (r45 != r22.1) then (some false) else (some true))))))))))))))))))))
theorem laws_FnExactReducedForms_ok (a0 : Int) (a1 : (Vec Int 64)) (r : Bool) (h : laws_FnExactReducedForms a0 a1 = some r) : Den Try.prog 3 [(i6 a0), (eA64u8 a1)] { r := (.bool r) } := by
  refine den_of (rs := [(.bool r)]) (ac := laws_FnExactReducedForms_c) (L := laws_FnExactReducedForms_L) (n := 71) (m := [(5, 1), (7, 2), (11, 1), (38, 1)]) (c := Try.f3.body.getD .skip) good Try.func3 (by kernel_rfl) (by kernel_rfl) Try.ntmps3 rfl rfl (by kernel_rfl) rfl rfl ?_
  refine a_st (σ' := ⟨[(0, (i6 a0)), (1, (eA64u8 a1))], []⟩) (by kernel_rfl) ?_
  unfold laws_FnExactReducedForms_c
  refine sr (vo 1300 (eA64u8 a1) rfl rfl (vp (.bool false) rfl (nx ⟨[(0, (i6 a0)), (3, (ow 3))], [(3, (bk (eA64u8 a1)))]⟩ (by kernel_rfl) (sr (vp (i6 a0) rfl (vl (eA64u8 a1) rfl rfl rfl rfl rfl rfl ?_))))))
  obtain ⟨r2, hr3, h⟩ := bind_some h
  refine a_call (args := [(eA64u8 a1)]) (u := []) (r := (eA64u8 r2)) rfl rfl (laws_toPoly_ok a1 r2 hr3) rfl ?_
  obtain ⟨r4, hr5, h⟩ := bind_some h
  refine a_call (args := [(i6 a0), (eA64u8 r2)]) (u := []) (r := (.tuple [(eST_A64u8_A64u8_Z r4.1), (i6 r4.2)])) rfl rfl (spec_ReducedForms_ok a0 r2 r4 hr5) rfl (vp (.tuple [(eST_A64u8_A64u8_Z r4.1), (i6 r4.2)]) rfl (vb (eST_A64u8_A64u8_Z r4.1) rfl rfl (vb (i6 r4.2) rfl rfl (vp (eST_A64u8_A64u8_Z r4.1) rfl (vp (i6 r4.2) rfl (nx ⟨[(0, (i6 a0)), (3, (ow 3)), (5, (eST_A64u8_A64u8_Z r4.1)), (6, (i6 r4.2))], [(3, (bk (eA64u8 a1)))]⟩ (by kernel_rfl) (sr (vp (i6 a0) rfl (vl (eA64u8 a1) rfl rfl rfl rfl rfl rfl ?_)))))))))
  obtain ⟨r7, hr8, h⟩ := bind_some h
  refine a_call (args := [(eA64u8 a1)]) (u := []) (r := (eA64u8 r7)) rfl rfl (laws_toPoly_ok a1 r7 hr8) rfl ?_
  obtain ⟨r9, hr10, h⟩ := bind_some h
  refine a_callF (args := [(i6 a0), (eA64u8 r7)]) (u := []) (u2 := []) (r := (.tuple [(.osl 2000000), (i6 r9.2)])) (fs := [(128, r9.1.map eT_A64u8_A64u8_Z)]) rfl rfl (impl_ReducedForms_fresh_ok a0 r7 r9 hr10) rfl rfl rfl (.inl rfl) rfl (vp (.tuple [(.osl 3400), (i6 r9.2)]) rfl (vb (.osl 3400) rfl rfl (vb (i6 r9.2) rfl rfl (vp (.osl 3400) rfl (vp (i6 r9.2) rfl (nx ⟨[(0, (i6 a0)), (3, (ow 3)), (5, (eST_A64u8_A64u8_Z r4.1)), (6, (i6 r4.2)), (7, (.osl 7)), (8, (i6 r9.2))], [(3, (bk (eA64u8 a1))), (7, (bk (.row 128 (r9.1.map eT_A64u8_A64u8_Z))))]⟩ (by kernel_rfl) (a_seq ?_)))))))
  obtain ⟨y15, hy16, hk17⟩ := bind_some h
  clear h
  refine a_join (emb := fun (s : Bool) => ⟨[(0, (i6 a0)), (3, (ow 3)), (5, (eST_A64u8_A64u8_Z r4.1)), (6, (i6 r4.2)), (7, (.osl 7)), (35, (.bool s))], [(3, (bk (eA64u8 a1))), (7, (bk (.row 128 (r9.1.map eT_A64u8_A64u8_Z))))]⟩) (pre := fun s => s = y15) ?_ ?_
  · rintro x14 rfl
    have h := hk17
    refine a_st (σ' := ⟨[(0, (i6 a0)), (3, (ow 3)), (5, (eST_A64u8_A64u8_Z r4.1)), (6, (i6 r4.2)), (7, (.osl 7)), (35, (.bool x14))], [(3, (bk (eA64u8 a1))), (7, (bk (.row 128 (r9.1.map eT_A64u8_A64u8_Z))))]⟩) (by kernel_rfl) ?_
    cases hb21 : x14
    · have h := ite_f hb21 h
      refine a_cond_f rfl (a_skip (a_next (σ' := ⟨[(0, (i6 a0)), (3, (ow 3)), (5, (eST_A64u8_A64u8_Z r4.1)), (6, (i6 r4.2)), (7, (.osl 7))], [(3, (bk (eA64u8 a1))), (7, (bk (.row 128 (r9.1.map eT_A64u8_A64u8_Z))))]⟩) (by kernel_rfl) (sr (vp (i6 1) rfl (nx ⟨[(0, (i6 a0)), (3, (ow 3)), (5, (eST_A64u8_A64u8_Z r4.1)), (6, (i6 r4.2)), (7, (.osl 7)), (9, (i6 1))], [(3, (bk (eA64u8 a1))), (7, (bk (.row 128 (r9.1.map eT_A64u8_A64u8_Z))))]⟩ (by kernel_rfl) (sr (vp (.osl 7) rfl (vp (i6 1) rfl ?_))))))))
      obtain ⟨r22, hr23, h⟩ := bind_some h
      obtain ⟨hl24, h⟩ := ifp_some h
      refine a_callM (args := [(.mutsl 128 (r9.1.map eT_A64u8_A64u8_Z)), (i6 1)]) (i := 0) (id := 7) (r := (i6 r22.1)) (c := (.row 128 (r22.2.map eT_A64u8_A64u8_Z))) rfl rfl (laws_markFormS_of_mut_ok r9.1 1 r22 hr23) rfl (shape_map hl24) (vp (i6 r22.1) rfl (nx ⟨[(0, (i6 a0)), (3, (ow 3)), (5, (eST_A64u8_A64u8_Z r4.1)), (6, (i6 r4.2)), (7, (.osl 7)), (9, (i6 r22.1))], [(3, (bk (eA64u8 a1))), (7, (bk (.row 128 (r22.2.map eT_A64u8_A64u8_Z))))]⟩ (by kernel_rfl) (sr (vp (i6 1) rfl (nx ⟨[(0, (i6 a0)), (3, (ow 3)), (5, (eST_A64u8_A64u8_Z r4.1)), (6, (i6 r4.2)), (7, (.osl 7)), (9, (i6 r22.1)), (10, (i6 1))], [(3, (bk (eA64u8 a1))), (7, (bk (.row 128 (r22.2.map eT_A64u8_A64u8_Z))))]⟩ (by kernel_rfl) (sr (vp (.osl 7) rfl (vp (i6 1) rfl ?_))))))))
      obtain ⟨r25, hr26, h⟩ := bind_some h
      refine a_callB (args := [(eST_A64u8_A64u8_Z r22.2), (i6 1)]) (u := [(7, (bf (.row 128 (r22.2.map eT_A64u8_A64u8_Z))))]) (r := (i6 r25)) rfl rfl (laws_heldFormS_ok r22.2 1 r25 hr26) rfl trivial (vp (i6 r25) rfl (nx ⟨[(0, (i6 a0)), (3, (ow 3)), (5, (eST_A64u8_A64u8_Z r4.1)), (6, (i6 r4.2)), (7, (.osl 7)), (9, (i6 r22.1)), (10, (i6 r25))], [(3, (bk (eA64u8 a1))), (7, (bk (.row 128 (r22.2.map eT_A64u8_A64u8_Z))))]⟩ (by kernel_rfl) (a_seq (sr (vp (i6 r25) rfl (vp (.bool ((decide (r25 < 0)))) rfl (nx ⟨[(0, (i6 a0)), (3, (ow 3)), (5, (eST_A64u8_A64u8_Z r4.1)), (6, (i6 r4.2)), (7, (.osl 7)), (9, (i6 r22.1)), (10, (i6 r25)), (43, (.bool ((decide (r25 < 0)))))], [(3, (bk (eA64u8 a1))), (7, (bk (.row 128 (r22.2.map eT_A64u8_A64u8_Z))))]⟩ (by kernel_rfl) ?_)))))))
      cases hb27 : (decide (r25 < 0))
      · have h := ite_f hb27 h
        refine a_cond_f rfl (a_skip (a_next (σ' := ⟨[(0, (i6 a0)), (3, (ow 3)), (5, (eST_A64u8_A64u8_Z r4.1)), (6, (i6 r4.2)), (7, (.osl 7)), (9, (i6 r22.1)), (10, (i6 r25))], [(3, (bk (eA64u8 a1))), (7, (bk (.row 128 (r22.2.map eT_A64u8_A64u8_Z))))]⟩) (by kernel_rfl) (a_seq (sr (vp (i6 r25) rfl (vp (i6 r22.1) rfl (vp (.bool (r25 != r22.1)) rfl (nx ⟨[(0, (i6 a0)), (3, (ow 3)), (5, (eST_A64u8_A64u8_Z r4.1)), (6, (i6 r4.2)), (7, (.osl 7)), (9, (i6 r22.1)), (46, (.bool (r25 != r22.1)))], [(3, (bk (eA64u8 a1))), (7, (bk (.row 128 (r22.2.map eT_A64u8_A64u8_Z))))]⟩ (by kernel_rfl) ?_))))))))
        cases hb28 : (r25 != r22.1)
        · have h := ite_f hb28 h
          refine a_cond_f rfl (a_skip (a_next (σ' := ⟨[(0, (i6 a0)), (3, (ow 3)), (5, (eST_A64u8_A64u8_Z r4.1)), (6, (i6 r4.2)), (7, (.osl 7)), (9, (i6 r22.1))], [(3, (bk (eA64u8 a1))), (7, (bk (.row 128 (r22.2.map eT_A64u8_A64u8_Z))))]⟩) (by kernel_rfl) (sr (vp (i6 a0) rfl (vl (eA64u8 a1) rfl rfl rfl rfl rfl rfl ?_)))))
          obtain ⟨r30, hr31, h⟩ := bind_some h
          refine a_call (args := [(eA64u8 a1)]) (u := []) (r := (eA64u8 r30)) rfl rfl (laws_toPoly_ok a1 r30 hr31) rfl ?_
          obtain ⟨r32, hr33, h⟩ := bind_some h
          refine a_call (args := [(i6 a0), (eA64u8 r30)]) (u := []) (r := (.tuple [(eST_A64u8_A64u8_Z r32.1), (i6 r32.2)])) rfl rfl (impl_ReducedForms_ok a0 r30 r32 hr33) rfl (vp (.tuple [(eST_A64u8_A64u8_Z r32.1), (i6 r32.2)]) rfl (vb (eST_A64u8_A64u8_Z r32.1) rfl rfl (vb (i6 r32.2) rfl rfl (vp (eST_A64u8_A64u8_Z r32.1) rfl (vp (i6 r32.2) rfl (nx ⟨[(5, (eST_A64u8_A64u8_Z r4.1)), (6, (i6 r4.2)), (7, (.osl 7)), (9, (i6 r22.1)), (11, (eST_A64u8_A64u8_Z r32.1)), (12, (i6 r32.2))], [(7, (bk (.row 128 (r22.2.map eT_A64u8_A64u8_Z))))]⟩ (by kernel_rfl) (a_seq ?_)))))))
          obtain ⟨y38, hy39, hk40⟩ := bind_some h
          clear h
          refine a_join (emb := fun (s : Bool) => ⟨[(7, (.osl 7)), (9, (i6 r22.1)), (62, (.bool s))], [(7, (bk (.row 128 (r22.2.map eT_A64u8_A64u8_Z))))]⟩) (pre := fun s => s = y38) ?_ ?_
          · rintro x37 rfl
            have h := hk40
            refine a_st (σ' := ⟨[(7, (.osl 7)), (9, (i6 r22.1)), (62, (.bool x37))], [(7, (bk (.row 128 (r22.2.map eT_A64u8_A64u8_Z))))]⟩) (by kernel_rfl) ?_
            cases hb44 : x37
            · have h := ite_f hb44 h
              refine a_cond_f rfl (a_skip (a_next (σ' := ⟨[(7, (.osl 7)), (9, (i6 r22.1))], [(7, (bk (.row 128 (r22.2.map eT_A64u8_A64u8_Z))))]⟩) (by kernel_rfl) (sr (vp (i6 1) rfl (nx ⟨[(7, (.osl 7)), (9, (i6 r22.1)), (10, (i6 1))], [(7, (bk (.row 128 (r22.2.map eT_A64u8_A64u8_Z))))]⟩ (by kernel_rfl) (sr (vp (.osl 7) rfl (vp (i6 1) rfl ?_))))))))
              obtain ⟨r45, hr46, h⟩ := bind_some h
              refine a_callB (args := [(eST_A64u8_A64u8_Z r22.2), (i6 1)]) (u := [(7, (bf (.row 128 (r22.2.map eT_A64u8_A64u8_Z))))]) (r := (i6 r45)) rfl rfl (laws_heldFormS_ok r22.2 1 r45 hr46) rfl trivial (vp (i6 r45) rfl (nx ⟨[(9, (i6 r22.1)), (10, (i6 r45))], []⟩ (by kernel_rfl) (a_seq (sr (vp (i6 r45) rfl (vp (.bool ((decide (r45 < 0)))) rfl (nx ⟨[(9, (i6 r22.1)), (10, (i6 r45)), (67, (.bool ((decide (r45 < 0)))))], []⟩ (by kernel_rfl) ?_)))))))
              cases hb47 : (decide (r45 < 0))
              · have h := ite_f hb47 h
                refine a_cond_f rfl (a_skip (a_next (σ' := ⟨[(9, (i6 r22.1)), (10, (i6 r45))], []⟩) (by kernel_rfl) (a_seq (sr (vp (i6 r45) rfl (vp (i6 r22.1) rfl (vp (.bool (r45 != r22.1)) rfl (nx ⟨[(70, (.bool (r45 != r22.1)))], []⟩ (by kernel_rfl) ?_))))))))
                cases hb48 : (r45 != r22.1)
                · have h := ite_f hb48 h
                  refine a_cond_f rfl (a_skip (a_next (σ' := ⟨[], []⟩) (by kernel_rfl) (sr (vp (.bool true) rfl (nx _ rfl (a_ret ?_))))))
                  refine ⟨.inr rfl, ?_⟩
                  rw [Try.results3]
                  cases h
                  exact ⟨_, _, _, _, _, rfl, trivial, .inl ⟨rfl, .inl rfl⟩, rfl, rfl⟩
                · have h := ite_t hb48 h
                  refine a_cond_t rfl (sr (vp (.bool false) rfl (nx _ rfl (a_ret (t_ret ?_)))))
                  refine ⟨.inr rfl, ?_⟩
                  rw [Try.results3]
                  cases h
                  exact ⟨_, _, _, _, _, rfl, trivial, .inl ⟨rfl, .inl rfl⟩, rfl, rfl⟩
              · have h := ite_t hb47 h
                refine a_cond_t rfl (sr (vp (.bool false) rfl (nx _ rfl (a_ret (t_ret ?_)))))
                refine ⟨.inr rfl, ?_⟩
                rw [Try.results3]
                cases h
                exact ⟨_, _, _, _, _, rfl, trivial, .inl ⟨rfl, .inl rfl⟩, rfl, rfl⟩
            · have h := ite_t hb44 h
              refine a_cond_t rfl (sr (vp (.bool false) rfl (nx _ rfl (a_ret (t_ret ?_)))))
              refine ⟨.inr rfl, ?_⟩
              rw [Try.results3]
              cases h
              exact ⟨_, _, _, _, _, rfl, trivial, .inl ⟨rfl, .inl rfl⟩, rfl, rfl⟩
          · have h := hy39
            refine a_region (vp (eST_A64u8_A64u8_Z r32.1) rfl (vp (eST_A64u8_A64u8_Z r4.1) rfl ?_))
            obtain ⟨r41, hr42, h⟩ := bind_some h
            refine a_call (args := [(eST_A64u8_A64u8_Z r32.1), (eST_A64u8_A64u8_Z r4.1)]) (u := []) (r := (.bool r41)) rfl rfl (laws_eqFormS_ok r32.1 r4.1 r41 hr42) rfl (vp (.bool (!r41)) rfl (vp (.bool (!r41)) rfl ?_))
            cases hb43 : (!r41)
            · have h := ite_f hb43 h
              refine gp (i6 r32.2) rfl rfl (gp (i6 r4.2) rfl rfl (gp (.bool (r32.2 != r4.2)) rfl rfl (vp (.bool (r32.2 != r4.2)) rfl (a_nil ?_))))
              exact j_leaf (r32.2 != r4.2) (Option.some.inj h) (by kernel_rfl)
            · have h := ite_t hb43 h
              refine a_gskip rfl (a_gskip rfl (a_gskip rfl (vp (.bool true) rfl (a_nil ?_))))
              exact j_leaf true (Option.some.inj h) (by kernel_rfl)
        · have h := ite_t hb28 h
          refine a_cond_t rfl (sr (vp (.bool false) rfl (nx _ rfl (a_ret (t_ret ?_)))))
          refine ⟨.inr rfl, ?_⟩
          rw [Try.results3]
          cases h
          exact ⟨_, _, _, _, _, rfl, trivial, .inl ⟨rfl, .inl rfl⟩, rfl, rfl⟩
      · have h := ite_t hb27 h
        refine a_cond_t rfl (sr (vp (.bool false) rfl (nx _ rfl (a_ret (t_ret ?_)))))
        refine ⟨.inr rfl, ?_⟩
        rw [Try.results3]
        cases h
        exact ⟨_, _, _, _, _, rfl, trivial, .inl ⟨rfl, .inl rfl⟩, rfl, rfl⟩
    · have h := ite_t hb21 h
      refine a_cond_t rfl (sr (vp (.bool false) rfl (nx _ rfl (a_ret (t_ret ?_)))))
      refine ⟨.inr rfl, ?_⟩
      rw [Try.results3]
      cases h
      exact ⟨_, _, _, _, _, rfl, trivial, .inl ⟨rfl, .inl rfl⟩, rfl, rfl⟩
  · have h := hy16
    refine a_region (vp (.osl 7) rfl (vp (eST_A64u8_A64u8_Z r4.1) rfl ?_))
    obtain ⟨r18, hr19, h⟩ := bind_some h
    refine a_callB (args := [(eST_A64u8_A64u8_Z r9.1), (eST_A64u8_A64u8_Z r4.1)]) (u := [(7, (bf (.row 128 (r9.1.map eT_A64u8_A64u8_Z))))]) (r := (.bool r18)) rfl rfl (laws_eqFormS_ok r9.1 r4.1 r18 hr19) rfl trivial (vp (.bool (!r18)) rfl (vp (.bool (!r18)) rfl ?_))
    cases hb20 : (!r18)
    · have h := ite_f hb20 h
      refine gp (i6 r9.2) rfl rfl (gp (i6 r4.2) rfl rfl (gp (.bool (r9.2 != r4.2)) rfl rfl (vp (.bool (r9.2 != r4.2)) rfl (a_nil ?_))))
      exact j_leaf (r9.2 != r4.2) (Option.some.inj h) (by kernel_rfl)
    · have h := ite_t hb20 h
      refine a_gskip rfl (a_gskip rfl (a_gskip rfl (vp (.bool true) rfl (a_nil ?_))))
      exact j_leaf true (Option.some.inj h) (by kernel_rfl)
def impl_row_fits_c : ACode := (.seq (.region 0 [q 2 (.asg 0 (.const (.bool false)) 4)] false) (.seq (.region 1 [q 3 (.mov (t 0)), q 4 (.call 0 (.func 69) [(t 3)]), q 5 (.bin .leq 2 (t 4) (.const (.int .i64 63))), q 2 (.asg 0 (t 5) 4)] false) .ret))
def impl_row_fits_L : Live := [(0, [0]), (1, [0])]
noncomputable def impl_row_fits (a0 : (List Int)) : Option Bool :=
  (Option.bind (impl_row_degree a0) fun r1 => (some ((decide (r1 ≤ 63)))))
theorem impl_row_fits_ok (a0 : (List Int)) (r : Bool) (h : impl_row_fits a0 = some r) : Den Try.prog 140 [(eSi64 a0)] { r := (.bool r) } := by
  refine den_of (rs := [(.bool r)]) (ac := impl_row_fits_c) (L := impl_row_fits_L) (n := 6) (m := []) (c := Try.f140.body.getD .skip) good Try.func140 (by kernel_rfl) (by kernel_rfl) Try.ntmps140 rfl rfl (by kernel_rfl) rfl rfl ?_
  refine a_st (σ' := ⟨[(0, (eSi64 a0))], []⟩) (by kernel_rfl) ?_
  unfold impl_row_fits_c
  refine sr (vp (.bool false) rfl (nx ⟨[(0, (eSi64 a0))], []⟩ (by kernel_rfl) (sr (vp (eSi64 a0) rfl ?_))))
  obtain ⟨r1, hr2, h⟩ := bind_some h
  refine a_call (args := [(eSi64 a0)]) (u := []) (r := (i6 r1)) rfl rfl (impl_row_degree_ok a0 r1 hr2) rfl (vp (.bool ((decide (r1 ≤ 63)))) rfl (vp (.bool ((decide (r1 ≤ 63)))) rfl (nx _ rfl (a_ret ?_))))
  refine ⟨.inr rfl, ?_⟩
  rw [Try.results140]
  cases h
  exact ⟨_, _, _, _, _, rfl, trivial, .inl ⟨rfl, .inl rfl⟩, rfl, rfl⟩
def impl_told_c : ACode := (.seq (.region 0 [q 2 (.alloc 26), q 3 (.asg 0 (.const (.int .i64 0)) 2)] false) (.seq (.seq (.region 1 [q 4 (.mov (t 0)), q 5 (.call 0 (.func 140) [(t 4)]), q 6 (.un .not (t 5))] false) (.cond (t 6) (.seq (.region 2 [q 7 (.build 26 []), ⟨none, .store 26 (t 2) (t 7), none, []⟩, q 3 (.asg 0 (.const (.int .i64 3)) 2)] false) .ret) .skip)) (.seq (.region 3 [q 8 (.mov (t 0)), q 9 (.call 0 (.func 131) [(t 8)]), ⟨none, .store 26 (t 2) (t 9), none, []⟩, q 3 (.asg 0 (.const (.int .i64 0)) 2)] false) .ret)))
def impl_told_L : Live := [(0, [0]), (1, [0, 2]), (2, [2]), (3, [0, 2]), (100006, [0, 2, 6])]
noncomputable def impl_told (a0 : (List Int)) : Option ((Vec Int 64) × Int) :=
  (Option.bind (impl_row_fits a0) fun r1 => (if (!r1) then (some (((vrep 64 (0 : Int)), 3))) else (Option.bind (impl_row_poly a0) fun r4 => (some (r4, 0)))))
theorem impl_told_ok (a0 : (List Int)) (r : ((Vec Int 64) × Int)) (h : impl_told a0 = some r) : Den Try.prog 74 [(eSi64 a0)] { r := (.tuple [(eA64u8 r.1), (i6 r.2)]) } := by
  refine den_of (rs := [(eA64u8 r.1), (i6 r.2)]) (ac := impl_told_c) (L := impl_told_L) (n := 10) (m := []) (c := Try.f74.body.getD .skip) good Try.func74 (by kernel_rfl) (by kernel_rfl) Try.ntmps74 rfl rfl (by kernel_rfl) rfl rfl ?_
  refine a_st (σ' := ⟨[(0, (eSi64 a0))], []⟩) (by kernel_rfl) ?_
  unfold impl_told_c
  refine sr (vo 1200 (eA64u8 ((vrep 64 (0 : Int)))) rfl rfl (vp (i6 0) rfl (nx ⟨[(0, (eSi64 a0)), (2, (ow 2))], [(2, (bk (eA64u8 ((vrep 64 (0 : Int))))))]⟩ (by kernel_rfl) (a_seq (sr (vp (eSi64 a0) rfl ?_))))))
  obtain ⟨r1, hr2, h⟩ := bind_some h
  refine a_call (args := [(eSi64 a0)]) (u := []) (r := (.bool r1)) rfl rfl (impl_row_fits_ok a0 r1 hr2) rfl (vp (.bool (!r1)) rfl (nx ⟨[(0, (eSi64 a0)), (2, (ow 2)), (6, (.bool (!r1)))], [(2, (bk (eA64u8 ((vrep 64 (0 : Int))))))]⟩ (by kernel_rfl) ?_))
  cases hb3 : (!r1)
  · have h := ite_f hb3 h
    refine a_cond_f rfl (a_skip (a_next (σ' := ⟨[(0, (eSi64 a0)), (2, (ow 2))], [(2, (bk (eA64u8 ((vrep 64 (0 : Int))))))]⟩) (by kernel_rfl) (sr (vp (eSi64 a0) rfl ?_))))
    obtain ⟨r4, hr5, h⟩ := bind_some h
    refine a_call (args := [(eSi64 a0)]) (u := []) (r := (eA64u8 r4)) rfl rfl (impl_row_poly_ok a0 r4 hr5) rfl (vs (eA64u8 r4) rfl rfl (fun _ => rfl) rfl rfl rfl rfl rfl rfl (vp (i6 0) rfl (nx _ rfl (a_ret ?_))))
    have hl7 : LdOk [] (eA64u8 r4) [] 64 true (eA64u8 r4) := (.nil rfl rfl rfl)
    refine ⟨.inr rfl, ?_⟩
    rw [Try.results74]
    cases h
    exact ⟨_, _, _, _, _, ld_own (i := ⟨.arr 64 5, 64, 64, (eA64u8 (vrep 64 (0 : Int)))⟩) rfl rfl rfl hl7, hl7.c, .inl ⟨rfl, .inl rfl⟩, rfl, ⟨_, _, _, _, _, rfl, trivial, .inl ⟨rfl, .inl rfl⟩, rfl, rfl⟩⟩
  · have h := ite_t hb3 h
    refine a_cond_t rfl (sr (vq (eA64u8 ((vrep 64 (0 : Int)))) rfl ⟨⟨_, rfl, rfl⟩, all_nil⟩ (vs (eA64u8 ((vrep 64 (0 : Int)))) rfl rfl (fun _ => rfl) rfl rfl rfl rfl rfl rfl (vp (i6 3) rfl (nx _ rfl (a_ret (t_ret ?_)))))))
    have hl9 : LdOk [] (eA64u8 ((vrep 64 (0 : Int)))) [] 64 true (eA64u8 ((vrep 64 (0 : Int)))) := (.nil rfl rfl rfl)
    refine ⟨.inr rfl, ?_⟩
    rw [Try.results74]
    cases h
    exact ⟨_, _, _, _, _, ld_own (i := ⟨.arr 64 5, 64, 64, (eA64u8 (vrep 64 (0 : Int)))⟩) rfl rfl rfl hl9, hl9.c, .inl ⟨rfl, .inl rfl⟩, rfl, ⟨_, _, _, _, _, rfl, trivial, .inl ⟨rfl, .inl rfl⟩, rfl, rfl⟩⟩
end Go.Proofs.Ytdhcpekngpndnaa
