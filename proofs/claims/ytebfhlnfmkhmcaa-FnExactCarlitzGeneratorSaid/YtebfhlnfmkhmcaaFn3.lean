/- Functions of the program: plain Lean functions, and that the program computes them. Printed by gen.py. -/
import Derived.Test.YtebfhlnfmkhmcaaFnT
import Derived.Test.YtebfhlnfmkhmcaaFn1
import Derived.Test.YtebfhlnfmkhmcaaFn2
namespace Go.Proofs.Ytebfhlnfmkhmcaa
open Go.Abs Go.Proofs
set_option linter.unusedSimpArgs false
set_option linter.unusedVariables false
set_option maxHeartbeats 16000000
attribute [local irreducible] Abs.acode Abs.aops Abs.aopsT Abs.thenK Abs.blockK

def spec_CarlitzGenerator_c : ACode := (.seq (.region 0 [q 3 (.box 26 (t 1)), q 4 (.alloc 26), q 5 (.asg 0 (.const (.int .i64 0)) 2)] false) (.seq (.seq (.region 1 [q 10 (.mov (t 0)), q 11 (.load 26 (t 3)), q 12 (.call 0 (.func 24) [(t 10), (t 11), (.const (.slice none 0 0))]), q 6 (.asg 0 (t 12) 2)] false) (.seq (.region 2 [q 13 (.mov (t 6)), q 14 (.bin .neq 2 (t 13) (.const (.int .i64 0)))] false) (.cond (t 14) (.seq (.region 3 [q 15 (.build 26 []), q 16 (.mov (t 6)), ⟨none, .store 26 (t 4) (t 15), none, []⟩, q 5 (.asg 0 (t 16) 2)] false) .ret) .skip))) (.seq (.region 4 [q 17 (.load 26 (t 3)), q 18 (.call 0 (.func 34) [(t 17)]), q 7 (.asg 0 (t 18) 2)] false) (.seq (.seq (.region 5 [q 19 (.mov (t 0)), q 20 (.load 26 (t 3)), q 21 (.call 0 (.func 25) [(t 19), (t 20)]), q 22 (.call 0 (.func 34) [(t 21)]), q 23 (.mov (t 7)), q 24 (.bin .lss 2 (t 22) (t 23))] false) (.cond (t 24) (.seq (.region 6 [q 25 (.build 26 []), ⟨none, .store 26 (t 4) (t 25), none, []⟩, q 5 (.asg 0 (.const (.int .i64 5)) 2)] false) .ret) .skip)) (.seq (.region 7 [q 8 (.asg 0 (.const (.int .i64 1)) 2)] false) (.block 0 (.loop (.seq (.block 1 (.seq (.region 9 [q 28 (.mov (t 0)), q 29 (.mov (t 8)), q 30 (.call 0 (.func 35) [(t 28), (t 29)]), q 9 (.alloc 26), ⟨none, .store 26 (t 9) (t 30), none, []⟩] false) (.seq (.region 10 [q 31 (.mov (t 0)), q 32 (.load 26 (t 9)), q 33 (.bslice 0 62 1 [(0, (t 32))]), q 34 (.load 26 (t 3)), q 35 (.call 0 (.func 36) [(t 31), (t 33), (t 34)]), q 36 (.call 0 (.func 34) [(t 35)]), q 37 (.mov (t 7)), q 38 (.bin .eql 2 (t 36) (t 37))] false) (.cond (t 38) (.seq (.region 11 [q 39 (.load 26 (t 9)), ⟨none, .store 26 (t 4) (t 39), none, []⟩, q 5 (.asg 0 (.const (.int .i64 0)) 2)] false) .ret) .skip)))) (.region 8 [q 26 (.mov (t 8)), q 27 (.bin .add 2 (t 26) (.const (.int .i64 1))), q 8 (.asg 0 (t 27) 2)] false)))))))))
def spec_CarlitzGenerator_L : Live := [(0, [0, 1]), (1, [0, 3, 4]), (2, [0, 3, 4, 6]), (3, [4, 6]), (4, [0, 3, 4]), (5, [0, 3, 4, 7]), (6, [4]), (7, [0, 3, 4, 7]), (8, [0, 3, 4, 7, 8]), (9, [0, 3, 4, 7, 8]), (10, [0, 3, 4, 7, 8, 9]), (11, [4, 9]), (100014, [0, 3, 4, 6, 14]), (100024, [0, 3, 4, 7, 24]), (100038, [0, 3, 4, 7, 8, 9, 38])]
noncomputable def spec_CarlitzGenerator_l1 (a0 : Int) (a1 : (Vec Int 64)) (r6 : Int) (x26 : Int) : Option (Int ⊕ ((Vec Int 64) × Int)) :=
  (Option.bind (spec_l01Of a0 x26) fun r42 => (Option.bind (spec_l04Annihilator a0 ([r42]) a1) fun r47 => (Option.bind (spec_l01Deg r47) fun r49 => (if (r49 == r6) then (some (.inr (r42, 0))) else (some (.inl (IntKind.i64.wrap (x26 + 1))))))))
noncomputable def spec_CarlitzGenerator (a0 : Int) (a1 : (Vec Int 64)) : Option ((Vec Int 64) × Int) :=
  (Option.bind (spec_l02Modulus a0 a1 ([])) fun r2 => (if (r2 != 0) then (some (((vrep 64 (0 : Int)), r2))) else (Option.bind (spec_l01Deg a1) fun r6 => (Option.bind (spec_l04Exponent a0 a1) fun r9 => (Option.bind (spec_l01Deg r9) fun r11 => (if (decide (r11 < r6)) then (some (((vrep 64 (0 : Int)), 5))) else (loopM (fun s : Int => spec_CarlitzGenerator_l1 a0 a1 r6 s) 1)))))))
theorem spec_CarlitzGenerator_ok (a0 : Int) (a1 : (Vec Int 64)) (r : ((Vec Int 64) × Int)) (h : spec_CarlitzGenerator a0 a1 = some r) : Den Try.prog 15 [(i6 a0), (eA64u8 a1)] { r := (.tuple [(eA64u8 r.1), (i6 r.2)]) } := by
  refine den_of (rs := [(eA64u8 r.1), (i6 r.2)]) (ac := spec_CarlitzGenerator_c) (L := spec_CarlitzGenerator_L) (n := 40) (m := []) (c := Try.f15.body.getD .skip) good Try.func15 (by kernel_rfl) (by kernel_rfl) Try.ntmps15 rfl rfl (by kernel_rfl) rfl rfl ?_
  refine a_st (σ' := ⟨[(0, (i6 a0)), (1, (eA64u8 a1))], []⟩) (by kernel_rfl) ?_
  unfold spec_CarlitzGenerator_c
  refine sr (vo 1300 (eA64u8 a1) rfl rfl (vo 1400 (eA64u8 ((vrep 64 (0 : Int)))) rfl rfl (vp (i6 0) rfl (nx ⟨[(0, (i6 a0)), (3, (ow 3)), (4, (ow 4))], [(3, (bk (eA64u8 a1))), (4, (bk (eA64u8 ((vrep 64 (0 : Int))))))]⟩ (by kernel_rfl) (a_seq (sr (vp (i6 a0) rfl (vl (eA64u8 a1) rfl rfl rfl rfl rfl rfl ?_))))))))
  obtain ⟨r2, hr3, h⟩ := bind_some h
  refine a_call (args := [(i6 a0), (eA64u8 a1), (.sl 0 true [])]) (u := []) (r := (i6 r2)) rfl rfl (Den.args (spec_l02Modulus_ok a0 a1 ([]) r2 hr3) rfl rfl (.cons (.refl _) (.cons (.refl _) (.cons (.nil _ _ _ _ (fun _ => rfl)) .nil)))) rfl (vp (i6 r2) rfl (nx ⟨[(0, (i6 a0)), (3, (ow 3)), (4, (ow 4)), (6, (i6 r2))], [(3, (bk (eA64u8 a1))), (4, (bk (eA64u8 ((vrep 64 (0 : Int))))))]⟩ (by kernel_rfl) (sr (vp (i6 r2) rfl (vp (.bool (r2 != 0)) rfl (nx ⟨[(0, (i6 a0)), (3, (ow 3)), (4, (ow 4)), (6, (i6 r2)), (14, (.bool (r2 != 0)))], [(3, (bk (eA64u8 a1))), (4, (bk (eA64u8 ((vrep 64 (0 : Int))))))]⟩ (by kernel_rfl) ?_))))))
  cases hb4 : (r2 != 0)
  · have h := ite_f hb4 h
    refine a_cond_f rfl (a_skip (a_next (σ' := ⟨[(0, (i6 a0)), (3, (ow 3)), (4, (ow 4))], [(3, (bk (eA64u8 a1))), (4, (bk (eA64u8 ((vrep 64 (0 : Int))))))]⟩) (by kernel_rfl) (sr (vl (eA64u8 a1) rfl rfl rfl rfl rfl rfl ?_))))
    obtain ⟨r6, hr7, h⟩ := bind_some h
    refine a_call (args := [(eA64u8 a1)]) (u := []) (r := (i6 r6)) rfl rfl (spec_l01Deg_ok a1 r6 hr7) rfl (vp (i6 r6) rfl (nx ⟨[(0, (i6 a0)), (3, (ow 3)), (4, (ow 4)), (7, (i6 r6))], [(3, (bk (eA64u8 a1))), (4, (bk (eA64u8 ((vrep 64 (0 : Int))))))]⟩ (by kernel_rfl) (a_seq (sr (vp (i6 a0) rfl (vl (eA64u8 a1) rfl rfl rfl rfl rfl rfl ?_))))))
    obtain ⟨r9, hr10, h⟩ := bind_some h
    refine a_call (args := [(i6 a0), (eA64u8 a1)]) (u := []) (r := (eA64u8 r9)) rfl rfl (spec_l04Exponent_ok a0 a1 r9 hr10) rfl ?_
    obtain ⟨r11, hr12, h⟩ := bind_some h
    refine a_call (args := [(eA64u8 r9)]) (u := []) (r := (i6 r11)) rfl rfl (spec_l01Deg_ok r9 r11 hr12) rfl (vp (i6 r6) rfl (vp (.bool ((decide (r11 < r6)))) rfl (nx ⟨[(0, (i6 a0)), (3, (ow 3)), (4, (ow 4)), (7, (i6 r6)), (24, (.bool ((decide (r11 < r6)))))], [(3, (bk (eA64u8 a1))), (4, (bk (eA64u8 ((vrep 64 (0 : Int))))))]⟩ (by kernel_rfl) ?_)))
    cases hb13 : (decide (r11 < r6))
    · have h := ite_f hb13 h
      refine a_cond_f rfl (a_skip (a_next (σ' := ⟨[(0, (i6 a0)), (3, (ow 3)), (4, (ow 4)), (7, (i6 r6))], [(3, (bk (eA64u8 a1))), (4, (bk (eA64u8 ((vrep 64 (0 : Int))))))]⟩) (by kernel_rfl) (sr (vp (i6 1) rfl (nx ⟨[(0, (i6 a0)), (3, (ow 3)), (4, (ow 4)), (7, (i6 r6)), (8, (i6 1))], [(3, (bk (eA64u8 a1))), (4, (bk (eA64u8 ((vrep 64 (0 : Int))))))]⟩ (by kernel_rfl) (a_block ?_))))))
      refine a_loop (emb := fun (s : Int) => ⟨[(0, (i6 a0)), (3, (ow 3)), (4, (ow 4)), (7, (i6 r6)), (8, (i6 s))], [(3, (bk (eA64u8 a1))), (4, (bk (eA64u8 ((vrep 64 (0 : Int))))))]⟩) (body := (fun s : Int => spec_CarlitzGenerator_l1 a0 a1 r6 s)) (G := fun q => some q = some r) h rfl ?_ (by kernel_rfl)
      rintro X39 x26 x40 h hX41
      have h : spec_CarlitzGenerator_l1 a0 a1 r6 x26 = some x40 := h
      refine a_st (σ' := ⟨[(0, (i6 a0)), (3, (ow 3)), (4, (ow 4)), (7, (i6 r6)), (8, (i6 x26))], [(3, (bk (eA64u8 a1))), (4, (bk (eA64u8 ((vrep 64 (0 : Int))))))]⟩) (by kernel_rfl) (a_seq (a_block (sr (vp (i6 a0) rfl (vp (i6 x26) rfl ?_)))))
      obtain ⟨r42, hr43, h⟩ := bind_some h
      refine a_call (args := [(i6 a0), (i6 x26)]) (u := []) (r := (eA64u8 r42)) rfl rfl (spec_l01Of_ok a0 x26 r42 hr43) rfl (vo 1900 (eA64u8 ((vrep 64 (0 : Int)))) rfl rfl (vs (eA64u8 r42) rfl rfl (fun _ => rfl) rfl rfl rfl rfl rfl rfl (nx ⟨[(0, (i6 a0)), (3, (ow 3)), (4, (ow 4)), (7, (i6 r6)), (8, (i6 x26)), (9, (ow 9))], [(3, (bk (eA64u8 a1))), (4, (bk (eA64u8 ((vrep 64 (0 : Int)))))), (9, (bk (eA64u8 r42)))]⟩ (by kernel_rfl) (sr (vp (i6 a0) rfl (vl (eA64u8 r42) rfl rfl rfl rfl rfl rfl (vq (.sl 64 true (([r42]).map eA64u8)) rfl ⟨(Nat.le_of_ble_eq_true rfl), (Nat.le_of_ble_eq_true rfl), (all_cons ⟨(Nat.le_of_ble_eq_true rfl), rfl⟩ all_nil)⟩ (vl (eA64u8 a1) rfl rfl rfl rfl rfl rfl ?_))))))))
      obtain ⟨r47, hr48, h⟩ := bind_some h
      refine a_call (args := [(i6 a0), (.sl 64 true (([r42]).map eA64u8)), (eA64u8 a1)]) (u := []) (r := (eA64u8 r47)) rfl rfl (Den.args (spec_l04Annihilator_ok a0 ([r42]) a1 r47 hr48) rfl rfl (.cons (.refl _) (.cons (.loose _) (.cons (.refl _) .nil)))) rfl ?_
      obtain ⟨r49, hr50, h⟩ := bind_some h
      refine a_call (args := [(eA64u8 r47)]) (u := []) (r := (i6 r49)) rfl rfl (spec_l01Deg_ok r47 r49 hr50) rfl (vp (i6 r6) rfl (vp (.bool (r49 == r6)) rfl (nx ⟨[(0, (i6 a0)), (3, (ow 3)), (4, (ow 4)), (7, (i6 r6)), (8, (i6 x26)), (9, (ow 9)), (38, (.bool (r49 == r6)))], [(3, (bk (eA64u8 a1))), (4, (bk (eA64u8 ((vrep 64 (0 : Int)))))), (9, (bk (eA64u8 r42)))]⟩ (by kernel_rfl) ?_)))
      cases hb51 : (r49 == r6)
      · have h := ite_f hb51 h
        refine a_cond_f rfl (a_skip (b_norm (a_next (σ' := ⟨[(0, (i6 a0)), (3, (ow 3)), (4, (ow 4)), (7, (i6 r6)), (8, (i6 x26))], [(3, (bk (eA64u8 a1))), (4, (bk (eA64u8 ((vrep 64 (0 : Int))))))]⟩) (by kernel_rfl) (a_region (vp (i6 x26) rfl (vp (i6 (IntKind.i64.wrap (x26 + 1))) rfl (vp (i6 (IntKind.i64.wrap (x26 + 1))) rfl (a_nil ?_))))))))
        cases h
        exact a_again (by kernel_rfl) hX41
      · have h := ite_t hb51 h
        refine a_cond_t rfl (sr (vl (eA64u8 r42) rfl rfl rfl rfl rfl rfl (vs (eA64u8 r42) rfl rfl (fun _ => rfl) rfl rfl rfl rfl rfl rfl (vp (i6 0) rfl (nx _ rfl (a_ret (b_ret (t_ret ?_))))))))
        cases h
        have h := hX41
        refine t_ret (b_ret ?_)
        have hl54 : LdOk [] (eA64u8 r42) [] 64 true (eA64u8 r42) := (.nil rfl rfl rfl)
        refine ⟨.inr rfl, ?_⟩
        rw [Try.results15]
        cases h
        exact ⟨_, _, _, _, _, ld_own (i := ⟨.arr 64 5, 64, 64, (eA64u8 (vrep 64 (0 : Int)))⟩) rfl rfl rfl hl54, hl54.c, .inl ⟨rfl, .inl rfl⟩, rfl, ⟨_, _, _, _, _, rfl, trivial, .inl ⟨rfl, .inl rfl⟩, rfl, rfl⟩⟩
    · have h := ite_t hb13 h
      refine a_cond_t rfl (sr (vq (eA64u8 ((vrep 64 (0 : Int)))) rfl ⟨⟨_, rfl, rfl⟩, all_nil⟩ (vs (eA64u8 ((vrep 64 (0 : Int)))) rfl rfl (fun _ => rfl) rfl rfl rfl rfl rfl rfl (vp (i6 5) rfl (nx _ rfl (a_ret (t_ret ?_)))))))
      have hl57 : LdOk [] (eA64u8 ((vrep 64 (0 : Int)))) [] 64 true (eA64u8 ((vrep 64 (0 : Int)))) := (.nil rfl rfl rfl)
      refine ⟨.inr rfl, ?_⟩
      rw [Try.results15]
      cases h
      exact ⟨_, _, _, _, _, ld_own (i := ⟨.arr 64 5, 64, 64, (eA64u8 (vrep 64 (0 : Int)))⟩) rfl rfl rfl hl57, hl57.c, .inl ⟨rfl, .inl rfl⟩, rfl, ⟨_, _, _, _, _, rfl, trivial, .inl ⟨rfl, .inl rfl⟩, rfl, rfl⟩⟩
  · have h := ite_t hb4 h
    refine a_cond_t rfl (sr (vq (eA64u8 ((vrep 64 (0 : Int)))) rfl ⟨⟨_, rfl, rfl⟩, all_nil⟩ (vp (i6 r2) rfl (vs (eA64u8 ((vrep 64 (0 : Int)))) rfl rfl (fun _ => rfl) rfl rfl rfl rfl rfl rfl (vp (i6 r2) rfl (nx _ rfl (a_ret (t_ret ?_))))))))
    have hl59 : LdOk [] (eA64u8 ((vrep 64 (0 : Int)))) [] 64 true (eA64u8 ((vrep 64 (0 : Int)))) := (.nil rfl rfl rfl)
    refine ⟨.inr rfl, ?_⟩
    rw [Try.results15]
    cases h
    exact ⟨_, _, _, _, _, ld_own (i := ⟨.arr 64 5, 64, 64, (eA64u8 (vrep 64 (0 : Int)))⟩) rfl rfl rfl hl59, hl59.c, .inl ⟨rfl, .inl rfl⟩, rfl, ⟨_, _, _, _, _, rfl, trivial, .inl ⟨rfl, .inl rfl⟩, rfl, rfl⟩⟩
def impl_isPrime_c : ACode := (.seq (.region 0 [q 2 (.asg 0 (.const (.bool false)) 4)] false) (.seq (.region 1 [q 3 (.mov (t 0)), q 4 (.bin .eql 2 (t 3) (.const (.int .i64 2))), q 5 (.mov (t 4)), ⟨some 6, .mov (t 0), some (5, false), []⟩, ⟨some 7, .bin .eql 2 (t 6) (.const (.int .i64 3)), some (5, false), []⟩, q 8 (.pick (t 5) (.const (.bool true)) (t 7)), q 9 (.mov (t 8)), ⟨some 10, .mov (t 0), some (9, false), []⟩, ⟨some 11, .bin .eql 2 (t 10) (.const (.int .i64 5)), some (9, false), []⟩, q 12 (.pick (t 9) (.const (.bool true)) (t 11)), q 13 (.mov (t 12)), ⟨some 14, .mov (t 0), some (13, false), []⟩, ⟨some 15, .bin .eql 2 (t 14) (.const (.int .i64 7)), some (13, false), []⟩, q 16 (.pick (t 13) (.const (.bool true)) (t 15)), q 2 (.asg 0 (t 16) 4)] false) .ret))
def impl_isPrime_L : Live := [(0, [0]), (1, [0])]
noncomputable def impl_isPrime (a0 : Int) : Option Bool :=
  (if (a0 == 2) then (some true) else (if (a0 == 3) then (some true) else (if (a0 == 5) then (some true) else (some (a0 == 7)))))
theorem impl_isPrime_ok (a0 : Int) (r : Bool) (h : impl_isPrime a0 = some r) : Den Try.prog 93 [(i6 a0)] { r := (.bool r) } := by
  refine den_of (rs := [(.bool r)]) (ac := impl_isPrime_c) (L := impl_isPrime_L) (n := 17) (m := []) (c := Try.f93.body.getD .skip) good Try.func93 (by kernel_rfl) (by kernel_rfl) Try.ntmps93 rfl rfl (by kernel_rfl) rfl rfl ?_
  refine a_st (σ' := ⟨[(0, (i6 a0))], []⟩) (by kernel_rfl) ?_
  unfold impl_isPrime_c
  refine sr (vp (.bool false) rfl (nx ⟨[(0, (i6 a0))], []⟩ (by kernel_rfl) (sr (vp (i6 a0) rfl (vp (.bool (a0 == 2)) rfl (vp (.bool (a0 == 2)) rfl ?_))))))
  cases hb1 : (a0 == 2)
  · have h := ite_f hb1 h
    refine gp (i6 a0) rfl rfl (gp (.bool (a0 == 3)) rfl rfl (vp (.bool (a0 == 3)) rfl (vp (.bool (a0 == 3)) rfl ?_)))
    cases hb2 : (a0 == 3)
    · have h := ite_f hb2 h
      refine gp (i6 a0) rfl rfl (gp (.bool (a0 == 5)) rfl rfl (vp (.bool (a0 == 5)) rfl (vp (.bool (a0 == 5)) rfl ?_)))
      cases hb3 : (a0 == 5)
      · have h := ite_f hb3 h
        refine gp (i6 a0) rfl rfl (gp (.bool (a0 == 7)) rfl rfl (vp (.bool (a0 == 7)) rfl (vp (.bool (a0 == 7)) rfl (nx _ rfl (a_ret ?_)))))
        refine ⟨.inr rfl, ?_⟩
        rw [Try.results93]
        cases h
        exact ⟨_, _, _, _, _, rfl, trivial, .inl ⟨rfl, .inl rfl⟩, rfl, rfl⟩
      · have h := ite_t hb3 h
        refine a_gskip rfl (a_gskip rfl (vp (.bool true) rfl (vp (.bool true) rfl (nx _ rfl (a_ret ?_)))))
        refine ⟨.inr rfl, ?_⟩
        rw [Try.results93]
        cases h
        exact ⟨_, _, _, _, _, rfl, trivial, .inl ⟨rfl, .inl rfl⟩, rfl, rfl⟩
    · have h := ite_t hb2 h
      refine a_gskip rfl (a_gskip rfl (vp (.bool true) rfl (vp (.bool true) rfl (a_gskip rfl (a_gskip rfl (vp (.bool true) rfl (vp (.bool true) rfl (nx _ rfl (a_ret ?_)))))))))
      refine ⟨.inr rfl, ?_⟩
      rw [Try.results93]
      cases h
      exact ⟨_, _, _, _, _, rfl, trivial, .inl ⟨rfl, .inl rfl⟩, rfl, rfl⟩
  · have h := ite_t hb1 h
    refine a_gskip rfl (a_gskip rfl (vp (.bool true) rfl (vp (.bool true) rfl (a_gskip rfl (a_gskip rfl (vp (.bool true) rfl (vp (.bool true) rfl (a_gskip rfl (a_gskip rfl ?_)))))))))
    refine vp (.bool true) rfl (vp (.bool true) rfl (nx _ rfl (a_ret ?_)))
    refine ⟨.inr rfl, ?_⟩
    rw [Try.results93]
    cases h
    exact ⟨_, _, _, _, _, rfl, trivial, .inl ⟨rfl, .inl rfl⟩, rfl, rfl⟩
def impl_isPoly_c1_of_p_c : ACode := (.seq (.region 0 [q 3 (.asg 0 (.const (.bool false)) 4)] false) (.seq (.region 1 [q 4 (.mov (t 0)), q 5 (.conv 5 2 (t 4)), q 6 (.load 2 (t 1)), q 7 (.bin .lss 2 (t 5) (t 6)), q 3 (.asg 0 (t 7) 4)] false) .ret))
def impl_isPoly_c1_of_p_L : Live := [(0, [0, 1]), (1, [0, 1])]
noncomputable def impl_isPoly_c1_of_p (a0 : Int) (a1 : Int) : Option Bool :=
  (some ((decide ((IntKind.i64.wrap a0) < a1))))
theorem impl_isPoly_c1_of_p_ok (a0 : Int) (a1 : Int) (r : Bool) (h : impl_isPoly_c1_of_p a0 a1 = some r) : Den Try.prog 113 [(b8 a0), (.ref (i6 a1) [] [])] { r := (.bool r) } := by
  refine den_of (rs := [(.bool r)]) (ac := impl_isPoly_c1_of_p_c) (L := impl_isPoly_c1_of_p_L) (n := 8) (m := []) (c := Try.f113.body.getD .skip) good Try.func113 (by kernel_rfl) (by kernel_rfl) Try.ntmps113 rfl rfl (by kernel_rfl) rfl rfl ?_
  refine a_st (σ' := ⟨[(0, (b8 a0)), (1, (.ref (i6 a1) [] []))], []⟩) (by kernel_rfl) ?_
  unfold impl_isPoly_c1_of_p_c
  refine sr (vp (.bool false) rfl (nx ⟨[(0, (b8 a0)), (1, (.ref (i6 a1) [] []))], []⟩ (by kernel_rfl) (sr (vp (b8 a0) rfl (vp (i6 (IntKind.i64.wrap a0)) rfl ?_)))))
  have hl1 : LdOk [] (i6 a1) [] 1 false (i6 a1) := (.nil rfl rfl rfl)
  refine vq (i6 a1) (ld_ref (i := ⟨.int .i64, 1, 8, (.int .i64 0)⟩) rfl rfl hl1) hl1.c (vp (.bool ((decide ((IntKind.i64.wrap a0) < a1)))) rfl (vp (.bool ((decide ((IntKind.i64.wrap a0) < a1)))) rfl (nx _ rfl (a_ret ?_))))
  refine ⟨.inr rfl, ?_⟩
  rw [Try.results113]
  cases h
  exact ⟨_, _, _, _, _, rfl, trivial, .inl ⟨rfl, .inl rfl⟩, rfl, rfl⟩
def impl_areAll_byte__c1_of_p_c : ACode := (.seq (.region 0 [q 3 (.asg 0 (.const (.bool false)) 4)] false) (.seq (.region 1 [q 4 (.load 110 (t 1)), q 5 (.mov (t 0)), q 6 (.call 0 (t 4) [(t 5)]), q 7 (.un .not (t 6)), q 3 (.asg 0 (t 7) 4)] false) .ret))
def impl_areAll_byte__c1_of_p_L : Live := [(0, [0, 1]), (1, [0, 1])]
noncomputable def impl_areAll_byte__c1_of_p (a0 : Int) (a1c0 : Int) : Option Bool :=
  (Option.bind (impl_isPoly_c1_of_p a0 a1c0) fun r2 => (some (!r2)))
theorem impl_areAll_byte__c1_of_p_ok (a0 : Int) (a1c0 : Int) (r : Bool) (h : impl_areAll_byte__c1_of_p a0 a1c0 = some r) : Den Try.prog 121 [(b8 a0), (.ref (.clo 113 [] [(.ref (i6 a1c0) [] [])]) [] [])] { r := (.bool r) } := by
  refine den_of (rs := [(.bool r)]) (ac := impl_areAll_byte__c1_of_p_c) (L := impl_areAll_byte__c1_of_p_L) (n := 8) (m := []) (c := Try.f121.body.getD .skip) good Try.func121 (by kernel_rfl) (by kernel_rfl) Try.ntmps121 rfl rfl (by kernel_rfl) rfl rfl ?_
  refine a_st (σ' := ⟨[(0, (b8 a0)), (1, (.ref (.clo 113 [] [(.ref (i6 a1c0) [] [])]) [] []))], []⟩) (by kernel_rfl) ?_
  unfold impl_areAll_byte__c1_of_p_c
  refine sr (vp (.bool false) rfl (nx ⟨[(0, (b8 a0)), (1, (.ref (.clo 113 [] [(.ref (i6 a1c0) [] [])]) [] []))], []⟩ (by kernel_rfl) (sr ?_)))
  have hl1 : LdOk [] (.clo 113 [] [(.ref (i6 a1c0) [] [])]) [] 1 false (.clo 113 [] [(.ref (i6 a1c0) [] [])]) := (.nil rfl rfl rfl)
  refine vq (.clo 113 [] [(.ref (i6 a1c0) [] [])]) (ld_ref (i := ⟨.other, 1, 8, (.raw .nilFunc)⟩) rfl rfl hl1) hl1.c (vp (b8 a0) rfl ?_)
  obtain ⟨r2, hr3, h⟩ := bind_some h
  refine a_call (args := [(b8 a0), (.ref (i6 a1c0) [] [])]) (u := []) (r := (.bool r2)) rfl rfl (impl_isPoly_c1_of_p_ok a0 a1c0 r2 hr3) rfl (vp (.bool (!r2)) rfl (vp (.bool (!r2)) rfl (nx _ rfl (a_ret ?_))))
  refine ⟨.inr rfl, ?_⟩
  rw [Try.results121]
  cases h
  exact ⟨_, _, _, _, _, rfl, trivial, .inl ⟨rfl, .inl rfl⟩, rfl, rfl⟩
def slices_IndexFunc_byte_byte_of_impl_areAll_byte__c1_p_c : ACode := (.seq (.region 0 [q 4 (.asg 0 (.const (.int .i64 0)) 3)] false) (.seq (.seq (.region 1 [q 6 (.mov (t 0)), q 7 (.blt 0 .len [(t 6)] [109]), q 8 (.mov (.const (.int .i64 0)))] false) (.block 0 (.loop (.seq (.region 2 [q 9 (.bin .lss 3 (t 8) (t 7))] false) (.seq (.cond (t 9) .skip (.exit 0)) (.seq (.block 1 (.seq (.region 3 [q 10 (.mov (t 8)), q 5 (.asg 0 (t 10) 3)] false) (.seq (.region 4 [q 11 (.mov (t 1)), q 12 (.mov (t 0)), q 13 (.mov (t 5)), q 14 (.indexAddr 109 (t 12) (t 13)), q 15 (.load 5 (t 14)), q 16 (.call 0 (t 11) [(t 15)])] false) (.cond (t 16) (.seq (.region 5 [q 17 (.mov (t 5)), q 4 (.asg 0 (t 17) 3)] false) .ret) .skip)))) (.region 6 [q 18 (.bin .add 3 (t 8) (.const (.int .i64 1))), q 8 (.mov (t 18))] false))))))) (.seq (.region 7 [q 4 (.asg 0 (.const (.int .i64 (-1))) 3)] false) .ret)))
def slices_IndexFunc_byte_byte_of_impl_areAll_byte__c1_p_L : Live := [(0, [0, 1]), (1, [0, 1]), (2, [0, 1, 7, 8]), (3, [0, 1, 7, 8]), (4, [0, 1, 5, 7, 8]), (5, [5]), (6, [0, 1, 7, 8]), (7, []), (100009, [0, 1, 7, 8, 9]), (100016, [0, 1, 5, 7, 8, 16])]
noncomputable def slices_IndexFunc_byte_byte_of_impl_areAll_byte__c1_p_l1 (a0 : (List Int)) (a1c0c0 : Int) (x33 : Int) : Option (Int ⊕ (Unit ⊕ Int)) :=
  (if (decide (x33 < (a0.length : Int))) then (ifp (0 ≤ x33 ∧ x33 < ((a0.length : Nat) : Int)) ((Option.bind (impl_areAll_byte__c1_of_p (rd a0 x33.toNat) a1c0c0) fun r46 => (if r46 then (some (.inr (.inr x33))) else (some (.inl (IntKind.i64.wrap (x33 + 1)))))))) else (some (.inr (((.inl ()))))))
noncomputable def slices_IndexFunc_byte_byte_of_impl_areAll_byte__c1_p (a0 : (List Int)) (a1c0c0 : Int) : Option Int :=
  (Option.bind (α := (Unit ⊕ Int)) ((loopM (fun s : Int => slices_IndexFunc_byte_byte_of_impl_areAll_byte__c1_p_l1 a0 a1c0c0 s) 0)) fun z => match z with | .inl _ => (some (-1)) | .inr r50 => (some r50))
theorem slices_IndexFunc_byte_byte_of_impl_areAll_byte__c1_p_ok (a0 : (List Int)) (a1c0c0 : Int) (r : Int) (h : slices_IndexFunc_byte_byte_of_impl_areAll_byte__c1_p a0 a1c0c0 = some r) : Den Try.prog 124 [(eSu8 a0), (.clo 121 [] [(.ref (.clo 113 [] [(.ref (i6 a1c0c0) [] [])]) [] [])])] { r := (i6 r) } := by
  refine den_of (rs := [(i6 r)]) (ac := slices_IndexFunc_byte_byte_of_impl_areAll_byte__c1_p_c) (L := slices_IndexFunc_byte_byte_of_impl_areAll_byte__c1_p_L) (n := 19) (m := []) (c := Try.f124.body.getD .skip) good Try.func124 (by kernel_rfl) (by kernel_rfl) Try.ntmps124 rfl rfl (by kernel_rfl) rfl rfl ?_
  refine a_st (σ' := ⟨[(0, (eSu8 a0)), (1, (.clo 121 [] [(.ref (.clo 113 [] [(.ref (i6 a1c0c0) [] [])]) [] [])]))], []⟩) (by kernel_rfl) ?_
  unfold slices_IndexFunc_byte_byte_of_impl_areAll_byte__c1_p_c
  refine sr (vp (i6 0) rfl (nx ⟨[(0, (eSu8 a0)), (1, (.clo 121 [] [(.ref (.clo 113 [] [(.ref (i6 a1c0c0) [] [])]) [] [])]))], []⟩ (by kernel_rfl) ?_))
  obtain ⟨y24, hy25, hk26⟩ := bind_some h
  clear h
  refine a_join (emb := fun (s : Unit) => ⟨[], []⟩) (pre := fun s => (.inl s) = y24) ?_ ?_
  · rintro _ rfl
    have h := hk26
    refine a_st (σ' := ⟨[], []⟩) (by kernel_rfl) (sr (vp (i6 (-1)) rfl (nx _ rfl (a_ret ?_))))
    refine ⟨.inr rfl, ?_⟩
    rw [Try.results124]
    cases h
    exact ⟨_, _, _, _, _, rfl, trivial, .inl ⟨rfl, .inl rfl⟩, rfl, rfl⟩
  · have h := hy25
    refine sr (vp (eSu8 a0) rfl (vq (i6 (a0.length : Int)) (len_run rfl rfl) trivial (vp (i6 0) rfl (nx ⟨[(0, (eSu8 a0)), (1, (.clo 121 [] [(.ref (.clo 113 [] [(.ref (i6 a1c0c0) [] [])]) [] [])])), (7, (i6 (a0.length : Int))), (8, (i6 0))], []⟩ (by kernel_rfl) (a_block ?_)))))
    refine a_loop (emb := fun (s : Int) => ⟨[(0, (eSu8 a0)), (1, (.clo 121 [] [(.ref (.clo 113 [] [(.ref (i6 a1c0c0) [] [])]) [] [])])), (7, (i6 (a0.length : Int))), (8, (i6 s))], []⟩) (body := (fun s : Int => slices_IndexFunc_byte_byte_of_impl_areAll_byte__c1_p_l1 a0 a1c0c0 s)) (G := fun q => some q = some y24) h rfl ?_ (by kernel_rfl)
    rintro X40 x33 x41 h hX42
    have h : slices_IndexFunc_byte_byte_of_impl_areAll_byte__c1_p_l1 a0 a1c0c0 x33 = some x41 := h
    refine a_st (σ' := ⟨[(0, (eSu8 a0)), (1, (.clo 121 [] [(.ref (.clo 113 [] [(.ref (i6 a1c0c0) [] [])]) [] [])])), (7, (i6 (a0.length : Int))), (8, (i6 x33))], []⟩) (by kernel_rfl) (sr (vp (.bool ((decide (x33 < (a0.length : Int))))) rfl (nx ⟨[(0, (eSu8 a0)), (1, (.clo 121 [] [(.ref (.clo 113 [] [(.ref (i6 a1c0c0) [] [])]) [] [])])), (7, (i6 (a0.length : Int))), (8, (i6 x33)), (9, (.bool ((decide (x33 < (a0.length : Int))))))], []⟩ (by kernel_rfl) (a_seq ?_))))
    cases hb43 : (decide (x33 < (a0.length : Int)))
    · have h := ite_f hb43 h
      refine a_cond_f rfl (a_exit (t_exit ?_))
      cases h
      have h := hX42
      refine t_exit (b_exit ?_)
      exact j_leaf () (Option.some.inj h) (by kernel_rfl)
    · have h := ite_t hb43 h
      refine a_cond_t rfl (a_skip (a_next (σ' := ⟨[(0, (eSu8 a0)), (1, (.clo 121 [] [(.ref (.clo 113 [] [(.ref (i6 a1c0c0) [] [])]) [] [])])), (7, (i6 (a0.length : Int))), (8, (i6 x33))], []⟩) (by kernel_rfl) (a_seq (a_block (sr (vp (i6 x33) rfl (vp (i6 x33) rfl (nx ⟨[(0, (eSu8 a0)), (1, (.clo 121 [] [(.ref (.clo 113 [] [(.ref (i6 a1c0c0) [] [])]) [] [])])), (5, (i6 x33)), (7, (i6 (a0.length : Int))), (8, (i6 x33))], []⟩ (by kernel_rfl) (sr ?_)))))))))
      refine vp (.clo 121 [] [(.ref (.clo 113 [] [(.ref (i6 a1c0c0) [] [])]) [] [])]) rfl (vp (eSu8 a0) rfl (vp (i6 x33) rfl ?_))
      obtain ⟨hc44, h⟩ := ifp_some h
      refine vq (.ref (.row 1 (a0.map (AV.int .u8))) [x33.toNat] [x33.toNat * 1]) rfl (lmap hc44) ?_
      have hl45 : LdOk [x33.toNat] (.row 1 (a0.map (AV.int .u8))) [x33.toNat * 1] 1 false (b8 (rd a0 x33.toNat)) := (.row (llt hc44) rfl (.nil rfl rfl rfl))
      refine vq (b8 (rd a0 x33.toNat)) (ld_ref (i := ⟨.int .u8, 1, 1, (.int .u8 0)⟩) rfl rfl hl45) hl45.c ?_
      obtain ⟨r46, hr47, h⟩ := bind_some h
      refine a_call (args := [(b8 (rd a0 x33.toNat)), (.ref (.clo 113 [] [(.ref (i6 a1c0c0) [] [])]) [] [])]) (u := []) (r := (.bool r46)) rfl rfl (impl_areAll_byte__c1_of_p_ok (rd a0 x33.toNat) a1c0c0 r46 hr47) rfl (nx ⟨[(0, (eSu8 a0)), (1, (.clo 121 [] [(.ref (.clo 113 [] [(.ref (i6 a1c0c0) [] [])]) [] [])])), (5, (i6 x33)), (7, (i6 (a0.length : Int))), (8, (i6 x33)), (16, (.bool r46))], []⟩ (by kernel_rfl) ?_)
      cases hb48 : r46
      · have h := ite_f hb48 h
        refine a_cond_f rfl (a_skip (b_norm (a_next (σ' := ⟨[(0, (eSu8 a0)), (1, (.clo 121 [] [(.ref (.clo 113 [] [(.ref (i6 a1c0c0) [] [])]) [] [])])), (7, (i6 (a0.length : Int))), (8, (i6 x33))], []⟩) (by kernel_rfl) (a_region (vp (i6 (IntKind.i64.wrap (x33 + 1))) rfl (vp (i6 (IntKind.i64.wrap (x33 + 1))) rfl (a_nil ?_)))))))
        cases h
        exact a_again (by kernel_rfl) hX42
      · have h := ite_t hb48 h
        refine a_cond_t rfl (sr (vp (i6 x33) rfl (vp (i6 x33) rfl (nx _ rfl (a_ret (b_ret (t_ret ?_)))))))
        cases h
        have h := hX42
        refine t_ret (b_ret (t_ret ?_))
        cases h
        have h := hk26
        refine ⟨.inr rfl, ?_⟩
        rw [Try.results124]
        cases h
        exact ⟨_, _, _, _, _, rfl, trivial, .inl ⟨rfl, .inl rfl⟩, rfl, rfl⟩
def slices_ContainsFunc_byte_byte_of_impl_areAll_byte__c1_p_c : ACode := (.seq (.region 0 [q 4 (.asg 0 (.const (.bool false)) 4)] false) (.seq (.region 1 [q 5 (.mov (t 0)), q 6 (.mov (t 1)), q 7 (.call 0 (.func 124) [(t 5), (t 6)]), q 8 (.bin .geq 3 (t 7) (.const (.int .i64 0))), q 4 (.asg 0 (t 8) 4)] false) .ret))
def slices_ContainsFunc_byte_byte_of_impl_areAll_byte__c1_p_L : Live := [(0, [0, 1]), (1, [0, 1])]
noncomputable def slices_ContainsFunc_byte_byte_of_impl_areAll_byte__c1_p (a0 : (List Int)) (a1c0c0 : Int) : Option Bool :=
  (Option.bind (slices_IndexFunc_byte_byte_of_impl_areAll_byte__c1_p a0 a1c0c0) fun r1 => (some ((decide (r1 ≥ 0)))))
theorem slices_ContainsFunc_byte_byte_of_impl_areAll_byte__c1_p_ok (a0 : (List Int)) (a1c0c0 : Int) (r : Bool) (h : slices_ContainsFunc_byte_byte_of_impl_areAll_byte__c1_p a0 a1c0c0 = some r) : Den Try.prog 120 [(eSu8 a0), (.clo 121 [] [(.ref (.clo 113 [] [(.ref (i6 a1c0c0) [] [])]) [] [])])] { r := (.bool r) } := by
  refine den_of (rs := [(.bool r)]) (ac := slices_ContainsFunc_byte_byte_of_impl_areAll_byte__c1_p_c) (L := slices_ContainsFunc_byte_byte_of_impl_areAll_byte__c1_p_L) (n := 9) (m := []) (c := Try.f120.body.getD .skip) good Try.func120 (by kernel_rfl) (by kernel_rfl) Try.ntmps120 rfl rfl (by kernel_rfl) rfl rfl ?_
  refine a_st (σ' := ⟨[(0, (eSu8 a0)), (1, (.clo 121 [] [(.ref (.clo 113 [] [(.ref (i6 a1c0c0) [] [])]) [] [])]))], []⟩) (by kernel_rfl) ?_
  unfold slices_ContainsFunc_byte_byte_of_impl_areAll_byte__c1_p_c
  refine sr (vp (.bool false) rfl (nx ⟨[(0, (eSu8 a0)), (1, (.clo 121 [] [(.ref (.clo 113 [] [(.ref (i6 a1c0c0) [] [])]) [] [])]))], []⟩ (by kernel_rfl) (sr (vp (eSu8 a0) rfl (vp (.clo 121 [] [(.ref (.clo 113 [] [(.ref (i6 a1c0c0) [] [])]) [] [])]) rfl ?_)))))
  obtain ⟨r1, hr2, h⟩ := bind_some h
  refine a_call (args := [(eSu8 a0), (.clo 121 [] [(.ref (.clo 113 [] [(.ref (i6 a1c0c0) [] [])]) [] [])])]) (u := []) (r := (i6 r1)) rfl rfl (slices_IndexFunc_byte_byte_of_impl_areAll_byte__c1_p_ok a0 a1c0c0 r1 hr2) rfl (vp (.bool ((decide (r1 ≥ 0)))) rfl (vp (.bool ((decide (r1 ≥ 0)))) rfl (nx _ rfl (a_ret ?_))))
  refine ⟨.inr rfl, ?_⟩
  rw [Try.results120]
  cases h
  exact ⟨_, _, _, _, _, rfl, trivial, .inl ⟨rfl, .inl rfl⟩, rfl, rfl⟩
def impl_areAll_byte_of_impl_isPoly_c1_p_c : ACode := (.seq (.region 0 [q 3 (.box 110 (t 1)), q 4 (.asg 0 (.const (.bool false)) 4)] false) (.seq (.region 1 [q 5 (.mov (t 0)), q 6 (.mkfn 121 [] [(t 3)]), q 7 (.call 0 (.func 120) [(t 5), (t 6)]), q 8 (.un .not (t 7)), q 4 (.asg 0 (t 8) 4)] false) .ret))
def impl_areAll_byte_of_impl_isPoly_c1_p_L : Live := [(0, [0, 1]), (1, [0, 3])]
noncomputable def impl_areAll_byte_of_impl_isPoly_c1_p (a0 : (List Int)) (a1c0 : Int) : Option Bool :=
  (Option.bind (slices_ContainsFunc_byte_byte_of_impl_areAll_byte__c1_p a0 a1c0) fun r1 => (some (!r1)))
theorem impl_areAll_byte_of_impl_isPoly_c1_p_ok (a0 : (List Int)) (a1c0 : Int) (r : Bool) (h : impl_areAll_byte_of_impl_isPoly_c1_p a0 a1c0 = some r) : Den Try.prog 112 [(eSu8 a0), (.clo 113 [] [(.ref (i6 a1c0) [] [])])] { r := (.bool r) } := by
  refine den_of (rs := [(.bool r)]) (ac := impl_areAll_byte_of_impl_isPoly_c1_p_c) (L := impl_areAll_byte_of_impl_isPoly_c1_p_L) (n := 9) (m := []) (c := Try.f112.body.getD .skip) good Try.func112 (by kernel_rfl) (by kernel_rfl) Try.ntmps112 rfl rfl (by kernel_rfl) rfl rfl ?_
  refine a_st (σ' := ⟨[(0, (eSu8 a0)), (1, (.clo 113 [] [(.ref (i6 a1c0) [] [])]))], []⟩) (by kernel_rfl) ?_
  unfold impl_areAll_byte_of_impl_isPoly_c1_p_c
  refine sr (vo 1300 (.clo 113 [] [(.ref (i6 a1c0) [] [])]) rfl rfl (vp (.bool false) rfl (nx ⟨[(0, (eSu8 a0)), (3, (ow 3))], [(3, (bk (.clo 113 [] [(.ref (i6 a1c0) [] [])])))]⟩ (by kernel_rfl) (sr (vp (eSu8 a0) rfl (vu (.clo 121 [] [(.ref (.clo 113 [] [(.ref (i6 a1c0) [] [])]) [] [])]) [(3, (bf (.clo 113 [] [(.ref (i6 a1c0) [] [])])))] rfl trivial rfl ?_))))))
  obtain ⟨r1, hr2, h⟩ := bind_some h
  refine a_call (args := [(eSu8 a0), (.clo 121 [] [(.ref (.clo 113 [] [(.ref (i6 a1c0) [] [])]) [] [])])]) (u := []) (r := (.bool r1)) rfl rfl (slices_ContainsFunc_byte_byte_of_impl_areAll_byte__c1_p_ok a0 a1c0 r1 hr2) rfl (vp (.bool (!r1)) rfl (vp (.bool (!r1)) rfl (nx _ rfl (a_ret ?_))))
  refine ⟨.inr rfl, ?_⟩
  rw [Try.results112]
  cases h
  exact ⟨_, _, _, _, _, rfl, trivial, .inl ⟨rfl, .inl rfl⟩, rfl, rfl⟩
def impl_isPoly_c : ACode := (.seq (.region 0 [q 2 (.box 2 (t 0)), q 3 (.box 26 (t 1)), q 4 (.asg 0 (.const (.bool false)) 4)] false) (.seq (.region 1 [q 5 (.slice 26 (t 3) none none none), q 6 (.mkfn 113 [] [(t 2)]), q 7 (.call 0 (.func 112) [(t 5), (t 6)]), q 4 (.asg 0 (t 7) 4)] false) .ret))
def impl_isPoly_L : Live := [(0, [0, 1]), (1, [2, 3])]
noncomputable def impl_isPoly (a0 : Int) (a1 : (Vec Int 64)) : Option Bool :=
  (Option.bind (impl_areAll_byte_of_impl_isPoly_c1_p a1.1 a0) fun r1 => (some r1))
theorem impl_isPoly_ok (a0 : Int) (a1 : (Vec Int 64)) (r : Bool) (h : impl_isPoly a0 a1 = some r) : Den Try.prog 88 [(i6 a0), (eA64u8 a1)] { r := (.bool r) } := by
  refine den_of (rs := [(.bool r)]) (ac := impl_isPoly_c) (L := impl_isPoly_L) (n := 8) (m := []) (c := Try.f88.body.getD .skip) good Try.func88 (by kernel_rfl) (by kernel_rfl) Try.ntmps88 rfl rfl (by kernel_rfl) rfl rfl ?_
  refine a_st (σ' := ⟨[(0, (i6 a0)), (1, (eA64u8 a1))], []⟩) (by kernel_rfl) ?_
  unfold impl_isPoly_c
  refine sr (vo 1200 (i6 a0) rfl rfl (vo 1300 (eA64u8 a1) rfl rfl (vp (.bool false) rfl (nx ⟨[(2, (ow 2)), (3, (ow 3))], [(2, (bk (i6 a0))), (3, (bk (eA64u8 a1)))]⟩ (by kernel_rfl) (sr (vu (.sl 1 true (a1.1.map (AV.int .u8))) [(3, (bf (eA64u8 a1)))] rfl ⟨rfl, trivial, rfl, rfl⟩ rfl (vu (.clo 113 [] [(.ref (i6 a0) [] [])]) [(2, (bf (i6 a0)))] rfl trivial rfl ?_)))))))
  obtain ⟨r1, hr2, h⟩ := bind_some h
  refine a_call (args := [(.sl 1 true (a1.1.map (AV.int .u8))), (.clo 113 [] [(.ref (i6 a0) [] [])])]) (u := []) (r := (.bool r1)) rfl rfl (Den.args (impl_areAll_byte_of_impl_isPoly_c1_p_ok a1.1 a0 r1 hr2) rfl rfl (.cons (.loose _) (.cons (.refl _) .nil))) rfl (vp (.bool r1) rfl (nx _ rfl (a_ret ?_)))
  refine ⟨.inr rfl, ?_⟩
  rw [Try.results88]
  cases h
  exact ⟨_, _, _, _, _, rfl, trivial, .inl ⟨rfl, .inl rfl⟩, rfl, rfl⟩
def impl_polysCode_c1_of_p_c : ACode := (.seq (.region 0 [q 2 (.box 26 (t 0)), q 3 (.asg 0 (.const (.bool false)) 4)] false) (.seq (.region 1 [q 4 (.load 2 (t 1)), q 5 (.load 26 (t 2)), q 6 (.call 0 (.func 88) [(t 4), (t 5)]), q 3 (.asg 0 (t 6) 4)] false) .ret))
def impl_polysCode_c1_of_p_L : Live := [(0, [0, 1]), (1, [1, 2])]
noncomputable def impl_polysCode_c1_of_p (a0 : (Vec Int 64)) (a1 : Int) : Option Bool :=
  (Option.bind (impl_isPoly a1 a0) fun r3 => (some r3))
theorem impl_polysCode_c1_of_p_ok (a0 : (Vec Int 64)) (a1 : Int) (r : Bool) (h : impl_polysCode_c1_of_p a0 a1 = some r) : Den Try.prog 95 [(eA64u8 a0), (.ref (i6 a1) [] [])] { r := (.bool r) } := by
  refine den_of (rs := [(.bool r)]) (ac := impl_polysCode_c1_of_p_c) (L := impl_polysCode_c1_of_p_L) (n := 7) (m := []) (c := Try.f95.body.getD .skip) good Try.func95 (by kernel_rfl) (by kernel_rfl) Try.ntmps95 rfl rfl (by kernel_rfl) rfl rfl ?_
  refine a_st (σ' := ⟨[(0, (eA64u8 a0)), (1, (.ref (i6 a1) [] []))], []⟩) (by kernel_rfl) ?_
  unfold impl_polysCode_c1_of_p_c
  refine sr (vo 1200 (eA64u8 a0) rfl rfl (vp (.bool false) rfl (nx ⟨[(1, (.ref (i6 a1) [] [])), (2, (ow 2))], [(2, (bk (eA64u8 a0)))]⟩ (by kernel_rfl) (sr ?_))))
  have hl1 : LdOk [] (i6 a1) [] 1 false (i6 a1) := (.nil rfl rfl rfl)
  refine vq (i6 a1) (ld_ref (i := ⟨.int .i64, 1, 8, (.int .i64 0)⟩) rfl rfl hl1) hl1.c (vl (eA64u8 a0) rfl rfl rfl rfl rfl rfl ?_)
  obtain ⟨r3, hr4, h⟩ := bind_some h
  refine a_call (args := [(i6 a1), (eA64u8 a0)]) (u := []) (r := (.bool r3)) rfl rfl (impl_isPoly_ok a1 a0 r3 hr4) rfl (vp (.bool r3) rfl (nx _ rfl (a_ret ?_)))
  refine ⟨.inr rfl, ?_⟩
  rw [Try.results95]
  cases h
  exact ⟨_, _, _, _, _, rfl, trivial, .inl ⟨rfl, .inl rfl⟩, rfl, rfl⟩
def impl_areAll_impl_Poly__c1_of_p_c : ACode := (.seq (.region 0 [q 2 (.box 26 (t 0)), q 3 (.asg 0 (.const (.bool false)) 4)] false) (.seq (.region 1 [q 4 (.load 76 (t 1)), q 5 (.load 26 (t 2)), q 6 (.call 0 (t 4) [(t 5)]), q 7 (.un .not (t 6)), q 3 (.asg 0 (t 7) 4)] false) .ret))
def impl_areAll_impl_Poly__c1_of_p_L : Live := [(0, [0, 1]), (1, [1, 2])]
noncomputable def impl_areAll_impl_Poly__c1_of_p (a0 : (Vec Int 64)) (a1c0 : Int) : Option Bool :=
  (Option.bind (impl_polysCode_c1_of_p a0 a1c0) fun r3 => (some (!r3)))
theorem impl_areAll_impl_Poly__c1_of_p_ok (a0 : (Vec Int 64)) (a1c0 : Int) (r : Bool) (h : impl_areAll_impl_Poly__c1_of_p a0 a1c0 = some r) : Den Try.prog 116 [(eA64u8 a0), (.ref (.clo 95 [] [(.ref (i6 a1c0) [] [])]) [] [])] { r := (.bool r) } := by
  refine den_of (rs := [(.bool r)]) (ac := impl_areAll_impl_Poly__c1_of_p_c) (L := impl_areAll_impl_Poly__c1_of_p_L) (n := 8) (m := []) (c := Try.f116.body.getD .skip) good Try.func116 (by kernel_rfl) (by kernel_rfl) Try.ntmps116 rfl rfl (by kernel_rfl) rfl rfl ?_
  refine a_st (σ' := ⟨[(0, (eA64u8 a0)), (1, (.ref (.clo 95 [] [(.ref (i6 a1c0) [] [])]) [] []))], []⟩) (by kernel_rfl) ?_
  unfold impl_areAll_impl_Poly__c1_of_p_c
  refine sr (vo 1200 (eA64u8 a0) rfl rfl (vp (.bool false) rfl (nx ⟨[(1, (.ref (.clo 95 [] [(.ref (i6 a1c0) [] [])]) [] [])), (2, (ow 2))], [(2, (bk (eA64u8 a0)))]⟩ (by kernel_rfl) (sr ?_))))
  have hl1 : LdOk [] (.clo 95 [] [(.ref (i6 a1c0) [] [])]) [] 1 false (.clo 95 [] [(.ref (i6 a1c0) [] [])]) := (.nil rfl rfl rfl)
  refine vq (.clo 95 [] [(.ref (i6 a1c0) [] [])]) (ld_ref (i := ⟨.other, 1, 8, (.raw .nilFunc)⟩) rfl rfl hl1) hl1.c (vl (eA64u8 a0) rfl rfl rfl rfl rfl rfl ?_)
  obtain ⟨r3, hr4, h⟩ := bind_some h
  refine a_call (args := [(eA64u8 a0), (.ref (i6 a1c0) [] [])]) (u := []) (r := (.bool r3)) rfl rfl (impl_polysCode_c1_of_p_ok a0 a1c0 r3 hr4) rfl (vp (.bool (!r3)) rfl (vp (.bool (!r3)) rfl (nx _ rfl (a_ret ?_))))
  refine ⟨.inr rfl, ?_⟩
  rw [Try.results116]
  cases h
  exact ⟨_, _, _, _, _, rfl, trivial, .inl ⟨rfl, .inl rfl⟩, rfl, rfl⟩
def slices_IndexFunc_impl_Poly_impl_Poly_of_impl_areAll_impl_Poly__c1_p_c : ACode := (.seq (.region 0 [q 4 (.asg 0 (.const (.int .i64 0)) 3)] false) (.seq (.seq (.region 1 [q 6 (.mov (t 0)), q 7 (.blt 0 .len [(t 6)] [62]), q 8 (.mov (.const (.int .i64 0)))] false) (.block 0 (.loop (.seq (.region 2 [q 9 (.bin .lss 3 (t 8) (t 7))] false) (.seq (.cond (t 9) .skip (.exit 0)) (.seq (.block 1 (.seq (.region 3 [q 10 (.mov (t 8)), q 5 (.asg 0 (t 10) 3)] false) (.seq (.region 4 [q 11 (.mov (t 1)), q 12 (.mov (t 0)), q 13 (.mov (t 5)), q 14 (.indexAddr 62 (t 12) (t 13)), q 15 (.load 26 (t 14)), q 16 (.call 0 (t 11) [(t 15)])] false) (.cond (t 16) (.seq (.region 5 [q 17 (.mov (t 5)), q 4 (.asg 0 (t 17) 3)] false) .ret) .skip)))) (.region 6 [q 18 (.bin .add 3 (t 8) (.const (.int .i64 1))), q 8 (.mov (t 18))] false))))))) (.seq (.region 7 [q 4 (.asg 0 (.const (.int .i64 (-1))) 3)] false) .ret)))
def slices_IndexFunc_impl_Poly_impl_Poly_of_impl_areAll_impl_Poly__c1_p_L : Live := [(0, [0, 1]), (1, [0, 1]), (2, [0, 1, 7, 8]), (3, [0, 1, 7, 8]), (4, [0, 1, 5, 7, 8]), (5, [5]), (6, [0, 1, 7, 8]), (7, []), (100009, [0, 1, 7, 8, 9]), (100016, [0, 1, 5, 7, 8, 16])]
noncomputable def slices_IndexFunc_impl_Poly_impl_Poly_of_impl_areAll_impl_Poly__c1_p_l1 (a0 : (List (Vec Int 64))) (a1c0c0 : Int) (x33 : Int) : Option (Int ⊕ (Unit ⊕ Int)) :=
  (if (decide (x33 < (a0.length : Int))) then (ifp (0 ≤ x33 ∧ x33 < ((a0.length : Nat) : Int)) ((Option.bind (impl_areAll_impl_Poly__c1_of_p (rd a0 x33.toNat) a1c0c0) fun r46 => (if r46 then (some (.inr (.inr x33))) else (some (.inl (IntKind.i64.wrap (x33 + 1)))))))) else (some (.inr (((.inl ()))))))
noncomputable def slices_IndexFunc_impl_Poly_impl_Poly_of_impl_areAll_impl_Poly__c1_p (a0 : (List (Vec Int 64))) (a1c0c0 : Int) : Option Int :=
  (Option.bind (α := (Unit ⊕ Int)) ((loopM (fun s : Int => slices_IndexFunc_impl_Poly_impl_Poly_of_impl_areAll_impl_Poly__c1_p_l1 a0 a1c0c0 s) 0)) fun z => match z with | .inl _ => (some (-1)) | .inr r50 => (some r50))
theorem slices_IndexFunc_impl_Poly_impl_Poly_of_impl_areAll_impl_Poly__c1_p_ok (a0 : (List (Vec Int 64))) (a1c0c0 : Int) (r : Int) (h : slices_IndexFunc_impl_Poly_impl_Poly_of_impl_areAll_impl_Poly__c1_p a0 a1c0c0 = some r) : Den Try.prog 122 [(eSA64u8 a0), (.clo 116 [] [(.ref (.clo 95 [] [(.ref (i6 a1c0c0) [] [])]) [] [])])] { r := (i6 r) } := by
  refine den_of (rs := [(i6 r)]) (ac := slices_IndexFunc_impl_Poly_impl_Poly_of_impl_areAll_impl_Poly__c1_p_c) (L := slices_IndexFunc_impl_Poly_impl_Poly_of_impl_areAll_impl_Poly__c1_p_L) (n := 19) (m := []) (c := Try.f122.body.getD .skip) good Try.func122 (by kernel_rfl) (by kernel_rfl) Try.ntmps122 rfl rfl (by kernel_rfl) rfl rfl ?_
  refine a_st (σ' := ⟨[(0, (eSA64u8 a0)), (1, (.clo 116 [] [(.ref (.clo 95 [] [(.ref (i6 a1c0c0) [] [])]) [] [])]))], []⟩) (by kernel_rfl) ?_
  unfold slices_IndexFunc_impl_Poly_impl_Poly_of_impl_areAll_impl_Poly__c1_p_c
  refine sr (vp (i6 0) rfl (nx ⟨[(0, (eSA64u8 a0)), (1, (.clo 116 [] [(.ref (.clo 95 [] [(.ref (i6 a1c0c0) [] [])]) [] [])]))], []⟩ (by kernel_rfl) ?_))
  obtain ⟨y24, hy25, hk26⟩ := bind_some h
  clear h
  refine a_join (emb := fun (s : Unit) => ⟨[], []⟩) (pre := fun s => (.inl s) = y24) ?_ ?_
  · rintro _ rfl
    have h := hk26
    refine a_st (σ' := ⟨[], []⟩) (by kernel_rfl) (sr (vp (i6 (-1)) rfl (nx _ rfl (a_ret ?_))))
    refine ⟨.inr rfl, ?_⟩
    rw [Try.results122]
    cases h
    exact ⟨_, _, _, _, _, rfl, trivial, .inl ⟨rfl, .inl rfl⟩, rfl, rfl⟩
  · have h := hy25
    refine sr (vp (eSA64u8 a0) rfl (vq (i6 (a0.length : Int)) (len_run rfl rfl) trivial (vp (i6 0) rfl (nx ⟨[(0, (eSA64u8 a0)), (1, (.clo 116 [] [(.ref (.clo 95 [] [(.ref (i6 a1c0c0) [] [])]) [] [])])), (7, (i6 (a0.length : Int))), (8, (i6 0))], []⟩ (by kernel_rfl) (a_block ?_)))))
    refine a_loop (emb := fun (s : Int) => ⟨[(0, (eSA64u8 a0)), (1, (.clo 116 [] [(.ref (.clo 95 [] [(.ref (i6 a1c0c0) [] [])]) [] [])])), (7, (i6 (a0.length : Int))), (8, (i6 s))], []⟩) (body := (fun s : Int => slices_IndexFunc_impl_Poly_impl_Poly_of_impl_areAll_impl_Poly__c1_p_l1 a0 a1c0c0 s)) (G := fun q => some q = some y24) h rfl ?_ (by kernel_rfl)
    rintro X40 x33 x41 h hX42
    have h : slices_IndexFunc_impl_Poly_impl_Poly_of_impl_areAll_impl_Poly__c1_p_l1 a0 a1c0c0 x33 = some x41 := h
    refine a_st (σ' := ⟨[(0, (eSA64u8 a0)), (1, (.clo 116 [] [(.ref (.clo 95 [] [(.ref (i6 a1c0c0) [] [])]) [] [])])), (7, (i6 (a0.length : Int))), (8, (i6 x33))], []⟩) (by kernel_rfl) (sr (vp (.bool ((decide (x33 < (a0.length : Int))))) rfl (nx ⟨[(0, (eSA64u8 a0)), (1, (.clo 116 [] [(.ref (.clo 95 [] [(.ref (i6 a1c0c0) [] [])]) [] [])])), (7, (i6 (a0.length : Int))), (8, (i6 x33)), (9, (.bool ((decide (x33 < (a0.length : Int))))))], []⟩ (by kernel_rfl) (a_seq ?_))))
    cases hb43 : (decide (x33 < (a0.length : Int)))
    · have h := ite_f hb43 h
      refine a_cond_f rfl (a_exit (t_exit ?_))
      cases h
      have h := hX42
      refine t_exit (b_exit ?_)
      exact j_leaf () (Option.some.inj h) (by kernel_rfl)
    · have h := ite_t hb43 h
      refine a_cond_t rfl (a_skip (a_next (σ' := ⟨[(0, (eSA64u8 a0)), (1, (.clo 116 [] [(.ref (.clo 95 [] [(.ref (i6 a1c0c0) [] [])]) [] [])])), (7, (i6 (a0.length : Int))), (8, (i6 x33))], []⟩) (by kernel_rfl) (a_seq (a_block (sr (vp (i6 x33) rfl (vp (i6 x33) rfl (nx ⟨[(0, (eSA64u8 a0)), (1, (.clo 116 [] [(.ref (.clo 95 [] [(.ref (i6 a1c0c0) [] [])]) [] [])])), (5, (i6 x33)), (7, (i6 (a0.length : Int))), (8, (i6 x33))], []⟩ (by kernel_rfl) (sr ?_)))))))))
      refine vp (.clo 116 [] [(.ref (.clo 95 [] [(.ref (i6 a1c0c0) [] [])]) [] [])]) rfl (vp (eSA64u8 a0) rfl (vp (i6 x33) rfl ?_))
      obtain ⟨hc44, h⟩ := ifp_some h
      refine vq (.ref (.row 64 (a0.map eA64u8)) [x33.toNat] [x33.toNat * 64]) rfl (lmap hc44) ?_
      have hl45 : LdOk [x33.toNat] (.row 64 (a0.map eA64u8)) [x33.toNat * 64] 64 true (eA64u8 (rd a0 x33.toNat)) := (.row (llt hc44) rfl (.nil rfl rfl rfl))
      refine vq (eA64u8 (rd a0 x33.toNat)) (ld_ref (i := ⟨.arr 64 5, 64, 64, (eA64u8 (vrep 64 (0 : Int)))⟩) rfl rfl hl45) hl45.c ?_
      obtain ⟨r46, hr47, h⟩ := bind_some h
      refine a_call (args := [(eA64u8 (rd a0 x33.toNat)), (.ref (.clo 95 [] [(.ref (i6 a1c0c0) [] [])]) [] [])]) (u := []) (r := (.bool r46)) rfl rfl (impl_areAll_impl_Poly__c1_of_p_ok (rd a0 x33.toNat) a1c0c0 r46 hr47) rfl (nx ⟨[(0, (eSA64u8 a0)), (1, (.clo 116 [] [(.ref (.clo 95 [] [(.ref (i6 a1c0c0) [] [])]) [] [])])), (5, (i6 x33)), (7, (i6 (a0.length : Int))), (8, (i6 x33)), (16, (.bool r46))], []⟩ (by kernel_rfl) ?_)
      cases hb48 : r46
      · have h := ite_f hb48 h
        refine a_cond_f rfl (a_skip (b_norm (a_next (σ' := ⟨[(0, (eSA64u8 a0)), (1, (.clo 116 [] [(.ref (.clo 95 [] [(.ref (i6 a1c0c0) [] [])]) [] [])])), (7, (i6 (a0.length : Int))), (8, (i6 x33))], []⟩) (by kernel_rfl) (a_region (vp (i6 (IntKind.i64.wrap (x33 + 1))) rfl (vp (i6 (IntKind.i64.wrap (x33 + 1))) rfl (a_nil ?_)))))))
        cases h
        exact a_again (by kernel_rfl) hX42
      · have h := ite_t hb48 h
        refine a_cond_t rfl (sr (vp (i6 x33) rfl (vp (i6 x33) rfl (nx _ rfl (a_ret (b_ret (t_ret ?_)))))))
        cases h
        have h := hX42
        refine t_ret (b_ret (t_ret ?_))
        cases h
        have h := hk26
        refine ⟨.inr rfl, ?_⟩
        rw [Try.results122]
        cases h
        exact ⟨_, _, _, _, _, rfl, trivial, .inl ⟨rfl, .inl rfl⟩, rfl, rfl⟩
def slices_ContainsFunc_impl_Poly_impl_Poly_of_impl_areAll_impl_Poly__c1_p_c : ACode := (.seq (.region 0 [q 4 (.asg 0 (.const (.bool false)) 4)] false) (.seq (.region 1 [q 5 (.mov (t 0)), q 6 (.mov (t 1)), q 7 (.call 0 (.func 122) [(t 5), (t 6)]), q 8 (.bin .geq 3 (t 7) (.const (.int .i64 0))), q 4 (.asg 0 (t 8) 4)] false) .ret))
def slices_ContainsFunc_impl_Poly_impl_Poly_of_impl_areAll_impl_Poly__c1_p_L : Live := [(0, [0, 1]), (1, [0, 1])]
noncomputable def slices_ContainsFunc_impl_Poly_impl_Poly_of_impl_areAll_impl_Poly__c1_p (a0 : (List (Vec Int 64))) (a1c0c0 : Int) : Option Bool :=
  (Option.bind (slices_IndexFunc_impl_Poly_impl_Poly_of_impl_areAll_impl_Poly__c1_p a0 a1c0c0) fun r1 => (some ((decide (r1 ≥ 0)))))
theorem slices_ContainsFunc_impl_Poly_impl_Poly_of_impl_areAll_impl_Poly__c1_p_ok (a0 : (List (Vec Int 64))) (a1c0c0 : Int) (r : Bool) (h : slices_ContainsFunc_impl_Poly_impl_Poly_of_impl_areAll_impl_Poly__c1_p a0 a1c0c0 = some r) : Den Try.prog 115 [(eSA64u8 a0), (.clo 116 [] [(.ref (.clo 95 [] [(.ref (i6 a1c0c0) [] [])]) [] [])])] { r := (.bool r) } := by
  refine den_of (rs := [(.bool r)]) (ac := slices_ContainsFunc_impl_Poly_impl_Poly_of_impl_areAll_impl_Poly__c1_p_c) (L := slices_ContainsFunc_impl_Poly_impl_Poly_of_impl_areAll_impl_Poly__c1_p_L) (n := 9) (m := []) (c := Try.f115.body.getD .skip) good Try.func115 (by kernel_rfl) (by kernel_rfl) Try.ntmps115 rfl rfl (by kernel_rfl) rfl rfl ?_
  refine a_st (σ' := ⟨[(0, (eSA64u8 a0)), (1, (.clo 116 [] [(.ref (.clo 95 [] [(.ref (i6 a1c0c0) [] [])]) [] [])]))], []⟩) (by kernel_rfl) ?_
  unfold slices_ContainsFunc_impl_Poly_impl_Poly_of_impl_areAll_impl_Poly__c1_p_c
  refine sr (vp (.bool false) rfl (nx ⟨[(0, (eSA64u8 a0)), (1, (.clo 116 [] [(.ref (.clo 95 [] [(.ref (i6 a1c0c0) [] [])]) [] [])]))], []⟩ (by kernel_rfl) (sr (vp (eSA64u8 a0) rfl (vp (.clo 116 [] [(.ref (.clo 95 [] [(.ref (i6 a1c0c0) [] [])]) [] [])]) rfl ?_)))))
  obtain ⟨r1, hr2, h⟩ := bind_some h
  refine a_call (args := [(eSA64u8 a0), (.clo 116 [] [(.ref (.clo 95 [] [(.ref (i6 a1c0c0) [] [])]) [] [])])]) (u := []) (r := (i6 r1)) rfl rfl (slices_IndexFunc_impl_Poly_impl_Poly_of_impl_areAll_impl_Poly__c1_p_ok a0 a1c0c0 r1 hr2) rfl (vp (.bool ((decide (r1 ≥ 0)))) rfl (vp (.bool ((decide (r1 ≥ 0)))) rfl (nx _ rfl (a_ret ?_))))
  refine ⟨.inr rfl, ?_⟩
  rw [Try.results115]
  cases h
  exact ⟨_, _, _, _, _, rfl, trivial, .inl ⟨rfl, .inl rfl⟩, rfl, rfl⟩
def impl_areAll_impl_Poly_of_impl_polysCode_c1_p_c : ACode := (.seq (.region 0 [q 3 (.box 76 (t 1)), q 4 (.asg 0 (.const (.bool false)) 4)] false) (.seq (.region 1 [q 5 (.mov (t 0)), q 6 (.mkfn 116 [] [(t 3)]), q 7 (.call 0 (.func 115) [(t 5), (t 6)]), q 8 (.un .not (t 7)), q 4 (.asg 0 (t 8) 4)] false) .ret))
def impl_areAll_impl_Poly_of_impl_polysCode_c1_p_L : Live := [(0, [0, 1]), (1, [0, 3])]
noncomputable def impl_areAll_impl_Poly_of_impl_polysCode_c1_p (a0 : (List (Vec Int 64))) (a1c0 : Int) : Option Bool :=
  (Option.bind (slices_ContainsFunc_impl_Poly_impl_Poly_of_impl_areAll_impl_Poly__c1_p a0 a1c0) fun r1 => (some (!r1)))
theorem impl_areAll_impl_Poly_of_impl_polysCode_c1_p_ok (a0 : (List (Vec Int 64))) (a1c0 : Int) (r : Bool) (h : impl_areAll_impl_Poly_of_impl_polysCode_c1_p a0 a1c0 = some r) : Den Try.prog 94 [(eSA64u8 a0), (.clo 95 [] [(.ref (i6 a1c0) [] [])])] { r := (.bool r) } := by
  refine den_of (rs := [(.bool r)]) (ac := impl_areAll_impl_Poly_of_impl_polysCode_c1_p_c) (L := impl_areAll_impl_Poly_of_impl_polysCode_c1_p_L) (n := 9) (m := []) (c := Try.f94.body.getD .skip) good Try.func94 (by kernel_rfl) (by kernel_rfl) Try.ntmps94 rfl rfl (by kernel_rfl) rfl rfl ?_
  refine a_st (σ' := ⟨[(0, (eSA64u8 a0)), (1, (.clo 95 [] [(.ref (i6 a1c0) [] [])]))], []⟩) (by kernel_rfl) ?_
  unfold impl_areAll_impl_Poly_of_impl_polysCode_c1_p_c
  refine sr (vo 1300 (.clo 95 [] [(.ref (i6 a1c0) [] [])]) rfl rfl (vp (.bool false) rfl (nx ⟨[(0, (eSA64u8 a0)), (3, (ow 3))], [(3, (bk (.clo 95 [] [(.ref (i6 a1c0) [] [])])))]⟩ (by kernel_rfl) (sr (vp (eSA64u8 a0) rfl (vu (.clo 116 [] [(.ref (.clo 95 [] [(.ref (i6 a1c0) [] [])]) [] [])]) [(3, (bf (.clo 95 [] [(.ref (i6 a1c0) [] [])])))] rfl trivial rfl ?_))))))
  obtain ⟨r1, hr2, h⟩ := bind_some h
  refine a_call (args := [(eSA64u8 a0), (.clo 116 [] [(.ref (.clo 95 [] [(.ref (i6 a1c0) [] [])]) [] [])])]) (u := []) (r := (.bool r1)) rfl rfl (slices_ContainsFunc_impl_Poly_impl_Poly_of_impl_areAll_impl_Poly__c1_p_ok a0 a1c0 r1 hr2) rfl (vp (.bool (!r1)) rfl (vp (.bool (!r1)) rfl (nx _ rfl (a_ret ?_))))
  refine ⟨.inr rfl, ?_⟩
  rw [Try.results94]
  cases h
  exact ⟨_, _, _, _, _, rfl, trivial, .inl ⟨rfl, .inl rfl⟩, rfl, rfl⟩
def impl_polysCode_c : ACode := (.seq (.region 0 [q 2 (.box 2 (t 0)), q 4 (.asg 0 (.const (.int .i64 0)) 2)] false) (.seq (.seq (.region 1 [q 5 (.load 2 (t 2)), q 6 (.call 0 (.func 93) [(t 5)]), q 7 (.un .not (t 6)), q 8 (.mov (t 7)), ⟨some 9, .mov (t 1), some (8, false), []⟩, ⟨some 10, .mkfn 95 [] [(t 2)], some (8, false), []⟩, ⟨some 11, .call 0 (.func 94) [(t 9), (t 10)], some (8, false), []⟩, ⟨some 12, .un .not (t 11), some (8, false), []⟩, q 13 (.pick (t 8) (.const (.bool true)) (t 12))] false) (.cond (t 13) (.seq (.region 2 [q 4 (.asg 0 (.const (.int .i64 1)) 2)] false) .ret) .skip)) (.seq (.region 3 [q 4 (.asg 0 (.const (.int .i64 0)) 2)] false) .ret)))
def impl_polysCode_L : Live := [(0, [0, 1]), (1, [1, 2]), (2, []), (3, []), (100013, [13])]
noncomputable def impl_polysCode (a0 : Int) (a1 : (List (Vec Int 64))) : Option Int :=
  (Option.bind (α := Bool) ((Option.bind (impl_isPrime a0) fun r12 => (if (!r12) then (some true) else (Option.bind (impl_areAll_impl_Poly_of_impl_polysCode_c1_p a1 a0) fun r15 => (some (!r15)))))) fun x7 => (if x7 then (some 1) else (some 0)))
theorem impl_polysCode_ok (a0 : Int) (a1 : (List (Vec Int 64))) (r : Int) (h : impl_polysCode a0 a1 = some r) : Den Try.prog 60 [(i6 a0), (eSA64u8 a1)] { r := (i6 r) } := by
  refine den_of (rs := [(i6 r)]) (ac := impl_polysCode_c) (L := impl_polysCode_L) (n := 14) (m := []) (c := Try.f60.body.getD .skip) good Try.func60 (by kernel_rfl) (by kernel_rfl) Try.ntmps60 rfl rfl (by kernel_rfl) rfl rfl ?_
  refine a_st (σ' := ⟨[(0, (i6 a0)), (1, (eSA64u8 a1))], []⟩) (by kernel_rfl) ?_
  unfold impl_polysCode_c
  refine sr (vo 1200 (i6 a0) rfl rfl (vp (i6 0) rfl (nx ⟨[(1, (eSA64u8 a1)), (2, (ow 2))], [(2, (bk (i6 a0)))]⟩ (by kernel_rfl) (a_seq ?_))))
  obtain ⟨y8, hy9, hk10⟩ := bind_some h
  clear h
  refine a_join (emb := fun (s : Bool) => ⟨[(13, (.bool s))], []⟩) (pre := fun s => s = y8) ?_ ?_
  · rintro x7 rfl
    have h := hk10
    refine a_st (σ' := ⟨[(13, (.bool x7))], []⟩) (by kernel_rfl) ?_
    cases hb17 : x7
    · have h := ite_f hb17 h
      refine a_cond_f rfl (a_skip (a_next (σ' := ⟨[], []⟩) (by kernel_rfl) (sr (vp (i6 0) rfl (nx _ rfl (a_ret ?_))))))
      refine ⟨.inr rfl, ?_⟩
      rw [Try.results60]
      cases h
      exact ⟨_, _, _, _, _, rfl, trivial, .inl ⟨rfl, .inl rfl⟩, rfl, rfl⟩
    · have h := ite_t hb17 h
      refine a_cond_t rfl (sr (vp (i6 1) rfl (nx _ rfl (a_ret (t_ret ?_)))))
      refine ⟨.inr rfl, ?_⟩
      rw [Try.results60]
      cases h
      exact ⟨_, _, _, _, _, rfl, trivial, .inl ⟨rfl, .inl rfl⟩, rfl, rfl⟩
  · have h := hy9
    refine a_region (vl (i6 a0) rfl rfl rfl rfl rfl rfl ?_)
    obtain ⟨r12, hr13, h⟩ := bind_some h
    refine a_call (args := [(i6 a0)]) (u := []) (r := (.bool r12)) rfl rfl (impl_isPrime_ok a0 r12 hr13) rfl (vp (.bool (!r12)) rfl (vp (.bool (!r12)) rfl ?_))
    cases hb14 : (!r12)
    · have h := ite_f hb14 h
      refine gp (eSA64u8 a1) rfl rfl (a_gval rfl (v := (.clo 95 [] [(.ref (i6 a0) [] [])])) (u := [(2, (bf (i6 a0)))]) rfl trivial rfl ?_)
      obtain ⟨r15, hr16, h⟩ := bind_some h
      refine a_gcall rfl (args := [(eSA64u8 a1), (.clo 95 [] [(.ref (i6 a0) [] [])])]) (u := []) (r := (.bool r15)) rfl rfl (impl_areAll_impl_Poly_of_impl_polysCode_c1_p_ok a1 a0 r15 hr16) rfl (gp (.bool (!r15)) rfl rfl (vp (.bool (!r15)) rfl (a_nil ?_)))
      exact j_leaf (!r15) (Option.some.inj h) (by kernel_rfl)
    · have h := ite_t hb14 h
      refine a_gskip rfl (a_gskip rfl (a_gskip rfl (a_gskip rfl (vp (.bool true) rfl (a_nil ?_)))))
      exact j_leaf true (Option.some.inj h) (by kernel_rfl)
def impl_row_trimmed_c : ACode := (.seq (.region 0 [q 2 (.asg 1 (.const (.slice none 0 0)) 42)] false) (.seq (.region 1 [q 4 (.mov (t 0)), q 5 (.blt 0 .len [(t 4)] [42]), q 3 (.asg 0 (t 5) 3)] false) (.seq (.block 0 (.loop (.seq (.seq (.region 2 [q 6 (.mov (t 3)), q 7 (.bin .gtr 3 (t 6) (.const (.int .i64 0))), q 8 (.mov (t 7)), ⟨some 9, .mov (t 0), some (8, true), []⟩, ⟨some 10, .mov (t 3), some (8, true), []⟩, ⟨some 11, .bin .sub 3 (t 10) (.const (.int .i64 1)), some (8, true), []⟩, ⟨some 12, .indexAddr 42 (t 9) (t 11), some (8, true), []⟩, ⟨some 13, .load 2 (t 12), some (8, true), []⟩, ⟨some 14, .bin .eql 2 (t 13) (.const (.int .i64 0)), some (8, true), []⟩, q 15 (.pick (t 8) (t 14) (.const (.bool false)))] false) (.cond (t 15) .skip (.exit 0))) (.block 1 (.region 3 [q 16 (.mov (t 3)), q 17 (.bin .sub 3 (t 16) (.const (.int .i64 1))), q 3 (.asg 0 (t 17) 3)] false))))) (.seq (.region 4 [q 18 (.mov (t 0)), q 19 (.mov (t 3)), q 20 (.mov (t 3)), q 21 (.slice 42 (t 18) none (some (t 19)) (some (t 20))), q 2 (.asg 1 (t 21) 42)] false) .ret))))
def impl_row_trimmed_L : Live := [(0, [0]), (1, [0]), (2, [0, 3]), (3, [0, 3]), (4, [0, 3]), (100015, [0, 3, 15])]
noncomputable def impl_row_trimmed_l1 (a0 : (List Int)) (x62 : Int) : Option (Int ⊕ Int) :=
  (Option.bind (α := Bool) ((if (decide (x62 > 0)) then (ifp (0 ≤ IntKind.i64.wrap (x62 - 1) ∧ IntKind.i64.wrap (x62 - 1) < ((a0.length : Nat) : Int)) ((some ((((rd a0 (IntKind.i64.wrap (x62 - 1)).toNat)) == 0))))) else (some false))) fun x80 => (if x80 then (some (.inl (IntKind.i64.wrap (x62 - 1)))) else (some (.inr x62))))
noncomputable def impl_row_trimmed (a0 : (List Int)) : Option (List Int) :=
  (Option.bind (α := Int) ((loopM (fun s : Int => impl_row_trimmed_l1 a0 s) (a0.length : Int))) fun x43 => (ifp (0 ≤ x43 ∧ x43 ≤ (a0.length : Int)) ((some (a0.take x43.toNat)))))
theorem impl_row_trimmed_ok (a0 : (List Int)) (r : (List Int)) (h : impl_row_trimmed a0 = some r) : Den Try.prog 62 [(eSi64 a0)] { r := (eSi64 r) } := by
  refine den_of (rs := [(eSi64 r)]) (ac := impl_row_trimmed_c) (L := impl_row_trimmed_L) (n := 22) (m := [(2, 1)]) (c := Try.f62.body.getD .skip) good Try.func62 (by kernel_rfl) (by kernel_rfl) Try.ntmps62 rfl rfl (by kernel_rfl) rfl rfl ?_
  refine a_st (σ' := ⟨[(0, (eSi64 a0))], []⟩) (by kernel_rfl) ?_
  unfold impl_row_trimmed_c
  refine sr (vp (eSi64 ([])) rfl (nx ⟨[(0, (eSi64 a0))], []⟩ (by kernel_rfl) (sr (vp (eSi64 a0) rfl (vq (i6 (a0.length : Int)) (len_run rfl rfl) trivial (vp (i6 (a0.length : Int)) rfl (nx ⟨[(0, (eSi64 a0)), (3, (i6 (a0.length : Int)))], []⟩ (by kernel_rfl) ?_)))))))
  obtain ⟨y44, hy45, hk46⟩ := bind_some h
  clear h
  refine a_join (emb := fun (s : Int) => ⟨[(0, (eSi64 a0)), (3, (i6 s))], []⟩) (pre := fun s => s = y44) ?_ ?_
  · rintro x43 rfl
    have h := hk46
    refine a_st (σ' := ⟨[(0, (eSi64 a0)), (3, (i6 x43))], []⟩) (by kernel_rfl) (sr (vp (eSi64 a0) rfl (vp (i6 x43) rfl (vp (i6 x43) rfl ?_))))
    obtain ⟨hc89, h⟩ := ifp_some h
    refine vq (.sl 1 true ((a0.take x43.toNat).map (AV.int .i64))) (take3_run (f := (AV.int .i64)) (l := a0) (i := ⟨.int .i64, 1, 8, (.int .i64 0)⟩) rfl rfl rfl rfl (fun _ => rfl)) ⟨hc89.1, lmap_le hc89.2, rfl⟩ (vq (eSi64 (a0.take x43.toNat)) (asg_tight (i := ⟨.int .i64, 1, 8, (.int .i64 0)⟩) (f := (AV.int .i64)) (l := (a0.take x43.toNat)) rfl rfl rfl) trivial (nx _ rfl (a_ret ?_)))
    refine ⟨.inr rfl, ?_⟩
    rw [Try.results62]
    cases h
    exact ⟨_, _, _, _, _, rfl, trivial, .inl ⟨rfl, .inl rfl⟩, rfl, rfl⟩
  · have h := hy45
    refine a_block ?_
    refine a_loop (emb := fun (s : Int) => ⟨[(0, (eSi64 a0)), (3, (i6 s))], []⟩) (body := (fun s : Int => impl_row_trimmed_l1 a0 s)) (G := fun q => some q = some y44) h rfl ?_ (by kernel_rfl)
    rintro X74 x62 x75 h hX76
    have h : impl_row_trimmed_l1 a0 x62 = some x75 := h
    refine a_st (σ' := ⟨[(0, (eSi64 a0)), (3, (i6 x62))], []⟩) (by kernel_rfl) (a_seq ?_)
    obtain ⟨y81, hy82, hk83⟩ := bind_some h
    clear h
    refine a_join (emb := fun (s : Bool) => ⟨[(0, (eSi64 a0)), (3, (i6 x62)), (15, (.bool s))], []⟩) (pre := fun s => s = y81) ?_ ?_
    · rintro x80 rfl
      have h := hk83
      refine a_st (σ' := ⟨[(0, (eSi64 a0)), (3, (i6 x62)), (15, (.bool x80))], []⟩) (by kernel_rfl) ?_
      cases hb87 : x80
      · have h := ite_f hb87 h
        refine a_cond_f rfl (a_exit (t_exit ?_))
        cases h
        have h := hX76
        refine t_exit (b_exit ?_)
        exact j_leaf x62 (Option.some.inj h) (by kernel_rfl)
      · have h := ite_t hb87 h
        refine a_cond_t rfl (a_skip (a_next (σ' := ⟨[(0, (eSi64 a0)), (3, (i6 x62))], []⟩) (by kernel_rfl) (a_block (a_region (vp (i6 x62) rfl (vp (i6 (IntKind.i64.wrap (x62 - 1))) rfl (vp (i6 (IntKind.i64.wrap (x62 - 1))) rfl (a_nil (b_norm ?_)))))))))
        cases h
        exact a_again (by kernel_rfl) hX76
    · have h := hy82
      refine a_region (vp (i6 x62) rfl (vp (.bool ((decide (x62 > 0)))) rfl (vp (.bool ((decide (x62 > 0)))) rfl ?_)))
      cases hb84 : (decide (x62 > 0))
      · have h := ite_f hb84 h
        refine a_gskip rfl (a_gskip rfl (a_gskip rfl (a_gskip rfl (a_gskip rfl (a_gskip rfl (vp (.bool false) rfl (a_nil ?_)))))))
        exact j_leaf false (Option.some.inj h) (by kernel_rfl)
      · have h := ite_t hb84 h
        refine gp (eSi64 a0) rfl rfl (gp (i6 x62) rfl rfl (gp (i6 (IntKind.i64.wrap (x62 - 1))) rfl rfl ?_))
        obtain ⟨hc85, h⟩ := ifp_some h
        refine gq (.ref (.row 1 (a0.map (AV.int .i64))) [(IntKind.i64.wrap (x62 - 1)).toNat] [(IntKind.i64.wrap (x62 - 1)).toNat * 1]) rfl rfl (lmap hc85) ?_
        have hl86 : LdOk [(IntKind.i64.wrap (x62 - 1)).toNat] (.row 1 (a0.map (AV.int .i64))) [(IntKind.i64.wrap (x62 - 1)).toNat * 1] 1 false (i6 ((rd a0 (IntKind.i64.wrap (x62 - 1)).toNat))) := (.row (llt hc85) rfl (.nil rfl rfl rfl))
        refine gq (i6 ((rd a0 (IntKind.i64.wrap (x62 - 1)).toNat))) rfl (ld_ref (i := ⟨.int .i64, 1, 8, (.int .i64 0)⟩) rfl rfl hl86) hl86.c (gp (.bool ((((rd a0 (IntKind.i64.wrap (x62 - 1)).toNat)) == 0))) rfl rfl (vp (.bool ((((rd a0 (IntKind.i64.wrap (x62 - 1)).toNat)) == 0))) rfl (a_nil ?_)))
        exact j_leaf ((((rd a0 (IntKind.i64.wrap (x62 - 1)).toNat)) == 0)) (Option.some.inj h) (by kernel_rfl)
def impl_rowOf_c : ACode := (.seq (.region 0 [q 1 (.box 26 (t 0)), q 2 (.asg 1 (.const (.slice none 0 0)) 42)] false) (.seq (.region 1 [q 3 (.asg 2 (.const (.slice none 0 0)) 42)] false) (.seq (.seq (.region 2 [q 6 (.load 26 (t 1)), q 7 (.mov (.const (.int .i64 0)))] false) (.block 0 (.loop (.seq (.region 3 [q 8 (.bin .lss 3 (t 7) (.const (.int .i64 64)))] false) (.seq (.cond (t 8) .skip (.exit 0)) (.seq (.block 1 (.seq (.region 4 [q 9 (.index 26 (t 6) (t 7)), q 5 (.asg 0 (t 9) 5)] false) (.region 5 [q 10 (.mov (t 3)), q 11 (.mov (t 5)), q 12 (.conv 5 2 (t 11)), q 13 (.bslice 0 42 1 [(0, (t 12))]), q 14 (.blt 0 .append [(t 10), (t 13)] [42, 42]), q 3 (.asg 2 (t 14) 42)] false))) (.region 6 [q 15 (.bin .add 3 (t 7) (.const (.int .i64 1))), q 7 (.mov (t 15))] false))))))) (.seq (.region 7 [q 16 (.mov (t 3)), q 17 (.call 0 (.func 62) [(t 16)]), q 2 (.asg 1 (t 17) 42)] false) .ret))))
def impl_rowOf_L : Live := [(0, [0]), (1, [1]), (2, [1, 3]), (3, [3, 6, 7]), (4, [3, 6, 7]), (5, [3, 5, 6, 7]), (6, [3, 6, 7]), (7, [3]), (100008, [3, 6, 7, 8])]
noncomputable def impl_rowOf_l1 (a0 : (Vec Int 64)) (x25 : Int) (x26 : (List Int)) : Option ((Int × (List Int)) ⊕ (List Int)) :=
  (if (decide (x25 < 64)) then (ifp (0 ≤ x25 ∧ x25 < ((64 : Nat) : Int)) ((ifp ((x26.length + ([IntKind.i64.wrap (rd a0.1 x25.toNat)] : List Int).length) * 8 ≤ 140737488355328) ((some (.inl ((IntKind.i64.wrap (x25 + 1), (x26 ++ ([IntKind.i64.wrap (rd a0.1 x25.toNat)])))))))))) else (some (.inr x26)))
noncomputable def impl_rowOf (a0 : (Vec Int 64)) : Option (List Int) :=
  (Option.bind (α := (List Int)) ((loopM (fun s : (Int × (List Int)) => impl_rowOf_l1 a0 s.1 s.2) (0, []))) fun x17 => (Option.bind (impl_row_trimmed x17) fun r37 => (some r37)))
theorem impl_rowOf_ok (a0 : (Vec Int 64)) (r : (List Int)) (h : impl_rowOf a0 = some r) : Den Try.prog 27 [(eA64u8 a0)] { r := (eSi64 r) } := by
  refine den_of (rs := [(eSi64 r)]) (ac := impl_rowOf_c) (L := impl_rowOf_L) (n := 18) (m := [(2, 1), (3, 2)]) (c := Try.f27.body.getD .skip) good Try.func27 (by kernel_rfl) (by kernel_rfl) Try.ntmps27 rfl rfl (by kernel_rfl) rfl rfl ?_
  refine a_st (σ' := ⟨[(0, (eA64u8 a0))], []⟩) (by kernel_rfl) ?_
  unfold impl_rowOf_c
  refine sr (vo 1100 (eA64u8 a0) rfl rfl (vp (eSi64 ([])) rfl (nx ⟨[(1, (ow 1))], [(1, (bk (eA64u8 a0)))]⟩ (by kernel_rfl) (sr (vu (.osl 1300) [(1300, (bk (.row 1 (([]).map (AV.int .i64)))))] rfl trivial rfl (nx ⟨[(1, (ow 1)), (3, (.osl 3))], [(1, (bk (eA64u8 a0))), (3, (bk (.row 1 (([]).map (AV.int .i64)))))]⟩ (by kernel_rfl) ?_))))))
  obtain ⟨y18, hy19, hk20⟩ := bind_some h
  clear h
  refine a_join (emb := fun (s : (List Int)) => ⟨[(3, (.osl 3))], [(3, (bk (.row 1 (s.map (AV.int .i64)))))]⟩) (pre := fun s => s = y18) ?_ ?_
  · rintro x17 rfl
    have h := hk20
    refine a_st (σ' := ⟨[(3, (.osl 3))], [(3, (bk (.row 1 (x17.map (AV.int .i64)))))]⟩) (by kernel_rfl) (sr (vp (.osl 3) rfl ?_))
    obtain ⟨r37, hr38, h⟩ := bind_some h
    refine a_call (args := [(eSi64 x17)]) (u := [(3, (bf (.row 1 (x17.map (AV.int .i64)))))]) (r := (eSi64 r37)) rfl rfl (impl_row_trimmed_ok x17 r37 hr38) rfl (vp (eSi64 r37) rfl (nx _ rfl (a_ret ?_)))
    refine ⟨.inr rfl, ?_⟩
    rw [Try.results27]
    cases h
    exact ⟨_, _, _, _, _, rfl, trivial, .inl ⟨rfl, .inl rfl⟩, rfl, rfl⟩
  · have h := hy19
    refine sr (vl (eA64u8 a0) rfl rfl rfl rfl rfl rfl (vp (i6 0) rfl (nx ⟨[(3, (.osl 3)), (6, (eA64u8 a0)), (7, (i6 0))], [(3, (bk (.row 1 (([]).map (AV.int .i64)))))]⟩ (by kernel_rfl) (a_block ?_))))
    refine a_loop (emb := fun (s : (Int × (List Int))) => ⟨[(3, (.osl 3)), (6, (eA64u8 a0)), (7, (i6 s.1))], [(3, (bk (.row 1 (s.2.map (AV.int .i64)))))]⟩) (body := (fun s : (Int × (List Int)) => impl_rowOf_l1 a0 s.1 s.2)) (G := fun q => some q = some y18) h rfl ?_ (by kernel_rfl)
    rintro X30 ⟨x25, x26⟩ x31 h hX32
    have h : impl_rowOf_l1 a0 x25 x26 = some x31 := h
    refine a_st (σ' := ⟨[(3, (.osl 3)), (6, (eA64u8 a0)), (7, (i6 x25))], [(3, (bk (.row 1 (x26.map (AV.int .i64)))))]⟩) (by kernel_rfl) (sr (vp (.bool ((decide (x25 < 64)))) rfl (nx ⟨[(3, (.osl 3)), (6, (eA64u8 a0)), (7, (i6 x25)), (8, (.bool ((decide (x25 < 64)))))], [(3, (bk (.row 1 (x26.map (AV.int .i64)))))]⟩ (by kernel_rfl) (a_seq ?_))))
    cases hb33 : (decide (x25 < 64))
    · have h := ite_f hb33 h
      refine a_cond_f rfl (a_exit (t_exit ?_))
      cases h
      have h := hX32
      refine t_exit (b_exit ?_)
      exact j_leaf x26 (Option.some.inj h) (by kernel_rfl)
    · have h := ite_t hb33 h
      refine a_cond_t rfl (a_skip (a_next (σ' := ⟨[(3, (.osl 3)), (6, (eA64u8 a0)), (7, (i6 x25))], [(3, (bk (.row 1 (x26.map (AV.int .i64)))))]⟩) (by kernel_rfl) (a_seq (a_block (sr ?_)))))
      obtain ⟨hc34, h⟩ := ifp_some h
      refine vq (b8 (rd a0.1 x25.toNat)) (ix_run (i := ⟨.int .u8, 1, 1, (.int .u8 0)⟩) (f := (AV.int .u8)) rfl rfl rfl rfl (vlt a0 hc34)) ⟨hc34.1, hc34.2, rfl, rfl, rfl, rfl⟩ (vp (b8 (rd a0.1 x25.toNat)) rfl (nx ⟨[(3, (.osl 3)), (5, (b8 (rd a0.1 x25.toNat))), (6, (eA64u8 a0)), (7, (i6 x25))], [(3, (bk (.row 1 (x26.map (AV.int .i64)))))]⟩ (by kernel_rfl) (a_region (vp (.osl 3) rfl (vp (b8 (rd a0.1 x25.toNat)) rfl (vp (i6 (IntKind.i64.wrap (rd a0.1 x25.toNat))) rfl (vq (.sl 1 true (([IntKind.i64.wrap (rd a0.1 x25.toNat)]).map (AV.int .i64))) rfl ⟨(Nat.le_of_ble_eq_true rfl), (Nat.le_of_ble_eq_true rfl), (all_cons ⟨(Nat.le_of_ble_eq_true rfl), rfl⟩ all_nil)⟩ ?_)))))))
      obtain ⟨hc35, h⟩ := ifp_some h
      refine vu (.osl 2400) [(2400, (bk (.row 1 (((x26 ++ ([IntKind.i64.wrap (rd a0.1 x25.toNat)]))).map (AV.int .i64))))), (3, none)] (app_run (i := ⟨.int .i64, 1, 8, (.int .i64 0)⟩) (f := (AV.int .i64)) (l := x26) (l2 := [IntKind.i64.wrap (rd a0.1 x25.toNat)]) rfl rfl rfl rfl (fun _ => rfl) rfl rfl) (app_c (f := (AV.int .i64)) (s := 1) (sz := 1) (by' := 8) (u := []) (id := 3) hc35 (.inr rfl) rfl rfl rfl) rfl (vp (.osl 2400) rfl (a_nil (b_norm (a_next (σ' := ⟨[(3, (.osl 3)), (6, (eA64u8 a0)), (7, (i6 x25))], [(3, (bk (.row 1 (((x26 ++ ([IntKind.i64.wrap (rd a0.1 x25.toNat)]))).map (AV.int .i64)))))]⟩) (by kernel_rfl) (a_region (vp (i6 (IntKind.i64.wrap (x25 + 1))) rfl (vp (i6 (IntKind.i64.wrap (x25 + 1))) rfl (a_nil ?_))))))))
      cases h
      exact a_again (by kernel_rfl) hX32
def impl_row_lead_c : ACode := (.seq (.region 0 [q 2 (.asg 0 (.const (.int .i64 0)) 2)] false) (.seq (.seq (.region 1 [q 3 (.mov (t 0)), q 4 (.blt 0 .len [(t 3)] [42]), q 5 (.bin .eql 3 (t 4) (.const (.int .i64 0)))] false) (.cond (t 5) (.seq (.region 2 [q 2 (.asg 0 (.const (.int .i64 0)) 2)] false) .ret) .skip)) (.seq (.region 3 [q 6 (.mov (t 0)), q 7 (.mov (t 0)), q 8 (.blt 0 .len [(t 7)] [42]), q 9 (.bin .sub 3 (t 8) (.const (.int .i64 1))), q 10 (.indexAddr 42 (t 6) (t 9)), q 11 (.load 2 (t 10)), q 2 (.asg 0 (t 11) 2)] false) .ret)))
def impl_row_lead_L : Live := [(0, [0]), (1, [0]), (2, []), (3, [0]), (100005, [0, 5])]
noncomputable def impl_row_lead (a0 : (List Int)) : Option Int :=
  (if ((a0.length : Int) == 0) then (some 0) else (ifp (0 ≤ IntKind.i64.wrap ((a0.length : Int) - 1) ∧ IntKind.i64.wrap ((a0.length : Int) - 1) < ((a0.length : Nat) : Int)) ((some ((rd a0 (IntKind.i64.wrap ((a0.length : Int) - 1)).toNat))))))
theorem impl_row_lead_ok (a0 : (List Int)) (r : Int) (h : impl_row_lead a0 = some r) : Den Try.prog 89 [(eSi64 a0)] { r := (i6 r) } := by
  refine den_of (rs := [(i6 r)]) (ac := impl_row_lead_c) (L := impl_row_lead_L) (n := 12) (m := []) (c := Try.f89.body.getD .skip) good Try.func89 (by kernel_rfl) (by kernel_rfl) Try.ntmps89 rfl rfl (by kernel_rfl) rfl rfl ?_
  refine a_st (σ' := ⟨[(0, (eSi64 a0))], []⟩) (by kernel_rfl) ?_
  unfold impl_row_lead_c
  refine sr (vp (i6 0) rfl (nx ⟨[(0, (eSi64 a0))], []⟩ (by kernel_rfl) (a_seq (sr (vp (eSi64 a0) rfl (vq (i6 (a0.length : Int)) (len_run rfl rfl) trivial (vp (.bool (((a0.length : Int) == 0))) rfl (nx ⟨[(0, (eSi64 a0)), (5, (.bool (((a0.length : Int) == 0))))], []⟩ (by kernel_rfl) ?_))))))))
  cases hb1 : ((a0.length : Int) == 0)
  · have h := ite_f hb1 h
    refine a_cond_f rfl (a_skip (a_next (σ' := ⟨[(0, (eSi64 a0))], []⟩) (by kernel_rfl) (sr (vp (eSi64 a0) rfl (vp (eSi64 a0) rfl (vq (i6 (a0.length : Int)) (len_run rfl rfl) trivial (vp (i6 (IntKind.i64.wrap ((a0.length : Int) - 1))) rfl ?_)))))))
    obtain ⟨hc2, h⟩ := ifp_some h
    refine vq (.ref (.row 1 (a0.map (AV.int .i64))) [(IntKind.i64.wrap ((a0.length : Int) - 1)).toNat] [(IntKind.i64.wrap ((a0.length : Int) - 1)).toNat * 1]) rfl (lmap hc2) ?_
    have hl3 : LdOk [(IntKind.i64.wrap ((a0.length : Int) - 1)).toNat] (.row 1 (a0.map (AV.int .i64))) [(IntKind.i64.wrap ((a0.length : Int) - 1)).toNat * 1] 1 false (i6 ((rd a0 (IntKind.i64.wrap ((a0.length : Int) - 1)).toNat))) := (.row (llt hc2) rfl (.nil rfl rfl rfl))
    refine vq (i6 ((rd a0 (IntKind.i64.wrap ((a0.length : Int) - 1)).toNat))) (ld_ref (i := ⟨.int .i64, 1, 8, (.int .i64 0)⟩) rfl rfl hl3) hl3.c (vp (i6 ((rd a0 (IntKind.i64.wrap ((a0.length : Int) - 1)).toNat))) rfl (nx _ rfl (a_ret ?_)))
    refine ⟨.inr rfl, ?_⟩
    rw [Try.results89]
    cases h
    exact ⟨_, _, _, _, _, rfl, trivial, .inl ⟨rfl, .inl rfl⟩, rfl, rfl⟩
  · have h := ite_t hb1 h
    refine a_cond_t rfl (sr (vp (i6 0) rfl (nx _ rfl (a_ret (t_ret ?_)))))
    refine ⟨.inr rfl, ?_⟩
    rw [Try.results89]
    cases h
    exact ⟨_, _, _, _, _, rfl, trivial, .inl ⟨rfl, .inl rfl⟩, rfl, rfl⟩
def impl_row_degree_c : ACode := (.seq (.region 0 [q 2 (.asg 0 (.const (.int .i64 0)) 2)] false) (.seq (.region 1 [q 3 (.mov (t 0)), q 4 (.blt 0 .len [(t 3)] [42]), q 5 (.bin .sub 2 (t 4) (.const (.int .i64 1))), q 2 (.asg 0 (t 5) 2)] false) .ret))
def impl_row_degree_L : Live := [(0, [0]), (1, [0])]
noncomputable def impl_row_degree (a0 : (List Int)) : Option Int :=
  (some (IntKind.i64.wrap ((a0.length : Int) - 1)))
theorem impl_row_degree_ok (a0 : (List Int)) (r : Int) (h : impl_row_degree a0 = some r) : Den Try.prog 28 [(eSi64 a0)] { r := (i6 r) } := by
  refine den_of (rs := [(i6 r)]) (ac := impl_row_degree_c) (L := impl_row_degree_L) (n := 6) (m := []) (c := Try.f28.body.getD .skip) good Try.func28 (by kernel_rfl) (by kernel_rfl) Try.ntmps28 rfl rfl (by kernel_rfl) rfl rfl ?_
  refine a_st (σ' := ⟨[(0, (eSi64 a0))], []⟩) (by kernel_rfl) ?_
  unfold impl_row_degree_c
  refine sr (vp (i6 0) rfl (nx ⟨[(0, (eSi64 a0))], []⟩ (by kernel_rfl) (sr (vp (eSi64 a0) rfl (vq (i6 (a0.length : Int)) (len_run rfl rfl) trivial (vp (i6 (IntKind.i64.wrap ((a0.length : Int) - 1))) rfl (vp (i6 (IntKind.i64.wrap ((a0.length : Int) - 1))) rfl (nx _ rfl (a_ret ?_)))))))))
  refine ⟨.inr rfl, ?_⟩
  rw [Try.results28]
  cases h
  exact ⟨_, _, _, _, _, rfl, trivial, .inl ⟨rfl, .inl rfl⟩, rfl, rfl⟩
def impl_within_c : ACode := (.seq (.region 0 [q 6 (.asg 0 (.const (.bool false)) 4)] false) (.seq (.region 1 [q 7 (.mov (t 1)), q 8 (.mov (t 0)), q 9 (.bin .leq 2 (t 7) (t 8)), q 10 (.mov (t 9)), ⟨some 11, .mov (t 0), some (10, true), []⟩, ⟨some 12, .mov (t 2), some (10, true), []⟩, ⟨some 13, .bin .leq 2 (t 11) (t 12), some (10, true), []⟩, q 14 (.pick (t 10) (t 13) (.const (.bool false))), q 6 (.asg 0 (t 14) 4)] false) .ret))
def impl_within_L : Live := [(0, [0, 1, 2]), (1, [0, 1, 2])]
noncomputable def impl_within (a0 : Int) (a1 : Int) (a2 : Int) : Option Bool :=
  (if (decide (a1 ≤ a0)) then (some ((decide (a0 ≤ a2)))) else (some false))
theorem impl_within_ok (a0 : Int) (a1 : Int) (a2 : Int) (r : Bool) (h : impl_within a0 a1 a2 = some r) : Den Try.prog 96 [(i6 a0), (i6 a1), (i6 a2)] { r := (.bool r) } := by
  refine den_of (rs := [(.bool r)]) (ac := impl_within_c) (L := impl_within_L) (n := 15) (m := []) (c := Try.f96.body.getD .skip) good Try.func96 (by kernel_rfl) (by kernel_rfl) Try.ntmps96 rfl rfl (by kernel_rfl) rfl rfl ?_
  refine a_st (σ' := ⟨[(0, (i6 a0)), (1, (i6 a1)), (2, (i6 a2))], []⟩) (by kernel_rfl) ?_
  unfold impl_within_c
  refine sr (vp (.bool false) rfl (nx ⟨[(0, (i6 a0)), (1, (i6 a1)), (2, (i6 a2))], []⟩ (by kernel_rfl) (sr (vp (i6 a1) rfl (vp (i6 a0) rfl (vp (.bool ((decide (a1 ≤ a0)))) rfl (vp (.bool ((decide (a1 ≤ a0)))) rfl ?_)))))))
  cases hb1 : (decide (a1 ≤ a0))
  · have h := ite_f hb1 h
    refine a_gskip rfl (a_gskip rfl (a_gskip rfl (vp (.bool false) rfl (vp (.bool false) rfl (nx _ rfl (a_ret ?_))))))
    refine ⟨.inr rfl, ?_⟩
    rw [Try.results96]
    cases h
    exact ⟨_, _, _, _, _, rfl, trivial, .inl ⟨rfl, .inl rfl⟩, rfl, rfl⟩
  · have h := ite_t hb1 h
    refine gp (i6 a0) rfl rfl (gp (i6 a2) rfl rfl (gp (.bool ((decide (a0 ≤ a2)))) rfl rfl (vp (.bool ((decide (a0 ≤ a2)))) rfl (vp (.bool ((decide (a0 ≤ a2)))) rfl (nx _ rfl (a_ret ?_))))))
    refine ⟨.inr rfl, ?_⟩
    rw [Try.results96]
    cases h
    exact ⟨_, _, _, _, _, rfl, trivial, .inl ⟨rfl, .inl rfl⟩, rfl, rfl⟩
def impl_isModulus_c : ACode := (.seq (.region 0 [q 1 (.box 26 (t 0)), q 2 (.asg 0 (.const (.bool false)) 4)] false) (.seq (.region 1 [q 4 (.load 26 (t 1)), q 5 (.call 0 (.func 27) [(t 4)]), q 3 (.asg 1 (t 5) 42)] false) (.seq (.region 2 [q 6 (.mov (t 3)), q 7 (.call 0 (.func 89) [(t 6)]), q 8 (.bin .eql 2 (t 7) (.const (.int .i64 1))), q 9 (.mov (t 8)), ⟨some 10, .mov (t 3), some (9, true), []⟩, ⟨some 11, .call 0 (.func 28) [(t 10)], some (9, true), []⟩, ⟨some 12, .call 0 (.func 96) [(t 11), (.const (.int .i64 1)), (.const (.int .i64 5))], some (9, true), []⟩, q 13 (.pick (t 9) (t 12) (.const (.bool false))), q 2 (.asg 0 (t 13) 4)] false) .ret)))
def impl_isModulus_L : Live := [(0, [0]), (1, [1]), (2, [3])]
noncomputable def impl_isModulus (a0 : (Vec Int 64)) : Option Bool :=
  (Option.bind (impl_rowOf a0) fun r2 => (Option.bind (impl_row_lead r2) fun r4 => (if (r4 == 1) then (Option.bind (impl_row_degree r2) fun r7 => (Option.bind (impl_within r7 1 5) fun r9 => (some r9))) else (some false))))
theorem impl_isModulus_ok (a0 : (Vec Int 64)) (r : Bool) (h : impl_isModulus a0 = some r) : Den Try.prog 61 [(eA64u8 a0)] { r := (.bool r) } := by
  refine den_of (rs := [(.bool r)]) (ac := impl_isModulus_c) (L := impl_isModulus_L) (n := 14) (m := [(3, 1)]) (c := Try.f61.body.getD .skip) good Try.func61 (by kernel_rfl) (by kernel_rfl) Try.ntmps61 rfl rfl (by kernel_rfl) rfl rfl ?_
  refine a_st (σ' := ⟨[(0, (eA64u8 a0))], []⟩) (by kernel_rfl) ?_
  unfold impl_isModulus_c
  refine sr (vo 1100 (eA64u8 a0) rfl rfl (vp (.bool false) rfl (nx ⟨[(1, (ow 1))], [(1, (bk (eA64u8 a0)))]⟩ (by kernel_rfl) (sr (vl (eA64u8 a0) rfl rfl rfl rfl rfl rfl ?_)))))
  obtain ⟨r2, hr3, h⟩ := bind_some h
  refine a_call (args := [(eA64u8 a0)]) (u := []) (r := (eSi64 r2)) rfl rfl (impl_rowOf_ok a0 r2 hr3) rfl (vp (eSi64 r2) rfl (nx ⟨[(3, (eSi64 r2))], []⟩ (by kernel_rfl) (sr (vp (eSi64 r2) rfl ?_))))
  obtain ⟨r4, hr5, h⟩ := bind_some h
  refine a_call (args := [(eSi64 r2)]) (u := []) (r := (i6 r4)) rfl rfl (impl_row_lead_ok r2 r4 hr5) rfl (vp (.bool (r4 == 1)) rfl (vp (.bool (r4 == 1)) rfl ?_))
  cases hb6 : (r4 == 1)
  · have h := ite_f hb6 h
    refine a_gskip rfl (a_gskip rfl (a_gskip rfl (vp (.bool false) rfl (vp (.bool false) rfl (nx _ rfl (a_ret ?_))))))
    refine ⟨.inr rfl, ?_⟩
    rw [Try.results61]
    cases h
    exact ⟨_, _, _, _, _, rfl, trivial, .inl ⟨rfl, .inl rfl⟩, rfl, rfl⟩
  · have h := ite_t hb6 h
    refine gp (eSi64 r2) rfl rfl ?_
    obtain ⟨r7, hr8, h⟩ := bind_some h
    refine a_gcall rfl (args := [(eSi64 r2)]) (u := []) (r := (i6 r7)) rfl rfl (impl_row_degree_ok r2 r7 hr8) rfl ?_
    obtain ⟨r9, hr10, h⟩ := bind_some h
    refine a_gcall rfl (args := [(i6 r7), (i6 1), (i6 5)]) (u := []) (r := (.bool r9)) rfl rfl (impl_within_ok r7 1 5 r9 hr10) rfl (vp (.bool r9) rfl (vp (.bool r9) rfl (nx _ rfl (a_ret ?_))))
    refine ⟨.inr rfl, ?_⟩
    rw [Try.results61]
    cases h
    exact ⟨_, _, _, _, _, rfl, trivial, .inl ⟨rfl, .inl rfl⟩, rfl, rfl⟩
def impl_modulusCode_of_sl_c : ACode := (.seq (.region 0 [q 4 (.box 26 (t 1)), q 6 (.asg 0 (.const (.int .i64 0)) 2)] false) (.seq (.seq (.region 1 [q 8 (.mov (t 0)), q 9 (.mov (t 2)), q 10 (.load 26 (t 4)), q 11 (.bslice 0 62 1 [(0, (t 10))]), q 12 (.blt 0 .append [(t 9), (t 11)] [62, 62]), q 13 (.call 0 (.func 60) [(t 8), (t 12)]), q 7 (.asg 0 (t 13) 2)] false) (.seq (.region 2 [q 14 (.mov (t 7)), q 15 (.bin .neq 2 (t 14) (.const (.int .i64 0)))] false) (.cond (t 15) (.seq (.region 3 [q 16 (.mov (t 7)), q 6 (.asg 0 (t 16) 2)] false) .ret) .skip))) (.seq (.seq (.region 4 [q 17 (.load 26 (t 4)), q 18 (.call 0 (.func 61) [(t 17)]), q 19 (.un .not (t 18))] false) (.cond (t 19) (.seq (.region 5 [q 6 (.asg 0 (.const (.int .i64 2)) 2)] false) .ret) .skip)) (.seq (.region 6 [q 6 (.asg 0 (.const (.int .i64 0)) 2)] false) .ret))))
def impl_modulusCode_of_sl_L : Live := [(0, [0, 1, 2]), (1, [0, 2, 4]), (2, [4, 7]), (3, [7]), (4, [4]), (5, []), (6, []), (100015, [4, 7, 15]), (100019, [19])]
noncomputable def impl_modulusCode_of_sl (a0 : Int) (a1 : (Vec Int 64)) (a2 : (List (Vec Int 64))) : Option Int :=
  (ifp ((a2.length + ([a1] : List (Vec Int 64)).length) * 64 ≤ 140737488355328) ((Option.bind (impl_polysCode a0 ((a2 ++ ([a1])))) fun r3 => (if (r3 != 0) then (some r3) else (Option.bind (impl_isModulus a1) fun r7 => (if (!r7) then (some 2) else (some 0)))))))
theorem impl_modulusCode_of_sl_ok (a0 : Int) (a1 : (Vec Int 64)) (a2 : (List (Vec Int 64))) (r : Int) (h : impl_modulusCode_of_sl a0 a1 a2 = some r) : Den Try.prog 26 [(i6 a0), (eA64u8 a1), (.sl 64 true (a2.map eA64u8))] { r := (i6 r) } := by
  refine den_of (rs := [(i6 r)]) (ac := impl_modulusCode_of_sl_c) (L := impl_modulusCode_of_sl_L) (n := 20) (m := []) (c := Try.f26.body.getD .skip) good Try.func26 (by kernel_rfl) (by kernel_rfl) Try.ntmps26 rfl rfl (by kernel_rfl) rfl rfl ?_
  refine a_st (σ' := ⟨[(0, (i6 a0)), (1, (eA64u8 a1)), (2, (.sl 64 true (a2.map eA64u8)))], []⟩) (by kernel_rfl) ?_
  unfold impl_modulusCode_of_sl_c
  refine sr (vo 1400 (eA64u8 a1) rfl rfl (vp (i6 0) rfl (nx ⟨[(0, (i6 a0)), (2, (.sl 64 true (a2.map eA64u8))), (4, (ow 4))], [(4, (bk (eA64u8 a1)))]⟩ (by kernel_rfl) (a_seq (sr (vp (i6 a0) rfl (vp (.sl 64 true (a2.map eA64u8)) rfl (vl (eA64u8 a1) rfl rfl rfl rfl rfl rfl (vq (.sl 64 true (([a1]).map eA64u8)) rfl ⟨(Nat.le_of_ble_eq_true rfl), (Nat.le_of_ble_eq_true rfl), (all_cons ⟨(Nat.le_of_ble_eq_true rfl), rfl⟩ all_nil)⟩ ?_)))))))))
  obtain ⟨hc2, h⟩ := ifp_some h
  refine vu (.osl 2200) [(2200, (bk (.row 64 (((a2 ++ ([a1]))).map eA64u8))))] (appt_run (i := ⟨.arr 64 5, 64, 64, (eA64u8 (vrep 64 (0 : Int)))⟩) (f := eA64u8) (l := a2) (l2 := [a1]) rfl rfl rfl rfl (fun _ => rfl) rfl) (appt_c (f := eA64u8) (s := 64) (sz := 64) (sz' := 64) (by' := 64) hc2 (.inr (by simp)) (.inr rfl) (.inr rfl) rfl rfl) rfl ?_
  obtain ⟨r3, hr4, h⟩ := bind_some h
  refine a_call (args := [(i6 a0), (eSA64u8 ((a2 ++ ([a1]))))]) (u := [(2200, (bf (.row 64 (((a2 ++ ([a1]))).map eA64u8))))]) (r := (i6 r3)) rfl rfl (impl_polysCode_ok a0 ((a2 ++ ([a1]))) r3 hr4) rfl (vp (i6 r3) rfl (nx ⟨[(4, (ow 4)), (7, (i6 r3))], [(4, (bk (eA64u8 a1)))]⟩ (by kernel_rfl) (sr (vp (i6 r3) rfl (vp (.bool (r3 != 0)) rfl (nx ⟨[(4, (ow 4)), (7, (i6 r3)), (15, (.bool (r3 != 0)))], [(4, (bk (eA64u8 a1)))]⟩ (by kernel_rfl) ?_))))))
  cases hb5 : (r3 != 0)
  · have h := ite_f hb5 h
    refine a_cond_f rfl (a_skip (a_next (σ' := ⟨[(4, (ow 4))], [(4, (bk (eA64u8 a1)))]⟩) (by kernel_rfl) (a_seq (sr (vl (eA64u8 a1) rfl rfl rfl rfl rfl rfl ?_)))))
    obtain ⟨r7, hr8, h⟩ := bind_some h
    refine a_call (args := [(eA64u8 a1)]) (u := []) (r := (.bool r7)) rfl rfl (impl_isModulus_ok a1 r7 hr8) rfl (vp (.bool (!r7)) rfl (nx ⟨[(19, (.bool (!r7)))], []⟩ (by kernel_rfl) ?_))
    cases hb9 : (!r7)
    · have h := ite_f hb9 h
      refine a_cond_f rfl (a_skip (a_next (σ' := ⟨[], []⟩) (by kernel_rfl) (sr (vp (i6 0) rfl (nx _ rfl (a_ret ?_))))))
      refine ⟨.inr rfl, ?_⟩
      rw [Try.results26]
      cases h
      exact ⟨_, _, _, _, _, rfl, trivial, .inl ⟨rfl, .inl rfl⟩, rfl, rfl⟩
    · have h := ite_t hb9 h
      refine a_cond_t rfl (sr (vp (i6 2) rfl (nx _ rfl (a_ret (t_ret ?_)))))
      refine ⟨.inr rfl, ?_⟩
      rw [Try.results26]
      cases h
      exact ⟨_, _, _, _, _, rfl, trivial, .inl ⟨rfl, .inl rfl⟩, rfl, rfl⟩
  · have h := ite_t hb5 h
    refine a_cond_t rfl (sr (vp (i6 r3) rfl (vp (i6 r3) rfl (nx _ rfl (a_ret (t_ret ?_))))))
    refine ⟨.inr rfl, ?_⟩
    rw [Try.results26]
    cases h
    exact ⟨_, _, _, _, _, rfl, trivial, .inl ⟨rfl, .inl rfl⟩, rfl, rfl⟩
def impl_prime_norm_c : ACode := (.seq (.region 0 [q 6 (.asg 0 (.const (.int .i64 0)) 2)] false) (.seq (.region 1 [q 7 (.asg 0 (.const (.int .i64 1)) 2)] false) (.seq (.seq (.region 2 [q 8 (.mov (t 1)), q 9 (.mov (.const (.int .i64 0)))] false) (.block 0 (.loop (.seq (.region 3 [q 10 (.bin .lss 2 (t 9) (t 8))] false) (.seq (.cond (t 10) .skip (.exit 0)) (.seq (.block 1 (.seq (.seq (.region 4 [q 11 (.mov (t 7)), q 12 (.mov (t 2)), q 13 (.bin .gtr 2 (t 11) (t 12))] false) (.cond (t 13) (.exit 0) .skip)) (.region 5 [q 14 (.mov (t 7)), q 15 (.mov (t 0)), q 16 (.bin .mul 2 (t 14) (t 15)), q 7 (.asg 0 (t 16) 2)] false))) (.region 6 [q 17 (.bin .add 2 (t 9) (.const (.int .i64 1))), q 9 (.mov (t 17))] false))))))) (.seq (.region 7 [q 18 (.mov (t 7)), q 6 (.asg 0 (t 18) 2)] false) .ret))))
def impl_prime_norm_L : Live := [(0, [0, 1, 2]), (1, [0, 1, 2]), (2, [0, 1, 2, 7]), (3, [0, 2, 7, 8, 9]), (4, [0, 2, 7, 8, 9]), (5, [0, 2, 7, 8, 9]), (6, [0, 2, 7, 8, 9]), (7, [7]), (100010, [0, 2, 7, 8, 9, 10]), (100013, [0, 2, 7, 8, 9, 13])]
noncomputable def impl_prime_norm_l1 (a1 : Int) (a2 : Int) (a0 : Int) (x19 : Int) (x20 : Int) : Option ((Int × Int) ⊕ Int) :=
  (if (decide (x20 < a1)) then (if (decide (x19 > a2)) then (some (.inr x19)) else (some (.inl ((IntKind.i64.wrap (x19 * a0), IntKind.i64.wrap (x20 + 1)))))) else (some (.inr x19)))
noncomputable def impl_prime_norm (a0 : Int) (a1 : Int) (a2 : Int) : Option Int :=
  (Option.bind (α := Int) ((loopM (fun s : (Int × Int) => impl_prime_norm_l1 a1 a2 a0 s.1 s.2) (1, 0))) fun x13 => (some x13))
theorem impl_prime_norm_ok (a0 : Int) (a1 : Int) (a2 : Int) (r : Int) (h : impl_prime_norm a0 a1 a2 = some r) : Den Try.prog 32 [(i6 a0), (i6 a1), (i6 a2)] { r := (i6 r) } := by
  refine den_of (rs := [(i6 r)]) (ac := impl_prime_norm_c) (L := impl_prime_norm_L) (n := 19) (m := []) (c := Try.f32.body.getD .skip) good Try.func32 (by kernel_rfl) (by kernel_rfl) Try.ntmps32 rfl rfl (by kernel_rfl) rfl rfl ?_
  refine a_st (σ' := ⟨[(0, (i6 a0)), (1, (i6 a1)), (2, (i6 a2))], []⟩) (by kernel_rfl) ?_
  unfold impl_prime_norm_c
  refine sr (vp (i6 0) rfl (nx ⟨[(0, (i6 a0)), (1, (i6 a1)), (2, (i6 a2))], []⟩ (by kernel_rfl) (sr (vp (i6 1) rfl (nx ⟨[(0, (i6 a0)), (1, (i6 a1)), (2, (i6 a2)), (7, (i6 1))], []⟩ (by kernel_rfl) ?_)))))
  obtain ⟨y14, hy15, hk16⟩ := bind_some h
  clear h
  refine a_join (emb := fun (s : Int) => ⟨[(7, (i6 s))], []⟩) (pre := fun s => s = y14) ?_ ?_
  · rintro x13 rfl
    have h := hk16
    refine a_st (σ' := ⟨[(7, (i6 x13))], []⟩) (by kernel_rfl) (sr (vp (i6 x13) rfl (vp (i6 x13) rfl (nx _ rfl (a_ret ?_)))))
    refine ⟨.inr rfl, ?_⟩
    rw [Try.results32]
    cases h
    exact ⟨_, _, _, _, _, rfl, trivial, .inl ⟨rfl, .inl rfl⟩, rfl, rfl⟩
  · have h := hy15
    refine sr (vp (i6 a1) rfl (vp (i6 0) rfl (nx ⟨[(0, (i6 a0)), (2, (i6 a2)), (7, (i6 1)), (8, (i6 a1)), (9, (i6 0))], []⟩ (by kernel_rfl) (a_block ?_))))
    refine a_loop (emb := fun (s : (Int × Int)) => ⟨[(0, (i6 a0)), (2, (i6 a2)), (7, (i6 s.1)), (8, (i6 a1)), (9, (i6 s.2))], []⟩) (body := (fun s : (Int × Int) => impl_prime_norm_l1 a1 a2 a0 s.1 s.2)) (G := fun q => some q = some y14) h rfl ?_ (by kernel_rfl)
    rintro X23 ⟨x19, x20⟩ x24 h hX25
    have h : impl_prime_norm_l1 a1 a2 a0 x19 x20 = some x24 := h
    refine a_st (σ' := ⟨[(0, (i6 a0)), (2, (i6 a2)), (7, (i6 x19)), (8, (i6 a1)), (9, (i6 x20))], []⟩) (by kernel_rfl) (sr (vp (.bool ((decide (x20 < a1)))) rfl (nx ⟨[(0, (i6 a0)), (2, (i6 a2)), (7, (i6 x19)), (8, (i6 a1)), (9, (i6 x20)), (10, (.bool ((decide (x20 < a1)))))], []⟩ (by kernel_rfl) (a_seq ?_))))
    cases hb26 : (decide (x20 < a1))
    · have h := ite_f hb26 h
      refine a_cond_f rfl (a_exit (t_exit ?_))
      cases h
      have h := hX25
      refine t_exit (b_exit ?_)
      exact j_leaf x19 (Option.some.inj h) (by kernel_rfl)
    · have h := ite_t hb26 h
      refine a_cond_t rfl (a_skip (a_next (σ' := ⟨[(0, (i6 a0)), (2, (i6 a2)), (7, (i6 x19)), (8, (i6 a1)), (9, (i6 x20))], []⟩) (by kernel_rfl) (a_seq (a_block (a_seq (sr (vp (i6 x19) rfl (vp (i6 a2) rfl (vp (.bool ((decide (x19 > a2)))) rfl ?_)))))))))
      refine nx ⟨[(0, (i6 a0)), (2, (i6 a2)), (7, (i6 x19)), (8, (i6 a1)), (9, (i6 x20)), (13, (.bool ((decide (x19 > a2)))))], []⟩ (by kernel_rfl) ?_
      cases hb27 : (decide (x19 > a2))
      · have h := ite_f hb27 h
        refine a_cond_f rfl (a_skip (a_next (σ' := ⟨[(0, (i6 a0)), (2, (i6 a2)), (7, (i6 x19)), (8, (i6 a1)), (9, (i6 x20))], []⟩) (by kernel_rfl) (a_region (vp (i6 x19) rfl (vp (i6 a0) rfl (vp (i6 (IntKind.i64.wrap (x19 * a0))) rfl (vp (i6 (IntKind.i64.wrap (x19 * a0))) rfl (a_nil (b_norm ?_)))))))))
        refine a_next (σ' := ⟨[(0, (i6 a0)), (2, (i6 a2)), (7, (i6 (IntKind.i64.wrap (x19 * a0)))), (8, (i6 a1)), (9, (i6 x20))], []⟩) (by kernel_rfl) (a_region (vp (i6 (IntKind.i64.wrap (x20 + 1))) rfl (vp (i6 (IntKind.i64.wrap (x20 + 1))) rfl (a_nil ?_))))
        cases h
        exact a_again (by kernel_rfl) hX25
      · have h := ite_t hb27 h
        refine a_cond_t rfl (a_exit (t_exit (b_other rfl (t_exit ?_))))
        cases h
        have h := hX25
        refine t_exit (b_exit ?_)
        exact j_leaf x19 (Option.some.inj h) (by kernel_rfl)
def impl_prime_numbered_c : ACode := (.seq (.region 0 [q 4 (.asg 1 (.const (.slice none 0 0)) 42)] false) (.seq (.region 1 [q 5 (.asg 2 (.const (.slice none 0 0)) 42)] false) (.seq (.block 0 (.loop (.seq (.seq (.region 2 [q 6 (.mov (t 1)), q 7 (.bin .gtr 2 (t 6) (.const (.int .i64 0)))] false) (.cond (t 7) .skip (.exit 0))) (.seq (.block 1 (.region 4 [q 11 (.mov (t 5)), q 12 (.mov (t 1)), q 13 (.mov (t 0)), q 14 (.bin .rem 2 (t 12) (t 13)), q 15 (.bslice 0 42 1 [(0, (t 14))]), q 16 (.blt 0 .append [(t 11), (t 15)] [42, 42]), q 5 (.asg 2 (t 16) 42)] false)) (.region 3 [q 8 (.mov (t 1)), q 9 (.mov (t 0)), q 10 (.bin .quo 2 (t 8) (t 9)), q 1 (.asg 0 (t 10) 2)] false))))) (.seq (.region 5 [q 17 (.mov (t 5)), q 4 (.asg 1 (t 17) 42)] false) .ret))))
def impl_prime_numbered_L : Live := [(0, [0, 1]), (1, [0, 1]), (2, [0, 1, 5]), (3, [0, 1, 5]), (4, [0, 1, 5]), (5, [5]), (100007, [0, 1, 5, 7])]
noncomputable def impl_prime_numbered_l1 (a0 : Int) (x27 : Int) (x28 : (List Int)) : Option ((Int × (List Int)) ⊕ (List Int)) :=
  (if (decide (x27 > 0)) then (ifp (a0 ≠ 0) ((ifp ((x28.length + ([Int.tmod x27 a0] : List Int).length) * 8 ≤ 140737488355328) ((ifp (a0 ≠ 0) ((some (.inl ((IntKind.i64.wrap (Int.tdiv x27 a0), (x28 ++ ([Int.tmod x27 a0])))))))))))) else (some (.inr x28)))
noncomputable def impl_prime_numbered (a0 : Int) (a1 : Int) : Option (List Int) :=
  (Option.bind (α := (List Int)) ((loopM (fun s : (Int × (List Int)) => impl_prime_numbered_l1 a0 s.1 s.2) (a1, []))) fun x19 => (some x19))
theorem impl_prime_numbered_ok (a0 : Int) (a1 : Int) (r : (List Int)) (h : impl_prime_numbered a0 a1 = some r) : Den Try.prog 31 [(i6 a0), (i6 a1)] { r := (eSi64 r) } := by
  refine den_of (rs := [(eSi64 r)]) (ac := impl_prime_numbered_c) (L := impl_prime_numbered_L) (n := 18) (m := [(4, 1), (5, 2)]) (c := Try.f31.body.getD .skip) good Try.func31 (by kernel_rfl) (by kernel_rfl) Try.ntmps31 rfl rfl (by kernel_rfl) rfl rfl ?_
  refine a_st (σ' := ⟨[(0, (i6 a0)), (1, (i6 a1))], []⟩) (by kernel_rfl) ?_
  unfold impl_prime_numbered_c
  refine sr (vp (eSi64 ([])) rfl (nx ⟨[(0, (i6 a0)), (1, (i6 a1))], []⟩ (by kernel_rfl) (sr (vu (.osl 1500) [(1500, (bk (.row 1 (([]).map (AV.int .i64)))))] rfl trivial rfl (nx ⟨[(0, (i6 a0)), (1, (i6 a1)), (5, (.osl 5))], [(5, (bk (.row 1 (([]).map (AV.int .i64)))))]⟩ (by kernel_rfl) ?_)))))
  obtain ⟨y20, hy21, hk22⟩ := bind_some h
  clear h
  refine a_join (emb := fun (s : (List Int)) => ⟨[(5, (.osl 5))], [(5, (bk (.row 1 (s.map (AV.int .i64)))))]⟩) (pre := fun s => s = y20) ?_ ?_
  · rintro x19 rfl
    have h := hk22
    refine a_st (σ' := ⟨[(5, (.osl 5))], [(5, (bk (.row 1 (x19.map (AV.int .i64)))))]⟩) (by kernel_rfl) (sr (vp (.osl 5) rfl (vu (eSi64 x19) [(5, (bf (.row 1 (x19.map (AV.int .i64)))))] rfl trivial rfl (nx _ rfl (a_ret ?_)))))
    refine ⟨.inr rfl, ?_⟩
    rw [Try.results31]
    cases h
    exact ⟨_, _, _, _, _, rfl, trivial, .inl ⟨rfl, .inl rfl⟩, rfl, rfl⟩
  · have h := hy21
    refine a_block ?_
    refine a_loop (emb := fun (s : (Int × (List Int))) => ⟨[(0, (i6 a0)), (1, (i6 s.1)), (5, (.osl 5))], [(5, (bk (.row 1 (s.2.map (AV.int .i64)))))]⟩) (body := (fun s : (Int × (List Int)) => impl_prime_numbered_l1 a0 s.1 s.2)) (G := fun q => some q = some y20) h rfl ?_ (by kernel_rfl)
    rintro X33 ⟨x27, x28⟩ x34 h hX35
    have h : impl_prime_numbered_l1 a0 x27 x28 = some x34 := h
    refine a_st (σ' := ⟨[(0, (i6 a0)), (1, (i6 x27)), (5, (.osl 5))], [(5, (bk (.row 1 (x28.map (AV.int .i64)))))]⟩) (by kernel_rfl) (a_seq (sr (vp (i6 x27) rfl (vp (.bool ((decide (x27 > 0)))) rfl (nx ⟨[(0, (i6 a0)), (1, (i6 x27)), (5, (.osl 5)), (7, (.bool ((decide (x27 > 0)))))], [(5, (bk (.row 1 (x28.map (AV.int .i64)))))]⟩ (by kernel_rfl) ?_)))))
    cases hb36 : (decide (x27 > 0))
    · have h := ite_f hb36 h
      refine a_cond_f rfl (a_exit (t_exit ?_))
      cases h
      have h := hX35
      refine t_exit (b_exit ?_)
      exact j_leaf x28 (Option.some.inj h) (by kernel_rfl)
    · have h := ite_t hb36 h
      refine a_cond_t rfl (a_skip (a_next (σ' := ⟨[(0, (i6 a0)), (1, (i6 x27)), (5, (.osl 5))], [(5, (bk (.row 1 (x28.map (AV.int .i64)))))]⟩) (by kernel_rfl) (a_seq (a_block (a_region (vp (.osl 5) rfl (vp (i6 x27) rfl (vp (i6 a0) rfl ?_))))))))
      obtain ⟨hc37, h⟩ := ifp_some h
      refine vq (i6 (Int.tmod x27 a0)) rfl hc37 (vq (.sl 1 true (([Int.tmod x27 a0]).map (AV.int .i64))) rfl ⟨(Nat.le_of_ble_eq_true rfl), (Nat.le_of_ble_eq_true rfl), (all_cons ⟨(Nat.le_of_ble_eq_true rfl), rfl⟩ all_nil)⟩ ?_)
      obtain ⟨hc38, h⟩ := ifp_some h
      refine vu (.osl 2600) [(2600, (bk (.row 1 (((x28 ++ ([Int.tmod x27 a0]))).map (AV.int .i64))))), (5, none)] (app_run (i := ⟨.int .i64, 1, 8, (.int .i64 0)⟩) (f := (AV.int .i64)) (l := x28) (l2 := [Int.tmod x27 a0]) rfl rfl rfl rfl (fun _ => rfl) rfl rfl) (app_c (f := (AV.int .i64)) (s := 1) (sz := 1) (by' := 8) (u := []) (id := 5) hc38 (.inr rfl) rfl rfl rfl) rfl (vp (.osl 2600) rfl (a_nil (b_norm (a_next (σ' := ⟨[(0, (i6 a0)), (1, (i6 x27)), (5, (.osl 5))], [(5, (bk (.row 1 (((x28 ++ ([Int.tmod x27 a0]))).map (AV.int .i64)))))]⟩) (by kernel_rfl) (a_region (vp (i6 x27) rfl (vp (i6 a0) rfl ?_)))))))
      obtain ⟨hc39, h⟩ := ifp_some h
      refine vq (i6 (IntKind.i64.wrap (Int.tdiv x27 a0))) rfl hc39 (vp (i6 (IntKind.i64.wrap (Int.tdiv x27 a0))) rfl (a_nil ?_))
      cases h
      exact a_again (by kernel_rfl) hX35
def slices_Clone_impl_row_int64_fresh_c : ACode := (.seq (.region 0 [q 2 (.asg 2 (.const (.slice none 0 0)) 42)] false) (.seq (.seq (.region 1 [q 3 (.mov (t 0)), q 4 (.bin .eql 42 (t 3) (.const (.slice none 0 0)))] false) (.cond (t 4) (.seq (.region 2 [q 2 (.asg 2 (.const (.slice none 0 0)) 42)] false) .ret) .skip)) (.seq (.region 3 [q 5 (.bslice 0 42 0 []), q 6 (.mov (t 0)), q 7 (.blt 0 .append [(t 5), (t 6)] [42, 42]), q 2 (.asg 2 (t 7) 42)] false) .ret)))
def slices_Clone_impl_row_int64_fresh_L : Live := [(0, [0]), (1, [0]), (2, []), (3, [0]), (100004, [0, 4])]
noncomputable def slices_Clone_impl_row_int64_fresh (a0 : (List Int)) : Option (List Int) :=
  (ifc (a0 = [] → ((some ([]))) = ((ifp ((([] : List Int).length + a0.length) * 8 ≤ 140737488355328) ((some ((([] : List Int) ++ a0))))))) ((ifp ((([] : List Int).length + a0.length) * 8 ≤ 140737488355328) ((some ((([] : List Int) ++ a0)))))))
theorem slices_Clone_impl_row_int64_fresh_ok (a0 : (List Int)) (r : (List Int)) (h : slices_Clone_impl_row_int64_fresh a0 = some r) : Den Try.prog 97 [(eSi64 a0)] { r := (.osl 2000000), ms := [], fs := [(1, r.map (AV.int .i64))] } := by
  refine den_ofX (rs := [(.osl 2000000)]) (ac := slices_Clone_impl_row_int64_fresh_c) (L := slices_Clone_impl_row_int64_fresh_L) (n := 8) (m := [(2, 2)]) (c := Try.f97.body.getD .skip) good Try.func97 (by kernel_rfl) (by kernel_rfl) Try.ntmps97 rfl rfl (by kernel_rfl) rfl ?_
  refine a_st (σ' := ⟨[(0, (eSi64 a0))], []⟩) (by kernel_rfl) ?_
  unfold slices_Clone_impl_row_int64_fresh_c
  refine sr (vu (.osl 1200) [(1200, (bk (.row 1 (([]).map (AV.int .i64)))))] rfl trivial rfl (nx ⟨[(0, (eSi64 a0))], []⟩ (by kernel_rfl) (a_seq (sr (vp (eSi64 a0) rfl ?_)))))
  obtain ⟨hq2, h⟩ := ifc_some h
  refine a_split (v := .bool true) (v' := .bool false) rfl rfl (fun hn3 => ?_) ?_
  · have h := (hq2 (List.map_eq_nil_iff.1 hn3)).trans h
    refine nx ⟨[(0, (eSi64 a0)), (4, (.bool true))], []⟩ (by kernel_rfl) (a_cond_t rfl (sr (vu (.osl 1200) [(1200, (bk (.row 1 (([]).map (AV.int .i64)))))] rfl trivial rfl (nx _ rfl (a_ret (t_ret ?_))))))
    refine ⟨.inr rfl, ?_⟩
    rw [Try.results97]
    cases h
    exact ⟨[some 1200], ⟨_, _, _, _, _, rfl, trivial, rfl, .inr (.inl ⟨_, _, _, _, _, rfl, rfl, rfl, rfl, rfl, rfl, ⟨rfl, rfl, rfl⟩⟩)⟩, rfl, rfl⟩
  · skip
    refine nx ⟨[(0, (eSi64 a0)), (4, (.bool false))], []⟩ (by kernel_rfl) (a_cond_f rfl (a_skip (a_next (σ' := ⟨[(0, (eSi64 a0))], []⟩) (by kernel_rfl) (sr (vq (.sl 1 true (([]).map (AV.int .i64))) rfl ⟨(Nat.le_of_ble_eq_true rfl), (Nat.le_of_ble_eq_true rfl), all_nil⟩ (vp (eSi64 a0) rfl ?_))))))
    obtain ⟨hc1, h⟩ := ifp_some h
    refine vu (.osl 1700) [(1700, (bk (.row 1 (((([] : List Int) ++ a0)).map (AV.int .i64)))))] (appt_run (i := ⟨.int .i64, 1, 8, (.int .i64 0)⟩) (f := (AV.int .i64)) (l := []) (l2 := a0) rfl rfl rfl rfl (fun _ => rfl) rfl) (appt_c (f := (AV.int .i64)) (s := 1) (sz := 1) (sz' := 1) (by' := 8) hc1 (.inl rfl) (.inl rfl) (.inr rfl) rfl rfl) rfl (vp (.osl 1700) rfl (nx _ rfl (a_ret ?_)))
    refine ⟨.inr rfl, ?_⟩
    rw [Try.results97]
    cases h
    exact ⟨[some 1700], ⟨_, _, _, _, _, rfl, trivial, rfl, .inr (.inl ⟨_, _, _, _, _, rfl, rfl, rfl, rfl, rfl, rfl, ⟨rfl, rfl, rfl⟩⟩)⟩, rfl, rfl⟩
def impl_prime_inverse_c : ACode := (.seq (.region 0 [q 4 (.asg 0 (.const (.int .i64 0)) 2)] false) (.seq (.region 1 [q 5 (.asg 0 (.const (.int .i64 1)) 2)] false) (.seq (.seq (.region 2 [q 6 (.mov (t 0)), q 7 (.bin .sub 2 (t 6) (.const (.int .i64 2))), q 8 (.mov (.const (.int .i64 0)))] false) (.block 0 (.loop (.seq (.region 3 [q 9 (.bin .lss 2 (t 8) (t 7))] false) (.seq (.cond (t 9) .skip (.exit 0)) (.seq (.block 1 (.region 4 [q 10 (.mov (t 5)), q 11 (.mov (t 1)), q 12 (.bin .mul 2 (t 10) (t 11)), q 13 (.mov (t 0)), q 14 (.bin .rem 2 (t 12) (t 13)), q 5 (.asg 0 (t 14) 2)] false)) (.region 5 [q 15 (.bin .add 2 (t 8) (.const (.int .i64 1))), q 8 (.mov (t 15))] false))))))) (.seq (.region 6 [q 16 (.mov (t 5)), q 4 (.asg 0 (t 16) 2)] false) .ret))))
def impl_prime_inverse_L : Live := [(0, [0, 1]), (1, [0, 1]), (2, [0, 1, 5]), (3, [0, 1, 5, 7, 8]), (4, [0, 1, 5, 7, 8]), (5, [0, 1, 5, 7, 8]), (6, [5]), (100009, [0, 1, 5, 7, 8, 9])]
noncomputable def impl_prime_inverse_l1 (a0 : Int) (a1 : Int) (x19 : Int) (x20 : Int) : Option ((Int × Int) ⊕ Int) :=
  (if (decide (x20 < (IntKind.i64.wrap (a0 - 2)))) then (ifp (a0 ≠ 0) ((some (.inl ((Int.tmod (IntKind.i64.wrap (x19 * a1)) a0, IntKind.i64.wrap (x20 + 1))))))) else (some (.inr x19)))
noncomputable def impl_prime_inverse (a0 : Int) (a1 : Int) : Option Int :=
  (Option.bind (α := Int) ((loopM (fun s : (Int × Int) => impl_prime_inverse_l1 a0 a1 s.1 s.2) (1, 0))) fun x13 => (some x13))
theorem impl_prime_inverse_ok (a0 : Int) (a1 : Int) (r : Int) (h : impl_prime_inverse a0 a1 = some r) : Den Try.prog 98 [(i6 a0), (i6 a1)] { r := (i6 r) } := by
  refine den_of (rs := [(i6 r)]) (ac := impl_prime_inverse_c) (L := impl_prime_inverse_L) (n := 17) (m := []) (c := Try.f98.body.getD .skip) good Try.func98 (by kernel_rfl) (by kernel_rfl) Try.ntmps98 rfl rfl (by kernel_rfl) rfl rfl ?_
  refine a_st (σ' := ⟨[(0, (i6 a0)), (1, (i6 a1))], []⟩) (by kernel_rfl) ?_
  unfold impl_prime_inverse_c
  refine sr (vp (i6 0) rfl (nx ⟨[(0, (i6 a0)), (1, (i6 a1))], []⟩ (by kernel_rfl) (sr (vp (i6 1) rfl (nx ⟨[(0, (i6 a0)), (1, (i6 a1)), (5, (i6 1))], []⟩ (by kernel_rfl) ?_)))))
  obtain ⟨y14, hy15, hk16⟩ := bind_some h
  clear h
  refine a_join (emb := fun (s : Int) => ⟨[(5, (i6 s))], []⟩) (pre := fun s => s = y14) ?_ ?_
  · rintro x13 rfl
    have h := hk16
    refine a_st (σ' := ⟨[(5, (i6 x13))], []⟩) (by kernel_rfl) (sr (vp (i6 x13) rfl (vp (i6 x13) rfl (nx _ rfl (a_ret ?_)))))
    refine ⟨.inr rfl, ?_⟩
    rw [Try.results98]
    cases h
    exact ⟨_, _, _, _, _, rfl, trivial, .inl ⟨rfl, .inl rfl⟩, rfl, rfl⟩
  · have h := hy15
    refine sr (vp (i6 a0) rfl (vp (i6 (IntKind.i64.wrap (a0 - 2))) rfl (vp (i6 0) rfl (nx ⟨[(0, (i6 a0)), (1, (i6 a1)), (5, (i6 1)), (7, (i6 (IntKind.i64.wrap (a0 - 2)))), (8, (i6 0))], []⟩ (by kernel_rfl) (a_block ?_)))))
    refine a_loop (emb := fun (s : (Int × Int)) => ⟨[(0, (i6 a0)), (1, (i6 a1)), (5, (i6 s.1)), (7, (i6 (IntKind.i64.wrap (a0 - 2)))), (8, (i6 s.2))], []⟩) (body := (fun s : (Int × Int) => impl_prime_inverse_l1 a0 a1 s.1 s.2)) (G := fun q => some q = some y14) h rfl ?_ (by kernel_rfl)
    rintro X23 ⟨x19, x20⟩ x24 h hX25
    have h : impl_prime_inverse_l1 a0 a1 x19 x20 = some x24 := h
    refine a_st (σ' := ⟨[(0, (i6 a0)), (1, (i6 a1)), (5, (i6 x19)), (7, (i6 (IntKind.i64.wrap (a0 - 2)))), (8, (i6 x20))], []⟩) (by kernel_rfl) (sr (vp (.bool ((decide (x20 < (IntKind.i64.wrap (a0 - 2)))))) rfl (nx ⟨[(0, (i6 a0)), (1, (i6 a1)), (5, (i6 x19)), (7, (i6 (IntKind.i64.wrap (a0 - 2)))), (8, (i6 x20)), (9, (.bool ((decide (x20 < (IntKind.i64.wrap (a0 - 2)))))))], []⟩ (by kernel_rfl) (a_seq ?_))))
    cases hb26 : (decide (x20 < (IntKind.i64.wrap (a0 - 2))))
    · have h := ite_f hb26 h
      refine a_cond_f rfl (a_exit (t_exit ?_))
      cases h
      have h := hX25
      refine t_exit (b_exit ?_)
      exact j_leaf x19 (Option.some.inj h) (by kernel_rfl)
    · have h := ite_t hb26 h
      refine a_cond_t rfl (a_skip (a_next (σ' := ⟨[(0, (i6 a0)), (1, (i6 a1)), (5, (i6 x19)), (7, (i6 (IntKind.i64.wrap (a0 - 2)))), (8, (i6 x20))], []⟩) (by kernel_rfl) (a_seq (a_block (a_region (vp (i6 x19) rfl (vp (i6 a1) rfl (vp (i6 (IntKind.i64.wrap (x19 * a1))) rfl (vp (i6 a0) rfl ?_)))))))))
      obtain ⟨hc27, h⟩ := ifp_some h
      refine vq (i6 (Int.tmod (IntKind.i64.wrap (x19 * a1)) a0)) rfl hc27 (vp (i6 (Int.tmod (IntKind.i64.wrap (x19 * a1)) a0)) rfl (a_nil (b_norm (a_next (σ' := ⟨[(0, (i6 a0)), (1, (i6 a1)), (5, (i6 (Int.tmod (IntKind.i64.wrap (x19 * a1)) a0))), (7, (i6 (IntKind.i64.wrap (a0 - 2)))), (8, (i6 x20))], []⟩) (by kernel_rfl) (a_region (vp (i6 (IntKind.i64.wrap (x20 + 1))) rfl (vp (i6 (IntKind.i64.wrap (x20 + 1))) rfl (a_nil ?_))))))))
      cases h
      exact a_again (by kernel_rfl) hX25
def impl_prime_reduce_c : ACode := (.seq (.region 0 [q 4 (.asg 0 (.const (.int .i64 0)) 2)] false) (.seq (.region 1 [q 5 (.mov (t 1)), q 6 (.mov (t 0)), q 7 (.bin .rem 2 (t 5) (t 6)), q 8 (.mov (t 0)), q 9 (.bin .add 2 (t 7) (t 8)), q 10 (.mov (t 0)), q 11 (.bin .rem 2 (t 9) (t 10)), q 4 (.asg 0 (t 11) 2)] false) .ret))
def impl_prime_reduce_L : Live := [(0, [0, 1]), (1, [0, 1])]
noncomputable def impl_prime_reduce (a0 : Int) (a1 : Int) : Option Int :=
  (ifp (a0 ≠ 0) ((ifp (a0 ≠ 0) ((some (Int.tmod (IntKind.i64.wrap ((Int.tmod a1 a0) + a0)) a0))))))
theorem impl_prime_reduce_ok (a0 : Int) (a1 : Int) (r : Int) (h : impl_prime_reduce a0 a1 = some r) : Den Try.prog 99 [(i6 a0), (i6 a1)] { r := (i6 r) } := by
  refine den_of (rs := [(i6 r)]) (ac := impl_prime_reduce_c) (L := impl_prime_reduce_L) (n := 12) (m := []) (c := Try.f99.body.getD .skip) good Try.func99 (by kernel_rfl) (by kernel_rfl) Try.ntmps99 rfl rfl (by kernel_rfl) rfl rfl ?_
  refine a_st (σ' := ⟨[(0, (i6 a0)), (1, (i6 a1))], []⟩) (by kernel_rfl) ?_
  unfold impl_prime_reduce_c
  refine sr (vp (i6 0) rfl (nx ⟨[(0, (i6 a0)), (1, (i6 a1))], []⟩ (by kernel_rfl) (sr (vp (i6 a1) rfl (vp (i6 a0) rfl ?_)))))
  obtain ⟨hc1, h⟩ := ifp_some h
  refine vq (i6 (Int.tmod a1 a0)) rfl hc1 (vp (i6 a0) rfl (vp (i6 (IntKind.i64.wrap ((Int.tmod a1 a0) + a0))) rfl (vp (i6 a0) rfl ?_)))
  obtain ⟨hc2, h⟩ := ifp_some h
  refine vq (i6 (Int.tmod (IntKind.i64.wrap ((Int.tmod a1 a0) + a0)) a0)) rfl hc2 (vp (i6 (Int.tmod (IntKind.i64.wrap ((Int.tmod a1 a0) + a0)) a0)) rfl (nx _ rfl (a_ret ?_)))
  refine ⟨.inr rfl, ?_⟩
  rw [Try.results99]
  cases h
  exact ⟨_, _, _, _, _, rfl, trivial, .inl ⟨rfl, .inl rfl⟩, rfl, rfl⟩
end Go.Proofs.Ytebfhlnfmkhmcaa
