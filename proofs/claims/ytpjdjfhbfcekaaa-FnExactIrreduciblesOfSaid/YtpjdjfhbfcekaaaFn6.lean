/- Functions of the program: plain Lean functions, and that the program computes them. Printed by gen.py. -/
import Derived.Test.YtpjdjfhbfcekaaaFnT
import Derived.Test.YtpjdjfhbfcekaaaFn2
import Derived.Test.YtpjdjfhbfcekaaaFn3
import Derived.Test.YtpjdjfhbfcekaaaFn5
namespace Go.Proofs.Ytpjdjfhbfcekaaa
open Go.Abs Go.Proofs
set_option linter.unusedSimpArgs false
set_option linter.unusedVariables false
set_option maxHeartbeats 16000000
attribute [local irreducible] Abs.acode Abs.aops Abs.aopsT Abs.thenK Abs.blockK

def impl_polys_c : ACode := (.seq (.region 0 [q 2 (.asg 1 (.const (.slice none 0 0)) 22)] false) (.seq (.region 1 [q 3 (.asg 2 (.const (.slice none 0 0)) 22)] false) (.seq (.seq (.region 2 [q 6 (.mov (t 0)), q 7 (.blt 0 .len [(t 6)] [36]), q 8 (.mov (.const (.int .i64 0)))] false) (.block 0 (.loop (.seq (.region 3 [q 9 (.bin .lss 3 (t 8) (t 7))] false) (.seq (.cond (t 9) .skip (.exit 0)) (.seq (.block 1 (.seq (.region 4 [q 10 (.indexAddr 36 (t 6) (t 8)), q 11 (.load 39 (t 10)), q 5 (.asg 1 (t 11) 39)] false) (.region 5 [q 12 (.mov (t 3)), q 13 (.mov (t 5)), q 14 (.call 0 (.func 33) [(t 13)]), q 15 (.bslice 0 22 1 [(0, (t 14))]), q 16 (.blt 0 .append [(t 12), (t 15)] [22, 22]), q 3 (.asg 2 (t 16) 22)] false))) (.region 6 [q 17 (.bin .add 3 (t 8) (.const (.int .i64 1))), q 8 (.mov (t 17))] false))))))) (.seq (.region 7 [q 18 (.mov (t 3)), q 2 (.asg 1 (t 18) 22)] false) .ret))))
def impl_polys_L : Live := [(0, [0]), (1, [0]), (2, [0, 3]), (3, [3, 6, 7, 8]), (4, [3, 6, 7, 8]), (5, [3, 5, 6, 7, 8]), (6, [3, 6, 7, 8]), (7, [3]), (100009, [3, 6, 7, 8, 9])]
noncomputable def impl_polys_l1 (a0 : (List (List Int))) (x35 : Int) (x36 : (List (Vec Int 64))) : Option ((Int × (List (Vec Int 64))) ⊕ (List (Vec Int 64))) :=
  (if (decide (x35 < (a0.length : Int))) then (ifp (0 ≤ x35 ∧ x35 < ((a0.length : Nat) : Int)) ((Option.bind (impl_row_poly (rd a0 x35.toNat)) fun r49 => (ifp ((x36.length + ([r49] : List (Vec Int 64)).length) * 64 ≤ 140737488355328) ((some (.inl ((IntKind.i64.wrap (x35 + 1), (x36 ++ ([r49]))))))))))) else (some (.inr x36)))
noncomputable def impl_polys (a0 : (List (List Int))) : Option (List (Vec Int 64)) :=
  (Option.bind (α := (List (Vec Int 64))) ((loopM (fun s : (Int × (List (Vec Int 64))) => impl_polys_l1 a0 s.1 s.2) (0, []))) fun x25 => (some x25))
theorem impl_polys_ok (a0 : (List (List Int))) (r : (List (Vec Int 64))) (h : impl_polys a0 = some r) : Den Try.prog 20 [(eSSi64 a0)] { r := (eSA64u8 r) } := by
  refine den_of (rs := [(eSA64u8 r)]) (ac := impl_polys_c) (L := impl_polys_L) (n := 19) (m := [(2, 1), (3, 2), (5, 1)]) (c := Try.f20.body.getD .skip) good Try.func20 (by kernel_rfl) (by kernel_rfl) Try.ntmps20 rfl rfl (by kernel_rfl) rfl rfl ?_
  refine a_st (σ' := ⟨[(0, (eSSi64 a0))], []⟩) (by kernel_rfl) ?_
  unfold impl_polys_c
  refine sr (vp (eSA64u8 ([])) rfl (nx ⟨[(0, (eSSi64 a0))], []⟩ (by kernel_rfl) (sr (vu (.osl 1300) [(1300, (bk (.row 64 (([]).map eA64u8))))] rfl trivial rfl (nx ⟨[(0, (eSSi64 a0)), (3, (.osl 3))], [(3, (bk (.row 64 (([]).map eA64u8))))]⟩ (by kernel_rfl) ?_)))))
  obtain ⟨y26, hy27, hk28⟩ := bind_some h
  clear h
  refine a_join (emb := fun (s : (List (Vec Int 64))) => ⟨[(3, (.osl 3))], [(3, (bk (.row 64 (s.map eA64u8))))]⟩) (pre := fun s => s = y26) ?_ ?_
  · rintro x25 rfl
    have h := hk28
    refine a_st (σ' := ⟨[(3, (.osl 3))], [(3, (bk (.row 64 (x25.map eA64u8))))]⟩) (by kernel_rfl) (sr (vp (.osl 3) rfl (vu (eSA64u8 x25) [(3, (bf (.row 64 (x25.map eA64u8))))] rfl trivial rfl (nx _ rfl (a_ret ?_)))))
    refine ⟨.inr rfl, ?_⟩
    rw [Try.results20]
    cases h
    exact ⟨_, _, _, _, _, rfl, trivial, .inl ⟨rfl, .inl rfl⟩, rfl, rfl⟩
  · have h := hy27
    refine sr (vp (eSSi64 a0) rfl (vq (i6 (a0.length : Int)) (len_run rfl rfl) trivial (vp (i6 0) rfl (nx ⟨[(3, (.osl 3)), (6, (eSSi64 a0)), (7, (i6 (a0.length : Int))), (8, (i6 0))], [(3, (bk (.row 64 (([]).map eA64u8))))]⟩ (by kernel_rfl) (a_block ?_)))))
    refine a_loop (emb := fun (s : (Int × (List (Vec Int 64)))) => ⟨[(3, (.osl 3)), (6, (eSSi64 a0)), (7, (i6 (a0.length : Int))), (8, (i6 s.1))], [(3, (bk (.row 64 (s.2.map eA64u8))))]⟩) (body := (fun s : (Int × (List (Vec Int 64))) => impl_polys_l1 a0 s.1 s.2)) (G := fun q => some q = some y26) h rfl ?_ (by kernel_rfl)
    rintro X43 ⟨x35, x36⟩ x44 h hX45
    have h : impl_polys_l1 a0 x35 x36 = some x44 := h
    refine a_st (σ' := ⟨[(3, (.osl 3)), (6, (eSSi64 a0)), (7, (i6 (a0.length : Int))), (8, (i6 x35))], [(3, (bk (.row 64 (x36.map eA64u8))))]⟩) (by kernel_rfl) (sr (vp (.bool ((decide (x35 < (a0.length : Int))))) rfl (nx ⟨[(3, (.osl 3)), (6, (eSSi64 a0)), (7, (i6 (a0.length : Int))), (8, (i6 x35)), (9, (.bool ((decide (x35 < (a0.length : Int))))))], [(3, (bk (.row 64 (x36.map eA64u8))))]⟩ (by kernel_rfl) (a_seq ?_))))
    cases hb46 : (decide (x35 < (a0.length : Int)))
    · have h := ite_f hb46 h
      refine a_cond_f rfl (a_exit (t_exit ?_))
      cases h
      have h := hX45
      refine t_exit (b_exit ?_)
      exact j_leaf x36 (Option.some.inj h) (by kernel_rfl)
    · have h := ite_t hb46 h
      refine a_cond_t rfl (a_skip (a_next (σ' := ⟨[(3, (.osl 3)), (6, (eSSi64 a0)), (7, (i6 (a0.length : Int))), (8, (i6 x35))], [(3, (bk (.row 64 (x36.map eA64u8))))]⟩) (by kernel_rfl) (a_seq (a_block (sr ?_)))))
      obtain ⟨hc47, h⟩ := ifp_some h
      refine vq (.ref (.row 1 (a0.map eSi64)) [x35.toNat] [x35.toNat * 1]) rfl (lmap hc47) ?_
      have hl48 : LdOk [x35.toNat] (.row 1 (a0.map eSi64)) [x35.toNat * 1] 1 false (eSi64 (rd a0 x35.toNat)) := (.row (llt hc47) rfl (.nil rfl rfl rfl))
      refine vq (eSi64 (rd a0 x35.toNat)) (ld_ref (i := ⟨.slice 2, 1, 24, (eSi64 [])⟩) rfl rfl hl48) hl48.c (vp (eSi64 (rd a0 x35.toNat)) rfl (nx ⟨[(3, (.osl 3)), (5, (eSi64 (rd a0 x35.toNat))), (6, (eSSi64 a0)), (7, (i6 (a0.length : Int))), (8, (i6 x35))], [(3, (bk (.row 64 (x36.map eA64u8))))]⟩ (by kernel_rfl) (a_region (vp (.osl 3) rfl (vp (eSi64 (rd a0 x35.toNat)) rfl ?_)))))
      obtain ⟨r49, hr50, h⟩ := bind_some h
      refine a_call (args := [(eSi64 (rd a0 x35.toNat))]) (u := []) (r := (eA64u8 r49)) rfl rfl (impl_row_poly_ok (rd a0 x35.toNat) r49 hr50) rfl (vq (.sl 64 true (([r49]).map eA64u8)) rfl ⟨(Nat.le_of_ble_eq_true rfl), (Nat.le_of_ble_eq_true rfl), (all_cons ⟨(Nat.le_of_ble_eq_true rfl), rfl⟩ all_nil)⟩ ?_)
      obtain ⟨hc51, h⟩ := ifp_some h
      refine vu (.osl 2600) [(2600, (bk (.row 64 (((x36 ++ ([r49]))).map eA64u8)))), (3, none)] (app_run (i := ⟨.arr 64 5, 64, 64, (eA64u8 (vrep 64 (0 : Int)))⟩) (f := eA64u8) (l := x36) (l2 := [r49]) rfl rfl rfl rfl (fun _ => rfl) rfl rfl) (app_c (f := eA64u8) (s := 64) (sz := 64) (by' := 64) (u := []) (id := 3) hc51 (.inr rfl) rfl rfl rfl) rfl (vp (.osl 2600) rfl (a_nil (b_norm (a_next (σ' := ⟨[(3, (.osl 3)), (6, (eSSi64 a0)), (7, (i6 (a0.length : Int))), (8, (i6 x35))], [(3, (bk (.row 64 (((x36 ++ ([r49]))).map eA64u8))))]⟩) (by kernel_rfl) (a_region (vp (i6 (IntKind.i64.wrap (x35 + 1))) rfl (vp (i6 (IntKind.i64.wrap (x35 + 1))) rfl (a_nil ?_))))))))
      cases h
      exact a_again (by kernel_rfl) hX45
def impl_IrreduciblesOf_c : ACode := (.seq (.region 0 [q 2 (.box 2 (t 0)), q 4 (.asg 1 (.const (.slice none 0 0)) 22), q 5 (.asg 0 (.const (.int .i64 0)) 2)] false) (.seq (.block 0 (.seq (.region 1 [q 8 (.load 2 (t 2)), q 9 (.call 0 (.func 14) [(t 8)]), q 10 (.un .not (t 9)), q 7 (.asg 0 (t 10) 4)] false) (.cond (t 7) (.seq (.region 2 [q 4 (.asg 1 (.const (.slice none 0 0)) 22), q 5 (.asg 0 (.const (.int .i64 1)) 2)] false) .ret) (.seq (.region 3 [q 12 (.mov (t 1)), q 13 (.bin .lss 2 (t 12) (.const (.int .i64 1))), q 14 (.mov (t 13)), ⟨some 15, .load 2 (t 2), some (14, false), []⟩, ⟨some 16, .mov (t 1), some (14, false), []⟩, ⟨some 17, .call 0 (.func 15) [(t 15), (t 16), (.const (.int .i64 343))], some (14, false), []⟩, ⟨some 18, .bin .gtr 2 (t 17) (.const (.int .i64 343)), some (14, false), []⟩, q 19 (.pick (t 14) (.const (.bool true)) (t 18)), q 11 (.asg 0 (t 19) 4)] false) (.cond (t 11) (.seq (.region 4 [q 4 (.asg 1 (.const (.slice none 0 0)) 22), q 5 (.asg 0 (.const (.int .i64 2)) 2)] false) .ret) .skip))))) (.seq (.region 5 [q 20 (.load 2 (t 2)), q 21 (.mov (t 1)), q 22 (.call 0 (.func 17) [(t 20), (t 21)]), q 23 (.mkfn 18 [] [(t 2)]), q 24 (.call 1 (.func 16) [(t 22), (t 23)]), q 6 (.asg 1 (t 24) 36)] false) (.seq (.region 6 [q 25 (.mov (t 6)), q 26 (.call 0 (.func 20) [(t 25)]), q 4 (.asg 1 (t 26) 22), q 5 (.asg 0 (.const (.int .i64 0)) 2)] false) .ret))))
def impl_IrreduciblesOf_L : Live := [(0, [0, 1]), (1, [1, 2]), (2, []), (3, [1, 2]), (4, []), (5, [1, 2]), (6, [6]), (100007, [1, 2, 7]), (100011, [1, 2, 11])]
noncomputable def impl_IrreduciblesOf (a0 : Int) (a1 : Int) : Option ((List (Vec Int 64)) × Int) :=
  (Option.bind (impl_isPrime a0) fun r2 => (if (!r2) then (some ([], 1)) else (Option.bind (α := Bool) ((if (decide (a1 < 1)) then (some true) else (Option.bind (impl_prime_norm a0 a1 343) fun r15 => (some ((decide (r15 > 343))))))) fun x9 => (if x9 then (some ([], 2)) else (Option.bind (impl_prime_monics_fresh a0 a1) fun r19 => (Option.bind (slices_DeleteFunc_impl_row_impl_row_of_giv_impl_IrreduciblesOf_c1_p r19 a0) fun r21 => (Option.bind (impl_polys r21) fun r23 => (some (r23, 0)))))))))
theorem impl_IrreduciblesOf_ok (a0 : Int) (a1 : Int) (r : ((List (Vec Int 64)) × Int)) (h : impl_IrreduciblesOf a0 a1 = some r) : Den Try.prog 5 [(i6 a0), (i6 a1)] { r := (.tuple [(eSA64u8 r.1), (i6 r.2)]) } := by
  refine den_of (rs := [(eSA64u8 r.1), (i6 r.2)]) (ac := impl_IrreduciblesOf_c) (L := impl_IrreduciblesOf_L) (n := 27) (m := [(4, 1), (6, 1), (24, 1)]) (c := Try.f5.body.getD .skip) good Try.func5 (by kernel_rfl) (by kernel_rfl) Try.ntmps5 rfl rfl (by kernel_rfl) rfl rfl ?_
  refine a_st (σ' := ⟨[(0, (i6 a0)), (1, (i6 a1))], []⟩) (by kernel_rfl) ?_
  unfold impl_IrreduciblesOf_c
  refine sr (vo 1200 (i6 a0) rfl rfl (vp (eSA64u8 ([])) rfl (vp (i6 0) rfl (nx ⟨[(1, (i6 a1)), (2, (ow 2))], [(2, (bk (i6 a0)))]⟩ (by kernel_rfl) (a_seq (a_block (sr (vl (i6 a0) rfl rfl rfl rfl rfl rfl ?_))))))))
  obtain ⟨r2, hr3, h⟩ := bind_some h
  refine a_call (args := [(i6 a0)]) (u := []) (r := (.bool r2)) rfl rfl (impl_isPrime_ok a0 r2 hr3) rfl (vp (.bool (!r2)) rfl (vp (.bool (!r2)) rfl (nx ⟨[(1, (i6 a1)), (2, (ow 2)), (7, (.bool (!r2)))], [(2, (bk (i6 a0)))]⟩ (by kernel_rfl) ?_)))
  cases hb4 : (!r2)
  · have h := ite_f hb4 h
    refine a_cond_f rfl ?_
    obtain ⟨y10, hy11, hk12⟩ := bind_some h
    clear h
    refine a_join (emb := fun (s : Bool) => ⟨[(1, (i6 a1)), (2, (ow 2)), (11, (.bool s))], [(2, (bk (i6 a0)))]⟩) (pre := fun s => s = y10) ?_ ?_
    · rintro x9 rfl
      have h := hk12
      refine a_st (σ' := ⟨[(1, (i6 a1)), (2, (ow 2)), (11, (.bool x9))], [(2, (bk (i6 a0)))]⟩) (by kernel_rfl) ?_
      cases hb17 : x9
      · have h := ite_f hb17 h
        refine a_cond_f rfl (a_skip (b_norm (a_next (σ' := ⟨[(1, (i6 a1)), (2, (ow 2))], [(2, (bk (i6 a0)))]⟩) (by kernel_rfl) (sr (vl (i6 a0) rfl rfl rfl rfl rfl rfl (vp (i6 a1) rfl ?_))))))
        obtain ⟨r19, hr20, h⟩ := bind_some h
        refine a_callF (args := [(i6 a0), (i6 a1)]) (u := []) (u2 := []) (r := (.osl 2000000)) (fs := [(1, r19.map eSi64)]) rfl rfl (impl_prime_monics_fresh_ok a0 a1 r19 hr20) rfl rfl rfl (.inl rfl) rfl (vu (.clo 18 [] [(.ref (i6 a0) [] [])]) [(2, (bf (i6 a0)))] rfl trivial rfl ?_)
        obtain ⟨r21, hr22, h⟩ := bind_some h
        refine a_callG (args := [(.mutsl 1 (r19.map eSi64)), (.clo 18 [] [(.ref (i6 a0) [] [])])]) (i := 0) (id := 3200) (r := (eSSi64 r21)) rfl rfl (slices_DeleteFunc_impl_row_impl_row_of_giv_impl_IrreduciblesOf_c1_p_ok r19 a0 r21 hr22) rfl (vp (eSSi64 r21) rfl (nx ⟨[(6, (eSSi64 r21))], []⟩ (by kernel_rfl) (sr (vp (eSSi64 r21) rfl ?_))))
        obtain ⟨r23, hr24, h⟩ := bind_some h
        refine a_call (args := [(eSSi64 r21)]) (u := []) (r := (eSA64u8 r23)) rfl rfl (impl_polys_ok r21 r23 hr24) rfl (vp (eSA64u8 r23) rfl (vp (i6 0) rfl (nx _ rfl (a_ret ?_))))
        refine ⟨.inr rfl, ?_⟩
        rw [Try.results5]
        cases h
        exact ⟨_, _, _, _, _, rfl, trivial, .inl ⟨rfl, .inl rfl⟩, rfl, ⟨_, _, _, _, _, rfl, trivial, .inl ⟨rfl, .inl rfl⟩, rfl, rfl⟩⟩
      · have h := ite_t hb17 h
        refine a_cond_t rfl (sr (vp (eSA64u8 ([])) rfl (vp (i6 2) rfl (nx _ rfl (a_ret (b_ret (t_ret ?_)))))))
        refine ⟨.inr rfl, ?_⟩
        rw [Try.results5]
        cases h
        exact ⟨_, _, _, _, _, rfl, trivial, .inl ⟨rfl, .inl rfl⟩, rfl, ⟨_, _, _, _, _, rfl, trivial, .inl ⟨rfl, .inl rfl⟩, rfl, rfl⟩⟩
    · have h := hy11
      refine a_region (vp (i6 a1) rfl (vp (.bool ((decide (a1 < 1)))) rfl (vp (.bool ((decide (a1 < 1)))) rfl ?_)))
      cases hb13 : (decide (a1 < 1))
      · have h := ite_f hb13 h
        have hl14 : LdOk [] (i6 a0) [] 1 false (i6 a0) := (.nil rfl rfl rfl)
        refine gq (i6 a0) rfl (ld_own (i := ⟨.int .i64, 1, 8, (.int .i64 0)⟩) rfl rfl rfl hl14) hl14.c (gp (i6 a1) rfl rfl ?_)
        obtain ⟨r15, hr16, h⟩ := bind_some h
        refine a_gcall rfl (args := [(i6 a0), (i6 a1), (i6 343)]) (u := []) (r := (i6 r15)) rfl rfl (impl_prime_norm_ok a0 a1 343 r15 hr16) rfl (gp (.bool ((decide (r15 > 343)))) rfl rfl (vp (.bool ((decide (r15 > 343)))) rfl (vp (.bool ((decide (r15 > 343)))) rfl (a_nil ?_))))
        exact j_leaf ((decide (r15 > 343))) (Option.some.inj h) (by kernel_rfl)
      · have h := ite_t hb13 h
        refine a_gskip rfl (a_gskip rfl (a_gskip rfl (a_gskip rfl (vp (.bool true) rfl (vp (.bool true) rfl (a_nil ?_))))))
        exact j_leaf true (Option.some.inj h) (by kernel_rfl)
  · have h := ite_t hb4 h
    refine a_cond_t rfl (sr (vp (eSA64u8 ([])) rfl (vp (i6 1) rfl (nx _ rfl (a_ret (b_ret (t_ret ?_)))))))
    refine ⟨.inr rfl, ?_⟩
    rw [Try.results5]
    cases h
    exact ⟨_, _, _, _, _, rfl, trivial, .inl ⟨rfl, .inl rfl⟩, rfl, ⟨_, _, _, _, _, rfl, trivial, .inl ⟨rfl, .inl rfl⟩, rfl, rfl⟩⟩
def laws_FnExactIrreduciblesOf_c : ACode := (.seq (.region 0 [q 4 (.asg 0 (.const (.bool false)) 4)] false) (.seq (.region 1 [q 14 (.mov (t 0)), q 15 (.mov (t 1)), q 16 (.call 0 (.func 4) [(t 14), (t 15)]), q 13 (.mov (t 16)), q 17 (.extract (t 13) 0), q 18 (.extract (t 13) 1), q 5 (.asg 1 (t 17) 22), q 6 (.asg 0 (t 18) 2)] false) (.seq (.region 2 [q 20 (.mov (t 0)), q 21 (.mov (t 1)), q 22 (.call 0 (.func 5) [(t 20), (t 21)]), q 19 (.mov (t 22)), q 23 (.extract (t 19) 0), q 24 (.extract (t 19) 1), q 7 (.asg 2 (t 23) 22), q 8 (.asg 0 (t 24) 2)] false) (.seq (.seq (.region 3 [q 25 (.mov (t 7)), q 26 (.mov (t 5)), q 27 (.call 0 (.func 6) [(t 25), (t 26)]), q 28 (.un .not (t 27)), q 29 (.mov (t 28)), ⟨some 30, .mov (t 8), some (29, false), []⟩, ⟨some 31, .mov (t 6), some (29, false), []⟩, ⟨some 32, .bin .neq 2 (t 30) (t 31), some (29, false), []⟩, q 33 (.pick (t 29) (.const (.bool true)) (t 32))] false) (.cond (t 33) (.seq (.region 4 [q 4 (.asg 0 (.const (.bool false)) 4)] false) .ret) .skip)) (.seq (.region 5 [q 9 (.asg 0 (.const (.int .i64 1)) 3)] false) (.seq (.region 6 [q 34 (.mov (t 7)), q 35 (.mov (t 9)), q 36 (.call 1 (.func 7) [(t 34), (t 35)]), q 9 (.asg 0 (t 36) 3)] false) (.seq (.region 7 [q 10 (.asg 0 (.const (.int .i64 1)) 3)] false) (.seq (.region 8 [q 37 (.mov (t 7)), q 38 (.mov (t 10)), q 39 (.call 0 (.func 8) [(t 37), (t 38)]), q 10 (.asg 0 (t 39) 3)] false) (.seq (.seq (.region 9 [q 40 (.mov (t 10)), q 41 (.bin .lss 3 (t 40) (.const (.int .i64 0)))] false) (.cond (t 41) (.seq (.region 10 [q 4 (.asg 0 (.const (.bool false)) 4)] false) .ret) .skip)) (.seq (.seq (.region 11 [q 42 (.mov (t 10)), q 43 (.mov (t 9)), q 44 (.bin .neq 3 (t 42) (t 43))] false) (.cond (t 44) (.seq (.region 12 [q 4 (.asg 0 (.const (.bool false)) 4)] false) .ret) .skip)) (.seq (.region 13 [q 46 (.mov (t 0)), q 47 (.mov (t 1)), q 48 (.call 0 (.func 5) [(t 46), (t 47)]), q 45 (.mov (t 48)), q 49 (.extract (t 45) 0), q 50 (.extract (t 45) 1), q 11 (.asg 1 (t 49) 22), q 12 (.asg 0 (t 50) 2)] false) (.seq (.seq (.region 14 [q 51 (.mov (t 11)), q 52 (.mov (t 5)), q 53 (.call 0 (.func 6) [(t 51), (t 52)]), q 54 (.un .not (t 53)), q 55 (.mov (t 54)), ⟨some 56, .mov (t 12), some (55, false), []⟩, ⟨some 57, .mov (t 6), some (55, false), []⟩, ⟨some 58, .bin .neq 2 (t 56) (t 57), some (55, false), []⟩, q 59 (.pick (t 55) (.const (.bool true)) (t 58))] false) (.cond (t 59) (.seq (.region 15 [q 4 (.asg 0 (.const (.bool false)) 4)] false) .ret) .skip)) (.seq (.region 16 [q 10 (.asg 0 (.const (.int .i64 1)) 3)] false) (.seq (.region 17 [q 60 (.mov (t 7)), q 61 (.mov (t 10)), q 62 (.call 0 (.func 8) [(t 60), (t 61)]), q 10 (.asg 0 (t 62) 3)] false) (.seq (.seq (.region 18 [q 63 (.mov (t 10)), q 64 (.bin .lss 3 (t 63) (.const (.int .i64 0)))] false) (.cond (t 64) (.seq (.region 19 [q 4 (.asg 0 (.const (.bool false)) 4)] false) .ret) .skip)) (.seq (.seq (.region 20 [q 65 (.mov (t 10)), q 66 (.mov (t 9)), q 67 (.bin .neq 3 (t 65) (t 66))] false) (.cond (t 67) (.seq (.region 21 [q 4 (.asg 0 (.const (.bool false)) 4)] false) .ret) .skip)) (.seq (.region 22 [q 4 (.asg 0 (.const (.bool true)) 4)] false) .ret)))))))))))))))))
def laws_FnExactIrreduciblesOf_L : Live := [(0, [0, 1]), (1, [0, 1]), (2, [0, 1, 5, 6]), (3, [0, 1, 5, 6, 7, 8]), (4, []), (5, [0, 1, 5, 6, 7]), (6, [0, 1, 5, 6, 7, 9]), (7, [0, 1, 5, 6, 7, 9]), (8, [0, 1, 5, 6, 7, 9, 10]), (9, [0, 1, 5, 6, 7, 9, 10]), (10, []), (11, [0, 1, 5, 6, 7, 9, 10]), (12, []), (13, [0, 1, 5, 6, 7, 9]), (14, [5, 6, 7, 9, 11, 12]), (15, []), (16, [7, 9]), (17, [7, 9, 10]), (18, [9, 10]), (19, []), (20, [9, 10]), (21, []), (22, []), (100033, [0, 1, 5, 6, 7, 33]), (100041, [0, 1, 5, 6, 7, 9, 10, 41]), (100044, [0, 1, 5, 6, 7, 9, 44]), (100059, [7, 9, 59]), (100064, [9, 10, 64]), (100067, [67])]
noncomputable def laws_FnExactIrreduciblesOf (a0 : Int) (a1 : Int) : Option Bool :=
  (Option.bind (spec_IrreduciblesOf a0 a1) fun r1 => (Option.bind (impl_IrreduciblesOf_fresh a0 a1) fun r3 => (Option.bind (α := Bool) ((Option.bind (laws_eqPolyS r3.1 r1.1) fun r12 => (if (!r12) then (some true) else (some (r3.2 != r1.2))))) fun x8 => (if x8 then (some false) else (Option.bind (laws_markPolyS_of_mut r3.1 1) fun r16 => (ifp (r16.2.length = r3.1.length) ((Option.bind (laws_heldPolyS r16.2 1) fun r19 => (if (decide (r19 < 0)) then (some false) else (if (r19 != r16.1) then (some false) else (Option.bind (impl_IrreduciblesOf a0 a1) fun r23 => (Option.bind (α := Bool) ((Option.bind (laws_eqPolyS r23.1 r1.1) fun r32 => (if (!r32) then (some true) else (some (r23.2 != r1.2))))) fun x28 => (if x28 then (some false) else (Option.bind (laws_heldPolyS r16.2 1) fun r36 => (if (decide (r36 < 0)) then (some false) else (if (r36 != r16.1) then (some false) else (some true)))))))))))))))))
theorem laws_FnExactIrreduciblesOf_ok (a0 : Int) (a1 : Int) (r : Bool) (h : laws_FnExactIrreduciblesOf a0 a1 = some r) : Den Try.prog 3 [(i6 a0), (i6 a1)] { r := (.bool r) } := by
  refine den_of (rs := [(.bool r)]) (ac := laws_FnExactIrreduciblesOf_c) (L := laws_FnExactIrreduciblesOf_L) (n := 68) (m := [(5, 1), (7, 2), (11, 1), (36, 1)]) (c := Try.f3.body.getD .skip) good Try.func3 (by kernel_rfl) (by kernel_rfl) Try.ntmps3 rfl rfl (by kernel_rfl) rfl rfl ?_
  refine a_st (σ' := ⟨[(0, (i6 a0)), (1, (i6 a1))], []⟩) (by kernel_rfl) ?_
  unfold laws_FnExactIrreduciblesOf_c
  refine sr (vp (.bool false) rfl (nx ⟨[(0, (i6 a0)), (1, (i6 a1))], []⟩ (by kernel_rfl) (sr (vp (i6 a0) rfl (vp (i6 a1) rfl ?_)))))
  obtain ⟨r1, hr2, h⟩ := bind_some h
  refine a_call (args := [(i6 a0), (i6 a1)]) (u := []) (r := (.tuple [(eSA64u8 r1.1), (i6 r1.2)])) rfl rfl (spec_IrreduciblesOf_ok a0 a1 r1 hr2) rfl (vp (.tuple [(eSA64u8 r1.1), (i6 r1.2)]) rfl (vb (eSA64u8 r1.1) rfl rfl (vb (i6 r1.2) rfl rfl (vp (eSA64u8 r1.1) rfl (vp (i6 r1.2) rfl (nx ⟨[(0, (i6 a0)), (1, (i6 a1)), (5, (eSA64u8 r1.1)), (6, (i6 r1.2))], []⟩ (by kernel_rfl) (sr (vp (i6 a0) rfl (vp (i6 a1) rfl ?_)))))))))
  obtain ⟨r3, hr4, h⟩ := bind_some h
  refine a_callF (args := [(i6 a0), (i6 a1)]) (u := []) (u2 := []) (r := (.tuple [(.osl 2000000), (i6 r3.2)])) (fs := [(64, r3.1.map eA64u8)]) rfl rfl (impl_IrreduciblesOf_fresh_ok a0 a1 r3 hr4) rfl rfl rfl (.inl rfl) rfl (vp (.tuple [(.osl 3200), (i6 r3.2)]) rfl (vb (.osl 3200) rfl rfl (vb (i6 r3.2) rfl rfl (vp (.osl 3200) rfl (vp (i6 r3.2) rfl (nx ⟨[(0, (i6 a0)), (1, (i6 a1)), (5, (eSA64u8 r1.1)), (6, (i6 r1.2)), (7, (.osl 7)), (8, (i6 r3.2))], [(7, (bk (.row 64 (r3.1.map eA64u8))))]⟩ (by kernel_rfl) (a_seq ?_)))))))
  obtain ⟨y9, hy10, hk11⟩ := bind_some h
  clear h
  refine a_join (emb := fun (s : Bool) => ⟨[(0, (i6 a0)), (1, (i6 a1)), (5, (eSA64u8 r1.1)), (6, (i6 r1.2)), (7, (.osl 7)), (33, (.bool s))], [(7, (bk (.row 64 (r3.1.map eA64u8))))]⟩) (pre := fun s => s = y9) ?_ ?_
  · rintro x8 rfl
    have h := hk11
    refine a_st (σ' := ⟨[(0, (i6 a0)), (1, (i6 a1)), (5, (eSA64u8 r1.1)), (6, (i6 r1.2)), (7, (.osl 7)), (33, (.bool x8))], [(7, (bk (.row 64 (r3.1.map eA64u8))))]⟩) (by kernel_rfl) ?_
    cases hb15 : x8
    · have h := ite_f hb15 h
      refine a_cond_f rfl (a_skip (a_next (σ' := ⟨[(0, (i6 a0)), (1, (i6 a1)), (5, (eSA64u8 r1.1)), (6, (i6 r1.2)), (7, (.osl 7))], [(7, (bk (.row 64 (r3.1.map eA64u8))))]⟩) (by kernel_rfl) (sr (vp (i6 1) rfl (nx ⟨[(0, (i6 a0)), (1, (i6 a1)), (5, (eSA64u8 r1.1)), (6, (i6 r1.2)), (7, (.osl 7)), (9, (i6 1))], [(7, (bk (.row 64 (r3.1.map eA64u8))))]⟩ (by kernel_rfl) (sr (vp (.osl 7) rfl (vp (i6 1) rfl ?_))))))))
      obtain ⟨r16, hr17, h⟩ := bind_some h
      obtain ⟨hl18, h⟩ := ifp_some h
      refine a_callM (args := [(.mutsl 64 (r3.1.map eA64u8)), (i6 1)]) (i := 0) (id := 7) (r := (i6 r16.1)) (c := (.row 64 (r16.2.map eA64u8))) rfl rfl (laws_markPolyS_of_mut_ok r3.1 1 r16 hr17) rfl (shape_map hl18) (vp (i6 r16.1) rfl (nx ⟨[(0, (i6 a0)), (1, (i6 a1)), (5, (eSA64u8 r1.1)), (6, (i6 r1.2)), (7, (.osl 7)), (9, (i6 r16.1))], [(7, (bk (.row 64 (r16.2.map eA64u8))))]⟩ (by kernel_rfl) (sr (vp (i6 1) rfl (nx ⟨[(0, (i6 a0)), (1, (i6 a1)), (5, (eSA64u8 r1.1)), (6, (i6 r1.2)), (7, (.osl 7)), (9, (i6 r16.1)), (10, (i6 1))], [(7, (bk (.row 64 (r16.2.map eA64u8))))]⟩ (by kernel_rfl) (sr (vp (.osl 7) rfl (vp (i6 1) rfl ?_))))))))
      obtain ⟨r19, hr20, h⟩ := bind_some h
      refine a_callB (args := [(eSA64u8 r16.2), (i6 1)]) (u := [(7, (bf (.row 64 (r16.2.map eA64u8))))]) (r := (i6 r19)) rfl rfl (laws_heldPolyS_ok r16.2 1 r19 hr20) rfl trivial (vp (i6 r19) rfl (nx ⟨[(0, (i6 a0)), (1, (i6 a1)), (5, (eSA64u8 r1.1)), (6, (i6 r1.2)), (7, (.osl 7)), (9, (i6 r16.1)), (10, (i6 r19))], [(7, (bk (.row 64 (r16.2.map eA64u8))))]⟩ (by kernel_rfl) (a_seq (sr (vp (i6 r19) rfl (vp (.bool ((decide (r19 < 0)))) rfl (nx ⟨[(0, (i6 a0)), (1, (i6 a1)), (5, (eSA64u8 r1.1)), (6, (i6 r1.2)), (7, (.osl 7)), (9, (i6 r16.1)), (10, (i6 r19)), (41, (.bool ((decide (r19 < 0)))))], [(7, (bk (.row 64 (r16.2.map eA64u8))))]⟩ (by kernel_rfl) ?_)))))))
      cases hb21 : (decide (r19 < 0))
      · have h := ite_f hb21 h
        refine a_cond_f rfl (a_skip (a_next (σ' := ⟨[(0, (i6 a0)), (1, (i6 a1)), (5, (eSA64u8 r1.1)), (6, (i6 r1.2)), (7, (.osl 7)), (9, (i6 r16.1)), (10, (i6 r19))], [(7, (bk (.row 64 (r16.2.map eA64u8))))]⟩) (by kernel_rfl) (a_seq (sr (vp (i6 r19) rfl (vp (i6 r16.1) rfl (vp (.bool (r19 != r16.1)) rfl (nx ⟨[(0, (i6 a0)), (1, (i6 a1)), (5, (eSA64u8 r1.1)), (6, (i6 r1.2)), (7, (.osl 7)), (9, (i6 r16.1)), (44, (.bool (r19 != r16.1)))], [(7, (bk (.row 64 (r16.2.map eA64u8))))]⟩ (by kernel_rfl) ?_))))))))
        cases hb22 : (r19 != r16.1)
        · have h := ite_f hb22 h
          refine a_cond_f rfl (a_skip (a_next (σ' := ⟨[(0, (i6 a0)), (1, (i6 a1)), (5, (eSA64u8 r1.1)), (6, (i6 r1.2)), (7, (.osl 7)), (9, (i6 r16.1))], [(7, (bk (.row 64 (r16.2.map eA64u8))))]⟩) (by kernel_rfl) (sr (vp (i6 a0) rfl (vp (i6 a1) rfl ?_)))))
          obtain ⟨r23, hr24, h⟩ := bind_some h
          refine a_call (args := [(i6 a0), (i6 a1)]) (u := []) (r := (.tuple [(eSA64u8 r23.1), (i6 r23.2)])) rfl rfl (impl_IrreduciblesOf_ok a0 a1 r23 hr24) rfl (vp (.tuple [(eSA64u8 r23.1), (i6 r23.2)]) rfl (vb (eSA64u8 r23.1) rfl rfl (vb (i6 r23.2) rfl rfl (vp (eSA64u8 r23.1) rfl (vp (i6 r23.2) rfl (nx ⟨[(5, (eSA64u8 r1.1)), (6, (i6 r1.2)), (7, (.osl 7)), (9, (i6 r16.1)), (11, (eSA64u8 r23.1)), (12, (i6 r23.2))], [(7, (bk (.row 64 (r16.2.map eA64u8))))]⟩ (by kernel_rfl) (a_seq ?_)))))))
          obtain ⟨y29, hy30, hk31⟩ := bind_some h
          clear h
          refine a_join (emb := fun (s : Bool) => ⟨[(7, (.osl 7)), (9, (i6 r16.1)), (59, (.bool s))], [(7, (bk (.row 64 (r16.2.map eA64u8))))]⟩) (pre := fun s => s = y29) ?_ ?_
          · rintro x28 rfl
            have h := hk31
            refine a_st (σ' := ⟨[(7, (.osl 7)), (9, (i6 r16.1)), (59, (.bool x28))], [(7, (bk (.row 64 (r16.2.map eA64u8))))]⟩) (by kernel_rfl) ?_
            cases hb35 : x28
            · have h := ite_f hb35 h
              refine a_cond_f rfl (a_skip (a_next (σ' := ⟨[(7, (.osl 7)), (9, (i6 r16.1))], [(7, (bk (.row 64 (r16.2.map eA64u8))))]⟩) (by kernel_rfl) (sr (vp (i6 1) rfl (nx ⟨[(7, (.osl 7)), (9, (i6 r16.1)), (10, (i6 1))], [(7, (bk (.row 64 (r16.2.map eA64u8))))]⟩ (by kernel_rfl) (sr (vp (.osl 7) rfl (vp (i6 1) rfl ?_))))))))
              obtain ⟨r36, hr37, h⟩ := bind_some h
              refine a_callB (args := [(eSA64u8 r16.2), (i6 1)]) (u := [(7, (bf (.row 64 (r16.2.map eA64u8))))]) (r := (i6 r36)) rfl rfl (laws_heldPolyS_ok r16.2 1 r36 hr37) rfl trivial (vp (i6 r36) rfl (nx ⟨[(9, (i6 r16.1)), (10, (i6 r36))], []⟩ (by kernel_rfl) (a_seq (sr (vp (i6 r36) rfl (vp (.bool ((decide (r36 < 0)))) rfl (nx ⟨[(9, (i6 r16.1)), (10, (i6 r36)), (64, (.bool ((decide (r36 < 0)))))], []⟩ (by kernel_rfl) ?_)))))))
              cases hb38 : (decide (r36 < 0))
              · have h := ite_f hb38 h
                refine a_cond_f rfl (a_skip (a_next (σ' := ⟨[(9, (i6 r16.1)), (10, (i6 r36))], []⟩) (by kernel_rfl) (a_seq (sr (vp (i6 r36) rfl (vp (i6 r16.1) rfl (vp (.bool (r36 != r16.1)) rfl (nx ⟨[(67, (.bool (r36 != r16.1)))], []⟩ (by kernel_rfl) ?_))))))))
                cases hb39 : (r36 != r16.1)
                · have h := ite_f hb39 h
                  refine a_cond_f rfl (a_skip (a_next (σ' := ⟨[], []⟩) (by kernel_rfl) (sr (vp (.bool true) rfl (nx _ rfl (a_ret ?_))))))
                  refine ⟨.inr rfl, ?_⟩
                  rw [Try.results3]
                  cases h
                  exact ⟨_, _, _, _, _, rfl, trivial, .inl ⟨rfl, .inl rfl⟩, rfl, rfl⟩
                · have h := ite_t hb39 h
                  refine a_cond_t rfl (sr (vp (.bool false) rfl (nx _ rfl (a_ret (t_ret ?_)))))
                  refine ⟨.inr rfl, ?_⟩
                  rw [Try.results3]
                  cases h
                  exact ⟨_, _, _, _, _, rfl, trivial, .inl ⟨rfl, .inl rfl⟩, rfl, rfl⟩
              · have h := ite_t hb38 h
                refine a_cond_t rfl (sr (vp (.bool false) rfl (nx _ rfl (a_ret (t_ret ?_)))))
                refine ⟨.inr rfl, ?_⟩
                rw [Try.results3]
                cases h
                exact ⟨_, _, _, _, _, rfl, trivial, .inl ⟨rfl, .inl rfl⟩, rfl, rfl⟩
            · have h := ite_t hb35 h
              refine a_cond_t rfl (sr (vp (.bool false) rfl (nx _ rfl (a_ret (t_ret ?_)))))
              refine ⟨.inr rfl, ?_⟩
              rw [Try.results3]
              cases h
              exact ⟨_, _, _, _, _, rfl, trivial, .inl ⟨rfl, .inl rfl⟩, rfl, rfl⟩
          · have h := hy30
            refine a_region (vp (eSA64u8 r23.1) rfl (vp (eSA64u8 r1.1) rfl ?_))
            obtain ⟨r32, hr33, h⟩ := bind_some h
            refine a_call (args := [(eSA64u8 r23.1), (eSA64u8 r1.1)]) (u := []) (r := (.bool r32)) rfl rfl (laws_eqPolyS_ok r23.1 r1.1 r32 hr33) rfl (vp (.bool (!r32)) rfl (vp (.bool (!r32)) rfl ?_))
            cases hb34 : (!r32)
            · have h := ite_f hb34 h
              refine gp (i6 r23.2) rfl rfl (gp (i6 r1.2) rfl rfl (gp (.bool (r23.2 != r1.2)) rfl rfl (vp (.bool (r23.2 != r1.2)) rfl (a_nil ?_))))
              exact j_leaf (r23.2 != r1.2) (Option.some.inj h) (by kernel_rfl)
            · have h := ite_t hb34 h
              refine a_gskip rfl (a_gskip rfl (a_gskip rfl (vp (.bool true) rfl (a_nil ?_))))
              exact j_leaf true (Option.some.inj h) (by kernel_rfl)
        · have h := ite_t hb22 h
          refine a_cond_t rfl (sr (vp (.bool false) rfl (nx _ rfl (a_ret (t_ret ?_)))))
          refine ⟨.inr rfl, ?_⟩
          rw [Try.results3]
          cases h
          exact ⟨_, _, _, _, _, rfl, trivial, .inl ⟨rfl, .inl rfl⟩, rfl, rfl⟩
      · have h := ite_t hb21 h
        refine a_cond_t rfl (sr (vp (.bool false) rfl (nx _ rfl (a_ret (t_ret ?_)))))
        refine ⟨.inr rfl, ?_⟩
        rw [Try.results3]
        cases h
        exact ⟨_, _, _, _, _, rfl, trivial, .inl ⟨rfl, .inl rfl⟩, rfl, rfl⟩
    · have h := ite_t hb15 h
      refine a_cond_t rfl (sr (vp (.bool false) rfl (nx _ rfl (a_ret (t_ret ?_)))))
      refine ⟨.inr rfl, ?_⟩
      rw [Try.results3]
      cases h
      exact ⟨_, _, _, _, _, rfl, trivial, .inl ⟨rfl, .inl rfl⟩, rfl, rfl⟩
  · have h := hy10
    refine a_region (vp (.osl 7) rfl (vp (eSA64u8 r1.1) rfl ?_))
    obtain ⟨r12, hr13, h⟩ := bind_some h
    refine a_callB (args := [(eSA64u8 r3.1), (eSA64u8 r1.1)]) (u := [(7, (bf (.row 64 (r3.1.map eA64u8))))]) (r := (.bool r12)) rfl rfl (laws_eqPolyS_ok r3.1 r1.1 r12 hr13) rfl trivial (vp (.bool (!r12)) rfl (vp (.bool (!r12)) rfl ?_))
    cases hb14 : (!r12)
    · have h := ite_f hb14 h
      refine gp (i6 r3.2) rfl rfl (gp (i6 r1.2) rfl rfl (gp (.bool (r3.2 != r1.2)) rfl rfl (vp (.bool (r3.2 != r1.2)) rfl (a_nil ?_))))
      exact j_leaf (r3.2 != r1.2) (Option.some.inj h) (by kernel_rfl)
    · have h := ite_t hb14 h
      refine a_gskip rfl (a_gskip rfl (a_gskip rfl (vp (.bool true) rfl (a_nil ?_))))
      exact j_leaf true (Option.some.inj h) (by kernel_rfl)
def impl_prime_monics_c : ACode := (.seq (.region 0 [q 4 (.asg 1 (.const (.slice none 0 0)) 36)] false) (.seq (.region 1 [q 8 (.mov (t 0)), q 9 (.mov (t 1)), q 10 (.call 0 (.func 15) [(t 8), (t 9), (.const (.int .i64 343))]), q 5 (.asg 0 (t 10) 2)] false) (.seq (.region 2 [q 6 (.asg 2 (.const (.slice none 0 0)) 36)] false) (.seq (.seq (.region 3 [q 11 (.mov (t 5)), q 12 (.mov (.const (.int .i64 0)))] false) (.block 0 (.loop (.seq (.region 4 [q 13 (.bin .lss 2 (t 12) (t 11))] false) (.seq (.cond (t 13) .skip (.exit 0)) (.seq (.block 1 (.seq (.region 5 [q 14 (.mov (t 12)), q 7 (.asg 0 (t 14) 2)] false) (.region 6 [q 15 (.mov (t 6)), q 16 (.mov (t 0)), q 17 (.mov (t 5)), q 18 (.mov (t 7)), q 19 (.bin .add 2 (t 17) (t 18)), q 20 (.call 0 (.func 29) [(t 16), (t 19)]), q 21 (.bslice 0 36 1 [(0, (t 20))]), q 22 (.blt 0 .append [(t 15), (t 21)] [36, 36]), q 6 (.asg 2 (t 22) 36)] false))) (.region 7 [q 23 (.bin .add 2 (t 12) (.const (.int .i64 1))), q 12 (.mov (t 23))] false))))))) (.seq (.region 8 [q 24 (.mov (t 6)), q 4 (.asg 1 (t 24) 36)] false) .ret)))))
def impl_prime_monics_L : Live := [(0, [0, 1]), (1, [0, 1]), (2, [0, 5]), (3, [0, 5, 6]), (4, [0, 5, 6, 11, 12]), (5, [0, 5, 6, 11, 12]), (6, [0, 5, 6, 7, 11, 12]), (7, [0, 5, 6, 11, 12]), (8, [6]), (100013, [0, 5, 6, 11, 12, 13])]
noncomputable def impl_prime_monics_l1 (r1 : Int) (a0 : Int) (x29 : Int) (x30 : (List (List Int))) : Option ((Int × (List (List Int))) ⊕ (List (List Int))) :=
  (if (decide (x29 < r1)) then (Option.bind (impl_prime_numbered a0 (IntKind.i64.wrap (r1 + x29))) fun r39 => (ifp ((x30.length + ([r39] : List (List Int)).length) * 24 ≤ 140737488355328) ((some (.inl ((IntKind.i64.wrap (x29 + 1), (x30 ++ ([r39]))))))))) else (some (.inr x30)))
noncomputable def impl_prime_monics (a0 : Int) (a1 : Int) : Option (List (List Int)) :=
  (Option.bind (impl_prime_norm a0 a1 343) fun r1 => (Option.bind (α := (List (List Int))) ((loopM (fun s : (Int × (List (List Int))) => impl_prime_monics_l1 r1 a0 s.1 s.2) (0, []))) fun x21 => (some x21)))
theorem impl_prime_monics_ok (a0 : Int) (a1 : Int) (r : (List (List Int))) (h : impl_prime_monics a0 a1 = some r) : Den Try.prog 17 [(i6 a0), (i6 a1)] { r := (eSSi64 r) } := by
  refine den_of (rs := [(eSSi64 r)]) (ac := impl_prime_monics_c) (L := impl_prime_monics_L) (n := 25) (m := [(4, 1), (6, 2)]) (c := Try.f17.body.getD .skip) good Try.func17 (by kernel_rfl) (by kernel_rfl) Try.ntmps17 rfl rfl (by kernel_rfl) rfl rfl ?_
  refine a_st (σ' := ⟨[(0, (i6 a0)), (1, (i6 a1))], []⟩) (by kernel_rfl) ?_
  unfold impl_prime_monics_c
  refine sr (vp (eSSi64 ([])) rfl (nx ⟨[(0, (i6 a0)), (1, (i6 a1))], []⟩ (by kernel_rfl) (sr (vp (i6 a0) rfl (vp (i6 a1) rfl ?_)))))
  obtain ⟨r1, hr2, h⟩ := bind_some h
  refine a_call (args := [(i6 a0), (i6 a1), (i6 343)]) (u := []) (r := (i6 r1)) rfl rfl (impl_prime_norm_ok a0 a1 343 r1 hr2) rfl (vp (i6 r1) rfl (nx ⟨[(0, (i6 a0)), (5, (i6 r1))], []⟩ (by kernel_rfl) (sr (vu (.osl 1600) [(1600, (bk (.row 1 (([]).map eSi64))))] rfl trivial rfl (nx ⟨[(0, (i6 a0)), (5, (i6 r1)), (6, (.osl 6))], [(6, (bk (.row 1 (([]).map eSi64))))]⟩ (by kernel_rfl) ?_)))))
  obtain ⟨y22, hy23, hk24⟩ := bind_some h
  clear h
  refine a_join (emb := fun (s : (List (List Int))) => ⟨[(6, (.osl 6))], [(6, (bk (.row 1 (s.map eSi64))))]⟩) (pre := fun s => s = y22) ?_ ?_
  · rintro x21 rfl
    have h := hk24
    refine a_st (σ' := ⟨[(6, (.osl 6))], [(6, (bk (.row 1 (x21.map eSi64))))]⟩) (by kernel_rfl) (sr (vp (.osl 6) rfl (vu (eSSi64 x21) [(6, (bf (.row 1 (x21.map eSi64))))] rfl trivial rfl (nx _ rfl (a_ret ?_)))))
    refine ⟨.inr rfl, ?_⟩
    rw [Try.results17]
    cases h
    exact ⟨_, _, _, _, _, rfl, trivial, .inl ⟨rfl, .inl rfl⟩, rfl, rfl⟩
  · have h := hy23
    refine sr (vp (i6 r1) rfl (vp (i6 0) rfl (nx ⟨[(0, (i6 a0)), (5, (i6 r1)), (6, (.osl 6)), (11, (i6 r1)), (12, (i6 0))], [(6, (bk (.row 1 (([]).map eSi64))))]⟩ (by kernel_rfl) (a_block ?_))))
    refine a_loop (emb := fun (s : (Int × (List (List Int)))) => ⟨[(0, (i6 a0)), (5, (i6 r1)), (6, (.osl 6)), (11, (i6 r1)), (12, (i6 s.1))], [(6, (bk (.row 1 (s.2.map eSi64))))]⟩) (body := (fun s : (Int × (List (List Int))) => impl_prime_monics_l1 r1 a0 s.1 s.2)) (G := fun q => some q = some y22) h rfl ?_ (by kernel_rfl)
    rintro X35 ⟨x29, x30⟩ x36 h hX37
    have h : impl_prime_monics_l1 r1 a0 x29 x30 = some x36 := h
    refine a_st (σ' := ⟨[(0, (i6 a0)), (5, (i6 r1)), (6, (.osl 6)), (11, (i6 r1)), (12, (i6 x29))], [(6, (bk (.row 1 (x30.map eSi64))))]⟩) (by kernel_rfl) (sr (vp (.bool ((decide (x29 < r1)))) rfl (nx ⟨[(0, (i6 a0)), (5, (i6 r1)), (6, (.osl 6)), (11, (i6 r1)), (12, (i6 x29)), (13, (.bool ((decide (x29 < r1)))))], [(6, (bk (.row 1 (x30.map eSi64))))]⟩ (by kernel_rfl) (a_seq ?_))))
    cases hb38 : (decide (x29 < r1))
    · have h := ite_f hb38 h
      refine a_cond_f rfl (a_exit (t_exit ?_))
      cases h
      have h := hX37
      refine t_exit (b_exit ?_)
      exact j_leaf x30 (Option.some.inj h) (by kernel_rfl)
    · have h := ite_t hb38 h
      refine a_cond_t rfl (a_skip (a_next (σ' := ⟨[(0, (i6 a0)), (5, (i6 r1)), (6, (.osl 6)), (11, (i6 r1)), (12, (i6 x29))], [(6, (bk (.row 1 (x30.map eSi64))))]⟩) (by kernel_rfl) (a_seq (a_block (sr (vp (i6 x29) rfl (vp (i6 x29) rfl (nx ⟨[(0, (i6 a0)), (5, (i6 r1)), (6, (.osl 6)), (7, (i6 x29)), (11, (i6 r1)), (12, (i6 x29))], [(6, (bk (.row 1 (x30.map eSi64))))]⟩ (by kernel_rfl) (a_region ?_)))))))))
      refine vp (.osl 6) rfl (vp (i6 a0) rfl (vp (i6 r1) rfl (vp (i6 x29) rfl (vp (i6 (IntKind.i64.wrap (r1 + x29))) rfl ?_))))
      obtain ⟨r39, hr40, h⟩ := bind_some h
      refine a_call (args := [(i6 a0), (i6 (IntKind.i64.wrap (r1 + x29)))]) (u := []) (r := (eSi64 r39)) rfl rfl (impl_prime_numbered_ok a0 (IntKind.i64.wrap (r1 + x29)) r39 hr40) rfl (vq (.sl 1 true (([r39]).map eSi64)) rfl ⟨(Nat.le_of_ble_eq_true rfl), (Nat.le_of_ble_eq_true rfl), (all_cons ⟨(Nat.le_of_ble_eq_true rfl), rfl⟩ all_nil)⟩ ?_)
      obtain ⟨hc41, h⟩ := ifp_some h
      refine vu (.osl 3200) [(3200, (bk (.row 1 (((x30 ++ ([r39]))).map eSi64)))), (6, none)] (app_run (i := ⟨.slice 2, 1, 24, (eSi64 [])⟩) (f := eSi64) (l := x30) (l2 := [r39]) rfl rfl rfl rfl (fun _ => rfl) rfl rfl) (app_c (f := eSi64) (s := 1) (sz := 1) (by' := 24) (u := []) (id := 6) hc41 (.inr rfl) rfl rfl rfl) rfl (vp (.osl 3200) rfl (a_nil (b_norm (a_next (σ' := ⟨[(0, (i6 a0)), (5, (i6 r1)), (6, (.osl 6)), (11, (i6 r1)), (12, (i6 x29))], [(6, (bk (.row 1 (((x30 ++ ([r39]))).map eSi64))))]⟩) (by kernel_rfl) (a_region (vp (i6 (IntKind.i64.wrap (x29 + 1))) rfl (vp (i6 (IntKind.i64.wrap (x29 + 1))) rfl (a_nil ?_))))))))
      cases h
      exact a_again (by kernel_rfl) hX37
end Go.Proofs.Ytpjdjfhbfcekaaa
