/- Functions of the program: plain Lean functions, and that the program computes them. Printed by gen.py. -/
import Derived.Test.YtkbnegemdlnncaaFnT
import Derived.Test.YtkbnegemdlnncaaFn2
import Derived.Test.YtkbnegemdlnncaaFn3
import Derived.Test.YtkbnegemdlnncaaFn4
namespace Go.Proofs.Ytkbnegemdlnncaa
open Go.Abs Go.Proofs
set_option linter.unusedSimpArgs false
set_option linter.unusedVariables false
set_option maxHeartbeats 16000000
attribute [local irreducible] Abs.acode Abs.aops Abs.aopsT Abs.thenK Abs.blockK

def impl_ParsePoly_c : ACode := (.seq (.region 0 [q 4 (.alloc 25), q 5 (.asg 0 (.const (.int .i64 0)) 2)] false) (.seq (.seq (.region 1 [q 8 (.mov (t 0)), q 9 (.call 0 (.func 106) [(t 8)]), q 10 (.un .not (t 9))] false) (.cond (t 10) (.seq (.region 2 [q 11 (.build 25 []), ⟨none, .store 25 (t 4) (t 11), none, []⟩, q 5 (.asg 0 (.const (.int .i64 1)) 2)] false) .ret) .skip)) (.seq (.seq (.region 3 [q 12 (.mov (t 1)), q 13 (.blt 0 .len [(t 12)] [9]), q 14 (.bin .gtr 3 (t 13) (.const (.int .i64 64)))] false) (.cond (t 14) (.seq (.region 4 [q 15 (.build 25 []), ⟨none, .store 25 (t 4) (t 15), none, []⟩, q 5 (.asg 0 (.const (.int .i64 6)) 2)] false) .ret) .skip)) (.seq (.region 5 [q 6 (.alloc 25)] false) (.seq (.seq (.region 6 [q 16 (.mov (t 1)), q 17 (.blt 0 .len [(t 16)] [9]), q 18 (.mov (.const (.int .i64 0)))] false) (.block 0 (.loop (.seq (.region 7 [q 19 (.bin .lss 3 (t 18) (t 17))] false) (.seq (.cond (t 19) .skip (.exit 0)) (.seq (.block 1 (.seq (.region 8 [q 20 (.mov (t 18)), q 7 (.asg 0 (t 20) 3)] false) (.region 9 [q 21 (.mov (t 1)), q 22 (.blt 0 .len [(t 21)] [9]), q 23 (.bin .sub 3 (t 22) (.const (.int .i64 1))), q 24 (.mov (t 7)), q 25 (.bin .sub 3 (t 23) (t 24)), q 26 (.mov (t 1)), q 27 (.mov (t 7)), q 28 (.index 9 (t 26) (t 27)), q 29 (.bin .sub 5 (t 28) (.const (.int .u8 48))), q 30 (.indexAddr 25 (t 6) (t 25)), ⟨none, .store 5 (t 30) (t 29), none, []⟩] false))) (.region 10 [q 31 (.bin .add 3 (t 18) (.const (.int .i64 1))), q 18 (.mov (t 31))] false))))))) (.seq (.seq (.region 11 [q 32 (.mov (t 0)), q 33 (.load 25 (t 6)), q 34 (.call 0 (.func 107) [(t 32), (t 33)]), q 35 (.un .not (t 34)), q 36 (.mov (t 35)), ⟨some 37, .load 25 (t 6), some (36, false), []⟩, ⟨some 38, .call 0 (.func 103) [(t 37)], some (36, false), []⟩, ⟨some 39, .call 0 (.func 120) [(t 38)], some (36, false), []⟩, ⟨some 40, .mov (t 1), some (36, false), []⟩, ⟨some 41, .bin .neq 9 (t 39) (t 40), some (36, false), []⟩, q 42 (.pick (t 36) (.const (.bool true)) (t 41))] false) (.cond (t 42) (.seq (.region 12 [q 43 (.build 25 []), ⟨none, .store 25 (t 4) (t 43), none, []⟩, q 5 (.asg 0 (.const (.int .i64 6)) 2)] false) .ret) .skip)) (.seq (.region 13 [q 44 (.load 25 (t 6)), ⟨none, .store 25 (t 4) (t 44), none, []⟩, q 5 (.asg 0 (.const (.int .i64 0)) 2)] false) .ret)))))))
def impl_ParsePoly_L : Live := [(0, [0, 1]), (1, [0, 1, 4]), (2, [4]), (3, [0, 1, 4]), (4, [4]), (5, [0, 1, 4]), (6, [0, 1, 4, 6]), (7, [0, 1, 4, 6, 17, 18]), (8, [0, 1, 4, 6, 17, 18]), (9, [0, 1, 4, 6, 7, 17, 18]), (10, [0, 1, 4, 6, 17, 18]), (11, [0, 1, 4, 6]), (12, [4]), (13, [4, 6]), (100010, [0, 1, 4, 10]), (100014, [0, 1, 4, 14]), (100019, [0, 1, 4, 6, 17, 18, 19]), (100042, [4, 6, 42])]
noncomputable def impl_ParsePoly_l1 (a1 : ByteArray) (x47 : Int) (x48 : (Vec Int 64)) : Option ((Int × (Vec Int 64)) ⊕ (Vec Int 64)) :=
  (if (decide (x47 < (a1.size : Int))) then (letp (IntKind.i64.wrap ((IntKind.i64.wrap ((a1.size : Int) - 1)) - x47)) fun x61 => (ifp (0 ≤ x47 ∧ x47 < ((a1.size : Nat) : Int)) ((letp (IntKind.u8.wrap (((((a1).data.toList.getD x47.toNat 0).toNat : Int)) - 48)) fun x64 => (ifp (0 ≤ x61 ∧ x61 < ((64 : Nat) : Int)) ((some (.inl ((IntKind.i64.wrap (x47 + 1), (vset x48 x61.toNat x64))))))))))) else (some (.inr x48)))
noncomputable def impl_ParsePoly (a0 : Int) (a1 : ByteArray) : Option ((Vec Int 64) × Int) :=
  (Option.bind (impl_isPrime a0) fun r1 => (if (!r1) then (some (((vrep 64 (0 : Int)), 1))) else (if (decide ((a1.size : Int) > 64)) then (some (((vrep 64 (0 : Int)), 6))) else (Option.bind (α := (Vec Int 64)) ((loopM (fun s : (Int × (Vec Int 64)) => impl_ParsePoly_l1 a1 s.1 s.2) (0, (vrep 64 (0 : Int))))) fun x35 => (Option.bind (α := Bool) ((Option.bind (impl_isPoly a0 x35) fun r83 => (if (!r83) then (some true) else (Option.bind (impl_rowOf x35) fun r87 => (Option.bind (impl_row_text r87) fun r89 => (some ((!(r89.toList == a1.toList))))))))) fun x78 => (if x78 then (some (((vrep 64 (0 : Int)), 6))) else (some (x35, 0))))))))
theorem impl_ParsePoly_ok (a0 : Int) (a1 : ByteArray) (r : ((Vec Int 64) × Int)) (h : impl_ParsePoly a0 a1 = some r) : Den Try.prog 27 [(i6 a0), (.str a1)] { r := (.tuple [(eA64u8 r.1), (i6 r.2)]) } := by
  refine den_of (rs := [(eA64u8 r.1), (i6 r.2)]) (ac := impl_ParsePoly_c) (L := impl_ParsePoly_L) (n := 45) (m := []) (c := Try.f27.body.getD .skip) good Try.func27 (by kernel_rfl) (by kernel_rfl) Try.ntmps27 rfl rfl (by kernel_rfl) rfl rfl ?_
  refine a_st (σ' := ⟨[(0, (i6 a0)), (1, (.str a1))], []⟩) (by kernel_rfl) ?_
  unfold impl_ParsePoly_c
  refine sr (vo 1400 (eA64u8 ((vrep 64 (0 : Int)))) rfl rfl (vp (i6 0) rfl (nx ⟨[(0, (i6 a0)), (1, (.str a1)), (4, (ow 4))], [(4, (bk (eA64u8 ((vrep 64 (0 : Int))))))]⟩ (by kernel_rfl) (a_seq (sr (vp (i6 a0) rfl ?_))))))
  obtain ⟨r1, hr2, h⟩ := bind_some h
  refine a_call (args := [(i6 a0)]) (u := []) (r := (.bool r1)) rfl rfl (impl_isPrime_ok a0 r1 hr2) rfl (vp (.bool (!r1)) rfl (nx ⟨[(0, (i6 a0)), (1, (.str a1)), (4, (ow 4)), (10, (.bool (!r1)))], [(4, (bk (eA64u8 ((vrep 64 (0 : Int))))))]⟩ (by kernel_rfl) ?_))
  cases hb3 : (!r1)
  · have h := ite_f hb3 h
    refine a_cond_f rfl (a_skip (a_next (σ' := ⟨[(0, (i6 a0)), (1, (.str a1)), (4, (ow 4))], [(4, (bk (eA64u8 ((vrep 64 (0 : Int))))))]⟩) (by kernel_rfl) (a_seq (sr (vp (.str a1) rfl (vp (i6 (a1.size : Int)) rfl (vp (.bool ((decide ((a1.size : Int) > 64)))) rfl (nx ⟨[(0, (i6 a0)), (1, (.str a1)), (4, (ow 4)), (14, (.bool ((decide ((a1.size : Int) > 64)))))], [(4, (bk (eA64u8 ((vrep 64 (0 : Int))))))]⟩ (by kernel_rfl) ?_))))))))
    cases hb4 : (decide ((a1.size : Int) > 64))
    · have h := ite_f hb4 h
      refine a_cond_f rfl (a_skip (a_next (σ' := ⟨[(0, (i6 a0)), (1, (.str a1)), (4, (ow 4))], [(4, (bk (eA64u8 ((vrep 64 (0 : Int))))))]⟩) (by kernel_rfl) (sr (vo 1600 (eA64u8 ((vrep 64 (0 : Int)))) rfl rfl (nx ⟨[(0, (i6 a0)), (1, (.str a1)), (4, (ow 4)), (6, (ow 6))], [(4, (bk (eA64u8 ((vrep 64 (0 : Int)))))), (6, (bk (eA64u8 ((vrep 64 (0 : Int))))))]⟩ (by kernel_rfl) ?_)))))
      obtain ⟨y36, hy37, hk38⟩ := bind_some h
      clear h
      refine a_join (emb := fun (s : (Vec Int 64)) => ⟨[(0, (i6 a0)), (1, (.str a1)), (4, (ow 4)), (6, (ow 6))], [(4, (bk (eA64u8 ((vrep 64 (0 : Int)))))), (6, (bk (eA64u8 s)))]⟩) (pre := fun s => s = y36) ?_ ?_
      · rintro x35 rfl
        have h := hk38
        refine a_st (σ' := ⟨[(0, (i6 a0)), (1, (.str a1)), (4, (ow 4)), (6, (ow 6))], [(4, (bk (eA64u8 ((vrep 64 (0 : Int)))))), (6, (bk (eA64u8 x35)))]⟩) (by kernel_rfl) (a_seq ?_)
        obtain ⟨y79, hy80, hk81⟩ := bind_some h
        clear h
        refine a_join (emb := fun (s : Bool) => ⟨[(4, (ow 4)), (6, (ow 6)), (42, (.bool s))], [(4, (bk (eA64u8 ((vrep 64 (0 : Int)))))), (6, (bk (eA64u8 x35)))]⟩) (pre := fun s => s = y79) ?_ ?_
        · rintro x78 rfl
          have h := hk81
          refine a_st (σ' := ⟨[(4, (ow 4)), (6, (ow 6)), (42, (.bool x78))], [(4, (bk (eA64u8 ((vrep 64 (0 : Int)))))), (6, (bk (eA64u8 x35)))]⟩) (by kernel_rfl) ?_
          cases hb91 : x78
          · have h := ite_f hb91 h
            refine a_cond_f rfl (a_skip (a_next (σ' := ⟨[(4, (ow 4)), (6, (ow 6))], [(4, (bk (eA64u8 ((vrep 64 (0 : Int)))))), (6, (bk (eA64u8 x35)))]⟩) (by kernel_rfl) (sr (vl (eA64u8 x35) rfl rfl rfl rfl rfl rfl (vs (eA64u8 x35) rfl rfl (fun _ => rfl) rfl rfl rfl rfl rfl rfl (vp (i6 0) rfl (nx _ rfl (a_ret ?_))))))))
            have hl94 : LdOk [] (eA64u8 x35) [] 64 true (eA64u8 x35) := (.nil rfl rfl rfl)
            refine ⟨.inr rfl, ?_⟩
            rw [Try.results27]
            cases h
            exact ⟨_, _, _, _, _, ld_own (i := ⟨.arr 64 5, 64, 64, (eA64u8 (vrep 64 (0 : Int)))⟩) rfl rfl rfl hl94, hl94.c, .inl ⟨rfl, .inl rfl⟩, rfl, ⟨_, _, _, _, _, rfl, trivial, .inl ⟨rfl, .inl rfl⟩, rfl, rfl⟩⟩
          · have h := ite_t hb91 h
            refine a_cond_t rfl (sr (vq (eA64u8 ((vrep 64 (0 : Int)))) rfl ⟨⟨_, rfl, rfl⟩, all_nil⟩ (vs (eA64u8 ((vrep 64 (0 : Int)))) rfl rfl (fun _ => rfl) rfl rfl rfl rfl rfl rfl (vp (i6 6) rfl (nx _ rfl (a_ret (t_ret ?_)))))))
            have hl96 : LdOk [] (eA64u8 ((vrep 64 (0 : Int)))) [] 64 true (eA64u8 ((vrep 64 (0 : Int)))) := (.nil rfl rfl rfl)
            refine ⟨.inr rfl, ?_⟩
            rw [Try.results27]
            cases h
            exact ⟨_, _, _, _, _, ld_own (i := ⟨.arr 64 5, 64, 64, (eA64u8 (vrep 64 (0 : Int)))⟩) rfl rfl rfl hl96, hl96.c, .inl ⟨rfl, .inl rfl⟩, rfl, ⟨_, _, _, _, _, rfl, trivial, .inl ⟨rfl, .inl rfl⟩, rfl, rfl⟩⟩
        · have h := hy80
          refine a_region (vp (i6 a0) rfl (vl (eA64u8 x35) rfl rfl rfl rfl rfl rfl ?_))
          obtain ⟨r83, hr84, h⟩ := bind_some h
          refine a_call (args := [(i6 a0), (eA64u8 x35)]) (u := []) (r := (.bool r83)) rfl rfl (impl_isPoly_ok a0 x35 r83 hr84) rfl (vp (.bool (!r83)) rfl (vp (.bool (!r83)) rfl ?_))
          cases hb85 : (!r83)
          · have h := ite_f hb85 h
            have hl86 : LdOk [] (eA64u8 x35) [] 64 true (eA64u8 x35) := (.nil rfl rfl rfl)
            refine gq (eA64u8 x35) rfl (ld_own (i := ⟨.arr 64 5, 64, 64, (eA64u8 (vrep 64 (0 : Int)))⟩) rfl rfl rfl hl86) hl86.c ?_
            obtain ⟨r87, hr88, h⟩ := bind_some h
            refine a_gcall rfl (args := [(eA64u8 x35)]) (u := []) (r := (eSi64 r87)) rfl rfl (impl_rowOf_ok x35 r87 hr88) rfl ?_
            obtain ⟨r89, hr90, h⟩ := bind_some h
            refine a_gcall rfl (args := [(eSi64 r87)]) (u := []) (r := (.str r89)) rfl rfl (impl_row_text_ok r87 r89 hr90) rfl (gp (.str a1) rfl rfl (gp (.bool ((!(r89.toList == a1.toList)))) rfl rfl (vp (.bool ((!(r89.toList == a1.toList)))) rfl (a_nil ?_))))
            exact j_leaf ((!(r89.toList == a1.toList))) (Option.some.inj h) (by kernel_rfl)
          · have h := ite_t hb85 h
            refine a_gskip rfl (a_gskip rfl (a_gskip rfl (a_gskip rfl (a_gskip rfl (vp (.bool true) rfl (a_nil ?_))))))
            exact j_leaf true (Option.some.inj h) (by kernel_rfl)
      · have h := hy37
        refine sr (vp (.str a1) rfl (vp (i6 (a1.size : Int)) rfl (vp (i6 0) rfl (nx ⟨[(0, (i6 a0)), (1, (.str a1)), (4, (ow 4)), (6, (ow 6)), (17, (i6 (a1.size : Int))), (18, (i6 0))], [(4, (bk (eA64u8 ((vrep 64 (0 : Int)))))), (6, (bk (eA64u8 ((vrep 64 (0 : Int))))))]⟩ (by kernel_rfl) (a_block ?_)))))
        refine a_loop (emb := fun (s : (Int × (Vec Int 64))) => ⟨[(0, (i6 a0)), (1, (.str a1)), (4, (ow 4)), (6, (ow 6)), (17, (i6 (a1.size : Int))), (18, (i6 s.1))], [(4, (bk (eA64u8 ((vrep 64 (0 : Int)))))), (6, (bk (eA64u8 s.2)))]⟩) (body := (fun s : (Int × (Vec Int 64)) => impl_ParsePoly_l1 a1 s.1 s.2)) (G := fun q => some q = some y36) h rfl ?_ (by kernel_rfl)
        rintro X57 ⟨x47, x48⟩ x58 h hX59
        have h : impl_ParsePoly_l1 a1 x47 x48 = some x58 := h
        refine a_st (σ' := ⟨[(0, (i6 a0)), (1, (.str a1)), (4, (ow 4)), (6, (ow 6)), (17, (i6 (a1.size : Int))), (18, (i6 x47))], [(4, (bk (eA64u8 ((vrep 64 (0 : Int)))))), (6, (bk (eA64u8 x48)))]⟩) (by kernel_rfl) (sr (vp (.bool ((decide (x47 < (a1.size : Int))))) rfl (nx ⟨[(0, (i6 a0)), (1, (.str a1)), (4, (ow 4)), (6, (ow 6)), (17, (i6 (a1.size : Int))), (18, (i6 x47)), (19, (.bool ((decide (x47 < (a1.size : Int))))))], [(4, (bk (eA64u8 ((vrep 64 (0 : Int)))))), (6, (bk (eA64u8 x48)))]⟩ (by kernel_rfl) (a_seq ?_))))
        cases hb60 : (decide (x47 < (a1.size : Int)))
        · have h := ite_f hb60 h
          refine a_cond_f rfl (a_exit (t_exit ?_))
          cases h
          have h := hX59
          refine t_exit (b_exit ?_)
          exact j_leaf x48 (Option.some.inj h) (by kernel_rfl)
        · have h := ite_t hb60 h
          refine a_cond_t rfl (a_skip (a_next (σ' := ⟨[(0, (i6 a0)), (1, (.str a1)), (4, (ow 4)), (6, (ow 6)), (17, (i6 (a1.size : Int))), (18, (i6 x47))], [(4, (bk (eA64u8 ((vrep 64 (0 : Int)))))), (6, (bk (eA64u8 x48)))]⟩) (by kernel_rfl) (a_seq (a_block (sr (vp (i6 x47) rfl (vp (i6 x47) rfl (nx ⟨[(0, (i6 a0)), (1, (.str a1)), (4, (ow 4)), (6, (ow 6)), (7, (i6 x47)), (17, (i6 (a1.size : Int))), (18, (i6 x47))], [(4, (bk (eA64u8 ((vrep 64 (0 : Int)))))), (6, (bk (eA64u8 x48)))]⟩ (by kernel_rfl) (a_region ?_)))))))))
          refine vp (.str a1) rfl (vp (i6 (a1.size : Int)) rfl (vp (i6 (IntKind.i64.wrap ((a1.size : Int) - 1))) rfl (vp (i6 x47) rfl ?_)))
          obtain ⟨x61, hx62, h⟩ := letp_some h
          refine a_val' (v := (i6 (IntKind.i64.wrap ((IntKind.i64.wrap ((a1.size : Int) - 1)) - x47)))) (v' := (i6 x61)) (u := []) (u' := []) rfl (congrArg (fun z => ((i6 z) : AV)) hx62) rfl trivial rfl (vp (.str a1) rfl (vp (i6 x47) rfl ?_))
          obtain ⟨hc63, h⟩ := ifp_some h
          refine vq (b8 ((((a1).data.toList.getD x47.toNat 0).toNat : Int))) rfl hc63 ?_
          obtain ⟨x64, hx65, h⟩ := letp_some h
          refine a_val' (v := (b8 (IntKind.u8.wrap (((((a1).data.toList.getD x47.toNat 0).toNat : Int)) - 48)))) (v' := (b8 x64)) (u := []) (u' := []) rfl (congrArg (fun z => ((b8 z) : AV)) hx65) rfl trivial rfl ?_
          obtain ⟨hc66, h⟩ := ifp_some h
          refine vq (.own 6 [x61.toNat] [x61.toNat * 1]) rfl hc66 ?_
          have hs67 : StOk [x61.toNat] (eA64u8 x48) [x61.toNat * 1] 1 (b8 x64) (eA64u8 (vset x48 x61.toNat x64)) := (.arr (y := x64) (vlt x48 hc66) rfl (.nil rfl rfl rfl rfl))
          refine vu .top [(6, (bk (eA64u8 (vset x48 x61.toNat x64))))] (st_own (i := ⟨.int .u8, 1, 1, (.int .u8 0)⟩) rfl rfl (fun _ => rfl) rfl hs67) (hs67.c rfl) rfl (a_nil (b_norm (a_next (σ' := ⟨[(0, (i6 a0)), (1, (.str a1)), (4, (ow 4)), (6, (ow 6)), (17, (i6 (a1.size : Int))), (18, (i6 x47))], [(4, (bk (eA64u8 ((vrep 64 (0 : Int)))))), (6, (bk (eA64u8 (vset x48 x61.toNat x64))))]⟩) (by kernel_rfl) (a_region (vp (i6 (IntKind.i64.wrap (x47 + 1))) rfl (vp (i6 (IntKind.i64.wrap (x47 + 1))) rfl (a_nil ?_)))))))
          cases h
          exact a_again (by kernel_rfl) hX59
    · have h := ite_t hb4 h
      refine a_cond_t rfl (sr (vq (eA64u8 ((vrep 64 (0 : Int)))) rfl ⟨⟨_, rfl, rfl⟩, all_nil⟩ (vs (eA64u8 ((vrep 64 (0 : Int)))) rfl rfl (fun _ => rfl) rfl rfl rfl rfl rfl rfl (vp (i6 6) rfl (nx _ rfl (a_ret (t_ret ?_)))))))
      have hl98 : LdOk [] (eA64u8 ((vrep 64 (0 : Int)))) [] 64 true (eA64u8 ((vrep 64 (0 : Int)))) := (.nil rfl rfl rfl)
      refine ⟨.inr rfl, ?_⟩
      rw [Try.results27]
      cases h
      exact ⟨_, _, _, _, _, ld_own (i := ⟨.arr 64 5, 64, 64, (eA64u8 (vrep 64 (0 : Int)))⟩) rfl rfl rfl hl98, hl98.c, .inl ⟨rfl, .inl rfl⟩, rfl, ⟨_, _, _, _, _, rfl, trivial, .inl ⟨rfl, .inl rfl⟩, rfl, rfl⟩⟩
  · have h := ite_t hb3 h
    refine a_cond_t rfl (sr (vq (eA64u8 ((vrep 64 (0 : Int)))) rfl ⟨⟨_, rfl, rfl⟩, all_nil⟩ (vs (eA64u8 ((vrep 64 (0 : Int)))) rfl rfl (fun _ => rfl) rfl rfl rfl rfl rfl rfl (vp (i6 1) rfl (nx _ rfl (a_ret (t_ret ?_)))))))
    have hl100 : LdOk [] (eA64u8 ((vrep 64 (0 : Int)))) [] 64 true (eA64u8 ((vrep 64 (0 : Int)))) := (.nil rfl rfl rfl)
    refine ⟨.inr rfl, ?_⟩
    rw [Try.results27]
    cases h
    exact ⟨_, _, _, _, _, ld_own (i := ⟨.arr 64 5, 64, 64, (eA64u8 (vrep 64 (0 : Int)))⟩) rfl rfl rfl hl100, hl100.c, .inl ⟨rfl, .inl rfl⟩, rfl, ⟨_, _, _, _, _, rfl, trivial, .inl ⟨rfl, .inl rfl⟩, rfl, rfl⟩⟩
def spec_DrawAddPolys_c : ACode := (.seq (.region 0 [q 2 (.asg 0 (.const (.int .i64 0)) 2), q 3 (.alloc 25), q 4 (.alloc 25)] false) (.seq (.region 1 [q 9 (.mov (t 0)), q 10 (.call 0 (.func 99) [(t 9)]), q 8 (.mov (t 10)), q 11 (.extract (t 8) 0), q 12 (.extract (t 8) 1), q 13 (.extract (t 8) 2), q 6 (.alloc 25), q 7 (.alloc 25), q 5 (.asg 0 (t 11) 2), ⟨none, .store 25 (t 6) (t 12), none, []⟩, ⟨none, .store 25 (t 7) (t 13), none, []⟩] false) (.seq (.region 2 [q 14 (.mov (t 5)), q 15 (.load 25 (t 6)), q 16 (.load 25 (t 7)), ⟨some 2, .asg 0 (t 14) 2, none, [0, 0]⟩, ⟨none, .store 25 (t 3) (t 15), none, [1, 3, 0, 1, 3]⟩, ⟨none, .store 25 (t 4) (t 16), none, [2, 4, 0, 1, 2, 3, 4]⟩] true) .ret)))
def spec_DrawAddPolys_L : Live := [(0, [0]), (1, [0, 3, 4]), (2, [3, 4, 5, 6, 7])]
noncomputable def spec_DrawAddPolys (a0 : (List Int)) : Option (Int × (Vec Int 64) × (Vec Int 64)) :=
  (Option.bind (spec_l01Both a0) fun r1 => (some (r1.1, r1.2.1, r1.2.2)))
theorem spec_DrawAddPolys_ok (a0 : (List Int)) (r : (Int × (Vec Int 64) × (Vec Int 64))) (h : spec_DrawAddPolys a0 = some r) : Den Try.prog 28 [(eSu8 a0)] { r := (.tuple [(i6 r.1), (eA64u8 r.2.1), (eA64u8 r.2.2)]) } := by
  refine den_of (rs := [(i6 r.1), (eA64u8 r.2.1), (eA64u8 r.2.2)]) (ac := spec_DrawAddPolys_c) (L := spec_DrawAddPolys_L) (n := 17) (m := []) (c := Try.f28.body.getD .skip) good Try.func28 (by kernel_rfl) (by kernel_rfl) Try.ntmps28 rfl rfl (by kernel_rfl) rfl rfl ?_
  refine a_st (σ' := ⟨[(0, (eSu8 a0))], []⟩) (by kernel_rfl) ?_
  unfold spec_DrawAddPolys_c
  refine sr (vp (i6 0) rfl (vo 1300 (eA64u8 ((vrep 64 (0 : Int)))) rfl rfl (vo 1400 (eA64u8 ((vrep 64 (0 : Int)))) rfl rfl (nx ⟨[(0, (eSu8 a0)), (3, (ow 3)), (4, (ow 4))], [(3, (bk (eA64u8 ((vrep 64 (0 : Int)))))), (4, (bk (eA64u8 ((vrep 64 (0 : Int))))))]⟩ (by kernel_rfl) (sr (vp (eSu8 a0) rfl ?_))))))
  obtain ⟨r1, hr2, h⟩ := bind_some h
  refine a_call (args := [(eSu8 a0)]) (u := []) (r := (.tuple [(i6 r1.1), (eA64u8 r1.2.1), (eA64u8 r1.2.2)])) rfl rfl (spec_l01Both_ok a0 r1 hr2) rfl (vp (.tuple [(i6 r1.1), (eA64u8 r1.2.1), (eA64u8 r1.2.2)]) rfl (vb (i6 r1.1) rfl rfl (vb (eA64u8 r1.2.1) rfl rfl (vb (eA64u8 r1.2.2) rfl rfl (vo 1600 (eA64u8 ((vrep 64 (0 : Int)))) rfl rfl (vo 1700 (eA64u8 ((vrep 64 (0 : Int)))) rfl rfl (vp (i6 r1.1) rfl (vs (eA64u8 r1.2.1) rfl rfl (fun _ => rfl) rfl rfl rfl rfl rfl rfl (vs (eA64u8 r1.2.2) rfl rfl (fun _ => rfl) rfl rfl rfl rfl rfl rfl ?_)))))))))
  refine nx ⟨[(3, (ow 3)), (4, (ow 4)), (5, (i6 r1.1)), (6, (ow 6)), (7, (ow 7))], [(3, (bk (eA64u8 ((vrep 64 (0 : Int)))))), (4, (bk (eA64u8 ((vrep 64 (0 : Int)))))), (6, (bk (eA64u8 r1.2.1))), (7, (bk (eA64u8 r1.2.2)))]⟩ (by kernel_rfl) (a_seq (a_draw [⟨[], [], [], []⟩, ⟨[6], [], [], []⟩, ⟨[7], [], [], []⟩, ⟨[], [], [], [0]⟩, ⟨[3], [3], [], [0, 1, 3]⟩, ⟨[4], [4], [], [0, 1, 2, 3, 4]⟩] (by kernel_rfl) (dp (i6 r1.1) rfl (by kernel_rfl) (d_cons (vl (eA64u8 r1.2.1) rfl rfl rfl rfl rfl rfl (d_next (by kernel_rfl) (d_cons (vl (eA64u8 r1.2.2) rfl rfl rfl rfl rfl rfl (d_next (by kernel_rfl) ?_)))))))))
  refine dp (i6 r1.1) rfl (by kernel_rfl) (d_cons (vs (eA64u8 r1.2.1) rfl rfl (fun _ => rfl) rfl rfl rfl rfl rfl rfl (d_next (by kernel_rfl) (d_cons (vs (eA64u8 r1.2.2) rfl rfl (fun _ => rfl) rfl rfl rfl rfl rfl rfl (d_next (by kernel_rfl) (d_nil (a_next rfl (a_ret ?_)))))))))
  have hl13 : LdOk [] (eA64u8 r1.2.1) [] 64 true (eA64u8 r1.2.1) := (.nil rfl rfl rfl)
  have hl14 : LdOk [] (eA64u8 r1.2.2) [] 64 true (eA64u8 r1.2.2) := (.nil rfl rfl rfl)
  refine ⟨.inr rfl, ?_⟩
  rw [Try.results28]
  cases h
  exact ⟨_, _, _, _, _, rfl, trivial, .inl ⟨rfl, .inl rfl⟩, rfl, ⟨_, _, _, _, _, ld_own (i := ⟨.arr 64 5, 64, 64, (eA64u8 (vrep 64 (0 : Int)))⟩) rfl rfl rfl hl13, hl13.c, .inl ⟨rfl, .inl rfl⟩, rfl, ⟨_, _, _, _, _, ld_own (i := ⟨.arr 64 5, 64, 64, (eA64u8 (vrep 64 (0 : Int)))⟩) rfl rfl rfl hl14, hl14.c, .inl ⟨rfl, .inl rfl⟩, rfl, rfl⟩⟩⟩
def spec_l01Add_c : ACode := (.seq (.region 0 [q 5 (.box 25 (t 1)), q 6 (.box 25 (t 2)), q 8 (.alloc 25)] false) (.seq (.seq (.region 1 [q 9 (.asg 0 (.const (.int .i64 0)) 3)] false) (.block 0 (.loop (.seq (.seq (.region 2 [q 10 (.mov (t 9)), q 11 (.bin .lss 3 (t 10) (.const (.int .i64 64)))] false) (.cond (t 11) .skip (.exit 0))) (.seq (.block 1 (.region 4 [q 14 (.mov (t 9)), q 15 (.mov (t 9)), ⟨some 16, .indexAddr 25 (t 5) (t 15), none, [1]⟩, ⟨some 17, .load 5 (t 16), none, [2]⟩, ⟨some 18, .conv 5 2 (t 17), none, [3]⟩, q 19 (.mov (t 3)), q 20 (.mov (t 9)), ⟨some 21, .indexAddr 25 (t 6) (t 20), none, [6]⟩, ⟨some 22, .load 5 (t 21), none, [7]⟩, ⟨some 23, .conv 5 2 (t 22), none, [8]⟩, ⟨some 24, .bin .mul 2 (t 19) (t 23), none, [5, 9]⟩, ⟨some 25, .bin .add 2 (t 18) (t 24), none, [4, 10]⟩, q 26 (.mov (t 0)), ⟨some 27, .bin .rem 2 (t 25) (t 26), none, [11, 12]⟩, q 28 (.mov (t 0)), ⟨some 29, .bin .add 2 (t 27) (t 28), none, [13, 14]⟩, q 30 (.mov (t 0)), ⟨some 31, .bin .rem 2 (t 29) (t 30), none, [15, 16]⟩, ⟨some 32, .conv 2 5 (t 31), none, [17]⟩, ⟨some 33, .indexAddr 25 (t 5) (t 14), none, [0, 0, 1, 2, 3, 4, 5, 6, 7, 8, 9, 10, 11, 12, 13, 14, 15, 16, 17, 18]⟩, ⟨none, .store 5 (t 33) (t 32), none, [19, 18, 0, 1, 2, 3, 4, 5, 6, 7, 8, 9, 10, 11, 12, 13, 14, 15, 16, 17, 18]⟩] true)) (.region 3 [q 12 (.mov (t 9)), q 13 (.bin .add 3 (t 12) (.const (.int .i64 1))), q 9 (.asg 0 (t 13) 3)] false)))))) (.seq (.region 5 [q 34 (.load 25 (t 5)), ⟨none, .store 25 (t 8) (t 34), none, []⟩] false) .ret)))
def spec_l01Add_L : Live := [(0, [0, 1, 2, 3]), (1, [0, 3, 5, 6, 8]), (2, [0, 3, 5, 6, 8, 9]), (3, [0, 3, 5, 6, 8, 9]), (4, [0, 3, 5, 6, 8, 9]), (5, [5, 8]), (100011, [0, 3, 5, 6, 8, 9, 11])]
noncomputable def spec_l01Add_l1 (a3 : Int) (a2 : (Vec Int 64)) (a0 : Int) (x127 : Int) (x128 : (Vec Int 64)) : Option ((Int × (Vec Int 64)) ⊕ (Vec Int 64)) :=
  (if (decide (x127 < 64)) then (ifp (0 ≤ x127 ∧ x127 < ((64 : Nat) : Int)) ((ifp (0 ≤ x127 ∧ x127 < ((64 : Nat) : Int)) ((letp (IntKind.i64.wrap (a3 * (IntKind.i64.wrap (rd a2.1 x127.toNat)))) fun x180 => (letp (IntKind.i64.wrap ((IntKind.i64.wrap (rd x128.1 x127.toNat)) + x180)) fun x182 => (ifp (a0 ≠ 0) ((ifp (a0 ≠ 0) ((letp (IntKind.u8.wrap (Int.tmod (IntKind.i64.wrap ((Int.tmod x182 a0) + a0)) a0)) fun x186 => (ifp (0 ≤ x127 ∧ x127 < ((64 : Nat) : Int)) ((some (.inl ((IntKind.i64.wrap (x127 + 1), (vset x128 x127.toNat x186)))))))))))))))))) else (some (.inr x128)))
noncomputable def spec_l01Add (a0 : Int) (a1 : (Vec Int 64)) (a2 : (Vec Int 64)) (a3 : Int) : Option (Vec Int 64) :=
  (Option.bind (α := (Vec Int 64)) ((loopM (fun s : (Int × (Vec Int 64)) => spec_l01Add_l1 a3 a2 a0 s.1 s.2) (0, a1))) fun x94 => (some x94))
theorem spec_l01Add_ok (a0 : Int) (a1 : (Vec Int 64)) (a2 : (Vec Int 64)) (a3 : Int) (r : (Vec Int 64)) (h : spec_l01Add a0 a1 a2 a3 = some r) : Den Try.prog 121 [(i6 a0), (eA64u8 a1), (eA64u8 a2), (i6 a3)] { r := (eA64u8 r) } := by
  refine den_of (rs := [(eA64u8 r)]) (ac := spec_l01Add_c) (L := spec_l01Add_L) (n := 35) (m := []) (c := Try.f121.body.getD .skip) good Try.func121 (by kernel_rfl) (by kernel_rfl) Try.ntmps121 rfl rfl (by kernel_rfl) rfl rfl ?_
  refine a_st (σ' := ⟨[(0, (i6 a0)), (1, (eA64u8 a1)), (2, (eA64u8 a2)), (3, (i6 a3))], []⟩) (by kernel_rfl) ?_
  unfold spec_l01Add_c
  refine sr (vo 1500 (eA64u8 a1) rfl rfl (vo 1600 (eA64u8 a2) rfl rfl (vo 1800 (eA64u8 ((vrep 64 (0 : Int)))) rfl rfl (nx ⟨[(0, (i6 a0)), (3, (i6 a3)), (5, (ow 5)), (6, (ow 6)), (8, (ow 8))], [(5, (bk (eA64u8 a1))), (6, (bk (eA64u8 a2))), (8, (bk (eA64u8 ((vrep 64 (0 : Int))))))]⟩ (by kernel_rfl) ?_))))
  obtain ⟨y95, hy96, hk97⟩ := bind_some h
  clear h
  refine a_join (emb := fun (s : (Vec Int 64)) => ⟨[(5, (ow 5)), (8, (ow 8))], [(5, (bk (eA64u8 s))), (8, (bk (eA64u8 ((vrep 64 (0 : Int))))))]⟩) (pre := fun s => s = y95) ?_ ?_
  · rintro x94 rfl
    have h := hk97
    refine a_st (σ' := ⟨[(5, (ow 5)), (8, (ow 8))], [(5, (bk (eA64u8 x94))), (8, (bk (eA64u8 ((vrep 64 (0 : Int))))))]⟩) (by kernel_rfl) (sr (vl (eA64u8 x94) rfl rfl rfl rfl rfl rfl (vs (eA64u8 x94) rfl rfl (fun _ => rfl) rfl rfl rfl rfl rfl rfl (nx _ rfl (a_ret ?_)))))
    have hl193 : LdOk [] (eA64u8 x94) [] 64 true (eA64u8 x94) := (.nil rfl rfl rfl)
    refine ⟨.inr rfl, ?_⟩
    rw [Try.results121]
    cases h
    exact ⟨_, _, _, _, _, ld_own (i := ⟨.arr 64 5, 64, 64, (eA64u8 (vrep 64 (0 : Int)))⟩) rfl rfl rfl hl193, hl193.c, .inl ⟨rfl, .inl rfl⟩, rfl, rfl⟩
  · have h := hy96
    refine sr (vp (i6 0) rfl (nx ⟨[(0, (i6 a0)), (3, (i6 a3)), (5, (ow 5)), (6, (ow 6)), (8, (ow 8)), (9, (i6 0))], [(5, (bk (eA64u8 a1))), (6, (bk (eA64u8 a2))), (8, (bk (eA64u8 ((vrep 64 (0 : Int))))))]⟩ (by kernel_rfl) (a_block ?_)))
    refine a_loop (emb := fun (s : (Int × (Vec Int 64))) => ⟨[(0, (i6 a0)), (3, (i6 a3)), (5, (ow 5)), (6, (ow 6)), (8, (ow 8)), (9, (i6 s.1))], [(5, (bk (eA64u8 s.2))), (6, (bk (eA64u8 a2))), (8, (bk (eA64u8 ((vrep 64 (0 : Int))))))]⟩) (body := (fun s : (Int × (Vec Int 64)) => spec_l01Add_l1 a3 a2 a0 s.1 s.2)) (G := fun q => some q = some y95) h rfl ?_ (by kernel_rfl)
    rintro X158 ⟨x127, x128⟩ x159 h hX160
    have h : spec_l01Add_l1 a3 a2 a0 x127 x128 = some x159 := h
    refine a_st (σ' := ⟨[(0, (i6 a0)), (3, (i6 a3)), (5, (ow 5)), (6, (ow 6)), (8, (ow 8)), (9, (i6 x127))], [(5, (bk (eA64u8 x128))), (6, (bk (eA64u8 a2))), (8, (bk (eA64u8 ((vrep 64 (0 : Int))))))]⟩) (by kernel_rfl) (a_seq (sr (vp (i6 x127) rfl (vp (.bool ((decide (x127 < 64)))) rfl (nx ⟨[(0, (i6 a0)), (3, (i6 a3)), (5, (ow 5)), (6, (ow 6)), (8, (ow 8)), (9, (i6 x127)), (11, (.bool ((decide (x127 < 64)))))], [(5, (bk (eA64u8 x128))), (6, (bk (eA64u8 a2))), (8, (bk (eA64u8 ((vrep 64 (0 : Int))))))]⟩ (by kernel_rfl) ?_)))))
    cases hb161 : (decide (x127 < 64))
    · have h := ite_f hb161 h
      refine a_cond_f rfl (a_exit (t_exit ?_))
      cases h
      have h := hX160
      refine t_exit (b_exit ?_)
      exact j_leaf x128 (Option.some.inj h) (by kernel_rfl)
    · have h := ite_t hb161 h
      refine a_cond_t rfl (a_skip (a_next (σ' := ⟨[(0, (i6 a0)), (3, (i6 a3)), (5, (ow 5)), (6, (ow 6)), (8, (ow 8)), (9, (i6 x127))], [(5, (bk (eA64u8 x128))), (6, (bk (eA64u8 a2))), (8, (bk (eA64u8 ((vrep 64 (0 : Int))))))]⟩) (by kernel_rfl) (a_seq (a_block (a_draw [⟨[], [], [], []⟩, ⟨[], [], [], []⟩, ⟨[5], [], [5], [1]⟩, ⟨[5], [], [], [1, 2]⟩, ⟨[], [], [], [1, 2, 3]⟩, ⟨[], [], [], []⟩, ⟨[], [], [], []⟩, ⟨[6], [], [6], [6]⟩, ⟨[6], [], [], [6, 7]⟩, ⟨[], [], [], [6, 7, 8]⟩, ⟨[], [], [], [5, 6, 7, 8, 9]⟩, ⟨[], [], [], [1, 2, 3, 4, 5, 6, 7, 8, 9, 10]⟩, ⟨[], [], [], []⟩, ⟨[], [], [], [1, 2, 3, 4, 5, 6, 7, 8, 9, 10, 11, 12]⟩, ⟨[], [], [], []⟩, ⟨[], [], [], [1, 2, 3, 4, 5, 6, 7, 8, 9, 10, 11, 12, 13, 14]⟩, ⟨[], [], [], []⟩, ⟨[], [], [], [1, 2, 3, 4, 5, 6, 7, 8, 9, 10, 11, 12, 13, 14, 15, 16]⟩, ⟨[], [], [], [1, 2, 3, 4, 5, 6, 7, 8, 9, 10, 11, 12, 13, 14, 15, 16, 17]⟩, ⟨[5], [], [5], [0, 1, 2, 3, 4, 5, 6, 7, 8, 9, 10, 11, 12, 13, 14, 15, 16, 17, 18]⟩, ⟨[5], [5], [], [0, 1, 2, 3, 4, 5, 6, 7, 8, 9, 10, 11, 12, 13, 14, 15, 16, 17, 18, 19]⟩] (by kernel_rfl) (dp (i6 x127) rfl (by kernel_rfl) (dp (i6 x127) rfl (by kernel_rfl) (d_cons ?_))))))))
      obtain ⟨hc176, h⟩ := ifp_some h
      refine vq (.own 5 [x127.toNat] [x127.toNat * 1]) rfl hc176 (d_next (by kernel_rfl) (d_cons ?_))
      have hl177 : LdOk [x127.toNat] (eA64u8 x128) [x127.toNat * 1] 1 false (b8 (rd x128.1 x127.toNat)) := (.arr (vlt x128 hc176) rfl (.nil rfl rfl rfl))
      refine vq (b8 (rd x128.1 x127.toNat)) (ld_own (i := ⟨.int .u8, 1, 1, (.int .u8 0)⟩) rfl rfl rfl hl177) hl177.c (d_next (by kernel_rfl) (dp (i6 (IntKind.i64.wrap (rd x128.1 x127.toNat))) rfl (by kernel_rfl) (dp (i6 a3) rfl (by kernel_rfl) (dp (i6 x127) rfl (by kernel_rfl) (d_cons ?_)))))
      obtain ⟨hc178, h⟩ := ifp_some h
      refine vq (.own 6 [x127.toNat] [x127.toNat * 1]) rfl hc178 (d_next (by kernel_rfl) (d_cons ?_))
      have hl179 : LdOk [x127.toNat] (eA64u8 a2) [x127.toNat * 1] 1 false (b8 (rd a2.1 x127.toNat)) := (.arr (vlt a2 hc178) rfl (.nil rfl rfl rfl))
      refine vq (b8 (rd a2.1 x127.toNat)) (ld_own (i := ⟨.int .u8, 1, 1, (.int .u8 0)⟩) rfl rfl rfl hl179) hl179.c (d_next (by kernel_rfl) (dp (i6 (IntKind.i64.wrap (rd a2.1 x127.toNat))) rfl (by kernel_rfl) (d_cons ?_)))
      obtain ⟨x180, hx181, h⟩ := letp_some h
      refine a_val' (v := (i6 (IntKind.i64.wrap (a3 * (IntKind.i64.wrap (rd a2.1 x127.toNat)))))) (v' := (i6 x180)) (u := []) (u' := []) rfl (congrArg (fun z => ((i6 z) : AV)) hx181) rfl trivial rfl (d_next (by kernel_rfl) (d_cons ?_))
      obtain ⟨x182, hx183, h⟩ := letp_some h
      refine a_val' (v := (i6 (IntKind.i64.wrap ((IntKind.i64.wrap (rd x128.1 x127.toNat)) + x180)))) (v' := (i6 x182)) (u := []) (u' := []) rfl (congrArg (fun z => ((i6 z) : AV)) hx183) rfl trivial rfl (d_next (by kernel_rfl) (dp (i6 a0) rfl (by kernel_rfl) (d_cons ?_)))
      obtain ⟨hc184, h⟩ := ifp_some h
      refine vq (i6 (Int.tmod x182 a0)) rfl hc184 (d_next (by kernel_rfl) (dp (i6 a0) rfl (by kernel_rfl) (dp (i6 (IntKind.i64.wrap ((Int.tmod x182 a0) + a0))) rfl (by kernel_rfl) (dp (i6 a0) rfl (by kernel_rfl) (d_cons ?_)))))
      obtain ⟨hc185, h⟩ := ifp_some h
      refine vq (i6 (Int.tmod (IntKind.i64.wrap ((Int.tmod x182 a0) + a0)) a0)) rfl hc185 (d_next (by kernel_rfl) (d_cons ?_))
      obtain ⟨x186, hx187, h⟩ := letp_some h
      refine a_val' (v := (b8 (IntKind.u8.wrap (Int.tmod (IntKind.i64.wrap ((Int.tmod x182 a0) + a0)) a0)))) (v' := (b8 x186)) (u := []) (u' := []) rfl (congrArg (fun z => ((b8 z) : AV)) hx187) rfl trivial rfl (d_next (by kernel_rfl) (d_cons ?_))
      obtain ⟨hc188, h⟩ := ifp_some h
      refine vq (.own 5 [x127.toNat] [x127.toNat * 1]) rfl hc188 (d_next (by kernel_rfl) (d_cons ?_))
      have hs189 : StOk [x127.toNat] (eA64u8 x128) [x127.toNat * 1] 1 (b8 x186) (eA64u8 (vset x128 x127.toNat x186)) := (.arr (y := x186) (vlt x128 hc188) rfl (.nil rfl rfl rfl rfl))
      refine vu .top [(5, (bk (eA64u8 (vset x128 x127.toNat x186))))] (st_own (i := ⟨.int .u8, 1, 1, (.int .u8 0)⟩) rfl rfl (fun _ => rfl) rfl hs189) (hs189.c rfl) rfl (d_next (by kernel_rfl) (d_nil (b_norm (a_next (σ' := ⟨[(0, (i6 a0)), (3, (i6 a3)), (5, (ow 5)), (6, (ow 6)), (8, (ow 8)), (9, (i6 x127))], [(5, (bk (eA64u8 (vset x128 x127.toNat x186)))), (6, (bk (eA64u8 a2))), (8, (bk (eA64u8 ((vrep 64 (0 : Int))))))]⟩) (by kernel_rfl) (a_region (vp (i6 x127) rfl (vp (i6 (IntKind.i64.wrap (x127 + 1))) rfl (vp (i6 (IntKind.i64.wrap (x127 + 1))) rfl (a_nil ?_)))))))))
      cases h
      exact a_again (by kernel_rfl) hX160
def spec_AddPolys_c : ACode := (.seq (.region 0 [q 4 (.box 25 (t 1)), q 5 (.box 25 (t 2)), q 6 (.alloc 25), q 7 (.asg 0 (.const (.int .i64 0)) 2)] false) (.seq (.seq (.region 1 [q 9 (.mov (t 0)), q 10 (.load 25 (t 4)), q 11 (.load 25 (t 5)), q 12 (.bslice 0 55 2 [(0, (t 10)), (1, (t 11))]), q 13 (.call 0 (.func 104) [(t 9), (t 12)]), q 8 (.asg 0 (t 13) 2)] false) (.seq (.region 2 [q 14 (.mov (t 8)), q 15 (.bin .neq 2 (t 14) (.const (.int .i64 0)))] false) (.cond (t 15) (.seq (.region 3 [q 16 (.build 25 []), q 17 (.mov (t 8)), ⟨none, .store 25 (t 6) (t 16), none, []⟩, q 7 (.asg 0 (t 17) 2)] false) .ret) .skip))) (.seq (.region 4 [q 18 (.mov (t 0)), q 19 (.load 25 (t 4)), q 20 (.load 25 (t 5)), q 21 (.call 0 (.func 121) [(t 18), (t 19), (t 20), (.const (.int .i64 1))]), ⟨none, .store 25 (t 6) (t 21), none, []⟩, q 7 (.asg 0 (.const (.int .i64 0)) 2)] false) .ret)))
def spec_AddPolys_L : Live := [(0, [0, 1, 2]), (1, [0, 4, 5, 6]), (2, [0, 4, 5, 6, 8]), (3, [6, 8]), (4, [0, 4, 5, 6]), (100015, [0, 4, 5, 6, 8, 15])]
noncomputable def spec_AddPolys (a0 : Int) (a1 : (Vec Int 64)) (a2 : (Vec Int 64)) : Option ((Vec Int 64) × Int) :=
  (Option.bind (spec_l01Code a0 ([a1, a2])) fun r3 => (if (r3 != 0) then (some (((vrep 64 (0 : Int)), r3))) else (Option.bind (spec_l01Add a0 a1 a2 1) fun r8 => (some (r8, 0)))))
theorem spec_AddPolys_ok (a0 : Int) (a1 : (Vec Int 64)) (a2 : (Vec Int 64)) (r : ((Vec Int 64) × Int)) (h : spec_AddPolys a0 a1 a2 = some r) : Den Try.prog 29 [(i6 a0), (eA64u8 a1), (eA64u8 a2)] { r := (.tuple [(eA64u8 r.1), (i6 r.2)]) } := by
  refine den_of (rs := [(eA64u8 r.1), (i6 r.2)]) (ac := spec_AddPolys_c) (L := spec_AddPolys_L) (n := 22) (m := []) (c := Try.f29.body.getD .skip) good Try.func29 (by kernel_rfl) (by kernel_rfl) Try.ntmps29 rfl rfl (by kernel_rfl) rfl rfl ?_
  refine a_st (σ' := ⟨[(0, (i6 a0)), (1, (eA64u8 a1)), (2, (eA64u8 a2))], []⟩) (by kernel_rfl) ?_
  unfold spec_AddPolys_c
  refine sr (vo 1400 (eA64u8 a1) rfl rfl (vo 1500 (eA64u8 a2) rfl rfl (vo 1600 (eA64u8 ((vrep 64 (0 : Int)))) rfl rfl (vp (i6 0) rfl (nx ⟨[(0, (i6 a0)), (4, (ow 4)), (5, (ow 5)), (6, (ow 6))], [(4, (bk (eA64u8 a1))), (5, (bk (eA64u8 a2))), (6, (bk (eA64u8 ((vrep 64 (0 : Int))))))]⟩ (by kernel_rfl) (a_seq (sr (vp (i6 a0) rfl (vl (eA64u8 a1) rfl rfl rfl rfl rfl rfl ?_)))))))))
  refine vl (eA64u8 a2) rfl rfl rfl rfl rfl rfl (vq (.sl 64 true (([a1, a2]).map eA64u8)) rfl ⟨(Nat.le_of_ble_eq_true rfl), (Nat.le_of_ble_eq_true rfl), (all_cons ⟨(Nat.le_of_ble_eq_true rfl), rfl⟩ (all_cons ⟨(Nat.le_of_ble_eq_true rfl), rfl⟩ all_nil))⟩ ?_)
  obtain ⟨r3, hr4, h⟩ := bind_some h
  refine a_call (args := [(i6 a0), (.sl 64 true (([a1, a2]).map eA64u8))]) (u := []) (r := (i6 r3)) rfl rfl (Den.args (spec_l01Code_ok a0 ([a1, a2]) r3 hr4) rfl rfl (.cons (.refl _) (.cons (.loose _) .nil))) rfl (vp (i6 r3) rfl (nx ⟨[(0, (i6 a0)), (4, (ow 4)), (5, (ow 5)), (6, (ow 6)), (8, (i6 r3))], [(4, (bk (eA64u8 a1))), (5, (bk (eA64u8 a2))), (6, (bk (eA64u8 ((vrep 64 (0 : Int))))))]⟩ (by kernel_rfl) (sr (vp (i6 r3) rfl (vp (.bool (r3 != 0)) rfl (nx ⟨[(0, (i6 a0)), (4, (ow 4)), (5, (ow 5)), (6, (ow 6)), (8, (i6 r3)), (15, (.bool (r3 != 0)))], [(4, (bk (eA64u8 a1))), (5, (bk (eA64u8 a2))), (6, (bk (eA64u8 ((vrep 64 (0 : Int))))))]⟩ (by kernel_rfl) ?_))))))
  cases hb5 : (r3 != 0)
  · have h := ite_f hb5 h
    refine a_cond_f rfl (a_skip (a_next (σ' := ⟨[(0, (i6 a0)), (4, (ow 4)), (5, (ow 5)), (6, (ow 6))], [(4, (bk (eA64u8 a1))), (5, (bk (eA64u8 a2))), (6, (bk (eA64u8 ((vrep 64 (0 : Int))))))]⟩) (by kernel_rfl) (sr (vp (i6 a0) rfl (vl (eA64u8 a1) rfl rfl rfl rfl rfl rfl (vl (eA64u8 a2) rfl rfl rfl rfl rfl rfl ?_))))))
    obtain ⟨r8, hr9, h⟩ := bind_some h
    refine a_call (args := [(i6 a0), (eA64u8 a1), (eA64u8 a2), (i6 1)]) (u := []) (r := (eA64u8 r8)) rfl rfl (spec_l01Add_ok a0 a1 a2 1 r8 hr9) rfl (vs (eA64u8 r8) rfl rfl (fun _ => rfl) rfl rfl rfl rfl rfl rfl (vp (i6 0) rfl (nx _ rfl (a_ret ?_))))
    have hl11 : LdOk [] (eA64u8 r8) [] 64 true (eA64u8 r8) := (.nil rfl rfl rfl)
    refine ⟨.inr rfl, ?_⟩
    rw [Try.results29]
    cases h
    exact ⟨_, _, _, _, _, ld_own (i := ⟨.arr 64 5, 64, 64, (eA64u8 (vrep 64 (0 : Int)))⟩) rfl rfl rfl hl11, hl11.c, .inl ⟨rfl, .inl rfl⟩, rfl, ⟨_, _, _, _, _, rfl, trivial, .inl ⟨rfl, .inl rfl⟩, rfl, rfl⟩⟩
  · have h := ite_t hb5 h
    refine a_cond_t rfl (sr (vq (eA64u8 ((vrep 64 (0 : Int)))) rfl ⟨⟨_, rfl, rfl⟩, all_nil⟩ (vp (i6 r3) rfl (vs (eA64u8 ((vrep 64 (0 : Int)))) rfl rfl (fun _ => rfl) rfl rfl rfl rfl rfl rfl (vp (i6 r3) rfl (nx _ rfl (a_ret (t_ret ?_))))))))
    have hl13 : LdOk [] (eA64u8 ((vrep 64 (0 : Int)))) [] 64 true (eA64u8 ((vrep 64 (0 : Int)))) := (.nil rfl rfl rfl)
    refine ⟨.inr rfl, ?_⟩
    rw [Try.results29]
    cases h
    exact ⟨_, _, _, _, _, ld_own (i := ⟨.arr 64 5, 64, 64, (eA64u8 (vrep 64 (0 : Int)))⟩) rfl rfl rfl hl13, hl13.c, .inl ⟨rfl, .inl rfl⟩, rfl, ⟨_, _, _, _, _, rfl, trivial, .inl ⟨rfl, .inl rfl⟩, rfl, rfl⟩⟩
end Go.Proofs.Ytkbnegemdlnncaa
