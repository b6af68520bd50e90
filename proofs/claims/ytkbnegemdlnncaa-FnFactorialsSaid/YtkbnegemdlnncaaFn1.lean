/- Functions of the program: plain Lean functions, and that the program computes them. Printed by gen.py. -/
import Derived.Test.YtkbnegemdlnncaaFnT
namespace Go.Proofs.Ytkbnegemdlnncaa
open Go.Abs Go.Proofs
set_option linter.unusedSimpArgs false
set_option linter.unusedVariables false
set_option maxHeartbeats 16000000
attribute [local irreducible] Abs.acode Abs.aops Abs.aopsT Abs.thenK Abs.blockK

def laws_big_c : ACode := (.seq (.region 0 [q 2 (.asg 0 (.const (.bool false)) 4)] false) (.seq (.region 1 [q 3 (.mov (t 0)), q 4 (.blt 0 .len [(t 3)] [22]), q 5 (.bin .gtr 3 (t 4) (.const (.int .i64 4096))), q 2 (.asg 0 (t 5) 4)] false) .ret))
def laws_big_L : Live := [(0, [0]), (1, [0])]
noncomputable def laws_big (a0 : (List Int)) : Option Bool :=
  (some ((decide ((a0.length : Int) > 4096))))
theorem laws_big_ok (a0 : (List Int)) (r : Bool) (h : laws_big a0 = some r) : Den Try.prog 10 [(eSu8 a0)] { r := (.bool r) } := by
  refine den_of (rs := [(.bool r)]) (ac := laws_big_c) (L := laws_big_L) (n := 6) (m := []) (c := Try.f10.body.getD .skip) good Try.func10 (by kernel_rfl) (by kernel_rfl) Try.ntmps10 rfl rfl (by kernel_rfl) rfl rfl ?_
  refine a_st (σ' := ⟨[(0, (eSu8 a0))], []⟩) (by kernel_rfl) ?_
  unfold laws_big_c
  refine sr (vp (.bool false) rfl (nx ⟨[(0, (eSu8 a0))], []⟩ (by kernel_rfl) (sr (vp (eSu8 a0) rfl (vq (i6 (a0.length : Int)) (len_run rfl rfl) trivial (vp (.bool ((decide ((a0.length : Int) > 4096)))) rfl (vp (.bool ((decide ((a0.length : Int) > 4096)))) rfl (nx _ rfl (a_ret ?_)))))))))
  refine ⟨.inr rfl, ?_⟩
  rw [Try.results10]
  cases h
  exact ⟨_, _, _, _, _, rfl, trivial, .inl ⟨rfl, .inl rfl⟩, rfl, rfl⟩
def spec_l01From_c : ACode := (.seq (.region 0 [q 2 (.asg 0 (.const (.pointer none)) 96)] false) (.seq (.region 1 [q 5 (.mov (t 0)), q 6 (.mov (t 0)), q 7 (.blt 0 .len [(t 6)] [22]), q 8 (.conv 3 153 (t 7)), q 9 (.bin .add 153 (.const (.int .u64 12251)) (t 8)), q 10 (.build 155 [(0, (t 5)), (2, (t 9))]), q 11 (.box 155 (t 10)), q 3 (.asg 0 (t 11) 96)] false) (.seq (.seq (.region 2 [q 4 (.asg 0 (.const (.int .i64 0)) 3)] false) (.block 0 (.loop (.seq (.seq (.region 3 [q 12 (.mov (t 4)), q 13 (.mov (t 0)), q 14 (.blt 0 .len [(t 13)] [22]), q 15 (.bin .lss 3 (t 12) (t 14)), q 16 (.mov (t 15)), ⟨some 17, .mov (t 4), some (16, true), []⟩, ⟨some 18, .bin .lss 3 (t 17) (.const (.int .i64 4096)), some (16, true), []⟩, q 19 (.pick (t 16) (t 18) (.const (.bool false)))] false) (.cond (t 19) .skip (.exit 0))) (.seq (.block 1 (.region 5 [q 22 (.mov (t 3)), q 23 (.mov (t 3)), ⟨some 24, .nilCheck (t 23), none, [1]⟩, ⟨some 25, .fieldAddr 155 (t 24) 2, none, [2]⟩, ⟨some 26, .load 153 (t 25), none, [3]⟩, ⟨some 27, .bin .mul 153 (t 26) (.const (.int .u64 1099511628211)), none, [4]⟩, q 28 (.mov (t 0)), q 29 (.mov (t 4)), ⟨some 30, .indexAddr 22 (t 28) (t 29), none, [6, 7]⟩, ⟨some 31, .load 5 (t 30), none, [8]⟩, ⟨some 32, .conv 5 153 (t 31), none, [9]⟩, ⟨some 33, .bin .add 153 (t 27) (t 32), none, [5, 10]⟩, ⟨some 34, .bin .add 153 (t 33) (.const (.int .u64 61)), none, [11]⟩, ⟨some 35, .nilCheck (t 22), none, [0, 0, 1, 2, 3, 4, 5, 6, 7, 8, 9, 10, 11, 12]⟩, ⟨some 36, .fieldAddr 155 (t 35) 2, none, [13, 0, 1, 2, 3, 4, 5, 6, 7, 8, 9, 10, 11, 12]⟩, ⟨none, .store 153 (t 36) (t 34), none, [14, 12, 0, 1, 2, 3, 4, 5, 6, 7, 8, 9, 10, 11, 12]⟩] true)) (.region 4 [q 20 (.mov (t 4)), q 21 (.bin .add 3 (t 20) (.const (.int .i64 1))), q 4 (.asg 0 (t 21) 3)] false)))))) (.seq (.region 6 [q 37 (.mov (t 3)), q 2 (.asg 0 (t 37) 96)] false) .ret))))
def spec_l01From_L : Live := [(0, [0]), (1, [0]), (2, [0, 3]), (3, [0, 3, 4]), (4, [0, 3, 4]), (5, [0, 3, 4]), (6, [3]), (100019, [0, 3, 4, 19])]
noncomputable def spec_l01From_l1 (a0 : (List Int)) (x89 : Int) (x90 : ((List Int) × Int × Int)) : Option ((Int × ((List Int) × Int × Int)) ⊕ ((List Int) × Int × Int)) :=
  (Option.bind (α := Bool) ((if (decide (x89 < (a0.length : Int))) then (some ((decide (x89 < 4096)))) else (some false))) fun x114 => (if x114 then (ifp (0 ≤ x89 ∧ x89 < ((a0.length : Nat) : Int)) ((letp (IntKind.u64.wrap ((IntKind.u64.wrap (x90.2.2 * 1099511628211)) + (IntKind.u64.wrap (rd a0 x89.toNat)))) fun x129 => (some (.inl ((IntKind.i64.wrap (x89 + 1), (x90.1, x90.2.1, IntKind.u64.wrap (x129 + 61))))))))) else (some (.inr x90))))
noncomputable def spec_l01From (a0 : (List Int)) : Option ((List Int) × Int × Int) :=
  (letp (IntKind.u64.wrap (12251 + (IntKind.u64.wrap (a0.length : Int)))) fun x1 => (Option.bind (α := ((List Int) × Int × Int)) ((loopM (fun s : (Int × ((List Int) × Int × Int)) => spec_l01From_l1 a0 s.1 s.2) (0, (a0, (0 : Int), x1)))) fun x66 => (some x66)))
theorem spec_l01From_ok (a0 : (List Int)) (r : ((List Int) × Int × Int)) (h : spec_l01From a0 = some r) : Den Try.prog 116 [(eSu8 a0)] { r := (ow 2000000), ms := [], fs := [(0, [eT_Su8_i64_u64_Z r])] } := by
  refine den_ofX (rs := [(ow 2000000)]) (ac := spec_l01From_c) (L := spec_l01From_L) (n := 38) (m := []) (c := Try.f116.body.getD .skip) good Try.func116 (by kernel_rfl) (by kernel_rfl) Try.ntmps116 rfl rfl (by kernel_rfl) rfl ?_
  refine a_st (σ' := ⟨[(0, (eSu8 a0))], []⟩) (by kernel_rfl) ?_
  unfold spec_l01From_c
  refine sr (vp (.raw (.pointer none)) rfl (nx ⟨[(0, (eSu8 a0))], []⟩ (by kernel_rfl) (sr (vp (eSu8 a0) rfl (vp (eSu8 a0) rfl (vq (i6 (a0.length : Int)) (len_run rfl rfl) trivial (vp (.int .u64 (IntKind.u64.wrap (a0.length : Int))) rfl ?_)))))))
  obtain ⟨x1, hx2, h⟩ := letp_some h
  refine a_val' (v := (.int .u64 (IntKind.u64.wrap (12251 + (IntKind.u64.wrap (a0.length : Int)))))) (v' := (.int .u64 x1)) (u := []) (u' := []) rfl (congrArg (fun z => ((.int .u64 z) : AV)) hx2) rfl trivial rfl (vq (eT_Su8_i64_u64_Z ((a0, (0 : Int), x1))) rfl ⟨rfl, (all_cons ⟨(Nat.le_of_ble_eq_true rfl), rfl⟩ (all_cons ⟨(Nat.le_of_ble_eq_true rfl), rfl⟩ all_nil))⟩ (vo 2100 (eT_Su8_i64_u64_Z ((a0, (0 : Int), x1))) rfl rfl (vp (ow 2100) rfl (nx ⟨[(0, (eSu8 a0)), (3, (ow 3))], [(3, (bk (eT_Su8_i64_u64_Z ((a0, (0 : Int), x1)))))]⟩ (by kernel_rfl) ?_))))
  obtain ⟨y67, hy68, hk69⟩ := bind_some h
  clear h
  refine a_join (emb := fun (s : ((List Int) × Int × Int)) => ⟨[(3, (ow 3))], [(3, (bk (eT_Su8_i64_u64_Z s)))]⟩) (pre := fun s => s = y67) ?_ ?_
  · rintro x66 rfl
    have h := hk69
    refine a_st (σ' := ⟨[(3, (ow 3))], [(3, (bk (eT_Su8_i64_u64_Z x66)))]⟩) (by kernel_rfl) (sr (vp (ow 3) rfl (vp (ow 3) rfl (nx _ rfl (a_ret ?_)))))
    refine ⟨.inr rfl, ?_⟩
    rw [Try.results116]
    cases h
    exact ⟨[some 3], ⟨_, _, _, _, _, rfl, trivial, rfl, .inr (.inr (.inl ⟨_, _, _, _, rfl, rfl, rfl, rfl, rfl, ⟨rfl, rfl, rfl⟩⟩))⟩, rfl, rfl⟩
  · have h := hy68
    refine sr (vp (i6 0) rfl (nx ⟨[(0, (eSu8 a0)), (3, (ow 3)), (4, (i6 0))], [(3, (bk (eT_Su8_i64_u64_Z ((a0, (0 : Int), x1)))))]⟩ (by kernel_rfl) (a_block ?_)))
    refine a_loop (emb := fun (s : (Int × ((List Int) × Int × Int))) => ⟨[(0, (eSu8 a0)), (3, (ow 3)), (4, (i6 s.1))], [(3, (bk (eT_Su8_i64_u64_Z s.2)))]⟩) (body := (fun s : (Int × ((List Int) × Int × Int)) => spec_l01From_l1 a0 s.1 s.2)) (G := fun q => some q = some y67) h rfl ?_ (by kernel_rfl)
    rintro X110 ⟨x89, x90⟩ x111 h hX112
    have h : spec_l01From_l1 a0 x89 x90 = some x111 := h
    refine a_st (σ' := ⟨[(0, (eSu8 a0)), (3, (ow 3)), (4, (i6 x89))], [(3, (bk (eT_Su8_i64_u64_Z x90)))]⟩) (by kernel_rfl) (a_seq ?_)
    obtain ⟨y115, hy116, hk117⟩ := bind_some h
    clear h
    refine a_join (emb := fun (s : Bool) => ⟨[(0, (eSu8 a0)), (3, (ow 3)), (4, (i6 x89)), (19, (.bool s))], [(3, (bk (eT_Su8_i64_u64_Z x90)))]⟩) (pre := fun s => s = y115) ?_ ?_
    · rintro x114 rfl
      have h := hk117
      refine a_st (σ' := ⟨[(0, (eSu8 a0)), (3, (ow 3)), (4, (i6 x89)), (19, (.bool x114))], [(3, (bk (eT_Su8_i64_u64_Z x90)))]⟩) (by kernel_rfl) ?_
      cases hb119 : x114
      · have h := ite_f hb119 h
        refine a_cond_f rfl (a_exit (t_exit ?_))
        cases h
        have h := hX112
        refine t_exit (b_exit ?_)
        exact j_leaf x90 (Option.some.inj h) (by kernel_rfl)
      · have h := ite_t hb119 h
        refine a_cond_t rfl (a_skip (a_next (σ' := ⟨[(0, (eSu8 a0)), (3, (ow 3)), (4, (i6 x89))], [(3, (bk (eT_Su8_i64_u64_Z x90)))]⟩) (by kernel_rfl) (a_seq (a_block (a_draw [⟨[], [], [3], []⟩, ⟨[], [], [3], []⟩, ⟨[3], [], [3], [1]⟩, ⟨[3], [], [3], [1, 2]⟩, ⟨[3], [], [], [1, 2, 3]⟩, ⟨[], [], [], [1, 2, 3, 4]⟩, ⟨[], [], [], []⟩, ⟨[], [], [], []⟩, ⟨[], [], [], [6, 7]⟩, ⟨[], [], [], [6, 7, 8]⟩, ⟨[], [], [], [6, 7, 8, 9]⟩, ⟨[], [], [], [1, 2, 3, 4, 5, 6, 7, 8, 9, 10]⟩, ⟨[], [], [], [1, 2, 3, 4, 5, 6, 7, 8, 9, 10, 11]⟩, ⟨[3], [], [3], [0, 1, 2, 3, 4, 5, 6, 7, 8, 9, 10, 11, 12]⟩, ⟨[3], [], [3], [0, 1, 2, 3, 4, 5, 6, 7, 8, 9, 10, 11, 12, 13]⟩, ⟨[3], [3], [], [0, 1, 2, 3, 4, 5, 6, 7, 8, 9, 10, 11, 12, 13, 14]⟩] (by kernel_rfl) (dp (ow 3) rfl (by kernel_rfl) (dp (ow 3) rfl (by kernel_rfl) (dp (ow 3) rfl (by kernel_rfl) (d_cons ?_)))))))))
        refine vb (.own 3 [2] [2]) rfl rfl (d_next (by kernel_rfl) (d_cons ?_))
        have hl126 : LdOk [2] (eT_Su8_i64_u64_Z x90) [2] 1 false (.int .u64 x90.2.2) := (.fld rfl rfl rfl rfl (.nil rfl rfl rfl))
        refine vq (.int .u64 x90.2.2) (ld_own (i := ⟨.int .u64, 1, 8, (.int .u64 0)⟩) rfl rfl rfl hl126) hl126.c (d_next (by kernel_rfl) (dp (.int .u64 (IntKind.u64.wrap (x90.2.2 * 1099511628211))) rfl (by kernel_rfl) (dp (eSu8 a0) rfl (by kernel_rfl) (dp (i6 x89) rfl (by kernel_rfl) (d_cons ?_)))))
        obtain ⟨hc127, h⟩ := ifp_some h
        refine vq (.ref (.row 1 (a0.map (AV.int .u8))) [x89.toNat] [x89.toNat * 1]) rfl (lmap hc127) (d_next (by kernel_rfl) (d_cons ?_))
        have hl128 : LdOk [x89.toNat] (.row 1 (a0.map (AV.int .u8))) [x89.toNat * 1] 1 false (b8 (rd a0 x89.toNat)) := (.row (llt hc127) rfl (.nil rfl rfl rfl))
        refine vq (b8 (rd a0 x89.toNat)) (ld_ref (i := ⟨.int .u8, 1, 1, (.int .u8 0)⟩) rfl rfl hl128) hl128.c (d_next (by kernel_rfl) (dp (.int .u64 (IntKind.u64.wrap (rd a0 x89.toNat))) rfl (by kernel_rfl) (d_cons ?_)))
        obtain ⟨x129, hx130, h⟩ := letp_some h
        refine a_val' (v := (.int .u64 (IntKind.u64.wrap ((IntKind.u64.wrap (x90.2.2 * 1099511628211)) + (IntKind.u64.wrap (rd a0 x89.toNat)))))) (v' := (.int .u64 x129)) (u := []) (u' := []) rfl (congrArg (fun z => ((.int .u64 z) : AV)) hx130) rfl trivial rfl (d_next (by kernel_rfl) (dp (.int .u64 (IntKind.u64.wrap (x129 + 61))) rfl (by kernel_rfl) (dp (ow 3) rfl (by kernel_rfl) (d_cons (vb (.own 3 [2] [2]) rfl rfl (d_next (by kernel_rfl) (d_cons ?_)))))))
        have hs131 : StOk [2] (eT_Su8_i64_u64_Z x90) [2] 1 (.int .u64 (IntKind.u64.wrap (x129 + 61))) (eT_Su8_i64_u64_Z ((x90.1, x90.2.1, IntKind.u64.wrap (x129 + 61)))) := (.fld rfl rfl rfl rfl (.nil rfl rfl rfl rfl))
        refine vu .top [(3, (bk (eT_Su8_i64_u64_Z ((x90.1, x90.2.1, IntKind.u64.wrap (x129 + 61))))))] (st_own (i := ⟨.int .u64, 1, 8, (.int .u64 0)⟩) rfl rfl (fun _ => rfl) rfl hs131) (hs131.c rfl) rfl (d_next (by kernel_rfl) (d_nil (b_norm (a_next (σ' := ⟨[(0, (eSu8 a0)), (3, (ow 3)), (4, (i6 x89))], [(3, (bk (eT_Su8_i64_u64_Z ((x90.1, x90.2.1, IntKind.u64.wrap (x129 + 61))))))]⟩) (by kernel_rfl) (a_region (vp (i6 x89) rfl (vp (i6 (IntKind.i64.wrap (x89 + 1))) rfl (vp (i6 (IntKind.i64.wrap (x89 + 1))) rfl (a_nil ?_)))))))))
        cases h
        exact a_again (by kernel_rfl) hX112
    · have h := hy116
      refine a_region (vp (i6 x89) rfl (vp (eSu8 a0) rfl (vq (i6 (a0.length : Int)) (len_run rfl rfl) trivial (vp (.bool ((decide (x89 < (a0.length : Int))))) rfl (vp (.bool ((decide (x89 < (a0.length : Int))))) rfl ?_)))))
      cases hb118 : (decide (x89 < (a0.length : Int)))
      · have h := ite_f hb118 h
        refine a_gskip rfl (a_gskip rfl (vp (.bool false) rfl (a_nil ?_)))
        exact j_leaf false (Option.some.inj h) (by kernel_rfl)
      · have h := ite_t hb118 h
        refine gp (i6 x89) rfl rfl (gp (.bool ((decide (x89 < 4096)))) rfl rfl (vp (.bool ((decide (x89 < 4096)))) rfl (a_nil ?_)))
        exact j_leaf ((decide (x89 < 4096))) (Option.some.inj h) (by kernel_rfl)
def spec_l01Next_of_src_c : ACode := (.seq (.region 0 [q 4 (.asg 0 (.const (.int .i64 0)) 2)] false) (.seq (.seq (.region 1 [q 6 (.mov (t 1)), q 7 (.bin .lss 2 (t 6) (.const (.int .i64 1)))] false) (.cond (t 7) (.seq (.region 2 [q 4 (.asg 0 (.const (.int .i64 0)) 2)] false) .ret) .skip)) (.seq (.region 3 [q 8 (.mov (t 0)), q 9 (.mov (t 0)), q 10 (.nilCheck (t 9)), q 11 (.fieldAddr 155 (t 10) 2), q 12 (.load 153 (t 11)), q 13 (.bin .mul 153 (t 12) (.const (.int .u64 6364136223846793005))), q 14 (.bin .add 153 (t 13) (.const (.int .u64 1442695040888963407))), q 15 (.nilCheck (t 8)), q 16 (.fieldAddr 155 (t 15) 2), ⟨none, .store 153 (t 16) (t 14), none, []⟩] false) (.seq (.region 4 [q 17 (.mov (t 0)), q 18 (.nilCheck (t 17)), q 19 (.fieldAddr 155 (t 18) 2), q 20 (.load 153 (t 19)), q 21 (.bin .shr 153 (t 20) (.const (.int .u64 33))), q 22 (.bin .and 153 (t 21) (.const (.int .u64 16777215))), q 23 (.conv 153 2 (t 22)), q 5 (.asg 0 (t 23) 2)] false) (.seq (.seq (.region 5 [q 24 (.mov (t 0)), ⟨some 25, .nilCheck (t 24), none, [0]⟩, ⟨some 26, .fieldAddr 155 (t 25) 1, none, [1]⟩, ⟨some 27, .load 3 (t 26), none, [2]⟩, q 28 (.mov (t 0)), ⟨some 29, .nilCheck (t 28), none, [4]⟩, ⟨some 30, .fieldAddr 155 (t 29) 0, none, [5]⟩, ⟨some 31, .load 22 (t 30), none, [6]⟩, ⟨some 32, .blt 0 .len [(t 31)] [22], none, [7]⟩, ⟨some 33, .bin .lss 3 (t 27) (t 32), none, [3, 8]⟩] true) (.cond (t 33) (.seq (.region 6 [q 34 (.mov (t 5)), q 35 (.mov (t 0)), ⟨some 36, .nilCheck (t 35), none, [1]⟩, ⟨some 37, .fieldAddr 155 (t 36) 0, none, [2]⟩, ⟨some 38, .load 22 (t 37), none, [3]⟩, q 39 (.mov (t 0)), ⟨some 40, .nilCheck (t 39), none, [5]⟩, ⟨some 41, .fieldAddr 155 (t 40) 1, none, [6]⟩, ⟨some 42, .load 3 (t 41), none, [7]⟩, ⟨some 43, .indexAddr 22 (t 38) (t 42), none, [4, 8]⟩, ⟨some 44, .load 5 (t 43), none, [9]⟩, ⟨some 45, .conv 5 2 (t 44), none, [10]⟩, ⟨some 46, .bin .add 2 (t 34) (t 45), none, [0, 11]⟩, ⟨some 5, .asg 0 (t 46) 2, none, [12, 0, 1, 2, 3, 4, 5, 6, 7, 8, 9, 10, 11, 12]⟩] true) (.region 7 [q 47 (.mov (t 0)), q 48 (.mov (t 0)), q 49 (.nilCheck (t 48)), q 50 (.fieldAddr 155 (t 49) 1), q 51 (.load 3 (t 50)), q 52 (.bin .add 3 (t 51) (.const (.int .i64 1))), q 53 (.nilCheck (t 47)), q 54 (.fieldAddr 155 (t 53) 1), ⟨none, .store 3 (t 54) (t 52), none, []⟩] false)) .skip)) (.seq (.region 8 [q 55 (.mov (t 5)), q 56 (.mov (t 1)), q 57 (.bin .rem 2 (t 55) (t 56)), q 4 (.asg 0 (t 57) 2)] false) .ret))))))
def spec_l01Next_of_src_L : Live := [(0, [0, 1]), (1, [0, 1]), (2, []), (3, [0, 1]), (4, [0, 1]), (5, [0, 1, 5]), (6, [0, 1, 5]), (7, [0, 1, 5]), (8, [1, 5]), (100007, [0, 1, 7]), (100033, [0, 1, 5, 33])]
noncomputable def spec_l01Next_of_src (a0 : ((List Int) × Int × Int)) (a1 : Int) : Option (Int × ((List Int) × Int × Int)) :=
  (if (decide (a1 < 1)) then (some (0, a0)) else (letp (IntKind.u64.wrap ((IntKind.u64.wrap (a0.2.2 * 6364136223846793005)) + 1442695040888963407)) fun x3 => (letp (IntKind.u64.wrap (BitVec.ofInt IntKind.u64.bits (Int.fdiv x3 (2 ^ (min (33 : Int).toNat IntKind.u64.bits))) &&& BitVec.ofInt IntKind.u64.bits 16777215).toNat) fun x7 => (Option.bind (α := (Int × ((List Int) × Int × Int))) ((if (decide (a0.2.1 < (a0.1.length : Int))) then (ifp (0 ≤ a0.2.1 ∧ a0.2.1 < ((a0.1.length : Nat) : Int)) ((letp (IntKind.i64.wrap ((IntKind.i64.wrap x7) + (IntKind.i64.wrap (rd a0.1 a0.2.1.toNat)))) fun x48 => (some ((x48, (a0.1, IntKind.i64.wrap (a0.2.1 + 1), x3))))))) else (some ((IntKind.i64.wrap x7, (a0.1, a0.2.1, x3)))))) fun ⟨x28, x29⟩ => (ifp (a1 ≠ 0) ((some (Int.tmod x28 a1, x29))))))))
theorem spec_l01Next_of_src_ok (a0 : ((List Int) × Int × Int)) (a1 : Int) (r : (Int × ((List Int) × Int × Int))) (h : spec_l01Next_of_src a0 a1 = some r) : Den Try.prog 123 [(.mutp (eT_Su8_i64_u64_Z a0)), (i6 a1)] { r := (i6 r.1), ms := [(eT_Su8_i64_u64_Z r.2)], fs := [] } := by
  refine den_ofX (rs := [(i6 r.1)]) (ac := spec_l01Next_of_src_c) (L := spec_l01Next_of_src_L) (n := 58) (m := []) (c := Try.f123.body.getD .skip) good Try.func123 (by kernel_rfl) (by kernel_rfl) Try.ntmps123 rfl rfl (by kernel_rfl) rfl ?_
  refine a_st (σ' := ⟨[(0, (ow 1000000)), (1, (i6 a1))], [(1000000, (bk (eT_Su8_i64_u64_Z a0)))]⟩) (by kernel_rfl) ?_
  unfold spec_l01Next_of_src_c
  refine sr (vp (i6 0) rfl (nx ⟨[(0, (ow 1000000)), (1, (i6 a1))], [(1000000, (bk (eT_Su8_i64_u64_Z a0)))]⟩ (by kernel_rfl) (a_seq (sr (vp (i6 a1) rfl (vp (.bool ((decide (a1 < 1)))) rfl (nx ⟨[(0, (ow 1000000)), (1, (i6 a1)), (7, (.bool ((decide (a1 < 1)))))], [(1000000, (bk (eT_Su8_i64_u64_Z a0)))]⟩ (by kernel_rfl) ?_)))))))
  cases hb1 : (decide (a1 < 1))
  · have h := ite_f hb1 h
    refine a_cond_f rfl (a_skip (a_next (σ' := ⟨[(0, (ow 1000000)), (1, (i6 a1))], [(1000000, (bk (eT_Su8_i64_u64_Z a0)))]⟩) (by kernel_rfl) (sr (vp (ow 1000000) rfl (vp (ow 1000000) rfl (vp (ow 1000000) rfl (vb (.own 1000000 [2] [2]) rfl rfl ?_)))))))
    have hl2 : LdOk [2] (eT_Su8_i64_u64_Z a0) [2] 1 false (.int .u64 a0.2.2) := (.fld rfl rfl rfl rfl (.nil rfl rfl rfl))
    refine vq (.int .u64 a0.2.2) (ld_own (i := ⟨.int .u64, 1, 8, (.int .u64 0)⟩) rfl rfl rfl hl2) hl2.c (vp (.int .u64 (IntKind.u64.wrap (a0.2.2 * 6364136223846793005))) rfl ?_)
    obtain ⟨x3, hx4, h⟩ := letp_some h
    refine a_val' (v := (.int .u64 (IntKind.u64.wrap ((IntKind.u64.wrap (a0.2.2 * 6364136223846793005)) + 1442695040888963407)))) (v' := (.int .u64 x3)) (u := []) (u' := []) rfl (congrArg (fun z => ((.int .u64 z) : AV)) hx4) rfl trivial rfl (vp (ow 1000000) rfl (vb (.own 1000000 [2] [2]) rfl rfl ?_))
    have hs5 : StOk [2] (eT_Su8_i64_u64_Z a0) [2] 1 (.int .u64 x3) (eT_Su8_i64_u64_Z (a0.1, a0.2.1, x3)) := (.fld rfl rfl rfl rfl (.nil rfl rfl rfl rfl))
    refine vu .top [(1000000, (bk (eT_Su8_i64_u64_Z (a0.1, a0.2.1, x3))))] (st_own (i := ⟨.int .u64, 1, 8, (.int .u64 0)⟩) rfl rfl (fun _ => rfl) rfl hs5) (hs5.c rfl) rfl (nx ⟨[(0, (ow 1000000)), (1, (i6 a1))], [(1000000, (bk (eT_Su8_i64_u64_Z (a0.1, a0.2.1, x3))))]⟩ (by kernel_rfl) (sr (vp (ow 1000000) rfl (vp (ow 1000000) rfl (vb (.own 1000000 [2] [2]) rfl rfl ?_)))))
    have hl6 : LdOk [2] (eT_Su8_i64_u64_Z (a0.1, a0.2.1, x3)) [2] 1 false (.int .u64 x3) := (.fld rfl rfl rfl rfl (.nil rfl rfl rfl))
    refine vq (.int .u64 x3) (ld_own (i := ⟨.int .u64, 1, 8, (.int .u64 0)⟩) rfl rfl rfl hl6) hl6.c (vq (.int .u64 (Int.fdiv x3 (2 ^ (min (33 : Int).toNat IntKind.u64.bits)))) rfl (by decide) ?_)
    obtain ⟨x7, hx8, h⟩ := letp_some h
    refine a_val' (v := (.int .u64 (IntKind.u64.wrap (BitVec.ofInt IntKind.u64.bits (Int.fdiv x3 (2 ^ (min (33 : Int).toNat IntKind.u64.bits))) &&& BitVec.ofInt IntKind.u64.bits 16777215).toNat))) (v' := (.int .u64 x7)) (u := []) (u' := []) rfl (congrArg (fun z => ((.int .u64 z) : AV)) hx8) rfl trivial rfl (vp (i6 (IntKind.i64.wrap x7)) rfl (vp (i6 (IntKind.i64.wrap x7)) rfl (nx ⟨[(0, (ow 1000000)), (1, (i6 a1)), (5, (i6 (IntKind.i64.wrap x7)))], [(1000000, (bk (eT_Su8_i64_u64_Z (a0.1, a0.2.1, x3))))]⟩ (by kernel_rfl) ?_)))
    obtain ⟨y30, hy31, hk32⟩ := bind_some h
    clear h
    refine a_join (emb := fun (s : (Int × ((List Int) × Int × Int))) => ⟨[(1, (i6 a1)), (5, (i6 s.1))], [(1000000, (bk (eT_Su8_i64_u64_Z s.2)))]⟩) (pre := fun s => s = y30) ?_ ?_
    · rintro ⟨x28, x29⟩ rfl
      have h := hk32
      refine a_st (σ' := ⟨[(1, (i6 a1)), (5, (i6 x28))], [(1000000, (bk (eT_Su8_i64_u64_Z x29)))]⟩) (by kernel_rfl) (sr (vp (i6 x28) rfl (vp (i6 a1) rfl ?_)))
      obtain ⟨hc52, h⟩ := ifp_some h
      refine vq (i6 (Int.tmod x28 a1)) rfl hc52 (vp (i6 (Int.tmod x28 a1)) rfl (nx _ rfl (a_ret ?_)))
      refine ⟨.inr rfl, ?_⟩
      rw [Try.results123]
      cases h
      exact ⟨[], ⟨_, _, _, _, _, rfl, trivial, rfl, .inl ⟨rfl, .inl rfl, ⟨rfl, rfl, rfl⟩⟩⟩, rfl, ⟨_, _, rfl, rfl, rfl⟩⟩
    · have h := hy31
      refine a_seq (a_draw [⟨[], [], [1000000], []⟩, ⟨[1000000], [], [1000000], [0]⟩, ⟨[1000000], [], [1000000], [0, 1]⟩, ⟨[1000000], [], [], [0, 1, 2]⟩, ⟨[], [], [1000000], []⟩, ⟨[1000000], [], [1000000], [4]⟩, ⟨[1000000], [], [1000000], [4, 5]⟩, ⟨[1000000], [], [], [4, 5, 6]⟩, ⟨[], [], [], [4, 5, 6, 7]⟩, ⟨[], [], [], [0, 1, 2, 3, 4, 5, 6, 7, 8]⟩] (by kernel_rfl) (dp (ow 1000000) rfl (by kernel_rfl) (dp (ow 1000000) rfl (by kernel_rfl) (d_cons (vb (.own 1000000 [1] [1]) rfl rfl (d_next (by kernel_rfl) (d_cons ?_)))))))
      have hl35 : LdOk [1] (eT_Su8_i64_u64_Z (a0.1, a0.2.1, x3)) [1] 1 false (i6 a0.2.1) := (.fld rfl rfl rfl rfl (.nil rfl rfl rfl))
      refine vq (i6 a0.2.1) (ld_own (i := ⟨.int .i64, 1, 8, (.int .i64 0)⟩) rfl rfl rfl hl35) hl35.c (d_next (by kernel_rfl) (dp (ow 1000000) rfl (by kernel_rfl) (dp (ow 1000000) rfl (by kernel_rfl) (d_cons (vb (.own 1000000 [0] [0]) rfl rfl (d_next (by kernel_rfl) (d_cons ?_)))))))
      have hl36 : LdOk [0] (eT_Su8_i64_u64_Z (a0.1, a0.2.1, x3)) [0] 1 false (eSu8 a0.1) := (.fld rfl rfl rfl rfl (.nil rfl rfl rfl))
      refine vq (eSu8 a0.1) (ld_own (i := ⟨.slice 5, 1, 24, (eSu8 [])⟩) rfl rfl rfl hl36) hl36.c (d_next (by kernel_rfl) (d_cons (vq (i6 (a0.1.length : Int)) (len_run rfl rfl) trivial (d_next (by kernel_rfl) (dp (.bool ((decide (a0.2.1 < (a0.1.length : Int))))) rfl (by kernel_rfl) (d_nil (a_next (σ' := ⟨[(0, (ow 1000000)), (1, (i6 a1)), (5, (i6 (IntKind.i64.wrap x7))), (33, (.bool ((decide (a0.2.1 < (a0.1.length : Int))))))], [(1000000, (bk (eT_Su8_i64_u64_Z (a0.1, a0.2.1, x3))))]⟩) (by kernel_rfl) ?_)))))))
      cases hb37 : (decide (a0.2.1 < (a0.1.length : Int)))
      · have h := ite_f hb37 h
        refine a_cond_f rfl (a_skip ?_)
        exact j_leaf ((IntKind.i64.wrap x7, (a0.1, a0.2.1, x3))) (Option.some.inj h) (by kernel_rfl)
      · have h := ite_t hb37 h
        refine a_cond_t rfl (a_seq (a_draw [⟨[], [], [], []⟩, ⟨[], [], [1000000], []⟩, ⟨[1000000], [], [1000000], [1]⟩, ⟨[1000000], [], [1000000], [1, 2]⟩, ⟨[1000000], [], [], [1, 2, 3]⟩, ⟨[], [], [1000000], []⟩, ⟨[1000000], [], [1000000], [5]⟩, ⟨[1000000], [], [1000000], [5, 6]⟩, ⟨[1000000], [], [], [5, 6, 7]⟩, ⟨[], [], [], [1, 2, 3, 4, 5, 6, 7, 8]⟩, ⟨[], [], [], [1, 2, 3, 4, 5, 6, 7, 8, 9]⟩, ⟨[], [], [], [1, 2, 3, 4, 5, 6, 7, 8, 9, 10]⟩, ⟨[], [], [], [0, 1, 2, 3, 4, 5, 6, 7, 8, 9, 10, 11]⟩, ⟨[], [], [], [0, 1, 2, 3, 4, 5, 6, 7, 8, 9, 10, 11, 12]⟩] (by kernel_rfl) (dp (i6 (IntKind.i64.wrap x7)) rfl (by kernel_rfl) (dp (ow 1000000) rfl (by kernel_rfl) (dp (ow 1000000) rfl (by kernel_rfl) (d_cons (vb (.own 1000000 [0] [0]) rfl rfl (d_next (by kernel_rfl) (d_cons ?_)))))))))
        have hl44 : LdOk [0] (eT_Su8_i64_u64_Z (a0.1, a0.2.1, x3)) [0] 1 false (eSu8 a0.1) := (.fld rfl rfl rfl rfl (.nil rfl rfl rfl))
        refine vq (eSu8 a0.1) (ld_own (i := ⟨.slice 5, 1, 24, (eSu8 [])⟩) rfl rfl rfl hl44) hl44.c (d_next (by kernel_rfl) (dp (ow 1000000) rfl (by kernel_rfl) (dp (ow 1000000) rfl (by kernel_rfl) (d_cons (vb (.own 1000000 [1] [1]) rfl rfl (d_next (by kernel_rfl) (d_cons ?_)))))))
        have hl45 : LdOk [1] (eT_Su8_i64_u64_Z (a0.1, a0.2.1, x3)) [1] 1 false (i6 a0.2.1) := (.fld rfl rfl rfl rfl (.nil rfl rfl rfl))
        refine vq (i6 a0.2.1) (ld_own (i := ⟨.int .i64, 1, 8, (.int .i64 0)⟩) rfl rfl rfl hl45) hl45.c (d_next (by kernel_rfl) (d_cons ?_))
        obtain ⟨hc46, h⟩ := ifp_some h
        refine vq (.ref (.row 1 (a0.1.map (AV.int .u8))) [a0.2.1.toNat] [a0.2.1.toNat * 1]) rfl (lmap hc46) (d_next (by kernel_rfl) (d_cons ?_))
        have hl47 : LdOk [a0.2.1.toNat] (.row 1 (a0.1.map (AV.int .u8))) [a0.2.1.toNat * 1] 1 false (b8 (rd a0.1 a0.2.1.toNat)) := (.row (llt hc46) rfl (.nil rfl rfl rfl))
        refine vq (b8 (rd a0.1 a0.2.1.toNat)) (ld_ref (i := ⟨.int .u8, 1, 1, (.int .u8 0)⟩) rfl rfl hl47) hl47.c (d_next (by kernel_rfl) (dp (i6 (IntKind.i64.wrap (rd a0.1 a0.2.1.toNat))) rfl (by kernel_rfl) (d_cons ?_)))
        obtain ⟨x48, hx49, h⟩ := letp_some h
        refine a_val' (v := (i6 (IntKind.i64.wrap ((IntKind.i64.wrap x7) + (IntKind.i64.wrap (rd a0.1 a0.2.1.toNat)))))) (v' := (i6 x48)) (u := []) (u' := []) rfl (congrArg (fun z => ((i6 z) : AV)) hx49) rfl trivial rfl (d_next (by kernel_rfl) (dp (i6 x48) rfl (by kernel_rfl) (d_nil (a_next (σ' := ⟨[(0, (ow 1000000)), (1, (i6 a1)), (5, (i6 x48))], [(1000000, (bk (eT_Su8_i64_u64_Z (a0.1, a0.2.1, x3))))]⟩) (by kernel_rfl) (a_region (vp (ow 1000000) rfl (vp (ow 1000000) rfl (vp (ow 1000000) rfl (vb (.own 1000000 [1] [1]) rfl rfl ?_)))))))))
        have hl50 : LdOk [1] (eT_Su8_i64_u64_Z (a0.1, a0.2.1, x3)) [1] 1 false (i6 a0.2.1) := (.fld rfl rfl rfl rfl (.nil rfl rfl rfl))
        refine vq (i6 a0.2.1) (ld_own (i := ⟨.int .i64, 1, 8, (.int .i64 0)⟩) rfl rfl rfl hl50) hl50.c (vp (i6 (IntKind.i64.wrap (a0.2.1 + 1))) rfl (vp (ow 1000000) rfl (vb (.own 1000000 [1] [1]) rfl rfl ?_)))
        have hs51 : StOk [1] (eT_Su8_i64_u64_Z (a0.1, a0.2.1, x3)) [1] 1 (i6 (IntKind.i64.wrap (a0.2.1 + 1))) (eT_Su8_i64_u64_Z ((a0.1, IntKind.i64.wrap (a0.2.1 + 1), x3))) := (.fld rfl rfl rfl rfl (.nil rfl rfl rfl rfl))
        refine vu .top [(1000000, (bk (eT_Su8_i64_u64_Z ((a0.1, IntKind.i64.wrap (a0.2.1 + 1), x3)))))] (st_own (i := ⟨.int .i64, 1, 8, (.int .i64 0)⟩) rfl rfl (fun _ => rfl) rfl hs51) (hs51.c rfl) rfl (a_nil ?_)
        exact j_leaf ((x48, (a0.1, IntKind.i64.wrap (a0.2.1 + 1), x3))) (Option.some.inj h) (by kernel_rfl)
  · have h := ite_t hb1 h
    refine a_cond_t rfl (sr (vp (i6 0) rfl (nx _ rfl (a_ret (t_ret ?_)))))
    refine ⟨.inr rfl, ?_⟩
    rw [Try.results123]
    cases h
    exact ⟨[], ⟨_, _, _, _, _, rfl, trivial, rfl, .inl ⟨rfl, .inl rfl, ⟨rfl, rfl, rfl⟩⟩⟩, rfl, ⟨_, _, rfl, rfl, rfl⟩⟩
def spec_l01Pick_of_src_c : ACode := (.seq (.region 0 [q 4 (.asg 0 (.const (.int .i64 0)) 2)] false) (.seq (.region 1 [q 5 (.mov (t 1)), q 6 (.mov (t 0)), q 7 (.mov (t 1)), q 8 (.blt 0 .len [(t 7)] [59]), q 9 (.call 1 (.func 123) [(t 6), (t 8)]), q 10 (.indexAddr 59 (t 5) (t 9)), q 11 (.load 2 (t 10)), q 4 (.asg 0 (t 11) 2)] false) .ret))
def spec_l01Pick_of_src_L : Live := [(0, [0, 1]), (1, [0, 1])]
noncomputable def spec_l01Pick_of_src (a0 : ((List Int) × Int × Int)) (a1 : (List Int)) : Option (Int × ((List Int) × Int × Int)) :=
  (Option.bind (spec_l01Next_of_src a0 (a1.length : Int)) fun r1 => (ifp (0 ≤ r1.1 ∧ r1.1 < ((a1.length : Nat) : Int)) ((some (((rd a1 r1.1.toNat), r1.2))))))
theorem spec_l01Pick_of_src_ok (a0 : ((List Int) × Int × Int)) (a1 : (List Int)) (r : (Int × ((List Int) × Int × Int))) (h : spec_l01Pick_of_src a0 a1 = some r) : Den Try.prog 122 [(.mutp (eT_Su8_i64_u64_Z a0)), (eSi64 a1)] { r := (i6 r.1), ms := [(eT_Su8_i64_u64_Z r.2)], fs := [] } := by
  refine den_ofX (rs := [(i6 r.1)]) (ac := spec_l01Pick_of_src_c) (L := spec_l01Pick_of_src_L) (n := 12) (m := [(9, 1)]) (c := Try.f122.body.getD .skip) good Try.func122 (by kernel_rfl) (by kernel_rfl) Try.ntmps122 rfl rfl (by kernel_rfl) rfl ?_
  refine a_st (σ' := ⟨[(0, (ow 1000000)), (1, (eSi64 a1))], [(1000000, (bk (eT_Su8_i64_u64_Z a0)))]⟩) (by kernel_rfl) ?_
  unfold spec_l01Pick_of_src_c
  refine sr (vp (i6 0) rfl (nx ⟨[(0, (ow 1000000)), (1, (eSi64 a1))], [(1000000, (bk (eT_Su8_i64_u64_Z a0)))]⟩ (by kernel_rfl) (sr (vp (eSi64 a1) rfl (vp (ow 1000000) rfl (vp (eSi64 a1) rfl (vq (i6 (a1.length : Int)) (len_run rfl rfl) trivial ?_)))))))
  obtain ⟨r1, hr2, h⟩ := bind_some h
  refine a_callM (args := [(.mutp (eT_Su8_i64_u64_Z a0)), (i6 (a1.length : Int))]) (i := 0) (id := 1000000) (r := (i6 r1.1)) (c := (eT_Su8_i64_u64_Z r1.2)) rfl rfl (spec_l01Next_of_src_ok a0 (a1.length : Int) r1 hr2) rfl trivial ?_
  obtain ⟨hc4, h⟩ := ifp_some h
  refine vq (.ref (.row 1 (a1.map (AV.int .i64))) [r1.1.toNat] [r1.1.toNat * 1]) rfl (lmap hc4) ?_
  have hl5 : LdOk [r1.1.toNat] (.row 1 (a1.map (AV.int .i64))) [r1.1.toNat * 1] 1 false (i6 (rd a1 r1.1.toNat)) := (.row (llt hc4) rfl (.nil rfl rfl rfl))
  refine vq (i6 (rd a1 r1.1.toNat)) (ld_ref (i := ⟨.int .i64, 1, 8, (.int .i64 0)⟩) rfl rfl hl5) hl5.c (vp (i6 (rd a1 r1.1.toNat)) rfl (nx _ rfl (a_ret ?_)))
  refine ⟨.inr rfl, ?_⟩
  rw [Try.results122]
  cases h
  exact ⟨[], ⟨_, _, _, _, _, rfl, trivial, rfl, .inl ⟨rfl, .inl rfl, ⟨rfl, rfl, rfl⟩⟩⟩, rfl, ⟨_, _, rfl, rfl, rfl⟩⟩
def spec_DrawBracketOf_c : ACode := (.seq (.region 0 [q 2 (.asg 0 (.const (.int .i64 0)) 2), q 3 (.asg 0 (.const (.int .i64 0)) 2)] false) (.seq (.region 1 [q 5 (.mov (t 0)), q 6 (.call 0 (.func 116) [(t 5)]), q 4 (.asg 0 (t 6) 96)] false) (.seq (.region 2 [q 7 (.mov (t 4)), q 8 (.bslice 0 59 6 [(0, (.const (.int .i64 2))), (1, (.const (.int .i64 3))), (2, (.const (.int .i64 5))), (3, (.const (.int .i64 7))), (4, (.const (.int .i64 2))), (5, (.const (.int .i64 4)))]), q 9 (.call 1 (.func 122) [(t 7), (t 8)]), q 10 (.mov (t 4)), q 11 (.call 1 (.func 123) [(t 10), (.const (.int .i64 8))]), q 2 (.asg 0 (t 9) 2), q 3 (.asg 0 (t 11) 2)] false) .ret)))
def spec_DrawBracketOf_L : Live := [(0, [0]), (1, [0]), (2, [4])]
noncomputable def spec_DrawBracketOf (a0 : (List Int)) : Option (Int × Int) :=
  (Option.bind (spec_l01From a0) fun r1 => (Option.bind (spec_l01Pick_of_src r1 ([2, 3, 5, 7, 2, 4])) fun r3 => (Option.bind (spec_l01Next_of_src r3.2 8) fun r6 => (some (r3.1, r6.1)))))
theorem spec_DrawBracketOf_ok (a0 : (List Int)) (r : (Int × Int)) (h : spec_DrawBracketOf a0 = some r) : Den Try.prog 30 [(eSu8 a0)] { r := (.tuple [(i6 r.1), (i6 r.2)]) } := by
  refine den_of (rs := [(i6 r.1), (i6 r.2)]) (ac := spec_DrawBracketOf_c) (L := spec_DrawBracketOf_L) (n := 12) (m := [(9, 1), (11, 1)]) (c := Try.f30.body.getD .skip) good Try.func30 (by kernel_rfl) (by kernel_rfl) Try.ntmps30 rfl rfl (by kernel_rfl) rfl rfl ?_
  refine a_st (σ' := ⟨[(0, (eSu8 a0))], []⟩) (by kernel_rfl) ?_
  unfold spec_DrawBracketOf_c
  refine sr (vp (i6 0) rfl (vp (i6 0) rfl (nx ⟨[(0, (eSu8 a0))], []⟩ (by kernel_rfl) (sr (vp (eSu8 a0) rfl ?_)))))
  obtain ⟨r1, hr2, h⟩ := bind_some h
  refine a_callF (args := [(eSu8 a0)]) (u := []) (u2 := []) (r := (ow 2000000)) (fs := [(0, [eT_Su8_i64_u64_Z r1])]) rfl rfl (spec_l01From_ok a0 r1 hr2) rfl rfl rfl (.inl rfl) rfl (vp (ow 1600) rfl (nx ⟨[(4, (ow 4))], [(4, (bk (eT_Su8_i64_u64_Z r1)))]⟩ (by kernel_rfl) (sr (vp (ow 4) rfl (vq (.sl 1 true (([2, 3, 5, 7, 2, 4]).map (AV.int .i64))) rfl ⟨(Nat.le_of_ble_eq_true rfl), (Nat.le_of_ble_eq_true rfl), (all_cons ⟨(Nat.le_of_ble_eq_true rfl), rfl⟩ (all_cons ⟨(Nat.le_of_ble_eq_true rfl), rfl⟩ (all_cons ⟨(Nat.le_of_ble_eq_true rfl), rfl⟩ (all_cons ⟨(Nat.le_of_ble_eq_true rfl), rfl⟩ (all_cons ⟨(Nat.le_of_ble_eq_true rfl), rfl⟩ (all_cons ⟨(Nat.le_of_ble_eq_true rfl), rfl⟩ all_nil))))))⟩ ?_)))))
  obtain ⟨r3, hr4, h⟩ := bind_some h
  refine a_callM (args := [(.mutp (eT_Su8_i64_u64_Z r1)), (.sl 1 true (([2, 3, 5, 7, 2, 4]).map (AV.int .i64)))]) (i := 0) (id := 4) (r := (i6 r3.1)) (c := (eT_Su8_i64_u64_Z r3.2)) rfl rfl (Den.argsM (spec_l01Pick_of_src_ok r1 ([2, 3, 5, 7, 2, 4]) r3 hr4) rfl rfl (.cons (.loose _) .nil)) rfl trivial (vp (ow 4) rfl ?_)
  obtain ⟨r6, hr7, h⟩ := bind_some h
  refine a_callM (args := [(.mutp (eT_Su8_i64_u64_Z r3.2)), (i6 8)]) (i := 0) (id := 4) (r := (i6 r6.1)) (c := (eT_Su8_i64_u64_Z r6.2)) rfl rfl (spec_l01Next_of_src_ok r3.2 8 r6 hr7) rfl trivial (vp (i6 r3.1) rfl (vp (i6 r6.1) rfl (nx _ rfl (a_ret ?_))))
  refine ⟨.inr rfl, ?_⟩
  rw [Try.results30]
  cases h
  exact ⟨_, _, _, _, _, rfl, trivial, .inl ⟨rfl, .inl rfl⟩, rfl, ⟨_, _, _, _, _, rfl, trivial, .inl ⟨rfl, .inl rfl⟩, rfl, rfl⟩⟩
def impl_isPrime_c : ACode := (.seq (.region 0 [q 2 (.asg 0 (.const (.bool false)) 4)] false) (.seq (.region 1 [q 3 (.mov (t 0)), q 4 (.bin .eql 2 (t 3) (.const (.int .i64 2))), q 5 (.mov (t 4)), ⟨some 6, .mov (t 0), some (5, false), []⟩, ⟨some 7, .bin .eql 2 (t 6) (.const (.int .i64 3)), some (5, false), []⟩, q 8 (.pick (t 5) (.const (.bool true)) (t 7)), q 9 (.mov (t 8)), ⟨some 10, .mov (t 0), some (9, false), []⟩, ⟨some 11, .bin .eql 2 (t 10) (.const (.int .i64 5)), some (9, false), []⟩, q 12 (.pick (t 9) (.const (.bool true)) (t 11)), q 13 (.mov (t 12)), ⟨some 14, .mov (t 0), some (13, false), []⟩, ⟨some 15, .bin .eql 2 (t 14) (.const (.int .i64 7)), some (13, false), []⟩, q 16 (.pick (t 13) (.const (.bool true)) (t 15)), q 2 (.asg 0 (t 16) 4)] false) .ret))
def impl_isPrime_L : Live := [(0, [0]), (1, [0])]
noncomputable def impl_isPrime (a0 : Int) : Option Bool :=
  (if (a0 == 2) then (some true) else (if (a0 == 3) then (some true) else (if (a0 == 5) then (some true) else (some (a0 == 7)))))
theorem impl_isPrime_ok (a0 : Int) (r : Bool) (h : impl_isPrime a0 = some r) : Den Try.prog 106 [(i6 a0)] { r := (.bool r) } := by
  refine den_of (rs := [(.bool r)]) (ac := impl_isPrime_c) (L := impl_isPrime_L) (n := 17) (m := []) (c := Try.f106.body.getD .skip) good Try.func106 (by kernel_rfl) (by kernel_rfl) Try.ntmps106 rfl rfl (by kernel_rfl) rfl rfl ?_
  refine a_st (σ' := ⟨[(0, (i6 a0))], []⟩) (by kernel_rfl) ?_
  unfold impl_isPrime_c
  refine sr (vp (.bool false) rfl (nx ⟨[(0, (i6 a0))], []⟩ (by kernel_rfl) (sr (vp (i6 a0) rfl (vp (.bool (a0 == 2)) rfl (vp (.bool (a0 == 2)) rfl ?_))))))
  cases hb1 : (a0 == 2)
  · have h := ite_f hb1 h
    refine gp (i6 a0) rfl rfl (gp (.bool (a0 == 3)) rfl rfl (vp (.bool (a0 == 3)) rfl (vp (.bool (a0 == 3)) rfl ?_)))
    cases hb2 : (a0 == 3)
    · have h := ite_f hb2 h
      refine gp (i6 a0) rfl rfl (gp (.bool (a0 == 5)) rfl rfl (vp (.bool (a0 == 5)) rfl (vp (.bool (a0 == 5)) rfl ?_)))
      cases hb3 : (a0 == 5)
      · have h := ite_f hb3 h
        refine gp (i6 a0) rfl rfl (gp (.bool (a0 == 7)) rfl rfl (vp (.bool (a0 == 7)) rfl (vp (.bool (a0 == 7)) rfl (nx _ rfl (a_ret ?_)))))
        refine ⟨.inr rfl, ?_⟩
        rw [Try.results106]
        cases h
        exact ⟨_, _, _, _, _, rfl, trivial, .inl ⟨rfl, .inl rfl⟩, rfl, rfl⟩
      · have h := ite_t hb3 h
        refine a_gskip rfl (a_gskip rfl (vp (.bool true) rfl (vp (.bool true) rfl (nx _ rfl (a_ret ?_)))))
        refine ⟨.inr rfl, ?_⟩
        rw [Try.results106]
        cases h
        exact ⟨_, _, _, _, _, rfl, trivial, .inl ⟨rfl, .inl rfl⟩, rfl, rfl⟩
    · have h := ite_t hb2 h
      refine a_gskip rfl (a_gskip rfl (vp (.bool true) rfl (vp (.bool true) rfl (a_gskip rfl (a_gskip rfl (vp (.bool true) rfl (vp (.bool true) rfl (nx _ rfl (a_ret ?_)))))))))
      refine ⟨.inr rfl, ?_⟩
      rw [Try.results106]
      cases h
      exact ⟨_, _, _, _, _, rfl, trivial, .inl ⟨rfl, .inl rfl⟩, rfl, rfl⟩
  · have h := ite_t hb1 h
    refine a_gskip rfl (a_gskip rfl (vp (.bool true) rfl (vp (.bool true) rfl (a_gskip rfl (a_gskip rfl (vp (.bool true) rfl (vp (.bool true) rfl (a_gskip rfl (a_gskip rfl ?_)))))))))
    refine vp (.bool true) rfl (vp (.bool true) rfl (nx _ rfl (a_ret ?_)))
    refine ⟨.inr rfl, ?_⟩
    rw [Try.results106]
    cases h
    exact ⟨_, _, _, _, _, rfl, trivial, .inl ⟨rfl, .inl rfl⟩, rfl, rfl⟩
def impl_within_c : ACode := (.seq (.region 0 [q 6 (.asg 0 (.const (.bool false)) 4)] false) (.seq (.region 1 [q 7 (.mov (t 1)), q 8 (.mov (t 0)), q 9 (.bin .leq 2 (t 7) (t 8)), q 10 (.mov (t 9)), ⟨some 11, .mov (t 0), some (10, true), []⟩, ⟨some 12, .mov (t 2), some (10, true), []⟩, ⟨some 13, .bin .leq 2 (t 11) (t 12), some (10, true), []⟩, q 14 (.pick (t 10) (t 13) (.const (.bool false))), q 6 (.asg 0 (t 14) 4)] false) .ret))
def impl_within_L : Live := [(0, [0, 1, 2]), (1, [0, 1, 2])]
noncomputable def impl_within (a0 : Int) (a1 : Int) (a2 : Int) : Option Bool :=
  (if (decide (a1 ≤ a0)) then (some ((decide (a0 ≤ a2)))) else (some false))
theorem impl_within_ok (a0 : Int) (a1 : Int) (a2 : Int) (r : Bool) (h : impl_within a0 a1 a2 = some r) : Den Try.prog 139 [(i6 a0), (i6 a1), (i6 a2)] { r := (.bool r) } := by
  refine den_of (rs := [(.bool r)]) (ac := impl_within_c) (L := impl_within_L) (n := 15) (m := []) (c := Try.f139.body.getD .skip) good Try.func139 (by kernel_rfl) (by kernel_rfl) Try.ntmps139 rfl rfl (by kernel_rfl) rfl rfl ?_
  refine a_st (σ' := ⟨[(0, (i6 a0)), (1, (i6 a1)), (2, (i6 a2))], []⟩) (by kernel_rfl) ?_
  unfold impl_within_c
  refine sr (vp (.bool false) rfl (nx ⟨[(0, (i6 a0)), (1, (i6 a1)), (2, (i6 a2))], []⟩ (by kernel_rfl) (sr (vp (i6 a1) rfl (vp (i6 a0) rfl (vp (.bool ((decide (a1 ≤ a0)))) rfl (vp (.bool ((decide (a1 ≤ a0)))) rfl ?_)))))))
  cases hb1 : (decide (a1 ≤ a0))
  · have h := ite_f hb1 h
    refine a_gskip rfl (a_gskip rfl (a_gskip rfl (vp (.bool false) rfl (vp (.bool false) rfl (nx _ rfl (a_ret ?_))))))
    refine ⟨.inr rfl, ?_⟩
    rw [Try.results139]
    cases h
    exact ⟨_, _, _, _, _, rfl, trivial, .inl ⟨rfl, .inl rfl⟩, rfl, rfl⟩
  · have h := ite_t hb1 h
    refine gp (i6 a0) rfl rfl (gp (i6 a2) rfl rfl (gp (.bool ((decide (a0 ≤ a2)))) rfl rfl (vp (.bool ((decide (a0 ≤ a2)))) rfl (vp (.bool ((decide (a0 ≤ a2)))) rfl (nx _ rfl (a_ret ?_))))))
    refine ⟨.inr rfl, ?_⟩
    rw [Try.results139]
    cases h
    exact ⟨_, _, _, _, _, rfl, trivial, .inl ⟨rfl, .inl rfl⟩, rfl, rfl⟩
def impl_numberCode_c : ACode := (.seq (.region 0 [q 8 (.asg 0 (.const (.int .i64 0)) 2)] false) (.seq (.block 0 (.seq (.region 1 [q 10 (.mov (t 0)), q 11 (.call 0 (.func 106) [(t 10)]), q 12 (.un .not (t 11)), q 9 (.asg 0 (t 12) 4)] false) (.cond (t 9) (.seq (.region 2 [q 8 (.asg 0 (.const (.int .i64 1)) 2)] false) .ret) (.seq (.region 3 [q 14 (.mov (t 1)), q 15 (.mov (t 2)), q 16 (.mov (t 3)), q 17 (.call 0 (.func 139) [(t 14), (t 15), (t 16)]), q 18 (.un .not (t 17)), q 13 (.asg 0 (t 18) 4)] false) (.cond (t 13) (.seq (.region 4 [q 8 (.asg 0 (.const (.int .i64 2)) 2)] false) .ret) .skip))))) (.seq (.region 5 [q 8 (.asg 0 (.const (.int .i64 0)) 2)] false) .ret)))
def impl_numberCode_L : Live := [(0, [0, 1, 2, 3]), (1, [0, 1, 2, 3]), (2, []), (3, [1, 2, 3]), (4, []), (5, []), (100009, [1, 2, 3, 9]), (100013, [13])]
noncomputable def impl_numberCode (a0 : Int) (a1 : Int) (a2 : Int) (a3 : Int) : Option Int :=
  (Option.bind (impl_isPrime a0) fun r1 => (if (!r1) then (some 1) else (Option.bind (impl_within a1 a2 a3) fun r4 => (if (!r4) then (some 2) else (some 0)))))
theorem impl_numberCode_ok (a0 : Int) (a1 : Int) (a2 : Int) (a3 : Int) (r : Int) (h : impl_numberCode a0 a1 a2 a3 = some r) : Den Try.prog 124 [(i6 a0), (i6 a1), (i6 a2), (i6 a3)] { r := (i6 r) } := by
  refine den_of (rs := [(i6 r)]) (ac := impl_numberCode_c) (L := impl_numberCode_L) (n := 19) (m := []) (c := Try.f124.body.getD .skip) good Try.func124 (by kernel_rfl) (by kernel_rfl) Try.ntmps124 rfl rfl (by kernel_rfl) rfl rfl ?_
  refine a_st (σ' := ⟨[(0, (i6 a0)), (1, (i6 a1)), (2, (i6 a2)), (3, (i6 a3))], []⟩) (by kernel_rfl) ?_
  unfold impl_numberCode_c
  refine sr (vp (i6 0) rfl (nx ⟨[(0, (i6 a0)), (1, (i6 a1)), (2, (i6 a2)), (3, (i6 a3))], []⟩ (by kernel_rfl) (a_seq (a_block (sr (vp (i6 a0) rfl ?_))))))
  obtain ⟨r1, hr2, h⟩ := bind_some h
  refine a_call (args := [(i6 a0)]) (u := []) (r := (.bool r1)) rfl rfl (impl_isPrime_ok a0 r1 hr2) rfl (vp (.bool (!r1)) rfl (vp (.bool (!r1)) rfl (nx ⟨[(1, (i6 a1)), (2, (i6 a2)), (3, (i6 a3)), (9, (.bool (!r1)))], []⟩ (by kernel_rfl) ?_)))
  cases hb3 : (!r1)
  · have h := ite_f hb3 h
    refine a_cond_f rfl (sr (vp (i6 a1) rfl (vp (i6 a2) rfl (vp (i6 a3) rfl ?_))))
    obtain ⟨r4, hr5, h⟩ := bind_some h
    refine a_call (args := [(i6 a1), (i6 a2), (i6 a3)]) (u := []) (r := (.bool r4)) rfl rfl (impl_within_ok a1 a2 a3 r4 hr5) rfl (vp (.bool (!r4)) rfl (vp (.bool (!r4)) rfl (nx ⟨[(13, (.bool (!r4)))], []⟩ (by kernel_rfl) ?_)))
    cases hb6 : (!r4)
    · have h := ite_f hb6 h
      refine a_cond_f rfl (a_skip (b_norm (a_next (σ' := ⟨[], []⟩) (by kernel_rfl) (sr (vp (i6 0) rfl (nx _ rfl (a_ret ?_)))))))
      refine ⟨.inr rfl, ?_⟩
      rw [Try.results124]
      cases h
      exact ⟨_, _, _, _, _, rfl, trivial, .inl ⟨rfl, .inl rfl⟩, rfl, rfl⟩
    · have h := ite_t hb6 h
      refine a_cond_t rfl (sr (vp (i6 2) rfl (nx _ rfl (a_ret (b_ret (t_ret ?_))))))
      refine ⟨.inr rfl, ?_⟩
      rw [Try.results124]
      cases h
      exact ⟨_, _, _, _, _, rfl, trivial, .inl ⟨rfl, .inl rfl⟩, rfl, rfl⟩
  · have h := ite_t hb3 h
    refine a_cond_t rfl (sr (vp (i6 1) rfl (nx _ rfl (a_ret (b_ret (t_ret ?_))))))
    refine ⟨.inr rfl, ?_⟩
    rw [Try.results124]
    cases h
    exact ⟨_, _, _, _, _, rfl, trivial, .inl ⟨rfl, .inl rfl⟩, rfl, rfl⟩
def impl_letter_c : ACode := (.seq (.region 0 [q 0 (.asg 1 (.const (.slice none 0 0)) 80)] false) (.seq (.region 1 [q 1 (.bslice 0 80 2 [(0, (.const (.int .i64 0))), (1, (.const (.int .i64 1)))]), q 0 (.asg 1 (t 1) 80)] false) .ret))
def impl_letter_L : Live := [(0, []), (1, [])]
noncomputable def impl_letter  : Option (List Int) :=
  (some ([0, 1]))
theorem impl_letter_ok  (r : (List Int)) (h : impl_letter = some r) : Den Try.prog 163 [] { r := (eSi64 r) } := by
  refine den_of (rs := [(eSi64 r)]) (ac := impl_letter_c) (L := impl_letter_L) (n := 2) (m := [(0, 1)]) (c := Try.f163.body.getD .skip) good Try.func163 (by kernel_rfl) (by kernel_rfl) Try.ntmps163 rfl rfl (by kernel_rfl) rfl rfl ?_
  refine a_st (σ' := ⟨[], []⟩) (by kernel_rfl) ?_
  unfold impl_letter_c
  refine sr (vp (eSi64 ([])) rfl (nx ⟨[], []⟩ (by kernel_rfl) (sr (vq (.sl 1 true (([0, 1]).map (AV.int .i64))) rfl ⟨(Nat.le_of_ble_eq_true rfl), (Nat.le_of_ble_eq_true rfl), (all_cons ⟨(Nat.le_of_ble_eq_true rfl), rfl⟩ (all_cons ⟨(Nat.le_of_ble_eq_true rfl), rfl⟩ all_nil))⟩ (vq (eSi64 ([0, 1])) (asg_tight (i := ⟨.int .i64, 1, 8, (.int .i64 0)⟩) (f := (AV.int .i64)) (l := [0, 1]) rfl rfl rfl) trivial (nx _ rfl (a_ret ?_)))))))
  refine ⟨.inr rfl, ?_⟩
  rw [Try.results163]
  cases h
  exact ⟨_, _, _, _, _, rfl, trivial, .inl ⟨rfl, .inl rfl⟩, rfl, rfl⟩
def impl_prime_norm_c : ACode := (.seq (.region 0 [q 6 (.asg 0 (.const (.int .i64 0)) 2)] false) (.seq (.region 1 [q 7 (.asg 0 (.const (.int .i64 1)) 2)] false) (.seq (.seq (.region 2 [q 8 (.mov (t 1)), q 9 (.mov (.const (.int .i64 0)))] false) (.block 0 (.loop (.seq (.region 3 [q 10 (.bin .lss 2 (t 9) (t 8))] false) (.seq (.cond (t 10) .skip (.exit 0)) (.seq (.block 1 (.seq (.seq (.region 4 [q 11 (.mov (t 7)), q 12 (.mov (t 2)), q 13 (.bin .gtr 2 (t 11) (t 12))] false) (.cond (t 13) (.exit 0) .skip)) (.region 5 [q 14 (.mov (t 7)), q 15 (.mov (t 0)), q 16 (.bin .mul 2 (t 14) (t 15)), q 7 (.asg 0 (t 16) 2)] false))) (.region 6 [q 17 (.bin .add 2 (t 9) (.const (.int .i64 1))), q 9 (.mov (t 17))] false))))))) (.seq (.region 7 [q 18 (.mov (t 7)), q 6 (.asg 0 (t 18) 2)] false) .ret))))
def impl_prime_norm_L : Live := [(0, [0, 1, 2]), (1, [0, 1, 2]), (2, [0, 1, 2, 7]), (3, [0, 2, 7, 8, 9]), (4, [0, 2, 7, 8, 9]), (5, [0, 2, 7, 8, 9]), (6, [0, 2, 7, 8, 9]), (7, [7]), (100010, [0, 2, 7, 8, 9, 10]), (100013, [0, 2, 7, 8, 9, 13])]
noncomputable def impl_prime_norm_l1 (a1 : Int) (a2 : Int) (a0 : Int) (x19 : Int) (x20 : Int) : Option ((Int × Int) ⊕ Int) :=
  (if (decide (x20 < a1)) then (if (decide (x19 > a2)) then (some (.inr x19)) else (some (.inl ((IntKind.i64.wrap (x19 * a0), IntKind.i64.wrap (x20 + 1)))))) else (some (.inr x19)))
noncomputable def impl_prime_norm (a0 : Int) (a1 : Int) (a2 : Int) : Option Int :=
  (Option.bind (α := Int) ((loopM (fun s : (Int × Int) => impl_prime_norm_l1 a1 a2 a0 s.1 s.2) (1, 0))) fun x13 => (some x13))
theorem impl_prime_norm_ok (a0 : Int) (a1 : Int) (a2 : Int) (r : Int) (h : impl_prime_norm a0 a1 a2 = some r) : Den Try.prog 171 [(i6 a0), (i6 a1), (i6 a2)] { r := (i6 r) } := by
  refine den_of (rs := [(i6 r)]) (ac := impl_prime_norm_c) (L := impl_prime_norm_L) (n := 19) (m := []) (c := Try.f171.body.getD .skip) good Try.func171 (by kernel_rfl) (by kernel_rfl) Try.ntmps171 rfl rfl (by kernel_rfl) rfl rfl ?_
  refine a_st (σ' := ⟨[(0, (i6 a0)), (1, (i6 a1)), (2, (i6 a2))], []⟩) (by kernel_rfl) ?_
  unfold impl_prime_norm_c
  refine sr (vp (i6 0) rfl (nx ⟨[(0, (i6 a0)), (1, (i6 a1)), (2, (i6 a2))], []⟩ (by kernel_rfl) (sr (vp (i6 1) rfl (nx ⟨[(0, (i6 a0)), (1, (i6 a1)), (2, (i6 a2)), (7, (i6 1))], []⟩ (by kernel_rfl) ?_)))))
  obtain ⟨y14, hy15, hk16⟩ := bind_some h
  clear h
  refine a_join (emb := fun (s : Int) => ⟨[(7, (i6 s))], []⟩) (pre := fun s => s = y14) ?_ ?_
  · rintro x13 rfl
    have h := hk16
    refine a_st (σ' := ⟨[(7, (i6 x13))], []⟩) (by kernel_rfl) (sr (vp (i6 x13) rfl (vp (i6 x13) rfl (nx _ rfl (a_ret ?_)))))
    refine ⟨.inr rfl, ?_⟩
    rw [Try.results171]
    cases h
    exact ⟨_, _, _, _, _, rfl, trivial, .inl ⟨rfl, .inl rfl⟩, rfl, rfl⟩
  · have h := hy15
    refine sr (vp (i6 a1) rfl (vp (i6 0) rfl (nx ⟨[(0, (i6 a0)), (2, (i6 a2)), (7, (i6 1)), (8, (i6 a1)), (9, (i6 0))], []⟩ (by kernel_rfl) (a_block ?_))))
    refine a_loop (emb := fun (s : (Int × Int)) => ⟨[(0, (i6 a0)), (2, (i6 a2)), (7, (i6 s.1)), (8, (i6 a1)), (9, (i6 s.2))], []⟩) (body := (fun s : (Int × Int) => impl_prime_norm_l1 a1 a2 a0 s.1 s.2)) (G := fun q => some q = some y14) h rfl ?_ (by kernel_rfl)
    rintro X23 ⟨x19, x20⟩ x24 h hX25
    have h : impl_prime_norm_l1 a1 a2 a0 x19 x20 = some x24 := h
    refine a_st (σ' := ⟨[(0, (i6 a0)), (2, (i6 a2)), (7, (i6 x19)), (8, (i6 a1)), (9, (i6 x20))], []⟩) (by kernel_rfl) (sr (vp (.bool ((decide (x20 < a1)))) rfl (nx ⟨[(0, (i6 a0)), (2, (i6 a2)), (7, (i6 x19)), (8, (i6 a1)), (9, (i6 x20)), (10, (.bool ((decide (x20 < a1)))))], []⟩ (by kernel_rfl) (a_seq ?_))))
    cases hb26 : (decide (x20 < a1))
    · have h := ite_f hb26 h
      refine a_cond_f rfl (a_exit (t_exit ?_))
      cases h
      have h := hX25
      refine t_exit (b_exit ?_)
      exact j_leaf x19 (Option.some.inj h) (by kernel_rfl)
    · have h := ite_t hb26 h
      refine a_cond_t rfl (a_skip (a_next (σ' := ⟨[(0, (i6 a0)), (2, (i6 a2)), (7, (i6 x19)), (8, (i6 a1)), (9, (i6 x20))], []⟩) (by kernel_rfl) (a_seq (a_block (a_seq (sr (vp (i6 x19) rfl (vp (i6 a2) rfl (vp (.bool ((decide (x19 > a2)))) rfl ?_)))))))))
      refine nx ⟨[(0, (i6 a0)), (2, (i6 a2)), (7, (i6 x19)), (8, (i6 a1)), (9, (i6 x20)), (13, (.bool ((decide (x19 > a2)))))], []⟩ (by kernel_rfl) ?_
      cases hb27 : (decide (x19 > a2))
      · have h := ite_f hb27 h
        refine a_cond_f rfl (a_skip (a_next (σ' := ⟨[(0, (i6 a0)), (2, (i6 a2)), (7, (i6 x19)), (8, (i6 a1)), (9, (i6 x20))], []⟩) (by kernel_rfl) (a_region (vp (i6 x19) rfl (vp (i6 a0) rfl (vp (i6 (IntKind.i64.wrap (x19 * a0))) rfl (vp (i6 (IntKind.i64.wrap (x19 * a0))) rfl (a_nil (b_norm ?_)))))))))
        refine a_next (σ' := ⟨[(0, (i6 a0)), (2, (i6 a2)), (7, (i6 (IntKind.i64.wrap (x19 * a0)))), (8, (i6 a1)), (9, (i6 x20))], []⟩) (by kernel_rfl) (a_region (vp (i6 (IntKind.i64.wrap (x20 + 1))) rfl (vp (i6 (IntKind.i64.wrap (x20 + 1))) rfl (a_nil ?_))))
        cases h
        exact a_again (by kernel_rfl) hX25
      · have h := ite_t hb27 h
        refine a_cond_t rfl (a_exit (t_exit (b_other rfl (t_exit ?_))))
        cases h
        have h := hX25
        refine t_exit (b_exit ?_)
        exact j_leaf x19 (Option.some.inj h) (by kernel_rfl)
def impl_row_degree_c : ACode := (.seq (.region 0 [q 2 (.asg 0 (.const (.int .i64 0)) 2)] false) (.seq (.region 1 [q 3 (.mov (t 0)), q 4 (.blt 0 .len [(t 3)] [80]), q 5 (.bin .sub 2 (t 4) (.const (.int .i64 1))), q 2 (.asg 0 (t 5) 2)] false) .ret))
def impl_row_degree_L : Live := [(0, [0]), (1, [0])]
noncomputable def impl_row_degree (a0 : (List Int)) : Option Int :=
  (some (IntKind.i64.wrap ((a0.length : Int) - 1)))
theorem impl_row_degree_ok (a0 : (List Int)) (r : Int) (h : impl_row_degree a0 = some r) : Den Try.prog 114 [(eSi64 a0)] { r := (i6 r) } := by
  refine den_of (rs := [(i6 r)]) (ac := impl_row_degree_c) (L := impl_row_degree_L) (n := 6) (m := []) (c := Try.f114.body.getD .skip) good Try.func114 (by kernel_rfl) (by kernel_rfl) Try.ntmps114 rfl rfl (by kernel_rfl) rfl rfl ?_
  refine a_st (σ' := ⟨[(0, (eSi64 a0))], []⟩) (by kernel_rfl) ?_
  unfold impl_row_degree_c
  refine sr (vp (i6 0) rfl (nx ⟨[(0, (eSi64 a0))], []⟩ (by kernel_rfl) (sr (vp (eSi64 a0) rfl (vq (i6 (a0.length : Int)) (len_run rfl rfl) trivial (vp (i6 (IntKind.i64.wrap ((a0.length : Int) - 1))) rfl (vp (i6 (IntKind.i64.wrap ((a0.length : Int) - 1))) rfl (nx _ rfl (a_ret ?_)))))))))
  refine ⟨.inr rfl, ?_⟩
  rw [Try.results114]
  cases h
  exact ⟨_, _, _, _, _, rfl, trivial, .inl ⟨rfl, .inl rfl⟩, rfl, rfl⟩
def impl_prime_spread_c : ACode := (.seq (.region 0 [q 6 (.asg 1 (.const (.slice none 0 0)) 80)] false) (.seq (.seq (.region 1 [q 11 (.mov (t 1)), q 12 (.blt 0 .len [(t 11)] [80]), q 13 (.bin .eql 3 (t 12) (.const (.int .i64 0)))] false) (.cond (t 13) (.seq (.region 2 [q 6 (.asg 1 (.const (.slice none 0 0)) 80)] false) .ret) .skip)) (.seq (.region 3 [q 14 (.mov (t 0)), q 15 (.mov (t 2)), q 16 (.call 0 (.func 171) [(t 14), (t 15), (.const (.int .i64 1099511627776))]), q 7 (.asg 0 (t 16) 2)] false) (.seq (.region 4 [q 17 (.mov (t 1)), q 18 (.call 0 (.func 114) [(t 17)]), q 19 (.mov (t 7)), q 20 (.bin .mul 2 (t 18) (t 19)), q 21 (.bin .add 2 (t 20) (.const (.int .i64 1))), q 22 (.mkslice 80 (t 21) (t 21)), q 8 (.asg 2 (t 22) 80)] false) (.seq (.seq (.region 5 [q 23 (.mov (t 1)), q 24 (.blt 0 .len [(t 23)] [80]), q 25 (.mov (.const (.int .i64 0)))] false) (.block 0 (.loop (.seq (.region 6 [q 26 (.bin .lss 3 (t 25) (t 24))] false) (.seq (.cond (t 26) .skip (.exit 0)) (.seq (.block 1 (.seq (.region 7 [q 27 (.mov (t 25)), q 28 (.indexAddr 80 (t 23) (t 25)), q 29 (.load 2 (t 28)), q 9 (.asg 0 (t 27) 3), q 10 (.asg 0 (t 29) 2)] false) (.region 8 [q 30 (.mov (t 8)), q 31 (.mov (t 9)), q 32 (.mov (t 7)), q 33 (.bin .mul 2 (t 31) (t 32)), q 34 (.mov (t 10)), q 35 (.indexAddr 80 (t 30) (t 33)), ⟨none, .store 2 (t 35) (t 34), none, []⟩] false))) (.region 9 [q 36 (.bin .add 3 (t 25) (.const (.int .i64 1))), q 25 (.mov (t 36))] false))))))) (.seq (.region 10 [q 37 (.mov (t 8)), q 6 (.asg 1 (t 37) 80)] false) .ret))))))
def impl_prime_spread_L : Live := [(0, [0, 1, 2]), (1, [0, 1, 2]), (2, []), (3, [0, 1, 2]), (4, [1, 7]), (5, [1, 7, 8]), (6, [7, 8, 23, 24, 25]), (7, [7, 8, 23, 24, 25]), (8, [7, 8, 9, 10, 23, 24, 25]), (9, [7, 8, 23, 24, 25]), (10, [8]), (100013, [0, 1, 2, 13]), (100026, [7, 8, 23, 24, 25, 26])]
noncomputable def impl_prime_spread_l1 (a1 : (List Int)) (r2 : Int) (x37 : Int) (x38 : (List Int)) : Option ((Int × (List Int)) ⊕ (List Int)) :=
  (if (decide (x37 < (a1.length : Int))) then (ifp (0 ≤ x37 ∧ x37 < ((a1.length : Nat) : Int)) ((ifp (0 ≤ IntKind.i64.wrap (x37 * r2) ∧ IntKind.i64.wrap (x37 * r2) < ((x38.length : Nat) : Int)) ((some (.inl ((IntKind.i64.wrap (x37 + 1), (x38.set (IntKind.i64.wrap (x37 * r2)).toNat (rd a1 x37.toNat)))))))))) else (some (.inr x38)))
noncomputable def impl_prime_spread (a0 : Int) (a1 : (List Int)) (a2 : Int) : Option (List Int) :=
  (if ((a1.length : Int) == 0) then (some ([])) else (Option.bind (impl_prime_norm a0 a2 1099511627776) fun r2 => (Option.bind (impl_row_degree a1) fun r4 => (ifp (0 ≤ IntKind.i64.wrap ((IntKind.i64.wrap (r4 * r2)) + 1) ∧ IntKind.i64.wrap ((IntKind.i64.wrap (r4 * r2)) + 1) ≤ 140737488355328 ∧ 8 * IntKind.i64.wrap ((IntKind.i64.wrap (r4 * r2)) + 1) ≤ 140737488355328) ((Option.bind (α := (List Int)) ((loopM (fun s : (Int × (List Int)) => impl_prime_spread_l1 a1 r2 s.1 s.2) (0, List.replicate (IntKind.i64.wrap ((IntKind.i64.wrap (r4 * r2)) + 1)).toNat (0 : Int)))) fun x28 => (some x28)))))))
theorem impl_prime_spread_ok (a0 : Int) (a1 : (List Int)) (a2 : Int) (r : (List Int)) (h : impl_prime_spread a0 a1 a2 = some r) : Den Try.prog 189 [(i6 a0), (eSi64 a1), (i6 a2)] { r := (eSi64 r) } := by
  refine den_of (rs := [(eSi64 r)]) (ac := impl_prime_spread_c) (L := impl_prime_spread_L) (n := 38) (m := [(6, 1), (8, 2)]) (c := Try.f189.body.getD .skip) good Try.func189 (by kernel_rfl) (by kernel_rfl) Try.ntmps189 rfl rfl (by kernel_rfl) rfl rfl ?_
  refine a_st (σ' := ⟨[(0, (i6 a0)), (1, (eSi64 a1)), (2, (i6 a2))], []⟩) (by kernel_rfl) ?_
  unfold impl_prime_spread_c
  refine sr (vp (eSi64 ([])) rfl (nx ⟨[(0, (i6 a0)), (1, (eSi64 a1)), (2, (i6 a2))], []⟩ (by kernel_rfl) (a_seq (sr (vp (eSi64 a1) rfl (vq (i6 (a1.length : Int)) (len_run rfl rfl) trivial (vp (.bool (((a1.length : Int) == 0))) rfl (nx ⟨[(0, (i6 a0)), (1, (eSi64 a1)), (2, (i6 a2)), (13, (.bool (((a1.length : Int) == 0))))], []⟩ (by kernel_rfl) ?_))))))))
  cases hb1 : ((a1.length : Int) == 0)
  · have h := ite_f hb1 h
    refine a_cond_f rfl (a_skip (a_next (σ' := ⟨[(0, (i6 a0)), (1, (eSi64 a1)), (2, (i6 a2))], []⟩) (by kernel_rfl) (sr (vp (i6 a0) rfl (vp (i6 a2) rfl ?_)))))
    obtain ⟨r2, hr3, h⟩ := bind_some h
    refine a_call (args := [(i6 a0), (i6 a2), (i6 1099511627776)]) (u := []) (r := (i6 r2)) rfl rfl (impl_prime_norm_ok a0 a2 1099511627776 r2 hr3) rfl (vp (i6 r2) rfl (nx ⟨[(1, (eSi64 a1)), (7, (i6 r2))], []⟩ (by kernel_rfl) (sr (vp (eSi64 a1) rfl ?_))))
    obtain ⟨r4, hr5, h⟩ := bind_some h
    refine a_call (args := [(eSi64 a1)]) (u := []) (r := (i6 r4)) rfl rfl (impl_row_degree_ok a1 r4 hr5) rfl (vp (i6 r2) rfl (vp (i6 (IntKind.i64.wrap (r4 * r2))) rfl (vp (i6 (IntKind.i64.wrap ((IntKind.i64.wrap (r4 * r2)) + 1))) rfl ?_)))
    obtain ⟨hc6, h⟩ := ifp_some h
    refine vu (.osl 3200) [(3200, (bk (.row 1 ((List.replicate (IntKind.i64.wrap ((IntKind.i64.wrap (r4 * r2)) + 1)).toNat (0 : Int)).map (AV.int .i64)))))] (mk_run (i := ⟨.int .i64, 1, 8, (.int .i64 0)⟩) (f := (AV.int .i64)) (y := (0 : Int)) rfl rfl rfl rfl rfl rfl) ⟨rfl, hc6.1, hc6.2.1, hc6.2.2, (Nat.le_of_ble_eq_true rfl)⟩ rfl (vp (.osl 3200) rfl (nx ⟨[(1, (eSi64 a1)), (7, (i6 r2)), (8, (.osl 8))], [(8, (bk (.row 1 ((List.replicate (IntKind.i64.wrap ((IntKind.i64.wrap (r4 * r2)) + 1)).toNat (0 : Int)).map (AV.int .i64)))))]⟩ (by kernel_rfl) ?_))
    obtain ⟨y29, hy30, hk31⟩ := bind_some h
    clear h
    refine a_join (emb := fun (s : (List Int)) => ⟨[(8, (.osl 8))], [(8, (bk (.row 1 (s.map (AV.int .i64)))))]⟩) (pre := fun s => s = y29) ?_ ?_
    · rintro x28 rfl
      have h := hk31
      refine a_st (σ' := ⟨[(8, (.osl 8))], [(8, (bk (.row 1 (x28.map (AV.int .i64)))))]⟩) (by kernel_rfl) (sr (vp (.osl 8) rfl (vu (eSi64 x28) [(8, (bf (.row 1 (x28.map (AV.int .i64)))))] rfl trivial rfl (nx _ rfl (a_ret ?_)))))
      refine ⟨.inr rfl, ?_⟩
      rw [Try.results189]
      cases h
      exact ⟨_, _, _, _, _, rfl, trivial, .inl ⟨rfl, .inl rfl⟩, rfl, rfl⟩
    · have h := hy30
      refine sr (vp (eSi64 a1) rfl (vq (i6 (a1.length : Int)) (len_run rfl rfl) trivial (vp (i6 0) rfl (nx ⟨[(7, (i6 r2)), (8, (.osl 8)), (23, (eSi64 a1)), (24, (i6 (a1.length : Int))), (25, (i6 0))], [(8, (bk (.row 1 ((List.replicate (IntKind.i64.wrap ((IntKind.i64.wrap (r4 * r2)) + 1)).toNat (0 : Int)).map (AV.int .i64)))))]⟩ (by kernel_rfl) (a_block ?_)))))
      refine a_loop (emb := fun (s : (Int × (List Int))) => ⟨[(7, (i6 r2)), (8, (.osl 8)), (23, (eSi64 a1)), (24, (i6 (a1.length : Int))), (25, (i6 s.1))], [(8, (bk (.row 1 (s.2.map (AV.int .i64)))))]⟩) (body := (fun s : (Int × (List Int)) => impl_prime_spread_l1 a1 r2 s.1 s.2)) (G := fun q => some q = some y29) h rfl ?_ (by kernel_rfl)
      rintro X44 ⟨x37, x38⟩ x45 h hX46
      have h : impl_prime_spread_l1 a1 r2 x37 x38 = some x45 := h
      refine a_st (σ' := ⟨[(7, (i6 r2)), (8, (.osl 8)), (23, (eSi64 a1)), (24, (i6 (a1.length : Int))), (25, (i6 x37))], [(8, (bk (.row 1 (x38.map (AV.int .i64)))))]⟩) (by kernel_rfl) (sr (vp (.bool ((decide (x37 < (a1.length : Int))))) rfl (nx ⟨[(7, (i6 r2)), (8, (.osl 8)), (23, (eSi64 a1)), (24, (i6 (a1.length : Int))), (25, (i6 x37)), (26, (.bool ((decide (x37 < (a1.length : Int))))))], [(8, (bk (.row 1 (x38.map (AV.int .i64)))))]⟩ (by kernel_rfl) (a_seq ?_))))
      cases hb47 : (decide (x37 < (a1.length : Int)))
      · have h := ite_f hb47 h
        refine a_cond_f rfl (a_exit (t_exit ?_))
        cases h
        have h := hX46
        refine t_exit (b_exit ?_)
        exact j_leaf x38 (Option.some.inj h) (by kernel_rfl)
      · have h := ite_t hb47 h
        refine a_cond_t rfl (a_skip (a_next (σ' := ⟨[(7, (i6 r2)), (8, (.osl 8)), (23, (eSi64 a1)), (24, (i6 (a1.length : Int))), (25, (i6 x37))], [(8, (bk (.row 1 (x38.map (AV.int .i64)))))]⟩) (by kernel_rfl) (a_seq (a_block (sr (vp (i6 x37) rfl ?_))))))
        obtain ⟨hc48, h⟩ := ifp_some h
        refine vq (.ref (.row 1 (a1.map (AV.int .i64))) [x37.toNat] [x37.toNat * 1]) rfl (lmap hc48) ?_
        have hl49 : LdOk [x37.toNat] (.row 1 (a1.map (AV.int .i64))) [x37.toNat * 1] 1 false (i6 (rd a1 x37.toNat)) := (.row (llt hc48) rfl (.nil rfl rfl rfl))
        refine vq (i6 (rd a1 x37.toNat)) (ld_ref (i := ⟨.int .i64, 1, 8, (.int .i64 0)⟩) rfl rfl hl49) hl49.c (vp (i6 x37) rfl (vp (i6 (rd a1 x37.toNat)) rfl (nx ⟨[(7, (i6 r2)), (8, (.osl 8)), (9, (i6 x37)), (10, (i6 (rd a1 x37.toNat))), (23, (eSi64 a1)), (24, (i6 (a1.length : Int))), (25, (i6 x37))], [(8, (bk (.row 1 (x38.map (AV.int .i64)))))]⟩ (by kernel_rfl) (a_region (vp (.osl 8) rfl (vp (i6 x37) rfl (vp (i6 r2) rfl (vp (i6 (IntKind.i64.wrap (x37 * r2))) rfl (vp (i6 (rd a1 x37.toNat)) rfl ?_)))))))))
        obtain ⟨hc50, h⟩ := ifp_some h
        refine vq (.own 8 [(IntKind.i64.wrap (x37 * r2)).toNat] [(IntKind.i64.wrap (x37 * r2)).toNat * 1]) rfl (lmap hc50) ?_
        have hs51 : StOk [(IntKind.i64.wrap (x37 * r2)).toNat] (.row 1 (x38.map (AV.int .i64))) [(IntKind.i64.wrap (x37 * r2)).toNat * 1] 1 (i6 (rd a1 x37.toNat)) (.row 1 (((x38.set (IntKind.i64.wrap (x37 * r2)).toNat (rd a1 x37.toNat))).map (AV.int .i64))) := (.row (y := (rd a1 x37.toNat)) (llt hc50) rfl (.nil rfl rfl rfl rfl))
        refine vu .top [(8, (bk (.row 1 (((x38.set (IntKind.i64.wrap (x37 * r2)).toNat (rd a1 x37.toNat))).map (AV.int .i64)))))] (st_own (i := ⟨.int .i64, 1, 8, (.int .i64 0)⟩) rfl rfl (fun _ => rfl) rfl hs51) (hs51.c rfl) rfl (a_nil (b_norm (a_next (σ' := ⟨[(7, (i6 r2)), (8, (.osl 8)), (23, (eSi64 a1)), (24, (i6 (a1.length : Int))), (25, (i6 x37))], [(8, (bk (.row 1 (((x38.set (IntKind.i64.wrap (x37 * r2)).toNat (rd a1 x37.toNat))).map (AV.int .i64)))))]⟩) (by kernel_rfl) (a_region (vp (i6 (IntKind.i64.wrap (x37 + 1))) rfl (vp (i6 (IntKind.i64.wrap (x37 + 1))) rfl (a_nil ?_)))))))
        cases h
        exact a_again (by kernel_rfl) hX46
  · have h := ite_t hb1 h
    refine a_cond_t rfl (sr (vp (eSi64 ([])) rfl (nx _ rfl (a_ret (t_ret ?_)))))
    refine ⟨.inr rfl, ?_⟩
    rw [Try.results189]
    cases h
    exact ⟨_, _, _, _, _, rfl, trivial, .inl ⟨rfl, .inl rfl⟩, rfl, rfl⟩
def impl_row_at_c : ACode := (.seq (.region 0 [q 4 (.asg 0 (.const (.int .i64 0)) 2)] false) (.seq (.seq (.region 1 [q 5 (.mov (t 1)), q 6 (.mov (t 0)), q 7 (.blt 0 .len [(t 6)] [80]), q 8 (.bin .lss 3 (t 5) (t 7))] false) (.cond (t 8) (.seq (.region 2 [q 9 (.mov (t 0)), q 10 (.mov (t 1)), q 11 (.indexAddr 80 (t 9) (t 10)), q 12 (.load 2 (t 11)), q 4 (.asg 0 (t 12) 2)] false) .ret) .skip)) (.seq (.region 3 [q 4 (.asg 0 (.const (.int .i64 0)) 2)] false) .ret)))
def impl_row_at_L : Live := [(0, [0, 1]), (1, [0, 1]), (2, [0, 1]), (3, []), (100008, [0, 1, 8])]
noncomputable def impl_row_at (a0 : (List Int)) (a1 : Int) : Option Int :=
  (if (decide (a1 < (a0.length : Int))) then (ifp (0 ≤ a1 ∧ a1 < ((a0.length : Nat) : Int)) ((some (rd a0 a1.toNat)))) else (some 0))
theorem impl_row_at_ok (a0 : (List Int)) (a1 : Int) (r : Int) (h : impl_row_at a0 a1 = some r) : Den Try.prog 164 [(eSi64 a0), (i6 a1)] { r := (i6 r) } := by
  refine den_of (rs := [(i6 r)]) (ac := impl_row_at_c) (L := impl_row_at_L) (n := 13) (m := []) (c := Try.f164.body.getD .skip) good Try.func164 (by kernel_rfl) (by kernel_rfl) Try.ntmps164 rfl rfl (by kernel_rfl) rfl rfl ?_
  refine a_st (σ' := ⟨[(0, (eSi64 a0)), (1, (i6 a1))], []⟩) (by kernel_rfl) ?_
  unfold impl_row_at_c
  refine sr (vp (i6 0) rfl (nx ⟨[(0, (eSi64 a0)), (1, (i6 a1))], []⟩ (by kernel_rfl) (a_seq (sr (vp (i6 a1) rfl (vp (eSi64 a0) rfl (vq (i6 (a0.length : Int)) (len_run rfl rfl) trivial (vp (.bool ((decide (a1 < (a0.length : Int))))) rfl (nx ⟨[(0, (eSi64 a0)), (1, (i6 a1)), (8, (.bool ((decide (a1 < (a0.length : Int))))))], []⟩ (by kernel_rfl) ?_)))))))))
  cases hb1 : (decide (a1 < (a0.length : Int)))
  · have h := ite_f hb1 h
    refine a_cond_f rfl (a_skip (a_next (σ' := ⟨[], []⟩) (by kernel_rfl) (sr (vp (i6 0) rfl (nx _ rfl (a_ret ?_))))))
    refine ⟨.inr rfl, ?_⟩
    rw [Try.results164]
    cases h
    exact ⟨_, _, _, _, _, rfl, trivial, .inl ⟨rfl, .inl rfl⟩, rfl, rfl⟩
  · have h := ite_t hb1 h
    refine a_cond_t rfl (sr (vp (eSi64 a0) rfl (vp (i6 a1) rfl ?_)))
    obtain ⟨hc2, h⟩ := ifp_some h
    refine vq (.ref (.row 1 (a0.map (AV.int .i64))) [a1.toNat] [a1.toNat * 1]) rfl (lmap hc2) ?_
    have hl3 : LdOk [a1.toNat] (.row 1 (a0.map (AV.int .i64))) [a1.toNat * 1] 1 false (i6 (rd a0 a1.toNat)) := (.row (llt hc2) rfl (.nil rfl rfl rfl))
    refine vq (i6 (rd a0 a1.toNat)) (ld_ref (i := ⟨.int .i64, 1, 8, (.int .i64 0)⟩) rfl rfl hl3) hl3.c (vp (i6 (rd a0 a1.toNat)) rfl (nx _ rfl (a_ret (t_ret ?_))))
    refine ⟨.inr rfl, ?_⟩
    rw [Try.results164]
    cases h
    exact ⟨_, _, _, _, _, rfl, trivial, .inl ⟨rfl, .inl rfl⟩, rfl, rfl⟩
def impl_prime_reduce_c : ACode := (.seq (.region 0 [q 4 (.asg 0 (.const (.int .i64 0)) 2)] false) (.seq (.region 1 [q 5 (.mov (t 1)), q 6 (.mov (t 0)), q 7 (.bin .rem 2 (t 5) (t 6)), q 8 (.mov (t 0)), q 9 (.bin .add 2 (t 7) (t 8)), q 10 (.mov (t 0)), q 11 (.bin .rem 2 (t 9) (t 10)), q 4 (.asg 0 (t 11) 2)] false) .ret))
def impl_prime_reduce_L : Live := [(0, [0, 1]), (1, [0, 1])]
noncomputable def impl_prime_reduce (a0 : Int) (a1 : Int) : Option Int :=
  (ifp (a0 ≠ 0) ((ifp (a0 ≠ 0) ((some (Int.tmod (IntKind.i64.wrap ((Int.tmod a1 a0) + a0)) a0))))))
theorem impl_prime_reduce_ok (a0 : Int) (a1 : Int) (r : Int) (h : impl_prime_reduce a0 a1 = some r) : Den Try.prog 183 [(i6 a0), (i6 a1)] { r := (i6 r) } := by
  refine den_of (rs := [(i6 r)]) (ac := impl_prime_reduce_c) (L := impl_prime_reduce_L) (n := 12) (m := []) (c := Try.f183.body.getD .skip) good Try.func183 (by kernel_rfl) (by kernel_rfl) Try.ntmps183 rfl rfl (by kernel_rfl) rfl rfl ?_
  refine a_st (σ' := ⟨[(0, (i6 a0)), (1, (i6 a1))], []⟩) (by kernel_rfl) ?_
  unfold impl_prime_reduce_c
  refine sr (vp (i6 0) rfl (nx ⟨[(0, (i6 a0)), (1, (i6 a1))], []⟩ (by kernel_rfl) (sr (vp (i6 a1) rfl (vp (i6 a0) rfl ?_)))))
  obtain ⟨hc1, h⟩ := ifp_some h
  refine vq (i6 (Int.tmod a1 a0)) rfl hc1 (vp (i6 a0) rfl (vp (i6 (IntKind.i64.wrap ((Int.tmod a1 a0) + a0))) rfl (vp (i6 a0) rfl ?_)))
  obtain ⟨hc2, h⟩ := ifp_some h
  refine vq (i6 (Int.tmod (IntKind.i64.wrap ((Int.tmod a1 a0) + a0)) a0)) rfl hc2 (vp (i6 (Int.tmod (IntKind.i64.wrap ((Int.tmod a1 a0) + a0)) a0)) rfl (nx _ rfl (a_ret ?_)))
  refine ⟨.inr rfl, ?_⟩
  rw [Try.results183]
  cases h
  exact ⟨_, _, _, _, _, rfl, trivial, .inl ⟨rfl, .inl rfl⟩, rfl, rfl⟩
def impl_row_trimmed_c : ACode := (.seq (.region 0 [q 2 (.asg 1 (.const (.slice none 0 0)) 80)] false) (.seq (.region 1 [q 4 (.mov (t 0)), q 5 (.blt 0 .len [(t 4)] [80]), q 3 (.asg 0 (t 5) 3)] false) (.seq (.block 0 (.loop (.seq (.seq (.region 2 [q 6 (.mov (t 3)), q 7 (.bin .gtr 3 (t 6) (.const (.int .i64 0))), q 8 (.mov (t 7)), ⟨some 9, .mov (t 0), some (8, true), []⟩, ⟨some 10, .mov (t 3), some (8, true), []⟩, ⟨some 11, .bin .sub 3 (t 10) (.const (.int .i64 1)), some (8, true), []⟩, ⟨some 12, .indexAddr 80 (t 9) (t 11), some (8, true), []⟩, ⟨some 13, .load 2 (t 12), some (8, true), []⟩, ⟨some 14, .bin .eql 2 (t 13) (.const (.int .i64 0)), some (8, true), []⟩, q 15 (.pick (t 8) (t 14) (.const (.bool false)))] false) (.cond (t 15) .skip (.exit 0))) (.block 1 (.region 3 [q 16 (.mov (t 3)), q 17 (.bin .sub 3 (t 16) (.const (.int .i64 1))), q 3 (.asg 0 (t 17) 3)] false))))) (.seq (.region 4 [q 18 (.mov (t 0)), q 19 (.mov (t 3)), q 20 (.mov (t 3)), q 21 (.slice 80 (t 18) none (some (t 19)) (some (t 20))), q 2 (.asg 1 (t 21) 80)] false) .ret))))
def impl_row_trimmed_L : Live := [(0, [0]), (1, [0]), (2, [0, 3]), (3, [0, 3]), (4, [0, 3]), (100015, [0, 3, 15])]
noncomputable def impl_row_trimmed_l1 (a0 : (List Int)) (x62 : Int) : Option (Int ⊕ Int) :=
  (Option.bind (α := Bool) ((if (decide (x62 > 0)) then (ifp (0 ≤ IntKind.i64.wrap (x62 - 1) ∧ IntKind.i64.wrap (x62 - 1) < ((a0.length : Nat) : Int)) ((some ((((rd a0 (IntKind.i64.wrap (x62 - 1)).toNat)) == 0))))) else (some false))) fun x80 => (if x80 then (some (.inl (IntKind.i64.wrap (x62 - 1)))) else (some (.inr x62))))
noncomputable def impl_row_trimmed (a0 : (List Int)) : Option (List Int) :=
  (Option.bind (α := Int) ((loopM (fun s : Int => impl_row_trimmed_l1 a0 s) (a0.length : Int))) fun x43 => (ifp (0 ≤ x43 ∧ x43 ≤ (a0.length : Int)) ((some (a0.take x43.toNat)))))
theorem impl_row_trimmed_ok (a0 : (List Int)) (r : (List Int)) (h : impl_row_trimmed a0 = some r) : Den Try.prog 180 [(eSi64 a0)] { r := (eSi64 r) } := by
  refine den_of (rs := [(eSi64 r)]) (ac := impl_row_trimmed_c) (L := impl_row_trimmed_L) (n := 22) (m := [(2, 1)]) (c := Try.f180.body.getD .skip) good Try.func180 (by kernel_rfl) (by kernel_rfl) Try.ntmps180 rfl rfl (by kernel_rfl) rfl rfl ?_
  refine a_st (σ' := ⟨[(0, (eSi64 a0))], []⟩) (by kernel_rfl) ?_
  unfold impl_row_trimmed_c
  refine sr (vp (eSi64 ([])) rfl (nx ⟨[(0, (eSi64 a0))], []⟩ (by kernel_rfl) (sr (vp (eSi64 a0) rfl (vq (i6 (a0.length : Int)) (len_run rfl rfl) trivial (vp (i6 (a0.length : Int)) rfl (nx ⟨[(0, (eSi64 a0)), (3, (i6 (a0.length : Int)))], []⟩ (by kernel_rfl) ?_)))))))
  obtain ⟨y44, hy45, hk46⟩ := bind_some h
  clear h
  refine a_join (emb := fun (s : Int) => ⟨[(0, (eSi64 a0)), (3, (i6 s))], []⟩) (pre := fun s => s = y44) ?_ ?_
  · rintro x43 rfl
    have h := hk46
    refine a_st (σ' := ⟨[(0, (eSi64 a0)), (3, (i6 x43))], []⟩) (by kernel_rfl) (sr (vp (eSi64 a0) rfl (vp (i6 x43) rfl (vp (i6 x43) rfl ?_))))
    obtain ⟨hc89, h⟩ := ifp_some h
    refine vq (.sl 1 true ((a0.take x43.toNat).map (AV.int .i64))) (take3_run (f := (AV.int .i64)) (l := a0) (i := ⟨.int .i64, 1, 8, (.int .i64 0)⟩) rfl rfl rfl rfl (fun _ => rfl)) ⟨hc89.1, lmap_le hc89.2, rfl⟩ (vq (eSi64 (a0.take x43.toNat)) (asg_tight (i := ⟨.int .i64, 1, 8, (.int .i64 0)⟩) (f := (AV.int .i64)) (l := (a0.take x43.toNat)) rfl rfl rfl) trivial (nx _ rfl (a_ret ?_)))
    refine ⟨.inr rfl, ?_⟩
    rw [Try.results180]
    cases h
    exact ⟨_, _, _, _, _, rfl, trivial, .inl ⟨rfl, .inl rfl⟩, rfl, rfl⟩
  · have h := hy45
    refine a_block ?_
    refine a_loop (emb := fun (s : Int) => ⟨[(0, (eSi64 a0)), (3, (i6 s))], []⟩) (body := (fun s : Int => impl_row_trimmed_l1 a0 s)) (G := fun q => some q = some y44) h rfl ?_ (by kernel_rfl)
    rintro X74 x62 x75 h hX76
    have h : impl_row_trimmed_l1 a0 x62 = some x75 := h
    refine a_st (σ' := ⟨[(0, (eSi64 a0)), (3, (i6 x62))], []⟩) (by kernel_rfl) (a_seq ?_)
    obtain ⟨y81, hy82, hk83⟩ := bind_some h
    clear h
    refine a_join (emb := fun (s : Bool) => ⟨[(0, (eSi64 a0)), (3, (i6 x62)), (15, (.bool s))], []⟩) (pre := fun s => s = y81) ?_ ?_
    · rintro x80 rfl
      have h := hk83
      refine a_st (σ' := ⟨[(0, (eSi64 a0)), (3, (i6 x62)), (15, (.bool x80))], []⟩) (by kernel_rfl) ?_
      cases hb87 : x80
      · have h := ite_f hb87 h
        refine a_cond_f rfl (a_exit (t_exit ?_))
        cases h
        have h := hX76
        refine t_exit (b_exit ?_)
        exact j_leaf x62 (Option.some.inj h) (by kernel_rfl)
      · have h := ite_t hb87 h
        refine a_cond_t rfl (a_skip (a_next (σ' := ⟨[(0, (eSi64 a0)), (3, (i6 x62))], []⟩) (by kernel_rfl) (a_block (a_region (vp (i6 x62) rfl (vp (i6 (IntKind.i64.wrap (x62 - 1))) rfl (vp (i6 (IntKind.i64.wrap (x62 - 1))) rfl (a_nil (b_norm ?_)))))))))
        cases h
        exact a_again (by kernel_rfl) hX76
    · have h := hy82
      refine a_region (vp (i6 x62) rfl (vp (.bool ((decide (x62 > 0)))) rfl (vp (.bool ((decide (x62 > 0)))) rfl ?_)))
      cases hb84 : (decide (x62 > 0))
      · have h := ite_f hb84 h
        refine a_gskip rfl (a_gskip rfl (a_gskip rfl (a_gskip rfl (a_gskip rfl (a_gskip rfl (vp (.bool false) rfl (a_nil ?_)))))))
        exact j_leaf false (Option.some.inj h) (by kernel_rfl)
      · have h := ite_t hb84 h
        refine gp (eSi64 a0) rfl rfl (gp (i6 x62) rfl rfl (gp (i6 (IntKind.i64.wrap (x62 - 1))) rfl rfl ?_))
        obtain ⟨hc85, h⟩ := ifp_some h
        refine gq (.ref (.row 1 (a0.map (AV.int .i64))) [(IntKind.i64.wrap (x62 - 1)).toNat] [(IntKind.i64.wrap (x62 - 1)).toNat * 1]) rfl rfl (lmap hc85) ?_
        have hl86 : LdOk [(IntKind.i64.wrap (x62 - 1)).toNat] (.row 1 (a0.map (AV.int .i64))) [(IntKind.i64.wrap (x62 - 1)).toNat * 1] 1 false (i6 ((rd a0 (IntKind.i64.wrap (x62 - 1)).toNat))) := (.row (llt hc85) rfl (.nil rfl rfl rfl))
        refine gq (i6 ((rd a0 (IntKind.i64.wrap (x62 - 1)).toNat))) rfl (ld_ref (i := ⟨.int .i64, 1, 8, (.int .i64 0)⟩) rfl rfl hl86) hl86.c (gp (.bool ((((rd a0 (IntKind.i64.wrap (x62 - 1)).toNat)) == 0))) rfl rfl (vp (.bool ((((rd a0 (IntKind.i64.wrap (x62 - 1)).toNat)) == 0))) rfl (a_nil ?_)))
        exact j_leaf ((((rd a0 (IntKind.i64.wrap (x62 - 1)).toNat)) == 0)) (Option.some.inj h) (by kernel_rfl)
def impl_prime_combine_c : ACode := (.seq (.region 0 [q 8 (.asg 1 (.const (.slice none 0 0)) 80)] false) (.seq (.region 1 [q 11 (.mov (t 1)), q 12 (.blt 0 .len [(t 11)] [80]), q 13 (.mov (t 2)), q 14 (.blt 0 .len [(t 13)] [80]), q 15 (.blt 0 .max [(t 12), (t 14)] [3, 3]), q 16 (.mkslice 80 (t 15) (t 15)), q 9 (.asg 2 (t 16) 80)] false) (.seq (.seq (.region 2 [q 17 (.mov (t 9)), q 18 (.blt 0 .len [(t 17)] [80]), q 19 (.mov (.const (.int .i64 0)))] false) (.block 0 (.loop (.seq (.region 3 [q 20 (.bin .lss 3 (t 19) (t 18))] false) (.seq (.cond (t 20) .skip (.exit 0)) (.seq (.block 1 (.seq (.region 4 [q 21 (.mov (t 19)), q 10 (.asg 0 (t 21) 3)] false) (.region 5 [q 22 (.mov (t 9)), q 23 (.mov (t 10)), q 24 (.mov (t 0)), q 25 (.mov (t 1)), q 26 (.mov (t 10)), q 27 (.call 0 (.func 164) [(t 25), (t 26)]), q 28 (.mov (t 3)), q 29 (.mov (t 2)), q 30 (.mov (t 10)), q 31 (.call 0 (.func 164) [(t 29), (t 30)]), q 32 (.bin .mul 2 (t 28) (t 31)), q 33 (.bin .add 2 (t 27) (t 32)), q 34 (.call 0 (.func 183) [(t 24), (t 33)]), q 35 (.indexAddr 80 (t 22) (t 23)), ⟨none, .store 2 (t 35) (t 34), none, []⟩] false))) (.region 6 [q 36 (.bin .add 3 (t 19) (.const (.int .i64 1))), q 19 (.mov (t 36))] false))))))) (.seq (.region 7 [q 37 (.mov (t 9)), q 38 (.call 0 (.func 180) [(t 37)]), q 8 (.asg 1 (t 38) 80)] false) .ret))))
def impl_prime_combine_L : Live := [(0, [0, 1, 2, 3]), (1, [0, 1, 2, 3]), (2, [0, 1, 2, 3, 9]), (3, [0, 1, 2, 3, 9, 18, 19]), (4, [0, 1, 2, 3, 9, 18, 19]), (5, [0, 1, 2, 3, 9, 10, 18, 19]), (6, [0, 1, 2, 3, 9, 18, 19]), (7, [9]), (100020, [0, 1, 2, 3, 9, 18, 19, 20])]
noncomputable def impl_prime_combine_l1 (x1 : Int) (a1 : (List Int)) (a2 : (List Int)) (a0 : Int) (a3 : Int) (x58 : Int) (x59 : (List Int)) : Option ((Int × (List Int)) ⊕ (List Int)) :=
  (letp ((decide (x58 < (((List.replicate x1.toNat (0 : Int)).length : Int))))) fun x74 => (if x74 then (Option.bind (impl_row_at a1 x58) fun r77 => (Option.bind (impl_row_at a2 x58) fun r79 => (Option.bind (impl_prime_reduce a0 (IntKind.i64.wrap (r77 + (IntKind.i64.wrap (a3 * r79))))) fun r81 => (ifp (0 ≤ x58 ∧ x58 < ((x59.length : Nat) : Int)) ((some (.inl ((IntKind.i64.wrap (x58 + 1), (x59.set x58.toNat r81)))))))))) else (some (.inr x59))))
noncomputable def impl_prime_combine (a0 : Int) (a1 : (List Int)) (a2 : (List Int)) (a3 : Int) : Option (List Int) :=
  (letp ((if (a2.length : Int) > (a1.length : Int) then (a2.length : Int) else (a1.length : Int))) fun x1 => (ifp (0 ≤ x1 ∧ x1 ≤ 140737488355328 ∧ 8 * x1 ≤ 140737488355328) ((Option.bind (α := (List Int)) ((loopM (fun s : (Int × (List Int)) => impl_prime_combine_l1 x1 a1 a2 a0 a3 s.1 s.2) (0, List.replicate x1.toNat (0 : Int)))) fun x43 => (Option.bind (impl_row_trimmed x43) fun r86 => (some r86))))))
theorem impl_prime_combine_ok (a0 : Int) (a1 : (List Int)) (a2 : (List Int)) (a3 : Int) (r : (List Int)) (h : impl_prime_combine a0 a1 a2 a3 = some r) : Den Try.prog 109 [(i6 a0), (eSi64 a1), (eSi64 a2), (i6 a3)] { r := (eSi64 r) } := by
  refine den_of (rs := [(eSi64 r)]) (ac := impl_prime_combine_c) (L := impl_prime_combine_L) (n := 39) (m := [(8, 1), (9, 2)]) (c := Try.f109.body.getD .skip) good Try.func109 (by kernel_rfl) (by kernel_rfl) Try.ntmps109 rfl rfl (by kernel_rfl) rfl rfl ?_
  refine a_st (σ' := ⟨[(0, (i6 a0)), (1, (eSi64 a1)), (2, (eSi64 a2)), (3, (i6 a3))], []⟩) (by kernel_rfl) ?_
  unfold impl_prime_combine_c
  refine sr (vp (eSi64 ([])) rfl (nx ⟨[(0, (i6 a0)), (1, (eSi64 a1)), (2, (eSi64 a2)), (3, (i6 a3))], []⟩ (by kernel_rfl) (sr (vp (eSi64 a1) rfl (vq (i6 (a1.length : Int)) (len_run rfl rfl) trivial (vp (eSi64 a2) rfl (vq (i6 (a2.length : Int)) (len_run rfl rfl) trivial ?_)))))))
  obtain ⟨x1, hx2, h⟩ := letp_some h
  refine a_val' (v := (i6 ((if (a2.length : Int) > (a1.length : Int) then (a2.length : Int) else (a1.length : Int))))) (v' := (i6 x1)) (u := []) (u' := []) rfl (congrArg (fun z => ((i6 z) : AV)) hx2) rfl trivial rfl ?_
  obtain ⟨hc3, h⟩ := ifp_some h
  refine vu (.osl 2600) [(2600, (bk (.row 1 ((List.replicate x1.toNat (0 : Int)).map (AV.int .i64)))))] (mk_run (i := ⟨.int .i64, 1, 8, (.int .i64 0)⟩) (f := (AV.int .i64)) (y := (0 : Int)) rfl rfl rfl rfl rfl rfl) ⟨rfl, hc3.1, hc3.2.1, hc3.2.2, (Nat.le_of_ble_eq_true rfl)⟩ rfl (vp (.osl 2600) rfl (nx ⟨[(0, (i6 a0)), (1, (eSi64 a1)), (2, (eSi64 a2)), (3, (i6 a3)), (9, (.osl 9))], [(9, (bk (.row 1 ((List.replicate x1.toNat (0 : Int)).map (AV.int .i64)))))]⟩ (by kernel_rfl) ?_))
  obtain ⟨y44, hy45, hk46⟩ := bind_some h
  clear h
  refine a_join (emb := fun (s : (List Int)) => ⟨[(9, (.osl 9))], [(9, (bk (.row 1 (s.map (AV.int .i64)))))]⟩) (pre := fun s => s = y44) ?_ ?_
  · rintro x43 rfl
    have h := hk46
    refine a_st (σ' := ⟨[(9, (.osl 9))], [(9, (bk (.row 1 (x43.map (AV.int .i64)))))]⟩) (by kernel_rfl) (sr (vp (.osl 9) rfl ?_))
    obtain ⟨r86, hr87, h⟩ := bind_some h
    refine a_call (args := [(eSi64 x43)]) (u := [(9, (bf (.row 1 (x43.map (AV.int .i64)))))]) (r := (eSi64 r86)) rfl rfl (impl_row_trimmed_ok x43 r86 hr87) rfl (vp (eSi64 r86) rfl (nx _ rfl (a_ret ?_)))
    refine ⟨.inr rfl, ?_⟩
    rw [Try.results109]
    cases h
    exact ⟨_, _, _, _, _, rfl, trivial, .inl ⟨rfl, .inl rfl⟩, rfl, rfl⟩
  · have h := hy45
    refine sr (vp (.osl 9) rfl (vq (i6 (((List.replicate x1.toNat (0 : Int)).length : Int))) (leno_run rfl rfl rfl) trivial (vp (i6 0) rfl (nx ⟨[(0, (i6 a0)), (1, (eSi64 a1)), (2, (eSi64 a2)), (3, (i6 a3)), (9, (.osl 9)), (18, (i6 (((List.replicate x1.toNat (0 : Int)).length : Int)))), (19, (i6 0))], [(9, (bk (.row 1 ((List.replicate x1.toNat (0 : Int)).map (AV.int .i64)))))]⟩ (by kernel_rfl) (a_block ?_)))))
    refine a_loop (emb := fun (s : (Int × (List Int))) => ⟨[(0, (i6 a0)), (1, (eSi64 a1)), (2, (eSi64 a2)), (3, (i6 a3)), (9, (.osl 9)), (18, (i6 (((List.replicate x1.toNat (0 : Int)).length : Int)))), (19, (i6 s.1))], [(9, (bk (.row 1 (s.2.map (AV.int .i64)))))]⟩) (body := (fun s : (Int × (List Int)) => impl_prime_combine_l1 x1 a1 a2 a0 a3 s.1 s.2)) (G := fun q => some q = some y44) h rfl ?_ (by kernel_rfl)
    rintro X71 ⟨x58, x59⟩ x72 h hX73
    have h : impl_prime_combine_l1 x1 a1 a2 a0 a3 x58 x59 = some x72 := h
    refine a_st (σ' := ⟨[(0, (i6 a0)), (1, (eSi64 a1)), (2, (eSi64 a2)), (3, (i6 a3)), (9, (.osl 9)), (18, (i6 (((List.replicate x1.toNat (0 : Int)).length : Int)))), (19, (i6 x58))], [(9, (bk (.row 1 (x59.map (AV.int .i64)))))]⟩) (by kernel_rfl) (sr ?_)
    obtain ⟨x74, hx75, h⟩ := letp_some h
    refine a_val' (v := (.bool ((decide (x58 < (((List.replicate x1.toNat (0 : Int)).length : Int))))))) (v' := (.bool x74)) (u := []) (u' := []) rfl (congrArg (fun z => ((.bool z) : AV)) hx75) rfl trivial rfl (nx ⟨[(0, (i6 a0)), (1, (eSi64 a1)), (2, (eSi64 a2)), (3, (i6 a3)), (9, (.osl 9)), (18, (i6 (((List.replicate x1.toNat (0 : Int)).length : Int)))), (19, (i6 x58)), (20, (.bool x74))], [(9, (bk (.row 1 (x59.map (AV.int .i64)))))]⟩ (by kernel_rfl) (a_seq ?_))
    cases hb76 : x74
    · have h := ite_f hb76 h
      refine a_cond_f rfl (a_exit (t_exit ?_))
      cases h
      have h := hX73
      refine t_exit (b_exit ?_)
      exact j_leaf x59 (Option.some.inj h) (by kernel_rfl)
    · have h := ite_t hb76 h
      refine a_cond_t rfl (a_skip (a_next (σ' := ⟨[(0, (i6 a0)), (1, (eSi64 a1)), (2, (eSi64 a2)), (3, (i6 a3)), (9, (.osl 9)), (18, (i6 (((List.replicate x1.toNat (0 : Int)).length : Int)))), (19, (i6 x58))], [(9, (bk (.row 1 (x59.map (AV.int .i64)))))]⟩) (by kernel_rfl) (a_seq (a_block (sr (vp (i6 x58) rfl (vp (i6 x58) rfl (nx ⟨[(0, (i6 a0)), (1, (eSi64 a1)), (2, (eSi64 a2)), (3, (i6 a3)), (9, (.osl 9)), (10, (i6 x58)), (18, (i6 (((List.replicate x1.toNat (0 : Int)).length : Int)))), (19, (i6 x58))], [(9, (bk (.row 1 (x59.map (AV.int .i64)))))]⟩ (by kernel_rfl) (a_region ?_)))))))))
      refine vp (.osl 9) rfl (vp (i6 x58) rfl (vp (i6 a0) rfl (vp (eSi64 a1) rfl (vp (i6 x58) rfl ?_))))
      obtain ⟨r77, hr78, h⟩ := bind_some h
      refine a_call (args := [(eSi64 a1), (i6 x58)]) (u := []) (r := (i6 r77)) rfl rfl (impl_row_at_ok a1 x58 r77 hr78) rfl (vp (i6 a3) rfl (vp (eSi64 a2) rfl (vp (i6 x58) rfl ?_)))
      obtain ⟨r79, hr80, h⟩ := bind_some h
      refine a_call (args := [(eSi64 a2), (i6 x58)]) (u := []) (r := (i6 r79)) rfl rfl (impl_row_at_ok a2 x58 r79 hr80) rfl (vp (i6 (IntKind.i64.wrap (a3 * r79))) rfl (vp (i6 (IntKind.i64.wrap (r77 + (IntKind.i64.wrap (a3 * r79))))) rfl ?_))
      obtain ⟨r81, hr82, h⟩ := bind_some h
      refine a_call (args := [(i6 a0), (i6 (IntKind.i64.wrap (r77 + (IntKind.i64.wrap (a3 * r79)))))]) (u := []) (r := (i6 r81)) rfl rfl (impl_prime_reduce_ok a0 (IntKind.i64.wrap (r77 + (IntKind.i64.wrap (a3 * r79)))) r81 hr82) rfl ?_
      obtain ⟨hc83, h⟩ := ifp_some h
      refine vq (.own 9 [x58.toNat] [x58.toNat * 1]) rfl (lmap hc83) ?_
      have hs84 : StOk [x58.toNat] (.row 1 (x59.map (AV.int .i64))) [x58.toNat * 1] 1 (i6 r81) (.row 1 ((x59.set x58.toNat r81).map (AV.int .i64))) := (.row (y := r81) (llt hc83) rfl (.nil rfl rfl rfl rfl))
      refine vu .top [(9, (bk (.row 1 ((x59.set x58.toNat r81).map (AV.int .i64)))))] (st_own (i := ⟨.int .i64, 1, 8, (.int .i64 0)⟩) rfl rfl (fun _ => rfl) rfl hs84) (hs84.c rfl) rfl (a_nil (b_norm (a_next (σ' := ⟨[(0, (i6 a0)), (1, (eSi64 a1)), (2, (eSi64 a2)), (3, (i6 a3)), (9, (.osl 9)), (18, (i6 (((List.replicate x1.toNat (0 : Int)).length : Int)))), (19, (i6 x58))], [(9, (bk (.row 1 ((x59.set x58.toNat r81).map (AV.int .i64)))))]⟩) (by kernel_rfl) (a_region (vp (i6 (IntKind.i64.wrap (x58 + 1))) rfl (vp (i6 (IntKind.i64.wrap (x58 + 1))) rfl (a_nil ?_)))))))
      cases h
      exact a_again (by kernel_rfl) hX73
def impl_prime_bracket_c : ACode := (.seq (.region 0 [q 6 (.asg 1 (.const (.slice none 0 0)) 80)] false) (.seq (.region 1 [q 7 (.mov (t 0)), q 8 (.mov (t 0)), q 9 (.call 0 (.func 163) []), q 10 (.mov (t 1)), q 11 (.call 0 (.func 189) [(t 8), (t 9), (t 10)]), q 12 (.mov (t 0)), q 13 (.call 0 (.func 163) []), q 14 (.mov (t 2)), q 15 (.call 0 (.func 189) [(t 12), (t 13), (t 14)]), q 16 (.call 0 (.func 109) [(t 7), (t 11), (t 15), (.const (.int .i64 (-1)))]), q 6 (.asg 1 (t 16) 80)] false) .ret))
def impl_prime_bracket_L : Live := [(0, [0, 1, 2]), (1, [0, 1, 2])]
noncomputable def impl_prime_bracket (a0 : Int) (a1 : Int) (a2 : Int) : Option (List Int) :=
  (Option.bind (impl_letter) fun r1 => (Option.bind (impl_prime_spread a0 r1 a1) fun r3 => (Option.bind (impl_letter) fun r5 => (Option.bind (impl_prime_spread a0 r5 a2) fun r7 => (Option.bind (impl_prime_combine a0 r3 r7 (-1)) fun r9 => (some r9))))))
theorem impl_prime_bracket_ok (a0 : Int) (a1 : Int) (a2 : Int) (r : (List Int)) (h : impl_prime_bracket a0 a1 a2 = some r) : Den Try.prog 125 [(i6 a0), (i6 a1), (i6 a2)] { r := (eSi64 r) } := by
  refine den_of (rs := [(eSi64 r)]) (ac := impl_prime_bracket_c) (L := impl_prime_bracket_L) (n := 17) (m := [(6, 1)]) (c := Try.f125.body.getD .skip) good Try.func125 (by kernel_rfl) (by kernel_rfl) Try.ntmps125 rfl rfl (by kernel_rfl) rfl rfl ?_
  refine a_st (σ' := ⟨[(0, (i6 a0)), (1, (i6 a1)), (2, (i6 a2))], []⟩) (by kernel_rfl) ?_
  unfold impl_prime_bracket_c
  refine sr (vp (eSi64 ([])) rfl (nx ⟨[(0, (i6 a0)), (1, (i6 a1)), (2, (i6 a2))], []⟩ (by kernel_rfl) (sr (vp (i6 a0) rfl (vp (i6 a0) rfl ?_)))))
  obtain ⟨r1, hr2, h⟩ := bind_some h
  refine a_call (args := []) (u := []) (r := (eSi64 r1)) rfl rfl (impl_letter_ok r1 hr2) rfl (vp (i6 a1) rfl ?_)
  obtain ⟨r3, hr4, h⟩ := bind_some h
  refine a_call (args := [(i6 a0), (eSi64 r1), (i6 a1)]) (u := []) (r := (eSi64 r3)) rfl rfl (impl_prime_spread_ok a0 r1 a1 r3 hr4) rfl (vp (i6 a0) rfl ?_)
  obtain ⟨r5, hr6, h⟩ := bind_some h
  refine a_call (args := []) (u := []) (r := (eSi64 r5)) rfl rfl (impl_letter_ok r5 hr6) rfl (vp (i6 a2) rfl ?_)
  obtain ⟨r7, hr8, h⟩ := bind_some h
  refine a_call (args := [(i6 a0), (eSi64 r5), (i6 a2)]) (u := []) (r := (eSi64 r7)) rfl rfl (impl_prime_spread_ok a0 r5 a2 r7 hr8) rfl ?_
  obtain ⟨r9, hr10, h⟩ := bind_some h
  refine a_call (args := [(i6 a0), (eSi64 r3), (eSi64 r7), (i6 (-1))]) (u := []) (r := (eSi64 r9)) rfl rfl (impl_prime_combine_ok a0 r3 r7 (-1) r9 hr10) rfl (vp (eSi64 r9) rfl (nx _ rfl (a_ret ?_)))
  refine ⟨.inr rfl, ?_⟩
  rw [Try.results125]
  cases h
  exact ⟨_, _, _, _, _, rfl, trivial, .inl ⟨rfl, .inl rfl⟩, rfl, rfl⟩
def impl_row_fits_c : ACode := (.seq (.region 0 [q 2 (.asg 0 (.const (.bool false)) 4)] false) (.seq (.region 1 [q 3 (.mov (t 0)), q 4 (.call 0 (.func 114) [(t 3)]), q 5 (.bin .leq 2 (t 4) (.const (.int .i64 63))), q 2 (.asg 0 (t 5) 4)] false) .ret))
def impl_row_fits_L : Live := [(0, [0]), (1, [0])]
noncomputable def impl_row_fits (a0 : (List Int)) : Option Bool :=
  (Option.bind (impl_row_degree a0) fun r1 => (some ((decide (r1 ≤ 63)))))
theorem impl_row_fits_ok (a0 : (List Int)) (r : Bool) (h : impl_row_fits a0 = some r) : Den Try.prog 135 [(eSi64 a0)] { r := (.bool r) } := by
  refine den_of (rs := [(.bool r)]) (ac := impl_row_fits_c) (L := impl_row_fits_L) (n := 6) (m := []) (c := Try.f135.body.getD .skip) good Try.func135 (by kernel_rfl) (by kernel_rfl) Try.ntmps135 rfl rfl (by kernel_rfl) rfl rfl ?_
  refine a_st (σ' := ⟨[(0, (eSi64 a0))], []⟩) (by kernel_rfl) ?_
  unfold impl_row_fits_c
  refine sr (vp (.bool false) rfl (nx ⟨[(0, (eSi64 a0))], []⟩ (by kernel_rfl) (sr (vp (eSi64 a0) rfl ?_))))
  obtain ⟨r1, hr2, h⟩ := bind_some h
  refine a_call (args := [(eSi64 a0)]) (u := []) (r := (i6 r1)) rfl rfl (impl_row_degree_ok a0 r1 hr2) rfl (vp (.bool ((decide (r1 ≤ 63)))) rfl (vp (.bool ((decide (r1 ≤ 63)))) rfl (nx _ rfl (a_ret ?_))))
  refine ⟨.inr rfl, ?_⟩
  rw [Try.results135]
  cases h
  exact ⟨_, _, _, _, _, rfl, trivial, .inl ⟨rfl, .inl rfl⟩, rfl, rfl⟩
def impl_row_poly_c : ACode := (.seq (.region 0 [q 2 (.alloc 25)] false) (.seq (.region 1 [q 3 (.alloc 25)] false) (.seq (.seq (.region 2 [q 6 (.mov (t 0)), q 7 (.blt 0 .len [(t 6)] [80]), q 8 (.mov (.const (.int .i64 0)))] false) (.block 0 (.loop (.seq (.region 3 [q 9 (.bin .lss 3 (t 8) (t 7))] false) (.seq (.cond (t 9) .skip (.exit 0)) (.seq (.block 1 (.seq (.region 4 [q 10 (.mov (t 8)), q 11 (.indexAddr 80 (t 6) (t 8)), q 12 (.load 2 (t 11)), q 4 (.asg 0 (t 10) 3), q 5 (.asg 0 (t 12) 2)] false) (.region 5 [q 13 (.mov (t 4)), q 14 (.mov (t 5)), q 15 (.conv 2 5 (t 14)), q 16 (.indexAddr 25 (t 3) (t 13)), ⟨none, .store 5 (t 16) (t 15), none, []⟩] false))) (.region 6 [q 17 (.bin .add 3 (t 8) (.const (.int .i64 1))), q 8 (.mov (t 17))] false))))))) (.seq (.region 7 [q 18 (.load 25 (t 3)), ⟨none, .store 25 (t 2) (t 18), none, []⟩] false) .ret))))
def impl_row_poly_L : Live := [(0, [0]), (1, [0, 2]), (2, [0, 2, 3]), (3, [2, 3, 6, 7, 8]), (4, [2, 3, 6, 7, 8]), (5, [2, 3, 4, 5, 6, 7, 8]), (6, [2, 3, 6, 7, 8]), (7, [2, 3]), (100009, [2, 3, 6, 7, 8, 9])]
noncomputable def impl_row_poly_l1 (a0 : (List Int)) (x31 : Int) (x32 : (Vec Int 64)) : Option ((Int × (Vec Int 64)) ⊕ (Vec Int 64)) :=
  (if (decide (x31 < (a0.length : Int))) then (ifp (0 ≤ x31 ∧ x31 < ((a0.length : Nat) : Int)) ((ifp (0 ≤ x31 ∧ x31 < ((64 : Nat) : Int)) ((some (.inl ((IntKind.i64.wrap (x31 + 1), (vset x32 x31.toNat (IntKind.u8.wrap (rd a0 x31.toNat))))))))))) else (some (.inr x32)))
noncomputable def impl_row_poly (a0 : (List Int)) : Option (Vec Int 64) :=
  (Option.bind (α := (Vec Int 64)) ((loopM (fun s : (Int × (Vec Int 64)) => impl_row_poly_l1 a0 s.1 s.2) (0, (vrep 64 (0 : Int))))) fun x22 => (some x22))
theorem impl_row_poly_ok (a0 : (List Int)) (r : (Vec Int 64)) (h : impl_row_poly a0 = some r) : Den Try.prog 111 [(eSi64 a0)] { r := (eA64u8 r) } := by
  refine den_of (rs := [(eA64u8 r)]) (ac := impl_row_poly_c) (L := impl_row_poly_L) (n := 19) (m := []) (c := Try.f111.body.getD .skip) good Try.func111 (by kernel_rfl) (by kernel_rfl) Try.ntmps111 rfl rfl (by kernel_rfl) rfl rfl ?_
  refine a_st (σ' := ⟨[(0, (eSi64 a0))], []⟩) (by kernel_rfl) ?_
  unfold impl_row_poly_c
  refine sr (vo 1200 (eA64u8 ((vrep 64 (0 : Int)))) rfl rfl (nx ⟨[(0, (eSi64 a0)), (2, (ow 2))], [(2, (bk (eA64u8 ((vrep 64 (0 : Int))))))]⟩ (by kernel_rfl) (sr (vo 1300 (eA64u8 ((vrep 64 (0 : Int)))) rfl rfl (nx ⟨[(0, (eSi64 a0)), (2, (ow 2)), (3, (ow 3))], [(2, (bk (eA64u8 ((vrep 64 (0 : Int)))))), (3, (bk (eA64u8 ((vrep 64 (0 : Int))))))]⟩ (by kernel_rfl) ?_)))))
  obtain ⟨y23, hy24, hk25⟩ := bind_some h
  clear h
  refine a_join (emb := fun (s : (Vec Int 64)) => ⟨[(2, (ow 2)), (3, (ow 3))], [(2, (bk (eA64u8 ((vrep 64 (0 : Int)))))), (3, (bk (eA64u8 s)))]⟩) (pre := fun s => s = y23) ?_ ?_
  · rintro x22 rfl
    have h := hk25
    refine a_st (σ' := ⟨[(2, (ow 2)), (3, (ow 3))], [(2, (bk (eA64u8 ((vrep 64 (0 : Int)))))), (3, (bk (eA64u8 x22)))]⟩) (by kernel_rfl) (sr (vl (eA64u8 x22) rfl rfl rfl rfl rfl rfl (vs (eA64u8 x22) rfl rfl (fun _ => rfl) rfl rfl rfl rfl rfl rfl (nx _ rfl (a_ret ?_)))))
    have hl49 : LdOk [] (eA64u8 x22) [] 64 true (eA64u8 x22) := (.nil rfl rfl rfl)
    refine ⟨.inr rfl, ?_⟩
    rw [Try.results111]
    cases h
    exact ⟨_, _, _, _, _, ld_own (i := ⟨.arr 64 5, 64, 64, (eA64u8 (vrep 64 (0 : Int)))⟩) rfl rfl rfl hl49, hl49.c, .inl ⟨rfl, .inl rfl⟩, rfl, rfl⟩
  · have h := hy24
    refine sr (vp (eSi64 a0) rfl (vq (i6 (a0.length : Int)) (len_run rfl rfl) trivial (vp (i6 0) rfl (nx ⟨[(2, (ow 2)), (3, (ow 3)), (6, (eSi64 a0)), (7, (i6 (a0.length : Int))), (8, (i6 0))], [(2, (bk (eA64u8 ((vrep 64 (0 : Int)))))), (3, (bk (eA64u8 ((vrep 64 (0 : Int))))))]⟩ (by kernel_rfl) (a_block ?_)))))
    refine a_loop (emb := fun (s : (Int × (Vec Int 64))) => ⟨[(2, (ow 2)), (3, (ow 3)), (6, (eSi64 a0)), (7, (i6 (a0.length : Int))), (8, (i6 s.1))], [(2, (bk (eA64u8 ((vrep 64 (0 : Int)))))), (3, (bk (eA64u8 s.2)))]⟩) (body := (fun s : (Int × (Vec Int 64)) => impl_row_poly_l1 a0 s.1 s.2)) (G := fun q => some q = some y23) h rfl ?_ (by kernel_rfl)
    rintro X38 ⟨x31, x32⟩ x39 h hX40
    have h : impl_row_poly_l1 a0 x31 x32 = some x39 := h
    refine a_st (σ' := ⟨[(2, (ow 2)), (3, (ow 3)), (6, (eSi64 a0)), (7, (i6 (a0.length : Int))), (8, (i6 x31))], [(2, (bk (eA64u8 ((vrep 64 (0 : Int)))))), (3, (bk (eA64u8 x32)))]⟩) (by kernel_rfl) (sr (vp (.bool ((decide (x31 < (a0.length : Int))))) rfl (nx ⟨[(2, (ow 2)), (3, (ow 3)), (6, (eSi64 a0)), (7, (i6 (a0.length : Int))), (8, (i6 x31)), (9, (.bool ((decide (x31 < (a0.length : Int))))))], [(2, (bk (eA64u8 ((vrep 64 (0 : Int)))))), (3, (bk (eA64u8 x32)))]⟩ (by kernel_rfl) (a_seq ?_))))
    cases hb41 : (decide (x31 < (a0.length : Int)))
    · have h := ite_f hb41 h
      refine a_cond_f rfl (a_exit (t_exit ?_))
      cases h
      have h := hX40
      refine t_exit (b_exit ?_)
      exact j_leaf x32 (Option.some.inj h) (by kernel_rfl)
    · have h := ite_t hb41 h
      refine a_cond_t rfl (a_skip (a_next (σ' := ⟨[(2, (ow 2)), (3, (ow 3)), (6, (eSi64 a0)), (7, (i6 (a0.length : Int))), (8, (i6 x31))], [(2, (bk (eA64u8 ((vrep 64 (0 : Int)))))), (3, (bk (eA64u8 x32)))]⟩) (by kernel_rfl) (a_seq (a_block (sr (vp (i6 x31) rfl ?_))))))
      obtain ⟨hc42, h⟩ := ifp_some h
      refine vq (.ref (.row 1 (a0.map (AV.int .i64))) [x31.toNat] [x31.toNat * 1]) rfl (lmap hc42) ?_
      have hl43 : LdOk [x31.toNat] (.row 1 (a0.map (AV.int .i64))) [x31.toNat * 1] 1 false (i6 (rd a0 x31.toNat)) := (.row (llt hc42) rfl (.nil rfl rfl rfl))
      refine vq (i6 (rd a0 x31.toNat)) (ld_ref (i := ⟨.int .i64, 1, 8, (.int .i64 0)⟩) rfl rfl hl43) hl43.c (vp (i6 x31) rfl (vp (i6 (rd a0 x31.toNat)) rfl (nx ⟨[(2, (ow 2)), (3, (ow 3)), (4, (i6 x31)), (5, (i6 (rd a0 x31.toNat))), (6, (eSi64 a0)), (7, (i6 (a0.length : Int))), (8, (i6 x31))], [(2, (bk (eA64u8 ((vrep 64 (0 : Int)))))), (3, (bk (eA64u8 x32)))]⟩ (by kernel_rfl) (a_region (vp (i6 x31) rfl (vp (i6 (rd a0 x31.toNat)) rfl (vp (b8 (IntKind.u8.wrap (rd a0 x31.toNat))) rfl ?_)))))))
      obtain ⟨hc44, h⟩ := ifp_some h
      refine vq (.own 3 [x31.toNat] [x31.toNat * 1]) rfl hc44 ?_
      have hs45 : StOk [x31.toNat] (eA64u8 x32) [x31.toNat * 1] 1 (b8 (IntKind.u8.wrap (rd a0 x31.toNat))) (eA64u8 ((vset x32 x31.toNat (IntKind.u8.wrap (rd a0 x31.toNat))))) := (.arr (y := IntKind.u8.wrap (rd a0 x31.toNat)) (vlt x32 hc44) rfl (.nil rfl rfl rfl rfl))
      refine vu .top [(3, (bk (eA64u8 ((vset x32 x31.toNat (IntKind.u8.wrap (rd a0 x31.toNat)))))))] (st_own (i := ⟨.int .u8, 1, 1, (.int .u8 0)⟩) rfl rfl (fun _ => rfl) rfl hs45) (hs45.c rfl) rfl (a_nil (b_norm (a_next (σ' := ⟨[(2, (ow 2)), (3, (ow 3)), (6, (eSi64 a0)), (7, (i6 (a0.length : Int))), (8, (i6 x31))], [(2, (bk (eA64u8 ((vrep 64 (0 : Int)))))), (3, (bk (eA64u8 ((vset x32 x31.toNat (IntKind.u8.wrap (rd a0 x31.toNat)))))))]⟩) (by kernel_rfl) (a_region (vp (i6 (IntKind.i64.wrap (x31 + 1))) rfl (vp (i6 (IntKind.i64.wrap (x31 + 1))) rfl (a_nil ?_)))))))
      cases h
      exact a_again (by kernel_rfl) hX40
def impl_told_c : ACode := (.seq (.region 0 [q 2 (.alloc 25), q 3 (.asg 0 (.const (.int .i64 0)) 2)] false) (.seq (.seq (.region 1 [q 4 (.mov (t 0)), q 5 (.call 0 (.func 135) [(t 4)]), q 6 (.un .not (t 5))] false) (.cond (t 6) (.seq (.region 2 [q 7 (.build 25 []), ⟨none, .store 25 (t 2) (t 7), none, []⟩, q 3 (.asg 0 (.const (.int .i64 3)) 2)] false) .ret) .skip)) (.seq (.region 3 [q 8 (.mov (t 0)), q 9 (.call 0 (.func 111) [(t 8)]), ⟨none, .store 25 (t 2) (t 9), none, []⟩, q 3 (.asg 0 (.const (.int .i64 0)) 2)] false) .ret)))
def impl_told_L : Live := [(0, [0]), (1, [0, 2]), (2, [2]), (3, [0, 2]), (100006, [0, 2, 6])]
noncomputable def impl_told (a0 : (List Int)) : Option ((Vec Int 64) × Int) :=
  (Option.bind (impl_row_fits a0) fun r1 => (if (!r1) then (some (((vrep 64 (0 : Int)), 3))) else (Option.bind (impl_row_poly a0) fun r4 => (some (r4, 0)))))
theorem impl_told_ok (a0 : (List Int)) (r : ((Vec Int 64) × Int)) (h : impl_told a0 = some r) : Den Try.prog 101 [(eSi64 a0)] { r := (.tuple [(eA64u8 r.1), (i6 r.2)]) } := by
  refine den_of (rs := [(eA64u8 r.1), (i6 r.2)]) (ac := impl_told_c) (L := impl_told_L) (n := 10) (m := []) (c := Try.f101.body.getD .skip) good Try.func101 (by kernel_rfl) (by kernel_rfl) Try.ntmps101 rfl rfl (by kernel_rfl) rfl rfl ?_
  refine a_st (σ' := ⟨[(0, (eSi64 a0))], []⟩) (by kernel_rfl) ?_
  unfold impl_told_c
  refine sr (vo 1200 (eA64u8 ((vrep 64 (0 : Int)))) rfl rfl (vp (i6 0) rfl (nx ⟨[(0, (eSi64 a0)), (2, (ow 2))], [(2, (bk (eA64u8 ((vrep 64 (0 : Int))))))]⟩ (by kernel_rfl) (a_seq (sr (vp (eSi64 a0) rfl ?_))))))
  obtain ⟨r1, hr2, h⟩ := bind_some h
  refine a_call (args := [(eSi64 a0)]) (u := []) (r := (.bool r1)) rfl rfl (impl_row_fits_ok a0 r1 hr2) rfl (vp (.bool (!r1)) rfl (nx ⟨[(0, (eSi64 a0)), (2, (ow 2)), (6, (.bool (!r1)))], [(2, (bk (eA64u8 ((vrep 64 (0 : Int))))))]⟩ (by kernel_rfl) ?_))
  cases hb3 : (!r1)
  · have h := ite_f hb3 h
    refine a_cond_f rfl (a_skip (a_next (σ' := ⟨[(0, (eSi64 a0)), (2, (ow 2))], [(2, (bk (eA64u8 ((vrep 64 (0 : Int))))))]⟩) (by kernel_rfl) (sr (vp (eSi64 a0) rfl ?_))))
    obtain ⟨r4, hr5, h⟩ := bind_some h
    refine a_call (args := [(eSi64 a0)]) (u := []) (r := (eA64u8 r4)) rfl rfl (impl_row_poly_ok a0 r4 hr5) rfl (vs (eA64u8 r4) rfl rfl (fun _ => rfl) rfl rfl rfl rfl rfl rfl (vp (i6 0) rfl (nx _ rfl (a_ret ?_))))
    have hl7 : LdOk [] (eA64u8 r4) [] 64 true (eA64u8 r4) := (.nil rfl rfl rfl)
    refine ⟨.inr rfl, ?_⟩
    rw [Try.results101]
    cases h
    exact ⟨_, _, _, _, _, ld_own (i := ⟨.arr 64 5, 64, 64, (eA64u8 (vrep 64 (0 : Int)))⟩) rfl rfl rfl hl7, hl7.c, .inl ⟨rfl, .inl rfl⟩, rfl, ⟨_, _, _, _, _, rfl, trivial, .inl ⟨rfl, .inl rfl⟩, rfl, rfl⟩⟩
  · have h := ite_t hb3 h
    refine a_cond_t rfl (sr (vq (eA64u8 ((vrep 64 (0 : Int)))) rfl ⟨⟨_, rfl, rfl⟩, all_nil⟩ (vs (eA64u8 ((vrep 64 (0 : Int)))) rfl rfl (fun _ => rfl) rfl rfl rfl rfl rfl rfl (vp (i6 3) rfl (nx _ rfl (a_ret (t_ret ?_)))))))
    have hl9 : LdOk [] (eA64u8 ((vrep 64 (0 : Int)))) [] 64 true (eA64u8 ((vrep 64 (0 : Int)))) := (.nil rfl rfl rfl)
    refine ⟨.inr rfl, ?_⟩
    rw [Try.results101]
    cases h
    exact ⟨_, _, _, _, _, ld_own (i := ⟨.arr 64 5, 64, 64, (eA64u8 (vrep 64 (0 : Int)))⟩) rfl rfl rfl hl9, hl9.c, .inl ⟨rfl, .inl rfl⟩, rfl, ⟨_, _, _, _, _, rfl, trivial, .inl ⟨rfl, .inl rfl⟩, rfl, rfl⟩⟩
def impl_BracketOf_c : ACode := (.seq (.region 0 [q 4 (.alloc 25), q 5 (.asg 0 (.const (.int .i64 0)) 2)] false) (.seq (.seq (.region 1 [q 7 (.mov (t 0)), q 8 (.mov (t 1)), q 9 (.call 0 (.func 124) [(t 7), (t 8), (.const (.int .i64 1)), (.const (.int .i64 6))]), q 6 (.asg 0 (t 9) 2)] false) (.seq (.region 2 [q 10 (.mov (t 6)), q 11 (.bin .neq 2 (t 10) (.const (.int .i64 0)))] false) (.cond (t 11) (.seq (.region 3 [q 12 (.build 25 []), q 13 (.mov (t 6)), ⟨none, .store 25 (t 4) (t 12), none, []⟩, q 5 (.asg 0 (t 13) 2)] false) .ret) .skip))) (.seq (.region 4 [q 14 (.mov (t 0)), q 15 (.mov (t 1)), q 16 (.call 0 (.func 125) [(t 14), (t 15), (.const (.int .i64 0))]), q 17 (.call 0 (.func 101) [(t 16)]), q 18 (.extract (t 17) 0), q 19 (.extract (t 17) 1), ⟨none, .store 25 (t 4) (t 18), none, []⟩, q 5 (.asg 0 (t 19) 2)] false) .ret)))
def impl_BracketOf_L : Live := [(0, [0, 1]), (1, [0, 1, 4]), (2, [0, 1, 4, 6]), (3, [4, 6]), (4, [0, 1, 4]), (100011, [0, 1, 4, 6, 11])]
noncomputable def impl_BracketOf (a0 : Int) (a1 : Int) : Option ((Vec Int 64) × Int) :=
  (Option.bind (impl_numberCode a0 a1 1 6) fun r1 => (if (r1 != 0) then (some (((vrep 64 (0 : Int)), r1))) else (Option.bind (impl_prime_bracket a0 a1 0) fun r4 => (Option.bind (impl_told r4) fun r6 => (some (r6.1, r6.2))))))
theorem impl_BracketOf_ok (a0 : Int) (a1 : Int) (r : ((Vec Int 64) × Int)) (h : impl_BracketOf a0 a1 = some r) : Den Try.prog 31 [(i6 a0), (i6 a1)] { r := (.tuple [(eA64u8 r.1), (i6 r.2)]) } := by
  refine den_of (rs := [(eA64u8 r.1), (i6 r.2)]) (ac := impl_BracketOf_c) (L := impl_BracketOf_L) (n := 20) (m := []) (c := Try.f31.body.getD .skip) good Try.func31 (by kernel_rfl) (by kernel_rfl) Try.ntmps31 rfl rfl (by kernel_rfl) rfl rfl ?_
  refine a_st (σ' := ⟨[(0, (i6 a0)), (1, (i6 a1))], []⟩) (by kernel_rfl) ?_
  unfold impl_BracketOf_c
  refine sr (vo 1400 (eA64u8 ((vrep 64 (0 : Int)))) rfl rfl (vp (i6 0) rfl (nx ⟨[(0, (i6 a0)), (1, (i6 a1)), (4, (ow 4))], [(4, (bk (eA64u8 ((vrep 64 (0 : Int))))))]⟩ (by kernel_rfl) (a_seq (sr (vp (i6 a0) rfl (vp (i6 a1) rfl ?_)))))))
  obtain ⟨r1, hr2, h⟩ := bind_some h
  refine a_call (args := [(i6 a0), (i6 a1), (i6 1), (i6 6)]) (u := []) (r := (i6 r1)) rfl rfl (impl_numberCode_ok a0 a1 1 6 r1 hr2) rfl (vp (i6 r1) rfl (nx ⟨[(0, (i6 a0)), (1, (i6 a1)), (4, (ow 4)), (6, (i6 r1))], [(4, (bk (eA64u8 ((vrep 64 (0 : Int))))))]⟩ (by kernel_rfl) (sr (vp (i6 r1) rfl (vp (.bool (r1 != 0)) rfl (nx ⟨[(0, (i6 a0)), (1, (i6 a1)), (4, (ow 4)), (6, (i6 r1)), (11, (.bool (r1 != 0)))], [(4, (bk (eA64u8 ((vrep 64 (0 : Int))))))]⟩ (by kernel_rfl) ?_))))))
  cases hb3 : (r1 != 0)
  · have h := ite_f hb3 h
    refine a_cond_f rfl (a_skip (a_next (σ' := ⟨[(0, (i6 a0)), (1, (i6 a1)), (4, (ow 4))], [(4, (bk (eA64u8 ((vrep 64 (0 : Int))))))]⟩) (by kernel_rfl) (sr (vp (i6 a0) rfl (vp (i6 a1) rfl ?_)))))
    obtain ⟨r4, hr5, h⟩ := bind_some h
    refine a_call (args := [(i6 a0), (i6 a1), (i6 0)]) (u := []) (r := (eSi64 r4)) rfl rfl (impl_prime_bracket_ok a0 a1 0 r4 hr5) rfl ?_
    obtain ⟨r6, hr7, h⟩ := bind_some h
    refine a_call (args := [(eSi64 r4)]) (u := []) (r := (.tuple [(eA64u8 r6.1), (i6 r6.2)])) rfl rfl (impl_told_ok r4 r6 hr7) rfl (vb (eA64u8 r6.1) rfl rfl (vb (i6 r6.2) rfl rfl (vs (eA64u8 r6.1) rfl rfl (fun _ => rfl) rfl rfl rfl rfl rfl rfl (vp (i6 r6.2) rfl (nx _ rfl (a_ret ?_))))))
    have hl9 : LdOk [] (eA64u8 r6.1) [] 64 true (eA64u8 r6.1) := (.nil rfl rfl rfl)
    refine ⟨.inr rfl, ?_⟩
    rw [Try.results31]
    cases h
    exact ⟨_, _, _, _, _, ld_own (i := ⟨.arr 64 5, 64, 64, (eA64u8 (vrep 64 (0 : Int)))⟩) rfl rfl rfl hl9, hl9.c, .inl ⟨rfl, .inl rfl⟩, rfl, ⟨_, _, _, _, _, rfl, trivial, .inl ⟨rfl, .inl rfl⟩, rfl, rfl⟩⟩
  · have h := ite_t hb3 h
    refine a_cond_t rfl (sr (vq (eA64u8 ((vrep 64 (0 : Int)))) rfl ⟨⟨_, rfl, rfl⟩, all_nil⟩ (vp (i6 r1) rfl (vs (eA64u8 ((vrep 64 (0 : Int)))) rfl rfl (fun _ => rfl) rfl rfl rfl rfl rfl rfl (vp (i6 r1) rfl (nx _ rfl (a_ret (t_ret ?_))))))))
    have hl11 : LdOk [] (eA64u8 ((vrep 64 (0 : Int)))) [] 64 true (eA64u8 ((vrep 64 (0 : Int)))) := (.nil rfl rfl rfl)
    refine ⟨.inr rfl, ?_⟩
    rw [Try.results31]
    cases h
    exact ⟨_, _, _, _, _, ld_own (i := ⟨.arr 64 5, 64, 64, (eA64u8 (vrep 64 (0 : Int)))⟩) rfl rfl rfl hl11, hl11.c, .inl ⟨rfl, .inl rfl⟩, rfl, ⟨_, _, _, _, _, rfl, trivial, .inl ⟨rfl, .inl rfl⟩, rfl, rfl⟩⟩
def spec_l01Prime_c : ACode := (.seq (.region 0 [q 2 (.asg 0 (.const (.bool false)) 4)] false) (.seq (.region 1 [q 3 (.mov (t 0)), q 4 (.bin .eql 2 (t 3) (.const (.int .i64 2))), q 5 (.mov (t 4)), ⟨some 6, .mov (t 0), some (5, false), []⟩, ⟨some 7, .bin .eql 2 (t 6) (.const (.int .i64 3)), some (5, false), []⟩, q 8 (.pick (t 5) (.const (.bool true)) (t 7)), q 9 (.mov (t 8)), ⟨some 10, .mov (t 0), some (9, false), []⟩, ⟨some 11, .bin .eql 2 (t 10) (.const (.int .i64 5)), some (9, false), []⟩, q 12 (.pick (t 9) (.const (.bool true)) (t 11)), q 13 (.mov (t 12)), ⟨some 14, .mov (t 0), some (13, false), []⟩, ⟨some 15, .bin .eql 2 (t 14) (.const (.int .i64 7)), some (13, false), []⟩, q 16 (.pick (t 13) (.const (.bool true)) (t 15)), q 2 (.asg 0 (t 16) 4)] false) .ret))
def spec_l01Prime_L : Live := [(0, [0]), (1, [0])]
noncomputable def spec_l01Prime (a0 : Int) : Option Bool :=
  (if (a0 == 2) then (some true) else (if (a0 == 3) then (some true) else (if (a0 == 5) then (some true) else (some (a0 == 7)))))
theorem spec_l01Prime_ok (a0 : Int) (r : Bool) (h : spec_l01Prime a0 = some r) : Den Try.prog 168 [(i6 a0)] { r := (.bool r) } := by
  refine den_of (rs := [(.bool r)]) (ac := spec_l01Prime_c) (L := spec_l01Prime_L) (n := 17) (m := []) (c := Try.f168.body.getD .skip) good Try.func168 (by kernel_rfl) (by kernel_rfl) Try.ntmps168 rfl rfl (by kernel_rfl) rfl rfl ?_
  refine a_st (σ' := ⟨[(0, (i6 a0))], []⟩) (by kernel_rfl) ?_
  unfold spec_l01Prime_c
  refine sr (vp (.bool false) rfl (nx ⟨[(0, (i6 a0))], []⟩ (by kernel_rfl) (sr (vp (i6 a0) rfl (vp (.bool (a0 == 2)) rfl (vp (.bool (a0 == 2)) rfl ?_))))))
  cases hb1 : (a0 == 2)
  · have h := ite_f hb1 h
    refine gp (i6 a0) rfl rfl (gp (.bool (a0 == 3)) rfl rfl (vp (.bool (a0 == 3)) rfl (vp (.bool (a0 == 3)) rfl ?_)))
    cases hb2 : (a0 == 3)
    · have h := ite_f hb2 h
      refine gp (i6 a0) rfl rfl (gp (.bool (a0 == 5)) rfl rfl (vp (.bool (a0 == 5)) rfl (vp (.bool (a0 == 5)) rfl ?_)))
      cases hb3 : (a0 == 5)
      · have h := ite_f hb3 h
        refine gp (i6 a0) rfl rfl (gp (.bool (a0 == 7)) rfl rfl (vp (.bool (a0 == 7)) rfl (vp (.bool (a0 == 7)) rfl (nx _ rfl (a_ret ?_)))))
        refine ⟨.inr rfl, ?_⟩
        rw [Try.results168]
        cases h
        exact ⟨_, _, _, _, _, rfl, trivial, .inl ⟨rfl, .inl rfl⟩, rfl, rfl⟩
      · have h := ite_t hb3 h
        refine a_gskip rfl (a_gskip rfl (vp (.bool true) rfl (vp (.bool true) rfl (nx _ rfl (a_ret ?_)))))
        refine ⟨.inr rfl, ?_⟩
        rw [Try.results168]
        cases h
        exact ⟨_, _, _, _, _, rfl, trivial, .inl ⟨rfl, .inl rfl⟩, rfl, rfl⟩
    · have h := ite_t hb2 h
      refine a_gskip rfl (a_gskip rfl (vp (.bool true) rfl (vp (.bool true) rfl (a_gskip rfl (a_gskip rfl (vp (.bool true) rfl (vp (.bool true) rfl (nx _ rfl (a_ret ?_)))))))))
      refine ⟨.inr rfl, ?_⟩
      rw [Try.results168]
      cases h
      exact ⟨_, _, _, _, _, rfl, trivial, .inl ⟨rfl, .inl rfl⟩, rfl, rfl⟩
  · have h := ite_t hb1 h
    refine a_gskip rfl (a_gskip rfl (vp (.bool true) rfl (vp (.bool true) rfl (a_gskip rfl (a_gskip rfl (vp (.bool true) rfl (vp (.bool true) rfl (a_gskip rfl (a_gskip rfl ?_)))))))))
    refine vp (.bool true) rfl (vp (.bool true) rfl (nx _ rfl (a_ret ?_)))
    refine ⟨.inr rfl, ?_⟩
    rw [Try.results168]
    cases h
    exact ⟨_, _, _, _, _, rfl, trivial, .inl ⟨rfl, .inl rfl⟩, rfl, rfl⟩
def spec_l01In_c : ACode := (.seq (.region 0 [q 6 (.asg 0 (.const (.bool false)) 4)] false) (.seq (.region 1 [q 7 (.mov (t 0)), q 8 (.mov (t 1)), q 9 (.bin .geq 2 (t 7) (t 8)), q 10 (.mov (t 9)), ⟨some 11, .mov (t 0), some (10, true), []⟩, ⟨some 12, .mov (t 2), some (10, true), []⟩, ⟨some 13, .bin .leq 2 (t 11) (t 12), some (10, true), []⟩, q 14 (.pick (t 10) (t 13) (.const (.bool false))), q 6 (.asg 0 (t 14) 4)] false) .ret))
def spec_l01In_L : Live := [(0, [0, 1, 2]), (1, [0, 1, 2])]
noncomputable def spec_l01In (a0 : Int) (a1 : Int) (a2 : Int) : Option Bool :=
  (if (decide (a0 ≥ a1)) then (some ((decide (a0 ≤ a2)))) else (some false))
theorem spec_l01In_ok (a0 : Int) (a1 : Int) (a2 : Int) (r : Bool) (h : spec_l01In a0 a1 a2 = some r) : Den Try.prog 160 [(i6 a0), (i6 a1), (i6 a2)] { r := (.bool r) } := by
  refine den_of (rs := [(.bool r)]) (ac := spec_l01In_c) (L := spec_l01In_L) (n := 15) (m := []) (c := Try.f160.body.getD .skip) good Try.func160 (by kernel_rfl) (by kernel_rfl) Try.ntmps160 rfl rfl (by kernel_rfl) rfl rfl ?_
  refine a_st (σ' := ⟨[(0, (i6 a0)), (1, (i6 a1)), (2, (i6 a2))], []⟩) (by kernel_rfl) ?_
  unfold spec_l01In_c
  refine sr (vp (.bool false) rfl (nx ⟨[(0, (i6 a0)), (1, (i6 a1)), (2, (i6 a2))], []⟩ (by kernel_rfl) (sr (vp (i6 a0) rfl (vp (i6 a1) rfl (vp (.bool ((decide (a0 ≥ a1)))) rfl (vp (.bool ((decide (a0 ≥ a1)))) rfl ?_)))))))
  cases hb1 : (decide (a0 ≥ a1))
  · have h := ite_f hb1 h
    refine a_gskip rfl (a_gskip rfl (a_gskip rfl (vp (.bool false) rfl (vp (.bool false) rfl (nx _ rfl (a_ret ?_))))))
    refine ⟨.inr rfl, ?_⟩
    rw [Try.results160]
    cases h
    exact ⟨_, _, _, _, _, rfl, trivial, .inl ⟨rfl, .inl rfl⟩, rfl, rfl⟩
  · have h := ite_t hb1 h
    refine gp (i6 a0) rfl rfl (gp (i6 a2) rfl rfl (gp (.bool ((decide (a0 ≤ a2)))) rfl rfl (vp (.bool ((decide (a0 ≤ a2)))) rfl (vp (.bool ((decide (a0 ≤ a2)))) rfl (nx _ rfl (a_ret ?_))))))
    refine ⟨.inr rfl, ?_⟩
    rw [Try.results160]
    cases h
    exact ⟨_, _, _, _, _, rfl, trivial, .inl ⟨rfl, .inl rfl⟩, rfl, rfl⟩
def spec_l04Range_c : ACode := (.seq (.region 0 [q 8 (.asg 0 (.const (.int .i64 0)) 2)] false) (.seq (.block 0 (.seq (.region 1 [q 10 (.mov (t 0)), q 11 (.call 0 (.func 168) [(t 10)]), q 12 (.un .not (t 11)), q 9 (.asg 0 (t 12) 4)] false) (.cond (t 9) (.seq (.region 2 [q 8 (.asg 0 (.const (.int .i64 1)) 2)] false) .ret) (.seq (.region 3 [q 14 (.mov (t 1)), q 15 (.mov (t 2)), q 16 (.mov (t 3)), q 17 (.call 0 (.func 160) [(t 14), (t 15), (t 16)]), q 18 (.un .not (t 17)), q 13 (.asg 0 (t 18) 4)] false) (.cond (t 13) (.seq (.region 4 [q 8 (.asg 0 (.const (.int .i64 2)) 2)] false) .ret) .skip))))) (.seq (.region 5 [q 8 (.asg 0 (.const (.int .i64 0)) 2)] false) .ret)))
def spec_l04Range_L : Live := [(0, [0, 1, 2, 3]), (1, [0, 1, 2, 3]), (2, []), (3, [1, 2, 3]), (4, []), (5, []), (100009, [1, 2, 3, 9]), (100013, [13])]
noncomputable def spec_l04Range (a0 : Int) (a1 : Int) (a2 : Int) (a3 : Int) : Option Int :=
  (Option.bind (spec_l01Prime a0) fun r1 => (if (!r1) then (some 1) else (Option.bind (spec_l01In a1 a2 a3) fun r4 => (if (!r4) then (some 2) else (some 0)))))
theorem spec_l04Range_ok (a0 : Int) (a1 : Int) (a2 : Int) (a3 : Int) (r : Int) (h : spec_l04Range a0 a1 a2 a3 = some r) : Den Try.prog 126 [(i6 a0), (i6 a1), (i6 a2), (i6 a3)] { r := (i6 r) } := by
  refine den_of (rs := [(i6 r)]) (ac := spec_l04Range_c) (L := spec_l04Range_L) (n := 19) (m := []) (c := Try.f126.body.getD .skip) good Try.func126 (by kernel_rfl) (by kernel_rfl) Try.ntmps126 rfl rfl (by kernel_rfl) rfl rfl ?_
  refine a_st (σ' := ⟨[(0, (i6 a0)), (1, (i6 a1)), (2, (i6 a2)), (3, (i6 a3))], []⟩) (by kernel_rfl) ?_
  unfold spec_l04Range_c
  refine sr (vp (i6 0) rfl (nx ⟨[(0, (i6 a0)), (1, (i6 a1)), (2, (i6 a2)), (3, (i6 a3))], []⟩ (by kernel_rfl) (a_seq (a_block (sr (vp (i6 a0) rfl ?_))))))
  obtain ⟨r1, hr2, h⟩ := bind_some h
  refine a_call (args := [(i6 a0)]) (u := []) (r := (.bool r1)) rfl rfl (spec_l01Prime_ok a0 r1 hr2) rfl (vp (.bool (!r1)) rfl (vp (.bool (!r1)) rfl (nx ⟨[(1, (i6 a1)), (2, (i6 a2)), (3, (i6 a3)), (9, (.bool (!r1)))], []⟩ (by kernel_rfl) ?_)))
  cases hb3 : (!r1)
  · have h := ite_f hb3 h
    refine a_cond_f rfl (sr (vp (i6 a1) rfl (vp (i6 a2) rfl (vp (i6 a3) rfl ?_))))
    obtain ⟨r4, hr5, h⟩ := bind_some h
    refine a_call (args := [(i6 a1), (i6 a2), (i6 a3)]) (u := []) (r := (.bool r4)) rfl rfl (spec_l01In_ok a1 a2 a3 r4 hr5) rfl (vp (.bool (!r4)) rfl (vp (.bool (!r4)) rfl (nx ⟨[(13, (.bool (!r4)))], []⟩ (by kernel_rfl) ?_)))
    cases hb6 : (!r4)
    · have h := ite_f hb6 h
      refine a_cond_f rfl (a_skip (b_norm (a_next (σ' := ⟨[], []⟩) (by kernel_rfl) (sr (vp (i6 0) rfl (nx _ rfl (a_ret ?_)))))))
      refine ⟨.inr rfl, ?_⟩
      rw [Try.results126]
      cases h
      exact ⟨_, _, _, _, _, rfl, trivial, .inl ⟨rfl, .inl rfl⟩, rfl, rfl⟩
    · have h := ite_t hb6 h
      refine a_cond_t rfl (sr (vp (i6 2) rfl (nx _ rfl (a_ret (b_ret (t_ret ?_))))))
      refine ⟨.inr rfl, ?_⟩
      rw [Try.results126]
      cases h
      exact ⟨_, _, _, _, _, rfl, trivial, .inl ⟨rfl, .inl rfl⟩, rfl, rfl⟩
  · have h := ite_t hb3 h
    refine a_cond_t rfl (sr (vp (i6 1) rfl (nx _ rfl (a_ret (b_ret (t_ret ?_))))))
    refine ⟨.inr rfl, ?_⟩
    rw [Try.results126]
    cases h
    exact ⟨_, _, _, _, _, rfl, trivial, .inl ⟨rfl, .inl rfl⟩, rfl, rfl⟩
def spec_l01T_c : ACode := (.seq (.region 0 [q 0 (.alloc 25)] false) (.seq (.region 1 [q 1 (.build 25 [(0, (.const (.int .u8 0))), (1, (.const (.int .u8 1)))]), ⟨none, .store 25 (t 0) (t 1), none, []⟩] false) .ret))
def spec_l01T_L : Live := [(0, []), (1, [0])]
noncomputable def spec_l01T  : Option (Vec Int 64) :=
  (some ((vset (vset (vrep 64 (0 : Int)) 0 0) 1 1)))
theorem spec_l01T_ok  (r : (Vec Int 64)) (h : spec_l01T = some r) : Den Try.prog 166 [] { r := (eA64u8 r) } := by
  refine den_of (rs := [(eA64u8 r)]) (ac := spec_l01T_c) (L := spec_l01T_L) (n := 2) (m := []) (c := Try.f166.body.getD .skip) good Try.func166 (by kernel_rfl) (by kernel_rfl) Try.ntmps166 rfl rfl (by kernel_rfl) rfl rfl ?_
  refine a_st (σ' := ⟨[], []⟩) (by kernel_rfl) ?_
  unfold spec_l01T_c
  refine sr (vo 1000 (eA64u8 ((vrep 64 (0 : Int)))) rfl rfl (nx ⟨[(0, (ow 0))], [(0, (bk (eA64u8 ((vrep 64 (0 : Int))))))]⟩ (by kernel_rfl) (sr (vq (eA64u8 ((vset (vset (vrep 64 (0 : Int)) 0 0) 1 1))) rfl ⟨⟨_, rfl, rfl⟩, (all_cons ⟨(Nat.le_of_ble_eq_true rfl), rfl⟩ (all_cons ⟨(Nat.le_of_ble_eq_true rfl), rfl⟩ all_nil))⟩ (vs (eA64u8 ((vset (vset (vrep 64 (0 : Int)) 0 0) 1 1))) rfl rfl (fun _ => rfl) rfl rfl rfl rfl rfl rfl (nx _ rfl (a_ret ?_)))))))
  have hl2 : LdOk [] (eA64u8 ((vset (vset (vrep 64 (0 : Int)) 0 0) 1 1))) [] 64 true (eA64u8 ((vset (vset (vrep 64 (0 : Int)) 0 0) 1 1))) := (.nil rfl rfl rfl)
  refine ⟨.inr rfl, ?_⟩
  rw [Try.results166]
  cases h
  exact ⟨_, _, _, _, _, ld_own (i := ⟨.arr 64 5, 64, 64, (eA64u8 (vrep 64 (0 : Int)))⟩) rfl rfl rfl hl2, hl2.c, .inl ⟨rfl, .inl rfl⟩, rfl, rfl⟩
end Go.Proofs.Ytkbnegemdlnncaa
