/- Functions of the program: plain Lean functions, and that the program computes them. Printed by gen.py. -/
import Derived.Test.YtkbnegemdlnncaaFnT
namespace Go.Proofs.Ytkbnegemdlnncaa
open Go.Abs Go.Proofs
set_option linter.unusedSimpArgs false
set_option linter.unusedVariables false
set_option maxHeartbeats 16000000
attribute [local irreducible] Abs.acode Abs.aops Abs.aopsT Abs.thenK Abs.blockK

def laws_big_c : ACode := (.seq (.region 0 [q 2 (.asg 0 (.const (.bool false)) 4)] false) (.seq (.region 1 [q 3 (.mov (t 0)), q 4 (.blt 0 .len [(t 3)] [22]), q 5 (.bin .gtr 3 (t 4) (.const (.int .i64 4096))), q 2 (.asg 0 (t 5) 4)] false) .ret))
def laws_big_L : Live := [(0, [0]), (1, [0])]
noncomputable def laws_big (a0 : (List Int)) : Option Bool :=
  (some ((decide ((a0.length : Int) > 4096))))
theorem laws_big_ok (a0 : (List Int)) (r : Bool) (h : laws_big a0 = some r) : Den Try.prog 10 [(eSu8 a0)] { r := (.bool r) } := by
  refine den_of (rs := [(.bool r)]) (ac := laws_big_c) (L := laws_big_L) (n := 6) (m := []) (c := Try.f10.body.getD .skip) good Try.func10 (by kernel_rfl) (by kernel_rfl) Try.ntmps10 rfl rfl (by kernel_rfl) rfl rfl ?_
  refine a_st (σ' := ⟨[(0, (eSu8 a0))], []⟩) (by kernel_rfl) ?_
  unfold laws_big_c
  refine sr (vp (.bool false) rfl (nx ⟨[(0, (eSu8 a0))], []⟩ (by kernel_rfl) (sr (vp (eSu8 a0) rfl (vq (i6 (a0.length : Int)) (len_run rfl rfl) trivial (vp (.bool ((decide ((a0.length : Int) > 4096)))) rfl (vp (.bool ((decide ((a0.length : Int) > 4096)))) rfl (nx _ rfl (a_ret ?_)))))))))
  refine ⟨.inr rfl, ?_⟩
  rw [Try.results10]
  cases h
  exact ⟨_, _, _, _, _, rfl, trivial, .inl ⟨rfl, .inl rfl⟩, rfl, rfl⟩
def spec_l01From_c : ACode := (.seq (.region 0 [q 2 (.asg 0 (.const (.pointer none)) 96)] false) (.seq (.region 1 [q 5 (.mov (t 0)), q 6 (.mov (t 0)), q 7 (.blt 0 .len [(t 6)] [22]), q 8 (.conv 3 153 (t 7)), q 9 (.bin .add 153 (.const (.int .u64 12251)) (t 8)), q 10 (.build 155 [(0, (t 5)), (2, (t 9))]), q 11 (.box 155 (t 10)), q 3 (.asg 0 (t 11) 96)] false) (.seq (.seq (.region 2 [q 4 (.asg 0 (.const (.int .i64 0)) 3)] false) (.block 0 (.loop (.seq (.seq (.region 3 [q 12 (.mov (t 4)), q 13 (.mov (t 0)), q 14 (.blt 0 .len [(t 13)] [22]), q 15 (.bin .lss 3 (t 12) (t 14)), q 16 (.mov (t 15)), ⟨some 17, .mov (t 4), some (16, true), []⟩, ⟨some 18, .bin .lss 3 (t 17) (.const (.int .i64 4096)), some (16, true), []⟩, q 19 (.pick (t 16) (t 18) (.const (.bool false)))] false) (.cond (t 19) .skip (.exit 0))) (.seq (.block 1 (.region 5 [q 22 (.mov (t 3)), q 23 (.mov (t 3)), ⟨some 24, .nilCheck (t 23), none, [1]⟩, ⟨some 25, .fieldAddr 155 (t 24) 2, none, [2]⟩, ⟨some 26, .load 153 (t 25), none, [3]⟩, ⟨some 27, .bin .mul 153 (t 26) (.const (.int .u64 1099511628211)), none, [4]⟩, q 28 (.mov (t 0)), q 29 (.mov (t 4)), ⟨some 30, .indexAddr 22 (t 28) (t 29), none, [6, 7]⟩, ⟨some 31, .load 5 (t 30), none, [8]⟩, ⟨some 32, .conv 5 153 (t 31), none, [9]⟩, ⟨some 33, .bin .add 153 (t 27) (t 32), none, [5, 10]⟩, ⟨some 34, .bin .add 153 (t 33) (.const (.int .u64 61)), none, [11]⟩, ⟨some 35, .nilCheck (t 22), none, [0, 0, 1, 2, 3, 4, 5, 6, 7, 8, 9, 10, 11, 12]⟩, ⟨some 36, .fieldAddr 155 (t 35) 2, none, [13, 0, 1, 2, 3, 4, 5, 6, 7, 8, 9, 10, 11, 12]⟩, ⟨none, .store 153 (t 36) (t 34), none, [14, 12, 0, 1, 2, 3, 4, 5, 6, 7, 8, 9, 10, 11, 12]⟩] true)) (.region 4 [q 20 (.mov (t 4)), q 21 (.bin .add 3 (t 20) (.const (.int .i64 1))), q 4 (.asg 0 (t 21) 3)] false)))))) (.seq (.region 6 [q 37 (.mov (t 3)), q 2 (.asg 0 (t 37) 96)] false) .ret))))
def spec_l01From_L : Live := [(0, [0]), (1, [0]), (2, [0, 3]), (3, [0, 3, 4]), (4, [0, 3, 4]), (5, [0, 3, 4]), (6, [3]), (100019, [0, 3, 4, 19])]
noncomputable def spec_l01From_l1 (a0 : (List Int)) (x89 : Int) (x90 : ((List Int) × Int × Int)) : Option ((Int × ((List Int) × Int × Int)) ⊕ ((List Int) × Int × Int)) :=
  (Option.bind (α := Bool) ((if (decide (x89 < (a0.length : Int))) then (some ((decide (x89 < 4096)))) else (some false))) fun x114 => (if x114 then (ifp (0 ≤ x89 ∧ x89 < ((a0.length : Nat) : Int)) ((letp (IntKind.u64.wrap ((IntKind.u64.wrap (x90.2.2 * 1099511628211)) + (IntKind.u64.wrap (rd a0 x89.toNat)))) fun x129 => (some (.inl ((IntKind.i64.wrap (x89 + 1), (x90.1, x90.2.1, IntKind.u64.wrap (x129 + 61))))))))) else (some (.inr x90))))
noncomputable def spec_l01From (a0 : (List Int)) : Option ((List Int) × Int × Int) :=
  (letp (IntKind.u64.wrap (12251 + (IntKind.u64.wrap (a0.length : Int)))) fun x1 => (Option.bind (α := ((List Int) × Int × Int)) ((loopM (fun s : (Int × ((List Int) × Int × Int)) => spec_l01From_l1 a0 s.1 s.2) (0, (a0, (0 : Int), x1)))) fun x66 => (some x66)))
theorem spec_l01From_ok (a0 : (List Int)) (r : ((List Int) × Int × Int)) (h : spec_l01From a0 = some r) : Den Try.prog 116 [(eSu8 a0)] { r := (ow 2000000), ms := [], fs := [(0, [eT_Su8_i64_u64_Z r])] } := by
  refine den_ofX (rs := [(ow 2000000)]) (ac := spec_l01From_c) (L := spec_l01From_L) (n := 38) (m := []) (c := Try.f116.body.getD .skip) good Try.func116 (by kernel_rfl) (by kernel_rfl) Try.ntmps116 rfl rfl (by kernel_rfl) rfl ?_
  refine a_st (σ' := ⟨[(0, (eSu8 a0))], []⟩) (by kernel_rfl) ?_
  unfold spec_l01From_c
  refine sr (vp (.raw (.pointer none)) rfl (nx ⟨[(0, (eSu8 a0))], []⟩ (by kernel_rfl) (sr (vp (eSu8 a0) rfl (vp (eSu8 a0) rfl (vq (i6 (a0.length : Int)) (len_run rfl rfl) trivial (vp (.int .u64 (IntKind.u64.wrap (a0.length : Int))) rfl ?_)))))))
  obtain ⟨x1, hx2, h⟩ := letp_some h
  refine a_val' (v := (.int .u64 (IntKind.u64.wrap (12251 + (IntKind.u64.wrap (a0.length : Int)))))) (v' := (.int .u64 x1)) (u := []) (u' := []) rfl (congrArg (fun z => ((.int .u64 z) : AV)) hx2) rfl trivial rfl (vq (eT_Su8_i64_u64_Z ((a0, (0 : Int), x1))) rfl ⟨rfl, (all_cons ⟨(Nat.le_of_ble_eq_true rfl), rfl⟩ (all_cons ⟨(Nat.le_of_ble_eq_true rfl), rfl⟩ all_nil))⟩ (vo 2100 (eT_Su8_i64_u64_Z ((a0, (0 : Int), x1))) rfl rfl (vp (ow 2100) rfl (nx ⟨[(0, (eSu8 a0)), (3, (ow 3))], [(3, (bk (eT_Su8_i64_u64_Z ((a0, (0 : Int), x1)))))]⟩ (by kernel_rfl) ?_))))
  obtain ⟨y67, hy68, hk69⟩ := bind_some h
  clear h
  refine a_join (emb := fun (s : ((List Int) × Int × Int)) => ⟨[(3, (ow 3))], [(3, (bk (eT_Su8_i64_u64_Z s)))]⟩) (pre := fun s => s = y67) ?_ ?_
  · rintro x66 rfl
    have h := hk69
    refine a_st (σ' := ⟨[(3, (ow 3))], [(3, (bk (eT_Su8_i64_u64_Z x66)))]⟩) (by kernel_rfl) (sr (vp (ow 3) rfl (vp (ow 3) rfl (nx _ rfl (a_ret ?_)))))
    refine ⟨.inr rfl, ?_⟩
    rw [Try.results116]
    cases h
    exact ⟨[some 3], ⟨_, _, _, _, _, rfl, trivial, rfl, .inr (.inr (.inl ⟨_, _, _, _, rfl, rfl, rfl, rfl, rfl, ⟨rfl, rfl, rfl⟩⟩))⟩, rfl, rfl⟩
  · have h := hy68
    refine sr (vp (i6 0) rfl (nx ⟨[(0, (eSu8 a0)), (3, (ow 3)), (4, (i6 0))], [(3, (bk (eT_Su8_i64_u64_Z ((a0, (0 : Int), x1)))))]⟩ (by kernel_rfl) (a_block ?_)))
    refine a_loop (emb := fun (s : (Int × ((List Int) × Int × Int))) => ⟨[(0, (eSu8 a0)), (3, (ow 3)), (4, (i6 s.1))], [(3, (bk (eT_Su8_i64_u64_Z s.2)))]⟩) (body := (fun s : (Int × ((List Int) × Int × Int)) => spec_l01From_l1 a0 s.1 s.2)) (G := fun q => some q = some y67) h rfl ?_ (by kernel_rfl)
    rintro X110 ⟨x89, x90⟩ x111 h hX112
    have h : spec_l01From_l1 a0 x89 x90 = some x111 := h
    refine a_st (σ' := ⟨[(0, (eSu8 a0)), (3, (ow 3)), (4, (i6 x89))], [(3, (bk (eT_Su8_i64_u64_Z x90)))]⟩) (by kernel_rfl) (a_seq ?_)
    obtain ⟨y115, hy116, hk117⟩ := bind_some h
    clear h
    refine a_join (emb := fun (s : Bool) => ⟨[(0, (eSu8 a0)), (3, (ow 3)), (4, (i6 x89)), (19, (.bool s))], [(3, (bk (eT_Su8_i64_u64_Z x90)))]⟩) (pre := fun s => s = y115) ?_ ?_
    · rintro x114 rfl
      have h := hk117
      refine a_st (σ' := ⟨[(0, (eSu8 a0)), (3, (ow 3)), (4, (i6 x89)), (19, (.bool x114))], [(3, (bk (eT_Su8_i64_u64_Z x90)))]⟩) (by kernel_rfl) ?_
      cases hb119 : x114
      · have h := ite_f hb119 h
        refine a_cond_f rfl (a_exit (t_exit ?_))
        cases h
        have h := hX112
        refine t_exit (b_exit ?_)
        exact j_leaf x90 (Option.some.inj h) (by kernel_rfl)
      · have h := ite_t hb119 h
        refine a_cond_t rfl (a_skip (a_next (σ' := ⟨[(0, (eSu8 a0)), (3, (ow 3)), (4, (i6 x89))], [(3, (bk (eT_Su8_i64_u64_Z x90)))]⟩) (by kernel_rfl) (a_seq (a_block (a_draw [⟨[], [], [3], []⟩, ⟨[], [], [3], []⟩, ⟨[3], [], [3], [1]⟩, ⟨[3], [], [3], [1, 2]⟩, ⟨[3], [], [], [1, 2, 3]⟩, ⟨[], [], [], [1, 2, 3, 4]⟩, ⟨[], [], [], []⟩, ⟨[], [], [], []⟩, ⟨[], [], [], [6, 7]⟩, ⟨[], [], [], [6, 7, 8]⟩, ⟨[], [], [], [6, 7, 8, 9]⟩, ⟨[], [], [], [1, 2, 3, 4, 5, 6, 7, 8, 9, 10]⟩, ⟨[], [], [], [1, 2, 3, 4, 5, 6, 7, 8, 9, 10, 11]⟩, ⟨[3], [], [3], [0, 1, 2, 3, 4, 5, 6, 7, 8, 9, 10, 11, 12]⟩, ⟨[3], [], [3], [0, 1, 2, 3, 4, 5, 6, 7, 8, 9, 10, 11, 12, 13]⟩, ⟨[3], [3], [], [0, 1, 2, 3, 4, 5, 6, 7, 8, 9, 10, 11, 12, 13, 14]⟩] (by kernel_rfl) (dp (ow 3) rfl (by kernel_rfl) (dp (ow 3) rfl (by kernel_rfl) (dp (ow 3) rfl (by kernel_rfl) (d_cons ?_)))))))))
        refine vb (.own 3 [2] [2]) rfl rfl (d_next (by kernel_rfl) (d_cons ?_))
        have hl126 : LdOk [2] (eT_Su8_i64_u64_Z x90) [2] 1 false (.int .u64 x90.2.2) := (.fld rfl rfl rfl rfl (.nil rfl rfl rfl))
        refine vq (.int .u64 x90.2.2) (ld_own (i := ⟨.int .u64, 1, 8, (.int .u64 0)⟩) rfl rfl rfl hl126) hl126.c (d_next (by kernel_rfl) (dp (.int .u64 (IntKind.u64.wrap (x90.2.2 * 1099511628211))) rfl (by kernel_rfl) (dp (eSu8 a0) rfl (by kernel_rfl) (dp (i6 x89) rfl (by kernel_rfl) (d_cons ?_)))))
        obtain ⟨hc127, h⟩ := ifp_some h
        refine vq (.ref (.row 1 (a0.map (AV.int .u8))) [x89.toNat] [x89.toNat * 1]) rfl (lmap hc127) (d_next (by kernel_rfl) (d_cons ?_))
        have hl128 : LdOk [x89.toNat] (.row 1 (a0.map (AV.int .u8))) [x89.toNat * 1] 1 false (b8 (rd a0 x89.toNat)) := (.row (llt hc127) rfl (.nil rfl rfl rfl))
        refine vq (b8 (rd a0 x89.toNat)) (ld_ref (i := ⟨.int .u8, 1, 1, (.int .u8 0)⟩) rfl rfl hl128) hl128.c (d_next (by kernel_rfl) (dp (.int .u64 (IntKind.u64.wrap (rd a0 x89.toNat))) rfl (by kernel_rfl) (d_cons ?_)))
        obtain ⟨x129, hx130, h⟩ := letp_some h
        refine a_val' (v := (.int .u64 (IntKind.u64.wrap ((IntKind.u64.wrap (x90.2.2 * 1099511628211)) + (IntKind.u64.wrap (rd a0 x89.toNat)))))) (v' := (.int .u64 x129)) (u := []) (u' := []) rfl (congrArg (fun z => ((.int .u64 z) : AV)) hx130) rfl trivial rfl (d_next (by kernel_rfl) (dp (.int .u64 (IntKind.u64.wrap (x129 + 61))) rfl (by kernel_rfl) (dp (ow 3) rfl (by kernel_rfl) (d_cons (vb (.own 3 [2] [2]) rfl rfl (d_next (by kernel_rfl) (d_cons ?_)))))))
        have hs131 : StOk [2] (eT_Su8_i64_u64_Z x90) [2] 1 (.int .u64 (IntKind.u64.wrap (x129 + 61))) (eT_Su8_i64_u64_Z ((x90.1, x90.2.1, IntKind.u64.wrap (x129 + 61)))) := (.fld rfl rfl rfl rfl (.nil rfl rfl rfl rfl))
        refine vu .top [(3, (bk (eT_Su8_i64_u64_Z ((x90.1, x90.2.1, IntKind.u64.wrap (x129 + 61))))))] (st_own (i := ⟨.int .u64, 1, 8, (.int .u64 0)⟩) rfl rfl (fun _ => rfl) rfl hs131) (hs131.c rfl) rfl (d_next (by kernel_rfl) (d_nil (b_norm (a_next (σ' := ⟨[(0, (eSu8 a0)), (3, (ow 3)), (4, (i6 x89))], [(3, (bk (eT_Su8_i64_u64_Z ((x90.1, x90.2.1, IntKind.u64.wrap (x129 + 61))))))]⟩) (by kernel_rfl) (a_region (vp (i6 x89) rfl (vp (i6 (IntKind.i64.wrap (x89 + 1))) rfl (vp (i6 (IntKind.i64.wrap (x89 + 1))) rfl (a_nil ?_)))))))))
        cases h
        exact a_again (by kernel_rfl) hX112
    · have h := hy116
      refine a_region (vp (i6 x89) rfl (vp (eSu8 a0) rfl (vq (i6 (a0.length : Int)) (len_run rfl rfl) trivial (vp (.bool ((decide (x89 < (a0.length : Int))))) rfl (vp (.bool ((decide (x89 < (a0.length : Int))))) rfl ?_)))))
      cases hb118 : (decide (x89 < (a0.length : Int)))
      · have h := ite_f hb118 h
        refine a_gskip rfl (a_gskip rfl (vp (.bool false) rfl (a_nil ?_)))
        exact j_leaf false (Option.some.inj h) (by kernel_rfl)
      · have h := ite_t hb118 h
        refine gp (i6 x89) rfl rfl (gp (.bool ((decide (x89 < 4096)))) rfl rfl (vp (.bool ((decide (x89 < 4096)))) rfl (a_nil ?_)))
        exact j_leaf ((decide (x89 < 4096))) (Option.some.inj h) (by kernel_rfl)
def spec_l01Next_of_src_c : ACode := (.seq (.region 0 [q 4 (.asg 0 (.const (.int .i64 0)) 2)] false) (.seq (.seq (.region 1 [q 6 (.mov (t 1)), q 7 (.bin .lss 2 (t 6) (.const (.int .i64 1)))] false) (.cond (t 7) (.seq (.region 2 [q 4 (.asg 0 (.const (.int .i64 0)) 2)] false) .ret) .skip)) (.seq (.region 3 [q 8 (.mov (t 0)), q 9 (.mov (t 0)), q 10 (.nilCheck (t 9)), q 11 (.fieldAddr 155 (t 10) 2), q 12 (.load 153 (t 11)), q 13 (.bin .mul 153 (t 12) (.const (.int .u64 6364136223846793005))), q 14 (.bin .add 153 (t 13) (.const (.int .u64 1442695040888963407))), q 15 (.nilCheck (t 8)), q 16 (.fieldAddr 155 (t 15) 2), ⟨none, .store 153 (t 16) (t 14), none, []⟩] false) (.seq (.region 4 [q 17 (.mov (t 0)), q 18 (.nilCheck (t 17)), q 19 (.fieldAddr 155 (t 18) 2), q 20 (.load 153 (t 19)), q 21 (.bin .shr 153 (t 20) (.const (.int .u64 33))), q 22 (.bin .and 153 (t 21) (.const (.int .u64 16777215))), q 23 (.conv 153 2 (t 22)), q 5 (.asg 0 (t 23) 2)] false) (.seq (.seq (.region 5 [q 24 (.mov (t 0)), ⟨some 25, .nilCheck (t 24), none, [0]⟩, ⟨some 26, .fieldAddr 155 (t 25) 1, none, [1]⟩, ⟨some 27, .load 3 (t 26), none, [2]⟩, q 28 (.mov (t 0)), ⟨some 29, .nilCheck (t 28), none, [4]⟩, ⟨some 30, .fieldAddr 155 (t 29) 0, none, [5]⟩, ⟨some 31, .load 22 (t 30), none, [6]⟩, ⟨some 32, .blt 0 .len [(t 31)] [22], none, [7]⟩, ⟨some 33, .bin .lss 3 (t 27) (t 32), none, [3, 8]⟩] true) (.cond (t 33) (.seq (.region 6 [q 34 (.mov (t 5)), q 35 (.mov (t 0)), ⟨some 36, .nilCheck (t 35), none, [1]⟩, ⟨some 37, .fieldAddr 155 (t 36) 0, none, [2]⟩, ⟨some 38, .load 22 (t 37), none, [3]⟩, q 39 (.mov (t 0)), ⟨some 40, .nilCheck (t 39), none, [5]⟩, ⟨some 41, .fieldAddr 155 (t 40) 1, none, [6]⟩, ⟨some 42, .load 3 (t 41), none, [7]⟩, ⟨some 43, .indexAddr 22 (t 38) (t 42), none, [4, 8]⟩, ⟨some 44, .load 5 (t 43), none, [9]⟩, ⟨some 45, .conv 5 2 (t 44), none, [10]⟩, ⟨some 46, .bin .add 2 (t 34) (t 45), none, [0, 11]⟩, ⟨some 5, .asg 0 (t 46) 2, none, [12, 0, 1, 2, 3, 4, 5, 6, 7, 8, 9, 10, 11, 12]⟩] true) (.region 7 [q 47 (.mov (t 0)), q 48 (.mov (t 0)), q 49 (.nilCheck (t 48)), q 50 (.fieldAddr 155 (t 49) 1), q 51 (.load 3 (t 50)), q 52 (.bin .add 3 (t 51) (.const (.int .i64 1))), q 53 (.nilCheck (t 47)), q 54 (.fieldAddr 155 (t 53) 1), ⟨none, .store 3 (t 54) (t 52), none, []⟩] false)) .skip)) (.seq (.region 8 [q 55 (.mov (t 5)), q 56 (.mov (t 1)), q 57 (.bin .rem 2 (t 55) (t 56)), q 4 (.asg 0 (t 57) 2)] false) .ret))))))
def spec_l01Next_of_src_L : Live := [(0, [0, 1]), (1, [0, 1]), (2, []), (3, [0, 1]), (4, [0, 1]), (5, [0, 1, 5]), (6, [0, 1, 5]), (7, [0, 1, 5]), (8, [1, 5]), (100007, [0, 1, 7]), (100033, [0, 1, 5, 33])]
noncomputable def spec_l01Next_of_src (a0 : ((List Int) × Int × Int)) (a1 : Int) : Option (Int × ((List Int) × Int × Int)) :=
  (if (decide (a1 < 1)) then (some (0, a0)) else (letp (IntKind.u64.wrap ((IntKind.u64.wrap (a0.2.2 * 6364136223846793005)) + 1442695040888963407)) fun x3 => (letp (IntKind.u64.wrap (BitVec.ofInt IntKind.u64.bits (Int.fdiv x3 (2 ^ (min (33 : Int).toNat IntKind.u64.bits))) &&& BitVec.ofInt IntKind.u64.bits 16777215).toNat) fun x7 => (Option.bind (α := (Int × ((List Int) × Int × Int))) ((if (decide (a0.2.1 < (a0.1.length : Int))) then (ifp (0 ≤ a0.2.1 ∧ a0.2.1 < ((a0.1.length : Nat) : Int)) ((letp (IntKind.i64.wrap ((IntKind.i64.wrap x7) + (IntKind.i64.wrap (rd a0.1 a0.2.1.toNat)))) fun x48 => (some ((x48, (a0.1, IntKind.i64.wrap (a0.2.1 + 1), x3))))))) else (some ((IntKind.i64.wrap x7, (a0.1, a0.2.1, x3)))))) fun ⟨x28, x29⟩ => (ifp (a1 ≠ 0) ((some (Int.tmod x28 a1, x29))))))))
theorem spec_l01Next_of_src_ok (a0 : ((List Int) × Int × Int)) (a1 : Int) (r : (Int × ((List Int) × Int × Int))) (h : spec_l01Next_of_src a0 a1 = some r) : Den Try.prog 123 [(.mutp (eT_Su8_i64_u64_Z a0)), (i6 a1)] { r := (i6 r.1), ms := [(eT_Su8_i64_u64_Z r.2)], fs := [] } := by
  refine den_ofX (rs := [(i6 r.1)]) (ac := spec_l01Next_of_src_c) (L := spec_l01Next_of_src_L) (n := 58) (m := []) (c := Try.f123.body.getD .skip) good Try.func123 (by kernel_rfl) (by kernel_rfl) Try.ntmps123 rfl rfl (by kernel_rfl) rfl ?_
  refine a_st (σ' := ⟨[(0, (ow 1000000)), (1, (i6 a1))], [(1000000, (bk (eT_Su8_i64_u64_Z a0)))]⟩) (by kernel_rfl) ?_
  unfold spec_l01Next_of_src_c
  refine sr (vp (i6 0) rfl (nx ⟨[(0, (ow 1000000)), (1, (i6 a1))], [(1000000, (bk (eT_Su8_i64_u64_Z a0)))]⟩ (by kernel_rfl) (a_seq (sr (vp (i6 a1) rfl (vp (.bool ((decide (a1 < 1)))) rfl (nx ⟨[(0, (ow 1000000)), (1, (i6 a1)), (7, (.bool ((decide (a1 < 1)))))], [(1000000, (bk (eT_Su8_i64_u64_Z a0)))]⟩ (by kernel_rfl) ?_)))))))
  cases hb1 : (decide (a1 < 1))
  · have h := ite_f hb1 h
    refine a_cond_f rfl (a_skip (a_next (σ' := ⟨[(0, (ow 1000000)), (1, (i6 a1))], [(1000000, (bk (eT_Su8_i64_u64_Z a0)))]⟩) (by kernel_rfl) (sr (vp (ow 1000000) rfl (vp (ow 1000000) rfl (vp (ow 1000000) rfl (vb (.own 1000000 [2] [2]) rfl rfl ?_)))))))
    have hl2 : LdOk [2] (eT_Su8_i64_u64_Z a0) [2] 1 false (.int .u64 a0.2.2) := (.fld rfl rfl rfl rfl (.nil rfl rfl rfl))
    refine vq (.int .u64 a0.2.2) (ld_own (i := ⟨.int .u64, 1, 8, (.int .u64 0)⟩) rfl rfl rfl hl2) hl2.c (vp (.int .u64 (IntKind.u64.wrap (a0.2.2 * 6364136223846793005))) rfl ?_)
    obtain ⟨x3, hx4, h⟩ := letp_some h
    refine a_val' (v := (.int .u64 (IntKind.u64.wrap ((IntKind.u64.wrap (a0.2.2 * 6364136223846793005)) + 1442695040888963407)))) (v' := (.int .u64 x3)) (u := []) (u' := []) rfl (congrArg (fun z => ((.int .u64 z) : AV)) hx4) rfl trivial rfl (vp (ow 1000000) rfl (vb (.own 1000000 [2] [2]) rfl rfl ?_))
    have hs5 : StOk [2] (eT_Su8_i64_u64_Z a0) [2] 1 (.int .u64 x3) (eT_Su8_i64_u64_Z (a0.1, a0.2.1, x3)) := (.fld rfl rfl rfl rfl (.nil rfl rfl rfl rfl))
    refine vu .top [(1000000, (bk (eT_Su8_i64_u64_Z (a0.1, a0.2.1, x3))))] (st_own (i := ⟨.int .u64, 1, 8, (.int .u64 0)⟩) rfl rfl (fun _ => rfl) rfl hs5) (hs5.c rfl) rfl (nx ⟨[(0, (ow 1000000)), (1, (i6 a1))], [(1000000, (bk (eT_Su8_i64_u64_Z (a0.1, a0.2.1, x3))))]⟩ (by kernel_rfl) (sr (vp (ow 1000000) rfl (vp (ow 1000000) rfl (vb (.own 1000000 [2] [2]) rfl rfl ?_)))))
    have hl6 : LdOk [2] (eT_Su8_i64_u64_Z (a0.1, a0.2.1, x3)) [2] 1 false (.int .u64 x3) := (.fld rfl rfl rfl rfl (.nil rfl rfl rfl))
    refine vq (.int .u64 x3) (ld_own (i := ⟨.int .u64, 1, 8, (.int .u64 0)⟩) rfl rfl rfl hl6) hl6.c (vq (.int .u64 (Int.fdiv x3 (2 ^ (min (33 : Int).toNat IntKind.u64.bits)))) rfl (by decide) ?_)
    obtain ⟨x7, hx8, h⟩ := letp_some h
    refine a_val' (v := (.int .u64 (IntKind.u64.wrap (BitVec.ofInt IntKind.u64.bits (Int.fdiv x3 (2 ^ (min (33 : Int).toNat IntKind.u64.bits))) &&& BitVec.ofInt IntKind.u64.bits 16777215).toNat))) (v' := (.int .u64 x7)) (u := []) (u' := []) rfl (congrArg (fun z => ((.int .u64 z) : AV)) hx8) rfl trivial rfl (vp (i6 (IntKind.i64.wrap x7)) rfl (vp (i6 (IntKind.i64.wrap x7)) rfl (nx ⟨[(0, (ow 1000000)), (1, (i6 a1)), (5, (i6 (IntKind.i64.wrap x7)))], [(1000000, (bk (eT_Su8_i64_u64_Z (a0.1, a0.2.1, x3))))]⟩ (by kernel_rfl) ?_)))
    obtain ⟨y30, hy31, hk32⟩ := bind_some h
    clear h
    refine a_join (emb := fun (s : (Int × ((List Int) × Int × Int))) => ⟨[(1, (i6 a1)), (5, (i6 s.1))], [(1000000, (bk (eT_Su8_i64_u64_Z s.2)))]⟩) (pre := fun s => s = y30) ?_ ?_
    · rintro ⟨x28, x29⟩ rfl
      have h := hk32
      refine a_st (σ' := ⟨[(1, (i6 a1)), (5, (i6 x28))], [(1000000, (bk (eT_Su8_i64_u64_Z x29)))]⟩) (by kernel_rfl) (sr (vp (i6 x28) rfl (vp (i6 a1) rfl ?_)))
      obtain ⟨hc52, h⟩ := ifp_some h
      refine vq (i6 (Int.tmod x28 a1)) rfl hc52 (vp (i6 (Int.tmod x28 a1)) rfl (nx _ rfl (a_ret ?_)))
      refine ⟨.inr rfl, ?_⟩
      rw [Try.results123]
      cases h
      exact ⟨[], ⟨_, _, _, _, _, rfl, trivial, rfl, .inl ⟨rfl, .inl rfl, ⟨rfl, rfl, rfl⟩⟩⟩, rfl, ⟨_, _, rfl, rfl, rfl⟩⟩
    · have h := hy31
      refine a_seq (a_draw [⟨[], [], [1000000], []⟩, ⟨[1000000], [], [1000000], [0]⟩, ⟨[1000000], [], [1000000], [0, 1]⟩, ⟨[1000000], [], [], [0, 1, 2]⟩, ⟨[], [], [1000000], []⟩, ⟨[1000000], [], [1000000], [4]⟩, ⟨[1000000], [], [1000000], [4, 5]⟩, ⟨[1000000], [], [], [4, 5, 6]⟩, ⟨[], [], [], [4, 5, 6, 7]⟩, ⟨[], [], [], [0, 1, 2, 3, 4, 5, 6, 7, 8]⟩] (by kernel_rfl) (dp (ow 1000000) rfl (by kernel_rfl) (dp (ow 1000000) rfl (by kernel_rfl) (d_cons (vb (.own 1000000 [1] [1]) rfl rfl (d_next (by kernel_rfl) (d_cons ?_)))))))
      have hl35 : LdOk [1] (eT_Su8_i64_u64_Z (a0.1, a0.2.1, x3)) [1] 1 false (i6 a0.2.1) := (.fld rfl rfl rfl rfl (.nil rfl rfl rfl))
      refine vq (i6 a0.2.1) (ld_own (i := ⟨.int .i64, 1, 8, (.int .i64 0)⟩) rfl rfl rfl hl35) hl35.c (d_next (by kernel_rfl) (dp (ow 1000000) rfl (by kernel_rfl) (dp (ow 1000000) rfl (by kernel_rfl) (d_cons (vb (.own 1000000 [0] [0]) rfl rfl (d_next (by kernel_rfl) (d_cons ?_)))))))
      have hl36 : LdOk [0] (eT_Su8_i64_u64_Z (a0.1, a0.2.1, x3)) [0] 1 false (eSu8 a0.1) := (.fld rfl rfl rfl rfl (.nil rfl rfl rfl))
      refine vq (eSu8 a0.1) (ld_own (i := ⟨.slice 5, 1, 24, (eSu8 [])⟩) rfl rfl rfl hl36) hl36.c (d_next (by kernel_rfl) (d_cons (vq (i6 (a0.1.length : Int)) (len_run rfl rfl) trivial (d_next (by kernel_rfl) (dp (.bool ((decide (a0.2.1 < (a0.1.length : Int))))) rfl (by kernel_rfl) (d_nil (a_next (σ' := ⟨[(0, (ow 1000000)), (1, (i6 a1)), (5, (i6 (IntKind.i64.wrap x7))), (33, (.bool ((decide (a0.2.1 < (a0.1.length : Int))))))], [(1000000, (bk (eT_Su8_i64_u64_Z (a0.1, a0.2.1, x3))))]⟩) (by kernel_rfl) ?_)))))))
      cases hb37 : (decide (a0.2.1 < (a0.1.length : Int)))
      · have h := ite_f hb37 h
        refine a_cond_f rfl (a_skip ?_)
        exact j_leaf ((IntKind.i64.wrap x7, (a0.1, a0.2.1, x3))) (Option.some.inj h) (by kernel_rfl)
      · have h := ite_t hb37 h
        refine a_cond_t rfl (a_seq (a_draw [⟨[], [], [], []⟩, ⟨[], [], [1000000], []⟩, ⟨[1000000], [], [1000000], [1]⟩, ⟨[1000000], [], [1000000], [1, 2]⟩, ⟨[1000000], [], [], [1, 2, 3]⟩, ⟨[], [], [1000000], []⟩, ⟨[1000000], [], [1000000], [5]⟩, ⟨[1000000], [], [1000000], [5, 6]⟩, ⟨[1000000], [], [], [5, 6, 7]⟩, ⟨[], [], [], [1, 2, 3, 4, 5, 6, 7, 8]⟩, ⟨[], [], [], [1, 2, 3, 4, 5, 6, 7, 8, 9]⟩, ⟨[], [], [], [1, 2, 3, 4, 5, 6, 7, 8, 9, 10]⟩, ⟨[], [], [], [0, 1, 2, 3, 4, 5, 6, 7, 8, 9, 10, 11]⟩, ⟨[], [], [], [0, 1, 2, 3, 4, 5, 6, 7, 8, 9, 10, 11, 12]⟩] (by kernel_rfl) (dp (i6 (IntKind.i64.wrap x7)) rfl (by kernel_rfl) (dp (ow 1000000) rfl (by kernel_rfl) (dp (ow 1000000) rfl (by kernel_rfl) (d_cons (vb (.own 1000000 [0] [0]) rfl rfl (d_next (by kernel_rfl) (d_cons ?_)))))))))
        have hl44 : LdOk [0] (eT_Su8_i64_u64_Z (a0.1, a0.2.1, x3)) [0] 1 false (eSu8 a0.1) := (.fld rfl rfl rfl rfl (.nil rfl rfl rfl))
        refine vq (eSu8 a0.1) (ld_own (i := ⟨.slice 5, 1, 24, (eSu8 [])⟩) rfl rfl rfl hl44) hl44.c (d_next (by kernel_rfl) (dp (ow 1000000) rfl (by kernel_rfl) (dp (ow 1000000) rfl (by kernel_rfl) (d_cons (vb (.own 1000000 [1] [1]) rfl rfl (d_next (by kernel_rfl) (d_cons ?_)))))))
        have hl45 : LdOk [1] (eT_Su8_i64_u64_Z (a0.1, a0.2.1, x3)) [1] 1 false (i6 a0.2.1) := (.fld rfl rfl rfl rfl (.nil rfl rfl rfl))
        refine vq (i6 a0.2.1) (ld_own (i := ⟨.int .i64, 1, 8, (.int .i64 0)⟩) rfl rfl rfl hl45) hl45.c (d_next (by kernel_rfl) (d_cons ?_))
        obtain ⟨hc46, h⟩ := ifp_some h
        refine vq (.ref (.row 1 (a0.1.map (AV.int .u8))) [a0.2.1.toNat] [a0.2.1.toNat * 1]) rfl (lmap hc46) (d_next (by kernel_rfl) (d_cons ?_))
        have hl47 : LdOk [a0.2.1.toNat] (.row 1 (a0.1.map (AV.int .u8))) [a0.2.1.toNat * 1] 1 false (b8 (rd a0.1 a0.2.1.toNat)) := (.row (llt hc46) rfl (.nil rfl rfl rfl))
        refine vq (b8 (rd a0.1 a0.2.1.toNat)) (ld_ref (i := ⟨.int .u8, 1, 1, (.int .u8 0)⟩) rfl rfl hl47) hl47.c (d_next (by kernel_rfl) (dp (i6 (IntKind.i64.wrap (rd a0.1 a0.2.1.toNat))) rfl (by kernel_rfl) (d_cons ?_)))
        obtain ⟨x48, hx49, h⟩ := letp_some h
        refine a_val' (v := (i6 (IntKind.i64.wrap ((IntKind.i64.wrap x7) + (IntKind.i64.wrap (rd a0.1 a0.2.1.toNat)))))) (v' := (i6 x48)) (u := []) (u' := []) rfl (congrArg (fun z => ((i6 z) : AV)) hx49) rfl trivial rfl (d_next (by kernel_rfl) (dp (i6 x48) rfl (by kernel_rfl) (d_nil (a_next (σ' := ⟨[(0, (ow 1000000)), (1, (i6 a1)), (5, (i6 x48))], [(1000000, (bk (eT_Su8_i64_u64_Z (a0.1, a0.2.1, x3))))]⟩) (by kernel_rfl) (a_region (vp (ow 1000000) rfl (vp (ow 1000000) rfl (vp (ow 1000000) rfl (vb (.own 1000000 [1] [1]) rfl rfl ?_)))))))))
        have hl50 : LdOk [1] (eT_Su8_i64_u64_Z (a0.1, a0.2.1, x3)) [1] 1 false (i6 a0.2.1) := (.fld rfl rfl rfl rfl (.nil rfl rfl rfl))
        refine vq (i6 a0.2.1) (ld_own (i := ⟨.int .i64, 1, 8, (.int .i64 0)⟩) rfl rfl rfl hl50) hl50.c (vp (i6 (IntKind.i64.wrap (a0.2.1 + 1))) rfl (vp (ow 1000000) rfl (vb (.own 1000000 [1] [1]) rfl rfl ?_)))
        have hs51 : StOk [1] (eT_Su8_i64_u64_Z (a0.1, a0.2.1, x3)) [1] 1 (i6 (IntKind.i64.wrap (a0.2.1 + 1))) (eT_Su8_i64_u64_Z ((a0.1, IntKind.i64.wrap (a0.2.1 + 1), x3))) := (.fld rfl rfl rfl rfl (.nil rfl rfl rfl rfl))
        refine vu .top [(1000000, (bk (eT_Su8_i64_u64_Z ((a0.1, IntKind.i64.wrap (a0.2.1 + 1), x3)))))] (st_own (i := ⟨.int .i64, 1, 8, (.int .i64 0)⟩) rfl rfl (fun _ => rfl) rfl hs51) (hs51.c rfl) rfl (a_nil ?_)
        exact j_leaf ((x48, (a0.1, IntKind.i64.wrap (a0.2.1 + 1), x3))) (Option.some.inj h) (by kernel_rfl)
  · have h := ite_t hb1 h
    refine a_cond_t rfl (sr (vp (i6 0) rfl (nx _ rfl (a_ret (t_ret ?_)))))
    refine ⟨.inr rfl, ?_⟩
    rw [Try.results123]
    cases h
    exact ⟨[], ⟨_, _, _, _, _, rfl, trivial, rfl, .inl ⟨rfl, .inl rfl, ⟨rfl, rfl, rfl⟩⟩⟩, rfl, ⟨_, _, rfl, rfl, rfl⟩⟩
def spec_l01Pick_of_src_c : ACode := (.seq (.region 0 [q 4 (.asg 0 (.const (.int .i64 0)) 2)] false) (.seq (.region 1 [q 5 (.mov (t 1)), q 6 (.mov (t 0)), q 7 (.mov (t 1)), q 8 (.blt 0 .len [(t 7)] [59]), q 9 (.call 1 (.func 123) [(t 6), (t 8)]), q 10 (.indexAddr 59 (t 5) (t 9)), q 11 (.load 2 (t 10)), q 4 (.asg 0 (t 11) 2)] false) .ret))
def spec_l01Pick_of_src_L : Live := [(0, [0, 1]), (1, [0, 1])]
noncomputable def spec_l01Pick_of_src (a0 : ((List Int) × Int × Int)) (a1 : (List Int)) : Option (Int × ((List Int) × Int × Int)) :=
  (Option.bind (spec_l01Next_of_src a0 (a1.length : Int)) fun r1 => (ifp (0 ≤ r1.1 ∧ r1.1 < ((a1.length : Nat) : Int)) ((some (((rd a1 r1.1.toNat), r1.2))))))
theorem spec_l01Pick_of_src_ok (a0 : ((List Int) × Int × Int)) (a1 : (List Int)) (r : (Int × ((List Int) × Int × Int))) (h : spec_l01Pick_of_src a0 a1 = some r) : Den Try.prog 122 [(.mutp (eT_Su8_i64_u64_Z a0)), (eSi64 a1)] { r := (i6 r.1), ms := [(eT_Su8_i64_u64_Z r.2)], fs := [] } := by
  refine den_ofX (rs := [(i6 r.1)]) (ac := spec_l01Pick_of_src_c) (L := spec_l01Pick_of_src_L) (n := 12) (m := [(9, 1)]) (c := Try.f122.body.getD .skip) good Try.func122 (by kernel_rfl) (by kernel_rfl) Try.ntmps122 rfl rfl (by kernel_rfl) rfl ?_
  refine a_st (σ' := ⟨[(0, (ow 1000000)), (1, (eSi64 a1))], [(1000000, (bk (eT_Su8_i64_u64_Z a0)))]⟩) (by kernel_rfl) ?_
  unfold spec_l01Pick_of_src_c
  refine sr (vp (i6 0) rfl (nx ⟨[(0, (ow 1000000)), (1, (eSi64 a1))], [(1000000, (bk (eT_Su8_i64_u64_Z a0)))]⟩ (by kernel_rfl) (sr (vp (eSi64 a1) rfl (vp (ow 1000000) rfl (vp (eSi64 a1) rfl (vq (i6 (a1.length : Int)) (len_run rfl rfl) trivial ?_)))))))
  obtain ⟨r1, hr2, h⟩ := bind_some h
  refine a_callM (args := [(.mutp (eT_Su8_i64_u64_Z a0)), (i6 (a1.length : Int))]) (i := 0) (id := 1000000) (r := (i6 r1.1)) (c := (eT_Su8_i64_u64_Z r1.2)) rfl rfl (spec_l01Next_of_src_ok a0 (a1.length : Int) r1 hr2) rfl trivial ?_
  obtain ⟨hc4, h⟩ := ifp_some h
  refine vq (.ref (.row 1 (a1.map (AV.int .i64))) [r1.1.toNat] [r1.1.toNat * 1]) rfl (lmap hc4) ?_
  have hl5 : LdOk [r1.1.toNat] (.row 1 (a1.map (AV.int .i64))) [r1.1.toNat * 1] 1 false (i6 (rd a1 r1.1.toNat)) := (.row (llt hc4) rfl (.nil rfl rfl rfl))
  refine vq (i6 (rd a1 r1.1.toNat)) (ld_ref (i := ⟨.int .i64, 1, 8, (.int .i64 0)⟩) rfl rfl hl5) hl5.c (vp (i6 (rd a1 r1.1.toNat)) rfl (nx _ rfl (a_ret ?_)))
  refine ⟨.inr rfl, ?_⟩
  rw [Try.results122]
  cases h
  exact ⟨[], ⟨_, _, _, _, _, rfl, trivial, rfl, .inl ⟨rfl, .inl rfl, ⟨rfl, rfl, rfl⟩⟩⟩, rfl, ⟨_, _, rfl, rfl, rfl⟩⟩
def spec_l01DrawPrime_of_src_c : ACode := (.seq (.region 0 [q 2 (.asg 0 (.const (.int .i64 0)) 2)] false) (.seq (.region 1 [q 3 (.mov (t 0)), q 4 (.bslice 0 59 6 [(0, (.const (.int .i64 2))), (1, (.const (.int .i64 2))), (2, (.const (.int .i64 3))), (3, (.const (.int .i64 3))), (4, (.const (.int .i64 5))), (5, (.const (.int .i64 7)))]), q 5 (.call 1 (.func 122) [(t 3), (t 4)]), q 2 (.asg 0 (t 5) 2)] false) .ret))
def spec_l01DrawPrime_of_src_L : Live := [(0, [0]), (1, [0])]
noncomputable def spec_l01DrawPrime_of_src (a0 : ((List Int) × Int × Int)) : Option (Int × ((List Int) × Int × Int)) :=
  (Option.bind (spec_l01Pick_of_src a0 ([2, 2, 3, 3, 5, 7])) fun r1 => (some (r1.1, r1.2)))
theorem spec_l01DrawPrime_of_src_ok (a0 : ((List Int) × Int × Int)) (r : (Int × ((List Int) × Int × Int))) (h : spec_l01DrawPrime_of_src a0 = some r) : Den Try.prog 188 [(.mutp (eT_Su8_i64_u64_Z a0))] { r := (i6 r.1), ms := [(eT_Su8_i64_u64_Z r.2)], fs := [] } := by
  refine den_ofX (rs := [(i6 r.1)]) (ac := spec_l01DrawPrime_of_src_c) (L := spec_l01DrawPrime_of_src_L) (n := 6) (m := [(5, 1)]) (c := Try.f188.body.getD .skip) good Try.func188 (by kernel_rfl) (by kernel_rfl) Try.ntmps188 rfl rfl (by kernel_rfl) rfl ?_
  refine a_st (σ' := ⟨[(0, (ow 1000000))], [(1000000, (bk (eT_Su8_i64_u64_Z a0)))]⟩) (by kernel_rfl) ?_
  unfold spec_l01DrawPrime_of_src_c
  refine sr (vp (i6 0) rfl (nx ⟨[(0, (ow 1000000))], [(1000000, (bk (eT_Su8_i64_u64_Z a0)))]⟩ (by kernel_rfl) (sr (vp (ow 1000000) rfl (vq (.sl 1 true (([2, 2, 3, 3, 5, 7]).map (AV.int .i64))) rfl ⟨(Nat.le_of_ble_eq_true rfl), (Nat.le_of_ble_eq_true rfl), (all_cons ⟨(Nat.le_of_ble_eq_true rfl), rfl⟩ (all_cons ⟨(Nat.le_of_ble_eq_true rfl), rfl⟩ (all_cons ⟨(Nat.le_of_ble_eq_true rfl), rfl⟩ (all_cons ⟨(Nat.le_of_ble_eq_true rfl), rfl⟩ (all_cons ⟨(Nat.le_of_ble_eq_true rfl), rfl⟩ (all_cons ⟨(Nat.le_of_ble_eq_true rfl), rfl⟩ all_nil))))))⟩ ?_)))))
  obtain ⟨r1, hr2, h⟩ := bind_some h
  refine a_callM (args := [(.mutp (eT_Su8_i64_u64_Z a0)), (.sl 1 true (([2, 2, 3, 3, 5, 7]).map (AV.int .i64)))]) (i := 0) (id := 1000000) (r := (i6 r1.1)) (c := (eT_Su8_i64_u64_Z r1.2)) rfl rfl (Den.argsM (spec_l01Pick_of_src_ok a0 ([2, 2, 3, 3, 5, 7]) r1 hr2) rfl rfl (.cons (.loose _) .nil)) rfl trivial (vp (i6 r1.1) rfl (nx _ rfl (a_ret ?_)))
  refine ⟨.inr rfl, ?_⟩
  rw [Try.results188]
  cases h
  exact ⟨[], ⟨_, _, _, _, _, rfl, trivial, rfl, .inl ⟨rfl, .inl rfl, ⟨rfl, rfl, rfl⟩⟩⟩, rfl, ⟨_, _, rfl, rfl, rfl⟩⟩
def spec_l01Draw_of_src_c : ACode := (.seq (.region 0 [q 6 (.alloc 25)] false) (.seq (.region 1 [q 9 (.build 25 []), q 7 (.alloc 25), ⟨none, .store 25 (t 7) (t 9), none, []⟩] false) (.seq (.seq (.region 2 [q 10 (.mov (t 0)), q 11 (.mov (t 2)), q 12 (.bin .add 2 (t 11) (.const (.int .i64 2))), q 13 (.call 1 (.func 123) [(t 10), (t 12)]), q 14 (.bin .sub 2 (t 13) (.const (.int .i64 1))), q 8 (.asg 0 (t 14) 2)] false) (.block 0 (.loop (.seq (.seq (.region 3 [q 15 (.mov (t 8)), q 16 (.bin .geq 2 (t 15) (.const (.int .i64 0)))] false) (.cond (t 16) .skip (.exit 0))) (.seq (.block 1 (.seq (.region 5 [q 19 (.mov (t 0)), q 20 (.call 1 (.func 123) [(t 19), (.const (.int .i64 3))]), q 21 (.bin .gtr 2 (t 20) (.const (.int .i64 0)))] false) (.cond (t 21) (.region 6 [q 22 (.mov (t 8)), q 23 (.mov (t 0)), q 24 (.mov (t 1)), q 25 (.call 1 (.func 123) [(t 23), (t 24)]), q 26 (.conv 2 5 (t 25)), q 27 (.indexAddr 25 (t 7) (t 22)), ⟨none, .store 5 (t 27) (t 26), none, []⟩] false) .skip))) (.region 4 [q 17 (.mov (t 8)), q 18 (.bin .sub 2 (t 17) (.const (.int .i64 1))), q 8 (.asg 0 (t 18) 2)] false)))))) (.seq (.region 7 [q 28 (.load 25 (t 7)), ⟨none, .store 25 (t 6) (t 28), none, []⟩] false) .ret))))
def spec_l01Draw_of_src_L : Live := [(0, [0, 1, 2]), (1, [0, 1, 2, 6]), (2, [0, 1, 2, 6, 7]), (3, [0, 1, 6, 7, 8]), (4, [0, 1, 6, 7, 8]), (5, [0, 1, 6, 7, 8]), (6, [0, 1, 6, 7, 8]), (7, [6, 7]), (100016, [0, 1, 6, 7, 8, 16]), (100021, [0, 1, 6, 7, 8, 21])]
noncomputable def spec_l01Draw_of_src_l1 (a1 : Int) (x116 : Int) (x117 : (Vec Int 64)) (x118 : ((List Int) × Int × Int)) : Option ((Int × (Vec Int 64) × ((List Int) × Int × Int)) ⊕ ((Vec Int 64) × ((List Int) × Int × Int))) :=
  (if (decide (x116 ≥ 0)) then (Option.bind (α := ((Vec Int 64) × ((List Int) × Int × Int))) ((Option.bind (spec_l01Next_of_src x118 3) fun r161 => (if (decide (r161.1 > 0)) then (Option.bind (spec_l01Next_of_src r161.2 a1) fun r165 => (ifp (0 ≤ x116 ∧ x116 < ((64 : Nat) : Int)) ((some (((vset x117 x116.toNat (IntKind.u8.wrap r165.1)), r165.2)))))) else (some (x117, r161.2))))) fun ⟨x156, x157⟩ => (some (.inl ((IntKind.i64.wrap (x116 - 1), x156, x157))))) else (some (.inr (x117, x118))))
noncomputable def spec_l01Draw_of_src (a0 : ((List Int) × Int × Int)) (a1 : Int) (a2 : Int) : Option ((Vec Int 64) × ((List Int) × Int × Int)) :=
  (Option.bind (α := ((Vec Int 64) × ((List Int) × Int × Int))) ((Option.bind (spec_l01Next_of_src a0 (IntKind.i64.wrap (a2 + 2))) fun r89 => (loopM (fun s : (Int × (Vec Int 64) × ((List Int) × Int × Int)) => spec_l01Draw_of_src_l1 a1 s.1 s.2.1 s.2.2) (IntKind.i64.wrap (r89.1 - 1), (vrep 64 (0 : Int)), r89.2)))) fun ⟨x84, x85⟩ => (some (x84, x85)))
theorem spec_l01Draw_of_src_ok (a0 : ((List Int) × Int × Int)) (a1 : Int) (a2 : Int) (r : ((Vec Int 64) × ((List Int) × Int × Int))) (h : spec_l01Draw_of_src a0 a1 a2 = some r) : Den Try.prog 155 [(.mutp (eT_Su8_i64_u64_Z a0)), (i6 a1), (i6 a2)] { r := (eA64u8 r.1), ms := [(eT_Su8_i64_u64_Z r.2)], fs := [] } := by
  refine den_ofX (rs := [(eA64u8 r.1)]) (ac := spec_l01Draw_of_src_c) (L := spec_l01Draw_of_src_L) (n := 29) (m := [(13, 1), (20, 1), (25, 1)]) (c := Try.f155.body.getD .skip) good Try.func155 (by kernel_rfl) (by kernel_rfl) Try.ntmps155 rfl rfl (by kernel_rfl) rfl ?_
  refine a_st (σ' := ⟨[(0, (ow 1000000)), (1, (i6 a1)), (2, (i6 a2))], [(1000000, (bk (eT_Su8_i64_u64_Z a0)))]⟩) (by kernel_rfl) ?_
  unfold spec_l01Draw_of_src_c
  refine sr (vo 1600 (eA64u8 ((vrep 64 (0 : Int)))) rfl rfl (nx ⟨[(0, (ow 1000000)), (1, (i6 a1)), (2, (i6 a2)), (6, (ow 6))], [(6, (bk (eA64u8 ((vrep 64 (0 : Int)))))), (1000000, (bk (eT_Su8_i64_u64_Z a0)))]⟩ (by kernel_rfl) (sr (vq (eA64u8 ((vrep 64 (0 : Int)))) rfl ⟨⟨_, rfl, rfl⟩, all_nil⟩ (vo 1700 (eA64u8 ((vrep 64 (0 : Int)))) rfl rfl (vs (eA64u8 ((vrep 64 (0 : Int)))) rfl rfl (fun _ => rfl) rfl rfl rfl rfl rfl rfl (nx ⟨[(0, (ow 1000000)), (1, (i6 a1)), (2, (i6 a2)), (6, (ow 6)), (7, (ow 7))], [(6, (bk (eA64u8 ((vrep 64 (0 : Int)))))), (7, (bk (eA64u8 ((vrep 64 (0 : Int)))))), (1000000, (bk (eT_Su8_i64_u64_Z a0)))]⟩ (by kernel_rfl) ?_)))))))
  obtain ⟨y86, hy87, hk88⟩ := bind_some h
  clear h
  refine a_join (emb := fun (s : ((Vec Int 64) × ((List Int) × Int × Int))) => ⟨[(6, (ow 6)), (7, (ow 7))], [(6, (bk (eA64u8 ((vrep 64 (0 : Int)))))), (7, (bk (eA64u8 s.1))), (1000000, (bk (eT_Su8_i64_u64_Z s.2)))]⟩) (pre := fun s => s = y86) ?_ ?_
  · rintro ⟨x84, x85⟩ rfl
    have h := hk88
    refine a_st (σ' := ⟨[(6, (ow 6)), (7, (ow 7))], [(6, (bk (eA64u8 ((vrep 64 (0 : Int)))))), (7, (bk (eA64u8 x84))), (1000000, (bk (eT_Su8_i64_u64_Z x85)))]⟩) (by kernel_rfl) (sr (vl (eA64u8 x84) rfl rfl rfl rfl rfl rfl (vs (eA64u8 x84) rfl rfl (fun _ => rfl) rfl rfl rfl rfl rfl rfl (nx _ rfl (a_ret ?_)))))
    have hl173 : LdOk [] (eA64u8 x84) [] 64 true (eA64u8 x84) := (.nil rfl rfl rfl)
    refine ⟨.inr rfl, ?_⟩
    rw [Try.results155]
    cases h
    exact ⟨[], ⟨_, _, _, _, _, ld_own (i := ⟨.arr 64 5, 64, 64, (eA64u8 (vrep 64 (0 : Int)))⟩) rfl rfl rfl hl173, hl173.c, rfl, .inl ⟨rfl, .inl rfl, ⟨rfl, rfl, rfl⟩⟩⟩, rfl, ⟨_, _, rfl, rfl, rfl⟩⟩
  · have h := hy87
    refine sr (vp (ow 1000000) rfl (vp (i6 a2) rfl (vp (i6 (IntKind.i64.wrap (a2 + 2))) rfl ?_)))
    obtain ⟨r89, hr90, h⟩ := bind_some h
    refine a_callM (args := [(.mutp (eT_Su8_i64_u64_Z a0)), (i6 (IntKind.i64.wrap (a2 + 2)))]) (i := 0) (id := 1000000) (r := (i6 r89.1)) (c := (eT_Su8_i64_u64_Z r89.2)) rfl rfl (spec_l01Next_of_src_ok a0 (IntKind.i64.wrap (a2 + 2)) r89 hr90) rfl trivial (vp (i6 (IntKind.i64.wrap (r89.1 - 1))) rfl (vp (i6 (IntKind.i64.wrap (r89.1 - 1))) rfl (nx ⟨[(0, (ow 1000000)), (1, (i6 a1)), (6, (ow 6)), (7, (ow 7)), (8, (i6 (IntKind.i64.wrap (r89.1 - 1))))], [(6, (bk (eA64u8 ((vrep 64 (0 : Int)))))), (7, (bk (eA64u8 ((vrep 64 (0 : Int)))))), (1000000, (bk (eT_Su8_i64_u64_Z r89.2)))]⟩ (by kernel_rfl) (a_block ?_))))
    refine a_loop (emb := fun (s : (Int × (Vec Int 64) × ((List Int) × Int × Int))) => ⟨[(0, (ow 1000000)), (1, (i6 a1)), (6, (ow 6)), (7, (ow 7)), (8, (i6 s.1))], [(6, (bk (eA64u8 ((vrep 64 (0 : Int)))))), (7, (bk (eA64u8 s.2.1))), (1000000, (bk (eT_Su8_i64_u64_Z s.2.2)))]⟩) (body := (fun s : (Int × (Vec Int 64) × ((List Int) × Int × Int)) => spec_l01Draw_of_src_l1 a1 s.1 s.2.1 s.2.2)) (G := fun q => some q = some y86) h rfl ?_ (by kernel_rfl)
    rintro X143 ⟨x116, x117, x118⟩ x144 h hX145
    have h : spec_l01Draw_of_src_l1 a1 x116 x117 x118 = some x144 := h
    refine a_st (σ' := ⟨[(0, (ow 1000000)), (1, (i6 a1)), (6, (ow 6)), (7, (ow 7)), (8, (i6 x116))], [(6, (bk (eA64u8 ((vrep 64 (0 : Int)))))), (7, (bk (eA64u8 x117))), (1000000, (bk (eT_Su8_i64_u64_Z x118)))]⟩) (by kernel_rfl) (a_seq (sr (vp (i6 x116) rfl (vp (.bool ((decide (x116 ≥ 0)))) rfl (nx ⟨[(0, (ow 1000000)), (1, (i6 a1)), (6, (ow 6)), (7, (ow 7)), (8, (i6 x116)), (16, (.bool ((decide (x116 ≥ 0)))))], [(6, (bk (eA64u8 ((vrep 64 (0 : Int)))))), (7, (bk (eA64u8 x117))), (1000000, (bk (eT_Su8_i64_u64_Z x118)))]⟩ (by kernel_rfl) ?_)))))
    cases hb146 : (decide (x116 ≥ 0))
    · have h := ite_f hb146 h
      refine a_cond_f rfl (a_exit (t_exit ?_))
      cases h
      have h := hX145
      refine t_exit (b_exit ?_)
      exact j_leaf (x117, x118) (Option.some.inj h) (by kernel_rfl)
    · have h := ite_t hb146 h
      refine a_cond_t rfl (a_skip (a_next (σ' := ⟨[(0, (ow 1000000)), (1, (i6 a1)), (6, (ow 6)), (7, (ow 7)), (8, (i6 x116))], [(6, (bk (eA64u8 ((vrep 64 (0 : Int)))))), (7, (bk (eA64u8 x117))), (1000000, (bk (eT_Su8_i64_u64_Z x118)))]⟩) (by kernel_rfl) ?_))
      obtain ⟨y158, hy159, hk160⟩ := bind_some h
      clear h
      refine a_join (emb := fun (s : ((Vec Int 64) × ((List Int) × Int × Int))) => ⟨[(0, (ow 1000000)), (1, (i6 a1)), (6, (ow 6)), (7, (ow 7)), (8, (i6 x116))], [(6, (bk (eA64u8 ((vrep 64 (0 : Int)))))), (7, (bk (eA64u8 s.1))), (1000000, (bk (eT_Su8_i64_u64_Z s.2)))]⟩) (pre := fun s => s = y158) ?_ ?_
      · rintro ⟨x156, x157⟩ rfl
        have h := hk160
        refine a_st (σ' := ⟨[(0, (ow 1000000)), (1, (i6 a1)), (6, (ow 6)), (7, (ow 7)), (8, (i6 x116))], [(6, (bk (eA64u8 ((vrep 64 (0 : Int)))))), (7, (bk (eA64u8 x156))), (1000000, (bk (eT_Su8_i64_u64_Z x157)))]⟩) (by kernel_rfl) (a_region (vp (i6 x116) rfl (vp (i6 (IntKind.i64.wrap (x116 - 1))) rfl (vp (i6 (IntKind.i64.wrap (x116 - 1))) rfl (a_nil ?_)))))
        cases h
        exact a_again (by kernel_rfl) hX145
      · have h := hy159
        refine a_block (sr (vp (ow 1000000) rfl ?_))
        obtain ⟨r161, hr162, h⟩ := bind_some h
        refine a_callM (args := [(.mutp (eT_Su8_i64_u64_Z x118)), (i6 3)]) (i := 0) (id := 1000000) (r := (i6 r161.1)) (c := (eT_Su8_i64_u64_Z r161.2)) rfl rfl (spec_l01Next_of_src_ok x118 3 r161 hr162) rfl trivial (vp (.bool ((decide (r161.1 > 0)))) rfl (nx ⟨[(0, (ow 1000000)), (1, (i6 a1)), (6, (ow 6)), (7, (ow 7)), (8, (i6 x116)), (21, (.bool ((decide (r161.1 > 0)))))], [(6, (bk (eA64u8 ((vrep 64 (0 : Int)))))), (7, (bk (eA64u8 x117))), (1000000, (bk (eT_Su8_i64_u64_Z r161.2)))]⟩ (by kernel_rfl) ?_))
        cases hb164 : (decide (r161.1 > 0))
        · have h := ite_f hb164 h
          refine a_cond_f rfl (a_skip (b_norm ?_))
          exact j_leaf (x117, r161.2) (Option.some.inj h) (by kernel_rfl)
        · have h := ite_t hb164 h
          refine a_cond_t rfl (a_region (vp (i6 x116) rfl (vp (ow 1000000) rfl (vp (i6 a1) rfl ?_))))
          obtain ⟨r165, hr166, h⟩ := bind_some h
          refine a_callM (args := [(.mutp (eT_Su8_i64_u64_Z r161.2)), (i6 a1)]) (i := 0) (id := 1000000) (r := (i6 r165.1)) (c := (eT_Su8_i64_u64_Z r165.2)) rfl rfl (spec_l01Next_of_src_ok r161.2 a1 r165 hr166) rfl trivial (vp (b8 (IntKind.u8.wrap r165.1)) rfl ?_)
          obtain ⟨hc168, h⟩ := ifp_some h
          refine vq (.own 7 [x116.toNat] [x116.toNat * 1]) rfl hc168 ?_
          have hs169 : StOk [x116.toNat] (eA64u8 x117) [x116.toNat * 1] 1 (b8 (IntKind.u8.wrap r165.1)) (eA64u8 ((vset x117 x116.toNat (IntKind.u8.wrap r165.1)))) := (.arr (y := IntKind.u8.wrap r165.1) (vlt x117 hc168) rfl (.nil rfl rfl rfl rfl))
          refine vu .top [(7, (bk (eA64u8 ((vset x117 x116.toNat (IntKind.u8.wrap r165.1))))))] (st_own (i := ⟨.int .u8, 1, 1, (.int .u8 0)⟩) rfl rfl (fun _ => rfl) rfl hs169) (hs169.c rfl) rfl (a_nil (b_norm ?_))
          exact j_leaf (((vset x117 x116.toNat (IntKind.u8.wrap r165.1)), r165.2)) (Option.some.inj h) (by kernel_rfl)
def spec_l01Bad_of_src_c : ACode := (.seq (.region 0 [q 5 (.box 25 (t 2)), q 6 (.alloc 25)] false) (.seq (.seq (.region 1 [q 7 (.mov (t 0)), q 8 (.call 1 (.func 123) [(t 7), (.const (.int .i64 40))]), q 9 (.bin .eql 2 (t 8) (.const (.int .i64 0)))] false) (.cond (t 9) (.region 2 [q 10 (.mov (t 0)), q 11 (.call 1 (.func 123) [(t 10), (.const (.int .i64 64))]), q 12 (.mov (t 0)), q 13 (.mov (t 1)), q 14 (.bslice 0 59 4 [(0, (t 13)), (1, (.const (.int .i64 7))), (2, (.const (.int .i64 255))), (3, (.const (.int .i64 1)))]), q 15 (.call 1 (.func 122) [(t 12), (t 14)]), q 16 (.conv 2 5 (t 15)), q 17 (.indexAddr 25 (t 5) (t 11)), ⟨none, .store 5 (t 17) (t 16), none, []⟩] false) .skip)) (.seq (.region 3 [q 18 (.load 25 (t 5)), ⟨none, .store 25 (t 6) (t 18), none, []⟩] false) .ret)))
def spec_l01Bad_of_src_L : Live := [(0, [0, 1, 2]), (1, [0, 1, 5, 6]), (2, [0, 1, 5, 6]), (3, [5, 6]), (100009, [0, 1, 5, 6, 9])]
noncomputable def spec_l01Bad_of_src (a0 : ((List Int) × Int × Int)) (a1 : Int) (a2 : (Vec Int 64)) : Option ((Vec Int 64) × ((List Int) × Int × Int)) :=
  (Option.bind (α := ((Vec Int 64) × ((List Int) × Int × Int))) ((Option.bind (spec_l01Next_of_src a0 40) fun r18 => (if (r18.1 == 0) then (Option.bind (spec_l01Next_of_src r18.2 64) fun r22 => (Option.bind (spec_l01Pick_of_src r22.2 ([a1, 7, 255, 1])) fun r25 => (ifp (0 ≤ r22.1 ∧ r22.1 < ((64 : Nat) : Int)) ((some (((vset a2 r22.1.toNat (IntKind.u8.wrap r25.1)), r25.2))))))) else (some (a2, r18.2))))) fun ⟨x13, x14⟩ => (some (x13, x14)))
theorem spec_l01Bad_of_src_ok (a0 : ((List Int) × Int × Int)) (a1 : Int) (a2 : (Vec Int 64)) (r : ((Vec Int 64) × ((List Int) × Int × Int))) (h : spec_l01Bad_of_src a0 a1 a2 = some r) : Den Try.prog 177 [(.mutp (eT_Su8_i64_u64_Z a0)), (i6 a1), (eA64u8 a2)] { r := (eA64u8 r.1), ms := [(eT_Su8_i64_u64_Z r.2)], fs := [] } := by
  refine den_ofX (rs := [(eA64u8 r.1)]) (ac := spec_l01Bad_of_src_c) (L := spec_l01Bad_of_src_L) (n := 19) (m := [(8, 1), (11, 1), (15, 1)]) (c := Try.f177.body.getD .skip) good Try.func177 (by kernel_rfl) (by kernel_rfl) Try.ntmps177 rfl rfl (by kernel_rfl) rfl ?_
  refine a_st (σ' := ⟨[(0, (ow 1000000)), (1, (i6 a1)), (2, (eA64u8 a2))], [(1000000, (bk (eT_Su8_i64_u64_Z a0)))]⟩) (by kernel_rfl) ?_
  unfold spec_l01Bad_of_src_c
  refine sr (vo 1500 (eA64u8 a2) rfl rfl (vo 1600 (eA64u8 ((vrep 64 (0 : Int)))) rfl rfl (nx ⟨[(0, (ow 1000000)), (1, (i6 a1)), (5, (ow 5)), (6, (ow 6))], [(5, (bk (eA64u8 a2))), (6, (bk (eA64u8 ((vrep 64 (0 : Int)))))), (1000000, (bk (eT_Su8_i64_u64_Z a0)))]⟩ (by kernel_rfl) ?_)))
  obtain ⟨y15, hy16, hk17⟩ := bind_some h
  clear h
  refine a_join (emb := fun (s : ((Vec Int 64) × ((List Int) × Int × Int))) => ⟨[(5, (ow 5)), (6, (ow 6))], [(5, (bk (eA64u8 s.1))), (6, (bk (eA64u8 ((vrep 64 (0 : Int)))))), (1000000, (bk (eT_Su8_i64_u64_Z s.2)))]⟩) (pre := fun s => s = y15) ?_ ?_
  · rintro ⟨x13, x14⟩ rfl
    have h := hk17
    refine a_st (σ' := ⟨[(5, (ow 5)), (6, (ow 6))], [(5, (bk (eA64u8 x13))), (6, (bk (eA64u8 ((vrep 64 (0 : Int)))))), (1000000, (bk (eT_Su8_i64_u64_Z x14)))]⟩) (by kernel_rfl) (sr (vl (eA64u8 x13) rfl rfl rfl rfl rfl rfl (vs (eA64u8 x13) rfl rfl (fun _ => rfl) rfl rfl rfl rfl rfl rfl (nx _ rfl (a_ret ?_)))))
    have hl32 : LdOk [] (eA64u8 x13) [] 64 true (eA64u8 x13) := (.nil rfl rfl rfl)
    refine ⟨.inr rfl, ?_⟩
    rw [Try.results177]
    cases h
    exact ⟨[], ⟨_, _, _, _, _, ld_own (i := ⟨.arr 64 5, 64, 64, (eA64u8 (vrep 64 (0 : Int)))⟩) rfl rfl rfl hl32, hl32.c, rfl, .inl ⟨rfl, .inl rfl, ⟨rfl, rfl, rfl⟩⟩⟩, rfl, ⟨_, _, rfl, rfl, rfl⟩⟩
  · have h := hy16
    refine sr (vp (ow 1000000) rfl ?_)
    obtain ⟨r18, hr19, h⟩ := bind_some h
    refine a_callM (args := [(.mutp (eT_Su8_i64_u64_Z a0)), (i6 40)]) (i := 0) (id := 1000000) (r := (i6 r18.1)) (c := (eT_Su8_i64_u64_Z r18.2)) rfl rfl (spec_l01Next_of_src_ok a0 40 r18 hr19) rfl trivial (vp (.bool (r18.1 == 0)) rfl (nx ⟨[(0, (ow 1000000)), (1, (i6 a1)), (5, (ow 5)), (6, (ow 6)), (9, (.bool (r18.1 == 0)))], [(5, (bk (eA64u8 a2))), (6, (bk (eA64u8 ((vrep 64 (0 : Int)))))), (1000000, (bk (eT_Su8_i64_u64_Z r18.2)))]⟩ (by kernel_rfl) ?_))
    cases hb21 : (r18.1 == 0)
    · have h := ite_f hb21 h
      refine a_cond_f rfl (a_skip ?_)
      exact j_leaf (a2, r18.2) (Option.some.inj h) (by kernel_rfl)
    · have h := ite_t hb21 h
      refine a_cond_t rfl (a_region (vp (ow 1000000) rfl ?_))
      obtain ⟨r22, hr23, h⟩ := bind_some h
      refine a_callM (args := [(.mutp (eT_Su8_i64_u64_Z r18.2)), (i6 64)]) (i := 0) (id := 1000000) (r := (i6 r22.1)) (c := (eT_Su8_i64_u64_Z r22.2)) rfl rfl (spec_l01Next_of_src_ok r18.2 64 r22 hr23) rfl trivial (vp (ow 1000000) rfl (vp (i6 a1) rfl (vq (.sl 1 true (([a1, 7, 255, 1]).map (AV.int .i64))) rfl ⟨(Nat.le_of_ble_eq_true rfl), (Nat.le_of_ble_eq_true rfl), (all_cons ⟨(Nat.le_of_ble_eq_true rfl), rfl⟩ (all_cons ⟨(Nat.le_of_ble_eq_true rfl), rfl⟩ (all_cons ⟨(Nat.le_of_ble_eq_true rfl), rfl⟩ (all_cons ⟨(Nat.le_of_ble_eq_true rfl), rfl⟩ all_nil))))⟩ ?_)))
      obtain ⟨r25, hr26, h⟩ := bind_some h
      refine a_callM (args := [(.mutp (eT_Su8_i64_u64_Z r22.2)), (.sl 1 true (([a1, 7, 255, 1]).map (AV.int .i64)))]) (i := 0) (id := 1000000) (r := (i6 r25.1)) (c := (eT_Su8_i64_u64_Z r25.2)) rfl rfl (Den.argsM (spec_l01Pick_of_src_ok r22.2 ([a1, 7, 255, 1]) r25 hr26) rfl rfl (.cons (.loose _) .nil)) rfl trivial (vp (b8 (IntKind.u8.wrap r25.1)) rfl ?_)
      obtain ⟨hc28, h⟩ := ifp_some h
      refine vq (.own 5 [r22.1.toNat] [r22.1.toNat * 1]) rfl hc28 ?_
      have hs29 : StOk [r22.1.toNat] (eA64u8 a2) [r22.1.toNat * 1] 1 (b8 (IntKind.u8.wrap r25.1)) (eA64u8 ((vset a2 r22.1.toNat (IntKind.u8.wrap r25.1)))) := (.arr (y := IntKind.u8.wrap r25.1) (vlt a2 hc28) rfl (.nil rfl rfl rfl rfl))
      refine vu .top [(5, (bk (eA64u8 ((vset a2 r22.1.toNat (IntKind.u8.wrap r25.1))))))] (st_own (i := ⟨.int .u8, 1, 1, (.int .u8 0)⟩) rfl rfl (fun _ => rfl) rfl hs29) (hs29.c rfl) rfl (a_nil ?_)
      exact j_leaf (((vset a2 r22.1.toNat (IntKind.u8.wrap r25.1)), r25.2)) (Option.some.inj h) (by kernel_rfl)
def spec_l10Draw_of_src_c : ACode := (.seq (.region 0 [q 4 (.asg 0 (.const (.int .i64 0)) 2), q 5 (.alloc 25), q 6 (.alloc 25)] false) (.seq (.region 1 [q 10 (.mov (t 0)), q 11 (.call 1 (.func 188) [(t 10)]), q 7 (.asg 0 (t 11) 2)] false) (.seq (.region 2 [q 12 (.mov (t 0)), q 13 (.mov (t 7)), q 14 (.mov (t 1)), q 15 (.call 1 (.func 155) [(t 12), (t 13), (t 14)]), q 16 (.mov (t 0)), q 17 (.mov (t 7)), q 18 (.mov (t 1)), q 19 (.call 1 (.func 155) [(t 16), (t 17), (t 18)]), q 8 (.alloc 25), q 9 (.alloc 25), ⟨none, .store 25 (t 8) (t 15), none, []⟩, ⟨none, .store 25 (t 9) (t 19), none, []⟩] false) (.seq (.seq (.region 3 [q 20 (.load 25 (t 9)), q 21 (.build 25 []), q 22 (.bin .eql 25 (t 20) (t 21)), q 23 (.mov (t 22)), ⟨some 24, .mov (t 0), some (23, true), []⟩, ⟨some 25, .call 1 (.func 123) [(t 24), (.const (.int .i64 4))], some (23, true), []⟩, ⟨some 26, .bin .gtr 2 (t 25) (.const (.int .i64 0)), some (23, true), []⟩, q 27 (.pick (t 23) (t 26) (.const (.bool false)))] false) (.cond (t 27) (.region 4 [q 28 (.build 25 [(0, (.const (.int .u8 1)))]), ⟨none, .store 25 (t 9) (t 28), none, []⟩] false) .skip)) (.seq (.seq (.region 5 [q 29 (.mov (t 0)), q 30 (.call 1 (.func 123) [(t 29), (.const (.int .i64 40))]), q 31 (.bin .eql 2 (t 30) (.const (.int .i64 0)))] false) (.cond (t 31) (.region 6 [q 32 (.mov (t 0)), q 33 (.bslice 0 59 3 [(0, (.const (.int .i64 0))), (1, (.const (.int .i64 4))), (2, (.const (.int .i64 11)))]), q 34 (.call 1 (.func 122) [(t 32), (t 33)]), q 7 (.asg 0 (t 34) 2)] false) .skip)) (.seq (.region 7 [q 35 (.mov (t 7)), q 36 (.mov (t 0)), q 37 (.load 25 (t 8)), ⟨some 38, .call 1 (.func 177) [(t 36), (.const (.int .i64 3)), (t 37)], none, [1, 2]⟩, q 39 (.load 25 (t 9)), ⟨some 4, .asg 0 (t 35) 2, none, [0, 3, 0]⟩, ⟨none, .store 25 (t 5) (t 38), none, [3, 5, 0, 1, 2, 3, 5]⟩, ⟨none, .store 25 (t 6) (t 39), none, [4, 6, 0, 1, 2, 3, 4, 5, 6]⟩] true) .ret))))))
def spec_l10Draw_of_src_L : Live := [(0, [0, 1]), (1, [0, 1, 5, 6]), (2, [0, 1, 5, 6, 7]), (3, [0, 5, 6, 7, 8, 9]), (4, [0, 5, 6, 7, 8, 9]), (5, [0, 5, 6, 7, 8, 9]), (6, [0, 5, 6, 8, 9]), (7, [0, 5, 6, 7, 8, 9]), (100027, [0, 5, 6, 7, 8, 9, 27]), (100031, [0, 5, 6, 7, 8, 9, 31])]
noncomputable def spec_l10Draw_of_src (a0 : ((List Int) × Int × Int)) (a1 : Int) : Option (Int × (Vec Int 64) × (Vec Int 64) × ((List Int) × Int × Int)) :=
  (Option.bind (spec_l01DrawPrime_of_src a0) fun r1 => (Option.bind (spec_l01Draw_of_src r1.2 r1.1 a1) fun r4 => (Option.bind (spec_l01Draw_of_src r4.2 r1.1 a1) fun r7 => (Option.bind (α := ((Vec Int 64) × ((List Int) × Int × Int))) ((Option.bind (α := (Bool × ((List Int) × Int × Int))) ((if (decide (r7.1 = ((vrep 64 (0 : Int))))) then (Option.bind (spec_l01Next_of_src r7.2 4) fun r46 => (some (((decide (r46.1 > 0)), r46.2)))) else (some (false, r7.2)))) fun ⟨x39, x40⟩ => (if x39 then (some (((vset (vrep 64 (0 : Int)) 0 1), x40))) else (some (r7.1, x40))))) fun ⟨x29, x30⟩ => (Option.bind (α := (Int × ((List Int) × Int × Int))) ((Option.bind (spec_l01Next_of_src x30 40) fun r63 => (if (r63.1 == 0) then (Option.bind (spec_l01Pick_of_src r63.2 ([0, 4, 11])) fun r67 => (some (r67.1, r67.2))) else (some (r1.1, r63.2))))) fun ⟨x58, x59⟩ => (Option.bind (spec_l01Bad_of_src x59 3 r4.1) fun r78 => (some (x58, r78.1, x29, r78.2))))))))
theorem spec_l10Draw_of_src_ok (a0 : ((List Int) × Int × Int)) (a1 : Int) (r : (Int × (Vec Int 64) × (Vec Int 64) × ((List Int) × Int × Int))) (h : spec_l10Draw_of_src a0 a1 = some r) : Den Try.prog 150 [(.mutp (eT_Su8_i64_u64_Z a0)), (i6 a1)] { r := (.tuple [(i6 r.1), (eA64u8 r.2.1), (eA64u8 r.2.2.1)]), ms := [(eT_Su8_i64_u64_Z r.2.2.2)], fs := [] } := by
  refine den_ofX (rs := [(i6 r.1), (eA64u8 r.2.1), (eA64u8 r.2.2.1)]) (ac := spec_l10Draw_of_src_c) (L := spec_l10Draw_of_src_L) (n := 40) (m := [(11, 1), (15, 1), (19, 1), (25, 1), (30, 1), (34, 1), (38, 1)]) (c := Try.f150.body.getD .skip) good Try.func150 (by kernel_rfl) (by kernel_rfl) Try.ntmps150 rfl rfl (by kernel_rfl) rfl ?_
  refine a_st (σ' := ⟨[(0, (ow 1000000)), (1, (i6 a1))], [(1000000, (bk (eT_Su8_i64_u64_Z a0)))]⟩) (by kernel_rfl) ?_
  unfold spec_l10Draw_of_src_c
  refine sr (vp (i6 0) rfl (vo 1500 (eA64u8 ((vrep 64 (0 : Int)))) rfl rfl (vo 1600 (eA64u8 ((vrep 64 (0 : Int)))) rfl rfl (nx ⟨[(0, (ow 1000000)), (1, (i6 a1)), (5, (ow 5)), (6, (ow 6))], [(5, (bk (eA64u8 ((vrep 64 (0 : Int)))))), (6, (bk (eA64u8 ((vrep 64 (0 : Int)))))), (1000000, (bk (eT_Su8_i64_u64_Z a0)))]⟩ (by kernel_rfl) (sr (vp (ow 1000000) rfl ?_))))))
  obtain ⟨r1, hr2, h⟩ := bind_some h
  refine a_callM (args := [(.mutp (eT_Su8_i64_u64_Z a0))]) (i := 0) (id := 1000000) (r := (i6 r1.1)) (c := (eT_Su8_i64_u64_Z r1.2)) rfl rfl (spec_l01DrawPrime_of_src_ok a0 r1 hr2) rfl trivial (vp (i6 r1.1) rfl (nx ⟨[(0, (ow 1000000)), (1, (i6 a1)), (5, (ow 5)), (6, (ow 6)), (7, (i6 r1.1))], [(5, (bk (eA64u8 ((vrep 64 (0 : Int)))))), (6, (bk (eA64u8 ((vrep 64 (0 : Int)))))), (1000000, (bk (eT_Su8_i64_u64_Z r1.2)))]⟩ (by kernel_rfl) (sr (vp (ow 1000000) rfl (vp (i6 r1.1) rfl (vp (i6 a1) rfl ?_))))))
  obtain ⟨r4, hr5, h⟩ := bind_some h
  refine a_callM (args := [(.mutp (eT_Su8_i64_u64_Z r1.2)), (i6 r1.1), (i6 a1)]) (i := 0) (id := 1000000) (r := (eA64u8 r4.1)) (c := (eT_Su8_i64_u64_Z r4.2)) rfl rfl (spec_l01Draw_of_src_ok r1.2 r1.1 a1 r4 hr5) rfl trivial (vp (ow 1000000) rfl (vp (i6 r1.1) rfl (vp (i6 a1) rfl ?_)))
  obtain ⟨r7, hr8, h⟩ := bind_some h
  refine a_callM (args := [(.mutp (eT_Su8_i64_u64_Z r4.2)), (i6 r1.1), (i6 a1)]) (i := 0) (id := 1000000) (r := (eA64u8 r7.1)) (c := (eT_Su8_i64_u64_Z r7.2)) rfl rfl (spec_l01Draw_of_src_ok r4.2 r1.1 a1 r7 hr8) rfl trivial (vo 1800 (eA64u8 ((vrep 64 (0 : Int)))) rfl rfl (vo 1900 (eA64u8 ((vrep 64 (0 : Int)))) rfl rfl (vs (eA64u8 r4.1) rfl rfl (fun _ => rfl) rfl rfl rfl rfl rfl rfl (vs (eA64u8 r7.1) rfl rfl (fun _ => rfl) rfl rfl rfl rfl rfl rfl (nx ⟨[(0, (ow 1000000)), (5, (ow 5)), (6, (ow 6)), (7, (i6 r1.1)), (8, (ow 8)), (9, (ow 9))], [(5, (bk (eA64u8 ((vrep 64 (0 : Int)))))), (6, (bk (eA64u8 ((vrep 64 (0 : Int)))))), (8, (bk (eA64u8 r4.1))), (9, (bk (eA64u8 r7.1))), (1000000, (bk (eT_Su8_i64_u64_Z r7.2)))]⟩ (by kernel_rfl) ?_)))))
  obtain ⟨y31, hy32, hk33⟩ := bind_some h
  clear h
  refine a_join (emb := fun (s : ((Vec Int 64) × ((List Int) × Int × Int))) => ⟨[(0, (ow 1000000)), (5, (ow 5)), (6, (ow 6)), (7, (i6 r1.1)), (8, (ow 8)), (9, (ow 9))], [(5, (bk (eA64u8 ((vrep 64 (0 : Int)))))), (6, (bk (eA64u8 ((vrep 64 (0 : Int)))))), (8, (bk (eA64u8 r4.1))), (9, (bk (eA64u8 s.1))), (1000000, (bk (eT_Su8_i64_u64_Z s.2)))]⟩) (pre := fun s => s = y31) ?_ ?_
  · rintro ⟨x29, x30⟩ rfl
    have h := hk33
    refine a_st (σ' := ⟨[(0, (ow 1000000)), (5, (ow 5)), (6, (ow 6)), (7, (i6 r1.1)), (8, (ow 8)), (9, (ow 9))], [(5, (bk (eA64u8 ((vrep 64 (0 : Int)))))), (6, (bk (eA64u8 ((vrep 64 (0 : Int)))))), (8, (bk (eA64u8 r4.1))), (9, (bk (eA64u8 x29))), (1000000, (bk (eT_Su8_i64_u64_Z x30)))]⟩) (by kernel_rfl) ?_
    obtain ⟨y60, hy61, hk62⟩ := bind_some h
    clear h
    refine a_join (emb := fun (s : (Int × ((List Int) × Int × Int))) => ⟨[(0, (ow 1000000)), (5, (ow 5)), (6, (ow 6)), (7, (i6 s.1)), (8, (ow 8)), (9, (ow 9))], [(5, (bk (eA64u8 ((vrep 64 (0 : Int)))))), (6, (bk (eA64u8 ((vrep 64 (0 : Int)))))), (8, (bk (eA64u8 r4.1))), (9, (bk (eA64u8 x29))), (1000000, (bk (eT_Su8_i64_u64_Z s.2)))]⟩) (pre := fun s => s = y60) ?_ ?_
    · rintro ⟨x58, x59⟩ rfl
      have h := hk62
      refine a_st (σ' := ⟨[(0, (ow 1000000)), (5, (ow 5)), (6, (ow 6)), (7, (i6 x58)), (8, (ow 8)), (9, (ow 9))], [(5, (bk (eA64u8 ((vrep 64 (0 : Int)))))), (6, (bk (eA64u8 ((vrep 64 (0 : Int)))))), (8, (bk (eA64u8 r4.1))), (9, (bk (eA64u8 x29))), (1000000, (bk (eT_Su8_i64_u64_Z x59)))]⟩) (by kernel_rfl) (a_seq (a_draw [⟨[], [], [], []⟩, ⟨[], [], [1000000], []⟩, ⟨[8], [], [], []⟩, ⟨[1000000], [1000000], [], [1, 2]⟩, ⟨[9], [], [], []⟩, ⟨[], [], [], [0, 1, 2, 3]⟩, ⟨[5], [5], [], [0, 1, 2, 3, 5]⟩, ⟨[6], [6], [], [0, 1, 2, 3, 4, 5, 6]⟩] (by kernel_rfl) (dp (i6 x58) rfl (by kernel_rfl) (dp (ow 1000000) rfl (by kernel_rfl) (d_cons (vl (eA64u8 r4.1) rfl rfl rfl rfl rfl rfl (d_next (by kernel_rfl) (d_cons ?_))))))))
      obtain ⟨r78, hr79, h⟩ := bind_some h
      refine a_callM (args := [(.mutp (eT_Su8_i64_u64_Z x59)), (i6 3), (eA64u8 r4.1)]) (i := 0) (id := 1000000) (r := (eA64u8 r78.1)) (c := (eT_Su8_i64_u64_Z r78.2)) rfl rfl (spec_l01Bad_of_src_ok x59 3 r4.1 r78 hr79) rfl trivial (d_next (by kernel_rfl) (d_cons (vl (eA64u8 x29) rfl rfl rfl rfl rfl rfl (d_next (by kernel_rfl) (dp (i6 x58) rfl (by kernel_rfl) (d_cons (vs (eA64u8 r78.1) rfl rfl (fun _ => rfl) rfl rfl rfl rfl rfl rfl (d_next (by kernel_rfl) (d_cons ?_)))))))))
      refine vs (eA64u8 x29) rfl rfl (fun _ => rfl) rfl rfl rfl rfl rfl rfl (d_next (by kernel_rfl) (d_nil (a_next rfl (a_ret ?_))))
      have hl84 : LdOk [] (eA64u8 r78.1) [] 64 true (eA64u8 r78.1) := (.nil rfl rfl rfl)
      have hl85 : LdOk [] (eA64u8 x29) [] 64 true (eA64u8 x29) := (.nil rfl rfl rfl)
      refine ⟨.inr rfl, ?_⟩
      rw [Try.results150]
      cases h
      exact ⟨[], ⟨_, _, _, _, _, rfl, trivial, rfl, .inl ⟨rfl, .inl rfl, ⟨_, _, _, _, _, ld_own (i := ⟨.arr 64 5, 64, 64, (eA64u8 (vrep 64 (0 : Int)))⟩) rfl rfl rfl hl84, hl84.c, rfl, .inl ⟨rfl, .inl rfl, ⟨_, _, _, _, _, ld_own (i := ⟨.arr 64 5, 64, 64, (eA64u8 (vrep 64 (0 : Int)))⟩) rfl rfl rfl hl85, hl85.c, rfl, .inl ⟨rfl, .inl rfl, ⟨rfl, rfl, rfl⟩⟩⟩⟩⟩⟩⟩, rfl, ⟨_, _, rfl, rfl, rfl⟩⟩
    · have h := hy61
      refine sr (vp (ow 1000000) rfl ?_)
      obtain ⟨r63, hr64, h⟩ := bind_some h
      refine a_callM (args := [(.mutp (eT_Su8_i64_u64_Z x30)), (i6 40)]) (i := 0) (id := 1000000) (r := (i6 r63.1)) (c := (eT_Su8_i64_u64_Z r63.2)) rfl rfl (spec_l01Next_of_src_ok x30 40 r63 hr64) rfl trivial (vp (.bool (r63.1 == 0)) rfl (nx ⟨[(0, (ow 1000000)), (5, (ow 5)), (6, (ow 6)), (7, (i6 r1.1)), (8, (ow 8)), (9, (ow 9)), (31, (.bool (r63.1 == 0)))], [(5, (bk (eA64u8 ((vrep 64 (0 : Int)))))), (6, (bk (eA64u8 ((vrep 64 (0 : Int)))))), (8, (bk (eA64u8 r4.1))), (9, (bk (eA64u8 x29))), (1000000, (bk (eT_Su8_i64_u64_Z r63.2)))]⟩ (by kernel_rfl) ?_))
      cases hb66 : (r63.1 == 0)
      · have h := ite_f hb66 h
        refine a_cond_f rfl (a_skip ?_)
        exact j_leaf (r1.1, r63.2) (Option.some.inj h) (by kernel_rfl)
      · have h := ite_t hb66 h
        refine a_cond_t rfl (a_region (vp (ow 1000000) rfl (vq (.sl 1 true (([0, 4, 11]).map (AV.int .i64))) rfl ⟨(Nat.le_of_ble_eq_true rfl), (Nat.le_of_ble_eq_true rfl), (all_cons ⟨(Nat.le_of_ble_eq_true rfl), rfl⟩ (all_cons ⟨(Nat.le_of_ble_eq_true rfl), rfl⟩ (all_cons ⟨(Nat.le_of_ble_eq_true rfl), rfl⟩ all_nil)))⟩ ?_)))
        obtain ⟨r67, hr68, h⟩ := bind_some h
        refine a_callM (args := [(.mutp (eT_Su8_i64_u64_Z r63.2)), (.sl 1 true (([0, 4, 11]).map (AV.int .i64)))]) (i := 0) (id := 1000000) (r := (i6 r67.1)) (c := (eT_Su8_i64_u64_Z r67.2)) rfl rfl (Den.argsM (spec_l01Pick_of_src_ok r63.2 ([0, 4, 11]) r67 hr68) rfl rfl (.cons (.loose _) .nil)) rfl trivial (vp (i6 r67.1) rfl (a_nil ?_))
        exact j_leaf (r67.1, r67.2) (Option.some.inj h) (by kernel_rfl)
  · have h := hy32
    obtain ⟨y41, hy42, hk43⟩ := bind_some h
    clear h
    refine a_join (emb := fun (s : (Bool × ((List Int) × Int × Int))) => ⟨[(0, (ow 1000000)), (5, (ow 5)), (6, (ow 6)), (7, (i6 r1.1)), (8, (ow 8)), (9, (ow 9)), (27, (.bool s.1))], [(5, (bk (eA64u8 ((vrep 64 (0 : Int)))))), (6, (bk (eA64u8 ((vrep 64 (0 : Int)))))), (8, (bk (eA64u8 r4.1))), (9, (bk (eA64u8 r7.1))), (1000000, (bk (eT_Su8_i64_u64_Z s.2)))]⟩) (pre := fun s => s = y41) ?_ ?_
    · rintro ⟨x39, x40⟩ rfl
      have h := hk43
      refine a_st (σ' := ⟨[(0, (ow 1000000)), (5, (ow 5)), (6, (ow 6)), (7, (i6 r1.1)), (8, (ow 8)), (9, (ow 9)), (27, (.bool x39))], [(5, (bk (eA64u8 ((vrep 64 (0 : Int)))))), (6, (bk (eA64u8 ((vrep 64 (0 : Int)))))), (8, (bk (eA64u8 r4.1))), (9, (bk (eA64u8 r7.1))), (1000000, (bk (eT_Su8_i64_u64_Z x40)))]⟩) (by kernel_rfl) ?_
      cases hb49 : x39
      · have h := ite_f hb49 h
        refine a_cond_f rfl (a_skip ?_)
        exact j_leaf (r7.1, x40) (Option.some.inj h) (by kernel_rfl)
      · have h := ite_t hb49 h
        refine a_cond_t rfl (a_region (vq (eA64u8 ((vset (vrep 64 (0 : Int)) 0 1))) rfl ⟨⟨_, rfl, rfl⟩, (all_cons ⟨(Nat.le_of_ble_eq_true rfl), rfl⟩ all_nil)⟩ (vs (eA64u8 ((vset (vrep 64 (0 : Int)) 0 1))) rfl rfl (fun _ => rfl) rfl rfl rfl rfl rfl rfl (a_nil ?_))))
        exact j_leaf (((vset (vrep 64 (0 : Int)) 0 1), x40)) (Option.some.inj h) (by kernel_rfl)
    · have h := hy42
      refine a_region (vl (eA64u8 r7.1) rfl rfl rfl rfl rfl rfl (vq (eA64u8 ((vrep 64 (0 : Int)))) rfl ⟨⟨_, rfl, rfl⟩, all_nil⟩ (vq (.bool ((decide (r7.1 = ((vrep 64 (0 : Int))))))) (eqa_run (f := (AV.int .u8)) (a := r7.1.1) (b := ((vrep 64 (0 : Int))).1) rfl rfl (eqb_vec (fun _ _ => eqb_int _ _) r7.1 ((vrep 64 (0 : Int))))) (cmp_arr (g := 8) (f := (AV.int .u8)) (x := r7.1) (y := ((vrep 64 (0 : Int)))) rfl rfl rfl (fun _ _ => rfl) (fun _ _ => cmp_int rfl)) (vp (.bool ((decide (r7.1 = ((vrep 64 (0 : Int))))))) rfl ?_))))
      cases hb45 : (decide (r7.1 = ((vrep 64 (0 : Int)))))
      · have h := ite_f hb45 h
        refine a_gskip rfl (a_gskip rfl (a_gskip rfl (vp (.bool false) rfl (a_nil ?_))))
        exact j_leaf (false, r7.2) (Option.some.inj h) (by kernel_rfl)
      · have h := ite_t hb45 h
        refine gp (ow 1000000) rfl rfl ?_
        obtain ⟨r46, hr47, h⟩ := bind_some h
        refine a_gcallM rfl (args := [(.mutp (eT_Su8_i64_u64_Z r7.2)), (i6 4)]) (i := 0) (id := 1000000) (r := (i6 r46.1)) (c := (eT_Su8_i64_u64_Z r46.2)) rfl rfl (spec_l01Next_of_src_ok r7.2 4 r46 hr47) rfl trivial (gp (.bool ((decide (r46.1 > 0)))) rfl rfl (vp (.bool ((decide (r46.1 > 0)))) rfl (a_nil ?_)))
        exact j_leaf (((decide (r46.1 > 0)), r46.2)) (Option.some.inj h) (by kernel_rfl)
def spec_DrawContinuedFraction_c : ACode := (.seq (.region 0 [q 2 (.asg 0 (.const (.int .i64 0)) 2), q 3 (.alloc 25), q 4 (.alloc 25)] false) (.seq (.region 1 [q 9 (.mov (t 0)), q 10 (.call 0 (.func 116) [(t 9)]), q 5 (.asg 0 (t 10) 96)] false) (.seq (.region 2 [q 12 (.mov (t 5)), q 13 (.mov (t 5)), q 14 (.bslice 0 59 4 [(0, (.const (.int .i64 3))), (1, (.const (.int .i64 6))), (2, (.const (.int .i64 12))), (3, (.const (.int .i64 63)))]), q 15 (.call 1 (.func 122) [(t 13), (t 14)]), q 16 (.call 1 (.func 150) [(t 12), (t 15)]), q 11 (.mov (t 16)), q 17 (.extract (t 11) 0), q 18 (.extract (t 11) 1), q 19 (.extract (t 11) 2), q 7 (.alloc 25), q 8 (.alloc 25), q 6 (.asg 0 (t 17) 2), ⟨none, .store 25 (t 7) (t 18), none, []⟩, ⟨none, .store 25 (t 8) (t 19), none, []⟩] false) (.seq (.region 3 [q 20 (.mov (t 6)), q 21 (.load 25 (t 7)), q 22 (.load 25 (t 8)), ⟨some 2, .asg 0 (t 20) 2, none, [0, 0]⟩, ⟨none, .store 25 (t 3) (t 21), none, [1, 3, 0, 1, 3]⟩, ⟨none, .store 25 (t 4) (t 22), none, [2, 4, 0, 1, 2, 3, 4]⟩] true) .ret))))
def spec_DrawContinuedFraction_L : Live := [(0, [0]), (1, [0, 3, 4]), (2, [3, 4, 5]), (3, [3, 4, 6, 7, 8])]
noncomputable def spec_DrawContinuedFraction (a0 : (List Int)) : Option (Int × (Vec Int 64) × (Vec Int 64)) :=
  (Option.bind (spec_l01From a0) fun r1 => (Option.bind (spec_l01Pick_of_src r1 ([3, 6, 12, 63])) fun r3 => (Option.bind (spec_l10Draw_of_src r3.2 r3.1) fun r6 => (some (r6.1, r6.2.1, r6.2.2.1)))))
theorem spec_DrawContinuedFraction_ok (a0 : (List Int)) (r : (Int × (Vec Int 64) × (Vec Int 64))) (h : spec_DrawContinuedFraction a0 = some r) : Den Try.prog 62 [(eSu8 a0)] { r := (.tuple [(i6 r.1), (eA64u8 r.2.1), (eA64u8 r.2.2)]) } := by
  refine den_of (rs := [(i6 r.1), (eA64u8 r.2.1), (eA64u8 r.2.2)]) (ac := spec_DrawContinuedFraction_c) (L := spec_DrawContinuedFraction_L) (n := 23) (m := [(15, 1), (16, 1)]) (c := Try.f62.body.getD .skip) good Try.func62 (by kernel_rfl) (by kernel_rfl) Try.ntmps62 rfl rfl (by kernel_rfl) rfl rfl ?_
  refine a_st (σ' := ⟨[(0, (eSu8 a0))], []⟩) (by kernel_rfl) ?_
  unfold spec_DrawContinuedFraction_c
  refine sr (vp (i6 0) rfl (vo 1300 (eA64u8 ((vrep 64 (0 : Int)))) rfl rfl (vo 1400 (eA64u8 ((vrep 64 (0 : Int)))) rfl rfl (nx ⟨[(0, (eSu8 a0)), (3, (ow 3)), (4, (ow 4))], [(3, (bk (eA64u8 ((vrep 64 (0 : Int)))))), (4, (bk (eA64u8 ((vrep 64 (0 : Int))))))]⟩ (by kernel_rfl) (sr (vp (eSu8 a0) rfl ?_))))))
  obtain ⟨r1, hr2, h⟩ := bind_some h
  refine a_callF (args := [(eSu8 a0)]) (u := []) (u2 := []) (r := (ow 2000000)) (fs := [(0, [eT_Su8_i64_u64_Z r1])]) rfl rfl (spec_l01From_ok a0 r1 hr2) rfl rfl rfl (.inl rfl) rfl (vp (ow 2000) rfl (nx ⟨[(3, (ow 3)), (4, (ow 4)), (5, (ow 5))], [(3, (bk (eA64u8 ((vrep 64 (0 : Int)))))), (4, (bk (eA64u8 ((vrep 64 (0 : Int)))))), (5, (bk (eT_Su8_i64_u64_Z r1)))]⟩ (by kernel_rfl) (sr (vp (ow 5) rfl (vp (ow 5) rfl (vq (.sl 1 true (([3, 6, 12, 63]).map (AV.int .i64))) rfl ⟨(Nat.le_of_ble_eq_true rfl), (Nat.le_of_ble_eq_true rfl), (all_cons ⟨(Nat.le_of_ble_eq_true rfl), rfl⟩ (all_cons ⟨(Nat.le_of_ble_eq_true rfl), rfl⟩ (all_cons ⟨(Nat.le_of_ble_eq_true rfl), rfl⟩ (all_cons ⟨(Nat.le_of_ble_eq_true rfl), rfl⟩ all_nil))))⟩ ?_))))))
  obtain ⟨r3, hr4, h⟩ := bind_some h
  refine a_callM (args := [(.mutp (eT_Su8_i64_u64_Z r1)), (.sl 1 true (([3, 6, 12, 63]).map (AV.int .i64)))]) (i := 0) (id := 5) (r := (i6 r3.1)) (c := (eT_Su8_i64_u64_Z r3.2)) rfl rfl (Den.argsM (spec_l01Pick_of_src_ok r1 ([3, 6, 12, 63]) r3 hr4) rfl rfl (.cons (.loose _) .nil)) rfl trivial ?_
  obtain ⟨r6, hr7, h⟩ := bind_some h
  refine a_callM (args := [(.mutp (eT_Su8_i64_u64_Z r3.2)), (i6 r3.1)]) (i := 0) (id := 5) (r := (.tuple [(i6 r6.1), (eA64u8 r6.2.1), (eA64u8 r6.2.2.1)])) (c := (eT_Su8_i64_u64_Z r6.2.2.2)) rfl rfl (spec_l10Draw_of_src_ok r3.2 r3.1 r6 hr7) rfl trivial (vp (.tuple [(i6 r6.1), (eA64u8 r6.2.1), (eA64u8 r6.2.2.1)]) rfl (vb (i6 r6.1) rfl rfl (vb (eA64u8 r6.2.1) rfl rfl (vb (eA64u8 r6.2.2.1) rfl rfl (vo 1700 (eA64u8 ((vrep 64 (0 : Int)))) rfl rfl (vo 1800 (eA64u8 ((vrep 64 (0 : Int)))) rfl rfl (vp (i6 r6.1) rfl (vs (eA64u8 r6.2.1) rfl rfl (fun _ => rfl) rfl rfl rfl rfl rfl rfl (vs (eA64u8 r6.2.2.1) rfl rfl (fun _ => rfl) rfl rfl rfl rfl rfl rfl ?_)))))))))
  refine nx ⟨[(3, (ow 3)), (4, (ow 4)), (6, (i6 r6.1)), (7, (ow 7)), (8, (ow 8))], [(3, (bk (eA64u8 ((vrep 64 (0 : Int)))))), (4, (bk (eA64u8 ((vrep 64 (0 : Int)))))), (7, (bk (eA64u8 r6.2.1))), (8, (bk (eA64u8 r6.2.2.1)))]⟩ (by kernel_rfl) (a_seq (a_draw [⟨[], [], [], []⟩, ⟨[7], [], [], []⟩, ⟨[8], [], [], []⟩, ⟨[], [], [], [0]⟩, ⟨[3], [3], [], [0, 1, 3]⟩, ⟨[4], [4], [], [0, 1, 2, 3, 4]⟩] (by kernel_rfl) (dp (i6 r6.1) rfl (by kernel_rfl) (d_cons (vl (eA64u8 r6.2.1) rfl rfl rfl rfl rfl rfl (d_next (by kernel_rfl) (d_cons (vl (eA64u8 r6.2.2.1) rfl rfl rfl rfl rfl rfl (d_next (by kernel_rfl) ?_)))))))))
  refine dp (i6 r6.1) rfl (by kernel_rfl) (d_cons (vs (eA64u8 r6.2.1) rfl rfl (fun _ => rfl) rfl rfl rfl rfl rfl rfl (d_next (by kernel_rfl) (d_cons (vs (eA64u8 r6.2.2.1) rfl rfl (fun _ => rfl) rfl rfl rfl rfl rfl rfl (d_next (by kernel_rfl) (d_nil (a_next rfl (a_ret ?_)))))))))
  have hl19 : LdOk [] (eA64u8 r6.2.1) [] 64 true (eA64u8 r6.2.1) := (.nil rfl rfl rfl)
  have hl20 : LdOk [] (eA64u8 r6.2.2.1) [] 64 true (eA64u8 r6.2.2.1) := (.nil rfl rfl rfl)
  refine ⟨.inr rfl, ?_⟩
  rw [Try.results62]
  cases h
  exact ⟨_, _, _, _, _, rfl, trivial, .inl ⟨rfl, .inl rfl⟩, rfl, ⟨_, _, _, _, _, ld_own (i := ⟨.arr 64 5, 64, 64, (eA64u8 (vrep 64 (0 : Int)))⟩) rfl rfl rfl hl19, hl19.c, .inl ⟨rfl, .inl rfl⟩, rfl, ⟨_, _, _, _, _, ld_own (i := ⟨.arr 64 5, 64, 64, (eA64u8 (vrep 64 (0 : Int)))⟩) rfl rfl rfl hl20, hl20.c, .inl ⟨rfl, .inl rfl⟩, rfl, rfl⟩⟩⟩
def impl_isPrime_c : ACode := (.seq (.region 0 [q 2 (.asg 0 (.const (.bool false)) 4)] false) (.seq (.region 1 [q 3 (.mov (t 0)), q 4 (.bin .eql 2 (t 3) (.const (.int .i64 2))), q 5 (.mov (t 4)), ⟨some 6, .mov (t 0), some (5, false), []⟩, ⟨some 7, .bin .eql 2 (t 6) (.const (.int .i64 3)), some (5, false), []⟩, q 8 (.pick (t 5) (.const (.bool true)) (t 7)), q 9 (.mov (t 8)), ⟨some 10, .mov (t 0), some (9, false), []⟩, ⟨some 11, .bin .eql 2 (t 10) (.const (.int .i64 5)), some (9, false), []⟩, q 12 (.pick (t 9) (.const (.bool true)) (t 11)), q 13 (.mov (t 12)), ⟨some 14, .mov (t 0), some (13, false), []⟩, ⟨some 15, .bin .eql 2 (t 14) (.const (.int .i64 7)), some (13, false), []⟩, q 16 (.pick (t 13) (.const (.bool true)) (t 15)), q 2 (.asg 0 (t 16) 4)] false) .ret))
def impl_isPrime_L : Live := [(0, [0]), (1, [0])]
noncomputable def impl_isPrime (a0 : Int) : Option Bool :=
  (if (a0 == 2) then (some true) else (if (a0 == 3) then (some true) else (if (a0 == 5) then (some true) else (some (a0 == 7)))))
theorem impl_isPrime_ok (a0 : Int) (r : Bool) (h : impl_isPrime a0 = some r) : Den Try.prog 106 [(i6 a0)] { r := (.bool r) } := by
  refine den_of (rs := [(.bool r)]) (ac := impl_isPrime_c) (L := impl_isPrime_L) (n := 17) (m := []) (c := Try.f106.body.getD .skip) good Try.func106 (by kernel_rfl) (by kernel_rfl) Try.ntmps106 rfl rfl (by kernel_rfl) rfl rfl ?_
  refine a_st (σ' := ⟨[(0, (i6 a0))], []⟩) (by kernel_rfl) ?_
  unfold impl_isPrime_c
  refine sr (vp (.bool false) rfl (nx ⟨[(0, (i6 a0))], []⟩ (by kernel_rfl) (sr (vp (i6 a0) rfl (vp (.bool (a0 == 2)) rfl (vp (.bool (a0 == 2)) rfl ?_))))))
  cases hb1 : (a0 == 2)
  · have h := ite_f hb1 h
    refine gp (i6 a0) rfl rfl (gp (.bool (a0 == 3)) rfl rfl (vp (.bool (a0 == 3)) rfl (vp (.bool (a0 == 3)) rfl ?_)))
    cases hb2 : (a0 == 3)
    · have h := ite_f hb2 h
      refine gp (i6 a0) rfl rfl (gp (.bool (a0 == 5)) rfl rfl (vp (.bool (a0 == 5)) rfl (vp (.bool (a0 == 5)) rfl ?_)))
      cases hb3 : (a0 == 5)
      · have h := ite_f hb3 h
        refine gp (i6 a0) rfl rfl (gp (.bool (a0 == 7)) rfl rfl (vp (.bool (a0 == 7)) rfl (vp (.bool (a0 == 7)) rfl (nx _ rfl (a_ret ?_)))))
        refine ⟨.inr rfl, ?_⟩
        rw [Try.results106]
        cases h
        exact ⟨_, _, _, _, _, rfl, trivial, .inl ⟨rfl, .inl rfl⟩, rfl, rfl⟩
      · have h := ite_t hb3 h
        refine a_gskip rfl (a_gskip rfl (vp (.bool true) rfl (vp (.bool true) rfl (nx _ rfl (a_ret ?_)))))
        refine ⟨.inr rfl, ?_⟩
        rw [Try.results106]
        cases h
        exact ⟨_, _, _, _, _, rfl, trivial, .inl ⟨rfl, .inl rfl⟩, rfl, rfl⟩
    · have h := ite_t hb2 h
      refine a_gskip rfl (a_gskip rfl (vp (.bool true) rfl (vp (.bool true) rfl (a_gskip rfl (a_gskip rfl (vp (.bool true) rfl (vp (.bool true) rfl (nx _ rfl (a_ret ?_)))))))))
      refine ⟨.inr rfl, ?_⟩
      rw [Try.results106]
      cases h
      exact ⟨_, _, _, _, _, rfl, trivial, .inl ⟨rfl, .inl rfl⟩, rfl, rfl⟩
  · have h := ite_t hb1 h
    refine a_gskip rfl (a_gskip rfl (vp (.bool true) rfl (vp (.bool true) rfl (a_gskip rfl (a_gskip rfl (vp (.bool true) rfl (vp (.bool true) rfl (a_gskip rfl (a_gskip rfl ?_)))))))))
    refine vp (.bool true) rfl (vp (.bool true) rfl (nx _ rfl (a_ret ?_)))
    refine ⟨.inr rfl, ?_⟩
    rw [Try.results106]
    cases h
    exact ⟨_, _, _, _, _, rfl, trivial, .inl ⟨rfl, .inl rfl⟩, rfl, rfl⟩
def impl_isPoly_c1_of_p_c : ACode := (.seq (.region 0 [q 3 (.asg 0 (.const (.bool false)) 4)] false) (.seq (.region 1 [q 4 (.mov (t 0)), q 5 (.conv 5 2 (t 4)), q 6 (.load 2 (t 1)), q 7 (.bin .lss 2 (t 5) (t 6)), q 3 (.asg 0 (t 7) 4)] false) .ret))
def impl_isPoly_c1_of_p_L : Live := [(0, [0, 1]), (1, [0, 1])]
noncomputable def impl_isPoly_c1_of_p (a0 : Int) (a1 : Int) : Option Bool :=
  (some ((decide ((IntKind.i64.wrap a0) < a1))))
theorem impl_isPoly_c1_of_p_ok (a0 : Int) (a1 : Int) (r : Bool) (h : impl_isPoly_c1_of_p a0 a1 = some r) : Den Try.prog 182 [(b8 a0), (.ref (i6 a1) [] [])] { r := (.bool r) } := by
  refine den_of (rs := [(.bool r)]) (ac := impl_isPoly_c1_of_p_c) (L := impl_isPoly_c1_of_p_L) (n := 8) (m := []) (c := Try.f182.body.getD .skip) good Try.func182 (by kernel_rfl) (by kernel_rfl) Try.ntmps182 rfl rfl (by kernel_rfl) rfl rfl ?_
  refine a_st (σ' := ⟨[(0, (b8 a0)), (1, (.ref (i6 a1) [] []))], []⟩) (by kernel_rfl) ?_
  unfold impl_isPoly_c1_of_p_c
  refine sr (vp (.bool false) rfl (nx ⟨[(0, (b8 a0)), (1, (.ref (i6 a1) [] []))], []⟩ (by kernel_rfl) (sr (vp (b8 a0) rfl (vp (i6 (IntKind.i64.wrap a0)) rfl ?_)))))
  have hl1 : LdOk [] (i6 a1) [] 1 false (i6 a1) := (.nil rfl rfl rfl)
  refine vq (i6 a1) (ld_ref (i := ⟨.int .i64, 1, 8, (.int .i64 0)⟩) rfl rfl hl1) hl1.c (vp (.bool ((decide ((IntKind.i64.wrap a0) < a1)))) rfl (vp (.bool ((decide ((IntKind.i64.wrap a0) < a1)))) rfl (nx _ rfl (a_ret ?_))))
  refine ⟨.inr rfl, ?_⟩
  rw [Try.results182]
  cases h
  exact ⟨_, _, _, _, _, rfl, trivial, .inl ⟨rfl, .inl rfl⟩, rfl, rfl⟩
def impl_areAll_byte__c1_of_p_c : ACode := (.seq (.region 0 [q 3 (.asg 0 (.const (.bool false)) 4)] false) (.seq (.region 1 [q 4 (.load 149 (t 1)), q 5 (.mov (t 0)), q 6 (.call 0 (t 4) [(t 5)]), q 7 (.un .not (t 6)), q 3 (.asg 0 (t 7) 4)] false) .ret))
def impl_areAll_byte__c1_of_p_L : Live := [(0, [0, 1]), (1, [0, 1])]
noncomputable def impl_areAll_byte__c1_of_p (a0 : Int) (a1c0 : Int) : Option Bool :=
  (Option.bind (impl_isPoly_c1_of_p a0 a1c0) fun r2 => (some (!r2)))
theorem impl_areAll_byte__c1_of_p_ok (a0 : Int) (a1c0 : Int) (r : Bool) (h : impl_areAll_byte__c1_of_p a0 a1c0 = some r) : Den Try.prog 203 [(b8 a0), (.ref (.clo 182 [] [(.ref (i6 a1c0) [] [])]) [] [])] { r := (.bool r) } := by
  refine den_of (rs := [(.bool r)]) (ac := impl_areAll_byte__c1_of_p_c) (L := impl_areAll_byte__c1_of_p_L) (n := 8) (m := []) (c := Try.f203.body.getD .skip) good Try.func203 (by kernel_rfl) (by kernel_rfl) Try.ntmps203 rfl rfl (by kernel_rfl) rfl rfl ?_
  refine a_st (σ' := ⟨[(0, (b8 a0)), (1, (.ref (.clo 182 [] [(.ref (i6 a1c0) [] [])]) [] []))], []⟩) (by kernel_rfl) ?_
  unfold impl_areAll_byte__c1_of_p_c
  refine sr (vp (.bool false) rfl (nx ⟨[(0, (b8 a0)), (1, (.ref (.clo 182 [] [(.ref (i6 a1c0) [] [])]) [] []))], []⟩ (by kernel_rfl) (sr ?_)))
  have hl1 : LdOk [] (.clo 182 [] [(.ref (i6 a1c0) [] [])]) [] 1 false (.clo 182 [] [(.ref (i6 a1c0) [] [])]) := (.nil rfl rfl rfl)
  refine vq (.clo 182 [] [(.ref (i6 a1c0) [] [])]) (ld_ref (i := ⟨.other, 1, 8, (.raw .nilFunc)⟩) rfl rfl hl1) hl1.c (vp (b8 a0) rfl ?_)
  obtain ⟨r2, hr3, h⟩ := bind_some h
  refine a_call (args := [(b8 a0), (.ref (i6 a1c0) [] [])]) (u := []) (r := (.bool r2)) rfl rfl (impl_isPoly_c1_of_p_ok a0 a1c0 r2 hr3) rfl (vp (.bool (!r2)) rfl (vp (.bool (!r2)) rfl (nx _ rfl (a_ret ?_))))
  refine ⟨.inr rfl, ?_⟩
  rw [Try.results203]
  cases h
  exact ⟨_, _, _, _, _, rfl, trivial, .inl ⟨rfl, .inl rfl⟩, rfl, rfl⟩
def slices_IndexFunc_byte_byte_of_impl_areAll_byte__c1_p_c : ACode := (.seq (.region 0 [q 4 (.asg 0 (.const (.int .i64 0)) 3)] false) (.seq (.seq (.region 1 [q 6 (.mov (t 0)), q 7 (.blt 0 .len [(t 6)] [22]), q 8 (.mov (.const (.int .i64 0)))] false) (.block 0 (.loop (.seq (.region 2 [q 9 (.bin .lss 3 (t 8) (t 7))] false) (.seq (.cond (t 9) .skip (.exit 0)) (.seq (.block 1 (.seq (.region 3 [q 10 (.mov (t 8)), q 5 (.asg 0 (t 10) 3)] false) (.seq (.region 4 [q 11 (.mov (t 1)), q 12 (.mov (t 0)), q 13 (.mov (t 5)), q 14 (.indexAddr 22 (t 12) (t 13)), q 15 (.load 5 (t 14)), q 16 (.call 0 (t 11) [(t 15)])] false) (.cond (t 16) (.seq (.region 5 [q 17 (.mov (t 5)), q 4 (.asg 0 (t 17) 3)] false) .ret) .skip)))) (.region 6 [q 18 (.bin .add 3 (t 8) (.const (.int .i64 1))), q 8 (.mov (t 18))] false))))))) (.seq (.region 7 [q 4 (.asg 0 (.const (.int .i64 (-1))) 3)] false) .ret)))
def slices_IndexFunc_byte_byte_of_impl_areAll_byte__c1_p_L : Live := [(0, [0, 1]), (1, [0, 1]), (2, [0, 1, 7, 8]), (3, [0, 1, 7, 8]), (4, [0, 1, 5, 7, 8]), (5, [5]), (6, [0, 1, 7, 8]), (7, []), (100009, [0, 1, 7, 8, 9]), (100016, [0, 1, 5, 7, 8, 16])]
noncomputable def slices_IndexFunc_byte_byte_of_impl_areAll_byte__c1_p_l1 (a0 : (List Int)) (a1c0c0 : Int) (x33 : Int) : Option (Int ⊕ (Unit ⊕ Int)) :=
  (if (decide (x33 < (a0.length : Int))) then (ifp (0 ≤ x33 ∧ x33 < ((a0.length : Nat) : Int)) ((Option.bind (impl_areAll_byte__c1_of_p (rd a0 x33.toNat) a1c0c0) fun r46 => (if r46 then (some (.inr (.inr x33))) else (some (.inl (IntKind.i64.wrap (x33 + 1)))))))) else (some (.inr (((.inl ()))))))
noncomputable def slices_IndexFunc_byte_byte_of_impl_areAll_byte__c1_p (a0 : (List Int)) (a1c0c0 : Int) : Option Int :=
  (Option.bind (α := (Unit ⊕ Int)) ((loopM (fun s : Int => slices_IndexFunc_byte_byte_of_impl_areAll_byte__c1_p_l1 a0 a1c0c0 s) 0)) fun z => match z with | .inl _ => (some (-1)) | .inr r50 => (some r50))
theorem slices_IndexFunc_byte_byte_of_impl_areAll_byte__c1_p_ok (a0 : (List Int)) (a1c0c0 : Int) (r : Int) (h : slices_IndexFunc_byte_byte_of_impl_areAll_byte__c1_p a0 a1c0c0 = some r) : Den Try.prog 209 [(eSu8 a0), (.clo 203 [] [(.ref (.clo 182 [] [(.ref (i6 a1c0c0) [] [])]) [] [])])] { r := (i6 r) } := by
  refine den_of (rs := [(i6 r)]) (ac := slices_IndexFunc_byte_byte_of_impl_areAll_byte__c1_p_c) (L := slices_IndexFunc_byte_byte_of_impl_areAll_byte__c1_p_L) (n := 19) (m := []) (c := Try.f209.body.getD .skip) good Try.func209 (by kernel_rfl) (by kernel_rfl) Try.ntmps209 rfl rfl (by kernel_rfl) rfl rfl ?_
  refine a_st (σ' := ⟨[(0, (eSu8 a0)), (1, (.clo 203 [] [(.ref (.clo 182 [] [(.ref (i6 a1c0c0) [] [])]) [] [])]))], []⟩) (by kernel_rfl) ?_
  unfold slices_IndexFunc_byte_byte_of_impl_areAll_byte__c1_p_c
  refine sr (vp (i6 0) rfl (nx ⟨[(0, (eSu8 a0)), (1, (.clo 203 [] [(.ref (.clo 182 [] [(.ref (i6 a1c0c0) [] [])]) [] [])]))], []⟩ (by kernel_rfl) ?_))
  obtain ⟨y24, hy25, hk26⟩ := bind_some h
  clear h
  refine a_join (emb := fun (s : Unit) => ⟨[], []⟩) (pre := fun s => (.inl s) = y24) ?_ ?_
  · rintro _ rfl
    have h := hk26
    refine a_st (σ' := ⟨[], []⟩) (by kernel_rfl) (sr (vp (i6 (-1)) rfl (nx _ rfl (a_ret ?_))))
    refine ⟨.inr rfl, ?_⟩
    rw [Try.results209]
    cases h
    exact ⟨_, _, _, _, _, rfl, trivial, .inl ⟨rfl, .inl rfl⟩, rfl, rfl⟩
  · have h := hy25
    refine sr (vp (eSu8 a0) rfl (vq (i6 (a0.length : Int)) (len_run rfl rfl) trivial (vp (i6 0) rfl (nx ⟨[(0, (eSu8 a0)), (1, (.clo 203 [] [(.ref (.clo 182 [] [(.ref (i6 a1c0c0) [] [])]) [] [])])), (7, (i6 (a0.length : Int))), (8, (i6 0))], []⟩ (by kernel_rfl) (a_block ?_)))))
    refine a_loop (emb := fun (s : Int) => ⟨[(0, (eSu8 a0)), (1, (.clo 203 [] [(.ref (.clo 182 [] [(.ref (i6 a1c0c0) [] [])]) [] [])])), (7, (i6 (a0.length : Int))), (8, (i6 s))], []⟩) (body := (fun s : Int => slices_IndexFunc_byte_byte_of_impl_areAll_byte__c1_p_l1 a0 a1c0c0 s)) (G := fun q => some q = some y24) h rfl ?_ (by kernel_rfl)
    rintro X40 x33 x41 h hX42
    have h : slices_IndexFunc_byte_byte_of_impl_areAll_byte__c1_p_l1 a0 a1c0c0 x33 = some x41 := h
    refine a_st (σ' := ⟨[(0, (eSu8 a0)), (1, (.clo 203 [] [(.ref (.clo 182 [] [(.ref (i6 a1c0c0) [] [])]) [] [])])), (7, (i6 (a0.length : Int))), (8, (i6 x33))], []⟩) (by kernel_rfl) (sr (vp (.bool ((decide (x33 < (a0.length : Int))))) rfl (nx ⟨[(0, (eSu8 a0)), (1, (.clo 203 [] [(.ref (.clo 182 [] [(.ref (i6 a1c0c0) [] [])]) [] [])])), (7, (i6 (a0.length : Int))), (8, (i6 x33)), (9, (.bool ((decide (x33 < (a0.length : Int))))))], []⟩ (by kernel_rfl) (a_seq ?_))))
    cases hb43 : (decide (x33 < (a0.length : Int)))
    · have h := ite_f hb43 h
      refine a_cond_f rfl (a_exit (t_exit ?_))
      cases h
      have h := hX42
      refine t_exit (b_exit ?_)
      exact j_leaf () (Option.some.inj h) (by kernel_rfl)
    · have h := ite_t hb43 h
      refine a_cond_t rfl (a_skip (a_next (σ' := ⟨[(0, (eSu8 a0)), (1, (.clo 203 [] [(.ref (.clo 182 [] [(.ref (i6 a1c0c0) [] [])]) [] [])])), (7, (i6 (a0.length : Int))), (8, (i6 x33))], []⟩) (by kernel_rfl) (a_seq (a_block (sr (vp (i6 x33) rfl (vp (i6 x33) rfl (nx ⟨[(0, (eSu8 a0)), (1, (.clo 203 [] [(.ref (.clo 182 [] [(.ref (i6 a1c0c0) [] [])]) [] [])])), (5, (i6 x33)), (7, (i6 (a0.length : Int))), (8, (i6 x33))], []⟩ (by kernel_rfl) (sr ?_)))))))))
      refine vp (.clo 203 [] [(.ref (.clo 182 [] [(.ref (i6 a1c0c0) [] [])]) [] [])]) rfl (vp (eSu8 a0) rfl (vp (i6 x33) rfl ?_))
      obtain ⟨hc44, h⟩ := ifp_some h
      refine vq (.ref (.row 1 (a0.map (AV.int .u8))) [x33.toNat] [x33.toNat * 1]) rfl (lmap hc44) ?_
      have hl45 : LdOk [x33.toNat] (.row 1 (a0.map (AV.int .u8))) [x33.toNat * 1] 1 false (b8 (rd a0 x33.toNat)) := (.row (llt hc44) rfl (.nil rfl rfl rfl))
      refine vq (b8 (rd a0 x33.toNat)) (ld_ref (i := ⟨.int .u8, 1, 1, (.int .u8 0)⟩) rfl rfl hl45) hl45.c ?_
      obtain ⟨r46, hr47, h⟩ := bind_some h
      refine a_call (args := [(b8 (rd a0 x33.toNat)), (.ref (.clo 182 [] [(.ref (i6 a1c0c0) [] [])]) [] [])]) (u := []) (r := (.bool r46)) rfl rfl (impl_areAll_byte__c1_of_p_ok (rd a0 x33.toNat) a1c0c0 r46 hr47) rfl (nx ⟨[(0, (eSu8 a0)), (1, (.clo 203 [] [(.ref (.clo 182 [] [(.ref (i6 a1c0c0) [] [])]) [] [])])), (5, (i6 x33)), (7, (i6 (a0.length : Int))), (8, (i6 x33)), (16, (.bool r46))], []⟩ (by kernel_rfl) ?_)
      cases hb48 : r46
      · have h := ite_f hb48 h
        refine a_cond_f rfl (a_skip (b_norm (a_next (σ' := ⟨[(0, (eSu8 a0)), (1, (.clo 203 [] [(.ref (.clo 182 [] [(.ref (i6 a1c0c0) [] [])]) [] [])])), (7, (i6 (a0.length : Int))), (8, (i6 x33))], []⟩) (by kernel_rfl) (a_region (vp (i6 (IntKind.i64.wrap (x33 + 1))) rfl (vp (i6 (IntKind.i64.wrap (x33 + 1))) rfl (a_nil ?_)))))))
        cases h
        exact a_again (by kernel_rfl) hX42
      · have h := ite_t hb48 h
        refine a_cond_t rfl (sr (vp (i6 x33) rfl (vp (i6 x33) rfl (nx _ rfl (a_ret (b_ret (t_ret ?_)))))))
        cases h
        have h := hX42
        refine t_ret (b_ret (t_ret ?_))
        cases h
        have h := hk26
        refine ⟨.inr rfl, ?_⟩
        rw [Try.results209]
        cases h
        exact ⟨_, _, _, _, _, rfl, trivial, .inl ⟨rfl, .inl rfl⟩, rfl, rfl⟩
def slices_ContainsFunc_byte_byte_of_impl_areAll_byte__c1_p_c : ACode := (.seq (.region 0 [q 4 (.asg 0 (.const (.bool false)) 4)] false) (.seq (.region 1 [q 5 (.mov (t 0)), q 6 (.mov (t 1)), q 7 (.call 0 (.func 209) [(t 5), (t 6)]), q 8 (.bin .geq 3 (t 7) (.const (.int .i64 0))), q 4 (.asg 0 (t 8) 4)] false) .ret))
def slices_ContainsFunc_byte_byte_of_impl_areAll_byte__c1_p_L : Live := [(0, [0, 1]), (1, [0, 1])]
noncomputable def slices_ContainsFunc_byte_byte_of_impl_areAll_byte__c1_p (a0 : (List Int)) (a1c0c0 : Int) : Option Bool :=
  (Option.bind (slices_IndexFunc_byte_byte_of_impl_areAll_byte__c1_p a0 a1c0c0) fun r1 => (some ((decide (r1 ≥ 0)))))
theorem slices_ContainsFunc_byte_byte_of_impl_areAll_byte__c1_p_ok (a0 : (List Int)) (a1c0c0 : Int) (r : Bool) (h : slices_ContainsFunc_byte_byte_of_impl_areAll_byte__c1_p a0 a1c0c0 = some r) : Den Try.prog 202 [(eSu8 a0), (.clo 203 [] [(.ref (.clo 182 [] [(.ref (i6 a1c0c0) [] [])]) [] [])])] { r := (.bool r) } := by
  refine den_of (rs := [(.bool r)]) (ac := slices_ContainsFunc_byte_byte_of_impl_areAll_byte__c1_p_c) (L := slices_ContainsFunc_byte_byte_of_impl_areAll_byte__c1_p_L) (n := 9) (m := []) (c := Try.f202.body.getD .skip) good Try.func202 (by kernel_rfl) (by kernel_rfl) Try.ntmps202 rfl rfl (by kernel_rfl) rfl rfl ?_
  refine a_st (σ' := ⟨[(0, (eSu8 a0)), (1, (.clo 203 [] [(.ref (.clo 182 [] [(.ref (i6 a1c0c0) [] [])]) [] [])]))], []⟩) (by kernel_rfl) ?_
  unfold slices_ContainsFunc_byte_byte_of_impl_areAll_byte__c1_p_c
  refine sr (vp (.bool false) rfl (nx ⟨[(0, (eSu8 a0)), (1, (.clo 203 [] [(.ref (.clo 182 [] [(.ref (i6 a1c0c0) [] [])]) [] [])]))], []⟩ (by kernel_rfl) (sr (vp (eSu8 a0) rfl (vp (.clo 203 [] [(.ref (.clo 182 [] [(.ref (i6 a1c0c0) [] [])]) [] [])]) rfl ?_)))))
  obtain ⟨r1, hr2, h⟩ := bind_some h
  refine a_call (args := [(eSu8 a0), (.clo 203 [] [(.ref (.clo 182 [] [(.ref (i6 a1c0c0) [] [])]) [] [])])]) (u := []) (r := (i6 r1)) rfl rfl (slices_IndexFunc_byte_byte_of_impl_areAll_byte__c1_p_ok a0 a1c0c0 r1 hr2) rfl (vp (.bool ((decide (r1 ≥ 0)))) rfl (vp (.bool ((decide (r1 ≥ 0)))) rfl (nx _ rfl (a_ret ?_))))
  refine ⟨.inr rfl, ?_⟩
  rw [Try.results202]
  cases h
  exact ⟨_, _, _, _, _, rfl, trivial, .inl ⟨rfl, .inl rfl⟩, rfl, rfl⟩
def impl_areAll_byte_of_impl_isPoly_c1_p_c : ACode := (.seq (.region 0 [q 3 (.box 149 (t 1)), q 4 (.asg 0 (.const (.bool false)) 4)] false) (.seq (.region 1 [q 5 (.mov (t 0)), q 6 (.mkfn 203 [] [(t 3)]), q 7 (.call 0 (.func 202) [(t 5), (t 6)]), q 8 (.un .not (t 7)), q 4 (.asg 0 (t 8) 4)] false) .ret))
def impl_areAll_byte_of_impl_isPoly_c1_p_L : Live := [(0, [0, 1]), (1, [0, 3])]
noncomputable def impl_areAll_byte_of_impl_isPoly_c1_p (a0 : (List Int)) (a1c0 : Int) : Option Bool :=
  (Option.bind (slices_ContainsFunc_byte_byte_of_impl_areAll_byte__c1_p a0 a1c0) fun r1 => (some (!r1)))
theorem impl_areAll_byte_of_impl_isPoly_c1_p_ok (a0 : (List Int)) (a1c0 : Int) (r : Bool) (h : impl_areAll_byte_of_impl_isPoly_c1_p a0 a1c0 = some r) : Den Try.prog 181 [(eSu8 a0), (.clo 182 [] [(.ref (i6 a1c0) [] [])])] { r := (.bool r) } := by
  refine den_of (rs := [(.bool r)]) (ac := impl_areAll_byte_of_impl_isPoly_c1_p_c) (L := impl_areAll_byte_of_impl_isPoly_c1_p_L) (n := 9) (m := []) (c := Try.f181.body.getD .skip) good Try.func181 (by kernel_rfl) (by kernel_rfl) Try.ntmps181 rfl rfl (by kernel_rfl) rfl rfl ?_
  refine a_st (σ' := ⟨[(0, (eSu8 a0)), (1, (.clo 182 [] [(.ref (i6 a1c0) [] [])]))], []⟩) (by kernel_rfl) ?_
  unfold impl_areAll_byte_of_impl_isPoly_c1_p_c
  refine sr (vo 1300 (.clo 182 [] [(.ref (i6 a1c0) [] [])]) rfl rfl (vp (.bool false) rfl (nx ⟨[(0, (eSu8 a0)), (3, (ow 3))], [(3, (bk (.clo 182 [] [(.ref (i6 a1c0) [] [])])))]⟩ (by kernel_rfl) (sr (vp (eSu8 a0) rfl (vu (.clo 203 [] [(.ref (.clo 182 [] [(.ref (i6 a1c0) [] [])]) [] [])]) [(3, (bf (.clo 182 [] [(.ref (i6 a1c0) [] [])])))] rfl trivial rfl ?_))))))
  obtain ⟨r1, hr2, h⟩ := bind_some h
  refine a_call (args := [(eSu8 a0), (.clo 203 [] [(.ref (.clo 182 [] [(.ref (i6 a1c0) [] [])]) [] [])])]) (u := []) (r := (.bool r1)) rfl rfl (slices_ContainsFunc_byte_byte_of_impl_areAll_byte__c1_p_ok a0 a1c0 r1 hr2) rfl (vp (.bool (!r1)) rfl (vp (.bool (!r1)) rfl (nx _ rfl (a_ret ?_))))
  refine ⟨.inr rfl, ?_⟩
  rw [Try.results181]
  cases h
  exact ⟨_, _, _, _, _, rfl, trivial, .inl ⟨rfl, .inl rfl⟩, rfl, rfl⟩
def impl_isPoly_c : ACode := (.seq (.region 0 [q 2 (.box 2 (t 0)), q 3 (.box 25 (t 1)), q 4 (.asg 0 (.const (.bool false)) 4)] false) (.seq (.region 1 [q 5 (.slice 25 (t 3) none none none), q 6 (.mkfn 182 [] [(t 2)]), q 7 (.call 0 (.func 181) [(t 5), (t 6)]), q 4 (.asg 0 (t 7) 4)] false) .ret))
def impl_isPoly_L : Live := [(0, [0, 1]), (1, [2, 3])]
noncomputable def impl_isPoly (a0 : Int) (a1 : (Vec Int 64)) : Option Bool :=
  (Option.bind (impl_areAll_byte_of_impl_isPoly_c1_p a1.1 a0) fun r1 => (some r1))
theorem impl_isPoly_ok (a0 : Int) (a1 : (Vec Int 64)) (r : Bool) (h : impl_isPoly a0 a1 = some r) : Den Try.prog 107 [(i6 a0), (eA64u8 a1)] { r := (.bool r) } := by
  refine den_of (rs := [(.bool r)]) (ac := impl_isPoly_c) (L := impl_isPoly_L) (n := 8) (m := []) (c := Try.f107.body.getD .skip) good Try.func107 (by kernel_rfl) (by kernel_rfl) Try.ntmps107 rfl rfl (by kernel_rfl) rfl rfl ?_
  refine a_st (σ' := ⟨[(0, (i6 a0)), (1, (eA64u8 a1))], []⟩) (by kernel_rfl) ?_
  unfold impl_isPoly_c
  refine sr (vo 1200 (i6 a0) rfl rfl (vo 1300 (eA64u8 a1) rfl rfl (vp (.bool false) rfl (nx ⟨[(2, (ow 2)), (3, (ow 3))], [(2, (bk (i6 a0))), (3, (bk (eA64u8 a1)))]⟩ (by kernel_rfl) (sr (vu (.sl 1 true (a1.1.map (AV.int .u8))) [(3, (bf (eA64u8 a1)))] rfl ⟨rfl, trivial, rfl, rfl⟩ rfl (vu (.clo 182 [] [(.ref (i6 a0) [] [])]) [(2, (bf (i6 a0)))] rfl trivial rfl ?_)))))))
  obtain ⟨r1, hr2, h⟩ := bind_some h
  refine a_call (args := [(.sl 1 true (a1.1.map (AV.int .u8))), (.clo 182 [] [(.ref (i6 a0) [] [])])]) (u := []) (r := (.bool r1)) rfl rfl (Den.args (impl_areAll_byte_of_impl_isPoly_c1_p_ok a1.1 a0 r1 hr2) rfl rfl (.cons (.loose _) (.cons (.refl _) .nil))) rfl (vp (.bool r1) rfl (nx _ rfl (a_ret ?_)))
  refine ⟨.inr rfl, ?_⟩
  rw [Try.results107]
  cases h
  exact ⟨_, _, _, _, _, rfl, trivial, .inl ⟨rfl, .inl rfl⟩, rfl, rfl⟩
def impl_polysCode_c1_of_p_c : ACode := (.seq (.region 0 [q 2 (.box 25 (t 0)), q 3 (.asg 0 (.const (.bool false)) 4)] false) (.seq (.region 1 [q 4 (.load 2 (t 1)), q 5 (.load 25 (t 2)), q 6 (.call 0 (.func 107) [(t 4), (t 5)]), q 3 (.asg 0 (t 6) 4)] false) .ret))
def impl_polysCode_c1_of_p_L : Live := [(0, [0, 1]), (1, [1, 2])]
noncomputable def impl_polysCode_c1_of_p (a0 : (Vec Int 64)) (a1 : Int) : Option Bool :=
  (Option.bind (impl_isPoly a1 a0) fun r3 => (some r3))
theorem impl_polysCode_c1_of_p_ok (a0 : (Vec Int 64)) (a1 : Int) (r : Bool) (h : impl_polysCode_c1_of_p a0 a1 = some r) : Den Try.prog 179 [(eA64u8 a0), (.ref (i6 a1) [] [])] { r := (.bool r) } := by
  refine den_of (rs := [(.bool r)]) (ac := impl_polysCode_c1_of_p_c) (L := impl_polysCode_c1_of_p_L) (n := 7) (m := []) (c := Try.f179.body.getD .skip) good Try.func179 (by kernel_rfl) (by kernel_rfl) Try.ntmps179 rfl rfl (by kernel_rfl) rfl rfl ?_
  refine a_st (σ' := ⟨[(0, (eA64u8 a0)), (1, (.ref (i6 a1) [] []))], []⟩) (by kernel_rfl) ?_
  unfold impl_polysCode_c1_of_p_c
  refine sr (vo 1200 (eA64u8 a0) rfl rfl (vp (.bool false) rfl (nx ⟨[(1, (.ref (i6 a1) [] [])), (2, (ow 2))], [(2, (bk (eA64u8 a0)))]⟩ (by kernel_rfl) (sr ?_))))
  have hl1 : LdOk [] (i6 a1) [] 1 false (i6 a1) := (.nil rfl rfl rfl)
  refine vq (i6 a1) (ld_ref (i := ⟨.int .i64, 1, 8, (.int .i64 0)⟩) rfl rfl hl1) hl1.c (vl (eA64u8 a0) rfl rfl rfl rfl rfl rfl ?_)
  obtain ⟨r3, hr4, h⟩ := bind_some h
  refine a_call (args := [(i6 a1), (eA64u8 a0)]) (u := []) (r := (.bool r3)) rfl rfl (impl_isPoly_ok a1 a0 r3 hr4) rfl (vp (.bool r3) rfl (nx _ rfl (a_ret ?_)))
  refine ⟨.inr rfl, ?_⟩
  rw [Try.results179]
  cases h
  exact ⟨_, _, _, _, _, rfl, trivial, .inl ⟨rfl, .inl rfl⟩, rfl, rfl⟩
def impl_areAll_impl_Poly__c1_of_p_c : ACode := (.seq (.region 0 [q 2 (.box 25 (t 0)), q 3 (.asg 0 (.const (.bool false)) 4)] false) (.seq (.region 1 [q 4 (.load 147 (t 1)), q 5 (.load 25 (t 2)), q 6 (.call 0 (t 4) [(t 5)]), q 7 (.un .not (t 6)), q 3 (.asg 0 (t 7) 4)] false) .ret))
def impl_areAll_impl_Poly__c1_of_p_L : Live := [(0, [0, 1]), (1, [1, 2])]
noncomputable def impl_areAll_impl_Poly__c1_of_p (a0 : (Vec Int 64)) (a1c0 : Int) : Option Bool :=
  (Option.bind (impl_polysCode_c1_of_p a0 a1c0) fun r3 => (some (!r3)))
theorem impl_areAll_impl_Poly__c1_of_p_ok (a0 : (Vec Int 64)) (a1c0 : Int) (r : Bool) (h : impl_areAll_impl_Poly__c1_of_p a0 a1c0 = some r) : Den Try.prog 201 [(eA64u8 a0), (.ref (.clo 179 [] [(.ref (i6 a1c0) [] [])]) [] [])] { r := (.bool r) } := by
  refine den_of (rs := [(.bool r)]) (ac := impl_areAll_impl_Poly__c1_of_p_c) (L := impl_areAll_impl_Poly__c1_of_p_L) (n := 8) (m := []) (c := Try.f201.body.getD .skip) good Try.func201 (by kernel_rfl) (by kernel_rfl) Try.ntmps201 rfl rfl (by kernel_rfl) rfl rfl ?_
  refine a_st (σ' := ⟨[(0, (eA64u8 a0)), (1, (.ref (.clo 179 [] [(.ref (i6 a1c0) [] [])]) [] []))], []⟩) (by kernel_rfl) ?_
  unfold impl_areAll_impl_Poly__c1_of_p_c
  refine sr (vo 1200 (eA64u8 a0) rfl rfl (vp (.bool false) rfl (nx ⟨[(1, (.ref (.clo 179 [] [(.ref (i6 a1c0) [] [])]) [] [])), (2, (ow 2))], [(2, (bk (eA64u8 a0)))]⟩ (by kernel_rfl) (sr ?_))))
  have hl1 : LdOk [] (.clo 179 [] [(.ref (i6 a1c0) [] [])]) [] 1 false (.clo 179 [] [(.ref (i6 a1c0) [] [])]) := (.nil rfl rfl rfl)
  refine vq (.clo 179 [] [(.ref (i6 a1c0) [] [])]) (ld_ref (i := ⟨.other, 1, 8, (.raw .nilFunc)⟩) rfl rfl hl1) hl1.c (vl (eA64u8 a0) rfl rfl rfl rfl rfl rfl ?_)
  obtain ⟨r3, hr4, h⟩ := bind_some h
  refine a_call (args := [(eA64u8 a0), (.ref (i6 a1c0) [] [])]) (u := []) (r := (.bool r3)) rfl rfl (impl_polysCode_c1_of_p_ok a0 a1c0 r3 hr4) rfl (vp (.bool (!r3)) rfl (vp (.bool (!r3)) rfl (nx _ rfl (a_ret ?_))))
  refine ⟨.inr rfl, ?_⟩
  rw [Try.results201]
  cases h
  exact ⟨_, _, _, _, _, rfl, trivial, .inl ⟨rfl, .inl rfl⟩, rfl, rfl⟩
def slices_IndexFunc_impl_Poly_impl_Poly_of_impl_areAll_impl_Poly__c1_p_c : ACode := (.seq (.region 0 [q 4 (.asg 0 (.const (.int .i64 0)) 3)] false) (.seq (.seq (.region 1 [q 6 (.mov (t 0)), q 7 (.blt 0 .len [(t 6)] [55]), q 8 (.mov (.const (.int .i64 0)))] false) (.block 0 (.loop (.seq (.region 2 [q 9 (.bin .lss 3 (t 8) (t 7))] false) (.seq (.cond (t 9) .skip (.exit 0)) (.seq (.block 1 (.seq (.region 3 [q 10 (.mov (t 8)), q 5 (.asg 0 (t 10) 3)] false) (.seq (.region 4 [q 11 (.mov (t 1)), q 12 (.mov (t 0)), q 13 (.mov (t 5)), q 14 (.indexAddr 55 (t 12) (t 13)), q 15 (.load 25 (t 14)), q 16 (.call 0 (t 11) [(t 15)])] false) (.cond (t 16) (.seq (.region 5 [q 17 (.mov (t 5)), q 4 (.asg 0 (t 17) 3)] false) .ret) .skip)))) (.region 6 [q 18 (.bin .add 3 (t 8) (.const (.int .i64 1))), q 8 (.mov (t 18))] false))))))) (.seq (.region 7 [q 4 (.asg 0 (.const (.int .i64 (-1))) 3)] false) .ret)))
def slices_IndexFunc_impl_Poly_impl_Poly_of_impl_areAll_impl_Poly__c1_p_L : Live := [(0, [0, 1]), (1, [0, 1]), (2, [0, 1, 7, 8]), (3, [0, 1, 7, 8]), (4, [0, 1, 5, 7, 8]), (5, [5]), (6, [0, 1, 7, 8]), (7, []), (100009, [0, 1, 7, 8, 9]), (100016, [0, 1, 5, 7, 8, 16])]
noncomputable def slices_IndexFunc_impl_Poly_impl_Poly_of_impl_areAll_impl_Poly__c1_p_l1 (a0 : (List (Vec Int 64))) (a1c0c0 : Int) (x33 : Int) : Option (Int ⊕ (Unit ⊕ Int)) :=
  (if (decide (x33 < (a0.length : Int))) then (ifp (0 ≤ x33 ∧ x33 < ((a0.length : Nat) : Int)) ((Option.bind (impl_areAll_impl_Poly__c1_of_p (rd a0 x33.toNat) a1c0c0) fun r46 => (if r46 then (some (.inr (.inr x33))) else (some (.inl (IntKind.i64.wrap (x33 + 1)))))))) else (some (.inr (((.inl ()))))))
noncomputable def slices_IndexFunc_impl_Poly_impl_Poly_of_impl_areAll_impl_Poly__c1_p (a0 : (List (Vec Int 64))) (a1c0c0 : Int) : Option Int :=
  (Option.bind (α := (Unit ⊕ Int)) ((loopM (fun s : Int => slices_IndexFunc_impl_Poly_impl_Poly_of_impl_areAll_impl_Poly__c1_p_l1 a0 a1c0c0 s) 0)) fun z => match z with | .inl _ => (some (-1)) | .inr r50 => (some r50))
theorem slices_IndexFunc_impl_Poly_impl_Poly_of_impl_areAll_impl_Poly__c1_p_ok (a0 : (List (Vec Int 64))) (a1c0c0 : Int) (r : Int) (h : slices_IndexFunc_impl_Poly_impl_Poly_of_impl_areAll_impl_Poly__c1_p a0 a1c0c0 = some r) : Den Try.prog 208 [(eSA64u8 a0), (.clo 201 [] [(.ref (.clo 179 [] [(.ref (i6 a1c0c0) [] [])]) [] [])])] { r := (i6 r) } := by
  refine den_of (rs := [(i6 r)]) (ac := slices_IndexFunc_impl_Poly_impl_Poly_of_impl_areAll_impl_Poly__c1_p_c) (L := slices_IndexFunc_impl_Poly_impl_Poly_of_impl_areAll_impl_Poly__c1_p_L) (n := 19) (m := []) (c := Try.f208.body.getD .skip) good Try.func208 (by kernel_rfl) (by kernel_rfl) Try.ntmps208 rfl rfl (by kernel_rfl) rfl rfl ?_
  refine a_st (σ' := ⟨[(0, (eSA64u8 a0)), (1, (.clo 201 [] [(.ref (.clo 179 [] [(.ref (i6 a1c0c0) [] [])]) [] [])]))], []⟩) (by kernel_rfl) ?_
  unfold slices_IndexFunc_impl_Poly_impl_Poly_of_impl_areAll_impl_Poly__c1_p_c
  refine sr (vp (i6 0) rfl (nx ⟨[(0, (eSA64u8 a0)), (1, (.clo 201 [] [(.ref (.clo 179 [] [(.ref (i6 a1c0c0) [] [])]) [] [])]))], []⟩ (by kernel_rfl) ?_))
  obtain ⟨y24, hy25, hk26⟩ := bind_some h
  clear h
  refine a_join (emb := fun (s : Unit) => ⟨[], []⟩) (pre := fun s => (.inl s) = y24) ?_ ?_
  · rintro _ rfl
    have h := hk26
    refine a_st (σ' := ⟨[], []⟩) (by kernel_rfl) (sr (vp (i6 (-1)) rfl (nx _ rfl (a_ret ?_))))
    refine ⟨.inr rfl, ?_⟩
    rw [Try.results208]
    cases h
    exact ⟨_, _, _, _, _, rfl, trivial, .inl ⟨rfl, .inl rfl⟩, rfl, rfl⟩
  · have h := hy25
    refine sr (vp (eSA64u8 a0) rfl (vq (i6 (a0.length : Int)) (len_run rfl rfl) trivial (vp (i6 0) rfl (nx ⟨[(0, (eSA64u8 a0)), (1, (.clo 201 [] [(.ref (.clo 179 [] [(.ref (i6 a1c0c0) [] [])]) [] [])])), (7, (i6 (a0.length : Int))), (8, (i6 0))], []⟩ (by kernel_rfl) (a_block ?_)))))
    refine a_loop (emb := fun (s : Int) => ⟨[(0, (eSA64u8 a0)), (1, (.clo 201 [] [(.ref (.clo 179 [] [(.ref (i6 a1c0c0) [] [])]) [] [])])), (7, (i6 (a0.length : Int))), (8, (i6 s))], []⟩) (body := (fun s : Int => slices_IndexFunc_impl_Poly_impl_Poly_of_impl_areAll_impl_Poly__c1_p_l1 a0 a1c0c0 s)) (G := fun q => some q = some y24) h rfl ?_ (by kernel_rfl)
    rintro X40 x33 x41 h hX42
    have h : slices_IndexFunc_impl_Poly_impl_Poly_of_impl_areAll_impl_Poly__c1_p_l1 a0 a1c0c0 x33 = some x41 := h
    refine a_st (σ' := ⟨[(0, (eSA64u8 a0)), (1, (.clo 201 [] [(.ref (.clo 179 [] [(.ref (i6 a1c0c0) [] [])]) [] [])])), (7, (i6 (a0.length : Int))), (8, (i6 x33))], []⟩) (by kernel_rfl) (sr (vp (.bool ((decide (x33 < (a0.length : Int))))) rfl (nx ⟨[(0, (eSA64u8 a0)), (1, (.clo 201 [] [(.ref (.clo 179 [] [(.ref (i6 a1c0c0) [] [])]) [] [])])), (7, (i6 (a0.length : Int))), (8, (i6 x33)), (9, (.bool ((decide (x33 < (a0.length : Int))))))], []⟩ (by kernel_rfl) (a_seq ?_))))
    cases hb43 : (decide (x33 < (a0.length : Int)))
    · have h := ite_f hb43 h
      refine a_cond_f rfl (a_exit (t_exit ?_))
      cases h
      have h := hX42
      refine t_exit (b_exit ?_)
      exact j_leaf () (Option.some.inj h) (by kernel_rfl)
    · have h := ite_t hb43 h
      refine a_cond_t rfl (a_skip (a_next (σ' := ⟨[(0, (eSA64u8 a0)), (1, (.clo 201 [] [(.ref (.clo 179 [] [(.ref (i6 a1c0c0) [] [])]) [] [])])), (7, (i6 (a0.length : Int))), (8, (i6 x33))], []⟩) (by kernel_rfl) (a_seq (a_block (sr (vp (i6 x33) rfl (vp (i6 x33) rfl (nx ⟨[(0, (eSA64u8 a0)), (1, (.clo 201 [] [(.ref (.clo 179 [] [(.ref (i6 a1c0c0) [] [])]) [] [])])), (5, (i6 x33)), (7, (i6 (a0.length : Int))), (8, (i6 x33))], []⟩ (by kernel_rfl) (sr ?_)))))))))
      refine vp (.clo 201 [] [(.ref (.clo 179 [] [(.ref (i6 a1c0c0) [] [])]) [] [])]) rfl (vp (eSA64u8 a0) rfl (vp (i6 x33) rfl ?_))
      obtain ⟨hc44, h⟩ := ifp_some h
      refine vq (.ref (.row 64 (a0.map eA64u8)) [x33.toNat] [x33.toNat * 64]) rfl (lmap hc44) ?_
      have hl45 : LdOk [x33.toNat] (.row 64 (a0.map eA64u8)) [x33.toNat * 64] 64 true (eA64u8 (rd a0 x33.toNat)) := (.row (llt hc44) rfl (.nil rfl rfl rfl))
      refine vq (eA64u8 (rd a0 x33.toNat)) (ld_ref (i := ⟨.arr 64 5, 64, 64, (eA64u8 (vrep 64 (0 : Int)))⟩) rfl rfl hl45) hl45.c ?_
      obtain ⟨r46, hr47, h⟩ := bind_some h
      refine a_call (args := [(eA64u8 (rd a0 x33.toNat)), (.ref (.clo 179 [] [(.ref (i6 a1c0c0) [] [])]) [] [])]) (u := []) (r := (.bool r46)) rfl rfl (impl_areAll_impl_Poly__c1_of_p_ok (rd a0 x33.toNat) a1c0c0 r46 hr47) rfl (nx ⟨[(0, (eSA64u8 a0)), (1, (.clo 201 [] [(.ref (.clo 179 [] [(.ref (i6 a1c0c0) [] [])]) [] [])])), (5, (i6 x33)), (7, (i6 (a0.length : Int))), (8, (i6 x33)), (16, (.bool r46))], []⟩ (by kernel_rfl) ?_)
      cases hb48 : r46
      · have h := ite_f hb48 h
        refine a_cond_f rfl (a_skip (b_norm (a_next (σ' := ⟨[(0, (eSA64u8 a0)), (1, (.clo 201 [] [(.ref (.clo 179 [] [(.ref (i6 a1c0c0) [] [])]) [] [])])), (7, (i6 (a0.length : Int))), (8, (i6 x33))], []⟩) (by kernel_rfl) (a_region (vp (i6 (IntKind.i64.wrap (x33 + 1))) rfl (vp (i6 (IntKind.i64.wrap (x33 + 1))) rfl (a_nil ?_)))))))
        cases h
        exact a_again (by kernel_rfl) hX42
      · have h := ite_t hb48 h
        refine a_cond_t rfl (sr (vp (i6 x33) rfl (vp (i6 x33) rfl (nx _ rfl (a_ret (b_ret (t_ret ?_)))))))
        cases h
        have h := hX42
        refine t_ret (b_ret (t_ret ?_))
        cases h
        have h := hk26
        refine ⟨.inr rfl, ?_⟩
        rw [Try.results208]
        cases h
        exact ⟨_, _, _, _, _, rfl, trivial, .inl ⟨rfl, .inl rfl⟩, rfl, rfl⟩
def slices_ContainsFunc_impl_Poly_impl_Poly_of_impl_areAll_impl_Poly__c1_p_c : ACode := (.seq (.region 0 [q 4 (.asg 0 (.const (.bool false)) 4)] false) (.seq (.region 1 [q 5 (.mov (t 0)), q 6 (.mov (t 1)), q 7 (.call 0 (.func 208) [(t 5), (t 6)]), q 8 (.bin .geq 3 (t 7) (.const (.int .i64 0))), q 4 (.asg 0 (t 8) 4)] false) .ret))
def slices_ContainsFunc_impl_Poly_impl_Poly_of_impl_areAll_impl_Poly__c1_p_L : Live := [(0, [0, 1]), (1, [0, 1])]
noncomputable def slices_ContainsFunc_impl_Poly_impl_Poly_of_impl_areAll_impl_Poly__c1_p (a0 : (List (Vec Int 64))) (a1c0c0 : Int) : Option Bool :=
  (Option.bind (slices_IndexFunc_impl_Poly_impl_Poly_of_impl_areAll_impl_Poly__c1_p a0 a1c0c0) fun r1 => (some ((decide (r1 ≥ 0)))))
theorem slices_ContainsFunc_impl_Poly_impl_Poly_of_impl_areAll_impl_Poly__c1_p_ok (a0 : (List (Vec Int 64))) (a1c0c0 : Int) (r : Bool) (h : slices_ContainsFunc_impl_Poly_impl_Poly_of_impl_areAll_impl_Poly__c1_p a0 a1c0c0 = some r) : Den Try.prog 200 [(eSA64u8 a0), (.clo 201 [] [(.ref (.clo 179 [] [(.ref (i6 a1c0c0) [] [])]) [] [])])] { r := (.bool r) } := by
  refine den_of (rs := [(.bool r)]) (ac := slices_ContainsFunc_impl_Poly_impl_Poly_of_impl_areAll_impl_Poly__c1_p_c) (L := slices_ContainsFunc_impl_Poly_impl_Poly_of_impl_areAll_impl_Poly__c1_p_L) (n := 9) (m := []) (c := Try.f200.body.getD .skip) good Try.func200 (by kernel_rfl) (by kernel_rfl) Try.ntmps200 rfl rfl (by kernel_rfl) rfl rfl ?_
  refine a_st (σ' := ⟨[(0, (eSA64u8 a0)), (1, (.clo 201 [] [(.ref (.clo 179 [] [(.ref (i6 a1c0c0) [] [])]) [] [])]))], []⟩) (by kernel_rfl) ?_
  unfold slices_ContainsFunc_impl_Poly_impl_Poly_of_impl_areAll_impl_Poly__c1_p_c
  refine sr (vp (.bool false) rfl (nx ⟨[(0, (eSA64u8 a0)), (1, (.clo 201 [] [(.ref (.clo 179 [] [(.ref (i6 a1c0c0) [] [])]) [] [])]))], []⟩ (by kernel_rfl) (sr (vp (eSA64u8 a0) rfl (vp (.clo 201 [] [(.ref (.clo 179 [] [(.ref (i6 a1c0c0) [] [])]) [] [])]) rfl ?_)))))
  obtain ⟨r1, hr2, h⟩ := bind_some h
  refine a_call (args := [(eSA64u8 a0), (.clo 201 [] [(.ref (.clo 179 [] [(.ref (i6 a1c0c0) [] [])]) [] [])])]) (u := []) (r := (i6 r1)) rfl rfl (slices_IndexFunc_impl_Poly_impl_Poly_of_impl_areAll_impl_Poly__c1_p_ok a0 a1c0c0 r1 hr2) rfl (vp (.bool ((decide (r1 ≥ 0)))) rfl (vp (.bool ((decide (r1 ≥ 0)))) rfl (nx _ rfl (a_ret ?_))))
  refine ⟨.inr rfl, ?_⟩
  rw [Try.results200]
  cases h
  exact ⟨_, _, _, _, _, rfl, trivial, .inl ⟨rfl, .inl rfl⟩, rfl, rfl⟩
def impl_areAll_impl_Poly_of_impl_polysCode_c1_p_c : ACode := (.seq (.region 0 [q 3 (.box 147 (t 1)), q 4 (.asg 0 (.const (.bool false)) 4)] false) (.seq (.region 1 [q 5 (.mov (t 0)), q 6 (.mkfn 201 [] [(t 3)]), q 7 (.call 0 (.func 200) [(t 5), (t 6)]), q 8 (.un .not (t 7)), q 4 (.asg 0 (t 8) 4)] false) .ret))
def impl_areAll_impl_Poly_of_impl_polysCode_c1_p_L : Live := [(0, [0, 1]), (1, [0, 3])]
noncomputable def impl_areAll_impl_Poly_of_impl_polysCode_c1_p (a0 : (List (Vec Int 64))) (a1c0 : Int) : Option Bool :=
  (Option.bind (slices_ContainsFunc_impl_Poly_impl_Poly_of_impl_areAll_impl_Poly__c1_p a0 a1c0) fun r1 => (some (!r1)))
theorem impl_areAll_impl_Poly_of_impl_polysCode_c1_p_ok (a0 : (List (Vec Int 64))) (a1c0 : Int) (r : Bool) (h : impl_areAll_impl_Poly_of_impl_polysCode_c1_p a0 a1c0 = some r) : Den Try.prog 178 [(eSA64u8 a0), (.clo 179 [] [(.ref (i6 a1c0) [] [])])] { r := (.bool r) } := by
  refine den_of (rs := [(.bool r)]) (ac := impl_areAll_impl_Poly_of_impl_polysCode_c1_p_c) (L := impl_areAll_impl_Poly_of_impl_polysCode_c1_p_L) (n := 9) (m := []) (c := Try.f178.body.getD .skip) good Try.func178 (by kernel_rfl) (by kernel_rfl) Try.ntmps178 rfl rfl (by kernel_rfl) rfl rfl ?_
  refine a_st (σ' := ⟨[(0, (eSA64u8 a0)), (1, (.clo 179 [] [(.ref (i6 a1c0) [] [])]))], []⟩) (by kernel_rfl) ?_
  unfold impl_areAll_impl_Poly_of_impl_polysCode_c1_p_c
  refine sr (vo 1300 (.clo 179 [] [(.ref (i6 a1c0) [] [])]) rfl rfl (vp (.bool false) rfl (nx ⟨[(0, (eSA64u8 a0)), (3, (ow 3))], [(3, (bk (.clo 179 [] [(.ref (i6 a1c0) [] [])])))]⟩ (by kernel_rfl) (sr (vp (eSA64u8 a0) rfl (vu (.clo 201 [] [(.ref (.clo 179 [] [(.ref (i6 a1c0) [] [])]) [] [])]) [(3, (bf (.clo 179 [] [(.ref (i6 a1c0) [] [])])))] rfl trivial rfl ?_))))))
  obtain ⟨r1, hr2, h⟩ := bind_some h
  refine a_call (args := [(eSA64u8 a0), (.clo 201 [] [(.ref (.clo 179 [] [(.ref (i6 a1c0) [] [])]) [] [])])]) (u := []) (r := (.bool r1)) rfl rfl (slices_ContainsFunc_impl_Poly_impl_Poly_of_impl_areAll_impl_Poly__c1_p_ok a0 a1c0 r1 hr2) rfl (vp (.bool (!r1)) rfl (vp (.bool (!r1)) rfl (nx _ rfl (a_ret ?_))))
  refine ⟨.inr rfl, ?_⟩
  rw [Try.results178]
  cases h
  exact ⟨_, _, _, _, _, rfl, trivial, .inl ⟨rfl, .inl rfl⟩, rfl, rfl⟩
def impl_polysCode_c : ACode := (.seq (.region 0 [q 2 (.box 2 (t 0)), q 4 (.asg 0 (.const (.int .i64 0)) 2)] false) (.seq (.seq (.region 1 [q 5 (.load 2 (t 2)), q 6 (.call 0 (.func 106) [(t 5)]), q 7 (.un .not (t 6)), q 8 (.mov (t 7)), ⟨some 9, .mov (t 1), some (8, false), []⟩, ⟨some 10, .mkfn 179 [] [(t 2)], some (8, false), []⟩, ⟨some 11, .call 0 (.func 178) [(t 9), (t 10)], some (8, false), []⟩, ⟨some 12, .un .not (t 11), some (8, false), []⟩, q 13 (.pick (t 8) (.const (.bool true)) (t 12))] false) (.cond (t 13) (.seq (.region 2 [q 4 (.asg 0 (.const (.int .i64 1)) 2)] false) .ret) .skip)) (.seq (.region 3 [q 4 (.asg 0 (.const (.int .i64 0)) 2)] false) .ret)))
def impl_polysCode_L : Live := [(0, [0, 1]), (1, [1, 2]), (2, []), (3, []), (100013, [13])]
noncomputable def impl_polysCode (a0 : Int) (a1 : (List (Vec Int 64))) : Option Int :=
  (Option.bind (α := Bool) ((Option.bind (impl_isPrime a0) fun r12 => (if (!r12) then (some true) else (Option.bind (impl_areAll_impl_Poly_of_impl_polysCode_c1_p a1 a0) fun r15 => (some (!r15)))))) fun x7 => (if x7 then (some 1) else (some 0)))
theorem impl_polysCode_ok (a0 : Int) (a1 : (List (Vec Int 64))) (r : Int) (h : impl_polysCode a0 a1 = some r) : Den Try.prog 100 [(i6 a0), (eSA64u8 a1)] { r := (i6 r) } := by
  refine den_of (rs := [(i6 r)]) (ac := impl_polysCode_c) (L := impl_polysCode_L) (n := 14) (m := []) (c := Try.f100.body.getD .skip) good Try.func100 (by kernel_rfl) (by kernel_rfl) Try.ntmps100 rfl rfl (by kernel_rfl) rfl rfl ?_
  refine a_st (σ' := ⟨[(0, (i6 a0)), (1, (eSA64u8 a1))], []⟩) (by kernel_rfl) ?_
  unfold impl_polysCode_c
  refine sr (vo 1200 (i6 a0) rfl rfl (vp (i6 0) rfl (nx ⟨[(1, (eSA64u8 a1)), (2, (ow 2))], [(2, (bk (i6 a0)))]⟩ (by kernel_rfl) (a_seq ?_))))
  obtain ⟨y8, hy9, hk10⟩ := bind_some h
  clear h
  refine a_join (emb := fun (s : Bool) => ⟨[(13, (.bool s))], []⟩) (pre := fun s => s = y8) ?_ ?_
  · rintro x7 rfl
    have h := hk10
    refine a_st (σ' := ⟨[(13, (.bool x7))], []⟩) (by kernel_rfl) ?_
    cases hb17 : x7
    · have h := ite_f hb17 h
      refine a_cond_f rfl (a_skip (a_next (σ' := ⟨[], []⟩) (by kernel_rfl) (sr (vp (i6 0) rfl (nx _ rfl (a_ret ?_))))))
      refine ⟨.inr rfl, ?_⟩
      rw [Try.results100]
      cases h
      exact ⟨_, _, _, _, _, rfl, trivial, .inl ⟨rfl, .inl rfl⟩, rfl, rfl⟩
    · have h := ite_t hb17 h
      refine a_cond_t rfl (sr (vp (i6 1) rfl (nx _ rfl (a_ret (t_ret ?_)))))
      refine ⟨.inr rfl, ?_⟩
      rw [Try.results100]
      cases h
      exact ⟨_, _, _, _, _, rfl, trivial, .inl ⟨rfl, .inl rfl⟩, rfl, rfl⟩
  · have h := hy9
    refine a_region (vl (i6 a0) rfl rfl rfl rfl rfl rfl ?_)
    obtain ⟨r12, hr13, h⟩ := bind_some h
    refine a_call (args := [(i6 a0)]) (u := []) (r := (.bool r12)) rfl rfl (impl_isPrime_ok a0 r12 hr13) rfl (vp (.bool (!r12)) rfl (vp (.bool (!r12)) rfl ?_))
    cases hb14 : (!r12)
    · have h := ite_f hb14 h
      refine gp (eSA64u8 a1) rfl rfl (a_gval rfl (v := (.clo 179 [] [(.ref (i6 a0) [] [])])) (u := [(2, (bf (i6 a0)))]) rfl trivial rfl ?_)
      obtain ⟨r15, hr16, h⟩ := bind_some h
      refine a_gcall rfl (args := [(eSA64u8 a1), (.clo 179 [] [(.ref (i6 a0) [] [])])]) (u := []) (r := (.bool r15)) rfl rfl (impl_areAll_impl_Poly_of_impl_polysCode_c1_p_ok a1 a0 r15 hr16) rfl (gp (.bool (!r15)) rfl rfl (vp (.bool (!r15)) rfl (a_nil ?_)))
      exact j_leaf (!r15) (Option.some.inj h) (by kernel_rfl)
    · have h := ite_t hb14 h
      refine a_gskip rfl (a_gskip rfl (a_gskip rfl (a_gskip rfl (vp (.bool true) rfl (a_nil ?_)))))
      exact j_leaf true (Option.some.inj h) (by kernel_rfl)
end Go.Proofs.Ytkbnegemdlnncaa
