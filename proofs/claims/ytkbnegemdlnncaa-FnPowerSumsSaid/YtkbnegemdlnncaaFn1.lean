/- Functions of the program: plain Lean functions, and that the program computes them. Printed by gen.py. -/
import Derived.Test.YtkbnegemdlnncaaFnT
namespace Go.Proofs.Ytkbnegemdlnncaa
open Go.Abs Go.Proofs
set_option linter.unusedSimpArgs false
set_option linter.unusedVariables false
set_option maxHeartbeats 16000000
attribute [local irreducible] Abs.acode Abs.aops Abs.aopsT Abs.thenK Abs.blockK

def laws_big_c : ACode := (.seq (.region 0 [q 2 (.asg 0 (.const (.bool false)) 4)] false) (.seq (.region 1 [q 3 (.mov (t 0)), q 4 (.blt 0 .len [(t 3)] [22]), q 5 (.bin .gtr 3 (t 4) (.const (.int .i64 4096))), q 2 (.asg 0 (t 5) 4)] false) .ret))
def laws_big_L : Live := [(0, [0]), (1, [0])]
noncomputable def laws_big (a0 : (List Int)) : Option Bool :=
  (some ((decide ((a0.length : Int) > 4096))))
theorem laws_big_ok (a0 : (List Int)) (r : Bool) (h : laws_big a0 = some r) : Den Try.prog 10 [(eSu8 a0)] { r := (.bool r) } := by
  refine den_of (rs := [(.bool r)]) (ac := laws_big_c) (L := laws_big_L) (n := 6) (m := []) (c := Try.f10.body.getD .skip) good Try.func10 (by kernel_rfl) (by kernel_rfl) Try.ntmps10 rfl rfl (by kernel_rfl) rfl rfl ?_
  refine a_st (σ' := ⟨[(0, (eSu8 a0))], []⟩) (by kernel_rfl) ?_
  unfold laws_big_c
  refine sr (vp (.bool false) rfl (nx ⟨[(0, (eSu8 a0))], []⟩ (by kernel_rfl) (sr (vp (eSu8 a0) rfl (vq (i6 (a0.length : Int)) (len_run rfl rfl) trivial (vp (.bool ((decide ((a0.length : Int) > 4096)))) rfl (vp (.bool ((decide ((a0.length : Int) > 4096)))) rfl (nx _ rfl (a_ret ?_)))))))))
  refine ⟨.inr rfl, ?_⟩
  rw [Try.results10]
  cases h
  exact ⟨_, _, _, _, _, rfl, trivial, .inl ⟨rfl, .inl rfl⟩, rfl, rfl⟩
def spec_l01From_c : ACode := (.seq (.region 0 [q 2 (.asg 0 (.const (.pointer none)) 96)] false) (.seq (.region 1 [q 5 (.mov (t 0)), q 6 (.mov (t 0)), q 7 (.blt 0 .len [(t 6)] [22]), q 8 (.conv 3 153 (t 7)), q 9 (.bin .add 153 (.const (.int .u64 12251)) (t 8)), q 10 (.build 155 [(0, (t 5)), (2, (t 9))]), q 11 (.box 155 (t 10)), q 3 (.asg 0 (t 11) 96)] false) (.seq (.seq (.region 2 [q 4 (.asg 0 (.const (.int .i64 0)) 3)] false) (.block 0 (.loop (.seq (.seq (.region 3 [q 12 (.mov (t 4)), q 13 (.mov (t 0)), q 14 (.blt 0 .len [(t 13)] [22]), q 15 (.bin .lss 3 (t 12) (t 14)), q 16 (.mov (t 15)), ⟨some 17, .mov (t 4), some (16, true), []⟩, ⟨some 18, .bin .lss 3 (t 17) (.const (.int .i64 4096)), some (16, true), []⟩, q 19 (.pick (t 16) (t 18) (.const (.bool false)))] false) (.cond (t 19) .skip (.exit 0))) (.seq (.block 1 (.region 5 [q 22 (.mov (t 3)), q 23 (.mov (t 3)), ⟨some 24, .nilCheck (t 23), none, [1]⟩, ⟨some 25, .fieldAddr 155 (t 24) 2, none, [2]⟩, ⟨some 26, .load 153 (t 25), none, [3]⟩, ⟨some 27, .bin .mul 153 (t 26) (.const (.int .u64 1099511628211)), none, [4]⟩, q 28 (.mov (t 0)), q 29 (.mov (t 4)), ⟨some 30, .indexAddr 22 (t 28) (t 29), none, [6, 7]⟩, ⟨some 31, .load 5 (t 30), none, [8]⟩, ⟨some 32, .conv 5 153 (t 31), none, [9]⟩, ⟨some 33, .bin .add 153 (t 27) (t 32), none, [5, 10]⟩, ⟨some 34, .bin .add 153 (t 33) (.const (.int .u64 61)), none, [11]⟩, ⟨some 35, .nilCheck (t 22), none, [0, 0, 1, 2, 3, 4, 5, 6, 7, 8, 9, 10, 11, 12]⟩, ⟨some 36, .fieldAddr 155 (t 35) 2, none, [13, 0, 1, 2, 3, 4, 5, 6, 7, 8, 9, 10, 11, 12]⟩, ⟨none, .store 153 (t 36) (t 34), none, [14, 12, 0, 1, 2, 3, 4, 5, 6, 7, 8, 9, 10, 11, 12]⟩] true)) (.region 4 [q 20 (.mov (t 4)), q 21 (.bin .add 3 (t 20) (.const (.int .i64 1))), q 4 (.asg 0 (t 21) 3)] false)))))) (.seq (.region 6 [q 37 (.mov (t 3)), q 2 (.asg 0 (t 37) 96)] false) .ret))))
def spec_l01From_L : Live := [(0, [0]), (1, [0]), (2, [0, 3]), (3, [0, 3, 4]), (4, [0, 3, 4]), (5, [0, 3, 4]), (6, [3]), (100019, [0, 3, 4, 19])]
noncomputable def spec_l01From_l1 (a0 : (List Int)) (x89 : Int) (x90 : ((List Int) × Int × Int)) : Option ((Int × ((List Int) × Int × Int)) ⊕ ((List Int) × Int × Int)) :=
  (Option.bind (α := Bool) ((if (decide (x89 < (a0.length : Int))) then (some ((decide (x89 < 4096)))) else (some false))) fun x114 => (if x114 then (ifp (0 ≤ x89 ∧ x89 < ((a0.length : Nat) : Int)) ((letp (IntKind.u64.wrap ((IntKind.u64.wrap (x90.2.2 * 1099511628211)) + (IntKind.u64.wrap (rd a0 x89.toNat)))) fun x129 => (some (.inl ((IntKind.i64.wrap (x89 + 1), (x90.1, x90.2.1, IntKind.u64.wrap (x129 + 61))))))))) else (some (.inr x90))))
noncomputable def spec_l01From (a0 : (List Int)) : Option ((List Int) × Int × Int) :=
  (letp (IntKind.u64.wrap (12251 + (IntKind.u64.wrap (a0.length : Int)))) fun x1 => (Option.bind (α := ((List Int) × Int × Int)) ((loopM (fun s : (Int × ((List Int) × Int × Int)) => spec_l01From_l1 a0 s.1 s.2) (0, (a0, (0 : Int), x1)))) fun x66 => (some x66)))
theorem spec_l01From_ok (a0 : (List Int)) (r : ((List Int) × Int × Int)) (h : spec_l01From a0 = some r) : Den Try.prog 116 [(eSu8 a0)] { r := (ow 2000000), ms := [], fs := [(0, [eT_Su8_i64_u64_Z r])] } := by
  refine den_ofX (rs := [(ow 2000000)]) (ac := spec_l01From_c) (L := spec_l01From_L) (n := 38) (m := []) (c := Try.f116.body.getD .skip) good Try.func116 (by kernel_rfl) (by kernel_rfl) Try.ntmps116 rfl rfl (by kernel_rfl) rfl ?_
  refine a_st (σ' := ⟨[(0, (eSu8 a0))], []⟩) (by kernel_rfl) ?_
  unfold spec_l01From_c
  refine sr (vp (.raw (.pointer none)) rfl (nx ⟨[(0, (eSu8 a0))], []⟩ (by kernel_rfl) (sr (vp (eSu8 a0) rfl (vp (eSu8 a0) rfl (vq (i6 (a0.length : Int)) (len_run rfl rfl) trivial (vp (.int .u64 (IntKind.u64.wrap (a0.length : Int))) rfl ?_)))))))
  obtain ⟨x1, hx2, h⟩ := letp_some h
  refine a_val' (v := (.int .u64 (IntKind.u64.wrap (12251 + (IntKind.u64.wrap (a0.length : Int)))))) (v' := (.int .u64 x1)) (u := []) (u' := []) rfl (congrArg (fun z => ((.int .u64 z) : AV)) hx2) rfl trivial rfl (vq (eT_Su8_i64_u64_Z ((a0, (0 : Int), x1))) rfl ⟨rfl, (all_cons ⟨(Nat.le_of_ble_eq_true rfl), rfl⟩ (all_cons ⟨(Nat.le_of_ble_eq_true rfl), rfl⟩ all_nil))⟩ (vo 2100 (eT_Su8_i64_u64_Z ((a0, (0 : Int), x1))) rfl rfl (vp (ow 2100) rfl (nx ⟨[(0, (eSu8 a0)), (3, (ow 3))], [(3, (bk (eT_Su8_i64_u64_Z ((a0, (0 : Int), x1)))))]⟩ (by kernel_rfl) ?_))))
  obtain ⟨y67, hy68, hk69⟩ := bind_some h
  clear h
  refine a_join (emb := fun (s : ((List Int) × Int × Int)) => ⟨[(3, (ow 3))], [(3, (bk (eT_Su8_i64_u64_Z s)))]⟩) (pre := fun s => s = y67) ?_ ?_
  · rintro x66 rfl
    have h := hk69
    refine a_st (σ' := ⟨[(3, (ow 3))], [(3, (bk (eT_Su8_i64_u64_Z x66)))]⟩) (by kernel_rfl) (sr (vp (ow 3) rfl (vp (ow 3) rfl (nx _ rfl (a_ret ?_)))))
    refine ⟨.inr rfl, ?_⟩
    rw [Try.results116]
    cases h
    exact ⟨[some 3], ⟨_, _, _, _, _, rfl, trivial, rfl, .inr (.inr (.inl ⟨_, _, _, _, rfl, rfl, rfl, rfl, rfl, ⟨rfl, rfl, rfl⟩⟩))⟩, rfl, rfl⟩
  · have h := hy68
    refine sr (vp (i6 0) rfl (nx ⟨[(0, (eSu8 a0)), (3, (ow 3)), (4, (i6 0))], [(3, (bk (eT_Su8_i64_u64_Z ((a0, (0 : Int), x1)))))]⟩ (by kernel_rfl) (a_block ?_)))
    refine a_loop (emb := fun (s : (Int × ((List Int) × Int × Int))) => ⟨[(0, (eSu8 a0)), (3, (ow 3)), (4, (i6 s.1))], [(3, (bk (eT_Su8_i64_u64_Z s.2)))]⟩) (body := (fun s : (Int × ((List Int) × Int × Int)) => spec_l01From_l1 a0 s.1 s.2)) (G := fun q => some q = some y67) h rfl ?_ (by kernel_rfl)
    rintro X110 ⟨x89, x90⟩ x111 h hX112
    have h : spec_l01From_l1 a0 x89 x90 = some x111 := h
    refine a_st (σ' := ⟨[(0, (eSu8 a0)), (3, (ow 3)), (4, (i6 x89))], [(3, (bk (eT_Su8_i64_u64_Z x90)))]⟩) (by kernel_rfl) (a_seq ?_)
    obtain ⟨y115, hy116, hk117⟩ := bind_some h
    clear h
    refine a_join (emb := fun (s : Bool) => ⟨[(0, (eSu8 a0)), (3, (ow 3)), (4, (i6 x89)), (19, (.bool s))], [(3, (bk (eT_Su8_i64_u64_Z x90)))]⟩) (pre := fun s => s = y115) ?_ ?_
    · rintro x114 rfl
      have h := hk117
      refine a_st (σ' := ⟨[(0, (eSu8 a0)), (3, (ow 3)), (4, (i6 x89)), (19, (.bool x114))], [(3, (bk (eT_Su8_i64_u64_Z x90)))]⟩) (by kernel_rfl) ?_
      cases hb119 : x114
      · have h := ite_f hb119 h
        refine a_cond_f rfl (a_exit (t_exit ?_))
        cases h
        have h := hX112
        refine t_exit (b_exit ?_)
        exact j_leaf x90 (Option.some.inj h) (by kernel_rfl)
      · have h := ite_t hb119 h
        refine a_cond_t rfl (a_skip (a_next (σ' := ⟨[(0, (eSu8 a0)), (3, (ow 3)), (4, (i6 x89))], [(3, (bk (eT_Su8_i64_u64_Z x90)))]⟩) (by kernel_rfl) (a_seq (a_block (a_draw [⟨[], [], [3], []⟩, ⟨[], [], [3], []⟩, ⟨[3], [], [3], [1]⟩, ⟨[3], [], [3], [1, 2]⟩, ⟨[3], [], [], [1, 2, 3]⟩, ⟨[], [], [], [1, 2, 3, 4]⟩, ⟨[], [], [], []⟩, ⟨[], [], [], []⟩, ⟨[], [], [], [6, 7]⟩, ⟨[], [], [], [6, 7, 8]⟩, ⟨[], [], [], [6, 7, 8, 9]⟩, ⟨[], [], [], [1, 2, 3, 4, 5, 6, 7, 8, 9, 10]⟩, ⟨[], [], [], [1, 2, 3, 4, 5, 6, 7, 8, 9, 10, 11]⟩, ⟨[3], [], [3], [0, 1, 2, 3, 4, 5, 6, 7, 8, 9, 10, 11, 12]⟩, ⟨[3], [], [3], [0, 1, 2, 3, 4, 5, 6, 7, 8, 9, 10, 11, 12, 13]⟩, ⟨[3], [3], [], [0, 1, 2, 3, 4, 5, 6, 7, 8, 9, 10, 11, 12, 13, 14]⟩] (by kernel_rfl) (dp (ow 3) rfl (by kernel_rfl) (dp (ow 3) rfl (by kernel_rfl) (dp (ow 3) rfl (by kernel_rfl) (d_cons ?_)))))))))
        refine vb (.own 3 [2] [2]) rfl rfl (d_next (by kernel_rfl) (d_cons ?_))
        have hl126 : LdOk [2] (eT_Su8_i64_u64_Z x90) [2] 1 false (.int .u64 x90.2.2) := (.fld rfl rfl rfl rfl (.nil rfl rfl rfl))
        refine vq (.int .u64 x90.2.2) (ld_own (i := ⟨.int .u64, 1, 8, (.int .u64 0)⟩) rfl rfl rfl hl126) hl126.c (d_next (by kernel_rfl) (dp (.int .u64 (IntKind.u64.wrap (x90.2.2 * 1099511628211))) rfl (by kernel_rfl) (dp (eSu8 a0) rfl (by kernel_rfl) (dp (i6 x89) rfl (by kernel_rfl) (d_cons ?_)))))
        obtain ⟨hc127, h⟩ := ifp_some h
        refine vq (.ref (.row 1 (a0.map (AV.int .u8))) [x89.toNat] [x89.toNat * 1]) rfl (lmap hc127) (d_next (by kernel_rfl) (d_cons ?_))
        have hl128 : LdOk [x89.toNat] (.row 1 (a0.map (AV.int .u8))) [x89.toNat * 1] 1 false (b8 (rd a0 x89.toNat)) := (.row (llt hc127) rfl (.nil rfl rfl rfl))
        refine vq (b8 (rd a0 x89.toNat)) (ld_ref (i := ⟨.int .u8, 1, 1, (.int .u8 0)⟩) rfl rfl hl128) hl128.c (d_next (by kernel_rfl) (dp (.int .u64 (IntKind.u64.wrap (rd a0 x89.toNat))) rfl (by kernel_rfl) (d_cons ?_)))
        obtain ⟨x129, hx130, h⟩ := letp_some h
        refine a_val' (v := (.int .u64 (IntKind.u64.wrap ((IntKind.u64.wrap (x90.2.2 * 1099511628211)) + (IntKind.u64.wrap (rd a0 x89.toNat)))))) (v' := (.int .u64 x129)) (u := []) (u' := []) rfl (congrArg (fun z => ((.int .u64 z) : AV)) hx130) rfl trivial rfl (d_next (by kernel_rfl) (dp (.int .u64 (IntKind.u64.wrap (x129 + 61))) rfl (by kernel_rfl) (dp (ow 3) rfl (by kernel_rfl) (d_cons (vb (.own 3 [2] [2]) rfl rfl (d_next (by kernel_rfl) (d_cons ?_)))))))
        have hs131 : StOk [2] (eT_Su8_i64_u64_Z x90) [2] 1 (.int .u64 (IntKind.u64.wrap (x129 + 61))) (eT_Su8_i64_u64_Z ((x90.1, x90.2.1, IntKind.u64.wrap (x129 + 61)))) := (.fld rfl rfl rfl rfl (.nil rfl rfl rfl rfl))
        refine vu .top [(3, (bk (eT_Su8_i64_u64_Z ((x90.1, x90.2.1, IntKind.u64.wrap (x129 + 61))))))] (st_own (i := ⟨.int .u64, 1, 8, (.int .u64 0)⟩) rfl rfl (fun _ => rfl) rfl hs131) (hs131.c rfl) rfl (d_next (by kernel_rfl) (d_nil (b_norm (a_next (σ' := ⟨[(0, (eSu8 a0)), (3, (ow 3)), (4, (i6 x89))], [(3, (bk (eT_Su8_i64_u64_Z ((x90.1, x90.2.1, IntKind.u64.wrap (x129 + 61))))))]⟩) (by kernel_rfl) (a_region (vp (i6 x89) rfl (vp (i6 (IntKind.i64.wrap (x89 + 1))) rfl (vp (i6 (IntKind.i64.wrap (x89 + 1))) rfl (a_nil ?_)))))))))
        cases h
        exact a_again (by kernel_rfl) hX112
    · have h := hy116
      refine a_region (vp (i6 x89) rfl (vp (eSu8 a0) rfl (vq (i6 (a0.length : Int)) (len_run rfl rfl) trivial (vp (.bool ((decide (x89 < (a0.length : Int))))) rfl (vp (.bool ((decide (x89 < (a0.length : Int))))) rfl ?_)))))
      cases hb118 : (decide (x89 < (a0.length : Int)))
      · have h := ite_f hb118 h
        refine a_gskip rfl (a_gskip rfl (vp (.bool false) rfl (a_nil ?_)))
        exact j_leaf false (Option.some.inj h) (by kernel_rfl)
      · have h := ite_t hb118 h
        refine gp (i6 x89) rfl rfl (gp (.bool ((decide (x89 < 4096)))) rfl rfl (vp (.bool ((decide (x89 < 4096)))) rfl (a_nil ?_)))
        exact j_leaf ((decide (x89 < 4096))) (Option.some.inj h) (by kernel_rfl)
def spec_l01Next_of_src_c : ACode := (.seq (.region 0 [q 4 (.asg 0 (.const (.int .i64 0)) 2)] false) (.seq (.seq (.region 1 [q 6 (.mov (t 1)), q 7 (.bin .lss 2 (t 6) (.const (.int .i64 1)))] false) (.cond (t 7) (.seq (.region 2 [q 4 (.asg 0 (.const (.int .i64 0)) 2)] false) .ret) .skip)) (.seq (.region 3 [q 8 (.mov (t 0)), q 9 (.mov (t 0)), q 10 (.nilCheck (t 9)), q 11 (.fieldAddr 155 (t 10) 2), q 12 (.load 153 (t 11)), q 13 (.bin .mul 153 (t 12) (.const (.int .u64 6364136223846793005))), q 14 (.bin .add 153 (t 13) (.const (.int .u64 1442695040888963407))), q 15 (.nilCheck (t 8)), q 16 (.fieldAddr 155 (t 15) 2), ⟨none, .store 153 (t 16) (t 14), none, []⟩] false) (.seq (.region 4 [q 17 (.mov (t 0)), q 18 (.nilCheck (t 17)), q 19 (.fieldAddr 155 (t 18) 2), q 20 (.load 153 (t 19)), q 21 (.bin .shr 153 (t 20) (.const (.int .u64 33))), q 22 (.bin .and 153 (t 21) (.const (.int .u64 16777215))), q 23 (.conv 153 2 (t 22)), q 5 (.asg 0 (t 23) 2)] false) (.seq (.seq (.region 5 [q 24 (.mov (t 0)), ⟨some 25, .nilCheck (t 24), none, [0]⟩, ⟨some 26, .fieldAddr 155 (t 25) 1, none, [1]⟩, ⟨some 27, .load 3 (t 26), none, [2]⟩, q 28 (.mov (t 0)), ⟨some 29, .nilCheck (t 28), none, [4]⟩, ⟨some 30, .fieldAddr 155 (t 29) 0, none, [5]⟩, ⟨some 31, .load 22 (t 30), none, [6]⟩, ⟨some 32, .blt 0 .len [(t 31)] [22], none, [7]⟩, ⟨some 33, .bin .lss 3 (t 27) (t 32), none, [3, 8]⟩] true) (.cond (t 33) (.seq (.region 6 [q 34 (.mov (t 5)), q 35 (.mov (t 0)), ⟨some 36, .nilCheck (t 35), none, [1]⟩, ⟨some 37, .fieldAddr 155 (t 36) 0, none, [2]⟩, ⟨some 38, .load 22 (t 37), none, [3]⟩, q 39 (.mov (t 0)), ⟨some 40, .nilCheck (t 39), none, [5]⟩, ⟨some 41, .fieldAddr 155 (t 40) 1, none, [6]⟩, ⟨some 42, .load 3 (t 41), none, [7]⟩, ⟨some 43, .indexAddr 22 (t 38) (t 42), none, [4, 8]⟩, ⟨some 44, .load 5 (t 43), none, [9]⟩, ⟨some 45, .conv 5 2 (t 44), none, [10]⟩, ⟨some 46, .bin .add 2 (t 34) (t 45), none, [0, 11]⟩, ⟨some 5, .asg 0 (t 46) 2, none, [12, 0, 1, 2, 3, 4, 5, 6, 7, 8, 9, 10, 11, 12]⟩] true) (.region 7 [q 47 (.mov (t 0)), q 48 (.mov (t 0)), q 49 (.nilCheck (t 48)), q 50 (.fieldAddr 155 (t 49) 1), q 51 (.load 3 (t 50)), q 52 (.bin .add 3 (t 51) (.const (.int .i64 1))), q 53 (.nilCheck (t 47)), q 54 (.fieldAddr 155 (t 53) 1), ⟨none, .store 3 (t 54) (t 52), none, []⟩] false)) .skip)) (.seq (.region 8 [q 55 (.mov (t 5)), q 56 (.mov (t 1)), q 57 (.bin .rem 2 (t 55) (t 56)), q 4 (.asg 0 (t 57) 2)] false) .ret))))))
def spec_l01Next_of_src_L : Live := [(0, [0, 1]), (1, [0, 1]), (2, []), (3, [0, 1]), (4, [0, 1]), (5, [0, 1, 5]), (6, [0, 1, 5]), (7, [0, 1, 5]), (8, [1, 5]), (100007, [0, 1, 7]), (100033, [0, 1, 5, 33])]
noncomputable def spec_l01Next_of_src (a0 : ((List Int) × Int × Int)) (a1 : Int) : Option (Int × ((List Int) × Int × Int)) :=
  (if (decide (a1 < 1)) then (some (0, a0)) else (letp (IntKind.u64.wrap ((IntKind.u64.wrap (a0.2.2 * 6364136223846793005)) + 1442695040888963407)) fun x3 => (letp (IntKind.u64.wrap (BitVec.ofInt IntKind.u64.bits (Int.fdiv x3 (2 ^ (min (33 : Int).toNat IntKind.u64.bits))) &&& BitVec.ofInt IntKind.u64.bits 16777215).toNat) fun x7 => (Option.bind (α := (Int × ((List Int) × Int × Int))) ((if (decide (a0.2.1 < (a0.1.length : Int))) then (ifp (0 ≤ a0.2.1 ∧ a0.2.1 < ((a0.1.length : Nat) : Int)) ((letp (IntKind.i64.wrap ((IntKind.i64.wrap x7) + (IntKind.i64.wrap (rd a0.1 a0.2.1.toNat)))) fun x48 => (some ((x48, (a0.1, IntKind.i64.wrap (a0.2.1 + 1), x3))))))) else (some ((IntKind.i64.wrap x7, (a0.1, a0.2.1, x3)))))) fun ⟨x28, x29⟩ => (ifp (a1 ≠ 0) ((some (Int.tmod x28 a1, x29))))))))
theorem spec_l01Next_of_src_ok (a0 : ((List Int) × Int × Int)) (a1 : Int) (r : (Int × ((List Int) × Int × Int))) (h : spec_l01Next_of_src a0 a1 = some r) : Den Try.prog 123 [(.mutp (eT_Su8_i64_u64_Z a0)), (i6 a1)] { r := (i6 r.1), ms := [(eT_Su8_i64_u64_Z r.2)], fs := [] } := by
  refine den_ofX (rs := [(i6 r.1)]) (ac := spec_l01Next_of_src_c) (L := spec_l01Next_of_src_L) (n := 58) (m := []) (c := Try.f123.body.getD .skip) good Try.func123 (by kernel_rfl) (by kernel_rfl) Try.ntmps123 rfl rfl (by kernel_rfl) rfl ?_
  refine a_st (σ' := ⟨[(0, (ow 1000000)), (1, (i6 a1))], [(1000000, (bk (eT_Su8_i64_u64_Z a0)))]⟩) (by kernel_rfl) ?_
  unfold spec_l01Next_of_src_c
  refine sr (vp (i6 0) rfl (nx ⟨[(0, (ow 1000000)), (1, (i6 a1))], [(1000000, (bk (eT_Su8_i64_u64_Z a0)))]⟩ (by kernel_rfl) (a_seq (sr (vp (i6 a1) rfl (vp (.bool ((decide (a1 < 1)))) rfl (nx ⟨[(0, (ow 1000000)), (1, (i6 a1)), (7, (.bool ((decide (a1 < 1)))))], [(1000000, (bk (eT_Su8_i64_u64_Z a0)))]⟩ (by kernel_rfl) ?_)))))))
  cases hb1 : (decide (a1 < 1))
  · have h := ite_f hb1 h
    refine a_cond_f rfl (a_skip (a_next (σ' := ⟨[(0, (ow 1000000)), (1, (i6 a1))], [(1000000, (bk (eT_Su8_i64_u64_Z a0)))]⟩) (by kernel_rfl) (sr (vp (ow 1000000) rfl (vp (ow 1000000) rfl (vp (ow 1000000) rfl (vb (.own 1000000 [2] [2]) rfl rfl ?_)))))))
    have hl2 : LdOk [2] (eT_Su8_i64_u64_Z a0) [2] 1 false (.int .u64 a0.2.2) := (.fld rfl rfl rfl rfl (.nil rfl rfl rfl))
    refine vq (.int .u64 a0.2.2) (ld_own (i := ⟨.int .u64, 1, 8, (.int .u64 0)⟩) rfl rfl rfl hl2) hl2.c (vp (.int .u64 (IntKind.u64.wrap (a0.2.2 * 6364136223846793005))) rfl ?_)
    obtain ⟨x3, hx4, h⟩ := letp_some h
    refine a_val' (v := (.int .u64 (IntKind.u64.wrap ((IntKind.u64.wrap (a0.2.2 * 6364136223846793005)) + 1442695040888963407)))) (v' := (.int .u64 x3)) (u := []) (u' := []) rfl (congrArg (fun z => ((.int .u64 z) : AV)) hx4) rfl trivial rfl (vp (ow 1000000) rfl (vb (.own 1000000 [2] [2]) rfl rfl ?_))
    have hs5 : StOk [2] (eT_Su8_i64_u64_Z a0) [2] 1 (.int .u64 x3) (eT_Su8_i64_u64_Z (a0.1, a0.2.1, x3)) := (.fld rfl rfl rfl rfl (.nil rfl rfl rfl rfl))
    refine vu .top [(1000000, (bk (eT_Su8_i64_u64_Z (a0.1, a0.2.1, x3))))] (st_own (i := ⟨.int .u64, 1, 8, (.int .u64 0)⟩) rfl rfl (fun _ => rfl) rfl hs5) (hs5.c rfl) rfl (nx ⟨[(0, (ow 1000000)), (1, (i6 a1))], [(1000000, (bk (eT_Su8_i64_u64_Z (a0.1, a0.2.1, x3))))]⟩ (by kernel_rfl) (sr (vp (ow 1000000) rfl (vp (ow 1000000) rfl (vb (.own 1000000 [2] [2]) rfl rfl ?_)))))
    have hl6 : LdOk [2] (eT_Su8_i64_u64_Z (a0.1, a0.2.1, x3)) [2] 1 false (.int .u64 x3) := (.fld rfl rfl rfl rfl (.nil rfl rfl rfl))
    refine vq (.int .u64 x3) (ld_own (i := ⟨.int .u64, 1, 8, (.int .u64 0)⟩) rfl rfl rfl hl6) hl6.c (vq (.int .u64 (Int.fdiv x3 (2 ^ (min (33 : Int).toNat IntKind.u64.bits)))) rfl (by decide) ?_)
    obtain ⟨x7, hx8, h⟩ := letp_some h
    refine a_val' (v := (.int .u64 (IntKind.u64.wrap (BitVec.ofInt IntKind.u64.bits (Int.fdiv x3 (2 ^ (min (33 : Int).toNat IntKind.u64.bits))) &&& BitVec.ofInt IntKind.u64.bits 16777215).toNat))) (v' := (.int .u64 x7)) (u := []) (u' := []) rfl (congrArg (fun z => ((.int .u64 z) : AV)) hx8) rfl trivial rfl (vp (i6 (IntKind.i64.wrap x7)) rfl (vp (i6 (IntKind.i64.wrap x7)) rfl (nx ⟨[(0, (ow 1000000)), (1, (i6 a1)), (5, (i6 (IntKind.i64.wrap x7)))], [(1000000, (bk (eT_Su8_i64_u64_Z (a0.1, a0.2.1, x3))))]⟩ (by kernel_rfl) ?_)))
    obtain ⟨y30, hy31, hk32⟩ := bind_some h
    clear h
    refine a_join (emb := fun (s : (Int × ((List Int) × Int × Int))) => ⟨[(1, (i6 a1)), (5, (i6 s.1))], [(1000000, (bk (eT_Su8_i64_u64_Z s.2)))]⟩) (pre := fun s => s = y30) ?_ ?_
    · rintro ⟨x28, x29⟩ rfl
      have h := hk32
      refine a_st (σ' := ⟨[(1, (i6 a1)), (5, (i6 x28))], [(1000000, (bk (eT_Su8_i64_u64_Z x29)))]⟩) (by kernel_rfl) (sr (vp (i6 x28) rfl (vp (i6 a1) rfl ?_)))
      obtain ⟨hc52, h⟩ := ifp_some h
      refine vq (i6 (Int.tmod x28 a1)) rfl hc52 (vp (i6 (Int.tmod x28 a1)) rfl (nx _ rfl (a_ret ?_)))
      refine ⟨.inr rfl, ?_⟩
      rw [Try.results123]
      cases h
      exact ⟨[], ⟨_, _, _, _, _, rfl, trivial, rfl, .inl ⟨rfl, .inl rfl, ⟨rfl, rfl, rfl⟩⟩⟩, rfl, ⟨_, _, rfl, rfl, rfl⟩⟩
    · have h := hy31
      refine a_seq (a_draw [⟨[], [], [1000000], []⟩, ⟨[1000000], [], [1000000], [0]⟩, ⟨[1000000], [], [1000000], [0, 1]⟩, ⟨[1000000], [], [], [0, 1, 2]⟩, ⟨[], [], [1000000], []⟩, ⟨[1000000], [], [1000000], [4]⟩, ⟨[1000000], [], [1000000], [4, 5]⟩, ⟨[1000000], [], [], [4, 5, 6]⟩, ⟨[], [], [], [4, 5, 6, 7]⟩, ⟨[], [], [], [0, 1, 2, 3, 4, 5, 6, 7, 8]⟩] (by kernel_rfl) (dp (ow 1000000) rfl (by kernel_rfl) (dp (ow 1000000) rfl (by kernel_rfl) (d_cons (vb (.own 1000000 [1] [1]) rfl rfl (d_next (by kernel_rfl) (d_cons ?_)))))))
      have hl35 : LdOk [1] (eT_Su8_i64_u64_Z (a0.1, a0.2.1, x3)) [1] 1 false (i6 a0.2.1) := (.fld rfl rfl rfl rfl (.nil rfl rfl rfl))
      refine vq (i6 a0.2.1) (ld_own (i := ⟨.int .i64, 1, 8, (.int .i64 0)⟩) rfl rfl rfl hl35) hl35.c (d_next (by kernel_rfl) (dp (ow 1000000) rfl (by kernel_rfl) (dp (ow 1000000) rfl (by kernel_rfl) (d_cons (vb (.own 1000000 [0] [0]) rfl rfl (d_next (by kernel_rfl) (d_cons ?_)))))))
      have hl36 : LdOk [0] (eT_Su8_i64_u64_Z (a0.1, a0.2.1, x3)) [0] 1 false (eSu8 a0.1) := (.fld rfl rfl rfl rfl (.nil rfl rfl rfl))
      refine vq (eSu8 a0.1) (ld_own (i := ⟨.slice 5, 1, 24, (eSu8 [])⟩) rfl rfl rfl hl36) hl36.c (d_next (by kernel_rfl) (d_cons (vq (i6 (a0.1.length : Int)) (len_run rfl rfl) trivial (d_next (by kernel_rfl) (dp (.bool ((decide (a0.2.1 < (a0.1.length : Int))))) rfl (by kernel_rfl) (d_nil (a_next (σ' := ⟨[(0, (ow 1000000)), (1, (i6 a1)), (5, (i6 (IntKind.i64.wrap x7))), (33, (.bool ((decide (a0.2.1 < (a0.1.length : Int))))))], [(1000000, (bk (eT_Su8_i64_u64_Z (a0.1, a0.2.1, x3))))]⟩) (by kernel_rfl) ?_)))))))
      cases hb37 : (decide (a0.2.1 < (a0.1.length : Int)))
      · have h := ite_f hb37 h
        refine a_cond_f rfl (a_skip ?_)
        exact j_leaf ((IntKind.i64.wrap x7, (a0.1, a0.2.1, x3))) (Option.some.inj h) (by kernel_rfl)
      · have h := ite_t hb37 h
        refine a_cond_t rfl (a_seq (a_draw [⟨[], [], [], []⟩, ⟨[], [], [1000000], []⟩, ⟨[1000000], [], [1000000], [1]⟩, ⟨[1000000], [], [1000000], [1, 2]⟩, ⟨[1000000], [], [], [1, 2, 3]⟩, ⟨[], [], [1000000], []⟩, ⟨[1000000], [], [1000000], [5]⟩, ⟨[1000000], [], [1000000], [5, 6]⟩, ⟨[1000000], [], [], [5, 6, 7]⟩, ⟨[], [], [], [1, 2, 3, 4, 5, 6, 7, 8]⟩, ⟨[], [], [], [1, 2, 3, 4, 5, 6, 7, 8, 9]⟩, ⟨[], [], [], [1, 2, 3, 4, 5, 6, 7, 8, 9, 10]⟩, ⟨[], [], [], [0, 1, 2, 3, 4, 5, 6, 7, 8, 9, 10, 11]⟩, ⟨[], [], [], [0, 1, 2, 3, 4, 5, 6, 7, 8, 9, 10, 11, 12]⟩] (by kernel_rfl) (dp (i6 (IntKind.i64.wrap x7)) rfl (by kernel_rfl) (dp (ow 1000000) rfl (by kernel_rfl) (dp (ow 1000000) rfl (by kernel_rfl) (d_cons (vb (.own 1000000 [0] [0]) rfl rfl (d_next (by kernel_rfl) (d_cons ?_)))))))))
        have hl44 : LdOk [0] (eT_Su8_i64_u64_Z (a0.1, a0.2.1, x3)) [0] 1 false (eSu8 a0.1) := (.fld rfl rfl rfl rfl (.nil rfl rfl rfl))
        refine vq (eSu8 a0.1) (ld_own (i := ⟨.slice 5, 1, 24, (eSu8 [])⟩) rfl rfl rfl hl44) hl44.c (d_next (by kernel_rfl) (dp (ow 1000000) rfl (by kernel_rfl) (dp (ow 1000000) rfl (by kernel_rfl) (d_cons (vb (.own 1000000 [1] [1]) rfl rfl (d_next (by kernel_rfl) (d_cons ?_)))))))
        have hl45 : LdOk [1] (eT_Su8_i64_u64_Z (a0.1, a0.2.1, x3)) [1] 1 false (i6 a0.2.1) := (.fld rfl rfl rfl rfl (.nil rfl rfl rfl))
        refine vq (i6 a0.2.1) (ld_own (i := ⟨.int .i64, 1, 8, (.int .i64 0)⟩) rfl rfl rfl hl45) hl45.c (d_next (by kernel_rfl) (d_cons ?_))
        obtain ⟨hc46, h⟩ := ifp_some h
        refine vq (.ref (.row 1 (a0.1.map (AV.int .u8))) [a0.2.1.toNat] [a0.2.1.toNat * 1]) rfl (lmap hc46) (d_next (by kernel_rfl) (d_cons ?_))
        have hl47 : LdOk [a0.2.1.toNat] (.row 1 (a0.1.map (AV.int .u8))) [a0.2.1.toNat * 1] 1 false (b8 (rd a0.1 a0.2.1.toNat)) := (.row (llt hc46) rfl (.nil rfl rfl rfl))
        refine vq (b8 (rd a0.1 a0.2.1.toNat)) (ld_ref (i := ⟨.int .u8, 1, 1, (.int .u8 0)⟩) rfl rfl hl47) hl47.c (d_next (by kernel_rfl) (dp (i6 (IntKind.i64.wrap (rd a0.1 a0.2.1.toNat))) rfl (by kernel_rfl) (d_cons ?_)))
        obtain ⟨x48, hx49, h⟩ := letp_some h
        refine a_val' (v := (i6 (IntKind.i64.wrap ((IntKind.i64.wrap x7) + (IntKind.i64.wrap (rd a0.1 a0.2.1.toNat)))))) (v' := (i6 x48)) (u := []) (u' := []) rfl (congrArg (fun z => ((i6 z) : AV)) hx49) rfl trivial rfl (d_next (by kernel_rfl) (dp (i6 x48) rfl (by kernel_rfl) (d_nil (a_next (σ' := ⟨[(0, (ow 1000000)), (1, (i6 a1)), (5, (i6 x48))], [(1000000, (bk (eT_Su8_i64_u64_Z (a0.1, a0.2.1, x3))))]⟩) (by kernel_rfl) (a_region (vp (ow 1000000) rfl (vp (ow 1000000) rfl (vp (ow 1000000) rfl (vb (.own 1000000 [1] [1]) rfl rfl ?_)))))))))
        have hl50 : LdOk [1] (eT_Su8_i64_u64_Z (a0.1, a0.2.1, x3)) [1] 1 false (i6 a0.2.1) := (.fld rfl rfl rfl rfl (.nil rfl rfl rfl))
        refine vq (i6 a0.2.1) (ld_own (i := ⟨.int .i64, 1, 8, (.int .i64 0)⟩) rfl rfl rfl hl50) hl50.c (vp (i6 (IntKind.i64.wrap (a0.2.1 + 1))) rfl (vp (ow 1000000) rfl (vb (.own 1000000 [1] [1]) rfl rfl ?_)))
        have hs51 : StOk [1] (eT_Su8_i64_u64_Z (a0.1, a0.2.1, x3)) [1] 1 (i6 (IntKind.i64.wrap (a0.2.1 + 1))) (eT_Su8_i64_u64_Z ((a0.1, IntKind.i64.wrap (a0.2.1 + 1), x3))) := (.fld rfl rfl rfl rfl (.nil rfl rfl rfl rfl))
        refine vu .top [(1000000, (bk (eT_Su8_i64_u64_Z ((a0.1, IntKind.i64.wrap (a0.2.1 + 1), x3)))))] (st_own (i := ⟨.int .i64, 1, 8, (.int .i64 0)⟩) rfl rfl (fun _ => rfl) rfl hs51) (hs51.c rfl) rfl (a_nil ?_)
        exact j_leaf ((x48, (a0.1, IntKind.i64.wrap (a0.2.1 + 1), x3))) (Option.some.inj h) (by kernel_rfl)
  · have h := ite_t hb1 h
    refine a_cond_t rfl (sr (vp (i6 0) rfl (nx _ rfl (a_ret (t_ret ?_)))))
    refine ⟨.inr rfl, ?_⟩
    rw [Try.results123]
    cases h
    exact ⟨[], ⟨_, _, _, _, _, rfl, trivial, rfl, .inl ⟨rfl, .inl rfl, ⟨rfl, rfl, rfl⟩⟩⟩, rfl, ⟨_, _, rfl, rfl, rfl⟩⟩
def spec_l01Pick_of_src_c : ACode := (.seq (.region 0 [q 4 (.asg 0 (.const (.int .i64 0)) 2)] false) (.seq (.region 1 [q 5 (.mov (t 1)), q 6 (.mov (t 0)), q 7 (.mov (t 1)), q 8 (.blt 0 .len [(t 7)] [59]), q 9 (.call 1 (.func 123) [(t 6), (t 8)]), q 10 (.indexAddr 59 (t 5) (t 9)), q 11 (.load 2 (t 10)), q 4 (.asg 0 (t 11) 2)] false) .ret))
def spec_l01Pick_of_src_L : Live := [(0, [0, 1]), (1, [0, 1])]
noncomputable def spec_l01Pick_of_src (a0 : ((List Int) × Int × Int)) (a1 : (List Int)) : Option (Int × ((List Int) × Int × Int)) :=
  (Option.bind (spec_l01Next_of_src a0 (a1.length : Int)) fun r1 => (ifp (0 ≤ r1.1 ∧ r1.1 < ((a1.length : Nat) : Int)) ((some (((rd a1 r1.1.toNat), r1.2))))))
theorem spec_l01Pick_of_src_ok (a0 : ((List Int) × Int × Int)) (a1 : (List Int)) (r : (Int × ((List Int) × Int × Int))) (h : spec_l01Pick_of_src a0 a1 = some r) : Den Try.prog 122 [(.mutp (eT_Su8_i64_u64_Z a0)), (eSi64 a1)] { r := (i6 r.1), ms := [(eT_Su8_i64_u64_Z r.2)], fs := [] } := by
  refine den_ofX (rs := [(i6 r.1)]) (ac := spec_l01Pick_of_src_c) (L := spec_l01Pick_of_src_L) (n := 12) (m := [(9, 1)]) (c := Try.f122.body.getD .skip) good Try.func122 (by kernel_rfl) (by kernel_rfl) Try.ntmps122 rfl rfl (by kernel_rfl) rfl ?_
  refine a_st (σ' := ⟨[(0, (ow 1000000)), (1, (eSi64 a1))], [(1000000, (bk (eT_Su8_i64_u64_Z a0)))]⟩) (by kernel_rfl) ?_
  unfold spec_l01Pick_of_src_c
  refine sr (vp (i6 0) rfl (nx ⟨[(0, (ow 1000000)), (1, (eSi64 a1))], [(1000000, (bk (eT_Su8_i64_u64_Z a0)))]⟩ (by kernel_rfl) (sr (vp (eSi64 a1) rfl (vp (ow 1000000) rfl (vp (eSi64 a1) rfl (vq (i6 (a1.length : Int)) (len_run rfl rfl) trivial ?_)))))))
  obtain ⟨r1, hr2, h⟩ := bind_some h
  refine a_callM (args := [(.mutp (eT_Su8_i64_u64_Z a0)), (i6 (a1.length : Int))]) (i := 0) (id := 1000000) (r := (i6 r1.1)) (c := (eT_Su8_i64_u64_Z r1.2)) rfl rfl (spec_l01Next_of_src_ok a0 (a1.length : Int) r1 hr2) rfl trivial ?_
  obtain ⟨hc4, h⟩ := ifp_some h
  refine vq (.ref (.row 1 (a1.map (AV.int .i64))) [r1.1.toNat] [r1.1.toNat * 1]) rfl (lmap hc4) ?_
  have hl5 : LdOk [r1.1.toNat] (.row 1 (a1.map (AV.int .i64))) [r1.1.toNat * 1] 1 false (i6 (rd a1 r1.1.toNat)) := (.row (llt hc4) rfl (.nil rfl rfl rfl))
  refine vq (i6 (rd a1 r1.1.toNat)) (ld_ref (i := ⟨.int .i64, 1, 8, (.int .i64 0)⟩) rfl rfl hl5) hl5.c (vp (i6 (rd a1 r1.1.toNat)) rfl (nx _ rfl (a_ret ?_)))
  refine ⟨.inr rfl, ?_⟩
  rw [Try.results122]
  cases h
  exact ⟨[], ⟨_, _, _, _, _, rfl, trivial, rfl, .inl ⟨rfl, .inl rfl, ⟨rfl, rfl, rfl⟩⟩⟩, rfl, ⟨_, _, rfl, rfl, rfl⟩⟩
def spec_l01DrawPrime_of_src_c : ACode := (.seq (.region 0 [q 2 (.asg 0 (.const (.int .i64 0)) 2)] false) (.seq (.region 1 [q 3 (.mov (t 0)), q 4 (.bslice 0 59 6 [(0, (.const (.int .i64 2))), (1, (.const (.int .i64 2))), (2, (.const (.int .i64 3))), (3, (.const (.int .i64 3))), (4, (.const (.int .i64 5))), (5, (.const (.int .i64 7)))]), q 5 (.call 1 (.func 122) [(t 3), (t 4)]), q 2 (.asg 0 (t 5) 2)] false) .ret))
def spec_l01DrawPrime_of_src_L : Live := [(0, [0]), (1, [0])]
noncomputable def spec_l01DrawPrime_of_src (a0 : ((List Int) × Int × Int)) : Option (Int × ((List Int) × Int × Int)) :=
  (Option.bind (spec_l01Pick_of_src a0 ([2, 2, 3, 3, 5, 7])) fun r1 => (some (r1.1, r1.2)))
theorem spec_l01DrawPrime_of_src_ok (a0 : ((List Int) × Int × Int)) (r : (Int × ((List Int) × Int × Int))) (h : spec_l01DrawPrime_of_src a0 = some r) : Den Try.prog 188 [(.mutp (eT_Su8_i64_u64_Z a0))] { r := (i6 r.1), ms := [(eT_Su8_i64_u64_Z r.2)], fs := [] } := by
  refine den_ofX (rs := [(i6 r.1)]) (ac := spec_l01DrawPrime_of_src_c) (L := spec_l01DrawPrime_of_src_L) (n := 6) (m := [(5, 1)]) (c := Try.f188.body.getD .skip) good Try.func188 (by kernel_rfl) (by kernel_rfl) Try.ntmps188 rfl rfl (by kernel_rfl) rfl ?_
  refine a_st (σ' := ⟨[(0, (ow 1000000))], [(1000000, (bk (eT_Su8_i64_u64_Z a0)))]⟩) (by kernel_rfl) ?_
  unfold spec_l01DrawPrime_of_src_c
  refine sr (vp (i6 0) rfl (nx ⟨[(0, (ow 1000000))], [(1000000, (bk (eT_Su8_i64_u64_Z a0)))]⟩ (by kernel_rfl) (sr (vp (ow 1000000) rfl (vq (.sl 1 true (([2, 2, 3, 3, 5, 7]).map (AV.int .i64))) rfl ⟨(Nat.le_of_ble_eq_true rfl), (Nat.le_of_ble_eq_true rfl), (all_cons ⟨(Nat.le_of_ble_eq_true rfl), rfl⟩ (all_cons ⟨(Nat.le_of_ble_eq_true rfl), rfl⟩ (all_cons ⟨(Nat.le_of_ble_eq_true rfl), rfl⟩ (all_cons ⟨(Nat.le_of_ble_eq_true rfl), rfl⟩ (all_cons ⟨(Nat.le_of_ble_eq_true rfl), rfl⟩ (all_cons ⟨(Nat.le_of_ble_eq_true rfl), rfl⟩ all_nil))))))⟩ ?_)))))
  obtain ⟨r1, hr2, h⟩ := bind_some h
  refine a_callM (args := [(.mutp (eT_Su8_i64_u64_Z a0)), (.sl 1 true (([2, 2, 3, 3, 5, 7]).map (AV.int .i64)))]) (i := 0) (id := 1000000) (r := (i6 r1.1)) (c := (eT_Su8_i64_u64_Z r1.2)) rfl rfl (Den.argsM (spec_l01Pick_of_src_ok a0 ([2, 2, 3, 3, 5, 7]) r1 hr2) rfl rfl (.cons (.loose _) .nil)) rfl trivial (vp (i6 r1.1) rfl (nx _ rfl (a_ret ?_)))
  refine ⟨.inr rfl, ?_⟩
  rw [Try.results188]
  cases h
  exact ⟨[], ⟨_, _, _, _, _, rfl, trivial, rfl, .inl ⟨rfl, .inl rfl, ⟨rfl, rfl, rfl⟩⟩⟩, rfl, ⟨_, _, rfl, rfl, rfl⟩⟩
def spec_l01Near_of_src_c : ACode := (.seq (.region 0 [q 4 (.asg 0 (.const (.int .i64 0)) 2)] false) (.seq (.seq (.region 1 [q 5 (.mov (t 0)), q 6 (.call 1 (.func 123) [(t 5), (.const (.int .i64 14))]), q 7 (.bin .eql 2 (t 6) (.const (.int .i64 0)))] false) (.cond (t 7) (.seq (.region 2 [q 8 (.mov (t 0)), q 9 (.mov (t 1)), q 10 (.bin .add 2 (t 9) (.const (.int .i64 1))), q 11 (.bslice 0 59 4 [(0, (.const (.int .i64 (-1)))), (1, (t 10)), (2, (.const (.int .i64 1099511627776))), (3, (.const (.int .i64 (-4611686018427387904))))]), q 12 (.call 1 (.func 122) [(t 8), (t 11)]), q 4 (.asg 0 (t 12) 2)] false) .ret) .skip)) (.seq (.region 3 [q 13 (.mov (t 0)), q 14 (.mov (t 1)), q 15 (.bin .add 2 (t 14) (.const (.int .i64 1))), q 16 (.call 1 (.func 123) [(t 13), (t 15)]), q 4 (.asg 0 (t 16) 2)] false) .ret)))
def spec_l01Near_of_src_L : Live := [(0, [0, 1]), (1, [0, 1]), (2, [0, 1]), (3, [0, 1]), (100007, [0, 1, 7])]
noncomputable def spec_l01Near_of_src (a0 : ((List Int) × Int × Int)) (a1 : Int) : Option (Int × ((List Int) × Int × Int)) :=
  (Option.bind (spec_l01Next_of_src a0 14) fun r1 => (if (r1.1 == 0) then (Option.bind (spec_l01Pick_of_src r1.2 ([-1, IntKind.i64.wrap (a1 + 1), 1099511627776, -4611686018427387904])) fun r8 => (some (r8.1, r8.2))) else (Option.bind (spec_l01Next_of_src r1.2 (IntKind.i64.wrap (a1 + 1))) fun r5 => (some (r5.1, r5.2)))))
theorem spec_l01Near_of_src_ok (a0 : ((List Int) × Int × Int)) (a1 : Int) (r : (Int × ((List Int) × Int × Int))) (h : spec_l01Near_of_src a0 a1 = some r) : Den Try.prog 132 [(.mutp (eT_Su8_i64_u64_Z a0)), (i6 a1)] { r := (i6 r.1), ms := [(eT_Su8_i64_u64_Z r.2)], fs := [] } := by
  refine den_ofX (rs := [(i6 r.1)]) (ac := spec_l01Near_of_src_c) (L := spec_l01Near_of_src_L) (n := 17) (m := [(6, 1), (12, 1), (16, 1)]) (c := Try.f132.body.getD .skip) good Try.func132 (by kernel_rfl) (by kernel_rfl) Try.ntmps132 rfl rfl (by kernel_rfl) rfl ?_
  refine a_st (σ' := ⟨[(0, (ow 1000000)), (1, (i6 a1))], [(1000000, (bk (eT_Su8_i64_u64_Z a0)))]⟩) (by kernel_rfl) ?_
  unfold spec_l01Near_of_src_c
  refine sr (vp (i6 0) rfl (nx ⟨[(0, (ow 1000000)), (1, (i6 a1))], [(1000000, (bk (eT_Su8_i64_u64_Z a0)))]⟩ (by kernel_rfl) (a_seq (sr (vp (ow 1000000) rfl ?_)))))
  obtain ⟨r1, hr2, h⟩ := bind_some h
  refine a_callM (args := [(.mutp (eT_Su8_i64_u64_Z a0)), (i6 14)]) (i := 0) (id := 1000000) (r := (i6 r1.1)) (c := (eT_Su8_i64_u64_Z r1.2)) rfl rfl (spec_l01Next_of_src_ok a0 14 r1 hr2) rfl trivial (vp (.bool (r1.1 == 0)) rfl (nx ⟨[(0, (ow 1000000)), (1, (i6 a1)), (7, (.bool (r1.1 == 0)))], [(1000000, (bk (eT_Su8_i64_u64_Z r1.2)))]⟩ (by kernel_rfl) ?_))
  cases hb4 : (r1.1 == 0)
  · have h := ite_f hb4 h
    refine a_cond_f rfl (a_skip (a_next (σ' := ⟨[(0, (ow 1000000)), (1, (i6 a1))], [(1000000, (bk (eT_Su8_i64_u64_Z r1.2)))]⟩) (by kernel_rfl) (sr (vp (ow 1000000) rfl (vp (i6 a1) rfl (vp (i6 (IntKind.i64.wrap (a1 + 1))) rfl ?_))))))
    obtain ⟨r5, hr6, h⟩ := bind_some h
    refine a_callM (args := [(.mutp (eT_Su8_i64_u64_Z r1.2)), (i6 (IntKind.i64.wrap (a1 + 1)))]) (i := 0) (id := 1000000) (r := (i6 r5.1)) (c := (eT_Su8_i64_u64_Z r5.2)) rfl rfl (spec_l01Next_of_src_ok r1.2 (IntKind.i64.wrap (a1 + 1)) r5 hr6) rfl trivial (vp (i6 r5.1) rfl (nx _ rfl (a_ret ?_)))
    refine ⟨.inr rfl, ?_⟩
    rw [Try.results132]
    cases h
    exact ⟨[], ⟨_, _, _, _, _, rfl, trivial, rfl, .inl ⟨rfl, .inl rfl, ⟨rfl, rfl, rfl⟩⟩⟩, rfl, ⟨_, _, rfl, rfl, rfl⟩⟩
  · have h := ite_t hb4 h
    refine a_cond_t rfl (sr (vp (ow 1000000) rfl (vp (i6 a1) rfl (vp (i6 (IntKind.i64.wrap (a1 + 1))) rfl (vq (.sl 1 true (([-1, IntKind.i64.wrap (a1 + 1), 1099511627776, -4611686018427387904]).map (AV.int .i64))) rfl ⟨(Nat.le_of_ble_eq_true rfl), (Nat.le_of_ble_eq_true rfl), (all_cons ⟨(Nat.le_of_ble_eq_true rfl), rfl⟩ (all_cons ⟨(Nat.le_of_ble_eq_true rfl), rfl⟩ (all_cons ⟨(Nat.le_of_ble_eq_true rfl), rfl⟩ (all_cons ⟨(Nat.le_of_ble_eq_true rfl), rfl⟩ all_nil))))⟩ ?_)))))
    obtain ⟨r8, hr9, h⟩ := bind_some h
    refine a_callM (args := [(.mutp (eT_Su8_i64_u64_Z r1.2)), (.sl 1 true (([-1, IntKind.i64.wrap (a1 + 1), 1099511627776, -4611686018427387904]).map (AV.int .i64)))]) (i := 0) (id := 1000000) (r := (i6 r8.1)) (c := (eT_Su8_i64_u64_Z r8.2)) rfl rfl (Den.argsM (spec_l01Pick_of_src_ok r1.2 ([-1, IntKind.i64.wrap (a1 + 1), 1099511627776, -4611686018427387904]) r8 hr9) rfl rfl (.cons (.loose _) .nil)) rfl trivial (vp (i6 r8.1) rfl (nx _ rfl (a_ret (t_ret ?_))))
    refine ⟨.inr rfl, ?_⟩
    rw [Try.results132]
    cases h
    exact ⟨[], ⟨_, _, _, _, _, rfl, trivial, rfl, .inl ⟨rfl, .inl rfl, ⟨rfl, rfl, rfl⟩⟩⟩, rfl, ⟨_, _, rfl, rfl, rfl⟩⟩
def spec_l08Draw_of_src_c : ACode := (.seq (.region 0 [q 2 (.asg 0 (.const (.int .i64 0)) 2), q 3 (.asg 0 (.const (.int .i64 0)) 2)] false) (.seq (.region 1 [q 5 (.mov (t 0)), q 6 (.call 1 (.func 188) [(t 5)]), q 4 (.asg 0 (t 6) 2)] false) (.seq (.seq (.region 2 [q 7 (.mov (t 0)), q 8 (.call 1 (.func 123) [(t 7), (.const (.int .i64 40))]), q 9 (.bin .eql 2 (t 8) (.const (.int .i64 0)))] false) (.cond (t 9) (.region 3 [q 10 (.mov (t 0)), q 11 (.bslice 0 59 3 [(0, (.const (.int .i64 0))), (1, (.const (.int .i64 4))), (2, (.const (.int .i64 11)))]), q 12 (.call 1 (.func 122) [(t 10), (t 11)]), q 4 (.asg 0 (t 12) 2)] false) .skip)) (.seq (.region 4 [q 13 (.mov (t 4)), q 14 (.mov (t 0)), q 15 (.mov (t 0)), q 16 (.call 1 (.func 132) [(t 15), (.const (.int .i64 8))]), q 17 (.bslice 0 59 7 [(0, (.const (.int .i64 0))), (1, (.const (.int .i64 1))), (2, (.const (.int .i64 1))), (3, (.const (.int .i64 2))), (4, (.const (.int .i64 2))), (5, (.const (.int .i64 3))), (6, (t 16))]), q 18 (.call 1 (.func 122) [(t 14), (t 17)]), q 2 (.asg 0 (t 13) 2), q 3 (.asg 0 (t 18) 2)] false) .ret))))
def spec_l08Draw_of_src_L : Live := [(0, [0]), (1, [0]), (2, [0, 4]), (3, [0]), (4, [0, 4]), (100009, [0, 4, 9])]
noncomputable def spec_l08Draw_of_src (a0 : ((List Int) × Int × Int)) : Option (Int × Int × ((List Int) × Int × Int)) :=
  (Option.bind (spec_l01DrawPrime_of_src a0) fun r1 => (Option.bind (α := (Int × ((List Int) × Int × Int))) ((Option.bind (spec_l01Next_of_src r1.2 40) fun r16 => (if (r16.1 == 0) then (Option.bind (spec_l01Pick_of_src r16.2 ([0, 4, 11])) fun r20 => (some (r20.1, r20.2))) else (some (r1.1, r16.2))))) fun ⟨x11, x12⟩ => (Option.bind (spec_l01Near_of_src x12 8) fun r23 => (Option.bind (spec_l01Pick_of_src r23.2 ([0, 1, 1, 2, 2, 3, r23.1])) fun r26 => (some (x11, r26.1, r26.2))))))
theorem spec_l08Draw_of_src_ok (a0 : ((List Int) × Int × Int)) (r : (Int × Int × ((List Int) × Int × Int))) (h : spec_l08Draw_of_src a0 = some r) : Den Try.prog 141 [(.mutp (eT_Su8_i64_u64_Z a0))] { r := (.tuple [(i6 r.1), (i6 r.2.1)]), ms := [(eT_Su8_i64_u64_Z r.2.2)], fs := [] } := by
  refine den_ofX (rs := [(i6 r.1), (i6 r.2.1)]) (ac := spec_l08Draw_of_src_c) (L := spec_l08Draw_of_src_L) (n := 19) (m := [(6, 1), (8, 1), (12, 1), (16, 1), (18, 1)]) (c := Try.f141.body.getD .skip) good Try.func141 (by kernel_rfl) (by kernel_rfl) Try.ntmps141 rfl rfl (by kernel_rfl) rfl ?_
  refine a_st (σ' := ⟨[(0, (ow 1000000))], [(1000000, (bk (eT_Su8_i64_u64_Z a0)))]⟩) (by kernel_rfl) ?_
  unfold spec_l08Draw_of_src_c
  refine sr (vp (i6 0) rfl (vp (i6 0) rfl (nx ⟨[(0, (ow 1000000))], [(1000000, (bk (eT_Su8_i64_u64_Z a0)))]⟩ (by kernel_rfl) (sr (vp (ow 1000000) rfl ?_)))))
  obtain ⟨r1, hr2, h⟩ := bind_some h
  refine a_callM (args := [(.mutp (eT_Su8_i64_u64_Z a0))]) (i := 0) (id := 1000000) (r := (i6 r1.1)) (c := (eT_Su8_i64_u64_Z r1.2)) rfl rfl (spec_l01DrawPrime_of_src_ok a0 r1 hr2) rfl trivial (vp (i6 r1.1) rfl (nx ⟨[(0, (ow 1000000)), (4, (i6 r1.1))], [(1000000, (bk (eT_Su8_i64_u64_Z r1.2)))]⟩ (by kernel_rfl) ?_))
  obtain ⟨y13, hy14, hk15⟩ := bind_some h
  clear h
  refine a_join (emb := fun (s : (Int × ((List Int) × Int × Int))) => ⟨[(0, (ow 1000000)), (4, (i6 s.1))], [(1000000, (bk (eT_Su8_i64_u64_Z s.2)))]⟩) (pre := fun s => s = y13) ?_ ?_
  · rintro ⟨x11, x12⟩ rfl
    have h := hk15
    refine a_st (σ' := ⟨[(0, (ow 1000000)), (4, (i6 x11))], [(1000000, (bk (eT_Su8_i64_u64_Z x12)))]⟩) (by kernel_rfl) (sr (vp (i6 x11) rfl (vp (ow 1000000) rfl (vp (ow 1000000) rfl ?_))))
    obtain ⟨r23, hr24, h⟩ := bind_some h
    refine a_callM (args := [(.mutp (eT_Su8_i64_u64_Z x12)), (i6 8)]) (i := 0) (id := 1000000) (r := (i6 r23.1)) (c := (eT_Su8_i64_u64_Z r23.2)) rfl rfl (spec_l01Near_of_src_ok x12 8 r23 hr24) rfl trivial (vq (.sl 1 true (([0, 1, 1, 2, 2, 3, r23.1]).map (AV.int .i64))) rfl ⟨(Nat.le_of_ble_eq_true rfl), (Nat.le_of_ble_eq_true rfl), (all_cons ⟨(Nat.le_of_ble_eq_true rfl), rfl⟩ (all_cons ⟨(Nat.le_of_ble_eq_true rfl), rfl⟩ (all_cons ⟨(Nat.le_of_ble_eq_true rfl), rfl⟩ (all_cons ⟨(Nat.le_of_ble_eq_true rfl), rfl⟩ (all_cons ⟨(Nat.le_of_ble_eq_true rfl), rfl⟩ (all_cons ⟨(Nat.le_of_ble_eq_true rfl), rfl⟩ (all_cons ⟨(Nat.le_of_ble_eq_true rfl), rfl⟩ all_nil)))))))⟩ ?_)
    obtain ⟨r26, hr27, h⟩ := bind_some h
    refine a_callM (args := [(.mutp (eT_Su8_i64_u64_Z r23.2)), (.sl 1 true (([0, 1, 1, 2, 2, 3, r23.1]).map (AV.int .i64)))]) (i := 0) (id := 1000000) (r := (i6 r26.1)) (c := (eT_Su8_i64_u64_Z r26.2)) rfl rfl (Den.argsM (spec_l01Pick_of_src_ok r23.2 ([0, 1, 1, 2, 2, 3, r23.1]) r26 hr27) rfl rfl (.cons (.loose _) .nil)) rfl trivial (vp (i6 x11) rfl (vp (i6 r26.1) rfl (nx _ rfl (a_ret ?_))))
    refine ⟨.inr rfl, ?_⟩
    rw [Try.results141]
    cases h
    exact ⟨[], ⟨_, _, _, _, _, rfl, trivial, rfl, .inl ⟨rfl, .inl rfl, ⟨_, _, _, _, _, rfl, trivial, rfl, .inl ⟨rfl, .inl rfl, ⟨rfl, rfl, rfl⟩⟩⟩⟩⟩, rfl, ⟨_, _, rfl, rfl, rfl⟩⟩
  · have h := hy14
    refine sr (vp (ow 1000000) rfl ?_)
    obtain ⟨r16, hr17, h⟩ := bind_some h
    refine a_callM (args := [(.mutp (eT_Su8_i64_u64_Z r1.2)), (i6 40)]) (i := 0) (id := 1000000) (r := (i6 r16.1)) (c := (eT_Su8_i64_u64_Z r16.2)) rfl rfl (spec_l01Next_of_src_ok r1.2 40 r16 hr17) rfl trivial (vp (.bool (r16.1 == 0)) rfl (nx ⟨[(0, (ow 1000000)), (4, (i6 r1.1)), (9, (.bool (r16.1 == 0)))], [(1000000, (bk (eT_Su8_i64_u64_Z r16.2)))]⟩ (by kernel_rfl) ?_))
    cases hb19 : (r16.1 == 0)
    · have h := ite_f hb19 h
      refine a_cond_f rfl (a_skip ?_)
      exact j_leaf (r1.1, r16.2) (Option.some.inj h) (by kernel_rfl)
    · have h := ite_t hb19 h
      refine a_cond_t rfl (a_region (vp (ow 1000000) rfl (vq (.sl 1 true (([0, 4, 11]).map (AV.int .i64))) rfl ⟨(Nat.le_of_ble_eq_true rfl), (Nat.le_of_ble_eq_true rfl), (all_cons ⟨(Nat.le_of_ble_eq_true rfl), rfl⟩ (all_cons ⟨(Nat.le_of_ble_eq_true rfl), rfl⟩ (all_cons ⟨(Nat.le_of_ble_eq_true rfl), rfl⟩ all_nil)))⟩ ?_)))
      obtain ⟨r20, hr21, h⟩ := bind_some h
      refine a_callM (args := [(.mutp (eT_Su8_i64_u64_Z r16.2)), (.sl 1 true (([0, 4, 11]).map (AV.int .i64)))]) (i := 0) (id := 1000000) (r := (i6 r20.1)) (c := (eT_Su8_i64_u64_Z r20.2)) rfl rfl (Den.argsM (spec_l01Pick_of_src_ok r16.2 ([0, 4, 11]) r20 hr21) rfl rfl (.cons (.loose _) .nil)) rfl trivial (vp (i6 r20.1) rfl (a_nil ?_))
      exact j_leaf (r20.1, r20.2) (Option.some.inj h) (by kernel_rfl)
def spec_DrawPowerSum_c : ACode := (.seq (.region 0 [q 2 (.asg 0 (.const (.int .i64 0)) 2), q 3 (.asg 0 (.const (.int .i64 0)) 2), q 4 (.asg 0 (.const (.int .i64 0)) 2)] false) (.seq (.region 1 [q 8 (.mov (t 0)), q 9 (.call 0 (.func 116) [(t 8)]), q 5 (.asg 0 (t 9) 96)] false) (.seq (.region 2 [q 11 (.mov (t 5)), q 12 (.call 1 (.func 141) [(t 11)]), q 10 (.mov (t 12)), q 13 (.extract (t 10) 0), q 14 (.extract (t 10) 1), q 6 (.asg 0 (t 13) 2), q 7 (.asg 0 (t 14) 2)] false) (.seq (.region 3 [q 15 (.mov (t 6)), q 16 (.mov (t 7)), q 17 (.mov (t 5)), q 18 (.mov (t 5)), q 19 (.call 1 (.func 123) [(t 18), (.const (.int .i64 8))]), q 20 (.mov (t 5)), q 21 (.call 1 (.func 123) [(t 20), (.const (.int .i64 20))]), q 22 (.mov (t 5)), q 23 (.call 1 (.func 132) [(t 22), (.const (.int .i64 40))]), q 24 (.bslice 0 59 3 [(0, (t 19)), (1, (t 21)), (2, (t 23))]), q 25 (.call 1 (.func 122) [(t 17), (t 24)]), q 2 (.asg 0 (t 15) 2), q 3 (.asg 0 (t 16) 2), q 4 (.asg 0 (t 25) 2)] false) .ret))))
def spec_DrawPowerSum_L : Live := [(0, [0]), (1, [0]), (2, [5]), (3, [5, 6, 7])]
noncomputable def spec_DrawPowerSum (a0 : (List Int)) : Option (Int × Int × Int) :=
  (Option.bind (spec_l01From a0) fun r1 => (Option.bind (spec_l08Draw_of_src r1) fun r3 => (Option.bind (spec_l01Next_of_src r3.2.2 8) fun r6 => (Option.bind (spec_l01Next_of_src r6.2 20) fun r9 => (Option.bind (spec_l01Near_of_src r9.2 40) fun r12 => (Option.bind (spec_l01Pick_of_src r12.2 ([r6.1, r9.1, r12.1])) fun r15 => (some (r3.1, r3.2.1, r15.1))))))))
theorem spec_DrawPowerSum_ok (a0 : (List Int)) (r : (Int × Int × Int)) (h : spec_DrawPowerSum a0 = some r) : Den Try.prog 47 [(eSu8 a0)] { r := (.tuple [(i6 r.1), (i6 r.2.1), (i6 r.2.2)]) } := by
  refine den_of (rs := [(i6 r.1), (i6 r.2.1), (i6 r.2.2)]) (ac := spec_DrawPowerSum_c) (L := spec_DrawPowerSum_L) (n := 26) (m := [(12, 1), (19, 1), (21, 1), (23, 1), (25, 1)]) (c := Try.f47.body.getD .skip) good Try.func47 (by kernel_rfl) (by kernel_rfl) Try.ntmps47 rfl rfl (by kernel_rfl) rfl rfl ?_
  refine a_st (σ' := ⟨[(0, (eSu8 a0))], []⟩) (by kernel_rfl) ?_
  unfold spec_DrawPowerSum_c
  refine sr (vp (i6 0) rfl (vp (i6 0) rfl (vp (i6 0) rfl (nx ⟨[(0, (eSu8 a0))], []⟩ (by kernel_rfl) (sr (vp (eSu8 a0) rfl ?_))))))
  obtain ⟨r1, hr2, h⟩ := bind_some h
  refine a_callF (args := [(eSu8 a0)]) (u := []) (u2 := []) (r := (ow 2000000)) (fs := [(0, [eT_Su8_i64_u64_Z r1])]) rfl rfl (spec_l01From_ok a0 r1 hr2) rfl rfl rfl (.inl rfl) rfl (vp (ow 1900) rfl (nx ⟨[(5, (ow 5))], [(5, (bk (eT_Su8_i64_u64_Z r1)))]⟩ (by kernel_rfl) (sr (vp (ow 5) rfl ?_))))
  obtain ⟨r3, hr4, h⟩ := bind_some h
  refine a_callM (args := [(.mutp (eT_Su8_i64_u64_Z r1))]) (i := 0) (id := 5) (r := (.tuple [(i6 r3.1), (i6 r3.2.1)])) (c := (eT_Su8_i64_u64_Z r3.2.2)) rfl rfl (spec_l08Draw_of_src_ok r1 r3 hr4) rfl trivial (vp (.tuple [(i6 r3.1), (i6 r3.2.1)]) rfl (vb (i6 r3.1) rfl rfl (vb (i6 r3.2.1) rfl rfl (vp (i6 r3.1) rfl (vp (i6 r3.2.1) rfl (nx ⟨[(5, (ow 5)), (6, (i6 r3.1)), (7, (i6 r3.2.1))], [(5, (bk (eT_Su8_i64_u64_Z r3.2.2)))]⟩ (by kernel_rfl) (sr (vp (i6 r3.1) rfl (vp (i6 r3.2.1) rfl ?_)))))))))
  refine vp (ow 5) rfl (vp (ow 5) rfl ?_)
  obtain ⟨r6, hr7, h⟩ := bind_some h
  refine a_callM (args := [(.mutp (eT_Su8_i64_u64_Z r3.2.2)), (i6 8)]) (i := 0) (id := 5) (r := (i6 r6.1)) (c := (eT_Su8_i64_u64_Z r6.2)) rfl rfl (spec_l01Next_of_src_ok r3.2.2 8 r6 hr7) rfl trivial (vp (ow 5) rfl ?_)
  obtain ⟨r9, hr10, h⟩ := bind_some h
  refine a_callM (args := [(.mutp (eT_Su8_i64_u64_Z r6.2)), (i6 20)]) (i := 0) (id := 5) (r := (i6 r9.1)) (c := (eT_Su8_i64_u64_Z r9.2)) rfl rfl (spec_l01Next_of_src_ok r6.2 20 r9 hr10) rfl trivial (vp (ow 5) rfl ?_)
  obtain ⟨r12, hr13, h⟩ := bind_some h
  refine a_callM (args := [(.mutp (eT_Su8_i64_u64_Z r9.2)), (i6 40)]) (i := 0) (id := 5) (r := (i6 r12.1)) (c := (eT_Su8_i64_u64_Z r12.2)) rfl rfl (spec_l01Near_of_src_ok r9.2 40 r12 hr13) rfl trivial (vq (.sl 1 true (([r6.1, r9.1, r12.1]).map (AV.int .i64))) rfl ⟨(Nat.le_of_ble_eq_true rfl), (Nat.le_of_ble_eq_true rfl), (all_cons ⟨(Nat.le_of_ble_eq_true rfl), rfl⟩ (all_cons ⟨(Nat.le_of_ble_eq_true rfl), rfl⟩ (all_cons ⟨(Nat.le_of_ble_eq_true rfl), rfl⟩ all_nil)))⟩ ?_)
  obtain ⟨r15, hr16, h⟩ := bind_some h
  refine a_callM (args := [(.mutp (eT_Su8_i64_u64_Z r12.2)), (.sl 1 true (([r6.1, r9.1, r12.1]).map (AV.int .i64)))]) (i := 0) (id := 5) (r := (i6 r15.1)) (c := (eT_Su8_i64_u64_Z r15.2)) rfl rfl (Den.argsM (spec_l01Pick_of_src_ok r12.2 ([r6.1, r9.1, r12.1]) r15 hr16) rfl rfl (.cons (.loose _) .nil)) rfl trivial (vp (i6 r3.1) rfl (vp (i6 r3.2.1) rfl (vp (i6 r15.1) rfl (nx _ rfl (a_ret ?_)))))
  refine ⟨.inr rfl, ?_⟩
  rw [Try.results47]
  cases h
  exact ⟨_, _, _, _, _, rfl, trivial, .inl ⟨rfl, .inl rfl⟩, rfl, ⟨_, _, _, _, _, rfl, trivial, .inl ⟨rfl, .inl rfl⟩, rfl, ⟨_, _, _, _, _, rfl, trivial, .inl ⟨rfl, .inl rfl⟩, rfl, rfl⟩⟩⟩
def impl_isPrime_c : ACode := (.seq (.region 0 [q 2 (.asg 0 (.const (.bool false)) 4)] false) (.seq (.region 1 [q 3 (.mov (t 0)), q 4 (.bin .eql 2 (t 3) (.const (.int .i64 2))), q 5 (.mov (t 4)), ⟨some 6, .mov (t 0), some (5, false), []⟩, ⟨some 7, .bin .eql 2 (t 6) (.const (.int .i64 3)), some (5, false), []⟩, q 8 (.pick (t 5) (.const (.bool true)) (t 7)), q 9 (.mov (t 8)), ⟨some 10, .mov (t 0), some (9, false), []⟩, ⟨some 11, .bin .eql 2 (t 10) (.const (.int .i64 5)), some (9, false), []⟩, q 12 (.pick (t 9) (.const (.bool true)) (t 11)), q 13 (.mov (t 12)), ⟨some 14, .mov (t 0), some (13, false), []⟩, ⟨some 15, .bin .eql 2 (t 14) (.const (.int .i64 7)), some (13, false), []⟩, q 16 (.pick (t 13) (.const (.bool true)) (t 15)), q 2 (.asg 0 (t 16) 4)] false) .ret))
def impl_isPrime_L : Live := [(0, [0]), (1, [0])]
noncomputable def impl_isPrime (a0 : Int) : Option Bool :=
  (if (a0 == 2) then (some true) else (if (a0 == 3) then (some true) else (if (a0 == 5) then (some true) else (some (a0 == 7)))))
theorem impl_isPrime_ok (a0 : Int) (r : Bool) (h : impl_isPrime a0 = some r) : Den Try.prog 106 [(i6 a0)] { r := (.bool r) } := by
  refine den_of (rs := [(.bool r)]) (ac := impl_isPrime_c) (L := impl_isPrime_L) (n := 17) (m := []) (c := Try.f106.body.getD .skip) good Try.func106 (by kernel_rfl) (by kernel_rfl) Try.ntmps106 rfl rfl (by kernel_rfl) rfl rfl ?_
  refine a_st (σ' := ⟨[(0, (i6 a0))], []⟩) (by kernel_rfl) ?_
  unfold impl_isPrime_c
  refine sr (vp (.bool false) rfl (nx ⟨[(0, (i6 a0))], []⟩ (by kernel_rfl) (sr (vp (i6 a0) rfl (vp (.bool (a0 == 2)) rfl (vp (.bool (a0 == 2)) rfl ?_))))))
  cases hb1 : (a0 == 2)
  · have h := ite_f hb1 h
    refine gp (i6 a0) rfl rfl (gp (.bool (a0 == 3)) rfl rfl (vp (.bool (a0 == 3)) rfl (vp (.bool (a0 == 3)) rfl ?_)))
    cases hb2 : (a0 == 3)
    · have h := ite_f hb2 h
      refine gp (i6 a0) rfl rfl (gp (.bool (a0 == 5)) rfl rfl (vp (.bool (a0 == 5)) rfl (vp (.bool (a0 == 5)) rfl ?_)))
      cases hb3 : (a0 == 5)
      · have h := ite_f hb3 h
        refine gp (i6 a0) rfl rfl (gp (.bool (a0 == 7)) rfl rfl (vp (.bool (a0 == 7)) rfl (vp (.bool (a0 == 7)) rfl (nx _ rfl (a_ret ?_)))))
        refine ⟨.inr rfl, ?_⟩
        rw [Try.results106]
        cases h
        exact ⟨_, _, _, _, _, rfl, trivial, .inl ⟨rfl, .inl rfl⟩, rfl, rfl⟩
      · have h := ite_t hb3 h
        refine a_gskip rfl (a_gskip rfl (vp (.bool true) rfl (vp (.bool true) rfl (nx _ rfl (a_ret ?_)))))
        refine ⟨.inr rfl, ?_⟩
        rw [Try.results106]
        cases h
        exact ⟨_, _, _, _, _, rfl, trivial, .inl ⟨rfl, .inl rfl⟩, rfl, rfl⟩
    · have h := ite_t hb2 h
      refine a_gskip rfl (a_gskip rfl (vp (.bool true) rfl (vp (.bool true) rfl (a_gskip rfl (a_gskip rfl (vp (.bool true) rfl (vp (.bool true) rfl (nx _ rfl (a_ret ?_)))))))))
      refine ⟨.inr rfl, ?_⟩
      rw [Try.results106]
      cases h
      exact ⟨_, _, _, _, _, rfl, trivial, .inl ⟨rfl, .inl rfl⟩, rfl, rfl⟩
  · have h := ite_t hb1 h
    refine a_gskip rfl (a_gskip rfl (vp (.bool true) rfl (vp (.bool true) rfl (a_gskip rfl (a_gskip rfl (vp (.bool true) rfl (vp (.bool true) rfl (a_gskip rfl (a_gskip rfl ?_)))))))))
    refine vp (.bool true) rfl (vp (.bool true) rfl (nx _ rfl (a_ret ?_)))
    refine ⟨.inr rfl, ?_⟩
    rw [Try.results106]
    cases h
    exact ⟨_, _, _, _, _, rfl, trivial, .inl ⟨rfl, .inl rfl⟩, rfl, rfl⟩
def impl_within_c : ACode := (.seq (.region 0 [q 6 (.asg 0 (.const (.bool false)) 4)] false) (.seq (.region 1 [q 7 (.mov (t 1)), q 8 (.mov (t 0)), q 9 (.bin .leq 2 (t 7) (t 8)), q 10 (.mov (t 9)), ⟨some 11, .mov (t 0), some (10, true), []⟩, ⟨some 12, .mov (t 2), some (10, true), []⟩, ⟨some 13, .bin .leq 2 (t 11) (t 12), some (10, true), []⟩, q 14 (.pick (t 10) (t 13) (.const (.bool false))), q 6 (.asg 0 (t 14) 4)] false) .ret))
def impl_within_L : Live := [(0, [0, 1, 2]), (1, [0, 1, 2])]
noncomputable def impl_within (a0 : Int) (a1 : Int) (a2 : Int) : Option Bool :=
  (if (decide (a1 ≤ a0)) then (some ((decide (a0 ≤ a2)))) else (some false))
theorem impl_within_ok (a0 : Int) (a1 : Int) (a2 : Int) (r : Bool) (h : impl_within a0 a1 a2 = some r) : Den Try.prog 139 [(i6 a0), (i6 a1), (i6 a2)] { r := (.bool r) } := by
  refine den_of (rs := [(.bool r)]) (ac := impl_within_c) (L := impl_within_L) (n := 15) (m := []) (c := Try.f139.body.getD .skip) good Try.func139 (by kernel_rfl) (by kernel_rfl) Try.ntmps139 rfl rfl (by kernel_rfl) rfl rfl ?_
  refine a_st (σ' := ⟨[(0, (i6 a0)), (1, (i6 a1)), (2, (i6 a2))], []⟩) (by kernel_rfl) ?_
  unfold impl_within_c
  refine sr (vp (.bool false) rfl (nx ⟨[(0, (i6 a0)), (1, (i6 a1)), (2, (i6 a2))], []⟩ (by kernel_rfl) (sr (vp (i6 a1) rfl (vp (i6 a0) rfl (vp (.bool ((decide (a1 ≤ a0)))) rfl (vp (.bool ((decide (a1 ≤ a0)))) rfl ?_)))))))
  cases hb1 : (decide (a1 ≤ a0))
  · have h := ite_f hb1 h
    refine a_gskip rfl (a_gskip rfl (a_gskip rfl (vp (.bool false) rfl (vp (.bool false) rfl (nx _ rfl (a_ret ?_))))))
    refine ⟨.inr rfl, ?_⟩
    rw [Try.results139]
    cases h
    exact ⟨_, _, _, _, _, rfl, trivial, .inl ⟨rfl, .inl rfl⟩, rfl, rfl⟩
  · have h := ite_t hb1 h
    refine gp (i6 a0) rfl rfl (gp (i6 a2) rfl rfl (gp (.bool ((decide (a0 ≤ a2)))) rfl rfl (vp (.bool ((decide (a0 ≤ a2)))) rfl (vp (.bool ((decide (a0 ≤ a2)))) rfl (nx _ rfl (a_ret ?_))))))
    refine ⟨.inr rfl, ?_⟩
    rw [Try.results139]
    cases h
    exact ⟨_, _, _, _, _, rfl, trivial, .inl ⟨rfl, .inl rfl⟩, rfl, rfl⟩
def impl_isExponent_c : ACode := (.seq (.region 0 [q 2 (.asg 0 (.const (.bool false)) 4)] false) (.seq (.region 1 [q 3 (.mov (t 0)), q 4 (.call 0 (.func 139) [(t 3), (.const (.int .i64 0)), (.const (.int .i64 40))]), q 2 (.asg 0 (t 4) 4)] false) .ret))
def impl_isExponent_L : Live := [(0, [0]), (1, [0])]
noncomputable def impl_isExponent (a0 : Int) : Option Bool :=
  (Option.bind (impl_within a0 0 40) fun r1 => (some r1))
theorem impl_isExponent_ok (a0 : Int) (r : Bool) (h : impl_isExponent a0 = some r) : Den Try.prog 142 [(i6 a0)] { r := (.bool r) } := by
  refine den_of (rs := [(.bool r)]) (ac := impl_isExponent_c) (L := impl_isExponent_L) (n := 5) (m := []) (c := Try.f142.body.getD .skip) good Try.func142 (by kernel_rfl) (by kernel_rfl) Try.ntmps142 rfl rfl (by kernel_rfl) rfl rfl ?_
  refine a_st (σ' := ⟨[(0, (i6 a0))], []⟩) (by kernel_rfl) ?_
  unfold impl_isExponent_c
  refine sr (vp (.bool false) rfl (nx ⟨[(0, (i6 a0))], []⟩ (by kernel_rfl) (sr (vp (i6 a0) rfl ?_))))
  obtain ⟨r1, hr2, h⟩ := bind_some h
  refine a_call (args := [(i6 a0), (i6 0), (i6 40)]) (u := []) (r := (.bool r1)) rfl rfl (impl_within_ok a0 0 40 r1 hr2) rfl (vp (.bool r1) rfl (nx _ rfl (a_ret ?_)))
  refine ⟨.inr rfl, ?_⟩
  rw [Try.results142]
  cases h
  exact ⟨_, _, _, _, _, rfl, trivial, .inl ⟨rfl, .inl rfl⟩, rfl, rfl⟩
def impl_prime_norm_c : ACode := (.seq (.region 0 [q 6 (.asg 0 (.const (.int .i64 0)) 2)] false) (.seq (.region 1 [q 7 (.asg 0 (.const (.int .i64 1)) 2)] false) (.seq (.seq (.region 2 [q 8 (.mov (t 1)), q 9 (.mov (.const (.int .i64 0)))] false) (.block 0 (.loop (.seq (.region 3 [q 10 (.bin .lss 2 (t 9) (t 8))] false) (.seq (.cond (t 10) .skip (.exit 0)) (.seq (.block 1 (.seq (.seq (.region 4 [q 11 (.mov (t 7)), q 12 (.mov (t 2)), q 13 (.bin .gtr 2 (t 11) (t 12))] false) (.cond (t 13) (.exit 0) .skip)) (.region 5 [q 14 (.mov (t 7)), q 15 (.mov (t 0)), q 16 (.bin .mul 2 (t 14) (t 15)), q 7 (.asg 0 (t 16) 2)] false))) (.region 6 [q 17 (.bin .add 2 (t 9) (.const (.int .i64 1))), q 9 (.mov (t 17))] false))))))) (.seq (.region 7 [q 18 (.mov (t 7)), q 6 (.asg 0 (t 18) 2)] false) .ret))))
def impl_prime_norm_L : Live := [(0, [0, 1, 2]), (1, [0, 1, 2]), (2, [0, 1, 2, 7]), (3, [0, 2, 7, 8, 9]), (4, [0, 2, 7, 8, 9]), (5, [0, 2, 7, 8, 9]), (6, [0, 2, 7, 8, 9]), (7, [7]), (100010, [0, 2, 7, 8, 9, 10]), (100013, [0, 2, 7, 8, 9, 13])]
noncomputable def impl_prime_norm_l1 (a1 : Int) (a2 : Int) (a0 : Int) (x19 : Int) (x20 : Int) : Option ((Int × Int) ⊕ Int) :=
  (if (decide (x20 < a1)) then (if (decide (x19 > a2)) then (some (.inr x19)) else (some (.inl ((IntKind.i64.wrap (x19 * a0), IntKind.i64.wrap (x20 + 1)))))) else (some (.inr x19)))
noncomputable def impl_prime_norm (a0 : Int) (a1 : Int) (a2 : Int) : Option Int :=
  (Option.bind (α := Int) ((loopM (fun s : (Int × Int) => impl_prime_norm_l1 a1 a2 a0 s.1 s.2) (1, 0))) fun x13 => (some x13))
theorem impl_prime_norm_ok (a0 : Int) (a1 : Int) (a2 : Int) (r : Int) (h : impl_prime_norm a0 a1 a2 = some r) : Den Try.prog 171 [(i6 a0), (i6 a1), (i6 a2)] { r := (i6 r) } := by
  refine den_of (rs := [(i6 r)]) (ac := impl_prime_norm_c) (L := impl_prime_norm_L) (n := 19) (m := []) (c := Try.f171.body.getD .skip) good Try.func171 (by kernel_rfl) (by kernel_rfl) Try.ntmps171 rfl rfl (by kernel_rfl) rfl rfl ?_
  refine a_st (σ' := ⟨[(0, (i6 a0)), (1, (i6 a1)), (2, (i6 a2))], []⟩) (by kernel_rfl) ?_
  unfold impl_prime_norm_c
  refine sr (vp (i6 0) rfl (nx ⟨[(0, (i6 a0)), (1, (i6 a1)), (2, (i6 a2))], []⟩ (by kernel_rfl) (sr (vp (i6 1) rfl (nx ⟨[(0, (i6 a0)), (1, (i6 a1)), (2, (i6 a2)), (7, (i6 1))], []⟩ (by kernel_rfl) ?_)))))
  obtain ⟨y14, hy15, hk16⟩ := bind_some h
  clear h
  refine a_join (emb := fun (s : Int) => ⟨[(7, (i6 s))], []⟩) (pre := fun s => s = y14) ?_ ?_
  · rintro x13 rfl
    have h := hk16
    refine a_st (σ' := ⟨[(7, (i6 x13))], []⟩) (by kernel_rfl) (sr (vp (i6 x13) rfl (vp (i6 x13) rfl (nx _ rfl (a_ret ?_)))))
    refine ⟨.inr rfl, ?_⟩
    rw [Try.results171]
    cases h
    exact ⟨_, _, _, _, _, rfl, trivial, .inl ⟨rfl, .inl rfl⟩, rfl, rfl⟩
  · have h := hy15
    refine sr (vp (i6 a1) rfl (vp (i6 0) rfl (nx ⟨[(0, (i6 a0)), (2, (i6 a2)), (7, (i6 1)), (8, (i6 a1)), (9, (i6 0))], []⟩ (by kernel_rfl) (a_block ?_))))
    refine a_loop (emb := fun (s : (Int × Int)) => ⟨[(0, (i6 a0)), (2, (i6 a2)), (7, (i6 s.1)), (8, (i6 a1)), (9, (i6 s.2))], []⟩) (body := (fun s : (Int × Int) => impl_prime_norm_l1 a1 a2 a0 s.1 s.2)) (G := fun q => some q = some y14) h rfl ?_ (by kernel_rfl)
    rintro X23 ⟨x19, x20⟩ x24 h hX25
    have h : impl_prime_norm_l1 a1 a2 a0 x19 x20 = some x24 := h
    refine a_st (σ' := ⟨[(0, (i6 a0)), (2, (i6 a2)), (7, (i6 x19)), (8, (i6 a1)), (9, (i6 x20))], []⟩) (by kernel_rfl) (sr (vp (.bool ((decide (x20 < a1)))) rfl (nx ⟨[(0, (i6 a0)), (2, (i6 a2)), (7, (i6 x19)), (8, (i6 a1)), (9, (i6 x20)), (10, (.bool ((decide (x20 < a1)))))], []⟩ (by kernel_rfl) (a_seq ?_))))
    cases hb26 : (decide (x20 < a1))
    · have h := ite_f hb26 h
      refine a_cond_f rfl (a_exit (t_exit ?_))
      cases h
      have h := hX25
      refine t_exit (b_exit ?_)
      exact j_leaf x19 (Option.some.inj h) (by kernel_rfl)
    · have h := ite_t hb26 h
      refine a_cond_t rfl (a_skip (a_next (σ' := ⟨[(0, (i6 a0)), (2, (i6 a2)), (7, (i6 x19)), (8, (i6 a1)), (9, (i6 x20))], []⟩) (by kernel_rfl) (a_seq (a_block (a_seq (sr (vp (i6 x19) rfl (vp (i6 a2) rfl (vp (.bool ((decide (x19 > a2)))) rfl ?_)))))))))
      refine nx ⟨[(0, (i6 a0)), (2, (i6 a2)), (7, (i6 x19)), (8, (i6 a1)), (9, (i6 x20)), (13, (.bool ((decide (x19 > a2)))))], []⟩ (by kernel_rfl) ?_
      cases hb27 : (decide (x19 > a2))
      · have h := ite_f hb27 h
        refine a_cond_f rfl (a_skip (a_next (σ' := ⟨[(0, (i6 a0)), (2, (i6 a2)), (7, (i6 x19)), (8, (i6 a1)), (9, (i6 x20))], []⟩) (by kernel_rfl) (a_region (vp (i6 x19) rfl (vp (i6 a0) rfl (vp (i6 (IntKind.i64.wrap (x19 * a0))) rfl (vp (i6 (IntKind.i64.wrap (x19 * a0))) rfl (a_nil (b_norm ?_)))))))))
        refine a_next (σ' := ⟨[(0, (i6 a0)), (2, (i6 a2)), (7, (i6 (IntKind.i64.wrap (x19 * a0)))), (8, (i6 a1)), (9, (i6 x20))], []⟩) (by kernel_rfl) (a_region (vp (i6 (IntKind.i64.wrap (x20 + 1))) rfl (vp (i6 (IntKind.i64.wrap (x20 + 1))) rfl (a_nil ?_))))
        cases h
        exact a_again (by kernel_rfl) hX25
      · have h := ite_t hb27 h
        refine a_cond_t rfl (a_exit (t_exit (b_other rfl (t_exit ?_))))
        cases h
        have h := hX25
        refine t_exit (b_exit ?_)
        exact j_leaf x19 (Option.some.inj h) (by kernel_rfl)
def impl_prime_isSummed_c : ACode := (.seq (.region 0 [q 4 (.asg 0 (.const (.bool false)) 4)] false) (.seq (.region 1 [q 5 (.mov (t 0)), q 6 (.mov (t 1)), q 7 (.call 0 (.func 171) [(t 5), (t 6), (.const (.int .i64 343))]), q 8 (.bin .leq 2 (t 7) (.const (.int .i64 343))), q 4 (.asg 0 (t 8) 4)] false) .ret))
def impl_prime_isSummed_L : Live := [(0, [0, 1]), (1, [0, 1])]
noncomputable def impl_prime_isSummed (a0 : Int) (a1 : Int) : Option Bool :=
  (Option.bind (impl_prime_norm a0 a1 343) fun r1 => (some ((decide (r1 ≤ 343)))))
theorem impl_prime_isSummed_ok (a0 : Int) (a1 : Int) (r : Bool) (h : impl_prime_isSummed a0 a1 = some r) : Den Try.prog 148 [(i6 a0), (i6 a1)] { r := (.bool r) } := by
  refine den_of (rs := [(.bool r)]) (ac := impl_prime_isSummed_c) (L := impl_prime_isSummed_L) (n := 9) (m := []) (c := Try.f148.body.getD .skip) good Try.func148 (by kernel_rfl) (by kernel_rfl) Try.ntmps148 rfl rfl (by kernel_rfl) rfl rfl ?_
  refine a_st (σ' := ⟨[(0, (i6 a0)), (1, (i6 a1))], []⟩) (by kernel_rfl) ?_
  unfold impl_prime_isSummed_c
  refine sr (vp (.bool false) rfl (nx ⟨[(0, (i6 a0)), (1, (i6 a1))], []⟩ (by kernel_rfl) (sr (vp (i6 a0) rfl (vp (i6 a1) rfl ?_)))))
  obtain ⟨r1, hr2, h⟩ := bind_some h
  refine a_call (args := [(i6 a0), (i6 a1), (i6 343)]) (u := []) (r := (i6 r1)) rfl rfl (impl_prime_norm_ok a0 a1 343 r1 hr2) rfl (vp (.bool ((decide (r1 ≤ 343)))) rfl (vp (.bool ((decide (r1 ≤ 343)))) rfl (nx _ rfl (a_ret ?_))))
  refine ⟨.inr rfl, ?_⟩
  rw [Try.results148]
  cases h
  exact ⟨_, _, _, _, _, rfl, trivial, .inl ⟨rfl, .inl rfl⟩, rfl, rfl⟩
def impl_prime_isSumDegree_c : ACode := (.seq (.region 0 [q 4 (.asg 0 (.const (.bool false)) 4)] false) (.seq (.region 1 [q 5 (.mov (t 1)), q 6 (.call 0 (.func 139) [(t 5), (.const (.int .i64 0)), (.const (.int .i64 8))]), q 7 (.mov (t 6)), ⟨some 8, .mov (t 0), some (7, true), []⟩, ⟨some 9, .mov (t 1), some (7, true), []⟩, ⟨some 10, .call 0 (.func 148) [(t 8), (t 9)], some (7, true), []⟩, q 11 (.pick (t 7) (t 10) (.const (.bool false))), q 4 (.asg 0 (t 11) 4)] false) .ret))
def impl_prime_isSumDegree_L : Live := [(0, [0, 1]), (1, [0, 1])]
noncomputable def impl_prime_isSumDegree (a0 : Int) (a1 : Int) : Option Bool :=
  (Option.bind (impl_within a1 0 8) fun r1 => (if r1 then (Option.bind (impl_prime_isSummed a0 a1) fun r4 => (some r4)) else (some false)))
theorem impl_prime_isSumDegree_ok (a0 : Int) (a1 : Int) (r : Bool) (h : impl_prime_isSumDegree a0 a1 = some r) : Den Try.prog 143 [(i6 a0), (i6 a1)] { r := (.bool r) } := by
  refine den_of (rs := [(.bool r)]) (ac := impl_prime_isSumDegree_c) (L := impl_prime_isSumDegree_L) (n := 12) (m := []) (c := Try.f143.body.getD .skip) good Try.func143 (by kernel_rfl) (by kernel_rfl) Try.ntmps143 rfl rfl (by kernel_rfl) rfl rfl ?_
  refine a_st (σ' := ⟨[(0, (i6 a0)), (1, (i6 a1))], []⟩) (by kernel_rfl) ?_
  unfold impl_prime_isSumDegree_c
  refine sr (vp (.bool false) rfl (nx ⟨[(0, (i6 a0)), (1, (i6 a1))], []⟩ (by kernel_rfl) (sr (vp (i6 a1) rfl ?_))))
  obtain ⟨r1, hr2, h⟩ := bind_some h
  refine a_call (args := [(i6 a1), (i6 0), (i6 8)]) (u := []) (r := (.bool r1)) rfl rfl (impl_within_ok a1 0 8 r1 hr2) rfl (vp (.bool r1) rfl ?_)
  cases hb3 : r1
  · have h := ite_f hb3 h
    refine a_gskip rfl (a_gskip rfl (a_gskip rfl (vp (.bool false) rfl (vp (.bool false) rfl (nx _ rfl (a_ret ?_))))))
    refine ⟨.inr rfl, ?_⟩
    rw [Try.results143]
    cases h
    exact ⟨_, _, _, _, _, rfl, trivial, .inl ⟨rfl, .inl rfl⟩, rfl, rfl⟩
  · have h := ite_t hb3 h
    refine gp (i6 a0) rfl rfl (gp (i6 a1) rfl rfl ?_)
    obtain ⟨r4, hr5, h⟩ := bind_some h
    refine a_gcall rfl (args := [(i6 a0), (i6 a1)]) (u := []) (r := (.bool r4)) rfl rfl (impl_prime_isSummed_ok a0 a1 r4 hr5) rfl (vp (.bool r4) rfl (vp (.bool r4) rfl (nx _ rfl (a_ret ?_))))
    refine ⟨.inr rfl, ?_⟩
    rw [Try.results143]
    cases h
    exact ⟨_, _, _, _, _, rfl, trivial, .inl ⟨rfl, .inl rfl⟩, rfl, rfl⟩
def impl_prime_numbered_c : ACode := (.seq (.region 0 [q 4 (.asg 1 (.const (.slice none 0 0)) 80)] false) (.seq (.region 1 [q 5 (.asg 2 (.const (.slice none 0 0)) 80)] false) (.seq (.block 0 (.loop (.seq (.seq (.region 2 [q 6 (.mov (t 1)), q 7 (.bin .gtr 2 (t 6) (.const (.int .i64 0)))] false) (.cond (t 7) .skip (.exit 0))) (.seq (.block 1 (.region 4 [q 11 (.mov (t 5)), q 12 (.mov (t 1)), q 13 (.mov (t 0)), q 14 (.bin .rem 2 (t 12) (t 13)), q 15 (.bslice 0 80 1 [(0, (t 14))]), q 16 (.blt 0 .append [(t 11), (t 15)] [80, 80]), q 5 (.asg 2 (t 16) 80)] false)) (.region 3 [q 8 (.mov (t 1)), q 9 (.mov (t 0)), q 10 (.bin .quo 2 (t 8) (t 9)), q 1 (.asg 0 (t 10) 2)] false))))) (.seq (.region 5 [q 17 (.mov (t 5)), q 4 (.asg 1 (t 17) 80)] false) .ret))))
def impl_prime_numbered_L : Live := [(0, [0, 1]), (1, [0, 1]), (2, [0, 1, 5]), (3, [0, 1, 5]), (4, [0, 1, 5]), (5, [5]), (100007, [0, 1, 5, 7])]
noncomputable def impl_prime_numbered_l1 (a0 : Int) (x27 : Int) (x28 : (List Int)) : Option ((Int × (List Int)) ⊕ (List Int)) :=
  (if (decide (x27 > 0)) then (ifp (a0 ≠ 0) ((ifp ((x28.length + ([Int.tmod x27 a0] : List Int).length) * 8 ≤ 140737488355328) ((ifp (a0 ≠ 0) ((some (.inl ((IntKind.i64.wrap (Int.tdiv x27 a0), (x28 ++ ([Int.tmod x27 a0])))))))))))) else (some (.inr x28)))
noncomputable def impl_prime_numbered (a0 : Int) (a1 : Int) : Option (List Int) :=
  (Option.bind (α := (List Int)) ((loopM (fun s : (Int × (List Int)) => impl_prime_numbered_l1 a0 s.1 s.2) (a1, []))) fun x19 => (some x19))
theorem impl_prime_numbered_ok (a0 : Int) (a1 : Int) (r : (List Int)) (h : impl_prime_numbered a0 a1 = some r) : Den Try.prog 119 [(i6 a0), (i6 a1)] { r := (eSi64 r) } := by
  refine den_of (rs := [(eSi64 r)]) (ac := impl_prime_numbered_c) (L := impl_prime_numbered_L) (n := 18) (m := [(4, 1), (5, 2)]) (c := Try.f119.body.getD .skip) good Try.func119 (by kernel_rfl) (by kernel_rfl) Try.ntmps119 rfl rfl (by kernel_rfl) rfl rfl ?_
  refine a_st (σ' := ⟨[(0, (i6 a0)), (1, (i6 a1))], []⟩) (by kernel_rfl) ?_
  unfold impl_prime_numbered_c
  refine sr (vp (eSi64 ([])) rfl (nx ⟨[(0, (i6 a0)), (1, (i6 a1))], []⟩ (by kernel_rfl) (sr (vu (.osl 1500) [(1500, (bk (.row 1 (([]).map (AV.int .i64)))))] rfl trivial rfl (nx ⟨[(0, (i6 a0)), (1, (i6 a1)), (5, (.osl 5))], [(5, (bk (.row 1 (([]).map (AV.int .i64)))))]⟩ (by kernel_rfl) ?_)))))
  obtain ⟨y20, hy21, hk22⟩ := bind_some h
  clear h
  refine a_join (emb := fun (s : (List Int)) => ⟨[(5, (.osl 5))], [(5, (bk (.row 1 (s.map (AV.int .i64)))))]⟩) (pre := fun s => s = y20) ?_ ?_
  · rintro x19 rfl
    have h := hk22
    refine a_st (σ' := ⟨[(5, (.osl 5))], [(5, (bk (.row 1 (x19.map (AV.int .i64)))))]⟩) (by kernel_rfl) (sr (vp (.osl 5) rfl (vu (eSi64 x19) [(5, (bf (.row 1 (x19.map (AV.int .i64)))))] rfl trivial rfl (nx _ rfl (a_ret ?_)))))
    refine ⟨.inr rfl, ?_⟩
    rw [Try.results119]
    cases h
    exact ⟨_, _, _, _, _, rfl, trivial, .inl ⟨rfl, .inl rfl⟩, rfl, rfl⟩
  · have h := hy21
    refine a_block ?_
    refine a_loop (emb := fun (s : (Int × (List Int))) => ⟨[(0, (i6 a0)), (1, (i6 s.1)), (5, (.osl 5))], [(5, (bk (.row 1 (s.2.map (AV.int .i64)))))]⟩) (body := (fun s : (Int × (List Int)) => impl_prime_numbered_l1 a0 s.1 s.2)) (G := fun q => some q = some y20) h rfl ?_ (by kernel_rfl)
    rintro X33 ⟨x27, x28⟩ x34 h hX35
    have h : impl_prime_numbered_l1 a0 x27 x28 = some x34 := h
    refine a_st (σ' := ⟨[(0, (i6 a0)), (1, (i6 x27)), (5, (.osl 5))], [(5, (bk (.row 1 (x28.map (AV.int .i64)))))]⟩) (by kernel_rfl) (a_seq (sr (vp (i6 x27) rfl (vp (.bool ((decide (x27 > 0)))) rfl (nx ⟨[(0, (i6 a0)), (1, (i6 x27)), (5, (.osl 5)), (7, (.bool ((decide (x27 > 0)))))], [(5, (bk (.row 1 (x28.map (AV.int .i64)))))]⟩ (by kernel_rfl) ?_)))))
    cases hb36 : (decide (x27 > 0))
    · have h := ite_f hb36 h
      refine a_cond_f rfl (a_exit (t_exit ?_))
      cases h
      have h := hX35
      refine t_exit (b_exit ?_)
      exact j_leaf x28 (Option.some.inj h) (by kernel_rfl)
    · have h := ite_t hb36 h
      refine a_cond_t rfl (a_skip (a_next (σ' := ⟨[(0, (i6 a0)), (1, (i6 x27)), (5, (.osl 5))], [(5, (bk (.row 1 (x28.map (AV.int .i64)))))]⟩) (by kernel_rfl) (a_seq (a_block (a_region (vp (.osl 5) rfl (vp (i6 x27) rfl (vp (i6 a0) rfl ?_))))))))
      obtain ⟨hc37, h⟩ := ifp_some h
      refine vq (i6 (Int.tmod x27 a0)) rfl hc37 (vq (.sl 1 true (([Int.tmod x27 a0]).map (AV.int .i64))) rfl ⟨(Nat.le_of_ble_eq_true rfl), (Nat.le_of_ble_eq_true rfl), (all_cons ⟨(Nat.le_of_ble_eq_true rfl), rfl⟩ all_nil)⟩ ?_)
      obtain ⟨hc38, h⟩ := ifp_some h
      refine vu (.osl 2600) [(2600, (bk (.row 1 (((x28 ++ ([Int.tmod x27 a0]))).map (AV.int .i64))))), (5, none)] (app_run (i := ⟨.int .i64, 1, 8, (.int .i64 0)⟩) (f := (AV.int .i64)) (l := x28) (l2 := [Int.tmod x27 a0]) rfl rfl rfl rfl (fun _ => rfl) rfl rfl) (app_c (f := (AV.int .i64)) (s := 1) (sz := 1) (by' := 8) (u := []) (id := 5) hc38 (.inr rfl) rfl rfl rfl) rfl (vp (.osl 2600) rfl (a_nil (b_norm (a_next (σ' := ⟨[(0, (i6 a0)), (1, (i6 x27)), (5, (.osl 5))], [(5, (bk (.row 1 (((x28 ++ ([Int.tmod x27 a0]))).map (AV.int .i64)))))]⟩) (by kernel_rfl) (a_region (vp (i6 x27) rfl (vp (i6 a0) rfl ?_)))))))
      obtain ⟨hc39, h⟩ := ifp_some h
      refine vq (i6 (IntKind.i64.wrap (Int.tdiv x27 a0))) rfl hc39 (vp (i6 (IntKind.i64.wrap (Int.tdiv x27 a0))) rfl (a_nil ?_))
      cases h
      exact a_again (by kernel_rfl) hX35
def impl_prime_monics_c : ACode := (.seq (.region 0 [q 4 (.asg 1 (.const (.slice none 0 0)) 108)] false) (.seq (.region 1 [q 8 (.mov (t 0)), q 9 (.mov (t 1)), q 10 (.call 0 (.func 171) [(t 8), (t 9), (.const (.int .i64 343))]), q 5 (.asg 0 (t 10) 2)] false) (.seq (.region 2 [q 6 (.asg 2 (.const (.slice none 0 0)) 108)] false) (.seq (.seq (.region 3 [q 11 (.mov (t 5)), q 12 (.mov (.const (.int .i64 0)))] false) (.block 0 (.loop (.seq (.region 4 [q 13 (.bin .lss 2 (t 12) (t 11))] false) (.seq (.cond (t 13) .skip (.exit 0)) (.seq (.block 1 (.seq (.region 5 [q 14 (.mov (t 12)), q 7 (.asg 0 (t 14) 2)] false) (.region 6 [q 15 (.mov (t 6)), q 16 (.mov (t 0)), q 17 (.mov (t 5)), q 18 (.mov (t 7)), q 19 (.bin .add 2 (t 17) (t 18)), q 20 (.call 0 (.func 119) [(t 16), (t 19)]), q 21 (.bslice 0 108 1 [(0, (t 20))]), q 22 (.blt 0 .append [(t 15), (t 21)] [108, 108]), q 6 (.asg 2 (t 22) 108)] false))) (.region 7 [q 23 (.bin .add 2 (t 12) (.const (.int .i64 1))), q 12 (.mov (t 23))] false))))))) (.seq (.region 8 [q 24 (.mov (t 6)), q 4 (.asg 1 (t 24) 108)] false) .ret)))))
def impl_prime_monics_L : Live := [(0, [0, 1]), (1, [0, 1]), (2, [0, 5]), (3, [0, 5, 6]), (4, [0, 5, 6, 11, 12]), (5, [0, 5, 6, 11, 12]), (6, [0, 5, 6, 7, 11, 12]), (7, [0, 5, 6, 11, 12]), (8, [6]), (100013, [0, 5, 6, 11, 12, 13])]
noncomputable def impl_prime_monics_l1 (r1 : Int) (a0 : Int) (x29 : Int) (x30 : (List (List Int))) : Option ((Int × (List (List Int))) ⊕ (List (List Int))) :=
  (if (decide (x29 < r1)) then (Option.bind (impl_prime_numbered a0 (IntKind.i64.wrap (r1 + x29))) fun r39 => (ifp ((x30.length + ([r39] : List (List Int)).length) * 24 ≤ 140737488355328) ((some (.inl ((IntKind.i64.wrap (x29 + 1), (x30 ++ ([r39]))))))))) else (some (.inr x30)))
noncomputable def impl_prime_monics (a0 : Int) (a1 : Int) : Option (List (List Int)) :=
  (Option.bind (impl_prime_norm a0 a1 343) fun r1 => (Option.bind (α := (List (List Int))) ((loopM (fun s : (Int × (List (List Int))) => impl_prime_monics_l1 r1 a0 s.1 s.2) (0, []))) fun x21 => (some x21)))
theorem impl_prime_monics_ok (a0 : Int) (a1 : Int) (r : (List (List Int))) (h : impl_prime_monics a0 a1 = some r) : Den Try.prog 172 [(i6 a0), (i6 a1)] { r := (eSSi64 r) } := by
  refine den_of (rs := [(eSSi64 r)]) (ac := impl_prime_monics_c) (L := impl_prime_monics_L) (n := 25) (m := [(4, 1), (6, 2)]) (c := Try.f172.body.getD .skip) good Try.func172 (by kernel_rfl) (by kernel_rfl) Try.ntmps172 rfl rfl (by kernel_rfl) rfl rfl ?_
  refine a_st (σ' := ⟨[(0, (i6 a0)), (1, (i6 a1))], []⟩) (by kernel_rfl) ?_
  unfold impl_prime_monics_c
  refine sr (vp (eSSi64 ([])) rfl (nx ⟨[(0, (i6 a0)), (1, (i6 a1))], []⟩ (by kernel_rfl) (sr (vp (i6 a0) rfl (vp (i6 a1) rfl ?_)))))
  obtain ⟨r1, hr2, h⟩ := bind_some h
  refine a_call (args := [(i6 a0), (i6 a1), (i6 343)]) (u := []) (r := (i6 r1)) rfl rfl (impl_prime_norm_ok a0 a1 343 r1 hr2) rfl (vp (i6 r1) rfl (nx ⟨[(0, (i6 a0)), (5, (i6 r1))], []⟩ (by kernel_rfl) (sr (vu (.osl 1600) [(1600, (bk (.row 1 (([]).map eSi64))))] rfl trivial rfl (nx ⟨[(0, (i6 a0)), (5, (i6 r1)), (6, (.osl 6))], [(6, (bk (.row 1 (([]).map eSi64))))]⟩ (by kernel_rfl) ?_)))))
  obtain ⟨y22, hy23, hk24⟩ := bind_some h
  clear h
  refine a_join (emb := fun (s : (List (List Int))) => ⟨[(6, (.osl 6))], [(6, (bk (.row 1 (s.map eSi64))))]⟩) (pre := fun s => s = y22) ?_ ?_
  · rintro x21 rfl
    have h := hk24
    refine a_st (σ' := ⟨[(6, (.osl 6))], [(6, (bk (.row 1 (x21.map eSi64))))]⟩) (by kernel_rfl) (sr (vp (.osl 6) rfl (vu (eSSi64 x21) [(6, (bf (.row 1 (x21.map eSi64))))] rfl trivial rfl (nx _ rfl (a_ret ?_)))))
    refine ⟨.inr rfl, ?_⟩
    rw [Try.results172]
    cases h
    exact ⟨_, _, _, _, _, rfl, trivial, .inl ⟨rfl, .inl rfl⟩, rfl, rfl⟩
  · have h := hy23
    refine sr (vp (i6 r1) rfl (vp (i6 0) rfl (nx ⟨[(0, (i6 a0)), (5, (i6 r1)), (6, (.osl 6)), (11, (i6 r1)), (12, (i6 0))], [(6, (bk (.row 1 (([]).map eSi64))))]⟩ (by kernel_rfl) (a_block ?_))))
    refine a_loop (emb := fun (s : (Int × (List (List Int)))) => ⟨[(0, (i6 a0)), (5, (i6 r1)), (6, (.osl 6)), (11, (i6 r1)), (12, (i6 s.1))], [(6, (bk (.row 1 (s.2.map eSi64))))]⟩) (body := (fun s : (Int × (List (List Int))) => impl_prime_monics_l1 r1 a0 s.1 s.2)) (G := fun q => some q = some y22) h rfl ?_ (by kernel_rfl)
    rintro X35 ⟨x29, x30⟩ x36 h hX37
    have h : impl_prime_monics_l1 r1 a0 x29 x30 = some x36 := h
    refine a_st (σ' := ⟨[(0, (i6 a0)), (5, (i6 r1)), (6, (.osl 6)), (11, (i6 r1)), (12, (i6 x29))], [(6, (bk (.row 1 (x30.map eSi64))))]⟩) (by kernel_rfl) (sr (vp (.bool ((decide (x29 < r1)))) rfl (nx ⟨[(0, (i6 a0)), (5, (i6 r1)), (6, (.osl 6)), (11, (i6 r1)), (12, (i6 x29)), (13, (.bool ((decide (x29 < r1)))))], [(6, (bk (.row 1 (x30.map eSi64))))]⟩ (by kernel_rfl) (a_seq ?_))))
    cases hb38 : (decide (x29 < r1))
    · have h := ite_f hb38 h
      refine a_cond_f rfl (a_exit (t_exit ?_))
      cases h
      have h := hX37
      refine t_exit (b_exit ?_)
      exact j_leaf x30 (Option.some.inj h) (by kernel_rfl)
    · have h := ite_t hb38 h
      refine a_cond_t rfl (a_skip (a_next (σ' := ⟨[(0, (i6 a0)), (5, (i6 r1)), (6, (.osl 6)), (11, (i6 r1)), (12, (i6 x29))], [(6, (bk (.row 1 (x30.map eSi64))))]⟩) (by kernel_rfl) (a_seq (a_block (sr (vp (i6 x29) rfl (vp (i6 x29) rfl (nx ⟨[(0, (i6 a0)), (5, (i6 r1)), (6, (.osl 6)), (7, (i6 x29)), (11, (i6 r1)), (12, (i6 x29))], [(6, (bk (.row 1 (x30.map eSi64))))]⟩ (by kernel_rfl) (a_region ?_)))))))))
      refine vp (.osl 6) rfl (vp (i6 a0) rfl (vp (i6 r1) rfl (vp (i6 x29) rfl (vp (i6 (IntKind.i64.wrap (r1 + x29))) rfl ?_))))
      obtain ⟨r39, hr40, h⟩ := bind_some h
      refine a_call (args := [(i6 a0), (i6 (IntKind.i64.wrap (r1 + x29)))]) (u := []) (r := (eSi64 r39)) rfl rfl (impl_prime_numbered_ok a0 (IntKind.i64.wrap (r1 + x29)) r39 hr40) rfl (vq (.sl 1 true (([r39]).map eSi64)) rfl ⟨(Nat.le_of_ble_eq_true rfl), (Nat.le_of_ble_eq_true rfl), (all_cons ⟨(Nat.le_of_ble_eq_true rfl), rfl⟩ all_nil)⟩ ?_)
      obtain ⟨hc41, h⟩ := ifp_some h
      refine vu (.osl 3200) [(3200, (bk (.row 1 (((x30 ++ ([r39]))).map eSi64)))), (6, none)] (app_run (i := ⟨.slice 2, 1, 24, (eSi64 [])⟩) (f := eSi64) (l := x30) (l2 := [r39]) rfl rfl rfl rfl (fun _ => rfl) rfl rfl) (app_c (f := eSi64) (s := 1) (sz := 1) (by' := 24) (u := []) (id := 6) hc41 (.inr rfl) rfl rfl rfl) rfl (vp (.osl 3200) rfl (a_nil (b_norm (a_next (σ' := ⟨[(0, (i6 a0)), (5, (i6 r1)), (6, (.osl 6)), (11, (i6 r1)), (12, (i6 x29))], [(6, (bk (.row 1 (((x30 ++ ([r39]))).map eSi64))))]⟩) (by kernel_rfl) (a_region (vp (i6 (IntKind.i64.wrap (x29 + 1))) rfl (vp (i6 (IntKind.i64.wrap (x29 + 1))) rfl (a_nil ?_))))))))
      cases h
      exact a_again (by kernel_rfl) hX37
def impl_row_trimmed_c : ACode := (.seq (.region 0 [q 2 (.asg 1 (.const (.slice none 0 0)) 80)] false) (.seq (.region 1 [q 4 (.mov (t 0)), q 5 (.blt 0 .len [(t 4)] [80]), q 3 (.asg 0 (t 5) 3)] false) (.seq (.block 0 (.loop (.seq (.seq (.region 2 [q 6 (.mov (t 3)), q 7 (.bin .gtr 3 (t 6) (.const (.int .i64 0))), q 8 (.mov (t 7)), ⟨some 9, .mov (t 0), some (8, true), []⟩, ⟨some 10, .mov (t 3), some (8, true), []⟩, ⟨some 11, .bin .sub 3 (t 10) (.const (.int .i64 1)), some (8, true), []⟩, ⟨some 12, .indexAddr 80 (t 9) (t 11), some (8, true), []⟩, ⟨some 13, .load 2 (t 12), some (8, true), []⟩, ⟨some 14, .bin .eql 2 (t 13) (.const (.int .i64 0)), some (8, true), []⟩, q 15 (.pick (t 8) (t 14) (.const (.bool false)))] false) (.cond (t 15) .skip (.exit 0))) (.block 1 (.region 3 [q 16 (.mov (t 3)), q 17 (.bin .sub 3 (t 16) (.const (.int .i64 1))), q 3 (.asg 0 (t 17) 3)] false))))) (.seq (.region 4 [q 18 (.mov (t 0)), q 19 (.mov (t 3)), q 20 (.mov (t 3)), q 21 (.slice 80 (t 18) none (some (t 19)) (some (t 20))), q 2 (.asg 1 (t 21) 80)] false) .ret))))
def impl_row_trimmed_L : Live := [(0, [0]), (1, [0]), (2, [0, 3]), (3, [0, 3]), (4, [0, 3]), (100015, [0, 3, 15])]
noncomputable def impl_row_trimmed_l1 (a0 : (List Int)) (x62 : Int) : Option (Int ⊕ Int) :=
  (Option.bind (α := Bool) ((if (decide (x62 > 0)) then (ifp (0 ≤ IntKind.i64.wrap (x62 - 1) ∧ IntKind.i64.wrap (x62 - 1) < ((a0.length : Nat) : Int)) ((some ((((rd a0 (IntKind.i64.wrap (x62 - 1)).toNat)) == 0))))) else (some false))) fun x80 => (if x80 then (some (.inl (IntKind.i64.wrap (x62 - 1)))) else (some (.inr x62))))
noncomputable def impl_row_trimmed (a0 : (List Int)) : Option (List Int) :=
  (Option.bind (α := Int) ((loopM (fun s : Int => impl_row_trimmed_l1 a0 s) (a0.length : Int))) fun x43 => (ifp (0 ≤ x43 ∧ x43 ≤ (a0.length : Int)) ((some (a0.take x43.toNat)))))
theorem impl_row_trimmed_ok (a0 : (List Int)) (r : (List Int)) (h : impl_row_trimmed a0 = some r) : Den Try.prog 180 [(eSi64 a0)] { r := (eSi64 r) } := by
  refine den_of (rs := [(eSi64 r)]) (ac := impl_row_trimmed_c) (L := impl_row_trimmed_L) (n := 22) (m := [(2, 1)]) (c := Try.f180.body.getD .skip) good Try.func180 (by kernel_rfl) (by kernel_rfl) Try.ntmps180 rfl rfl (by kernel_rfl) rfl rfl ?_
  refine a_st (σ' := ⟨[(0, (eSi64 a0))], []⟩) (by kernel_rfl) ?_
  unfold impl_row_trimmed_c
  refine sr (vp (eSi64 ([])) rfl (nx ⟨[(0, (eSi64 a0))], []⟩ (by kernel_rfl) (sr (vp (eSi64 a0) rfl (vq (i6 (a0.length : Int)) (len_run rfl rfl) trivial (vp (i6 (a0.length : Int)) rfl (nx ⟨[(0, (eSi64 a0)), (3, (i6 (a0.length : Int)))], []⟩ (by kernel_rfl) ?_)))))))
  obtain ⟨y44, hy45, hk46⟩ := bind_some h
  clear h
  refine a_join (emb := fun (s : Int) => ⟨[(0, (eSi64 a0)), (3, (i6 s))], []⟩) (pre := fun s => s = y44) ?_ ?_
  · rintro x43 rfl
    have h := hk46
    refine a_st (σ' := ⟨[(0, (eSi64 a0)), (3, (i6 x43))], []⟩) (by kernel_rfl) (sr (vp (eSi64 a0) rfl (vp (i6 x43) rfl (vp (i6 x43) rfl ?_))))
    obtain ⟨hc89, h⟩ := ifp_some h
    refine vq (.sl 1 true ((a0.take x43.toNat).map (AV.int .i64))) (take3_run (f := (AV.int .i64)) (l := a0) (i := ⟨.int .i64, 1, 8, (.int .i64 0)⟩) rfl rfl rfl rfl (fun _ => rfl)) ⟨hc89.1, lmap_le hc89.2, rfl⟩ (vq (eSi64 (a0.take x43.toNat)) (asg_tight (i := ⟨.int .i64, 1, 8, (.int .i64 0)⟩) (f := (AV.int .i64)) (l := (a0.take x43.toNat)) rfl rfl rfl) trivial (nx _ rfl (a_ret ?_)))
    refine ⟨.inr rfl, ?_⟩
    rw [Try.results180]
    cases h
    exact ⟨_, _, _, _, _, rfl, trivial, .inl ⟨rfl, .inl rfl⟩, rfl, rfl⟩
  · have h := hy45
    refine a_block ?_
    refine a_loop (emb := fun (s : Int) => ⟨[(0, (eSi64 a0)), (3, (i6 s))], []⟩) (body := (fun s : Int => impl_row_trimmed_l1 a0 s)) (G := fun q => some q = some y44) h rfl ?_ (by kernel_rfl)
    rintro X74 x62 x75 h hX76
    have h : impl_row_trimmed_l1 a0 x62 = some x75 := h
    refine a_st (σ' := ⟨[(0, (eSi64 a0)), (3, (i6 x62))], []⟩) (by kernel_rfl) (a_seq ?_)
    obtain ⟨y81, hy82, hk83⟩ := bind_some h
    clear h
    refine a_join (emb := fun (s : Bool) => ⟨[(0, (eSi64 a0)), (3, (i6 x62)), (15, (.bool s))], []⟩) (pre := fun s => s = y81) ?_ ?_
    · rintro x80 rfl
      have h := hk83
      refine a_st (σ' := ⟨[(0, (eSi64 a0)), (3, (i6 x62)), (15, (.bool x80))], []⟩) (by kernel_rfl) ?_
      cases hb87 : x80
      · have h := ite_f hb87 h
        refine a_cond_f rfl (a_exit (t_exit ?_))
        cases h
        have h := hX76
        refine t_exit (b_exit ?_)
        exact j_leaf x62 (Option.some.inj h) (by kernel_rfl)
      · have h := ite_t hb87 h
        refine a_cond_t rfl (a_skip (a_next (σ' := ⟨[(0, (eSi64 a0)), (3, (i6 x62))], []⟩) (by kernel_rfl) (a_block (a_region (vp (i6 x62) rfl (vp (i6 (IntKind.i64.wrap (x62 - 1))) rfl (vp (i6 (IntKind.i64.wrap (x62 - 1))) rfl (a_nil (b_norm ?_)))))))))
        cases h
        exact a_again (by kernel_rfl) hX76
    · have h := hy82
      refine a_region (vp (i6 x62) rfl (vp (.bool ((decide (x62 > 0)))) rfl (vp (.bool ((decide (x62 > 0)))) rfl ?_)))
      cases hb84 : (decide (x62 > 0))
      · have h := ite_f hb84 h
        refine a_gskip rfl (a_gskip rfl (a_gskip rfl (a_gskip rfl (a_gskip rfl (a_gskip rfl (vp (.bool false) rfl (a_nil ?_)))))))
        exact j_leaf false (Option.some.inj h) (by kernel_rfl)
      · have h := ite_t hb84 h
        refine gp (eSi64 a0) rfl rfl (gp (i6 x62) rfl rfl (gp (i6 (IntKind.i64.wrap (x62 - 1))) rfl rfl ?_))
        obtain ⟨hc85, h⟩ := ifp_some h
        refine gq (.ref (.row 1 (a0.map (AV.int .i64))) [(IntKind.i64.wrap (x62 - 1)).toNat] [(IntKind.i64.wrap (x62 - 1)).toNat * 1]) rfl rfl (lmap hc85) ?_
        have hl86 : LdOk [(IntKind.i64.wrap (x62 - 1)).toNat] (.row 1 (a0.map (AV.int .i64))) [(IntKind.i64.wrap (x62 - 1)).toNat * 1] 1 false (i6 ((rd a0 (IntKind.i64.wrap (x62 - 1)).toNat))) := (.row (llt hc85) rfl (.nil rfl rfl rfl))
        refine gq (i6 ((rd a0 (IntKind.i64.wrap (x62 - 1)).toNat))) rfl (ld_ref (i := ⟨.int .i64, 1, 8, (.int .i64 0)⟩) rfl rfl hl86) hl86.c (gp (.bool ((((rd a0 (IntKind.i64.wrap (x62 - 1)).toNat)) == 0))) rfl rfl (vp (.bool ((((rd a0 (IntKind.i64.wrap (x62 - 1)).toNat)) == 0))) rfl (a_nil ?_)))
        exact j_leaf ((((rd a0 (IntKind.i64.wrap (x62 - 1)).toNat)) == 0)) (Option.some.inj h) (by kernel_rfl)
def impl_prime_times_c : ACode := (.seq (.region 0 [q 6 (.asg 1 (.const (.slice none 0 0)) 80)] false) (.seq (.seq (.region 1 [q 14 (.mov (t 1)), q 15 (.blt 0 .len [(t 14)] [80]), q 16 (.bin .eql 3 (t 15) (.const (.int .i64 0))), q 17 (.mov (t 16)), ⟨some 18, .mov (t 2), some (17, false), []⟩, ⟨some 19, .blt 0 .len [(t 18)] [80], some (17, false), []⟩, ⟨some 20, .bin .eql 3 (t 19) (.const (.int .i64 0)), some (17, false), []⟩, q 21 (.pick (t 17) (.const (.bool true)) (t 20))] false) (.cond (t 21) (.seq (.region 2 [q 6 (.asg 1 (.const (.slice none 0 0)) 80)] false) .ret) .skip)) (.seq (.region 3 [q 22 (.mov (t 1)), q 23 (.blt 0 .len [(t 22)] [80]), q 24 (.mov (t 2)), q 25 (.blt 0 .len [(t 24)] [80]), q 26 (.bin .add 3 (t 23) (t 25)), q 27 (.bin .sub 3 (t 26) (.const (.int .i64 1))), q 28 (.mkslice 80 (t 27) (t 27)), q 7 (.asg 2 (t 28) 80)] false) (.seq (.seq (.region 4 [q 29 (.mov (t 1)), q 30 (.blt 0 .len [(t 29)] [80]), q 31 (.mov (.const (.int .i64 0)))] false) (.block 0 (.loop (.seq (.region 5 [q 32 (.bin .lss 3 (t 31) (t 30))] false) (.seq (.cond (t 32) .skip (.exit 0)) (.seq (.block 1 (.seq (.region 6 [q 33 (.mov (t 31)), q 34 (.indexAddr 80 (t 29) (t 31)), q 35 (.load 2 (t 34)), q 8 (.asg 0 (t 33) 3), q 9 (.asg 0 (t 35) 2)] false) (.seq (.region 7 [q 36 (.mov (t 2)), q 37 (.blt 0 .len [(t 36)] [80]), q 38 (.mov (.const (.int .i64 0)))] false) (.block 2 (.loop (.seq (.region 8 [q 39 (.bin .lss 3 (t 38) (t 37))] false) (.seq (.cond (t 39) .skip (.exit 2)) (.seq (.block 3 (.seq (.region 9 [q 40 (.mov (t 38)), q 41 (.indexAddr 80 (t 36) (t 38)), q 42 (.load 2 (t 41)), q 10 (.asg 0 (t 40) 3), q 11 (.asg 0 (t 42) 2)] false) (.region 10 [q 43 (.mov (t 7)), q 44 (.mov (t 8)), q 45 (.mov (t 10)), q 46 (.bin .add 3 (t 44) (t 45)), q 47 (.indexAddr 80 (t 43) (t 46)), q 48 (.load 2 (t 47)), q 49 (.mov (t 9)), q 50 (.mov (t 11)), q 51 (.bin .mul 2 (t 49) (t 50)), q 52 (.bin .add 2 (t 48) (t 51)), q 53 (.indexAddr 80 (t 43) (t 46)), ⟨none, .store 2 (t 53) (t 52), none, []⟩] false))) (.region 11 [q 54 (.bin .add 3 (t 38) (.const (.int .i64 1))), q 38 (.mov (t 54))] false))))))))) (.region 12 [q 55 (.bin .add 3 (t 31) (.const (.int .i64 1))), q 31 (.mov (t 55))] false))))))) (.seq (.seq (.region 13 [q 56 (.mov (t 7)), q 57 (.blt 0 .len [(t 56)] [80]), q 58 (.mov (.const (.int .i64 0)))] false) (.block 4 (.loop (.seq (.region 14 [q 59 (.bin .lss 3 (t 58) (t 57))] false) (.seq (.cond (t 59) .skip (.exit 4)) (.seq (.block 5 (.seq (.region 15 [q 60 (.mov (t 58)), q 61 (.indexAddr 80 (t 56) (t 58)), q 62 (.load 2 (t 61)), q 12 (.asg 0 (t 60) 3), q 13 (.asg 0 (t 62) 2)] false) (.region 16 [q 63 (.mov (t 7)), q 64 (.mov (t 12)), q 65 (.mov (t 13)), q 66 (.mov (t 0)), q 67 (.bin .rem 2 (t 65) (t 66)), q 68 (.indexAddr 80 (t 63) (t 64)), ⟨none, .store 2 (t 68) (t 67), none, []⟩] false))) (.region 17 [q 69 (.bin .add 3 (t 58) (.const (.int .i64 1))), q 58 (.mov (t 69))] false))))))) (.seq (.region 18 [q 70 (.mov (t 7)), q 71 (.call 0 (.func 180) [(t 70)]), q 6 (.asg 1 (t 71) 80)] false) .ret))))))
def impl_prime_times_L : Live := [(0, [0, 1, 2]), (1, [0, 1, 2]), (2, []), (3, [0, 1, 2]), (4, [0, 1, 2, 7]), (5, [0, 2, 7, 29, 30, 31]), (6, [0, 2, 7, 29, 30, 31]), (7, [0, 2, 7, 8, 9, 29, 30, 31]), (8, [0, 2, 7, 8, 9, 29, 30, 31, 36, 37, 38]), (9, [0, 2, 7, 8, 9, 29, 30, 31, 36, 37, 38]), (10, [0, 2, 7, 8, 9, 10, 11, 29, 30, 31, 36, 37, 38]), (11, [0, 2, 7, 8, 9, 29, 30, 31, 36, 37, 38]), (12, [0, 2, 7, 29, 30, 31]), (13, [0, 7]), (14, [0, 7, 56, 57, 58]), (15, [0, 7, 56, 57, 58]), (16, [0, 7, 12, 13, 56, 57, 58]), (17, [0, 7, 56, 57, 58]), (18, [7]), (100021, [0, 1, 2, 21]), (100032, [0, 2, 7, 29, 30, 31, 32]), (100039, [0, 2, 7, 8, 9, 29, 30, 31, 36, 37, 38, 39]), (100059, [0, 7, 56, 57, 58, 59])]
noncomputable def impl_prime_times_l2 (a2 : (List Int)) (x353 : Int) (a1 : (List Int)) (x492 : Int) (x493 : (List Int)) : Option ((Int × (List Int)) ⊕ (List Int)) :=
  (if (decide (x492 < (a2.length : Int))) then (ifp (0 ≤ x492 ∧ x492 < ((a2.length : Nat) : Int)) ((ifp (0 ≤ IntKind.i64.wrap (x353 + x492) ∧ IntKind.i64.wrap (x353 + x492) < ((x493.length : Nat) : Int)) ((letp (IntKind.i64.wrap (((rd x493 (IntKind.i64.wrap (x353 + x492)).toNat)) + (IntKind.i64.wrap ((rd a1 x353.toNat) * (rd a2 x492.toNat))))) fun x511 => (ifp (0 ≤ IntKind.i64.wrap (x353 + x492) ∧ IntKind.i64.wrap (x353 + x492) < ((x493.length : Nat) : Int)) ((some (.inl ((IntKind.i64.wrap (x492 + 1), (x493.set (IntKind.i64.wrap (x353 + x492)).toNat x511)))))))))))) else (some (.inr x493)))
noncomputable def impl_prime_times_l1 (a1 : (List Int)) (a2 : (List Int)) (x353 : Int) (x354 : (List Int)) : Option ((Int × (List Int)) ⊕ (List Int)) :=
  (if (decide (x353 < (a1.length : Int))) then (Option.bind (α := (List Int)) ((ifp (0 ≤ x353 ∧ x353 < ((a1.length : Nat) : Int)) ((loopM (fun s : (Int × (List Int)) => impl_prime_times_l2 a2 x353 a1 s.1 s.2) (0, x354))))) fun x475 => (some (.inl ((IntKind.i64.wrap (x353 + 1), x475))))) else (some (.inr x354)))
noncomputable def impl_prime_times_l3 (x262 : (List Int)) (a0 : Int) (x551 : Int) (x552 : (List Int)) : Option ((Int × (List Int)) ⊕ (List Int)) :=
  (if (decide (x551 < (x262.length : Int))) then (ifp (0 ≤ x551 ∧ x551 < ((x552.length : Nat) : Int)) ((ifp (a0 ≠ 0) ((ifp (0 ≤ x551 ∧ x551 < ((x552.length : Nat) : Int)) ((some (.inl ((IntKind.i64.wrap (x551 + 1), (x552.set x551.toNat (Int.tmod (rd x552 x551.toNat) a0)))))))))))) else (some (.inr x552)))
noncomputable def impl_prime_times (a0 : Int) (a1 : (List Int)) (a2 : (List Int)) : Option (List Int) :=
  (Option.bind (α := Bool) ((if ((a1.length : Int) == 0) then (some true) else (some (((a2.length : Int) == 0))))) fun x2 => (if x2 then (some ([])) else (letp (IntKind.i64.wrap ((IntKind.i64.wrap ((a1.length : Int) + (a2.length : Int))) - 1)) fun x8 => (ifp (0 ≤ x8 ∧ x8 ≤ 140737488355328 ∧ 8 * x8 ≤ 140737488355328) ((Option.bind (α := (List Int)) ((loopM (fun s : (Int × (List Int)) => impl_prime_times_l1 a1 a2 s.1 s.2) (0, List.replicate x8.toNat (0 : Int)))) fun x262 => (Option.bind (α := (List Int)) ((loopM (fun s : (Int × (List Int)) => impl_prime_times_l3 x262 a0 s.1 s.2) (0, x262))) fun x541 => (Option.bind (impl_row_trimmed x541) fun r569 => (some r569)))))))))
theorem impl_prime_times_ok (a0 : Int) (a1 : (List Int)) (a2 : (List Int)) (r : (List Int)) (h : impl_prime_times a0 a1 a2 = some r) : Den Try.prog 102 [(i6 a0), (eSi64 a1), (eSi64 a2)] { r := (eSi64 r) } := by
  refine den_of (rs := [(eSi64 r)]) (ac := impl_prime_times_c) (L := impl_prime_times_L) (n := 72) (m := [(6, 1), (7, 2)]) (c := Try.f102.body.getD .skip) good Try.func102 (by kernel_rfl) (by kernel_rfl) Try.ntmps102 rfl rfl (by kernel_rfl) rfl rfl ?_
  refine a_st (σ' := ⟨[(0, (i6 a0)), (1, (eSi64 a1)), (2, (eSi64 a2))], []⟩) (by kernel_rfl) ?_
  unfold impl_prime_times_c
  refine sr (vp (eSi64 ([])) rfl (nx ⟨[(0, (i6 a0)), (1, (eSi64 a1)), (2, (eSi64 a2))], []⟩ (by kernel_rfl) (a_seq ?_)))
  obtain ⟨y3, hy4, hk5⟩ := bind_some h
  clear h
  refine a_join (emb := fun (s : Bool) => ⟨[(0, (i6 a0)), (1, (eSi64 a1)), (2, (eSi64 a2)), (21, (.bool s))], []⟩) (pre := fun s => s = y3) ?_ ?_
  · rintro x2 rfl
    have h := hk5
    refine a_st (σ' := ⟨[(0, (i6 a0)), (1, (eSi64 a1)), (2, (eSi64 a2)), (21, (.bool x2))], []⟩) (by kernel_rfl) ?_
    cases hb7 : x2
    · have h := ite_f hb7 h
      refine a_cond_f rfl (a_skip (a_next (σ' := ⟨[(0, (i6 a0)), (1, (eSi64 a1)), (2, (eSi64 a2))], []⟩) (by kernel_rfl) (sr (vp (eSi64 a1) rfl (vq (i6 (a1.length : Int)) (len_run rfl rfl) trivial (vp (eSi64 a2) rfl (vq (i6 (a2.length : Int)) (len_run rfl rfl) trivial (vp (i6 (IntKind.i64.wrap ((a1.length : Int) + (a2.length : Int)))) rfl ?_))))))))
      obtain ⟨x8, hx9, h⟩ := letp_some h
      refine a_val' (v := (i6 (IntKind.i64.wrap ((IntKind.i64.wrap ((a1.length : Int) + (a2.length : Int))) - 1)))) (v' := (i6 x8)) (u := []) (u' := []) rfl (congrArg (fun z => ((i6 z) : AV)) hx9) rfl trivial rfl ?_
      obtain ⟨hc10, h⟩ := ifp_some h
      refine vu (.osl 3800) [(3800, (bk (.row 1 ((List.replicate x8.toNat (0 : Int)).map (AV.int .i64)))))] (mk_run (i := ⟨.int .i64, 1, 8, (.int .i64 0)⟩) (f := (AV.int .i64)) (y := (0 : Int)) rfl rfl rfl rfl rfl rfl) ⟨rfl, hc10.1, hc10.2.1, hc10.2.2, (Nat.le_of_ble_eq_true rfl)⟩ rfl (vp (.osl 3800) rfl (nx ⟨[(0, (i6 a0)), (1, (eSi64 a1)), (2, (eSi64 a2)), (7, (.osl 7))], [(7, (bk (.row 1 ((List.replicate x8.toNat (0 : Int)).map (AV.int .i64)))))]⟩ (by kernel_rfl) ?_))
      obtain ⟨y263, hy264, hk265⟩ := bind_some h
      clear h
      refine a_join (emb := fun (s : (List Int)) => ⟨[(0, (i6 a0)), (7, (.osl 7))], [(7, (bk (.row 1 (s.map (AV.int .i64)))))]⟩) (pre := fun s => s = y263) ?_ ?_
      · rintro x262 rfl
        have h := hk265
        refine a_st (σ' := ⟨[(0, (i6 a0)), (7, (.osl 7))], [(7, (bk (.row 1 (x262.map (AV.int .i64)))))]⟩) (by kernel_rfl) ?_
        obtain ⟨y542, hy543, hk544⟩ := bind_some h
        clear h
        refine a_join (emb := fun (s : (List Int)) => ⟨[(7, (.osl 7))], [(7, (bk (.row 1 (s.map (AV.int .i64)))))]⟩) (pre := fun s => s = y542) ?_ ?_
        · rintro x541 rfl
          have h := hk544
          refine a_st (σ' := ⟨[(7, (.osl 7))], [(7, (bk (.row 1 (x541.map (AV.int .i64)))))]⟩) (by kernel_rfl) (sr (vp (.osl 7) rfl ?_))
          obtain ⟨r569, hr570, h⟩ := bind_some h
          refine a_call (args := [(eSi64 x541)]) (u := [(7, (bf (.row 1 (x541.map (AV.int .i64)))))]) (r := (eSi64 r569)) rfl rfl (impl_row_trimmed_ok x541 r569 hr570) rfl (vp (eSi64 r569) rfl (nx _ rfl (a_ret ?_)))
          refine ⟨.inr rfl, ?_⟩
          rw [Try.results102]
          cases h
          exact ⟨_, _, _, _, _, rfl, trivial, .inl ⟨rfl, .inl rfl⟩, rfl, rfl⟩
        · have h := hy543
          refine sr (vp (.osl 7) rfl (vq (i6 (x262.length : Int)) (leno_run rfl rfl rfl) trivial (vp (i6 0) rfl (nx ⟨[(0, (i6 a0)), (7, (.osl 7)), (56, (.osl 7)), (57, (i6 (x262.length : Int))), (58, (i6 0))], [(7, (bk (.row 1 (x262.map (AV.int .i64)))))]⟩ (by kernel_rfl) (a_block ?_)))))
          refine a_loop (emb := fun (s : (Int × (List Int))) => ⟨[(0, (i6 a0)), (7, (.osl 7)), (56, (.osl 7)), (57, (i6 (x262.length : Int))), (58, (i6 s.1))], [(7, (bk (.row 1 (s.2.map (AV.int .i64)))))]⟩) (body := (fun s : (Int × (List Int)) => impl_prime_times_l3 x262 a0 s.1 s.2)) (G := fun q => some q = some y542) h rfl ?_ (by kernel_rfl)
          rintro X559 ⟨x551, x552⟩ x560 h hX561
          have h : impl_prime_times_l3 x262 a0 x551 x552 = some x560 := h
          refine a_st (σ' := ⟨[(0, (i6 a0)), (7, (.osl 7)), (56, (.osl 7)), (57, (i6 (x262.length : Int))), (58, (i6 x551))], [(7, (bk (.row 1 (x552.map (AV.int .i64)))))]⟩) (by kernel_rfl) (sr (vp (.bool ((decide (x551 < (x262.length : Int))))) rfl (nx ⟨[(0, (i6 a0)), (7, (.osl 7)), (56, (.osl 7)), (57, (i6 (x262.length : Int))), (58, (i6 x551)), (59, (.bool ((decide (x551 < (x262.length : Int))))))], [(7, (bk (.row 1 (x552.map (AV.int .i64)))))]⟩ (by kernel_rfl) (a_seq ?_))))
          cases hb562 : (decide (x551 < (x262.length : Int)))
          · have h := ite_f hb562 h
            refine a_cond_f rfl (a_exit (t_exit ?_))
            cases h
            have h := hX561
            refine t_exit (b_exit ?_)
            exact j_leaf x552 (Option.some.inj h) (by kernel_rfl)
          · have h := ite_t hb562 h
            refine a_cond_t rfl (a_skip (a_next (σ' := ⟨[(0, (i6 a0)), (7, (.osl 7)), (56, (.osl 7)), (57, (i6 (x262.length : Int))), (58, (i6 x551))], [(7, (bk (.row 1 (x552.map (AV.int .i64)))))]⟩) (by kernel_rfl) (a_seq (a_block (sr (vp (i6 x551) rfl ?_))))))
            obtain ⟨hc563, h⟩ := ifp_some h
            refine vq (.own 7 [x551.toNat] [x551.toNat * 1]) rfl (lmap hc563) ?_
            have hl564 : LdOk [x551.toNat] (.row 1 (x552.map (AV.int .i64))) [x551.toNat * 1] 1 false (i6 (rd x552 x551.toNat)) := (.row (llt hc563) rfl (.nil rfl rfl rfl))
            refine vq (i6 (rd x552 x551.toNat)) (ld_own (i := ⟨.int .i64, 1, 8, (.int .i64 0)⟩) rfl rfl rfl hl564) hl564.c (vp (i6 x551) rfl (vp (i6 (rd x552 x551.toNat)) rfl (nx ⟨[(0, (i6 a0)), (7, (.osl 7)), (12, (i6 x551)), (13, (i6 (rd x552 x551.toNat))), (56, (.osl 7)), (57, (i6 (x262.length : Int))), (58, (i6 x551))], [(7, (bk (.row 1 (x552.map (AV.int .i64)))))]⟩ (by kernel_rfl) (a_region (vp (.osl 7) rfl (vp (i6 x551) rfl (vp (i6 (rd x552 x551.toNat)) rfl (vp (i6 a0) rfl ?_))))))))
            obtain ⟨hc565, h⟩ := ifp_some h
            refine vq (i6 (Int.tmod (rd x552 x551.toNat) a0)) rfl hc565 ?_
            obtain ⟨hc566, h⟩ := ifp_some h
            refine vq (.own 7 [x551.toNat] [x551.toNat * 1]) rfl (lmap hc566) ?_
            have hs567 : StOk [x551.toNat] (.row 1 (x552.map (AV.int .i64))) [x551.toNat * 1] 1 (i6 (Int.tmod (rd x552 x551.toNat) a0)) (.row 1 (((x552.set x551.toNat (Int.tmod (rd x552 x551.toNat) a0))).map (AV.int .i64))) := (.row (y := Int.tmod (rd x552 x551.toNat) a0) (llt hc566) rfl (.nil rfl rfl rfl rfl))
            refine vu .top [(7, (bk (.row 1 (((x552.set x551.toNat (Int.tmod (rd x552 x551.toNat) a0))).map (AV.int .i64)))))] (st_own (i := ⟨.int .i64, 1, 8, (.int .i64 0)⟩) rfl rfl (fun _ => rfl) rfl hs567) (hs567.c rfl) rfl (a_nil (b_norm (a_next (σ' := ⟨[(0, (i6 a0)), (7, (.osl 7)), (56, (.osl 7)), (57, (i6 (x262.length : Int))), (58, (i6 x551))], [(7, (bk (.row 1 (((x552.set x551.toNat (Int.tmod (rd x552 x551.toNat) a0))).map (AV.int .i64)))))]⟩) (by kernel_rfl) (a_region (vp (i6 (IntKind.i64.wrap (x551 + 1))) rfl (vp (i6 (IntKind.i64.wrap (x551 + 1))) rfl (a_nil ?_)))))))
            cases h
            exact a_again (by kernel_rfl) hX561
      · have h := hy264
        refine sr (vp (eSi64 a1) rfl (vq (i6 (a1.length : Int)) (len_run rfl rfl) trivial (vp (i6 0) rfl (nx ⟨[(0, (i6 a0)), (2, (eSi64 a2)), (7, (.osl 7)), (29, (eSi64 a1)), (30, (i6 (a1.length : Int))), (31, (i6 0))], [(7, (bk (.row 1 ((List.replicate x8.toNat (0 : Int)).map (AV.int .i64)))))]⟩ (by kernel_rfl) (a_block ?_)))))
        refine a_loop (emb := fun (s : (Int × (List Int))) => ⟨[(0, (i6 a0)), (2, (eSi64 a2)), (7, (.osl 7)), (29, (eSi64 a1)), (30, (i6 (a1.length : Int))), (31, (i6 s.1))], [(7, (bk (.row 1 (s.2.map (AV.int .i64)))))]⟩) (body := (fun s : (Int × (List Int)) => impl_prime_times_l1 a1 a2 s.1 s.2)) (G := fun q => some q = some y263) h rfl ?_ (by kernel_rfl)
        rintro X434 ⟨x353, x354⟩ x435 h hX436
        have h : impl_prime_times_l1 a1 a2 x353 x354 = some x435 := h
        refine a_st (σ' := ⟨[(0, (i6 a0)), (2, (eSi64 a2)), (7, (.osl 7)), (29, (eSi64 a1)), (30, (i6 (a1.length : Int))), (31, (i6 x353))], [(7, (bk (.row 1 (x354.map (AV.int .i64)))))]⟩) (by kernel_rfl) (sr (vp (.bool ((decide (x353 < (a1.length : Int))))) rfl (nx ⟨[(0, (i6 a0)), (2, (eSi64 a2)), (7, (.osl 7)), (29, (eSi64 a1)), (30, (i6 (a1.length : Int))), (31, (i6 x353)), (32, (.bool ((decide (x353 < (a1.length : Int))))))], [(7, (bk (.row 1 (x354.map (AV.int .i64)))))]⟩ (by kernel_rfl) (a_seq ?_))))
        cases hb437 : (decide (x353 < (a1.length : Int)))
        · have h := ite_f hb437 h
          refine a_cond_f rfl (a_exit (t_exit ?_))
          cases h
          have h := hX436
          refine t_exit (b_exit ?_)
          exact j_leaf x354 (Option.some.inj h) (by kernel_rfl)
        · have h := ite_t hb437 h
          refine a_cond_t rfl (a_skip (a_next (σ' := ⟨[(0, (i6 a0)), (2, (eSi64 a2)), (7, (.osl 7)), (29, (eSi64 a1)), (30, (i6 (a1.length : Int))), (31, (i6 x353))], [(7, (bk (.row 1 (x354.map (AV.int .i64)))))]⟩) (by kernel_rfl) ?_))
          obtain ⟨y476, hy477, hk478⟩ := bind_some h
          clear h
          refine a_join (emb := fun (s : (List Int)) => ⟨[(0, (i6 a0)), (2, (eSi64 a2)), (7, (.osl 7)), (29, (eSi64 a1)), (30, (i6 (a1.length : Int))), (31, (i6 x353))], [(7, (bk (.row 1 (s.map (AV.int .i64)))))]⟩) (pre := fun s => s = y476) ?_ ?_
          · rintro x475 rfl
            have h := hk478
            refine a_st (σ' := ⟨[(0, (i6 a0)), (2, (eSi64 a2)), (7, (.osl 7)), (29, (eSi64 a1)), (30, (i6 (a1.length : Int))), (31, (i6 x353))], [(7, (bk (.row 1 (x475.map (AV.int .i64)))))]⟩) (by kernel_rfl) (a_region (vp (i6 (IntKind.i64.wrap (x353 + 1))) rfl (vp (i6 (IntKind.i64.wrap (x353 + 1))) rfl (a_nil ?_))))
            cases h
            exact a_again (by kernel_rfl) hX436
          · have h := hy477
            refine a_block (sr (vp (i6 x353) rfl ?_))
            obtain ⟨hc479, h⟩ := ifp_some h
            refine vq (.ref (.row 1 (a1.map (AV.int .i64))) [x353.toNat] [x353.toNat * 1]) rfl (lmap hc479) ?_
            have hl480 : LdOk [x353.toNat] (.row 1 (a1.map (AV.int .i64))) [x353.toNat * 1] 1 false (i6 (rd a1 x353.toNat)) := (.row (llt hc479) rfl (.nil rfl rfl rfl))
            refine vq (i6 (rd a1 x353.toNat)) (ld_ref (i := ⟨.int .i64, 1, 8, (.int .i64 0)⟩) rfl rfl hl480) hl480.c (vp (i6 x353) rfl (vp (i6 (rd a1 x353.toNat)) rfl (nx ⟨[(0, (i6 a0)), (2, (eSi64 a2)), (7, (.osl 7)), (8, (i6 x353)), (9, (i6 (rd a1 x353.toNat))), (29, (eSi64 a1)), (30, (i6 (a1.length : Int))), (31, (i6 x353))], [(7, (bk (.row 1 (x354.map (AV.int .i64)))))]⟩ (by kernel_rfl) (sr (vp (eSi64 a2) rfl (vq (i6 (a2.length : Int)) (len_run rfl rfl) trivial (vp (i6 0) rfl (nx ⟨[(0, (i6 a0)), (2, (eSi64 a2)), (7, (.osl 7)), (8, (i6 x353)), (9, (i6 (rd a1 x353.toNat))), (29, (eSi64 a1)), (30, (i6 (a1.length : Int))), (31, (i6 x353)), (36, (eSi64 a2)), (37, (i6 (a2.length : Int))), (38, (i6 0))], [(7, (bk (.row 1 (x354.map (AV.int .i64)))))]⟩ (by kernel_rfl) (a_block ?_)))))))))
            refine a_loop (emb := fun (s : (Int × (List Int))) => ⟨[(0, (i6 a0)), (2, (eSi64 a2)), (7, (.osl 7)), (8, (i6 x353)), (9, (i6 (rd a1 x353.toNat))), (29, (eSi64 a1)), (30, (i6 (a1.length : Int))), (31, (i6 x353)), (36, (eSi64 a2)), (37, (i6 (a2.length : Int))), (38, (i6 s.1))], [(7, (bk (.row 1 (s.2.map (AV.int .i64)))))]⟩) (body := (fun s : (Int × (List Int)) => impl_prime_times_l2 a2 x353 a1 s.1 s.2)) (G := fun q => some q = some y476) h rfl ?_ (by kernel_rfl)
            rintro X503 ⟨x492, x493⟩ x504 h hX505
            have h : impl_prime_times_l2 a2 x353 a1 x492 x493 = some x504 := h
            refine a_st (σ' := ⟨[(0, (i6 a0)), (2, (eSi64 a2)), (7, (.osl 7)), (8, (i6 x353)), (9, (i6 (rd a1 x353.toNat))), (29, (eSi64 a1)), (30, (i6 (a1.length : Int))), (31, (i6 x353)), (36, (eSi64 a2)), (37, (i6 (a2.length : Int))), (38, (i6 x492))], [(7, (bk (.row 1 (x493.map (AV.int .i64)))))]⟩) (by kernel_rfl) (sr (vp (.bool ((decide (x492 < (a2.length : Int))))) rfl (nx ⟨[(0, (i6 a0)), (2, (eSi64 a2)), (7, (.osl 7)), (8, (i6 x353)), (9, (i6 (rd a1 x353.toNat))), (29, (eSi64 a1)), (30, (i6 (a1.length : Int))), (31, (i6 x353)), (36, (eSi64 a2)), (37, (i6 (a2.length : Int))), (38, (i6 x492)), (39, (.bool ((decide (x492 < (a2.length : Int))))))], [(7, (bk (.row 1 (x493.map (AV.int .i64)))))]⟩ (by kernel_rfl) (a_seq ?_))))
            cases hb506 : (decide (x492 < (a2.length : Int)))
            · have h := ite_f hb506 h
              refine a_cond_f rfl (a_exit (t_exit ?_))
              cases h
              have h := hX505
              refine t_exit (b_exit (b_norm ?_))
              exact j_leaf x493 (Option.some.inj h) (by kernel_rfl)
            · have h := ite_t hb506 h
              refine a_cond_t rfl (a_skip (a_next (σ' := ⟨[(0, (i6 a0)), (2, (eSi64 a2)), (7, (.osl 7)), (8, (i6 x353)), (9, (i6 (rd a1 x353.toNat))), (29, (eSi64 a1)), (30, (i6 (a1.length : Int))), (31, (i6 x353)), (36, (eSi64 a2)), (37, (i6 (a2.length : Int))), (38, (i6 x492))], [(7, (bk (.row 1 (x493.map (AV.int .i64)))))]⟩) (by kernel_rfl) (a_seq (a_block (sr (vp (i6 x492) rfl ?_))))))
              obtain ⟨hc507, h⟩ := ifp_some h
              refine vq (.ref (.row 1 (a2.map (AV.int .i64))) [x492.toNat] [x492.toNat * 1]) rfl (lmap hc507) ?_
              have hl508 : LdOk [x492.toNat] (.row 1 (a2.map (AV.int .i64))) [x492.toNat * 1] 1 false (i6 (rd a2 x492.toNat)) := (.row (llt hc507) rfl (.nil rfl rfl rfl))
              refine vq (i6 (rd a2 x492.toNat)) (ld_ref (i := ⟨.int .i64, 1, 8, (.int .i64 0)⟩) rfl rfl hl508) hl508.c (vp (i6 x492) rfl (vp (i6 (rd a2 x492.toNat)) rfl (nx ⟨[(0, (i6 a0)), (2, (eSi64 a2)), (7, (.osl 7)), (8, (i6 x353)), (9, (i6 (rd a1 x353.toNat))), (10, (i6 x492)), (11, (i6 (rd a2 x492.toNat))), (29, (eSi64 a1)), (30, (i6 (a1.length : Int))), (31, (i6 x353)), (36, (eSi64 a2)), (37, (i6 (a2.length : Int))), (38, (i6 x492))], [(7, (bk (.row 1 (x493.map (AV.int .i64)))))]⟩ (by kernel_rfl) (a_region (vp (.osl 7) rfl (vp (i6 x353) rfl (vp (i6 x492) rfl (vp (i6 (IntKind.i64.wrap (x353 + x492))) rfl ?_))))))))
              obtain ⟨hc509, h⟩ := ifp_some h
              refine vq (.own 7 [(IntKind.i64.wrap (x353 + x492)).toNat] [(IntKind.i64.wrap (x353 + x492)).toNat * 1]) rfl (lmap hc509) ?_
              have hl510 : LdOk [(IntKind.i64.wrap (x353 + x492)).toNat] (.row 1 (x493.map (AV.int .i64))) [(IntKind.i64.wrap (x353 + x492)).toNat * 1] 1 false (i6 ((rd x493 (IntKind.i64.wrap (x353 + x492)).toNat))) := (.row (llt hc509) rfl (.nil rfl rfl rfl))
              refine vq (i6 ((rd x493 (IntKind.i64.wrap (x353 + x492)).toNat))) (ld_own (i := ⟨.int .i64, 1, 8, (.int .i64 0)⟩) rfl rfl rfl hl510) hl510.c (vp (i6 (rd a1 x353.toNat)) rfl (vp (i6 (rd a2 x492.toNat)) rfl (vp (i6 (IntKind.i64.wrap ((rd a1 x353.toNat) * (rd a2 x492.toNat)))) rfl ?_)))
              obtain ⟨x511, hx512, h⟩ := letp_some h
              refine a_val' (v := (i6 (IntKind.i64.wrap (((rd x493 (IntKind.i64.wrap (x353 + x492)).toNat)) + (IntKind.i64.wrap ((rd a1 x353.toNat) * (rd a2 x492.toNat))))))) (v' := (i6 x511)) (u := []) (u' := []) rfl (congrArg (fun z => ((i6 z) : AV)) hx512) rfl trivial rfl ?_
              obtain ⟨hc513, h⟩ := ifp_some h
              refine vq (.own 7 [(IntKind.i64.wrap (x353 + x492)).toNat] [(IntKind.i64.wrap (x353 + x492)).toNat * 1]) rfl (lmap hc513) ?_
              have hs514 : StOk [(IntKind.i64.wrap (x353 + x492)).toNat] (.row 1 (x493.map (AV.int .i64))) [(IntKind.i64.wrap (x353 + x492)).toNat * 1] 1 (i6 x511) (.row 1 (((x493.set (IntKind.i64.wrap (x353 + x492)).toNat x511)).map (AV.int .i64))) := (.row (y := x511) (llt hc513) rfl (.nil rfl rfl rfl rfl))
              refine vu .top [(7, (bk (.row 1 (((x493.set (IntKind.i64.wrap (x353 + x492)).toNat x511)).map (AV.int .i64)))))] (st_own (i := ⟨.int .i64, 1, 8, (.int .i64 0)⟩) rfl rfl (fun _ => rfl) rfl hs514) (hs514.c rfl) rfl (a_nil (b_norm (a_next (σ' := ⟨[(0, (i6 a0)), (2, (eSi64 a2)), (7, (.osl 7)), (8, (i6 x353)), (9, (i6 (rd a1 x353.toNat))), (29, (eSi64 a1)), (30, (i6 (a1.length : Int))), (31, (i6 x353)), (36, (eSi64 a2)), (37, (i6 (a2.length : Int))), (38, (i6 x492))], [(7, (bk (.row 1 (((x493.set (IntKind.i64.wrap (x353 + x492)).toNat x511)).map (AV.int .i64)))))]⟩) (by kernel_rfl) (a_region (vp (i6 (IntKind.i64.wrap (x492 + 1))) rfl (vp (i6 (IntKind.i64.wrap (x492 + 1))) rfl (a_nil ?_)))))))
              cases h
              exact a_again (by kernel_rfl) hX505
    · have h := ite_t hb7 h
      refine a_cond_t rfl (sr (vp (eSi64 ([])) rfl (nx _ rfl (a_ret (t_ret ?_)))))
      refine ⟨.inr rfl, ?_⟩
      rw [Try.results102]
      cases h
      exact ⟨_, _, _, _, _, rfl, trivial, .inl ⟨rfl, .inl rfl⟩, rfl, rfl⟩
  · have h := hy4
    refine a_region (vp (eSi64 a1) rfl (vq (i6 (a1.length : Int)) (len_run rfl rfl) trivial (vp (.bool (((a1.length : Int) == 0))) rfl (vp (.bool (((a1.length : Int) == 0))) rfl ?_))))
    cases hb6 : ((a1.length : Int) == 0)
    · have h := ite_f hb6 h
      refine gp (eSi64 a2) rfl rfl (gq (i6 (a2.length : Int)) rfl (len_run rfl rfl) trivial (gp (.bool (((a2.length : Int) == 0))) rfl rfl (vp (.bool (((a2.length : Int) == 0))) rfl (a_nil ?_))))
      exact j_leaf (((a2.length : Int) == 0)) (Option.some.inj h) (by kernel_rfl)
    · have h := ite_t hb6 h
      refine a_gskip rfl (a_gskip rfl (a_gskip rfl (vp (.bool true) rfl (a_nil ?_))))
      exact j_leaf true (Option.some.inj h) (by kernel_rfl)
end Go.Proofs.Ytkbnegemdlnncaa
