/- Functions of the program: plain Lean functions, and that the program computes them. Printed by gen.py. -/
import Derived.Test.YtcgohoclbjgmkaaFnT
import Derived.Test.YtcgohoclbjgmkaaFn1
import Derived.Test.YtcgohoclbjgmkaaFn2
import Derived.Test.YtcgohoclbjgmkaaFn4
namespace Go.Proofs.Ytcgohoclbjgmkaa
open Go.Abs Go.Proofs
set_option linter.unusedSimpArgs false
set_option linter.unusedVariables false
set_option maxHeartbeats 16000000
attribute [local irreducible] Abs.acode Abs.aops Abs.aopsT Abs.thenK Abs.blockK

def impl_row_poly_c : ACode := (.seq (.region 0 [q 2 (.alloc 24)] false) (.seq (.region 1 [q 3 (.alloc 24)] false) (.seq (.seq (.region 2 [q 6 (.mov (t 0)), q 7 (.blt 0 .len [(t 6)] [65]), q 8 (.mov (.const (.int .i64 0)))] false) (.block 0 (.loop (.seq (.region 3 [q 9 (.bin .lss 3 (t 8) (t 7))] false) (.seq (.cond (t 9) .skip (.exit 0)) (.seq (.block 1 (.seq (.region 4 [q 10 (.mov (t 8)), q 11 (.indexAddr 65 (t 6) (t 8)), q 12 (.load 2 (t 11)), q 4 (.asg 0 (t 10) 3), q 5 (.asg 0 (t 12) 2)] false) (.region 5 [q 13 (.mov (t 4)), q 14 (.mov (t 5)), q 15 (.conv 2 5 (t 14)), q 16 (.indexAddr 24 (t 3) (t 13)), ⟨none, .store 5 (t 16) (t 15), none, []⟩] false))) (.region 6 [q 17 (.bin .add 3 (t 8) (.const (.int .i64 1))), q 8 (.mov (t 17))] false))))))) (.seq (.region 7 [q 18 (.load 24 (t 3)), ⟨none, .store 24 (t 2) (t 18), none, []⟩] false) .ret))))
def impl_row_poly_L : Live := [(0, [0]), (1, [0, 2]), (2, [0, 2, 3]), (3, [2, 3, 6, 7, 8]), (4, [2, 3, 6, 7, 8]), (5, [2, 3, 4, 5, 6, 7, 8]), (6, [2, 3, 6, 7, 8]), (7, [2, 3]), (100009, [2, 3, 6, 7, 8, 9])]
noncomputable def impl_row_poly_l1 (a0 : (List Int)) (x31 : Int) (x32 : (Vec Int 64)) : Option ((Int × (Vec Int 64)) ⊕ (Vec Int 64)) :=
  (if (decide (x31 < (a0.length : Int))) then (ifp (0 ≤ x31 ∧ x31 < ((a0.length : Nat) : Int)) ((ifp (0 ≤ x31 ∧ x31 < ((64 : Nat) : Int)) ((some (.inl ((IntKind.i64.wrap (x31 + 1), (vset x32 x31.toNat (IntKind.u8.wrap (rd a0 x31.toNat))))))))))) else (some (.inr x32)))
noncomputable def impl_row_poly (a0 : (List Int)) : Option (Vec Int 64) :=
  (Option.bind (α := (Vec Int 64)) ((loopM (fun s : (Int × (Vec Int 64)) => impl_row_poly_l1 a0 s.1 s.2) (0, (vrep 64 (0 : Int))))) fun x22 => (some x22))
theorem impl_row_poly_ok (a0 : (List Int)) (r : (Vec Int 64)) (h : impl_row_poly a0 = some r) : Den Try.prog 55 [(eSi64 a0)] { r := (eA64u8 r) } := by
  refine den_of (rs := [(eA64u8 r)]) (ac := impl_row_poly_c) (L := impl_row_poly_L) (n := 19) (m := []) (c := Try.f55.body.getD .skip) good Try.func55 (by kernel_rfl) (by kernel_rfl) Try.ntmps55 rfl rfl (by kernel_rfl) rfl rfl ?_
  refine a_st (σ' := ⟨[(0, (eSi64 a0))], []⟩) (by kernel_rfl) ?_
  unfold impl_row_poly_c
  refine sr (vo 1200 (eA64u8 ((vrep 64 (0 : Int)))) rfl rfl (nx ⟨[(0, (eSi64 a0)), (2, (ow 2))], [(2, (bk (eA64u8 ((vrep 64 (0 : Int))))))]⟩ (by kernel_rfl) (sr (vo 1300 (eA64u8 ((vrep 64 (0 : Int)))) rfl rfl (nx ⟨[(0, (eSi64 a0)), (2, (ow 2)), (3, (ow 3))], [(2, (bk (eA64u8 ((vrep 64 (0 : Int)))))), (3, (bk (eA64u8 ((vrep 64 (0 : Int))))))]⟩ (by kernel_rfl) ?_)))))
  obtain ⟨y23, hy24, hk25⟩ := bind_some h
  clear h
  refine a_join (emb := fun (s : (Vec Int 64)) => ⟨[(2, (ow 2)), (3, (ow 3))], [(2, (bk (eA64u8 ((vrep 64 (0 : Int)))))), (3, (bk (eA64u8 s)))]⟩) (pre := fun s => s = y23) ?_ ?_
  · rintro x22 rfl
    have h := hk25
    refine a_st (σ' := ⟨[(2, (ow 2)), (3, (ow 3))], [(2, (bk (eA64u8 ((vrep 64 (0 : Int)))))), (3, (bk (eA64u8 x22)))]⟩) (by kernel_rfl) (sr (vl (eA64u8 x22) rfl rfl rfl rfl rfl rfl (vs (eA64u8 x22) rfl rfl (fun _ => rfl) rfl rfl rfl rfl rfl rfl (nx _ rfl (a_ret ?_)))))
    have hl49 : LdOk [] (eA64u8 x22) [] 64 true (eA64u8 x22) := (.nil rfl rfl rfl)
    refine ⟨.inr rfl, ?_⟩
    rw [Try.results55]
    cases h
    exact ⟨_, _, _, _, _, ld_own (i := ⟨.arr 64 5, 64, 64, (eA64u8 (vrep 64 (0 : Int)))⟩) rfl rfl rfl hl49, hl49.c, .inl ⟨rfl, .inl rfl⟩, rfl, rfl⟩
  · have h := hy24
    refine sr (vp (eSi64 a0) rfl (vq (i6 (a0.length : Int)) (len_run rfl rfl) trivial (vp (i6 0) rfl (nx ⟨[(2, (ow 2)), (3, (ow 3)), (6, (eSi64 a0)), (7, (i6 (a0.length : Int))), (8, (i6 0))], [(2, (bk (eA64u8 ((vrep 64 (0 : Int)))))), (3, (bk (eA64u8 ((vrep 64 (0 : Int))))))]⟩ (by kernel_rfl) (a_block ?_)))))
    refine a_loop (emb := fun (s : (Int × (Vec Int 64))) => ⟨[(2, (ow 2)), (3, (ow 3)), (6, (eSi64 a0)), (7, (i6 (a0.length : Int))), (8, (i6 s.1))], [(2, (bk (eA64u8 ((vrep 64 (0 : Int)))))), (3, (bk (eA64u8 s.2)))]⟩) (body := (fun s : (Int × (Vec Int 64)) => impl_row_poly_l1 a0 s.1 s.2)) (G := fun q => some q = some y23) h rfl ?_ (by kernel_rfl)
    rintro X38 ⟨x31, x32⟩ x39 h hX40
    have h : impl_row_poly_l1 a0 x31 x32 = some x39 := h
    refine a_st (σ' := ⟨[(2, (ow 2)), (3, (ow 3)), (6, (eSi64 a0)), (7, (i6 (a0.length : Int))), (8, (i6 x31))], [(2, (bk (eA64u8 ((vrep 64 (0 : Int)))))), (3, (bk (eA64u8 x32)))]⟩) (by kernel_rfl) (sr (vp (.bool ((decide (x31 < (a0.length : Int))))) rfl (nx ⟨[(2, (ow 2)), (3, (ow 3)), (6, (eSi64 a0)), (7, (i6 (a0.length : Int))), (8, (i6 x31)), (9, (.bool ((decide (x31 < (a0.length : Int))))))], [(2, (bk (eA64u8 ((vrep 64 (0 : Int)))))), (3, (bk (eA64u8 x32)))]⟩ (by kernel_rfl) (a_seq ?_))))
    cases hb41 : (decide (x31 < (a0.length : Int)))
    · have h := ite_f hb41 h
      refine a_cond_f rfl (a_exit (t_exit ?_))
      cases h
      have h := hX40
      refine t_exit (b_exit ?_)
      exact j_leaf x32 (Option.some.inj h) (by kernel_rfl)
    · have h := ite_t hb41 h
      refine a_cond_t rfl (a_skip (a_next (σ' := ⟨[(2, (ow 2)), (3, (ow 3)), (6, (eSi64 a0)), (7, (i6 (a0.length : Int))), (8, (i6 x31))], [(2, (bk (eA64u8 ((vrep 64 (0 : Int)))))), (3, (bk (eA64u8 x32)))]⟩) (by kernel_rfl) (a_seq (a_block (sr (vp (i6 x31) rfl ?_))))))
      obtain ⟨hc42, h⟩ := ifp_some h
      refine vq (.ref (.row 1 (a0.map (AV.int .i64))) [x31.toNat] [x31.toNat * 1]) rfl (lmap hc42) ?_
      have hl43 : LdOk [x31.toNat] (.row 1 (a0.map (AV.int .i64))) [x31.toNat * 1] 1 false (i6 (rd a0 x31.toNat)) := (.row (llt hc42) rfl (.nil rfl rfl rfl))
      refine vq (i6 (rd a0 x31.toNat)) (ld_ref (i := ⟨.int .i64, 1, 8, (.int .i64 0)⟩) rfl rfl hl43) hl43.c (vp (i6 x31) rfl (vp (i6 (rd a0 x31.toNat)) rfl (nx ⟨[(2, (ow 2)), (3, (ow 3)), (4, (i6 x31)), (5, (i6 (rd a0 x31.toNat))), (6, (eSi64 a0)), (7, (i6 (a0.length : Int))), (8, (i6 x31))], [(2, (bk (eA64u8 ((vrep 64 (0 : Int)))))), (3, (bk (eA64u8 x32)))]⟩ (by kernel_rfl) (a_region (vp (i6 x31) rfl (vp (i6 (rd a0 x31.toNat)) rfl (vp (b8 (IntKind.u8.wrap (rd a0 x31.toNat))) rfl ?_)))))))
      obtain ⟨hc44, h⟩ := ifp_some h
      refine vq (.own 3 [x31.toNat] [x31.toNat * 1]) rfl hc44 ?_
      have hs45 : StOk [x31.toNat] (eA64u8 x32) [x31.toNat * 1] 1 (b8 (IntKind.u8.wrap (rd a0 x31.toNat))) (eA64u8 ((vset x32 x31.toNat (IntKind.u8.wrap (rd a0 x31.toNat))))) := (.arr (y := IntKind.u8.wrap (rd a0 x31.toNat)) (vlt x32 hc44) rfl (.nil rfl rfl rfl rfl))
      refine vu .top [(3, (bk (eA64u8 ((vset x32 x31.toNat (IntKind.u8.wrap (rd a0 x31.toNat)))))))] (st_own (i := ⟨.int .u8, 1, 1, (.int .u8 0)⟩) rfl rfl (fun _ => rfl) rfl hs45) (hs45.c rfl) rfl (a_nil (b_norm (a_next (σ' := ⟨[(2, (ow 2)), (3, (ow 3)), (6, (eSi64 a0)), (7, (i6 (a0.length : Int))), (8, (i6 x31))], [(2, (bk (eA64u8 ((vrep 64 (0 : Int)))))), (3, (bk (eA64u8 ((vset x32 x31.toNat (IntKind.u8.wrap (rd a0 x31.toNat)))))))]⟩) (by kernel_rfl) (a_region (vp (i6 (IntKind.i64.wrap (x31 + 1))) rfl (vp (i6 (IntKind.i64.wrap (x31 + 1))) rfl (a_nil ?_)))))))
      cases h
      exact a_again (by kernel_rfl) hX40
def impl_FactorsOf_fresh_c : ACode := (.seq (.region 0 [q 3 (.box 24 (t 1)), q 4 (.asg 2 (.const (.slice none 0 0)) 29), q 5 (.asg 0 (.const (.int .i64 0)) 2)] false) (.seq (.seq (.region 1 [q 10 (.mov (t 0)), q 11 (.load 24 (t 3)), q 12 (.call 0 (.func 50) [(t 10), (t 11), (.const (.int .i64 0)), (.const (.int .i64 12))]), q 6 (.asg 0 (t 12) 2)] false) (.seq (.region 2 [q 13 (.mov (t 6)), q 14 (.bin .neq 2 (t 13) (.const (.int .i64 0)))] false) (.cond (t 14) (.seq (.region 3 [q 15 (.mov (t 6)), q 4 (.asg 2 (.const (.slice none 0 0)) 29), q 5 (.asg 0 (t 15) 2)] false) .ret) .skip))) (.seq (.region 4 [q 7 (.asg 2 (.const (.slice none 0 0)) 29)] false) (.seq (.seq (.region 5 [q 16 (.mov (t 0)), q 17 (.load 24 (t 3)), q 18 (.call 0 (.func 52) [(t 17)]), q 19 (.call 0 (.func 54) [(t 16), (t 18)]), q 20 (.blt 0 .len [(t 19)] [68]), q 21 (.mov (.const (.int .i64 0)))] false) (.block 0 (.loop (.seq (.region 6 [q 22 (.bin .lss 3 (t 21) (t 20))] false) (.seq (.cond (t 22) .skip (.exit 0)) (.seq (.block 1 (.seq (.region 7 [q 23 (.indexAddr 68 (t 19) (t 21)), q 24 (.load 71 (t 23)), q 9 (.alloc 71), ⟨none, .store 71 (t 9) (t 24), none, []⟩] false) (.region 8 [q 25 (.mov (t 7)), q 26 (.fieldAddr 71 (t 9) 0), ⟨some 27, .load 65 (t 26), none, [1]⟩, ⟨some 28, .call 0 (.func 55) [(t 27)], none, [2]⟩, q 29 (.fieldAddr 71 (t 9) 1), ⟨some 30, .load 2 (t 29), none, [4]⟩, ⟨some 31, .build 74 [(0, (t 28)), (1, (t 30))], none, [3, 5]⟩, ⟨some 32, .bslice 0 29 1 [(0, (t 31))], none, [6]⟩, ⟨some 33, .blt 0 .append [(t 25), (t 32)] [29, 29], none, [0, 7, 3]⟩, ⟨some 7, .asg 2 (t 33) 29, none, [8, 8, 0, 1, 2, 3, 4, 5, 6, 7, 8]⟩] true))) (.region 9 [q 34 (.bin .add 3 (t 21) (.const (.int .i64 1))), q 21 (.mov (t 34))] false))))))) (.seq (.region 10 [q 35 (.mov (t 7)), q 4 (.asg 2 (t 35) 29), q 5 (.asg 0 (.const (.int .i64 0)) 2)] false) .ret)))))
def impl_FactorsOf_fresh_L : Live := [(0, [0, 1]), (1, [0, 3]), (2, [0, 3, 6]), (3, [6]), (4, [0, 3]), (5, [0, 3, 7]), (6, [7, 19, 20, 21]), (7, [7, 19, 20, 21]), (8, [7, 9, 19, 20, 21]), (9, [7, 19, 20, 21]), (10, [7]), (100014, [0, 3, 6, 14]), (100022, [7, 19, 20, 21, 22])]
noncomputable def impl_FactorsOf_fresh_l1 (r65 : (List ((List Int) × Int))) (x81 : Int) (x82 : (List ((Vec Int 64) × Int))) : Option ((Int × (List ((Vec Int 64) × Int))) ⊕ (List ((Vec Int 64) × Int))) :=
  (if (decide (x81 < (r65.length : Int))) then (ifp (0 ≤ x81 ∧ x81 < ((r65.length : Nat) : Int)) ((Option.bind (impl_row_poly ((rd r65 x81.toNat).1)) fun r110 => (ifp ((x82.length + ([(r110, (rd r65 x81.toNat).2)] : List ((Vec Int 64) × Int)).length) * 72 ≤ 140737488355328) ((some (.inl ((IntKind.i64.wrap (x81 + 1), (x82 ++ ([(r110, (rd r65 x81.toNat).2)]))))))))))) else (some (.inr x82)))
noncomputable def impl_FactorsOf_fresh (a0 : Int) (a1 : (Vec Int 64)) : Option ((List ((Vec Int 64) × Int)) × Int) :=
  (Option.bind (impl_degreeCode a0 a1 0 12) fun r2 => (if (r2 != 0) then (some ([], r2)) else (Option.bind (α := (List ((Vec Int 64) × Int))) ((Option.bind (impl_rowOf a1) fun r63 => (Option.bind (impl_prime_factors a0 r63) fun r65 => (loopM (fun s : (Int × (List ((Vec Int 64) × Int))) => impl_FactorsOf_fresh_l1 r65 s.1 s.2) (0, []))))) fun x58 => (some (x58, 0)))))
theorem impl_FactorsOf_fresh_ok (a0 : Int) (a1 : (Vec Int 64)) (r : ((List ((Vec Int 64) × Int)) × Int)) (h : impl_FactorsOf_fresh a0 a1 = some r) : Den Try.prog 20 [(i6 a0), (eA64u8 a1)] { r := (.tuple [(.osl 2000000), (i6 r.2)]), ms := [], fs := [(65, r.1.map eT_A64u8_i64_Z)] } := by
  refine den_ofX (rs := [(.osl 2000000), (i6 r.2)]) (ac := impl_FactorsOf_fresh_c) (L := impl_FactorsOf_fresh_L) (n := 36) (m := [(4, 2), (7, 2)]) (c := Try.f20.body.getD .skip) good Try.func20 (by kernel_rfl) (by kernel_rfl) Try.ntmps20 rfl rfl (by kernel_rfl) rfl ?_
  refine a_st (σ' := ⟨[(0, (i6 a0)), (1, (eA64u8 a1))], []⟩) (by kernel_rfl) ?_
  unfold impl_FactorsOf_fresh_c
  refine sr (vo 1300 (eA64u8 a1) rfl rfl (vu (.osl 1400) [(1400, (bk (.row 65 (([]).map eT_A64u8_i64_Z))))] rfl trivial rfl (vp (i6 0) rfl (nx ⟨[(0, (i6 a0)), (3, (ow 3))], [(3, (bk (eA64u8 a1)))]⟩ (by kernel_rfl) (a_seq (sr (vp (i6 a0) rfl (vl (eA64u8 a1) rfl rfl rfl rfl rfl rfl ?_))))))))
  obtain ⟨r2, hr3, h⟩ := bind_some h
  refine a_call (args := [(i6 a0), (eA64u8 a1), (i6 0), (i6 12)]) (u := []) (r := (i6 r2)) rfl rfl (impl_degreeCode_ok a0 a1 0 12 r2 hr3) rfl (vp (i6 r2) rfl (nx ⟨[(0, (i6 a0)), (3, (ow 3)), (6, (i6 r2))], [(3, (bk (eA64u8 a1)))]⟩ (by kernel_rfl) (sr (vp (i6 r2) rfl (vp (.bool (r2 != 0)) rfl (nx ⟨[(0, (i6 a0)), (3, (ow 3)), (6, (i6 r2)), (14, (.bool (r2 != 0)))], [(3, (bk (eA64u8 a1)))]⟩ (by kernel_rfl) ?_))))))
  cases hb4 : (r2 != 0)
  · have h := ite_f hb4 h
    refine a_cond_f rfl (a_skip (a_next (σ' := ⟨[(0, (i6 a0)), (3, (ow 3))], [(3, (bk (eA64u8 a1)))]⟩) (by kernel_rfl) (sr (vu (.osl 1700) [(1700, (bk (.row 65 (([]).map eT_A64u8_i64_Z))))] rfl trivial rfl (nx ⟨[(0, (i6 a0)), (3, (ow 3)), (7, (.osl 7))], [(3, (bk (eA64u8 a1))), (7, (bk (.row 65 (([]).map eT_A64u8_i64_Z))))]⟩ (by kernel_rfl) ?_)))))
    obtain ⟨y59, hy60, hk61⟩ := bind_some h
    clear h
    refine a_join (emb := fun (s : (List ((Vec Int 64) × Int))) => ⟨[(7, (.osl 7))], [(7, (bk (.row 65 (s.map eT_A64u8_i64_Z))))]⟩) (pre := fun s => s = y59) ?_ ?_
    · rintro x58 rfl
      have h := hk61
      refine a_st (σ' := ⟨[(7, (.osl 7))], [(7, (bk (.row 65 (x58.map eT_A64u8_i64_Z))))]⟩) (by kernel_rfl) (sr (vp (.osl 7) rfl (vp (.osl 7) rfl (vp (i6 0) rfl (nx _ rfl (a_ret ?_))))))
      refine ⟨.inr rfl, ?_⟩
      rw [Try.results20]
      cases h
      exact ⟨[some 7], ⟨_, _, _, _, _, rfl, trivial, rfl, .inr (.inl ⟨_, _, _, _, _, rfl, rfl, rfl, rfl, rfl, ⟨_, _, _, _, _, rfl, trivial, rfl, .inl ⟨rfl, .inl rfl, ⟨rfl, rfl, rfl⟩⟩⟩⟩)⟩, rfl, rfl⟩
    · have h := hy60
      refine sr (vp (i6 a0) rfl (vl (eA64u8 a1) rfl rfl rfl rfl rfl rfl ?_))
      obtain ⟨r63, hr64, h⟩ := bind_some h
      refine a_call (args := [(eA64u8 a1)]) (u := []) (r := (eSi64 r63)) rfl rfl (impl_rowOf_ok a1 r63 hr64) rfl ?_
      obtain ⟨r65, hr66, h⟩ := bind_some h
      refine a_call (args := [(i6 a0), (eSi64 r63)]) (u := []) (r := (eST_Si64_i64_Z r65)) rfl rfl (impl_prime_factors_ok a0 r63 r65 hr66) rfl (vq (i6 (r65.length : Int)) (len_run rfl rfl) trivial (vp (i6 0) rfl (nx ⟨[(7, (.osl 7)), (19, (eST_Si64_i64_Z r65)), (20, (i6 (r65.length : Int))), (21, (i6 0))], [(7, (bk (.row 65 (([]).map eT_A64u8_i64_Z))))]⟩ (by kernel_rfl) (a_block ?_))))
      refine a_loop (emb := fun (s : (Int × (List ((Vec Int 64) × Int)))) => ⟨[(7, (.osl 7)), (19, (eST_Si64_i64_Z r65)), (20, (i6 (r65.length : Int))), (21, (i6 s.1))], [(7, (bk (.row 65 (s.2.map eT_A64u8_i64_Z))))]⟩) (body := (fun s : (Int × (List ((Vec Int 64) × Int))) => impl_FactorsOf_fresh_l1 r65 s.1 s.2)) (G := fun q => some q = some y59) h rfl ?_ (by kernel_rfl)
      rintro X97 ⟨x81, x82⟩ x98 h hX99
      have h : impl_FactorsOf_fresh_l1 r65 x81 x82 = some x98 := h
      refine a_st (σ' := ⟨[(7, (.osl 7)), (19, (eST_Si64_i64_Z r65)), (20, (i6 (r65.length : Int))), (21, (i6 x81))], [(7, (bk (.row 65 (x82.map eT_A64u8_i64_Z))))]⟩) (by kernel_rfl) (sr (vp (.bool ((decide (x81 < (r65.length : Int))))) rfl (nx ⟨[(7, (.osl 7)), (19, (eST_Si64_i64_Z r65)), (20, (i6 (r65.length : Int))), (21, (i6 x81)), (22, (.bool ((decide (x81 < (r65.length : Int))))))], [(7, (bk (.row 65 (x82.map eT_A64u8_i64_Z))))]⟩ (by kernel_rfl) (a_seq ?_))))
      cases hb100 : (decide (x81 < (r65.length : Int)))
      · have h := ite_f hb100 h
        refine a_cond_f rfl (a_exit (t_exit ?_))
        cases h
        have h := hX99
        refine t_exit (b_exit ?_)
        exact j_leaf x82 (Option.some.inj h) (by kernel_rfl)
      · have h := ite_t hb100 h
        refine a_cond_t rfl (a_skip (a_next (σ' := ⟨[(7, (.osl 7)), (19, (eST_Si64_i64_Z r65)), (20, (i6 (r65.length : Int))), (21, (i6 x81))], [(7, (bk (.row 65 (x82.map eT_A64u8_i64_Z))))]⟩) (by kernel_rfl) (a_seq (a_block (sr ?_)))))
        obtain ⟨hc101, h⟩ := ifp_some h
        refine vq (.ref (.row 2 (r65.map eT_Si64_i64_Z)) [x81.toNat] [x81.toNat * 2]) rfl (lmap hc101) ?_
        have hl102 : LdOk [x81.toNat] (.row 2 (r65.map eT_Si64_i64_Z)) [x81.toNat * 2] 2 true (eT_Si64_i64_Z (rd r65 x81.toNat)) := (.row (llt hc101) rfl (.nil rfl rfl rfl))
        refine vq (eT_Si64_i64_Z (rd r65 x81.toNat)) (ld_ref (i := ⟨.struct [(0, 65), (1, 2)], 2, 32, (eT_Si64_i64_Z ([], (0 : Int)))⟩) rfl rfl hl102) hl102.c (vo 1900 (eT_Si64_i64_Z (([], (0 : Int)))) rfl rfl (vs (eT_Si64_i64_Z (rd r65 x81.toNat)) rfl rfl (fun _ => rfl) rfl rfl rfl rfl rfl rfl (nx ⟨[(7, (.osl 7)), (9, (ow 9)), (19, (eST_Si64_i64_Z r65)), (20, (i6 (r65.length : Int))), (21, (i6 x81))], [(7, (bk (.row 65 (x82.map eT_A64u8_i64_Z)))), (9, (bk (eT_Si64_i64_Z (rd r65 x81.toNat))))]⟩ (by kernel_rfl) (a_draw [⟨[], [], [7], []⟩, ⟨[9], [], [9], []⟩, ⟨[9], [], [], [1]⟩, ⟨[], [], [], [1, 2]⟩, ⟨[9], [], [9], []⟩, ⟨[9], [], [], [4]⟩, ⟨[], [], [], [1, 2, 3, 4, 5]⟩, ⟨[], [], [], [1, 2, 3, 4, 5, 6]⟩, ⟨[7, 4300], [7, 4300], [4300], [0, 1, 2, 3, 4, 5, 6, 7]⟩, ⟨[4300], [], [4300], [0, 1, 2, 3, 4, 5, 6, 7, 8]⟩] (by kernel_rfl) (dp (.osl 7) rfl (by kernel_rfl) (d_cons (vb (.own 9 [0] [0]) rfl rfl (d_next (by kernel_rfl) (d_cons ?_)))))))))
        have hl109 : LdOk [0] (eT_Si64_i64_Z (rd r65 x81.toNat)) [0] 1 false (eSi64 ((rd r65 x81.toNat).1)) := (.fld rfl rfl rfl rfl (.nil rfl rfl rfl))
        refine vq (eSi64 ((rd r65 x81.toNat).1)) (ld_own (i := ⟨.slice 2, 1, 24, (eSi64 [])⟩) rfl rfl rfl hl109) hl109.c (d_next (by kernel_rfl) (d_cons ?_))
        obtain ⟨r110, hr111, h⟩ := bind_some h
        refine a_call (args := [(eSi64 ((rd r65 x81.toNat).1))]) (u := []) (r := (eA64u8 r110)) rfl rfl (impl_row_poly_ok ((rd r65 x81.toNat).1) r110 hr111) rfl (d_next (by kernel_rfl) (d_cons (vb (.own 9 [1] [1]) rfl rfl (d_next (by kernel_rfl) (d_cons ?_)))))
        have hl112 : LdOk [1] (eT_Si64_i64_Z (rd r65 x81.toNat)) [1] 1 false (i6 ((rd r65 x81.toNat).2)) := (.fld rfl rfl rfl rfl (.nil rfl rfl rfl))
        refine vq (i6 ((rd r65 x81.toNat).2)) (ld_own (i := ⟨.int .i64, 1, 8, (.int .i64 0)⟩) rfl rfl rfl hl112) hl112.c (d_next (by kernel_rfl) (d_cons (vq (eT_A64u8_i64_Z ((r110, (rd r65 x81.toNat).2))) rfl ⟨rfl, (all_cons ⟨(Nat.le_of_ble_eq_true rfl), rfl⟩ (all_cons ⟨(Nat.le_of_ble_eq_true rfl), rfl⟩ all_nil))⟩ (d_next (by kernel_rfl) (d_cons (vq (.sl 65 true (([(r110, (rd r65 x81.toNat).2)]).map eT_A64u8_i64_Z)) rfl ⟨(Nat.le_of_ble_eq_true rfl), (Nat.le_of_ble_eq_true rfl), (all_cons ⟨(Nat.le_of_ble_eq_true rfl), rfl⟩ all_nil)⟩ (d_next (by kernel_rfl) (d_cons ?_))))))))
        obtain ⟨hc113, h⟩ := ifp_some h
        refine vu (.osl 4300) [(4300, (bk (.row 65 (((x82 ++ ([(r110, (rd r65 x81.toNat).2)]))).map eT_A64u8_i64_Z)))), (7, none)] (app_run (i := ⟨.struct [(0, 24), (64, 2)], 65, 72, (eT_A64u8_i64_Z ((vrep 64 (0 : Int)), (0 : Int)))⟩) (f := eT_A64u8_i64_Z) (l := x82) (l2 := [(r110, (rd r65 x81.toNat).2)]) rfl rfl rfl rfl (fun _ => rfl) rfl rfl) (app_c (f := eT_A64u8_i64_Z) (s := 65) (sz := 65) (by' := 72) (u := []) (id := 7) hc113 (.inr rfl) rfl rfl rfl) rfl (d_next (by kernel_rfl) (dp (.osl 4300) rfl (by kernel_rfl) (d_nil (b_norm (a_next (σ' := ⟨[(7, (.osl 7)), (19, (eST_Si64_i64_Z r65)), (20, (i6 (r65.length : Int))), (21, (i6 x81))], [(7, (bk (.row 65 (((x82 ++ ([(r110, (rd r65 x81.toNat).2)]))).map eT_A64u8_i64_Z))))]⟩) (by kernel_rfl) (a_region (vp (i6 (IntKind.i64.wrap (x81 + 1))) rfl (vp (i6 (IntKind.i64.wrap (x81 + 1))) rfl (a_nil ?_)))))))))
        cases h
        exact a_again (by kernel_rfl) hX99
  · have h := ite_t hb4 h
    refine a_cond_t rfl (sr (vp (i6 r2) rfl (vu (.osl 1400) [(1400, (bk (.row 65 (([]).map eT_A64u8_i64_Z))))] rfl trivial rfl (vp (i6 r2) rfl (nx _ rfl (a_ret (t_ret ?_)))))))
    refine ⟨.inr rfl, ?_⟩
    rw [Try.results20]
    cases h
    exact ⟨[some 1400], ⟨_, _, _, _, _, rfl, trivial, rfl, .inr (.inl ⟨_, _, _, _, _, rfl, rfl, rfl, rfl, rfl, ⟨_, _, _, _, _, rfl, trivial, rfl, .inl ⟨rfl, .inl rfl, ⟨rfl, rfl, rfl⟩⟩⟩⟩)⟩, rfl, rfl⟩
def laws_eqPoly_c : ACode := (.seq (.region 0 [q 2 (.box 24 (t 0)), q 3 (.box 24 (t 1)), q 4 (.asg 0 (.const (.bool false)) 4)] false) (.seq (.seq (.region 1 [q 5 (.asg 0 (.const (.int .i64 0)) 3)] false) (.block 0 (.loop (.seq (.seq (.region 2 [q 6 (.mov (t 5)), q 7 (.bin .lss 3 (t 6) (.const (.int .i64 64)))] false) (.cond (t 7) .skip (.exit 0))) (.seq (.block 1 (.seq (.region 4 [q 10 (.mov (t 5)), ⟨some 11, .indexAddr 24 (t 2) (t 10), none, [0]⟩, ⟨some 12, .load 5 (t 11), none, [1]⟩, q 13 (.mov (t 5)), ⟨some 14, .indexAddr 24 (t 3) (t 13), none, [3]⟩, ⟨some 15, .load 5 (t 14), none, [4]⟩, ⟨some 16, .bin .neq 5 (t 12) (t 15), none, [2, 5]⟩] true) (.cond (t 16) (.seq (.region 5 [q 4 (.asg 0 (.const (.bool false)) 4)] false) .ret) .skip))) (.region 3 [q 8 (.mov (t 5)), q 9 (.bin .add 3 (t 8) (.const (.int .i64 1))), q 5 (.asg 0 (t 9) 3)] false)))))) (.seq (.region 6 [q 4 (.asg 0 (.const (.bool true)) 4)] false) .ret)))
def laws_eqPoly_L : Live := [(0, [0, 1]), (1, [2, 3]), (2, [2, 3, 5]), (3, [2, 3, 5]), (4, [2, 3, 5]), (5, []), (6, []), (100007, [2, 3, 5, 7]), (100016, [2, 3, 5, 16])]
noncomputable def laws_eqPoly_l1 (a0 : (Vec Int 64)) (a1 : (Vec Int 64)) (x49 : Int) : Option (Int ⊕ (Unit ⊕ Bool)) :=
  (if (decide (x49 < 64)) then (ifp (0 ≤ x49 ∧ x49 < ((64 : Nat) : Int)) ((ifp (0 ≤ x49 ∧ x49 < ((64 : Nat) : Int)) ((if ((rd a0.1 x49.toNat) != (rd a1.1 x49.toNat)) then (some (.inr (.inr false))) else (some (.inl (IntKind.i64.wrap (x49 + 1))))))))) else (some (.inr (((.inl ()))))))
noncomputable def laws_eqPoly (a0 : (Vec Int 64)) (a1 : (Vec Int 64)) : Option Bool :=
  (Option.bind (α := (Unit ⊕ Bool)) ((loopM (fun s : Int => laws_eqPoly_l1 a0 a1 s) 0)) fun z => match z with | .inl _ => (some true) | .inr r74 => (some r74))
theorem laws_eqPoly_ok (a0 : (Vec Int 64)) (a1 : (Vec Int 64)) (r : Bool) (h : laws_eqPoly a0 a1 = some r) : Den Try.prog 69 [(eA64u8 a0), (eA64u8 a1)] { r := (.bool r) } := by
  refine den_of (rs := [(.bool r)]) (ac := laws_eqPoly_c) (L := laws_eqPoly_L) (n := 17) (m := []) (c := Try.f69.body.getD .skip) good Try.func69 (by kernel_rfl) (by kernel_rfl) Try.ntmps69 rfl rfl (by kernel_rfl) rfl rfl ?_
  refine a_st (σ' := ⟨[(0, (eA64u8 a0)), (1, (eA64u8 a1))], []⟩) (by kernel_rfl) ?_
  unfold laws_eqPoly_c
  refine sr (vo 1200 (eA64u8 a0) rfl rfl (vo 1300 (eA64u8 a1) rfl rfl (vp (.bool false) rfl (nx ⟨[(2, (ow 2)), (3, (ow 3))], [(2, (bk (eA64u8 a0))), (3, (bk (eA64u8 a1)))]⟩ (by kernel_rfl) ?_))))
  obtain ⟨y36, hy37, hk38⟩ := bind_some h
  clear h
  refine a_join (emb := fun (s : Unit) => ⟨[], []⟩) (pre := fun s => (.inl s) = y36) ?_ ?_
  · rintro _ rfl
    have h := hk38
    refine a_st (σ' := ⟨[], []⟩) (by kernel_rfl) (sr (vp (.bool true) rfl (nx _ rfl (a_ret ?_))))
    refine ⟨.inr rfl, ?_⟩
    rw [Try.results69]
    cases h
    exact ⟨_, _, _, _, _, rfl, trivial, .inl ⟨rfl, .inl rfl⟩, rfl, rfl⟩
  · have h := hy37
    refine sr (vp (i6 0) rfl (nx ⟨[(2, (ow 2)), (3, (ow 3)), (5, (i6 0))], [(2, (bk (eA64u8 a0))), (3, (bk (eA64u8 a1)))]⟩ (by kernel_rfl) (a_block ?_)))
    refine a_loop (emb := fun (s : Int) => ⟨[(2, (ow 2)), (3, (ow 3)), (5, (i6 s))], [(2, (bk (eA64u8 a0))), (3, (bk (eA64u8 a1)))]⟩) (body := (fun s : Int => laws_eqPoly_l1 a0 a1 s)) (G := fun q => some q = some y36) h rfl ?_ (by kernel_rfl)
    rintro X60 x49 x61 h hX62
    have h : laws_eqPoly_l1 a0 a1 x49 = some x61 := h
    refine a_st (σ' := ⟨[(2, (ow 2)), (3, (ow 3)), (5, (i6 x49))], [(2, (bk (eA64u8 a0))), (3, (bk (eA64u8 a1)))]⟩) (by kernel_rfl) (a_seq (sr (vp (i6 x49) rfl (vp (.bool ((decide (x49 < 64)))) rfl (nx ⟨[(2, (ow 2)), (3, (ow 3)), (5, (i6 x49)), (7, (.bool ((decide (x49 < 64)))))], [(2, (bk (eA64u8 a0))), (3, (bk (eA64u8 a1)))]⟩ (by kernel_rfl) ?_)))))
    cases hb63 : (decide (x49 < 64))
    · have h := ite_f hb63 h
      refine a_cond_f rfl (a_exit (t_exit ?_))
      cases h
      have h := hX62
      refine t_exit (b_exit ?_)
      exact j_leaf () (Option.some.inj h) (by kernel_rfl)
    · have h := ite_t hb63 h
      refine a_cond_t rfl (a_skip (a_next (σ' := ⟨[(2, (ow 2)), (3, (ow 3)), (5, (i6 x49))], [(2, (bk (eA64u8 a0))), (3, (bk (eA64u8 a1)))]⟩) (by kernel_rfl) (a_seq (a_block (a_seq (a_draw [⟨[], [], [], []⟩, ⟨[2], [], [2], [0]⟩, ⟨[2], [], [], [0, 1]⟩, ⟨[], [], [], []⟩, ⟨[3], [], [3], [3]⟩, ⟨[3], [], [], [3, 4]⟩, ⟨[], [], [], [0, 1, 2, 3, 4, 5]⟩] (by kernel_rfl) (dp (i6 x49) rfl (by kernel_rfl) (d_cons ?_))))))))
      obtain ⟨hc68, h⟩ := ifp_some h
      refine vq (.own 2 [x49.toNat] [x49.toNat * 1]) rfl hc68 (d_next (by kernel_rfl) (d_cons ?_))
      have hl69 : LdOk [x49.toNat] (eA64u8 a0) [x49.toNat * 1] 1 false (b8 (rd a0.1 x49.toNat)) := (.arr (vlt a0 hc68) rfl (.nil rfl rfl rfl))
      refine vq (b8 (rd a0.1 x49.toNat)) (ld_own (i := ⟨.int .u8, 1, 1, (.int .u8 0)⟩) rfl rfl rfl hl69) hl69.c (d_next (by kernel_rfl) (dp (i6 x49) rfl (by kernel_rfl) (d_cons ?_)))
      obtain ⟨hc70, h⟩ := ifp_some h
      refine vq (.own 3 [x49.toNat] [x49.toNat * 1]) rfl hc70 (d_next (by kernel_rfl) (d_cons ?_))
      have hl71 : LdOk [x49.toNat] (eA64u8 a1) [x49.toNat * 1] 1 false (b8 (rd a1.1 x49.toNat)) := (.arr (vlt a1 hc70) rfl (.nil rfl rfl rfl))
      refine vq (b8 (rd a1.1 x49.toNat)) (ld_own (i := ⟨.int .u8, 1, 1, (.int .u8 0)⟩) rfl rfl rfl hl71) hl71.c (d_next (by kernel_rfl) (dp (.bool (((rd a0.1 x49.toNat) != (rd a1.1 x49.toNat)))) rfl (by kernel_rfl) (d_nil (a_next (σ' := ⟨[(2, (ow 2)), (3, (ow 3)), (5, (i6 x49)), (16, (.bool (((rd a0.1 x49.toNat) != (rd a1.1 x49.toNat)))))], [(2, (bk (eA64u8 a0))), (3, (bk (eA64u8 a1)))]⟩) (by kernel_rfl) ?_))))
      cases hb72 : ((rd a0.1 x49.toNat) != (rd a1.1 x49.toNat))
      · have h := ite_f hb72 h
        refine a_cond_f rfl (a_skip (b_norm (a_next (σ' := ⟨[(2, (ow 2)), (3, (ow 3)), (5, (i6 x49))], [(2, (bk (eA64u8 a0))), (3, (bk (eA64u8 a1)))]⟩) (by kernel_rfl) (a_region (vp (i6 x49) rfl (vp (i6 (IntKind.i64.wrap (x49 + 1))) rfl (vp (i6 (IntKind.i64.wrap (x49 + 1))) rfl (a_nil ?_))))))))
        cases h
        exact a_again (by kernel_rfl) hX62
      · have h := ite_t hb72 h
        refine a_cond_t rfl (sr (vp (.bool false) rfl (nx _ rfl (a_ret (b_ret (t_ret ?_))))))
        cases h
        have h := hX62
        refine t_ret (b_ret (t_ret ?_))
        cases h
        have h := hk38
        refine ⟨.inr rfl, ?_⟩
        rw [Try.results69]
        cases h
        exact ⟨_, _, _, _, _, rfl, trivial, .inl ⟨rfl, .inl rfl⟩, rfl, rfl⟩
def laws_eqFactor_c : ACode := (.seq (.region 0 [q 2 (.box 74 (t 0)), q 3 (.box 74 (t 1)), q 4 (.asg 0 (.const (.bool false)) 4)] false) (.seq (.seq (.region 1 [q 5 (.fieldAddr 74 (t 2) 0), q 6 (.load 24 (t 5)), q 7 (.fieldAddr 74 (t 3) 0), q 8 (.load 24 (t 7)), q 9 (.call 0 (.func 69) [(t 6), (t 8)]), q 10 (.un .not (t 9))] false) (.cond (t 10) (.seq (.region 2 [q 4 (.asg 0 (.const (.bool false)) 4)] false) .ret) .skip)) (.seq (.seq (.region 3 [q 11 (.fieldAddr 74 (t 2) 1), q 12 (.load 2 (t 11)), q 13 (.fieldAddr 74 (t 3) 1), q 14 (.load 2 (t 13)), q 15 (.bin .neq 2 (t 12) (t 14))] false) (.cond (t 15) (.seq (.region 4 [q 4 (.asg 0 (.const (.bool false)) 4)] false) .ret) .skip)) (.seq (.region 5 [q 4 (.asg 0 (.const (.bool true)) 4)] false) .ret))))
def laws_eqFactor_L : Live := [(0, [0, 1]), (1, [2, 3]), (2, []), (3, [2, 3]), (4, []), (5, []), (100010, [2, 3, 10]), (100015, [15])]
noncomputable def laws_eqFactor (a0 : ((Vec Int 64) × Int)) (a1 : ((Vec Int 64) × Int)) : Option Bool :=
  (Option.bind (laws_eqPoly a0.1 a1.1) fun r3 => (if (!r3) then (some false) else (if (a0.2 != a1.2) then (some false) else (some true))))
theorem laws_eqFactor_ok (a0 : ((Vec Int 64) × Int)) (a1 : ((Vec Int 64) × Int)) (r : Bool) (h : laws_eqFactor a0 a1 = some r) : Den Try.prog 56 [(eT_A64u8_i64_Z a0), (eT_A64u8_i64_Z a1)] { r := (.bool r) } := by
  refine den_of (rs := [(.bool r)]) (ac := laws_eqFactor_c) (L := laws_eqFactor_L) (n := 16) (m := []) (c := Try.f56.body.getD .skip) good Try.func56 (by kernel_rfl) (by kernel_rfl) Try.ntmps56 rfl rfl (by kernel_rfl) rfl rfl ?_
  refine a_st (σ' := ⟨[(0, (eT_A64u8_i64_Z a0)), (1, (eT_A64u8_i64_Z a1))], []⟩) (by kernel_rfl) ?_
  unfold laws_eqFactor_c
  refine sr (vo 1200 (eT_A64u8_i64_Z a0) rfl rfl (vo 1300 (eT_A64u8_i64_Z a1) rfl rfl (vp (.bool false) rfl (nx ⟨[(2, (ow 2)), (3, (ow 3))], [(2, (bk (eT_A64u8_i64_Z a0))), (3, (bk (eT_A64u8_i64_Z a1)))]⟩ (by kernel_rfl) (a_seq (sr (vb (.own 2 [0] [0]) rfl rfl ?_)))))))
  have hl1 : LdOk [0] (eT_A64u8_i64_Z a0) [0] 64 true (eA64u8 a0.1) := (.fld rfl rfl rfl rfl (.nil rfl rfl rfl))
  refine vq (eA64u8 a0.1) (ld_own (i := ⟨.arr 64 5, 64, 64, (eA64u8 (vrep 64 (0 : Int)))⟩) rfl rfl rfl hl1) hl1.c (vb (.own 3 [0] [0]) rfl rfl ?_)
  have hl2 : LdOk [0] (eT_A64u8_i64_Z a1) [0] 64 true (eA64u8 a1.1) := (.fld rfl rfl rfl rfl (.nil rfl rfl rfl))
  refine vq (eA64u8 a1.1) (ld_own (i := ⟨.arr 64 5, 64, 64, (eA64u8 (vrep 64 (0 : Int)))⟩) rfl rfl rfl hl2) hl2.c ?_
  obtain ⟨r3, hr4, h⟩ := bind_some h
  refine a_call (args := [(eA64u8 a0.1), (eA64u8 a1.1)]) (u := []) (r := (.bool r3)) rfl rfl (laws_eqPoly_ok a0.1 a1.1 r3 hr4) rfl (vp (.bool (!r3)) rfl (nx ⟨[(2, (ow 2)), (3, (ow 3)), (10, (.bool (!r3)))], [(2, (bk (eT_A64u8_i64_Z a0))), (3, (bk (eT_A64u8_i64_Z a1)))]⟩ (by kernel_rfl) ?_))
  cases hb5 : (!r3)
  · have h := ite_f hb5 h
    refine a_cond_f rfl (a_skip (a_next (σ' := ⟨[(2, (ow 2)), (3, (ow 3))], [(2, (bk (eT_A64u8_i64_Z a0))), (3, (bk (eT_A64u8_i64_Z a1)))]⟩) (by kernel_rfl) (a_seq (sr (vb (.own 2 [1] [64]) rfl rfl ?_)))))
    have hl6 : LdOk [1] (eT_A64u8_i64_Z a0) [64] 1 false (i6 a0.2) := (.fld rfl rfl rfl rfl (.nil rfl rfl rfl))
    refine vq (i6 a0.2) (ld_own (i := ⟨.int .i64, 1, 8, (.int .i64 0)⟩) rfl rfl rfl hl6) hl6.c (vb (.own 3 [1] [64]) rfl rfl ?_)
    have hl7 : LdOk [1] (eT_A64u8_i64_Z a1) [64] 1 false (i6 a1.2) := (.fld rfl rfl rfl rfl (.nil rfl rfl rfl))
    refine vq (i6 a1.2) (ld_own (i := ⟨.int .i64, 1, 8, (.int .i64 0)⟩) rfl rfl rfl hl7) hl7.c (vp (.bool (a0.2 != a1.2)) rfl (nx ⟨[(15, (.bool (a0.2 != a1.2)))], []⟩ (by kernel_rfl) ?_))
    cases hb8 : (a0.2 != a1.2)
    · have h := ite_f hb8 h
      refine a_cond_f rfl (a_skip (a_next (σ' := ⟨[], []⟩) (by kernel_rfl) (sr (vp (.bool true) rfl (nx _ rfl (a_ret ?_))))))
      refine ⟨.inr rfl, ?_⟩
      rw [Try.results56]
      cases h
      exact ⟨_, _, _, _, _, rfl, trivial, .inl ⟨rfl, .inl rfl⟩, rfl, rfl⟩
    · have h := ite_t hb8 h
      refine a_cond_t rfl (sr (vp (.bool false) rfl (nx _ rfl (a_ret (t_ret ?_)))))
      refine ⟨.inr rfl, ?_⟩
      rw [Try.results56]
      cases h
      exact ⟨_, _, _, _, _, rfl, trivial, .inl ⟨rfl, .inl rfl⟩, rfl, rfl⟩
  · have h := ite_t hb5 h
    refine a_cond_t rfl (sr (vp (.bool false) rfl (nx _ rfl (a_ret (t_ret ?_)))))
    refine ⟨.inr rfl, ?_⟩
    rw [Try.results56]
    cases h
    exact ⟨_, _, _, _, _, rfl, trivial, .inl ⟨rfl, .inl rfl⟩, rfl, rfl⟩
def laws_eqFactorS_c : ACode := (.seq (.region 0 [q 4 (.asg 0 (.const (.bool false)) 4)] false) (.seq (.seq (.region 1 [q 6 (.mov (t 0)), q 7 (.blt 0 .len [(t 6)] [29]), q 8 (.mov (t 1)), q 9 (.blt 0 .len [(t 8)] [29]), q 10 (.bin .neq 3 (t 7) (t 9))] false) (.cond (t 10) (.seq (.region 2 [q 4 (.asg 0 (.const (.bool false)) 4)] false) .ret) .skip)) (.seq (.seq (.region 3 [q 5 (.asg 0 (.const (.int .i64 0)) 3)] false) (.block 0 (.loop (.seq (.seq (.region 4 [q 11 (.mov (t 5)), q 12 (.mov (t 0)), q 13 (.blt 0 .len [(t 12)] [29]), q 14 (.bin .lss 3 (t 11) (t 13))] false) (.cond (t 14) .skip (.exit 0))) (.seq (.block 1 (.seq (.region 6 [q 17 (.mov (t 0)), q 18 (.mov (t 5)), ⟨some 19, .indexAddr 29 (t 17) (t 18), none, [0, 1]⟩, ⟨some 20, .load 74 (t 19), none, [2]⟩, q 21 (.mov (t 1)), q 22 (.mov (t 5)), ⟨some 23, .indexAddr 29 (t 21) (t 22), none, [4, 5]⟩, ⟨some 24, .load 74 (t 23), none, [6]⟩, ⟨some 25, .call 0 (.func 56) [(t 20), (t 24)], none, [3, 7]⟩, ⟨some 26, .un .not (t 25), none, [8]⟩] true) (.cond (t 26) (.seq (.region 7 [q 4 (.asg 0 (.const (.bool false)) 4)] false) .ret) .skip))) (.region 5 [q 15 (.mov (t 5)), q 16 (.bin .add 3 (t 15) (.const (.int .i64 1))), q 5 (.asg 0 (t 16) 3)] false)))))) (.seq (.region 8 [q 4 (.asg 0 (.const (.bool true)) 4)] false) .ret))))
def laws_eqFactorS_L : Live := [(0, [0, 1]), (1, [0, 1]), (2, []), (3, [0, 1]), (4, [0, 1, 5]), (5, [0, 1, 5]), (6, [0, 1, 5]), (7, []), (8, []), (100010, [0, 1, 10]), (100014, [0, 1, 5, 14]), (100026, [0, 1, 5, 26])]
noncomputable def laws_eqFactorS_l1 (a0 : (List ((Vec Int 64) × Int))) (a1 : (List ((Vec Int 64) × Int))) (x66 : Int) : Option (Int ⊕ (Unit ⊕ Bool)) :=
  (if (decide (x66 < (a0.length : Int))) then (ifp (0 ≤ x66 ∧ x66 < ((a0.length : Nat) : Int)) ((ifp (0 ≤ x66 ∧ x66 < ((a1.length : Nat) : Int)) ((Option.bind (laws_eqFactor (rd a0 x66.toNat) (rd a1 x66.toNat)) fun r95 => (if (!r95) then (some (.inr (.inr false))) else (some (.inl (IntKind.i64.wrap (x66 + 1)))))))))) else (some (.inr (((.inl ()))))))
noncomputable def laws_eqFactorS (a0 : (List ((Vec Int 64) × Int))) (a1 : (List ((Vec Int 64) × Int))) : Option Bool :=
  (if ((a0.length : Int) != (a1.length : Int)) then (some false) else (Option.bind (α := (Unit ⊕ Bool)) ((loopM (fun s : Int => laws_eqFactorS_l1 a0 a1 s) 0)) fun z => match z with | .inl _ => (some true) | .inr r99 => (some r99)))
theorem laws_eqFactorS_ok (a0 : (List ((Vec Int 64) × Int))) (a1 : (List ((Vec Int 64) × Int))) (r : Bool) (h : laws_eqFactorS a0 a1 = some r) : Den Try.prog 21 [(eST_A64u8_i64_Z a0), (eST_A64u8_i64_Z a1)] { r := (.bool r) } := by
  refine den_of (rs := [(.bool r)]) (ac := laws_eqFactorS_c) (L := laws_eqFactorS_L) (n := 27) (m := []) (c := Try.f21.body.getD .skip) good Try.func21 (by kernel_rfl) (by kernel_rfl) Try.ntmps21 rfl rfl (by kernel_rfl) rfl rfl ?_
  refine a_st (σ' := ⟨[(0, (eST_A64u8_i64_Z a0)), (1, (eST_A64u8_i64_Z a1))], []⟩) (by kernel_rfl) ?_
  unfold laws_eqFactorS_c
  refine sr (vp (.bool false) rfl (nx ⟨[(0, (eST_A64u8_i64_Z a0)), (1, (eST_A64u8_i64_Z a1))], []⟩ (by kernel_rfl) (a_seq (sr (vp (eST_A64u8_i64_Z a0) rfl (vq (i6 (a0.length : Int)) (len_run rfl rfl) trivial (vp (eST_A64u8_i64_Z a1) rfl (vq (i6 (a1.length : Int)) (len_run rfl rfl) trivial (vp (.bool (((a0.length : Int) != (a1.length : Int)))) rfl ?_)))))))))
  refine nx ⟨[(0, (eST_A64u8_i64_Z a0)), (1, (eST_A64u8_i64_Z a1)), (10, (.bool (((a0.length : Int) != (a1.length : Int)))))], []⟩ (by kernel_rfl) ?_
  cases hb1 : ((a0.length : Int) != (a1.length : Int))
  · have h := ite_f hb1 h
    refine a_cond_f rfl (a_skip (a_next (σ' := ⟨[(0, (eST_A64u8_i64_Z a0)), (1, (eST_A64u8_i64_Z a1))], []⟩) (by kernel_rfl) ?_))
    obtain ⟨y49, hy50, hk51⟩ := bind_some h
    clear h
    refine a_join (emb := fun (s : Unit) => ⟨[], []⟩) (pre := fun s => (.inl s) = y49) ?_ ?_
    · rintro _ rfl
      have h := hk51
      refine a_st (σ' := ⟨[], []⟩) (by kernel_rfl) (sr (vp (.bool true) rfl (nx _ rfl (a_ret ?_))))
      refine ⟨.inr rfl, ?_⟩
      rw [Try.results21]
      cases h
      exact ⟨_, _, _, _, _, rfl, trivial, .inl ⟨rfl, .inl rfl⟩, rfl, rfl⟩
    · have h := hy50
      refine sr (vp (i6 0) rfl (nx ⟨[(0, (eST_A64u8_i64_Z a0)), (1, (eST_A64u8_i64_Z a1)), (5, (i6 0))], []⟩ (by kernel_rfl) (a_block ?_)))
      refine a_loop (emb := fun (s : Int) => ⟨[(0, (eST_A64u8_i64_Z a0)), (1, (eST_A64u8_i64_Z a1)), (5, (i6 s))], []⟩) (body := (fun s : Int => laws_eqFactorS_l1 a0 a1 s)) (G := fun q => some q = some y49) h rfl ?_ (by kernel_rfl)
      rintro X81 x66 x82 h hX83
      have h : laws_eqFactorS_l1 a0 a1 x66 = some x82 := h
      refine a_st (σ' := ⟨[(0, (eST_A64u8_i64_Z a0)), (1, (eST_A64u8_i64_Z a1)), (5, (i6 x66))], []⟩) (by kernel_rfl) (a_seq (sr (vp (i6 x66) rfl (vp (eST_A64u8_i64_Z a0) rfl (vq (i6 (a0.length : Int)) (len_run rfl rfl) trivial (vp (.bool ((decide (x66 < (a0.length : Int))))) rfl (nx ⟨[(0, (eST_A64u8_i64_Z a0)), (1, (eST_A64u8_i64_Z a1)), (5, (i6 x66)), (14, (.bool ((decide (x66 < (a0.length : Int))))))], []⟩ (by kernel_rfl) ?_)))))))
      cases hb84 : (decide (x66 < (a0.length : Int)))
      · have h := ite_f hb84 h
        refine a_cond_f rfl (a_exit (t_exit ?_))
        cases h
        have h := hX83
        refine t_exit (b_exit ?_)
        exact j_leaf () (Option.some.inj h) (by kernel_rfl)
      · have h := ite_t hb84 h
        refine a_cond_t rfl (a_skip (a_next (σ' := ⟨[(0, (eST_A64u8_i64_Z a0)), (1, (eST_A64u8_i64_Z a1)), (5, (i6 x66))], []⟩) (by kernel_rfl) (a_seq (a_block (a_seq (a_draw [⟨[], [], [], []⟩, ⟨[], [], [], []⟩, ⟨[], [], [], [0, 1]⟩, ⟨[], [], [], [0, 1, 2]⟩, ⟨[], [], [], []⟩, ⟨[], [], [], []⟩, ⟨[], [], [], [4, 5]⟩, ⟨[], [], [], [4, 5, 6]⟩, ⟨[], [], [], [0, 1, 2, 3, 4, 5, 6, 7]⟩, ⟨[], [], [], [0, 1, 2, 3, 4, 5, 6, 7, 8]⟩] (by kernel_rfl) (dp (eST_A64u8_i64_Z a0) rfl (by kernel_rfl) (dp (i6 x66) rfl (by kernel_rfl) (d_cons ?_)))))))))
        obtain ⟨hc91, h⟩ := ifp_some h
        refine vq (.ref (.row 65 (a0.map eT_A64u8_i64_Z)) [x66.toNat] [x66.toNat * 65]) rfl (lmap hc91) (d_next (by kernel_rfl) (d_cons ?_))
        have hl92 : LdOk [x66.toNat] (.row 65 (a0.map eT_A64u8_i64_Z)) [x66.toNat * 65] 65 true (eT_A64u8_i64_Z (rd a0 x66.toNat)) := (.row (llt hc91) rfl (.nil rfl rfl rfl))
        refine vq (eT_A64u8_i64_Z (rd a0 x66.toNat)) (ld_ref (i := ⟨.struct [(0, 24), (64, 2)], 65, 72, (eT_A64u8_i64_Z ((vrep 64 (0 : Int)), (0 : Int)))⟩) rfl rfl hl92) hl92.c (d_next (by kernel_rfl) (dp (eST_A64u8_i64_Z a1) rfl (by kernel_rfl) (dp (i6 x66) rfl (by kernel_rfl) (d_cons ?_))))
        obtain ⟨hc93, h⟩ := ifp_some h
        refine vq (.ref (.row 65 (a1.map eT_A64u8_i64_Z)) [x66.toNat] [x66.toNat * 65]) rfl (lmap hc93) (d_next (by kernel_rfl) (d_cons ?_))
        have hl94 : LdOk [x66.toNat] (.row 65 (a1.map eT_A64u8_i64_Z)) [x66.toNat * 65] 65 true (eT_A64u8_i64_Z (rd a1 x66.toNat)) := (.row (llt hc93) rfl (.nil rfl rfl rfl))
        refine vq (eT_A64u8_i64_Z (rd a1 x66.toNat)) (ld_ref (i := ⟨.struct [(0, 24), (64, 2)], 65, 72, (eT_A64u8_i64_Z ((vrep 64 (0 : Int)), (0 : Int)))⟩) rfl rfl hl94) hl94.c (d_next (by kernel_rfl) (d_cons ?_))
        obtain ⟨r95, hr96, h⟩ := bind_some h
        refine a_call (args := [(eT_A64u8_i64_Z (rd a0 x66.toNat)), (eT_A64u8_i64_Z (rd a1 x66.toNat))]) (u := []) (r := (.bool r95)) rfl rfl (laws_eqFactor_ok (rd a0 x66.toNat) (rd a1 x66.toNat) r95 hr96) rfl (d_next (by kernel_rfl) (dp (.bool (!r95)) rfl (by kernel_rfl) (d_nil (a_next (σ' := ⟨[(0, (eST_A64u8_i64_Z a0)), (1, (eST_A64u8_i64_Z a1)), (5, (i6 x66)), (26, (.bool (!r95)))], []⟩) (by kernel_rfl) ?_))))
        cases hb97 : (!r95)
        · have h := ite_f hb97 h
          refine a_cond_f rfl (a_skip (b_norm (a_next (σ' := ⟨[(0, (eST_A64u8_i64_Z a0)), (1, (eST_A64u8_i64_Z a1)), (5, (i6 x66))], []⟩) (by kernel_rfl) (a_region (vp (i6 x66) rfl (vp (i6 (IntKind.i64.wrap (x66 + 1))) rfl (vp (i6 (IntKind.i64.wrap (x66 + 1))) rfl (a_nil ?_))))))))
          cases h
          exact a_again (by kernel_rfl) hX83
        · have h := ite_t hb97 h
          refine a_cond_t rfl (sr (vp (.bool false) rfl (nx _ rfl (a_ret (b_ret (t_ret ?_))))))
          cases h
          have h := hX83
          refine t_ret (b_ret (t_ret ?_))
          cases h
          have h := hk51
          refine ⟨.inr rfl, ?_⟩
          rw [Try.results21]
          cases h
          exact ⟨_, _, _, _, _, rfl, trivial, .inl ⟨rfl, .inl rfl⟩, rfl, rfl⟩
  · have h := ite_t hb1 h
    refine a_cond_t rfl (sr (vp (.bool false) rfl (nx _ rfl (a_ret (t_ret ?_)))))
    refine ⟨.inr rfl, ?_⟩
    rw [Try.results21]
    cases h
    exact ⟨_, _, _, _, _, rfl, trivial, .inl ⟨rfl, .inl rfl⟩, rfl, rfl⟩
def laws_markFactorS_of_mut_c : ACode := (.seq (.region 0 [q 4 (.asg 0 (.const (.int .i64 0)) 3)] false) (.seq (.seq (.region 1 [q 5 (.asg 0 (.const (.int .i64 0)) 3)] false) (.block 0 (.loop (.seq (.seq (.region 2 [q 7 (.mov (t 5)), q 8 (.mov (t 0)), q 9 (.blt 0 .len [(t 8)] [29]), q 10 (.bin .lss 3 (t 7) (t 9))] false) (.cond (t 10) .skip (.exit 0))) (.seq (.block 1 (.seq (.seq (.region 4 [q 6 (.asg 0 (.const (.int .i64 0)) 3)] false) (.block 2 (.loop (.seq (.seq (.region 5 [q 13 (.mov (t 6)), q 14 (.bin .lss 3 (t 13) (.const (.int .i64 64)))] false) (.cond (t 14) .skip (.exit 2))) (.seq (.block 3 (.seq (.region 7 [q 17 (.mov (t 0)), q 18 (.mov (t 5)), q 19 (.mov (t 6)), q 20 (.mov (t 1)), q 21 (.conv 3 5 (t 20)), q 22 (.indexAddr 29 (t 17) (t 18)), q 23 (.fieldAddr 74 (t 22) 0), q 24 (.indexAddr 24 (t 23) (t 19)), ⟨none, .store 5 (t 24) (t 21), none, []⟩] false) (.region 8 [q 25 (.mov (t 1)), q 26 (.bin .add 3 (t 25) (.const (.int .i64 1))), q 1 (.asg 0 (t 26) 3)] false))) (.region 6 [q 15 (.mov (t 6)), q 16 (.bin .add 3 (t 15) (.const (.int .i64 1))), q 6 (.asg 0 (t 16) 3)] false)))))) (.seq (.region 9 [q 27 (.mov (t 0)), q 28 (.mov (t 5)), q 29 (.mov (t 1)), q 30 (.indexAddr 29 (t 27) (t 28)), q 31 (.fieldAddr 74 (t 30) 1), ⟨none, .store 2 (t 31) (t 29), none, []⟩] false) (.region 10 [q 32 (.mov (t 1)), q 33 (.bin .add 3 (t 32) (.const (.int .i64 1))), q 1 (.asg 0 (t 33) 3)] false)))) (.region 3 [q 11 (.mov (t 5)), q 12 (.bin .add 3 (t 11) (.const (.int .i64 1))), q 5 (.asg 0 (t 12) 3)] false)))))) (.seq (.region 11 [q 34 (.mov (t 1)), q 4 (.asg 0 (t 34) 3)] false) .ret)))
def laws_markFactorS_of_mut_L : Live := [(0, [0, 1]), (1, [0, 1]), (2, [0, 1, 5]), (3, [0, 1, 5]), (4, [0, 1, 5]), (5, [0, 1, 5, 6]), (6, [0, 1, 5, 6]), (7, [0, 1, 5, 6]), (8, [0, 1, 5, 6]), (9, [0, 1, 5]), (10, [0, 1, 5]), (11, [1]), (100010, [0, 1, 5, 10]), (100014, [0, 1, 5, 6, 14])]
noncomputable def laws_markFactorS_of_mut_l2 (x198 : Int) (x278 : Int) (x279 : Int) (x280 : (List ((Vec Int 64) × Int))) : Option ((Int × Int × (List ((Vec Int 64) × Int))) ⊕ (Int × (List ((Vec Int 64) × Int)))) :=
  (if (decide (x279 < 64)) then (ifp (0 ≤ x198 ∧ x198 < ((x280.length : Nat) : Int)) ((ifp (0 ≤ x279 ∧ x279 < ((64 : Nat) : Int)) ((some (.inl ((IntKind.i64.wrap (x278 + 1), IntKind.i64.wrap (x279 + 1), (x280.set x198.toNat (((vset ((rd x280 x198.toNat).1) x279.toNat (IntKind.u8.wrap x278)), (rd x280 x198.toNat).2))))))))))) else (some (.inr (x278, x280))))
noncomputable def laws_markFactorS_of_mut_l1  (x197 : Int) (x198 : Int) (x199 : (List ((Vec Int 64) × Int))) : Option ((Int × Int × (List ((Vec Int 64) × Int))) ⊕ (Int × (List ((Vec Int 64) × Int)))) :=
  (if (decide (x198 < (x199.length : Int))) then (Option.bind (α := (Int × (List ((Vec Int 64) × Int)))) ((loopM (fun s : (Int × Int × (List ((Vec Int 64) × Int))) => laws_markFactorS_of_mut_l2 x198 s.1 s.2.1 s.2.2) (x197, 0, x199))) fun ⟨x269, x270⟩ => (ifp (0 ≤ x198 ∧ x198 < ((x270.length : Nat) : Int)) ((some (.inl ((IntKind.i64.wrap (x269 + 1), IntKind.i64.wrap (x198 + 1), (x270.set x198.toNat (((rd x270 x198.toNat).1, x269)))))))))) else (some (.inr (x197, x199))))
noncomputable def laws_markFactorS_of_mut (a0 : (List ((Vec Int 64) × Int))) (a1 : Int) : Option (Int × (List ((Vec Int 64) × Int))) :=
  (Option.bind (α := (Int × (List ((Vec Int 64) × Int)))) ((loopM (fun s : (Int × Int × (List ((Vec Int 64) × Int))) => laws_markFactorS_of_mut_l1 s.1 s.2.1 s.2.2) (a1, 0, a0))) fun ⟨x146, x147⟩ => (some (x146, x147)))
theorem laws_markFactorS_of_mut_ok (a0 : (List ((Vec Int 64) × Int))) (a1 : Int) (r : (Int × (List ((Vec Int 64) × Int)))) (h : laws_markFactorS_of_mut a0 a1 = some r) : Den Try.prog 22 [(.mutsl 65 (a0.map eT_A64u8_i64_Z)), (i6 a1)] { r := (i6 r.1), ms := [(.row 65 (r.2.map eT_A64u8_i64_Z))], fs := [] } := by
  refine den_ofX (rs := [(i6 r.1)]) (ac := laws_markFactorS_of_mut_c) (L := laws_markFactorS_of_mut_L) (n := 35) (m := []) (c := Try.f22.body.getD .skip) good Try.func22 (by kernel_rfl) (by kernel_rfl) Try.ntmps22 rfl rfl (by kernel_rfl) rfl ?_
  refine a_st (σ' := ⟨[(0, (.osl 1000000)), (1, (i6 a1))], [(1000000, (bk (.row 65 (a0.map eT_A64u8_i64_Z))))]⟩) (by kernel_rfl) ?_
  unfold laws_markFactorS_of_mut_c
  refine sr (vp (i6 0) rfl (nx ⟨[(0, (.osl 1000000)), (1, (i6 a1))], [(1000000, (bk (.row 65 (a0.map eT_A64u8_i64_Z))))]⟩ (by kernel_rfl) ?_))
  obtain ⟨y148, hy149, hk150⟩ := bind_some h
  clear h
  refine a_join (emb := fun (s : (Int × (List ((Vec Int 64) × Int)))) => ⟨[(1, (i6 s.1))], [(1000000, (bk (.row 65 (s.2.map eT_A64u8_i64_Z))))]⟩) (pre := fun s => s = y148) ?_ ?_
  · rintro ⟨x146, x147⟩ rfl
    have h := hk150
    refine a_st (σ' := ⟨[(1, (i6 x146))], [(1000000, (bk (.row 65 (x147.map eT_A64u8_i64_Z))))]⟩) (by kernel_rfl) (sr (vp (i6 x146) rfl (vp (i6 x146) rfl (nx _ rfl (a_ret ?_)))))
    refine ⟨.inr rfl, ?_⟩
    rw [Try.results22]
    cases h
    exact ⟨[], ⟨_, _, _, _, _, rfl, trivial, rfl, .inl ⟨rfl, .inl rfl, ⟨rfl, rfl, rfl⟩⟩⟩, rfl, ⟨_, _, rfl, rfl, rfl⟩⟩
  · have h := hy149
    refine sr (vp (i6 0) rfl (nx ⟨[(0, (.osl 1000000)), (1, (i6 a1)), (5, (i6 0))], [(1000000, (bk (.row 65 (a0.map eT_A64u8_i64_Z))))]⟩ (by kernel_rfl) (a_block ?_)))
    refine a_loop (emb := fun (s : (Int × Int × (List ((Vec Int 64) × Int)))) => ⟨[(0, (.osl 1000000)), (1, (i6 s.1)), (5, (i6 s.2.1))], [(1000000, (bk (.row 65 (s.2.2.map eT_A64u8_i64_Z))))]⟩) (body := (fun s : (Int × Int × (List ((Vec Int 64) × Int))) => laws_markFactorS_of_mut_l1 s.1 s.2.1 s.2.2)) (G := fun q => some q = some y148) h rfl ?_ (by kernel_rfl)
    rintro X246 ⟨x197, x198, x199⟩ x247 h hX248
    have h : laws_markFactorS_of_mut_l1 x197 x198 x199 = some x247 := h
    refine a_st (σ' := ⟨[(0, (.osl 1000000)), (1, (i6 x197)), (5, (i6 x198))], [(1000000, (bk (.row 65 (x199.map eT_A64u8_i64_Z))))]⟩) (by kernel_rfl) (a_seq (sr (vp (i6 x198) rfl (vp (.osl 1000000) rfl (vq (i6 (x199.length : Int)) (leno_run rfl rfl rfl) trivial (vp (.bool ((decide (x198 < (x199.length : Int))))) rfl (nx ⟨[(0, (.osl 1000000)), (1, (i6 x197)), (5, (i6 x198)), (10, (.bool ((decide (x198 < (x199.length : Int))))))], [(1000000, (bk (.row 65 (x199.map eT_A64u8_i64_Z))))]⟩ (by kernel_rfl) ?_)))))))
    cases hb249 : (decide (x198 < (x199.length : Int)))
    · have h := ite_f hb249 h
      refine a_cond_f rfl (a_exit (t_exit ?_))
      cases h
      have h := hX248
      refine t_exit (b_exit ?_)
      exact j_leaf (x197, x199) (Option.some.inj h) (by kernel_rfl)
    · have h := ite_t hb249 h
      refine a_cond_t rfl (a_skip (a_next (σ' := ⟨[(0, (.osl 1000000)), (1, (i6 x197)), (5, (i6 x198))], [(1000000, (bk (.row 65 (x199.map eT_A64u8_i64_Z))))]⟩) (by kernel_rfl) (a_seq (a_block ?_))))
      obtain ⟨y271, hy272, hk273⟩ := bind_some h
      clear h
      refine a_join (emb := fun (s : (Int × (List ((Vec Int 64) × Int)))) => ⟨[(0, (.osl 1000000)), (1, (i6 s.1)), (5, (i6 x198))], [(1000000, (bk (.row 65 (s.2.map eT_A64u8_i64_Z))))]⟩) (pre := fun s => s = y271) ?_ ?_
      · rintro ⟨x269, x270⟩ rfl
        have h := hk273
        refine a_st (σ' := ⟨[(0, (.osl 1000000)), (1, (i6 x269)), (5, (i6 x198))], [(1000000, (bk (.row 65 (x270.map eT_A64u8_i64_Z))))]⟩) (by kernel_rfl) (sr (vp (.osl 1000000) rfl (vp (i6 x198) rfl (vp (i6 x269) rfl ?_))))
        obtain ⟨hc293, h⟩ := ifp_some h
        refine vq (.own 1000000 [x198.toNat] [x198.toNat * 65]) rfl (lmap hc293) (vb (.own 1000000 [x198.toNat, 1] [x198.toNat * 65, 64]) rfl rfl ?_)
        have hs294 : StOk [x198.toNat, 1] (.row 65 (x270.map eT_A64u8_i64_Z)) [x198.toNat * 65, 64] 1 (i6 x269) (.row 65 (((x270.set x198.toNat (((rd x270 x198.toNat).1, x269)))).map eT_A64u8_i64_Z)) := (.row (y := ((rd x270 x198.toNat).1, x269)) (llt hc293) rfl (.fld rfl rfl rfl rfl (.nil rfl rfl rfl rfl)))
        refine vu .top [(1000000, (bk (.row 65 (((x270.set x198.toNat (((rd x270 x198.toNat).1, x269)))).map eT_A64u8_i64_Z))))] (st_own (i := ⟨.int .i64, 1, 8, (.int .i64 0)⟩) rfl rfl (fun _ => rfl) rfl hs294) (hs294.c rfl) rfl (nx ⟨[(0, (.osl 1000000)), (1, (i6 x269)), (5, (i6 x198))], [(1000000, (bk (.row 65 (((x270.set x198.toNat (((rd x270 x198.toNat).1, x269)))).map eT_A64u8_i64_Z))))]⟩ (by kernel_rfl) (a_region (vp (i6 x269) rfl (vp (i6 (IntKind.i64.wrap (x269 + 1))) rfl (vp (i6 (IntKind.i64.wrap (x269 + 1))) rfl (a_nil (b_norm (a_next (σ' := ⟨[(0, (.osl 1000000)), (1, (i6 (IntKind.i64.wrap (x269 + 1)))), (5, (i6 x198))], [(1000000, (bk (.row 65 (((x270.set x198.toNat (((rd x270 x198.toNat).1, x269)))).map eT_A64u8_i64_Z))))]⟩) (by kernel_rfl) (a_region ?_)))))))))
        refine vp (i6 x198) rfl (vp (i6 (IntKind.i64.wrap (x198 + 1))) rfl (vp (i6 (IntKind.i64.wrap (x198 + 1))) rfl (a_nil ?_)))
        cases h
        exact a_again (by kernel_rfl) hX248
      · have h := hy272
        refine sr (vp (i6 0) rfl (nx ⟨[(0, (.osl 1000000)), (1, (i6 x197)), (5, (i6 x198)), (6, (i6 0))], [(1000000, (bk (.row 65 (x199.map eT_A64u8_i64_Z))))]⟩ (by kernel_rfl) (a_block ?_)))
        refine a_loop (emb := fun (s : (Int × Int × (List ((Vec Int 64) × Int)))) => ⟨[(0, (.osl 1000000)), (1, (i6 s.1)), (5, (i6 x198)), (6, (i6 s.2.1))], [(1000000, (bk (.row 65 (s.2.2.map eT_A64u8_i64_Z))))]⟩) (body := (fun s : (Int × Int × (List ((Vec Int 64) × Int))) => laws_markFactorS_of_mut_l2 x198 s.1 s.2.1 s.2.2)) (G := fun q => some q = some y271) h rfl ?_ (by kernel_rfl)
        rintro X285 ⟨x278, x279, x280⟩ x286 h hX287
        have h : laws_markFactorS_of_mut_l2 x198 x278 x279 x280 = some x286 := h
        refine a_st (σ' := ⟨[(0, (.osl 1000000)), (1, (i6 x278)), (5, (i6 x198)), (6, (i6 x279))], [(1000000, (bk (.row 65 (x280.map eT_A64u8_i64_Z))))]⟩) (by kernel_rfl) (a_seq (sr (vp (i6 x279) rfl (vp (.bool ((decide (x279 < 64)))) rfl (nx ⟨[(0, (.osl 1000000)), (1, (i6 x278)), (5, (i6 x198)), (6, (i6 x279)), (14, (.bool ((decide (x279 < 64)))))], [(1000000, (bk (.row 65 (x280.map eT_A64u8_i64_Z))))]⟩ (by kernel_rfl) ?_)))))
        cases hb288 : (decide (x279 < 64))
        · have h := ite_f hb288 h
          refine a_cond_f rfl (a_exit (t_exit ?_))
          cases h
          have h := hX287
          refine t_exit (b_exit ?_)
          exact j_leaf (x278, x280) (Option.some.inj h) (by kernel_rfl)
        · have h := ite_t hb288 h
          refine a_cond_t rfl (a_skip (a_next (σ' := ⟨[(0, (.osl 1000000)), (1, (i6 x278)), (5, (i6 x198)), (6, (i6 x279))], [(1000000, (bk (.row 65 (x280.map eT_A64u8_i64_Z))))]⟩) (by kernel_rfl) (a_seq (a_block (sr (vp (.osl 1000000) rfl (vp (i6 x198) rfl (vp (i6 x279) rfl (vp (i6 x278) rfl ?_)))))))))
          refine vp (b8 (IntKind.u8.wrap x278)) rfl ?_
          obtain ⟨hc289, h⟩ := ifp_some h
          refine vq (.own 1000000 [x198.toNat] [x198.toNat * 65]) rfl (lmap hc289) (vb (.own 1000000 [x198.toNat, 0] [x198.toNat * 65, 0]) rfl rfl ?_)
          obtain ⟨hc290, h⟩ := ifp_some h
          refine vq (.own 1000000 [x198.toNat, 0, x279.toNat] [x198.toNat * 65, 0, x279.toNat * 1]) rfl hc290 ?_
          have hs291 : StOk [x198.toNat, 0, x279.toNat] (.row 65 (x280.map eT_A64u8_i64_Z)) [x198.toNat * 65, 0, x279.toNat * 1] 1 (b8 (IntKind.u8.wrap x278)) (.row 65 (((x280.set x198.toNat (((vset ((rd x280 x198.toNat).1) x279.toNat (IntKind.u8.wrap x278)), (rd x280 x198.toNat).2)))).map eT_A64u8_i64_Z)) := (.row (y := ((vset ((rd x280 x198.toNat).1) x279.toNat (IntKind.u8.wrap x278)), (rd x280 x198.toNat).2)) (llt hc289) rfl (.fld rfl rfl rfl rfl (.arr (y := IntKind.u8.wrap x278) (vlt ((rd x280 x198.toNat).1) hc290) rfl (.nil rfl rfl rfl rfl))))
          refine vu .top [(1000000, (bk (.row 65 (((x280.set x198.toNat (((vset ((rd x280 x198.toNat).1) x279.toNat (IntKind.u8.wrap x278)), (rd x280 x198.toNat).2)))).map eT_A64u8_i64_Z))))] (st_own (i := ⟨.int .u8, 1, 1, (.int .u8 0)⟩) rfl rfl (fun _ => rfl) rfl hs291) (hs291.c rfl) rfl (nx ⟨[(0, (.osl 1000000)), (1, (i6 x278)), (5, (i6 x198)), (6, (i6 x279))], [(1000000, (bk (.row 65 (((x280.set x198.toNat (((vset ((rd x280 x198.toNat).1) x279.toNat (IntKind.u8.wrap x278)), (rd x280 x198.toNat).2)))).map eT_A64u8_i64_Z))))]⟩ (by kernel_rfl) (a_region (vp (i6 x278) rfl (vp (i6 (IntKind.i64.wrap (x278 + 1))) rfl (vp (i6 (IntKind.i64.wrap (x278 + 1))) rfl (a_nil (b_norm (a_next (σ' := ⟨[(0, (.osl 1000000)), (1, (i6 (IntKind.i64.wrap (x278 + 1)))), (5, (i6 x198)), (6, (i6 x279))], [(1000000, (bk (.row 65 (((x280.set x198.toNat (((vset ((rd x280 x198.toNat).1) x279.toNat (IntKind.u8.wrap x278)), (rd x280 x198.toNat).2)))).map eT_A64u8_i64_Z))))]⟩) (by kernel_rfl) (a_region ?_)))))))))
          refine vp (i6 x279) rfl (vp (i6 (IntKind.i64.wrap (x279 + 1))) rfl (vp (i6 (IntKind.i64.wrap (x279 + 1))) rfl (a_nil ?_)))
          cases h
          exact a_again (by kernel_rfl) hX287
def laws_heldFactorS_c : ACode := (.seq (.region 0 [q 4 (.asg 0 (.const (.int .i64 0)) 3)] false) (.seq (.seq (.region 1 [q 5 (.asg 0 (.const (.int .i64 0)) 3)] false) (.block 0 (.loop (.seq (.seq (.region 2 [q 7 (.mov (t 5)), q 8 (.mov (t 0)), q 9 (.blt 0 .len [(t 8)] [29]), q 10 (.bin .lss 3 (t 7) (t 9))] false) (.cond (t 10) .skip (.exit 0))) (.seq (.block 1 (.seq (.seq (.region 4 [q 6 (.asg 0 (.const (.int .i64 0)) 3)] false) (.block 2 (.loop (.seq (.seq (.region 5 [q 13 (.mov (t 6)), q 14 (.bin .lss 3 (t 13) (.const (.int .i64 64)))] false) (.cond (t 14) .skip (.exit 2))) (.seq (.block 3 (.seq (.seq (.region 7 [q 17 (.mov (t 0)), q 18 (.mov (t 5)), q 19 (.mov (t 6)), q 20 (.indexAddr 29 (t 17) (t 18)), q 21 (.fieldAddr 74 (t 20) 0), q 22 (.indexAddr 24 (t 21) (t 19)), q 23 (.load 5 (t 22)), q 24 (.mov (t 1)), q 25 (.conv 3 5 (t 24)), q 26 (.bin .neq 5 (t 23) (t 25))] false) (.cond (t 26) (.seq (.region 8 [q 4 (.asg 0 (.const (.int .i64 (-1))) 3)] false) .ret) .skip)) (.region 9 [q 27 (.mov (t 1)), q 28 (.bin .add 3 (t 27) (.const (.int .i64 1))), q 1 (.asg 0 (t 28) 3)] false))) (.region 6 [q 15 (.mov (t 6)), q 16 (.bin .add 3 (t 15) (.const (.int .i64 1))), q 6 (.asg 0 (t 16) 3)] false)))))) (.seq (.seq (.region 10 [q 29 (.mov (t 0)), q 30 (.mov (t 5)), q 31 (.indexAddr 29 (t 29) (t 30)), q 32 (.fieldAddr 74 (t 31) 1), q 33 (.load 2 (t 32)), q 34 (.mov (t 1)), q 35 (.bin .neq 2 (t 33) (t 34))] false) (.cond (t 35) (.seq (.region 11 [q 4 (.asg 0 (.const (.int .i64 (-1))) 3)] false) .ret) .skip)) (.region 12 [q 36 (.mov (t 1)), q 37 (.bin .add 3 (t 36) (.const (.int .i64 1))), q 1 (.asg 0 (t 37) 3)] false)))) (.region 3 [q 11 (.mov (t 5)), q 12 (.bin .add 3 (t 11) (.const (.int .i64 1))), q 5 (.asg 0 (t 12) 3)] false)))))) (.seq (.region 13 [q 38 (.mov (t 1)), q 4 (.asg 0 (t 38) 3)] false) .ret)))
def laws_heldFactorS_L : Live := [(0, [0, 1]), (1, [0, 1]), (2, [0, 1, 5]), (3, [0, 1, 5]), (4, [0, 1, 5]), (5, [0, 1, 5, 6]), (6, [0, 1, 5, 6]), (7, [0, 1, 5, 6]), (8, []), (9, [0, 1, 5, 6]), (10, [0, 1, 5]), (11, []), (12, [0, 1, 5]), (13, [1]), (100010, [0, 1, 5, 10]), (100014, [0, 1, 5, 6, 14]), (100026, [0, 1, 5, 6, 26]), (100035, [0, 1, 5, 35])]
noncomputable def laws_heldFactorS_l2 (x264 : Int) (a0 : (List ((Vec Int 64) × Int))) (x370 : Int) (x371 : Int) : Option ((Int × Int) ⊕ (Int ⊕ Int)) :=
  (if (decide (x371 < 64)) then (ifp (0 ≤ x264 ∧ x264 < ((a0.length : Nat) : Int)) ((ifp (0 ≤ x371 ∧ x371 < ((64 : Nat) : Int)) ((letp ((((rd ((rd a0 x264.toNat).1).1 x371.toNat)) != (IntKind.u8.wrap x370))) fun x386 => (if x386 then (some (.inr ((.inr (-1))))) else (some (.inl ((IntKind.i64.wrap (x370 + 1), IntKind.i64.wrap (x371 + 1))))))))))) else (some (.inr (.inl x370))))
noncomputable def laws_heldFactorS_l1 (a0 : (List ((Vec Int 64) × Int))) (x263 : Int) (x264 : Int) : Option ((Int × Int) ⊕ (Int ⊕ Int)) :=
  (if (decide (x264 < (a0.length : Int))) then (Option.bind (α := (Int ⊕ Int)) ((loopM (fun s : (Int × Int) => laws_heldFactorS_l2 x264 a0 s.1 s.2) (x263, 0))) fun z => match z with | .inl x359 => (ifp (0 ≤ x264 ∧ x264 < ((a0.length : Nat) : Int)) ((if (((rd a0 x264.toNat).2) != x359) then (some (.inr ((.inr (-1))))) else (some (.inl ((IntKind.i64.wrap (x359 + 1), IntKind.i64.wrap (x264 + 1)))))))) | .inr r393 => (some (.inr (.inr r393)))) else (some (.inr (.inl x263))))
noncomputable def laws_heldFactorS (a0 : (List ((Vec Int 64) × Int))) (a1 : Int) : Option Int :=
  (Option.bind (α := (Int ⊕ Int)) ((loopM (fun s : (Int × Int) => laws_heldFactorS_l1 a0 s.1 s.2) (a1, 0))) fun z => match z with | .inl x196 => (some x196) | .inr r395 => (some r395))
theorem laws_heldFactorS_ok (a0 : (List ((Vec Int 64) × Int))) (a1 : Int) (r : Int) (h : laws_heldFactorS a0 a1 = some r) : Den Try.prog 23 [(eST_A64u8_i64_Z a0), (i6 a1)] { r := (i6 r) } := by
  refine den_of (rs := [(i6 r)]) (ac := laws_heldFactorS_c) (L := laws_heldFactorS_L) (n := 39) (m := []) (c := Try.f23.body.getD .skip) good Try.func23 (by kernel_rfl) (by kernel_rfl) Try.ntmps23 rfl rfl (by kernel_rfl) rfl rfl ?_
  refine a_st (σ' := ⟨[(0, (eST_A64u8_i64_Z a0)), (1, (i6 a1))], []⟩) (by kernel_rfl) ?_
  unfold laws_heldFactorS_c
  refine sr (vp (i6 0) rfl (nx ⟨[(0, (eST_A64u8_i64_Z a0)), (1, (i6 a1))], []⟩ (by kernel_rfl) ?_))
  obtain ⟨y197, hy198, hk199⟩ := bind_some h
  clear h
  refine a_join (emb := fun (s : Int) => ⟨[(1, (i6 s))], []⟩) (pre := fun s => (.inl s) = y197) ?_ ?_
  · rintro x196 rfl
    have h := hk199
    refine a_st (σ' := ⟨[(1, (i6 x196))], []⟩) (by kernel_rfl) (sr (vp (i6 x196) rfl (vp (i6 x196) rfl (nx _ rfl (a_ret ?_)))))
    refine ⟨.inr rfl, ?_⟩
    rw [Try.results23]
    cases h
    exact ⟨_, _, _, _, _, rfl, trivial, .inl ⟨rfl, .inl rfl⟩, rfl, rfl⟩
  · have h := hy198
    refine sr (vp (i6 0) rfl (nx ⟨[(0, (eST_A64u8_i64_Z a0)), (1, (i6 a1)), (5, (i6 0))], []⟩ (by kernel_rfl) (a_block ?_)))
    refine a_loop (emb := fun (s : (Int × Int)) => ⟨[(0, (eST_A64u8_i64_Z a0)), (1, (i6 s.1)), (5, (i6 s.2))], []⟩) (body := (fun s : (Int × Int) => laws_heldFactorS_l1 a0 s.1 s.2)) (G := fun q => some q = some y197) h rfl ?_ (by kernel_rfl)
    rintro X328 ⟨x263, x264⟩ x329 h hX330
    have h : laws_heldFactorS_l1 a0 x263 x264 = some x329 := h
    refine a_st (σ' := ⟨[(0, (eST_A64u8_i64_Z a0)), (1, (i6 x263)), (5, (i6 x264))], []⟩) (by kernel_rfl) (a_seq (sr (vp (i6 x264) rfl (vp (eST_A64u8_i64_Z a0) rfl (vq (i6 (a0.length : Int)) (len_run rfl rfl) trivial (vp (.bool ((decide (x264 < (a0.length : Int))))) rfl (nx ⟨[(0, (eST_A64u8_i64_Z a0)), (1, (i6 x263)), (5, (i6 x264)), (10, (.bool ((decide (x264 < (a0.length : Int))))))], []⟩ (by kernel_rfl) ?_)))))))
    cases hb331 : (decide (x264 < (a0.length : Int)))
    · have h := ite_f hb331 h
      refine a_cond_f rfl (a_exit (t_exit ?_))
      cases h
      have h := hX330
      refine t_exit (b_exit ?_)
      exact j_leaf x263 (Option.some.inj h) (by kernel_rfl)
    · have h := ite_t hb331 h
      refine a_cond_t rfl (a_skip (a_next (σ' := ⟨[(0, (eST_A64u8_i64_Z a0)), (1, (i6 x263)), (5, (i6 x264))], []⟩) (by kernel_rfl) (a_seq (a_block ?_))))
      obtain ⟨y360, hy361, hk362⟩ := bind_some h
      clear h
      refine a_join (emb := fun (s : Int) => ⟨[(0, (eST_A64u8_i64_Z a0)), (1, (i6 s)), (5, (i6 x264))], []⟩) (pre := fun s => (.inl s) = y360) ?_ ?_
      · rintro x359 rfl
        have h := hk362
        refine a_st (σ' := ⟨[(0, (eST_A64u8_i64_Z a0)), (1, (i6 x359)), (5, (i6 x264))], []⟩) (by kernel_rfl) (a_seq (sr (vp (eST_A64u8_i64_Z a0) rfl (vp (i6 x264) rfl ?_))))
        obtain ⟨hc390, h⟩ := ifp_some h
        refine vq (.ref (.row 65 (a0.map eT_A64u8_i64_Z)) [x264.toNat] [x264.toNat * 65]) rfl (lmap hc390) (vb (.ref (.row 65 (a0.map eT_A64u8_i64_Z)) [x264.toNat, 1] [x264.toNat * 65, 64]) rfl rfl ?_)
        have hl391 : LdOk [x264.toNat, 1] (.row 65 (a0.map eT_A64u8_i64_Z)) [x264.toNat * 65, 64] 1 false (i6 ((rd a0 x264.toNat).2)) := (.row (llt hc390) rfl (.fld rfl rfl rfl rfl (.nil rfl rfl rfl)))
        refine vq (i6 ((rd a0 x264.toNat).2)) (ld_ref (i := ⟨.int .i64, 1, 8, (.int .i64 0)⟩) rfl rfl hl391) hl391.c (vp (i6 x359) rfl (vp (.bool ((((rd a0 x264.toNat).2) != x359))) rfl (nx ⟨[(0, (eST_A64u8_i64_Z a0)), (1, (i6 x359)), (5, (i6 x264)), (35, (.bool ((((rd a0 x264.toNat).2) != x359))))], []⟩ (by kernel_rfl) ?_)))
        cases hb392 : (((rd a0 x264.toNat).2) != x359)
        · have h := ite_f hb392 h
          refine a_cond_f rfl (a_skip (a_next (σ' := ⟨[(0, (eST_A64u8_i64_Z a0)), (1, (i6 x359)), (5, (i6 x264))], []⟩) (by kernel_rfl) (a_region (vp (i6 x359) rfl (vp (i6 (IntKind.i64.wrap (x359 + 1))) rfl (vp (i6 (IntKind.i64.wrap (x359 + 1))) rfl (a_nil (b_norm (a_next (σ' := ⟨[(0, (eST_A64u8_i64_Z a0)), (1, (i6 (IntKind.i64.wrap (x359 + 1)))), (5, (i6 x264))], []⟩) (by kernel_rfl) ?_)))))))))
          refine a_region (vp (i6 x264) rfl (vp (i6 (IntKind.i64.wrap (x264 + 1))) rfl (vp (i6 (IntKind.i64.wrap (x264 + 1))) rfl (a_nil ?_))))
          cases h
          exact a_again (by kernel_rfl) hX330
        · have h := ite_t hb392 h
          refine a_cond_t rfl (sr (vp (i6 (-1)) rfl (nx _ rfl (a_ret (t_ret (b_ret (t_ret ?_)))))))
          cases h
          have h := hX330
          refine t_ret (b_ret (t_ret ?_))
          cases h
          have h := hk199
          refine ⟨.inr rfl, ?_⟩
          rw [Try.results23]
          cases h
          exact ⟨_, _, _, _, _, rfl, trivial, .inl ⟨rfl, .inl rfl⟩, rfl, rfl⟩
      · have h := hy361
        refine sr (vp (i6 0) rfl (nx ⟨[(0, (eST_A64u8_i64_Z a0)), (1, (i6 x263)), (5, (i6 x264)), (6, (i6 0))], []⟩ (by kernel_rfl) (a_block ?_)))
        refine a_loop (emb := fun (s : (Int × Int)) => ⟨[(0, (eST_A64u8_i64_Z a0)), (1, (i6 s.1)), (5, (i6 x264)), (6, (i6 s.2))], []⟩) (body := (fun s : (Int × Int) => laws_heldFactorS_l2 x264 a0 s.1 s.2)) (G := fun q => some q = some y360) h rfl ?_ (by kernel_rfl)
        rintro X379 ⟨x370, x371⟩ x380 h hX381
        have h : laws_heldFactorS_l2 x264 a0 x370 x371 = some x380 := h
        refine a_st (σ' := ⟨[(0, (eST_A64u8_i64_Z a0)), (1, (i6 x370)), (5, (i6 x264)), (6, (i6 x371))], []⟩) (by kernel_rfl) (a_seq (sr (vp (i6 x371) rfl (vp (.bool ((decide (x371 < 64)))) rfl (nx ⟨[(0, (eST_A64u8_i64_Z a0)), (1, (i6 x370)), (5, (i6 x264)), (6, (i6 x371)), (14, (.bool ((decide (x371 < 64)))))], []⟩ (by kernel_rfl) ?_)))))
        cases hb382 : (decide (x371 < 64))
        · have h := ite_f hb382 h
          refine a_cond_f rfl (a_exit (t_exit ?_))
          cases h
          have h := hX381
          refine t_exit (b_exit ?_)
          exact j_leaf x370 (Option.some.inj h) (by kernel_rfl)
        · have h := ite_t hb382 h
          refine a_cond_t rfl (a_skip (a_next (σ' := ⟨[(0, (eST_A64u8_i64_Z a0)), (1, (i6 x370)), (5, (i6 x264)), (6, (i6 x371))], []⟩) (by kernel_rfl) (a_seq (a_block (a_seq (sr (vp (eST_A64u8_i64_Z a0) rfl (vp (i6 x264) rfl (vp (i6 x371) rfl ?_)))))))))
          obtain ⟨hc383, h⟩ := ifp_some h
          refine vq (.ref (.row 65 (a0.map eT_A64u8_i64_Z)) [x264.toNat] [x264.toNat * 65]) rfl (lmap hc383) (vb (.ref (.row 65 (a0.map eT_A64u8_i64_Z)) [x264.toNat, 0] [x264.toNat * 65, 0]) rfl rfl ?_)
          obtain ⟨hc384, h⟩ := ifp_some h
          refine vq (.ref (.row 65 (a0.map eT_A64u8_i64_Z)) [x264.toNat, 0, x371.toNat] [x264.toNat * 65, 0, x371.toNat * 1]) rfl hc384 ?_
          have hl385 : LdOk [x264.toNat, 0, x371.toNat] (.row 65 (a0.map eT_A64u8_i64_Z)) [x264.toNat * 65, 0, x371.toNat * 1] 1 false (b8 ((rd ((rd a0 x264.toNat).1).1 x371.toNat))) := (.row (llt hc383) rfl (.fld rfl rfl rfl rfl (.arr (vlt ((rd a0 x264.toNat).1) hc384) rfl (.nil rfl rfl rfl))))
          refine vq (b8 ((rd ((rd a0 x264.toNat).1).1 x371.toNat))) (ld_ref (i := ⟨.int .u8, 1, 1, (.int .u8 0)⟩) rfl rfl hl385) hl385.c (vp (i6 x370) rfl (vp (b8 (IntKind.u8.wrap x370)) rfl ?_))
          obtain ⟨x386, hx387, h⟩ := letp_some h
          refine a_val' (v := (.bool ((((rd ((rd a0 x264.toNat).1).1 x371.toNat)) != (IntKind.u8.wrap x370))))) (v' := (.bool x386)) (u := []) (u' := []) rfl (congrArg (fun z => ((.bool z) : AV)) hx387) rfl trivial rfl (nx ⟨[(0, (eST_A64u8_i64_Z a0)), (1, (i6 x370)), (5, (i6 x264)), (6, (i6 x371)), (26, (.bool x386))], []⟩ (by kernel_rfl) ?_)
          cases hb388 : x386
          · have h := ite_f hb388 h
            refine a_cond_f rfl (a_skip (a_next (σ' := ⟨[(0, (eST_A64u8_i64_Z a0)), (1, (i6 x370)), (5, (i6 x264)), (6, (i6 x371))], []⟩) (by kernel_rfl) (a_region (vp (i6 x370) rfl (vp (i6 (IntKind.i64.wrap (x370 + 1))) rfl (vp (i6 (IntKind.i64.wrap (x370 + 1))) rfl (a_nil (b_norm (a_next (σ' := ⟨[(0, (eST_A64u8_i64_Z a0)), (1, (i6 (IntKind.i64.wrap (x370 + 1)))), (5, (i6 x264)), (6, (i6 x371))], []⟩) (by kernel_rfl) ?_)))))))))
            refine a_region (vp (i6 x371) rfl (vp (i6 (IntKind.i64.wrap (x371 + 1))) rfl (vp (i6 (IntKind.i64.wrap (x371 + 1))) rfl (a_nil ?_))))
            cases h
            exact a_again (by kernel_rfl) hX381
          · have h := ite_t hb388 h
            refine a_cond_t rfl (sr (vp (i6 (-1)) rfl (nx _ rfl (a_ret (t_ret (b_ret (t_ret ?_)))))))
            cases h
            have h := hX381
            refine t_ret (b_ret (t_ret ?_))
            cases h
            have h := hk362
            refine b_ret (t_ret ?_)
            cases h
            have h := hX330
            refine t_ret (b_ret (t_ret ?_))
            cases h
            have h := hk199
            refine ⟨.inr rfl, ?_⟩
            rw [Try.results23]
            cases h
            exact ⟨_, _, _, _, _, rfl, trivial, .inl ⟨rfl, .inl rfl⟩, rfl, rfl⟩
def impl_FactorsOf_c : ACode := (.seq (.region 0 [q 3 (.box 24 (t 1)), q 4 (.asg 1 (.const (.slice none 0 0)) 29), q 5 (.asg 0 (.const (.int .i64 0)) 2)] false) (.seq (.seq (.region 1 [q 10 (.mov (t 0)), q 11 (.load 24 (t 3)), q 12 (.call 0 (.func 50) [(t 10), (t 11), (.const (.int .i64 0)), (.const (.int .i64 12))]), q 6 (.asg 0 (t 12) 2)] false) (.seq (.region 2 [q 13 (.mov (t 6)), q 14 (.bin .neq 2 (t 13) (.const (.int .i64 0)))] false) (.cond (t 14) (.seq (.region 3 [q 15 (.mov (t 6)), q 4 (.asg 1 (.const (.slice none 0 0)) 29), q 5 (.asg 0 (t 15) 2)] false) .ret) .skip))) (.seq (.region 4 [q 7 (.asg 2 (.const (.slice none 0 0)) 29)] false) (.seq (.seq (.region 5 [q 16 (.mov (t 0)), q 17 (.load 24 (t 3)), q 18 (.call 0 (.func 52) [(t 17)]), q 19 (.call 0 (.func 54) [(t 16), (t 18)]), q 20 (.blt 0 .len [(t 19)] [68]), q 21 (.mov (.const (.int .i64 0)))] false) (.block 0 (.loop (.seq (.region 6 [q 22 (.bin .lss 3 (t 21) (t 20))] false) (.seq (.cond (t 22) .skip (.exit 0)) (.seq (.block 1 (.seq (.region 7 [q 23 (.indexAddr 68 (t 19) (t 21)), q 24 (.load 71 (t 23)), q 9 (.alloc 71), ⟨none, .store 71 (t 9) (t 24), none, []⟩] false) (.region 8 [q 25 (.mov (t 7)), q 26 (.fieldAddr 71 (t 9) 0), ⟨some 27, .load 65 (t 26), none, [1]⟩, ⟨some 28, .call 0 (.func 55) [(t 27)], none, [2]⟩, q 29 (.fieldAddr 71 (t 9) 1), ⟨some 30, .load 2 (t 29), none, [4]⟩, ⟨some 31, .build 74 [(0, (t 28)), (1, (t 30))], none, [3, 5]⟩, ⟨some 32, .bslice 0 29 1 [(0, (t 31))], none, [6]⟩, ⟨some 33, .blt 0 .append [(t 25), (t 32)] [29, 29], none, [0, 7, 3]⟩, ⟨some 7, .asg 2 (t 33) 29, none, [8, 8, 0, 1, 2, 3, 4, 5, 6, 7, 8]⟩] true))) (.region 9 [q 34 (.bin .add 3 (t 21) (.const (.int .i64 1))), q 21 (.mov (t 34))] false))))))) (.seq (.region 10 [q 35 (.mov (t 7)), q 4 (.asg 1 (t 35) 29), q 5 (.asg 0 (.const (.int .i64 0)) 2)] false) .ret)))))
def impl_FactorsOf_L : Live := [(0, [0, 1]), (1, [0, 3]), (2, [0, 3, 6]), (3, [6]), (4, [0, 3]), (5, [0, 3, 7]), (6, [7, 19, 20, 21]), (7, [7, 19, 20, 21]), (8, [7, 9, 19, 20, 21]), (9, [7, 19, 20, 21]), (10, [7]), (100014, [0, 3, 6, 14]), (100022, [7, 19, 20, 21, 22])]
noncomputable def impl_FactorsOf_l1 (r65 : (List ((List Int) × Int))) (x81 : Int) (x82 : (List ((Vec Int 64) × Int))) : Option ((Int × (List ((Vec Int 64) × Int))) ⊕ (List ((Vec Int 64) × Int))) :=
  (if (decide (x81 < (r65.length : Int))) then (ifp (0 ≤ x81 ∧ x81 < ((r65.length : Nat) : Int)) ((Option.bind (impl_row_poly ((rd r65 x81.toNat).1)) fun r110 => (ifp ((x82.length + ([(r110, (rd r65 x81.toNat).2)] : List ((Vec Int 64) × Int)).length) * 72 ≤ 140737488355328) ((some (.inl ((IntKind.i64.wrap (x81 + 1), (x82 ++ ([(r110, (rd r65 x81.toNat).2)]))))))))))) else (some (.inr x82)))
noncomputable def impl_FactorsOf (a0 : Int) (a1 : (Vec Int 64)) : Option ((List ((Vec Int 64) × Int)) × Int) :=
  (Option.bind (impl_degreeCode a0 a1 0 12) fun r2 => (if (r2 != 0) then (some ([], r2)) else (Option.bind (α := (List ((Vec Int 64) × Int))) ((Option.bind (impl_rowOf a1) fun r63 => (Option.bind (impl_prime_factors a0 r63) fun r65 => (loopM (fun s : (Int × (List ((Vec Int 64) × Int))) => impl_FactorsOf_l1 r65 s.1 s.2) (0, []))))) fun x58 => (some (x58, 0)))))
theorem impl_FactorsOf_ok (a0 : Int) (a1 : (Vec Int 64)) (r : ((List ((Vec Int 64) × Int)) × Int)) (h : impl_FactorsOf a0 a1 = some r) : Den Try.prog 20 [(i6 a0), (eA64u8 a1)] { r := (.tuple [(eST_A64u8_i64_Z r.1), (i6 r.2)]) } := by
  refine den_of (rs := [(eST_A64u8_i64_Z r.1), (i6 r.2)]) (ac := impl_FactorsOf_c) (L := impl_FactorsOf_L) (n := 36) (m := [(4, 1), (7, 2)]) (c := Try.f20.body.getD .skip) good Try.func20 (by kernel_rfl) (by kernel_rfl) Try.ntmps20 rfl rfl (by kernel_rfl) rfl rfl ?_
  refine a_st (σ' := ⟨[(0, (i6 a0)), (1, (eA64u8 a1))], []⟩) (by kernel_rfl) ?_
  unfold impl_FactorsOf_c
  refine sr (vo 1300 (eA64u8 a1) rfl rfl (vp (eST_A64u8_i64_Z ([])) rfl (vp (i6 0) rfl (nx ⟨[(0, (i6 a0)), (3, (ow 3))], [(3, (bk (eA64u8 a1)))]⟩ (by kernel_rfl) (a_seq (sr (vp (i6 a0) rfl (vl (eA64u8 a1) rfl rfl rfl rfl rfl rfl ?_))))))))
  obtain ⟨r2, hr3, h⟩ := bind_some h
  refine a_call (args := [(i6 a0), (eA64u8 a1), (i6 0), (i6 12)]) (u := []) (r := (i6 r2)) rfl rfl (impl_degreeCode_ok a0 a1 0 12 r2 hr3) rfl (vp (i6 r2) rfl (nx ⟨[(0, (i6 a0)), (3, (ow 3)), (6, (i6 r2))], [(3, (bk (eA64u8 a1)))]⟩ (by kernel_rfl) (sr (vp (i6 r2) rfl (vp (.bool (r2 != 0)) rfl (nx ⟨[(0, (i6 a0)), (3, (ow 3)), (6, (i6 r2)), (14, (.bool (r2 != 0)))], [(3, (bk (eA64u8 a1)))]⟩ (by kernel_rfl) ?_))))))
  cases hb4 : (r2 != 0)
  · have h := ite_f hb4 h
    refine a_cond_f rfl (a_skip (a_next (σ' := ⟨[(0, (i6 a0)), (3, (ow 3))], [(3, (bk (eA64u8 a1)))]⟩) (by kernel_rfl) (sr (vu (.osl 1700) [(1700, (bk (.row 65 (([]).map eT_A64u8_i64_Z))))] rfl trivial rfl (nx ⟨[(0, (i6 a0)), (3, (ow 3)), (7, (.osl 7))], [(3, (bk (eA64u8 a1))), (7, (bk (.row 65 (([]).map eT_A64u8_i64_Z))))]⟩ (by kernel_rfl) ?_)))))
    obtain ⟨y59, hy60, hk61⟩ := bind_some h
    clear h
    refine a_join (emb := fun (s : (List ((Vec Int 64) × Int))) => ⟨[(7, (.osl 7))], [(7, (bk (.row 65 (s.map eT_A64u8_i64_Z))))]⟩) (pre := fun s => s = y59) ?_ ?_
    · rintro x58 rfl
      have h := hk61
      refine a_st (σ' := ⟨[(7, (.osl 7))], [(7, (bk (.row 65 (x58.map eT_A64u8_i64_Z))))]⟩) (by kernel_rfl) (sr (vp (.osl 7) rfl (vu (eST_A64u8_i64_Z x58) [(7, (bf (.row 65 (x58.map eT_A64u8_i64_Z))))] rfl trivial rfl (vp (i6 0) rfl (nx _ rfl (a_ret ?_))))))
      refine ⟨.inr rfl, ?_⟩
      rw [Try.results20]
      cases h
      exact ⟨_, _, _, _, _, rfl, trivial, .inl ⟨rfl, .inl rfl⟩, rfl, ⟨_, _, _, _, _, rfl, trivial, .inl ⟨rfl, .inl rfl⟩, rfl, rfl⟩⟩
    · have h := hy60
      refine sr (vp (i6 a0) rfl (vl (eA64u8 a1) rfl rfl rfl rfl rfl rfl ?_))
      obtain ⟨r63, hr64, h⟩ := bind_some h
      refine a_call (args := [(eA64u8 a1)]) (u := []) (r := (eSi64 r63)) rfl rfl (impl_rowOf_ok a1 r63 hr64) rfl ?_
      obtain ⟨r65, hr66, h⟩ := bind_some h
      refine a_call (args := [(i6 a0), (eSi64 r63)]) (u := []) (r := (eST_Si64_i64_Z r65)) rfl rfl (impl_prime_factors_ok a0 r63 r65 hr66) rfl (vq (i6 (r65.length : Int)) (len_run rfl rfl) trivial (vp (i6 0) rfl (nx ⟨[(7, (.osl 7)), (19, (eST_Si64_i64_Z r65)), (20, (i6 (r65.length : Int))), (21, (i6 0))], [(7, (bk (.row 65 (([]).map eT_A64u8_i64_Z))))]⟩ (by kernel_rfl) (a_block ?_))))
      refine a_loop (emb := fun (s : (Int × (List ((Vec Int 64) × Int)))) => ⟨[(7, (.osl 7)), (19, (eST_Si64_i64_Z r65)), (20, (i6 (r65.length : Int))), (21, (i6 s.1))], [(7, (bk (.row 65 (s.2.map eT_A64u8_i64_Z))))]⟩) (body := (fun s : (Int × (List ((Vec Int 64) × Int))) => impl_FactorsOf_l1 r65 s.1 s.2)) (G := fun q => some q = some y59) h rfl ?_ (by kernel_rfl)
      rintro X97 ⟨x81, x82⟩ x98 h hX99
      have h : impl_FactorsOf_l1 r65 x81 x82 = some x98 := h
      refine a_st (σ' := ⟨[(7, (.osl 7)), (19, (eST_Si64_i64_Z r65)), (20, (i6 (r65.length : Int))), (21, (i6 x81))], [(7, (bk (.row 65 (x82.map eT_A64u8_i64_Z))))]⟩) (by kernel_rfl) (sr (vp (.bool ((decide (x81 < (r65.length : Int))))) rfl (nx ⟨[(7, (.osl 7)), (19, (eST_Si64_i64_Z r65)), (20, (i6 (r65.length : Int))), (21, (i6 x81)), (22, (.bool ((decide (x81 < (r65.length : Int))))))], [(7, (bk (.row 65 (x82.map eT_A64u8_i64_Z))))]⟩ (by kernel_rfl) (a_seq ?_))))
      cases hb100 : (decide (x81 < (r65.length : Int)))
      · have h := ite_f hb100 h
        refine a_cond_f rfl (a_exit (t_exit ?_))
        cases h
        have h := hX99
        refine t_exit (b_exit ?_)
        exact j_leaf x82 (Option.some.inj h) (by kernel_rfl)
      · have h := ite_t hb100 h
        refine a_cond_t rfl (a_skip (a_next (σ' := ⟨[(7, (.osl 7)), (19, (eST_Si64_i64_Z r65)), (20, (i6 (r65.length : Int))), (21, (i6 x81))], [(7, (bk (.row 65 (x82.map eT_A64u8_i64_Z))))]⟩) (by kernel_rfl) (a_seq (a_block (sr ?_)))))
        obtain ⟨hc101, h⟩ := ifp_some h
        refine vq (.ref (.row 2 (r65.map eT_Si64_i64_Z)) [x81.toNat] [x81.toNat * 2]) rfl (lmap hc101) ?_
        have hl102 : LdOk [x81.toNat] (.row 2 (r65.map eT_Si64_i64_Z)) [x81.toNat * 2] 2 true (eT_Si64_i64_Z (rd r65 x81.toNat)) := (.row (llt hc101) rfl (.nil rfl rfl rfl))
        refine vq (eT_Si64_i64_Z (rd r65 x81.toNat)) (ld_ref (i := ⟨.struct [(0, 65), (1, 2)], 2, 32, (eT_Si64_i64_Z ([], (0 : Int)))⟩) rfl rfl hl102) hl102.c (vo 1900 (eT_Si64_i64_Z (([], (0 : Int)))) rfl rfl (vs (eT_Si64_i64_Z (rd r65 x81.toNat)) rfl rfl (fun _ => rfl) rfl rfl rfl rfl rfl rfl (nx ⟨[(7, (.osl 7)), (9, (ow 9)), (19, (eST_Si64_i64_Z r65)), (20, (i6 (r65.length : Int))), (21, (i6 x81))], [(7, (bk (.row 65 (x82.map eT_A64u8_i64_Z)))), (9, (bk (eT_Si64_i64_Z (rd r65 x81.toNat))))]⟩ (by kernel_rfl) (a_draw [⟨[], [], [7], []⟩, ⟨[9], [], [9], []⟩, ⟨[9], [], [], [1]⟩, ⟨[], [], [], [1, 2]⟩, ⟨[9], [], [9], []⟩, ⟨[9], [], [], [4]⟩, ⟨[], [], [], [1, 2, 3, 4, 5]⟩, ⟨[], [], [], [1, 2, 3, 4, 5, 6]⟩, ⟨[7, 4300], [7, 4300], [4300], [0, 1, 2, 3, 4, 5, 6, 7]⟩, ⟨[4300], [], [4300], [0, 1, 2, 3, 4, 5, 6, 7, 8]⟩] (by kernel_rfl) (dp (.osl 7) rfl (by kernel_rfl) (d_cons (vb (.own 9 [0] [0]) rfl rfl (d_next (by kernel_rfl) (d_cons ?_)))))))))
        have hl109 : LdOk [0] (eT_Si64_i64_Z (rd r65 x81.toNat)) [0] 1 false (eSi64 ((rd r65 x81.toNat).1)) := (.fld rfl rfl rfl rfl (.nil rfl rfl rfl))
        refine vq (eSi64 ((rd r65 x81.toNat).1)) (ld_own (i := ⟨.slice 2, 1, 24, (eSi64 [])⟩) rfl rfl rfl hl109) hl109.c (d_next (by kernel_rfl) (d_cons ?_))
        obtain ⟨r110, hr111, h⟩ := bind_some h
        refine a_call (args := [(eSi64 ((rd r65 x81.toNat).1))]) (u := []) (r := (eA64u8 r110)) rfl rfl (impl_row_poly_ok ((rd r65 x81.toNat).1) r110 hr111) rfl (d_next (by kernel_rfl) (d_cons (vb (.own 9 [1] [1]) rfl rfl (d_next (by kernel_rfl) (d_cons ?_)))))
        have hl112 : LdOk [1] (eT_Si64_i64_Z (rd r65 x81.toNat)) [1] 1 false (i6 ((rd r65 x81.toNat).2)) := (.fld rfl rfl rfl rfl (.nil rfl rfl rfl))
        refine vq (i6 ((rd r65 x81.toNat).2)) (ld_own (i := ⟨.int .i64, 1, 8, (.int .i64 0)⟩) rfl rfl rfl hl112) hl112.c (d_next (by kernel_rfl) (d_cons (vq (eT_A64u8_i64_Z ((r110, (rd r65 x81.toNat).2))) rfl ⟨rfl, (all_cons ⟨(Nat.le_of_ble_eq_true rfl), rfl⟩ (all_cons ⟨(Nat.le_of_ble_eq_true rfl), rfl⟩ all_nil))⟩ (d_next (by kernel_rfl) (d_cons (vq (.sl 65 true (([(r110, (rd r65 x81.toNat).2)]).map eT_A64u8_i64_Z)) rfl ⟨(Nat.le_of_ble_eq_true rfl), (Nat.le_of_ble_eq_true rfl), (all_cons ⟨(Nat.le_of_ble_eq_true rfl), rfl⟩ all_nil)⟩ (d_next (by kernel_rfl) (d_cons ?_))))))))
        obtain ⟨hc113, h⟩ := ifp_some h
        refine vu (.osl 4300) [(4300, (bk (.row 65 (((x82 ++ ([(r110, (rd r65 x81.toNat).2)]))).map eT_A64u8_i64_Z)))), (7, none)] (app_run (i := ⟨.struct [(0, 24), (64, 2)], 65, 72, (eT_A64u8_i64_Z ((vrep 64 (0 : Int)), (0 : Int)))⟩) (f := eT_A64u8_i64_Z) (l := x82) (l2 := [(r110, (rd r65 x81.toNat).2)]) rfl rfl rfl rfl (fun _ => rfl) rfl rfl) (app_c (f := eT_A64u8_i64_Z) (s := 65) (sz := 65) (by' := 72) (u := []) (id := 7) hc113 (.inr rfl) rfl rfl rfl) rfl (d_next (by kernel_rfl) (dp (.osl 4300) rfl (by kernel_rfl) (d_nil (b_norm (a_next (σ' := ⟨[(7, (.osl 7)), (19, (eST_Si64_i64_Z r65)), (20, (i6 (r65.length : Int))), (21, (i6 x81))], [(7, (bk (.row 65 (((x82 ++ ([(r110, (rd r65 x81.toNat).2)]))).map eT_A64u8_i64_Z))))]⟩) (by kernel_rfl) (a_region (vp (i6 (IntKind.i64.wrap (x81 + 1))) rfl (vp (i6 (IntKind.i64.wrap (x81 + 1))) rfl (a_nil ?_)))))))))
        cases h
        exact a_again (by kernel_rfl) hX99
  · have h := ite_t hb4 h
    refine a_cond_t rfl (sr (vp (i6 r2) rfl (vp (eST_A64u8_i64_Z ([])) rfl (vp (i6 r2) rfl (nx _ rfl (a_ret (t_ret ?_)))))))
    refine ⟨.inr rfl, ?_⟩
    rw [Try.results20]
    cases h
    exact ⟨_, _, _, _, _, rfl, trivial, .inl ⟨rfl, .inl rfl⟩, rfl, ⟨_, _, _, _, _, rfl, trivial, .inl ⟨rfl, .inl rfl⟩, rfl, rfl⟩⟩
def laws_FnExactFactorsOf_c : ACode := (.seq (.region 0 [q 3 (.box 22 (t 1)), q 4 (.asg 0 (.const (.bool false)) 4)] false) (.seq (.region 1 [q 14 (.mov (t 0)), q 15 (.load 22 (t 3)), q 16 (.call 0 (.func 15) [(t 15)]), q 17 (.call 0 (.func 19) [(t 14), (t 16)]), q 13 (.mov (t 17)), q 18 (.extract (t 13) 0), q 19 (.extract (t 13) 1), q 5 (.asg 1 (t 18) 29), q 6 (.asg 0 (t 19) 2)] false) (.seq (.region 2 [q 21 (.mov (t 0)), q 22 (.load 22 (t 3)), q 23 (.call 0 (.func 15) [(t 22)]), q 24 (.call 0 (.func 20) [(t 21), (t 23)]), q 20 (.mov (t 24)), q 25 (.extract (t 20) 0), q 26 (.extract (t 20) 1), q 7 (.asg 2 (t 25) 29), q 8 (.asg 0 (t 26) 2)] false) (.seq (.seq (.region 3 [q 27 (.mov (t 7)), q 28 (.mov (t 5)), q 29 (.call 0 (.func 21) [(t 27), (t 28)]), q 30 (.un .not (t 29)), q 31 (.mov (t 30)), ⟨some 32, .mov (t 8), some (31, false), []⟩, ⟨some 33, .mov (t 6), some (31, false), []⟩, ⟨some 34, .bin .neq 2 (t 32) (t 33), some (31, false), []⟩, q 35 (.pick (t 31) (.const (.bool true)) (t 34))] false) (.cond (t 35) (.seq (.region 4 [q 4 (.asg 0 (.const (.bool false)) 4)] false) .ret) .skip)) (.seq (.region 5 [q 9 (.asg 0 (.const (.int .i64 1)) 3)] false) (.seq (.region 6 [q 36 (.mov (t 7)), q 37 (.mov (t 9)), q 38 (.call 1 (.func 22) [(t 36), (t 37)]), q 9 (.asg 0 (t 38) 3)] false) (.seq (.region 7 [q 10 (.asg 0 (.const (.int .i64 1)) 3)] false) (.seq (.region 8 [q 39 (.mov (t 7)), q 40 (.mov (t 10)), q 41 (.call 0 (.func 23) [(t 39), (t 40)]), q 10 (.asg 0 (t 41) 3)] false) (.seq (.seq (.region 9 [q 42 (.mov (t 10)), q 43 (.bin .lss 3 (t 42) (.const (.int .i64 0)))] false) (.cond (t 43) (.seq (.region 10 [q 4 (.asg 0 (.const (.bool false)) 4)] false) .ret) .skip)) (.seq (.seq (.region 11 [q 44 (.mov (t 10)), q 45 (.mov (t 9)), q 46 (.bin .neq 3 (t 44) (t 45))] false) (.cond (t 46) (.seq (.region 12 [q 4 (.asg 0 (.const (.bool false)) 4)] false) .ret) .skip)) (.seq (.region 13 [q 48 (.mov (t 0)), q 49 (.load 22 (t 3)), q 50 (.call 0 (.func 15) [(t 49)]), q 51 (.call 0 (.func 20) [(t 48), (t 50)]), q 47 (.mov (t 51)), q 52 (.extract (t 47) 0), q 53 (.extract (t 47) 1), q 11 (.asg 1 (t 52) 29), q 12 (.asg 0 (t 53) 2)] false) (.seq (.seq (.region 14 [q 54 (.mov (t 11)), q 55 (.mov (t 5)), q 56 (.call 0 (.func 21) [(t 54), (t 55)]), q 57 (.un .not (t 56)), q 58 (.mov (t 57)), ⟨some 59, .mov (t 12), some (58, false), []⟩, ⟨some 60, .mov (t 6), some (58, false), []⟩, ⟨some 61, .bin .neq 2 (t 59) (t 60), some (58, false), []⟩, q 62 (.pick (t 58) (.const (.bool true)) (t 61))] false) (.cond (t 62) (.seq (.region 15 [q 4 (.asg 0 (.const (.bool false)) 4)] false) .ret) .skip)) (.seq (.region 16 [q 10 (.asg 0 (.const (.int .i64 1)) 3)] false) (.seq (.region 17 [q 63 (.mov (t 7)), q 64 (.mov (t 10)), q 65 (.call 0 (.func 23) [(t 63), (t 64)]), q 10 (.asg 0 (t 65) 3)] false) (.seq (.seq (.region 18 [q 66 (.mov (t 10)), q 67 (.bin .lss 3 (t 66) (.const (.int .i64 0)))] false) (.cond (t 67) (.seq (.region 19 [q 4 (.asg 0 (.const (.bool false)) 4)] false) .ret) .skip)) (.seq (.seq (.region 20 [q 68 (.mov (t 10)), q 69 (.mov (t 9)), q 70 (.bin .neq 3 (t 68) (t 69))] false) (.cond (t 70) (.seq (.region 21 [q 4 (.asg 0 (.const (.bool false)) 4)] false) .ret) .skip)) (.seq (.region 22 [q 4 (.asg 0 (.const (.bool true)) 4)] false) .ret)))))))))))))))))
def laws_FnExactFactorsOf_L : Live := [(0, [0, 1]), (1, [0, 3]), (2, [0, 3, 5, 6]), (3, [0, 3, 5, 6, 7, 8]), (4, []), (5, [0, 3, 5, 6, 7]), (6, [0, 3, 5, 6, 7, 9]), (7, [0, 3, 5, 6, 7, 9]), (8, [0, 3, 5, 6, 7, 9, 10]), (9, [0, 3, 5, 6, 7, 9, 10]), (10, []), (11, [0, 3, 5, 6, 7, 9, 10]), (12, []), (13, [0, 3, 5, 6, 7, 9]), (14, [5, 6, 7, 9, 11, 12]), (15, []), (16, [7, 9]), (17, [7, 9, 10]), (18, [9, 10]), (19, []), (20, [9, 10]), (21, []), (22, []), (100035, [0, 3, 5, 6, 7, 35]), (100043, [0, 3, 5, 6, 7, 9, 10, 43]), (100046, [0, 3, 5, 6, 7, 9, 46]), (100062, [7, 9, 62]), (100067, [9, 10, 67]), (100070, [70])]
noncomputable def laws_FnExactFactorsOf (a0 : Int) (a1 : (Vec Int 64)) : Option Bool :=
  (Option.bind (laws_toPoly a1) fun r2 => (Option.bind (spec_FactorsOf a0 r2) fun r4 => (Option.bind (laws_toPoly a1) fun r7 => (Option.bind (impl_FactorsOf_fresh a0 r7) fun r9 => (Option.bind (α := Bool) ((Option.bind (laws_eqFactorS r9.1 r4.1) fun r18 => (if (!r18) then (some true) else (some (r9.2 != r4.2))))) fun x14 => (if x14 then (some false) else (Option.bind (laws_markFactorS_of_mut r9.1 1) fun r22 => (ifp (r22.2.length = r9.1.length) ((Option.bind (laws_heldFactorS r22.2 1) fun r25 => (if (decide (r25 < 0)) then (some false) else (if (r25 != r22.1) then (some false) else (Option.bind (laws_toPoly a1) fun r30 => (Option.bind (impl_FactorsOf a0 r30) fun r32 => (Option.bind (α := Bool) ((Option.bind (laws_eqFactorS r32.1 r4.1) fun r41 => (if (!r41) then (some true) else (some (r32.2 != r4.2))))) fun x37 => (if x37 then (some false) else (Option.bind (laws_heldFactorS r22.2 1) fun r45 => (if (decide (r45 < 0)) then (some false) else (if (r45 != r22.1) then (some false) else (some true))))))))))))))))))))
theorem laws_FnExactFactorsOf_ok (a0 : Int) (a1 : (Vec Int 64)) (r : Bool) (h : laws_FnExactFactorsOf a0 a1 = some r) : Den Try.prog 5 [(i6 a0), (eA64u8 a1)] { r := (.bool r) } := by
  refine den_of (rs := [(.bool r)]) (ac := laws_FnExactFactorsOf_c) (L := laws_FnExactFactorsOf_L) (n := 71) (m := [(5, 1), (7, 2), (11, 1), (38, 1)]) (c := Try.f5.body.getD .skip) good Try.func5 (by kernel_rfl) (by kernel_rfl) Try.ntmps5 rfl rfl (by kernel_rfl) rfl rfl ?_
  refine a_st (σ' := ⟨[(0, (i6 a0)), (1, (eA64u8 a1))], []⟩) (by kernel_rfl) ?_
  unfold laws_FnExactFactorsOf_c
  refine sr (vo 1300 (eA64u8 a1) rfl rfl (vp (.bool false) rfl (nx ⟨[(0, (i6 a0)), (3, (ow 3))], [(3, (bk (eA64u8 a1)))]⟩ (by kernel_rfl) (sr (vp (i6 a0) rfl (vl (eA64u8 a1) rfl rfl rfl rfl rfl rfl ?_))))))
  obtain ⟨r2, hr3, h⟩ := bind_some h
  refine a_call (args := [(eA64u8 a1)]) (u := []) (r := (eA64u8 r2)) rfl rfl (laws_toPoly_ok a1 r2 hr3) rfl ?_
  obtain ⟨r4, hr5, h⟩ := bind_some h
  refine a_call (args := [(i6 a0), (eA64u8 r2)]) (u := []) (r := (.tuple [(eST_A64u8_i64_Z r4.1), (i6 r4.2)])) rfl rfl (spec_FactorsOf_ok a0 r2 r4 hr5) rfl (vp (.tuple [(eST_A64u8_i64_Z r4.1), (i6 r4.2)]) rfl (vb (eST_A64u8_i64_Z r4.1) rfl rfl (vb (i6 r4.2) rfl rfl (vp (eST_A64u8_i64_Z r4.1) rfl (vp (i6 r4.2) rfl (nx ⟨[(0, (i6 a0)), (3, (ow 3)), (5, (eST_A64u8_i64_Z r4.1)), (6, (i6 r4.2))], [(3, (bk (eA64u8 a1)))]⟩ (by kernel_rfl) (sr (vp (i6 a0) rfl (vl (eA64u8 a1) rfl rfl rfl rfl rfl rfl ?_)))))))))
  obtain ⟨r7, hr8, h⟩ := bind_some h
  refine a_call (args := [(eA64u8 a1)]) (u := []) (r := (eA64u8 r7)) rfl rfl (laws_toPoly_ok a1 r7 hr8) rfl ?_
  obtain ⟨r9, hr10, h⟩ := bind_some h
  refine a_callF (args := [(i6 a0), (eA64u8 r7)]) (u := []) (u2 := []) (r := (.tuple [(.osl 2000000), (i6 r9.2)])) (fs := [(65, r9.1.map eT_A64u8_i64_Z)]) rfl rfl (impl_FactorsOf_fresh_ok a0 r7 r9 hr10) rfl rfl rfl (.inl rfl) rfl (vp (.tuple [(.osl 3400), (i6 r9.2)]) rfl (vb (.osl 3400) rfl rfl (vb (i6 r9.2) rfl rfl (vp (.osl 3400) rfl (vp (i6 r9.2) rfl (nx ⟨[(0, (i6 a0)), (3, (ow 3)), (5, (eST_A64u8_i64_Z r4.1)), (6, (i6 r4.2)), (7, (.osl 7)), (8, (i6 r9.2))], [(3, (bk (eA64u8 a1))), (7, (bk (.row 65 (r9.1.map eT_A64u8_i64_Z))))]⟩ (by kernel_rfl) (a_seq ?_)))))))
  obtain ⟨y15, hy16, hk17⟩ := bind_some h
  clear h
  refine a_join (emb := fun (s : Bool) => ⟨[(0, (i6 a0)), (3, (ow 3)), (5, (eST_A64u8_i64_Z r4.1)), (6, (i6 r4.2)), (7, (.osl 7)), (35, (.bool s))], [(3, (bk (eA64u8 a1))), (7, (bk (.row 65 (r9.1.map eT_A64u8_i64_Z))))]⟩) (pre := fun s => s = y15) ?_ ?_
  · rintro x14 rfl
    have h := hk17
    refine a_st (σ' := ⟨[(0, (i6 a0)), (3, (ow 3)), (5, (eST_A64u8_i64_Z r4.1)), (6, (i6 r4.2)), (7, (.osl 7)), (35, (.bool x14))], [(3, (bk (eA64u8 a1))), (7, (bk (.row 65 (r9.1.map eT_A64u8_i64_Z))))]⟩) (by kernel_rfl) ?_
    cases hb21 : x14
    · have h := ite_f hb21 h
      refine a_cond_f rfl (a_skip (a_next (σ' := ⟨[(0, (i6 a0)), (3, (ow 3)), (5, (eST_A64u8_i64_Z r4.1)), (6, (i6 r4.2)), (7, (.osl 7))], [(3, (bk (eA64u8 a1))), (7, (bk (.row 65 (r9.1.map eT_A64u8_i64_Z))))]⟩) (by kernel_rfl) (sr (vp (i6 1) rfl (nx ⟨[(0, (i6 a0)), (3, (ow 3)), (5, (eST_A64u8_i64_Z r4.1)), (6, (i6 r4.2)), (7, (.osl 7)), (9, (i6 1))], [(3, (bk (eA64u8 a1))), (7, (bk (.row 65 (r9.1.map eT_A64u8_i64_Z))))]⟩ (by kernel_rfl) (sr (vp (.osl 7) rfl (vp (i6 1) rfl ?_))))))))
      obtain ⟨r22, hr23, h⟩ := bind_some h
      obtain ⟨hl24, h⟩ := ifp_some h
      refine a_callM (args := [(.mutsl 65 (r9.1.map eT_A64u8_i64_Z)), (i6 1)]) (i := 0) (id := 7) (r := (i6 r22.1)) (c := (.row 65 (r22.2.map eT_A64u8_i64_Z))) rfl rfl (laws_markFactorS_of_mut_ok r9.1 1 r22 hr23) rfl (shape_map hl24) (vp (i6 r22.1) rfl (nx ⟨[(0, (i6 a0)), (3, (ow 3)), (5, (eST_A64u8_i64_Z r4.1)), (6, (i6 r4.2)), (7, (.osl 7)), (9, (i6 r22.1))], [(3, (bk (eA64u8 a1))), (7, (bk (.row 65 (r22.2.map eT_A64u8_i64_Z))))]⟩ (by kernel_rfl) (sr (vp (i6 1) rfl (nx ⟨[(0, (i6 a0)), (3, (ow 3)), (5, (eST_A64u8_i64_Z r4.1)), (6, (i6 r4.2)), (7, (.osl 7)), (9, (i6 r22.1)), (10, (i6 1))], [(3, (bk (eA64u8 a1))), (7, (bk (.row 65 (r22.2.map eT_A64u8_i64_Z))))]⟩ (by kernel_rfl) (sr (vp (.osl 7) rfl (vp (i6 1) rfl ?_))))))))
      obtain ⟨r25, hr26, h⟩ := bind_some h
      refine a_callB (args := [(eST_A64u8_i64_Z r22.2), (i6 1)]) (u := [(7, (bf (.row 65 (r22.2.map eT_A64u8_i64_Z))))]) (r := (i6 r25)) rfl rfl (laws_heldFactorS_ok r22.2 1 r25 hr26) rfl trivial (vp (i6 r25) rfl (nx ⟨[(0, (i6 a0)), (3, (ow 3)), (5, (eST_A64u8_i64_Z r4.1)), (6, (i6 r4.2)), (7, (.osl 7)), (9, (i6 r22.1)), (10, (i6 r25))], [(3, (bk (eA64u8 a1))), (7, (bk (.row 65 (r22.2.map eT_A64u8_i64_Z))))]⟩ (by kernel_rfl) (a_seq (sr (vp (i6 r25) rfl (vp (.bool ((decide (r25 < 0)))) rfl (nx ⟨[(0, (i6 a0)), (3, (ow 3)), (5, (eST_A64u8_i64_Z r4.1)), (6, (i6 r4.2)), (7, (.osl 7)), (9, (i6 r22.1)), (10, (i6 r25)), (43, (.bool ((decide (r25 < 0)))))], [(3, (bk (eA64u8 a1))), (7, (bk (.row 65 (r22.2.map eT_A64u8_i64_Z))))]⟩ (by kernel_rfl) ?_)))))))
      cases hb27 : (decide (r25 < 0))
      · have h := ite_f hb27 h
        refine a_cond_f rfl (a_skip (a_next (σ' := ⟨[(0, (i6 a0)), (3, (ow 3)), (5, (eST_A64u8_i64_Z r4.1)), (6, (i6 r4.2)), (7, (.osl 7)), (9, (i6 r22.1)), (10, (i6 r25))], [(3, (bk (eA64u8 a1))), (7, (bk (.row 65 (r22.2.map eT_A64u8_i64_Z))))]⟩) (by kernel_rfl) (a_seq (sr (vp (i6 r25) rfl (vp (i6 r22.1) rfl (vp (.bool (r25 != r22.1)) rfl (nx ⟨[(0, (i6 a0)), (3, (ow 3)), (5, (eST_A64u8_i64_Z r4.1)), (6, (i6 r4.2)), (7, (.osl 7)), (9, (i6 r22.1)), (46, (.bool (r25 != r22.1)))], [(3, (bk (eA64u8 a1))), (7, (bk (.row 65 (r22.2.map eT_A64u8_i64_Z))))]⟩ (by kernel_rfl) ?_))))))))
        cases hb28 : (r25 != r22.1)
        · have h := ite_f hb28 h
          refine a_cond_f rfl (a_skip (a_next (σ' := ⟨[(0, (i6 a0)), (3, (ow 3)), (5, (eST_A64u8_i64_Z r4.1)), (6, (i6 r4.2)), (7, (.osl 7)), (9, (i6 r22.1))], [(3, (bk (eA64u8 a1))), (7, (bk (.row 65 (r22.2.map eT_A64u8_i64_Z))))]⟩) (by kernel_rfl) (sr (vp (i6 a0) rfl (vl (eA64u8 a1) rfl rfl rfl rfl rfl rfl ?_)))))
          obtain ⟨r30, hr31, h⟩ := bind_some h
          refine a_call (args := [(eA64u8 a1)]) (u := []) (r := (eA64u8 r30)) rfl rfl (laws_toPoly_ok a1 r30 hr31) rfl ?_
          obtain ⟨r32, hr33, h⟩ := bind_some h
          refine a_call (args := [(i6 a0), (eA64u8 r30)]) (u := []) (r := (.tuple [(eST_A64u8_i64_Z r32.1), (i6 r32.2)])) rfl rfl (impl_FactorsOf_ok a0 r30 r32 hr33) rfl (vp (.tuple [(eST_A64u8_i64_Z r32.1), (i6 r32.2)]) rfl (vb (eST_A64u8_i64_Z r32.1) rfl rfl (vb (i6 r32.2) rfl rfl (vp (eST_A64u8_i64_Z r32.1) rfl (vp (i6 r32.2) rfl (nx ⟨[(5, (eST_A64u8_i64_Z r4.1)), (6, (i6 r4.2)), (7, (.osl 7)), (9, (i6 r22.1)), (11, (eST_A64u8_i64_Z r32.1)), (12, (i6 r32.2))], [(7, (bk (.row 65 (r22.2.map eT_A64u8_i64_Z))))]⟩ (by kernel_rfl) (a_seq ?_)))))))
          obtain ⟨y38, hy39, hk40⟩ := bind_some h
          clear h
          refine a_join (emb := fun (s : Bool) => ⟨[(7, (.osl 7)), (9, (i6 r22.1)), (62, (.bool s))], [(7, (bk (.row 65 (r22.2.map eT_A64u8_i64_Z))))]⟩) (pre := fun s => s = y38) ?_ ?_
          · rintro x37 rfl
            have h := hk40
            refine a_st (σ' := ⟨[(7, (.osl 7)), (9, (i6 r22.1)), (62, (.bool x37))], [(7, (bk (.row 65 (r22.2.map eT_A64u8_i64_Z))))]⟩) (by kernel_rfl) ?_
            cases hb44 : x37
            · have h := ite_f hb44 h
              refine a_cond_f rfl (a_skip (a_next (σ' := ⟨[(7, (.osl 7)), (9, (i6 r22.1))], [(7, (bk (.row 65 (r22.2.map eT_A64u8_i64_Z))))]⟩) (by kernel_rfl) (sr (vp (i6 1) rfl (nx ⟨[(7, (.osl 7)), (9, (i6 r22.1)), (10, (i6 1))], [(7, (bk (.row 65 (r22.2.map eT_A64u8_i64_Z))))]⟩ (by kernel_rfl) (sr (vp (.osl 7) rfl (vp (i6 1) rfl ?_))))))))
              obtain ⟨r45, hr46, h⟩ := bind_some h
              refine a_callB (args := [(eST_A64u8_i64_Z r22.2), (i6 1)]) (u := [(7, (bf (.row 65 (r22.2.map eT_A64u8_i64_Z))))]) (r := (i6 r45)) rfl rfl (laws_heldFactorS_ok r22.2 1 r45 hr46) rfl trivial (vp (i6 r45) rfl (nx ⟨[(9, (i6 r22.1)), (10, (i6 r45))], []⟩ (by kernel_rfl) (a_seq (sr (vp (i6 r45) rfl (vp (.bool ((decide (r45 < 0)))) rfl (nx ⟨[(9, (i6 r22.1)), (10, (i6 r45)), (67, (.bool ((decide (r45 < 0)))))], []⟩ (by kernel_rfl) ?_)))))))
              cases hb47 : (decide (r45 < 0))
              · have h := ite_f hb47 h
                refine a_cond_f rfl (a_skip (a_next (σ' := ⟨[(9, (i6 r22.1)), (10, (i6 r45))], []⟩) (by kernel_rfl) (a_seq (sr (vp (i6 r45) rfl (vp (i6 r22.1) rfl (vp (.bool (r45 != r22.1)) rfl (nx ⟨[(70, (.bool (r45 != r22.1)))], []⟩ (by kernel_rfl) ?_))))))))
                cases hb48 : (r45 != r22.1)
                · have h := ite_f hb48 h
                  refine a_cond_f rfl (a_skip (a_next (σ' := ⟨[], []⟩) (by kernel_rfl) (sr (vp (.bool true) rfl (nx _ rfl (a_ret ?_))))))
                  refine ⟨.inr rfl, ?_⟩
                  rw [Try.results5]
                  cases h
                  exact ⟨_, _, _, _, _, rfl, trivial, .inl ⟨rfl, .inl rfl⟩, rfl, rfl⟩
                · have h := ite_t hb48 h
                  refine a_cond_t rfl (sr (vp (.bool false) rfl (nx _ rfl (a_ret (t_ret ?_)))))
                  refine ⟨.inr rfl, ?_⟩
                  rw [Try.results5]
                  cases h
                  exact ⟨_, _, _, _, _, rfl, trivial, .inl ⟨rfl, .inl rfl⟩, rfl, rfl⟩
              · have h := ite_t hb47 h
                refine a_cond_t rfl (sr (vp (.bool false) rfl (nx _ rfl (a_ret (t_ret ?_)))))
                refine ⟨.inr rfl, ?_⟩
                rw [Try.results5]
                cases h
                exact ⟨_, _, _, _, _, rfl, trivial, .inl ⟨rfl, .inl rfl⟩, rfl, rfl⟩
            · have h := ite_t hb44 h
              refine a_cond_t rfl (sr (vp (.bool false) rfl (nx _ rfl (a_ret (t_ret ?_)))))
              refine ⟨.inr rfl, ?_⟩
              rw [Try.results5]
              cases h
              exact ⟨_, _, _, _, _, rfl, trivial, .inl ⟨rfl, .inl rfl⟩, rfl, rfl⟩
          · have h := hy39
            refine a_region (vp (eST_A64u8_i64_Z r32.1) rfl (vp (eST_A64u8_i64_Z r4.1) rfl ?_))
            obtain ⟨r41, hr42, h⟩ := bind_some h
            refine a_call (args := [(eST_A64u8_i64_Z r32.1), (eST_A64u8_i64_Z r4.1)]) (u := []) (r := (.bool r41)) rfl rfl (laws_eqFactorS_ok r32.1 r4.1 r41 hr42) rfl (vp (.bool (!r41)) rfl (vp (.bool (!r41)) rfl ?_))
            cases hb43 : (!r41)
            · have h := ite_f hb43 h
              refine gp (i6 r32.2) rfl rfl (gp (i6 r4.2) rfl rfl (gp (.bool (r32.2 != r4.2)) rfl rfl (vp (.bool (r32.2 != r4.2)) rfl (a_nil ?_))))
              exact j_leaf (r32.2 != r4.2) (Option.some.inj h) (by kernel_rfl)
            · have h := ite_t hb43 h
              refine a_gskip rfl (a_gskip rfl (a_gskip rfl (vp (.bool true) rfl (a_nil ?_))))
              exact j_leaf true (Option.some.inj h) (by kernel_rfl)
        · have h := ite_t hb28 h
          refine a_cond_t rfl (sr (vp (.bool false) rfl (nx _ rfl (a_ret (t_ret ?_)))))
          refine ⟨.inr rfl, ?_⟩
          rw [Try.results5]
          cases h
          exact ⟨_, _, _, _, _, rfl, trivial, .inl ⟨rfl, .inl rfl⟩, rfl, rfl⟩
      · have h := ite_t hb27 h
        refine a_cond_t rfl (sr (vp (.bool false) rfl (nx _ rfl (a_ret (t_ret ?_)))))
        refine ⟨.inr rfl, ?_⟩
        rw [Try.results5]
        cases h
        exact ⟨_, _, _, _, _, rfl, trivial, .inl ⟨rfl, .inl rfl⟩, rfl, rfl⟩
    · have h := ite_t hb21 h
      refine a_cond_t rfl (sr (vp (.bool false) rfl (nx _ rfl (a_ret (t_ret ?_)))))
      refine ⟨.inr rfl, ?_⟩
      rw [Try.results5]
      cases h
      exact ⟨_, _, _, _, _, rfl, trivial, .inl ⟨rfl, .inl rfl⟩, rfl, rfl⟩
  · have h := hy16
    refine a_region (vp (.osl 7) rfl (vp (eST_A64u8_i64_Z r4.1) rfl ?_))
    obtain ⟨r18, hr19, h⟩ := bind_some h
    refine a_callB (args := [(eST_A64u8_i64_Z r9.1), (eST_A64u8_i64_Z r4.1)]) (u := [(7, (bf (.row 65 (r9.1.map eT_A64u8_i64_Z))))]) (r := (.bool r18)) rfl rfl (laws_eqFactorS_ok r9.1 r4.1 r18 hr19) rfl trivial (vp (.bool (!r18)) rfl (vp (.bool (!r18)) rfl ?_))
    cases hb20 : (!r18)
    · have h := ite_f hb20 h
      refine gp (i6 r9.2) rfl rfl (gp (i6 r4.2) rfl rfl (gp (.bool (r9.2 != r4.2)) rfl rfl (vp (.bool (r9.2 != r4.2)) rfl (a_nil ?_))))
      exact j_leaf (r9.2 != r4.2) (Option.some.inj h) (by kernel_rfl)
    · have h := ite_t hb20 h
      refine a_gskip rfl (a_gskip rfl (a_gskip rfl (vp (.bool true) rfl (a_nil ?_))))
      exact j_leaf true (Option.some.inj h) (by kernel_rfl)
def spec_l01One_c : ACode := (.seq (.region 0 [q 0 (.alloc 24)] false) (.seq (.region 1 [q 1 (.build 24 [(0, (.const (.int .u8 1)))]), ⟨none, .store 24 (t 0) (t 1), none, []⟩] false) .ret))
def spec_l01One_L : Live := [(0, []), (1, [0])]
noncomputable def spec_l01One  : Option (Vec Int 64) :=
  (some ((vset (vrep 64 (0 : Int)) 0 1)))
theorem spec_l01One_ok  (r : (Vec Int 64)) (h : spec_l01One = some r) : Den Try.prog 123 [] { r := (eA64u8 r) } := by
  refine den_of (rs := [(eA64u8 r)]) (ac := spec_l01One_c) (L := spec_l01One_L) (n := 2) (m := []) (c := Try.f123.body.getD .skip) good Try.func123 (by kernel_rfl) (by kernel_rfl) Try.ntmps123 rfl rfl (by kernel_rfl) rfl rfl ?_
  refine a_st (σ' := ⟨[], []⟩) (by kernel_rfl) ?_
  unfold spec_l01One_c
  refine sr (vo 1000 (eA64u8 ((vrep 64 (0 : Int)))) rfl rfl (nx ⟨[(0, (ow 0))], [(0, (bk (eA64u8 ((vrep 64 (0 : Int))))))]⟩ (by kernel_rfl) (sr (vq (eA64u8 ((vset (vrep 64 (0 : Int)) 0 1))) rfl ⟨⟨_, rfl, rfl⟩, (all_cons ⟨(Nat.le_of_ble_eq_true rfl), rfl⟩ all_nil)⟩ (vs (eA64u8 ((vset (vrep 64 (0 : Int)) 0 1))) rfl rfl (fun _ => rfl) rfl rfl rfl rfl rfl rfl (nx _ rfl (a_ret ?_)))))))
  have hl2 : LdOk [] (eA64u8 ((vset (vrep 64 (0 : Int)) 0 1))) [] 64 true (eA64u8 ((vset (vrep 64 (0 : Int)) 0 1))) := (.nil rfl rfl rfl)
  refine ⟨.inr rfl, ?_⟩
  rw [Try.results123]
  cases h
  exact ⟨_, _, _, _, _, ld_own (i := ⟨.arr 64 5, 64, 64, (eA64u8 (vrep 64 (0 : Int)))⟩) rfl rfl rfl hl2, hl2.c, .inl ⟨rfl, .inl rfl⟩, rfl, rfl⟩
end Go.Proofs.Ytcgohoclbjgmkaa
