/- Functions of the program: plain Lean functions, and that the program computes them. Printed by gen.py. -/
import Derived.Test.YtebfhlnfmkhmcaaFnT
import Derived.Test.YtebfhlnfmkhmcaaFn1
import Derived.Test.YtebfhlnfmkhmcaaFn2
import Derived.Test.YtebfhlnfmkhmcaaFn3
import Derived.Test.YtebfhlnfmkhmcaaFn4
import Derived.Test.YtebfhlnfmkhmcaaFnH
namespace Go.Proofs.Ytebfhlnfmkhmcaa
open Go.Abs Go.Proofs
set_option linter.unusedSimpArgs false
set_option linter.unusedVariables false
set_option maxHeartbeats 16000000
attribute [local irreducible] Abs.acode Abs.aops Abs.aopsT Abs.thenK Abs.blockK

def impl_prime_relation_of_impl_prime_annihilator_c1_c : ACode := (.seq (.region 0 [q 4 (.asg 1 (.const (.slice none 0 0)) 42)] false) (.seq (.region 1 [q 5 (.asg 2 (.const (.slice none 0 0)) 71), q 6 (.asg 2 (.const (.slice none 0 0)) 71)] false) (.seq (.region 2 [q 7 (.asg 0 (.const (.int .i64 0)) 3)] false) (.block 0 (.loop (.seq (.block 1 (.seq (.region 4 [q 16 (.mov (t 1)), q 17 (.call 0 (t 16) []), q 8 (.alloc 42), ⟨none, .store 42 (t 8) (t 17), none, []⟩] false) (.seq (.region 5 [q 18 (.mov (t 7)), q 19 (.bin .add 3 (t 18) (.const (.int .i64 1))), q 20 (.mkslice 42 (t 19) (t 19)), q 9 (.asg 2 (t 20) 42)] false) (.seq (.region 6 [q 21 (.mov (t 9)), q 22 (.mov (t 7)), q 23 (.indexAddr 42 (t 21) (t 22)), ⟨none, .store 2 (t 23) (.const (.int .i64 1)), none, []⟩] false) (.seq (.seq (.region 7 [q 24 (.mov (t 5)), q 25 (.blt 0 .len [(t 24)] [71]), q 26 (.mov (.const (.int .i64 0)))] false) (.block 2 (.loop (.seq (.region 8 [q 27 (.bin .lss 3 (t 26) (t 25))] false) (.seq (.cond (t 27) .skip (.exit 2)) (.seq (.block 3 (.seq (.region 9 [q 28 (.mov (t 26)), q 29 (.indexAddr 71 (t 24) (t 26)), q 30 (.load 42 (t 29)), q 10 (.asg 0 (t 28) 3), q 11 (.asg 1 (t 30) 42)] false) (.seq (.region 10 [q 31 (.load 42 (t 8)), q 32 (.mov (t 11)), q 33 (.blt 0 .len [(t 32)] [42]), q 34 (.bin .sub 3 (t 33) (.const (.int .i64 1))), q 35 (.call 0 (.func 100) [(t 31), (t 34)]), q 36 (.un .neg (t 35)), q 37 (.mov (t 0)), q 38 (.mov (t 11)), q 39 (.call 0 (.func 89) [(t 38)]), q 40 (.call 0 (.func 98) [(t 37), (t 39)]), q 41 (.bin .mul 2 (t 36) (t 40)), q 12 (.asg 0 (t 41) 2)] false) (.region 11 [q 42 (.mov (t 0)), q 43 (.load 42 (t 8)), q 44 (.mov (t 11)), q 45 (.mov (t 12)), ⟨some 46, .call 0 (.func 90) [(t 42), (t 43), (t 44), (t 45)], none, [0, 1, 2, 3]⟩, q 47 (.mov (t 0)), q 48 (.mov (t 9)), q 49 (.mov (t 6)), q 50 (.mov (t 10)), ⟨some 51, .indexAddr 71 (t 49) (t 50), none, [7, 8]⟩, ⟨some 52, .load 42 (t 51), none, [9]⟩, q 53 (.mov (t 12)), ⟨some 54, .call 0 (.func 90) [(t 47), (t 48), (t 52), (t 53)], none, [5, 6, 10, 11, 4]⟩, ⟨none, .store 42 (t 8) (t 46), none, [4, 12, 0, 1, 2, 3, 4]⟩, ⟨some 9, .asg 2 (t 54) 42, none, [12, 13, 0, 1, 2, 3, 4, 5, 6, 7, 8, 9, 10, 11, 12, 13]⟩] true)))) (.region 12 [q 55 (.bin .add 3 (t 26) (.const (.int .i64 1))), q 26 (.mov (t 55))] false))))))) (.seq (.seq (.region 13 [q 56 (.load 42 (t 8)), q 57 (.blt 0 .len [(t 56)] [42]), q 58 (.bin .eql 3 (t 57) (.const (.int .i64 0)))] false) (.cond (t 58) (.seq (.region 14 [q 59 (.mov (t 9)), q 4 (.asg 1 (t 59) 42)] false) .ret) .skip)) (.seq (.region 15 [q 60 (.mov (t 5)), q 61 (.mkfn 102 [] [(t 8)]), q 62 (.call 0 (.func 101) [(t 60), (t 61)]), q 13 (.asg 0 (t 62) 3)] false) (.seq (.seq (.region 16 [q 63 (.mov (t 13)), q 64 (.bin .lss 3 (t 63) (.const (.int .i64 0)))] false) (.cond (t 64) (.region 17 [q 65 (.mov (t 5)), q 66 (.blt 0 .len [(t 65)] [71]), q 13 (.asg 0 (t 66) 3)] false) .skip)) (.region 18 [q 67 (.mov (t 5)), q 68 (.mov (t 13)), q 69 (.load 42 (t 8)), q 70 (.bslice 0 71 1 [(0, (t 69))]), q 71 (.call 1 (.func 103) [(t 67), (t 68), (t 70)]), q 72 (.mov (t 6)), q 73 (.mov (t 13)), q 74 (.mov (t 9)), q 75 (.bslice 0 71 1 [(0, (t 74))]), q 76 (.call 1 (.func 103) [(t 72), (t 73), (t 75)]), q 5 (.asg 2 (t 71) 71), q 6 (.asg 2 (t 76) 71)] false))))))))) (.region 3 [q 14 (.mov (t 7)), q 15 (.bin .add 3 (t 14) (.const (.int .i64 1))), q 7 (.asg 0 (t 15) 3)] false)))))))
def impl_prime_relation_of_impl_prime_annihilator_c1_L : Live := [(0, [0, 1]), (1, [0, 1]), (2, [0, 1, 5, 6]), (3, [0, 1, 5, 6, 7]), (4, [0, 1, 5, 6, 7]), (5, [0, 1, 5, 6, 7, 8]), (6, [0, 1, 5, 6, 7, 8, 9]), (7, [0, 1, 5, 6, 7, 8, 1000009]), (8, [0, 1, 5, 6, 7, 8, 9, 24, 25, 26]), (9, [0, 1, 5, 6, 7, 8, 9, 24, 25, 26]), (10, [0, 1, 5, 6, 7, 8, 9, 10, 11, 24, 25, 26]), (11, [0, 1, 5, 6, 7, 8, 9, 10, 11, 12, 24, 25, 26]), (12, [0, 1, 5, 6, 7, 8, 9, 24, 25, 26]), (13, [0, 1, 5, 6, 7, 8, 9]), (14, [9]), (15, [0, 1, 5, 6, 7, 8, 9]), (16, [0, 1, 5, 6, 7, 8, 9, 13]), (17, [0, 1, 5, 6, 7, 8, 9]), (18, [0, 1, 5, 6, 7, 8, 9, 13]), (100027, [0, 1, 5, 6, 7, 8, 9, 24, 25, 26, 27]), (100058, [0, 1, 5, 6, 7, 8, 9, 58]), (100064, [0, 1, 5, 6, 7, 8, 9, 13, 64])]
noncomputable def impl_prime_relation_of_impl_prime_annihilator_c1_l2 (x211 : (List (List Int))) (a0 : Int) (x212 : (List (List Int))) (x545 : (List Int)) (x546 : Int) (x547 : (List Int)) : Option (((List Int) × Int × (List Int)) ⊕ ((List Int) × (List Int))) :=
  (if (decide (x546 < (x211.length : Int))) then (ifp (0 ≤ x546 ∧ x546 < ((x211.length : Nat) : Int)) ((Option.bind (impl_row_at x547 (IntKind.i64.wrap ((((rd x211 x546.toNat).length : Int)) - 1))) fun r581 => (Option.bind (impl_row_lead (rd x211 x546.toNat)) fun r583 => (Option.bind (impl_prime_inverse a0 r583) fun r585 => (Option.bind (impl_prime_combine a0 x547 (rd x211 x546.toNat) (IntKind.i64.wrap ((IntKind.i64.wrap (0 - r581)) * r585))) fun r596 => (ifp (0 ≤ x546 ∧ x546 < ((x212.length : Nat) : Int)) ((Option.bind (impl_prime_combine a0 x545 (rd x212 x546.toNat) (IntKind.i64.wrap ((IntKind.i64.wrap (0 - r581)) * r585))) fun r600 => (some (.inl ((r600, IntKind.i64.wrap (x546 + 1), r596))))))))))))) else (some (.inr (x545, x547))))
noncomputable def impl_prime_relation_of_impl_prime_annihilator_c1_l1 (a1c0 : Int) (a1c1 : (List Int)) (a0 : Int) (x210 : Int) (x211 : (List (List Int))) (x212 : (List (List Int))) (x213 : (List Int)) : Option ((Int × (List (List Int)) × (List (List Int)) × (List Int)) ⊕ (List Int)) :=
  (Option.bind (impl_prime_annihilator_c1_of_src_p_p x213 a1c0 a1c1) fun r418 => (ifp (0 ≤ IntKind.i64.wrap (x210 + 1) ∧ IntKind.i64.wrap (x210 + 1) ≤ 140737488355328 ∧ 8 * IntKind.i64.wrap (x210 + 1) ≤ 140737488355328) ((ifp (0 ≤ x210 ∧ x210 < (((List.replicate (IntKind.i64.wrap (x210 + 1)).toNat (0 : Int)).length : Nat) : Int)) ((Option.bind (α := ((List Int) × (List Int))) ((loopM (fun s : ((List Int) × Int × (List Int)) => impl_prime_relation_of_impl_prime_annihilator_c1_l2 x211 a0 x212 s.1 s.2.1 s.2.2) (((List.replicate (IntKind.i64.wrap (x210 + 1)).toNat (0 : Int)).set x210.toNat 1), 0, r418.1))) fun ⟨x512, x513⟩ => (if ((x513.length : Int) == 0) then (some (.inr x512)) else (Option.bind (slices_IndexFunc_impl_row_impl_row_of_impl_prime_relation_c1_p x211 x513) fun r606 => (Option.bind (α := Int) ((if (decide (r606 < 0)) then (some (x211.length : Int)) else (some r606))) fun x609 => (Option.bind (slices_Insert_row x211 x609 x513) fun r615 => (Option.bind (slices_Insert_row x212 x609 x512) fun r617 => (some (.inl ((IntKind.i64.wrap (x210 + 1), r615, r617, r418.2)))))))))))))))
noncomputable def impl_prime_relation_of_impl_prime_annihilator_c1 (a0 : Int) (a1 : (List Int)) (a1c0 : Int) (a1c1 : (List Int)) : Option (List Int) :=
  (loopM (fun s : (Int × (List (List Int)) × (List (List Int)) × (List Int)) => impl_prime_relation_of_impl_prime_annihilator_c1_l1 a1c0 a1c1 a0 s.1 s.2.1 s.2.2.1 s.2.2.2) (0, [], [], a1))
theorem impl_prime_relation_of_impl_prime_annihilator_c1_ok (a0 : Int) (a1 : (List Int)) (a1c0 : Int) (a1c1 : (List Int)) (r : (List Int)) (h : impl_prime_relation_of_impl_prime_annihilator_c1 a0 a1 a1c0 a1c1 = some r) : Den Try.prog 67 [(i6 a0), (.mclo 68 (eSi64 a1) [(.ref (i6 a1c0) [] []), (.ref (eSi64 a1c1) [] [])])] { r := (eSi64 r) } := by
  refine den_ofG (rs := [(eSi64 r)]) (ac := impl_prime_relation_of_impl_prime_annihilator_c1_c) (L := impl_prime_relation_of_impl_prime_annihilator_c1_L) (n := 77) (m := [(4, 1), (5, 2), (6, 2), (9, 2), (11, 1), (71, 1), (76, 1)]) (c := Try.f67.body.getD .skip) good Try.func67 (by kernel_rfl) (by kernel_rfl) Try.ntmps67 rfl rfl (by kernel_rfl) rfl ?_
  refine a_st (σ' := ⟨[(0, (i6 a0)), (1, (.oclo 68 1000001 [(.ref (i6 a1c0) [] []), (.ref (eSi64 a1c1) [] [])]))], [(1000001, (bk (eSi64 a1)))]⟩) (by kernel_rfl) ?_
  unfold impl_prime_relation_of_impl_prime_annihilator_c1_c
  refine sr (vp (eSi64 ([])) rfl (nx ⟨[(0, (i6 a0)), (1, (.oclo 68 1000001 [(.ref (i6 a1c0) [] []), (.ref (eSi64 a1c1) [] [])]))], [(1000001, (bk (eSi64 a1)))]⟩ (by kernel_rfl) (sr (vu (.osl 1500) [(1500, (bk (.row 1 (([]).map eSi64))))] rfl trivial rfl (vu (.osl 1600) [(1600, (bk (.row 1 (([]).map eSi64))))] rfl trivial rfl (nx ⟨[(0, (i6 a0)), (1, (.oclo 68 1000001 [(.ref (i6 a1c0) [] []), (.ref (eSi64 a1c1) [] [])])), (5, (.osl 5)), (6, (.osl 6))], [(5, (bk (.row 1 (([]).map eSi64)))), (6, (bk (.row 1 (([]).map eSi64)))), (1000001, (bk (eSi64 a1)))]⟩ (by kernel_rfl) (sr (vp (i6 0) rfl (nx ⟨[(0, (i6 a0)), (1, (.oclo 68 1000001 [(.ref (i6 a1c0) [] []), (.ref (eSi64 a1c1) [] [])])), (5, (.osl 5)), (6, (.osl 6)), (7, (i6 0))], [(5, (bk (.row 1 (([]).map eSi64)))), (6, (bk (.row 1 (([]).map eSi64)))), (1000001, (bk (eSi64 a1)))]⟩ (by kernel_rfl) ?_)))))))))
  refine a_block ?_
  refine a_loop (emb := fun (s : (Int × (List (List Int)) × (List (List Int)) × (List Int))) => ⟨[(0, (i6 a0)), (1, (.oclo 68 1000001 [(.ref (i6 a1c0) [] []), (.ref (eSi64 a1c1) [] [])])), (5, (.osl 5)), (6, (.osl 6)), (7, (i6 s.1))], [(5, (bk (.row 1 (s.2.1.map eSi64)))), (6, (bk (.row 1 (s.2.2.1.map eSi64)))), (1000001, (bk (eSi64 s.2.2.2)))]⟩) (body := (fun s : (Int × (List (List Int)) × (List (List Int)) × (List Int)) => impl_prime_relation_of_impl_prime_annihilator_c1_l1 a1c0 a1c1 a0 s.1 s.2.1 s.2.2.1 s.2.2.2)) (G := fun q => some q = some r) h rfl ?_ (by kernel_rfl)
  rintro X415 ⟨x210, x211, x212, x213⟩ x416 h hX417
  have h : impl_prime_relation_of_impl_prime_annihilator_c1_l1 a1c0 a1c1 a0 x210 x211 x212 x213 = some x416 := h
  refine a_st (σ' := ⟨[(0, (i6 a0)), (1, (.oclo 68 1000001 [(.ref (i6 a1c0) [] []), (.ref (eSi64 a1c1) [] [])])), (5, (.osl 5)), (6, (.osl 6)), (7, (i6 x210))], [(5, (bk (.row 1 (x211.map eSi64)))), (6, (bk (.row 1 (x212.map eSi64)))), (1000001, (bk (eSi64 x213)))]⟩) (by kernel_rfl) (a_seq (a_block (sr (vp (.oclo 68 1000001 [(.ref (i6 a1c0) [] []), (.ref (eSi64 a1c1) [] [])]) rfl ?_))))
  obtain ⟨r418, hr419, h⟩ := bind_some h
  refine a_callM (args := [(.mutp (eSi64 x213)), (.ref (i6 a1c0) [] []), (.ref (eSi64 a1c1) [] [])]) (i := 0) (id := 1000001) (r := (eSi64 r418.1)) (c := (eSi64 r418.2)) rfl rfl (impl_prime_annihilator_c1_of_src_p_p_ok x213 a1c0 a1c1 r418 hr419) rfl trivial (vo 1800 (eSi64 ([])) rfl rfl (vs (eSi64 r418.1) rfl rfl (fun _ => rfl) rfl rfl rfl rfl rfl rfl (nx ⟨[(0, (i6 a0)), (1, (.oclo 68 1000001 [(.ref (i6 a1c0) [] []), (.ref (eSi64 a1c1) [] [])])), (5, (.osl 5)), (6, (.osl 6)), (7, (i6 x210)), (8, (ow 8))], [(5, (bk (.row 1 (x211.map eSi64)))), (6, (bk (.row 1 (x212.map eSi64)))), (8, (bk (eSi64 r418.1))), (1000001, (bk (eSi64 r418.2)))]⟩ (by kernel_rfl) (sr (vp (i6 x210) rfl (vp (i6 (IntKind.i64.wrap (x210 + 1))) rfl ?_))))))
  obtain ⟨hc422, h⟩ := ifp_some h
  refine vu (.osl 3000) [(3000, (bk (.row 1 ((List.replicate (IntKind.i64.wrap (x210 + 1)).toNat (0 : Int)).map (AV.int .i64)))))] (mk_run (i := ⟨.int .i64, 1, 8, (.int .i64 0)⟩) (f := (AV.int .i64)) (y := (0 : Int)) rfl rfl rfl rfl rfl rfl) ⟨rfl, hc422.1, hc422.2.1, hc422.2.2, (Nat.le_of_ble_eq_true rfl)⟩ rfl (vp (.osl 3000) rfl (nx ⟨[(0, (i6 a0)), (1, (.oclo 68 1000001 [(.ref (i6 a1c0) [] []), (.ref (eSi64 a1c1) [] [])])), (5, (.osl 5)), (6, (.osl 6)), (7, (i6 x210)), (8, (ow 8)), (9, (.osl 9))], [(5, (bk (.row 1 (x211.map eSi64)))), (6, (bk (.row 1 (x212.map eSi64)))), (8, (bk (eSi64 r418.1))), (9, (bk (.row 1 ((List.replicate (IntKind.i64.wrap (x210 + 1)).toNat (0 : Int)).map (AV.int .i64))))), (1000001, (bk (eSi64 r418.2)))]⟩ (by kernel_rfl) (sr (vp (.osl 9) rfl (vp (i6 x210) rfl ?_)))))
  obtain ⟨hc423, h⟩ := ifp_some h
  refine vq (.own 9 [x210.toNat] [x210.toNat * 1]) rfl (lmap hc423) ?_
  have hs424 : StOk [x210.toNat] (.row 1 ((List.replicate (IntKind.i64.wrap (x210 + 1)).toNat (0 : Int)).map (AV.int .i64))) [x210.toNat * 1] 1 (i6 1) (.row 1 ((((List.replicate (IntKind.i64.wrap (x210 + 1)).toNat (0 : Int)).set x210.toNat 1)).map (AV.int .i64))) := (.row (y := 1) (llt hc423) rfl (.nil rfl rfl rfl rfl))
  refine vu .top [(9, (bk (.row 1 ((((List.replicate (IntKind.i64.wrap (x210 + 1)).toNat (0 : Int)).set x210.toNat 1)).map (AV.int .i64)))))] (st_own (i := ⟨.int .i64, 1, 8, (.int .i64 0)⟩) rfl rfl (fun _ => rfl) rfl hs424) (hs424.c rfl) rfl (nx ⟨[(0, (i6 a0)), (1, (.oclo 68 1000001 [(.ref (i6 a1c0) [] []), (.ref (eSi64 a1c1) [] [])])), (5, (.osl 5)), (6, (.osl 6)), (7, (i6 x210)), (8, (ow 8)), (9, (eSi64 (((List.replicate (IntKind.i64.wrap (x210 + 1)).toNat (0 : Int)).set x210.toNat 1))))], [(5, (bk (.row 1 (x211.map eSi64)))), (6, (bk (.row 1 (x212.map eSi64)))), (8, (bk (eSi64 r418.1))), (1000001, (bk (eSi64 r418.2)))]⟩ (by kernel_rfl) ?_)
  obtain ⟨y514, hy515, hk516⟩ := bind_some h
  clear h
  refine a_join (emb := fun (s : ((List Int) × (List Int))) => ⟨[(0, (i6 a0)), (1, (.oclo 68 1000001 [(.ref (i6 a1c0) [] []), (.ref (eSi64 a1c1) [] [])])), (5, (.osl 5)), (6, (.osl 6)), (7, (i6 x210)), (8, (ow 8)), (9, (eSi64 s.1))], [(5, (bk (.row 1 (x211.map eSi64)))), (6, (bk (.row 1 (x212.map eSi64)))), (8, (bk (eSi64 s.2))), (1000001, (bk (eSi64 r418.2)))]⟩) (pre := fun s => s = y514) ?_ ?_
  · rintro ⟨x512, x513⟩ rfl
    have h := hk516
    refine a_st (σ' := ⟨[(0, (i6 a0)), (1, (.oclo 68 1000001 [(.ref (i6 a1c0) [] []), (.ref (eSi64 a1c1) [] [])])), (5, (.osl 5)), (6, (.osl 6)), (7, (i6 x210)), (8, (ow 8)), (9, (eSi64 x512))], [(5, (bk (.row 1 (x211.map eSi64)))), (6, (bk (.row 1 (x212.map eSi64)))), (8, (bk (eSi64 x513))), (1000001, (bk (eSi64 r418.2)))]⟩) (by kernel_rfl) (a_seq (sr (vl (eSi64 x513) rfl rfl rfl rfl rfl rfl (vq (i6 (x513.length : Int)) (len_run rfl rfl) trivial (vp (.bool (((x513.length : Int) == 0))) rfl (nx ⟨[(0, (i6 a0)), (1, (.oclo 68 1000001 [(.ref (i6 a1c0) [] []), (.ref (eSi64 a1c1) [] [])])), (5, (.osl 5)), (6, (.osl 6)), (7, (i6 x210)), (8, (ow 8)), (9, (eSi64 x512)), (58, (.bool (((x513.length : Int) == 0))))], [(5, (bk (.row 1 (x211.map eSi64)))), (6, (bk (.row 1 (x212.map eSi64)))), (8, (bk (eSi64 x513))), (1000001, (bk (eSi64 r418.2)))]⟩ (by kernel_rfl) ?_))))))
    cases hb605 : ((x513.length : Int) == 0)
    · have h := ite_f hb605 h
      refine a_cond_f rfl (a_skip (a_next (σ' := ⟨[(0, (i6 a0)), (1, (.oclo 68 1000001 [(.ref (i6 a1c0) [] []), (.ref (eSi64 a1c1) [] [])])), (5, (.osl 5)), (6, (.osl 6)), (7, (i6 x210)), (8, (ow 8)), (9, (eSi64 x512))], [(5, (bk (.row 1 (x211.map eSi64)))), (6, (bk (.row 1 (x212.map eSi64)))), (8, (bk (eSi64 x513))), (1000001, (bk (eSi64 r418.2)))]⟩) (by kernel_rfl) (sr (vp (.osl 5) rfl (vu (.clo 102 [] [(.ref (eSi64 x513) [] [])]) [(8, (bf (eSi64 x513)))] rfl trivial rfl ?_)))))
      obtain ⟨r606, hr607, h⟩ := bind_some h
      refine a_callB (args := [(eSSi64 x211), (.clo 102 [] [(.ref (eSi64 x513) [] [])])]) (u := [(5, (bf (.row 1 (x211.map eSi64))))]) (r := (i6 r606)) rfl rfl (slices_IndexFunc_impl_row_impl_row_of_impl_prime_relation_c1_p_ok x211 x513 r606 hr607) rfl trivial (vp (i6 r606) rfl (nx ⟨[(0, (i6 a0)), (1, (.oclo 68 1000001 [(.ref (i6 a1c0) [] []), (.ref (eSi64 a1c1) [] [])])), (5, (.osl 5)), (6, (.osl 6)), (7, (i6 x210)), (8, (ow 8)), (9, (eSi64 x512)), (13, (i6 r606))], [(5, (bk (.row 1 (x211.map eSi64)))), (6, (bk (.row 1 (x212.map eSi64)))), (8, (bf (eSi64 x513))), (1000001, (bk (eSi64 r418.2)))]⟩ (by kernel_rfl) ?_))
      obtain ⟨y610, hy611, hk612⟩ := bind_some h
      clear h
      refine a_join (emb := fun (s : Int) => ⟨[(0, (i6 a0)), (1, (.oclo 68 1000001 [(.ref (i6 a1c0) [] []), (.ref (eSi64 a1c1) [] [])])), (5, (.osl 5)), (6, (.osl 6)), (7, (i6 x210)), (8, (ow 8)), (9, (eSi64 x512)), (13, (i6 s))], [(5, (bk (.row 1 (x211.map eSi64)))), (6, (bk (.row 1 (x212.map eSi64)))), (8, (bf (eSi64 x513))), (1000001, (bk (eSi64 r418.2)))]⟩) (pre := fun s => s = y610) ?_ ?_
      · rintro x609 rfl
        have h := hk612
        refine a_st (σ' := ⟨[(0, (i6 a0)), (1, (.oclo 68 1000001 [(.ref (i6 a1c0) [] []), (.ref (eSi64 a1c1) [] [])])), (5, (.osl 5)), (6, (.osl 6)), (7, (i6 x210)), (8, (ow 8)), (9, (eSi64 x512)), (13, (i6 x609))], [(5, (bk (.row 1 (x211.map eSi64)))), (6, (bk (.row 1 (x212.map eSi64)))), (8, (bf (eSi64 x513))), (1000001, (bk (eSi64 r418.2)))]⟩) (by kernel_rfl) (a_region (vp (.osl 5) rfl (vp (i6 x609) rfl (vl (eSi64 x513) rfl rfl rfl rfl rfl rfl (vq (.sl 1 true (([x513]).map eSi64)) rfl ⟨(Nat.le_of_ble_eq_true rfl), (Nat.le_of_ble_eq_true rfl), (all_cons ⟨(Nat.le_of_ble_eq_true rfl), rfl⟩ all_nil)⟩ ?_)))))
        obtain ⟨r615, hr616, h⟩ := bind_some h
        refine a_callGF (args := [(.mutsl 1 (x211.map eSi64)), (i6 x609), (.sl 1 true (([x513]).map eSi64))]) (i := 0) (id := 5) (r := .osl 2000000) (fs := [(1, r615.map eSi64)]) rfl rfl (slices_Insert_row_ok x211 x609 x513 r615 hr616) rfl rfl rfl rfl (vp (.osl 6) rfl (vp (i6 x609) rfl (vp (eSi64 x512) rfl (vq (.sl 1 true (([x512]).map eSi64)) rfl ⟨(Nat.le_of_ble_eq_true rfl), (Nat.le_of_ble_eq_true rfl), (all_cons ⟨(Nat.le_of_ble_eq_true rfl), rfl⟩ all_nil)⟩ ?_))))
        obtain ⟨r617, hr618, h⟩ := bind_some h
        refine a_callGF (args := [(.mutsl 1 (x212.map eSi64)), (i6 x609), (.sl 1 true (([x512]).map eSi64))]) (i := 0) (id := 6) (r := .osl 2000000) (fs := [(1, r617.map eSi64)]) rfl rfl (slices_Insert_row_ok x212 x609 x512 r617 hr618) rfl rfl rfl rfl (vp (.osl 8100) rfl (vp (.osl 8600) rfl (a_nil (b_norm (a_next (σ' := ⟨[(0, (i6 a0)), (1, (.oclo 68 1000001 [(.ref (i6 a1c0) [] []), (.ref (eSi64 a1c1) [] [])])), (5, (.osl 5)), (6, (.osl 6)), (7, (i6 x210))], [(5, (bk (.row 1 (r615.map eSi64)))), (6, (bk (.row 1 (r617.map eSi64)))), (1000001, (bk (eSi64 r418.2)))]⟩) (by kernel_rfl) (a_region (vp (i6 x210) rfl (vp (i6 (IntKind.i64.wrap (x210 + 1))) rfl (vp (i6 (IntKind.i64.wrap (x210 + 1))) rfl ?_)))))))))
        refine a_nil ?_
        cases h
        exact a_again (by kernel_rfl) hX417
      · have h := hy611
        refine sr (vp (i6 r606) rfl (vp (.bool ((decide (r606 < 0)))) rfl (nx ⟨[(0, (i6 a0)), (1, (.oclo 68 1000001 [(.ref (i6 a1c0) [] []), (.ref (eSi64 a1c1) [] [])])), (5, (.osl 5)), (6, (.osl 6)), (7, (i6 x210)), (8, (ow 8)), (9, (eSi64 x512)), (13, (i6 r606)), (64, (.bool ((decide (r606 < 0)))))], [(5, (bk (.row 1 (x211.map eSi64)))), (6, (bk (.row 1 (x212.map eSi64)))), (8, (bf (eSi64 x513))), (1000001, (bk (eSi64 r418.2)))]⟩ (by kernel_rfl) ?_)))
        cases hb613 : (decide (r606 < 0))
        · have h := ite_f hb613 h
          refine a_cond_f rfl (a_skip ?_)
          exact j_leaf r606 (Option.some.inj h) (by kernel_rfl)
        · have h := ite_t hb613 h
          refine a_cond_t rfl (a_region (vp (.osl 5) rfl (vq (i6 (x211.length : Int)) (leno_run rfl rfl rfl) trivial (vp (i6 (x211.length : Int)) rfl (a_nil ?_)))))
          exact j_leaf (x211.length : Int) (Option.some.inj h) (by kernel_rfl)
    · have h := ite_t hb605 h
      refine a_cond_t rfl (sr (vp (eSi64 x512) rfl (vp (eSi64 x512) rfl (nx _ rfl (a_ret (t_ret (b_ret (t_ret ?_))))))))
      cases h
      have h := hX417
      refine t_ret (b_ret ?_)
      refine ⟨.inr rfl, ?_⟩
      rw [Try.results67]
      cases h
      exact ⟨_, _, _, _, _, rfl, trivial, .inl ⟨rfl, .inl rfl⟩, rfl, rfl⟩
  · have h := hy515
    refine sr (vp (.osl 5) rfl (vq (i6 (x211.length : Int)) (leno_run rfl rfl rfl) trivial (vp (i6 0) rfl (nx ⟨[(0, (i6 a0)), (1, (.oclo 68 1000001 [(.ref (i6 a1c0) [] []), (.ref (eSi64 a1c1) [] [])])), (5, (.osl 5)), (6, (.osl 6)), (7, (i6 x210)), (8, (ow 8)), (9, (eSi64 (((List.replicate (IntKind.i64.wrap (x210 + 1)).toNat (0 : Int)).set x210.toNat 1)))), (24, (.osl 5)), (25, (i6 (x211.length : Int))), (26, (i6 0))], [(5, (bk (.row 1 (x211.map eSi64)))), (6, (bk (.row 1 (x212.map eSi64)))), (8, (bk (eSi64 r418.1))), (1000001, (bk (eSi64 r418.2)))]⟩ (by kernel_rfl) (a_block ?_)))))
    refine a_loop (emb := fun (s : ((List Int) × Int × (List Int))) => ⟨[(0, (i6 a0)), (1, (.oclo 68 1000001 [(.ref (i6 a1c0) [] []), (.ref (eSi64 a1c1) [] [])])), (5, (.osl 5)), (6, (.osl 6)), (7, (i6 x210)), (8, (ow 8)), (9, (eSi64 s.1)), (24, (.osl 5)), (25, (i6 (x211.length : Int))), (26, (i6 s.2.1))], [(5, (bk (.row 1 (x211.map eSi64)))), (6, (bk (.row 1 (x212.map eSi64)))), (8, (bk (eSi64 s.2.2))), (1000001, (bk (eSi64 r418.2)))]⟩) (body := (fun s : ((List Int) × Int × (List Int)) => impl_prime_relation_of_impl_prime_annihilator_c1_l2 x211 a0 x212 s.1 s.2.1 s.2.2)) (G := fun q => some q = some y514) h rfl ?_ (by kernel_rfl)
    rintro X574 ⟨x545, x546, x547⟩ x575 h hX576
    have h : impl_prime_relation_of_impl_prime_annihilator_c1_l2 x211 a0 x212 x545 x546 x547 = some x575 := h
    refine a_st (σ' := ⟨[(0, (i6 a0)), (1, (.oclo 68 1000001 [(.ref (i6 a1c0) [] []), (.ref (eSi64 a1c1) [] [])])), (5, (.osl 5)), (6, (.osl 6)), (7, (i6 x210)), (8, (ow 8)), (9, (eSi64 x545)), (24, (.osl 5)), (25, (i6 (x211.length : Int))), (26, (i6 x546))], [(5, (bk (.row 1 (x211.map eSi64)))), (6, (bk (.row 1 (x212.map eSi64)))), (8, (bk (eSi64 x547))), (1000001, (bk (eSi64 r418.2)))]⟩) (by kernel_rfl) (sr (vp (.bool ((decide (x546 < (x211.length : Int))))) rfl (nx ⟨[(0, (i6 a0)), (1, (.oclo 68 1000001 [(.ref (i6 a1c0) [] []), (.ref (eSi64 a1c1) [] [])])), (5, (.osl 5)), (6, (.osl 6)), (7, (i6 x210)), (8, (ow 8)), (9, (eSi64 x545)), (24, (.osl 5)), (25, (i6 (x211.length : Int))), (26, (i6 x546)), (27, (.bool ((decide (x546 < (x211.length : Int))))))], [(5, (bk (.row 1 (x211.map eSi64)))), (6, (bk (.row 1 (x212.map eSi64)))), (8, (bk (eSi64 x547))), (1000001, (bk (eSi64 r418.2)))]⟩ (by kernel_rfl) (a_seq ?_))))
    cases hb577 : (decide (x546 < (x211.length : Int)))
    · have h := ite_f hb577 h
      refine a_cond_f rfl (a_exit (t_exit ?_))
      cases h
      have h := hX576
      refine t_exit (b_exit ?_)
      exact j_leaf (x545, x547) (Option.some.inj h) (by kernel_rfl)
    · have h := ite_t hb577 h
      refine a_cond_t rfl (a_skip (a_next (σ' := ⟨[(0, (i6 a0)), (1, (.oclo 68 1000001 [(.ref (i6 a1c0) [] []), (.ref (eSi64 a1c1) [] [])])), (5, (.osl 5)), (6, (.osl 6)), (7, (i6 x210)), (8, (ow 8)), (9, (eSi64 x545)), (24, (.osl 5)), (25, (i6 (x211.length : Int))), (26, (i6 x546))], [(5, (bk (.row 1 (x211.map eSi64)))), (6, (bk (.row 1 (x212.map eSi64)))), (8, (bk (eSi64 x547))), (1000001, (bk (eSi64 r418.2)))]⟩) (by kernel_rfl) (a_seq (a_block (sr (vp (i6 x546) rfl ?_))))))
      obtain ⟨hc578, h⟩ := ifp_some h
      refine vq (.own 5 [x546.toNat] [x546.toNat * 1]) rfl (lmap hc578) ?_
      have hl579 : LdOk [x546.toNat] (.row 1 (x211.map eSi64)) [x546.toNat * 1] 1 false (eSi64 (rd x211 x546.toNat)) := (.row (llt hc578) rfl (.nil rfl rfl rfl))
      refine vq (eSi64 (rd x211 x546.toNat)) (ld_own (i := ⟨.slice 2, 1, 24, (eSi64 [])⟩) rfl rfl rfl hl579) hl579.c (vp (i6 x546) rfl (vp (eSi64 (rd x211 x546.toNat)) rfl (nx ⟨[(0, (i6 a0)), (1, (.oclo 68 1000001 [(.ref (i6 a1c0) [] []), (.ref (eSi64 a1c1) [] [])])), (5, (.osl 5)), (6, (.osl 6)), (7, (i6 x210)), (8, (ow 8)), (9, (eSi64 x545)), (10, (i6 x546)), (11, (eSi64 (rd x211 x546.toNat))), (24, (.osl 5)), (25, (i6 (x211.length : Int))), (26, (i6 x546))], [(5, (bk (.row 1 (x211.map eSi64)))), (6, (bk (.row 1 (x212.map eSi64)))), (8, (bk (eSi64 x547))), (1000001, (bk (eSi64 r418.2)))]⟩ (by kernel_rfl) (sr (vl (eSi64 x547) rfl rfl rfl rfl rfl rfl (vp (eSi64 (rd x211 x546.toNat)) rfl (vq (i6 (((rd x211 x546.toNat).length : Int))) (len_run rfl rfl) trivial (vp (i6 (IntKind.i64.wrap ((((rd x211 x546.toNat).length : Int)) - 1))) rfl ?_))))))))
      obtain ⟨r581, hr582, h⟩ := bind_some h
      refine a_call (args := [(eSi64 x547), (i6 (IntKind.i64.wrap ((((rd x211 x546.toNat).length : Int)) - 1)))]) (u := []) (r := (i6 r581)) rfl rfl (impl_row_at_ok x547 (IntKind.i64.wrap ((((rd x211 x546.toNat).length : Int)) - 1)) r581 hr582) rfl (vp (i6 (IntKind.i64.wrap (0 - r581))) rfl (vp (i6 a0) rfl (vp (eSi64 (rd x211 x546.toNat)) rfl ?_)))
      obtain ⟨r583, hr584, h⟩ := bind_some h
      refine a_call (args := [(eSi64 (rd x211 x546.toNat))]) (u := []) (r := (i6 r583)) rfl rfl (impl_row_lead_ok (rd x211 x546.toNat) r583 hr584) rfl ?_
      obtain ⟨r585, hr586, h⟩ := bind_some h
      refine a_call (args := [(i6 a0), (i6 r583)]) (u := []) (r := (i6 r585)) rfl rfl (impl_prime_inverse_ok a0 r583 r585 hr586) rfl (vp (i6 (IntKind.i64.wrap ((IntKind.i64.wrap (0 - r581)) * r585))) rfl (vp (i6 (IntKind.i64.wrap ((IntKind.i64.wrap (0 - r581)) * r585))) rfl (nx ⟨[(0, (i6 a0)), (1, (.oclo 68 1000001 [(.ref (i6 a1c0) [] []), (.ref (eSi64 a1c1) [] [])])), (5, (.osl 5)), (6, (.osl 6)), (7, (i6 x210)), (8, (ow 8)), (9, (eSi64 x545)), (10, (i6 x546)), (11, (eSi64 (rd x211 x546.toNat))), (12, (i6 (IntKind.i64.wrap ((IntKind.i64.wrap (0 - r581)) * r585)))), (24, (.osl 5)), (25, (i6 (x211.length : Int))), (26, (i6 x546))], [(5, (bk (.row 1 (x211.map eSi64)))), (6, (bk (.row 1 (x212.map eSi64)))), (8, (bk (eSi64 x547))), (1000001, (bk (eSi64 r418.2)))]⟩ (by kernel_rfl) (a_draw [⟨[], [], [], []⟩, ⟨[8], [], [], []⟩, ⟨[], [], [], []⟩, ⟨[], [], [], []⟩, ⟨[], [], [], [0, 1, 2, 3]⟩, ⟨[], [], [], []⟩, ⟨[], [], [], []⟩, ⟨[], [], [6], []⟩, ⟨[], [], [], []⟩, ⟨[6], [], [6], [7, 8]⟩, ⟨[6], [], [], [7, 8, 9]⟩, ⟨[], [], [], []⟩, ⟨[], [], [], [0, 1, 2, 3, 4, 5, 6, 7, 8, 9, 10, 11]⟩, ⟨[8], [8], [], [0, 1, 2, 3, 4, 5, 6, 7, 8, 9, 10, 11, 12]⟩, ⟨[], [], [], [0, 1, 2, 3, 4, 5, 6, 7, 8, 9, 10, 11, 12, 13]⟩] (by kernel_rfl) (dp (i6 a0) rfl (by kernel_rfl) (d_cons (vl (eSi64 x547) rfl rfl rfl rfl rfl rfl (d_next (by kernel_rfl) (dp (eSi64 (rd x211 x546.toNat)) rfl (by kernel_rfl) ?_)))))))))
      refine dp (i6 (IntKind.i64.wrap ((IntKind.i64.wrap (0 - r581)) * r585))) rfl (by kernel_rfl) (d_cons ?_)
      obtain ⟨r596, hr597, h⟩ := bind_some h
      refine a_call (args := [(i6 a0), (eSi64 x547), (eSi64 (rd x211 x546.toNat)), (i6 (IntKind.i64.wrap ((IntKind.i64.wrap (0 - r581)) * r585)))]) (u := []) (r := (eSi64 r596)) rfl rfl (impl_prime_combine_ok a0 x547 (rd x211 x546.toNat) (IntKind.i64.wrap ((IntKind.i64.wrap (0 - r581)) * r585)) r596 hr597) rfl (d_next (by kernel_rfl) (dp (i6 a0) rfl (by kernel_rfl) (dp (eSi64 x545) rfl (by kernel_rfl) (dp (.osl 6) rfl (by kernel_rfl) (dp (i6 x546) rfl (by kernel_rfl) (d_cons ?_))))))
      obtain ⟨hc598, h⟩ := ifp_some h
      refine vq (.own 6 [x546.toNat] [x546.toNat * 1]) rfl (lmap hc598) (d_next (by kernel_rfl) (d_cons ?_))
      have hl599 : LdOk [x546.toNat] (.row 1 (x212.map eSi64)) [x546.toNat * 1] 1 false (eSi64 (rd x212 x546.toNat)) := (.row (llt hc598) rfl (.nil rfl rfl rfl))
      refine vq (eSi64 (rd x212 x546.toNat)) (ld_own (i := ⟨.slice 2, 1, 24, (eSi64 [])⟩) rfl rfl rfl hl599) hl599.c (d_next (by kernel_rfl) (dp (i6 (IntKind.i64.wrap ((IntKind.i64.wrap (0 - r581)) * r585))) rfl (by kernel_rfl) (d_cons ?_)))
      obtain ⟨r600, hr601, h⟩ := bind_some h
      refine a_call (args := [(i6 a0), (eSi64 x545), (eSi64 (rd x212 x546.toNat)), (i6 (IntKind.i64.wrap ((IntKind.i64.wrap (0 - r581)) * r585)))]) (u := []) (r := (eSi64 r600)) rfl rfl (impl_prime_combine_ok a0 x545 (rd x212 x546.toNat) (IntKind.i64.wrap ((IntKind.i64.wrap (0 - r581)) * r585)) r600 hr601) rfl (d_next (by kernel_rfl) (d_cons (vs (eSi64 r596) rfl rfl (fun _ => rfl) rfl rfl rfl rfl rfl rfl (d_next (by kernel_rfl) (dp (eSi64 r600) rfl (by kernel_rfl) (d_nil (b_norm (a_next (σ' := ⟨[(0, (i6 a0)), (1, (.oclo 68 1000001 [(.ref (i6 a1c0) [] []), (.ref (eSi64 a1c1) [] [])])), (5, (.osl 5)), (6, (.osl 6)), (7, (i6 x210)), (8, (ow 8)), (9, (eSi64 r600)), (24, (.osl 5)), (25, (i6 (x211.length : Int))), (26, (i6 x546))], [(5, (bk (.row 1 (x211.map eSi64)))), (6, (bk (.row 1 (x212.map eSi64)))), (8, (bk (eSi64 r596))), (1000001, (bk (eSi64 r418.2)))]⟩) (by kernel_rfl) (a_region ?_)))))))))
      refine vp (i6 (IntKind.i64.wrap (x546 + 1))) rfl (vp (i6 (IntKind.i64.wrap (x546 + 1))) rfl (a_nil ?_))
      cases h
      exact a_again (by kernel_rfl) hX576
def impl_prime_annihilator_c : ACode := (.seq (.region 0 [q 3 (.box 41 (t 0)), q 4 (.box 42 (t 1)), q 5 (.box 42 (t 2)), q 6 (.asg 1 (.const (.slice none 0 0)) 42)] false) (.seq (.region 1 [q 7 (.load 41 (t 3)), q 8 (.load 42 (t 4)), q 9 (.load 42 (t 5)), q 10 (.call 0 (.func 66) [(t 7), (t 8), (t 9)]), ⟨none, .store 42 (t 4) (t 10), none, []⟩] false) (.seq (.region 2 [q 11 (.load 41 (t 3)), q 12 (.mkclo 68 [(t 4), (t 3), (t 5)]), q 13 (.call 2 (.func 67) [(t 11), (t 12)]), q 6 (.asg 1 (t 13) 42)] false) .ret)))
def impl_prime_annihilator_L : Live := [(0, [0, 1, 2]), (1, [3, 4, 5]), (2, [3, 4, 5])]
noncomputable def impl_prime_annihilator (a0 : Int) (a1 : (List Int)) (a2 : (List Int)) : Option (List Int) :=
  (Option.bind (impl_prime_rest a0 a1 a2) fun r4 => (Option.bind (impl_prime_relation_of_impl_prime_annihilator_c1 a0 r4 a0 a2) fun r8 => (some r8)))
theorem impl_prime_annihilator_ok (a0 : Int) (a1 : (List Int)) (a2 : (List Int)) (r : (List Int)) (h : impl_prime_annihilator a0 a1 a2 = some r) : Den Try.prog 30 [(i6 a0), (eSi64 a1), (eSi64 a2)] { r := (eSi64 r) } := by
  refine den_of (rs := [(eSi64 r)]) (ac := impl_prime_annihilator_c) (L := impl_prime_annihilator_L) (n := 14) (m := [(6, 1), (12, 1), (13, 2)]) (c := Try.f30.body.getD .skip) good Try.func30 (by kernel_rfl) (by kernel_rfl) Try.ntmps30 rfl rfl (by kernel_rfl) rfl rfl ?_
  refine a_st (σ' := ⟨[(0, (i6 a0)), (1, (eSi64 a1)), (2, (eSi64 a2))], []⟩) (by kernel_rfl) ?_
  unfold impl_prime_annihilator_c
  refine sr (vo 1300 (i6 a0) rfl rfl (vo 1400 (eSi64 a1) rfl rfl (vo 1500 (eSi64 a2) rfl rfl (vp (eSi64 ([])) rfl (nx ⟨[(3, (ow 3)), (4, (ow 4)), (5, (ow 5))], [(3, (bk (i6 a0))), (4, (bk (eSi64 a1))), (5, (bk (eSi64 a2)))]⟩ (by kernel_rfl) (sr (vl (i6 a0) rfl rfl rfl rfl rfl rfl (vl (eSi64 a1) rfl rfl rfl rfl rfl rfl (vl (eSi64 a2) rfl rfl rfl rfl rfl rfl ?_)))))))))
  obtain ⟨r4, hr5, h⟩ := bind_some h
  refine a_call (args := [(i6 a0), (eSi64 a1), (eSi64 a2)]) (u := []) (r := (eSi64 r4)) rfl rfl (impl_prime_rest_ok a0 a1 a2 r4 hr5) rfl (vs (eSi64 r4) rfl rfl (fun _ => rfl) rfl rfl rfl rfl rfl rfl (nx ⟨[(3, (ow 3)), (4, (ow 4)), (5, (ow 5))], [(3, (bk (i6 a0))), (4, (bk (eSi64 r4))), (5, (bk (eSi64 a2)))]⟩ (by kernel_rfl) (sr (vl (i6 a0) rfl rfl rfl rfl rfl rfl (vu (.oclo 68 4 [(.ref (i6 a0) [] []), (.ref (eSi64 a2) [] [])]) [(3, (bf (i6 a0))), (5, (bf (eSi64 a2)))] rfl trivial rfl ?_)))))
  obtain ⟨r8, hr9, h⟩ := bind_some h
  refine a_callG (args := [(i6 a0), (.mclo 68 (eSi64 r4) [(.ref (i6 a0) [] []), (.ref (eSi64 a2) [] [])])]) (i := 1) (id := 4) (r := (eSi64 r8)) rfl rfl (impl_prime_relation_of_impl_prime_annihilator_c1_ok a0 r4 a0 a2 r8 hr9) rfl (vp (eSi64 r8) rfl (nx _ rfl (a_ret ?_)))
  refine ⟨.inr rfl, ?_⟩
  rw [Try.results30]
  cases h
  exact ⟨_, _, _, _, _, rfl, trivial, .inl ⟨rfl, .inl rfl⟩, rfl, rfl⟩
def impl_prime_scale_c : ACode := (.seq (.region 0 [q 6 (.asg 1 (.const (.slice none 0 0)) 42)] false) (.seq (.region 1 [q 7 (.mov (t 0)), q 8 (.mov (t 1)), q 9 (.mov (t 2)), q 10 (.call 0 (.func 90) [(t 7), (.const (.slice none 0 0)), (t 8), (t 9)]), q 6 (.asg 1 (t 10) 42)] false) .ret))
def impl_prime_scale_L : Live := [(0, [0, 1, 2]), (1, [0, 1, 2])]
noncomputable def impl_prime_scale (a0 : Int) (a1 : (List Int)) (a2 : Int) : Option (List Int) :=
  (Option.bind (impl_prime_combine a0 ([]) a1 a2) fun r1 => (some r1))
theorem impl_prime_scale_ok (a0 : Int) (a1 : (List Int)) (a2 : Int) (r : (List Int)) (h : impl_prime_scale a0 a1 a2 = some r) : Den Try.prog 114 [(i6 a0), (eSi64 a1), (i6 a2)] { r := (eSi64 r) } := by
  refine den_of (rs := [(eSi64 r)]) (ac := impl_prime_scale_c) (L := impl_prime_scale_L) (n := 11) (m := [(6, 1)]) (c := Try.f114.body.getD .skip) good Try.func114 (by kernel_rfl) (by kernel_rfl) Try.ntmps114 rfl rfl (by kernel_rfl) rfl rfl ?_
  refine a_st (σ' := ⟨[(0, (i6 a0)), (1, (eSi64 a1)), (2, (i6 a2))], []⟩) (by kernel_rfl) ?_
  unfold impl_prime_scale_c
  refine sr (vp (eSi64 ([])) rfl (nx ⟨[(0, (i6 a0)), (1, (eSi64 a1)), (2, (i6 a2))], []⟩ (by kernel_rfl) (sr (vp (i6 a0) rfl (vp (eSi64 a1) rfl (vp (i6 a2) rfl ?_))))))
  obtain ⟨r1, hr2, h⟩ := bind_some h
  refine a_call (args := [(i6 a0), (.sl 0 true []), (eSi64 a1), (i6 a2)]) (u := []) (r := (eSi64 r1)) rfl rfl (Den.args (impl_prime_combine_ok a0 ([]) a1 a2 r1 hr2) rfl rfl (.cons (.refl _) (.cons (.nil _ _ _ _ (fun _ => rfl)) (.cons (.refl _) (.cons (.refl _) .nil))))) rfl (vp (eSi64 r1) rfl (nx _ rfl (a_ret ?_)))
  refine ⟨.inr rfl, ?_⟩
  rw [Try.results114]
  cases h
  exact ⟨_, _, _, _, _, rfl, trivial, .inl ⟨rfl, .inl rfl⟩, rfl, rfl⟩
def impl_prime_bezout_c : ACode := (.seq (.region 0 [q 6 (.asg 1 (.const (.slice none 0 0)) 42), q 7 (.asg 1 (.const (.slice none 0 0)) 42), q 8 (.asg 1 (.const (.slice none 0 0)) 42)] false) (.seq (.region 1 [q 16 (.bslice 0 42 1 [(0, (.const (.int .i64 1)))]), q 9 (.asg 1 (t 16) 42), q 10 (.asg 1 (.const (.slice none 0 0)) 42)] false) (.seq (.region 2 [q 17 (.bslice 0 42 1 [(0, (.const (.int .i64 1)))]), q 11 (.asg 1 (.const (.slice none 0 0)) 42), q 12 (.asg 1 (t 17) 42)] false) (.seq (.block 0 (.loop (.seq (.seq (.region 3 [q 18 (.mov (t 2)), q 19 (.blt 0 .len [(t 18)] [42]), q 20 (.bin .gtr 3 (t 19) (.const (.int .i64 0)))] false) (.cond (t 20) .skip (.exit 0))) (.block 1 (.seq (.region 4 [q 22 (.mov (t 0)), q 23 (.mov (t 1)), q 24 (.mov (t 2)), q 25 (.call 0 (.func 63) [(t 22), (t 23), (t 24)]), q 21 (.mov (t 25)), q 26 (.extract (t 21) 0), q 27 (.extract (t 21) 1), q 13 (.asg 1 (t 26) 42), q 14 (.asg 1 (t 27) 42)] false) (.seq (.region 5 [q 28 (.mov (t 2)), q 29 (.mov (t 14)), q 1 (.asg 1 (t 28) 42), q 2 (.asg 1 (t 29) 42)] false) (.seq (.region 6 [q 30 (.mov (t 11)), q 31 (.mov (t 0)), q 32 (.mov (t 9)), q 33 (.mov (t 0)), q 34 (.mov (t 13)), q 35 (.mov (t 11)), q 36 (.call 0 (.func 64) [(t 33), (t 34), (t 35)]), q 37 (.call 0 (.func 90) [(t 31), (t 32), (t 36), (.const (.int .i64 (-1)))]), q 9 (.asg 1 (t 30) 42), q 11 (.asg 1 (t 37) 42)] false) (.region 7 [q 38 (.mov (t 12)), q 39 (.mov (t 0)), q 40 (.mov (t 10)), q 41 (.mov (t 0)), q 42 (.mov (t 13)), q 43 (.mov (t 12)), q 44 (.call 0 (.func 64) [(t 41), (t 42), (t 43)]), q 45 (.call 0 (.func 90) [(t 39), (t 40), (t 44), (.const (.int .i64 (-1)))]), q 10 (.asg 1 (t 38) 42), q 12 (.asg 1 (t 45) 42)] false)))))))) (.seq (.region 8 [q 46 (.mov (t 0)), q 47 (.mov (t 1)), q 48 (.call 0 (.func 89) [(t 47)]), q 49 (.call 0 (.func 98) [(t 46), (t 48)]), q 15 (.asg 0 (t 49) 2)] false) (.seq (.region 9 [q 50 (.mov (t 0)), q 51 (.mov (t 1)), q 52 (.mov (t 15)), q 53 (.call 0 (.func 114) [(t 50), (t 51), (t 52)]), q 54 (.mov (t 0)), q 55 (.mov (t 9)), q 56 (.mov (t 15)), q 57 (.call 0 (.func 114) [(t 54), (t 55), (t 56)]), q 58 (.mov (t 0)), q 59 (.mov (t 10)), q 60 (.mov (t 15)), q 61 (.call 0 (.func 114) [(t 58), (t 59), (t 60)]), q 6 (.asg 1 (t 53) 42), q 7 (.asg 1 (t 57) 42), q 8 (.asg 1 (t 61) 42)] false) .ret))))))
def impl_prime_bezout_L : Live := [(0, [0, 1, 2]), (1, [0, 1, 2]), (2, [0, 1, 2, 9, 10]), (3, [0, 1, 2, 9, 10, 11, 12]), (4, [0, 1, 2, 9, 10, 11, 12]), (5, [0, 2, 9, 10, 11, 12, 13, 14]), (6, [0, 1, 2, 9, 10, 11, 12, 13]), (7, [0, 1, 2, 9, 10, 11, 12, 13]), (8, [0, 1, 9, 10]), (9, [0, 1, 9, 10, 15]), (100020, [0, 1, 2, 9, 10, 11, 12, 20])]
noncomputable def impl_prime_bezout_l1 (a0 : Int) (x61 : (List Int)) (x62 : (List Int)) (x63 : (List Int)) (x64 : (List Int)) (x65 : (List Int)) (x66 : (List Int)) : Option (((List Int) × (List Int) × (List Int) × (List Int) × (List Int) × (List Int)) ⊕ ((List Int) × (List Int) × (List Int))) :=
  (if (decide ((x62.length : Int) > 0)) then (Option.bind (impl_prime_divide a0 x61 x62) fun r82 => (Option.bind (impl_prime_times a0 r82.1 x65) fun r84 => (Option.bind (impl_prime_combine a0 x63 r84 (-1)) fun r86 => (Option.bind (impl_prime_times a0 r82.1 x66) fun r88 => (Option.bind (impl_prime_combine a0 x64 r88 (-1)) fun r90 => (some (.inl (x62, r82.2, x65, x66, r86, r90)))))))) else (some (.inr (x61, x63, x64))))
noncomputable def impl_prime_bezout (a0 : Int) (a1 : (List Int)) (a2 : (List Int)) : Option ((List Int) × (List Int) × (List Int)) :=
  (Option.bind (α := ((List Int) × (List Int) × (List Int))) ((loopM (fun s : ((List Int) × (List Int) × (List Int) × (List Int) × (List Int) × (List Int)) => impl_prime_bezout_l1 a0 s.1 s.2.1 s.2.2.1 s.2.2.2.1 s.2.2.2.2.1 s.2.2.2.2.2) (a1, a2, [1], [], [], [1]))) fun ⟨x44, x45, x46⟩ => (Option.bind (impl_row_lead x44) fun r93 => (Option.bind (impl_prime_inverse a0 r93) fun r95 => (Option.bind (impl_prime_scale a0 x44 r95) fun r97 => (Option.bind (impl_prime_scale a0 x45 r95) fun r99 => (Option.bind (impl_prime_scale a0 x46 r95) fun r101 => (some (r97, r99, r101))))))))
theorem impl_prime_bezout_ok (a0 : Int) (a1 : (List Int)) (a2 : (List Int)) (r : ((List Int) × (List Int) × (List Int))) (h : impl_prime_bezout a0 a1 a2 = some r) : Den Try.prog 91 [(i6 a0), (eSi64 a1), (eSi64 a2)] { r := (.tuple [(eSi64 r.1), (eSi64 r.2.1), (eSi64 r.2.2)]) } := by
  refine den_of (rs := [(eSi64 r.1), (eSi64 r.2.1), (eSi64 r.2.2)]) (ac := impl_prime_bezout_c) (L := impl_prime_bezout_L) (n := 62) (m := [(1, 1), (2, 1), (6, 1), (7, 1), (8, 1), (9, 1), (10, 1), (11, 1), (12, 1), (13, 1), (14, 1)]) (c := Try.f91.body.getD .skip) good Try.func91 (by kernel_rfl) (by kernel_rfl) Try.ntmps91 rfl rfl (by kernel_rfl) rfl rfl ?_
  refine a_st (σ' := ⟨[(0, (i6 a0)), (1, (eSi64 a1)), (2, (eSi64 a2))], []⟩) (by kernel_rfl) ?_
  unfold impl_prime_bezout_c
  refine sr (vp (eSi64 ([])) rfl (vp (eSi64 ([])) rfl (vp (eSi64 ([])) rfl (nx ⟨[(0, (i6 a0)), (1, (eSi64 a1)), (2, (eSi64 a2))], []⟩ (by kernel_rfl) (sr (vq (.sl 1 true (([1]).map (AV.int .i64))) rfl ⟨(Nat.le_of_ble_eq_true rfl), (Nat.le_of_ble_eq_true rfl), (all_cons ⟨(Nat.le_of_ble_eq_true rfl), rfl⟩ all_nil)⟩ (vq (eSi64 ([1])) (asg_tight (i := ⟨.int .i64, 1, 8, (.int .i64 0)⟩) (f := (AV.int .i64)) (l := [1]) rfl rfl rfl) trivial (vp (eSi64 ([])) rfl (nx ⟨[(0, (i6 a0)), (1, (eSi64 a1)), (2, (eSi64 a2)), (9, (eSi64 ([1]))), (10, (eSi64 ([])))], []⟩ (by kernel_rfl) ?_)))))))))
  refine sr (vq (.sl 1 true (([1]).map (AV.int .i64))) rfl ⟨(Nat.le_of_ble_eq_true rfl), (Nat.le_of_ble_eq_true rfl), (all_cons ⟨(Nat.le_of_ble_eq_true rfl), rfl⟩ all_nil)⟩ (vp (eSi64 ([])) rfl (vq (eSi64 ([1])) (asg_tight (i := ⟨.int .i64, 1, 8, (.int .i64 0)⟩) (f := (AV.int .i64)) (l := [1]) rfl rfl rfl) trivial (nx ⟨[(0, (i6 a0)), (1, (eSi64 a1)), (2, (eSi64 a2)), (9, (eSi64 ([1]))), (10, (eSi64 ([]))), (11, (eSi64 ([]))), (12, (eSi64 ([1])))], []⟩ (by kernel_rfl) ?_))))
  obtain ⟨y47, hy48, hk49⟩ := bind_some h
  clear h
  refine a_join (emb := fun (s : ((List Int) × (List Int) × (List Int))) => ⟨[(0, (i6 a0)), (1, (eSi64 s.1)), (9, (eSi64 s.2.1)), (10, (eSi64 s.2.2))], []⟩) (pre := fun s => s = y47) ?_ ?_
  · rintro ⟨x44, x45, x46⟩ rfl
    have h := hk49
    refine a_st (σ' := ⟨[(0, (i6 a0)), (1, (eSi64 x44)), (9, (eSi64 x45)), (10, (eSi64 x46))], []⟩) (by kernel_rfl) (sr (vp (i6 a0) rfl (vp (eSi64 x44) rfl ?_)))
    obtain ⟨r93, hr94, h⟩ := bind_some h
    refine a_call (args := [(eSi64 x44)]) (u := []) (r := (i6 r93)) rfl rfl (impl_row_lead_ok x44 r93 hr94) rfl ?_
    obtain ⟨r95, hr96, h⟩ := bind_some h
    refine a_call (args := [(i6 a0), (i6 r93)]) (u := []) (r := (i6 r95)) rfl rfl (impl_prime_inverse_ok a0 r93 r95 hr96) rfl (vp (i6 r95) rfl (nx ⟨[(0, (i6 a0)), (1, (eSi64 x44)), (9, (eSi64 x45)), (10, (eSi64 x46)), (15, (i6 r95))], []⟩ (by kernel_rfl) (sr (vp (i6 a0) rfl (vp (eSi64 x44) rfl (vp (i6 r95) rfl ?_))))))
    obtain ⟨r97, hr98, h⟩ := bind_some h
    refine a_call (args := [(i6 a0), (eSi64 x44), (i6 r95)]) (u := []) (r := (eSi64 r97)) rfl rfl (impl_prime_scale_ok a0 x44 r95 r97 hr98) rfl (vp (i6 a0) rfl (vp (eSi64 x45) rfl (vp (i6 r95) rfl ?_)))
    obtain ⟨r99, hr100, h⟩ := bind_some h
    refine a_call (args := [(i6 a0), (eSi64 x45), (i6 r95)]) (u := []) (r := (eSi64 r99)) rfl rfl (impl_prime_scale_ok a0 x45 r95 r99 hr100) rfl (vp (i6 a0) rfl (vp (eSi64 x46) rfl (vp (i6 r95) rfl ?_)))
    obtain ⟨r101, hr102, h⟩ := bind_some h
    refine a_call (args := [(i6 a0), (eSi64 x46), (i6 r95)]) (u := []) (r := (eSi64 r101)) rfl rfl (impl_prime_scale_ok a0 x46 r95 r101 hr102) rfl (vp (eSi64 r97) rfl (vp (eSi64 r99) rfl (vp (eSi64 r101) rfl (nx _ rfl (a_ret ?_)))))
    refine ⟨.inr rfl, ?_⟩
    rw [Try.results91]
    cases h
    exact ⟨_, _, _, _, _, rfl, trivial, .inl ⟨rfl, .inl rfl⟩, rfl, ⟨_, _, _, _, _, rfl, trivial, .inl ⟨rfl, .inl rfl⟩, rfl, ⟨_, _, _, _, _, rfl, trivial, .inl ⟨rfl, .inl rfl⟩, rfl, rfl⟩⟩⟩
  · have h := hy48
    refine a_block ?_
    refine a_loop (emb := fun (s : ((List Int) × (List Int) × (List Int) × (List Int) × (List Int) × (List Int))) => ⟨[(0, (i6 a0)), (1, (eSi64 s.1)), (2, (eSi64 s.2.1)), (9, (eSi64 s.2.2.1)), (10, (eSi64 s.2.2.2.1)), (11, (eSi64 s.2.2.2.2.1)), (12, (eSi64 s.2.2.2.2.2))], []⟩) (body := (fun s : ((List Int) × (List Int) × (List Int) × (List Int) × (List Int) × (List Int)) => impl_prime_bezout_l1 a0 s.1 s.2.1 s.2.2.1 s.2.2.2.1 s.2.2.2.2.1 s.2.2.2.2.2)) (G := fun q => some q = some y47) h rfl ?_ (by kernel_rfl)
    rintro X78 ⟨x61, x62, x63, x64, x65, x66⟩ x79 h hX80
    have h : impl_prime_bezout_l1 a0 x61 x62 x63 x64 x65 x66 = some x79 := h
    refine a_st (σ' := ⟨[(0, (i6 a0)), (1, (eSi64 x61)), (2, (eSi64 x62)), (9, (eSi64 x63)), (10, (eSi64 x64)), (11, (eSi64 x65)), (12, (eSi64 x66))], []⟩) (by kernel_rfl) (a_seq (sr (vp (eSi64 x62) rfl (vq (i6 (x62.length : Int)) (len_run rfl rfl) trivial (vp (.bool ((decide ((x62.length : Int) > 0)))) rfl (nx ⟨[(0, (i6 a0)), (1, (eSi64 x61)), (2, (eSi64 x62)), (9, (eSi64 x63)), (10, (eSi64 x64)), (11, (eSi64 x65)), (12, (eSi64 x66)), (20, (.bool ((decide ((x62.length : Int) > 0)))))], []⟩ (by kernel_rfl) ?_))))))
    cases hb81 : (decide ((x62.length : Int) > 0))
    · have h := ite_f hb81 h
      refine a_cond_f rfl (a_exit (t_exit ?_))
      cases h
      have h := hX80
      refine t_exit (b_exit ?_)
      exact j_leaf (x61, x63, x64) (Option.some.inj h) (by kernel_rfl)
    · have h := ite_t hb81 h
      refine a_cond_t rfl (a_skip (a_next (σ' := ⟨[(0, (i6 a0)), (1, (eSi64 x61)), (2, (eSi64 x62)), (9, (eSi64 x63)), (10, (eSi64 x64)), (11, (eSi64 x65)), (12, (eSi64 x66))], []⟩) (by kernel_rfl) (a_block (sr (vp (i6 a0) rfl (vp (eSi64 x61) rfl (vp (eSi64 x62) rfl ?_)))))))
      obtain ⟨r82, hr83, h⟩ := bind_some h
      refine a_call (args := [(i6 a0), (eSi64 x61), (eSi64 x62)]) (u := []) (r := (.tuple [(eSi64 r82.1), (eSi64 r82.2)])) rfl rfl (impl_prime_divide_ok a0 x61 x62 r82 hr83) rfl (vp (.tuple [(eSi64 r82.1), (eSi64 r82.2)]) rfl (vb (eSi64 r82.1) rfl rfl (vb (eSi64 r82.2) rfl rfl (vp (eSi64 r82.1) rfl (vp (eSi64 r82.2) rfl (nx ⟨[(0, (i6 a0)), (2, (eSi64 x62)), (9, (eSi64 x63)), (10, (eSi64 x64)), (11, (eSi64 x65)), (12, (eSi64 x66)), (13, (eSi64 r82.1)), (14, (eSi64 r82.2))], []⟩ (by kernel_rfl) (sr (vp (eSi64 x62) rfl (vp (eSi64 r82.2) rfl ?_)))))))))
      refine vp (eSi64 x62) rfl (vp (eSi64 r82.2) rfl (nx ⟨[(0, (i6 a0)), (1, (eSi64 x62)), (2, (eSi64 r82.2)), (9, (eSi64 x63)), (10, (eSi64 x64)), (11, (eSi64 x65)), (12, (eSi64 x66)), (13, (eSi64 r82.1))], []⟩ (by kernel_rfl) (sr (vp (eSi64 x65) rfl (vp (i6 a0) rfl (vp (eSi64 x63) rfl (vp (i6 a0) rfl (vp (eSi64 r82.1) rfl (vp (eSi64 x65) rfl ?_)))))))))
      obtain ⟨r84, hr85, h⟩ := bind_some h
      refine a_call (args := [(i6 a0), (eSi64 r82.1), (eSi64 x65)]) (u := []) (r := (eSi64 r84)) rfl rfl (impl_prime_times_ok a0 r82.1 x65 r84 hr85) rfl ?_
      obtain ⟨r86, hr87, h⟩ := bind_some h
      refine a_call (args := [(i6 a0), (eSi64 x63), (eSi64 r84), (i6 (-1))]) (u := []) (r := (eSi64 r86)) rfl rfl (impl_prime_combine_ok a0 x63 r84 (-1) r86 hr87) rfl (vp (eSi64 x65) rfl (vp (eSi64 r86) rfl (nx ⟨[(0, (i6 a0)), (1, (eSi64 x62)), (2, (eSi64 r82.2)), (9, (eSi64 x65)), (10, (eSi64 x64)), (11, (eSi64 r86)), (12, (eSi64 x66)), (13, (eSi64 r82.1))], []⟩ (by kernel_rfl) (a_region (vp (eSi64 x66) rfl (vp (i6 a0) rfl (vp (eSi64 x64) rfl (vp (i6 a0) rfl (vp (eSi64 r82.1) rfl ?_)))))))))
      refine vp (eSi64 x66) rfl ?_
      obtain ⟨r88, hr89, h⟩ := bind_some h
      refine a_call (args := [(i6 a0), (eSi64 r82.1), (eSi64 x66)]) (u := []) (r := (eSi64 r88)) rfl rfl (impl_prime_times_ok a0 r82.1 x66 r88 hr89) rfl ?_
      obtain ⟨r90, hr91, h⟩ := bind_some h
      refine a_call (args := [(i6 a0), (eSi64 x64), (eSi64 r88), (i6 (-1))]) (u := []) (r := (eSi64 r90)) rfl rfl (impl_prime_combine_ok a0 x64 r88 (-1) r90 hr91) rfl (vp (eSi64 x66) rfl (vp (eSi64 r90) rfl (a_nil (b_norm ?_))))
      cases h
      exact a_again (by kernel_rfl) hX80
def impl_prime_gcd_c : ACode := (.seq (.region 0 [q 6 (.asg 1 (.const (.slice none 0 0)) 42)] false) (.seq (.region 1 [q 11 (.mov (t 0)), q 12 (.mov (t 1)), q 13 (.mov (t 2)), q 14 (.call 0 (.func 91) [(t 11), (t 12), (t 13)]), q 10 (.mov (t 14)), q 15 (.extract (t 10) 0), q 16 (.extract (t 10) 1), q 17 (.extract (t 10) 2), q 7 (.asg 1 (t 15) 42), q 8 (.asg 1 (t 16) 42), q 9 (.asg 1 (t 17) 42)] false) (.seq (.region 2 [q 18 (.mov (t 7)), q 6 (.asg 1 (t 18) 42)] false) .ret)))
def impl_prime_gcd_L : Live := [(0, [0, 1, 2]), (1, [0, 1, 2]), (2, [7])]
noncomputable def impl_prime_gcd (a0 : Int) (a1 : (List Int)) (a2 : (List Int)) : Option (List Int) :=
  (Option.bind (impl_prime_bezout a0 a1 a2) fun r1 => (some r1.1))
theorem impl_prime_gcd_ok (a0 : Int) (a1 : (List Int)) (a2 : (List Int)) (r : (List Int)) (h : impl_prime_gcd a0 a1 a2 = some r) : Den Try.prog 65 [(i6 a0), (eSi64 a1), (eSi64 a2)] { r := (eSi64 r) } := by
  refine den_of (rs := [(eSi64 r)]) (ac := impl_prime_gcd_c) (L := impl_prime_gcd_L) (n := 19) (m := [(6, 1), (7, 1), (8, 1), (9, 1)]) (c := Try.f65.body.getD .skip) good Try.func65 (by kernel_rfl) (by kernel_rfl) Try.ntmps65 rfl rfl (by kernel_rfl) rfl rfl ?_
  refine a_st (σ' := ⟨[(0, (i6 a0)), (1, (eSi64 a1)), (2, (eSi64 a2))], []⟩) (by kernel_rfl) ?_
  unfold impl_prime_gcd_c
  refine sr (vp (eSi64 ([])) rfl (nx ⟨[(0, (i6 a0)), (1, (eSi64 a1)), (2, (eSi64 a2))], []⟩ (by kernel_rfl) (sr (vp (i6 a0) rfl (vp (eSi64 a1) rfl (vp (eSi64 a2) rfl ?_))))))
  obtain ⟨r1, hr2, h⟩ := bind_some h
  refine a_call (args := [(i6 a0), (eSi64 a1), (eSi64 a2)]) (u := []) (r := (.tuple [(eSi64 r1.1), (eSi64 r1.2.1), (eSi64 r1.2.2)])) rfl rfl (impl_prime_bezout_ok a0 a1 a2 r1 hr2) rfl (vp (.tuple [(eSi64 r1.1), (eSi64 r1.2.1), (eSi64 r1.2.2)]) rfl (vb (eSi64 r1.1) rfl rfl (vb (eSi64 r1.2.1) rfl rfl (vb (eSi64 r1.2.2) rfl rfl (vp (eSi64 r1.1) rfl (vp (eSi64 r1.2.1) rfl (vp (eSi64 r1.2.2) rfl (nx ⟨[(7, (eSi64 r1.1))], []⟩ (by kernel_rfl) (sr ?_)))))))))
  refine vp (eSi64 r1.1) rfl (vp (eSi64 r1.1) rfl (nx _ rfl (a_ret ?_)))
  refine ⟨.inr rfl, ?_⟩
  rw [Try.results65]
  cases h
  exact ⟨_, _, _, _, _, rfl, trivial, .inl ⟨rfl, .inl rfl⟩, rfl, rfl⟩
def impl_prime_lcm_c : ACode := (.seq (.region 0 [q 6 (.asg 1 (.const (.slice none 0 0)) 42)] false) (.seq (.region 1 [q 10 (.mov (t 0)), q 11 (.mov (t 0)), q 12 (.mov (t 1)), q 13 (.mov (t 2)), q 14 (.call 0 (.func 64) [(t 11), (t 12), (t 13)]), q 15 (.mov (t 0)), q 16 (.mov (t 1)), q 17 (.mov (t 2)), q 18 (.call 0 (.func 65) [(t 15), (t 16), (t 17)]), q 19 (.call 0 (.func 63) [(t 10), (t 14), (t 18)]), q 9 (.mov (t 19)), q 20 (.extract (t 9) 0), q 21 (.extract (t 9) 1), q 7 (.asg 1 (t 20) 42), q 8 (.asg 1 (t 21) 42)] false) (.seq (.region 2 [q 22 (.mov (t 7)), q 6 (.asg 1 (t 22) 42)] false) .ret)))
def impl_prime_lcm_L : Live := [(0, [0, 1, 2]), (1, [0, 1, 2]), (2, [7])]
noncomputable def impl_prime_lcm (a0 : Int) (a1 : (List Int)) (a2 : (List Int)) : Option (List Int) :=
  (Option.bind (impl_prime_times a0 a1 a2) fun r1 => (Option.bind (impl_prime_gcd a0 a1 a2) fun r3 => (Option.bind (impl_prime_divide a0 r1 r3) fun r5 => (some r5.1))))
theorem impl_prime_lcm_ok (a0 : Int) (a1 : (List Int)) (a2 : (List Int)) (r : (List Int)) (h : impl_prime_lcm a0 a1 a2 = some r) : Den Try.prog 29 [(i6 a0), (eSi64 a1), (eSi64 a2)] { r := (eSi64 r) } := by
  refine den_of (rs := [(eSi64 r)]) (ac := impl_prime_lcm_c) (L := impl_prime_lcm_L) (n := 23) (m := [(6, 1), (7, 1), (8, 1)]) (c := Try.f29.body.getD .skip) good Try.func29 (by kernel_rfl) (by kernel_rfl) Try.ntmps29 rfl rfl (by kernel_rfl) rfl rfl ?_
  refine a_st (σ' := ⟨[(0, (i6 a0)), (1, (eSi64 a1)), (2, (eSi64 a2))], []⟩) (by kernel_rfl) ?_
  unfold impl_prime_lcm_c
  refine sr (vp (eSi64 ([])) rfl (nx ⟨[(0, (i6 a0)), (1, (eSi64 a1)), (2, (eSi64 a2))], []⟩ (by kernel_rfl) (sr (vp (i6 a0) rfl (vp (i6 a0) rfl (vp (eSi64 a1) rfl (vp (eSi64 a2) rfl ?_)))))))
  obtain ⟨r1, hr2, h⟩ := bind_some h
  refine a_call (args := [(i6 a0), (eSi64 a1), (eSi64 a2)]) (u := []) (r := (eSi64 r1)) rfl rfl (impl_prime_times_ok a0 a1 a2 r1 hr2) rfl (vp (i6 a0) rfl (vp (eSi64 a1) rfl (vp (eSi64 a2) rfl ?_)))
  obtain ⟨r3, hr4, h⟩ := bind_some h
  refine a_call (args := [(i6 a0), (eSi64 a1), (eSi64 a2)]) (u := []) (r := (eSi64 r3)) rfl rfl (impl_prime_gcd_ok a0 a1 a2 r3 hr4) rfl ?_
  obtain ⟨r5, hr6, h⟩ := bind_some h
  refine a_call (args := [(i6 a0), (eSi64 r1), (eSi64 r3)]) (u := []) (r := (.tuple [(eSi64 r5.1), (eSi64 r5.2)])) rfl rfl (impl_prime_divide_ok a0 r1 r3 r5 hr6) rfl (vp (.tuple [(eSi64 r5.1), (eSi64 r5.2)]) rfl (vb (eSi64 r5.1) rfl rfl (vb (eSi64 r5.2) rfl rfl (vp (eSi64 r5.1) rfl (vp (eSi64 r5.2) rfl (nx ⟨[(7, (eSi64 r5.1))], []⟩ (by kernel_rfl) (sr (vp (eSi64 r5.1) rfl (vp (eSi64 r5.1) rfl ?_)))))))))
  refine nx _ rfl (a_ret ?_)
  refine ⟨.inr rfl, ?_⟩
  rw [Try.results29]
  cases h
  exact ⟨_, _, _, _, _, rfl, trivial, .inl ⟨rfl, .inl rfl⟩, rfl, rfl⟩
def impl_row_fits_c : ACode := (.seq (.region 0 [q 2 (.asg 0 (.const (.bool false)) 4)] false) (.seq (.region 1 [q 3 (.mov (t 0)), q 4 (.call 0 (.func 28) [(t 3)]), q 5 (.bin .leq 2 (t 4) (.const (.int .i64 63))), q 2 (.asg 0 (t 5) 4)] false) .ret))
def impl_row_fits_L : Live := [(0, [0]), (1, [0])]
noncomputable def impl_row_fits (a0 : (List Int)) : Option Bool :=
  (Option.bind (impl_row_degree a0) fun r1 => (some ((decide (r1 ≤ 63)))))
theorem impl_row_fits_ok (a0 : (List Int)) (r : Bool) (h : impl_row_fits a0 = some r) : Den Try.prog 70 [(eSi64 a0)] { r := (.bool r) } := by
  refine den_of (rs := [(.bool r)]) (ac := impl_row_fits_c) (L := impl_row_fits_L) (n := 6) (m := []) (c := Try.f70.body.getD .skip) good Try.func70 (by kernel_rfl) (by kernel_rfl) Try.ntmps70 rfl rfl (by kernel_rfl) rfl rfl ?_
  refine a_st (σ' := ⟨[(0, (eSi64 a0))], []⟩) (by kernel_rfl) ?_
  unfold impl_row_fits_c
  refine sr (vp (.bool false) rfl (nx ⟨[(0, (eSi64 a0))], []⟩ (by kernel_rfl) (sr (vp (eSi64 a0) rfl ?_))))
  obtain ⟨r1, hr2, h⟩ := bind_some h
  refine a_call (args := [(eSi64 a0)]) (u := []) (r := (i6 r1)) rfl rfl (impl_row_degree_ok a0 r1 hr2) rfl (vp (.bool ((decide (r1 ≤ 63)))) rfl (vp (.bool ((decide (r1 ≤ 63)))) rfl (nx _ rfl (a_ret ?_))))
  refine ⟨.inr rfl, ?_⟩
  rw [Try.results70]
  cases h
  exact ⟨_, _, _, _, _, rfl, trivial, .inl ⟨rfl, .inl rfl⟩, rfl, rfl⟩
def impl_row_poly_c : ACode := (.seq (.region 0 [q 2 (.alloc 26)] false) (.seq (.region 1 [q 3 (.alloc 26)] false) (.seq (.seq (.region 2 [q 6 (.mov (t 0)), q 7 (.blt 0 .len [(t 6)] [42]), q 8 (.mov (.const (.int .i64 0)))] false) (.block 0 (.loop (.seq (.region 3 [q 9 (.bin .lss 3 (t 8) (t 7))] false) (.seq (.cond (t 9) .skip (.exit 0)) (.seq (.block 1 (.seq (.region 4 [q 10 (.mov (t 8)), q 11 (.indexAddr 42 (t 6) (t 8)), q 12 (.load 2 (t 11)), q 4 (.asg 0 (t 10) 3), q 5 (.asg 0 (t 12) 2)] false) (.region 5 [q 13 (.mov (t 4)), q 14 (.mov (t 5)), q 15 (.conv 2 5 (t 14)), q 16 (.indexAddr 26 (t 3) (t 13)), ⟨none, .store 5 (t 16) (t 15), none, []⟩] false))) (.region 6 [q 17 (.bin .add 3 (t 8) (.const (.int .i64 1))), q 8 (.mov (t 17))] false))))))) (.seq (.region 7 [q 18 (.load 26 (t 3)), ⟨none, .store 26 (t 2) (t 18), none, []⟩] false) .ret))))
def impl_row_poly_L : Live := [(0, [0]), (1, [0, 2]), (2, [0, 2, 3]), (3, [2, 3, 6, 7, 8]), (4, [2, 3, 6, 7, 8]), (5, [2, 3, 4, 5, 6, 7, 8]), (6, [2, 3, 6, 7, 8]), (7, [2, 3]), (100009, [2, 3, 6, 7, 8, 9])]
noncomputable def impl_row_poly_l1 (a0 : (List Int)) (x31 : Int) (x32 : (Vec Int 64)) : Option ((Int × (Vec Int 64)) ⊕ (Vec Int 64)) :=
  (if (decide (x31 < (a0.length : Int))) then (ifp (0 ≤ x31 ∧ x31 < ((a0.length : Nat) : Int)) ((ifp (0 ≤ x31 ∧ x31 < ((64 : Nat) : Int)) ((some (.inl ((IntKind.i64.wrap (x31 + 1), (vset x32 x31.toNat (IntKind.u8.wrap (rd a0 x31.toNat))))))))))) else (some (.inr x32)))
noncomputable def impl_row_poly (a0 : (List Int)) : Option (Vec Int 64) :=
  (Option.bind (α := (Vec Int 64)) ((loopM (fun s : (Int × (Vec Int 64)) => impl_row_poly_l1 a0 s.1 s.2) (0, (vrep 64 (0 : Int))))) fun x22 => (some x22))
theorem impl_row_poly_ok (a0 : (List Int)) (r : (Vec Int 64)) (h : impl_row_poly a0 = some r) : Den Try.prog 71 [(eSi64 a0)] { r := (eA64u8 r) } := by
  refine den_of (rs := [(eA64u8 r)]) (ac := impl_row_poly_c) (L := impl_row_poly_L) (n := 19) (m := []) (c := Try.f71.body.getD .skip) good Try.func71 (by kernel_rfl) (by kernel_rfl) Try.ntmps71 rfl rfl (by kernel_rfl) rfl rfl ?_
  refine a_st (σ' := ⟨[(0, (eSi64 a0))], []⟩) (by kernel_rfl) ?_
  unfold impl_row_poly_c
  refine sr (vo 1200 (eA64u8 ((vrep 64 (0 : Int)))) rfl rfl (nx ⟨[(0, (eSi64 a0)), (2, (ow 2))], [(2, (bk (eA64u8 ((vrep 64 (0 : Int))))))]⟩ (by kernel_rfl) (sr (vo 1300 (eA64u8 ((vrep 64 (0 : Int)))) rfl rfl (nx ⟨[(0, (eSi64 a0)), (2, (ow 2)), (3, (ow 3))], [(2, (bk (eA64u8 ((vrep 64 (0 : Int)))))), (3, (bk (eA64u8 ((vrep 64 (0 : Int))))))]⟩ (by kernel_rfl) ?_)))))
  obtain ⟨y23, hy24, hk25⟩ := bind_some h
  clear h
  refine a_join (emb := fun (s : (Vec Int 64)) => ⟨[(2, (ow 2)), (3, (ow 3))], [(2, (bk (eA64u8 ((vrep 64 (0 : Int)))))), (3, (bk (eA64u8 s)))]⟩) (pre := fun s => s = y23) ?_ ?_
  · rintro x22 rfl
    have h := hk25
    refine a_st (σ' := ⟨[(2, (ow 2)), (3, (ow 3))], [(2, (bk (eA64u8 ((vrep 64 (0 : Int)))))), (3, (bk (eA64u8 x22)))]⟩) (by kernel_rfl) (sr (vl (eA64u8 x22) rfl rfl rfl rfl rfl rfl (vs (eA64u8 x22) rfl rfl (fun _ => rfl) rfl rfl rfl rfl rfl rfl (nx _ rfl (a_ret ?_)))))
    have hl49 : LdOk [] (eA64u8 x22) [] 64 true (eA64u8 x22) := (.nil rfl rfl rfl)
    refine ⟨.inr rfl, ?_⟩
    rw [Try.results71]
    cases h
    exact ⟨_, _, _, _, _, ld_own (i := ⟨.arr 64 5, 64, 64, (eA64u8 (vrep 64 (0 : Int)))⟩) rfl rfl rfl hl49, hl49.c, .inl ⟨rfl, .inl rfl⟩, rfl, rfl⟩
  · have h := hy24
    refine sr (vp (eSi64 a0) rfl (vq (i6 (a0.length : Int)) (len_run rfl rfl) trivial (vp (i6 0) rfl (nx ⟨[(2, (ow 2)), (3, (ow 3)), (6, (eSi64 a0)), (7, (i6 (a0.length : Int))), (8, (i6 0))], [(2, (bk (eA64u8 ((vrep 64 (0 : Int)))))), (3, (bk (eA64u8 ((vrep 64 (0 : Int))))))]⟩ (by kernel_rfl) (a_block ?_)))))
    refine a_loop (emb := fun (s : (Int × (Vec Int 64))) => ⟨[(2, (ow 2)), (3, (ow 3)), (6, (eSi64 a0)), (7, (i6 (a0.length : Int))), (8, (i6 s.1))], [(2, (bk (eA64u8 ((vrep 64 (0 : Int)))))), (3, (bk (eA64u8 s.2)))]⟩) (body := (fun s : (Int × (Vec Int 64)) => impl_row_poly_l1 a0 s.1 s.2)) (G := fun q => some q = some y23) h rfl ?_ (by kernel_rfl)
    rintro X38 ⟨x31, x32⟩ x39 h hX40
    have h : impl_row_poly_l1 a0 x31 x32 = some x39 := h
    refine a_st (σ' := ⟨[(2, (ow 2)), (3, (ow 3)), (6, (eSi64 a0)), (7, (i6 (a0.length : Int))), (8, (i6 x31))], [(2, (bk (eA64u8 ((vrep 64 (0 : Int)))))), (3, (bk (eA64u8 x32)))]⟩) (by kernel_rfl) (sr (vp (.bool ((decide (x31 < (a0.length : Int))))) rfl (nx ⟨[(2, (ow 2)), (3, (ow 3)), (6, (eSi64 a0)), (7, (i6 (a0.length : Int))), (8, (i6 x31)), (9, (.bool ((decide (x31 < (a0.length : Int))))))], [(2, (bk (eA64u8 ((vrep 64 (0 : Int)))))), (3, (bk (eA64u8 x32)))]⟩ (by kernel_rfl) (a_seq ?_))))
    cases hb41 : (decide (x31 < (a0.length : Int)))
    · have h := ite_f hb41 h
      refine a_cond_f rfl (a_exit (t_exit ?_))
      cases h
      have h := hX40
      refine t_exit (b_exit ?_)
      exact j_leaf x32 (Option.some.inj h) (by kernel_rfl)
    · have h := ite_t hb41 h
      refine a_cond_t rfl (a_skip (a_next (σ' := ⟨[(2, (ow 2)), (3, (ow 3)), (6, (eSi64 a0)), (7, (i6 (a0.length : Int))), (8, (i6 x31))], [(2, (bk (eA64u8 ((vrep 64 (0 : Int)))))), (3, (bk (eA64u8 x32)))]⟩) (by kernel_rfl) (a_seq (a_block (sr (vp (i6 x31) rfl ?_))))))
      obtain ⟨hc42, h⟩ := ifp_some h
      refine vq (.ref (.row 1 (a0.map (AV.int .i64))) [x31.toNat] [x31.toNat * 1]) rfl (lmap hc42) ?_
      have hl43 : LdOk [x31.toNat] (.row 1 (a0.map (AV.int .i64))) [x31.toNat * 1] 1 false (i6 (rd a0 x31.toNat)) := (.row (llt hc42) rfl (.nil rfl rfl rfl))
      refine vq (i6 (rd a0 x31.toNat)) (ld_ref (i := ⟨.int .i64, 1, 8, (.int .i64 0)⟩) rfl rfl hl43) hl43.c (vp (i6 x31) rfl (vp (i6 (rd a0 x31.toNat)) rfl (nx ⟨[(2, (ow 2)), (3, (ow 3)), (4, (i6 x31)), (5, (i6 (rd a0 x31.toNat))), (6, (eSi64 a0)), (7, (i6 (a0.length : Int))), (8, (i6 x31))], [(2, (bk (eA64u8 ((vrep 64 (0 : Int)))))), (3, (bk (eA64u8 x32)))]⟩ (by kernel_rfl) (a_region (vp (i6 x31) rfl (vp (i6 (rd a0 x31.toNat)) rfl (vp (b8 (IntKind.u8.wrap (rd a0 x31.toNat))) rfl ?_)))))))
      obtain ⟨hc44, h⟩ := ifp_some h
      refine vq (.own 3 [x31.toNat] [x31.toNat * 1]) rfl hc44 ?_
      have hs45 : StOk [x31.toNat] (eA64u8 x32) [x31.toNat * 1] 1 (b8 (IntKind.u8.wrap (rd a0 x31.toNat))) (eA64u8 ((vset x32 x31.toNat (IntKind.u8.wrap (rd a0 x31.toNat))))) := (.arr (y := IntKind.u8.wrap (rd a0 x31.toNat)) (vlt x32 hc44) rfl (.nil rfl rfl rfl rfl))
      refine vu .top [(3, (bk (eA64u8 ((vset x32 x31.toNat (IntKind.u8.wrap (rd a0 x31.toNat)))))))] (st_own (i := ⟨.int .u8, 1, 1, (.int .u8 0)⟩) rfl rfl (fun _ => rfl) rfl hs45) (hs45.c rfl) rfl (a_nil (b_norm (a_next (σ' := ⟨[(2, (ow 2)), (3, (ow 3)), (6, (eSi64 a0)), (7, (i6 (a0.length : Int))), (8, (i6 x31))], [(2, (bk (eA64u8 ((vrep 64 (0 : Int)))))), (3, (bk (eA64u8 ((vset x32 x31.toNat (IntKind.u8.wrap (rd a0 x31.toNat)))))))]⟩) (by kernel_rfl) (a_region (vp (i6 (IntKind.i64.wrap (x31 + 1))) rfl (vp (i6 (IntKind.i64.wrap (x31 + 1))) rfl (a_nil ?_)))))))
      cases h
      exact a_again (by kernel_rfl) hX40
def impl_told_c : ACode := (.seq (.region 0 [q 2 (.alloc 26), q 3 (.asg 0 (.const (.int .i64 0)) 2)] false) (.seq (.seq (.region 1 [q 4 (.mov (t 0)), q 5 (.call 0 (.func 70) [(t 4)]), q 6 (.un .not (t 5))] false) (.cond (t 6) (.seq (.region 2 [q 7 (.build 26 []), ⟨none, .store 26 (t 2) (t 7), none, []⟩, q 3 (.asg 0 (.const (.int .i64 3)) 2)] false) .ret) .skip)) (.seq (.region 3 [q 8 (.mov (t 0)), q 9 (.call 0 (.func 71) [(t 8)]), ⟨none, .store 26 (t 2) (t 9), none, []⟩, q 3 (.asg 0 (.const (.int .i64 0)) 2)] false) .ret)))
def impl_told_L : Live := [(0, [0]), (1, [0, 2]), (2, [2]), (3, [0, 2]), (100006, [0, 2, 6])]
noncomputable def impl_told (a0 : (List Int)) : Option ((Vec Int 64) × Int) :=
  (Option.bind (impl_row_fits a0) fun r1 => (if (!r1) then (some (((vrep 64 (0 : Int)), 3))) else (Option.bind (impl_row_poly a0) fun r4 => (some (r4, 0)))))
theorem impl_told_ok (a0 : (List Int)) (r : ((Vec Int 64) × Int)) (h : impl_told a0 = some r) : Den Try.prog 33 [(eSi64 a0)] { r := (.tuple [(eA64u8 r.1), (i6 r.2)]) } := by
  refine den_of (rs := [(eA64u8 r.1), (i6 r.2)]) (ac := impl_told_c) (L := impl_told_L) (n := 10) (m := []) (c := Try.f33.body.getD .skip) good Try.func33 (by kernel_rfl) (by kernel_rfl) Try.ntmps33 rfl rfl (by kernel_rfl) rfl rfl ?_
  refine a_st (σ' := ⟨[(0, (eSi64 a0))], []⟩) (by kernel_rfl) ?_
  unfold impl_told_c
  refine sr (vo 1200 (eA64u8 ((vrep 64 (0 : Int)))) rfl rfl (vp (i6 0) rfl (nx ⟨[(0, (eSi64 a0)), (2, (ow 2))], [(2, (bk (eA64u8 ((vrep 64 (0 : Int))))))]⟩ (by kernel_rfl) (a_seq (sr (vp (eSi64 a0) rfl ?_))))))
  obtain ⟨r1, hr2, h⟩ := bind_some h
  refine a_call (args := [(eSi64 a0)]) (u := []) (r := (.bool r1)) rfl rfl (impl_row_fits_ok a0 r1 hr2) rfl (vp (.bool (!r1)) rfl (nx ⟨[(0, (eSi64 a0)), (2, (ow 2)), (6, (.bool (!r1)))], [(2, (bk (eA64u8 ((vrep 64 (0 : Int))))))]⟩ (by kernel_rfl) ?_))
  cases hb3 : (!r1)
  · have h := ite_f hb3 h
    refine a_cond_f rfl (a_skip (a_next (σ' := ⟨[(0, (eSi64 a0)), (2, (ow 2))], [(2, (bk (eA64u8 ((vrep 64 (0 : Int))))))]⟩) (by kernel_rfl) (sr (vp (eSi64 a0) rfl ?_))))
    obtain ⟨r4, hr5, h⟩ := bind_some h
    refine a_call (args := [(eSi64 a0)]) (u := []) (r := (eA64u8 r4)) rfl rfl (impl_row_poly_ok a0 r4 hr5) rfl (vs (eA64u8 r4) rfl rfl (fun _ => rfl) rfl rfl rfl rfl rfl rfl (vp (i6 0) rfl (nx _ rfl (a_ret ?_))))
    have hl7 : LdOk [] (eA64u8 r4) [] 64 true (eA64u8 r4) := (.nil rfl rfl rfl)
    refine ⟨.inr rfl, ?_⟩
    rw [Try.results33]
    cases h
    exact ⟨_, _, _, _, _, ld_own (i := ⟨.arr 64 5, 64, 64, (eA64u8 (vrep 64 (0 : Int)))⟩) rfl rfl rfl hl7, hl7.c, .inl ⟨rfl, .inl rfl⟩, rfl, ⟨_, _, _, _, _, rfl, trivial, .inl ⟨rfl, .inl rfl⟩, rfl, rfl⟩⟩
  · have h := ite_t hb3 h
    refine a_cond_t rfl (sr (vq (eA64u8 ((vrep 64 (0 : Int)))) rfl ⟨⟨_, rfl, rfl⟩, all_nil⟩ (vs (eA64u8 ((vrep 64 (0 : Int)))) rfl rfl (fun _ => rfl) rfl rfl rfl rfl rfl rfl (vp (i6 3) rfl (nx _ rfl (a_ret (t_ret ?_)))))))
    have hl9 : LdOk [] (eA64u8 ((vrep 64 (0 : Int)))) [] 64 true (eA64u8 ((vrep 64 (0 : Int)))) := (.nil rfl rfl rfl)
    refine ⟨.inr rfl, ?_⟩
    rw [Try.results33]
    cases h
    exact ⟨_, _, _, _, _, ld_own (i := ⟨.arr 64 5, 64, 64, (eA64u8 (vrep 64 (0 : Int)))⟩) rfl rfl rfl hl9, hl9.c, .inl ⟨rfl, .inl rfl⟩, rfl, ⟨_, _, _, _, _, rfl, trivial, .inl ⟨rfl, .inl rfl⟩, rfl, rfl⟩⟩
def impl_ExponentOf_c : ACode := (.seq (.region 0 [q 3 (.box 26 (t 1)), q 4 (.alloc 26), q 5 (.asg 0 (.const (.int .i64 0)) 2)] false) (.seq (.seq (.region 1 [q 11 (.mov (t 0)), q 12 (.load 26 (t 3)), q 13 (.call 0 (.func 26) [(t 11), (t 12), (.const (.slice none 0 0))]), q 6 (.asg 0 (t 13) 2)] false) (.seq (.region 2 [q 14 (.mov (t 6)), q 15 (.bin .neq 2 (t 14) (.const (.int .i64 0)))] false) (.cond (t 15) (.seq (.region 3 [q 16 (.build 26 []), q 17 (.mov (t 6)), ⟨none, .store 26 (t 4) (t 16), none, []⟩, q 5 (.asg 0 (t 17) 2)] false) .ret) .skip))) (.seq (.region 4 [q 18 (.mov (t 0)), q 19 (.load 26 (t 3)), q 20 (.call 0 (.func 27) [(t 19)]), q 7 (.asg 0 (t 18) 41), q 8 (.asg 1 (t 20) 42)] false) (.seq (.region 5 [q 21 (.bslice 0 42 1 [(0, (.const (.int .i64 1)))]), q 9 (.asg 1 (t 21) 42)] false) (.seq (.seq (.region 6 [q 22 (.mov (t 8)), q 23 (.call 0 (.func 28) [(t 22)]), q 24 (.mov (.const (.int .i64 0)))] false) (.block 0 (.loop (.seq (.region 7 [q 25 (.bin .lss 2 (t 24) (t 23))] false) (.seq (.cond (t 25) .skip (.exit 0)) (.seq (.block 1 (.seq (.region 8 [q 26 (.mov (t 24)), q 10 (.asg 0 (t 26) 2)] false) (.region 9 [q 27 (.mov (t 7)), q 28 (.mov (t 9)), q 29 (.mov (t 7)), q 30 (.mov (t 7)), q 31 (.mov (t 7)), q 32 (.mov (t 10)), q 33 (.call 0 (.func 32) [(t 31), (t 32), (.const (.int .i64 1099511627776))]), q 34 (.call 0 (.func 31) [(t 30), (t 33)]), q 35 (.mov (t 8)), q 36 (.call 0 (.func 30) [(t 29), (t 34), (t 35)]), q 37 (.call 0 (.func 29) [(t 27), (t 28), (t 36)]), q 9 (.asg 1 (t 37) 42)] false))) (.region 10 [q 38 (.bin .add 2 (t 24) (.const (.int .i64 1))), q 24 (.mov (t 38))] false))))))) (.seq (.region 11 [q 39 (.mov (t 9)), q 40 (.call 0 (.func 33) [(t 39)]), q 41 (.extract (t 40) 0), q 42 (.extract (t 40) 1), ⟨none, .store 26 (t 4) (t 41), none, []⟩, q 5 (.asg 0 (t 42) 2)] false) .ret))))))
def impl_ExponentOf_L : Live := [(0, [0, 1]), (1, [0, 3, 4]), (2, [0, 3, 4, 6]), (3, [4, 6]), (4, [0, 3, 4]), (5, [4, 7, 8]), (6, [4, 7, 8, 9]), (7, [4, 7, 8, 9, 23, 24]), (8, [4, 7, 8, 9, 23, 24]), (9, [4, 7, 8, 9, 10, 23, 24]), (10, [4, 7, 8, 9, 23, 24]), (11, [4, 9]), (100015, [0, 3, 4, 6, 15]), (100025, [4, 7, 8, 9, 23, 24, 25])]
noncomputable def impl_ExponentOf_l1 (r47 : Int) (a0 : Int) (r6 : (List Int)) (x58 : (List Int)) (x59 : Int) : Option (((List Int) × Int) ⊕ (List Int)) :=
  (if (decide (x59 < r47)) then (Option.bind (impl_prime_norm a0 x59 1099511627776) fun r73 => (Option.bind (impl_prime_numbered a0 r73) fun r75 => (Option.bind (impl_prime_annihilator a0 r75 r6) fun r77 => (Option.bind (impl_prime_lcm a0 x58 r77) fun r79 => (some (.inl ((r79, IntKind.i64.wrap (x59 + 1))))))))) else (some (.inr x58)))
noncomputable def impl_ExponentOf (a0 : Int) (a1 : (Vec Int 64)) : Option ((Vec Int 64) × Int) :=
  (Option.bind (impl_modulusCode_of_sl a0 a1 ([])) fun r2 => (if (r2 != 0) then (some (((vrep 64 (0 : Int)), r2))) else (Option.bind (impl_rowOf a1) fun r6 => (Option.bind (α := (List Int)) ((Option.bind (impl_row_degree r6) fun r47 => (loopM (fun s : ((List Int) × Int) => impl_ExponentOf_l1 r47 a0 r6 s.1 s.2) ([1], 0)))) fun x43 => (Option.bind (impl_told x43) fun r82 => (some (r82.1, r82.2)))))))
theorem impl_ExponentOf_ok (a0 : Int) (a1 : (Vec Int 64)) (r : ((Vec Int 64) × Int)) (h : impl_ExponentOf a0 a1 = some r) : Den Try.prog 13 [(i6 a0), (eA64u8 a1)] { r := (.tuple [(eA64u8 r.1), (i6 r.2)]) } := by
  refine den_of (rs := [(eA64u8 r.1), (i6 r.2)]) (ac := impl_ExponentOf_c) (L := impl_ExponentOf_L) (n := 43) (m := [(8, 1), (9, 1)]) (c := Try.f13.body.getD .skip) good Try.func13 (by kernel_rfl) (by kernel_rfl) Try.ntmps13 rfl rfl (by kernel_rfl) rfl rfl ?_
  refine a_st (σ' := ⟨[(0, (i6 a0)), (1, (eA64u8 a1))], []⟩) (by kernel_rfl) ?_
  unfold impl_ExponentOf_c
  refine sr (vo 1300 (eA64u8 a1) rfl rfl (vo 1400 (eA64u8 ((vrep 64 (0 : Int)))) rfl rfl (vp (i6 0) rfl (nx ⟨[(0, (i6 a0)), (3, (ow 3)), (4, (ow 4))], [(3, (bk (eA64u8 a1))), (4, (bk (eA64u8 ((vrep 64 (0 : Int))))))]⟩ (by kernel_rfl) (a_seq (sr (vp (i6 a0) rfl (vl (eA64u8 a1) rfl rfl rfl rfl rfl rfl ?_))))))))
  obtain ⟨r2, hr3, h⟩ := bind_some h
  refine a_call (args := [(i6 a0), (eA64u8 a1), (.sl 0 true [])]) (u := []) (r := (i6 r2)) rfl rfl (Den.args (impl_modulusCode_of_sl_ok a0 a1 ([]) r2 hr3) rfl rfl (.cons (.refl _) (.cons (.refl _) (.cons (.nil _ _ _ _ (fun _ => rfl)) .nil)))) rfl (vp (i6 r2) rfl (nx ⟨[(0, (i6 a0)), (3, (ow 3)), (4, (ow 4)), (6, (i6 r2))], [(3, (bk (eA64u8 a1))), (4, (bk (eA64u8 ((vrep 64 (0 : Int))))))]⟩ (by kernel_rfl) (sr (vp (i6 r2) rfl (vp (.bool (r2 != 0)) rfl (nx ⟨[(0, (i6 a0)), (3, (ow 3)), (4, (ow 4)), (6, (i6 r2)), (15, (.bool (r2 != 0)))], [(3, (bk (eA64u8 a1))), (4, (bk (eA64u8 ((vrep 64 (0 : Int))))))]⟩ (by kernel_rfl) ?_))))))
  cases hb4 : (r2 != 0)
  · have h := ite_f hb4 h
    refine a_cond_f rfl (a_skip (a_next (σ' := ⟨[(0, (i6 a0)), (3, (ow 3)), (4, (ow 4))], [(3, (bk (eA64u8 a1))), (4, (bk (eA64u8 ((vrep 64 (0 : Int))))))]⟩) (by kernel_rfl) (sr (vp (i6 a0) rfl (vl (eA64u8 a1) rfl rfl rfl rfl rfl rfl ?_)))))
    obtain ⟨r6, hr7, h⟩ := bind_some h
    refine a_call (args := [(eA64u8 a1)]) (u := []) (r := (eSi64 r6)) rfl rfl (impl_rowOf_ok a1 r6 hr7) rfl (vp (i6 a0) rfl (vp (eSi64 r6) rfl (nx ⟨[(4, (ow 4)), (7, (i6 a0)), (8, (eSi64 r6))], [(4, (bk (eA64u8 ((vrep 64 (0 : Int))))))]⟩ (by kernel_rfl) (sr (vq (.sl 1 true (([1]).map (AV.int .i64))) rfl ⟨(Nat.le_of_ble_eq_true rfl), (Nat.le_of_ble_eq_true rfl), (all_cons ⟨(Nat.le_of_ble_eq_true rfl), rfl⟩ all_nil)⟩ (vq (eSi64 ([1])) (asg_tight (i := ⟨.int .i64, 1, 8, (.int .i64 0)⟩) (f := (AV.int .i64)) (l := [1]) rfl rfl rfl) trivial (nx ⟨[(4, (ow 4)), (7, (i6 a0)), (8, (eSi64 r6)), (9, (eSi64 ([1])))], [(4, (bk (eA64u8 ((vrep 64 (0 : Int))))))]⟩ (by kernel_rfl) ?_)))))))
    obtain ⟨y44, hy45, hk46⟩ := bind_some h
    clear h
    refine a_join (emb := fun (s : (List Int)) => ⟨[(4, (ow 4)), (9, (eSi64 s))], [(4, (bk (eA64u8 ((vrep 64 (0 : Int))))))]⟩) (pre := fun s => s = y44) ?_ ?_
    · rintro x43 rfl
      have h := hk46
      refine a_st (σ' := ⟨[(4, (ow 4)), (9, (eSi64 x43))], [(4, (bk (eA64u8 ((vrep 64 (0 : Int))))))]⟩) (by kernel_rfl) (sr (vp (eSi64 x43) rfl ?_))
      obtain ⟨r82, hr83, h⟩ := bind_some h
      refine a_call (args := [(eSi64 x43)]) (u := []) (r := (.tuple [(eA64u8 r82.1), (i6 r82.2)])) rfl rfl (impl_told_ok x43 r82 hr83) rfl (vb (eA64u8 r82.1) rfl rfl (vb (i6 r82.2) rfl rfl (vs (eA64u8 r82.1) rfl rfl (fun _ => rfl) rfl rfl rfl rfl rfl rfl (vp (i6 r82.2) rfl (nx _ rfl (a_ret ?_))))))
      have hl85 : LdOk [] (eA64u8 r82.1) [] 64 true (eA64u8 r82.1) := (.nil rfl rfl rfl)
      refine ⟨.inr rfl, ?_⟩
      rw [Try.results13]
      cases h
      exact ⟨_, _, _, _, _, ld_own (i := ⟨.arr 64 5, 64, 64, (eA64u8 (vrep 64 (0 : Int)))⟩) rfl rfl rfl hl85, hl85.c, .inl ⟨rfl, .inl rfl⟩, rfl, ⟨_, _, _, _, _, rfl, trivial, .inl ⟨rfl, .inl rfl⟩, rfl, rfl⟩⟩
    · have h := hy45
      refine sr (vp (eSi64 r6) rfl ?_)
      obtain ⟨r47, hr48, h⟩ := bind_some h
      refine a_call (args := [(eSi64 r6)]) (u := []) (r := (i6 r47)) rfl rfl (impl_row_degree_ok r6 r47 hr48) rfl (vp (i6 0) rfl (nx ⟨[(4, (ow 4)), (7, (i6 a0)), (8, (eSi64 r6)), (9, (eSi64 ([1]))), (23, (i6 r47)), (24, (i6 0))], [(4, (bk (eA64u8 ((vrep 64 (0 : Int))))))]⟩ (by kernel_rfl) (a_block ?_)))
      refine a_loop (emb := fun (s : ((List Int) × Int)) => ⟨[(4, (ow 4)), (7, (i6 a0)), (8, (eSi64 r6)), (9, (eSi64 s.1)), (23, (i6 r47)), (24, (i6 s.2))], [(4, (bk (eA64u8 ((vrep 64 (0 : Int))))))]⟩) (body := (fun s : ((List Int) × Int) => impl_ExponentOf_l1 r47 a0 r6 s.1 s.2)) (G := fun q => some q = some y44) h rfl ?_ (by kernel_rfl)
      rintro X69 ⟨x58, x59⟩ x70 h hX71
      have h : impl_ExponentOf_l1 r47 a0 r6 x58 x59 = some x70 := h
      refine a_st (σ' := ⟨[(4, (ow 4)), (7, (i6 a0)), (8, (eSi64 r6)), (9, (eSi64 x58)), (23, (i6 r47)), (24, (i6 x59))], [(4, (bk (eA64u8 ((vrep 64 (0 : Int))))))]⟩) (by kernel_rfl) (sr (vp (.bool ((decide (x59 < r47)))) rfl (nx ⟨[(4, (ow 4)), (7, (i6 a0)), (8, (eSi64 r6)), (9, (eSi64 x58)), (23, (i6 r47)), (24, (i6 x59)), (25, (.bool ((decide (x59 < r47)))))], [(4, (bk (eA64u8 ((vrep 64 (0 : Int))))))]⟩ (by kernel_rfl) (a_seq ?_))))
      cases hb72 : (decide (x59 < r47))
      · have h := ite_f hb72 h
        refine a_cond_f rfl (a_exit (t_exit ?_))
        cases h
        have h := hX71
        refine t_exit (b_exit ?_)
        exact j_leaf x58 (Option.some.inj h) (by kernel_rfl)
      · have h := ite_t hb72 h
        refine a_cond_t rfl (a_skip (a_next (σ' := ⟨[(4, (ow 4)), (7, (i6 a0)), (8, (eSi64 r6)), (9, (eSi64 x58)), (23, (i6 r47)), (24, (i6 x59))], [(4, (bk (eA64u8 ((vrep 64 (0 : Int))))))]⟩) (by kernel_rfl) (a_seq (a_block (sr (vp (i6 x59) rfl (vp (i6 x59) rfl (nx ⟨[(4, (ow 4)), (7, (i6 a0)), (8, (eSi64 r6)), (9, (eSi64 x58)), (10, (i6 x59)), (23, (i6 r47)), (24, (i6 x59))], [(4, (bk (eA64u8 ((vrep 64 (0 : Int))))))]⟩ (by kernel_rfl) (a_region ?_)))))))))
        refine vp (i6 a0) rfl (vp (eSi64 x58) rfl (vp (i6 a0) rfl (vp (i6 a0) rfl (vp (i6 a0) rfl (vp (i6 x59) rfl ?_)))))
        obtain ⟨r73, hr74, h⟩ := bind_some h
        refine a_call (args := [(i6 a0), (i6 x59), (i6 1099511627776)]) (u := []) (r := (i6 r73)) rfl rfl (impl_prime_norm_ok a0 x59 1099511627776 r73 hr74) rfl ?_
        obtain ⟨r75, hr76, h⟩ := bind_some h
        refine a_call (args := [(i6 a0), (i6 r73)]) (u := []) (r := (eSi64 r75)) rfl rfl (impl_prime_numbered_ok a0 r73 r75 hr76) rfl (vp (eSi64 r6) rfl ?_)
        obtain ⟨r77, hr78, h⟩ := bind_some h
        refine a_call (args := [(i6 a0), (eSi64 r75), (eSi64 r6)]) (u := []) (r := (eSi64 r77)) rfl rfl (impl_prime_annihilator_ok a0 r75 r6 r77 hr78) rfl ?_
        obtain ⟨r79, hr80, h⟩ := bind_some h
        refine a_call (args := [(i6 a0), (eSi64 x58), (eSi64 r77)]) (u := []) (r := (eSi64 r79)) rfl rfl (impl_prime_lcm_ok a0 x58 r77 r79 hr80) rfl (vp (eSi64 r79) rfl (a_nil (b_norm (a_next (σ' := ⟨[(4, (ow 4)), (7, (i6 a0)), (8, (eSi64 r6)), (9, (eSi64 r79)), (23, (i6 r47)), (24, (i6 x59))], [(4, (bk (eA64u8 ((vrep 64 (0 : Int))))))]⟩) (by kernel_rfl) (a_region (vp (i6 (IntKind.i64.wrap (x59 + 1))) rfl (vp (i6 (IntKind.i64.wrap (x59 + 1))) rfl (a_nil ?_))))))))
        cases h
        exact a_again (by kernel_rfl) hX71
  · have h := ite_t hb4 h
    refine a_cond_t rfl (sr (vq (eA64u8 ((vrep 64 (0 : Int)))) rfl ⟨⟨_, rfl, rfl⟩, all_nil⟩ (vp (i6 r2) rfl (vs (eA64u8 ((vrep 64 (0 : Int)))) rfl rfl (fun _ => rfl) rfl rfl rfl rfl rfl rfl (vp (i6 r2) rfl (nx _ rfl (a_ret (t_ret ?_))))))))
    have hl87 : LdOk [] (eA64u8 ((vrep 64 (0 : Int)))) [] 64 true (eA64u8 ((vrep 64 (0 : Int)))) := (.nil rfl rfl rfl)
    refine ⟨.inr rfl, ?_⟩
    rw [Try.results13]
    cases h
    exact ⟨_, _, _, _, _, ld_own (i := ⟨.arr 64 5, 64, 64, (eA64u8 (vrep 64 (0 : Int)))⟩) rfl rfl rfl hl87, hl87.c, .inl ⟨rfl, .inl rfl⟩, rfl, ⟨_, _, _, _, _, rfl, trivial, .inl ⟨rfl, .inl rfl⟩, rfl, rfl⟩⟩
def impl_CarlitzGenerator_c : ACode := (.seq (.region 0 [q 3 (.box 26 (t 1)), q 4 (.alloc 26), q 5 (.asg 0 (.const (.int .i64 0)) 2)] false) (.seq (.seq (.region 1 [q 13 (.mov (t 0)), q 14 (.load 26 (t 3)), q 15 (.call 0 (.func 26) [(t 13), (t 14), (.const (.slice none 0 0))]), q 6 (.asg 0 (t 15) 2)] false) (.seq (.region 2 [q 16 (.mov (t 6)), q 17 (.bin .neq 2 (t 16) (.const (.int .i64 0)))] false) (.cond (t 17) (.seq (.region 3 [q 18 (.build 26 []), q 19 (.mov (t 6)), ⟨none, .store 26 (t 4) (t 18), none, []⟩, q 5 (.asg 0 (t 19) 2)] false) .ret) .skip))) (.seq (.region 4 [q 20 (.mov (t 0)), q 21 (.load 26 (t 3)), q 22 (.call 0 (.func 27) [(t 21)]), q 7 (.asg 0 (t 20) 41), q 8 (.asg 1 (t 22) 42)] false) (.seq (.region 5 [q 24 (.mov (t 0)), q 25 (.load 26 (t 3)), q 26 (.call 0 (.func 13) [(t 24), (t 25)]), q 23 (.mov (t 26)), q 27 (.extract (t 23) 0), q 28 (.extract (t 23) 1), q 9 (.alloc 26), ⟨none, .store 26 (t 9) (t 27), none, []⟩, q 10 (.asg 0 (t 28) 2)] false) (.seq (.seq (.region 6 [q 29 (.load 26 (t 9)), q 30 (.call 0 (.func 27) [(t 29)]), q 31 (.call 0 (.func 28) [(t 30)]), q 32 (.mov (t 8)), q 33 (.call 0 (.func 28) [(t 32)]), q 34 (.bin .lss 2 (t 31) (t 33))] false) (.cond (t 34) (.seq (.region 7 [q 35 (.build 26 []), ⟨none, .store 26 (t 4) (t 35), none, []⟩, q 5 (.asg 0 (.const (.int .i64 5)) 2)] false) .ret) .skip)) (.seq (.seq (.region 8 [q 36 (.mov (t 7)), q 37 (.mov (t 8)), q 38 (.call 0 (.func 28) [(t 37)]), q 39 (.call 0 (.func 32) [(t 36), (t 38), (.const (.int .i64 1099511627776))]), q 40 (.mov (.const (.int .i64 0)))] false) (.block 0 (.loop (.seq (.region 9 [q 41 (.bin .lss 2 (t 40) (t 39))] false) (.seq (.cond (t 41) .skip (.exit 0)) (.seq (.block 1 (.seq (.region 10 [q 42 (.mov (t 40)), q 11 (.asg 0 (t 42) 2)] false) (.seq (.region 11 [q 43 (.mov (t 7)), q 44 (.mov (t 11)), q 45 (.call 0 (.func 31) [(t 43), (t 44)]), q 12 (.asg 1 (t 45) 42)] false) (.seq (.region 12 [q 46 (.mov (t 7)), q 47 (.mov (t 12)), q 48 (.mov (t 8)), q 49 (.call 0 (.func 30) [(t 46), (t 47), (t 48)]), q 50 (.call 0 (.func 28) [(t 49)]), q 51 (.mov (t 8)), q 52 (.call 0 (.func 28) [(t 51)]), q 53 (.bin .eql 2 (t 50) (t 52))] false) (.cond (t 53) (.seq (.region 13 [q 54 (.mov (t 12)), q 55 (.call 0 (.func 33) [(t 54)]), q 56 (.extract (t 55) 0), q 57 (.extract (t 55) 1), ⟨none, .store 26 (t 4) (t 56), none, []⟩, q 5 (.asg 0 (t 57) 2)] false) .ret) .skip))))) (.region 14 [q 58 (.bin .add 2 (t 40) (.const (.int .i64 1))), q 40 (.mov (t 58))] false))))))) (.seq (.region 15 [q 59 (.build 26 []), ⟨none, .store 26 (t 4) (t 59), none, []⟩, q 5 (.asg 0 (.const (.int .i64 5)) 2)] false) .ret)))))))
def impl_CarlitzGenerator_L : Live := [(0, [0, 1]), (1, [0, 3, 4]), (2, [0, 3, 4, 6]), (3, [4, 6]), (4, [0, 3, 4]), (5, [0, 3, 4, 7, 8]), (6, [4, 7, 8, 9]), (7, [4]), (8, [4, 7, 8]), (9, [4, 7, 8, 39, 40]), (10, [4, 7, 8, 39, 40]), (11, [4, 7, 8, 11, 39, 40]), (12, [4, 7, 8, 12, 39, 40]), (13, [4, 12]), (14, [4, 7, 8, 39, 40]), (15, [4]), (100017, [0, 3, 4, 6, 17]), (100034, [4, 7, 8, 34]), (100041, [4, 7, 8, 39, 40, 41]), (100053, [4, 7, 8, 12, 39, 40, 53])]
noncomputable def impl_CarlitzGenerator_l1 (r73 : Int) (a0 : Int) (r6 : (List Int)) (x88 : Int) : Option (Int ⊕ (Unit ⊕ ((Vec Int 64) × Int))) :=
  (if (decide (x88 < r73)) then (Option.bind (impl_prime_numbered a0 x88) fun r106 => (Option.bind (impl_prime_annihilator a0 r106 r6) fun r108 => (Option.bind (impl_row_degree r108) fun r110 => (Option.bind (impl_row_degree r6) fun r112 => (if (r110 == r112) then (Option.bind (impl_told r106) fun r115 => (some (.inr ((.inr (r115.1, r115.2)))))) else (some (.inl (IntKind.i64.wrap (x88 + 1))))))))) else (some (.inr (((.inl ()))))))
noncomputable def impl_CarlitzGenerator (a0 : Int) (a1 : (Vec Int 64)) : Option ((Vec Int 64) × Int) :=
  (Option.bind (impl_modulusCode_of_sl a0 a1 ([])) fun r2 => (if (r2 != 0) then (some (((vrep 64 (0 : Int)), r2))) else (Option.bind (impl_rowOf a1) fun r6 => (Option.bind (impl_ExponentOf a0 a1) fun r9 => (Option.bind (impl_rowOf r9.1) fun r13 => (Option.bind (impl_row_degree r13) fun r15 => (Option.bind (impl_row_degree r6) fun r17 => (if (decide (r15 < r17)) then (some (((vrep 64 (0 : Int)), 5))) else (Option.bind (α := (Unit ⊕ ((Vec Int 64) × Int))) ((Option.bind (impl_row_degree r6) fun r71 => (Option.bind (impl_prime_norm a0 r71 1099511627776) fun r73 => (loopM (fun s : Int => impl_CarlitzGenerator_l1 r73 a0 r6 s) 0)))) fun z => match z with | .inl _ => (some (((vrep 64 (0 : Int)), 5))) | .inr r122 => (some r122))))))))))
theorem impl_CarlitzGenerator_ok (a0 : Int) (a1 : (Vec Int 64)) (r : ((Vec Int 64) × Int)) (h : impl_CarlitzGenerator a0 a1 = some r) : Den Try.prog 16 [(i6 a0), (eA64u8 a1)] { r := (.tuple [(eA64u8 r.1), (i6 r.2)]) } := by
  refine den_of (rs := [(eA64u8 r.1), (i6 r.2)]) (ac := impl_CarlitzGenerator_c) (L := impl_CarlitzGenerator_L) (n := 60) (m := [(8, 1), (12, 1)]) (c := Try.f16.body.getD .skip) good Try.func16 (by kernel_rfl) (by kernel_rfl) Try.ntmps16 rfl rfl (by kernel_rfl) rfl rfl ?_
  refine a_st (σ' := ⟨[(0, (i6 a0)), (1, (eA64u8 a1))], []⟩) (by kernel_rfl) ?_
  unfold impl_CarlitzGenerator_c
  refine sr (vo 1300 (eA64u8 a1) rfl rfl (vo 1400 (eA64u8 ((vrep 64 (0 : Int)))) rfl rfl (vp (i6 0) rfl (nx ⟨[(0, (i6 a0)), (3, (ow 3)), (4, (ow 4))], [(3, (bk (eA64u8 a1))), (4, (bk (eA64u8 ((vrep 64 (0 : Int))))))]⟩ (by kernel_rfl) (a_seq (sr (vp (i6 a0) rfl (vl (eA64u8 a1) rfl rfl rfl rfl rfl rfl ?_))))))))
  obtain ⟨r2, hr3, h⟩ := bind_some h
  refine a_call (args := [(i6 a0), (eA64u8 a1), (.sl 0 true [])]) (u := []) (r := (i6 r2)) rfl rfl (Den.args (impl_modulusCode_of_sl_ok a0 a1 ([]) r2 hr3) rfl rfl (.cons (.refl _) (.cons (.refl _) (.cons (.nil _ _ _ _ (fun _ => rfl)) .nil)))) rfl (vp (i6 r2) rfl (nx ⟨[(0, (i6 a0)), (3, (ow 3)), (4, (ow 4)), (6, (i6 r2))], [(3, (bk (eA64u8 a1))), (4, (bk (eA64u8 ((vrep 64 (0 : Int))))))]⟩ (by kernel_rfl) (sr (vp (i6 r2) rfl (vp (.bool (r2 != 0)) rfl (nx ⟨[(0, (i6 a0)), (3, (ow 3)), (4, (ow 4)), (6, (i6 r2)), (17, (.bool (r2 != 0)))], [(3, (bk (eA64u8 a1))), (4, (bk (eA64u8 ((vrep 64 (0 : Int))))))]⟩ (by kernel_rfl) ?_))))))
  cases hb4 : (r2 != 0)
  · have h := ite_f hb4 h
    refine a_cond_f rfl (a_skip (a_next (σ' := ⟨[(0, (i6 a0)), (3, (ow 3)), (4, (ow 4))], [(3, (bk (eA64u8 a1))), (4, (bk (eA64u8 ((vrep 64 (0 : Int))))))]⟩) (by kernel_rfl) (sr (vp (i6 a0) rfl (vl (eA64u8 a1) rfl rfl rfl rfl rfl rfl ?_)))))
    obtain ⟨r6, hr7, h⟩ := bind_some h
    refine a_call (args := [(eA64u8 a1)]) (u := []) (r := (eSi64 r6)) rfl rfl (impl_rowOf_ok a1 r6 hr7) rfl (vp (i6 a0) rfl (vp (eSi64 r6) rfl (nx ⟨[(0, (i6 a0)), (3, (ow 3)), (4, (ow 4)), (7, (i6 a0)), (8, (eSi64 r6))], [(3, (bk (eA64u8 a1))), (4, (bk (eA64u8 ((vrep 64 (0 : Int))))))]⟩ (by kernel_rfl) (sr (vp (i6 a0) rfl (vl (eA64u8 a1) rfl rfl rfl rfl rfl rfl ?_))))))
    obtain ⟨r9, hr10, h⟩ := bind_some h
    refine a_call (args := [(i6 a0), (eA64u8 a1)]) (u := []) (r := (.tuple [(eA64u8 r9.1), (i6 r9.2)])) rfl rfl (impl_ExponentOf_ok a0 a1 r9 hr10) rfl (vp (.tuple [(eA64u8 r9.1), (i6 r9.2)]) rfl (vb (eA64u8 r9.1) rfl rfl (vb (i6 r9.2) rfl rfl (vo 1900 (eA64u8 ((vrep 64 (0 : Int)))) rfl rfl (vs (eA64u8 r9.1) rfl rfl (fun _ => rfl) rfl rfl rfl rfl rfl rfl (vp (i6 r9.2) rfl (nx ⟨[(4, (ow 4)), (7, (i6 a0)), (8, (eSi64 r6)), (9, (ow 9))], [(4, (bk (eA64u8 ((vrep 64 (0 : Int)))))), (9, (bk (eA64u8 r9.1)))]⟩ (by kernel_rfl) (a_seq (sr ?_)))))))))
    refine vl (eA64u8 r9.1) rfl rfl rfl rfl rfl rfl ?_
    obtain ⟨r13, hr14, h⟩ := bind_some h
    refine a_call (args := [(eA64u8 r9.1)]) (u := []) (r := (eSi64 r13)) rfl rfl (impl_rowOf_ok r9.1 r13 hr14) rfl ?_
    obtain ⟨r15, hr16, h⟩ := bind_some h
    refine a_call (args := [(eSi64 r13)]) (u := []) (r := (i6 r15)) rfl rfl (impl_row_degree_ok r13 r15 hr16) rfl (vp (eSi64 r6) rfl ?_)
    obtain ⟨r17, hr18, h⟩ := bind_some h
    refine a_call (args := [(eSi64 r6)]) (u := []) (r := (i6 r17)) rfl rfl (impl_row_degree_ok r6 r17 hr18) rfl (vp (.bool ((decide (r15 < r17)))) rfl (nx ⟨[(4, (ow 4)), (7, (i6 a0)), (8, (eSi64 r6)), (34, (.bool ((decide (r15 < r17)))))], [(4, (bk (eA64u8 ((vrep 64 (0 : Int))))))]⟩ (by kernel_rfl) ?_))
    cases hb19 : (decide (r15 < r17))
    · have h := ite_f hb19 h
      refine a_cond_f rfl (a_skip (a_next (σ' := ⟨[(4, (ow 4)), (7, (i6 a0)), (8, (eSi64 r6))], [(4, (bk (eA64u8 ((vrep 64 (0 : Int))))))]⟩) (by kernel_rfl) ?_))
      obtain ⟨y68, hy69, hk70⟩ := bind_some h
      clear h
      refine a_join (emb := fun (s : Unit) => ⟨[(4, (ow 4))], [(4, (bk (eA64u8 ((vrep 64 (0 : Int))))))]⟩) (pre := fun s => (.inl s) = y68) ?_ ?_
      · rintro _ rfl
        have h := hk70
        refine a_st (σ' := ⟨[(4, (ow 4))], [(4, (bk (eA64u8 ((vrep 64 (0 : Int))))))]⟩) (by kernel_rfl) (sr (vq (eA64u8 ((vrep 64 (0 : Int)))) rfl ⟨⟨_, rfl, rfl⟩, all_nil⟩ (vs (eA64u8 ((vrep 64 (0 : Int)))) rfl rfl (fun _ => rfl) rfl rfl rfl rfl rfl rfl (vp (i6 5) rfl (nx _ rfl (a_ret ?_))))))
        have hl121 : LdOk [] (eA64u8 ((vrep 64 (0 : Int)))) [] 64 true (eA64u8 ((vrep 64 (0 : Int)))) := (.nil rfl rfl rfl)
        refine ⟨.inr rfl, ?_⟩
        rw [Try.results16]
        cases h
        exact ⟨_, _, _, _, _, ld_own (i := ⟨.arr 64 5, 64, 64, (eA64u8 (vrep 64 (0 : Int)))⟩) rfl rfl rfl hl121, hl121.c, .inl ⟨rfl, .inl rfl⟩, rfl, ⟨_, _, _, _, _, rfl, trivial, .inl ⟨rfl, .inl rfl⟩, rfl, rfl⟩⟩
      · have h := hy69
        refine sr (vp (i6 a0) rfl (vp (eSi64 r6) rfl ?_))
        obtain ⟨r71, hr72, h⟩ := bind_some h
        refine a_call (args := [(eSi64 r6)]) (u := []) (r := (i6 r71)) rfl rfl (impl_row_degree_ok r6 r71 hr72) rfl ?_
        obtain ⟨r73, hr74, h⟩ := bind_some h
        refine a_call (args := [(i6 a0), (i6 r71), (i6 1099511627776)]) (u := []) (r := (i6 r73)) rfl rfl (impl_prime_norm_ok a0 r71 1099511627776 r73 hr74) rfl (vp (i6 0) rfl (nx ⟨[(4, (ow 4)), (7, (i6 a0)), (8, (eSi64 r6)), (39, (i6 r73)), (40, (i6 0))], [(4, (bk (eA64u8 ((vrep 64 (0 : Int))))))]⟩ (by kernel_rfl) (a_block ?_)))
        refine a_loop (emb := fun (s : Int) => ⟨[(4, (ow 4)), (7, (i6 a0)), (8, (eSi64 r6)), (39, (i6 r73)), (40, (i6 s))], [(4, (bk (eA64u8 ((vrep 64 (0 : Int))))))]⟩) (body := (fun s : Int => impl_CarlitzGenerator_l1 r73 a0 r6 s)) (G := fun q => some q = some y68) h rfl ?_ (by kernel_rfl)
        rintro X102 x88 x103 h hX104
        have h : impl_CarlitzGenerator_l1 r73 a0 r6 x88 = some x103 := h
        refine a_st (σ' := ⟨[(4, (ow 4)), (7, (i6 a0)), (8, (eSi64 r6)), (39, (i6 r73)), (40, (i6 x88))], [(4, (bk (eA64u8 ((vrep 64 (0 : Int))))))]⟩) (by kernel_rfl) (sr (vp (.bool ((decide (x88 < r73)))) rfl (nx ⟨[(4, (ow 4)), (7, (i6 a0)), (8, (eSi64 r6)), (39, (i6 r73)), (40, (i6 x88)), (41, (.bool ((decide (x88 < r73)))))], [(4, (bk (eA64u8 ((vrep 64 (0 : Int))))))]⟩ (by kernel_rfl) (a_seq ?_))))
        cases hb105 : (decide (x88 < r73))
        · have h := ite_f hb105 h
          refine a_cond_f rfl (a_exit (t_exit ?_))
          cases h
          have h := hX104
          refine t_exit (b_exit ?_)
          exact j_leaf () (Option.some.inj h) (by kernel_rfl)
        · have h := ite_t hb105 h
          refine a_cond_t rfl (a_skip (a_next (σ' := ⟨[(4, (ow 4)), (7, (i6 a0)), (8, (eSi64 r6)), (39, (i6 r73)), (40, (i6 x88))], [(4, (bk (eA64u8 ((vrep 64 (0 : Int))))))]⟩) (by kernel_rfl) (a_seq (a_block (sr (vp (i6 x88) rfl (vp (i6 x88) rfl (nx ⟨[(4, (ow 4)), (7, (i6 a0)), (8, (eSi64 r6)), (11, (i6 x88)), (39, (i6 r73)), (40, (i6 x88))], [(4, (bk (eA64u8 ((vrep 64 (0 : Int))))))]⟩ (by kernel_rfl) (sr ?_)))))))))
          refine vp (i6 a0) rfl (vp (i6 x88) rfl ?_)
          obtain ⟨r106, hr107, h⟩ := bind_some h
          refine a_call (args := [(i6 a0), (i6 x88)]) (u := []) (r := (eSi64 r106)) rfl rfl (impl_prime_numbered_ok a0 x88 r106 hr107) rfl (vp (eSi64 r106) rfl (nx ⟨[(4, (ow 4)), (7, (i6 a0)), (8, (eSi64 r6)), (12, (eSi64 r106)), (39, (i6 r73)), (40, (i6 x88))], [(4, (bk (eA64u8 ((vrep 64 (0 : Int))))))]⟩ (by kernel_rfl) (sr (vp (i6 a0) rfl (vp (eSi64 r106) rfl (vp (eSi64 r6) rfl ?_))))))
          obtain ⟨r108, hr109, h⟩ := bind_some h
          refine a_call (args := [(i6 a0), (eSi64 r106), (eSi64 r6)]) (u := []) (r := (eSi64 r108)) rfl rfl (impl_prime_annihilator_ok a0 r106 r6 r108 hr109) rfl ?_
          obtain ⟨r110, hr111, h⟩ := bind_some h
          refine a_call (args := [(eSi64 r108)]) (u := []) (r := (i6 r110)) rfl rfl (impl_row_degree_ok r108 r110 hr111) rfl (vp (eSi64 r6) rfl ?_)
          obtain ⟨r112, hr113, h⟩ := bind_some h
          refine a_call (args := [(eSi64 r6)]) (u := []) (r := (i6 r112)) rfl rfl (impl_row_degree_ok r6 r112 hr113) rfl (vp (.bool (r110 == r112)) rfl (nx ⟨[(4, (ow 4)), (7, (i6 a0)), (8, (eSi64 r6)), (12, (eSi64 r106)), (39, (i6 r73)), (40, (i6 x88)), (53, (.bool (r110 == r112)))], [(4, (bk (eA64u8 ((vrep 64 (0 : Int))))))]⟩ (by kernel_rfl) ?_))
          cases hb114 : (r110 == r112)
          · have h := ite_f hb114 h
            refine a_cond_f rfl (a_skip (b_norm (a_next (σ' := ⟨[(4, (ow 4)), (7, (i6 a0)), (8, (eSi64 r6)), (39, (i6 r73)), (40, (i6 x88))], [(4, (bk (eA64u8 ((vrep 64 (0 : Int))))))]⟩) (by kernel_rfl) (a_region (vp (i6 (IntKind.i64.wrap (x88 + 1))) rfl (vp (i6 (IntKind.i64.wrap (x88 + 1))) rfl (a_nil ?_)))))))
            cases h
            exact a_again (by kernel_rfl) hX104
          · have h := ite_t hb114 h
            refine a_cond_t rfl (sr (vp (eSi64 r106) rfl ?_))
            obtain ⟨r115, hr116, h⟩ := bind_some h
            refine a_call (args := [(eSi64 r106)]) (u := []) (r := (.tuple [(eA64u8 r115.1), (i6 r115.2)])) rfl rfl (impl_told_ok r106 r115 hr116) rfl (vb (eA64u8 r115.1) rfl rfl (vb (i6 r115.2) rfl rfl (vs (eA64u8 r115.1) rfl rfl (fun _ => rfl) rfl rfl rfl rfl rfl rfl (vp (i6 r115.2) rfl (nx _ rfl (a_ret (b_ret (t_ret ?_))))))))
            cases h
            have h := hX104
            refine t_ret (b_ret (t_ret ?_))
            cases h
            have h := hk70
            have hl118 : LdOk [] (eA64u8 r115.1) [] 64 true (eA64u8 r115.1) := (.nil rfl rfl rfl)
            refine ⟨.inr rfl, ?_⟩
            rw [Try.results16]
            cases h
            exact ⟨_, _, _, _, _, ld_own (i := ⟨.arr 64 5, 64, 64, (eA64u8 (vrep 64 (0 : Int)))⟩) rfl rfl rfl hl118, hl118.c, .inl ⟨rfl, .inl rfl⟩, rfl, ⟨_, _, _, _, _, rfl, trivial, .inl ⟨rfl, .inl rfl⟩, rfl, rfl⟩⟩
    · have h := ite_t hb19 h
      refine a_cond_t rfl (sr (vq (eA64u8 ((vrep 64 (0 : Int)))) rfl ⟨⟨_, rfl, rfl⟩, all_nil⟩ (vs (eA64u8 ((vrep 64 (0 : Int)))) rfl rfl (fun _ => rfl) rfl rfl rfl rfl rfl rfl (vp (i6 5) rfl (nx _ rfl (a_ret (t_ret ?_)))))))
      have hl124 : LdOk [] (eA64u8 ((vrep 64 (0 : Int)))) [] 64 true (eA64u8 ((vrep 64 (0 : Int)))) := (.nil rfl rfl rfl)
      refine ⟨.inr rfl, ?_⟩
      rw [Try.results16]
      cases h
      exact ⟨_, _, _, _, _, ld_own (i := ⟨.arr 64 5, 64, 64, (eA64u8 (vrep 64 (0 : Int)))⟩) rfl rfl rfl hl124, hl124.c, .inl ⟨rfl, .inl rfl⟩, rfl, ⟨_, _, _, _, _, rfl, trivial, .inl ⟨rfl, .inl rfl⟩, rfl, rfl⟩⟩
  · have h := ite_t hb4 h
    refine a_cond_t rfl (sr (vq (eA64u8 ((vrep 64 (0 : Int)))) rfl ⟨⟨_, rfl, rfl⟩, all_nil⟩ (vp (i6 r2) rfl (vs (eA64u8 ((vrep 64 (0 : Int)))) rfl rfl (fun _ => rfl) rfl rfl rfl rfl rfl rfl (vp (i6 r2) rfl (nx _ rfl (a_ret (t_ret ?_))))))))
    have hl126 : LdOk [] (eA64u8 ((vrep 64 (0 : Int)))) [] 64 true (eA64u8 ((vrep 64 (0 : Int)))) := (.nil rfl rfl rfl)
    refine ⟨.inr rfl, ?_⟩
    rw [Try.results16]
    cases h
    exact ⟨_, _, _, _, _, ld_own (i := ⟨.arr 64 5, 64, 64, (eA64u8 (vrep 64 (0 : Int)))⟩) rfl rfl rfl hl126, hl126.c, .inl ⟨rfl, .inl rfl⟩, rfl, ⟨_, _, _, _, _, rfl, trivial, .inl ⟨rfl, .inl rfl⟩, rfl, rfl⟩⟩
def laws_eqPoly_c : ACode := (.seq (.region 0 [q 2 (.box 26 (t 0)), q 3 (.box 26 (t 1)), q 4 (.asg 0 (.const (.bool false)) 4)] false) (.seq (.seq (.region 1 [q 5 (.asg 0 (.const (.int .i64 0)) 3)] false) (.block 0 (.loop (.seq (.seq (.region 2 [q 6 (.mov (t 5)), q 7 (.bin .lss 3 (t 6) (.const (.int .i64 64)))] false) (.cond (t 7) .skip (.exit 0))) (.seq (.block 1 (.seq (.region 4 [q 10 (.mov (t 5)), ⟨some 11, .indexAddr 26 (t 2) (t 10), none, [0]⟩, ⟨some 12, .load 5 (t 11), none, [1]⟩, q 13 (.mov (t 5)), ⟨some 14, .indexAddr 26 (t 3) (t 13), none, [3]⟩, ⟨some 15, .load 5 (t 14), none, [4]⟩, ⟨some 16, .bin .neq 5 (t 12) (t 15), none, [2, 5]⟩] true) (.cond (t 16) (.seq (.region 5 [q 4 (.asg 0 (.const (.bool false)) 4)] false) .ret) .skip))) (.region 3 [q 8 (.mov (t 5)), q 9 (.bin .add 3 (t 8) (.const (.int .i64 1))), q 5 (.asg 0 (t 9) 3)] false)))))) (.seq (.region 6 [q 4 (.asg 0 (.const (.bool true)) 4)] false) .ret)))
def laws_eqPoly_L : Live := [(0, [0, 1]), (1, [2, 3]), (2, [2, 3, 5]), (3, [2, 3, 5]), (4, [2, 3, 5]), (5, []), (6, []), (100007, [2, 3, 5, 7]), (100016, [2, 3, 5, 16])]
noncomputable def laws_eqPoly_l1 (a0 : (Vec Int 64)) (a1 : (Vec Int 64)) (x49 : Int) : Option (Int ⊕ (Unit ⊕ Bool)) :=
  (if (decide (x49 < 64)) then (ifp (0 ≤ x49 ∧ x49 < ((64 : Nat) : Int)) ((ifp (0 ≤ x49 ∧ x49 < ((64 : Nat) : Int)) ((if ((rd a0.1 x49.toNat) != (rd a1.1 x49.toNat)) then (some (.inr (.inr false))) else (some (.inl (IntKind.i64.wrap (x49 + 1))))))))) else (some (.inr (((.inl ()))))))
noncomputable def laws_eqPoly (a0 : (Vec Int 64)) (a1 : (Vec Int 64)) : Option Bool :=
  (Option.bind (α := (Unit ⊕ Bool)) ((loopM (fun s : Int => laws_eqPoly_l1 a0 a1 s) 0)) fun z => match z with | .inl _ => (some true) | .inr r74 => (some r74))
theorem laws_eqPoly_ok (a0 : (Vec Int 64)) (a1 : (Vec Int 64)) (r : Bool) (h : laws_eqPoly a0 a1 = some r) : Den Try.prog 14 [(eA64u8 a0), (eA64u8 a1)] { r := (.bool r) } := by
  refine den_of (rs := [(.bool r)]) (ac := laws_eqPoly_c) (L := laws_eqPoly_L) (n := 17) (m := []) (c := Try.f14.body.getD .skip) good Try.func14 (by kernel_rfl) (by kernel_rfl) Try.ntmps14 rfl rfl (by kernel_rfl) rfl rfl ?_
  refine a_st (σ' := ⟨[(0, (eA64u8 a0)), (1, (eA64u8 a1))], []⟩) (by kernel_rfl) ?_
  unfold laws_eqPoly_c
  refine sr (vo 1200 (eA64u8 a0) rfl rfl (vo 1300 (eA64u8 a1) rfl rfl (vp (.bool false) rfl (nx ⟨[(2, (ow 2)), (3, (ow 3))], [(2, (bk (eA64u8 a0))), (3, (bk (eA64u8 a1)))]⟩ (by kernel_rfl) ?_))))
  obtain ⟨y36, hy37, hk38⟩ := bind_some h
  clear h
  refine a_join (emb := fun (s : Unit) => ⟨[], []⟩) (pre := fun s => (.inl s) = y36) ?_ ?_
  · rintro _ rfl
    have h := hk38
    refine a_st (σ' := ⟨[], []⟩) (by kernel_rfl) (sr (vp (.bool true) rfl (nx _ rfl (a_ret ?_))))
    refine ⟨.inr rfl, ?_⟩
    rw [Try.results14]
    cases h
    exact ⟨_, _, _, _, _, rfl, trivial, .inl ⟨rfl, .inl rfl⟩, rfl, rfl⟩
  · have h := hy37
    refine sr (vp (i6 0) rfl (nx ⟨[(2, (ow 2)), (3, (ow 3)), (5, (i6 0))], [(2, (bk (eA64u8 a0))), (3, (bk (eA64u8 a1)))]⟩ (by kernel_rfl) (a_block ?_)))
    refine a_loop (emb := fun (s : Int) => ⟨[(2, (ow 2)), (3, (ow 3)), (5, (i6 s))], [(2, (bk (eA64u8 a0))), (3, (bk (eA64u8 a1)))]⟩) (body := (fun s : Int => laws_eqPoly_l1 a0 a1 s)) (G := fun q => some q = some y36) h rfl ?_ (by kernel_rfl)
    rintro X60 x49 x61 h hX62
    have h : laws_eqPoly_l1 a0 a1 x49 = some x61 := h
    refine a_st (σ' := ⟨[(2, (ow 2)), (3, (ow 3)), (5, (i6 x49))], [(2, (bk (eA64u8 a0))), (3, (bk (eA64u8 a1)))]⟩) (by kernel_rfl) (a_seq (sr (vp (i6 x49) rfl (vp (.bool ((decide (x49 < 64)))) rfl (nx ⟨[(2, (ow 2)), (3, (ow 3)), (5, (i6 x49)), (7, (.bool ((decide (x49 < 64)))))], [(2, (bk (eA64u8 a0))), (3, (bk (eA64u8 a1)))]⟩ (by kernel_rfl) ?_)))))
    cases hb63 : (decide (x49 < 64))
    · have h := ite_f hb63 h
      refine a_cond_f rfl (a_exit (t_exit ?_))
      cases h
      have h := hX62
      refine t_exit (b_exit ?_)
      exact j_leaf () (Option.some.inj h) (by kernel_rfl)
    · have h := ite_t hb63 h
      refine a_cond_t rfl (a_skip (a_next (σ' := ⟨[(2, (ow 2)), (3, (ow 3)), (5, (i6 x49))], [(2, (bk (eA64u8 a0))), (3, (bk (eA64u8 a1)))]⟩) (by kernel_rfl) (a_seq (a_block (a_seq (a_draw [⟨[], [], [], []⟩, ⟨[2], [], [2], [0]⟩, ⟨[2], [], [], [0, 1]⟩, ⟨[], [], [], []⟩, ⟨[3], [], [3], [3]⟩, ⟨[3], [], [], [3, 4]⟩, ⟨[], [], [], [0, 1, 2, 3, 4, 5]⟩] (by kernel_rfl) (dp (i6 x49) rfl (by kernel_rfl) (d_cons ?_))))))))
      obtain ⟨hc68, h⟩ := ifp_some h
      refine vq (.own 2 [x49.toNat] [x49.toNat * 1]) rfl hc68 (d_next (by kernel_rfl) (d_cons ?_))
      have hl69 : LdOk [x49.toNat] (eA64u8 a0) [x49.toNat * 1] 1 false (b8 (rd a0.1 x49.toNat)) := (.arr (vlt a0 hc68) rfl (.nil rfl rfl rfl))
      refine vq (b8 (rd a0.1 x49.toNat)) (ld_own (i := ⟨.int .u8, 1, 1, (.int .u8 0)⟩) rfl rfl rfl hl69) hl69.c (d_next (by kernel_rfl) (dp (i6 x49) rfl (by kernel_rfl) (d_cons ?_)))
      obtain ⟨hc70, h⟩ := ifp_some h
      refine vq (.own 3 [x49.toNat] [x49.toNat * 1]) rfl hc70 (d_next (by kernel_rfl) (d_cons ?_))
      have hl71 : LdOk [x49.toNat] (eA64u8 a1) [x49.toNat * 1] 1 false (b8 (rd a1.1 x49.toNat)) := (.arr (vlt a1 hc70) rfl (.nil rfl rfl rfl))
      refine vq (b8 (rd a1.1 x49.toNat)) (ld_own (i := ⟨.int .u8, 1, 1, (.int .u8 0)⟩) rfl rfl rfl hl71) hl71.c (d_next (by kernel_rfl) (dp (.bool (((rd a0.1 x49.toNat) != (rd a1.1 x49.toNat)))) rfl (by kernel_rfl) (d_nil (a_next (σ' := ⟨[(2, (ow 2)), (3, (ow 3)), (5, (i6 x49)), (16, (.bool (((rd a0.1 x49.toNat) != (rd a1.1 x49.toNat)))))], [(2, (bk (eA64u8 a0))), (3, (bk (eA64u8 a1)))]⟩) (by kernel_rfl) ?_))))
      cases hb72 : ((rd a0.1 x49.toNat) != (rd a1.1 x49.toNat))
      · have h := ite_f hb72 h
        refine a_cond_f rfl (a_skip (b_norm (a_next (σ' := ⟨[(2, (ow 2)), (3, (ow 3)), (5, (i6 x49))], [(2, (bk (eA64u8 a0))), (3, (bk (eA64u8 a1)))]⟩) (by kernel_rfl) (a_region (vp (i6 x49) rfl (vp (i6 (IntKind.i64.wrap (x49 + 1))) rfl (vp (i6 (IntKind.i64.wrap (x49 + 1))) rfl (a_nil ?_))))))))
        cases h
        exact a_again (by kernel_rfl) hX62
      · have h := ite_t hb72 h
        refine a_cond_t rfl (sr (vp (.bool false) rfl (nx _ rfl (a_ret (b_ret (t_ret ?_))))))
        cases h
        have h := hX62
        refine t_ret (b_ret (t_ret ?_))
        cases h
        have h := hk38
        refine ⟨.inr rfl, ?_⟩
        rw [Try.results14]
        cases h
        exact ⟨_, _, _, _, _, rfl, trivial, .inl ⟨rfl, .inl rfl⟩, rfl, rfl⟩
def laws_FnExactCarlitzGenerator_c : ACode := (.seq (.region 0 [q 3 (.box 22 (t 1)), q 4 (.asg 0 (.const (.bool false)) 4)] false) (.seq (.region 1 [q 10 (.mov (t 0)), q 11 (.load 22 (t 3)), q 12 (.call 0 (.func 7) [(t 11)]), q 13 (.call 0 (.func 15) [(t 10), (t 12)]), q 9 (.mov (t 13)), q 14 (.extract (t 9) 0), q 15 (.extract (t 9) 1), q 5 (.alloc 26), ⟨none, .store 26 (t 5) (t 14), none, []⟩, q 6 (.asg 0 (t 15) 2)] false) (.seq (.region 2 [q 17 (.mov (t 0)), q 18 (.load 22 (t 3)), q 19 (.call 0 (.func 7) [(t 18)]), q 20 (.call 0 (.func 16) [(t 17), (t 19)]), q 16 (.mov (t 20)), q 21 (.extract (t 16) 0), q 22 (.extract (t 16) 1), q 7 (.alloc 26), ⟨none, .store 26 (t 7) (t 21), none, []⟩, q 8 (.asg 0 (t 22) 2)] false) (.seq (.seq (.region 3 [q 23 (.load 26 (t 7)), q 24 (.load 26 (t 5)), q 25 (.call 0 (.func 14) [(t 23), (t 24)]), q 26 (.un .not (t 25)), q 27 (.mov (t 26)), ⟨some 28, .mov (t 8), some (27, false), []⟩, ⟨some 29, .mov (t 6), some (27, false), []⟩, ⟨some 30, .bin .neq 2 (t 28) (t 29), some (27, false), []⟩, q 31 (.pick (t 27) (.const (.bool true)) (t 30))] false) (.cond (t 31) (.seq (.region 4 [q 4 (.asg 0 (.const (.bool false)) 4)] false) .ret) .skip)) (.seq (.region 5 [q 4 (.asg 0 (.const (.bool true)) 4)] false) .ret)))))
def laws_FnExactCarlitzGenerator_L : Live := [(0, [0, 1]), (1, [0, 3]), (2, [0, 3, 5, 6]), (3, [5, 6, 7, 8]), (4, []), (5, []), (100031, [31])]
noncomputable def laws_FnExactCarlitzGenerator (a0 : Int) (a1 : (Vec Int 64)) : Option Bool :=
  (Option.bind (laws_toPoly a1) fun r2 => (Option.bind (spec_CarlitzGenerator a0 r2) fun r4 => (Option.bind (laws_toPoly a1) fun r8 => (Option.bind (impl_CarlitzGenerator a0 r8) fun r10 => (Option.bind (α := Bool) ((Option.bind (laws_eqPoly r10.1 r4.1) fun r24 => (if (!r24) then (some true) else (some (r10.2 != r4.2))))) fun x18 => (if x18 then (some false) else (some true)))))))
theorem laws_FnExactCarlitzGenerator_ok (a0 : Int) (a1 : (Vec Int 64)) (r : Bool) (h : laws_FnExactCarlitzGenerator a0 a1 = some r) : Den Try.prog 5 [(i6 a0), (eA64u8 a1)] { r := (.bool r) } := by
  refine den_of (rs := [(.bool r)]) (ac := laws_FnExactCarlitzGenerator_c) (L := laws_FnExactCarlitzGenerator_L) (n := 32) (m := []) (c := Try.f5.body.getD .skip) good Try.func5 (by kernel_rfl) (by kernel_rfl) Try.ntmps5 rfl rfl (by kernel_rfl) rfl rfl ?_
  refine a_st (σ' := ⟨[(0, (i6 a0)), (1, (eA64u8 a1))], []⟩) (by kernel_rfl) ?_
  unfold laws_FnExactCarlitzGenerator_c
  refine sr (vo 1300 (eA64u8 a1) rfl rfl (vp (.bool false) rfl (nx ⟨[(0, (i6 a0)), (3, (ow 3))], [(3, (bk (eA64u8 a1)))]⟩ (by kernel_rfl) (sr (vp (i6 a0) rfl (vl (eA64u8 a1) rfl rfl rfl rfl rfl rfl ?_))))))
  obtain ⟨r2, hr3, h⟩ := bind_some h
  refine a_call (args := [(eA64u8 a1)]) (u := []) (r := (eA64u8 r2)) rfl rfl (laws_toPoly_ok a1 r2 hr3) rfl ?_
  obtain ⟨r4, hr5, h⟩ := bind_some h
  refine a_call (args := [(i6 a0), (eA64u8 r2)]) (u := []) (r := (.tuple [(eA64u8 r4.1), (i6 r4.2)])) rfl rfl (spec_CarlitzGenerator_ok a0 r2 r4 hr5) rfl (vp (.tuple [(eA64u8 r4.1), (i6 r4.2)]) rfl (vb (eA64u8 r4.1) rfl rfl (vb (i6 r4.2) rfl rfl (vo 1500 (eA64u8 ((vrep 64 (0 : Int)))) rfl rfl (vs (eA64u8 r4.1) rfl rfl (fun _ => rfl) rfl rfl rfl rfl rfl rfl (vp (i6 r4.2) rfl (nx ⟨[(0, (i6 a0)), (3, (ow 3)), (5, (ow 5)), (6, (i6 r4.2))], [(3, (bk (eA64u8 a1))), (5, (bk (eA64u8 r4.1)))]⟩ (by kernel_rfl) (sr (vp (i6 a0) rfl ?_)))))))))
  refine vl (eA64u8 a1) rfl rfl rfl rfl rfl rfl ?_
  obtain ⟨r8, hr9, h⟩ := bind_some h
  refine a_call (args := [(eA64u8 a1)]) (u := []) (r := (eA64u8 r8)) rfl rfl (laws_toPoly_ok a1 r8 hr9) rfl ?_
  obtain ⟨r10, hr11, h⟩ := bind_some h
  refine a_call (args := [(i6 a0), (eA64u8 r8)]) (u := []) (r := (.tuple [(eA64u8 r10.1), (i6 r10.2)])) rfl rfl (impl_CarlitzGenerator_ok a0 r8 r10 hr11) rfl (vp (.tuple [(eA64u8 r10.1), (i6 r10.2)]) rfl (vb (eA64u8 r10.1) rfl rfl (vb (i6 r10.2) rfl rfl (vo 1700 (eA64u8 ((vrep 64 (0 : Int)))) rfl rfl (vs (eA64u8 r10.1) rfl rfl (fun _ => rfl) rfl rfl rfl rfl rfl rfl (vp (i6 r10.2) rfl (nx ⟨[(5, (ow 5)), (6, (i6 r4.2)), (7, (ow 7)), (8, (i6 r10.2))], [(5, (bk (eA64u8 r4.1))), (7, (bk (eA64u8 r10.1)))]⟩ (by kernel_rfl) (a_seq ?_))))))))
  obtain ⟨y19, hy20, hk21⟩ := bind_some h
  clear h
  refine a_join (emb := fun (s : Bool) => ⟨[(31, (.bool s))], []⟩) (pre := fun s => s = y19) ?_ ?_
  · rintro x18 rfl
    have h := hk21
    refine a_st (σ' := ⟨[(31, (.bool x18))], []⟩) (by kernel_rfl) ?_
    cases hb27 : x18
    · have h := ite_f hb27 h
      refine a_cond_f rfl (a_skip (a_next (σ' := ⟨[], []⟩) (by kernel_rfl) (sr (vp (.bool true) rfl (nx _ rfl (a_ret ?_))))))
      refine ⟨.inr rfl, ?_⟩
      rw [Try.results5]
      cases h
      exact ⟨_, _, _, _, _, rfl, trivial, .inl ⟨rfl, .inl rfl⟩, rfl, rfl⟩
    · have h := ite_t hb27 h
      refine a_cond_t rfl (sr (vp (.bool false) rfl (nx _ rfl (a_ret (t_ret ?_)))))
      refine ⟨.inr rfl, ?_⟩
      rw [Try.results5]
      cases h
      exact ⟨_, _, _, _, _, rfl, trivial, .inl ⟨rfl, .inl rfl⟩, rfl, rfl⟩
  · have h := hy20
    refine a_region (vl (eA64u8 r10.1) rfl rfl rfl rfl rfl rfl (vl (eA64u8 r4.1) rfl rfl rfl rfl rfl rfl ?_))
    obtain ⟨r24, hr25, h⟩ := bind_some h
    refine a_call (args := [(eA64u8 r10.1), (eA64u8 r4.1)]) (u := []) (r := (.bool r24)) rfl rfl (laws_eqPoly_ok r10.1 r4.1 r24 hr25) rfl (vp (.bool (!r24)) rfl (vp (.bool (!r24)) rfl ?_))
    cases hb26 : (!r24)
    · have h := ite_f hb26 h
      refine gp (i6 r10.2) rfl rfl (gp (i6 r4.2) rfl rfl (gp (.bool (r10.2 != r4.2)) rfl rfl (vp (.bool (r10.2 != r4.2)) rfl (a_nil ?_))))
      exact j_leaf (r10.2 != r4.2) (Option.some.inj h) (by kernel_rfl)
    · have h := ite_t hb26 h
      refine a_gskip rfl (a_gskip rfl (a_gskip rfl (vp (.bool true) rfl (a_nil ?_))))
      exact j_leaf true (Option.some.inj h) (by kernel_rfl)
def spec_ExponentOf_c : ACode := (.seq (.region 0 [q 3 (.box 26 (t 1)), q 4 (.alloc 26), q 5 (.asg 0 (.const (.int .i64 0)) 2)] false) (.seq (.seq (.region 1 [q 7 (.mov (t 0)), q 8 (.load 26 (t 3)), q 9 (.call 0 (.func 24) [(t 7), (t 8), (.const (.slice none 0 0))]), q 6 (.asg 0 (t 9) 2)] false) (.seq (.region 2 [q 10 (.mov (t 6)), q 11 (.bin .neq 2 (t 10) (.const (.int .i64 0)))] false) (.cond (t 11) (.seq (.region 3 [q 12 (.build 26 []), q 13 (.mov (t 6)), ⟨none, .store 26 (t 4) (t 12), none, []⟩, q 5 (.asg 0 (t 13) 2)] false) .ret) .skip))) (.seq (.region 4 [q 14 (.mov (t 0)), q 15 (.load 26 (t 3)), q 16 (.call 0 (.func 25) [(t 14), (t 15)]), ⟨none, .store 26 (t 4) (t 16), none, []⟩, q 5 (.asg 0 (.const (.int .i64 0)) 2)] false) .ret)))
def spec_ExponentOf_L : Live := [(0, [0, 1]), (1, [0, 3, 4]), (2, [0, 3, 4, 6]), (3, [4, 6]), (4, [0, 3, 4]), (100011, [0, 3, 4, 6, 11])]
noncomputable def spec_ExponentOf (a0 : Int) (a1 : (Vec Int 64)) : Option ((Vec Int 64) × Int) :=
  (Option.bind (spec_l02Modulus a0 a1 ([])) fun r2 => (if (r2 != 0) then (some (((vrep 64 (0 : Int)), r2))) else (Option.bind (spec_l04Exponent a0 a1) fun r6 => (some (r6, 0)))))
theorem spec_ExponentOf_ok (a0 : Int) (a1 : (Vec Int 64)) (r : ((Vec Int 64) × Int)) (h : spec_ExponentOf a0 a1 = some r) : Den Try.prog 12 [(i6 a0), (eA64u8 a1)] { r := (.tuple [(eA64u8 r.1), (i6 r.2)]) } := by
  refine den_of (rs := [(eA64u8 r.1), (i6 r.2)]) (ac := spec_ExponentOf_c) (L := spec_ExponentOf_L) (n := 17) (m := []) (c := Try.f12.body.getD .skip) good Try.func12 (by kernel_rfl) (by kernel_rfl) Try.ntmps12 rfl rfl (by kernel_rfl) rfl rfl ?_
  refine a_st (σ' := ⟨[(0, (i6 a0)), (1, (eA64u8 a1))], []⟩) (by kernel_rfl) ?_
  unfold spec_ExponentOf_c
  refine sr (vo 1300 (eA64u8 a1) rfl rfl (vo 1400 (eA64u8 ((vrep 64 (0 : Int)))) rfl rfl (vp (i6 0) rfl (nx ⟨[(0, (i6 a0)), (3, (ow 3)), (4, (ow 4))], [(3, (bk (eA64u8 a1))), (4, (bk (eA64u8 ((vrep 64 (0 : Int))))))]⟩ (by kernel_rfl) (a_seq (sr (vp (i6 a0) rfl (vl (eA64u8 a1) rfl rfl rfl rfl rfl rfl ?_))))))))
  obtain ⟨r2, hr3, h⟩ := bind_some h
  refine a_call (args := [(i6 a0), (eA64u8 a1), (.sl 0 true [])]) (u := []) (r := (i6 r2)) rfl rfl (Den.args (spec_l02Modulus_ok a0 a1 ([]) r2 hr3) rfl rfl (.cons (.refl _) (.cons (.refl _) (.cons (.nil _ _ _ _ (fun _ => rfl)) .nil)))) rfl (vp (i6 r2) rfl (nx ⟨[(0, (i6 a0)), (3, (ow 3)), (4, (ow 4)), (6, (i6 r2))], [(3, (bk (eA64u8 a1))), (4, (bk (eA64u8 ((vrep 64 (0 : Int))))))]⟩ (by kernel_rfl) (sr (vp (i6 r2) rfl (vp (.bool (r2 != 0)) rfl (nx ⟨[(0, (i6 a0)), (3, (ow 3)), (4, (ow 4)), (6, (i6 r2)), (11, (.bool (r2 != 0)))], [(3, (bk (eA64u8 a1))), (4, (bk (eA64u8 ((vrep 64 (0 : Int))))))]⟩ (by kernel_rfl) ?_))))))
  cases hb4 : (r2 != 0)
  · have h := ite_f hb4 h
    refine a_cond_f rfl (a_skip (a_next (σ' := ⟨[(0, (i6 a0)), (3, (ow 3)), (4, (ow 4))], [(3, (bk (eA64u8 a1))), (4, (bk (eA64u8 ((vrep 64 (0 : Int))))))]⟩) (by kernel_rfl) (sr (vp (i6 a0) rfl (vl (eA64u8 a1) rfl rfl rfl rfl rfl rfl ?_)))))
    obtain ⟨r6, hr7, h⟩ := bind_some h
    refine a_call (args := [(i6 a0), (eA64u8 a1)]) (u := []) (r := (eA64u8 r6)) rfl rfl (spec_l04Exponent_ok a0 a1 r6 hr7) rfl (vs (eA64u8 r6) rfl rfl (fun _ => rfl) rfl rfl rfl rfl rfl rfl (vp (i6 0) rfl (nx _ rfl (a_ret ?_))))
    have hl9 : LdOk [] (eA64u8 r6) [] 64 true (eA64u8 r6) := (.nil rfl rfl rfl)
    refine ⟨.inr rfl, ?_⟩
    rw [Try.results12]
    cases h
    exact ⟨_, _, _, _, _, ld_own (i := ⟨.arr 64 5, 64, 64, (eA64u8 (vrep 64 (0 : Int)))⟩) rfl rfl rfl hl9, hl9.c, .inl ⟨rfl, .inl rfl⟩, rfl, ⟨_, _, _, _, _, rfl, trivial, .inl ⟨rfl, .inl rfl⟩, rfl, rfl⟩⟩
  · have h := ite_t hb4 h
    refine a_cond_t rfl (sr (vq (eA64u8 ((vrep 64 (0 : Int)))) rfl ⟨⟨_, rfl, rfl⟩, all_nil⟩ (vp (i6 r2) rfl (vs (eA64u8 ((vrep 64 (0 : Int)))) rfl rfl (fun _ => rfl) rfl rfl rfl rfl rfl rfl (vp (i6 r2) rfl (nx _ rfl (a_ret (t_ret ?_))))))))
    have hl11 : LdOk [] (eA64u8 ((vrep 64 (0 : Int)))) [] 64 true (eA64u8 ((vrep 64 (0 : Int)))) := (.nil rfl rfl rfl)
    refine ⟨.inr rfl, ?_⟩
    rw [Try.results12]
    cases h
    exact ⟨_, _, _, _, _, ld_own (i := ⟨.arr 64 5, 64, 64, (eA64u8 (vrep 64 (0 : Int)))⟩) rfl rfl rfl hl11, hl11.c, .inl ⟨rfl, .inl rfl⟩, rfl, ⟨_, _, _, _, _, rfl, trivial, .inl ⟨rfl, .inl rfl⟩, rfl, rfl⟩⟩
end Go.Proofs.Ytebfhlnfmkhmcaa
