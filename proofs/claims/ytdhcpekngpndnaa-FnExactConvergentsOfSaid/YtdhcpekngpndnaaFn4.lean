/- Functions of the program: plain Lean functions, and that the program computes them. Printed by gen.py. -/
import Derived.Test.YtdhcpekngpndnaaFnT
import Derived.Test.YtdhcpekngpndnaaFn1
import Derived.Test.YtdhcpekngpndnaaFn2
import Derived.Test.YtdhcpekngpndnaaFn3
namespace Go.Proofs.Ytdhcpekngpndnaa
open Go.Abs Go.Proofs
set_option linter.unusedSimpArgs false
set_option linter.unusedVariables false
set_option maxHeartbeats 16000000
attribute [local irreducible] Abs.acode Abs.aops Abs.aopsT Abs.thenK Abs.blockK

def laws_FnExactConvergentsOf_c : ACode := (.seq (.region 0 [q 4 (.asg 0 (.const (.bool false)) 4)] false) (.seq (.region 1 [q 5 (.asg 0 (.const (.int .i64 1048576)) 3)] false) (.seq (.region 2 [q 19 (.mov (t 1)), q 20 (.mov (t 5)), q 21 (.call 0 (.func 25) [(t 19), (t 20)]), q 5 (.asg 0 (t 21) 3)] false) (.seq (.seq (.region 3 [q 22 (.mov (t 5)), q 23 (.bin .lss 3 (t 22) (.const (.int .i64 0)))] false) (.cond (t 23) (.seq (.region 4 [q 4 (.asg 0 (.const (.bool true)) 4)] false) .ret) .skip)) (.seq (.region 5 [q 25 (.mov (t 0)), q 26 (.mov (t 1)), q 27 (.call 0 (.func 27) [(t 26)]), q 28 (.call 0 (.func 26) [(t 25), (t 27)]), q 24 (.mov (t 28)), q 29 (.extract (t 24) 0), q 30 (.extract (t 24) 1), q 31 (.extract (t 24) 2), q 6 (.asg 1 (t 29) 38), q 7 (.asg 1 (t 30) 38), q 8 (.asg 0 (t 31) 2)] false) (.seq (.region 6 [q 32 (.mov (t 1)), q 33 (.call 0 (.func 27) [(t 32)]), q 9 (.asg 2 (t 33) 38)] false) (.seq (.region 7 [q 35 (.mov (t 0)), q 36 (.mov (t 9)), q 37 (.call 0 (.func 28) [(t 35), (t 36)]), q 34 (.mov (t 37)), q 38 (.extract (t 34) 0), q 39 (.extract (t 34) 1), q 40 (.extract (t 34) 2), q 10 (.asg 2 (t 38) 38), q 11 (.asg 2 (t 39) 38), q 12 (.asg 0 (t 40) 2)] false) (.seq (.seq (.region 8 [q 41 (.mov (t 10)), q 42 (.mov (t 6)), q 43 (.call 0 (.func 29) [(t 41), (t 42)]), q 44 (.un .not (t 43)), q 45 (.mov (t 44)), ⟨some 46, .mov (t 11), some (45, false), []⟩, ⟨some 47, .mov (t 7), some (45, false), []⟩, ⟨some 48, .call 0 (.func 29) [(t 46), (t 47)], some (45, false), []⟩, ⟨some 49, .un .not (t 48), some (45, false), []⟩, q 50 (.pick (t 45) (.const (.bool true)) (t 49)), q 51 (.mov (t 50)), ⟨some 52, .mov (t 12), some (51, false), []⟩, ⟨some 53, .mov (t 8), some (51, false), []⟩, ⟨some 54, .bin .neq 2 (t 52) (t 53), some (51, false), []⟩, q 55 (.pick (t 51) (.const (.bool true)) (t 54))] false) (.cond (t 55) (.seq (.region 9 [q 4 (.asg 0 (.const (.bool false)) 4)] false) .ret) .skip)) (.seq (.seq (.region 10 [q 56 (.mov (t 9)), q 57 (.mov (t 1)), q 58 (.call 0 (.func 27) [(t 57)]), q 59 (.call 0 (.func 29) [(t 56), (t 58)]), q 60 (.un .not (t 59))] false) (.cond (t 60) (.seq (.region 11 [q 4 (.asg 0 (.const (.bool false)) 4)] false) .ret) .skip)) (.seq (.region 12 [q 13 (.asg 0 (.const (.int .i64 1)) 3)] false) (.seq (.region 13 [q 61 (.mov (t 9)), q 62 (.mov (t 13)), q 63 (.call 1 (.func 30) [(t 61), (t 62)]), q 13 (.asg 0 (t 63) 3)] false) (.seq (.seq (.region 14 [q 64 (.mov (t 13)), q 65 (.bin .lss 3 (t 64) (.const (.int .i64 0))), q 66 (.mov (t 65)), ⟨some 67, .mov (t 10), some (66, false), []⟩, ⟨some 68, .mov (t 6), some (66, false), []⟩, ⟨some 69, .call 0 (.func 29) [(t 67), (t 68)], some (66, false), []⟩, ⟨some 70, .un .not (t 69), some (66, false), []⟩, q 71 (.pick (t 66) (.const (.bool true)) (t 70)), q 72 (.mov (t 71)), ⟨some 73, .mov (t 11), some (72, false), []⟩, ⟨some 74, .mov (t 7), some (72, false), []⟩, ⟨some 75, .call 0 (.func 29) [(t 73), (t 74)], some (72, false), []⟩, ⟨some 76, .un .not (t 75), some (72, false), []⟩, q 77 (.pick (t 72) (.const (.bool true)) (t 76)), q 78 (.mov (t 77)), ⟨some 79, .mov (t 12), some (78, false), []⟩, ⟨some 80, .mov (t 8), some (78, false), []⟩, ⟨some 81, .bin .neq 2 (t 79) (t 80), some (78, false), []⟩, q 82 (.pick (t 78) (.const (.bool true)) (t 81))] false) (.cond (t 82) (.seq (.region 15 [q 4 (.asg 0 (.const (.bool false)) 4)] false) .ret) .skip)) (.seq (.region 16 [q 14 (.asg 0 (.const (.int .i64 1)) 3)] false) (.seq (.region 17 [q 83 (.mov (t 10)), q 84 (.mov (t 14)), q 85 (.call 1 (.func 30) [(t 83), (t 84)]), q 14 (.asg 0 (t 85) 3)] false) (.seq (.region 18 [q 86 (.mov (t 11)), q 87 (.mov (t 14)), q 88 (.call 1 (.func 30) [(t 86), (t 87)]), q 14 (.asg 0 (t 88) 3)] false) (.seq (.region 19 [q 15 (.asg 0 (.const (.int .i64 1)) 3)] false) (.seq (.region 20 [q 89 (.mov (t 10)), q 90 (.mov (t 15)), q 91 (.call 0 (.func 31) [(t 89), (t 90)]), q 15 (.asg 0 (t 91) 3)] false) (.seq (.seq (.region 21 [q 92 (.mov (t 15)), q 93 (.bin .lss 3 (t 92) (.const (.int .i64 0)))] false) (.cond (t 93) (.seq (.region 22 [q 4 (.asg 0 (.const (.bool false)) 4)] false) .ret) .skip)) (.seq (.region 23 [q 94 (.mov (t 11)), q 95 (.mov (t 15)), q 96 (.call 0 (.func 31) [(t 94), (t 95)]), q 15 (.asg 0 (t 96) 3)] false) (.seq (.seq (.region 24 [q 97 (.mov (t 15)), q 98 (.bin .lss 3 (t 97) (.const (.int .i64 0)))] false) (.cond (t 98) (.seq (.region 25 [q 4 (.asg 0 (.const (.bool false)) 4)] false) .ret) .skip)) (.seq (.seq (.region 26 [q 99 (.mov (t 15)), q 100 (.mov (t 14)), q 101 (.bin .neq 3 (t 99) (t 100))] false) (.cond (t 101) (.seq (.region 27 [q 4 (.asg 0 (.const (.bool false)) 4)] false) .ret) .skip)) (.seq (.region 28 [q 103 (.mov (t 0)), q 104 (.mov (t 1)), q 105 (.call 0 (.func 27) [(t 104)]), q 106 (.call 0 (.func 28) [(t 103), (t 105)]), q 102 (.mov (t 106)), q 107 (.extract (t 102) 0), q 108 (.extract (t 102) 1), q 109 (.extract (t 102) 2), q 16 (.asg 1 (t 107) 38), q 17 (.asg 1 (t 108) 38), q 18 (.asg 0 (t 109) 2)] false) (.seq (.seq (.region 29 [q 110 (.mov (t 16)), q 111 (.mov (t 6)), q 112 (.call 0 (.func 29) [(t 110), (t 111)]), q 113 (.un .not (t 112)), q 114 (.mov (t 113)), ⟨some 115, .mov (t 17), some (114, false), []⟩, ⟨some 116, .mov (t 7), some (114, false), []⟩, ⟨some 117, .call 0 (.func 29) [(t 115), (t 116)], some (114, false), []⟩, ⟨some 118, .un .not (t 117), some (114, false), []⟩, q 119 (.pick (t 114) (.const (.bool true)) (t 118)), q 120 (.mov (t 119)), ⟨some 121, .mov (t 18), some (120, false), []⟩, ⟨some 122, .mov (t 8), some (120, false), []⟩, ⟨some 123, .bin .neq 2 (t 121) (t 122), some (120, false), []⟩, q 124 (.pick (t 120) (.const (.bool true)) (t 123))] false) (.cond (t 124) (.seq (.region 30 [q 4 (.asg 0 (.const (.bool false)) 4)] false) .ret) .skip)) (.seq (.region 31 [q 15 (.asg 0 (.const (.int .i64 1)) 3)] false) (.seq (.region 32 [q 125 (.mov (t 10)), q 126 (.mov (t 15)), q 127 (.call 0 (.func 31) [(t 125), (t 126)]), q 15 (.asg 0 (t 127) 3)] false) (.seq (.seq (.region 33 [q 128 (.mov (t 15)), q 129 (.bin .lss 3 (t 128) (.const (.int .i64 0)))] false) (.cond (t 129) (.seq (.region 34 [q 4 (.asg 0 (.const (.bool false)) 4)] false) .ret) .skip)) (.seq (.region 35 [q 130 (.mov (t 11)), q 131 (.mov (t 15)), q 132 (.call 0 (.func 31) [(t 130), (t 131)]), q 15 (.asg 0 (t 132) 3)] false) (.seq (.seq (.region 36 [q 133 (.mov (t 15)), q 134 (.bin .lss 3 (t 133) (.const (.int .i64 0)))] false) (.cond (t 134) (.seq (.region 37 [q 4 (.asg 0 (.const (.bool false)) 4)] false) .ret) .skip)) (.seq (.seq (.region 38 [q 135 (.mov (t 15)), q 136 (.mov (t 14)), q 137 (.bin .neq 3 (t 135) (t 136))] false) (.cond (t 137) (.seq (.region 39 [q 4 (.asg 0 (.const (.bool false)) 4)] false) .ret) .skip)) (.seq (.region 40 [q 4 (.asg 0 (.const (.bool true)) 4)] false) .ret))))))))))))))))))))))))))))))
def laws_FnExactConvergentsOf_L : Live := [(0, [0, 1]), (1, [0, 1]), (2, [0, 1, 5]), (3, [0, 1, 5]), (4, []), (5, [0, 1]), (6, [0, 1, 6, 7, 8]), (7, [0, 1, 6, 7, 8, 9]), (8, [0, 1, 6, 7, 8, 9, 10, 11, 12]), (9, []), (10, [0, 1, 6, 7, 8, 9, 10, 11, 12]), (11, []), (12, [0, 1, 6, 7, 8, 9, 10, 11, 12]), (13, [0, 1, 6, 7, 8, 9, 10, 11, 12, 13]), (14, [0, 1, 6, 7, 8, 10, 11, 12, 13]), (15, []), (16, [0, 1, 6, 7, 8, 10, 11]), (17, [0, 1, 6, 7, 8, 10, 11, 14]), (18, [0, 1, 6, 7, 8, 10, 11, 14]), (19, [0, 1, 6, 7, 8, 10, 11, 14]), (20, [0, 1, 6, 7, 8, 10, 11, 14, 15]), (21, [0, 1, 6, 7, 8, 10, 11, 14, 15]), (22, []), (23, [0, 1, 6, 7, 8, 10, 11, 14, 15]), (24, [0, 1, 6, 7, 8, 10, 11, 14, 15]), (25, []), (26, [0, 1, 6, 7, 8, 10, 11, 14, 15]), (27, []), (28, [0, 1, 6, 7, 8, 10, 11, 14]), (29, [6, 7, 8, 10, 11, 14, 16, 17, 18]), (30, []), (31, [10, 11, 14]), (32, [10, 11, 14, 15]), (33, [11, 14, 15]), (34, []), (35, [11, 14, 15]), (36, [14, 15]), (37, []), (38, [14, 15]), (39, []), (40, []), (100023, [0, 1, 23]), (100055, [0, 1, 6, 7, 8, 9, 10, 11, 12, 55]), (100060, [0, 1, 6, 7, 8, 9, 10, 11, 12, 60]), (100082, [0, 1, 6, 7, 8, 10, 11, 82]), (100093, [0, 1, 6, 7, 8, 10, 11, 14, 15, 93]), (100098, [0, 1, 6, 7, 8, 10, 11, 14, 15, 98]), (100101, [0, 1, 6, 7, 8, 10, 11, 14, 101]), (100124, [10, 11, 14, 124]), (100129, [11, 14, 15, 129]), (100134, [14, 15, 134]), (100137, [137])]
noncomputable def laws_FnExactConvergentsOf (a0 : Int) (a1 : (List (Vec Int 64))) : Option Bool :=
  (Option.bind (laws_szPolyS a1 1048576) fun r1 => (if (decide (r1 < 0)) then (some true) else (Option.bind (laws_toPolyS a1) fun r4 => (Option.bind (spec_ConvergentsOf a0 r4) fun r6 => (Option.bind (laws_toPolyS_fresh a1) fun r8 => (Option.bind (impl_ConvergentsOf_fresh a0 r8) fun r10 => (Option.bind (α := Bool) ((Option.bind (laws_eqPolyS r10.1 r6.1) fun r22 => (if (!r22) then (some true) else (Option.bind (laws_eqPolyS r10.2.1 r6.2.1) fun r25 => (if (!r25) then (some true) else (some (r10.2.2 != r6.2.2))))))) fun x18 => (if x18 then (some false) else (Option.bind (laws_toPolyS a1) fun r29 => (Option.bind (laws_eqPolyS r8 r29) fun r31 => (if (!r31) then (some false) else (Option.bind (laws_markPolyS_of_mut r8 1) fun r34 => (ifp (r34.2.length = r8.length) ((Option.bind (α := Bool) ((if (decide (r34.1 < 0)) then (some true) else (Option.bind (laws_eqPolyS r10.1 r6.1) fun r49 => (if (!r49) then (some true) else (Option.bind (laws_eqPolyS r10.2.1 r6.2.1) fun r52 => (if (!r52) then (some true) else (some (r10.2.2 != r6.2.2)))))))) fun x44 => (if x44 then (some false) else (Option.bind (laws_markPolyS_of_mut r10.1 1) fun r56 => (ifp (r56.2.length = r10.1.length) ((Option.bind (laws_markPolyS_of_mut r10.2.1 r56.1) fun r59 => (ifp (r59.2.length = r10.2.1.length) ((Option.bind (laws_heldPolyS r56.2 1) fun r62 => (if (decide (r62 < 0)) then (some false) else (Option.bind (laws_heldPolyS r59.2 r62) fun r65 => (if (decide (r65 < 0)) then (some false) else (if (r65 != r59.1) then (some false) else (Option.bind (laws_toPolyS a1) fun r69 => (Option.bind (impl_ConvergentsOf a0 r69) fun r71 => (Option.bind (α := Bool) ((Option.bind (laws_eqPolyS r71.1 r6.1) fun r83 => (if (!r83) then (some true) else (Option.bind (laws_eqPolyS r71.2.1 r6.2.1) fun r86 => (if (!r86) then (some true) else (some (r71.2.2 != r6.2.2))))))) fun x79 => (if x79 then (some false) else (Option.bind (laws_heldPolyS r56.2 1) fun r90 => (if (decide (r90 < 0)) then (some false) else (Option.bind (laws_heldPolyS r59.2 r90) fun r93 => (if (decide (r93 < 0)) then (some false) else (if (r93 != r59.1) then (some false) else (some true)))))))))))))))))))))))))))))))))))))
theorem laws_FnExactConvergentsOf_ok (a0 : Int) (a1 : (List (Vec Int 64))) (r : Bool) (h : laws_FnExactConvergentsOf a0 a1 = some r) : Den Try.prog 5 [(i6 a0), (eSA64u8 a1)] { r := (.bool r) } := by
  refine den_of (rs := [(.bool r)]) (ac := laws_FnExactConvergentsOf_c) (L := laws_FnExactConvergentsOf_L) (n := 138) (m := [(6, 1), (7, 1), (9, 2), (10, 2), (11, 2), (16, 1), (17, 1), (63, 1), (85, 1), (88, 1)]) (c := Try.f5.body.getD .skip) good Try.func5 (by kernel_rfl) (by kernel_rfl) Try.ntmps5 rfl rfl (by kernel_rfl) rfl rfl ?_
  refine a_st (σ' := ⟨[(0, (i6 a0)), (1, (eSA64u8 a1))], []⟩) (by kernel_rfl) ?_
  unfold laws_FnExactConvergentsOf_c
  refine sr (vp (.bool false) rfl (nx ⟨[(0, (i6 a0)), (1, (eSA64u8 a1))], []⟩ (by kernel_rfl) (sr (vp (i6 1048576) rfl (nx ⟨[(0, (i6 a0)), (1, (eSA64u8 a1)), (5, (i6 1048576))], []⟩ (by kernel_rfl) (sr (vp (eSA64u8 a1) rfl (vp (i6 1048576) rfl ?_))))))))
  obtain ⟨r1, hr2, h⟩ := bind_some h
  refine a_call (args := [(eSA64u8 a1), (i6 1048576)]) (u := []) (r := (i6 r1)) rfl rfl (laws_szPolyS_ok a1 1048576 r1 hr2) rfl (vp (i6 r1) rfl (nx ⟨[(0, (i6 a0)), (1, (eSA64u8 a1)), (5, (i6 r1))], []⟩ (by kernel_rfl) (a_seq (sr (vp (i6 r1) rfl (vp (.bool ((decide (r1 < 0)))) rfl (nx ⟨[(0, (i6 a0)), (1, (eSA64u8 a1)), (23, (.bool ((decide (r1 < 0)))))], []⟩ (by kernel_rfl) ?_)))))))
  cases hb3 : (decide (r1 < 0))
  · have h := ite_f hb3 h
    refine a_cond_f rfl (a_skip (a_next (σ' := ⟨[(0, (i6 a0)), (1, (eSA64u8 a1))], []⟩) (by kernel_rfl) (sr (vp (i6 a0) rfl (vp (eSA64u8 a1) rfl ?_)))))
    obtain ⟨r4, hr5, h⟩ := bind_some h
    refine a_call (args := [(eSA64u8 a1)]) (u := []) (r := (eSA64u8 r4)) rfl rfl (laws_toPolyS_ok a1 r4 hr5) rfl ?_
    obtain ⟨r6, hr7, h⟩ := bind_some h
    refine a_call (args := [(i6 a0), (eSA64u8 r4)]) (u := []) (r := (.tuple [(eSA64u8 r6.1), (eSA64u8 r6.2.1), (i6 r6.2.2)])) rfl rfl (spec_ConvergentsOf_ok a0 r4 r6 hr7) rfl (vp (.tuple [(eSA64u8 r6.1), (eSA64u8 r6.2.1), (i6 r6.2.2)]) rfl (vb (eSA64u8 r6.1) rfl rfl (vb (eSA64u8 r6.2.1) rfl rfl (vb (i6 r6.2.2) rfl rfl (vp (eSA64u8 r6.1) rfl (vp (eSA64u8 r6.2.1) rfl (vp (i6 r6.2.2) rfl (nx ⟨[(0, (i6 a0)), (1, (eSA64u8 a1)), (6, (eSA64u8 r6.1)), (7, (eSA64u8 r6.2.1)), (8, (i6 r6.2.2))], []⟩ (by kernel_rfl) (sr ?_)))))))))
    refine vp (eSA64u8 a1) rfl ?_
    obtain ⟨r8, hr9, h⟩ := bind_some h
    refine a_callF (args := [(eSA64u8 a1)]) (u := []) (u2 := []) (r := (.osl 2000000)) (fs := [(64, r8.map eA64u8)]) rfl rfl (laws_toPolyS_fresh_ok a1 r8 hr9) rfl rfl rfl (.inl rfl) rfl (vp (.osl 4300) rfl (nx ⟨[(0, (i6 a0)), (1, (eSA64u8 a1)), (6, (eSA64u8 r6.1)), (7, (eSA64u8 r6.2.1)), (8, (i6 r6.2.2)), (9, (.osl 9))], [(9, (bk (.row 64 (r8.map eA64u8))))]⟩ (by kernel_rfl) (sr (vp (i6 a0) rfl (vp (.osl 9) rfl ?_)))))
    obtain ⟨r10, hr11, h⟩ := bind_some h
    refine a_callF (args := [(i6 a0), (eSA64u8 r8)]) (u := [(9, (bf (.row 64 (r8.map eA64u8))))]) (u2 := []) (r := (.tuple [(.osl 2000000), (.osl 2000001), (i6 r10.2.2)])) (fs := [(64, r10.1.map eA64u8), (64, r10.2.1.map eA64u8)]) rfl rfl (impl_ConvergentsOf_fresh_ok a0 r8 r10 hr11) rfl rfl rfl (.inr ⟨rfl, rfl, ⟨trivial, trivial, (fun _ => trivial) r10.2.2, trivial⟩, (nr_cons (nr_map (f := eA64u8) (fun x => nr_map (f := (AV.int .u8)) (fun _ => trivial) x.1) _) (nr_cons (nr_map (f := eA64u8) (fun x => nr_map (f := (AV.int .u8)) (fun _ => trivial) x.1) _) nr_nil))⟩) rfl (vp (.tuple [(.osl 4700), (.osl 4701), (i6 r10.2.2)]) rfl (vb (.osl 4700) rfl rfl (vb (.osl 4701) rfl rfl (vb (i6 r10.2.2) rfl rfl (vp (.osl 4700) rfl (vp (.osl 4701) rfl (vp (i6 r10.2.2) rfl (nx ⟨[(0, (i6 a0)), (1, (eSA64u8 a1)), (6, (eSA64u8 r6.1)), (7, (eSA64u8 r6.2.1)), (8, (i6 r6.2.2)), (9, (.osl 9)), (10, (.osl 10)), (11, (.osl 11)), (12, (i6 r10.2.2))], [(9, (bk (.row 64 (r8.map eA64u8)))), (10, (bk (.row 64 (r10.1.map eA64u8)))), (11, (bk (.row 64 (r10.2.1.map eA64u8))))]⟩ (by kernel_rfl) (a_seq ?_)))))))))
    obtain ⟨y19, hy20, hk21⟩ := bind_some h
    clear h
    refine a_join (emb := fun (s : Bool) => ⟨[(0, (i6 a0)), (1, (eSA64u8 a1)), (6, (eSA64u8 r6.1)), (7, (eSA64u8 r6.2.1)), (8, (i6 r6.2.2)), (9, (.osl 9)), (10, (.osl 10)), (11, (.osl 11)), (12, (i6 r10.2.2)), (55, (.bool s))], [(9, (bk (.row 64 (r8.map eA64u8)))), (10, (bk (.row 64 (r10.1.map eA64u8)))), (11, (bk (.row 64 (r10.2.1.map eA64u8))))]⟩) (pre := fun s => s = y19) ?_ ?_
    · rintro x18 rfl
      have h := hk21
      refine a_st (σ' := ⟨[(0, (i6 a0)), (1, (eSA64u8 a1)), (6, (eSA64u8 r6.1)), (7, (eSA64u8 r6.2.1)), (8, (i6 r6.2.2)), (9, (.osl 9)), (10, (.osl 10)), (11, (.osl 11)), (12, (i6 r10.2.2)), (55, (.bool x18))], [(9, (bk (.row 64 (r8.map eA64u8)))), (10, (bk (.row 64 (r10.1.map eA64u8)))), (11, (bk (.row 64 (r10.2.1.map eA64u8))))]⟩) (by kernel_rfl) ?_
      cases hb28 : x18
      · have h := ite_f hb28 h
        refine a_cond_f rfl (a_skip (a_next (σ' := ⟨[(0, (i6 a0)), (1, (eSA64u8 a1)), (6, (eSA64u8 r6.1)), (7, (eSA64u8 r6.2.1)), (8, (i6 r6.2.2)), (9, (.osl 9)), (10, (.osl 10)), (11, (.osl 11)), (12, (i6 r10.2.2))], [(9, (bk (.row 64 (r8.map eA64u8)))), (10, (bk (.row 64 (r10.1.map eA64u8)))), (11, (bk (.row 64 (r10.2.1.map eA64u8))))]⟩) (by kernel_rfl) (a_seq (sr (vp (.osl 9) rfl (vp (eSA64u8 a1) rfl ?_))))))
        obtain ⟨r29, hr30, h⟩ := bind_some h
        refine a_call (args := [(eSA64u8 a1)]) (u := []) (r := (eSA64u8 r29)) rfl rfl (laws_toPolyS_ok a1 r29 hr30) rfl ?_
        obtain ⟨r31, hr32, h⟩ := bind_some h
        refine a_callB (args := [(eSA64u8 r8), (eSA64u8 r29)]) (u := [(9, (bf (.row 64 (r8.map eA64u8))))]) (r := (.bool r31)) rfl rfl (laws_eqPolyS_ok r8 r29 r31 hr32) rfl trivial (vp (.bool (!r31)) rfl (nx ⟨[(0, (i6 a0)), (1, (eSA64u8 a1)), (6, (eSA64u8 r6.1)), (7, (eSA64u8 r6.2.1)), (8, (i6 r6.2.2)), (9, (.osl 9)), (10, (.osl 10)), (11, (.osl 11)), (12, (i6 r10.2.2)), (60, (.bool (!r31)))], [(9, (bk (.row 64 (r8.map eA64u8)))), (10, (bk (.row 64 (r10.1.map eA64u8)))), (11, (bk (.row 64 (r10.2.1.map eA64u8))))]⟩ (by kernel_rfl) ?_))
        cases hb33 : (!r31)
        · have h := ite_f hb33 h
          refine a_cond_f rfl (a_skip (a_next (σ' := ⟨[(0, (i6 a0)), (1, (eSA64u8 a1)), (6, (eSA64u8 r6.1)), (7, (eSA64u8 r6.2.1)), (8, (i6 r6.2.2)), (9, (.osl 9)), (10, (.osl 10)), (11, (.osl 11)), (12, (i6 r10.2.2))], [(9, (bk (.row 64 (r8.map eA64u8)))), (10, (bk (.row 64 (r10.1.map eA64u8)))), (11, (bk (.row 64 (r10.2.1.map eA64u8))))]⟩) (by kernel_rfl) (sr (vp (i6 1) rfl (nx ⟨[(0, (i6 a0)), (1, (eSA64u8 a1)), (6, (eSA64u8 r6.1)), (7, (eSA64u8 r6.2.1)), (8, (i6 r6.2.2)), (9, (.osl 9)), (10, (.osl 10)), (11, (.osl 11)), (12, (i6 r10.2.2)), (13, (i6 1))], [(9, (bk (.row 64 (r8.map eA64u8)))), (10, (bk (.row 64 (r10.1.map eA64u8)))), (11, (bk (.row 64 (r10.2.1.map eA64u8))))]⟩ (by kernel_rfl) (sr (vp (.osl 9) rfl (vp (i6 1) rfl ?_))))))))
          obtain ⟨r34, hr35, h⟩ := bind_some h
          obtain ⟨hl36, h⟩ := ifp_some h
          refine a_callM (args := [(.mutsl 64 (r8.map eA64u8)), (i6 1)]) (i := 0) (id := 9) (r := (i6 r34.1)) (c := (.row 64 (r34.2.map eA64u8))) rfl rfl (laws_markPolyS_of_mut_ok r8 1 r34 hr35) rfl (shape_map hl36) (vp (i6 r34.1) rfl (nx ⟨[(0, (i6 a0)), (1, (eSA64u8 a1)), (6, (eSA64u8 r6.1)), (7, (eSA64u8 r6.2.1)), (8, (i6 r6.2.2)), (10, (.osl 10)), (11, (.osl 11)), (12, (i6 r10.2.2)), (13, (i6 r34.1))], [(10, (bk (.row 64 (r10.1.map eA64u8)))), (11, (bk (.row 64 (r10.2.1.map eA64u8))))]⟩ (by kernel_rfl) (a_seq ?_)))
          obtain ⟨y45, hy46, hk47⟩ := bind_some h
          clear h
          refine a_join (emb := fun (s : Bool) => ⟨[(0, (i6 a0)), (1, (eSA64u8 a1)), (6, (eSA64u8 r6.1)), (7, (eSA64u8 r6.2.1)), (8, (i6 r6.2.2)), (10, (.osl 10)), (11, (.osl 11)), (82, (.bool s))], [(10, (bk (.row 64 (r10.1.map eA64u8)))), (11, (bk (.row 64 (r10.2.1.map eA64u8))))]⟩) (pre := fun s => s = y45) ?_ ?_
          · rintro x44 rfl
            have h := hk47
            refine a_st (σ' := ⟨[(0, (i6 a0)), (1, (eSA64u8 a1)), (6, (eSA64u8 r6.1)), (7, (eSA64u8 r6.2.1)), (8, (i6 r6.2.2)), (10, (.osl 10)), (11, (.osl 11)), (82, (.bool x44))], [(10, (bk (.row 64 (r10.1.map eA64u8)))), (11, (bk (.row 64 (r10.2.1.map eA64u8))))]⟩) (by kernel_rfl) ?_
            cases hb55 : x44
            · have h := ite_f hb55 h
              refine a_cond_f rfl (a_skip (a_next (σ' := ⟨[(0, (i6 a0)), (1, (eSA64u8 a1)), (6, (eSA64u8 r6.1)), (7, (eSA64u8 r6.2.1)), (8, (i6 r6.2.2)), (10, (.osl 10)), (11, (.osl 11))], [(10, (bk (.row 64 (r10.1.map eA64u8)))), (11, (bk (.row 64 (r10.2.1.map eA64u8))))]⟩) (by kernel_rfl) (sr (vp (i6 1) rfl (nx ⟨[(0, (i6 a0)), (1, (eSA64u8 a1)), (6, (eSA64u8 r6.1)), (7, (eSA64u8 r6.2.1)), (8, (i6 r6.2.2)), (10, (.osl 10)), (11, (.osl 11)), (14, (i6 1))], [(10, (bk (.row 64 (r10.1.map eA64u8)))), (11, (bk (.row 64 (r10.2.1.map eA64u8))))]⟩ (by kernel_rfl) (sr (vp (.osl 10) rfl (vp (i6 1) rfl ?_))))))))
              obtain ⟨r56, hr57, h⟩ := bind_some h
              obtain ⟨hl58, h⟩ := ifp_some h
              refine a_callM (args := [(.mutsl 64 (r10.1.map eA64u8)), (i6 1)]) (i := 0) (id := 10) (r := (i6 r56.1)) (c := (.row 64 (r56.2.map eA64u8))) rfl rfl (laws_markPolyS_of_mut_ok r10.1 1 r56 hr57) rfl (shape_map hl58) (vp (i6 r56.1) rfl (nx ⟨[(0, (i6 a0)), (1, (eSA64u8 a1)), (6, (eSA64u8 r6.1)), (7, (eSA64u8 r6.2.1)), (8, (i6 r6.2.2)), (10, (.osl 10)), (11, (.osl 11)), (14, (i6 r56.1))], [(10, (bk (.row 64 (r56.2.map eA64u8)))), (11, (bk (.row 64 (r10.2.1.map eA64u8))))]⟩ (by kernel_rfl) (sr (vp (.osl 11) rfl (vp (i6 r56.1) rfl ?_)))))
              obtain ⟨r59, hr60, h⟩ := bind_some h
              obtain ⟨hl61, h⟩ := ifp_some h
              refine a_callM (args := [(.mutsl 64 (r10.2.1.map eA64u8)), (i6 r56.1)]) (i := 0) (id := 11) (r := (i6 r59.1)) (c := (.row 64 (r59.2.map eA64u8))) rfl rfl (laws_markPolyS_of_mut_ok r10.2.1 r56.1 r59 hr60) rfl (shape_map hl61) (vp (i6 r59.1) rfl (nx ⟨[(0, (i6 a0)), (1, (eSA64u8 a1)), (6, (eSA64u8 r6.1)), (7, (eSA64u8 r6.2.1)), (8, (i6 r6.2.2)), (10, (.osl 10)), (11, (.osl 11)), (14, (i6 r59.1))], [(10, (bk (.row 64 (r56.2.map eA64u8)))), (11, (bk (.row 64 (r59.2.map eA64u8))))]⟩ (by kernel_rfl) (sr (vp (i6 1) rfl (nx ⟨[(0, (i6 a0)), (1, (eSA64u8 a1)), (6, (eSA64u8 r6.1)), (7, (eSA64u8 r6.2.1)), (8, (i6 r6.2.2)), (10, (.osl 10)), (11, (.osl 11)), (14, (i6 r59.1)), (15, (i6 1))], [(10, (bk (.row 64 (r56.2.map eA64u8)))), (11, (bk (.row 64 (r59.2.map eA64u8))))]⟩ (by kernel_rfl) (sr (vp (.osl 10) rfl (vp (i6 1) rfl ?_))))))))
              obtain ⟨r62, hr63, h⟩ := bind_some h
              refine a_callB (args := [(eSA64u8 r56.2), (i6 1)]) (u := [(10, (bf (.row 64 (r56.2.map eA64u8))))]) (r := (i6 r62)) rfl rfl (laws_heldPolyS_ok r56.2 1 r62 hr63) rfl trivial (vp (i6 r62) rfl (nx ⟨[(0, (i6 a0)), (1, (eSA64u8 a1)), (6, (eSA64u8 r6.1)), (7, (eSA64u8 r6.2.1)), (8, (i6 r6.2.2)), (10, (.osl 10)), (11, (.osl 11)), (14, (i6 r59.1)), (15, (i6 r62))], [(10, (bk (.row 64 (r56.2.map eA64u8)))), (11, (bk (.row 64 (r59.2.map eA64u8))))]⟩ (by kernel_rfl) (a_seq (sr (vp (i6 r62) rfl (vp (.bool ((decide (r62 < 0)))) rfl (nx ⟨[(0, (i6 a0)), (1, (eSA64u8 a1)), (6, (eSA64u8 r6.1)), (7, (eSA64u8 r6.2.1)), (8, (i6 r6.2.2)), (10, (.osl 10)), (11, (.osl 11)), (14, (i6 r59.1)), (15, (i6 r62)), (93, (.bool ((decide (r62 < 0)))))], [(10, (bk (.row 64 (r56.2.map eA64u8)))), (11, (bk (.row 64 (r59.2.map eA64u8))))]⟩ (by kernel_rfl) ?_)))))))
              cases hb64 : (decide (r62 < 0))
              · have h := ite_f hb64 h
                refine a_cond_f rfl (a_skip (a_next (σ' := ⟨[(0, (i6 a0)), (1, (eSA64u8 a1)), (6, (eSA64u8 r6.1)), (7, (eSA64u8 r6.2.1)), (8, (i6 r6.2.2)), (10, (.osl 10)), (11, (.osl 11)), (14, (i6 r59.1)), (15, (i6 r62))], [(10, (bk (.row 64 (r56.2.map eA64u8)))), (11, (bk (.row 64 (r59.2.map eA64u8))))]⟩) (by kernel_rfl) (sr (vp (.osl 11) rfl (vp (i6 r62) rfl ?_)))))
                obtain ⟨r65, hr66, h⟩ := bind_some h
                refine a_callB (args := [(eSA64u8 r59.2), (i6 r62)]) (u := [(11, (bf (.row 64 (r59.2.map eA64u8))))]) (r := (i6 r65)) rfl rfl (laws_heldPolyS_ok r59.2 r62 r65 hr66) rfl trivial (vp (i6 r65) rfl (nx ⟨[(0, (i6 a0)), (1, (eSA64u8 a1)), (6, (eSA64u8 r6.1)), (7, (eSA64u8 r6.2.1)), (8, (i6 r6.2.2)), (10, (.osl 10)), (11, (.osl 11)), (14, (i6 r59.1)), (15, (i6 r65))], [(10, (bk (.row 64 (r56.2.map eA64u8)))), (11, (bk (.row 64 (r59.2.map eA64u8))))]⟩ (by kernel_rfl) (a_seq (sr (vp (i6 r65) rfl (vp (.bool ((decide (r65 < 0)))) rfl (nx ⟨[(0, (i6 a0)), (1, (eSA64u8 a1)), (6, (eSA64u8 r6.1)), (7, (eSA64u8 r6.2.1)), (8, (i6 r6.2.2)), (10, (.osl 10)), (11, (.osl 11)), (14, (i6 r59.1)), (15, (i6 r65)), (98, (.bool ((decide (r65 < 0)))))], [(10, (bk (.row 64 (r56.2.map eA64u8)))), (11, (bk (.row 64 (r59.2.map eA64u8))))]⟩ (by kernel_rfl) ?_)))))))
                cases hb67 : (decide (r65 < 0))
                · have h := ite_f hb67 h
                  refine a_cond_f rfl (a_skip (a_next (σ' := ⟨[(0, (i6 a0)), (1, (eSA64u8 a1)), (6, (eSA64u8 r6.1)), (7, (eSA64u8 r6.2.1)), (8, (i6 r6.2.2)), (10, (.osl 10)), (11, (.osl 11)), (14, (i6 r59.1)), (15, (i6 r65))], [(10, (bk (.row 64 (r56.2.map eA64u8)))), (11, (bk (.row 64 (r59.2.map eA64u8))))]⟩) (by kernel_rfl) (a_seq (sr (vp (i6 r65) rfl (vp (i6 r59.1) rfl (vp (.bool (r65 != r59.1)) rfl (nx ⟨[(0, (i6 a0)), (1, (eSA64u8 a1)), (6, (eSA64u8 r6.1)), (7, (eSA64u8 r6.2.1)), (8, (i6 r6.2.2)), (10, (.osl 10)), (11, (.osl 11)), (14, (i6 r59.1)), (101, (.bool (r65 != r59.1)))], [(10, (bk (.row 64 (r56.2.map eA64u8)))), (11, (bk (.row 64 (r59.2.map eA64u8))))]⟩ (by kernel_rfl) ?_))))))))
                  cases hb68 : (r65 != r59.1)
                  · have h := ite_f hb68 h
                    refine a_cond_f rfl (a_skip (a_next (σ' := ⟨[(0, (i6 a0)), (1, (eSA64u8 a1)), (6, (eSA64u8 r6.1)), (7, (eSA64u8 r6.2.1)), (8, (i6 r6.2.2)), (10, (.osl 10)), (11, (.osl 11)), (14, (i6 r59.1))], [(10, (bk (.row 64 (r56.2.map eA64u8)))), (11, (bk (.row 64 (r59.2.map eA64u8))))]⟩) (by kernel_rfl) (sr (vp (i6 a0) rfl (vp (eSA64u8 a1) rfl ?_)))))
                    obtain ⟨r69, hr70, h⟩ := bind_some h
                    refine a_call (args := [(eSA64u8 a1)]) (u := []) (r := (eSA64u8 r69)) rfl rfl (laws_toPolyS_ok a1 r69 hr70) rfl ?_
                    obtain ⟨r71, hr72, h⟩ := bind_some h
                    refine a_call (args := [(i6 a0), (eSA64u8 r69)]) (u := []) (r := (.tuple [(eSA64u8 r71.1), (eSA64u8 r71.2.1), (i6 r71.2.2)])) rfl rfl (impl_ConvergentsOf_ok a0 r69 r71 hr72) rfl (vp (.tuple [(eSA64u8 r71.1), (eSA64u8 r71.2.1), (i6 r71.2.2)]) rfl (vb (eSA64u8 r71.1) rfl rfl (vb (eSA64u8 r71.2.1) rfl rfl (vb (i6 r71.2.2) rfl rfl (vp (eSA64u8 r71.1) rfl (vp (eSA64u8 r71.2.1) rfl (vp (i6 r71.2.2) rfl (nx ⟨[(6, (eSA64u8 r6.1)), (7, (eSA64u8 r6.2.1)), (8, (i6 r6.2.2)), (10, (.osl 10)), (11, (.osl 11)), (14, (i6 r59.1)), (16, (eSA64u8 r71.1)), (17, (eSA64u8 r71.2.1)), (18, (i6 r71.2.2))], [(10, (bk (.row 64 (r56.2.map eA64u8)))), (11, (bk (.row 64 (r59.2.map eA64u8))))]⟩ (by kernel_rfl) (a_seq ?_)))))))))
                    obtain ⟨y80, hy81, hk82⟩ := bind_some h
                    clear h
                    refine a_join (emb := fun (s : Bool) => ⟨[(10, (.osl 10)), (11, (.osl 11)), (14, (i6 r59.1)), (124, (.bool s))], [(10, (bk (.row 64 (r56.2.map eA64u8)))), (11, (bk (.row 64 (r59.2.map eA64u8))))]⟩) (pre := fun s => s = y80) ?_ ?_
                    · rintro x79 rfl
                      have h := hk82
                      refine a_st (σ' := ⟨[(10, (.osl 10)), (11, (.osl 11)), (14, (i6 r59.1)), (124, (.bool x79))], [(10, (bk (.row 64 (r56.2.map eA64u8)))), (11, (bk (.row 64 (r59.2.map eA64u8))))]⟩) (by kernel_rfl) ?_
                      cases hb89 : x79
                      · have h := ite_f hb89 h
                        refine a_cond_f rfl (a_skip (a_next (σ' := ⟨[(10, (.osl 10)), (11, (.osl 11)), (14, (i6 r59.1))], [(10, (bk (.row 64 (r56.2.map eA64u8)))), (11, (bk (.row 64 (r59.2.map eA64u8))))]⟩) (by kernel_rfl) (sr (vp (i6 1) rfl (nx ⟨[(10, (.osl 10)), (11, (.osl 11)), (14, (i6 r59.1)), (15, (i6 1))], [(10, (bk (.row 64 (r56.2.map eA64u8)))), (11, (bk (.row 64 (r59.2.map eA64u8))))]⟩ (by kernel_rfl) (sr (vp (.osl 10) rfl (vp (i6 1) rfl ?_))))))))
                        obtain ⟨r90, hr91, h⟩ := bind_some h
                        refine a_callB (args := [(eSA64u8 r56.2), (i6 1)]) (u := [(10, (bf (.row 64 (r56.2.map eA64u8))))]) (r := (i6 r90)) rfl rfl (laws_heldPolyS_ok r56.2 1 r90 hr91) rfl trivial (vp (i6 r90) rfl (nx ⟨[(11, (.osl 11)), (14, (i6 r59.1)), (15, (i6 r90))], [(11, (bk (.row 64 (r59.2.map eA64u8))))]⟩ (by kernel_rfl) (a_seq (sr (vp (i6 r90) rfl (vp (.bool ((decide (r90 < 0)))) rfl (nx ⟨[(11, (.osl 11)), (14, (i6 r59.1)), (15, (i6 r90)), (129, (.bool ((decide (r90 < 0)))))], [(11, (bk (.row 64 (r59.2.map eA64u8))))]⟩ (by kernel_rfl) ?_)))))))
                        cases hb92 : (decide (r90 < 0))
                        · have h := ite_f hb92 h
                          refine a_cond_f rfl (a_skip (a_next (σ' := ⟨[(11, (.osl 11)), (14, (i6 r59.1)), (15, (i6 r90))], [(11, (bk (.row 64 (r59.2.map eA64u8))))]⟩) (by kernel_rfl) (sr (vp (.osl 11) rfl (vp (i6 r90) rfl ?_)))))
                          obtain ⟨r93, hr94, h⟩ := bind_some h
                          refine a_callB (args := [(eSA64u8 r59.2), (i6 r90)]) (u := [(11, (bf (.row 64 (r59.2.map eA64u8))))]) (r := (i6 r93)) rfl rfl (laws_heldPolyS_ok r59.2 r90 r93 hr94) rfl trivial (vp (i6 r93) rfl (nx ⟨[(14, (i6 r59.1)), (15, (i6 r93))], []⟩ (by kernel_rfl) (a_seq (sr (vp (i6 r93) rfl (vp (.bool ((decide (r93 < 0)))) rfl (nx ⟨[(14, (i6 r59.1)), (15, (i6 r93)), (134, (.bool ((decide (r93 < 0)))))], []⟩ (by kernel_rfl) ?_)))))))
                          cases hb95 : (decide (r93 < 0))
                          · have h := ite_f hb95 h
                            refine a_cond_f rfl (a_skip (a_next (σ' := ⟨[(14, (i6 r59.1)), (15, (i6 r93))], []⟩) (by kernel_rfl) (a_seq (sr (vp (i6 r93) rfl (vp (i6 r59.1) rfl (vp (.bool (r93 != r59.1)) rfl (nx ⟨[(137, (.bool (r93 != r59.1)))], []⟩ (by kernel_rfl) ?_))))))))
                            cases hb96 : (r93 != r59.1)
                            · have h := ite_f hb96 h
                              refine a_cond_f rfl (a_skip (a_next (σ' := ⟨[], []⟩) (by kernel_rfl) (sr (vp (.bool true) rfl (nx _ rfl (a_ret ?_))))))
                              refine ⟨.inr rfl, ?_⟩
                              rw [Try.results5]
                              cases h
                              exact ⟨_, _, _, _, _, rfl, trivial, .inl ⟨rfl, .inl rfl⟩, rfl, rfl⟩
                            · have h := ite_t hb96 h
                              refine a_cond_t rfl (sr (vp (.bool false) rfl (nx _ rfl (a_ret (t_ret ?_)))))
                              refine ⟨.inr rfl, ?_⟩
                              rw [Try.results5]
                              cases h
                              exact ⟨_, _, _, _, _, rfl, trivial, .inl ⟨rfl, .inl rfl⟩, rfl, rfl⟩
                          · have h := ite_t hb95 h
                            refine a_cond_t rfl (sr (vp (.bool false) rfl (nx _ rfl (a_ret (t_ret ?_)))))
                            refine ⟨.inr rfl, ?_⟩
                            rw [Try.results5]
                            cases h
                            exact ⟨_, _, _, _, _, rfl, trivial, .inl ⟨rfl, .inl rfl⟩, rfl, rfl⟩
                        · have h := ite_t hb92 h
                          refine a_cond_t rfl (sr (vp (.bool false) rfl (nx _ rfl (a_ret (t_ret ?_)))))
                          refine ⟨.inr rfl, ?_⟩
                          rw [Try.results5]
                          cases h
                          exact ⟨_, _, _, _, _, rfl, trivial, .inl ⟨rfl, .inl rfl⟩, rfl, rfl⟩
                      · have h := ite_t hb89 h
                        refine a_cond_t rfl (sr (vp (.bool false) rfl (nx _ rfl (a_ret (t_ret ?_)))))
                        refine ⟨.inr rfl, ?_⟩
                        rw [Try.results5]
                        cases h
                        exact ⟨_, _, _, _, _, rfl, trivial, .inl ⟨rfl, .inl rfl⟩, rfl, rfl⟩
                    · have h := hy81
                      refine a_region (vp (eSA64u8 r71.1) rfl (vp (eSA64u8 r6.1) rfl ?_))
                      obtain ⟨r83, hr84, h⟩ := bind_some h
                      refine a_call (args := [(eSA64u8 r71.1), (eSA64u8 r6.1)]) (u := []) (r := (.bool r83)) rfl rfl (laws_eqPolyS_ok r71.1 r6.1 r83 hr84) rfl (vp (.bool (!r83)) rfl (vp (.bool (!r83)) rfl ?_))
                      cases hb85 : (!r83)
                      · have h := ite_f hb85 h
                        refine gp (eSA64u8 r71.2.1) rfl rfl (gp (eSA64u8 r6.2.1) rfl rfl ?_)
                        obtain ⟨r86, hr87, h⟩ := bind_some h
                        refine a_gcall rfl (args := [(eSA64u8 r71.2.1), (eSA64u8 r6.2.1)]) (u := []) (r := (.bool r86)) rfl rfl (laws_eqPolyS_ok r71.2.1 r6.2.1 r86 hr87) rfl (gp (.bool (!r86)) rfl rfl (vp (.bool (!r86)) rfl (vp (.bool (!r86)) rfl ?_)))
                        cases hb88 : (!r86)
                        · have h := ite_f hb88 h
                          refine gp (i6 r71.2.2) rfl rfl (gp (i6 r6.2.2) rfl rfl (gp (.bool (r71.2.2 != r6.2.2)) rfl rfl (vp (.bool (r71.2.2 != r6.2.2)) rfl (a_nil ?_))))
                          exact j_leaf (r71.2.2 != r6.2.2) (Option.some.inj h) (by kernel_rfl)
                        · have h := ite_t hb88 h
                          refine a_gskip rfl (a_gskip rfl (a_gskip rfl (vp (.bool true) rfl (a_nil ?_))))
                          exact j_leaf true (Option.some.inj h) (by kernel_rfl)
                      · have h := ite_t hb85 h
                        refine a_gskip rfl (a_gskip rfl (a_gskip rfl (a_gskip rfl (vp (.bool true) rfl (vp (.bool true) rfl (a_gskip rfl (a_gskip rfl (a_gskip rfl (vp (.bool true) rfl ?_)))))))))
                        refine a_nil ?_
                        exact j_leaf true (Option.some.inj h) (by kernel_rfl)
                  · have h := ite_t hb68 h
                    refine a_cond_t rfl (sr (vp (.bool false) rfl (nx _ rfl (a_ret (t_ret ?_)))))
                    refine ⟨.inr rfl, ?_⟩
                    rw [Try.results5]
                    cases h
                    exact ⟨_, _, _, _, _, rfl, trivial, .inl ⟨rfl, .inl rfl⟩, rfl, rfl⟩
                · have h := ite_t hb67 h
                  refine a_cond_t rfl (sr (vp (.bool false) rfl (nx _ rfl (a_ret (t_ret ?_)))))
                  refine ⟨.inr rfl, ?_⟩
                  rw [Try.results5]
                  cases h
                  exact ⟨_, _, _, _, _, rfl, trivial, .inl ⟨rfl, .inl rfl⟩, rfl, rfl⟩
              · have h := ite_t hb64 h
                refine a_cond_t rfl (sr (vp (.bool false) rfl (nx _ rfl (a_ret (t_ret ?_)))))
                refine ⟨.inr rfl, ?_⟩
                rw [Try.results5]
                cases h
                exact ⟨_, _, _, _, _, rfl, trivial, .inl ⟨rfl, .inl rfl⟩, rfl, rfl⟩
            · have h := ite_t hb55 h
              refine a_cond_t rfl (sr (vp (.bool false) rfl (nx _ rfl (a_ret (t_ret ?_)))))
              refine ⟨.inr rfl, ?_⟩
              rw [Try.results5]
              cases h
              exact ⟨_, _, _, _, _, rfl, trivial, .inl ⟨rfl, .inl rfl⟩, rfl, rfl⟩
          · have h := hy46
            refine a_region (vp (i6 r34.1) rfl (vp (.bool ((decide (r34.1 < 0)))) rfl (vp (.bool ((decide (r34.1 < 0)))) rfl ?_)))
            cases hb48 : (decide (r34.1 < 0))
            · have h := ite_f hb48 h
              refine gp (.osl 10) rfl rfl (gp (eSA64u8 r6.1) rfl rfl ?_)
              obtain ⟨r49, hr50, h⟩ := bind_some h
              refine a_gcallB rfl (args := [(eSA64u8 r10.1), (eSA64u8 r6.1)]) (u := [(10, (bf (.row 64 (r10.1.map eA64u8))))]) (r := (.bool r49)) rfl rfl (laws_eqPolyS_ok r10.1 r6.1 r49 hr50) rfl trivial (gp (.bool (!r49)) rfl rfl (vp (.bool (!r49)) rfl (vp (.bool (!r49)) rfl ?_)))
              cases hb51 : (!r49)
              · have h := ite_f hb51 h
                refine gp (.osl 11) rfl rfl (gp (eSA64u8 r6.2.1) rfl rfl ?_)
                obtain ⟨r52, hr53, h⟩ := bind_some h
                refine a_gcallB rfl (args := [(eSA64u8 r10.2.1), (eSA64u8 r6.2.1)]) (u := [(11, (bf (.row 64 (r10.2.1.map eA64u8))))]) (r := (.bool r52)) rfl rfl (laws_eqPolyS_ok r10.2.1 r6.2.1 r52 hr53) rfl trivial (gp (.bool (!r52)) rfl rfl (vp (.bool (!r52)) rfl (vp (.bool (!r52)) rfl ?_)))
                cases hb54 : (!r52)
                · have h := ite_f hb54 h
                  refine gp (i6 r10.2.2) rfl rfl (gp (i6 r6.2.2) rfl rfl (gp (.bool (r10.2.2 != r6.2.2)) rfl rfl (vp (.bool (r10.2.2 != r6.2.2)) rfl (a_nil ?_))))
                  exact j_leaf (r10.2.2 != r6.2.2) (Option.some.inj h) (by kernel_rfl)
                · have h := ite_t hb54 h
                  refine a_gskip rfl (a_gskip rfl (a_gskip rfl (vp (.bool true) rfl (a_nil ?_))))
                  exact j_leaf true (Option.some.inj h) (by kernel_rfl)
              · have h := ite_t hb51 h
                refine a_gskip rfl (a_gskip rfl (a_gskip rfl (a_gskip rfl (vp (.bool true) rfl (vp (.bool true) rfl (a_gskip rfl (a_gskip rfl (a_gskip rfl (vp (.bool true) rfl ?_)))))))))
                refine a_nil ?_
                exact j_leaf true (Option.some.inj h) (by kernel_rfl)
            · have h := ite_t hb48 h
              refine a_gskip rfl (a_gskip rfl (a_gskip rfl (a_gskip rfl (vp (.bool true) rfl (vp (.bool true) rfl (a_gskip rfl (a_gskip rfl (a_gskip rfl (a_gskip rfl ?_)))))))))
              refine vp (.bool true) rfl (vp (.bool true) rfl (a_gskip rfl (a_gskip rfl (a_gskip rfl (vp (.bool true) rfl (a_nil ?_))))))
              exact j_leaf true (Option.some.inj h) (by kernel_rfl)
        · have h := ite_t hb33 h
          refine a_cond_t rfl (sr (vp (.bool false) rfl (nx _ rfl (a_ret (t_ret ?_)))))
          refine ⟨.inr rfl, ?_⟩
          rw [Try.results5]
          cases h
          exact ⟨_, _, _, _, _, rfl, trivial, .inl ⟨rfl, .inl rfl⟩, rfl, rfl⟩
      · have h := ite_t hb28 h
        refine a_cond_t rfl (sr (vp (.bool false) rfl (nx _ rfl (a_ret (t_ret ?_)))))
        refine ⟨.inr rfl, ?_⟩
        rw [Try.results5]
        cases h
        exact ⟨_, _, _, _, _, rfl, trivial, .inl ⟨rfl, .inl rfl⟩, rfl, rfl⟩
    · have h := hy20
      refine a_region (vp (.osl 10) rfl (vp (eSA64u8 r6.1) rfl ?_))
      obtain ⟨r22, hr23, h⟩ := bind_some h
      refine a_callB (args := [(eSA64u8 r10.1), (eSA64u8 r6.1)]) (u := [(10, (bf (.row 64 (r10.1.map eA64u8))))]) (r := (.bool r22)) rfl rfl (laws_eqPolyS_ok r10.1 r6.1 r22 hr23) rfl trivial (vp (.bool (!r22)) rfl (vp (.bool (!r22)) rfl ?_))
      cases hb24 : (!r22)
      · have h := ite_f hb24 h
        refine gp (.osl 11) rfl rfl (gp (eSA64u8 r6.2.1) rfl rfl ?_)
        obtain ⟨r25, hr26, h⟩ := bind_some h
        refine a_gcallB rfl (args := [(eSA64u8 r10.2.1), (eSA64u8 r6.2.1)]) (u := [(11, (bf (.row 64 (r10.2.1.map eA64u8))))]) (r := (.bool r25)) rfl rfl (laws_eqPolyS_ok r10.2.1 r6.2.1 r25 hr26) rfl trivial (gp (.bool (!r25)) rfl rfl (vp (.bool (!r25)) rfl (vp (.bool (!r25)) rfl ?_)))
        cases hb27 : (!r25)
        · have h := ite_f hb27 h
          refine gp (i6 r10.2.2) rfl rfl (gp (i6 r6.2.2) rfl rfl (gp (.bool (r10.2.2 != r6.2.2)) rfl rfl (vp (.bool (r10.2.2 != r6.2.2)) rfl (a_nil ?_))))
          exact j_leaf (r10.2.2 != r6.2.2) (Option.some.inj h) (by kernel_rfl)
        · have h := ite_t hb27 h
          refine a_gskip rfl (a_gskip rfl (a_gskip rfl (vp (.bool true) rfl (a_nil ?_))))
          exact j_leaf true (Option.some.inj h) (by kernel_rfl)
      · have h := ite_t hb24 h
        refine a_gskip rfl (a_gskip rfl (a_gskip rfl (a_gskip rfl (vp (.bool true) rfl (vp (.bool true) rfl (a_gskip rfl (a_gskip rfl (a_gskip rfl (vp (.bool true) rfl ?_)))))))))
        refine a_nil ?_
        exact j_leaf true (Option.some.inj h) (by kernel_rfl)
  · have h := ite_t hb3 h
    refine a_cond_t rfl (sr (vp (.bool true) rfl (nx _ rfl (a_ret (t_ret ?_)))))
    refine ⟨.inr rfl, ?_⟩
    rw [Try.results5]
    cases h
    exact ⟨_, _, _, _, _, rfl, trivial, .inl ⟨rfl, .inl rfl⟩, rfl, rfl⟩
def impl_told_c : ACode := (.seq (.region 0 [q 2 (.alloc 26), q 3 (.asg 0 (.const (.int .i64 0)) 2)] false) (.seq (.seq (.region 1 [q 4 (.mov (t 0)), q 5 (.call 0 (.func 140) [(t 4)]), q 6 (.un .not (t 5))] false) (.cond (t 6) (.seq (.region 2 [q 7 (.build 26 []), ⟨none, .store 26 (t 2) (t 7), none, []⟩, q 3 (.asg 0 (.const (.int .i64 3)) 2)] false) .ret) .skip)) (.seq (.region 3 [q 8 (.mov (t 0)), q 9 (.call 0 (.func 131) [(t 8)]), ⟨none, .store 26 (t 2) (t 9), none, []⟩, q 3 (.asg 0 (.const (.int .i64 0)) 2)] false) .ret)))
def impl_told_L : Live := [(0, [0]), (1, [0, 2]), (2, [2]), (3, [0, 2]), (100006, [0, 2, 6])]
noncomputable def impl_told (a0 : (List Int)) : Option ((Vec Int 64) × Int) :=
  (Option.bind (impl_row_fits a0) fun r1 => (if (!r1) then (some (((vrep 64 (0 : Int)), 3))) else (Option.bind (impl_row_poly a0) fun r4 => (some (r4, 0)))))
theorem impl_told_ok (a0 : (List Int)) (r : ((Vec Int 64) × Int)) (h : impl_told a0 = some r) : Den Try.prog 74 [(eSi64 a0)] { r := (.tuple [(eA64u8 r.1), (i6 r.2)]) } := by
  refine den_of (rs := [(eA64u8 r.1), (i6 r.2)]) (ac := impl_told_c) (L := impl_told_L) (n := 10) (m := []) (c := Try.f74.body.getD .skip) good Try.func74 (by kernel_rfl) (by kernel_rfl) Try.ntmps74 rfl rfl (by kernel_rfl) rfl rfl ?_
  refine a_st (σ' := ⟨[(0, (eSi64 a0))], []⟩) (by kernel_rfl) ?_
  unfold impl_told_c
  refine sr (vo 1200 (eA64u8 ((vrep 64 (0 : Int)))) rfl rfl (vp (i6 0) rfl (nx ⟨[(0, (eSi64 a0)), (2, (ow 2))], [(2, (bk (eA64u8 ((vrep 64 (0 : Int))))))]⟩ (by kernel_rfl) (a_seq (sr (vp (eSi64 a0) rfl ?_))))))
  obtain ⟨r1, hr2, h⟩ := bind_some h
  refine a_call (args := [(eSi64 a0)]) (u := []) (r := (.bool r1)) rfl rfl (impl_row_fits_ok a0 r1 hr2) rfl (vp (.bool (!r1)) rfl (nx ⟨[(0, (eSi64 a0)), (2, (ow 2)), (6, (.bool (!r1)))], [(2, (bk (eA64u8 ((vrep 64 (0 : Int))))))]⟩ (by kernel_rfl) ?_))
  cases hb3 : (!r1)
  · have h := ite_f hb3 h
    refine a_cond_f rfl (a_skip (a_next (σ' := ⟨[(0, (eSi64 a0)), (2, (ow 2))], [(2, (bk (eA64u8 ((vrep 64 (0 : Int))))))]⟩) (by kernel_rfl) (sr (vp (eSi64 a0) rfl ?_))))
    obtain ⟨r4, hr5, h⟩ := bind_some h
    refine a_call (args := [(eSi64 a0)]) (u := []) (r := (eA64u8 r4)) rfl rfl (impl_row_poly_ok a0 r4 hr5) rfl (vs (eA64u8 r4) rfl rfl (fun _ => rfl) rfl rfl rfl rfl rfl rfl (vp (i6 0) rfl (nx _ rfl (a_ret ?_))))
    have hl7 : LdOk [] (eA64u8 r4) [] 64 true (eA64u8 r4) := (.nil rfl rfl rfl)
    refine ⟨.inr rfl, ?_⟩
    rw [Try.results74]
    cases h
    exact ⟨_, _, _, _, _, ld_own (i := ⟨.arr 64 5, 64, 64, (eA64u8 (vrep 64 (0 : Int)))⟩) rfl rfl rfl hl7, hl7.c, .inl ⟨rfl, .inl rfl⟩, rfl, ⟨_, _, _, _, _, rfl, trivial, .inl ⟨rfl, .inl rfl⟩, rfl, rfl⟩⟩
  · have h := ite_t hb3 h
    refine a_cond_t rfl (sr (vq (eA64u8 ((vrep 64 (0 : Int)))) rfl ⟨⟨_, rfl, rfl⟩, all_nil⟩ (vs (eA64u8 ((vrep 64 (0 : Int)))) rfl rfl (fun _ => rfl) rfl rfl rfl rfl rfl rfl (vp (i6 3) rfl (nx _ rfl (a_ret (t_ret ?_)))))))
    have hl9 : LdOk [] (eA64u8 ((vrep 64 (0 : Int)))) [] 64 true (eA64u8 ((vrep 64 (0 : Int)))) := (.nil rfl rfl rfl)
    refine ⟨.inr rfl, ?_⟩
    rw [Try.results74]
    cases h
    exact ⟨_, _, _, _, _, ld_own (i := ⟨.arr 64 5, 64, 64, (eA64u8 (vrep 64 (0 : Int)))⟩) rfl rfl rfl hl9, hl9.c, .inl ⟨rfl, .inl rfl⟩, rfl, ⟨_, _, _, _, _, rfl, trivial, .inl ⟨rfl, .inl rfl⟩, rfl, rfl⟩⟩
end Go.Proofs.Ytdhcpekngpndnaa
