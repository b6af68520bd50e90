/- Functions of the program: plain Lean functions, and that the program computes them. Printed by gen.py. -/
import Derived.Test.YtkbnegemdlnncaaFnT
import Derived.Test.YtkbnegemdlnncaaFn1
import Derived.Test.YtkbnegemdlnncaaFn2
namespace Go.Proofs.Ytkbnegemdlnncaa
open Go.Abs Go.Proofs
set_option linter.unusedSimpArgs false
set_option linter.unusedVariables false
set_option maxHeartbeats 16000000
attribute [local irreducible] Abs.acode Abs.aops Abs.aopsT Abs.thenK Abs.blockK

def spec_l10Series_c : ACode := (.seq (.region 0 [q 6 (.box 25 (t 1)), q 7 (.box 25 (t 2)), q 10 (.alloc 25), q 11 (.alloc 25), q 12 (.asg 0 (.const (.bool false)) 4)] false) (.seq (.region 1 [q 39 (.mov (t 0)), q 40 (.mov (t 3)), q 41 (.bin .sub 2 (t 40) (.const (.int .i64 1))), q 42 (.mov (t 4)), q 43 (.call 0 (.func 130) [(t 39), (t 41), (t 42)]), q 38 (.mov (t 43)), q 44 (.extract (t 38) 0), q 45 (.extract (t 38) 1), q 13 (.alloc 25), ⟨none, .store 25 (t 13) (t 44), none, []⟩, q 14 (.asg 0 (t 45) 4)] false) (.seq (.region 2 [q 47 (.mov (t 0)), q 48 (.load 25 (t 7)), q 49 (.mov (t 3)), q 50 (.bin .sub 2 (t 49) (.const (.int .i64 1))), q 51 (.call 0 (.func 190) [(t 47), (t 48), (t 50)]), q 46 (.mov (t 51)), q 52 (.extract (t 46) 0), q 53 (.extract (t 46) 1), q 15 (.alloc 25), ⟨none, .store 25 (t 15) (t 52), none, []⟩, q 16 (.asg 0 (t 53) 4)] false) (.seq (.region 3 [q 55 (.mov (t 0)), q 56 (.load 25 (t 13)), q 57 (.load 25 (t 15)), q 58 (.call 0 (.func 105) [(t 55), (t 56), (t 57)]), q 54 (.mov (t 58)), q 59 (.extract (t 54) 0), q 60 (.extract (t 54) 1), q 17 (.alloc 25), ⟨none, .store 25 (t 17) (t 59), none, []⟩, q 18 (.asg 0 (t 60) 4)] false) (.seq (.seq (.region 4 [q 61 (.mov (t 14)), q 62 (.un .not (t 61)), q 63 (.mov (t 62)), ⟨some 64, .mov (t 16), some (63, false), []⟩, ⟨some 65, .un .not (t 64), some (63, false), []⟩, q 66 (.pick (t 63) (.const (.bool true)) (t 65)), q 67 (.mov (t 66)), ⟨some 68, .mov (t 18), some (67, false), []⟩, ⟨some 69, .un .not (t 68), some (67, false), []⟩, q 70 (.pick (t 67) (.const (.bool true)) (t 69))] false) (.cond (t 70) (.seq (.region 5 [q 71 (.build 25 []), q 72 (.build 25 []), ⟨none, .store 25 (t 10) (t 71), none, []⟩, ⟨none, .store 25 (t 11) (t 72), none, []⟩, q 12 (.asg 0 (.const (.bool false)) 4)] false) .ret) .skip)) (.seq (.region 6 [q 73 (.build 25 []), q 19 (.alloc 25), ⟨none, .store 25 (t 19) (t 73), none, []⟩] false) (.seq (.seq (.region 7 [q 20 (.asg 0 (.const (.int .i64 0)) 2)] false) (.block 0 (.loop (.seq (.seq (.region 8 [q 74 (.mov (t 20)), q 75 (.mov (t 3)), q 76 (.bin .lss 2 (t 74) (t 75))] false) (.cond (t 76) .skip (.exit 0))) (.seq (.block 1 (.seq (.region 10 [q 80 (.mov (t 0)), q 81 (.mov (t 20)), q 82 (.mov (t 4)), q 83 (.call 0 (.func 130) [(t 80), (t 81), (t 82)]), q 79 (.mov (t 83)), q 84 (.extract (t 79) 0), q 85 (.extract (t 79) 1), q 21 (.alloc 25), ⟨none, .store 25 (t 21) (t 84), none, []⟩, q 22 (.asg 0 (t 85) 4)] false) (.seq (.region 11 [q 87 (.mov (t 0)), q 88 (.load 25 (t 21)), q 89 (.mov (t 0)), q 90 (.load 25 (t 7)), q 91 (.mov (t 20)), ⟨some 92, .call 0 (.func 191) [(t 89), (t 90), (t 91)], none, [2, 3, 4]⟩, ⟨some 93, .call 0 (.func 105) [(t 87), (t 88), (t 92)], none, [0, 1, 5, 5]⟩, ⟨some 86, .mov (t 93), none, [6]⟩, ⟨some 94, .extract (t 86) 0, none, [7]⟩, ⟨some 95, .extract (t 86) 1, none, [7]⟩, q 23 (.alloc 25), ⟨none, .store 25 (t 23) (t 94), none, [10, 8, 6, 0, 1, 2, 3, 4, 5, 6, 7, 8, 10]⟩, ⟨some 24, .asg 0 (t 95) 4, none, [9, 11, 0, 1, 2, 3, 4, 5, 6, 7, 8, 9, 10, 11]⟩] true) (.seq (.region 12 [q 97 (.mov (t 0)), q 98 (.load 25 (t 17)), q 99 (.load 25 (t 23)), q 100 (.call 0 (.func 113) [(t 97), (t 98), (t 99)]), q 96 (.mov (t 100)), q 101 (.extract (t 96) 0), q 102 (.extract (t 96) 1), q 25 (.alloc 25), q 26 (.alloc 25), ⟨none, .store 25 (t 25) (t 101), none, []⟩, ⟨none, .store 25 (t 26) (t 102), none, []⟩] false) (.seq (.region 13 [q 104 (.mov (t 0)), q 105 (.load 25 (t 6)), q 106 (.mov (t 20)), q 107 (.call 0 (.func 190) [(t 104), (t 105), (t 106)]), q 103 (.mov (t 107)), q 108 (.extract (t 103) 0), q 109 (.extract (t 103) 1), q 27 (.alloc 25), ⟨none, .store 25 (t 27) (t 108), none, []⟩, q 28 (.asg 0 (t 109) 4)] false) (.seq (.region 14 [q 111 (.mov (t 0)), q 112 (.load 25 (t 27)), q 113 (.load 25 (t 25)), q 114 (.call 0 (.func 105) [(t 111), (t 112), (t 113)]), q 110 (.mov (t 114)), q 115 (.extract (t 110) 0), q 116 (.extract (t 110) 1), q 29 (.alloc 25), ⟨none, .store 25 (t 29) (t 115), none, []⟩, q 30 (.asg 0 (t 116) 4)] false) (.seq (.seq (.region 15 [q 117 (.mov (t 28)), q 118 (.un .not (t 117)), q 119 (.mov (t 118)), ⟨some 120, .mov (t 30), some (119, false), []⟩, ⟨some 121, .un .not (t 120), some (119, false), []⟩, q 122 (.pick (t 119) (.const (.bool true)) (t 121))] false) (.cond (t 122) (.seq (.region 16 [q 123 (.build 25 []), q 124 (.build 25 []), ⟨none, .store 25 (t 10) (t 123), none, []⟩, ⟨none, .store 25 (t 11) (t 124), none, []⟩, q 12 (.asg 0 (.const (.bool false)) 4)] false) .ret) .skip)) (.seq (.region 17 [q 31 (.asg 0 (.const (.int .i64 1)) 2)] false) (.seq (.seq (.region 18 [q 125 (.mov (t 4)), q 126 (.mov (t 125)), ⟨some 127, .mov (t 20), some (126, true), []⟩, ⟨some 128, .bin .rem 2 (t 127) (.const (.int .i64 2)), some (126, true), []⟩, ⟨some 129, .bin .eql 2 (t 128) (.const (.int .i64 1)), some (126, true), []⟩, q 130 (.pick (t 126) (t 129) (.const (.bool false)))] false) (.cond (t 130) (.region 19 [q 31 (.asg 0 (.const (.int .i64 (-1))) 2)] false) .skip)) (.region 20 [q 131 (.mov (t 0)), q 132 (.load 25 (t 19)), q 133 (.load 25 (t 29)), q 134 (.mov (t 31)), q 135 (.call 0 (.func 121) [(t 131), (t 132), (t 133), (t 134)]), ⟨none, .store 25 (t 19) (t 135), none, []⟩] false)))))))))) (.region 9 [q 77 (.mov (t 20)), q 78 (.bin .add 2 (t 77) (.const (.int .i64 1))), q 20 (.asg 0 (t 78) 2)] false)))))) (.seq (.region 21 [q 136 (.mov (t 0)), q 137 (.load 25 (t 19)), q 138 (.load 25 (t 17)), q 139 (.call 0 (.func 192) [(t 136), (t 137), (t 138)]), q 32 (.alloc 25), ⟨none, .store 25 (t 32) (t 139), none, []⟩] false) (.seq (.region 22 [q 141 (.mov (t 0)), q 142 (.load 25 (t 19)), q 143 (.load 25 (t 32)), q 144 (.call 0 (.func 113) [(t 141), (t 142), (t 143)]), q 140 (.mov (t 144)), q 145 (.extract (t 140) 0), q 146 (.extract (t 140) 1), q 33 (.alloc 25), q 34 (.alloc 25), ⟨none, .store 25 (t 33) (t 145), none, []⟩, ⟨none, .store 25 (t 34) (t 146), none, []⟩] false) (.seq (.region 23 [q 148 (.mov (t 0)), q 149 (.load 25 (t 17)), q 150 (.load 25 (t 32)), q 151 (.call 0 (.func 113) [(t 148), (t 149), (t 150)]), q 147 (.mov (t 151)), q 152 (.extract (t 147) 0), q 153 (.extract (t 147) 1), q 35 (.alloc 25), q 36 (.alloc 25), ⟨none, .store 25 (t 35) (t 152), none, []⟩, ⟨none, .store 25 (t 36) (t 153), none, []⟩] false) (.seq (.region 24 [q 154 (.mov (t 0)), q 155 (.load 25 (t 35)), q 156 (.call 0 (.func 112) [(t 155)]), q 157 (.indexAddr 25 (t 35) (t 156)), q 158 (.load 5 (t 157)), q 159 (.call 0 (.func 187) [(t 154), (t 158)]), q 160 (.conv 5 2 (t 159)), q 37 (.asg 0 (t 160) 2)] false) (.seq (.region 25 [q 161 (.mov (t 0)), q 162 (.build 25 []), q 163 (.load 25 (t 33)), q 164 (.mov (t 37)), ⟨some 165, .call 0 (.func 121) [(t 161), (t 162), (t 163), (t 164)], none, [0, 1, 2, 3]⟩, q 166 (.mov (t 0)), q 167 (.build 25 []), q 168 (.load 25 (t 35)), q 169 (.mov (t 37)), ⟨some 170, .call 0 (.func 121) [(t 166), (t 167), (t 168), (t 169)], none, [5, 6, 7, 8, 4]⟩, ⟨none, .store 25 (t 10) (t 165), none, [4, 9, 0, 1, 2, 3, 4]⟩, ⟨none, .store 25 (t 11) (t 170), none, [9, 10, 0, 1, 2, 3, 4, 5, 6, 7, 8, 9, 10]⟩, ⟨some 12, .asg 0 (.const (.bool true)) 4, none, [11, 0, 1, 2, 3, 4, 5, 6, 7, 8, 9, 10, 11]⟩] true) .ret))))))))))))
def spec_l10Series_L : Live := [(0, [0, 1, 2, 3, 4]), (1, [0, 3, 4, 6, 7, 10, 11]), (2, [0, 3, 4, 6, 7, 10, 11, 13, 14]), (3, [0, 3, 4, 6, 7, 10, 11, 13, 14, 15, 16]), (4, [0, 3, 4, 6, 7, 10, 11, 14, 16, 17, 18]), (5, [10, 11]), (6, [0, 3, 4, 6, 7, 10, 11, 17]), (7, [0, 3, 4, 6, 7, 10, 11, 17, 19]), (8, [0, 3, 4, 6, 7, 10, 11, 17, 19, 20]), (9, [0, 3, 4, 6, 7, 10, 11, 17, 19, 20]), (10, [0, 3, 4, 6, 7, 10, 11, 17, 19, 20]), (11, [0, 3, 4, 6, 7, 10, 11, 17, 19, 20, 21]), (12, [0, 3, 4, 6, 7, 10, 11, 17, 19, 20, 23]), (13, [0, 3, 4, 6, 7, 10, 11, 17, 19, 20, 25]), (14, [0, 3, 4, 6, 7, 10, 11, 17, 19, 20, 25, 27, 28]), (15, [0, 3, 4, 6, 7, 10, 11, 17, 19, 20, 28, 29, 30]), (16, [10, 11]), (17, [0, 3, 4, 6, 7, 10, 11, 17, 19, 20, 29]), (18, [0, 3, 4, 6, 7, 10, 11, 17, 19, 20, 29, 31]), (19, [0, 3, 4, 6, 7, 10, 11, 17, 19, 20, 29]), (20, [0, 3, 4, 6, 7, 10, 11, 17, 19, 20, 29, 31]), (21, [0, 10, 11, 17, 19]), (22, [0, 10, 11, 17, 19, 32]), (23, [0, 10, 11, 17, 32, 33]), (24, [0, 10, 11, 33, 35]), (25, [0, 10, 11, 33, 35, 37]), (100070, [0, 3, 4, 6, 7, 10, 11, 17, 70]), (100076, [0, 3, 4, 6, 7, 10, 11, 17, 19, 20, 76]), (100122, [0, 3, 4, 6, 7, 10, 11, 17, 19, 20, 29, 122]), (100130, [0, 3, 4, 6, 7, 10, 11, 17, 19, 20, 29, 31, 130])]
noncomputable def spec_l10Series_l1 (a3 : Int) (a0 : Int) (a2 : (Vec Int 64)) (r10 : ((Vec Int 64) × Bool)) (a1 : (Vec Int 64)) (x306 : Bool) (x307 : Int) (x308 : (Vec Int 64)) : Option ((Bool × Int × (Vec Int 64)) ⊕ ((Vec Int 64) ⊕ ((Vec Int 64) × (Vec Int 64) × Bool))) :=
  (if (decide (x307 < a3)) then (Option.bind (spec_l04Factorial a0 x307 x306) fun r381 => (Option.bind (spec_l10Raised a0 a2 x307) fun r393 => (Option.bind (spec_l01Times a0 r381.1 r393) fun r395 => (Option.bind (spec_l01Divide a0 r10.1 r395.1) fun r400 => (Option.bind (spec_l04Raise a0 a1 x307) fun r405 => (Option.bind (spec_l01Times a0 r405.1 r400.1) fun r410 => (Option.bind (α := Bool) ((if (!r405.2) then (some true) else (some (!r410.2)))) fun x414 => (if x414 then (some (.inr ((.inr (((vrep 64 (0 : Int)), (vrep 64 (0 : Int)), false)))))) else (Option.bind (α := (Bool × Int)) ((Option.bind (α := (Bool × Bool)) ((if x306 then (some ((true, ((Int.tmod x307 2) == 1)))) else (some (false, false)))) fun ⟨x434, x435⟩ => (if x435 then (some (x434, -1)) else (some (x434, 1))))) fun ⟨x428, x429⟩ => (Option.bind (spec_l01Add a0 x308 r410.1 x429) fun r443 => (some (.inl ((x428, IntKind.i64.wrap (x307 + 1), r443)))))))))))))) else (some (.inr (.inl x308))))
noncomputable def spec_l10Series (a0 : Int) (a1 : (Vec Int 64)) (a2 : (Vec Int 64)) (a3 : Int) (a4 : Bool) : Option ((Vec Int 64) × (Vec Int 64) × Bool) :=
  (Option.bind (spec_l04Factorial a0 (IntKind.i64.wrap (a3 - 1)) a4) fun r1 => (Option.bind (spec_l04Raise a0 a2 (IntKind.i64.wrap (a3 - 1))) fun r5 => (Option.bind (spec_l01Times a0 r1.1 r5.1) fun r10 => (Option.bind (α := Bool) ((if (!r1.2) then (some true) else (if (!r5.2) then (some true) else (some (!r10.2))))) fun x15 => (if x15 then (some (((vrep 64 (0 : Int)), (vrep 64 (0 : Int)), false))) else (Option.bind (α := ((Vec Int 64) ⊕ ((Vec Int 64) × (Vec Int 64) × Bool))) ((loopM (fun s : (Bool × Int × (Vec Int 64)) => spec_l10Series_l1 a3 a0 a2 r10 a1 s.1 s.2.1 s.2.2) (a4, 0, (vrep 64 (0 : Int))))) fun z => match z with | .inl x234 => (Option.bind (spec_l01Gcd a0 x234 r10.1) fun r453 => (Option.bind (spec_l01Divide a0 x234 r453) fun r458 => (Option.bind (spec_l01Divide a0 r10.1 r453) fun r464 => (Option.bind (spec_l01Deg r464.1) fun r469 => (ifp (0 ≤ r469 ∧ r469 < ((64 : Nat) : Int)) ((Option.bind (spec_l01Inverse a0 (rd r464.1.1 r469.toNat)) fun r473 => (Option.bind (spec_l01Add a0 ((vrep 64 (0 : Int))) r458.1 (IntKind.i64.wrap r473)) fun r484 => (Option.bind (spec_l01Add a0 ((vrep 64 (0 : Int))) r464.1 (IntKind.i64.wrap r473)) fun r487 => (some (r484, r487, true))))))))))) | .inr r493 => (some r493)))))))
theorem spec_l10Series_ok (a0 : Int) (a1 : (Vec Int 64)) (a2 : (Vec Int 64)) (a3 : Int) (a4 : Bool) (r : ((Vec Int 64) × (Vec Int 64) × Bool)) (h : spec_l10Series a0 a1 a2 a3 a4 = some r) : Den Try.prog 137 [(i6 a0), (eA64u8 a1), (eA64u8 a2), (i6 a3), (.bool a4)] { r := (.tuple [(eA64u8 r.1), (eA64u8 r.2.1), (.bool r.2.2)]) } := by
  refine den_of (rs := [(eA64u8 r.1), (eA64u8 r.2.1), (.bool r.2.2)]) (ac := spec_l10Series_c) (L := spec_l10Series_L) (n := 171) (m := []) (c := Try.f137.body.getD .skip) good Try.func137 (by kernel_rfl) (by kernel_rfl) Try.ntmps137 rfl rfl (by kernel_rfl) rfl rfl ?_
  refine a_st (σ' := ⟨[(0, (i6 a0)), (1, (eA64u8 a1)), (2, (eA64u8 a2)), (3, (i6 a3)), (4, (.bool a4))], []⟩) (by kernel_rfl) ?_
  unfold spec_l10Series_c
  refine sr (vo 1600 (eA64u8 a1) rfl rfl (vo 1700 (eA64u8 a2) rfl rfl (vo 2000 (eA64u8 ((vrep 64 (0 : Int)))) rfl rfl (vo 2100 (eA64u8 ((vrep 64 (0 : Int)))) rfl rfl (vp (.bool false) rfl (nx ⟨[(0, (i6 a0)), (3, (i6 a3)), (4, (.bool a4)), (6, (ow 6)), (7, (ow 7)), (10, (ow 10)), (11, (ow 11))], [(6, (bk (eA64u8 a1))), (7, (bk (eA64u8 a2))), (10, (bk (eA64u8 ((vrep 64 (0 : Int)))))), (11, (bk (eA64u8 ((vrep 64 (0 : Int))))))]⟩ (by kernel_rfl) (sr (vp (i6 a0) rfl (vp (i6 a3) rfl ?_)))))))))
  refine vp (i6 (IntKind.i64.wrap (a3 - 1))) rfl (vp (.bool a4) rfl ?_)
  obtain ⟨r1, hr2, h⟩ := bind_some h
  refine a_call (args := [(i6 a0), (i6 (IntKind.i64.wrap (a3 - 1))), (.bool a4)]) (u := []) (r := (.tuple [(eA64u8 r1.1), (.bool r1.2)])) rfl rfl (spec_l04Factorial_ok a0 (IntKind.i64.wrap (a3 - 1)) a4 r1 hr2) rfl (vp (.tuple [(eA64u8 r1.1), (.bool r1.2)]) rfl (vb (eA64u8 r1.1) rfl rfl (vb (.bool r1.2) rfl rfl (vo 2300 (eA64u8 ((vrep 64 (0 : Int)))) rfl rfl (vs (eA64u8 r1.1) rfl rfl (fun _ => rfl) rfl rfl rfl rfl rfl rfl (vp (.bool r1.2) rfl (nx ⟨[(0, (i6 a0)), (3, (i6 a3)), (4, (.bool a4)), (6, (ow 6)), (7, (ow 7)), (10, (ow 10)), (11, (ow 11)), (13, (ow 13)), (14, (.bool r1.2))], [(6, (bk (eA64u8 a1))), (7, (bk (eA64u8 a2))), (10, (bk (eA64u8 ((vrep 64 (0 : Int)))))), (11, (bk (eA64u8 ((vrep 64 (0 : Int)))))), (13, (bk (eA64u8 r1.1)))]⟩ (by kernel_rfl) (sr (vp (i6 a0) rfl ?_)))))))))
  refine vl (eA64u8 a2) rfl rfl rfl rfl rfl rfl (vp (i6 a3) rfl (vp (i6 (IntKind.i64.wrap (a3 - 1))) rfl ?_))
  obtain ⟨r5, hr6, h⟩ := bind_some h
  refine a_call (args := [(i6 a0), (eA64u8 a2), (i6 (IntKind.i64.wrap (a3 - 1)))]) (u := []) (r := (.tuple [(eA64u8 r5.1), (.bool r5.2)])) rfl rfl (spec_l04Raise_ok a0 a2 (IntKind.i64.wrap (a3 - 1)) r5 hr6) rfl (vp (.tuple [(eA64u8 r5.1), (.bool r5.2)]) rfl (vb (eA64u8 r5.1) rfl rfl (vb (.bool r5.2) rfl rfl (vo 2500 (eA64u8 ((vrep 64 (0 : Int)))) rfl rfl (vs (eA64u8 r5.1) rfl rfl (fun _ => rfl) rfl rfl rfl rfl rfl rfl (vp (.bool r5.2) rfl (nx ⟨[(0, (i6 a0)), (3, (i6 a3)), (4, (.bool a4)), (6, (ow 6)), (7, (ow 7)), (10, (ow 10)), (11, (ow 11)), (13, (ow 13)), (14, (.bool r1.2)), (15, (ow 15)), (16, (.bool r5.2))], [(6, (bk (eA64u8 a1))), (7, (bk (eA64u8 a2))), (10, (bk (eA64u8 ((vrep 64 (0 : Int)))))), (11, (bk (eA64u8 ((vrep 64 (0 : Int)))))), (13, (bk (eA64u8 r1.1))), (15, (bk (eA64u8 r5.1)))]⟩ (by kernel_rfl) (sr (vp (i6 a0) rfl ?_)))))))))
  refine vl (eA64u8 r1.1) rfl rfl rfl rfl rfl rfl (vl (eA64u8 r5.1) rfl rfl rfl rfl rfl rfl ?_)
  obtain ⟨r10, hr11, h⟩ := bind_some h
  refine a_call (args := [(i6 a0), (eA64u8 r1.1), (eA64u8 r5.1)]) (u := []) (r := (.tuple [(eA64u8 r10.1), (.bool r10.2)])) rfl rfl (spec_l01Times_ok a0 r1.1 r5.1 r10 hr11) rfl (vp (.tuple [(eA64u8 r10.1), (.bool r10.2)]) rfl (vb (eA64u8 r10.1) rfl rfl (vb (.bool r10.2) rfl rfl (vo 2700 (eA64u8 ((vrep 64 (0 : Int)))) rfl rfl (vs (eA64u8 r10.1) rfl rfl (fun _ => rfl) rfl rfl rfl rfl rfl rfl (vp (.bool r10.2) rfl (nx ⟨[(0, (i6 a0)), (3, (i6 a3)), (4, (.bool a4)), (6, (ow 6)), (7, (ow 7)), (10, (ow 10)), (11, (ow 11)), (14, (.bool r1.2)), (16, (.bool r5.2)), (17, (ow 17)), (18, (.bool r10.2))], [(6, (bk (eA64u8 a1))), (7, (bk (eA64u8 a2))), (10, (bk (eA64u8 ((vrep 64 (0 : Int)))))), (11, (bk (eA64u8 ((vrep 64 (0 : Int)))))), (17, (bk (eA64u8 r10.1)))]⟩ (by kernel_rfl) (a_seq ?_))))))))
  obtain ⟨y16, hy17, hk18⟩ := bind_some h
  clear h
  refine a_join (emb := fun (s : Bool) => ⟨[(0, (i6 a0)), (3, (i6 a3)), (4, (.bool a4)), (6, (ow 6)), (7, (ow 7)), (10, (ow 10)), (11, (ow 11)), (17, (ow 17)), (70, (.bool s))], [(6, (bk (eA64u8 a1))), (7, (bk (eA64u8 a2))), (10, (bk (eA64u8 ((vrep 64 (0 : Int)))))), (11, (bk (eA64u8 ((vrep 64 (0 : Int)))))), (17, (bk (eA64u8 r10.1)))]⟩) (pre := fun s => s = y16) ?_ ?_
  · rintro x15 rfl
    have h := hk18
    refine a_st (σ' := ⟨[(0, (i6 a0)), (3, (i6 a3)), (4, (.bool a4)), (6, (ow 6)), (7, (ow 7)), (10, (ow 10)), (11, (ow 11)), (17, (ow 17)), (70, (.bool x15))], [(6, (bk (eA64u8 a1))), (7, (bk (eA64u8 a2))), (10, (bk (eA64u8 ((vrep 64 (0 : Int)))))), (11, (bk (eA64u8 ((vrep 64 (0 : Int)))))), (17, (bk (eA64u8 r10.1)))]⟩) (by kernel_rfl) ?_
    cases hb21 : x15
    · have h := ite_f hb21 h
      refine a_cond_f rfl (a_skip (a_next (σ' := ⟨[(0, (i6 a0)), (3, (i6 a3)), (4, (.bool a4)), (6, (ow 6)), (7, (ow 7)), (10, (ow 10)), (11, (ow 11)), (17, (ow 17))], [(6, (bk (eA64u8 a1))), (7, (bk (eA64u8 a2))), (10, (bk (eA64u8 ((vrep 64 (0 : Int)))))), (11, (bk (eA64u8 ((vrep 64 (0 : Int)))))), (17, (bk (eA64u8 r10.1)))]⟩) (by kernel_rfl) (sr (vq (eA64u8 ((vrep 64 (0 : Int)))) rfl ⟨⟨_, rfl, rfl⟩, all_nil⟩ (vo 2900 (eA64u8 ((vrep 64 (0 : Int)))) rfl rfl (vs (eA64u8 ((vrep 64 (0 : Int)))) rfl rfl (fun _ => rfl) rfl rfl rfl rfl rfl rfl (nx ⟨[(0, (i6 a0)), (3, (i6 a3)), (4, (.bool a4)), (6, (ow 6)), (7, (ow 7)), (10, (ow 10)), (11, (ow 11)), (17, (ow 17)), (19, (ow 19))], [(6, (bk (eA64u8 a1))), (7, (bk (eA64u8 a2))), (10, (bk (eA64u8 ((vrep 64 (0 : Int)))))), (11, (bk (eA64u8 ((vrep 64 (0 : Int)))))), (17, (bk (eA64u8 r10.1))), (19, (bk (eA64u8 ((vrep 64 (0 : Int))))))]⟩ (by kernel_rfl) ?_)))))))
      obtain ⟨y235, hy236, hk237⟩ := bind_some h
      clear h
      refine a_join (emb := fun (s : (Vec Int 64)) => ⟨[(0, (i6 a0)), (10, (ow 10)), (11, (ow 11)), (17, (ow 17)), (19, (ow 19))], [(10, (bk (eA64u8 ((vrep 64 (0 : Int)))))), (11, (bk (eA64u8 ((vrep 64 (0 : Int)))))), (17, (bk (eA64u8 r10.1))), (19, (bk (eA64u8 s)))]⟩) (pre := fun s => (.inl s) = y235) ?_ ?_
      · rintro x234 rfl
        have h := hk237
        refine a_st (σ' := ⟨[(0, (i6 a0)), (10, (ow 10)), (11, (ow 11)), (17, (ow 17)), (19, (ow 19))], [(10, (bk (eA64u8 ((vrep 64 (0 : Int)))))), (11, (bk (eA64u8 ((vrep 64 (0 : Int)))))), (17, (bk (eA64u8 r10.1))), (19, (bk (eA64u8 x234)))]⟩) (by kernel_rfl) (sr (vp (i6 a0) rfl (vl (eA64u8 x234) rfl rfl rfl rfl rfl rfl (vl (eA64u8 r10.1) rfl rfl rfl rfl rfl rfl ?_))))
        obtain ⟨r453, hr454, h⟩ := bind_some h
        refine a_call (args := [(i6 a0), (eA64u8 x234), (eA64u8 r10.1)]) (u := []) (r := (eA64u8 r453)) rfl rfl (spec_l01Gcd_ok a0 x234 r10.1 r453 hr454) rfl (vo 4200 (eA64u8 ((vrep 64 (0 : Int)))) rfl rfl (vs (eA64u8 r453) rfl rfl (fun _ => rfl) rfl rfl rfl rfl rfl rfl (nx ⟨[(0, (i6 a0)), (10, (ow 10)), (11, (ow 11)), (17, (ow 17)), (19, (ow 19)), (32, (ow 32))], [(10, (bk (eA64u8 ((vrep 64 (0 : Int)))))), (11, (bk (eA64u8 ((vrep 64 (0 : Int)))))), (17, (bk (eA64u8 r10.1))), (19, (bk (eA64u8 x234))), (32, (bk (eA64u8 r453)))]⟩ (by kernel_rfl) (sr (vp (i6 a0) rfl (vl (eA64u8 x234) rfl rfl rfl rfl rfl rfl (vl (eA64u8 r453) rfl rfl rfl rfl rfl rfl ?_)))))))
        obtain ⟨r458, hr459, h⟩ := bind_some h
        refine a_call (args := [(i6 a0), (eA64u8 x234), (eA64u8 r453)]) (u := []) (r := (.tuple [(eA64u8 r458.1), (eA64u8 r458.2)])) rfl rfl (spec_l01Divide_ok a0 x234 r453 r458 hr459) rfl (vp (.tuple [(eA64u8 r458.1), (eA64u8 r458.2)]) rfl (vb (eA64u8 r458.1) rfl rfl (vb (eA64u8 r458.2) rfl rfl (vo 4300 (eA64u8 ((vrep 64 (0 : Int)))) rfl rfl (vo 4400 (eA64u8 ((vrep 64 (0 : Int)))) rfl rfl (vs (eA64u8 r458.1) rfl rfl (fun _ => rfl) rfl rfl rfl rfl rfl rfl (vs (eA64u8 r458.2) rfl rfl (fun _ => rfl) rfl rfl rfl rfl rfl rfl (nx ⟨[(0, (i6 a0)), (10, (ow 10)), (11, (ow 11)), (17, (ow 17)), (32, (ow 32)), (33, (ow 33))], [(10, (bk (eA64u8 ((vrep 64 (0 : Int)))))), (11, (bk (eA64u8 ((vrep 64 (0 : Int)))))), (17, (bk (eA64u8 r10.1))), (32, (bk (eA64u8 r453))), (33, (bk (eA64u8 r458.1)))]⟩ (by kernel_rfl) (sr ?_)))))))))
        refine vp (i6 a0) rfl (vl (eA64u8 r10.1) rfl rfl rfl rfl rfl rfl (vl (eA64u8 r453) rfl rfl rfl rfl rfl rfl ?_))
        obtain ⟨r464, hr465, h⟩ := bind_some h
        refine a_call (args := [(i6 a0), (eA64u8 r10.1), (eA64u8 r453)]) (u := []) (r := (.tuple [(eA64u8 r464.1), (eA64u8 r464.2)])) rfl rfl (spec_l01Divide_ok a0 r10.1 r453 r464 hr465) rfl (vp (.tuple [(eA64u8 r464.1), (eA64u8 r464.2)]) rfl (vb (eA64u8 r464.1) rfl rfl (vb (eA64u8 r464.2) rfl rfl (vo 4500 (eA64u8 ((vrep 64 (0 : Int)))) rfl rfl (vo 4600 (eA64u8 ((vrep 64 (0 : Int)))) rfl rfl (vs (eA64u8 r464.1) rfl rfl (fun _ => rfl) rfl rfl rfl rfl rfl rfl (vs (eA64u8 r464.2) rfl rfl (fun _ => rfl) rfl rfl rfl rfl rfl rfl (nx ⟨[(0, (i6 a0)), (10, (ow 10)), (11, (ow 11)), (33, (ow 33)), (35, (ow 35))], [(10, (bk (eA64u8 ((vrep 64 (0 : Int)))))), (11, (bk (eA64u8 ((vrep 64 (0 : Int)))))), (33, (bk (eA64u8 r458.1))), (35, (bk (eA64u8 r464.1)))]⟩ (by kernel_rfl) (sr ?_)))))))))
        refine vp (i6 a0) rfl (vl (eA64u8 r464.1) rfl rfl rfl rfl rfl rfl ?_)
        obtain ⟨r469, hr470, h⟩ := bind_some h
        refine a_call (args := [(eA64u8 r464.1)]) (u := []) (r := (i6 r469)) rfl rfl (spec_l01Deg_ok r464.1 r469 hr470) rfl ?_
        obtain ⟨hc471, h⟩ := ifp_some h
        refine vq (.own 35 [r469.toNat] [r469.toNat * 1]) rfl hc471 ?_
        have hl472 : LdOk [r469.toNat] (eA64u8 r464.1) [r469.toNat * 1] 1 false (b8 (rd r464.1.1 r469.toNat)) := (.arr (vlt r464.1 hc471) rfl (.nil rfl rfl rfl))
        refine vq (b8 (rd r464.1.1 r469.toNat)) (ld_own (i := ⟨.int .u8, 1, 1, (.int .u8 0)⟩) rfl rfl rfl hl472) hl472.c ?_
        obtain ⟨r473, hr474, h⟩ := bind_some h
        refine a_call (args := [(i6 a0), (b8 (rd r464.1.1 r469.toNat))]) (u := []) (r := (b8 r473)) rfl rfl (spec_l01Inverse_ok a0 (rd r464.1.1 r469.toNat) r473 hr474) rfl (vp (i6 (IntKind.i64.wrap r473)) rfl (vp (i6 (IntKind.i64.wrap r473)) rfl (nx ⟨[(0, (i6 a0)), (10, (ow 10)), (11, (ow 11)), (33, (ow 33)), (35, (ow 35)), (37, (i6 (IntKind.i64.wrap r473)))], [(10, (bk (eA64u8 ((vrep 64 (0 : Int)))))), (11, (bk (eA64u8 ((vrep 64 (0 : Int)))))), (33, (bk (eA64u8 r458.1))), (35, (bk (eA64u8 r464.1)))]⟩ (by kernel_rfl) (a_seq (a_draw [⟨[], [], [], []⟩, ⟨[], [], [], []⟩, ⟨[33], [], [], []⟩, ⟨[], [], [], []⟩, ⟨[], [], [], [0, 1, 2, 3]⟩, ⟨[], [], [], []⟩, ⟨[], [], [], []⟩, ⟨[35], [], [], []⟩, ⟨[], [], [], []⟩, ⟨[], [], [], [0, 1, 2, 3, 4, 5, 6, 7, 8]⟩, ⟨[10], [10], [], [0, 1, 2, 3, 4, 5, 6, 7, 8, 9]⟩, ⟨[11], [11], [], [0, 1, 2, 3, 4, 5, 6, 7, 8, 9, 10]⟩, ⟨[], [], [], [0, 1, 2, 3, 4, 5, 6, 7, 8, 9, 10, 11]⟩] (by kernel_rfl) (dp (i6 a0) rfl (by kernel_rfl) (d_cons (vq (eA64u8 ((vrep 64 (0 : Int)))) rfl ⟨⟨_, rfl, rfl⟩, all_nil⟩ (d_next (by kernel_rfl) ?_)))))))))
        refine d_cons (vl (eA64u8 r458.1) rfl rfl rfl rfl rfl rfl (d_next (by kernel_rfl) (dp (i6 (IntKind.i64.wrap r473)) rfl (by kernel_rfl) (d_cons ?_))))
        obtain ⟨r484, hr485, h⟩ := bind_some h
        refine a_call (args := [(i6 a0), (eA64u8 ((vrep 64 (0 : Int)))), (eA64u8 r458.1), (i6 (IntKind.i64.wrap r473))]) (u := []) (r := (eA64u8 r484)) rfl rfl (spec_l01Add_ok a0 ((vrep 64 (0 : Int))) r458.1 (IntKind.i64.wrap r473) r484 hr485) rfl (d_next (by kernel_rfl) (dp (i6 a0) rfl (by kernel_rfl) (d_cons (vq (eA64u8 ((vrep 64 (0 : Int)))) rfl ⟨⟨_, rfl, rfl⟩, all_nil⟩ (d_next (by kernel_rfl) (d_cons (vl (eA64u8 r464.1) rfl rfl rfl rfl rfl rfl (d_next (by kernel_rfl) (dp (i6 (IntKind.i64.wrap r473)) rfl (by kernel_rfl) ?_)))))))))
        refine d_cons ?_
        obtain ⟨r487, hr488, h⟩ := bind_some h
        refine a_call (args := [(i6 a0), (eA64u8 ((vrep 64 (0 : Int)))), (eA64u8 r464.1), (i6 (IntKind.i64.wrap r473))]) (u := []) (r := (eA64u8 r487)) rfl rfl (spec_l01Add_ok a0 ((vrep 64 (0 : Int))) r464.1 (IntKind.i64.wrap r473) r487 hr488) rfl (d_next (by kernel_rfl) (d_cons (vs (eA64u8 r484) rfl rfl (fun _ => rfl) rfl rfl rfl rfl rfl rfl (d_next (by kernel_rfl) (d_cons (vs (eA64u8 r487) rfl rfl (fun _ => rfl) rfl rfl rfl rfl rfl rfl (d_next (by kernel_rfl) (dp (.bool true) rfl (by kernel_rfl) (d_nil ?_)))))))))
        refine a_next rfl (a_ret ?_)
        have hl491 : LdOk [] (eA64u8 r484) [] 64 true (eA64u8 r484) := (.nil rfl rfl rfl)
        have hl492 : LdOk [] (eA64u8 r487) [] 64 true (eA64u8 r487) := (.nil rfl rfl rfl)
        refine ⟨.inr rfl, ?_⟩
        rw [Try.results137]
        cases h
        exact ⟨_, _, _, _, _, ld_own (i := ⟨.arr 64 5, 64, 64, (eA64u8 (vrep 64 (0 : Int)))⟩) rfl rfl rfl hl491, hl491.c, .inl ⟨rfl, .inl rfl⟩, rfl, ⟨_, _, _, _, _, ld_own (i := ⟨.arr 64 5, 64, 64, (eA64u8 (vrep 64 (0 : Int)))⟩) rfl rfl rfl hl492, hl492.c, .inl ⟨rfl, .inl rfl⟩, rfl, ⟨_, _, _, _, _, rfl, trivial, .inl ⟨rfl, .inl rfl⟩, rfl, rfl⟩⟩⟩
      · have h := hy236
        refine sr (vp (i6 0) rfl (nx ⟨[(0, (i6 a0)), (3, (i6 a3)), (4, (.bool a4)), (6, (ow 6)), (7, (ow 7)), (10, (ow 10)), (11, (ow 11)), (17, (ow 17)), (19, (ow 19)), (20, (i6 0))], [(6, (bk (eA64u8 a1))), (7, (bk (eA64u8 a2))), (10, (bk (eA64u8 ((vrep 64 (0 : Int)))))), (11, (bk (eA64u8 ((vrep 64 (0 : Int)))))), (17, (bk (eA64u8 r10.1))), (19, (bk (eA64u8 ((vrep 64 (0 : Int))))))]⟩ (by kernel_rfl) (a_block ?_)))
        refine a_loop (emb := fun (s : (Bool × Int × (Vec Int 64))) => ⟨[(0, (i6 a0)), (3, (i6 a3)), (4, (.bool s.1)), (6, (ow 6)), (7, (ow 7)), (10, (ow 10)), (11, (ow 11)), (17, (ow 17)), (19, (ow 19)), (20, (i6 s.2.1))], [(6, (bk (eA64u8 a1))), (7, (bk (eA64u8 a2))), (10, (bk (eA64u8 ((vrep 64 (0 : Int)))))), (11, (bk (eA64u8 ((vrep 64 (0 : Int)))))), (17, (bk (eA64u8 r10.1))), (19, (bk (eA64u8 s.2.2)))]⟩) (body := (fun s : (Bool × Int × (Vec Int 64)) => spec_l10Series_l1 a3 a0 a2 r10 a1 s.1 s.2.1 s.2.2)) (G := fun q => some q = some y235) h rfl ?_ (by kernel_rfl)
        rintro X377 ⟨x306, x307, x308⟩ x378 h hX379
        have h : spec_l10Series_l1 a3 a0 a2 r10 a1 x306 x307 x308 = some x378 := h
        refine a_st (σ' := ⟨[(0, (i6 a0)), (3, (i6 a3)), (4, (.bool x306)), (6, (ow 6)), (7, (ow 7)), (10, (ow 10)), (11, (ow 11)), (17, (ow 17)), (19, (ow 19)), (20, (i6 x307))], [(6, (bk (eA64u8 a1))), (7, (bk (eA64u8 a2))), (10, (bk (eA64u8 ((vrep 64 (0 : Int)))))), (11, (bk (eA64u8 ((vrep 64 (0 : Int)))))), (17, (bk (eA64u8 r10.1))), (19, (bk (eA64u8 x308)))]⟩) (by kernel_rfl) (a_seq (sr (vp (i6 x307) rfl (vp (i6 a3) rfl (vp (.bool ((decide (x307 < a3)))) rfl (nx ⟨[(0, (i6 a0)), (3, (i6 a3)), (4, (.bool x306)), (6, (ow 6)), (7, (ow 7)), (10, (ow 10)), (11, (ow 11)), (17, (ow 17)), (19, (ow 19)), (20, (i6 x307)), (76, (.bool ((decide (x307 < a3)))))], [(6, (bk (eA64u8 a1))), (7, (bk (eA64u8 a2))), (10, (bk (eA64u8 ((vrep 64 (0 : Int)))))), (11, (bk (eA64u8 ((vrep 64 (0 : Int)))))), (17, (bk (eA64u8 r10.1))), (19, (bk (eA64u8 x308)))]⟩ (by kernel_rfl) ?_))))))
        cases hb380 : (decide (x307 < a3))
        · have h := ite_f hb380 h
          refine a_cond_f rfl (a_exit (t_exit ?_))
          cases h
          have h := hX379
          refine t_exit (b_exit ?_)
          exact j_leaf x308 (Option.some.inj h) (by kernel_rfl)
        · have h := ite_t hb380 h
          refine a_cond_t rfl (a_skip (a_next (σ' := ⟨[(0, (i6 a0)), (3, (i6 a3)), (4, (.bool x306)), (6, (ow 6)), (7, (ow 7)), (10, (ow 10)), (11, (ow 11)), (17, (ow 17)), (19, (ow 19)), (20, (i6 x307))], [(6, (bk (eA64u8 a1))), (7, (bk (eA64u8 a2))), (10, (bk (eA64u8 ((vrep 64 (0 : Int)))))), (11, (bk (eA64u8 ((vrep 64 (0 : Int)))))), (17, (bk (eA64u8 r10.1))), (19, (bk (eA64u8 x308)))]⟩) (by kernel_rfl) (a_seq (a_block (sr (vp (i6 a0) rfl (vp (i6 x307) rfl (vp (.bool x306) rfl ?_))))))))
          obtain ⟨r381, hr382, h⟩ := bind_some h
          refine a_call (args := [(i6 a0), (i6 x307), (.bool x306)]) (u := []) (r := (.tuple [(eA64u8 r381.1), (.bool r381.2)])) rfl rfl (spec_l04Factorial_ok a0 x307 x306 r381 hr382) rfl (vp (.tuple [(eA64u8 r381.1), (.bool r381.2)]) rfl (vb (eA64u8 r381.1) rfl rfl (vb (.bool r381.2) rfl rfl (vo 3100 (eA64u8 ((vrep 64 (0 : Int)))) rfl rfl (vs (eA64u8 r381.1) rfl rfl (fun _ => rfl) rfl rfl rfl rfl rfl rfl (vp (.bool r381.2) rfl (nx ⟨[(0, (i6 a0)), (3, (i6 a3)), (4, (.bool x306)), (6, (ow 6)), (7, (ow 7)), (10, (ow 10)), (11, (ow 11)), (17, (ow 17)), (19, (ow 19)), (20, (i6 x307)), (21, (ow 21))], [(6, (bk (eA64u8 a1))), (7, (bk (eA64u8 a2))), (10, (bk (eA64u8 ((vrep 64 (0 : Int)))))), (11, (bk (eA64u8 ((vrep 64 (0 : Int)))))), (17, (bk (eA64u8 r10.1))), (19, (bk (eA64u8 x308))), (21, (bk (eA64u8 r381.1)))]⟩ (by kernel_rfl) (a_seq (a_draw [⟨[], [], [], []⟩, ⟨[21], [], [], []⟩, ⟨[], [], [], []⟩, ⟨[7], [], [], []⟩, ⟨[], [], [], []⟩, ⟨[], [], [], [2, 3, 4]⟩, ⟨[], [], [], [0, 1, 2, 3, 4, 5]⟩, ⟨[], [], [], [0, 1, 2, 3, 4, 5, 6]⟩, ⟨[], [], [], [0, 1, 2, 3, 4, 5, 6, 7]⟩, ⟨[], [], [], [0, 1, 2, 3, 4, 5, 6, 7]⟩, ⟨[3300], [3300], [3300], []⟩, ⟨[3300], [3300], [], [0, 1, 2, 3, 4, 5, 6, 7, 8, 10]⟩, ⟨[], [], [], [0, 1, 2, 3, 4, 5, 6, 7, 8, 9, 10, 11]⟩] (by kernel_rfl) ?_)))))))))
          refine dp (i6 a0) rfl (by kernel_rfl) (d_cons (vl (eA64u8 r381.1) rfl rfl rfl rfl rfl rfl (d_next (by kernel_rfl) (dp (i6 a0) rfl (by kernel_rfl) (d_cons (vl (eA64u8 a2) rfl rfl rfl rfl rfl rfl (d_next (by kernel_rfl) (dp (i6 x307) rfl (by kernel_rfl) (d_cons ?_)))))))))
          obtain ⟨r393, hr394, h⟩ := bind_some h
          refine a_call (args := [(i6 a0), (eA64u8 a2), (i6 x307)]) (u := []) (r := (eA64u8 r393)) rfl rfl (spec_l10Raised_ok a0 a2 x307 r393 hr394) rfl (d_next (by kernel_rfl) (d_cons ?_))
          obtain ⟨r395, hr396, h⟩ := bind_some h
          refine a_call (args := [(i6 a0), (eA64u8 r381.1), (eA64u8 r393)]) (u := []) (r := (.tuple [(eA64u8 r395.1), (.bool r395.2)])) rfl rfl (spec_l01Times_ok a0 r381.1 r393 r395 hr396) rfl (d_next (by kernel_rfl) (dp (.tuple [(eA64u8 r395.1), (.bool r395.2)]) rfl (by kernel_rfl) (d_cons (vb (eA64u8 r395.1) rfl rfl (d_next (by kernel_rfl) (d_cons (vb (.bool r395.2) rfl rfl (d_next (by kernel_rfl) (d_cons ?_)))))))))
          refine vo 3300 (eA64u8 ((vrep 64 (0 : Int)))) rfl rfl (d_next (by kernel_rfl) (d_cons (vs (eA64u8 r395.1) rfl rfl (fun _ => rfl) rfl rfl rfl rfl rfl rfl (d_next (by kernel_rfl) (dp (.bool r395.2) rfl (by kernel_rfl) (d_nil (a_next (σ' := ⟨[(0, (i6 a0)), (3, (i6 a3)), (4, (.bool x306)), (6, (ow 6)), (7, (ow 7)), (10, (ow 10)), (11, (ow 11)), (17, (ow 17)), (19, (ow 19)), (20, (i6 x307)), (23, (ow 23))], [(6, (bk (eA64u8 a1))), (7, (bk (eA64u8 a2))), (10, (bk (eA64u8 ((vrep 64 (0 : Int)))))), (11, (bk (eA64u8 ((vrep 64 (0 : Int)))))), (17, (bk (eA64u8 r10.1))), (19, (bk (eA64u8 x308))), (23, (bk (eA64u8 r395.1)))]⟩) (by kernel_rfl) (sr (vp (i6 a0) rfl ?_)))))))))
          refine vl (eA64u8 r10.1) rfl rfl rfl rfl rfl rfl (vl (eA64u8 r395.1) rfl rfl rfl rfl rfl rfl ?_)
          obtain ⟨r400, hr401, h⟩ := bind_some h
          refine a_call (args := [(i6 a0), (eA64u8 r10.1), (eA64u8 r395.1)]) (u := []) (r := (.tuple [(eA64u8 r400.1), (eA64u8 r400.2)])) rfl rfl (spec_l01Divide_ok a0 r10.1 r395.1 r400 hr401) rfl (vp (.tuple [(eA64u8 r400.1), (eA64u8 r400.2)]) rfl (vb (eA64u8 r400.1) rfl rfl (vb (eA64u8 r400.2) rfl rfl (vo 3500 (eA64u8 ((vrep 64 (0 : Int)))) rfl rfl (vo 3600 (eA64u8 ((vrep 64 (0 : Int)))) rfl rfl (vs (eA64u8 r400.1) rfl rfl (fun _ => rfl) rfl rfl rfl rfl rfl rfl (vs (eA64u8 r400.2) rfl rfl (fun _ => rfl) rfl rfl rfl rfl rfl rfl (nx ⟨[(0, (i6 a0)), (3, (i6 a3)), (4, (.bool x306)), (6, (ow 6)), (7, (ow 7)), (10, (ow 10)), (11, (ow 11)), (17, (ow 17)), (19, (ow 19)), (20, (i6 x307)), (25, (ow 25))], [(6, (bk (eA64u8 a1))), (7, (bk (eA64u8 a2))), (10, (bk (eA64u8 ((vrep 64 (0 : Int)))))), (11, (bk (eA64u8 ((vrep 64 (0 : Int)))))), (17, (bk (eA64u8 r10.1))), (19, (bk (eA64u8 x308))), (25, (bk (eA64u8 r400.1)))]⟩ (by kernel_rfl) (sr ?_)))))))))
          refine vp (i6 a0) rfl (vl (eA64u8 a1) rfl rfl rfl rfl rfl rfl (vp (i6 x307) rfl ?_))
          obtain ⟨r405, hr406, h⟩ := bind_some h
          refine a_call (args := [(i6 a0), (eA64u8 a1), (i6 x307)]) (u := []) (r := (.tuple [(eA64u8 r405.1), (.bool r405.2)])) rfl rfl (spec_l04Raise_ok a0 a1 x307 r405 hr406) rfl (vp (.tuple [(eA64u8 r405.1), (.bool r405.2)]) rfl (vb (eA64u8 r405.1) rfl rfl (vb (.bool r405.2) rfl rfl (vo 3700 (eA64u8 ((vrep 64 (0 : Int)))) rfl rfl (vs (eA64u8 r405.1) rfl rfl (fun _ => rfl) rfl rfl rfl rfl rfl rfl (vp (.bool r405.2) rfl (nx ⟨[(0, (i6 a0)), (3, (i6 a3)), (4, (.bool x306)), (6, (ow 6)), (7, (ow 7)), (10, (ow 10)), (11, (ow 11)), (17, (ow 17)), (19, (ow 19)), (20, (i6 x307)), (25, (ow 25)), (27, (ow 27)), (28, (.bool r405.2))], [(6, (bk (eA64u8 a1))), (7, (bk (eA64u8 a2))), (10, (bk (eA64u8 ((vrep 64 (0 : Int)))))), (11, (bk (eA64u8 ((vrep 64 (0 : Int)))))), (17, (bk (eA64u8 r10.1))), (19, (bk (eA64u8 x308))), (25, (bk (eA64u8 r400.1))), (27, (bk (eA64u8 r405.1)))]⟩ (by kernel_rfl) (sr (vp (i6 a0) rfl ?_)))))))))
          refine vl (eA64u8 r405.1) rfl rfl rfl rfl rfl rfl (vl (eA64u8 r400.1) rfl rfl rfl rfl rfl rfl ?_)
          obtain ⟨r410, hr411, h⟩ := bind_some h
          refine a_call (args := [(i6 a0), (eA64u8 r405.1), (eA64u8 r400.1)]) (u := []) (r := (.tuple [(eA64u8 r410.1), (.bool r410.2)])) rfl rfl (spec_l01Times_ok a0 r405.1 r400.1 r410 hr411) rfl (vp (.tuple [(eA64u8 r410.1), (.bool r410.2)]) rfl (vb (eA64u8 r410.1) rfl rfl (vb (.bool r410.2) rfl rfl (vo 3900 (eA64u8 ((vrep 64 (0 : Int)))) rfl rfl (vs (eA64u8 r410.1) rfl rfl (fun _ => rfl) rfl rfl rfl rfl rfl rfl (vp (.bool r410.2) rfl (nx ⟨[(0, (i6 a0)), (3, (i6 a3)), (4, (.bool x306)), (6, (ow 6)), (7, (ow 7)), (10, (ow 10)), (11, (ow 11)), (17, (ow 17)), (19, (ow 19)), (20, (i6 x307)), (28, (.bool r405.2)), (29, (ow 29)), (30, (.bool r410.2))], [(6, (bk (eA64u8 a1))), (7, (bk (eA64u8 a2))), (10, (bk (eA64u8 ((vrep 64 (0 : Int)))))), (11, (bk (eA64u8 ((vrep 64 (0 : Int)))))), (17, (bk (eA64u8 r10.1))), (19, (bk (eA64u8 x308))), (29, (bk (eA64u8 r410.1)))]⟩ (by kernel_rfl) (a_seq ?_))))))))
          obtain ⟨y415, hy416, hk417⟩ := bind_some h
          clear h
          refine a_join (emb := fun (s : Bool) => ⟨[(0, (i6 a0)), (3, (i6 a3)), (4, (.bool x306)), (6, (ow 6)), (7, (ow 7)), (10, (ow 10)), (11, (ow 11)), (17, (ow 17)), (19, (ow 19)), (20, (i6 x307)), (29, (ow 29)), (122, (.bool s))], [(6, (bk (eA64u8 a1))), (7, (bk (eA64u8 a2))), (10, (bk (eA64u8 ((vrep 64 (0 : Int)))))), (11, (bk (eA64u8 ((vrep 64 (0 : Int)))))), (17, (bk (eA64u8 r10.1))), (19, (bk (eA64u8 x308))), (29, (bk (eA64u8 r410.1)))]⟩) (pre := fun s => s = y415) ?_ ?_
          · rintro x414 rfl
            have h := hk417
            refine a_st (σ' := ⟨[(0, (i6 a0)), (3, (i6 a3)), (4, (.bool x306)), (6, (ow 6)), (7, (ow 7)), (10, (ow 10)), (11, (ow 11)), (17, (ow 17)), (19, (ow 19)), (20, (i6 x307)), (29, (ow 29)), (122, (.bool x414))], [(6, (bk (eA64u8 a1))), (7, (bk (eA64u8 a2))), (10, (bk (eA64u8 ((vrep 64 (0 : Int)))))), (11, (bk (eA64u8 ((vrep 64 (0 : Int)))))), (17, (bk (eA64u8 r10.1))), (19, (bk (eA64u8 x308))), (29, (bk (eA64u8 r410.1)))]⟩) (by kernel_rfl) ?_
            cases hb419 : x414
            · have h := ite_f hb419 h
              refine a_cond_f rfl (a_skip (a_next (σ' := ⟨[(0, (i6 a0)), (3, (i6 a3)), (4, (.bool x306)), (6, (ow 6)), (7, (ow 7)), (10, (ow 10)), (11, (ow 11)), (17, (ow 17)), (19, (ow 19)), (20, (i6 x307)), (29, (ow 29))], [(6, (bk (eA64u8 a1))), (7, (bk (eA64u8 a2))), (10, (bk (eA64u8 ((vrep 64 (0 : Int)))))), (11, (bk (eA64u8 ((vrep 64 (0 : Int)))))), (17, (bk (eA64u8 r10.1))), (19, (bk (eA64u8 x308))), (29, (bk (eA64u8 r410.1)))]⟩) (by kernel_rfl) (sr (vp (i6 1) rfl (nx ⟨[(0, (i6 a0)), (3, (i6 a3)), (4, (.bool x306)), (6, (ow 6)), (7, (ow 7)), (10, (ow 10)), (11, (ow 11)), (17, (ow 17)), (19, (ow 19)), (20, (i6 x307)), (29, (ow 29)), (31, (i6 1))], [(6, (bk (eA64u8 a1))), (7, (bk (eA64u8 a2))), (10, (bk (eA64u8 ((vrep 64 (0 : Int)))))), (11, (bk (eA64u8 ((vrep 64 (0 : Int)))))), (17, (bk (eA64u8 r10.1))), (19, (bk (eA64u8 x308))), (29, (bk (eA64u8 r410.1)))]⟩ (by kernel_rfl) ?_)))))
              obtain ⟨y430, hy431, hk432⟩ := bind_some h
              clear h
              refine a_join (emb := fun (s : (Bool × Int)) => ⟨[(0, (i6 a0)), (3, (i6 a3)), (4, (.bool s.1)), (6, (ow 6)), (7, (ow 7)), (10, (ow 10)), (11, (ow 11)), (17, (ow 17)), (19, (ow 19)), (20, (i6 x307)), (29, (ow 29)), (31, (i6 s.2))], [(6, (bk (eA64u8 a1))), (7, (bk (eA64u8 a2))), (10, (bk (eA64u8 ((vrep 64 (0 : Int)))))), (11, (bk (eA64u8 ((vrep 64 (0 : Int)))))), (17, (bk (eA64u8 r10.1))), (19, (bk (eA64u8 x308))), (29, (bk (eA64u8 r410.1)))]⟩) (pre := fun s => s = y430) ?_ ?_
              · rintro ⟨x428, x429⟩ rfl
                have h := hk432
                refine a_st (σ' := ⟨[(0, (i6 a0)), (3, (i6 a3)), (4, (.bool x428)), (6, (ow 6)), (7, (ow 7)), (10, (ow 10)), (11, (ow 11)), (17, (ow 17)), (19, (ow 19)), (20, (i6 x307)), (29, (ow 29)), (31, (i6 x429))], [(6, (bk (eA64u8 a1))), (7, (bk (eA64u8 a2))), (10, (bk (eA64u8 ((vrep 64 (0 : Int)))))), (11, (bk (eA64u8 ((vrep 64 (0 : Int)))))), (17, (bk (eA64u8 r10.1))), (19, (bk (eA64u8 x308))), (29, (bk (eA64u8 r410.1)))]⟩) (by kernel_rfl) (a_region (vp (i6 a0) rfl (vl (eA64u8 x308) rfl rfl rfl rfl rfl rfl (vl (eA64u8 r410.1) rfl rfl rfl rfl rfl rfl (vp (i6 x429) rfl ?_)))))
                obtain ⟨r443, hr444, h⟩ := bind_some h
                refine a_call (args := [(i6 a0), (eA64u8 x308), (eA64u8 r410.1), (i6 x429)]) (u := []) (r := (eA64u8 r443)) rfl rfl (spec_l01Add_ok a0 x308 r410.1 x429 r443 hr444) rfl (vs (eA64u8 r443) rfl rfl (fun _ => rfl) rfl rfl rfl rfl rfl rfl (a_nil (b_norm (a_next (σ' := ⟨[(0, (i6 a0)), (3, (i6 a3)), (4, (.bool x428)), (6, (ow 6)), (7, (ow 7)), (10, (ow 10)), (11, (ow 11)), (17, (ow 17)), (19, (ow 19)), (20, (i6 x307))], [(6, (bk (eA64u8 a1))), (7, (bk (eA64u8 a2))), (10, (bk (eA64u8 ((vrep 64 (0 : Int)))))), (11, (bk (eA64u8 ((vrep 64 (0 : Int)))))), (17, (bk (eA64u8 r10.1))), (19, (bk (eA64u8 r443)))]⟩) (by kernel_rfl) (a_region (vp (i6 x307) rfl (vp (i6 (IntKind.i64.wrap (x307 + 1))) rfl (vp (i6 (IntKind.i64.wrap (x307 + 1))) rfl (a_nil ?_)))))))))
                cases h
                exact a_again (by kernel_rfl) hX379
              · have h := hy431
                obtain ⟨y436, hy437, hk438⟩ := bind_some h
                clear h
                refine a_join (emb := fun (s : (Bool × Bool)) => ⟨[(0, (i6 a0)), (3, (i6 a3)), (4, (.bool s.1)), (6, (ow 6)), (7, (ow 7)), (10, (ow 10)), (11, (ow 11)), (17, (ow 17)), (19, (ow 19)), (20, (i6 x307)), (29, (ow 29)), (31, (i6 1)), (130, (.bool s.2))], [(6, (bk (eA64u8 a1))), (7, (bk (eA64u8 a2))), (10, (bk (eA64u8 ((vrep 64 (0 : Int)))))), (11, (bk (eA64u8 ((vrep 64 (0 : Int)))))), (17, (bk (eA64u8 r10.1))), (19, (bk (eA64u8 x308))), (29, (bk (eA64u8 r410.1)))]⟩) (pre := fun s => s = y436) ?_ ?_
                · rintro ⟨x434, x435⟩ rfl
                  have h := hk438
                  refine a_st (σ' := ⟨[(0, (i6 a0)), (3, (i6 a3)), (4, (.bool x434)), (6, (ow 6)), (7, (ow 7)), (10, (ow 10)), (11, (ow 11)), (17, (ow 17)), (19, (ow 19)), (20, (i6 x307)), (29, (ow 29)), (31, (i6 1)), (130, (.bool x435))], [(6, (bk (eA64u8 a1))), (7, (bk (eA64u8 a2))), (10, (bk (eA64u8 ((vrep 64 (0 : Int)))))), (11, (bk (eA64u8 ((vrep 64 (0 : Int)))))), (17, (bk (eA64u8 r10.1))), (19, (bk (eA64u8 x308))), (29, (bk (eA64u8 r410.1)))]⟩) (by kernel_rfl) ?_
                  cases hb440 : x435
                  · have h := ite_f hb440 h
                    refine a_cond_f rfl (a_skip ?_)
                    exact j_leaf (x434, 1) (Option.some.inj h) (by kernel_rfl)
                  · have h := ite_t hb440 h
                    refine a_cond_t rfl (a_region (vp (i6 (-1)) rfl (a_nil ?_)))
                    exact j_leaf (x434, -1) (Option.some.inj h) (by kernel_rfl)
                · have h := hy437
                  refine a_region (vp (.bool x306) rfl (vp (.bool x306) rfl ?_))
                  cases hb439 : x306
                  · have h := ite_f hb439 h
                    refine a_gskip rfl (a_gskip rfl (a_gskip rfl (vp (.bool false) rfl (a_nil ?_))))
                    exact j_leaf (false, false) (Option.some.inj h) (by kernel_rfl)
                  · have h := ite_t hb439 h
                    refine gp (i6 x307) rfl rfl (gq (i6 (Int.tmod x307 2)) rfl rfl (by decide) (gp (.bool (((Int.tmod x307 2) == 1))) rfl rfl (vp (.bool (((Int.tmod x307 2) == 1))) rfl (a_nil ?_))))
                    exact j_leaf ((true, ((Int.tmod x307 2) == 1))) (Option.some.inj h) (by kernel_rfl)
            · have h := ite_t hb419 h
              refine a_cond_t rfl (sr (vq (eA64u8 ((vrep 64 (0 : Int)))) rfl ⟨⟨_, rfl, rfl⟩, all_nil⟩ (vq (eA64u8 ((vrep 64 (0 : Int)))) rfl ⟨⟨_, rfl, rfl⟩, all_nil⟩ (vs (eA64u8 ((vrep 64 (0 : Int)))) rfl rfl (fun _ => rfl) rfl rfl rfl rfl rfl rfl (vs (eA64u8 ((vrep 64 (0 : Int)))) rfl rfl (fun _ => rfl) rfl rfl rfl rfl rfl rfl (vp (.bool false) rfl (nx _ rfl (a_ret (t_ret ?_)))))))))
              refine b_ret (t_ret ?_)
              cases h
              have h := hX379
              refine t_ret (b_ret (t_ret ?_))
              cases h
              have h := hk237
              have hl448 : LdOk [] (eA64u8 ((vrep 64 (0 : Int)))) [] 64 true (eA64u8 ((vrep 64 (0 : Int)))) := (.nil rfl rfl rfl)
              have hl449 : LdOk [] (eA64u8 ((vrep 64 (0 : Int)))) [] 64 true (eA64u8 ((vrep 64 (0 : Int)))) := (.nil rfl rfl rfl)
              refine ⟨.inr rfl, ?_⟩
              rw [Try.results137]
              cases h
              exact ⟨_, _, _, _, _, ld_own (i := ⟨.arr 64 5, 64, 64, (eA64u8 (vrep 64 (0 : Int)))⟩) rfl rfl rfl hl448, hl448.c, .inl ⟨rfl, .inl rfl⟩, rfl, ⟨_, _, _, _, _, ld_own (i := ⟨.arr 64 5, 64, 64, (eA64u8 (vrep 64 (0 : Int)))⟩) rfl rfl rfl hl449, hl449.c, .inl ⟨rfl, .inl rfl⟩, rfl, ⟨_, _, _, _, _, rfl, trivial, .inl ⟨rfl, .inl rfl⟩, rfl, rfl⟩⟩⟩
          · have h := hy416
            refine a_region (vp (.bool r405.2) rfl (vp (.bool (!r405.2)) rfl (vp (.bool (!r405.2)) rfl ?_)))
            cases hb418 : (!r405.2)
            · have h := ite_f hb418 h
              refine gp (.bool r410.2) rfl rfl (gp (.bool (!r410.2)) rfl rfl (vp (.bool (!r410.2)) rfl (a_nil ?_)))
              exact j_leaf (!r410.2) (Option.some.inj h) (by kernel_rfl)
            · have h := ite_t hb418 h
              refine a_gskip rfl (a_gskip rfl (vp (.bool true) rfl (a_nil ?_)))
              exact j_leaf true (Option.some.inj h) (by kernel_rfl)
    · have h := ite_t hb21 h
      refine a_cond_t rfl (sr (vq (eA64u8 ((vrep 64 (0 : Int)))) rfl ⟨⟨_, rfl, rfl⟩, all_nil⟩ (vq (eA64u8 ((vrep 64 (0 : Int)))) rfl ⟨⟨_, rfl, rfl⟩, all_nil⟩ (vs (eA64u8 ((vrep 64 (0 : Int)))) rfl rfl (fun _ => rfl) rfl rfl rfl rfl rfl rfl (vs (eA64u8 ((vrep 64 (0 : Int)))) rfl rfl (fun _ => rfl) rfl rfl rfl rfl rfl rfl (vp (.bool false) rfl (nx _ rfl (a_ret (t_ret ?_)))))))))
      have hl496 : LdOk [] (eA64u8 ((vrep 64 (0 : Int)))) [] 64 true (eA64u8 ((vrep 64 (0 : Int)))) := (.nil rfl rfl rfl)
      have hl497 : LdOk [] (eA64u8 ((vrep 64 (0 : Int)))) [] 64 true (eA64u8 ((vrep 64 (0 : Int)))) := (.nil rfl rfl rfl)
      refine ⟨.inr rfl, ?_⟩
      rw [Try.results137]
      cases h
      exact ⟨_, _, _, _, _, ld_own (i := ⟨.arr 64 5, 64, 64, (eA64u8 (vrep 64 (0 : Int)))⟩) rfl rfl rfl hl496, hl496.c, .inl ⟨rfl, .inl rfl⟩, rfl, ⟨_, _, _, _, _, ld_own (i := ⟨.arr 64 5, 64, 64, (eA64u8 (vrep 64 (0 : Int)))⟩) rfl rfl rfl hl497, hl497.c, .inl ⟨rfl, .inl rfl⟩, rfl, ⟨_, _, _, _, _, rfl, trivial, .inl ⟨rfl, .inl rfl⟩, rfl, rfl⟩⟩⟩
  · have h := hy17
    refine a_region (vp (.bool r1.2) rfl (vp (.bool (!r1.2)) rfl (vp (.bool (!r1.2)) rfl ?_)))
    cases hb19 : (!r1.2)
    · have h := ite_f hb19 h
      refine gp (.bool r5.2) rfl rfl (gp (.bool (!r5.2)) rfl rfl (vp (.bool (!r5.2)) rfl (vp (.bool (!r5.2)) rfl ?_)))
      cases hb20 : (!r5.2)
      · have h := ite_f hb20 h
        refine gp (.bool r10.2) rfl rfl (gp (.bool (!r10.2)) rfl rfl (vp (.bool (!r10.2)) rfl (a_nil ?_)))
        exact j_leaf (!r10.2) (Option.some.inj h) (by kernel_rfl)
      · have h := ite_t hb20 h
        refine a_gskip rfl (a_gskip rfl (vp (.bool true) rfl (a_nil ?_)))
        exact j_leaf true (Option.some.inj h) (by kernel_rfl)
    · have h := ite_t hb19 h
      refine a_gskip rfl (a_gskip rfl (vp (.bool true) rfl (vp (.bool true) rfl (a_gskip rfl (a_gskip rfl (vp (.bool true) rfl (a_nil ?_)))))))
      exact j_leaf true (Option.some.inj h) (by kernel_rfl)
def spec_LogarithmUpTo_c : ACode := (.seq (.region 0 [q 5 (.box 25 (t 1)), q 6 (.box 25 (t 2)), q 8 (.alloc 25), q 9 (.alloc 25), q 10 (.asg 0 (.const (.int .i64 0)) 2)] false) (.seq (.seq (.region 1 [q 15 (.mov (t 0)), q 16 (.load 25 (t 5)), q 17 (.load 25 (t 6)), q 18 (.mov (t 3)), q 19 (.call 0 (.func 136) [(t 15), (t 16), (t 17), (t 18)]), q 11 (.asg 0 (t 19) 2)] false) (.seq (.region 2 [q 20 (.mov (t 11)), q 21 (.bin .neq 2 (t 20) (.const (.int .i64 0)))] false) (.cond (t 21) (.seq (.region 3 [q 22 (.build 25 []), q 23 (.build 25 []), q 24 (.mov (t 11)), ⟨none, .store 25 (t 8) (t 22), none, []⟩, ⟨none, .store 25 (t 9) (t 23), none, []⟩, q 10 (.asg 0 (t 24) 2)] false) .ret) .skip))) (.seq (.region 4 [q 26 (.mov (t 0)), q 27 (.load 25 (t 5)), q 28 (.load 25 (t 6)), q 29 (.mov (t 3)), q 30 (.call 0 (.func 137) [(t 26), (t 27), (t 28), (t 29), (.const (.bool true))]), q 25 (.mov (t 30)), q 31 (.extract (t 25) 0), q 32 (.extract (t 25) 1), q 33 (.extract (t 25) 2), q 12 (.alloc 25), q 13 (.alloc 25), ⟨none, .store 25 (t 12) (t 31), none, []⟩, ⟨none, .store 25 (t 13) (t 32), none, []⟩, q 14 (.asg 0 (t 33) 4)] false) (.seq (.seq (.region 5 [q 34 (.mov (t 14)), q 35 (.un .not (t 34))] false) (.cond (t 35) (.seq (.region 6 [q 36 (.build 25 []), q 37 (.build 25 []), ⟨none, .store 25 (t 8) (t 36), none, []⟩, ⟨none, .store 25 (t 9) (t 37), none, []⟩, q 10 (.asg 0 (.const (.int .i64 3)) 2)] false) .ret) .skip)) (.seq (.region 7 [q 38 (.load 25 (t 12)), q 39 (.load 25 (t 13)), ⟨none, .store 25 (t 8) (t 38), none, [0, 0]⟩, ⟨none, .store 25 (t 9) (t 39), none, [1, 2, 0, 1, 2]⟩, ⟨some 10, .asg 0 (.const (.int .i64 0)) 2, none, [3, 0, 1, 2, 3]⟩] true) .ret)))))
def spec_LogarithmUpTo_L : Live := [(0, [0, 1, 2, 3]), (1, [0, 3, 5, 6, 8, 9]), (2, [0, 3, 5, 6, 8, 9, 11]), (3, [8, 9, 11]), (4, [0, 3, 5, 6, 8, 9]), (5, [8, 9, 12, 13, 14]), (6, [8, 9]), (7, [8, 9, 12, 13]), (100021, [0, 3, 5, 6, 8, 9, 11, 21]), (100035, [8, 9, 12, 13, 35])]
noncomputable def spec_LogarithmUpTo (a0 : Int) (a1 : (Vec Int 64)) (a2 : (Vec Int 64)) (a3 : Int) : Option ((Vec Int 64) × (Vec Int 64) × Int) :=
  (Option.bind (spec_l10Cut a0 a1 a2 a3) fun r3 => (if (r3 != 0) then (some (((vrep 64 (0 : Int)), (vrep 64 (0 : Int)), r3))) else (Option.bind (spec_l10Series a0 a1 a2 a3 true) fun r8 => (if (!r8.2.2) then (some (((vrep 64 (0 : Int)), (vrep 64 (0 : Int)), 3))) else (some (r8.1, r8.2.1, 0))))))
theorem spec_LogarithmUpTo_ok (a0 : Int) (a1 : (Vec Int 64)) (a2 : (Vec Int 64)) (a3 : Int) (r : ((Vec Int 64) × (Vec Int 64) × Int)) (h : spec_LogarithmUpTo a0 a1 a2 a3 = some r) : Den Try.prog 45 [(i6 a0), (eA64u8 a1), (eA64u8 a2), (i6 a3)] { r := (.tuple [(eA64u8 r.1), (eA64u8 r.2.1), (i6 r.2.2)]) } := by
  refine den_of (rs := [(eA64u8 r.1), (eA64u8 r.2.1), (i6 r.2.2)]) (ac := spec_LogarithmUpTo_c) (L := spec_LogarithmUpTo_L) (n := 40) (m := []) (c := Try.f45.body.getD .skip) good Try.func45 (by kernel_rfl) (by kernel_rfl) Try.ntmps45 rfl rfl (by kernel_rfl) rfl rfl ?_
  refine a_st (σ' := ⟨[(0, (i6 a0)), (1, (eA64u8 a1)), (2, (eA64u8 a2)), (3, (i6 a3))], []⟩) (by kernel_rfl) ?_
  unfold spec_LogarithmUpTo_c
  refine sr (vo 1500 (eA64u8 a1) rfl rfl (vo 1600 (eA64u8 a2) rfl rfl (vo 1800 (eA64u8 ((vrep 64 (0 : Int)))) rfl rfl (vo 1900 (eA64u8 ((vrep 64 (0 : Int)))) rfl rfl (vp (i6 0) rfl (nx ⟨[(0, (i6 a0)), (3, (i6 a3)), (5, (ow 5)), (6, (ow 6)), (8, (ow 8)), (9, (ow 9))], [(5, (bk (eA64u8 a1))), (6, (bk (eA64u8 a2))), (8, (bk (eA64u8 ((vrep 64 (0 : Int)))))), (9, (bk (eA64u8 ((vrep 64 (0 : Int))))))]⟩ (by kernel_rfl) (a_seq (sr (vp (i6 a0) rfl ?_)))))))))
  refine vl (eA64u8 a1) rfl rfl rfl rfl rfl rfl (vl (eA64u8 a2) rfl rfl rfl rfl rfl rfl (vp (i6 a3) rfl ?_))
  obtain ⟨r3, hr4, h⟩ := bind_some h
  refine a_call (args := [(i6 a0), (eA64u8 a1), (eA64u8 a2), (i6 a3)]) (u := []) (r := (i6 r3)) rfl rfl (spec_l10Cut_ok a0 a1 a2 a3 r3 hr4) rfl (vp (i6 r3) rfl (nx ⟨[(0, (i6 a0)), (3, (i6 a3)), (5, (ow 5)), (6, (ow 6)), (8, (ow 8)), (9, (ow 9)), (11, (i6 r3))], [(5, (bk (eA64u8 a1))), (6, (bk (eA64u8 a2))), (8, (bk (eA64u8 ((vrep 64 (0 : Int)))))), (9, (bk (eA64u8 ((vrep 64 (0 : Int))))))]⟩ (by kernel_rfl) (sr (vp (i6 r3) rfl (vp (.bool (r3 != 0)) rfl (nx ⟨[(0, (i6 a0)), (3, (i6 a3)), (5, (ow 5)), (6, (ow 6)), (8, (ow 8)), (9, (ow 9)), (11, (i6 r3)), (21, (.bool (r3 != 0)))], [(5, (bk (eA64u8 a1))), (6, (bk (eA64u8 a2))), (8, (bk (eA64u8 ((vrep 64 (0 : Int)))))), (9, (bk (eA64u8 ((vrep 64 (0 : Int))))))]⟩ (by kernel_rfl) ?_))))))
  cases hb5 : (r3 != 0)
  · have h := ite_f hb5 h
    refine a_cond_f rfl (a_skip (a_next (σ' := ⟨[(0, (i6 a0)), (3, (i6 a3)), (5, (ow 5)), (6, (ow 6)), (8, (ow 8)), (9, (ow 9))], [(5, (bk (eA64u8 a1))), (6, (bk (eA64u8 a2))), (8, (bk (eA64u8 ((vrep 64 (0 : Int)))))), (9, (bk (eA64u8 ((vrep 64 (0 : Int))))))]⟩) (by kernel_rfl) (sr (vp (i6 a0) rfl (vl (eA64u8 a1) rfl rfl rfl rfl rfl rfl (vl (eA64u8 a2) rfl rfl rfl rfl rfl rfl (vp (i6 a3) rfl ?_)))))))
    obtain ⟨r8, hr9, h⟩ := bind_some h
    refine a_call (args := [(i6 a0), (eA64u8 a1), (eA64u8 a2), (i6 a3), (.bool true)]) (u := []) (r := (.tuple [(eA64u8 r8.1), (eA64u8 r8.2.1), (.bool r8.2.2)])) rfl rfl (spec_l10Series_ok a0 a1 a2 a3 true r8 hr9) rfl (vp (.tuple [(eA64u8 r8.1), (eA64u8 r8.2.1), (.bool r8.2.2)]) rfl (vb (eA64u8 r8.1) rfl rfl (vb (eA64u8 r8.2.1) rfl rfl (vb (.bool r8.2.2) rfl rfl (vo 2200 (eA64u8 ((vrep 64 (0 : Int)))) rfl rfl (vo 2300 (eA64u8 ((vrep 64 (0 : Int)))) rfl rfl (vs (eA64u8 r8.1) rfl rfl (fun _ => rfl) rfl rfl rfl rfl rfl rfl (vs (eA64u8 r8.2.1) rfl rfl (fun _ => rfl) rfl rfl rfl rfl rfl rfl (vp (.bool r8.2.2) rfl ?_)))))))))
    refine nx ⟨[(8, (ow 8)), (9, (ow 9)), (12, (ow 12)), (13, (ow 13)), (14, (.bool r8.2.2))], [(8, (bk (eA64u8 ((vrep 64 (0 : Int)))))), (9, (bk (eA64u8 ((vrep 64 (0 : Int)))))), (12, (bk (eA64u8 r8.1))), (13, (bk (eA64u8 r8.2.1)))]⟩ (by kernel_rfl) (a_seq (sr (vp (.bool r8.2.2) rfl (vp (.bool (!r8.2.2)) rfl (nx ⟨[(8, (ow 8)), (9, (ow 9)), (12, (ow 12)), (13, (ow 13)), (35, (.bool (!r8.2.2)))], [(8, (bk (eA64u8 ((vrep 64 (0 : Int)))))), (9, (bk (eA64u8 ((vrep 64 (0 : Int)))))), (12, (bk (eA64u8 r8.1))), (13, (bk (eA64u8 r8.2.1)))]⟩ (by kernel_rfl) ?_)))))
    cases hb12 : (!r8.2.2)
    · have h := ite_f hb12 h
      refine a_cond_f rfl (a_skip (a_next (σ' := ⟨[(8, (ow 8)), (9, (ow 9)), (12, (ow 12)), (13, (ow 13))], [(8, (bk (eA64u8 ((vrep 64 (0 : Int)))))), (9, (bk (eA64u8 ((vrep 64 (0 : Int)))))), (12, (bk (eA64u8 r8.1))), (13, (bk (eA64u8 r8.2.1)))]⟩) (by kernel_rfl) (a_seq (a_draw [⟨[12], [], [], []⟩, ⟨[13], [], [], []⟩, ⟨[8], [8], [], [0]⟩, ⟨[9], [9], [], [0, 1, 2]⟩, ⟨[], [], [], [0, 1, 2, 3]⟩] (by kernel_rfl) (d_cons (vl (eA64u8 r8.1) rfl rfl rfl rfl rfl rfl (d_next (by kernel_rfl) (d_cons (vl (eA64u8 r8.2.1) rfl rfl rfl rfl rfl rfl ?_)))))))))
      refine d_next (by kernel_rfl) (d_cons (vs (eA64u8 r8.1) rfl rfl (fun _ => rfl) rfl rfl rfl rfl rfl rfl (d_next (by kernel_rfl) (d_cons (vs (eA64u8 r8.2.1) rfl rfl (fun _ => rfl) rfl rfl rfl rfl rfl rfl (d_next (by kernel_rfl) (dp (i6 0) rfl (by kernel_rfl) (d_nil (a_next rfl ?_)))))))))
      refine a_ret ?_
      have hl21 : LdOk [] (eA64u8 r8.1) [] 64 true (eA64u8 r8.1) := (.nil rfl rfl rfl)
      have hl22 : LdOk [] (eA64u8 r8.2.1) [] 64 true (eA64u8 r8.2.1) := (.nil rfl rfl rfl)
      refine ⟨.inr rfl, ?_⟩
      rw [Try.results45]
      cases h
      exact ⟨_, _, _, _, _, ld_own (i := ⟨.arr 64 5, 64, 64, (eA64u8 (vrep 64 (0 : Int)))⟩) rfl rfl rfl hl21, hl21.c, .inl ⟨rfl, .inl rfl⟩, rfl, ⟨_, _, _, _, _, ld_own (i := ⟨.arr 64 5, 64, 64, (eA64u8 (vrep 64 (0 : Int)))⟩) rfl rfl rfl hl22, hl22.c, .inl ⟨rfl, .inl rfl⟩, rfl, ⟨_, _, _, _, _, rfl, trivial, .inl ⟨rfl, .inl rfl⟩, rfl, rfl⟩⟩⟩
    · have h := ite_t hb12 h
      refine a_cond_t rfl (sr (vq (eA64u8 ((vrep 64 (0 : Int)))) rfl ⟨⟨_, rfl, rfl⟩, all_nil⟩ (vq (eA64u8 ((vrep 64 (0 : Int)))) rfl ⟨⟨_, rfl, rfl⟩, all_nil⟩ (vs (eA64u8 ((vrep 64 (0 : Int)))) rfl rfl (fun _ => rfl) rfl rfl rfl rfl rfl rfl (vs (eA64u8 ((vrep 64 (0 : Int)))) rfl rfl (fun _ => rfl) rfl rfl rfl rfl rfl rfl (vp (i6 3) rfl (nx _ rfl (a_ret (t_ret ?_)))))))))
      have hl25 : LdOk [] (eA64u8 ((vrep 64 (0 : Int)))) [] 64 true (eA64u8 ((vrep 64 (0 : Int)))) := (.nil rfl rfl rfl)
      have hl26 : LdOk [] (eA64u8 ((vrep 64 (0 : Int)))) [] 64 true (eA64u8 ((vrep 64 (0 : Int)))) := (.nil rfl rfl rfl)
      refine ⟨.inr rfl, ?_⟩
      rw [Try.results45]
      cases h
      exact ⟨_, _, _, _, _, ld_own (i := ⟨.arr 64 5, 64, 64, (eA64u8 (vrep 64 (0 : Int)))⟩) rfl rfl rfl hl25, hl25.c, .inl ⟨rfl, .inl rfl⟩, rfl, ⟨_, _, _, _, _, ld_own (i := ⟨.arr 64 5, 64, 64, (eA64u8 (vrep 64 (0 : Int)))⟩) rfl rfl rfl hl26, hl26.c, .inl ⟨rfl, .inl rfl⟩, rfl, ⟨_, _, _, _, _, rfl, trivial, .inl ⟨rfl, .inl rfl⟩, rfl, rfl⟩⟩⟩
  · have h := ite_t hb5 h
    refine a_cond_t rfl (sr (vq (eA64u8 ((vrep 64 (0 : Int)))) rfl ⟨⟨_, rfl, rfl⟩, all_nil⟩ (vq (eA64u8 ((vrep 64 (0 : Int)))) rfl ⟨⟨_, rfl, rfl⟩, all_nil⟩ (vp (i6 r3) rfl (vs (eA64u8 ((vrep 64 (0 : Int)))) rfl rfl (fun _ => rfl) rfl rfl rfl rfl rfl rfl (vs (eA64u8 ((vrep 64 (0 : Int)))) rfl rfl (fun _ => rfl) rfl rfl rfl rfl rfl rfl (vp (i6 r3) rfl (nx _ rfl (a_ret ?_)))))))))
    refine t_ret ?_
    have hl29 : LdOk [] (eA64u8 ((vrep 64 (0 : Int)))) [] 64 true (eA64u8 ((vrep 64 (0 : Int)))) := (.nil rfl rfl rfl)
    have hl30 : LdOk [] (eA64u8 ((vrep 64 (0 : Int)))) [] 64 true (eA64u8 ((vrep 64 (0 : Int)))) := (.nil rfl rfl rfl)
    refine ⟨.inr rfl, ?_⟩
    rw [Try.results45]
    cases h
    exact ⟨_, _, _, _, _, ld_own (i := ⟨.arr 64 5, 64, 64, (eA64u8 (vrep 64 (0 : Int)))⟩) rfl rfl rfl hl29, hl29.c, .inl ⟨rfl, .inl rfl⟩, rfl, ⟨_, _, _, _, _, ld_own (i := ⟨.arr 64 5, 64, 64, (eA64u8 (vrep 64 (0 : Int)))⟩) rfl rfl rfl hl30, hl30.c, .inl ⟨rfl, .inl rfl⟩, rfl, ⟨_, _, _, _, _, rfl, trivial, .inl ⟨rfl, .inl rfl⟩, rfl, rfl⟩⟩⟩
def impl_within_c : ACode := (.seq (.region 0 [q 6 (.asg 0 (.const (.bool false)) 4)] false) (.seq (.region 1 [q 7 (.mov (t 1)), q 8 (.mov (t 0)), q 9 (.bin .leq 2 (t 7) (t 8)), q 10 (.mov (t 9)), ⟨some 11, .mov (t 0), some (10, true), []⟩, ⟨some 12, .mov (t 2), some (10, true), []⟩, ⟨some 13, .bin .leq 2 (t 11) (t 12), some (10, true), []⟩, q 14 (.pick (t 10) (t 13) (.const (.bool false))), q 6 (.asg 0 (t 14) 4)] false) .ret))
def impl_within_L : Live := [(0, [0, 1, 2]), (1, [0, 1, 2])]
noncomputable def impl_within (a0 : Int) (a1 : Int) (a2 : Int) : Option Bool :=
  (if (decide (a1 ≤ a0)) then (some ((decide (a0 ≤ a2)))) else (some false))
theorem impl_within_ok (a0 : Int) (a1 : Int) (a2 : Int) (r : Bool) (h : impl_within a0 a1 a2 = some r) : Den Try.prog 139 [(i6 a0), (i6 a1), (i6 a2)] { r := (.bool r) } := by
  refine den_of (rs := [(.bool r)]) (ac := impl_within_c) (L := impl_within_L) (n := 15) (m := []) (c := Try.f139.body.getD .skip) good Try.func139 (by kernel_rfl) (by kernel_rfl) Try.ntmps139 rfl rfl (by kernel_rfl) rfl rfl ?_
  refine a_st (σ' := ⟨[(0, (i6 a0)), (1, (i6 a1)), (2, (i6 a2))], []⟩) (by kernel_rfl) ?_
  unfold impl_within_c
  refine sr (vp (.bool false) rfl (nx ⟨[(0, (i6 a0)), (1, (i6 a1)), (2, (i6 a2))], []⟩ (by kernel_rfl) (sr (vp (i6 a1) rfl (vp (i6 a0) rfl (vp (.bool ((decide (a1 ≤ a0)))) rfl (vp (.bool ((decide (a1 ≤ a0)))) rfl ?_)))))))
  cases hb1 : (decide (a1 ≤ a0))
  · have h := ite_f hb1 h
    refine a_gskip rfl (a_gskip rfl (a_gskip rfl (vp (.bool false) rfl (vp (.bool false) rfl (nx _ rfl (a_ret ?_))))))
    refine ⟨.inr rfl, ?_⟩
    rw [Try.results139]
    cases h
    exact ⟨_, _, _, _, _, rfl, trivial, .inl ⟨rfl, .inl rfl⟩, rfl, rfl⟩
  · have h := ite_t hb1 h
    refine gp (i6 a0) rfl rfl (gp (i6 a2) rfl rfl (gp (.bool ((decide (a0 ≤ a2)))) rfl rfl (vp (.bool ((decide (a0 ≤ a2)))) rfl (vp (.bool ((decide (a0 ≤ a2)))) rfl (nx _ rfl (a_ret ?_))))))
    refine ⟨.inr rfl, ?_⟩
    rw [Try.results139]
    cases h
    exact ⟨_, _, _, _, _, rfl, trivial, .inl ⟨rfl, .inl rfl⟩, rfl, rfl⟩
def impl_isPrime_c : ACode := (.seq (.region 0 [q 2 (.asg 0 (.const (.bool false)) 4)] false) (.seq (.region 1 [q 3 (.mov (t 0)), q 4 (.bin .eql 2 (t 3) (.const (.int .i64 2))), q 5 (.mov (t 4)), ⟨some 6, .mov (t 0), some (5, false), []⟩, ⟨some 7, .bin .eql 2 (t 6) (.const (.int .i64 3)), some (5, false), []⟩, q 8 (.pick (t 5) (.const (.bool true)) (t 7)), q 9 (.mov (t 8)), ⟨some 10, .mov (t 0), some (9, false), []⟩, ⟨some 11, .bin .eql 2 (t 10) (.const (.int .i64 5)), some (9, false), []⟩, q 12 (.pick (t 9) (.const (.bool true)) (t 11)), q 13 (.mov (t 12)), ⟨some 14, .mov (t 0), some (13, false), []⟩, ⟨some 15, .bin .eql 2 (t 14) (.const (.int .i64 7)), some (13, false), []⟩, q 16 (.pick (t 13) (.const (.bool true)) (t 15)), q 2 (.asg 0 (t 16) 4)] false) .ret))
def impl_isPrime_L : Live := [(0, [0]), (1, [0])]
noncomputable def impl_isPrime (a0 : Int) : Option Bool :=
  (if (a0 == 2) then (some true) else (if (a0 == 3) then (some true) else (if (a0 == 5) then (some true) else (some (a0 == 7)))))
theorem impl_isPrime_ok (a0 : Int) (r : Bool) (h : impl_isPrime a0 = some r) : Den Try.prog 106 [(i6 a0)] { r := (.bool r) } := by
  refine den_of (rs := [(.bool r)]) (ac := impl_isPrime_c) (L := impl_isPrime_L) (n := 17) (m := []) (c := Try.f106.body.getD .skip) good Try.func106 (by kernel_rfl) (by kernel_rfl) Try.ntmps106 rfl rfl (by kernel_rfl) rfl rfl ?_
  refine a_st (σ' := ⟨[(0, (i6 a0))], []⟩) (by kernel_rfl) ?_
  unfold impl_isPrime_c
  refine sr (vp (.bool false) rfl (nx ⟨[(0, (i6 a0))], []⟩ (by kernel_rfl) (sr (vp (i6 a0) rfl (vp (.bool (a0 == 2)) rfl (vp (.bool (a0 == 2)) rfl ?_))))))
  cases hb1 : (a0 == 2)
  · have h := ite_f hb1 h
    refine gp (i6 a0) rfl rfl (gp (.bool (a0 == 3)) rfl rfl (vp (.bool (a0 == 3)) rfl (vp (.bool (a0 == 3)) rfl ?_)))
    cases hb2 : (a0 == 3)
    · have h := ite_f hb2 h
      refine gp (i6 a0) rfl rfl (gp (.bool (a0 == 5)) rfl rfl (vp (.bool (a0 == 5)) rfl (vp (.bool (a0 == 5)) rfl ?_)))
      cases hb3 : (a0 == 5)
      · have h := ite_f hb3 h
        refine gp (i6 a0) rfl rfl (gp (.bool (a0 == 7)) rfl rfl (vp (.bool (a0 == 7)) rfl (vp (.bool (a0 == 7)) rfl (nx _ rfl (a_ret ?_)))))
        refine ⟨.inr rfl, ?_⟩
        rw [Try.results106]
        cases h
        exact ⟨_, _, _, _, _, rfl, trivial, .inl ⟨rfl, .inl rfl⟩, rfl, rfl⟩
      · have h := ite_t hb3 h
        refine a_gskip rfl (a_gskip rfl (vp (.bool true) rfl (vp (.bool true) rfl (nx _ rfl (a_ret ?_)))))
        refine ⟨.inr rfl, ?_⟩
        rw [Try.results106]
        cases h
        exact ⟨_, _, _, _, _, rfl, trivial, .inl ⟨rfl, .inl rfl⟩, rfl, rfl⟩
    · have h := ite_t hb2 h
      refine a_gskip rfl (a_gskip rfl (vp (.bool true) rfl (vp (.bool true) rfl (a_gskip rfl (a_gskip rfl (vp (.bool true) rfl (vp (.bool true) rfl (nx _ rfl (a_ret ?_)))))))))
      refine ⟨.inr rfl, ?_⟩
      rw [Try.results106]
      cases h
      exact ⟨_, _, _, _, _, rfl, trivial, .inl ⟨rfl, .inl rfl⟩, rfl, rfl⟩
  · have h := ite_t hb1 h
    refine a_gskip rfl (a_gskip rfl (vp (.bool true) rfl (vp (.bool true) rfl (a_gskip rfl (a_gskip rfl (vp (.bool true) rfl (vp (.bool true) rfl (a_gskip rfl (a_gskip rfl ?_)))))))))
    refine vp (.bool true) rfl (vp (.bool true) rfl (nx _ rfl (a_ret ?_)))
    refine ⟨.inr rfl, ?_⟩
    rw [Try.results106]
    cases h
    exact ⟨_, _, _, _, _, rfl, trivial, .inl ⟨rfl, .inl rfl⟩, rfl, rfl⟩
def impl_isPoly_c1_of_p_c : ACode := (.seq (.region 0 [q 3 (.asg 0 (.const (.bool false)) 4)] false) (.seq (.region 1 [q 4 (.mov (t 0)), q 5 (.conv 5 2 (t 4)), q 6 (.load 2 (t 1)), q 7 (.bin .lss 2 (t 5) (t 6)), q 3 (.asg 0 (t 7) 4)] false) .ret))
def impl_isPoly_c1_of_p_L : Live := [(0, [0, 1]), (1, [0, 1])]
noncomputable def impl_isPoly_c1_of_p (a0 : Int) (a1 : Int) : Option Bool :=
  (some ((decide ((IntKind.i64.wrap a0) < a1))))
theorem impl_isPoly_c1_of_p_ok (a0 : Int) (a1 : Int) (r : Bool) (h : impl_isPoly_c1_of_p a0 a1 = some r) : Den Try.prog 182 [(b8 a0), (.ref (i6 a1) [] [])] { r := (.bool r) } := by
  refine den_of (rs := [(.bool r)]) (ac := impl_isPoly_c1_of_p_c) (L := impl_isPoly_c1_of_p_L) (n := 8) (m := []) (c := Try.f182.body.getD .skip) good Try.func182 (by kernel_rfl) (by kernel_rfl) Try.ntmps182 rfl rfl (by kernel_rfl) rfl rfl ?_
  refine a_st (σ' := ⟨[(0, (b8 a0)), (1, (.ref (i6 a1) [] []))], []⟩) (by kernel_rfl) ?_
  unfold impl_isPoly_c1_of_p_c
  refine sr (vp (.bool false) rfl (nx ⟨[(0, (b8 a0)), (1, (.ref (i6 a1) [] []))], []⟩ (by kernel_rfl) (sr (vp (b8 a0) rfl (vp (i6 (IntKind.i64.wrap a0)) rfl ?_)))))
  have hl1 : LdOk [] (i6 a1) [] 1 false (i6 a1) := (.nil rfl rfl rfl)
  refine vq (i6 a1) (ld_ref (i := ⟨.int .i64, 1, 8, (.int .i64 0)⟩) rfl rfl hl1) hl1.c (vp (.bool ((decide ((IntKind.i64.wrap a0) < a1)))) rfl (vp (.bool ((decide ((IntKind.i64.wrap a0) < a1)))) rfl (nx _ rfl (a_ret ?_))))
  refine ⟨.inr rfl, ?_⟩
  rw [Try.results182]
  cases h
  exact ⟨_, _, _, _, _, rfl, trivial, .inl ⟨rfl, .inl rfl⟩, rfl, rfl⟩
def impl_areAll_byte__c1_of_p_c : ACode := (.seq (.region 0 [q 3 (.asg 0 (.const (.bool false)) 4)] false) (.seq (.region 1 [q 4 (.load 149 (t 1)), q 5 (.mov (t 0)), q 6 (.call 0 (t 4) [(t 5)]), q 7 (.un .not (t 6)), q 3 (.asg 0 (t 7) 4)] false) .ret))
def impl_areAll_byte__c1_of_p_L : Live := [(0, [0, 1]), (1, [0, 1])]
noncomputable def impl_areAll_byte__c1_of_p (a0 : Int) (a1c0 : Int) : Option Bool :=
  (Option.bind (impl_isPoly_c1_of_p a0 a1c0) fun r2 => (some (!r2)))
theorem impl_areAll_byte__c1_of_p_ok (a0 : Int) (a1c0 : Int) (r : Bool) (h : impl_areAll_byte__c1_of_p a0 a1c0 = some r) : Den Try.prog 203 [(b8 a0), (.ref (.clo 182 [] [(.ref (i6 a1c0) [] [])]) [] [])] { r := (.bool r) } := by
  refine den_of (rs := [(.bool r)]) (ac := impl_areAll_byte__c1_of_p_c) (L := impl_areAll_byte__c1_of_p_L) (n := 8) (m := []) (c := Try.f203.body.getD .skip) good Try.func203 (by kernel_rfl) (by kernel_rfl) Try.ntmps203 rfl rfl (by kernel_rfl) rfl rfl ?_
  refine a_st (σ' := ⟨[(0, (b8 a0)), (1, (.ref (.clo 182 [] [(.ref (i6 a1c0) [] [])]) [] []))], []⟩) (by kernel_rfl) ?_
  unfold impl_areAll_byte__c1_of_p_c
  refine sr (vp (.bool false) rfl (nx ⟨[(0, (b8 a0)), (1, (.ref (.clo 182 [] [(.ref (i6 a1c0) [] [])]) [] []))], []⟩ (by kernel_rfl) (sr ?_)))
  have hl1 : LdOk [] (.clo 182 [] [(.ref (i6 a1c0) [] [])]) [] 1 false (.clo 182 [] [(.ref (i6 a1c0) [] [])]) := (.nil rfl rfl rfl)
  refine vq (.clo 182 [] [(.ref (i6 a1c0) [] [])]) (ld_ref (i := ⟨.other, 1, 8, (.raw .nilFunc)⟩) rfl rfl hl1) hl1.c (vp (b8 a0) rfl ?_)
  obtain ⟨r2, hr3, h⟩ := bind_some h
  refine a_call (args := [(b8 a0), (.ref (i6 a1c0) [] [])]) (u := []) (r := (.bool r2)) rfl rfl (impl_isPoly_c1_of_p_ok a0 a1c0 r2 hr3) rfl (vp (.bool (!r2)) rfl (vp (.bool (!r2)) rfl (nx _ rfl (a_ret ?_))))
  refine ⟨.inr rfl, ?_⟩
  rw [Try.results203]
  cases h
  exact ⟨_, _, _, _, _, rfl, trivial, .inl ⟨rfl, .inl rfl⟩, rfl, rfl⟩
def slices_IndexFunc_byte_byte_of_impl_areAll_byte__c1_p_c : ACode := (.seq (.region 0 [q 4 (.asg 0 (.const (.int .i64 0)) 3)] false) (.seq (.seq (.region 1 [q 6 (.mov (t 0)), q 7 (.blt 0 .len [(t 6)] [22]), q 8 (.mov (.const (.int .i64 0)))] false) (.block 0 (.loop (.seq (.region 2 [q 9 (.bin .lss 3 (t 8) (t 7))] false) (.seq (.cond (t 9) .skip (.exit 0)) (.seq (.block 1 (.seq (.region 3 [q 10 (.mov (t 8)), q 5 (.asg 0 (t 10) 3)] false) (.seq (.region 4 [q 11 (.mov (t 1)), q 12 (.mov (t 0)), q 13 (.mov (t 5)), q 14 (.indexAddr 22 (t 12) (t 13)), q 15 (.load 5 (t 14)), q 16 (.call 0 (t 11) [(t 15)])] false) (.cond (t 16) (.seq (.region 5 [q 17 (.mov (t 5)), q 4 (.asg 0 (t 17) 3)] false) .ret) .skip)))) (.region 6 [q 18 (.bin .add 3 (t 8) (.const (.int .i64 1))), q 8 (.mov (t 18))] false))))))) (.seq (.region 7 [q 4 (.asg 0 (.const (.int .i64 (-1))) 3)] false) .ret)))
def slices_IndexFunc_byte_byte_of_impl_areAll_byte__c1_p_L : Live := [(0, [0, 1]), (1, [0, 1]), (2, [0, 1, 7, 8]), (3, [0, 1, 7, 8]), (4, [0, 1, 5, 7, 8]), (5, [5]), (6, [0, 1, 7, 8]), (7, []), (100009, [0, 1, 7, 8, 9]), (100016, [0, 1, 5, 7, 8, 16])]
noncomputable def slices_IndexFunc_byte_byte_of_impl_areAll_byte__c1_p_l1 (a0 : (List Int)) (a1c0c0 : Int) (x33 : Int) : Option (Int ⊕ (Unit ⊕ Int)) :=
  (if (decide (x33 < (a0.length : Int))) then (ifp (0 ≤ x33 ∧ x33 < ((a0.length : Nat) : Int)) ((Option.bind (impl_areAll_byte__c1_of_p (rd a0 x33.toNat) a1c0c0) fun r46 => (if r46 then (some (.inr (.inr x33))) else (some (.inl (IntKind.i64.wrap (x33 + 1)))))))) else (some (.inr (((.inl ()))))))
noncomputable def slices_IndexFunc_byte_byte_of_impl_areAll_byte__c1_p (a0 : (List Int)) (a1c0c0 : Int) : Option Int :=
  (Option.bind (α := (Unit ⊕ Int)) ((loopM (fun s : Int => slices_IndexFunc_byte_byte_of_impl_areAll_byte__c1_p_l1 a0 a1c0c0 s) 0)) fun z => match z with | .inl _ => (some (-1)) | .inr r50 => (some r50))
theorem slices_IndexFunc_byte_byte_of_impl_areAll_byte__c1_p_ok (a0 : (List Int)) (a1c0c0 : Int) (r : Int) (h : slices_IndexFunc_byte_byte_of_impl_areAll_byte__c1_p a0 a1c0c0 = some r) : Den Try.prog 209 [(eSu8 a0), (.clo 203 [] [(.ref (.clo 182 [] [(.ref (i6 a1c0c0) [] [])]) [] [])])] { r := (i6 r) } := by
  refine den_of (rs := [(i6 r)]) (ac := slices_IndexFunc_byte_byte_of_impl_areAll_byte__c1_p_c) (L := slices_IndexFunc_byte_byte_of_impl_areAll_byte__c1_p_L) (n := 19) (m := []) (c := Try.f209.body.getD .skip) good Try.func209 (by kernel_rfl) (by kernel_rfl) Try.ntmps209 rfl rfl (by kernel_rfl) rfl rfl ?_
  refine a_st (σ' := ⟨[(0, (eSu8 a0)), (1, (.clo 203 [] [(.ref (.clo 182 [] [(.ref (i6 a1c0c0) [] [])]) [] [])]))], []⟩) (by kernel_rfl) ?_
  unfold slices_IndexFunc_byte_byte_of_impl_areAll_byte__c1_p_c
  refine sr (vp (i6 0) rfl (nx ⟨[(0, (eSu8 a0)), (1, (.clo 203 [] [(.ref (.clo 182 [] [(.ref (i6 a1c0c0) [] [])]) [] [])]))], []⟩ (by kernel_rfl) ?_))
  obtain ⟨y24, hy25, hk26⟩ := bind_some h
  clear h
  refine a_join (emb := fun (s : Unit) => ⟨[], []⟩) (pre := fun s => (.inl s) = y24) ?_ ?_
  · rintro _ rfl
    have h := hk26
    refine a_st (σ' := ⟨[], []⟩) (by kernel_rfl) (sr (vp (i6 (-1)) rfl (nx _ rfl (a_ret ?_))))
    refine ⟨.inr rfl, ?_⟩
    rw [Try.results209]
    cases h
    exact ⟨_, _, _, _, _, rfl, trivial, .inl ⟨rfl, .inl rfl⟩, rfl, rfl⟩
  · have h := hy25
    refine sr (vp (eSu8 a0) rfl (vq (i6 (a0.length : Int)) (len_run rfl rfl) trivial (vp (i6 0) rfl (nx ⟨[(0, (eSu8 a0)), (1, (.clo 203 [] [(.ref (.clo 182 [] [(.ref (i6 a1c0c0) [] [])]) [] [])])), (7, (i6 (a0.length : Int))), (8, (i6 0))], []⟩ (by kernel_rfl) (a_block ?_)))))
    refine a_loop (emb := fun (s : Int) => ⟨[(0, (eSu8 a0)), (1, (.clo 203 [] [(.ref (.clo 182 [] [(.ref (i6 a1c0c0) [] [])]) [] [])])), (7, (i6 (a0.length : Int))), (8, (i6 s))], []⟩) (body := (fun s : Int => slices_IndexFunc_byte_byte_of_impl_areAll_byte__c1_p_l1 a0 a1c0c0 s)) (G := fun q => some q = some y24) h rfl ?_ (by kernel_rfl)
    rintro X40 x33 x41 h hX42
    have h : slices_IndexFunc_byte_byte_of_impl_areAll_byte__c1_p_l1 a0 a1c0c0 x33 = some x41 := h
    refine a_st (σ' := ⟨[(0, (eSu8 a0)), (1, (.clo 203 [] [(.ref (.clo 182 [] [(.ref (i6 a1c0c0) [] [])]) [] [])])), (7, (i6 (a0.length : Int))), (8, (i6 x33))], []⟩) (by kernel_rfl) (sr (vp (.bool ((decide (x33 < (a0.length : Int))))) rfl (nx ⟨[(0, (eSu8 a0)), (1, (.clo 203 [] [(.ref (.clo 182 [] [(.ref (i6 a1c0c0) [] [])]) [] [])])), (7, (i6 (a0.length : Int))), (8, (i6 x33)), (9, (.bool ((decide (x33 < (a0.length : Int))))))], []⟩ (by kernel_rfl) (a_seq ?_))))
    cases hb43 : (decide (x33 < (a0.length : Int)))
    · have h := ite_f hb43 h
      refine a_cond_f rfl (a_exit (t_exit ?_))
      cases h
      have h := hX42
      refine t_exit (b_exit ?_)
      exact j_leaf () (Option.some.inj h) (by kernel_rfl)
    · have h := ite_t hb43 h
      refine a_cond_t rfl (a_skip (a_next (σ' := ⟨[(0, (eSu8 a0)), (1, (.clo 203 [] [(.ref (.clo 182 [] [(.ref (i6 a1c0c0) [] [])]) [] [])])), (7, (i6 (a0.length : Int))), (8, (i6 x33))], []⟩) (by kernel_rfl) (a_seq (a_block (sr (vp (i6 x33) rfl (vp (i6 x33) rfl (nx ⟨[(0, (eSu8 a0)), (1, (.clo 203 [] [(.ref (.clo 182 [] [(.ref (i6 a1c0c0) [] [])]) [] [])])), (5, (i6 x33)), (7, (i6 (a0.length : Int))), (8, (i6 x33))], []⟩ (by kernel_rfl) (sr ?_)))))))))
      refine vp (.clo 203 [] [(.ref (.clo 182 [] [(.ref (i6 a1c0c0) [] [])]) [] [])]) rfl (vp (eSu8 a0) rfl (vp (i6 x33) rfl ?_))
      obtain ⟨hc44, h⟩ := ifp_some h
      refine vq (.ref (.row 1 (a0.map (AV.int .u8))) [x33.toNat] [x33.toNat * 1]) rfl (lmap hc44) ?_
      have hl45 : LdOk [x33.toNat] (.row 1 (a0.map (AV.int .u8))) [x33.toNat * 1] 1 false (b8 (rd a0 x33.toNat)) := (.row (llt hc44) rfl (.nil rfl rfl rfl))
      refine vq (b8 (rd a0 x33.toNat)) (ld_ref (i := ⟨.int .u8, 1, 1, (.int .u8 0)⟩) rfl rfl hl45) hl45.c ?_
      obtain ⟨r46, hr47, h⟩ := bind_some h
      refine a_call (args := [(b8 (rd a0 x33.toNat)), (.ref (.clo 182 [] [(.ref (i6 a1c0c0) [] [])]) [] [])]) (u := []) (r := (.bool r46)) rfl rfl (impl_areAll_byte__c1_of_p_ok (rd a0 x33.toNat) a1c0c0 r46 hr47) rfl (nx ⟨[(0, (eSu8 a0)), (1, (.clo 203 [] [(.ref (.clo 182 [] [(.ref (i6 a1c0c0) [] [])]) [] [])])), (5, (i6 x33)), (7, (i6 (a0.length : Int))), (8, (i6 x33)), (16, (.bool r46))], []⟩ (by kernel_rfl) ?_)
      cases hb48 : r46
      · have h := ite_f hb48 h
        refine a_cond_f rfl (a_skip (b_norm (a_next (σ' := ⟨[(0, (eSu8 a0)), (1, (.clo 203 [] [(.ref (.clo 182 [] [(.ref (i6 a1c0c0) [] [])]) [] [])])), (7, (i6 (a0.length : Int))), (8, (i6 x33))], []⟩) (by kernel_rfl) (a_region (vp (i6 (IntKind.i64.wrap (x33 + 1))) rfl (vp (i6 (IntKind.i64.wrap (x33 + 1))) rfl (a_nil ?_)))))))
        cases h
        exact a_again (by kernel_rfl) hX42
      · have h := ite_t hb48 h
        refine a_cond_t rfl (sr (vp (i6 x33) rfl (vp (i6 x33) rfl (nx _ rfl (a_ret (b_ret (t_ret ?_)))))))
        cases h
        have h := hX42
        refine t_ret (b_ret (t_ret ?_))
        cases h
        have h := hk26
        refine ⟨.inr rfl, ?_⟩
        rw [Try.results209]
        cases h
        exact ⟨_, _, _, _, _, rfl, trivial, .inl ⟨rfl, .inl rfl⟩, rfl, rfl⟩
def slices_ContainsFunc_byte_byte_of_impl_areAll_byte__c1_p_c : ACode := (.seq (.region 0 [q 4 (.asg 0 (.const (.bool false)) 4)] false) (.seq (.region 1 [q 5 (.mov (t 0)), q 6 (.mov (t 1)), q 7 (.call 0 (.func 209) [(t 5), (t 6)]), q 8 (.bin .geq 3 (t 7) (.const (.int .i64 0))), q 4 (.asg 0 (t 8) 4)] false) .ret))
def slices_ContainsFunc_byte_byte_of_impl_areAll_byte__c1_p_L : Live := [(0, [0, 1]), (1, [0, 1])]
noncomputable def slices_ContainsFunc_byte_byte_of_impl_areAll_byte__c1_p (a0 : (List Int)) (a1c0c0 : Int) : Option Bool :=
  (Option.bind (slices_IndexFunc_byte_byte_of_impl_areAll_byte__c1_p a0 a1c0c0) fun r1 => (some ((decide (r1 ≥ 0)))))
theorem slices_ContainsFunc_byte_byte_of_impl_areAll_byte__c1_p_ok (a0 : (List Int)) (a1c0c0 : Int) (r : Bool) (h : slices_ContainsFunc_byte_byte_of_impl_areAll_byte__c1_p a0 a1c0c0 = some r) : Den Try.prog 202 [(eSu8 a0), (.clo 203 [] [(.ref (.clo 182 [] [(.ref (i6 a1c0c0) [] [])]) [] [])])] { r := (.bool r) } := by
  refine den_of (rs := [(.bool r)]) (ac := slices_ContainsFunc_byte_byte_of_impl_areAll_byte__c1_p_c) (L := slices_ContainsFunc_byte_byte_of_impl_areAll_byte__c1_p_L) (n := 9) (m := []) (c := Try.f202.body.getD .skip) good Try.func202 (by kernel_rfl) (by kernel_rfl) Try.ntmps202 rfl rfl (by kernel_rfl) rfl rfl ?_
  refine a_st (σ' := ⟨[(0, (eSu8 a0)), (1, (.clo 203 [] [(.ref (.clo 182 [] [(.ref (i6 a1c0c0) [] [])]) [] [])]))], []⟩) (by kernel_rfl) ?_
  unfold slices_ContainsFunc_byte_byte_of_impl_areAll_byte__c1_p_c
  refine sr (vp (.bool false) rfl (nx ⟨[(0, (eSu8 a0)), (1, (.clo 203 [] [(.ref (.clo 182 [] [(.ref (i6 a1c0c0) [] [])]) [] [])]))], []⟩ (by kernel_rfl) (sr (vp (eSu8 a0) rfl (vp (.clo 203 [] [(.ref (.clo 182 [] [(.ref (i6 a1c0c0) [] [])]) [] [])]) rfl ?_)))))
  obtain ⟨r1, hr2, h⟩ := bind_some h
  refine a_call (args := [(eSu8 a0), (.clo 203 [] [(.ref (.clo 182 [] [(.ref (i6 a1c0c0) [] [])]) [] [])])]) (u := []) (r := (i6 r1)) rfl rfl (slices_IndexFunc_byte_byte_of_impl_areAll_byte__c1_p_ok a0 a1c0c0 r1 hr2) rfl (vp (.bool ((decide (r1 ≥ 0)))) rfl (vp (.bool ((decide (r1 ≥ 0)))) rfl (nx _ rfl (a_ret ?_))))
  refine ⟨.inr rfl, ?_⟩
  rw [Try.results202]
  cases h
  exact ⟨_, _, _, _, _, rfl, trivial, .inl ⟨rfl, .inl rfl⟩, rfl, rfl⟩
def impl_areAll_byte_of_impl_isPoly_c1_p_c : ACode := (.seq (.region 0 [q 3 (.box 149 (t 1)), q 4 (.asg 0 (.const (.bool false)) 4)] false) (.seq (.region 1 [q 5 (.mov (t 0)), q 6 (.mkfn 203 [] [(t 3)]), q 7 (.call 0 (.func 202) [(t 5), (t 6)]), q 8 (.un .not (t 7)), q 4 (.asg 0 (t 8) 4)] false) .ret))
def impl_areAll_byte_of_impl_isPoly_c1_p_L : Live := [(0, [0, 1]), (1, [0, 3])]
noncomputable def impl_areAll_byte_of_impl_isPoly_c1_p (a0 : (List Int)) (a1c0 : Int) : Option Bool :=
  (Option.bind (slices_ContainsFunc_byte_byte_of_impl_areAll_byte__c1_p a0 a1c0) fun r1 => (some (!r1)))
theorem impl_areAll_byte_of_impl_isPoly_c1_p_ok (a0 : (List Int)) (a1c0 : Int) (r : Bool) (h : impl_areAll_byte_of_impl_isPoly_c1_p a0 a1c0 = some r) : Den Try.prog 181 [(eSu8 a0), (.clo 182 [] [(.ref (i6 a1c0) [] [])])] { r := (.bool r) } := by
  refine den_of (rs := [(.bool r)]) (ac := impl_areAll_byte_of_impl_isPoly_c1_p_c) (L := impl_areAll_byte_of_impl_isPoly_c1_p_L) (n := 9) (m := []) (c := Try.f181.body.getD .skip) good Try.func181 (by kernel_rfl) (by kernel_rfl) Try.ntmps181 rfl rfl (by kernel_rfl) rfl rfl ?_
  refine a_st (σ' := ⟨[(0, (eSu8 a0)), (1, (.clo 182 [] [(.ref (i6 a1c0) [] [])]))], []⟩) (by kernel_rfl) ?_
  unfold impl_areAll_byte_of_impl_isPoly_c1_p_c
  refine sr (vo 1300 (.clo 182 [] [(.ref (i6 a1c0) [] [])]) rfl rfl (vp (.bool false) rfl (nx ⟨[(0, (eSu8 a0)), (3, (ow 3))], [(3, (bk (.clo 182 [] [(.ref (i6 a1c0) [] [])])))]⟩ (by kernel_rfl) (sr (vp (eSu8 a0) rfl (vu (.clo 203 [] [(.ref (.clo 182 [] [(.ref (i6 a1c0) [] [])]) [] [])]) [(3, (bf (.clo 182 [] [(.ref (i6 a1c0) [] [])])))] rfl trivial rfl ?_))))))
  obtain ⟨r1, hr2, h⟩ := bind_some h
  refine a_call (args := [(eSu8 a0), (.clo 203 [] [(.ref (.clo 182 [] [(.ref (i6 a1c0) [] [])]) [] [])])]) (u := []) (r := (.bool r1)) rfl rfl (slices_ContainsFunc_byte_byte_of_impl_areAll_byte__c1_p_ok a0 a1c0 r1 hr2) rfl (vp (.bool (!r1)) rfl (vp (.bool (!r1)) rfl (nx _ rfl (a_ret ?_))))
  refine ⟨.inr rfl, ?_⟩
  rw [Try.results181]
  cases h
  exact ⟨_, _, _, _, _, rfl, trivial, .inl ⟨rfl, .inl rfl⟩, rfl, rfl⟩
def impl_isPoly_c : ACode := (.seq (.region 0 [q 2 (.box 2 (t 0)), q 3 (.box 25 (t 1)), q 4 (.asg 0 (.const (.bool false)) 4)] false) (.seq (.region 1 [q 5 (.slice 25 (t 3) none none none), q 6 (.mkfn 182 [] [(t 2)]), q 7 (.call 0 (.func 181) [(t 5), (t 6)]), q 4 (.asg 0 (t 7) 4)] false) .ret))
def impl_isPoly_L : Live := [(0, [0, 1]), (1, [2, 3])]
noncomputable def impl_isPoly (a0 : Int) (a1 : (Vec Int 64)) : Option Bool :=
  (Option.bind (impl_areAll_byte_of_impl_isPoly_c1_p a1.1 a0) fun r1 => (some r1))
theorem impl_isPoly_ok (a0 : Int) (a1 : (Vec Int 64)) (r : Bool) (h : impl_isPoly a0 a1 = some r) : Den Try.prog 107 [(i6 a0), (eA64u8 a1)] { r := (.bool r) } := by
  refine den_of (rs := [(.bool r)]) (ac := impl_isPoly_c) (L := impl_isPoly_L) (n := 8) (m := []) (c := Try.f107.body.getD .skip) good Try.func107 (by kernel_rfl) (by kernel_rfl) Try.ntmps107 rfl rfl (by kernel_rfl) rfl rfl ?_
  refine a_st (σ' := ⟨[(0, (i6 a0)), (1, (eA64u8 a1))], []⟩) (by kernel_rfl) ?_
  unfold impl_isPoly_c
  refine sr (vo 1200 (i6 a0) rfl rfl (vo 1300 (eA64u8 a1) rfl rfl (vp (.bool false) rfl (nx ⟨[(2, (ow 2)), (3, (ow 3))], [(2, (bk (i6 a0))), (3, (bk (eA64u8 a1)))]⟩ (by kernel_rfl) (sr (vu (.sl 1 true (a1.1.map (AV.int .u8))) [(3, (bf (eA64u8 a1)))] rfl ⟨rfl, trivial, rfl, rfl⟩ rfl (vu (.clo 182 [] [(.ref (i6 a0) [] [])]) [(2, (bf (i6 a0)))] rfl trivial rfl ?_)))))))
  obtain ⟨r1, hr2, h⟩ := bind_some h
  refine a_call (args := [(.sl 1 true (a1.1.map (AV.int .u8))), (.clo 182 [] [(.ref (i6 a0) [] [])])]) (u := []) (r := (.bool r1)) rfl rfl (Den.args (impl_areAll_byte_of_impl_isPoly_c1_p_ok a1.1 a0 r1 hr2) rfl rfl (.cons (.loose _) (.cons (.refl _) .nil))) rfl (vp (.bool r1) rfl (nx _ rfl (a_ret ?_)))
  refine ⟨.inr rfl, ?_⟩
  rw [Try.results107]
  cases h
  exact ⟨_, _, _, _, _, rfl, trivial, .inl ⟨rfl, .inl rfl⟩, rfl, rfl⟩
def impl_polysCode_c1_of_p_c : ACode := (.seq (.region 0 [q 2 (.box 25 (t 0)), q 3 (.asg 0 (.const (.bool false)) 4)] false) (.seq (.region 1 [q 4 (.load 2 (t 1)), q 5 (.load 25 (t 2)), q 6 (.call 0 (.func 107) [(t 4), (t 5)]), q 3 (.asg 0 (t 6) 4)] false) .ret))
def impl_polysCode_c1_of_p_L : Live := [(0, [0, 1]), (1, [1, 2])]
noncomputable def impl_polysCode_c1_of_p (a0 : (Vec Int 64)) (a1 : Int) : Option Bool :=
  (Option.bind (impl_isPoly a1 a0) fun r3 => (some r3))
theorem impl_polysCode_c1_of_p_ok (a0 : (Vec Int 64)) (a1 : Int) (r : Bool) (h : impl_polysCode_c1_of_p a0 a1 = some r) : Den Try.prog 179 [(eA64u8 a0), (.ref (i6 a1) [] [])] { r := (.bool r) } := by
  refine den_of (rs := [(.bool r)]) (ac := impl_polysCode_c1_of_p_c) (L := impl_polysCode_c1_of_p_L) (n := 7) (m := []) (c := Try.f179.body.getD .skip) good Try.func179 (by kernel_rfl) (by kernel_rfl) Try.ntmps179 rfl rfl (by kernel_rfl) rfl rfl ?_
  refine a_st (σ' := ⟨[(0, (eA64u8 a0)), (1, (.ref (i6 a1) [] []))], []⟩) (by kernel_rfl) ?_
  unfold impl_polysCode_c1_of_p_c
  refine sr (vo 1200 (eA64u8 a0) rfl rfl (vp (.bool false) rfl (nx ⟨[(1, (.ref (i6 a1) [] [])), (2, (ow 2))], [(2, (bk (eA64u8 a0)))]⟩ (by kernel_rfl) (sr ?_))))
  have hl1 : LdOk [] (i6 a1) [] 1 false (i6 a1) := (.nil rfl rfl rfl)
  refine vq (i6 a1) (ld_ref (i := ⟨.int .i64, 1, 8, (.int .i64 0)⟩) rfl rfl hl1) hl1.c (vl (eA64u8 a0) rfl rfl rfl rfl rfl rfl ?_)
  obtain ⟨r3, hr4, h⟩ := bind_some h
  refine a_call (args := [(i6 a1), (eA64u8 a0)]) (u := []) (r := (.bool r3)) rfl rfl (impl_isPoly_ok a1 a0 r3 hr4) rfl (vp (.bool r3) rfl (nx _ rfl (a_ret ?_)))
  refine ⟨.inr rfl, ?_⟩
  rw [Try.results179]
  cases h
  exact ⟨_, _, _, _, _, rfl, trivial, .inl ⟨rfl, .inl rfl⟩, rfl, rfl⟩
def impl_areAll_impl_Poly__c1_of_p_c : ACode := (.seq (.region 0 [q 2 (.box 25 (t 0)), q 3 (.asg 0 (.const (.bool false)) 4)] false) (.seq (.region 1 [q 4 (.load 147 (t 1)), q 5 (.load 25 (t 2)), q 6 (.call 0 (t 4) [(t 5)]), q 7 (.un .not (t 6)), q 3 (.asg 0 (t 7) 4)] false) .ret))
def impl_areAll_impl_Poly__c1_of_p_L : Live := [(0, [0, 1]), (1, [1, 2])]
noncomputable def impl_areAll_impl_Poly__c1_of_p (a0 : (Vec Int 64)) (a1c0 : Int) : Option Bool :=
  (Option.bind (impl_polysCode_c1_of_p a0 a1c0) fun r3 => (some (!r3)))
theorem impl_areAll_impl_Poly__c1_of_p_ok (a0 : (Vec Int 64)) (a1c0 : Int) (r : Bool) (h : impl_areAll_impl_Poly__c1_of_p a0 a1c0 = some r) : Den Try.prog 201 [(eA64u8 a0), (.ref (.clo 179 [] [(.ref (i6 a1c0) [] [])]) [] [])] { r := (.bool r) } := by
  refine den_of (rs := [(.bool r)]) (ac := impl_areAll_impl_Poly__c1_of_p_c) (L := impl_areAll_impl_Poly__c1_of_p_L) (n := 8) (m := []) (c := Try.f201.body.getD .skip) good Try.func201 (by kernel_rfl) (by kernel_rfl) Try.ntmps201 rfl rfl (by kernel_rfl) rfl rfl ?_
  refine a_st (σ' := ⟨[(0, (eA64u8 a0)), (1, (.ref (.clo 179 [] [(.ref (i6 a1c0) [] [])]) [] []))], []⟩) (by kernel_rfl) ?_
  unfold impl_areAll_impl_Poly__c1_of_p_c
  refine sr (vo 1200 (eA64u8 a0) rfl rfl (vp (.bool false) rfl (nx ⟨[(1, (.ref (.clo 179 [] [(.ref (i6 a1c0) [] [])]) [] [])), (2, (ow 2))], [(2, (bk (eA64u8 a0)))]⟩ (by kernel_rfl) (sr ?_))))
  have hl1 : LdOk [] (.clo 179 [] [(.ref (i6 a1c0) [] [])]) [] 1 false (.clo 179 [] [(.ref (i6 a1c0) [] [])]) := (.nil rfl rfl rfl)
  refine vq (.clo 179 [] [(.ref (i6 a1c0) [] [])]) (ld_ref (i := ⟨.other, 1, 8, (.raw .nilFunc)⟩) rfl rfl hl1) hl1.c (vl (eA64u8 a0) rfl rfl rfl rfl rfl rfl ?_)
  obtain ⟨r3, hr4, h⟩ := bind_some h
  refine a_call (args := [(eA64u8 a0), (.ref (i6 a1c0) [] [])]) (u := []) (r := (.bool r3)) rfl rfl (impl_polysCode_c1_of_p_ok a0 a1c0 r3 hr4) rfl (vp (.bool (!r3)) rfl (vp (.bool (!r3)) rfl (nx _ rfl (a_ret ?_))))
  refine ⟨.inr rfl, ?_⟩
  rw [Try.results201]
  cases h
  exact ⟨_, _, _, _, _, rfl, trivial, .inl ⟨rfl, .inl rfl⟩, rfl, rfl⟩
def slices_IndexFunc_impl_Poly_impl_Poly_of_impl_areAll_impl_Poly__c1_p_c : ACode := (.seq (.region 0 [q 4 (.asg 0 (.const (.int .i64 0)) 3)] false) (.seq (.seq (.region 1 [q 6 (.mov (t 0)), q 7 (.blt 0 .len [(t 6)] [55]), q 8 (.mov (.const (.int .i64 0)))] false) (.block 0 (.loop (.seq (.region 2 [q 9 (.bin .lss 3 (t 8) (t 7))] false) (.seq (.cond (t 9) .skip (.exit 0)) (.seq (.block 1 (.seq (.region 3 [q 10 (.mov (t 8)), q 5 (.asg 0 (t 10) 3)] false) (.seq (.region 4 [q 11 (.mov (t 1)), q 12 (.mov (t 0)), q 13 (.mov (t 5)), q 14 (.indexAddr 55 (t 12) (t 13)), q 15 (.load 25 (t 14)), q 16 (.call 0 (t 11) [(t 15)])] false) (.cond (t 16) (.seq (.region 5 [q 17 (.mov (t 5)), q 4 (.asg 0 (t 17) 3)] false) .ret) .skip)))) (.region 6 [q 18 (.bin .add 3 (t 8) (.const (.int .i64 1))), q 8 (.mov (t 18))] false))))))) (.seq (.region 7 [q 4 (.asg 0 (.const (.int .i64 (-1))) 3)] false) .ret)))
def slices_IndexFunc_impl_Poly_impl_Poly_of_impl_areAll_impl_Poly__c1_p_L : Live := [(0, [0, 1]), (1, [0, 1]), (2, [0, 1, 7, 8]), (3, [0, 1, 7, 8]), (4, [0, 1, 5, 7, 8]), (5, [5]), (6, [0, 1, 7, 8]), (7, []), (100009, [0, 1, 7, 8, 9]), (100016, [0, 1, 5, 7, 8, 16])]
noncomputable def slices_IndexFunc_impl_Poly_impl_Poly_of_impl_areAll_impl_Poly__c1_p_l1 (a0 : (List (Vec Int 64))) (a1c0c0 : Int) (x33 : Int) : Option (Int ⊕ (Unit ⊕ Int)) :=
  (if (decide (x33 < (a0.length : Int))) then (ifp (0 ≤ x33 ∧ x33 < ((a0.length : Nat) : Int)) ((Option.bind (impl_areAll_impl_Poly__c1_of_p (rd a0 x33.toNat) a1c0c0) fun r46 => (if r46 then (some (.inr (.inr x33))) else (some (.inl (IntKind.i64.wrap (x33 + 1)))))))) else (some (.inr (((.inl ()))))))
noncomputable def slices_IndexFunc_impl_Poly_impl_Poly_of_impl_areAll_impl_Poly__c1_p (a0 : (List (Vec Int 64))) (a1c0c0 : Int) : Option Int :=
  (Option.bind (α := (Unit ⊕ Int)) ((loopM (fun s : Int => slices_IndexFunc_impl_Poly_impl_Poly_of_impl_areAll_impl_Poly__c1_p_l1 a0 a1c0c0 s) 0)) fun z => match z with | .inl _ => (some (-1)) | .inr r50 => (some r50))
theorem slices_IndexFunc_impl_Poly_impl_Poly_of_impl_areAll_impl_Poly__c1_p_ok (a0 : (List (Vec Int 64))) (a1c0c0 : Int) (r : Int) (h : slices_IndexFunc_impl_Poly_impl_Poly_of_impl_areAll_impl_Poly__c1_p a0 a1c0c0 = some r) : Den Try.prog 208 [(eSA64u8 a0), (.clo 201 [] [(.ref (.clo 179 [] [(.ref (i6 a1c0c0) [] [])]) [] [])])] { r := (i6 r) } := by
  refine den_of (rs := [(i6 r)]) (ac := slices_IndexFunc_impl_Poly_impl_Poly_of_impl_areAll_impl_Poly__c1_p_c) (L := slices_IndexFunc_impl_Poly_impl_Poly_of_impl_areAll_impl_Poly__c1_p_L) (n := 19) (m := []) (c := Try.f208.body.getD .skip) good Try.func208 (by kernel_rfl) (by kernel_rfl) Try.ntmps208 rfl rfl (by kernel_rfl) rfl rfl ?_
  refine a_st (σ' := ⟨[(0, (eSA64u8 a0)), (1, (.clo 201 [] [(.ref (.clo 179 [] [(.ref (i6 a1c0c0) [] [])]) [] [])]))], []⟩) (by kernel_rfl) ?_
  unfold slices_IndexFunc_impl_Poly_impl_Poly_of_impl_areAll_impl_Poly__c1_p_c
  refine sr (vp (i6 0) rfl (nx ⟨[(0, (eSA64u8 a0)), (1, (.clo 201 [] [(.ref (.clo 179 [] [(.ref (i6 a1c0c0) [] [])]) [] [])]))], []⟩ (by kernel_rfl) ?_))
  obtain ⟨y24, hy25, hk26⟩ := bind_some h
  clear h
  refine a_join (emb := fun (s : Unit) => ⟨[], []⟩) (pre := fun s => (.inl s) = y24) ?_ ?_
  · rintro _ rfl
    have h := hk26
    refine a_st (σ' := ⟨[], []⟩) (by kernel_rfl) (sr (vp (i6 (-1)) rfl (nx _ rfl (a_ret ?_))))
    refine ⟨.inr rfl, ?_⟩
    rw [Try.results208]
    cases h
    exact ⟨_, _, _, _, _, rfl, trivial, .inl ⟨rfl, .inl rfl⟩, rfl, rfl⟩
  · have h := hy25
    refine sr (vp (eSA64u8 a0) rfl (vq (i6 (a0.length : Int)) (len_run rfl rfl) trivial (vp (i6 0) rfl (nx ⟨[(0, (eSA64u8 a0)), (1, (.clo 201 [] [(.ref (.clo 179 [] [(.ref (i6 a1c0c0) [] [])]) [] [])])), (7, (i6 (a0.length : Int))), (8, (i6 0))], []⟩ (by kernel_rfl) (a_block ?_)))))
    refine a_loop (emb := fun (s : Int) => ⟨[(0, (eSA64u8 a0)), (1, (.clo 201 [] [(.ref (.clo 179 [] [(.ref (i6 a1c0c0) [] [])]) [] [])])), (7, (i6 (a0.length : Int))), (8, (i6 s))], []⟩) (body := (fun s : Int => slices_IndexFunc_impl_Poly_impl_Poly_of_impl_areAll_impl_Poly__c1_p_l1 a0 a1c0c0 s)) (G := fun q => some q = some y24) h rfl ?_ (by kernel_rfl)
    rintro X40 x33 x41 h hX42
    have h : slices_IndexFunc_impl_Poly_impl_Poly_of_impl_areAll_impl_Poly__c1_p_l1 a0 a1c0c0 x33 = some x41 := h
    refine a_st (σ' := ⟨[(0, (eSA64u8 a0)), (1, (.clo 201 [] [(.ref (.clo 179 [] [(.ref (i6 a1c0c0) [] [])]) [] [])])), (7, (i6 (a0.length : Int))), (8, (i6 x33))], []⟩) (by kernel_rfl) (sr (vp (.bool ((decide (x33 < (a0.length : Int))))) rfl (nx ⟨[(0, (eSA64u8 a0)), (1, (.clo 201 [] [(.ref (.clo 179 [] [(.ref (i6 a1c0c0) [] [])]) [] [])])), (7, (i6 (a0.length : Int))), (8, (i6 x33)), (9, (.bool ((decide (x33 < (a0.length : Int))))))], []⟩ (by kernel_rfl) (a_seq ?_))))
    cases hb43 : (decide (x33 < (a0.length : Int)))
    · have h := ite_f hb43 h
      refine a_cond_f rfl (a_exit (t_exit ?_))
      cases h
      have h := hX42
      refine t_exit (b_exit ?_)
      exact j_leaf () (Option.some.inj h) (by kernel_rfl)
    · have h := ite_t hb43 h
      refine a_cond_t rfl (a_skip (a_next (σ' := ⟨[(0, (eSA64u8 a0)), (1, (.clo 201 [] [(.ref (.clo 179 [] [(.ref (i6 a1c0c0) [] [])]) [] [])])), (7, (i6 (a0.length : Int))), (8, (i6 x33))], []⟩) (by kernel_rfl) (a_seq (a_block (sr (vp (i6 x33) rfl (vp (i6 x33) rfl (nx ⟨[(0, (eSA64u8 a0)), (1, (.clo 201 [] [(.ref (.clo 179 [] [(.ref (i6 a1c0c0) [] [])]) [] [])])), (5, (i6 x33)), (7, (i6 (a0.length : Int))), (8, (i6 x33))], []⟩ (by kernel_rfl) (sr ?_)))))))))
      refine vp (.clo 201 [] [(.ref (.clo 179 [] [(.ref (i6 a1c0c0) [] [])]) [] [])]) rfl (vp (eSA64u8 a0) rfl (vp (i6 x33) rfl ?_))
      obtain ⟨hc44, h⟩ := ifp_some h
      refine vq (.ref (.row 64 (a0.map eA64u8)) [x33.toNat] [x33.toNat * 64]) rfl (lmap hc44) ?_
      have hl45 : LdOk [x33.toNat] (.row 64 (a0.map eA64u8)) [x33.toNat * 64] 64 true (eA64u8 (rd a0 x33.toNat)) := (.row (llt hc44) rfl (.nil rfl rfl rfl))
      refine vq (eA64u8 (rd a0 x33.toNat)) (ld_ref (i := ⟨.arr 64 5, 64, 64, (eA64u8 (vrep 64 (0 : Int)))⟩) rfl rfl hl45) hl45.c ?_
      obtain ⟨r46, hr47, h⟩ := bind_some h
      refine a_call (args := [(eA64u8 (rd a0 x33.toNat)), (.ref (.clo 179 [] [(.ref (i6 a1c0c0) [] [])]) [] [])]) (u := []) (r := (.bool r46)) rfl rfl (impl_areAll_impl_Poly__c1_of_p_ok (rd a0 x33.toNat) a1c0c0 r46 hr47) rfl (nx ⟨[(0, (eSA64u8 a0)), (1, (.clo 201 [] [(.ref (.clo 179 [] [(.ref (i6 a1c0c0) [] [])]) [] [])])), (5, (i6 x33)), (7, (i6 (a0.length : Int))), (8, (i6 x33)), (16, (.bool r46))], []⟩ (by kernel_rfl) ?_)
      cases hb48 : r46
      · have h := ite_f hb48 h
        refine a_cond_f rfl (a_skip (b_norm (a_next (σ' := ⟨[(0, (eSA64u8 a0)), (1, (.clo 201 [] [(.ref (.clo 179 [] [(.ref (i6 a1c0c0) [] [])]) [] [])])), (7, (i6 (a0.length : Int))), (8, (i6 x33))], []⟩) (by kernel_rfl) (a_region (vp (i6 (IntKind.i64.wrap (x33 + 1))) rfl (vp (i6 (IntKind.i64.wrap (x33 + 1))) rfl (a_nil ?_)))))))
        cases h
        exact a_again (by kernel_rfl) hX42
      · have h := ite_t hb48 h
        refine a_cond_t rfl (sr (vp (i6 x33) rfl (vp (i6 x33) rfl (nx _ rfl (a_ret (b_ret (t_ret ?_)))))))
        cases h
        have h := hX42
        refine t_ret (b_ret (t_ret ?_))
        cases h
        have h := hk26
        refine ⟨.inr rfl, ?_⟩
        rw [Try.results208]
        cases h
        exact ⟨_, _, _, _, _, rfl, trivial, .inl ⟨rfl, .inl rfl⟩, rfl, rfl⟩
def slices_ContainsFunc_impl_Poly_impl_Poly_of_impl_areAll_impl_Poly__c1_p_c : ACode := (.seq (.region 0 [q 4 (.asg 0 (.const (.bool false)) 4)] false) (.seq (.region 1 [q 5 (.mov (t 0)), q 6 (.mov (t 1)), q 7 (.call 0 (.func 208) [(t 5), (t 6)]), q 8 (.bin .geq 3 (t 7) (.const (.int .i64 0))), q 4 (.asg 0 (t 8) 4)] false) .ret))
def slices_ContainsFunc_impl_Poly_impl_Poly_of_impl_areAll_impl_Poly__c1_p_L : Live := [(0, [0, 1]), (1, [0, 1])]
noncomputable def slices_ContainsFunc_impl_Poly_impl_Poly_of_impl_areAll_impl_Poly__c1_p (a0 : (List (Vec Int 64))) (a1c0c0 : Int) : Option Bool :=
  (Option.bind (slices_IndexFunc_impl_Poly_impl_Poly_of_impl_areAll_impl_Poly__c1_p a0 a1c0c0) fun r1 => (some ((decide (r1 ≥ 0)))))
theorem slices_ContainsFunc_impl_Poly_impl_Poly_of_impl_areAll_impl_Poly__c1_p_ok (a0 : (List (Vec Int 64))) (a1c0c0 : Int) (r : Bool) (h : slices_ContainsFunc_impl_Poly_impl_Poly_of_impl_areAll_impl_Poly__c1_p a0 a1c0c0 = some r) : Den Try.prog 200 [(eSA64u8 a0), (.clo 201 [] [(.ref (.clo 179 [] [(.ref (i6 a1c0c0) [] [])]) [] [])])] { r := (.bool r) } := by
  refine den_of (rs := [(.bool r)]) (ac := slices_ContainsFunc_impl_Poly_impl_Poly_of_impl_areAll_impl_Poly__c1_p_c) (L := slices_ContainsFunc_impl_Poly_impl_Poly_of_impl_areAll_impl_Poly__c1_p_L) (n := 9) (m := []) (c := Try.f200.body.getD .skip) good Try.func200 (by kernel_rfl) (by kernel_rfl) Try.ntmps200 rfl rfl (by kernel_rfl) rfl rfl ?_
  refine a_st (σ' := ⟨[(0, (eSA64u8 a0)), (1, (.clo 201 [] [(.ref (.clo 179 [] [(.ref (i6 a1c0c0) [] [])]) [] [])]))], []⟩) (by kernel_rfl) ?_
  unfold slices_ContainsFunc_impl_Poly_impl_Poly_of_impl_areAll_impl_Poly__c1_p_c
  refine sr (vp (.bool false) rfl (nx ⟨[(0, (eSA64u8 a0)), (1, (.clo 201 [] [(.ref (.clo 179 [] [(.ref (i6 a1c0c0) [] [])]) [] [])]))], []⟩ (by kernel_rfl) (sr (vp (eSA64u8 a0) rfl (vp (.clo 201 [] [(.ref (.clo 179 [] [(.ref (i6 a1c0c0) [] [])]) [] [])]) rfl ?_)))))
  obtain ⟨r1, hr2, h⟩ := bind_some h
  refine a_call (args := [(eSA64u8 a0), (.clo 201 [] [(.ref (.clo 179 [] [(.ref (i6 a1c0c0) [] [])]) [] [])])]) (u := []) (r := (i6 r1)) rfl rfl (slices_IndexFunc_impl_Poly_impl_Poly_of_impl_areAll_impl_Poly__c1_p_ok a0 a1c0c0 r1 hr2) rfl (vp (.bool ((decide (r1 ≥ 0)))) rfl (vp (.bool ((decide (r1 ≥ 0)))) rfl (nx _ rfl (a_ret ?_))))
  refine ⟨.inr rfl, ?_⟩
  rw [Try.results200]
  cases h
  exact ⟨_, _, _, _, _, rfl, trivial, .inl ⟨rfl, .inl rfl⟩, rfl, rfl⟩
def impl_areAll_impl_Poly_of_impl_polysCode_c1_p_c : ACode := (.seq (.region 0 [q 3 (.box 147 (t 1)), q 4 (.asg 0 (.const (.bool false)) 4)] false) (.seq (.region 1 [q 5 (.mov (t 0)), q 6 (.mkfn 201 [] [(t 3)]), q 7 (.call 0 (.func 200) [(t 5), (t 6)]), q 8 (.un .not (t 7)), q 4 (.asg 0 (t 8) 4)] false) .ret))
def impl_areAll_impl_Poly_of_impl_polysCode_c1_p_L : Live := [(0, [0, 1]), (1, [0, 3])]
noncomputable def impl_areAll_impl_Poly_of_impl_polysCode_c1_p (a0 : (List (Vec Int 64))) (a1c0 : Int) : Option Bool :=
  (Option.bind (slices_ContainsFunc_impl_Poly_impl_Poly_of_impl_areAll_impl_Poly__c1_p a0 a1c0) fun r1 => (some (!r1)))
theorem impl_areAll_impl_Poly_of_impl_polysCode_c1_p_ok (a0 : (List (Vec Int 64))) (a1c0 : Int) (r : Bool) (h : impl_areAll_impl_Poly_of_impl_polysCode_c1_p a0 a1c0 = some r) : Den Try.prog 178 [(eSA64u8 a0), (.clo 179 [] [(.ref (i6 a1c0) [] [])])] { r := (.bool r) } := by
  refine den_of (rs := [(.bool r)]) (ac := impl_areAll_impl_Poly_of_impl_polysCode_c1_p_c) (L := impl_areAll_impl_Poly_of_impl_polysCode_c1_p_L) (n := 9) (m := []) (c := Try.f178.body.getD .skip) good Try.func178 (by kernel_rfl) (by kernel_rfl) Try.ntmps178 rfl rfl (by kernel_rfl) rfl rfl ?_
  refine a_st (σ' := ⟨[(0, (eSA64u8 a0)), (1, (.clo 179 [] [(.ref (i6 a1c0) [] [])]))], []⟩) (by kernel_rfl) ?_
  unfold impl_areAll_impl_Poly_of_impl_polysCode_c1_p_c
  refine sr (vo 1300 (.clo 179 [] [(.ref (i6 a1c0) [] [])]) rfl rfl (vp (.bool false) rfl (nx ⟨[(0, (eSA64u8 a0)), (3, (ow 3))], [(3, (bk (.clo 179 [] [(.ref (i6 a1c0) [] [])])))]⟩ (by kernel_rfl) (sr (vp (eSA64u8 a0) rfl (vu (.clo 201 [] [(.ref (.clo 179 [] [(.ref (i6 a1c0) [] [])]) [] [])]) [(3, (bf (.clo 179 [] [(.ref (i6 a1c0) [] [])])))] rfl trivial rfl ?_))))))
  obtain ⟨r1, hr2, h⟩ := bind_some h
  refine a_call (args := [(eSA64u8 a0), (.clo 201 [] [(.ref (.clo 179 [] [(.ref (i6 a1c0) [] [])]) [] [])])]) (u := []) (r := (.bool r1)) rfl rfl (slices_ContainsFunc_impl_Poly_impl_Poly_of_impl_areAll_impl_Poly__c1_p_ok a0 a1c0 r1 hr2) rfl (vp (.bool (!r1)) rfl (vp (.bool (!r1)) rfl (nx _ rfl (a_ret ?_))))
  refine ⟨.inr rfl, ?_⟩
  rw [Try.results178]
  cases h
  exact ⟨_, _, _, _, _, rfl, trivial, .inl ⟨rfl, .inl rfl⟩, rfl, rfl⟩
def impl_polysCode_c : ACode := (.seq (.region 0 [q 2 (.box 2 (t 0)), q 4 (.asg 0 (.const (.int .i64 0)) 2)] false) (.seq (.seq (.region 1 [q 5 (.load 2 (t 2)), q 6 (.call 0 (.func 106) [(t 5)]), q 7 (.un .not (t 6)), q 8 (.mov (t 7)), ⟨some 9, .mov (t 1), some (8, false), []⟩, ⟨some 10, .mkfn 179 [] [(t 2)], some (8, false), []⟩, ⟨some 11, .call 0 (.func 178) [(t 9), (t 10)], some (8, false), []⟩, ⟨some 12, .un .not (t 11), some (8, false), []⟩, q 13 (.pick (t 8) (.const (.bool true)) (t 12))] false) (.cond (t 13) (.seq (.region 2 [q 4 (.asg 0 (.const (.int .i64 1)) 2)] false) .ret) .skip)) (.seq (.region 3 [q 4 (.asg 0 (.const (.int .i64 0)) 2)] false) .ret)))
def impl_polysCode_L : Live := [(0, [0, 1]), (1, [1, 2]), (2, []), (3, []), (100013, [13])]
noncomputable def impl_polysCode (a0 : Int) (a1 : (List (Vec Int 64))) : Option Int :=
  (Option.bind (α := Bool) ((Option.bind (impl_isPrime a0) fun r12 => (if (!r12) then (some true) else (Option.bind (impl_areAll_impl_Poly_of_impl_polysCode_c1_p a1 a0) fun r15 => (some (!r15)))))) fun x7 => (if x7 then (some 1) else (some 0)))
theorem impl_polysCode_ok (a0 : Int) (a1 : (List (Vec Int 64))) (r : Int) (h : impl_polysCode a0 a1 = some r) : Den Try.prog 100 [(i6 a0), (eSA64u8 a1)] { r := (i6 r) } := by
  refine den_of (rs := [(i6 r)]) (ac := impl_polysCode_c) (L := impl_polysCode_L) (n := 14) (m := []) (c := Try.f100.body.getD .skip) good Try.func100 (by kernel_rfl) (by kernel_rfl) Try.ntmps100 rfl rfl (by kernel_rfl) rfl rfl ?_
  refine a_st (σ' := ⟨[(0, (i6 a0)), (1, (eSA64u8 a1))], []⟩) (by kernel_rfl) ?_
  unfold impl_polysCode_c
  refine sr (vo 1200 (i6 a0) rfl rfl (vp (i6 0) rfl (nx ⟨[(1, (eSA64u8 a1)), (2, (ow 2))], [(2, (bk (i6 a0)))]⟩ (by kernel_rfl) (a_seq ?_))))
  obtain ⟨y8, hy9, hk10⟩ := bind_some h
  clear h
  refine a_join (emb := fun (s : Bool) => ⟨[(13, (.bool s))], []⟩) (pre := fun s => s = y8) ?_ ?_
  · rintro x7 rfl
    have h := hk10
    refine a_st (σ' := ⟨[(13, (.bool x7))], []⟩) (by kernel_rfl) ?_
    cases hb17 : x7
    · have h := ite_f hb17 h
      refine a_cond_f rfl (a_skip (a_next (σ' := ⟨[], []⟩) (by kernel_rfl) (sr (vp (i6 0) rfl (nx _ rfl (a_ret ?_))))))
      refine ⟨.inr rfl, ?_⟩
      rw [Try.results100]
      cases h
      exact ⟨_, _, _, _, _, rfl, trivial, .inl ⟨rfl, .inl rfl⟩, rfl, rfl⟩
    · have h := ite_t hb17 h
      refine a_cond_t rfl (sr (vp (i6 1) rfl (nx _ rfl (a_ret (t_ret ?_)))))
      refine ⟨.inr rfl, ?_⟩
      rw [Try.results100]
      cases h
      exact ⟨_, _, _, _, _, rfl, trivial, .inl ⟨rfl, .inl rfl⟩, rfl, rfl⟩
  · have h := hy9
    refine a_region (vl (i6 a0) rfl rfl rfl rfl rfl rfl ?_)
    obtain ⟨r12, hr13, h⟩ := bind_some h
    refine a_call (args := [(i6 a0)]) (u := []) (r := (.bool r12)) rfl rfl (impl_isPrime_ok a0 r12 hr13) rfl (vp (.bool (!r12)) rfl (vp (.bool (!r12)) rfl ?_))
    cases hb14 : (!r12)
    · have h := ite_f hb14 h
      refine gp (eSA64u8 a1) rfl rfl (a_gval rfl (v := (.clo 179 [] [(.ref (i6 a0) [] [])])) (u := [(2, (bf (i6 a0)))]) rfl trivial rfl ?_)
      obtain ⟨r15, hr16, h⟩ := bind_some h
      refine a_gcall rfl (args := [(eSA64u8 a1), (.clo 179 [] [(.ref (i6 a0) [] [])])]) (u := []) (r := (.bool r15)) rfl rfl (impl_areAll_impl_Poly_of_impl_polysCode_c1_p_ok a1 a0 r15 hr16) rfl (gp (.bool (!r15)) rfl rfl (vp (.bool (!r15)) rfl (a_nil ?_)))
      exact j_leaf (!r15) (Option.some.inj h) (by kernel_rfl)
    · have h := ite_t hb14 h
      refine a_gskip rfl (a_gskip rfl (a_gskip rfl (a_gskip rfl (vp (.bool true) rfl (a_nil ?_)))))
      exact j_leaf true (Option.some.inj h) (by kernel_rfl)
def impl_quotientCode_c : ACode := (.seq (.region 0 [q 5 (.box 25 (t 1)), q 6 (.box 25 (t 2)), q 8 (.asg 0 (.const (.int .i64 0)) 2)] false) (.seq (.seq (.region 1 [q 10 (.mov (t 0)), q 11 (.load 25 (t 5)), q 12 (.load 25 (t 6)), q 13 (.bslice 0 55 2 [(0, (t 11)), (1, (t 12))]), q 14 (.call 0 (.func 100) [(t 10), (t 13)]), q 9 (.asg 0 (t 14) 2)] false) (.seq (.region 2 [q 15 (.mov (t 9)), q 16 (.bin .neq 2 (t 15) (.const (.int .i64 0)))] false) (.cond (t 16) (.seq (.region 3 [q 17 (.mov (t 9)), q 8 (.asg 0 (t 17) 2)] false) .ret) .skip))) (.seq (.block 0 (.seq (.region 4 [q 19 (.mov (t 3)), q 20 (.un .not (t 19)), q 18 (.asg 0 (t 20) 4)] false) (.cond (t 18) (.seq (.region 5 [q 8 (.asg 0 (.const (.int .i64 2)) 2)] false) .ret) (.seq (.region 6 [q 22 (.load 25 (t 6)), q 23 (.build 25 []), q 24 (.bin .eql 25 (t 22) (t 23)), q 21 (.asg 0 (t 24) 4)] false) (.cond (t 21) (.seq (.region 7 [q 8 (.asg 0 (.const (.int .i64 5)) 2)] false) .ret) .skip))))) (.seq (.region 8 [q 8 (.asg 0 (.const (.int .i64 0)) 2)] false) .ret))))
def impl_quotientCode_L : Live := [(0, [0, 1, 2, 3]), (1, [0, 3, 5, 6]), (2, [3, 6, 9]), (3, [9]), (4, [3, 6]), (5, []), (6, [6]), (7, []), (8, []), (100016, [3, 6, 9, 16]), (100018, [6, 18]), (100021, [21])]
noncomputable def impl_quotientCode (a0 : Int) (a1 : (Vec Int 64)) (a2 : (Vec Int 64)) (a3 : Bool) : Option Int :=
  (Option.bind (impl_polysCode a0 ([a1, a2])) fun r3 => (if (r3 != 0) then (some r3) else (if (!a3) then (some 2) else (if (decide (a2 = ((vrep 64 (0 : Int))))) then (some 5) else (some 0)))))
theorem impl_quotientCode_ok (a0 : Int) (a1 : (Vec Int 64)) (a2 : (Vec Int 64)) (a3 : Bool) (r : Int) (h : impl_quotientCode a0 a1 a2 a3 = some r) : Den Try.prog 138 [(i6 a0), (eA64u8 a1), (eA64u8 a2), (.bool a3)] { r := (i6 r) } := by
  refine den_of (rs := [(i6 r)]) (ac := impl_quotientCode_c) (L := impl_quotientCode_L) (n := 25) (m := []) (c := Try.f138.body.getD .skip) good Try.func138 (by kernel_rfl) (by kernel_rfl) Try.ntmps138 rfl rfl (by kernel_rfl) rfl rfl ?_
  refine a_st (σ' := ⟨[(0, (i6 a0)), (1, (eA64u8 a1)), (2, (eA64u8 a2)), (3, (.bool a3))], []⟩) (by kernel_rfl) ?_
  unfold impl_quotientCode_c
  refine sr (vo 1500 (eA64u8 a1) rfl rfl (vo 1600 (eA64u8 a2) rfl rfl (vp (i6 0) rfl (nx ⟨[(0, (i6 a0)), (3, (.bool a3)), (5, (ow 5)), (6, (ow 6))], [(5, (bk (eA64u8 a1))), (6, (bk (eA64u8 a2)))]⟩ (by kernel_rfl) (a_seq (sr (vp (i6 a0) rfl (vl (eA64u8 a1) rfl rfl rfl rfl rfl rfl (vl (eA64u8 a2) rfl rfl rfl rfl rfl rfl ?_)))))))))
  refine vq (.sl 64 true (([a1, a2]).map eA64u8)) rfl ⟨(Nat.le_of_ble_eq_true rfl), (Nat.le_of_ble_eq_true rfl), (all_cons ⟨(Nat.le_of_ble_eq_true rfl), rfl⟩ (all_cons ⟨(Nat.le_of_ble_eq_true rfl), rfl⟩ all_nil))⟩ ?_
  obtain ⟨r3, hr4, h⟩ := bind_some h
  refine a_call (args := [(i6 a0), (.sl 64 true (([a1, a2]).map eA64u8))]) (u := []) (r := (i6 r3)) rfl rfl (Den.args (impl_polysCode_ok a0 ([a1, a2]) r3 hr4) rfl rfl (.cons (.refl _) (.cons (.loose _) .nil))) rfl (vp (i6 r3) rfl (nx ⟨[(3, (.bool a3)), (6, (ow 6)), (9, (i6 r3))], [(6, (bk (eA64u8 a2)))]⟩ (by kernel_rfl) (sr (vp (i6 r3) rfl (vp (.bool (r3 != 0)) rfl (nx ⟨[(3, (.bool a3)), (6, (ow 6)), (9, (i6 r3)), (16, (.bool (r3 != 0)))], [(6, (bk (eA64u8 a2)))]⟩ (by kernel_rfl) ?_))))))
  cases hb5 : (r3 != 0)
  · have h := ite_f hb5 h
    refine a_cond_f rfl (a_skip (a_next (σ' := ⟨[(3, (.bool a3)), (6, (ow 6))], [(6, (bk (eA64u8 a2)))]⟩) (by kernel_rfl) (a_seq (a_block (sr (vp (.bool a3) rfl (vp (.bool (!a3)) rfl (vp (.bool (!a3)) rfl (nx ⟨[(6, (ow 6)), (18, (.bool (!a3)))], [(6, (bk (eA64u8 a2)))]⟩ (by kernel_rfl) ?_)))))))))
    cases hb6 : (!a3)
    · have h := ite_f hb6 h
      refine a_cond_f rfl (sr (vl (eA64u8 a2) rfl rfl rfl rfl rfl rfl (vq (eA64u8 ((vrep 64 (0 : Int)))) rfl ⟨⟨_, rfl, rfl⟩, all_nil⟩ (vq (.bool ((decide (a2 = ((vrep 64 (0 : Int))))))) (eqa_run (f := (AV.int .u8)) (a := a2.1) (b := ((vrep 64 (0 : Int))).1) rfl rfl (eqb_vec (fun _ _ => eqb_int _ _) a2 ((vrep 64 (0 : Int))))) (cmp_arr (g := 8) (f := (AV.int .u8)) (x := a2) (y := ((vrep 64 (0 : Int)))) rfl rfl rfl (fun _ _ => rfl) (fun _ _ => cmp_int rfl)) (vp (.bool ((decide (a2 = ((vrep 64 (0 : Int))))))) rfl (nx ⟨[(21, (.bool ((decide (a2 = ((vrep 64 (0 : Int))))))))], []⟩ (by kernel_rfl) ?_))))))
      cases hb8 : (decide (a2 = ((vrep 64 (0 : Int)))))
      · have h := ite_f hb8 h
        refine a_cond_f rfl (a_skip (b_norm (a_next (σ' := ⟨[], []⟩) (by kernel_rfl) (sr (vp (i6 0) rfl (nx _ rfl (a_ret ?_)))))))
        refine ⟨.inr rfl, ?_⟩
        rw [Try.results138]
        cases h
        exact ⟨_, _, _, _, _, rfl, trivial, .inl ⟨rfl, .inl rfl⟩, rfl, rfl⟩
      · have h := ite_t hb8 h
        refine a_cond_t rfl (sr (vp (i6 5) rfl (nx _ rfl (a_ret (b_ret (t_ret ?_))))))
        refine ⟨.inr rfl, ?_⟩
        rw [Try.results138]
        cases h
        exact ⟨_, _, _, _, _, rfl, trivial, .inl ⟨rfl, .inl rfl⟩, rfl, rfl⟩
    · have h := ite_t hb6 h
      refine a_cond_t rfl (sr (vp (i6 2) rfl (nx _ rfl (a_ret (b_ret (t_ret ?_))))))
      refine ⟨.inr rfl, ?_⟩
      rw [Try.results138]
      cases h
      exact ⟨_, _, _, _, _, rfl, trivial, .inl ⟨rfl, .inl rfl⟩, rfl, rfl⟩
  · have h := ite_t hb5 h
    refine a_cond_t rfl (sr (vp (i6 r3) rfl (vp (i6 r3) rfl (nx _ rfl (a_ret (t_ret ?_))))))
    refine ⟨.inr rfl, ?_⟩
    rw [Try.results138]
    cases h
    exact ⟨_, _, _, _, _, rfl, trivial, .inl ⟨rfl, .inl rfl⟩, rfl, rfl⟩
def impl_row_trimmed_c : ACode := (.seq (.region 0 [q 2 (.asg 1 (.const (.slice none 0 0)) 80)] false) (.seq (.region 1 [q 4 (.mov (t 0)), q 5 (.blt 0 .len [(t 4)] [80]), q 3 (.asg 0 (t 5) 3)] false) (.seq (.block 0 (.loop (.seq (.seq (.region 2 [q 6 (.mov (t 3)), q 7 (.bin .gtr 3 (t 6) (.const (.int .i64 0))), q 8 (.mov (t 7)), ⟨some 9, .mov (t 0), some (8, true), []⟩, ⟨some 10, .mov (t 3), some (8, true), []⟩, ⟨some 11, .bin .sub 3 (t 10) (.const (.int .i64 1)), some (8, true), []⟩, ⟨some 12, .indexAddr 80 (t 9) (t 11), some (8, true), []⟩, ⟨some 13, .load 2 (t 12), some (8, true), []⟩, ⟨some 14, .bin .eql 2 (t 13) (.const (.int .i64 0)), some (8, true), []⟩, q 15 (.pick (t 8) (t 14) (.const (.bool false)))] false) (.cond (t 15) .skip (.exit 0))) (.block 1 (.region 3 [q 16 (.mov (t 3)), q 17 (.bin .sub 3 (t 16) (.const (.int .i64 1))), q 3 (.asg 0 (t 17) 3)] false))))) (.seq (.region 4 [q 18 (.mov (t 0)), q 19 (.mov (t 3)), q 20 (.mov (t 3)), q 21 (.slice 80 (t 18) none (some (t 19)) (some (t 20))), q 2 (.asg 1 (t 21) 80)] false) .ret))))
def impl_row_trimmed_L : Live := [(0, [0]), (1, [0]), (2, [0, 3]), (3, [0, 3]), (4, [0, 3]), (100015, [0, 3, 15])]
noncomputable def impl_row_trimmed_l1 (a0 : (List Int)) (x62 : Int) : Option (Int ⊕ Int) :=
  (Option.bind (α := Bool) ((if (decide (x62 > 0)) then (ifp (0 ≤ IntKind.i64.wrap (x62 - 1) ∧ IntKind.i64.wrap (x62 - 1) < ((a0.length : Nat) : Int)) ((some ((((rd a0 (IntKind.i64.wrap (x62 - 1)).toNat)) == 0))))) else (some false))) fun x80 => (if x80 then (some (.inl (IntKind.i64.wrap (x62 - 1)))) else (some (.inr x62))))
noncomputable def impl_row_trimmed (a0 : (List Int)) : Option (List Int) :=
  (Option.bind (α := Int) ((loopM (fun s : Int => impl_row_trimmed_l1 a0 s) (a0.length : Int))) fun x43 => (ifp (0 ≤ x43 ∧ x43 ≤ (a0.length : Int)) ((some (a0.take x43.toNat)))))
theorem impl_row_trimmed_ok (a0 : (List Int)) (r : (List Int)) (h : impl_row_trimmed a0 = some r) : Den Try.prog 180 [(eSi64 a0)] { r := (eSi64 r) } := by
  refine den_of (rs := [(eSi64 r)]) (ac := impl_row_trimmed_c) (L := impl_row_trimmed_L) (n := 22) (m := [(2, 1)]) (c := Try.f180.body.getD .skip) good Try.func180 (by kernel_rfl) (by kernel_rfl) Try.ntmps180 rfl rfl (by kernel_rfl) rfl rfl ?_
  refine a_st (σ' := ⟨[(0, (eSi64 a0))], []⟩) (by kernel_rfl) ?_
  unfold impl_row_trimmed_c
  refine sr (vp (eSi64 ([])) rfl (nx ⟨[(0, (eSi64 a0))], []⟩ (by kernel_rfl) (sr (vp (eSi64 a0) rfl (vq (i6 (a0.length : Int)) (len_run rfl rfl) trivial (vp (i6 (a0.length : Int)) rfl (nx ⟨[(0, (eSi64 a0)), (3, (i6 (a0.length : Int)))], []⟩ (by kernel_rfl) ?_)))))))
  obtain ⟨y44, hy45, hk46⟩ := bind_some h
  clear h
  refine a_join (emb := fun (s : Int) => ⟨[(0, (eSi64 a0)), (3, (i6 s))], []⟩) (pre := fun s => s = y44) ?_ ?_
  · rintro x43 rfl
    have h := hk46
    refine a_st (σ' := ⟨[(0, (eSi64 a0)), (3, (i6 x43))], []⟩) (by kernel_rfl) (sr (vp (eSi64 a0) rfl (vp (i6 x43) rfl (vp (i6 x43) rfl ?_))))
    obtain ⟨hc89, h⟩ := ifp_some h
    refine vq (.sl 1 true ((a0.take x43.toNat).map (AV.int .i64))) (take3_run (f := (AV.int .i64)) (l := a0) (i := ⟨.int .i64, 1, 8, (.int .i64 0)⟩) rfl rfl rfl rfl (fun _ => rfl)) ⟨hc89.1, lmap_le hc89.2, rfl⟩ (vq (eSi64 (a0.take x43.toNat)) (asg_tight (i := ⟨.int .i64, 1, 8, (.int .i64 0)⟩) (f := (AV.int .i64)) (l := (a0.take x43.toNat)) rfl rfl rfl) trivial (nx _ rfl (a_ret ?_)))
    refine ⟨.inr rfl, ?_⟩
    rw [Try.results180]
    cases h
    exact ⟨_, _, _, _, _, rfl, trivial, .inl ⟨rfl, .inl rfl⟩, rfl, rfl⟩
  · have h := hy45
    refine a_block ?_
    refine a_loop (emb := fun (s : Int) => ⟨[(0, (eSi64 a0)), (3, (i6 s))], []⟩) (body := (fun s : Int => impl_row_trimmed_l1 a0 s)) (G := fun q => some q = some y44) h rfl ?_ (by kernel_rfl)
    rintro X74 x62 x75 h hX76
    have h : impl_row_trimmed_l1 a0 x62 = some x75 := h
    refine a_st (σ' := ⟨[(0, (eSi64 a0)), (3, (i6 x62))], []⟩) (by kernel_rfl) (a_seq ?_)
    obtain ⟨y81, hy82, hk83⟩ := bind_some h
    clear h
    refine a_join (emb := fun (s : Bool) => ⟨[(0, (eSi64 a0)), (3, (i6 x62)), (15, (.bool s))], []⟩) (pre := fun s => s = y81) ?_ ?_
    · rintro x80 rfl
      have h := hk83
      refine a_st (σ' := ⟨[(0, (eSi64 a0)), (3, (i6 x62)), (15, (.bool x80))], []⟩) (by kernel_rfl) ?_
      cases hb87 : x80
      · have h := ite_f hb87 h
        refine a_cond_f rfl (a_exit (t_exit ?_))
        cases h
        have h := hX76
        refine t_exit (b_exit ?_)
        exact j_leaf x62 (Option.some.inj h) (by kernel_rfl)
      · have h := ite_t hb87 h
        refine a_cond_t rfl (a_skip (a_next (σ' := ⟨[(0, (eSi64 a0)), (3, (i6 x62))], []⟩) (by kernel_rfl) (a_block (a_region (vp (i6 x62) rfl (vp (i6 (IntKind.i64.wrap (x62 - 1))) rfl (vp (i6 (IntKind.i64.wrap (x62 - 1))) rfl (a_nil (b_norm ?_)))))))))
        cases h
        exact a_again (by kernel_rfl) hX76
    · have h := hy82
      refine a_region (vp (i6 x62) rfl (vp (.bool ((decide (x62 > 0)))) rfl (vp (.bool ((decide (x62 > 0)))) rfl ?_)))
      cases hb84 : (decide (x62 > 0))
      · have h := ite_f hb84 h
        refine a_gskip rfl (a_gskip rfl (a_gskip rfl (a_gskip rfl (a_gskip rfl (a_gskip rfl (vp (.bool false) rfl (a_nil ?_)))))))
        exact j_leaf false (Option.some.inj h) (by kernel_rfl)
      · have h := ite_t hb84 h
        refine gp (eSi64 a0) rfl rfl (gp (i6 x62) rfl rfl (gp (i6 (IntKind.i64.wrap (x62 - 1))) rfl rfl ?_))
        obtain ⟨hc85, h⟩ := ifp_some h
        refine gq (.ref (.row 1 (a0.map (AV.int .i64))) [(IntKind.i64.wrap (x62 - 1)).toNat] [(IntKind.i64.wrap (x62 - 1)).toNat * 1]) rfl rfl (lmap hc85) ?_
        have hl86 : LdOk [(IntKind.i64.wrap (x62 - 1)).toNat] (.row 1 (a0.map (AV.int .i64))) [(IntKind.i64.wrap (x62 - 1)).toNat * 1] 1 false (i6 ((rd a0 (IntKind.i64.wrap (x62 - 1)).toNat))) := (.row (llt hc85) rfl (.nil rfl rfl rfl))
        refine gq (i6 ((rd a0 (IntKind.i64.wrap (x62 - 1)).toNat))) rfl (ld_ref (i := ⟨.int .i64, 1, 8, (.int .i64 0)⟩) rfl rfl hl86) hl86.c (gp (.bool ((((rd a0 (IntKind.i64.wrap (x62 - 1)).toNat)) == 0))) rfl rfl (vp (.bool ((((rd a0 (IntKind.i64.wrap (x62 - 1)).toNat)) == 0))) rfl (a_nil ?_)))
        exact j_leaf ((((rd a0 (IntKind.i64.wrap (x62 - 1)).toNat)) == 0)) (Option.some.inj h) (by kernel_rfl)
end Go.Proofs.Ytkbnegemdlnncaa
