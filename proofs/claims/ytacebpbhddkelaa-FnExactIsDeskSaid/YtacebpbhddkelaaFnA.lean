/- Functions of the program: plain Lean functions, and that the program computes them. Printed by gen.py. -/
import Derived.Test.YtacebpbhddkelaaFnT
namespace Go.Proofs.Ytacebpbhddkelaa
open Go.Abs Go.Proofs
set_option linter.unusedSimpArgs false
set_option linter.unusedVariables false

def spec_l01T_c : ACode := (.seq (.region 0 [⟨some 0, .alloc 23, none, []⟩] false) (.seq (.region 1 [⟨some 1, .build 23 [(0, (.const (.int .u8 0))), (1, (.const (.int .u8 1)))], none, []⟩, ⟨none, .store 23 (.tmp 0) (.tmp 1), none, []⟩] false) .ret))
def spec_l01T_L : Live := [(0, []), (1, [0])]
theorem spec_l01T_body : Try.f101.body = some (Try.f101.body.getD .skip) := by kernel_rfl
theorem spec_l01T_strip : strip [] (Try.f101.body.getD .skip) = spec_l01T_c := by kernel_rfl
noncomputable def spec_l01T  : Option (Vec Int 64) :=
  (some ((vset (vset (vrep 64 (0 : Int)) 0 0) 1 1)))
set_option maxHeartbeats 16000000 in
theorem spec_l01T_ok  (r : (Vec Int 64)) (h : spec_l01T = some r) : Den Try.prog 101 [] { r := (eA64u8 r) } := by
  refine den_of (rs := [(eA64u8 r)]) (ac := spec_l01T_c) (L := spec_l01T_L) (n := 2) (m := []) good Try.func101 spec_l01T_body (by kernel_rfl) Try.ntmps101 rfl rfl spec_l01T_strip rfl rfl ?_
  refine a_st (σ' := ⟨[], []⟩) rfl ?_
  unfold spec_l01T_c
  refine a_seq ?_
  refine a_region ?_
  refine a_val (v := (.own 1000 [] [])) (u := [(1000, some ⟨(eA64u8 ((vrep 64 (0 : Int)))), false⟩)]) rfl trivial rfl ?_
  refine a_nil ?_
  refine a_next (σ' := ⟨[(0, (.own 0 [] []))], [(0, some ⟨(eA64u8 ((vrep 64 (0 : Int)))), false⟩)]⟩) rfl ?_
  refine a_seq ?_
  refine a_region ?_
  refine a_val (v := (eA64u8 ((vset (vset (vrep 64 (0 : Int)) 0 0) 1 1)))) (u := []) rfl ⟨⟨_, rfl, rfl⟩, (all_cons ⟨(Nat.le_of_ble_eq_true rfl), rfl⟩ (all_cons ⟨(Nat.le_of_ble_eq_true rfl), rfl⟩ all_nil))⟩ rfl ?_
  have hs1 : StOk [] (eA64u8 ((vrep 64 (0 : Int)))) [] 64 (eA64u8 ((vset (vset (vrep 64 (0 : Int)) 0 0) 1 1))) (eA64u8 ((vset (vset (vrep 64 (0 : Int)) 0 0) 1 1))) := (.nil rfl rfl rfl rfl)
  refine a_val (v := .top) (u := [(0, some ⟨(eA64u8 ((vset (vset (vrep 64 (0 : Int)) 0 0) 1 1))), false⟩)]) (st_own (i := ⟨.arr 64 5, 64, 64, (eA64u8 (vrep 64 (0 : Int)))⟩) rfl rfl (fun _ => rfl) rfl hs1) (hs1.c rfl) rfl ?_
  refine a_nil ?_
  refine a_next rfl ?_
  refine a_ret ?_
  have hl2 : LdOk [] (eA64u8 ((vset (vset (vrep 64 (0 : Int)) 0 0) 1 1))) [] 64 true (eA64u8 ((vset (vset (vrep 64 (0 : Int)) 0 0) 1 1))) := (.nil rfl rfl rfl)
  refine ⟨.inr rfl, ?_⟩
  rw [Try.results101]
  cases h
  exact ⟨_, _, _, _, _, ld_own (i := ⟨.arr 64 5, 64, 64, (eA64u8 (vrep 64 (0 : Int)))⟩) rfl rfl rfl hl2, hl2.c, .inl ⟨rfl, .inl rfl⟩, rfl, rfl⟩
def spec_l01One_c : ACode := (.seq (.region 0 [⟨some 0, .alloc 23, none, []⟩] false) (.seq (.region 1 [⟨some 1, .build 23 [(0, (.const (.int .u8 1)))], none, []⟩, ⟨none, .store 23 (.tmp 0) (.tmp 1), none, []⟩] false) .ret))
def spec_l01One_L : Live := [(0, []), (1, [0])]
theorem spec_l01One_body : Try.f102.body = some (Try.f102.body.getD .skip) := by kernel_rfl
theorem spec_l01One_strip : strip [] (Try.f102.body.getD .skip) = spec_l01One_c := by kernel_rfl
noncomputable def spec_l01One  : Option (Vec Int 64) :=
  (some ((vset (vrep 64 (0 : Int)) 0 1)))
set_option maxHeartbeats 16000000 in
theorem spec_l01One_ok  (r : (Vec Int 64)) (h : spec_l01One = some r) : Den Try.prog 102 [] { r := (eA64u8 r) } := by
  refine den_of (rs := [(eA64u8 r)]) (ac := spec_l01One_c) (L := spec_l01One_L) (n := 2) (m := []) good Try.func102 spec_l01One_body (by kernel_rfl) Try.ntmps102 rfl rfl spec_l01One_strip rfl rfl ?_
  refine a_st (σ' := ⟨[], []⟩) rfl ?_
  unfold spec_l01One_c
  refine a_seq ?_
  refine a_region ?_
  refine a_val (v := (.own 1000 [] [])) (u := [(1000, some ⟨(eA64u8 ((vrep 64 (0 : Int)))), false⟩)]) rfl trivial rfl ?_
  refine a_nil ?_
  refine a_next (σ' := ⟨[(0, (.own 0 [] []))], [(0, some ⟨(eA64u8 ((vrep 64 (0 : Int)))), false⟩)]⟩) rfl ?_
  refine a_seq ?_
  refine a_region ?_
  refine a_val (v := (eA64u8 ((vset (vrep 64 (0 : Int)) 0 1)))) (u := []) rfl ⟨⟨_, rfl, rfl⟩, (all_cons ⟨(Nat.le_of_ble_eq_true rfl), rfl⟩ all_nil)⟩ rfl ?_
  have hs1 : StOk [] (eA64u8 ((vrep 64 (0 : Int)))) [] 64 (eA64u8 ((vset (vrep 64 (0 : Int)) 0 1))) (eA64u8 ((vset (vrep 64 (0 : Int)) 0 1))) := (.nil rfl rfl rfl rfl)
  refine a_val (v := .top) (u := [(0, some ⟨(eA64u8 ((vset (vrep 64 (0 : Int)) 0 1))), false⟩)]) (st_own (i := ⟨.arr 64 5, 64, 64, (eA64u8 (vrep 64 (0 : Int)))⟩) rfl rfl (fun _ => rfl) rfl hs1) (hs1.c rfl) rfl ?_
  refine a_nil ?_
  refine a_next rfl ?_
  refine a_ret ?_
  have hl2 : LdOk [] (eA64u8 ((vset (vrep 64 (0 : Int)) 0 1))) [] 64 true (eA64u8 ((vset (vrep 64 (0 : Int)) 0 1))) := (.nil rfl rfl rfl)
  refine ⟨.inr rfl, ?_⟩
  rw [Try.results102]
  cases h
  exact ⟨_, _, _, _, _, ld_own (i := ⟨.arr 64 5, 64, 64, (eA64u8 (vrep 64 (0 : Int)))⟩) rfl rfl rfl hl2, hl2.c, .inl ⟨rfl, .inl rfl⟩, rfl, rfl⟩
def spec_l11New_c : ACode := (.seq (.region 0 [⟨some 0, .alloc 25, none, []⟩] false) (.seq (.region 1 [⟨some 1, .call 0 (.func 101) [], none, []⟩, ⟨some 2, .call 0 (.func 102) [], none, []⟩, ⟨some 3, .build 23 [(0, (.const (.int .u8 1))), (1, (.const (.int .u8 0))), (2, (.const (.int .u8 1)))], none, []⟩, ⟨some 4, .build 25 [(0, (.const (.int .i64 3))), (1, (.tmp 1)), (2, (.tmp 2)), (3, (.tmp 3))], none, []⟩, ⟨none, .store 25 (.tmp 0) (.tmp 4), none, []⟩] false) .ret))
def spec_l11New_L : Live := [(0, []), (1, [0])]
theorem spec_l11New_body : Try.f50.body = some (Try.f50.body.getD .skip) := by kernel_rfl
theorem spec_l11New_strip : strip [] (Try.f50.body.getD .skip) = spec_l11New_c := by kernel_rfl
noncomputable def spec_l11New  : Option (Int × (Vec Int 64) × (Vec Int 64) × (Vec Int 64)) :=
  (Option.bind (spec_l01T) fun r1 => (Option.bind (spec_l01One) fun r3 => (letp ((3, r1, r3, (vset (vset (vset (vrep 64 (0 : Int)) 0 1) 1 0) 2 1))) fun x5 => (some x5))))
set_option maxHeartbeats 16000000 in
theorem spec_l11New_ok  (r : (Int × (Vec Int 64) × (Vec Int 64) × (Vec Int 64))) (h : spec_l11New = some r) : Den Try.prog 50 [] { r := (eT_i64_A64u8_A64u8_A64u8_Z r) } := by
  refine den_of (rs := [(eT_i64_A64u8_A64u8_A64u8_Z r)]) (ac := spec_l11New_c) (L := spec_l11New_L) (n := 5) (m := []) good Try.func50 spec_l11New_body (by kernel_rfl) Try.ntmps50 rfl rfl spec_l11New_strip rfl rfl ?_
  refine a_st (σ' := ⟨[], []⟩) rfl ?_
  unfold spec_l11New_c
  refine a_seq ?_
  refine a_region ?_
  refine a_val (v := (.own 1000 [] [])) (u := [(1000, some ⟨(eT_i64_A64u8_A64u8_A64u8_Z (((0 : Int), (vrep 64 (0 : Int)), (vrep 64 (0 : Int)), (vrep 64 (0 : Int))))), false⟩)]) rfl trivial rfl ?_
  refine a_nil ?_
  refine a_next (σ' := ⟨[(0, (.own 0 [] []))], [(0, some ⟨(eT_i64_A64u8_A64u8_A64u8_Z (((0 : Int), (vrep 64 (0 : Int)), (vrep 64 (0 : Int)), (vrep 64 (0 : Int))))), false⟩)]⟩) rfl ?_
  refine a_seq ?_
  refine a_region ?_
  obtain ⟨r1, hr2, h⟩ := bind_some h
  refine a_call (args := []) (u := []) (r := (eA64u8 r1)) rfl rfl (spec_l01T_ok r1 hr2) rfl ?_
  obtain ⟨r3, hr4, h⟩ := bind_some h
  refine a_call (args := []) (u := []) (r := (eA64u8 r3)) rfl rfl (spec_l01One_ok r3 hr4) rfl ?_
  refine a_val (v := (eA64u8 ((vset (vset (vset (vrep 64 (0 : Int)) 0 1) 1 0) 2 1)))) (u := []) rfl ⟨⟨_, rfl, rfl⟩, (all_cons ⟨(Nat.le_of_ble_eq_true rfl), rfl⟩ (all_cons ⟨(Nat.le_of_ble_eq_true rfl), rfl⟩ (all_cons ⟨(Nat.le_of_ble_eq_true rfl), rfl⟩ all_nil)))⟩ rfl ?_
  obtain ⟨x5, hx6, h⟩ := letp_some h
  refine a_val' (v := (eT_i64_A64u8_A64u8_A64u8_Z ((3, r1, r3, (vset (vset (vset (vrep 64 (0 : Int)) 0 1) 1 0) 2 1))))) (v' := (eT_i64_A64u8_A64u8_A64u8_Z x5)) (u := []) (u' := []) rfl (congrArg (fun z => ((eT_i64_A64u8_A64u8_A64u8_Z z) : AV)) hx6) rfl ⟨rfl, (all_cons ⟨(Nat.le_of_ble_eq_true rfl), rfl⟩ (all_cons ⟨(Nat.le_of_ble_eq_true rfl), rfl⟩ (all_cons ⟨(Nat.le_of_ble_eq_true rfl), rfl⟩ (all_cons ⟨(Nat.le_of_ble_eq_true rfl), rfl⟩ all_nil))))⟩ rfl ?_
  have hs7 : StOk [] (eT_i64_A64u8_A64u8_A64u8_Z (((0 : Int), (vrep 64 (0 : Int)), (vrep 64 (0 : Int)), (vrep 64 (0 : Int))))) [] 193 (eT_i64_A64u8_A64u8_A64u8_Z x5) (eT_i64_A64u8_A64u8_A64u8_Z x5) := (.nil rfl rfl rfl rfl)
  refine a_val (v := .top) (u := [(0, some ⟨(eT_i64_A64u8_A64u8_A64u8_Z x5), false⟩)]) (st_own (i := ⟨.struct [(0, 2), (1, 23), (65, 23), (129, 23)], 193, 200, (eT_i64_A64u8_A64u8_A64u8_Z ((0 : Int), (vrep 64 (0 : Int)), (vrep 64 (0 : Int)), (vrep 64 (0 : Int))))⟩) rfl rfl (fun _ => rfl) rfl hs7) (hs7.c rfl) rfl ?_
  refine a_nil ?_
  refine a_next rfl ?_
  refine a_ret ?_
  have hl8 : LdOk [] (eT_i64_A64u8_A64u8_A64u8_Z x5) [] 193 true (eT_i64_A64u8_A64u8_A64u8_Z x5) := (.nil rfl rfl rfl)
  refine ⟨.inr rfl, ?_⟩
  rw [Try.results50]
  cases h
  exact ⟨_, _, _, _, _, ld_own (i := ⟨.struct [(0, 2), (1, 23), (65, 23), (129, 23)], 193, 200, (eT_i64_A64u8_A64u8_A64u8_Z ((0 : Int), (vrep 64 (0 : Int)), (vrep 64 (0 : Int)), (vrep 64 (0 : Int))))⟩) rfl rfl rfl hl8, hl8.c, .inl ⟨rfl, .inl rfl⟩, rfl, rfl⟩
def spec_NewDesk_c : ACode := (.seq (.region 0 [⟨some 0, .alloc 25, none, []⟩] false) (.seq (.region 1 [⟨some 1, .call 0 (.func 50) [], none, []⟩, ⟨none, .store 25 (.tmp 0) (.tmp 1), none, []⟩] false) .ret))
def spec_NewDesk_L : Live := [(0, []), (1, [0])]
theorem spec_NewDesk_body : Try.f15.body = some (Try.f15.body.getD .skip) := by kernel_rfl
theorem spec_NewDesk_strip : strip [] (Try.f15.body.getD .skip) = spec_NewDesk_c := by kernel_rfl
noncomputable def spec_NewDesk  : Option (Int × (Vec Int 64) × (Vec Int 64) × (Vec Int 64)) :=
  (Option.bind (spec_l11New) fun r1 => (some r1))
set_option maxHeartbeats 16000000 in
theorem spec_NewDesk_ok  (r : (Int × (Vec Int 64) × (Vec Int 64) × (Vec Int 64))) (h : spec_NewDesk = some r) : Den Try.prog 15 [] { r := (eT_i64_A64u8_A64u8_A64u8_Z r) } := by
  refine den_of (rs := [(eT_i64_A64u8_A64u8_A64u8_Z r)]) (ac := spec_NewDesk_c) (L := spec_NewDesk_L) (n := 2) (m := []) good Try.func15 spec_NewDesk_body (by kernel_rfl) Try.ntmps15 rfl rfl spec_NewDesk_strip rfl rfl ?_
  refine a_st (σ' := ⟨[], []⟩) rfl ?_
  unfold spec_NewDesk_c
  refine a_seq ?_
  refine a_region ?_
  refine a_val (v := (.own 1000 [] [])) (u := [(1000, some ⟨(eT_i64_A64u8_A64u8_A64u8_Z (((0 : Int), (vrep 64 (0 : Int)), (vrep 64 (0 : Int)), (vrep 64 (0 : Int))))), false⟩)]) rfl trivial rfl ?_
  refine a_nil ?_
  refine a_next (σ' := ⟨[(0, (.own 0 [] []))], [(0, some ⟨(eT_i64_A64u8_A64u8_A64u8_Z (((0 : Int), (vrep 64 (0 : Int)), (vrep 64 (0 : Int)), (vrep 64 (0 : Int))))), false⟩)]⟩) rfl ?_
  refine a_seq ?_
  refine a_region ?_
  obtain ⟨r1, hr2, h⟩ := bind_some h
  refine a_call (args := []) (u := []) (r := (eT_i64_A64u8_A64u8_A64u8_Z r1)) rfl rfl (spec_l11New_ok r1 hr2) rfl ?_
  have hs3 : StOk [] (eT_i64_A64u8_A64u8_A64u8_Z (((0 : Int), (vrep 64 (0 : Int)), (vrep 64 (0 : Int)), (vrep 64 (0 : Int))))) [] 193 (eT_i64_A64u8_A64u8_A64u8_Z r1) (eT_i64_A64u8_A64u8_A64u8_Z r1) := (.nil rfl rfl rfl rfl)
  refine a_val (v := .top) (u := [(0, some ⟨(eT_i64_A64u8_A64u8_A64u8_Z r1), false⟩)]) (st_own (i := ⟨.struct [(0, 2), (1, 23), (65, 23), (129, 23)], 193, 200, (eT_i64_A64u8_A64u8_A64u8_Z ((0 : Int), (vrep 64 (0 : Int)), (vrep 64 (0 : Int)), (vrep 64 (0 : Int))))⟩) rfl rfl (fun _ => rfl) rfl hs3) (hs3.c rfl) rfl ?_
  refine a_nil ?_
  refine a_next rfl ?_
  refine a_ret ?_
  have hl4 : LdOk [] (eT_i64_A64u8_A64u8_A64u8_Z r1) [] 193 true (eT_i64_A64u8_A64u8_A64u8_Z r1) := (.nil rfl rfl rfl)
  refine ⟨.inr rfl, ?_⟩
  rw [Try.results15]
  cases h
  exact ⟨_, _, _, _, _, ld_own (i := ⟨.struct [(0, 2), (1, 23), (65, 23), (129, 23)], 193, 200, (eT_i64_A64u8_A64u8_A64u8_Z ((0 : Int), (vrep 64 (0 : Int)), (vrep 64 (0 : Int)), (vrep 64 (0 : Int))))⟩) rfl rfl rfl hl4, hl4.c, .inl ⟨rfl, .inl rfl⟩, rfl, rfl⟩
def impl_row_poly_c : ACode := (.seq (.region 0 [⟨some 2, .alloc 23, none, []⟩] false) (.seq (.region 1 [⟨some 3, .alloc 23, none, []⟩] false) (.seq (.seq (.region 2 [⟨some 6, .mov (.tmp 0), none, []⟩, ⟨some 7, .blt 0 .len [(.tmp 6)] [66], none, []⟩, ⟨some 8, .mov (.const (.int .i64 0)), none, []⟩] false) (.block 0 (.loop (.seq (.region 3 [⟨some 9, .bin .lss 3 (.tmp 8) (.tmp 7), none, []⟩] false) (.seq (.cond (.tmp 9) .skip (.exit 0)) (.seq (.block 1 (.seq (.region 4 [⟨some 10, .mov (.tmp 8), none, []⟩, ⟨some 11, .indexAddr 66 (.tmp 6) (.tmp 8), none, []⟩, ⟨some 12, .load 2 (.tmp 11), none, []⟩, ⟨some 4, .asg 0 (.tmp 10) 3, none, []⟩, ⟨some 5, .asg 0 (.tmp 12) 2, none, []⟩] false) (.region 5 [⟨some 13, .mov (.tmp 4), none, []⟩, ⟨some 14, .mov (.tmp 5), none, []⟩, ⟨some 15, .conv 2 5 (.tmp 14), none, []⟩, ⟨some 16, .indexAddr 23 (.tmp 3) (.tmp 13), none, []⟩, ⟨none, .store 5 (.tmp 16) (.tmp 15), none, []⟩] false))) (.region 6 [⟨some 17, .bin .add 3 (.tmp 8) (.const (.int .i64 1)), none, []⟩, ⟨some 8, .mov (.tmp 17), none, []⟩] false))))))) (.seq (.region 7 [⟨some 18, .load 23 (.tmp 3), none, []⟩, ⟨none, .store 23 (.tmp 2) (.tmp 18), none, []⟩] false) .ret))))
def impl_row_poly_L : Live := [(0, [0]), (1, [0, 2]), (2, [0, 2, 3]), (3, [2, 3, 6, 7, 8]), (4, [2, 3, 6, 7, 8]), (5, [2, 3, 4, 5, 6, 7, 8]), (6, [2, 3, 6, 7, 8]), (7, [2, 3]), (100009, [2, 3, 6, 7, 8, 9])]
theorem impl_row_poly_body : Try.f51.body = some (Try.f51.body.getD .skip) := by kernel_rfl
theorem impl_row_poly_strip : strip [] (Try.f51.body.getD .skip) = impl_row_poly_c := by kernel_rfl
noncomputable def impl_row_poly_l1 (a0 : (List Int)) (x31 : Int) (x32 : (Vec Int 64)) : Option ((Int × (Vec Int 64)) ⊕ (Vec Int 64)) :=
  (if (decide (x31 < (a0.length : Int))) then (ifp (0 ≤ x31 ∧ x31 < ((a0.length : Nat) : Int)) ((ifp (0 ≤ x31 ∧ x31 < ((64 : Nat) : Int)) ((some (.inl ((IntKind.i64.wrap (x31 + 1), (vset x32 x31.toNat (IntKind.u8.wrap (rd a0 x31.toNat))))))))))) else (some (.inr x32)))
noncomputable def impl_row_poly (a0 : (List Int)) : Option (Vec Int 64) :=
  (Option.bind ((loopM (fun s : (Int × (Vec Int 64)) => impl_row_poly_l1 a0 s.1 s.2) (0, (vrep 64 (0 : Int))))) fun x22 => (some x22))
set_option maxHeartbeats 16000000 in
theorem impl_row_poly_ok (a0 : (List Int)) (r : (Vec Int 64)) (h : impl_row_poly a0 = some r) : Den Try.prog 51 [(eSi64 a0)] { r := (eA64u8 r) } := by
  refine den_of (rs := [(eA64u8 r)]) (ac := impl_row_poly_c) (L := impl_row_poly_L) (n := 19) (m := []) good Try.func51 impl_row_poly_body (by kernel_rfl) Try.ntmps51 rfl rfl impl_row_poly_strip rfl rfl ?_
  refine a_st (σ' := ⟨[(0, (eSi64 a0))], []⟩) rfl ?_
  unfold impl_row_poly_c
  refine a_seq ?_
  refine a_region ?_
  refine a_val (v := (.own 1200 [] [])) (u := [(1200, some ⟨(eA64u8 ((vrep 64 (0 : Int)))), false⟩)]) rfl trivial rfl ?_
  refine a_nil ?_
  refine a_next (σ' := ⟨[(0, (eSi64 a0)), (2, (.own 2 [] []))], [(2, some ⟨(eA64u8 ((vrep 64 (0 : Int)))), false⟩)]⟩) rfl ?_
  refine a_seq ?_
  refine a_region ?_
  refine a_val (v := (.own 1300 [] [])) (u := [(1300, some ⟨(eA64u8 ((vrep 64 (0 : Int)))), false⟩)]) rfl trivial rfl ?_
  refine a_nil ?_
  refine a_next (σ' := ⟨[(0, (eSi64 a0)), (2, (.own 2 [] [])), (3, (.own 3 [] []))], [(2, some ⟨(eA64u8 ((vrep 64 (0 : Int)))), false⟩), (3, some ⟨(eA64u8 ((vrep 64 (0 : Int)))), false⟩)]⟩) rfl ?_
  obtain ⟨y23, hy24, hk25⟩ := bind_some h
  clear h
  refine a_join (emb := fun (s : (Vec Int 64)) => ⟨[(2, (.own 2 [] [])), (3, (.own 3 [] []))], [(2, some ⟨(eA64u8 ((vrep 64 (0 : Int)))), false⟩), (3, some ⟨(eA64u8 s), false⟩)]⟩) (pre := fun s => s = y23) ?_ ?_
  · rintro x22 rfl
    have h := hk25
    refine a_st (σ' := ⟨[(2, (.own 2 [] [])), (3, (.own 3 [] []))], [(2, some ⟨(eA64u8 ((vrep 64 (0 : Int)))), false⟩), (3, some ⟨(eA64u8 x22), false⟩)]⟩) rfl ?_
    refine a_seq ?_
    refine a_region ?_
    have hl47 : LdOk [] (eA64u8 x22) [] 64 true (eA64u8 x22) := (.nil rfl rfl rfl)
    refine a_val (v := (eA64u8 x22)) (u := []) (ld_own (i := ⟨.arr 64 5, 64, 64, (eA64u8 (vrep 64 (0 : Int)))⟩) rfl rfl rfl hl47) hl47.c rfl ?_
    have hs48 : StOk [] (eA64u8 ((vrep 64 (0 : Int)))) [] 64 (eA64u8 x22) (eA64u8 x22) := (.nil rfl rfl rfl rfl)
    refine a_val (v := .top) (u := [(2, some ⟨(eA64u8 x22), false⟩)]) (st_own (i := ⟨.arr 64 5, 64, 64, (eA64u8 (vrep 64 (0 : Int)))⟩) rfl rfl (fun _ => rfl) rfl hs48) (hs48.c rfl) rfl ?_
    refine a_nil ?_
    refine a_next rfl ?_
    refine a_ret ?_
    have hl49 : LdOk [] (eA64u8 x22) [] 64 true (eA64u8 x22) := (.nil rfl rfl rfl)
    refine ⟨.inr rfl, ?_⟩
    rw [Try.results51]
    cases h
    exact ⟨_, _, _, _, _, ld_own (i := ⟨.arr 64 5, 64, 64, (eA64u8 (vrep 64 (0 : Int)))⟩) rfl rfl rfl hl49, hl49.c, .inl ⟨rfl, .inl rfl⟩, rfl, rfl⟩
  · have h := hy24
    refine a_seq ?_
    refine a_region ?_
    refine a_val (v := (eSi64 a0)) (u := []) rfl trivial rfl ?_
    refine a_val (v := (.int .i64 (a0.length : Int))) (u := []) (len_run rfl rfl) trivial rfl ?_
    refine a_val (v := (.int .i64 0)) (u := []) rfl trivial rfl ?_
    refine a_nil ?_
    refine a_next (σ' := ⟨[(2, (.own 2 [] [])), (3, (.own 3 [] [])), (6, (eSi64 a0)), (7, (.int .i64 (a0.length : Int))), (8, (.int .i64 0))], [(2, some ⟨(eA64u8 ((vrep 64 (0 : Int)))), false⟩), (3, some ⟨(eA64u8 ((vrep 64 (0 : Int)))), false⟩)]⟩) rfl ?_
    refine a_block ?_
    refine a_loop (emb := fun (s : (Int × (Vec Int 64))) => ⟨[(2, (.own 2 [] [])), (3, (.own 3 [] [])), (6, (eSi64 a0)), (7, (.int .i64 (a0.length : Int))), (8, (.int .i64 s.1))], [(2, some ⟨(eA64u8 ((vrep 64 (0 : Int)))), false⟩), (3, some ⟨(eA64u8 s.2), false⟩)]⟩) (body := (fun s : (Int × (Vec Int 64)) => impl_row_poly_l1 a0 s.1 s.2)) (G := fun q => some q = some y23) h rfl ?_ rfl
    rintro X38 ⟨x31, x32⟩ x39 h hX40
    have h : impl_row_poly_l1 a0 x31 x32 = some x39 := h
    refine a_st (σ' := ⟨[(2, (.own 2 [] [])), (3, (.own 3 [] [])), (6, (eSi64 a0)), (7, (.int .i64 (a0.length : Int))), (8, (.int .i64 x31))], [(2, some ⟨(eA64u8 ((vrep 64 (0 : Int)))), false⟩), (3, some ⟨(eA64u8 x32), false⟩)]⟩) rfl ?_
    refine a_seq ?_
    refine a_region ?_
    refine a_val (v := (.bool ((decide (x31 < (a0.length : Int)))))) (u := []) rfl trivial rfl ?_
    refine a_nil ?_
    refine a_next (σ' := ⟨[(2, (.own 2 [] [])), (3, (.own 3 [] [])), (6, (eSi64 a0)), (7, (.int .i64 (a0.length : Int))), (8, (.int .i64 x31)), (9, (.bool ((decide (x31 < (a0.length : Int))))))], [(2, some ⟨(eA64u8 ((vrep 64 (0 : Int)))), false⟩), (3, some ⟨(eA64u8 x32), false⟩)]⟩) rfl ?_
    refine a_seq ?_
    cases hb41 : (decide (x31 < (a0.length : Int)))
    · have h := ite_f hb41 h
      refine a_cond_f rfl ?_
      refine a_exit ?_
      refine t_exit ?_
      cases h
      have h := hX40
      refine t_exit ?_
      refine b_exit ?_
      exact j_leaf x32 (Option.some.inj h) rfl
    · have h := ite_t hb41 h
      refine a_cond_t rfl ?_
      refine a_skip ?_
      refine a_next (σ' := ⟨[(2, (.own 2 [] [])), (3, (.own 3 [] [])), (6, (eSi64 a0)), (7, (.int .i64 (a0.length : Int))), (8, (.int .i64 x31))], [(2, some ⟨(eA64u8 ((vrep 64 (0 : Int)))), false⟩), (3, some ⟨(eA64u8 x32), false⟩)]⟩) rfl ?_
      refine a_seq ?_
      refine a_block ?_
      refine a_seq ?_
      refine a_region ?_
      refine a_val (v := (.int .i64 x31)) (u := []) rfl trivial rfl ?_
      obtain ⟨hc42, h⟩ := ifp_some h
      refine a_val (v := (.ref (.row 1 (a0.map (AV.int .i64))) [x31.toNat] [x31.toNat * 1])) (u := []) rfl (lmap hc42) rfl ?_
      have hl43 : LdOk [x31.toNat] (.row 1 (a0.map (AV.int .i64))) [x31.toNat * 1] 1 false (.int .i64 (rd a0 x31.toNat)) := (.row (llt hc42) rfl (.nil rfl rfl rfl))
      refine a_val (v := (.int .i64 (rd a0 x31.toNat))) (u := []) (ld_ref (i := ⟨.int .i64, 1, 8, (.int .i64 0)⟩) rfl rfl hl43) hl43.c rfl ?_
      refine a_val (v := (.int .i64 x31)) (u := []) rfl trivial rfl ?_
      refine a_val (v := (.int .i64 (rd a0 x31.toNat))) (u := []) rfl trivial rfl ?_
      refine a_nil ?_
      refine a_next (σ' := ⟨[(2, (.own 2 [] [])), (3, (.own 3 [] [])), (4, (.int .i64 x31)), (5, (.int .i64 (rd a0 x31.toNat))), (6, (eSi64 a0)), (7, (.int .i64 (a0.length : Int))), (8, (.int .i64 x31))], [(2, some ⟨(eA64u8 ((vrep 64 (0 : Int)))), false⟩), (3, some ⟨(eA64u8 x32), false⟩)]⟩) rfl ?_
      refine a_region ?_
      refine a_val (v := (.int .i64 x31)) (u := []) rfl trivial rfl ?_
      refine a_val (v := (.int .i64 (rd a0 x31.toNat))) (u := []) rfl trivial rfl ?_
      refine a_val (v := (.int .u8 (IntKind.u8.wrap (rd a0 x31.toNat)))) (u := []) rfl trivial rfl ?_
      obtain ⟨hc44, h⟩ := ifp_some h
      refine a_val (v := (.own 3 [x31.toNat] [x31.toNat * 1])) (u := []) rfl hc44 rfl ?_
      have hs45 : StOk [x31.toNat] (eA64u8 x32) [x31.toNat * 1] 1 (.int .u8 (IntKind.u8.wrap (rd a0 x31.toNat))) (eA64u8 ((vset x32 x31.toNat (IntKind.u8.wrap (rd a0 x31.toNat))))) := (.arr (y := IntKind.u8.wrap (rd a0 x31.toNat)) (vlt x32 hc44) rfl (.nil rfl rfl rfl rfl))
      refine a_val (v := .top) (u := [(3, some ⟨(eA64u8 ((vset x32 x31.toNat (IntKind.u8.wrap (rd a0 x31.toNat))))), false⟩)]) (st_own (i := ⟨.int .u8, 1, 1, (.int .u8 0)⟩) rfl rfl (fun _ => rfl) rfl hs45) (hs45.c rfl) rfl ?_
      refine a_nil ?_
      refine b_norm ?_
      refine a_next (σ' := ⟨[(2, (.own 2 [] [])), (3, (.own 3 [] [])), (6, (eSi64 a0)), (7, (.int .i64 (a0.length : Int))), (8, (.int .i64 x31))], [(2, some ⟨(eA64u8 ((vrep 64 (0 : Int)))), false⟩), (3, some ⟨(eA64u8 ((vset x32 x31.toNat (IntKind.u8.wrap (rd a0 x31.toNat))))), false⟩)]⟩) rfl ?_
      refine a_region ?_
      refine a_val (v := (.int .i64 (IntKind.i64.wrap (x31 + 1)))) (u := []) rfl trivial rfl ?_
      refine a_val (v := (.int .i64 (IntKind.i64.wrap (x31 + 1)))) (u := []) rfl trivial rfl ?_
      refine a_nil ?_
      cases h
      exact a_again rfl hX40
def impl_NewDesk_c : ACode := (.seq (.region 0 [⟨some 0, .alloc 25, none, []⟩] false) (.seq (.region 1 [⟨some 1, .bslice 66 2 [(0, (.const (.int .i64 0))), (1, (.const (.int .i64 1)))], none, []⟩, ⟨some 2, .call 0 (.func 51) [(.tmp 1)], none, []⟩, ⟨some 3, .bslice 66 1 [(0, (.const (.int .i64 1)))], none, []⟩, ⟨some 4, .call 0 (.func 51) [(.tmp 3)], none, []⟩, ⟨some 5, .bslice 66 3 [(0, (.const (.int .i64 1))), (1, (.const (.int .i64 0))), (2, (.const (.int .i64 1)))], none, []⟩, ⟨some 6, .call 0 (.func 51) [(.tmp 5)], none, []⟩, ⟨some 7, .build 25 [(0, (.const (.int .i64 3))), (1, (.tmp 2)), (2, (.tmp 4)), (3, (.tmp 6))], none, []⟩, ⟨none, .store 25 (.tmp 0) (.tmp 7), none, []⟩] false) .ret))
def impl_NewDesk_L : Live := [(0, []), (1, [0])]
theorem impl_NewDesk_body : Try.f16.body = some (Try.f16.body.getD .skip) := by kernel_rfl
theorem impl_NewDesk_strip : strip [] (Try.f16.body.getD .skip) = impl_NewDesk_c := by kernel_rfl
noncomputable def impl_NewDesk  : Option (Int × (Vec Int 64) × (Vec Int 64) × (Vec Int 64)) :=
  (Option.bind (impl_row_poly ([0, 1])) fun r1 => (Option.bind (impl_row_poly ([1])) fun r3 => (Option.bind (impl_row_poly ([1, 0, 1])) fun r5 => (some (3, r1, r3, r5)))))
set_option maxHeartbeats 16000000 in
theorem impl_NewDesk_ok  (r : (Int × (Vec Int 64) × (Vec Int 64) × (Vec Int 64))) (h : impl_NewDesk = some r) : Den Try.prog 16 [] { r := (eT_i64_A64u8_A64u8_A64u8_Z r) } := by
  refine den_of (rs := [(eT_i64_A64u8_A64u8_A64u8_Z r)]) (ac := impl_NewDesk_c) (L := impl_NewDesk_L) (n := 8) (m := []) good Try.func16 impl_NewDesk_body (by kernel_rfl) Try.ntmps16 rfl rfl impl_NewDesk_strip rfl rfl ?_
  refine a_st (σ' := ⟨[], []⟩) rfl ?_
  unfold impl_NewDesk_c
  refine a_seq ?_
  refine a_region ?_
  refine a_val (v := (.own 1000 [] [])) (u := [(1000, some ⟨(eT_i64_A64u8_A64u8_A64u8_Z (((0 : Int), (vrep 64 (0 : Int)), (vrep 64 (0 : Int)), (vrep 64 (0 : Int))))), false⟩)]) rfl trivial rfl ?_
  refine a_nil ?_
  refine a_next (σ' := ⟨[(0, (.own 0 [] []))], [(0, some ⟨(eT_i64_A64u8_A64u8_A64u8_Z (((0 : Int), (vrep 64 (0 : Int)), (vrep 64 (0 : Int)), (vrep 64 (0 : Int))))), false⟩)]⟩) rfl ?_
  refine a_seq ?_
  refine a_region ?_
  refine a_val (v := (.sl 1 true (([0, 1]).map (AV.int .i64)))) (u := []) rfl ⟨(Nat.le_of_ble_eq_true rfl), (Nat.le_of_ble_eq_true rfl), (all_cons ⟨(Nat.le_of_ble_eq_true rfl), rfl⟩ (all_cons ⟨(Nat.le_of_ble_eq_true rfl), rfl⟩ all_nil))⟩ rfl ?_
  obtain ⟨r1, hr2, h⟩ := bind_some h
  refine a_call (args := [(.sl 1 true (([0, 1]).map (AV.int .i64)))]) (u := []) (r := (eA64u8 r1)) rfl rfl (Den.args (impl_row_poly_ok ([0, 1]) r1 hr2) rfl rfl (.cons (.loose _) .nil)) rfl ?_
  refine a_val (v := (.sl 1 true (([1]).map (AV.int .i64)))) (u := []) rfl ⟨(Nat.le_of_ble_eq_true rfl), (Nat.le_of_ble_eq_true rfl), (all_cons ⟨(Nat.le_of_ble_eq_true rfl), rfl⟩ all_nil)⟩ rfl ?_
  obtain ⟨r3, hr4, h⟩ := bind_some h
  refine a_call (args := [(.sl 1 true (([1]).map (AV.int .i64)))]) (u := []) (r := (eA64u8 r3)) rfl rfl (Den.args (impl_row_poly_ok ([1]) r3 hr4) rfl rfl (.cons (.loose _) .nil)) rfl ?_
  refine a_val (v := (.sl 1 true (([1, 0, 1]).map (AV.int .i64)))) (u := []) rfl ⟨(Nat.le_of_ble_eq_true rfl), (Nat.le_of_ble_eq_true rfl), (all_cons ⟨(Nat.le_of_ble_eq_true rfl), rfl⟩ (all_cons ⟨(Nat.le_of_ble_eq_true rfl), rfl⟩ (all_cons ⟨(Nat.le_of_ble_eq_true rfl), rfl⟩ all_nil)))⟩ rfl ?_
  obtain ⟨r5, hr6, h⟩ := bind_some h
  refine a_call (args := [(.sl 1 true (([1, 0, 1]).map (AV.int .i64)))]) (u := []) (r := (eA64u8 r5)) rfl rfl (Den.args (impl_row_poly_ok ([1, 0, 1]) r5 hr6) rfl rfl (.cons (.loose _) .nil)) rfl ?_
  refine a_val (v := (eT_i64_A64u8_A64u8_A64u8_Z (3, r1, r3, r5))) (u := []) rfl ⟨rfl, (all_cons ⟨(Nat.le_of_ble_eq_true rfl), rfl⟩ (all_cons ⟨(Nat.le_of_ble_eq_true rfl), rfl⟩ (all_cons ⟨(Nat.le_of_ble_eq_true rfl), rfl⟩ (all_cons ⟨(Nat.le_of_ble_eq_true rfl), rfl⟩ all_nil))))⟩ rfl ?_
  have hs7 : StOk [] (eT_i64_A64u8_A64u8_A64u8_Z (((0 : Int), (vrep 64 (0 : Int)), (vrep 64 (0 : Int)), (vrep 64 (0 : Int))))) [] 193 (eT_i64_A64u8_A64u8_A64u8_Z (3, r1, r3, r5)) (eT_i64_A64u8_A64u8_A64u8_Z (3, r1, r3, r5)) := (.nil rfl rfl rfl rfl)
  refine a_val (v := .top) (u := [(0, some ⟨(eT_i64_A64u8_A64u8_A64u8_Z (3, r1, r3, r5)), false⟩)]) (st_own (i := ⟨.struct [(0, 2), (1, 23), (65, 23), (129, 23)], 193, 200, (eT_i64_A64u8_A64u8_A64u8_Z ((0 : Int), (vrep 64 (0 : Int)), (vrep 64 (0 : Int)), (vrep 64 (0 : Int))))⟩) rfl rfl (fun _ => rfl) rfl hs7) (hs7.c rfl) rfl ?_
  refine a_nil ?_
  refine a_next rfl ?_
  refine a_ret ?_
  have hl8 : LdOk [] (eT_i64_A64u8_A64u8_A64u8_Z (3, r1, r3, r5)) [] 193 true (eT_i64_A64u8_A64u8_A64u8_Z (3, r1, r3, r5)) := (.nil rfl rfl rfl)
  refine ⟨.inr rfl, ?_⟩
  rw [Try.results16]
  cases h
  exact ⟨_, _, _, _, _, ld_own (i := ⟨.struct [(0, 2), (1, 23), (65, 23), (129, 23)], 193, 200, (eT_i64_A64u8_A64u8_A64u8_Z ((0 : Int), (vrep 64 (0 : Int)), (vrep 64 (0 : Int)), (vrep 64 (0 : Int))))⟩) rfl rfl rfl hl8, hl8.c, .inl ⟨rfl, .inl rfl⟩, rfl, rfl⟩
def laws_eqPoly_c : ACode := (.seq (.region 0 [⟨some 2, .box 23 (.tmp 0), none, []⟩, ⟨some 3, .box 23 (.tmp 1), none, []⟩, ⟨some 4, .asg 0 (.const (.bool false)) 4, none, []⟩] false) (.seq (.seq (.region 1 [⟨some 5, .asg 0 (.const (.int .i64 0)) 3, none, []⟩] false) (.block 0 (.loop (.seq (.seq (.region 2 [⟨some 6, .mov (.tmp 5), none, []⟩, ⟨some 7, .bin .lss 3 (.tmp 6) (.const (.int .i64 64)), none, []⟩] false) (.cond (.tmp 7) .skip (.exit 0))) (.seq (.block 1 (.seq (.region 4 [⟨some 10, .mov (.tmp 5), none, []⟩, ⟨some 11, .indexAddr 23 (.tmp 2) (.tmp 10), none, [0]⟩, ⟨some 12, .load 5 (.tmp 11), none, [1]⟩, ⟨some 13, .mov (.tmp 5), none, []⟩, ⟨some 14, .indexAddr 23 (.tmp 3) (.tmp 13), none, [3]⟩, ⟨some 15, .load 5 (.tmp 14), none, [4]⟩, ⟨some 16, .bin .neq 5 (.tmp 12) (.tmp 15), none, [2, 5]⟩] true) (.cond (.tmp 16) (.seq (.region 5 [⟨some 4, .asg 0 (.const (.bool false)) 4, none, []⟩] false) .ret) .skip))) (.region 3 [⟨some 8, .mov (.tmp 5), none, []⟩, ⟨some 9, .bin .add 3 (.tmp 8) (.const (.int .i64 1)), none, []⟩, ⟨some 5, .asg 0 (.tmp 9) 3, none, []⟩] false)))))) (.seq (.region 6 [⟨some 4, .asg 0 (.const (.bool true)) 4, none, []⟩] false) .ret)))
def laws_eqPoly_L : Live := [(0, [0, 1]), (1, [2, 3]), (2, [2, 3, 5]), (3, [2, 3, 5]), (4, [2, 3, 5]), (5, []), (6, []), (100007, [2, 3, 5, 7]), (100016, [2, 3, 5, 16])]
theorem laws_eqPoly_body : Try.f22.body = some (Try.f22.body.getD .skip) := by kernel_rfl
theorem laws_eqPoly_strip : strip [] (Try.f22.body.getD .skip) = laws_eqPoly_c := by kernel_rfl
noncomputable def laws_eqPoly_l1 (a0 : (Vec Int 64)) (a1 : (Vec Int 64)) (x49 : Int) : Option (Int ⊕ (Unit ⊕ Bool)) :=
  (if (decide (x49 < 64)) then (ifp (0 ≤ x49 ∧ x49 < ((64 : Nat) : Int)) ((ifp (0 ≤ x49 ∧ x49 < ((64 : Nat) : Int)) ((if ((rd a0.1 x49.toNat) != (rd a1.1 x49.toNat)) then (some (.inr (.inr false))) else (some (.inl (IntKind.i64.wrap (x49 + 1))))))))) else (some (.inr (((.inl ()))))))
noncomputable def laws_eqPoly (a0 : (Vec Int 64)) (a1 : (Vec Int 64)) : Option Bool :=
  (Option.bind ((loopM (fun s : Int => laws_eqPoly_l1 a0 a1 s) 0)) fun z => match z with | .inl _ => (some true) | .inr r74 => (some r74))
set_option maxHeartbeats 16000000 in
theorem laws_eqPoly_ok (a0 : (Vec Int 64)) (a1 : (Vec Int 64)) (r : Bool) (h : laws_eqPoly a0 a1 = some r) : Den Try.prog 22 [(eA64u8 a0), (eA64u8 a1)] { r := (.bool r) } := by
  refine den_of (rs := [(.bool r)]) (ac := laws_eqPoly_c) (L := laws_eqPoly_L) (n := 17) (m := []) good Try.func22 laws_eqPoly_body (by kernel_rfl) Try.ntmps22 rfl rfl laws_eqPoly_strip rfl rfl ?_
  refine a_st (σ' := ⟨[(0, (eA64u8 a0)), (1, (eA64u8 a1))], []⟩) rfl ?_
  unfold laws_eqPoly_c
  refine a_seq ?_
  refine a_region ?_
  refine a_val (v := (.own 1200 [] [])) (u := [(1200, some ⟨(eA64u8 a0), false⟩)]) rfl trivial rfl ?_
  refine a_val (v := (.own 1300 [] [])) (u := [(1300, some ⟨(eA64u8 a1), false⟩)]) rfl trivial rfl ?_
  refine a_val (v := (.bool false)) (u := []) rfl trivial rfl ?_
  refine a_nil ?_
  refine a_next (σ' := ⟨[(2, (.own 2 [] [])), (3, (.own 3 [] []))], [(2, some ⟨(eA64u8 a0), false⟩), (3, some ⟨(eA64u8 a1), false⟩)]⟩) rfl ?_
  obtain ⟨y36, hy37, hk38⟩ := bind_some h
  clear h
  refine a_join (emb := fun (s : Unit) => ⟨[], []⟩) (pre := fun s => (.inl s) = y36) ?_ ?_
  · rintro _ rfl
    have h := hk38
    refine a_st (σ' := ⟨[], []⟩) rfl ?_
    refine a_seq ?_
    refine a_region ?_
    refine a_val (v := (.bool true)) (u := []) rfl trivial rfl ?_
    refine a_nil ?_
    refine a_next rfl ?_
    refine a_ret ?_
    refine ⟨.inr rfl, ?_⟩
    rw [Try.results22]
    cases h
    exact ⟨_, _, _, _, _, rfl, trivial, .inl ⟨rfl, .inl rfl⟩, rfl, rfl⟩
  · have h := hy37
    refine a_seq ?_
    refine a_region ?_
    refine a_val (v := (.int .i64 0)) (u := []) rfl trivial rfl ?_
    refine a_nil ?_
    refine a_next (σ' := ⟨[(2, (.own 2 [] [])), (3, (.own 3 [] [])), (5, (.int .i64 0))], [(2, some ⟨(eA64u8 a0), false⟩), (3, some ⟨(eA64u8 a1), false⟩)]⟩) rfl ?_
    refine a_block ?_
    refine a_loop (emb := fun (s : Int) => ⟨[(2, (.own 2 [] [])), (3, (.own 3 [] [])), (5, (.int .i64 s))], [(2, some ⟨(eA64u8 a0), false⟩), (3, some ⟨(eA64u8 a1), false⟩)]⟩) (body := (fun s : Int => laws_eqPoly_l1 a0 a1 s)) (G := fun q => some q = some y36) h rfl ?_ rfl
    rintro X60 x49 x61 h hX62
    have h : laws_eqPoly_l1 a0 a1 x49 = some x61 := h
    refine a_st (σ' := ⟨[(2, (.own 2 [] [])), (3, (.own 3 [] [])), (5, (.int .i64 x49))], [(2, some ⟨(eA64u8 a0), false⟩), (3, some ⟨(eA64u8 a1), false⟩)]⟩) rfl ?_
    refine a_seq ?_
    refine a_seq ?_
    refine a_region ?_
    refine a_val (v := (.int .i64 x49)) (u := []) rfl trivial rfl ?_
    refine a_val (v := (.bool ((decide (x49 < 64))))) (u := []) rfl trivial rfl ?_
    refine a_nil ?_
    refine a_next (σ' := ⟨[(2, (.own 2 [] [])), (3, (.own 3 [] [])), (5, (.int .i64 x49)), (7, (.bool ((decide (x49 < 64)))))], [(2, some ⟨(eA64u8 a0), false⟩), (3, some ⟨(eA64u8 a1), false⟩)]⟩) rfl ?_
    cases hb63 : (decide (x49 < 64))
    · have h := ite_f hb63 h
      refine a_cond_f rfl ?_
      refine a_exit ?_
      refine t_exit ?_
      cases h
      have h := hX62
      refine t_exit ?_
      refine b_exit ?_
      exact j_leaf () (Option.some.inj h) rfl
    · have h := ite_t hb63 h
      refine a_cond_t rfl ?_
      refine a_skip ?_
      refine a_next (σ' := ⟨[(2, (.own 2 [] [])), (3, (.own 3 [] [])), (5, (.int .i64 x49))], [(2, some ⟨(eA64u8 a0), false⟩), (3, some ⟨(eA64u8 a1), false⟩)]⟩) rfl ?_
      refine a_seq ?_
      refine a_block ?_
      refine a_seq ?_
      refine a_draw [⟨[], [], [], []⟩, ⟨[2], [], [2], [0]⟩, ⟨[2], [], [], [0, 1]⟩, ⟨[], [], [], []⟩, ⟨[3], [], [3], [3]⟩, ⟨[3], [], [], [3, 4]⟩, ⟨[], [], [], [0, 1, 2, 3, 4, 5]⟩] (by kernel_rfl) ?_
      refine d_cons ?_
      refine a_val (v := (.int .i64 x49)) (u := []) rfl trivial rfl ?_
      refine d_next rfl ?_
      refine d_cons ?_
      obtain ⟨hc68, h⟩ := ifp_some h
      refine a_val (v := (.own 2 [x49.toNat] [x49.toNat * 1])) (u := []) rfl hc68 rfl ?_
      refine d_next rfl ?_
      refine d_cons ?_
      have hl69 : LdOk [x49.toNat] (eA64u8 a0) [x49.toNat * 1] 1 false (.int .u8 (rd a0.1 x49.toNat)) := (.arr (vlt a0 hc68) rfl (.nil rfl rfl rfl))
      refine a_val (v := (.int .u8 (rd a0.1 x49.toNat))) (u := []) (ld_own (i := ⟨.int .u8, 1, 1, (.int .u8 0)⟩) rfl rfl rfl hl69) hl69.c rfl ?_
      refine d_next rfl ?_
      refine d_cons ?_
      refine a_val (v := (.int .i64 x49)) (u := []) rfl trivial rfl ?_
      refine d_next rfl ?_
      refine d_cons ?_
      obtain ⟨hc70, h⟩ := ifp_some h
      refine a_val (v := (.own 3 [x49.toNat] [x49.toNat * 1])) (u := []) rfl hc70 rfl ?_
      refine d_next rfl ?_
      refine d_cons ?_
      have hl71 : LdOk [x49.toNat] (eA64u8 a1) [x49.toNat * 1] 1 false (.int .u8 (rd a1.1 x49.toNat)) := (.arr (vlt a1 hc70) rfl (.nil rfl rfl rfl))
      refine a_val (v := (.int .u8 (rd a1.1 x49.toNat))) (u := []) (ld_own (i := ⟨.int .u8, 1, 1, (.int .u8 0)⟩) rfl rfl rfl hl71) hl71.c rfl ?_
      refine d_next rfl ?_
      refine d_cons ?_
      refine a_val (v := (.bool (((rd a0.1 x49.toNat) != (rd a1.1 x49.toNat))))) (u := []) rfl trivial rfl ?_
      refine d_next rfl ?_
      refine d_nil ?_
      refine a_next (σ' := ⟨[(2, (.own 2 [] [])), (3, (.own 3 [] [])), (5, (.int .i64 x49)), (16, (.bool (((rd a0.1 x49.toNat) != (rd a1.1 x49.toNat)))))], [(2, some ⟨(eA64u8 a0), false⟩), (3, some ⟨(eA64u8 a1), false⟩)]⟩) rfl ?_
      cases hb72 : ((rd a0.1 x49.toNat) != (rd a1.1 x49.toNat))
      · have h := ite_f hb72 h
        refine a_cond_f rfl ?_
        refine a_skip ?_
        refine b_norm ?_
        refine a_next (σ' := ⟨[(2, (.own 2 [] [])), (3, (.own 3 [] [])), (5, (.int .i64 x49))], [(2, some ⟨(eA64u8 a0), false⟩), (3, some ⟨(eA64u8 a1), false⟩)]⟩) rfl ?_
        refine a_region ?_
        refine a_val (v := (.int .i64 x49)) (u := []) rfl trivial rfl ?_
        refine a_val (v := (.int .i64 (IntKind.i64.wrap (x49 + 1)))) (u := []) rfl trivial rfl ?_
        refine a_val (v := (.int .i64 (IntKind.i64.wrap (x49 + 1)))) (u := []) rfl trivial rfl ?_
        refine a_nil ?_
        cases h
        exact a_again rfl hX62
      · have h := ite_t hb72 h
        refine a_cond_t rfl ?_
        refine a_seq ?_
        refine a_region ?_
        refine a_val (v := (.bool false)) (u := []) rfl trivial rfl ?_
        refine a_nil ?_
        refine a_next rfl ?_
        refine a_ret ?_
        refine b_ret ?_
        refine t_ret ?_
        cases h
        have h := hX62
        refine t_ret ?_
        refine b_ret ?_
        refine t_ret ?_
        cases h
        have h := hk38
        refine ⟨.inr rfl, ?_⟩
        rw [Try.results22]
        cases h
        exact ⟨_, _, _, _, _, rfl, trivial, .inl ⟨rfl, .inl rfl⟩, rfl, rfl⟩
def laws_eqDesk_c : ACode := (.seq (.region 0 [⟨some 2, .box 25 (.tmp 0), none, []⟩, ⟨some 3, .box 25 (.tmp 1), none, []⟩, ⟨some 4, .asg 0 (.const (.bool false)) 4, none, []⟩] false) (.seq (.seq (.region 1 [⟨some 5, .fieldAddr 25 (.tmp 2) 0, none, []⟩, ⟨some 6, .load 2 (.tmp 5), none, []⟩, ⟨some 7, .fieldAddr 25 (.tmp 3) 0, none, []⟩, ⟨some 8, .load 2 (.tmp 7), none, []⟩, ⟨some 9, .bin .neq 2 (.tmp 6) (.tmp 8), none, []⟩] false) (.cond (.tmp 9) (.seq (.region 2 [⟨some 4, .asg 0 (.const (.bool false)) 4, none, []⟩] false) .ret) .skip)) (.seq (.seq (.region 3 [⟨some 10, .fieldAddr 25 (.tmp 2) 1, none, []⟩, ⟨some 11, .load 23 (.tmp 10), none, []⟩, ⟨some 12, .fieldAddr 25 (.tmp 3) 1, none, []⟩, ⟨some 13, .load 23 (.tmp 12), none, []⟩, ⟨some 14, .call 0 (.func 22) [(.tmp 11), (.tmp 13)], none, []⟩, ⟨some 15, .un .not (.tmp 14), none, []⟩] false) (.cond (.tmp 15) (.seq (.region 4 [⟨some 4, .asg 0 (.const (.bool false)) 4, none, []⟩] false) .ret) .skip)) (.seq (.seq (.region 5 [⟨some 16, .fieldAddr 25 (.tmp 2) 2, none, []⟩, ⟨some 17, .load 23 (.tmp 16), none, []⟩, ⟨some 18, .fieldAddr 25 (.tmp 3) 2, none, []⟩, ⟨some 19, .load 23 (.tmp 18), none, []⟩, ⟨some 20, .call 0 (.func 22) [(.tmp 17), (.tmp 19)], none, []⟩, ⟨some 21, .un .not (.tmp 20), none, []⟩] false) (.cond (.tmp 21) (.seq (.region 6 [⟨some 4, .asg 0 (.const (.bool false)) 4, none, []⟩] false) .ret) .skip)) (.seq (.seq (.region 7 [⟨some 22, .fieldAddr 25 (.tmp 2) 3, none, []⟩, ⟨some 23, .load 23 (.tmp 22), none, []⟩, ⟨some 24, .fieldAddr 25 (.tmp 3) 3, none, []⟩, ⟨some 25, .load 23 (.tmp 24), none, []⟩, ⟨some 26, .call 0 (.func 22) [(.tmp 23), (.tmp 25)], none, []⟩, ⟨some 27, .un .not (.tmp 26), none, []⟩] false) (.cond (.tmp 27) (.seq (.region 8 [⟨some 4, .asg 0 (.const (.bool false)) 4, none, []⟩] false) .ret) .skip)) (.seq (.region 9 [⟨some 4, .asg 0 (.const (.bool true)) 4, none, []⟩] false) .ret))))))
def laws_eqDesk_L : Live := [(0, [0, 1]), (1, [2, 3]), (2, []), (3, [2, 3]), (4, []), (5, [2, 3]), (6, []), (7, [2, 3]), (8, []), (9, []), (100009, [2, 3, 9]), (100015, [2, 3, 15]), (100021, [2, 3, 21]), (100027, [27])]
theorem laws_eqDesk_body : Try.f17.body = some (Try.f17.body.getD .skip) := by kernel_rfl
theorem laws_eqDesk_strip : strip [] (Try.f17.body.getD .skip) = laws_eqDesk_c := by kernel_rfl
noncomputable def laws_eqDesk (a0 : (Int × (Vec Int 64) × (Vec Int 64) × (Vec Int 64))) (a1 : (Int × (Vec Int 64) × (Vec Int 64) × (Vec Int 64))) : Option Bool :=
  (if (a0.1 != a1.1) then (some false) else (Option.bind (laws_eqPoly a0.2.1 a1.2.1) fun r6 => (if (!r6) then (some false) else (Option.bind (laws_eqPoly a0.2.2.1 a1.2.2.1) fun r11 => (if (!r11) then (some false) else (Option.bind (laws_eqPoly a0.2.2.2 a1.2.2.2) fun r16 => (if (!r16) then (some false) else (some true))))))))
set_option maxHeartbeats 16000000 in
theorem laws_eqDesk_ok (a0 : (Int × (Vec Int 64) × (Vec Int 64) × (Vec Int 64))) (a1 : (Int × (Vec Int 64) × (Vec Int 64) × (Vec Int 64))) (r : Bool) (h : laws_eqDesk a0 a1 = some r) : Den Try.prog 17 [(eT_i64_A64u8_A64u8_A64u8_Z a0), (eT_i64_A64u8_A64u8_A64u8_Z a1)] { r := (.bool r) } := by
  refine den_of (rs := [(.bool r)]) (ac := laws_eqDesk_c) (L := laws_eqDesk_L) (n := 28) (m := []) good Try.func17 laws_eqDesk_body (by kernel_rfl) Try.ntmps17 rfl rfl laws_eqDesk_strip rfl rfl ?_
  refine a_st (σ' := ⟨[(0, (eT_i64_A64u8_A64u8_A64u8_Z a0)), (1, (eT_i64_A64u8_A64u8_A64u8_Z a1))], []⟩) rfl ?_
  unfold laws_eqDesk_c
  refine a_seq ?_
  refine a_region ?_
  refine a_val (v := (.own 1200 [] [])) (u := [(1200, some ⟨(eT_i64_A64u8_A64u8_A64u8_Z a0), false⟩)]) rfl trivial rfl ?_
  refine a_val (v := (.own 1300 [] [])) (u := [(1300, some ⟨(eT_i64_A64u8_A64u8_A64u8_Z a1), false⟩)]) rfl trivial rfl ?_
  refine a_val (v := (.bool false)) (u := []) rfl trivial rfl ?_
  refine a_nil ?_
  refine a_next (σ' := ⟨[(2, (.own 2 [] [])), (3, (.own 3 [] []))], [(2, some ⟨(eT_i64_A64u8_A64u8_A64u8_Z a0), false⟩), (3, some ⟨(eT_i64_A64u8_A64u8_A64u8_Z a1), false⟩)]⟩) rfl ?_
  refine a_seq ?_
  refine a_seq ?_
  refine a_region ?_
  refine a_val (v := (.own 2 [0] [0])) (u := []) rfl (Nat.le_of_ble_eq_true rfl) rfl ?_
  have hl1 : LdOk [0] (eT_i64_A64u8_A64u8_A64u8_Z a0) [0] 1 false (.int .i64 a0.1) := (.fld rfl rfl rfl rfl (.nil rfl rfl rfl))
  refine a_val (v := (.int .i64 a0.1)) (u := []) (ld_own (i := ⟨.int .i64, 1, 8, (.int .i64 0)⟩) rfl rfl rfl hl1) hl1.c rfl ?_
  refine a_val (v := (.own 3 [0] [0])) (u := []) rfl (Nat.le_of_ble_eq_true rfl) rfl ?_
  have hl2 : LdOk [0] (eT_i64_A64u8_A64u8_A64u8_Z a1) [0] 1 false (.int .i64 a1.1) := (.fld rfl rfl rfl rfl (.nil rfl rfl rfl))
  refine a_val (v := (.int .i64 a1.1)) (u := []) (ld_own (i := ⟨.int .i64, 1, 8, (.int .i64 0)⟩) rfl rfl rfl hl2) hl2.c rfl ?_
  refine a_val (v := (.bool (a0.1 != a1.1))) (u := []) rfl trivial rfl ?_
  refine a_nil ?_
  refine a_next (σ' := ⟨[(2, (.own 2 [] [])), (3, (.own 3 [] [])), (9, (.bool (a0.1 != a1.1)))], [(2, some ⟨(eT_i64_A64u8_A64u8_A64u8_Z a0), false⟩), (3, some ⟨(eT_i64_A64u8_A64u8_A64u8_Z a1), false⟩)]⟩) rfl ?_
  cases hb3 : (a0.1 != a1.1)
  · have h := ite_f hb3 h
    refine a_cond_f rfl ?_
    refine a_skip ?_
    refine a_next (σ' := ⟨[(2, (.own 2 [] [])), (3, (.own 3 [] []))], [(2, some ⟨(eT_i64_A64u8_A64u8_A64u8_Z a0), false⟩), (3, some ⟨(eT_i64_A64u8_A64u8_A64u8_Z a1), false⟩)]⟩) rfl ?_
    refine a_seq ?_
    refine a_seq ?_
    refine a_region ?_
    refine a_val (v := (.own 2 [1] [1])) (u := []) rfl (Nat.le_of_ble_eq_true rfl) rfl ?_
    have hl4 : LdOk [1] (eT_i64_A64u8_A64u8_A64u8_Z a0) [1] 64 true (eA64u8 a0.2.1) := (.fld rfl rfl rfl rfl (.nil rfl rfl rfl))
    refine a_val (v := (eA64u8 a0.2.1)) (u := []) (ld_own (i := ⟨.arr 64 5, 64, 64, (eA64u8 (vrep 64 (0 : Int)))⟩) rfl rfl rfl hl4) hl4.c rfl ?_
    refine a_val (v := (.own 3 [1] [1])) (u := []) rfl (Nat.le_of_ble_eq_true rfl) rfl ?_
    have hl5 : LdOk [1] (eT_i64_A64u8_A64u8_A64u8_Z a1) [1] 64 true (eA64u8 a1.2.1) := (.fld rfl rfl rfl rfl (.nil rfl rfl rfl))
    refine a_val (v := (eA64u8 a1.2.1)) (u := []) (ld_own (i := ⟨.arr 64 5, 64, 64, (eA64u8 (vrep 64 (0 : Int)))⟩) rfl rfl rfl hl5) hl5.c rfl ?_
    obtain ⟨r6, hr7, h⟩ := bind_some h
    refine a_call (args := [(eA64u8 a0.2.1), (eA64u8 a1.2.1)]) (u := []) (r := (.bool r6)) rfl rfl (laws_eqPoly_ok a0.2.1 a1.2.1 r6 hr7) rfl ?_
    refine a_val (v := (.bool (!r6))) (u := []) rfl trivial rfl ?_
    refine a_nil ?_
    refine a_next (σ' := ⟨[(2, (.own 2 [] [])), (3, (.own 3 [] [])), (15, (.bool (!r6)))], [(2, some ⟨(eT_i64_A64u8_A64u8_A64u8_Z a0), false⟩), (3, some ⟨(eT_i64_A64u8_A64u8_A64u8_Z a1), false⟩)]⟩) rfl ?_
    cases hb8 : (!r6)
    · have h := ite_f hb8 h
      refine a_cond_f rfl ?_
      refine a_skip ?_
      refine a_next (σ' := ⟨[(2, (.own 2 [] [])), (3, (.own 3 [] []))], [(2, some ⟨(eT_i64_A64u8_A64u8_A64u8_Z a0), false⟩), (3, some ⟨(eT_i64_A64u8_A64u8_A64u8_Z a1), false⟩)]⟩) rfl ?_
      refine a_seq ?_
      refine a_seq ?_
      refine a_region ?_
      refine a_val (v := (.own 2 [2] [65])) (u := []) rfl (Nat.le_of_ble_eq_true rfl) rfl ?_
      have hl9 : LdOk [2] (eT_i64_A64u8_A64u8_A64u8_Z a0) [65] 64 true (eA64u8 a0.2.2.1) := (.fld rfl rfl rfl rfl (.nil rfl rfl rfl))
      refine a_val (v := (eA64u8 a0.2.2.1)) (u := []) (ld_own (i := ⟨.arr 64 5, 64, 64, (eA64u8 (vrep 64 (0 : Int)))⟩) rfl rfl rfl hl9) hl9.c rfl ?_
      refine a_val (v := (.own 3 [2] [65])) (u := []) rfl (Nat.le_of_ble_eq_true rfl) rfl ?_
      have hl10 : LdOk [2] (eT_i64_A64u8_A64u8_A64u8_Z a1) [65] 64 true (eA64u8 a1.2.2.1) := (.fld rfl rfl rfl rfl (.nil rfl rfl rfl))
      refine a_val (v := (eA64u8 a1.2.2.1)) (u := []) (ld_own (i := ⟨.arr 64 5, 64, 64, (eA64u8 (vrep 64 (0 : Int)))⟩) rfl rfl rfl hl10) hl10.c rfl ?_
      obtain ⟨r11, hr12, h⟩ := bind_some h
      refine a_call (args := [(eA64u8 a0.2.2.1), (eA64u8 a1.2.2.1)]) (u := []) (r := (.bool r11)) rfl rfl (laws_eqPoly_ok a0.2.2.1 a1.2.2.1 r11 hr12) rfl ?_
      refine a_val (v := (.bool (!r11))) (u := []) rfl trivial rfl ?_
      refine a_nil ?_
      refine a_next (σ' := ⟨[(2, (.own 2 [] [])), (3, (.own 3 [] [])), (21, (.bool (!r11)))], [(2, some ⟨(eT_i64_A64u8_A64u8_A64u8_Z a0), false⟩), (3, some ⟨(eT_i64_A64u8_A64u8_A64u8_Z a1), false⟩)]⟩) rfl ?_
      cases hb13 : (!r11)
      · have h := ite_f hb13 h
        refine a_cond_f rfl ?_
        refine a_skip ?_
        refine a_next (σ' := ⟨[(2, (.own 2 [] [])), (3, (.own 3 [] []))], [(2, some ⟨(eT_i64_A64u8_A64u8_A64u8_Z a0), false⟩), (3, some ⟨(eT_i64_A64u8_A64u8_A64u8_Z a1), false⟩)]⟩) rfl ?_
        refine a_seq ?_
        refine a_seq ?_
        refine a_region ?_
        refine a_val (v := (.own 2 [3] [129])) (u := []) rfl (Nat.le_of_ble_eq_true rfl) rfl ?_
        have hl14 : LdOk [3] (eT_i64_A64u8_A64u8_A64u8_Z a0) [129] 64 true (eA64u8 a0.2.2.2) := (.fld rfl rfl rfl rfl (.nil rfl rfl rfl))
        refine a_val (v := (eA64u8 a0.2.2.2)) (u := []) (ld_own (i := ⟨.arr 64 5, 64, 64, (eA64u8 (vrep 64 (0 : Int)))⟩) rfl rfl rfl hl14) hl14.c rfl ?_
        refine a_val (v := (.own 3 [3] [129])) (u := []) rfl (Nat.le_of_ble_eq_true rfl) rfl ?_
        have hl15 : LdOk [3] (eT_i64_A64u8_A64u8_A64u8_Z a1) [129] 64 true (eA64u8 a1.2.2.2) := (.fld rfl rfl rfl rfl (.nil rfl rfl rfl))
        refine a_val (v := (eA64u8 a1.2.2.2)) (u := []) (ld_own (i := ⟨.arr 64 5, 64, 64, (eA64u8 (vrep 64 (0 : Int)))⟩) rfl rfl rfl hl15) hl15.c rfl ?_
        obtain ⟨r16, hr17, h⟩ := bind_some h
        refine a_call (args := [(eA64u8 a0.2.2.2), (eA64u8 a1.2.2.2)]) (u := []) (r := (.bool r16)) rfl rfl (laws_eqPoly_ok a0.2.2.2 a1.2.2.2 r16 hr17) rfl ?_
        refine a_val (v := (.bool (!r16))) (u := []) rfl trivial rfl ?_
        refine a_nil ?_
        refine a_next (σ' := ⟨[(27, (.bool (!r16)))], []⟩) rfl ?_
        cases hb18 : (!r16)
        · have h := ite_f hb18 h
          refine a_cond_f rfl ?_
          refine a_skip ?_
          refine a_next (σ' := ⟨[], []⟩) rfl ?_
          refine a_seq ?_
          refine a_region ?_
          refine a_val (v := (.bool true)) (u := []) rfl trivial rfl ?_
          refine a_nil ?_
          refine a_next rfl ?_
          refine a_ret ?_
          refine ⟨.inr rfl, ?_⟩
          rw [Try.results17]
          cases h
          exact ⟨_, _, _, _, _, rfl, trivial, .inl ⟨rfl, .inl rfl⟩, rfl, rfl⟩
        · have h := ite_t hb18 h
          refine a_cond_t rfl ?_
          refine a_seq ?_
          refine a_region ?_
          refine a_val (v := (.bool false)) (u := []) rfl trivial rfl ?_
          refine a_nil ?_
          refine a_next rfl ?_
          refine a_ret ?_
          refine t_ret ?_
          refine ⟨.inr rfl, ?_⟩
          rw [Try.results17]
          cases h
          exact ⟨_, _, _, _, _, rfl, trivial, .inl ⟨rfl, .inl rfl⟩, rfl, rfl⟩
      · have h := ite_t hb13 h
        refine a_cond_t rfl ?_
        refine a_seq ?_
        refine a_region ?_
        refine a_val (v := (.bool false)) (u := []) rfl trivial rfl ?_
        refine a_nil ?_
        refine a_next rfl ?_
        refine a_ret ?_
        refine t_ret ?_
        refine ⟨.inr rfl, ?_⟩
        rw [Try.results17]
        cases h
        exact ⟨_, _, _, _, _, rfl, trivial, .inl ⟨rfl, .inl rfl⟩, rfl, rfl⟩
    · have h := ite_t hb8 h
      refine a_cond_t rfl ?_
      refine a_seq ?_
      refine a_region ?_
      refine a_val (v := (.bool false)) (u := []) rfl trivial rfl ?_
      refine a_nil ?_
      refine a_next rfl ?_
      refine a_ret ?_
      refine t_ret ?_
      refine ⟨.inr rfl, ?_⟩
      rw [Try.results17]
      cases h
      exact ⟨_, _, _, _, _, rfl, trivial, .inl ⟨rfl, .inl rfl⟩, rfl, rfl⟩
  · have h := ite_t hb3 h
    refine a_cond_t rfl ?_
    refine a_seq ?_
    refine a_region ?_
    refine a_val (v := (.bool false)) (u := []) rfl trivial rfl ?_
    refine a_nil ?_
    refine a_next rfl ?_
    refine a_ret ?_
    refine t_ret ?_
    refine ⟨.inr rfl, ?_⟩
    rw [Try.results17]
    cases h
    exact ⟨_, _, _, _, _, rfl, trivial, .inl ⟨rfl, .inl rfl⟩, rfl, rfl⟩
def laws_FnExactNewDesk_c : ACode := (.seq (.region 0 [⟨some 0, .asg 0 (.const (.bool false)) 4, none, []⟩] false) (.seq (.region 1 [⟨some 3, .call 0 (.func 15) [], none, []⟩, ⟨some 1, .alloc 25, none, []⟩, ⟨none, .store 25 (.tmp 1) (.tmp 3), none, []⟩] false) (.seq (.region 2 [⟨some 4, .call 0 (.func 16) [], none, []⟩, ⟨some 2, .alloc 25, none, []⟩, ⟨none, .store 25 (.tmp 2) (.tmp 4), none, []⟩] false) (.seq (.seq (.region 3 [⟨some 5, .load 25 (.tmp 2), none, []⟩, ⟨some 6, .load 25 (.tmp 1), none, []⟩, ⟨some 7, .call 0 (.func 17) [(.tmp 5), (.tmp 6)], none, []⟩, ⟨some 8, .un .not (.tmp 7), none, []⟩] false) (.cond (.tmp 8) (.seq (.region 4 [⟨some 0, .asg 0 (.const (.bool false)) 4, none, []⟩] false) .ret) .skip)) (.seq (.region 5 [⟨some 0, .asg 0 (.const (.bool true)) 4, none, []⟩] false) .ret)))))
def laws_FnExactNewDesk_L : Live := [(0, []), (1, []), (2, [1]), (3, [1, 2]), (4, []), (5, []), (100008, [8])]
theorem laws_FnExactNewDesk_body : Try.f3.body = some (Try.f3.body.getD .skip) := by kernel_rfl
theorem laws_FnExactNewDesk_strip : strip [] (Try.f3.body.getD .skip) = laws_FnExactNewDesk_c := by kernel_rfl
noncomputable def laws_FnExactNewDesk  : Option Bool :=
  (Option.bind (spec_NewDesk) fun r1 => (Option.bind (impl_NewDesk) fun r4 => (Option.bind (laws_eqDesk r4 r1) fun r9 => (if (!r9) then (some false) else (some true)))))
set_option maxHeartbeats 16000000 in
theorem laws_FnExactNewDesk_ok  (r : Bool) (h : laws_FnExactNewDesk = some r) : Den Try.prog 3 [] { r := (.bool r) } := by
  refine den_of (rs := [(.bool r)]) (ac := laws_FnExactNewDesk_c) (L := laws_FnExactNewDesk_L) (n := 9) (m := []) good Try.func3 laws_FnExactNewDesk_body (by kernel_rfl) Try.ntmps3 rfl rfl laws_FnExactNewDesk_strip rfl rfl ?_
  refine a_st (σ' := ⟨[], []⟩) rfl ?_
  unfold laws_FnExactNewDesk_c
  refine a_seq ?_
  refine a_region ?_
  refine a_val (v := (.bool false)) (u := []) rfl trivial rfl ?_
  refine a_nil ?_
  refine a_next (σ' := ⟨[], []⟩) rfl ?_
  refine a_seq ?_
  refine a_region ?_
  obtain ⟨r1, hr2, h⟩ := bind_some h
  refine a_call (args := []) (u := []) (r := (eT_i64_A64u8_A64u8_A64u8_Z r1)) rfl rfl (spec_NewDesk_ok r1 hr2) rfl ?_
  refine a_val (v := (.own 1100 [] [])) (u := [(1100, some ⟨(eT_i64_A64u8_A64u8_A64u8_Z (((0 : Int), (vrep 64 (0 : Int)), (vrep 64 (0 : Int)), (vrep 64 (0 : Int))))), false⟩)]) rfl trivial rfl ?_
  have hs3 : StOk [] (eT_i64_A64u8_A64u8_A64u8_Z (((0 : Int), (vrep 64 (0 : Int)), (vrep 64 (0 : Int)), (vrep 64 (0 : Int))))) [] 193 (eT_i64_A64u8_A64u8_A64u8_Z r1) (eT_i64_A64u8_A64u8_A64u8_Z r1) := (.nil rfl rfl rfl rfl)
  refine a_val (v := .top) (u := [(1100, some ⟨(eT_i64_A64u8_A64u8_A64u8_Z r1), false⟩)]) (st_own (i := ⟨.struct [(0, 2), (1, 23), (65, 23), (129, 23)], 193, 200, (eT_i64_A64u8_A64u8_A64u8_Z ((0 : Int), (vrep 64 (0 : Int)), (vrep 64 (0 : Int)), (vrep 64 (0 : Int))))⟩) rfl rfl (fun _ => rfl) rfl hs3) (hs3.c rfl) rfl ?_
  refine a_nil ?_
  refine a_next (σ' := ⟨[(1, (.own 1 [] []))], [(1, some ⟨(eT_i64_A64u8_A64u8_A64u8_Z r1), false⟩)]⟩) rfl ?_
  refine a_seq ?_
  refine a_region ?_
  obtain ⟨r4, hr5, h⟩ := bind_some h
  refine a_call (args := []) (u := []) (r := (eT_i64_A64u8_A64u8_A64u8_Z r4)) rfl rfl (impl_NewDesk_ok r4 hr5) rfl ?_
  refine a_val (v := (.own 1200 [] [])) (u := [(1200, some ⟨(eT_i64_A64u8_A64u8_A64u8_Z (((0 : Int), (vrep 64 (0 : Int)), (vrep 64 (0 : Int)), (vrep 64 (0 : Int))))), false⟩)]) rfl trivial rfl ?_
  have hs6 : StOk [] (eT_i64_A64u8_A64u8_A64u8_Z (((0 : Int), (vrep 64 (0 : Int)), (vrep 64 (0 : Int)), (vrep 64 (0 : Int))))) [] 193 (eT_i64_A64u8_A64u8_A64u8_Z r4) (eT_i64_A64u8_A64u8_A64u8_Z r4) := (.nil rfl rfl rfl rfl)
  refine a_val (v := .top) (u := [(1200, some ⟨(eT_i64_A64u8_A64u8_A64u8_Z r4), false⟩)]) (st_own (i := ⟨.struct [(0, 2), (1, 23), (65, 23), (129, 23)], 193, 200, (eT_i64_A64u8_A64u8_A64u8_Z ((0 : Int), (vrep 64 (0 : Int)), (vrep 64 (0 : Int)), (vrep 64 (0 : Int))))⟩) rfl rfl (fun _ => rfl) rfl hs6) (hs6.c rfl) rfl ?_
  refine a_nil ?_
  refine a_next (σ' := ⟨[(1, (.own 1 [] [])), (2, (.own 2 [] []))], [(1, some ⟨(eT_i64_A64u8_A64u8_A64u8_Z r1), false⟩), (2, some ⟨(eT_i64_A64u8_A64u8_A64u8_Z r4), false⟩)]⟩) rfl ?_
  refine a_seq ?_
  refine a_seq ?_
  refine a_region ?_
  have hl7 : LdOk [] (eT_i64_A64u8_A64u8_A64u8_Z r4) [] 193 true (eT_i64_A64u8_A64u8_A64u8_Z r4) := (.nil rfl rfl rfl)
  refine a_val (v := (eT_i64_A64u8_A64u8_A64u8_Z r4)) (u := []) (ld_own (i := ⟨.struct [(0, 2), (1, 23), (65, 23), (129, 23)], 193, 200, (eT_i64_A64u8_A64u8_A64u8_Z ((0 : Int), (vrep 64 (0 : Int)), (vrep 64 (0 : Int)), (vrep 64 (0 : Int))))⟩) rfl rfl rfl hl7) hl7.c rfl ?_
  have hl8 : LdOk [] (eT_i64_A64u8_A64u8_A64u8_Z r1) [] 193 true (eT_i64_A64u8_A64u8_A64u8_Z r1) := (.nil rfl rfl rfl)
  refine a_val (v := (eT_i64_A64u8_A64u8_A64u8_Z r1)) (u := []) (ld_own (i := ⟨.struct [(0, 2), (1, 23), (65, 23), (129, 23)], 193, 200, (eT_i64_A64u8_A64u8_A64u8_Z ((0 : Int), (vrep 64 (0 : Int)), (vrep 64 (0 : Int)), (vrep 64 (0 : Int))))⟩) rfl rfl rfl hl8) hl8.c rfl ?_
  obtain ⟨r9, hr10, h⟩ := bind_some h
  refine a_call (args := [(eT_i64_A64u8_A64u8_A64u8_Z r4), (eT_i64_A64u8_A64u8_A64u8_Z r1)]) (u := []) (r := (.bool r9)) rfl rfl (laws_eqDesk_ok r4 r1 r9 hr10) rfl ?_
  refine a_val (v := (.bool (!r9))) (u := []) rfl trivial rfl ?_
  refine a_nil ?_
  refine a_next (σ' := ⟨[(8, (.bool (!r9)))], []⟩) rfl ?_
  cases hb11 : (!r9)
  · have h := ite_f hb11 h
    refine a_cond_f rfl ?_
    refine a_skip ?_
    refine a_next (σ' := ⟨[], []⟩) rfl ?_
    refine a_seq ?_
    refine a_region ?_
    refine a_val (v := (.bool true)) (u := []) rfl trivial rfl ?_
    refine a_nil ?_
    refine a_next rfl ?_
    refine a_ret ?_
    refine ⟨.inr rfl, ?_⟩
    rw [Try.results3]
    cases h
    exact ⟨_, _, _, _, _, rfl, trivial, .inl ⟨rfl, .inl rfl⟩, rfl, rfl⟩
  · have h := ite_t hb11 h
    refine a_cond_t rfl ?_
    refine a_seq ?_
    refine a_region ?_
    refine a_val (v := (.bool false)) (u := []) rfl trivial rfl ?_
    refine a_nil ?_
    refine a_next rfl ?_
    refine a_ret ?_
    refine t_ret ?_
    refine ⟨.inr rfl, ?_⟩
    rw [Try.results3]
    cases h
    exact ⟨_, _, _, _, _, rfl, trivial, .inl ⟨rfl, .inl rfl⟩, rfl, rfl⟩
def spec_l01Prime_c : ACode := (.seq (.region 0 [⟨some 2, .asg 0 (.const (.bool false)) 4, none, []⟩] false) (.seq (.region 1 [⟨some 3, .mov (.tmp 0), none, []⟩, ⟨some 4, .bin .eql 2 (.tmp 3) (.const (.int .i64 2)), none, []⟩, ⟨some 5, .mov (.tmp 4), none, []⟩, ⟨some 6, .mov (.tmp 0), some (5, false), []⟩, ⟨some 7, .bin .eql 2 (.tmp 6) (.const (.int .i64 3)), some (5, false), []⟩, ⟨some 8, .pick (.tmp 5) (.const (.bool true)) (.tmp 7), none, []⟩, ⟨some 9, .mov (.tmp 8), none, []⟩, ⟨some 10, .mov (.tmp 0), some (9, false), []⟩, ⟨some 11, .bin .eql 2 (.tmp 10) (.const (.int .i64 5)), some (9, false), []⟩, ⟨some 12, .pick (.tmp 9) (.const (.bool true)) (.tmp 11), none, []⟩, ⟨some 13, .mov (.tmp 12), none, []⟩, ⟨some 14, .mov (.tmp 0), some (13, false), []⟩, ⟨some 15, .bin .eql 2 (.tmp 14) (.const (.int .i64 7)), some (13, false), []⟩, ⟨some 16, .pick (.tmp 13) (.const (.bool true)) (.tmp 15), none, []⟩, ⟨some 2, .asg 0 (.tmp 16) 4, none, []⟩] false) .ret))
def spec_l01Prime_L : Live := [(0, [0]), (1, [0])]
theorem spec_l01Prime_body : Try.f56.body = some (Try.f56.body.getD .skip) := by kernel_rfl
theorem spec_l01Prime_strip : strip [] (Try.f56.body.getD .skip) = spec_l01Prime_c := by kernel_rfl
noncomputable def spec_l01Prime (a0 : Int) : Option Bool :=
  (if (a0 == 2) then (some true) else (if (a0 == 3) then (some true) else (if (a0 == 5) then (some true) else (some (a0 == 7)))))
set_option maxHeartbeats 16000000 in
theorem spec_l01Prime_ok (a0 : Int) (r : Bool) (h : spec_l01Prime a0 = some r) : Den Try.prog 56 [(.int .i64 a0)] { r := (.bool r) } := by
  refine den_of (rs := [(.bool r)]) (ac := spec_l01Prime_c) (L := spec_l01Prime_L) (n := 17) (m := []) good Try.func56 spec_l01Prime_body (by kernel_rfl) Try.ntmps56 rfl rfl spec_l01Prime_strip rfl rfl ?_
  refine a_st (σ' := ⟨[(0, (.int .i64 a0))], []⟩) rfl ?_
  unfold spec_l01Prime_c
  refine a_seq ?_
  refine a_region ?_
  refine a_val (v := (.bool false)) (u := []) rfl trivial rfl ?_
  refine a_nil ?_
  refine a_next (σ' := ⟨[(0, (.int .i64 a0))], []⟩) rfl ?_
  refine a_seq ?_
  refine a_region ?_
  refine a_val (v := (.int .i64 a0)) (u := []) rfl trivial rfl ?_
  refine a_val (v := (.bool (a0 == 2))) (u := []) rfl trivial rfl ?_
  refine a_val (v := (.bool (a0 == 2))) (u := []) rfl trivial rfl ?_
  cases hb1 : (a0 == 2)
  · have h := ite_f hb1 h
    refine a_gval rfl (v := (.int .i64 a0)) (u := []) rfl trivial rfl ?_
    refine a_gval rfl (v := (.bool (a0 == 3))) (u := []) rfl trivial rfl ?_
    refine a_val (v := (.bool (a0 == 3))) (u := []) rfl trivial rfl ?_
    refine a_val (v := (.bool (a0 == 3))) (u := []) rfl trivial rfl ?_
    cases hb2 : (a0 == 3)
    · have h := ite_f hb2 h
      refine a_gval rfl (v := (.int .i64 a0)) (u := []) rfl trivial rfl ?_
      refine a_gval rfl (v := (.bool (a0 == 5))) (u := []) rfl trivial rfl ?_
      refine a_val (v := (.bool (a0 == 5))) (u := []) rfl trivial rfl ?_
      refine a_val (v := (.bool (a0 == 5))) (u := []) rfl trivial rfl ?_
      cases hb3 : (a0 == 5)
      · have h := ite_f hb3 h
        refine a_gval rfl (v := (.int .i64 a0)) (u := []) rfl trivial rfl ?_
        refine a_gval rfl (v := (.bool (a0 == 7))) (u := []) rfl trivial rfl ?_
        refine a_val (v := (.bool (a0 == 7))) (u := []) rfl trivial rfl ?_
        refine a_val (v := (.bool (a0 == 7))) (u := []) rfl trivial rfl ?_
        refine a_nil ?_
        refine a_next rfl ?_
        refine a_ret ?_
        refine ⟨.inr rfl, ?_⟩
        rw [Try.results56]
        cases h
        exact ⟨_, _, _, _, _, rfl, trivial, .inl ⟨rfl, .inl rfl⟩, rfl, rfl⟩
      · have h := ite_t hb3 h
        refine a_gskip rfl ?_
        refine a_gskip rfl ?_
        refine a_val (v := (.bool true)) (u := []) rfl trivial rfl ?_
        refine a_val (v := (.bool true)) (u := []) rfl trivial rfl ?_
        refine a_nil ?_
        refine a_next rfl ?_
        refine a_ret ?_
        refine ⟨.inr rfl, ?_⟩
        rw [Try.results56]
        cases h
        exact ⟨_, _, _, _, _, rfl, trivial, .inl ⟨rfl, .inl rfl⟩, rfl, rfl⟩
    · have h := ite_t hb2 h
      refine a_gskip rfl ?_
      refine a_gskip rfl ?_
      refine a_val (v := (.bool true)) (u := []) rfl trivial rfl ?_
      refine a_val (v := (.bool true)) (u := []) rfl trivial rfl ?_
      refine a_gskip rfl ?_
      refine a_gskip rfl ?_
      refine a_val (v := (.bool true)) (u := []) rfl trivial rfl ?_
      refine a_val (v := (.bool true)) (u := []) rfl trivial rfl ?_
      refine a_nil ?_
      refine a_next rfl ?_
      refine a_ret ?_
      refine ⟨.inr rfl, ?_⟩
      rw [Try.results56]
      cases h
      exact ⟨_, _, _, _, _, rfl, trivial, .inl ⟨rfl, .inl rfl⟩, rfl, rfl⟩
  · have h := ite_t hb1 h
    refine a_gskip rfl ?_
    refine a_gskip rfl ?_
    refine a_val (v := (.bool true)) (u := []) rfl trivial rfl ?_
    refine a_val (v := (.bool true)) (u := []) rfl trivial rfl ?_
    refine a_gskip rfl ?_
    refine a_gskip rfl ?_
    refine a_val (v := (.bool true)) (u := []) rfl trivial rfl ?_
    refine a_val (v := (.bool true)) (u := []) rfl trivial rfl ?_
    refine a_gskip rfl ?_
    refine a_gskip rfl ?_
    refine a_val (v := (.bool true)) (u := []) rfl trivial rfl ?_
    refine a_val (v := (.bool true)) (u := []) rfl trivial rfl ?_
    refine a_nil ?_
    refine a_next rfl ?_
    refine a_ret ?_
    refine ⟨.inr rfl, ?_⟩
    rw [Try.results56]
    cases h
    exact ⟨_, _, _, _, _, rfl, trivial, .inl ⟨rfl, .inl rfl⟩, rfl, rfl⟩
def spec_l01In_c : ACode := (.seq (.region 0 [⟨some 6, .asg 0 (.const (.bool false)) 4, none, []⟩] false) (.seq (.region 1 [⟨some 7, .mov (.tmp 0), none, []⟩, ⟨some 8, .mov (.tmp 1), none, []⟩, ⟨some 9, .bin .geq 2 (.tmp 7) (.tmp 8), none, []⟩, ⟨some 10, .mov (.tmp 9), none, []⟩, ⟨some 11, .mov (.tmp 0), some (10, true), []⟩, ⟨some 12, .mov (.tmp 2), some (10, true), []⟩, ⟨some 13, .bin .leq 2 (.tmp 11) (.tmp 12), some (10, true), []⟩, ⟨some 14, .pick (.tmp 10) (.tmp 13) (.const (.bool false)), none, []⟩, ⟨some 6, .asg 0 (.tmp 14) 4, none, []⟩] false) .ret))
def spec_l01In_L : Live := [(0, [0, 1, 2]), (1, [0, 1, 2])]
theorem spec_l01In_body : Try.f57.body = some (Try.f57.body.getD .skip) := by kernel_rfl
theorem spec_l01In_strip : strip [] (Try.f57.body.getD .skip) = spec_l01In_c := by kernel_rfl
noncomputable def spec_l01In (a0 : Int) (a1 : Int) (a2 : Int) : Option Bool :=
  (if (decide (a0 ≥ a1)) then (some ((decide (a0 ≤ a2)))) else (some false))
set_option maxHeartbeats 16000000 in
theorem spec_l01In_ok (a0 : Int) (a1 : Int) (a2 : Int) (r : Bool) (h : spec_l01In a0 a1 a2 = some r) : Den Try.prog 57 [(.int .i64 a0), (.int .i64 a1), (.int .i64 a2)] { r := (.bool r) } := by
  refine den_of (rs := [(.bool r)]) (ac := spec_l01In_c) (L := spec_l01In_L) (n := 15) (m := []) good Try.func57 spec_l01In_body (by kernel_rfl) Try.ntmps57 rfl rfl spec_l01In_strip rfl rfl ?_
  refine a_st (σ' := ⟨[(0, (.int .i64 a0)), (1, (.int .i64 a1)), (2, (.int .i64 a2))], []⟩) rfl ?_
  unfold spec_l01In_c
  refine a_seq ?_
  refine a_region ?_
  refine a_val (v := (.bool false)) (u := []) rfl trivial rfl ?_
  refine a_nil ?_
  refine a_next (σ' := ⟨[(0, (.int .i64 a0)), (1, (.int .i64 a1)), (2, (.int .i64 a2))], []⟩) rfl ?_
  refine a_seq ?_
  refine a_region ?_
  refine a_val (v := (.int .i64 a0)) (u := []) rfl trivial rfl ?_
  refine a_val (v := (.int .i64 a1)) (u := []) rfl trivial rfl ?_
  refine a_val (v := (.bool ((decide (a0 ≥ a1))))) (u := []) rfl trivial rfl ?_
  refine a_val (v := (.bool ((decide (a0 ≥ a1))))) (u := []) rfl trivial rfl ?_
  cases hb1 : (decide (a0 ≥ a1))
  · have h := ite_f hb1 h
    refine a_gskip rfl ?_
    refine a_gskip rfl ?_
    refine a_gskip rfl ?_
    refine a_val (v := (.bool false)) (u := []) rfl trivial rfl ?_
    refine a_val (v := (.bool false)) (u := []) rfl trivial rfl ?_
    refine a_nil ?_
    refine a_next rfl ?_
    refine a_ret ?_
    refine ⟨.inr rfl, ?_⟩
    rw [Try.results57]
    cases h
    exact ⟨_, _, _, _, _, rfl, trivial, .inl ⟨rfl, .inl rfl⟩, rfl, rfl⟩
  · have h := ite_t hb1 h
    refine a_gval rfl (v := (.int .i64 a0)) (u := []) rfl trivial rfl ?_
    refine a_gval rfl (v := (.int .i64 a2)) (u := []) rfl trivial rfl ?_
    refine a_gval rfl (v := (.bool ((decide (a0 ≤ a2))))) (u := []) rfl trivial rfl ?_
    refine a_val (v := (.bool ((decide (a0 ≤ a2))))) (u := []) rfl trivial rfl ?_
    refine a_val (v := (.bool ((decide (a0 ≤ a2))))) (u := []) rfl trivial rfl ?_
    refine a_nil ?_
    refine a_next rfl ?_
    refine a_ret ?_
    refine ⟨.inr rfl, ?_⟩
    rw [Try.results57]
    cases h
    exact ⟨_, _, _, _, _, rfl, trivial, .inl ⟨rfl, .inl rfl⟩, rfl, rfl⟩
def spec_l04Range_c : ACode := (.seq (.region 0 [⟨some 8, .asg 0 (.const (.int .i64 0)) 2, none, []⟩] false) (.seq (.block 0 (.seq (.region 1 [⟨some 10, .mov (.tmp 0), none, []⟩, ⟨some 11, .call 0 (.func 56) [(.tmp 10)], none, []⟩, ⟨some 12, .un .not (.tmp 11), none, []⟩, ⟨some 9, .asg 0 (.tmp 12) 4, none, []⟩] false) (.cond (.tmp 9) (.seq (.region 2 [⟨some 8, .asg 0 (.const (.int .i64 1)) 2, none, []⟩] false) .ret) (.seq (.region 3 [⟨some 14, .mov (.tmp 1), none, []⟩, ⟨some 15, .mov (.tmp 2), none, []⟩, ⟨some 16, .mov (.tmp 3), none, []⟩, ⟨some 17, .call 0 (.func 57) [(.tmp 14), (.tmp 15), (.tmp 16)], none, []⟩, ⟨some 18, .un .not (.tmp 17), none, []⟩, ⟨some 13, .asg 0 (.tmp 18) 4, none, []⟩] false) (.cond (.tmp 13) (.seq (.region 4 [⟨some 8, .asg 0 (.const (.int .i64 2)) 2, none, []⟩] false) .ret) .skip))))) (.seq (.region 5 [⟨some 8, .asg 0 (.const (.int .i64 0)) 2, none, []⟩] false) .ret)))
def spec_l04Range_L : Live := [(0, [0, 1, 2, 3]), (1, [0, 1, 2, 3]), (2, []), (3, [1, 2, 3]), (4, []), (5, []), (100009, [1, 2, 3, 9]), (100013, [13])]
theorem spec_l04Range_body : Try.f52.body = some (Try.f52.body.getD .skip) := by kernel_rfl
theorem spec_l04Range_strip : strip [] (Try.f52.body.getD .skip) = spec_l04Range_c := by kernel_rfl
noncomputable def spec_l04Range (a0 : Int) (a1 : Int) (a2 : Int) (a3 : Int) : Option Int :=
  (Option.bind (spec_l01Prime a0) fun r1 => (if (!r1) then (some 1) else (Option.bind (spec_l01In a1 a2 a3) fun r4 => (if (!r4) then (some 2) else (some 0)))))
set_option maxHeartbeats 16000000 in
theorem spec_l04Range_ok (a0 : Int) (a1 : Int) (a2 : Int) (a3 : Int) (r : Int) (h : spec_l04Range a0 a1 a2 a3 = some r) : Den Try.prog 52 [(.int .i64 a0), (.int .i64 a1), (.int .i64 a2), (.int .i64 a3)] { r := (.int .i64 r) } := by
  refine den_of (rs := [(.int .i64 r)]) (ac := spec_l04Range_c) (L := spec_l04Range_L) (n := 19) (m := []) good Try.func52 spec_l04Range_body (by kernel_rfl) Try.ntmps52 rfl rfl spec_l04Range_strip rfl rfl ?_
  refine a_st (σ' := ⟨[(0, (.int .i64 a0)), (1, (.int .i64 a1)), (2, (.int .i64 a2)), (3, (.int .i64 a3))], []⟩) rfl ?_
  unfold spec_l04Range_c
  refine a_seq ?_
  refine a_region ?_
  refine a_val (v := (.int .i64 0)) (u := []) rfl trivial rfl ?_
  refine a_nil ?_
  refine a_next (σ' := ⟨[(0, (.int .i64 a0)), (1, (.int .i64 a1)), (2, (.int .i64 a2)), (3, (.int .i64 a3))], []⟩) rfl ?_
  refine a_seq ?_
  refine a_block ?_
  refine a_seq ?_
  refine a_region ?_
  refine a_val (v := (.int .i64 a0)) (u := []) rfl trivial rfl ?_
  obtain ⟨r1, hr2, h⟩ := bind_some h
  refine a_call (args := [(.int .i64 a0)]) (u := []) (r := (.bool r1)) rfl rfl (spec_l01Prime_ok a0 r1 hr2) rfl ?_
  refine a_val (v := (.bool (!r1))) (u := []) rfl trivial rfl ?_
  refine a_val (v := (.bool (!r1))) (u := []) rfl trivial rfl ?_
  refine a_nil ?_
  refine a_next (σ' := ⟨[(1, (.int .i64 a1)), (2, (.int .i64 a2)), (3, (.int .i64 a3)), (9, (.bool (!r1)))], []⟩) rfl ?_
  cases hb3 : (!r1)
  · have h := ite_f hb3 h
    refine a_cond_f rfl ?_
    refine a_seq ?_
    refine a_region ?_
    refine a_val (v := (.int .i64 a1)) (u := []) rfl trivial rfl ?_
    refine a_val (v := (.int .i64 a2)) (u := []) rfl trivial rfl ?_
    refine a_val (v := (.int .i64 a3)) (u := []) rfl trivial rfl ?_
    obtain ⟨r4, hr5, h⟩ := bind_some h
    refine a_call (args := [(.int .i64 a1), (.int .i64 a2), (.int .i64 a3)]) (u := []) (r := (.bool r4)) rfl rfl (spec_l01In_ok a1 a2 a3 r4 hr5) rfl ?_
    refine a_val (v := (.bool (!r4))) (u := []) rfl trivial rfl ?_
    refine a_val (v := (.bool (!r4))) (u := []) rfl trivial rfl ?_
    refine a_nil ?_
    refine a_next (σ' := ⟨[(13, (.bool (!r4)))], []⟩) rfl ?_
    cases hb6 : (!r4)
    · have h := ite_f hb6 h
      refine a_cond_f rfl ?_
      refine a_skip ?_
      refine b_norm ?_
      refine a_next (σ' := ⟨[], []⟩) rfl ?_
      refine a_seq ?_
      refine a_region ?_
      refine a_val (v := (.int .i64 0)) (u := []) rfl trivial rfl ?_
      refine a_nil ?_
      refine a_next rfl ?_
      refine a_ret ?_
      refine ⟨.inr rfl, ?_⟩
      rw [Try.results52]
      cases h
      exact ⟨_, _, _, _, _, rfl, trivial, .inl ⟨rfl, .inl rfl⟩, rfl, rfl⟩
    · have h := ite_t hb6 h
      refine a_cond_t rfl ?_
      refine a_seq ?_
      refine a_region ?_
      refine a_val (v := (.int .i64 2)) (u := []) rfl trivial rfl ?_
      refine a_nil ?_
      refine a_next rfl ?_
      refine a_ret ?_
      refine b_ret ?_
      refine t_ret ?_
      refine ⟨.inr rfl, ?_⟩
      rw [Try.results52]
      cases h
      exact ⟨_, _, _, _, _, rfl, trivial, .inl ⟨rfl, .inl rfl⟩, rfl, rfl⟩
  · have h := ite_t hb3 h
    refine a_cond_t rfl ?_
    refine a_seq ?_
    refine a_region ?_
    refine a_val (v := (.int .i64 1)) (u := []) rfl trivial rfl ?_
    refine a_nil ?_
    refine a_next rfl ?_
    refine a_ret ?_
    refine b_ret ?_
    refine t_ret ?_
    refine ⟨.inr rfl, ?_⟩
    rw [Try.results52]
    cases h
    exact ⟨_, _, _, _, _, rfl, trivial, .inl ⟨rfl, .inl rfl⟩, rfl, rfl⟩
def spec_l08Digits_c : ACode := (.seq (.region 0 [⟨some 4, .asg 0 (.const (.int .i64 0)) 2, none, []⟩] false) (.seq (.region 1 [⟨some 5, .asg 0 (.const (.int .i64 0)) 2, none, []⟩] false) (.seq (.block 0 (.loop (.seq (.seq (.region 2 [⟨some 6, .mov (.tmp 1), none, []⟩, ⟨some 7, .bin .gtr 2 (.tmp 6) (.const (.int .i64 0)), none, []⟩] false) (.cond (.tmp 7) .skip (.exit 0))) (.seq (.block 1 (.region 4 [⟨some 11, .mov (.tmp 5), none, []⟩, ⟨some 12, .mov (.tmp 1), none, []⟩, ⟨some 13, .mov (.tmp 0), none, []⟩, ⟨some 14, .bin .rem 2 (.tmp 12) (.tmp 13), none, []⟩, ⟨some 15, .bin .add 2 (.tmp 11) (.tmp 14), none, []⟩, ⟨some 5, .asg 0 (.tmp 15) 2, none, []⟩] false)) (.region 3 [⟨some 8, .mov (.tmp 1), none, []⟩, ⟨some 9, .mov (.tmp 0), none, []⟩, ⟨some 10, .bin .quo 2 (.tmp 8) (.tmp 9), none, []⟩, ⟨some 1, .asg 0 (.tmp 10) 2, none, []⟩] false))))) (.seq (.region 5 [⟨some 16, .mov (.tmp 5), none, []⟩, ⟨some 4, .asg 0 (.tmp 16) 2, none, []⟩] false) .ret))))
def spec_l08Digits_L : Live := [(0, [0, 1]), (1, [0, 1]), (2, [0, 1, 5]), (3, [0, 1, 5]), (4, [0, 1, 5]), (5, [5]), (100007, [0, 1, 5, 7])]
theorem spec_l08Digits_body : Try.f53.body = some (Try.f53.body.getD .skip) := by kernel_rfl
theorem spec_l08Digits_strip : strip [] (Try.f53.body.getD .skip) = spec_l08Digits_c := by kernel_rfl
noncomputable def spec_l08Digits_l1 (a0 : Int) (x23 : Int) (x24 : Int) : Option ((Int × Int) ⊕ Int) :=
  (if (decide (x23 > 0)) then (ifp (a0 ≠ 0) ((ifp (a0 ≠ 0) ((some (.inl ((IntKind.i64.wrap (Int.tdiv x23 a0), IntKind.i64.wrap (x24 + (Int.tmod x23 a0)))))))))) else (some (.inr x24)))
noncomputable def spec_l08Digits (a0 : Int) (a1 : Int) : Option Int :=
  (Option.bind ((loopM (fun s : (Int × Int) => spec_l08Digits_l1 a0 s.1 s.2) (a1, 0))) fun x16 => (some x16))
set_option maxHeartbeats 16000000 in
theorem spec_l08Digits_ok (a0 : Int) (a1 : Int) (r : Int) (h : spec_l08Digits a0 a1 = some r) : Den Try.prog 53 [(.int .i64 a0), (.int .i64 a1)] { r := (.int .i64 r) } := by
  refine den_of (rs := [(.int .i64 r)]) (ac := spec_l08Digits_c) (L := spec_l08Digits_L) (n := 17) (m := []) good Try.func53 spec_l08Digits_body (by kernel_rfl) Try.ntmps53 rfl rfl spec_l08Digits_strip rfl rfl ?_
  refine a_st (σ' := ⟨[(0, (.int .i64 a0)), (1, (.int .i64 a1))], []⟩) rfl ?_
  unfold spec_l08Digits_c
  refine a_seq ?_
  refine a_region ?_
  refine a_val (v := (.int .i64 0)) (u := []) rfl trivial rfl ?_
  refine a_nil ?_
  refine a_next (σ' := ⟨[(0, (.int .i64 a0)), (1, (.int .i64 a1))], []⟩) rfl ?_
  refine a_seq ?_
  refine a_region ?_
  refine a_val (v := (.int .i64 0)) (u := []) rfl trivial rfl ?_
  refine a_nil ?_
  refine a_next (σ' := ⟨[(0, (.int .i64 a0)), (1, (.int .i64 a1)), (5, (.int .i64 0))], []⟩) rfl ?_
  obtain ⟨y17, hy18, hk19⟩ := bind_some h
  clear h
  refine a_join (emb := fun (s : Int) => ⟨[(5, (.int .i64 s))], []⟩) (pre := fun s => s = y17) ?_ ?_
  · rintro x16 rfl
    have h := hk19
    refine a_st (σ' := ⟨[(5, (.int .i64 x16))], []⟩) rfl ?_
    refine a_seq ?_
    refine a_region ?_
    refine a_val (v := (.int .i64 x16)) (u := []) rfl trivial rfl ?_
    refine a_val (v := (.int .i64 x16)) (u := []) rfl trivial rfl ?_
    refine a_nil ?_
    refine a_next rfl ?_
    refine a_ret ?_
    refine ⟨.inr rfl, ?_⟩
    rw [Try.results53]
    cases h
    exact ⟨_, _, _, _, _, rfl, trivial, .inl ⟨rfl, .inl rfl⟩, rfl, rfl⟩
  · have h := hy18
    refine a_block ?_
    refine a_loop (emb := fun (s : (Int × Int)) => ⟨[(0, (.int .i64 a0)), (1, (.int .i64 s.1)), (5, (.int .i64 s.2))], []⟩) (body := (fun s : (Int × Int) => spec_l08Digits_l1 a0 s.1 s.2)) (G := fun q => some q = some y17) h rfl ?_ rfl
    rintro X28 ⟨x23, x24⟩ x29 h hX30
    have h : spec_l08Digits_l1 a0 x23 x24 = some x29 := h
    refine a_st (σ' := ⟨[(0, (.int .i64 a0)), (1, (.int .i64 x23)), (5, (.int .i64 x24))], []⟩) rfl ?_
    refine a_seq ?_
    refine a_seq ?_
    refine a_region ?_
    refine a_val (v := (.int .i64 x23)) (u := []) rfl trivial rfl ?_
    refine a_val (v := (.bool ((decide (x23 > 0))))) (u := []) rfl trivial rfl ?_
    refine a_nil ?_
    refine a_next (σ' := ⟨[(0, (.int .i64 a0)), (1, (.int .i64 x23)), (5, (.int .i64 x24)), (7, (.bool ((decide (x23 > 0)))))], []⟩) rfl ?_
    cases hb31 : (decide (x23 > 0))
    · have h := ite_f hb31 h
      refine a_cond_f rfl ?_
      refine a_exit ?_
      refine t_exit ?_
      cases h
      have h := hX30
      refine t_exit ?_
      refine b_exit ?_
      exact j_leaf x24 (Option.some.inj h) rfl
    · have h := ite_t hb31 h
      refine a_cond_t rfl ?_
      refine a_skip ?_
      refine a_next (σ' := ⟨[(0, (.int .i64 a0)), (1, (.int .i64 x23)), (5, (.int .i64 x24))], []⟩) rfl ?_
      refine a_seq ?_
      refine a_block ?_
      refine a_region ?_
      refine a_val (v := (.int .i64 x24)) (u := []) rfl trivial rfl ?_
      refine a_val (v := (.int .i64 x23)) (u := []) rfl trivial rfl ?_
      refine a_val (v := (.int .i64 a0)) (u := []) rfl trivial rfl ?_
      obtain ⟨hc32, h⟩ := ifp_some h
      refine a_val (v := (.int .i64 (Int.tmod x23 a0))) (u := []) rfl hc32 rfl ?_
      refine a_val (v := (.int .i64 (IntKind.i64.wrap (x24 + (Int.tmod x23 a0))))) (u := []) rfl trivial rfl ?_
      refine a_val (v := (.int .i64 (IntKind.i64.wrap (x24 + (Int.tmod x23 a0))))) (u := []) rfl trivial rfl ?_
      refine a_nil ?_
      refine b_norm ?_
      refine a_next (σ' := ⟨[(0, (.int .i64 a0)), (1, (.int .i64 x23)), (5, (.int .i64 (IntKind.i64.wrap (x24 + (Int.tmod x23 a0)))))], []⟩) rfl ?_
      refine a_region ?_
      refine a_val (v := (.int .i64 x23)) (u := []) rfl trivial rfl ?_
      refine a_val (v := (.int .i64 a0)) (u := []) rfl trivial rfl ?_
      obtain ⟨hc33, h⟩ := ifp_some h
      refine a_val (v := (.int .i64 (IntKind.i64.wrap (Int.tdiv x23 a0)))) (u := []) rfl hc33 rfl ?_
      refine a_val (v := (.int .i64 (IntKind.i64.wrap (Int.tdiv x23 a0)))) (u := []) rfl trivial rfl ?_
      refine a_nil ?_
      cases h
      exact a_again rfl hX30
def spec_DigitSum_c : ACode := (.seq (.region 0 [⟨some 4, .asg 0 (.const (.int .i64 0)) 2, none, []⟩, ⟨some 5, .asg 0 (.const (.int .i64 0)) 2, none, []⟩] false) (.seq (.seq (.region 1 [⟨some 7, .mov (.tmp 0), none, []⟩, ⟨some 8, .mov (.tmp 1), none, []⟩, ⟨some 9, .call 0 (.func 52) [(.tmp 7), (.tmp 8), (.const (.int .i64 0)), (.const (.int .i64 1000000000000))], none, []⟩, ⟨some 6, .asg 0 (.tmp 9) 2, none, []⟩] false) (.seq (.region 2 [⟨some 10, .mov (.tmp 6), none, []⟩, ⟨some 11, .bin .neq 2 (.tmp 10) (.const (.int .i64 0)), none, []⟩] false) (.cond (.tmp 11) (.seq (.region 3 [⟨some 12, .mov (.tmp 6), none, []⟩, ⟨some 4, .asg 0 (.const (.int .i64 0)) 2, none, []⟩, ⟨some 5, .asg 0 (.tmp 12) 2, none, []⟩] false) .ret) .skip))) (.seq (.region 4 [⟨some 13, .mov (.tmp 0), none, []⟩, ⟨some 14, .mov (.tmp 1), none, []⟩, ⟨some 15, .call 0 (.func 53) [(.tmp 13), (.tmp 14)], none, []⟩, ⟨some 4, .asg 0 (.tmp 15) 2, none, []⟩, ⟨some 5, .asg 0 (.const (.int .i64 0)) 2, none, []⟩] false) .ret)))
def spec_DigitSum_L : Live := [(0, [0, 1]), (1, [0, 1]), (2, [0, 1, 6]), (3, [6]), (4, [0, 1]), (100011, [0, 1, 6, 11])]
theorem spec_DigitSum_body : Try.f18.body = some (Try.f18.body.getD .skip) := by kernel_rfl
theorem spec_DigitSum_strip : strip [] (Try.f18.body.getD .skip) = spec_DigitSum_c := by kernel_rfl
noncomputable def spec_DigitSum (a0 : Int) (a1 : Int) : Option (Int × Int) :=
  (Option.bind (spec_l04Range a0 a1 0 1000000000000) fun r1 => (if (r1 != 0) then (some (0, r1)) else (Option.bind (spec_l08Digits a0 a1) fun r4 => (some (r4, 0)))))
set_option maxHeartbeats 16000000 in
theorem spec_DigitSum_ok (a0 : Int) (a1 : Int) (r : (Int × Int)) (h : spec_DigitSum a0 a1 = some r) : Den Try.prog 18 [(.int .i64 a0), (.int .i64 a1)] { r := (.tuple [(.int .i64 r.1), (.int .i64 r.2)]) } := by
  refine den_of (rs := [(.int .i64 r.1), (.int .i64 r.2)]) (ac := spec_DigitSum_c) (L := spec_DigitSum_L) (n := 16) (m := []) good Try.func18 spec_DigitSum_body (by kernel_rfl) Try.ntmps18 rfl rfl spec_DigitSum_strip rfl rfl ?_
  refine a_st (σ' := ⟨[(0, (.int .i64 a0)), (1, (.int .i64 a1))], []⟩) rfl ?_
  unfold spec_DigitSum_c
  refine a_seq ?_
  refine a_region ?_
  refine a_val (v := (.int .i64 0)) (u := []) rfl trivial rfl ?_
  refine a_val (v := (.int .i64 0)) (u := []) rfl trivial rfl ?_
  refine a_nil ?_
  refine a_next (σ' := ⟨[(0, (.int .i64 a0)), (1, (.int .i64 a1))], []⟩) rfl ?_
  refine a_seq ?_
  refine a_seq ?_
  refine a_region ?_
  refine a_val (v := (.int .i64 a0)) (u := []) rfl trivial rfl ?_
  refine a_val (v := (.int .i64 a1)) (u := []) rfl trivial rfl ?_
  obtain ⟨r1, hr2, h⟩ := bind_some h
  refine a_call (args := [(.int .i64 a0), (.int .i64 a1), (.int .i64 0), (.int .i64 1000000000000)]) (u := []) (r := (.int .i64 r1)) rfl rfl (spec_l04Range_ok a0 a1 0 1000000000000 r1 hr2) rfl ?_
  refine a_val (v := (.int .i64 r1)) (u := []) rfl trivial rfl ?_
  refine a_nil ?_
  refine a_next (σ' := ⟨[(0, (.int .i64 a0)), (1, (.int .i64 a1)), (6, (.int .i64 r1))], []⟩) rfl ?_
  refine a_seq ?_
  refine a_region ?_
  refine a_val (v := (.int .i64 r1)) (u := []) rfl trivial rfl ?_
  refine a_val (v := (.bool (r1 != 0))) (u := []) rfl trivial rfl ?_
  refine a_nil ?_
  refine a_next (σ' := ⟨[(0, (.int .i64 a0)), (1, (.int .i64 a1)), (6, (.int .i64 r1)), (11, (.bool (r1 != 0)))], []⟩) rfl ?_
  cases hb3 : (r1 != 0)
  · have h := ite_f hb3 h
    refine a_cond_f rfl ?_
    refine a_skip ?_
    refine a_next (σ' := ⟨[(0, (.int .i64 a0)), (1, (.int .i64 a1))], []⟩) rfl ?_
    refine a_seq ?_
    refine a_region ?_
    refine a_val (v := (.int .i64 a0)) (u := []) rfl trivial rfl ?_
    refine a_val (v := (.int .i64 a1)) (u := []) rfl trivial rfl ?_
    obtain ⟨r4, hr5, h⟩ := bind_some h
    refine a_call (args := [(.int .i64 a0), (.int .i64 a1)]) (u := []) (r := (.int .i64 r4)) rfl rfl (spec_l08Digits_ok a0 a1 r4 hr5) rfl ?_
    refine a_val (v := (.int .i64 r4)) (u := []) rfl trivial rfl ?_
    refine a_val (v := (.int .i64 0)) (u := []) rfl trivial rfl ?_
    refine a_nil ?_
    refine a_next rfl ?_
    refine a_ret ?_
    refine ⟨.inr rfl, ?_⟩
    rw [Try.results18]
    cases h
    exact ⟨_, _, _, _, _, rfl, trivial, .inl ⟨rfl, .inl rfl⟩, rfl, ⟨_, _, _, _, _, rfl, trivial, .inl ⟨rfl, .inl rfl⟩, rfl, rfl⟩⟩
  · have h := ite_t hb3 h
    refine a_cond_t rfl ?_
    refine a_seq ?_
    refine a_region ?_
    refine a_val (v := (.int .i64 r1)) (u := []) rfl trivial rfl ?_
    refine a_val (v := (.int .i64 0)) (u := []) rfl trivial rfl ?_
    refine a_val (v := (.int .i64 r1)) (u := []) rfl trivial rfl ?_
    refine a_nil ?_
    refine a_next rfl ?_
    refine a_ret ?_
    refine t_ret ?_
    refine ⟨.inr rfl, ?_⟩
    rw [Try.results18]
    cases h
    exact ⟨_, _, _, _, _, rfl, trivial, .inl ⟨rfl, .inl rfl⟩, rfl, ⟨_, _, _, _, _, rfl, trivial, .inl ⟨rfl, .inl rfl⟩, rfl, rfl⟩⟩
def impl_isPrime_c : ACode := (.seq (.region 0 [⟨some 2, .asg 0 (.const (.bool false)) 4, none, []⟩] false) (.seq (.region 1 [⟨some 3, .mov (.tmp 0), none, []⟩, ⟨some 4, .bin .eql 2 (.tmp 3) (.const (.int .i64 2)), none, []⟩, ⟨some 5, .mov (.tmp 4), none, []⟩, ⟨some 6, .mov (.tmp 0), some (5, false), []⟩, ⟨some 7, .bin .eql 2 (.tmp 6) (.const (.int .i64 3)), some (5, false), []⟩, ⟨some 8, .pick (.tmp 5) (.const (.bool true)) (.tmp 7), none, []⟩, ⟨some 9, .mov (.tmp 8), none, []⟩, ⟨some 10, .mov (.tmp 0), some (9, false), []⟩, ⟨some 11, .bin .eql 2 (.tmp 10) (.const (.int .i64 5)), some (9, false), []⟩, ⟨some 12, .pick (.tmp 9) (.const (.bool true)) (.tmp 11), none, []⟩, ⟨some 13, .mov (.tmp 12), none, []⟩, ⟨some 14, .mov (.tmp 0), some (13, false), []⟩, ⟨some 15, .bin .eql 2 (.tmp 14) (.const (.int .i64 7)), some (13, false), []⟩, ⟨some 16, .pick (.tmp 13) (.const (.bool true)) (.tmp 15), none, []⟩, ⟨some 2, .asg 0 (.tmp 16) 4, none, []⟩] false) .ret))
def impl_isPrime_L : Live := [(0, [0]), (1, [0])]
theorem impl_isPrime_body : Try.f59.body = some (Try.f59.body.getD .skip) := by kernel_rfl
theorem impl_isPrime_strip : strip [] (Try.f59.body.getD .skip) = impl_isPrime_c := by kernel_rfl
noncomputable def impl_isPrime (a0 : Int) : Option Bool :=
  (if (a0 == 2) then (some true) else (if (a0 == 3) then (some true) else (if (a0 == 5) then (some true) else (some (a0 == 7)))))
set_option maxHeartbeats 16000000 in
theorem impl_isPrime_ok (a0 : Int) (r : Bool) (h : impl_isPrime a0 = some r) : Den Try.prog 59 [(.int .i64 a0)] { r := (.bool r) } := by
  refine den_of (rs := [(.bool r)]) (ac := impl_isPrime_c) (L := impl_isPrime_L) (n := 17) (m := []) good Try.func59 impl_isPrime_body (by kernel_rfl) Try.ntmps59 rfl rfl impl_isPrime_strip rfl rfl ?_
  refine a_st (σ' := ⟨[(0, (.int .i64 a0))], []⟩) rfl ?_
  unfold impl_isPrime_c
  refine a_seq ?_
  refine a_region ?_
  refine a_val (v := (.bool false)) (u := []) rfl trivial rfl ?_
  refine a_nil ?_
  refine a_next (σ' := ⟨[(0, (.int .i64 a0))], []⟩) rfl ?_
  refine a_seq ?_
  refine a_region ?_
  refine a_val (v := (.int .i64 a0)) (u := []) rfl trivial rfl ?_
  refine a_val (v := (.bool (a0 == 2))) (u := []) rfl trivial rfl ?_
  refine a_val (v := (.bool (a0 == 2))) (u := []) rfl trivial rfl ?_
  cases hb1 : (a0 == 2)
  · have h := ite_f hb1 h
    refine a_gval rfl (v := (.int .i64 a0)) (u := []) rfl trivial rfl ?_
    refine a_gval rfl (v := (.bool (a0 == 3))) (u := []) rfl trivial rfl ?_
    refine a_val (v := (.bool (a0 == 3))) (u := []) rfl trivial rfl ?_
    refine a_val (v := (.bool (a0 == 3))) (u := []) rfl trivial rfl ?_
    cases hb2 : (a0 == 3)
    · have h := ite_f hb2 h
      refine a_gval rfl (v := (.int .i64 a0)) (u := []) rfl trivial rfl ?_
      refine a_gval rfl (v := (.bool (a0 == 5))) (u := []) rfl trivial rfl ?_
      refine a_val (v := (.bool (a0 == 5))) (u := []) rfl trivial rfl ?_
      refine a_val (v := (.bool (a0 == 5))) (u := []) rfl trivial rfl ?_
      cases hb3 : (a0 == 5)
      · have h := ite_f hb3 h
        refine a_gval rfl (v := (.int .i64 a0)) (u := []) rfl trivial rfl ?_
        refine a_gval rfl (v := (.bool (a0 == 7))) (u := []) rfl trivial rfl ?_
        refine a_val (v := (.bool (a0 == 7))) (u := []) rfl trivial rfl ?_
        refine a_val (v := (.bool (a0 == 7))) (u := []) rfl trivial rfl ?_
        refine a_nil ?_
        refine a_next rfl ?_
        refine a_ret ?_
        refine ⟨.inr rfl, ?_⟩
        rw [Try.results59]
        cases h
        exact ⟨_, _, _, _, _, rfl, trivial, .inl ⟨rfl, .inl rfl⟩, rfl, rfl⟩
      · have h := ite_t hb3 h
        refine a_gskip rfl ?_
        refine a_gskip rfl ?_
        refine a_val (v := (.bool true)) (u := []) rfl trivial rfl ?_
        refine a_val (v := (.bool true)) (u := []) rfl trivial rfl ?_
        refine a_nil ?_
        refine a_next rfl ?_
        refine a_ret ?_
        refine ⟨.inr rfl, ?_⟩
        rw [Try.results59]
        cases h
        exact ⟨_, _, _, _, _, rfl, trivial, .inl ⟨rfl, .inl rfl⟩, rfl, rfl⟩
    · have h := ite_t hb2 h
      refine a_gskip rfl ?_
      refine a_gskip rfl ?_
      refine a_val (v := (.bool true)) (u := []) rfl trivial rfl ?_
      refine a_val (v := (.bool true)) (u := []) rfl trivial rfl ?_
      refine a_gskip rfl ?_
      refine a_gskip rfl ?_
      refine a_val (v := (.bool true)) (u := []) rfl trivial rfl ?_
      refine a_val (v := (.bool true)) (u := []) rfl trivial rfl ?_
      refine a_nil ?_
      refine a_next rfl ?_
      refine a_ret ?_
      refine ⟨.inr rfl, ?_⟩
      rw [Try.results59]
      cases h
      exact ⟨_, _, _, _, _, rfl, trivial, .inl ⟨rfl, .inl rfl⟩, rfl, rfl⟩
  · have h := ite_t hb1 h
    refine a_gskip rfl ?_
    refine a_gskip rfl ?_
    refine a_val (v := (.bool true)) (u := []) rfl trivial rfl ?_
    refine a_val (v := (.bool true)) (u := []) rfl trivial rfl ?_
    refine a_gskip rfl ?_
    refine a_gskip rfl ?_
    refine a_val (v := (.bool true)) (u := []) rfl trivial rfl ?_
    refine a_val (v := (.bool true)) (u := []) rfl trivial rfl ?_
    refine a_gskip rfl ?_
    refine a_gskip rfl ?_
    refine a_val (v := (.bool true)) (u := []) rfl trivial rfl ?_
    refine a_val (v := (.bool true)) (u := []) rfl trivial rfl ?_
    refine a_nil ?_
    refine a_next rfl ?_
    refine a_ret ?_
    refine ⟨.inr rfl, ?_⟩
    rw [Try.results59]
    cases h
    exact ⟨_, _, _, _, _, rfl, trivial, .inl ⟨rfl, .inl rfl⟩, rfl, rfl⟩
def impl_within_c : ACode := (.seq (.region 0 [⟨some 6, .asg 0 (.const (.bool false)) 4, none, []⟩] false) (.seq (.region 1 [⟨some 7, .mov (.tmp 1), none, []⟩, ⟨some 8, .mov (.tmp 0), none, []⟩, ⟨some 9, .bin .leq 2 (.tmp 7) (.tmp 8), none, []⟩, ⟨some 10, .mov (.tmp 9), none, []⟩, ⟨some 11, .mov (.tmp 0), some (10, true), []⟩, ⟨some 12, .mov (.tmp 2), some (10, true), []⟩, ⟨some 13, .bin .leq 2 (.tmp 11) (.tmp 12), some (10, true), []⟩, ⟨some 14, .pick (.tmp 10) (.tmp 13) (.const (.bool false)), none, []⟩, ⟨some 6, .asg 0 (.tmp 14) 4, none, []⟩] false) .ret))
def impl_within_L : Live := [(0, [0, 1, 2]), (1, [0, 1, 2])]
theorem impl_within_body : Try.f66.body = some (Try.f66.body.getD .skip) := by kernel_rfl
theorem impl_within_strip : strip [] (Try.f66.body.getD .skip) = impl_within_c := by kernel_rfl
noncomputable def impl_within (a0 : Int) (a1 : Int) (a2 : Int) : Option Bool :=
  (if (decide (a1 ≤ a0)) then (some ((decide (a0 ≤ a2)))) else (some false))
set_option maxHeartbeats 16000000 in
theorem impl_within_ok (a0 : Int) (a1 : Int) (a2 : Int) (r : Bool) (h : impl_within a0 a1 a2 = some r) : Den Try.prog 66 [(.int .i64 a0), (.int .i64 a1), (.int .i64 a2)] { r := (.bool r) } := by
  refine den_of (rs := [(.bool r)]) (ac := impl_within_c) (L := impl_within_L) (n := 15) (m := []) good Try.func66 impl_within_body (by kernel_rfl) Try.ntmps66 rfl rfl impl_within_strip rfl rfl ?_
  refine a_st (σ' := ⟨[(0, (.int .i64 a0)), (1, (.int .i64 a1)), (2, (.int .i64 a2))], []⟩) rfl ?_
  unfold impl_within_c
  refine a_seq ?_
  refine a_region ?_
  refine a_val (v := (.bool false)) (u := []) rfl trivial rfl ?_
  refine a_nil ?_
  refine a_next (σ' := ⟨[(0, (.int .i64 a0)), (1, (.int .i64 a1)), (2, (.int .i64 a2))], []⟩) rfl ?_
  refine a_seq ?_
  refine a_region ?_
  refine a_val (v := (.int .i64 a1)) (u := []) rfl trivial rfl ?_
  refine a_val (v := (.int .i64 a0)) (u := []) rfl trivial rfl ?_
  refine a_val (v := (.bool ((decide (a1 ≤ a0))))) (u := []) rfl trivial rfl ?_
  refine a_val (v := (.bool ((decide (a1 ≤ a0))))) (u := []) rfl trivial rfl ?_
  cases hb1 : (decide (a1 ≤ a0))
  · have h := ite_f hb1 h
    refine a_gskip rfl ?_
    refine a_gskip rfl ?_
    refine a_gskip rfl ?_
    refine a_val (v := (.bool false)) (u := []) rfl trivial rfl ?_
    refine a_val (v := (.bool false)) (u := []) rfl trivial rfl ?_
    refine a_nil ?_
    refine a_next rfl ?_
    refine a_ret ?_
    refine ⟨.inr rfl, ?_⟩
    rw [Try.results66]
    cases h
    exact ⟨_, _, _, _, _, rfl, trivial, .inl ⟨rfl, .inl rfl⟩, rfl, rfl⟩
  · have h := ite_t hb1 h
    refine a_gval rfl (v := (.int .i64 a0)) (u := []) rfl trivial rfl ?_
    refine a_gval rfl (v := (.int .i64 a2)) (u := []) rfl trivial rfl ?_
    refine a_gval rfl (v := (.bool ((decide (a0 ≤ a2))))) (u := []) rfl trivial rfl ?_
    refine a_val (v := (.bool ((decide (a0 ≤ a2))))) (u := []) rfl trivial rfl ?_
    refine a_val (v := (.bool ((decide (a0 ≤ a2))))) (u := []) rfl trivial rfl ?_
    refine a_nil ?_
    refine a_next rfl ?_
    refine a_ret ?_
    refine ⟨.inr rfl, ?_⟩
    rw [Try.results66]
    cases h
    exact ⟨_, _, _, _, _, rfl, trivial, .inl ⟨rfl, .inl rfl⟩, rfl, rfl⟩
def impl_numberCode_c : ACode := (.seq (.region 0 [⟨some 8, .asg 0 (.const (.int .i64 0)) 2, none, []⟩] false) (.seq (.block 0 (.seq (.region 1 [⟨some 10, .mov (.tmp 0), none, []⟩, ⟨some 11, .call 0 (.func 59) [(.tmp 10)], none, []⟩, ⟨some 12, .un .not (.tmp 11), none, []⟩, ⟨some 9, .asg 0 (.tmp 12) 4, none, []⟩] false) (.cond (.tmp 9) (.seq (.region 2 [⟨some 8, .asg 0 (.const (.int .i64 1)) 2, none, []⟩] false) .ret) (.seq (.region 3 [⟨some 14, .mov (.tmp 1), none, []⟩, ⟨some 15, .mov (.tmp 2), none, []⟩, ⟨some 16, .mov (.tmp 3), none, []⟩, ⟨some 17, .call 0 (.func 66) [(.tmp 14), (.tmp 15), (.tmp 16)], none, []⟩, ⟨some 18, .un .not (.tmp 17), none, []⟩, ⟨some 13, .asg 0 (.tmp 18) 4, none, []⟩] false) (.cond (.tmp 13) (.seq (.region 4 [⟨some 8, .asg 0 (.const (.int .i64 2)) 2, none, []⟩] false) .ret) .skip))))) (.seq (.region 5 [⟨some 8, .asg 0 (.const (.int .i64 0)) 2, none, []⟩] false) .ret)))
def impl_numberCode_L : Live := [(0, [0, 1, 2, 3]), (1, [0, 1, 2, 3]), (2, []), (3, [1, 2, 3]), (4, []), (5, []), (100009, [1, 2, 3, 9]), (100013, [13])]
theorem impl_numberCode_body : Try.f54.body = some (Try.f54.body.getD .skip) := by kernel_rfl
theorem impl_numberCode_strip : strip [] (Try.f54.body.getD .skip) = impl_numberCode_c := by kernel_rfl
noncomputable def impl_numberCode (a0 : Int) (a1 : Int) (a2 : Int) (a3 : Int) : Option Int :=
  (Option.bind (impl_isPrime a0) fun r1 => (if (!r1) then (some 1) else (Option.bind (impl_within a1 a2 a3) fun r4 => (if (!r4) then (some 2) else (some 0)))))
set_option maxHeartbeats 16000000 in
theorem impl_numberCode_ok (a0 : Int) (a1 : Int) (a2 : Int) (a3 : Int) (r : Int) (h : impl_numberCode a0 a1 a2 a3 = some r) : Den Try.prog 54 [(.int .i64 a0), (.int .i64 a1), (.int .i64 a2), (.int .i64 a3)] { r := (.int .i64 r) } := by
  refine den_of (rs := [(.int .i64 r)]) (ac := impl_numberCode_c) (L := impl_numberCode_L) (n := 19) (m := []) good Try.func54 impl_numberCode_body (by kernel_rfl) Try.ntmps54 rfl rfl impl_numberCode_strip rfl rfl ?_
  refine a_st (σ' := ⟨[(0, (.int .i64 a0)), (1, (.int .i64 a1)), (2, (.int .i64 a2)), (3, (.int .i64 a3))], []⟩) rfl ?_
  unfold impl_numberCode_c
  refine a_seq ?_
  refine a_region ?_
  refine a_val (v := (.int .i64 0)) (u := []) rfl trivial rfl ?_
  refine a_nil ?_
  refine a_next (σ' := ⟨[(0, (.int .i64 a0)), (1, (.int .i64 a1)), (2, (.int .i64 a2)), (3, (.int .i64 a3))], []⟩) rfl ?_
  refine a_seq ?_
  refine a_block ?_
  refine a_seq ?_
  refine a_region ?_
  refine a_val (v := (.int .i64 a0)) (u := []) rfl trivial rfl ?_
  obtain ⟨r1, hr2, h⟩ := bind_some h
  refine a_call (args := [(.int .i64 a0)]) (u := []) (r := (.bool r1)) rfl rfl (impl_isPrime_ok a0 r1 hr2) rfl ?_
  refine a_val (v := (.bool (!r1))) (u := []) rfl trivial rfl ?_
  refine a_val (v := (.bool (!r1))) (u := []) rfl trivial rfl ?_
  refine a_nil ?_
  refine a_next (σ' := ⟨[(1, (.int .i64 a1)), (2, (.int .i64 a2)), (3, (.int .i64 a3)), (9, (.bool (!r1)))], []⟩) rfl ?_
  cases hb3 : (!r1)
  · have h := ite_f hb3 h
    refine a_cond_f rfl ?_
    refine a_seq ?_
    refine a_region ?_
    refine a_val (v := (.int .i64 a1)) (u := []) rfl trivial rfl ?_
    refine a_val (v := (.int .i64 a2)) (u := []) rfl trivial rfl ?_
    refine a_val (v := (.int .i64 a3)) (u := []) rfl trivial rfl ?_
    obtain ⟨r4, hr5, h⟩ := bind_some h
    refine a_call (args := [(.int .i64 a1), (.int .i64 a2), (.int .i64 a3)]) (u := []) (r := (.bool r4)) rfl rfl (impl_within_ok a1 a2 a3 r4 hr5) rfl ?_
    refine a_val (v := (.bool (!r4))) (u := []) rfl trivial rfl ?_
    refine a_val (v := (.bool (!r4))) (u := []) rfl trivial rfl ?_
    refine a_nil ?_
    refine a_next (σ' := ⟨[(13, (.bool (!r4)))], []⟩) rfl ?_
    cases hb6 : (!r4)
    · have h := ite_f hb6 h
      refine a_cond_f rfl ?_
      refine a_skip ?_
      refine b_norm ?_
      refine a_next (σ' := ⟨[], []⟩) rfl ?_
      refine a_seq ?_
      refine a_region ?_
      refine a_val (v := (.int .i64 0)) (u := []) rfl trivial rfl ?_
      refine a_nil ?_
      refine a_next rfl ?_
      refine a_ret ?_
      refine ⟨.inr rfl, ?_⟩
      rw [Try.results54]
      cases h
      exact ⟨_, _, _, _, _, rfl, trivial, .inl ⟨rfl, .inl rfl⟩, rfl, rfl⟩
    · have h := ite_t hb6 h
      refine a_cond_t rfl ?_
      refine a_seq ?_
      refine a_region ?_
      refine a_val (v := (.int .i64 2)) (u := []) rfl trivial rfl ?_
      refine a_nil ?_
      refine a_next rfl ?_
      refine a_ret ?_
      refine b_ret ?_
      refine t_ret ?_
      refine ⟨.inr rfl, ?_⟩
      rw [Try.results54]
      cases h
      exact ⟨_, _, _, _, _, rfl, trivial, .inl ⟨rfl, .inl rfl⟩, rfl, rfl⟩
  · have h := ite_t hb3 h
    refine a_cond_t rfl ?_
    refine a_seq ?_
    refine a_region ?_
    refine a_val (v := (.int .i64 1)) (u := []) rfl trivial rfl ?_
    refine a_nil ?_
    refine a_next rfl ?_
    refine a_ret ?_
    refine b_ret ?_
    refine t_ret ?_
    refine ⟨.inr rfl, ?_⟩
    rw [Try.results54]
    cases h
    exact ⟨_, _, _, _, _, rfl, trivial, .inl ⟨rfl, .inl rfl⟩, rfl, rfl⟩
def impl_prime_numbered_c : ACode := (.seq (.region 0 [⟨some 4, .asg 1 (.const (.slice none 0 0)) 66, none, []⟩] false) (.seq (.region 1 [⟨some 5, .asg 2 (.const (.slice none 0 0)) 66, none, []⟩] false) (.seq (.block 0 (.loop (.seq (.seq (.region 2 [⟨some 6, .mov (.tmp 1), none, []⟩, ⟨some 7, .bin .gtr 2 (.tmp 6) (.const (.int .i64 0)), none, []⟩] false) (.cond (.tmp 7) .skip (.exit 0))) (.seq (.block 1 (.region 4 [⟨some 11, .mov (.tmp 5), none, []⟩, ⟨some 12, .mov (.tmp 1), none, []⟩, ⟨some 13, .mov (.tmp 0), none, []⟩, ⟨some 14, .bin .rem 2 (.tmp 12) (.tmp 13), none, []⟩, ⟨some 15, .bslice 66 1 [(0, (.tmp 14))], none, []⟩, ⟨some 16, .blt 0 .append [(.tmp 11), (.tmp 15)] [66, 66], none, []⟩, ⟨some 5, .asg 2 (.tmp 16) 66, none, []⟩] false)) (.region 3 [⟨some 8, .mov (.tmp 1), none, []⟩, ⟨some 9, .mov (.tmp 0), none, []⟩, ⟨some 10, .bin .quo 2 (.tmp 8) (.tmp 9), none, []⟩, ⟨some 1, .asg 0 (.tmp 10) 2, none, []⟩] false))))) (.seq (.region 5 [⟨some 17, .mov (.tmp 5), none, []⟩, ⟨some 4, .asg 1 (.tmp 17) 66, none, []⟩] false) .ret))))
def impl_prime_numbered_L : Live := [(0, [0, 1]), (1, [0, 1]), (2, [0, 1, 5]), (3, [0, 1, 5]), (4, [0, 1, 5]), (5, [5]), (100007, [0, 1, 5, 7])]
theorem impl_prime_numbered_body : Try.f55.body = some (Try.f55.body.getD .skip) := by kernel_rfl
theorem impl_prime_numbered_strip : strip [(4, 1), (5, 2)] (Try.f55.body.getD .skip) = impl_prime_numbered_c := by kernel_rfl
noncomputable def impl_prime_numbered_l1 (a0 : Int) (x27 : Int) (x28 : (List Int)) : Option ((Int × (List Int)) ⊕ (List Int)) :=
  (if (decide (x27 > 0)) then (ifp (a0 ≠ 0) ((ifp ((x28.length + ([Int.tmod x27 a0] : List Int).length) * 8 ≤ 140737488355328) ((ifp (a0 ≠ 0) ((some (.inl ((IntKind.i64.wrap (Int.tdiv x27 a0), (x28 ++ ([Int.tmod x27 a0])))))))))))) else (some (.inr x28)))
noncomputable def impl_prime_numbered (a0 : Int) (a1 : Int) : Option (List Int) :=
  (Option.bind ((loopM (fun s : (Int × (List Int)) => impl_prime_numbered_l1 a0 s.1 s.2) (a1, []))) fun x19 => (some x19))
set_option maxHeartbeats 16000000 in
theorem impl_prime_numbered_ok (a0 : Int) (a1 : Int) (r : (List Int)) (h : impl_prime_numbered a0 a1 = some r) : Den Try.prog 55 [(.int .i64 a0), (.int .i64 a1)] { r := (eSi64 r) } := by
  refine den_of (rs := [(eSi64 r)]) (ac := impl_prime_numbered_c) (L := impl_prime_numbered_L) (n := 18) (m := [(4, 1), (5, 2)]) good Try.func55 impl_prime_numbered_body (by kernel_rfl) Try.ntmps55 rfl rfl impl_prime_numbered_strip rfl rfl ?_
  refine a_st (σ' := ⟨[(0, (.int .i64 a0)), (1, (.int .i64 a1))], []⟩) rfl ?_
  unfold impl_prime_numbered_c
  refine a_seq ?_
  refine a_region ?_
  refine a_val (v := (eSi64 ([]))) (u := []) rfl trivial rfl ?_
  refine a_nil ?_
  refine a_next (σ' := ⟨[(0, (.int .i64 a0)), (1, (.int .i64 a1))], []⟩) rfl ?_
  refine a_seq ?_
  refine a_region ?_
  refine a_val (v := (.osl 1500)) (u := [(1500, some ⟨(.row 1 (([]).map (AV.int .i64))), false⟩)]) rfl trivial rfl ?_
  refine a_nil ?_
  refine a_next (σ' := ⟨[(0, (.int .i64 a0)), (1, (.int .i64 a1)), (5, (.osl 5))], [(5, some ⟨(.row 1 (([]).map (AV.int .i64))), false⟩)]⟩) rfl ?_
  obtain ⟨y20, hy21, hk22⟩ := bind_some h
  clear h
  refine a_join (emb := fun (s : (List Int)) => ⟨[(5, (.osl 5))], [(5, some ⟨(.row 1 (s.map (AV.int .i64))), false⟩)]⟩) (pre := fun s => s = y20) ?_ ?_
  · rintro x19 rfl
    have h := hk22
    refine a_st (σ' := ⟨[(5, (.osl 5))], [(5, some ⟨(.row 1 (x19.map (AV.int .i64))), false⟩)]⟩) rfl ?_
    refine a_seq ?_
    refine a_region ?_
    refine a_val (v := (.osl 5)) (u := []) rfl trivial rfl ?_
    refine a_val (v := (eSi64 x19)) (u := [(5, some ⟨(.row 1 (x19.map (AV.int .i64))), true⟩)]) rfl trivial rfl ?_
    refine a_nil ?_
    refine a_next rfl ?_
    refine a_ret ?_
    refine ⟨.inr rfl, ?_⟩
    rw [Try.results55]
    cases h
    exact ⟨_, _, _, _, _, rfl, trivial, .inl ⟨rfl, .inl rfl⟩, rfl, rfl⟩
  · have h := hy21
    refine a_block ?_
    refine a_loop (emb := fun (s : (Int × (List Int))) => ⟨[(0, (.int .i64 a0)), (1, (.int .i64 s.1)), (5, (.osl 5))], [(5, some ⟨(.row 1 (s.2.map (AV.int .i64))), false⟩)]⟩) (body := (fun s : (Int × (List Int)) => impl_prime_numbered_l1 a0 s.1 s.2)) (G := fun q => some q = some y20) h rfl ?_ rfl
    rintro X33 ⟨x27, x28⟩ x34 h hX35
    have h : impl_prime_numbered_l1 a0 x27 x28 = some x34 := h
    refine a_st (σ' := ⟨[(0, (.int .i64 a0)), (1, (.int .i64 x27)), (5, (.osl 5))], [(5, some ⟨(.row 1 (x28.map (AV.int .i64))), false⟩)]⟩) rfl ?_
    refine a_seq ?_
    refine a_seq ?_
    refine a_region ?_
    refine a_val (v := (.int .i64 x27)) (u := []) rfl trivial rfl ?_
    refine a_val (v := (.bool ((decide (x27 > 0))))) (u := []) rfl trivial rfl ?_
    refine a_nil ?_
    refine a_next (σ' := ⟨[(0, (.int .i64 a0)), (1, (.int .i64 x27)), (5, (.osl 5)), (7, (.bool ((decide (x27 > 0)))))], [(5, some ⟨(.row 1 (x28.map (AV.int .i64))), false⟩)]⟩) rfl ?_
    cases hb36 : (decide (x27 > 0))
    · have h := ite_f hb36 h
      refine a_cond_f rfl ?_
      refine a_exit ?_
      refine t_exit ?_
      cases h
      have h := hX35
      refine t_exit ?_
      refine b_exit ?_
      exact j_leaf x28 (Option.some.inj h) rfl
    · have h := ite_t hb36 h
      refine a_cond_t rfl ?_
      refine a_skip ?_
      refine a_next (σ' := ⟨[(0, (.int .i64 a0)), (1, (.int .i64 x27)), (5, (.osl 5))], [(5, some ⟨(.row 1 (x28.map (AV.int .i64))), false⟩)]⟩) rfl ?_
      refine a_seq ?_
      refine a_block ?_
      refine a_region ?_
      refine a_val (v := (.osl 5)) (u := []) rfl trivial rfl ?_
      refine a_val (v := (.int .i64 x27)) (u := []) rfl trivial rfl ?_
      refine a_val (v := (.int .i64 a0)) (u := []) rfl trivial rfl ?_
      obtain ⟨hc37, h⟩ := ifp_some h
      refine a_val (v := (.int .i64 (Int.tmod x27 a0))) (u := []) rfl hc37 rfl ?_
      refine a_val (v := (.sl 1 true (([Int.tmod x27 a0]).map (AV.int .i64)))) (u := []) rfl ⟨(Nat.le_of_ble_eq_true rfl), (Nat.le_of_ble_eq_true rfl), (all_cons ⟨(Nat.le_of_ble_eq_true rfl), rfl⟩ all_nil)⟩ rfl ?_
      obtain ⟨hc38, h⟩ := ifp_some h
      refine a_val (v := (.osl 2600)) (u := [(2600, some ⟨(.row 1 (((x28 ++ ([Int.tmod x27 a0]))).map (AV.int .i64))), false⟩), (5, none)]) (app_run (i := ⟨.int .i64, 1, 8, (.int .i64 0)⟩) (f := (AV.int .i64)) (l := x28) (l2 := [Int.tmod x27 a0]) rfl rfl rfl rfl (fun _ => rfl) rfl rfl) (app_c (f := (AV.int .i64)) (s := 1) (sz := 1) (by' := 8) (u := []) (id := 5) hc38 (.inr rfl) rfl rfl rfl) rfl ?_
      refine a_val (v := (.osl 2600)) (u := []) rfl trivial rfl ?_
      refine a_nil ?_
      refine b_norm ?_
      refine a_next (σ' := ⟨[(0, (.int .i64 a0)), (1, (.int .i64 x27)), (5, (.osl 5))], [(5, some ⟨(.row 1 (((x28 ++ ([Int.tmod x27 a0]))).map (AV.int .i64))), false⟩)]⟩) rfl ?_
      refine a_region ?_
      refine a_val (v := (.int .i64 x27)) (u := []) rfl trivial rfl ?_
      refine a_val (v := (.int .i64 a0)) (u := []) rfl trivial rfl ?_
      obtain ⟨hc39, h⟩ := ifp_some h
      refine a_val (v := (.int .i64 (IntKind.i64.wrap (Int.tdiv x27 a0)))) (u := []) rfl hc39 rfl ?_
      refine a_val (v := (.int .i64 (IntKind.i64.wrap (Int.tdiv x27 a0)))) (u := []) rfl trivial rfl ?_
      refine a_nil ?_
      cases h
      exact a_again rfl hX35
def impl_DigitSum_c : ACode := (.seq (.region 0 [⟨some 4, .asg 0 (.const (.int .i64 0)) 2, none, []⟩, ⟨some 5, .asg 0 (.const (.int .i64 0)) 2, none, []⟩] false) (.seq (.seq (.region 1 [⟨some 10, .mov (.tmp 0), none, []⟩, ⟨some 11, .mov (.tmp 1), none, []⟩, ⟨some 12, .call 0 (.func 54) [(.tmp 10), (.tmp 11), (.const (.int .i64 0)), (.const (.int .i64 1000000000000))], none, []⟩, ⟨some 6, .asg 0 (.tmp 12) 2, none, []⟩] false) (.seq (.region 2 [⟨some 13, .mov (.tmp 6), none, []⟩, ⟨some 14, .bin .neq 2 (.tmp 13) (.const (.int .i64 0)), none, []⟩] false) (.cond (.tmp 14) (.seq (.region 3 [⟨some 15, .mov (.tmp 6), none, []⟩, ⟨some 4, .asg 0 (.const (.int .i64 0)) 2, none, []⟩, ⟨some 5, .asg 0 (.tmp 15) 2, none, []⟩] false) .ret) .skip))) (.seq (.region 4 [⟨some 7, .asg 0 (.const (.int .i64 0)) 2, none, []⟩] false) (.seq (.seq (.region 5 [⟨some 16, .mov (.tmp 0), none, []⟩, ⟨some 17, .mov (.tmp 1), none, []⟩, ⟨some 18, .call 0 (.func 55) [(.tmp 16), (.tmp 17)], none, []⟩, ⟨some 19, .blt 0 .len [(.tmp 18)] [66], none, []⟩, ⟨some 20, .mov (.const (.int .i64 0)), none, []⟩] false) (.block 0 (.loop (.seq (.region 6 [⟨some 21, .bin .lss 3 (.tmp 20) (.tmp 19), none, []⟩] false) (.seq (.cond (.tmp 21) .skip (.exit 0)) (.seq (.block 1 (.seq (.region 7 [⟨some 22, .indexAddr 66 (.tmp 18) (.tmp 20), none, []⟩, ⟨some 23, .load 2 (.tmp 22), none, []⟩, ⟨some 9, .asg 0 (.tmp 23) 2, none, []⟩] false) (.region 8 [⟨some 24, .mov (.tmp 7), none, []⟩, ⟨some 25, .mov (.tmp 9), none, []⟩, ⟨some 26, .bin .add 2 (.tmp 24) (.tmp 25), none, []⟩, ⟨some 7, .asg 0 (.tmp 26) 2, none, []⟩] false))) (.region 9 [⟨some 27, .bin .add 3 (.tmp 20) (.const (.int .i64 1)), none, []⟩, ⟨some 20, .mov (.tmp 27), none, []⟩] false))))))) (.seq (.region 10 [⟨some 28, .mov (.tmp 7), none, []⟩, ⟨some 4, .asg 0 (.tmp 28) 2, none, []⟩, ⟨some 5, .asg 0 (.const (.int .i64 0)) 2, none, []⟩] false) .ret)))))
def impl_DigitSum_L : Live := [(0, [0, 1]), (1, [0, 1]), (2, [0, 1, 6]), (3, [6]), (4, [0, 1]), (5, [0, 1, 7]), (6, [7, 18, 19, 20]), (7, [7, 18, 19, 20]), (8, [7, 9, 18, 19, 20]), (9, [7, 18, 19, 20]), (10, [7]), (100014, [0, 1, 6, 14]), (100021, [7, 18, 19, 20, 21])]
theorem impl_DigitSum_body : Try.f19.body = some (Try.f19.body.getD .skip) := by kernel_rfl
theorem impl_DigitSum_strip : strip [] (Try.f19.body.getD .skip) = impl_DigitSum_c := by kernel_rfl
noncomputable def impl_DigitSum_l1 (r25 : (List Int)) (x30 : Int) (x31 : Int) : Option ((Int × Int) ⊕ Int) :=
  (if (decide (x31 < (r25.length : Int))) then (ifp (0 ≤ x31 ∧ x31 < ((r25.length : Nat) : Int)) ((some (.inl ((IntKind.i64.wrap (x30 + (rd r25 x31.toNat)), IntKind.i64.wrap (x31 + 1))))))) else (some (.inr x30)))
noncomputable def impl_DigitSum (a0 : Int) (a1 : Int) : Option (Int × Int) :=
  (Option.bind (impl_numberCode a0 a1 0 1000000000000) fun r1 => (if (r1 != 0) then (some (0, r1)) else (Option.bind ((Option.bind (impl_prime_numbered a0 a1) fun r25 => (loopM (fun s : (Int × Int) => impl_DigitSum_l1 r25 s.1 s.2) (0, 0)))) fun x21 => (some (x21, 0)))))
set_option maxHeartbeats 16000000 in
theorem impl_DigitSum_ok (a0 : Int) (a1 : Int) (r : (Int × Int)) (h : impl_DigitSum a0 a1 = some r) : Den Try.prog 19 [(.int .i64 a0), (.int .i64 a1)] { r := (.tuple [(.int .i64 r.1), (.int .i64 r.2)]) } := by
  refine den_of (rs := [(.int .i64 r.1), (.int .i64 r.2)]) (ac := impl_DigitSum_c) (L := impl_DigitSum_L) (n := 29) (m := []) good Try.func19 impl_DigitSum_body (by kernel_rfl) Try.ntmps19 rfl rfl impl_DigitSum_strip rfl rfl ?_
  refine a_st (σ' := ⟨[(0, (.int .i64 a0)), (1, (.int .i64 a1))], []⟩) rfl ?_
  unfold impl_DigitSum_c
  refine a_seq ?_
  refine a_region ?_
  refine a_val (v := (.int .i64 0)) (u := []) rfl trivial rfl ?_
  refine a_val (v := (.int .i64 0)) (u := []) rfl trivial rfl ?_
  refine a_nil ?_
  refine a_next (σ' := ⟨[(0, (.int .i64 a0)), (1, (.int .i64 a1))], []⟩) rfl ?_
  refine a_seq ?_
  refine a_seq ?_
  refine a_region ?_
  refine a_val (v := (.int .i64 a0)) (u := []) rfl trivial rfl ?_
  refine a_val (v := (.int .i64 a1)) (u := []) rfl trivial rfl ?_
  obtain ⟨r1, hr2, h⟩ := bind_some h
  refine a_call (args := [(.int .i64 a0), (.int .i64 a1), (.int .i64 0), (.int .i64 1000000000000)]) (u := []) (r := (.int .i64 r1)) rfl rfl (impl_numberCode_ok a0 a1 0 1000000000000 r1 hr2) rfl ?_
  refine a_val (v := (.int .i64 r1)) (u := []) rfl trivial rfl ?_
  refine a_nil ?_
  refine a_next (σ' := ⟨[(0, (.int .i64 a0)), (1, (.int .i64 a1)), (6, (.int .i64 r1))], []⟩) rfl ?_
  refine a_seq ?_
  refine a_region ?_
  refine a_val (v := (.int .i64 r1)) (u := []) rfl trivial rfl ?_
  refine a_val (v := (.bool (r1 != 0))) (u := []) rfl trivial rfl ?_
  refine a_nil ?_
  refine a_next (σ' := ⟨[(0, (.int .i64 a0)), (1, (.int .i64 a1)), (6, (.int .i64 r1)), (14, (.bool (r1 != 0)))], []⟩) rfl ?_
  cases hb3 : (r1 != 0)
  · have h := ite_f hb3 h
    refine a_cond_f rfl ?_
    refine a_skip ?_
    refine a_next (σ' := ⟨[(0, (.int .i64 a0)), (1, (.int .i64 a1))], []⟩) rfl ?_
    refine a_seq ?_
    refine a_region ?_
    refine a_val (v := (.int .i64 0)) (u := []) rfl trivial rfl ?_
    refine a_nil ?_
    refine a_next (σ' := ⟨[(0, (.int .i64 a0)), (1, (.int .i64 a1)), (7, (.int .i64 0))], []⟩) rfl ?_
    obtain ⟨y22, hy23, hk24⟩ := bind_some h
    clear h
    refine a_join (emb := fun (s : Int) => ⟨[(7, (.int .i64 s))], []⟩) (pre := fun s => s = y22) ?_ ?_
    · rintro x21 rfl
      have h := hk24
      refine a_st (σ' := ⟨[(7, (.int .i64 x21))], []⟩) rfl ?_
      refine a_seq ?_
      refine a_region ?_
      refine a_val (v := (.int .i64 x21)) (u := []) rfl trivial rfl ?_
      refine a_val (v := (.int .i64 x21)) (u := []) rfl trivial rfl ?_
      refine a_val (v := (.int .i64 0)) (u := []) rfl trivial rfl ?_
      refine a_nil ?_
      refine a_next rfl ?_
      refine a_ret ?_
      refine ⟨.inr rfl, ?_⟩
      rw [Try.results19]
      cases h
      exact ⟨_, _, _, _, _, rfl, trivial, .inl ⟨rfl, .inl rfl⟩, rfl, ⟨_, _, _, _, _, rfl, trivial, .inl ⟨rfl, .inl rfl⟩, rfl, rfl⟩⟩
    · have h := hy23
      refine a_seq ?_
      refine a_region ?_
      refine a_val (v := (.int .i64 a0)) (u := []) rfl trivial rfl ?_
      refine a_val (v := (.int .i64 a1)) (u := []) rfl trivial rfl ?_
      obtain ⟨r25, hr26, h⟩ := bind_some h
      refine a_call (args := [(.int .i64 a0), (.int .i64 a1)]) (u := []) (r := (eSi64 r25)) rfl rfl (impl_prime_numbered_ok a0 a1 r25 hr26) rfl ?_
      refine a_val (v := (.int .i64 (r25.length : Int))) (u := []) (len_run rfl rfl) trivial rfl ?_
      refine a_val (v := (.int .i64 0)) (u := []) rfl trivial rfl ?_
      refine a_nil ?_
      refine a_next (σ' := ⟨[(7, (.int .i64 0)), (18, (eSi64 r25)), (19, (.int .i64 (r25.length : Int))), (20, (.int .i64 0))], []⟩) rfl ?_
      refine a_block ?_
      refine a_loop (emb := fun (s : (Int × Int)) => ⟨[(7, (.int .i64 s.1)), (18, (eSi64 r25)), (19, (.int .i64 (r25.length : Int))), (20, (.int .i64 s.2))], []⟩) (body := (fun s : (Int × Int) => impl_DigitSum_l1 r25 s.1 s.2)) (G := fun q => some q = some y22) h rfl ?_ rfl
      rintro X35 ⟨x30, x31⟩ x36 h hX37
      have h : impl_DigitSum_l1 r25 x30 x31 = some x36 := h
      refine a_st (σ' := ⟨[(7, (.int .i64 x30)), (18, (eSi64 r25)), (19, (.int .i64 (r25.length : Int))), (20, (.int .i64 x31))], []⟩) rfl ?_
      refine a_seq ?_
      refine a_region ?_
      refine a_val (v := (.bool ((decide (x31 < (r25.length : Int)))))) (u := []) rfl trivial rfl ?_
      refine a_nil ?_
      refine a_next (σ' := ⟨[(7, (.int .i64 x30)), (18, (eSi64 r25)), (19, (.int .i64 (r25.length : Int))), (20, (.int .i64 x31)), (21, (.bool ((decide (x31 < (r25.length : Int))))))], []⟩) rfl ?_
      refine a_seq ?_
      cases hb38 : (decide (x31 < (r25.length : Int)))
      · have h := ite_f hb38 h
        refine a_cond_f rfl ?_
        refine a_exit ?_
        refine t_exit ?_
        cases h
        have h := hX37
        refine t_exit ?_
        refine b_exit ?_
        exact j_leaf x30 (Option.some.inj h) rfl
      · have h := ite_t hb38 h
        refine a_cond_t rfl ?_
        refine a_skip ?_
        refine a_next (σ' := ⟨[(7, (.int .i64 x30)), (18, (eSi64 r25)), (19, (.int .i64 (r25.length : Int))), (20, (.int .i64 x31))], []⟩) rfl ?_
        refine a_seq ?_
        refine a_block ?_
        refine a_seq ?_
        refine a_region ?_
        obtain ⟨hc39, h⟩ := ifp_some h
        refine a_val (v := (.ref (.row 1 (r25.map (AV.int .i64))) [x31.toNat] [x31.toNat * 1])) (u := []) rfl (lmap hc39) rfl ?_
        have hl40 : LdOk [x31.toNat] (.row 1 (r25.map (AV.int .i64))) [x31.toNat * 1] 1 false (.int .i64 (rd r25 x31.toNat)) := (.row (llt hc39) rfl (.nil rfl rfl rfl))
        refine a_val (v := (.int .i64 (rd r25 x31.toNat))) (u := []) (ld_ref (i := ⟨.int .i64, 1, 8, (.int .i64 0)⟩) rfl rfl hl40) hl40.c rfl ?_
        refine a_val (v := (.int .i64 (rd r25 x31.toNat))) (u := []) rfl trivial rfl ?_
        refine a_nil ?_
        refine a_next (σ' := ⟨[(7, (.int .i64 x30)), (9, (.int .i64 (rd r25 x31.toNat))), (18, (eSi64 r25)), (19, (.int .i64 (r25.length : Int))), (20, (.int .i64 x31))], []⟩) rfl ?_
        refine a_region ?_
        refine a_val (v := (.int .i64 x30)) (u := []) rfl trivial rfl ?_
        refine a_val (v := (.int .i64 (rd r25 x31.toNat))) (u := []) rfl trivial rfl ?_
        refine a_val (v := (.int .i64 (IntKind.i64.wrap (x30 + (rd r25 x31.toNat))))) (u := []) rfl trivial rfl ?_
        refine a_val (v := (.int .i64 (IntKind.i64.wrap (x30 + (rd r25 x31.toNat))))) (u := []) rfl trivial rfl ?_
        refine a_nil ?_
        refine b_norm ?_
        refine a_next (σ' := ⟨[(7, (.int .i64 (IntKind.i64.wrap (x30 + (rd r25 x31.toNat))))), (18, (eSi64 r25)), (19, (.int .i64 (r25.length : Int))), (20, (.int .i64 x31))], []⟩) rfl ?_
        refine a_region ?_
        refine a_val (v := (.int .i64 (IntKind.i64.wrap (x31 + 1)))) (u := []) rfl trivial rfl ?_
        refine a_val (v := (.int .i64 (IntKind.i64.wrap (x31 + 1)))) (u := []) rfl trivial rfl ?_
        refine a_nil ?_
        cases h
        exact a_again rfl hX37
  · have h := ite_t hb3 h
    refine a_cond_t rfl ?_
    refine a_seq ?_
    refine a_region ?_
    refine a_val (v := (.int .i64 r1)) (u := []) rfl trivial rfl ?_
    refine a_val (v := (.int .i64 0)) (u := []) rfl trivial rfl ?_
    refine a_val (v := (.int .i64 r1)) (u := []) rfl trivial rfl ?_
    refine a_nil ?_
    refine a_next rfl ?_
    refine a_ret ?_
    refine t_ret ?_
    refine ⟨.inr rfl, ?_⟩
    rw [Try.results19]
    cases h
    exact ⟨_, _, _, _, _, rfl, trivial, .inl ⟨rfl, .inl rfl⟩, rfl, ⟨_, _, _, _, _, rfl, trivial, .inl ⟨rfl, .inl rfl⟩, rfl, rfl⟩⟩
def laws_FnExactDigitSum_c : ACode := (.seq (.region 0 [⟨some 4, .asg 0 (.const (.bool false)) 4, none, []⟩] false) (.seq (.region 1 [⟨some 10, .mov (.tmp 0), none, []⟩, ⟨some 11, .mov (.tmp 1), none, []⟩, ⟨some 12, .call 0 (.func 18) [(.tmp 10), (.tmp 11)], none, []⟩, ⟨some 9, .mov (.tmp 12), none, []⟩, ⟨some 13, .extract (.tmp 9) 0, none, []⟩, ⟨some 14, .extract (.tmp 9) 1, none, []⟩, ⟨some 5, .asg 0 (.tmp 13) 2, none, []⟩, ⟨some 6, .asg 0 (.tmp 14) 2, none, []⟩] false) (.seq (.region 2 [⟨some 16, .mov (.tmp 0), none, []⟩, ⟨some 17, .mov (.tmp 1), none, []⟩, ⟨some 18, .call 0 (.func 19) [(.tmp 16), (.tmp 17)], none, []⟩, ⟨some 15, .mov (.tmp 18), none, []⟩, ⟨some 19, .extract (.tmp 15) 0, none, []⟩, ⟨some 20, .extract (.tmp 15) 1, none, []⟩, ⟨some 7, .asg 0 (.tmp 19) 2, none, []⟩, ⟨some 8, .asg 0 (.tmp 20) 2, none, []⟩] false) (.seq (.seq (.region 3 [⟨some 21, .mov (.tmp 7), none, []⟩, ⟨some 22, .mov (.tmp 5), none, []⟩, ⟨some 23, .bin .neq 2 (.tmp 21) (.tmp 22), none, []⟩, ⟨some 24, .mov (.tmp 23), none, []⟩, ⟨some 25, .mov (.tmp 8), some (24, false), []⟩, ⟨some 26, .mov (.tmp 6), some (24, false), []⟩, ⟨some 27, .bin .neq 2 (.tmp 25) (.tmp 26), some (24, false), []⟩, ⟨some 28, .pick (.tmp 24) (.const (.bool true)) (.tmp 27), none, []⟩] false) (.cond (.tmp 28) (.seq (.region 4 [⟨some 4, .asg 0 (.const (.bool false)) 4, none, []⟩] false) .ret) .skip)) (.seq (.region 5 [⟨some 4, .asg 0 (.const (.bool true)) 4, none, []⟩] false) .ret)))))
def laws_FnExactDigitSum_L : Live := [(0, [0, 1]), (1, [0, 1]), (2, [0, 1, 5, 6]), (3, [5, 6, 7, 8]), (4, []), (5, []), (100028, [28])]
theorem laws_FnExactDigitSum_body : Try.f4.body = some (Try.f4.body.getD .skip) := by kernel_rfl
theorem laws_FnExactDigitSum_strip : strip [] (Try.f4.body.getD .skip) = laws_FnExactDigitSum_c := by kernel_rfl
noncomputable def laws_FnExactDigitSum (a0 : Int) (a1 : Int) : Option Bool :=
  (Option.bind (spec_DigitSum a0 a1) fun r1 => (Option.bind (impl_DigitSum a0 a1) fun r3 => (Option.bind ((if (r3.1 != r1.1) then (some true) else (some (r3.2 != r1.2)))) fun x6 => (if x6 then (some false) else (some true)))))
set_option maxHeartbeats 16000000 in
theorem laws_FnExactDigitSum_ok (a0 : Int) (a1 : Int) (r : Bool) (h : laws_FnExactDigitSum a0 a1 = some r) : Den Try.prog 4 [(.int .i64 a0), (.int .i64 a1)] { r := (.bool r) } := by
  refine den_of (rs := [(.bool r)]) (ac := laws_FnExactDigitSum_c) (L := laws_FnExactDigitSum_L) (n := 29) (m := []) good Try.func4 laws_FnExactDigitSum_body (by kernel_rfl) Try.ntmps4 rfl rfl laws_FnExactDigitSum_strip rfl rfl ?_
  refine a_st (σ' := ⟨[(0, (.int .i64 a0)), (1, (.int .i64 a1))], []⟩) rfl ?_
  unfold laws_FnExactDigitSum_c
  refine a_seq ?_
  refine a_region ?_
  refine a_val (v := (.bool false)) (u := []) rfl trivial rfl ?_
  refine a_nil ?_
  refine a_next (σ' := ⟨[(0, (.int .i64 a0)), (1, (.int .i64 a1))], []⟩) rfl ?_
  refine a_seq ?_
  refine a_region ?_
  refine a_val (v := (.int .i64 a0)) (u := []) rfl trivial rfl ?_
  refine a_val (v := (.int .i64 a1)) (u := []) rfl trivial rfl ?_
  obtain ⟨r1, hr2, h⟩ := bind_some h
  refine a_call (args := [(.int .i64 a0), (.int .i64 a1)]) (u := []) (r := (.tuple [(.int .i64 r1.1), (.int .i64 r1.2)])) rfl rfl (spec_DigitSum_ok a0 a1 r1 hr2) rfl ?_
  refine a_val (v := (.tuple [(.int .i64 r1.1), (.int .i64 r1.2)])) (u := []) rfl trivial rfl ?_
  refine a_val (v := (.int .i64 r1.1)) (u := []) rfl (Nat.le_of_ble_eq_true rfl) rfl ?_
  refine a_val (v := (.int .i64 r1.2)) (u := []) rfl (Nat.le_of_ble_eq_true rfl) rfl ?_
  refine a_val (v := (.int .i64 r1.1)) (u := []) rfl trivial rfl ?_
  refine a_val (v := (.int .i64 r1.2)) (u := []) rfl trivial rfl ?_
  refine a_nil ?_
  refine a_next (σ' := ⟨[(0, (.int .i64 a0)), (1, (.int .i64 a1)), (5, (.int .i64 r1.1)), (6, (.int .i64 r1.2))], []⟩) rfl ?_
  refine a_seq ?_
  refine a_region ?_
  refine a_val (v := (.int .i64 a0)) (u := []) rfl trivial rfl ?_
  refine a_val (v := (.int .i64 a1)) (u := []) rfl trivial rfl ?_
  obtain ⟨r3, hr4, h⟩ := bind_some h
  refine a_call (args := [(.int .i64 a0), (.int .i64 a1)]) (u := []) (r := (.tuple [(.int .i64 r3.1), (.int .i64 r3.2)])) rfl rfl (impl_DigitSum_ok a0 a1 r3 hr4) rfl ?_
  refine a_val (v := (.tuple [(.int .i64 r3.1), (.int .i64 r3.2)])) (u := []) rfl trivial rfl ?_
  refine a_val (v := (.int .i64 r3.1)) (u := []) rfl (Nat.le_of_ble_eq_true rfl) rfl ?_
  refine a_val (v := (.int .i64 r3.2)) (u := []) rfl (Nat.le_of_ble_eq_true rfl) rfl ?_
  refine a_val (v := (.int .i64 r3.1)) (u := []) rfl trivial rfl ?_
  refine a_val (v := (.int .i64 r3.2)) (u := []) rfl trivial rfl ?_
  refine a_nil ?_
  refine a_next (σ' := ⟨[(5, (.int .i64 r1.1)), (6, (.int .i64 r1.2)), (7, (.int .i64 r3.1)), (8, (.int .i64 r3.2))], []⟩) rfl ?_
  refine a_seq ?_
  obtain ⟨y7, hy8, hk9⟩ := bind_some h
  clear h
  refine a_join (emb := fun (s : Bool) => ⟨[(28, (.bool s))], []⟩) (pre := fun s => s = y7) ?_ ?_
  · rintro x6 rfl
    have h := hk9
    refine a_st (σ' := ⟨[(28, (.bool x6))], []⟩) rfl ?_
    cases hb11 : x6
    · have h := ite_f hb11 h
      refine a_cond_f rfl ?_
      refine a_skip ?_
      refine a_next (σ' := ⟨[], []⟩) rfl ?_
      refine a_seq ?_
      refine a_region ?_
      refine a_val (v := (.bool true)) (u := []) rfl trivial rfl ?_
      refine a_nil ?_
      refine a_next rfl ?_
      refine a_ret ?_
      refine ⟨.inr rfl, ?_⟩
      rw [Try.results4]
      cases h
      exact ⟨_, _, _, _, _, rfl, trivial, .inl ⟨rfl, .inl rfl⟩, rfl, rfl⟩
    · have h := ite_t hb11 h
      refine a_cond_t rfl ?_
      refine a_seq ?_
      refine a_region ?_
      refine a_val (v := (.bool false)) (u := []) rfl trivial rfl ?_
      refine a_nil ?_
      refine a_next rfl ?_
      refine a_ret ?_
      refine t_ret ?_
      refine ⟨.inr rfl, ?_⟩
      rw [Try.results4]
      cases h
      exact ⟨_, _, _, _, _, rfl, trivial, .inl ⟨rfl, .inl rfl⟩, rfl, rfl⟩
  · have h := hy8
    refine a_region ?_
    refine a_val (v := (.int .i64 r3.1)) (u := []) rfl trivial rfl ?_
    refine a_val (v := (.int .i64 r1.1)) (u := []) rfl trivial rfl ?_
    refine a_val (v := (.bool (r3.1 != r1.1))) (u := []) rfl trivial rfl ?_
    refine a_val (v := (.bool (r3.1 != r1.1))) (u := []) rfl trivial rfl ?_
    cases hb10 : (r3.1 != r1.1)
    · have h := ite_f hb10 h
      refine a_gval rfl (v := (.int .i64 r3.2)) (u := []) rfl trivial rfl ?_
      refine a_gval rfl (v := (.int .i64 r1.2)) (u := []) rfl trivial rfl ?_
      refine a_gval rfl (v := (.bool (r3.2 != r1.2))) (u := []) rfl trivial rfl ?_
      refine a_val (v := (.bool (r3.2 != r1.2))) (u := []) rfl trivial rfl ?_
      refine a_nil ?_
      exact j_leaf (r3.2 != r1.2) (Option.some.inj h) rfl
    · have h := ite_t hb10 h
      refine a_gskip rfl ?_
      refine a_gskip rfl ?_
      refine a_gskip rfl ?_
      refine a_val (v := (.bool true)) (u := []) rfl trivial rfl ?_
      refine a_nil ?_
      exact j_leaf true (Option.some.inj h) rfl
def spec_l01Of_c : ACode := (.seq (.region 0 [⟨some 4, .alloc 23, none, []⟩] false) (.seq (.region 1 [⟨some 7, .build 23 [], none, []⟩, ⟨some 5, .alloc 23, none, []⟩, ⟨none, .store 23 (.tmp 5) (.tmp 7), none, []⟩] false) (.seq (.seq (.region 2 [⟨some 6, .asg 0 (.const (.int .i64 0)) 3, none, []⟩] false) (.block 0 (.loop (.seq (.seq (.region 3 [⟨some 8, .mov (.tmp 1), none, []⟩, ⟨some 9, .bin .gtr 2 (.tmp 8) (.const (.int .i64 0)), none, []⟩] false) (.cond (.tmp 9) .skip (.exit 0))) (.seq (.block 1 (.seq (.region 5 [⟨some 12, .mov (.tmp 6), none, []⟩, ⟨some 13, .mov (.tmp 1), none, []⟩, ⟨some 14, .mov (.tmp 0), none, []⟩, ⟨some 15, .bin .rem 2 (.tmp 13) (.tmp 14), none, []⟩, ⟨some 16, .conv 2 5 (.tmp 15), none, []⟩, ⟨some 17, .indexAddr 23 (.tmp 5) (.tmp 12), none, []⟩, ⟨none, .store 5 (.tmp 17) (.tmp 16), none, []⟩] false) (.region 6 [⟨some 18, .mov (.tmp 1), none, []⟩, ⟨some 19, .mov (.tmp 0), none, []⟩, ⟨some 20, .bin .quo 2 (.tmp 18) (.tmp 19), none, []⟩, ⟨some 1, .asg 0 (.tmp 20) 2, none, []⟩] false))) (.region 4 [⟨some 10, .mov (.tmp 6), none, []⟩, ⟨some 11, .bin .add 3 (.tmp 10) (.const (.int .i64 1)), none, []⟩, ⟨some 6, .asg 0 (.tmp 11) 3, none, []⟩] false)))))) (.seq (.region 7 [⟨some 21, .load 23 (.tmp 5), none, []⟩, ⟨none, .store 23 (.tmp 4) (.tmp 21), none, []⟩] false) .ret))))
def spec_l01Of_L : Live := [(0, [0, 1]), (1, [0, 1, 4]), (2, [0, 1, 4, 5]), (3, [0, 1, 4, 5, 6]), (4, [0, 1, 4, 5, 6]), (5, [0, 1, 4, 5, 6]), (6, [0, 1, 4, 5, 6]), (7, [4, 5]), (100009, [0, 1, 4, 5, 6, 9])]
theorem spec_l01Of_body : Try.f58.body = some (Try.f58.body.getD .skip) := by kernel_rfl
theorem spec_l01Of_strip : strip [] (Try.f58.body.getD .skip) = spec_l01Of_c := by kernel_rfl
noncomputable def spec_l01Of_l1 (a0 : Int) (x33 : Int) (x34 : Int) (x35 : (Vec Int 64)) : Option ((Int × Int × (Vec Int 64)) ⊕ (Vec Int 64)) :=
  (if (decide (x33 > 0)) then (ifp (a0 ≠ 0) ((ifp (0 ≤ x34 ∧ x34 < ((64 : Nat) : Int)) ((ifp (a0 ≠ 0) ((some (.inl ((IntKind.i64.wrap (Int.tdiv x33 a0), IntKind.i64.wrap (x34 + 1), (vset x35 x34.toNat (IntKind.u8.wrap (Int.tmod x33 a0))))))))))))) else (some (.inr x35)))
noncomputable def spec_l01Of (a0 : Int) (a1 : Int) : Option (Vec Int 64) :=
  (Option.bind ((loopM (fun s : (Int × Int × (Vec Int 64)) => spec_l01Of_l1 a0 s.1 s.2.1 s.2.2) (a1, 0, (vrep 64 (0 : Int))))) fun x24 => (some x24))
set_option maxHeartbeats 16000000 in
theorem spec_l01Of_ok (a0 : Int) (a1 : Int) (r : (Vec Int 64)) (h : spec_l01Of a0 a1 = some r) : Den Try.prog 58 [(.int .i64 a0), (.int .i64 a1)] { r := (eA64u8 r) } := by
  refine den_of (rs := [(eA64u8 r)]) (ac := spec_l01Of_c) (L := spec_l01Of_L) (n := 22) (m := []) good Try.func58 spec_l01Of_body (by kernel_rfl) Try.ntmps58 rfl rfl spec_l01Of_strip rfl rfl ?_
  refine a_st (σ' := ⟨[(0, (.int .i64 a0)), (1, (.int .i64 a1))], []⟩) rfl ?_
  unfold spec_l01Of_c
  refine a_seq ?_
  refine a_region ?_
  refine a_val (v := (.own 1400 [] [])) (u := [(1400, some ⟨(eA64u8 ((vrep 64 (0 : Int)))), false⟩)]) rfl trivial rfl ?_
  refine a_nil ?_
  refine a_next (σ' := ⟨[(0, (.int .i64 a0)), (1, (.int .i64 a1)), (4, (.own 4 [] []))], [(4, some ⟨(eA64u8 ((vrep 64 (0 : Int)))), false⟩)]⟩) rfl ?_
  refine a_seq ?_
  refine a_region ?_
  refine a_val (v := (eA64u8 ((vrep 64 (0 : Int))))) (u := []) rfl ⟨⟨_, rfl, rfl⟩, all_nil⟩ rfl ?_
  refine a_val (v := (.own 1500 [] [])) (u := [(1500, some ⟨(eA64u8 ((vrep 64 (0 : Int)))), false⟩)]) rfl trivial rfl ?_
  have hs1 : StOk [] (eA64u8 ((vrep 64 (0 : Int)))) [] 64 (eA64u8 ((vrep 64 (0 : Int)))) (eA64u8 ((vrep 64 (0 : Int)))) := (.nil rfl rfl rfl rfl)
  refine a_val (v := .top) (u := [(1500, some ⟨(eA64u8 ((vrep 64 (0 : Int)))), false⟩)]) (st_own (i := ⟨.arr 64 5, 64, 64, (eA64u8 (vrep 64 (0 : Int)))⟩) rfl rfl (fun _ => rfl) rfl hs1) (hs1.c rfl) rfl ?_
  refine a_nil ?_
  refine a_next (σ' := ⟨[(0, (.int .i64 a0)), (1, (.int .i64 a1)), (4, (.own 4 [] [])), (5, (.own 5 [] []))], [(4, some ⟨(eA64u8 ((vrep 64 (0 : Int)))), false⟩), (5, some ⟨(eA64u8 ((vrep 64 (0 : Int)))), false⟩)]⟩) rfl ?_
  obtain ⟨y25, hy26, hk27⟩ := bind_some h
  clear h
  refine a_join (emb := fun (s : (Vec Int 64)) => ⟨[(4, (.own 4 [] [])), (5, (.own 5 [] []))], [(4, some ⟨(eA64u8 ((vrep 64 (0 : Int)))), false⟩), (5, some ⟨(eA64u8 s), false⟩)]⟩) (pre := fun s => s = y25) ?_ ?_
  · rintro x24 rfl
    have h := hk27
    refine a_st (σ' := ⟨[(4, (.own 4 [] [])), (5, (.own 5 [] []))], [(4, some ⟨(eA64u8 ((vrep 64 (0 : Int)))), false⟩), (5, some ⟨(eA64u8 x24), false⟩)]⟩) rfl ?_
    refine a_seq ?_
    refine a_region ?_
    have hl50 : LdOk [] (eA64u8 x24) [] 64 true (eA64u8 x24) := (.nil rfl rfl rfl)
    refine a_val (v := (eA64u8 x24)) (u := []) (ld_own (i := ⟨.arr 64 5, 64, 64, (eA64u8 (vrep 64 (0 : Int)))⟩) rfl rfl rfl hl50) hl50.c rfl ?_
    have hs51 : StOk [] (eA64u8 ((vrep 64 (0 : Int)))) [] 64 (eA64u8 x24) (eA64u8 x24) := (.nil rfl rfl rfl rfl)
    refine a_val (v := .top) (u := [(4, some ⟨(eA64u8 x24), false⟩)]) (st_own (i := ⟨.arr 64 5, 64, 64, (eA64u8 (vrep 64 (0 : Int)))⟩) rfl rfl (fun _ => rfl) rfl hs51) (hs51.c rfl) rfl ?_
    refine a_nil ?_
    refine a_next rfl ?_
    refine a_ret ?_
    have hl52 : LdOk [] (eA64u8 x24) [] 64 true (eA64u8 x24) := (.nil rfl rfl rfl)
    refine ⟨.inr rfl, ?_⟩
    rw [Try.results58]
    cases h
    exact ⟨_, _, _, _, _, ld_own (i := ⟨.arr 64 5, 64, 64, (eA64u8 (vrep 64 (0 : Int)))⟩) rfl rfl rfl hl52, hl52.c, .inl ⟨rfl, .inl rfl⟩, rfl, rfl⟩
  · have h := hy26
    refine a_seq ?_
    refine a_region ?_
    refine a_val (v := (.int .i64 0)) (u := []) rfl trivial rfl ?_
    refine a_nil ?_
    refine a_next (σ' := ⟨[(0, (.int .i64 a0)), (1, (.int .i64 a1)), (4, (.own 4 [] [])), (5, (.own 5 [] [])), (6, (.int .i64 0))], [(4, some ⟨(eA64u8 ((vrep 64 (0 : Int)))), false⟩), (5, some ⟨(eA64u8 ((vrep 64 (0 : Int)))), false⟩)]⟩) rfl ?_
    refine a_block ?_
    refine a_loop (emb := fun (s : (Int × Int × (Vec Int 64))) => ⟨[(0, (.int .i64 a0)), (1, (.int .i64 s.1)), (4, (.own 4 [] [])), (5, (.own 5 [] [])), (6, (.int .i64 s.2.1))], [(4, some ⟨(eA64u8 ((vrep 64 (0 : Int)))), false⟩), (5, some ⟨(eA64u8 s.2.2), false⟩)]⟩) (body := (fun s : (Int × Int × (Vec Int 64)) => spec_l01Of_l1 a0 s.1 s.2.1 s.2.2)) (G := fun q => some q = some y25) h rfl ?_ rfl
    rintro X41 ⟨x33, x34, x35⟩ x42 h hX43
    have h : spec_l01Of_l1 a0 x33 x34 x35 = some x42 := h
    refine a_st (σ' := ⟨[(0, (.int .i64 a0)), (1, (.int .i64 x33)), (4, (.own 4 [] [])), (5, (.own 5 [] [])), (6, (.int .i64 x34))], [(4, some ⟨(eA64u8 ((vrep 64 (0 : Int)))), false⟩), (5, some ⟨(eA64u8 x35), false⟩)]⟩) rfl ?_
    refine a_seq ?_
    refine a_seq ?_
    refine a_region ?_
    refine a_val (v := (.int .i64 x33)) (u := []) rfl trivial rfl ?_
    refine a_val (v := (.bool ((decide (x33 > 0))))) (u := []) rfl trivial rfl ?_
    refine a_nil ?_
    refine a_next (σ' := ⟨[(0, (.int .i64 a0)), (1, (.int .i64 x33)), (4, (.own 4 [] [])), (5, (.own 5 [] [])), (6, (.int .i64 x34)), (9, (.bool ((decide (x33 > 0)))))], [(4, some ⟨(eA64u8 ((vrep 64 (0 : Int)))), false⟩), (5, some ⟨(eA64u8 x35), false⟩)]⟩) rfl ?_
    cases hb44 : (decide (x33 > 0))
    · have h := ite_f hb44 h
      refine a_cond_f rfl ?_
      refine a_exit ?_
      refine t_exit ?_
      cases h
      have h := hX43
      refine t_exit ?_
      refine b_exit ?_
      exact j_leaf x35 (Option.some.inj h) rfl
    · have h := ite_t hb44 h
      refine a_cond_t rfl ?_
      refine a_skip ?_
      refine a_next (σ' := ⟨[(0, (.int .i64 a0)), (1, (.int .i64 x33)), (4, (.own 4 [] [])), (5, (.own 5 [] [])), (6, (.int .i64 x34))], [(4, some ⟨(eA64u8 ((vrep 64 (0 : Int)))), false⟩), (5, some ⟨(eA64u8 x35), false⟩)]⟩) rfl ?_
      refine a_seq ?_
      refine a_block ?_
      refine a_seq ?_
      refine a_region ?_
      refine a_val (v := (.int .i64 x34)) (u := []) rfl trivial rfl ?_
      refine a_val (v := (.int .i64 x33)) (u := []) rfl trivial rfl ?_
      refine a_val (v := (.int .i64 a0)) (u := []) rfl trivial rfl ?_
      obtain ⟨hc45, h⟩ := ifp_some h
      refine a_val (v := (.int .i64 (Int.tmod x33 a0))) (u := []) rfl hc45 rfl ?_
      refine a_val (v := (.int .u8 (IntKind.u8.wrap (Int.tmod x33 a0)))) (u := []) rfl trivial rfl ?_
      obtain ⟨hc46, h⟩ := ifp_some h
      refine a_val (v := (.own 5 [x34.toNat] [x34.toNat * 1])) (u := []) rfl hc46 rfl ?_
      have hs47 : StOk [x34.toNat] (eA64u8 x35) [x34.toNat * 1] 1 (.int .u8 (IntKind.u8.wrap (Int.tmod x33 a0))) (eA64u8 ((vset x35 x34.toNat (IntKind.u8.wrap (Int.tmod x33 a0))))) := (.arr (y := IntKind.u8.wrap (Int.tmod x33 a0)) (vlt x35 hc46) rfl (.nil rfl rfl rfl rfl))
      refine a_val (v := .top) (u := [(5, some ⟨(eA64u8 ((vset x35 x34.toNat (IntKind.u8.wrap (Int.tmod x33 a0))))), false⟩)]) (st_own (i := ⟨.int .u8, 1, 1, (.int .u8 0)⟩) rfl rfl (fun _ => rfl) rfl hs47) (hs47.c rfl) rfl ?_
      refine a_nil ?_
      refine a_next (σ' := ⟨[(0, (.int .i64 a0)), (1, (.int .i64 x33)), (4, (.own 4 [] [])), (5, (.own 5 [] [])), (6, (.int .i64 x34))], [(4, some ⟨(eA64u8 ((vrep 64 (0 : Int)))), false⟩), (5, some ⟨(eA64u8 ((vset x35 x34.toNat (IntKind.u8.wrap (Int.tmod x33 a0))))), false⟩)]⟩) rfl ?_
      refine a_region ?_
      refine a_val (v := (.int .i64 x33)) (u := []) rfl trivial rfl ?_
      refine a_val (v := (.int .i64 a0)) (u := []) rfl trivial rfl ?_
      obtain ⟨hc48, h⟩ := ifp_some h
      refine a_val (v := (.int .i64 (IntKind.i64.wrap (Int.tdiv x33 a0)))) (u := []) rfl hc48 rfl ?_
      refine a_val (v := (.int .i64 (IntKind.i64.wrap (Int.tdiv x33 a0)))) (u := []) rfl trivial rfl ?_
      refine a_nil ?_
      refine b_norm ?_
      refine a_next (σ' := ⟨[(0, (.int .i64 a0)), (1, (.int .i64 (IntKind.i64.wrap (Int.tdiv x33 a0)))), (4, (.own 4 [] [])), (5, (.own 5 [] [])), (6, (.int .i64 x34))], [(4, some ⟨(eA64u8 ((vrep 64 (0 : Int)))), false⟩), (5, some ⟨(eA64u8 ((vset x35 x34.toNat (IntKind.u8.wrap (Int.tmod x33 a0))))), false⟩)]⟩) rfl ?_
      refine a_region ?_
      refine a_val (v := (.int .i64 x34)) (u := []) rfl trivial rfl ?_
      refine a_val (v := (.int .i64 (IntKind.i64.wrap (x34 + 1)))) (u := []) rfl trivial rfl ?_
      refine a_val (v := (.int .i64 (IntKind.i64.wrap (x34 + 1)))) (u := []) rfl trivial rfl ?_
      refine a_nil ?_
      cases h
      exact a_again rfl hX43
def spec_PolyOfNumber_c : ACode := (.seq (.region 0 [⟨some 4, .alloc 23, none, []⟩, ⟨some 5, .asg 0 (.const (.int .i64 0)) 2, none, []⟩] false) (.seq (.block 0 (.seq (.region 1 [⟨some 7, .mov (.tmp 0), none, []⟩, ⟨some 8, .call 0 (.func 56) [(.tmp 7)], none, []⟩, ⟨some 9, .un .not (.tmp 8), none, []⟩, ⟨some 6, .asg 0 (.tmp 9) 4, none, []⟩] false) (.cond (.tmp 6) (.seq (.region 2 [⟨some 10, .build 23 [], none, []⟩, ⟨none, .store 23 (.tmp 4) (.tmp 10), none, []⟩, ⟨some 5, .asg 0 (.const (.int .i64 1)) 2, none, []⟩] false) .ret) (.seq (.region 3 [⟨some 12, .mov (.tmp 1), none, []⟩, ⟨some 13, .call 0 (.func 57) [(.tmp 12), (.const (.int .i64 0)), (.const (.int .i64 1000000000000))], none, []⟩, ⟨some 14, .un .not (.tmp 13), none, []⟩, ⟨some 11, .asg 0 (.tmp 14) 4, none, []⟩] false) (.cond (.tmp 11) (.seq (.region 4 [⟨some 15, .build 23 [], none, []⟩, ⟨none, .store 23 (.tmp 4) (.tmp 15), none, []⟩, ⟨some 5, .asg 0 (.const (.int .i64 2)) 2, none, []⟩] false) .ret) .skip))))) (.seq (.region 5 [⟨some 16, .mov (.tmp 0), none, []⟩, ⟨some 17, .mov (.tmp 1), none, []⟩, ⟨some 18, .call 0 (.func 58) [(.tmp 16), (.tmp 17)], none, []⟩, ⟨none, .store 23 (.tmp 4) (.tmp 18), none, []⟩, ⟨some 5, .asg 0 (.const (.int .i64 0)) 2, none, []⟩] false) .ret)))
def spec_PolyOfNumber_L : Live := [(0, [0, 1]), (1, [0, 1, 4]), (2, [4]), (3, [0, 1, 4]), (4, [4]), (5, [0, 1, 4]), (100006, [0, 1, 4, 6]), (100011, [0, 1, 4, 11])]
theorem spec_PolyOfNumber_body : Try.f20.body = some (Try.f20.body.getD .skip) := by kernel_rfl
theorem spec_PolyOfNumber_strip : strip [] (Try.f20.body.getD .skip) = spec_PolyOfNumber_c := by kernel_rfl
noncomputable def spec_PolyOfNumber (a0 : Int) (a1 : Int) : Option ((Vec Int 64) × Int) :=
  (Option.bind (spec_l01Prime a0) fun r1 => (if (!r1) then (some (((vrep 64 (0 : Int)), 1))) else (Option.bind (spec_l01In a1 0 1000000000000) fun r4 => (if (!r4) then (some (((vrep 64 (0 : Int)), 2))) else (Option.bind (spec_l01Of a0 a1) fun r7 => (some (r7, 0)))))))
set_option maxHeartbeats 16000000 in
theorem spec_PolyOfNumber_ok (a0 : Int) (a1 : Int) (r : ((Vec Int 64) × Int)) (h : spec_PolyOfNumber a0 a1 = some r) : Den Try.prog 20 [(.int .i64 a0), (.int .i64 a1)] { r := (.tuple [(eA64u8 r.1), (.int .i64 r.2)]) } := by
  refine den_of (rs := [(eA64u8 r.1), (.int .i64 r.2)]) (ac := spec_PolyOfNumber_c) (L := spec_PolyOfNumber_L) (n := 19) (m := []) good Try.func20 spec_PolyOfNumber_body (by kernel_rfl) Try.ntmps20 rfl rfl spec_PolyOfNumber_strip rfl rfl ?_
  refine a_st (σ' := ⟨[(0, (.int .i64 a0)), (1, (.int .i64 a1))], []⟩) rfl ?_
  unfold spec_PolyOfNumber_c
  refine a_seq ?_
  refine a_region ?_
  refine a_val (v := (.own 1400 [] [])) (u := [(1400, some ⟨(eA64u8 ((vrep 64 (0 : Int)))), false⟩)]) rfl trivial rfl ?_
  refine a_val (v := (.int .i64 0)) (u := []) rfl trivial rfl ?_
  refine a_nil ?_
  refine a_next (σ' := ⟨[(0, (.int .i64 a0)), (1, (.int .i64 a1)), (4, (.own 4 [] []))], [(4, some ⟨(eA64u8 ((vrep 64 (0 : Int)))), false⟩)]⟩) rfl ?_
  refine a_seq ?_
  refine a_block ?_
  refine a_seq ?_
  refine a_region ?_
  refine a_val (v := (.int .i64 a0)) (u := []) rfl trivial rfl ?_
  obtain ⟨r1, hr2, h⟩ := bind_some h
  refine a_call (args := [(.int .i64 a0)]) (u := []) (r := (.bool r1)) rfl rfl (spec_l01Prime_ok a0 r1 hr2) rfl ?_
  refine a_val (v := (.bool (!r1))) (u := []) rfl trivial rfl ?_
  refine a_val (v := (.bool (!r1))) (u := []) rfl trivial rfl ?_
  refine a_nil ?_
  refine a_next (σ' := ⟨[(0, (.int .i64 a0)), (1, (.int .i64 a1)), (4, (.own 4 [] [])), (6, (.bool (!r1)))], [(4, some ⟨(eA64u8 ((vrep 64 (0 : Int)))), false⟩)]⟩) rfl ?_
  cases hb3 : (!r1)
  · have h := ite_f hb3 h
    refine a_cond_f rfl ?_
    refine a_seq ?_
    refine a_region ?_
    refine a_val (v := (.int .i64 a1)) (u := []) rfl trivial rfl ?_
    obtain ⟨r4, hr5, h⟩ := bind_some h
    refine a_call (args := [(.int .i64 a1), (.int .i64 0), (.int .i64 1000000000000)]) (u := []) (r := (.bool r4)) rfl rfl (spec_l01In_ok a1 0 1000000000000 r4 hr5) rfl ?_
    refine a_val (v := (.bool (!r4))) (u := []) rfl trivial rfl ?_
    refine a_val (v := (.bool (!r4))) (u := []) rfl trivial rfl ?_
    refine a_nil ?_
    refine a_next (σ' := ⟨[(0, (.int .i64 a0)), (1, (.int .i64 a1)), (4, (.own 4 [] [])), (11, (.bool (!r4)))], [(4, some ⟨(eA64u8 ((vrep 64 (0 : Int)))), false⟩)]⟩) rfl ?_
    cases hb6 : (!r4)
    · have h := ite_f hb6 h
      refine a_cond_f rfl ?_
      refine a_skip ?_
      refine b_norm ?_
      refine a_next (σ' := ⟨[(0, (.int .i64 a0)), (1, (.int .i64 a1)), (4, (.own 4 [] []))], [(4, some ⟨(eA64u8 ((vrep 64 (0 : Int)))), false⟩)]⟩) rfl ?_
      refine a_seq ?_
      refine a_region ?_
      refine a_val (v := (.int .i64 a0)) (u := []) rfl trivial rfl ?_
      refine a_val (v := (.int .i64 a1)) (u := []) rfl trivial rfl ?_
      obtain ⟨r7, hr8, h⟩ := bind_some h
      refine a_call (args := [(.int .i64 a0), (.int .i64 a1)]) (u := []) (r := (eA64u8 r7)) rfl rfl (spec_l01Of_ok a0 a1 r7 hr8) rfl ?_
      have hs9 : StOk [] (eA64u8 ((vrep 64 (0 : Int)))) [] 64 (eA64u8 r7) (eA64u8 r7) := (.nil rfl rfl rfl rfl)
      refine a_val (v := .top) (u := [(4, some ⟨(eA64u8 r7), false⟩)]) (st_own (i := ⟨.arr 64 5, 64, 64, (eA64u8 (vrep 64 (0 : Int)))⟩) rfl rfl (fun _ => rfl) rfl hs9) (hs9.c rfl) rfl ?_
      refine a_val (v := (.int .i64 0)) (u := []) rfl trivial rfl ?_
      refine a_nil ?_
      refine a_next rfl ?_
      refine a_ret ?_
      have hl10 : LdOk [] (eA64u8 r7) [] 64 true (eA64u8 r7) := (.nil rfl rfl rfl)
      refine ⟨.inr rfl, ?_⟩
      rw [Try.results20]
      cases h
      exact ⟨_, _, _, _, _, ld_own (i := ⟨.arr 64 5, 64, 64, (eA64u8 (vrep 64 (0 : Int)))⟩) rfl rfl rfl hl10, hl10.c, .inl ⟨rfl, .inl rfl⟩, rfl, ⟨_, _, _, _, _, rfl, trivial, .inl ⟨rfl, .inl rfl⟩, rfl, rfl⟩⟩
    · have h := ite_t hb6 h
      refine a_cond_t rfl ?_
      refine a_seq ?_
      refine a_region ?_
      refine a_val (v := (eA64u8 ((vrep 64 (0 : Int))))) (u := []) rfl ⟨⟨_, rfl, rfl⟩, all_nil⟩ rfl ?_
      have hs11 : StOk [] (eA64u8 ((vrep 64 (0 : Int)))) [] 64 (eA64u8 ((vrep 64 (0 : Int)))) (eA64u8 ((vrep 64 (0 : Int)))) := (.nil rfl rfl rfl rfl)
      refine a_val (v := .top) (u := [(4, some ⟨(eA64u8 ((vrep 64 (0 : Int)))), false⟩)]) (st_own (i := ⟨.arr 64 5, 64, 64, (eA64u8 (vrep 64 (0 : Int)))⟩) rfl rfl (fun _ => rfl) rfl hs11) (hs11.c rfl) rfl ?_
      refine a_val (v := (.int .i64 2)) (u := []) rfl trivial rfl ?_
      refine a_nil ?_
      refine a_next rfl ?_
      refine a_ret ?_
      refine b_ret ?_
      refine t_ret ?_
      have hl12 : LdOk [] (eA64u8 ((vrep 64 (0 : Int)))) [] 64 true (eA64u8 ((vrep 64 (0 : Int)))) := (.nil rfl rfl rfl)
      refine ⟨.inr rfl, ?_⟩
      rw [Try.results20]
      cases h
      exact ⟨_, _, _, _, _, ld_own (i := ⟨.arr 64 5, 64, 64, (eA64u8 (vrep 64 (0 : Int)))⟩) rfl rfl rfl hl12, hl12.c, .inl ⟨rfl, .inl rfl⟩, rfl, ⟨_, _, _, _, _, rfl, trivial, .inl ⟨rfl, .inl rfl⟩, rfl, rfl⟩⟩
  · have h := ite_t hb3 h
    refine a_cond_t rfl ?_
    refine a_seq ?_
    refine a_region ?_
    refine a_val (v := (eA64u8 ((vrep 64 (0 : Int))))) (u := []) rfl ⟨⟨_, rfl, rfl⟩, all_nil⟩ rfl ?_
    have hs13 : StOk [] (eA64u8 ((vrep 64 (0 : Int)))) [] 64 (eA64u8 ((vrep 64 (0 : Int)))) (eA64u8 ((vrep 64 (0 : Int)))) := (.nil rfl rfl rfl rfl)
    refine a_val (v := .top) (u := [(4, some ⟨(eA64u8 ((vrep 64 (0 : Int)))), false⟩)]) (st_own (i := ⟨.arr 64 5, 64, 64, (eA64u8 (vrep 64 (0 : Int)))⟩) rfl rfl (fun _ => rfl) rfl hs13) (hs13.c rfl) rfl ?_
    refine a_val (v := (.int .i64 1)) (u := []) rfl trivial rfl ?_
    refine a_nil ?_
    refine a_next rfl ?_
    refine a_ret ?_
    refine b_ret ?_
    refine t_ret ?_
    have hl14 : LdOk [] (eA64u8 ((vrep 64 (0 : Int)))) [] 64 true (eA64u8 ((vrep 64 (0 : Int)))) := (.nil rfl rfl rfl)
    refine ⟨.inr rfl, ?_⟩
    rw [Try.results20]
    cases h
    exact ⟨_, _, _, _, _, ld_own (i := ⟨.arr 64 5, 64, 64, (eA64u8 (vrep 64 (0 : Int)))⟩) rfl rfl rfl hl14, hl14.c, .inl ⟨rfl, .inl rfl⟩, rfl, ⟨_, _, _, _, _, rfl, trivial, .inl ⟨rfl, .inl rfl⟩, rfl, rfl⟩⟩
def impl_isNumber_c : ACode := (.seq (.region 0 [⟨some 2, .asg 0 (.const (.bool false)) 4, none, []⟩] false) (.seq (.region 1 [⟨some 3, .mov (.tmp 0), none, []⟩, ⟨some 4, .call 0 (.func 66) [(.tmp 3), (.const (.int .i64 0)), (.const (.int .i64 1000000000000))], none, []⟩, ⟨some 2, .asg 0 (.tmp 4) 4, none, []⟩] false) .ret))
def impl_isNumber_L : Live := [(0, [0]), (1, [0])]
theorem impl_isNumber_body : Try.f60.body = some (Try.f60.body.getD .skip) := by kernel_rfl
theorem impl_isNumber_strip : strip [] (Try.f60.body.getD .skip) = impl_isNumber_c := by kernel_rfl
noncomputable def impl_isNumber (a0 : Int) : Option Bool :=
  (Option.bind (impl_within a0 0 1000000000000) fun r1 => (some r1))
set_option maxHeartbeats 16000000 in
theorem impl_isNumber_ok (a0 : Int) (r : Bool) (h : impl_isNumber a0 = some r) : Den Try.prog 60 [(.int .i64 a0)] { r := (.bool r) } := by
  refine den_of (rs := [(.bool r)]) (ac := impl_isNumber_c) (L := impl_isNumber_L) (n := 5) (m := []) good Try.func60 impl_isNumber_body (by kernel_rfl) Try.ntmps60 rfl rfl impl_isNumber_strip rfl rfl ?_
  refine a_st (σ' := ⟨[(0, (.int .i64 a0))], []⟩) rfl ?_
  unfold impl_isNumber_c
  refine a_seq ?_
  refine a_region ?_
  refine a_val (v := (.bool false)) (u := []) rfl trivial rfl ?_
  refine a_nil ?_
  refine a_next (σ' := ⟨[(0, (.int .i64 a0))], []⟩) rfl ?_
  refine a_seq ?_
  refine a_region ?_
  refine a_val (v := (.int .i64 a0)) (u := []) rfl trivial rfl ?_
  obtain ⟨r1, hr2, h⟩ := bind_some h
  refine a_call (args := [(.int .i64 a0), (.int .i64 0), (.int .i64 1000000000000)]) (u := []) (r := (.bool r1)) rfl rfl (impl_within_ok a0 0 1000000000000 r1 hr2) rfl ?_
  refine a_val (v := (.bool r1)) (u := []) rfl trivial rfl ?_
  refine a_nil ?_
  refine a_next rfl ?_
  refine a_ret ?_
  refine ⟨.inr rfl, ?_⟩
  rw [Try.results60]
  cases h
  exact ⟨_, _, _, _, _, rfl, trivial, .inl ⟨rfl, .inl rfl⟩, rfl, rfl⟩
def impl_row_degree_c : ACode := (.seq (.region 0 [⟨some 2, .asg 0 (.const (.int .i64 0)) 2, none, []⟩] false) (.seq (.region 1 [⟨some 3, .mov (.tmp 0), none, []⟩, ⟨some 4, .blt 0 .len [(.tmp 3)] [66], none, []⟩, ⟨some 5, .bin .sub 2 (.tmp 4) (.const (.int .i64 1)), none, []⟩, ⟨some 2, .asg 0 (.tmp 5) 2, none, []⟩] false) .ret))
def impl_row_degree_L : Live := [(0, [0]), (1, [0])]
theorem impl_row_degree_body : Try.f100.body = some (Try.f100.body.getD .skip) := by kernel_rfl
theorem impl_row_degree_strip : strip [] (Try.f100.body.getD .skip) = impl_row_degree_c := by kernel_rfl
noncomputable def impl_row_degree (a0 : (List Int)) : Option Int :=
  (some (IntKind.i64.wrap ((a0.length : Int) - 1)))
set_option maxHeartbeats 16000000 in
theorem impl_row_degree_ok (a0 : (List Int)) (r : Int) (h : impl_row_degree a0 = some r) : Den Try.prog 100 [(eSi64 a0)] { r := (.int .i64 r) } := by
  refine den_of (rs := [(.int .i64 r)]) (ac := impl_row_degree_c) (L := impl_row_degree_L) (n := 6) (m := []) good Try.func100 impl_row_degree_body (by kernel_rfl) Try.ntmps100 rfl rfl impl_row_degree_strip rfl rfl ?_
  refine a_st (σ' := ⟨[(0, (eSi64 a0))], []⟩) rfl ?_
  unfold impl_row_degree_c
  refine a_seq ?_
  refine a_region ?_
  refine a_val (v := (.int .i64 0)) (u := []) rfl trivial rfl ?_
  refine a_nil ?_
  refine a_next (σ' := ⟨[(0, (eSi64 a0))], []⟩) rfl ?_
  refine a_seq ?_
  refine a_region ?_
  refine a_val (v := (eSi64 a0)) (u := []) rfl trivial rfl ?_
  refine a_val (v := (.int .i64 (a0.length : Int))) (u := []) (len_run rfl rfl) trivial rfl ?_
  refine a_val (v := (.int .i64 (IntKind.i64.wrap ((a0.length : Int) - 1)))) (u := []) rfl trivial rfl ?_
  refine a_val (v := (.int .i64 (IntKind.i64.wrap ((a0.length : Int) - 1)))) (u := []) rfl trivial rfl ?_
  refine a_nil ?_
  refine a_next rfl ?_
  refine a_ret ?_
  refine ⟨.inr rfl, ?_⟩
  rw [Try.results100]
  cases h
  exact ⟨_, _, _, _, _, rfl, trivial, .inl ⟨rfl, .inl rfl⟩, rfl, rfl⟩
def impl_row_fits_c : ACode := (.seq (.region 0 [⟨some 2, .asg 0 (.const (.bool false)) 4, none, []⟩] false) (.seq (.region 1 [⟨some 3, .mov (.tmp 0), none, []⟩, ⟨some 4, .call 0 (.func 100) [(.tmp 3)], none, []⟩, ⟨some 5, .bin .leq 2 (.tmp 4) (.const (.int .i64 63)), none, []⟩, ⟨some 2, .asg 0 (.tmp 5) 4, none, []⟩] false) .ret))
def impl_row_fits_L : Live := [(0, [0]), (1, [0])]
theorem impl_row_fits_body : Try.f103.body = some (Try.f103.body.getD .skip) := by kernel_rfl
theorem impl_row_fits_strip : strip [] (Try.f103.body.getD .skip) = impl_row_fits_c := by kernel_rfl
noncomputable def impl_row_fits (a0 : (List Int)) : Option Bool :=
  (Option.bind (impl_row_degree a0) fun r1 => (some ((decide (r1 ≤ 63)))))
set_option maxHeartbeats 16000000 in
theorem impl_row_fits_ok (a0 : (List Int)) (r : Bool) (h : impl_row_fits a0 = some r) : Den Try.prog 103 [(eSi64 a0)] { r := (.bool r) } := by
  refine den_of (rs := [(.bool r)]) (ac := impl_row_fits_c) (L := impl_row_fits_L) (n := 6) (m := []) good Try.func103 impl_row_fits_body (by kernel_rfl) Try.ntmps103 rfl rfl impl_row_fits_strip rfl rfl ?_
  refine a_st (σ' := ⟨[(0, (eSi64 a0))], []⟩) rfl ?_
  unfold impl_row_fits_c
  refine a_seq ?_
  refine a_region ?_
  refine a_val (v := (.bool false)) (u := []) rfl trivial rfl ?_
  refine a_nil ?_
  refine a_next (σ' := ⟨[(0, (eSi64 a0))], []⟩) rfl ?_
  refine a_seq ?_
  refine a_region ?_
  refine a_val (v := (eSi64 a0)) (u := []) rfl trivial rfl ?_
  obtain ⟨r1, hr2, h⟩ := bind_some h
  refine a_call (args := [(eSi64 a0)]) (u := []) (r := (.int .i64 r1)) rfl rfl (impl_row_degree_ok a0 r1 hr2) rfl ?_
  refine a_val (v := (.bool ((decide (r1 ≤ 63))))) (u := []) rfl trivial rfl ?_
  refine a_val (v := (.bool ((decide (r1 ≤ 63))))) (u := []) rfl trivial rfl ?_
  refine a_nil ?_
  refine a_next rfl ?_
  refine a_ret ?_
  refine ⟨.inr rfl, ?_⟩
  rw [Try.results103]
  cases h
  exact ⟨_, _, _, _, _, rfl, trivial, .inl ⟨rfl, .inl rfl⟩, rfl, rfl⟩
def impl_told_c : ACode := (.seq (.region 0 [⟨some 2, .alloc 23, none, []⟩, ⟨some 3, .asg 0 (.const (.int .i64 0)) 2, none, []⟩] false) (.seq (.seq (.region 1 [⟨some 4, .mov (.tmp 0), none, []⟩, ⟨some 5, .call 0 (.func 103) [(.tmp 4)], none, []⟩, ⟨some 6, .un .not (.tmp 5), none, []⟩] false) (.cond (.tmp 6) (.seq (.region 2 [⟨some 7, .build 23 [], none, []⟩, ⟨none, .store 23 (.tmp 2) (.tmp 7), none, []⟩, ⟨some 3, .asg 0 (.const (.int .i64 3)) 2, none, []⟩] false) .ret) .skip)) (.seq (.region 3 [⟨some 8, .mov (.tmp 0), none, []⟩, ⟨some 9, .call 0 (.func 51) [(.tmp 8)], none, []⟩, ⟨none, .store 23 (.tmp 2) (.tmp 9), none, []⟩, ⟨some 3, .asg 0 (.const (.int .i64 0)) 2, none, []⟩] false) .ret)))
def impl_told_L : Live := [(0, [0]), (1, [0, 2]), (2, [2]), (3, [0, 2]), (100006, [0, 2, 6])]
theorem impl_told_body : Try.f61.body = some (Try.f61.body.getD .skip) := by kernel_rfl
theorem impl_told_strip : strip [] (Try.f61.body.getD .skip) = impl_told_c := by kernel_rfl
noncomputable def impl_told (a0 : (List Int)) : Option ((Vec Int 64) × Int) :=
  (Option.bind (impl_row_fits a0) fun r1 => (if (!r1) then (some (((vrep 64 (0 : Int)), 3))) else (Option.bind (impl_row_poly a0) fun r4 => (some (r4, 0)))))
set_option maxHeartbeats 16000000 in
theorem impl_told_ok (a0 : (List Int)) (r : ((Vec Int 64) × Int)) (h : impl_told a0 = some r) : Den Try.prog 61 [(eSi64 a0)] { r := (.tuple [(eA64u8 r.1), (.int .i64 r.2)]) } := by
  refine den_of (rs := [(eA64u8 r.1), (.int .i64 r.2)]) (ac := impl_told_c) (L := impl_told_L) (n := 10) (m := []) good Try.func61 impl_told_body (by kernel_rfl) Try.ntmps61 rfl rfl impl_told_strip rfl rfl ?_
  refine a_st (σ' := ⟨[(0, (eSi64 a0))], []⟩) rfl ?_
  unfold impl_told_c
  refine a_seq ?_
  refine a_region ?_
  refine a_val (v := (.own 1200 [] [])) (u := [(1200, some ⟨(eA64u8 ((vrep 64 (0 : Int)))), false⟩)]) rfl trivial rfl ?_
  refine a_val (v := (.int .i64 0)) (u := []) rfl trivial rfl ?_
  refine a_nil ?_
  refine a_next (σ' := ⟨[(0, (eSi64 a0)), (2, (.own 2 [] []))], [(2, some ⟨(eA64u8 ((vrep 64 (0 : Int)))), false⟩)]⟩) rfl ?_
  refine a_seq ?_
  refine a_seq ?_
  refine a_region ?_
  refine a_val (v := (eSi64 a0)) (u := []) rfl trivial rfl ?_
  obtain ⟨r1, hr2, h⟩ := bind_some h
  refine a_call (args := [(eSi64 a0)]) (u := []) (r := (.bool r1)) rfl rfl (impl_row_fits_ok a0 r1 hr2) rfl ?_
  refine a_val (v := (.bool (!r1))) (u := []) rfl trivial rfl ?_
  refine a_nil ?_
  refine a_next (σ' := ⟨[(0, (eSi64 a0)), (2, (.own 2 [] [])), (6, (.bool (!r1)))], [(2, some ⟨(eA64u8 ((vrep 64 (0 : Int)))), false⟩)]⟩) rfl ?_
  cases hb3 : (!r1)
  · have h := ite_f hb3 h
    refine a_cond_f rfl ?_
    refine a_skip ?_
    refine a_next (σ' := ⟨[(0, (eSi64 a0)), (2, (.own 2 [] []))], [(2, some ⟨(eA64u8 ((vrep 64 (0 : Int)))), false⟩)]⟩) rfl ?_
    refine a_seq ?_
    refine a_region ?_
    refine a_val (v := (eSi64 a0)) (u := []) rfl trivial rfl ?_
    obtain ⟨r4, hr5, h⟩ := bind_some h
    refine a_call (args := [(eSi64 a0)]) (u := []) (r := (eA64u8 r4)) rfl rfl (impl_row_poly_ok a0 r4 hr5) rfl ?_
    have hs6 : StOk [] (eA64u8 ((vrep 64 (0 : Int)))) [] 64 (eA64u8 r4) (eA64u8 r4) := (.nil rfl rfl rfl rfl)
    refine a_val (v := .top) (u := [(2, some ⟨(eA64u8 r4), false⟩)]) (st_own (i := ⟨.arr 64 5, 64, 64, (eA64u8 (vrep 64 (0 : Int)))⟩) rfl rfl (fun _ => rfl) rfl hs6) (hs6.c rfl) rfl ?_
    refine a_val (v := (.int .i64 0)) (u := []) rfl trivial rfl ?_
    refine a_nil ?_
    refine a_next rfl ?_
    refine a_ret ?_
    have hl7 : LdOk [] (eA64u8 r4) [] 64 true (eA64u8 r4) := (.nil rfl rfl rfl)
    refine ⟨.inr rfl, ?_⟩
    rw [Try.results61]
    cases h
    exact ⟨_, _, _, _, _, ld_own (i := ⟨.arr 64 5, 64, 64, (eA64u8 (vrep 64 (0 : Int)))⟩) rfl rfl rfl hl7, hl7.c, .inl ⟨rfl, .inl rfl⟩, rfl, ⟨_, _, _, _, _, rfl, trivial, .inl ⟨rfl, .inl rfl⟩, rfl, rfl⟩⟩
  · have h := ite_t hb3 h
    refine a_cond_t rfl ?_
    refine a_seq ?_
    refine a_region ?_
    refine a_val (v := (eA64u8 ((vrep 64 (0 : Int))))) (u := []) rfl ⟨⟨_, rfl, rfl⟩, all_nil⟩ rfl ?_
    have hs8 : StOk [] (eA64u8 ((vrep 64 (0 : Int)))) [] 64 (eA64u8 ((vrep 64 (0 : Int)))) (eA64u8 ((vrep 64 (0 : Int)))) := (.nil rfl rfl rfl rfl)
    refine a_val (v := .top) (u := [(2, some ⟨(eA64u8 ((vrep 64 (0 : Int)))), false⟩)]) (st_own (i := ⟨.arr 64 5, 64, 64, (eA64u8 (vrep 64 (0 : Int)))⟩) rfl rfl (fun _ => rfl) rfl hs8) (hs8.c rfl) rfl ?_
    refine a_val (v := (.int .i64 3)) (u := []) rfl trivial rfl ?_
    refine a_nil ?_
    refine a_next rfl ?_
    refine a_ret ?_
    refine t_ret ?_
    have hl9 : LdOk [] (eA64u8 ((vrep 64 (0 : Int)))) [] 64 true (eA64u8 ((vrep 64 (0 : Int)))) := (.nil rfl rfl rfl)
    refine ⟨.inr rfl, ?_⟩
    rw [Try.results61]
    cases h
    exact ⟨_, _, _, _, _, ld_own (i := ⟨.arr 64 5, 64, 64, (eA64u8 (vrep 64 (0 : Int)))⟩) rfl rfl rfl hl9, hl9.c, .inl ⟨rfl, .inl rfl⟩, rfl, ⟨_, _, _, _, _, rfl, trivial, .inl ⟨rfl, .inl rfl⟩, rfl, rfl⟩⟩
def impl_PolyOfNumber_c : ACode := (.seq (.region 0 [⟨some 4, .alloc 23, none, []⟩, ⟨some 5, .asg 0 (.const (.int .i64 0)) 2, none, []⟩] false) (.seq (.block 0 (.seq (.region 1 [⟨some 7, .mov (.tmp 0), none, []⟩, ⟨some 8, .call 0 (.func 59) [(.tmp 7)], none, []⟩, ⟨some 9, .un .not (.tmp 8), none, []⟩, ⟨some 6, .asg 0 (.tmp 9) 4, none, []⟩] false) (.cond (.tmp 6) (.seq (.region 2 [⟨some 10, .build 23 [], none, []⟩, ⟨none, .store 23 (.tmp 4) (.tmp 10), none, []⟩, ⟨some 5, .asg 0 (.const (.int .i64 1)) 2, none, []⟩] false) .ret) (.seq (.region 3 [⟨some 12, .mov (.tmp 1), none, []⟩, ⟨some 13, .call 0 (.func 60) [(.tmp 12)], none, []⟩, ⟨some 14, .un .not (.tmp 13), none, []⟩, ⟨some 11, .asg 0 (.tmp 14) 4, none, []⟩] false) (.cond (.tmp 11) (.seq (.region 4 [⟨some 15, .build 23 [], none, []⟩, ⟨none, .store 23 (.tmp 4) (.tmp 15), none, []⟩, ⟨some 5, .asg 0 (.const (.int .i64 2)) 2, none, []⟩] false) .ret) .skip))))) (.seq (.region 5 [⟨some 16, .mov (.tmp 0), none, []⟩, ⟨some 17, .mov (.tmp 1), none, []⟩, ⟨some 18, .call 0 (.func 55) [(.tmp 16), (.tmp 17)], none, []⟩, ⟨some 19, .call 0 (.func 61) [(.tmp 18)], none, []⟩, ⟨some 20, .extract (.tmp 19) 0, none, []⟩, ⟨some 21, .extract (.tmp 19) 1, none, []⟩, ⟨none, .store 23 (.tmp 4) (.tmp 20), none, []⟩, ⟨some 5, .asg 0 (.tmp 21) 2, none, []⟩] false) .ret)))
def impl_PolyOfNumber_L : Live := [(0, [0, 1]), (1, [0, 1, 4]), (2, [4]), (3, [0, 1, 4]), (4, [4]), (5, [0, 1, 4]), (100006, [0, 1, 4, 6]), (100011, [0, 1, 4, 11])]
theorem impl_PolyOfNumber_body : Try.f21.body = some (Try.f21.body.getD .skip) := by kernel_rfl
theorem impl_PolyOfNumber_strip : strip [] (Try.f21.body.getD .skip) = impl_PolyOfNumber_c := by kernel_rfl
noncomputable def impl_PolyOfNumber (a0 : Int) (a1 : Int) : Option ((Vec Int 64) × Int) :=
  (Option.bind (impl_isPrime a0) fun r1 => (if (!r1) then (some (((vrep 64 (0 : Int)), 1))) else (Option.bind (impl_isNumber a1) fun r4 => (if (!r4) then (some (((vrep 64 (0 : Int)), 2))) else (Option.bind (impl_prime_numbered a0 a1) fun r7 => (Option.bind (impl_told r7) fun r9 => (some (r9.1, r9.2))))))))
set_option maxHeartbeats 16000000 in
theorem impl_PolyOfNumber_ok (a0 : Int) (a1 : Int) (r : ((Vec Int 64) × Int)) (h : impl_PolyOfNumber a0 a1 = some r) : Den Try.prog 21 [(.int .i64 a0), (.int .i64 a1)] { r := (.tuple [(eA64u8 r.1), (.int .i64 r.2)]) } := by
  refine den_of (rs := [(eA64u8 r.1), (.int .i64 r.2)]) (ac := impl_PolyOfNumber_c) (L := impl_PolyOfNumber_L) (n := 22) (m := []) good Try.func21 impl_PolyOfNumber_body (by kernel_rfl) Try.ntmps21 rfl rfl impl_PolyOfNumber_strip rfl rfl ?_
  refine a_st (σ' := ⟨[(0, (.int .i64 a0)), (1, (.int .i64 a1))], []⟩) rfl ?_
  unfold impl_PolyOfNumber_c
  refine a_seq ?_
  refine a_region ?_
  refine a_val (v := (.own 1400 [] [])) (u := [(1400, some ⟨(eA64u8 ((vrep 64 (0 : Int)))), false⟩)]) rfl trivial rfl ?_
  refine a_val (v := (.int .i64 0)) (u := []) rfl trivial rfl ?_
  refine a_nil ?_
  refine a_next (σ' := ⟨[(0, (.int .i64 a0)), (1, (.int .i64 a1)), (4, (.own 4 [] []))], [(4, some ⟨(eA64u8 ((vrep 64 (0 : Int)))), false⟩)]⟩) rfl ?_
  refine a_seq ?_
  refine a_block ?_
  refine a_seq ?_
  refine a_region ?_
  refine a_val (v := (.int .i64 a0)) (u := []) rfl trivial rfl ?_
  obtain ⟨r1, hr2, h⟩ := bind_some h
  refine a_call (args := [(.int .i64 a0)]) (u := []) (r := (.bool r1)) rfl rfl (impl_isPrime_ok a0 r1 hr2) rfl ?_
  refine a_val (v := (.bool (!r1))) (u := []) rfl trivial rfl ?_
  refine a_val (v := (.bool (!r1))) (u := []) rfl trivial rfl ?_
  refine a_nil ?_
  refine a_next (σ' := ⟨[(0, (.int .i64 a0)), (1, (.int .i64 a1)), (4, (.own 4 [] [])), (6, (.bool (!r1)))], [(4, some ⟨(eA64u8 ((vrep 64 (0 : Int)))), false⟩)]⟩) rfl ?_
  cases hb3 : (!r1)
  · have h := ite_f hb3 h
    refine a_cond_f rfl ?_
    refine a_seq ?_
    refine a_region ?_
    refine a_val (v := (.int .i64 a1)) (u := []) rfl trivial rfl ?_
    obtain ⟨r4, hr5, h⟩ := bind_some h
    refine a_call (args := [(.int .i64 a1)]) (u := []) (r := (.bool r4)) rfl rfl (impl_isNumber_ok a1 r4 hr5) rfl ?_
    refine a_val (v := (.bool (!r4))) (u := []) rfl trivial rfl ?_
    refine a_val (v := (.bool (!r4))) (u := []) rfl trivial rfl ?_
    refine a_nil ?_
    refine a_next (σ' := ⟨[(0, (.int .i64 a0)), (1, (.int .i64 a1)), (4, (.own 4 [] [])), (11, (.bool (!r4)))], [(4, some ⟨(eA64u8 ((vrep 64 (0 : Int)))), false⟩)]⟩) rfl ?_
    cases hb6 : (!r4)
    · have h := ite_f hb6 h
      refine a_cond_f rfl ?_
      refine a_skip ?_
      refine b_norm ?_
      refine a_next (σ' := ⟨[(0, (.int .i64 a0)), (1, (.int .i64 a1)), (4, (.own 4 [] []))], [(4, some ⟨(eA64u8 ((vrep 64 (0 : Int)))), false⟩)]⟩) rfl ?_
      refine a_seq ?_
      refine a_region ?_
      refine a_val (v := (.int .i64 a0)) (u := []) rfl trivial rfl ?_
      refine a_val (v := (.int .i64 a1)) (u := []) rfl trivial rfl ?_
      obtain ⟨r7, hr8, h⟩ := bind_some h
      refine a_call (args := [(.int .i64 a0), (.int .i64 a1)]) (u := []) (r := (eSi64 r7)) rfl rfl (impl_prime_numbered_ok a0 a1 r7 hr8) rfl ?_
      obtain ⟨r9, hr10, h⟩ := bind_some h
      refine a_call (args := [(eSi64 r7)]) (u := []) (r := (.tuple [(eA64u8 r9.1), (.int .i64 r9.2)])) rfl rfl (impl_told_ok r7 r9 hr10) rfl ?_
      refine a_val (v := (eA64u8 r9.1)) (u := []) rfl (Nat.le_of_ble_eq_true rfl) rfl ?_
      refine a_val (v := (.int .i64 r9.2)) (u := []) rfl (Nat.le_of_ble_eq_true rfl) rfl ?_
      have hs11 : StOk [] (eA64u8 ((vrep 64 (0 : Int)))) [] 64 (eA64u8 r9.1) (eA64u8 r9.1) := (.nil rfl rfl rfl rfl)
      refine a_val (v := .top) (u := [(4, some ⟨(eA64u8 r9.1), false⟩)]) (st_own (i := ⟨.arr 64 5, 64, 64, (eA64u8 (vrep 64 (0 : Int)))⟩) rfl rfl (fun _ => rfl) rfl hs11) (hs11.c rfl) rfl ?_
      refine a_val (v := (.int .i64 r9.2)) (u := []) rfl trivial rfl ?_
      refine a_nil ?_
      refine a_next rfl ?_
      refine a_ret ?_
      have hl12 : LdOk [] (eA64u8 r9.1) [] 64 true (eA64u8 r9.1) := (.nil rfl rfl rfl)
      refine ⟨.inr rfl, ?_⟩
      rw [Try.results21]
      cases h
      exact ⟨_, _, _, _, _, ld_own (i := ⟨.arr 64 5, 64, 64, (eA64u8 (vrep 64 (0 : Int)))⟩) rfl rfl rfl hl12, hl12.c, .inl ⟨rfl, .inl rfl⟩, rfl, ⟨_, _, _, _, _, rfl, trivial, .inl ⟨rfl, .inl rfl⟩, rfl, rfl⟩⟩
    · have h := ite_t hb6 h
      refine a_cond_t rfl ?_
      refine a_seq ?_
      refine a_region ?_
      refine a_val (v := (eA64u8 ((vrep 64 (0 : Int))))) (u := []) rfl ⟨⟨_, rfl, rfl⟩, all_nil⟩ rfl ?_
      have hs13 : StOk [] (eA64u8 ((vrep 64 (0 : Int)))) [] 64 (eA64u8 ((vrep 64 (0 : Int)))) (eA64u8 ((vrep 64 (0 : Int)))) := (.nil rfl rfl rfl rfl)
      refine a_val (v := .top) (u := [(4, some ⟨(eA64u8 ((vrep 64 (0 : Int)))), false⟩)]) (st_own (i := ⟨.arr 64 5, 64, 64, (eA64u8 (vrep 64 (0 : Int)))⟩) rfl rfl (fun _ => rfl) rfl hs13) (hs13.c rfl) rfl ?_
      refine a_val (v := (.int .i64 2)) (u := []) rfl trivial rfl ?_
      refine a_nil ?_
      refine a_next rfl ?_
      refine a_ret ?_
      refine b_ret ?_
      refine t_ret ?_
      have hl14 : LdOk [] (eA64u8 ((vrep 64 (0 : Int)))) [] 64 true (eA64u8 ((vrep 64 (0 : Int)))) := (.nil rfl rfl rfl)
      refine ⟨.inr rfl, ?_⟩
      rw [Try.results21]
      cases h
      exact ⟨_, _, _, _, _, ld_own (i := ⟨.arr 64 5, 64, 64, (eA64u8 (vrep 64 (0 : Int)))⟩) rfl rfl rfl hl14, hl14.c, .inl ⟨rfl, .inl rfl⟩, rfl, ⟨_, _, _, _, _, rfl, trivial, .inl ⟨rfl, .inl rfl⟩, rfl, rfl⟩⟩
  · have h := ite_t hb3 h
    refine a_cond_t rfl ?_
    refine a_seq ?_
    refine a_region ?_
    refine a_val (v := (eA64u8 ((vrep 64 (0 : Int))))) (u := []) rfl ⟨⟨_, rfl, rfl⟩, all_nil⟩ rfl ?_
    have hs15 : StOk [] (eA64u8 ((vrep 64 (0 : Int)))) [] 64 (eA64u8 ((vrep 64 (0 : Int)))) (eA64u8 ((vrep 64 (0 : Int)))) := (.nil rfl rfl rfl rfl)
    refine a_val (v := .top) (u := [(4, some ⟨(eA64u8 ((vrep 64 (0 : Int)))), false⟩)]) (st_own (i := ⟨.arr 64 5, 64, 64, (eA64u8 (vrep 64 (0 : Int)))⟩) rfl rfl (fun _ => rfl) rfl hs15) (hs15.c rfl) rfl ?_
    refine a_val (v := (.int .i64 1)) (u := []) rfl trivial rfl ?_
    refine a_nil ?_
    refine a_next rfl ?_
    refine a_ret ?_
    refine b_ret ?_
    refine t_ret ?_
    have hl16 : LdOk [] (eA64u8 ((vrep 64 (0 : Int)))) [] 64 true (eA64u8 ((vrep 64 (0 : Int)))) := (.nil rfl rfl rfl)
    refine ⟨.inr rfl, ?_⟩
    rw [Try.results21]
    cases h
    exact ⟨_, _, _, _, _, ld_own (i := ⟨.arr 64 5, 64, 64, (eA64u8 (vrep 64 (0 : Int)))⟩) rfl rfl rfl hl16, hl16.c, .inl ⟨rfl, .inl rfl⟩, rfl, ⟨_, _, _, _, _, rfl, trivial, .inl ⟨rfl, .inl rfl⟩, rfl, rfl⟩⟩
def laws_FnExactPolyOfNumber_c : ACode := (.seq (.region 0 [⟨some 4, .asg 0 (.const (.bool false)) 4, none, []⟩] false) (.seq (.region 1 [⟨some 10, .mov (.tmp 0), none, []⟩, ⟨some 11, .mov (.tmp 1), none, []⟩, ⟨some 12, .call 0 (.func 20) [(.tmp 10), (.tmp 11)], none, []⟩, ⟨some 9, .mov (.tmp 12), none, []⟩, ⟨some 13, .extract (.tmp 9) 0, none, []⟩, ⟨some 14, .extract (.tmp 9) 1, none, []⟩, ⟨some 5, .alloc 23, none, []⟩, ⟨none, .store 23 (.tmp 5) (.tmp 13), none, []⟩, ⟨some 6, .asg 0 (.tmp 14) 2, none, []⟩] false) (.seq (.region 2 [⟨some 16, .mov (.tmp 0), none, []⟩, ⟨some 17, .mov (.tmp 1), none, []⟩, ⟨some 18, .call 0 (.func 21) [(.tmp 16), (.tmp 17)], none, []⟩, ⟨some 15, .mov (.tmp 18), none, []⟩, ⟨some 19, .extract (.tmp 15) 0, none, []⟩, ⟨some 20, .extract (.tmp 15) 1, none, []⟩, ⟨some 7, .alloc 23, none, []⟩, ⟨none, .store 23 (.tmp 7) (.tmp 19), none, []⟩, ⟨some 8, .asg 0 (.tmp 20) 2, none, []⟩] false) (.seq (.seq (.region 3 [⟨some 21, .load 23 (.tmp 7), none, []⟩, ⟨some 22, .load 23 (.tmp 5), none, []⟩, ⟨some 23, .call 0 (.func 22) [(.tmp 21), (.tmp 22)], none, []⟩, ⟨some 24, .un .not (.tmp 23), none, []⟩, ⟨some 25, .mov (.tmp 24), none, []⟩, ⟨some 26, .mov (.tmp 8), some (25, false), []⟩, ⟨some 27, .mov (.tmp 6), some (25, false), []⟩, ⟨some 28, .bin .neq 2 (.tmp 26) (.tmp 27), some (25, false), []⟩, ⟨some 29, .pick (.tmp 25) (.const (.bool true)) (.tmp 28), none, []⟩] false) (.cond (.tmp 29) (.seq (.region 4 [⟨some 4, .asg 0 (.const (.bool false)) 4, none, []⟩] false) .ret) .skip)) (.seq (.region 5 [⟨some 4, .asg 0 (.const (.bool true)) 4, none, []⟩] false) .ret)))))
def laws_FnExactPolyOfNumber_L : Live := [(0, [0, 1]), (1, [0, 1]), (2, [0, 1, 5, 6]), (3, [5, 6, 7, 8]), (4, []), (5, []), (100029, [29])]
theorem laws_FnExactPolyOfNumber_body : Try.f5.body = some (Try.f5.body.getD .skip) := by kernel_rfl
theorem laws_FnExactPolyOfNumber_strip : strip [] (Try.f5.body.getD .skip) = laws_FnExactPolyOfNumber_c := by kernel_rfl
noncomputable def laws_FnExactPolyOfNumber (a0 : Int) (a1 : Int) : Option Bool :=
  (Option.bind (spec_PolyOfNumber a0 a1) fun r1 => (Option.bind (impl_PolyOfNumber a0 a1) fun r4 => (Option.bind ((Option.bind (laws_eqPoly r4.1 r1.1) fun r18 => (if (!r18) then (some true) else (some (r4.2 != r1.2))))) fun x12 => (if x12 then (some false) else (some true)))))
set_option maxHeartbeats 16000000 in
theorem laws_FnExactPolyOfNumber_ok (a0 : Int) (a1 : Int) (r : Bool) (h : laws_FnExactPolyOfNumber a0 a1 = some r) : Den Try.prog 5 [(.int .i64 a0), (.int .i64 a1)] { r := (.bool r) } := by
  refine den_of (rs := [(.bool r)]) (ac := laws_FnExactPolyOfNumber_c) (L := laws_FnExactPolyOfNumber_L) (n := 30) (m := []) good Try.func5 laws_FnExactPolyOfNumber_body (by kernel_rfl) Try.ntmps5 rfl rfl laws_FnExactPolyOfNumber_strip rfl rfl ?_
  refine a_st (σ' := ⟨[(0, (.int .i64 a0)), (1, (.int .i64 a1))], []⟩) rfl ?_
  unfold laws_FnExactPolyOfNumber_c
  refine a_seq ?_
  refine a_region ?_
  refine a_val (v := (.bool false)) (u := []) rfl trivial rfl ?_
  refine a_nil ?_
  refine a_next (σ' := ⟨[(0, (.int .i64 a0)), (1, (.int .i64 a1))], []⟩) rfl ?_
  refine a_seq ?_
  refine a_region ?_
  refine a_val (v := (.int .i64 a0)) (u := []) rfl trivial rfl ?_
  refine a_val (v := (.int .i64 a1)) (u := []) rfl trivial rfl ?_
  obtain ⟨r1, hr2, h⟩ := bind_some h
  refine a_call (args := [(.int .i64 a0), (.int .i64 a1)]) (u := []) (r := (.tuple [(eA64u8 r1.1), (.int .i64 r1.2)])) rfl rfl (spec_PolyOfNumber_ok a0 a1 r1 hr2) rfl ?_
  refine a_val (v := (.tuple [(eA64u8 r1.1), (.int .i64 r1.2)])) (u := []) rfl trivial rfl ?_
  refine a_val (v := (eA64u8 r1.1)) (u := []) rfl (Nat.le_of_ble_eq_true rfl) rfl ?_
  refine a_val (v := (.int .i64 r1.2)) (u := []) rfl (Nat.le_of_ble_eq_true rfl) rfl ?_
  refine a_val (v := (.own 1500 [] [])) (u := [(1500, some ⟨(eA64u8 ((vrep 64 (0 : Int)))), false⟩)]) rfl trivial rfl ?_
  have hs3 : StOk [] (eA64u8 ((vrep 64 (0 : Int)))) [] 64 (eA64u8 r1.1) (eA64u8 r1.1) := (.nil rfl rfl rfl rfl)
  refine a_val (v := .top) (u := [(1500, some ⟨(eA64u8 r1.1), false⟩)]) (st_own (i := ⟨.arr 64 5, 64, 64, (eA64u8 (vrep 64 (0 : Int)))⟩) rfl rfl (fun _ => rfl) rfl hs3) (hs3.c rfl) rfl ?_
  refine a_val (v := (.int .i64 r1.2)) (u := []) rfl trivial rfl ?_
  refine a_nil ?_
  refine a_next (σ' := ⟨[(0, (.int .i64 a0)), (1, (.int .i64 a1)), (5, (.own 5 [] [])), (6, (.int .i64 r1.2))], [(5, some ⟨(eA64u8 r1.1), false⟩)]⟩) rfl ?_
  refine a_seq ?_
  refine a_region ?_
  refine a_val (v := (.int .i64 a0)) (u := []) rfl trivial rfl ?_
  refine a_val (v := (.int .i64 a1)) (u := []) rfl trivial rfl ?_
  obtain ⟨r4, hr5, h⟩ := bind_some h
  refine a_call (args := [(.int .i64 a0), (.int .i64 a1)]) (u := []) (r := (.tuple [(eA64u8 r4.1), (.int .i64 r4.2)])) rfl rfl (impl_PolyOfNumber_ok a0 a1 r4 hr5) rfl ?_
  refine a_val (v := (.tuple [(eA64u8 r4.1), (.int .i64 r4.2)])) (u := []) rfl trivial rfl ?_
  refine a_val (v := (eA64u8 r4.1)) (u := []) rfl (Nat.le_of_ble_eq_true rfl) rfl ?_
  refine a_val (v := (.int .i64 r4.2)) (u := []) rfl (Nat.le_of_ble_eq_true rfl) rfl ?_
  refine a_val (v := (.own 1700 [] [])) (u := [(1700, some ⟨(eA64u8 ((vrep 64 (0 : Int)))), false⟩)]) rfl trivial rfl ?_
  have hs6 : StOk [] (eA64u8 ((vrep 64 (0 : Int)))) [] 64 (eA64u8 r4.1) (eA64u8 r4.1) := (.nil rfl rfl rfl rfl)
  refine a_val (v := .top) (u := [(1700, some ⟨(eA64u8 r4.1), false⟩)]) (st_own (i := ⟨.arr 64 5, 64, 64, (eA64u8 (vrep 64 (0 : Int)))⟩) rfl rfl (fun _ => rfl) rfl hs6) (hs6.c rfl) rfl ?_
  refine a_val (v := (.int .i64 r4.2)) (u := []) rfl trivial rfl ?_
  refine a_nil ?_
  refine a_next (σ' := ⟨[(5, (.own 5 [] [])), (6, (.int .i64 r1.2)), (7, (.own 7 [] [])), (8, (.int .i64 r4.2))], [(5, some ⟨(eA64u8 r1.1), false⟩), (7, some ⟨(eA64u8 r4.1), false⟩)]⟩) rfl ?_
  refine a_seq ?_
  obtain ⟨y13, hy14, hk15⟩ := bind_some h
  clear h
  refine a_join (emb := fun (s : Bool) => ⟨[(29, (.bool s))], []⟩) (pre := fun s => s = y13) ?_ ?_
  · rintro x12 rfl
    have h := hk15
    refine a_st (σ' := ⟨[(29, (.bool x12))], []⟩) rfl ?_
    cases hb21 : x12
    · have h := ite_f hb21 h
      refine a_cond_f rfl ?_
      refine a_skip ?_
      refine a_next (σ' := ⟨[], []⟩) rfl ?_
      refine a_seq ?_
      refine a_region ?_
      refine a_val (v := (.bool true)) (u := []) rfl trivial rfl ?_
      refine a_nil ?_
      refine a_next rfl ?_
      refine a_ret ?_
      refine ⟨.inr rfl, ?_⟩
      rw [Try.results5]
      cases h
      exact ⟨_, _, _, _, _, rfl, trivial, .inl ⟨rfl, .inl rfl⟩, rfl, rfl⟩
    · have h := ite_t hb21 h
      refine a_cond_t rfl ?_
      refine a_seq ?_
      refine a_region ?_
      refine a_val (v := (.bool false)) (u := []) rfl trivial rfl ?_
      refine a_nil ?_
      refine a_next rfl ?_
      refine a_ret ?_
      refine t_ret ?_
      refine ⟨.inr rfl, ?_⟩
      rw [Try.results5]
      cases h
      exact ⟨_, _, _, _, _, rfl, trivial, .inl ⟨rfl, .inl rfl⟩, rfl, rfl⟩
  · have h := hy14
    refine a_region ?_
    have hl16 : LdOk [] (eA64u8 r4.1) [] 64 true (eA64u8 r4.1) := (.nil rfl rfl rfl)
    refine a_val (v := (eA64u8 r4.1)) (u := []) (ld_own (i := ⟨.arr 64 5, 64, 64, (eA64u8 (vrep 64 (0 : Int)))⟩) rfl rfl rfl hl16) hl16.c rfl ?_
    have hl17 : LdOk [] (eA64u8 r1.1) [] 64 true (eA64u8 r1.1) := (.nil rfl rfl rfl)
    refine a_val (v := (eA64u8 r1.1)) (u := []) (ld_own (i := ⟨.arr 64 5, 64, 64, (eA64u8 (vrep 64 (0 : Int)))⟩) rfl rfl rfl hl17) hl17.c rfl ?_
    obtain ⟨r18, hr19, h⟩ := bind_some h
    refine a_call (args := [(eA64u8 r4.1), (eA64u8 r1.1)]) (u := []) (r := (.bool r18)) rfl rfl (laws_eqPoly_ok r4.1 r1.1 r18 hr19) rfl ?_
    refine a_val (v := (.bool (!r18))) (u := []) rfl trivial rfl ?_
    refine a_val (v := (.bool (!r18))) (u := []) rfl trivial rfl ?_
    cases hb20 : (!r18)
    · have h := ite_f hb20 h
      refine a_gval rfl (v := (.int .i64 r4.2)) (u := []) rfl trivial rfl ?_
      refine a_gval rfl (v := (.int .i64 r1.2)) (u := []) rfl trivial rfl ?_
      refine a_gval rfl (v := (.bool (r4.2 != r1.2))) (u := []) rfl trivial rfl ?_
      refine a_val (v := (.bool (r4.2 != r1.2))) (u := []) rfl trivial rfl ?_
      refine a_nil ?_
      exact j_leaf (r4.2 != r1.2) (Option.some.inj h) rfl
    · have h := ite_t hb20 h
      refine a_gskip rfl ?_
      refine a_gskip rfl ?_
      refine a_gskip rfl ?_
      refine a_val (v := (.bool true)) (u := []) rfl trivial rfl ?_
      refine a_nil ?_
      exact j_leaf true (Option.some.inj h) rfl
def laws_toPoly_c : ACode := (.seq (.region 0 [⟨some 1, .box 22 (.tmp 0), none, []⟩, ⟨some 2, .alloc 23, none, []⟩] false) (.seq (.region 1 [⟨some 3, .alloc 23, none, []⟩] false) (.seq (.seq (.region 2 [⟨some 4, .asg 0 (.const (.int .i64 0)) 3, none, []⟩] false) (.block 0 (.loop (.seq (.seq (.region 3 [⟨some 5, .mov (.tmp 4), none, []⟩, ⟨some 6, .bin .lss 3 (.tmp 5) (.const (.int .i64 64)), none, []⟩] false) (.cond (.tmp 6) .skip (.exit 0))) (.seq (.block 1 (.region 5 [⟨some 9, .mov (.tmp 4), none, []⟩, ⟨some 10, .mov (.tmp 4), none, []⟩, ⟨some 11, .indexAddr 22 (.tmp 1) (.tmp 10), none, []⟩, ⟨some 12, .load 5 (.tmp 11), none, []⟩, ⟨some 13, .indexAddr 23 (.tmp 3) (.tmp 9), none, []⟩, ⟨none, .store 5 (.tmp 13) (.tmp 12), none, []⟩] false)) (.region 4 [⟨some 7, .mov (.tmp 4), none, []⟩, ⟨some 8, .bin .add 3 (.tmp 7) (.const (.int .i64 1)), none, []⟩, ⟨some 4, .asg 0 (.tmp 8) 3, none, []⟩] false)))))) (.seq (.region 6 [⟨some 14, .load 23 (.tmp 3), none, []⟩, ⟨none, .store 23 (.tmp 2) (.tmp 14), none, []⟩] false) .ret))))
def laws_toPoly_L : Live := [(0, [0]), (1, [1, 2]), (2, [1, 2, 3]), (3, [1, 2, 3, 4]), (4, [1, 2, 3, 4]), (5, [1, 2, 3, 4]), (6, [2, 3]), (100006, [1, 2, 3, 4, 6])]
theorem laws_toPoly_body : Try.f32.body = some (Try.f32.body.getD .skip) := by kernel_rfl
theorem laws_toPoly_strip : strip [] (Try.f32.body.getD .skip) = laws_toPoly_c := by kernel_rfl
noncomputable def laws_toPoly_l1 (a0 : (Vec Int 64)) (x31 : Int) (x32 : (Vec Int 64)) : Option ((Int × (Vec Int 64)) ⊕ (Vec Int 64)) :=
  (if (decide (x31 < 64)) then (ifp (0 ≤ x31 ∧ x31 < ((64 : Nat) : Int)) ((ifp (0 ≤ x31 ∧ x31 < ((64 : Nat) : Int)) ((some (.inl ((IntKind.i64.wrap (x31 + 1), (vset x32 x31.toNat (rd a0.1 x31.toNat)))))))))) else (some (.inr x32)))
noncomputable def laws_toPoly (a0 : (Vec Int 64)) : Option (Vec Int 64) :=
  (Option.bind ((loopM (fun s : (Int × (Vec Int 64)) => laws_toPoly_l1 a0 s.1 s.2) (0, (vrep 64 (0 : Int))))) fun x22 => (some x22))
set_option maxHeartbeats 16000000 in
theorem laws_toPoly_ok (a0 : (Vec Int 64)) (r : (Vec Int 64)) (h : laws_toPoly a0 = some r) : Den Try.prog 32 [(eA64u8 a0)] { r := (eA64u8 r) } := by
  refine den_of (rs := [(eA64u8 r)]) (ac := laws_toPoly_c) (L := laws_toPoly_L) (n := 15) (m := []) good Try.func32 laws_toPoly_body (by kernel_rfl) Try.ntmps32 rfl rfl laws_toPoly_strip rfl rfl ?_
  refine a_st (σ' := ⟨[(0, (eA64u8 a0))], []⟩) rfl ?_
  unfold laws_toPoly_c
  refine a_seq ?_
  refine a_region ?_
  refine a_val (v := (.own 1100 [] [])) (u := [(1100, some ⟨(eA64u8 a0), false⟩)]) rfl trivial rfl ?_
  refine a_val (v := (.own 1200 [] [])) (u := [(1200, some ⟨(eA64u8 ((vrep 64 (0 : Int)))), false⟩)]) rfl trivial rfl ?_
  refine a_nil ?_
  refine a_next (σ' := ⟨[(1, (.own 1 [] [])), (2, (.own 2 [] []))], [(1, some ⟨(eA64u8 a0), false⟩), (2, some ⟨(eA64u8 ((vrep 64 (0 : Int)))), false⟩)]⟩) rfl ?_
  refine a_seq ?_
  refine a_region ?_
  refine a_val (v := (.own 1300 [] [])) (u := [(1300, some ⟨(eA64u8 ((vrep 64 (0 : Int)))), false⟩)]) rfl trivial rfl ?_
  refine a_nil ?_
  refine a_next (σ' := ⟨[(1, (.own 1 [] [])), (2, (.own 2 [] [])), (3, (.own 3 [] []))], [(1, some ⟨(eA64u8 a0), false⟩), (2, some ⟨(eA64u8 ((vrep 64 (0 : Int)))), false⟩), (3, some ⟨(eA64u8 ((vrep 64 (0 : Int)))), false⟩)]⟩) rfl ?_
  obtain ⟨y23, hy24, hk25⟩ := bind_some h
  clear h
  refine a_join (emb := fun (s : (Vec Int 64)) => ⟨[(2, (.own 2 [] [])), (3, (.own 3 [] []))], [(2, some ⟨(eA64u8 ((vrep 64 (0 : Int)))), false⟩), (3, some ⟨(eA64u8 s), false⟩)]⟩) (pre := fun s => s = y23) ?_ ?_
  · rintro x22 rfl
    have h := hk25
    refine a_st (σ' := ⟨[(2, (.own 2 [] [])), (3, (.own 3 [] []))], [(2, some ⟨(eA64u8 ((vrep 64 (0 : Int)))), false⟩), (3, some ⟨(eA64u8 x22), false⟩)]⟩) rfl ?_
    refine a_seq ?_
    refine a_region ?_
    have hl47 : LdOk [] (eA64u8 x22) [] 64 true (eA64u8 x22) := (.nil rfl rfl rfl)
    refine a_val (v := (eA64u8 x22)) (u := []) (ld_own (i := ⟨.arr 64 5, 64, 64, (eA64u8 (vrep 64 (0 : Int)))⟩) rfl rfl rfl hl47) hl47.c rfl ?_
    have hs48 : StOk [] (eA64u8 ((vrep 64 (0 : Int)))) [] 64 (eA64u8 x22) (eA64u8 x22) := (.nil rfl rfl rfl rfl)
    refine a_val (v := .top) (u := [(2, some ⟨(eA64u8 x22), false⟩)]) (st_own (i := ⟨.arr 64 5, 64, 64, (eA64u8 (vrep 64 (0 : Int)))⟩) rfl rfl (fun _ => rfl) rfl hs48) (hs48.c rfl) rfl ?_
    refine a_nil ?_
    refine a_next rfl ?_
    refine a_ret ?_
    have hl49 : LdOk [] (eA64u8 x22) [] 64 true (eA64u8 x22) := (.nil rfl rfl rfl)
    refine ⟨.inr rfl, ?_⟩
    rw [Try.results32]
    cases h
    exact ⟨_, _, _, _, _, ld_own (i := ⟨.arr 64 5, 64, 64, (eA64u8 (vrep 64 (0 : Int)))⟩) rfl rfl rfl hl49, hl49.c, .inl ⟨rfl, .inl rfl⟩, rfl, rfl⟩
  · have h := hy24
    refine a_seq ?_
    refine a_region ?_
    refine a_val (v := (.int .i64 0)) (u := []) rfl trivial rfl ?_
    refine a_nil ?_
    refine a_next (σ' := ⟨[(1, (.own 1 [] [])), (2, (.own 2 [] [])), (3, (.own 3 [] [])), (4, (.int .i64 0))], [(1, some ⟨(eA64u8 a0), false⟩), (2, some ⟨(eA64u8 ((vrep 64 (0 : Int)))), false⟩), (3, some ⟨(eA64u8 ((vrep 64 (0 : Int)))), false⟩)]⟩) rfl ?_
    refine a_block ?_
    refine a_loop (emb := fun (s : (Int × (Vec Int 64))) => ⟨[(1, (.own 1 [] [])), (2, (.own 2 [] [])), (3, (.own 3 [] [])), (4, (.int .i64 s.1))], [(1, some ⟨(eA64u8 a0), false⟩), (2, some ⟨(eA64u8 ((vrep 64 (0 : Int)))), false⟩), (3, some ⟨(eA64u8 s.2), false⟩)]⟩) (body := (fun s : (Int × (Vec Int 64)) => laws_toPoly_l1 a0 s.1 s.2)) (G := fun q => some q = some y23) h rfl ?_ rfl
    rintro X38 ⟨x31, x32⟩ x39 h hX40
    have h : laws_toPoly_l1 a0 x31 x32 = some x39 := h
    refine a_st (σ' := ⟨[(1, (.own 1 [] [])), (2, (.own 2 [] [])), (3, (.own 3 [] [])), (4, (.int .i64 x31))], [(1, some ⟨(eA64u8 a0), false⟩), (2, some ⟨(eA64u8 ((vrep 64 (0 : Int)))), false⟩), (3, some ⟨(eA64u8 x32), false⟩)]⟩) rfl ?_
    refine a_seq ?_
    refine a_seq ?_
    refine a_region ?_
    refine a_val (v := (.int .i64 x31)) (u := []) rfl trivial rfl ?_
    refine a_val (v := (.bool ((decide (x31 < 64))))) (u := []) rfl trivial rfl ?_
    refine a_nil ?_
    refine a_next (σ' := ⟨[(1, (.own 1 [] [])), (2, (.own 2 [] [])), (3, (.own 3 [] [])), (4, (.int .i64 x31)), (6, (.bool ((decide (x31 < 64)))))], [(1, some ⟨(eA64u8 a0), false⟩), (2, some ⟨(eA64u8 ((vrep 64 (0 : Int)))), false⟩), (3, some ⟨(eA64u8 x32), false⟩)]⟩) rfl ?_
    cases hb41 : (decide (x31 < 64))
    · have h := ite_f hb41 h
      refine a_cond_f rfl ?_
      refine a_exit ?_
      refine t_exit ?_
      cases h
      have h := hX40
      refine t_exit ?_
      refine b_exit ?_
      exact j_leaf x32 (Option.some.inj h) rfl
    · have h := ite_t hb41 h
      refine a_cond_t rfl ?_
      refine a_skip ?_
      refine a_next (σ' := ⟨[(1, (.own 1 [] [])), (2, (.own 2 [] [])), (3, (.own 3 [] [])), (4, (.int .i64 x31))], [(1, some ⟨(eA64u8 a0), false⟩), (2, some ⟨(eA64u8 ((vrep 64 (0 : Int)))), false⟩), (3, some ⟨(eA64u8 x32), false⟩)]⟩) rfl ?_
      refine a_seq ?_
      refine a_block ?_
      refine a_region ?_
      refine a_val (v := (.int .i64 x31)) (u := []) rfl trivial rfl ?_
      refine a_val (v := (.int .i64 x31)) (u := []) rfl trivial rfl ?_
      obtain ⟨hc42, h⟩ := ifp_some h
      refine a_val (v := (.own 1 [x31.toNat] [x31.toNat * 1])) (u := []) rfl hc42 rfl ?_
      have hl43 : LdOk [x31.toNat] (eA64u8 a0) [x31.toNat * 1] 1 false (.int .u8 (rd a0.1 x31.toNat)) := (.arr (vlt a0 hc42) rfl (.nil rfl rfl rfl))
      refine a_val (v := (.int .u8 (rd a0.1 x31.toNat))) (u := []) (ld_own (i := ⟨.int .u8, 1, 1, (.int .u8 0)⟩) rfl rfl rfl hl43) hl43.c rfl ?_
      obtain ⟨hc44, h⟩ := ifp_some h
      refine a_val (v := (.own 3 [x31.toNat] [x31.toNat * 1])) (u := []) rfl hc44 rfl ?_
      have hs45 : StOk [x31.toNat] (eA64u8 x32) [x31.toNat * 1] 1 (.int .u8 (rd a0.1 x31.toNat)) (eA64u8 ((vset x32 x31.toNat (rd a0.1 x31.toNat)))) := (.arr (y := (rd a0.1 x31.toNat)) (vlt x32 hc44) rfl (.nil rfl rfl rfl rfl))
      refine a_val (v := .top) (u := [(3, some ⟨(eA64u8 ((vset x32 x31.toNat (rd a0.1 x31.toNat)))), false⟩)]) (st_own (i := ⟨.int .u8, 1, 1, (.int .u8 0)⟩) rfl rfl (fun _ => rfl) rfl hs45) (hs45.c rfl) rfl ?_
      refine a_nil ?_
      refine b_norm ?_
      refine a_next (σ' := ⟨[(1, (.own 1 [] [])), (2, (.own 2 [] [])), (3, (.own 3 [] [])), (4, (.int .i64 x31))], [(1, some ⟨(eA64u8 a0), false⟩), (2, some ⟨(eA64u8 ((vrep 64 (0 : Int)))), false⟩), (3, some ⟨(eA64u8 ((vset x32 x31.toNat (rd a0.1 x31.toNat)))), false⟩)]⟩) rfl ?_
      refine a_region ?_
      refine a_val (v := (.int .i64 x31)) (u := []) rfl trivial rfl ?_
      refine a_val (v := (.int .i64 (IntKind.i64.wrap (x31 + 1)))) (u := []) rfl trivial rfl ?_
      refine a_val (v := (.int .i64 (IntKind.i64.wrap (x31 + 1)))) (u := []) rfl trivial rfl ?_
      refine a_nil ?_
      cases h
      exact a_again rfl hX40
def laws_toDesk_c : ACode := (.seq (.region 0 [⟨some 1, .box 36 (.tmp 0), none, []⟩, ⟨some 2, .alloc 25, none, []⟩] false) (.seq (.region 1 [⟨some 3, .alloc 25, none, []⟩] false) (.seq (.region 2 [⟨some 4, .fieldAddr 36 (.tmp 1) 0, none, []⟩, ⟨some 5, .load 2 (.tmp 4), none, []⟩, ⟨some 6, .fieldAddr 25 (.tmp 3) 0, none, []⟩, ⟨none, .store 2 (.tmp 6) (.tmp 5), none, []⟩] false) (.seq (.region 3 [⟨some 7, .fieldAddr 36 (.tmp 1) 1, none, []⟩, ⟨some 8, .load 22 (.tmp 7), none, []⟩, ⟨some 9, .call 0 (.func 32) [(.tmp 8)], none, []⟩, ⟨some 10, .fieldAddr 25 (.tmp 3) 1, none, []⟩, ⟨none, .store 23 (.tmp 10) (.tmp 9), none, []⟩] false) (.seq (.region 4 [⟨some 11, .fieldAddr 36 (.tmp 1) 2, none, []⟩, ⟨some 12, .load 22 (.tmp 11), none, []⟩, ⟨some 13, .call 0 (.func 32) [(.tmp 12)], none, []⟩, ⟨some 14, .fieldAddr 25 (.tmp 3) 2, none, []⟩, ⟨none, .store 23 (.tmp 14) (.tmp 13), none, []⟩] false) (.seq (.region 5 [⟨some 15, .fieldAddr 36 (.tmp 1) 3, none, []⟩, ⟨some 16, .load 22 (.tmp 15), none, []⟩, ⟨some 17, .call 0 (.func 32) [(.tmp 16)], none, []⟩, ⟨some 18, .fieldAddr 25 (.tmp 3) 3, none, []⟩, ⟨none, .store 23 (.tmp 18) (.tmp 17), none, []⟩] false) (.seq (.region 6 [⟨some 19, .load 25 (.tmp 3), none, []⟩, ⟨none, .store 25 (.tmp 2) (.tmp 19), none, []⟩] false) .ret)))))))
def laws_toDesk_L : Live := [(0, [0]), (1, [1, 2]), (2, [1, 2, 3]), (3, [1, 2, 3]), (4, [1, 2, 3]), (5, [1, 2, 3]), (6, [2, 3])]
theorem laws_toDesk_body : Try.f24.body = some (Try.f24.body.getD .skip) := by kernel_rfl
theorem laws_toDesk_strip : strip [] (Try.f24.body.getD .skip) = laws_toDesk_c := by kernel_rfl
noncomputable def laws_toDesk (a0 : (Int × (Vec Int 64) × (Vec Int 64) × (Vec Int 64))) : Option (Int × (Vec Int 64) × (Vec Int 64) × (Vec Int 64)) :=
  (Option.bind (laws_toPoly a0.2.1) fun r4 => (Option.bind (laws_toPoly a0.2.2.1) fun r8 => (Option.bind (laws_toPoly a0.2.2.2) fun r12 => (some (a0.1, r4, r8, r12)))))
set_option maxHeartbeats 16000000 in
theorem laws_toDesk_ok (a0 : (Int × (Vec Int 64) × (Vec Int 64) × (Vec Int 64))) (r : (Int × (Vec Int 64) × (Vec Int 64) × (Vec Int 64))) (h : laws_toDesk a0 = some r) : Den Try.prog 24 [(eT_i64_A64u8_A64u8_A64u8_Z a0)] { r := (eT_i64_A64u8_A64u8_A64u8_Z r) } := by
  refine den_of (rs := [(eT_i64_A64u8_A64u8_A64u8_Z r)]) (ac := laws_toDesk_c) (L := laws_toDesk_L) (n := 20) (m := []) good Try.func24 laws_toDesk_body (by kernel_rfl) Try.ntmps24 rfl rfl laws_toDesk_strip rfl rfl ?_
  refine a_st (σ' := ⟨[(0, (eT_i64_A64u8_A64u8_A64u8_Z a0))], []⟩) rfl ?_
  unfold laws_toDesk_c
  refine a_seq ?_
  refine a_region ?_
  refine a_val (v := (.own 1100 [] [])) (u := [(1100, some ⟨(eT_i64_A64u8_A64u8_A64u8_Z a0), false⟩)]) rfl trivial rfl ?_
  refine a_val (v := (.own 1200 [] [])) (u := [(1200, some ⟨(eT_i64_A64u8_A64u8_A64u8_Z (((0 : Int), (vrep 64 (0 : Int)), (vrep 64 (0 : Int)), (vrep 64 (0 : Int))))), false⟩)]) rfl trivial rfl ?_
  refine a_nil ?_
  refine a_next (σ' := ⟨[(1, (.own 1 [] [])), (2, (.own 2 [] []))], [(1, some ⟨(eT_i64_A64u8_A64u8_A64u8_Z a0), false⟩), (2, some ⟨(eT_i64_A64u8_A64u8_A64u8_Z (((0 : Int), (vrep 64 (0 : Int)), (vrep 64 (0 : Int)), (vrep 64 (0 : Int))))), false⟩)]⟩) rfl ?_
  refine a_seq ?_
  refine a_region ?_
  refine a_val (v := (.own 1300 [] [])) (u := [(1300, some ⟨(eT_i64_A64u8_A64u8_A64u8_Z (((0 : Int), (vrep 64 (0 : Int)), (vrep 64 (0 : Int)), (vrep 64 (0 : Int))))), false⟩)]) rfl trivial rfl ?_
  refine a_nil ?_
  refine a_next (σ' := ⟨[(1, (.own 1 [] [])), (2, (.own 2 [] [])), (3, (.own 3 [] []))], [(1, some ⟨(eT_i64_A64u8_A64u8_A64u8_Z a0), false⟩), (2, some ⟨(eT_i64_A64u8_A64u8_A64u8_Z (((0 : Int), (vrep 64 (0 : Int)), (vrep 64 (0 : Int)), (vrep 64 (0 : Int))))), false⟩), (3, some ⟨(eT_i64_A64u8_A64u8_A64u8_Z (((0 : Int), (vrep 64 (0 : Int)), (vrep 64 (0 : Int)), (vrep 64 (0 : Int))))), false⟩)]⟩) rfl ?_
  refine a_seq ?_
  refine a_region ?_
  refine a_val (v := (.own 1 [0] [0])) (u := []) rfl (Nat.le_of_ble_eq_true rfl) rfl ?_
  have hl1 : LdOk [0] (eT_i64_A64u8_A64u8_A64u8_Z a0) [0] 1 false (.int .i64 a0.1) := (.fld rfl rfl rfl rfl (.nil rfl rfl rfl))
  refine a_val (v := (.int .i64 a0.1)) (u := []) (ld_own (i := ⟨.int .i64, 1, 8, (.int .i64 0)⟩) rfl rfl rfl hl1) hl1.c rfl ?_
  refine a_val (v := (.own 3 [0] [0])) (u := []) rfl (Nat.le_of_ble_eq_true rfl) rfl ?_
  have hs2 : StOk [0] (eT_i64_A64u8_A64u8_A64u8_Z (((0 : Int), (vrep 64 (0 : Int)), (vrep 64 (0 : Int)), (vrep 64 (0 : Int))))) [0] 1 (.int .i64 a0.1) (eT_i64_A64u8_A64u8_A64u8_Z ((a0.1, (vrep 64 (0 : Int)), (vrep 64 (0 : Int)), (vrep 64 (0 : Int))))) := (.fld rfl rfl rfl rfl (.nil rfl rfl rfl rfl))
  refine a_val (v := .top) (u := [(3, some ⟨(eT_i64_A64u8_A64u8_A64u8_Z ((a0.1, (vrep 64 (0 : Int)), (vrep 64 (0 : Int)), (vrep 64 (0 : Int))))), false⟩)]) (st_own (i := ⟨.int .i64, 1, 8, (.int .i64 0)⟩) rfl rfl (fun _ => rfl) rfl hs2) (hs2.c rfl) rfl ?_
  refine a_nil ?_
  refine a_next (σ' := ⟨[(1, (.own 1 [] [])), (2, (.own 2 [] [])), (3, (.own 3 [] []))], [(1, some ⟨(eT_i64_A64u8_A64u8_A64u8_Z a0), false⟩), (2, some ⟨(eT_i64_A64u8_A64u8_A64u8_Z (((0 : Int), (vrep 64 (0 : Int)), (vrep 64 (0 : Int)), (vrep 64 (0 : Int))))), false⟩), (3, some ⟨(eT_i64_A64u8_A64u8_A64u8_Z ((a0.1, (vrep 64 (0 : Int)), (vrep 64 (0 : Int)), (vrep 64 (0 : Int))))), false⟩)]⟩) rfl ?_
  refine a_seq ?_
  refine a_region ?_
  refine a_val (v := (.own 1 [1] [1])) (u := []) rfl (Nat.le_of_ble_eq_true rfl) rfl ?_
  have hl3 : LdOk [1] (eT_i64_A64u8_A64u8_A64u8_Z a0) [1] 64 true (eA64u8 a0.2.1) := (.fld rfl rfl rfl rfl (.nil rfl rfl rfl))
  refine a_val (v := (eA64u8 a0.2.1)) (u := []) (ld_own (i := ⟨.arr 64 5, 64, 64, (eA64u8 (vrep 64 (0 : Int)))⟩) rfl rfl rfl hl3) hl3.c rfl ?_
  obtain ⟨r4, hr5, h⟩ := bind_some h
  refine a_call (args := [(eA64u8 a0.2.1)]) (u := []) (r := (eA64u8 r4)) rfl rfl (laws_toPoly_ok a0.2.1 r4 hr5) rfl ?_
  refine a_val (v := (.own 3 [1] [1])) (u := []) rfl (Nat.le_of_ble_eq_true rfl) rfl ?_
  have hs6 : StOk [1] (eT_i64_A64u8_A64u8_A64u8_Z ((a0.1, (vrep 64 (0 : Int)), (vrep 64 (0 : Int)), (vrep 64 (0 : Int))))) [1] 64 (eA64u8 r4) (eT_i64_A64u8_A64u8_A64u8_Z ((a0.1, r4, (vrep 64 (0 : Int)), (vrep 64 (0 : Int))))) := (.fld rfl rfl rfl rfl (.nil rfl rfl rfl rfl))
  refine a_val (v := .top) (u := [(3, some ⟨(eT_i64_A64u8_A64u8_A64u8_Z ((a0.1, r4, (vrep 64 (0 : Int)), (vrep 64 (0 : Int))))), false⟩)]) (st_own (i := ⟨.arr 64 5, 64, 64, (eA64u8 (vrep 64 (0 : Int)))⟩) rfl rfl (fun _ => rfl) rfl hs6) (hs6.c rfl) rfl ?_
  refine a_nil ?_
  refine a_next (σ' := ⟨[(1, (.own 1 [] [])), (2, (.own 2 [] [])), (3, (.own 3 [] []))], [(1, some ⟨(eT_i64_A64u8_A64u8_A64u8_Z a0), false⟩), (2, some ⟨(eT_i64_A64u8_A64u8_A64u8_Z (((0 : Int), (vrep 64 (0 : Int)), (vrep 64 (0 : Int)), (vrep 64 (0 : Int))))), false⟩), (3, some ⟨(eT_i64_A64u8_A64u8_A64u8_Z ((a0.1, r4, (vrep 64 (0 : Int)), (vrep 64 (0 : Int))))), false⟩)]⟩) rfl ?_
  refine a_seq ?_
  refine a_region ?_
  refine a_val (v := (.own 1 [2] [65])) (u := []) rfl (Nat.le_of_ble_eq_true rfl) rfl ?_
  have hl7 : LdOk [2] (eT_i64_A64u8_A64u8_A64u8_Z a0) [65] 64 true (eA64u8 a0.2.2.1) := (.fld rfl rfl rfl rfl (.nil rfl rfl rfl))
  refine a_val (v := (eA64u8 a0.2.2.1)) (u := []) (ld_own (i := ⟨.arr 64 5, 64, 64, (eA64u8 (vrep 64 (0 : Int)))⟩) rfl rfl rfl hl7) hl7.c rfl ?_
  obtain ⟨r8, hr9, h⟩ := bind_some h
  refine a_call (args := [(eA64u8 a0.2.2.1)]) (u := []) (r := (eA64u8 r8)) rfl rfl (laws_toPoly_ok a0.2.2.1 r8 hr9) rfl ?_
  refine a_val (v := (.own 3 [2] [65])) (u := []) rfl (Nat.le_of_ble_eq_true rfl) rfl ?_
  have hs10 : StOk [2] (eT_i64_A64u8_A64u8_A64u8_Z ((a0.1, r4, (vrep 64 (0 : Int)), (vrep 64 (0 : Int))))) [65] 64 (eA64u8 r8) (eT_i64_A64u8_A64u8_A64u8_Z ((a0.1, r4, r8, (vrep 64 (0 : Int))))) := (.fld rfl rfl rfl rfl (.nil rfl rfl rfl rfl))
  refine a_val (v := .top) (u := [(3, some ⟨(eT_i64_A64u8_A64u8_A64u8_Z ((a0.1, r4, r8, (vrep 64 (0 : Int))))), false⟩)]) (st_own (i := ⟨.arr 64 5, 64, 64, (eA64u8 (vrep 64 (0 : Int)))⟩) rfl rfl (fun _ => rfl) rfl hs10) (hs10.c rfl) rfl ?_
  refine a_nil ?_
  refine a_next (σ' := ⟨[(1, (.own 1 [] [])), (2, (.own 2 [] [])), (3, (.own 3 [] []))], [(1, some ⟨(eT_i64_A64u8_A64u8_A64u8_Z a0), false⟩), (2, some ⟨(eT_i64_A64u8_A64u8_A64u8_Z (((0 : Int), (vrep 64 (0 : Int)), (vrep 64 (0 : Int)), (vrep 64 (0 : Int))))), false⟩), (3, some ⟨(eT_i64_A64u8_A64u8_A64u8_Z ((a0.1, r4, r8, (vrep 64 (0 : Int))))), false⟩)]⟩) rfl ?_
  refine a_seq ?_
  refine a_region ?_
  refine a_val (v := (.own 1 [3] [129])) (u := []) rfl (Nat.le_of_ble_eq_true rfl) rfl ?_
  have hl11 : LdOk [3] (eT_i64_A64u8_A64u8_A64u8_Z a0) [129] 64 true (eA64u8 a0.2.2.2) := (.fld rfl rfl rfl rfl (.nil rfl rfl rfl))
  refine a_val (v := (eA64u8 a0.2.2.2)) (u := []) (ld_own (i := ⟨.arr 64 5, 64, 64, (eA64u8 (vrep 64 (0 : Int)))⟩) rfl rfl rfl hl11) hl11.c rfl ?_
  obtain ⟨r12, hr13, h⟩ := bind_some h
  refine a_call (args := [(eA64u8 a0.2.2.2)]) (u := []) (r := (eA64u8 r12)) rfl rfl (laws_toPoly_ok a0.2.2.2 r12 hr13) rfl ?_
  refine a_val (v := (.own 3 [3] [129])) (u := []) rfl (Nat.le_of_ble_eq_true rfl) rfl ?_
  have hs14 : StOk [3] (eT_i64_A64u8_A64u8_A64u8_Z ((a0.1, r4, r8, (vrep 64 (0 : Int))))) [129] 64 (eA64u8 r12) (eT_i64_A64u8_A64u8_A64u8_Z (a0.1, r4, r8, r12)) := (.fld rfl rfl rfl rfl (.nil rfl rfl rfl rfl))
  refine a_val (v := .top) (u := [(3, some ⟨(eT_i64_A64u8_A64u8_A64u8_Z (a0.1, r4, r8, r12)), false⟩)]) (st_own (i := ⟨.arr 64 5, 64, 64, (eA64u8 (vrep 64 (0 : Int)))⟩) rfl rfl (fun _ => rfl) rfl hs14) (hs14.c rfl) rfl ?_
  refine a_nil ?_
  refine a_next (σ' := ⟨[(2, (.own 2 [] [])), (3, (.own 3 [] []))], [(2, some ⟨(eT_i64_A64u8_A64u8_A64u8_Z (((0 : Int), (vrep 64 (0 : Int)), (vrep 64 (0 : Int)), (vrep 64 (0 : Int))))), false⟩), (3, some ⟨(eT_i64_A64u8_A64u8_A64u8_Z (a0.1, r4, r8, r12)), false⟩)]⟩) rfl ?_
  refine a_seq ?_
  refine a_region ?_
  have hl15 : LdOk [] (eT_i64_A64u8_A64u8_A64u8_Z (a0.1, r4, r8, r12)) [] 193 true (eT_i64_A64u8_A64u8_A64u8_Z (a0.1, r4, r8, r12)) := (.nil rfl rfl rfl)
  refine a_val (v := (eT_i64_A64u8_A64u8_A64u8_Z (a0.1, r4, r8, r12))) (u := []) (ld_own (i := ⟨.struct [(0, 2), (1, 23), (65, 23), (129, 23)], 193, 200, (eT_i64_A64u8_A64u8_A64u8_Z ((0 : Int), (vrep 64 (0 : Int)), (vrep 64 (0 : Int)), (vrep 64 (0 : Int))))⟩) rfl rfl rfl hl15) hl15.c rfl ?_
  have hs16 : StOk [] (eT_i64_A64u8_A64u8_A64u8_Z (((0 : Int), (vrep 64 (0 : Int)), (vrep 64 (0 : Int)), (vrep 64 (0 : Int))))) [] 193 (eT_i64_A64u8_A64u8_A64u8_Z (a0.1, r4, r8, r12)) (eT_i64_A64u8_A64u8_A64u8_Z (a0.1, r4, r8, r12)) := (.nil rfl rfl rfl rfl)
  refine a_val (v := .top) (u := [(2, some ⟨(eT_i64_A64u8_A64u8_A64u8_Z (a0.1, r4, r8, r12)), false⟩)]) (st_own (i := ⟨.struct [(0, 2), (1, 23), (65, 23), (129, 23)], 193, 200, (eT_i64_A64u8_A64u8_A64u8_Z ((0 : Int), (vrep 64 (0 : Int)), (vrep 64 (0 : Int)), (vrep 64 (0 : Int))))⟩) rfl rfl (fun _ => rfl) rfl hs16) (hs16.c rfl) rfl ?_
  refine a_nil ?_
  refine a_next rfl ?_
  refine a_ret ?_
  have hl17 : LdOk [] (eT_i64_A64u8_A64u8_A64u8_Z (a0.1, r4, r8, r12)) [] 193 true (eT_i64_A64u8_A64u8_A64u8_Z (a0.1, r4, r8, r12)) := (.nil rfl rfl rfl)
  refine ⟨.inr rfl, ?_⟩
  rw [Try.results24]
  cases h
  exact ⟨_, _, _, _, _, ld_own (i := ⟨.struct [(0, 2), (1, 23), (65, 23), (129, 23)], 193, 200, (eT_i64_A64u8_A64u8_A64u8_Z ((0 : Int), (vrep 64 (0 : Int)), (vrep 64 (0 : Int)), (vrep 64 (0 : Int))))⟩) rfl rfl rfl hl17, hl17.c, .inl ⟨rfl, .inl rfl⟩, rfl, rfl⟩
def spec_l01Is_c : ACode := (.seq (.region 0 [⟨some 3, .box 23 (.tmp 1), none, []⟩, ⟨some 4, .asg 0 (.const (.bool false)) 4, none, []⟩] false) (.seq (.seq (.region 1 [⟨some 5, .asg 0 (.const (.int .i64 0)) 3, none, []⟩] false) (.block 0 (.loop (.seq (.seq (.region 2 [⟨some 6, .mov (.tmp 5), none, []⟩, ⟨some 7, .bin .lss 3 (.tmp 6) (.const (.int .i64 64)), none, []⟩] false) (.cond (.tmp 7) .skip (.exit 0))) (.seq (.block 1 (.seq (.region 4 [⟨some 10, .mov (.tmp 5), none, []⟩, ⟨some 11, .indexAddr 23 (.tmp 3) (.tmp 10), none, []⟩, ⟨some 12, .load 5 (.tmp 11), none, []⟩, ⟨some 13, .conv 5 2 (.tmp 12), none, []⟩, ⟨some 14, .mov (.tmp 0), none, []⟩, ⟨some 15, .bin .geq 2 (.tmp 13) (.tmp 14), none, []⟩] false) (.cond (.tmp 15) (.seq (.region 5 [⟨some 4, .asg 0 (.const (.bool false)) 4, none, []⟩] false) .ret) .skip))) (.region 3 [⟨some 8, .mov (.tmp 5), none, []⟩, ⟨some 9, .bin .add 3 (.tmp 8) (.const (.int .i64 1)), none, []⟩, ⟨some 5, .asg 0 (.tmp 9) 3, none, []⟩] false)))))) (.seq (.region 6 [⟨some 16, .mov (.tmp 0), none, []⟩, ⟨some 17, .call 0 (.func 56) [(.tmp 16)], none, []⟩, ⟨some 4, .asg 0 (.tmp 17) 4, none, []⟩] false) .ret)))
def spec_l01Is_L : Live := [(0, [0, 1]), (1, [0, 3]), (2, [0, 3, 5]), (3, [0, 3, 5]), (4, [0, 3, 5]), (5, []), (6, [0]), (100007, [0, 3, 5, 7]), (100015, [0, 3, 5, 15])]
theorem spec_l01Is_body : Try.f131.body = some (Try.f131.body.getD .skip) := by kernel_rfl
theorem spec_l01Is_strip : strip [] (Try.f131.body.getD .skip) = spec_l01Is_c := by kernel_rfl
noncomputable def spec_l01Is_l1 (a1 : (Vec Int 64)) (a0 : Int) (x25 : Int) : Option (Int ⊕ (Unit ⊕ Bool)) :=
  (if (decide (x25 < 64)) then (ifp (0 ≤ x25 ∧ x25 < ((64 : Nat) : Int)) ((if (decide ((IntKind.i64.wrap (rd a1.1 x25.toNat)) ≥ a0)) then (some (.inr (.inr false))) else (some (.inl (IntKind.i64.wrap (x25 + 1))))))) else (some (.inr (((.inl ()))))))
noncomputable def spec_l01Is (a0 : Int) (a1 : (Vec Int 64)) : Option Bool :=
  (Option.bind ((loopM (fun s : Int => spec_l01Is_l1 a1 a0 s) 0)) fun z => match z with | .inl _ => (Option.bind (spec_l01Prime a0) fun r38 => (some r38)) | .inr r40 => (some r40))
set_option maxHeartbeats 16000000 in
theorem spec_l01Is_ok (a0 : Int) (a1 : (Vec Int 64)) (r : Bool) (h : spec_l01Is a0 a1 = some r) : Den Try.prog 131 [(.int .i64 a0), (eA64u8 a1)] { r := (.bool r) } := by
  refine den_of (rs := [(.bool r)]) (ac := spec_l01Is_c) (L := spec_l01Is_L) (n := 18) (m := []) good Try.func131 spec_l01Is_body (by kernel_rfl) Try.ntmps131 rfl rfl spec_l01Is_strip rfl rfl ?_
  refine a_st (σ' := ⟨[(0, (.int .i64 a0)), (1, (eA64u8 a1))], []⟩) rfl ?_
  unfold spec_l01Is_c
  refine a_seq ?_
  refine a_region ?_
  refine a_val (v := (.own 1300 [] [])) (u := [(1300, some ⟨(eA64u8 a1), false⟩)]) rfl trivial rfl ?_
  refine a_val (v := (.bool false)) (u := []) rfl trivial rfl ?_
  refine a_nil ?_
  refine a_next (σ' := ⟨[(0, (.int .i64 a0)), (3, (.own 3 [] []))], [(3, some ⟨(eA64u8 a1), false⟩)]⟩) rfl ?_
  obtain ⟨y18, hy19, hk20⟩ := bind_some h
  clear h
  refine a_join (emb := fun (s : Unit) => ⟨[(0, (.int .i64 a0))], []⟩) (pre := fun s => (.inl s) = y18) ?_ ?_
  · rintro _ rfl
    have h := hk20
    refine a_st (σ' := ⟨[(0, (.int .i64 a0))], []⟩) rfl ?_
    refine a_seq ?_
    refine a_region ?_
    refine a_val (v := (.int .i64 a0)) (u := []) rfl trivial rfl ?_
    obtain ⟨r38, hr39, h⟩ := bind_some h
    refine a_call (args := [(.int .i64 a0)]) (u := []) (r := (.bool r38)) rfl rfl (spec_l01Prime_ok a0 r38 hr39) rfl ?_
    refine a_val (v := (.bool r38)) (u := []) rfl trivial rfl ?_
    refine a_nil ?_
    refine a_next rfl ?_
    refine a_ret ?_
    refine ⟨.inr rfl, ?_⟩
    rw [Try.results131]
    cases h
    exact ⟨_, _, _, _, _, rfl, trivial, .inl ⟨rfl, .inl rfl⟩, rfl, rfl⟩
  · have h := hy19
    refine a_seq ?_
    refine a_region ?_
    refine a_val (v := (.int .i64 0)) (u := []) rfl trivial rfl ?_
    refine a_nil ?_
    refine a_next (σ' := ⟨[(0, (.int .i64 a0)), (3, (.own 3 [] [])), (5, (.int .i64 0))], [(3, some ⟨(eA64u8 a1), false⟩)]⟩) rfl ?_
    refine a_block ?_
    refine a_loop (emb := fun (s : Int) => ⟨[(0, (.int .i64 a0)), (3, (.own 3 [] [])), (5, (.int .i64 s))], [(3, some ⟨(eA64u8 a1), false⟩)]⟩) (body := (fun s : Int => spec_l01Is_l1 a1 a0 s)) (G := fun q => some q = some y18) h rfl ?_ rfl
    rintro X30 x25 x31 h hX32
    have h : spec_l01Is_l1 a1 a0 x25 = some x31 := h
    refine a_st (σ' := ⟨[(0, (.int .i64 a0)), (3, (.own 3 [] [])), (5, (.int .i64 x25))], [(3, some ⟨(eA64u8 a1), false⟩)]⟩) rfl ?_
    refine a_seq ?_
    refine a_seq ?_
    refine a_region ?_
    refine a_val (v := (.int .i64 x25)) (u := []) rfl trivial rfl ?_
    refine a_val (v := (.bool ((decide (x25 < 64))))) (u := []) rfl trivial rfl ?_
    refine a_nil ?_
    refine a_next (σ' := ⟨[(0, (.int .i64 a0)), (3, (.own 3 [] [])), (5, (.int .i64 x25)), (7, (.bool ((decide (x25 < 64)))))], [(3, some ⟨(eA64u8 a1), false⟩)]⟩) rfl ?_
    cases hb33 : (decide (x25 < 64))
    · have h := ite_f hb33 h
      refine a_cond_f rfl ?_
      refine a_exit ?_
      refine t_exit ?_
      cases h
      have h := hX32
      refine t_exit ?_
      refine b_exit ?_
      exact j_leaf () (Option.some.inj h) rfl
    · have h := ite_t hb33 h
      refine a_cond_t rfl ?_
      refine a_skip ?_
      refine a_next (σ' := ⟨[(0, (.int .i64 a0)), (3, (.own 3 [] [])), (5, (.int .i64 x25))], [(3, some ⟨(eA64u8 a1), false⟩)]⟩) rfl ?_
      refine a_seq ?_
      refine a_block ?_
      refine a_seq ?_
      refine a_region ?_
      refine a_val (v := (.int .i64 x25)) (u := []) rfl trivial rfl ?_
      obtain ⟨hc34, h⟩ := ifp_some h
      refine a_val (v := (.own 3 [x25.toNat] [x25.toNat * 1])) (u := []) rfl hc34 rfl ?_
      have hl35 : LdOk [x25.toNat] (eA64u8 a1) [x25.toNat * 1] 1 false (.int .u8 (rd a1.1 x25.toNat)) := (.arr (vlt a1 hc34) rfl (.nil rfl rfl rfl))
      refine a_val (v := (.int .u8 (rd a1.1 x25.toNat))) (u := []) (ld_own (i := ⟨.int .u8, 1, 1, (.int .u8 0)⟩) rfl rfl rfl hl35) hl35.c rfl ?_
      refine a_val (v := (.int .i64 (IntKind.i64.wrap (rd a1.1 x25.toNat)))) (u := []) rfl trivial rfl ?_
      refine a_val (v := (.int .i64 a0)) (u := []) rfl trivial rfl ?_
      refine a_val (v := (.bool ((decide ((IntKind.i64.wrap (rd a1.1 x25.toNat)) ≥ a0))))) (u := []) rfl trivial rfl ?_
      refine a_nil ?_
      refine a_next (σ' := ⟨[(0, (.int .i64 a0)), (3, (.own 3 [] [])), (5, (.int .i64 x25)), (15, (.bool ((decide ((IntKind.i64.wrap (rd a1.1 x25.toNat)) ≥ a0)))))], [(3, some ⟨(eA64u8 a1), false⟩)]⟩) rfl ?_
      cases hb36 : (decide ((IntKind.i64.wrap (rd a1.1 x25.toNat)) ≥ a0))
      · have h := ite_f hb36 h
        refine a_cond_f rfl ?_
        refine a_skip ?_
        refine b_norm ?_
        refine a_next (σ' := ⟨[(0, (.int .i64 a0)), (3, (.own 3 [] [])), (5, (.int .i64 x25))], [(3, some ⟨(eA64u8 a1), false⟩)]⟩) rfl ?_
        refine a_region ?_
        refine a_val (v := (.int .i64 x25)) (u := []) rfl trivial rfl ?_
        refine a_val (v := (.int .i64 (IntKind.i64.wrap (x25 + 1)))) (u := []) rfl trivial rfl ?_
        refine a_val (v := (.int .i64 (IntKind.i64.wrap (x25 + 1)))) (u := []) rfl trivial rfl ?_
        refine a_nil ?_
        cases h
        exact a_again rfl hX32
      · have h := ite_t hb36 h
        refine a_cond_t rfl ?_
        refine a_seq ?_
        refine a_region ?_
        refine a_val (v := (.bool false)) (u := []) rfl trivial rfl ?_
        refine a_nil ?_
        refine a_next rfl ?_
        refine a_ret ?_
        refine b_ret ?_
        refine t_ret ?_
        cases h
        have h := hX32
        refine t_ret ?_
        refine b_ret ?_
        refine t_ret ?_
        cases h
        have h := hk20
        refine ⟨.inr rfl, ?_⟩
        rw [Try.results131]
        cases h
        exact ⟨_, _, _, _, _, rfl, trivial, .inl ⟨rfl, .inl rfl⟩, rfl, rfl⟩
def spec_l01Code_c : ACode := (.seq (.region 0 [⟨some 4, .asg 0 (.const (.int .i64 0)) 2, none, []⟩] false) (.seq (.seq (.region 1 [⟨some 6, .mov (.tmp 0), none, []⟩, ⟨some 7, .call 0 (.func 56) [(.tmp 6)], none, []⟩, ⟨some 8, .un .not (.tmp 7), none, []⟩] false) (.cond (.tmp 8) (.seq (.region 2 [⟨some 4, .asg 0 (.const (.int .i64 1)) 2, none, []⟩] false) .ret) .skip)) (.seq (.seq (.region 3 [⟨some 5, .asg 0 (.const (.int .i64 0)) 3, none, []⟩] false) (.block 0 (.loop (.seq (.seq (.region 4 [⟨some 9, .mov (.tmp 5), none, []⟩, ⟨some 10, .mov (.tmp 1), none, []⟩, ⟨some 11, .blt 0 .len [(.tmp 10)] [40], none, []⟩, ⟨some 12, .bin .lss 3 (.tmp 9) (.tmp 11), none, []⟩] false) (.cond (.tmp 12) .skip (.exit 0))) (.seq (.block 1 (.seq (.region 6 [⟨some 15, .mov (.tmp 0), none, []⟩, ⟨some 16, .mov (.tmp 1), none, []⟩, ⟨some 17, .mov (.tmp 5), none, []⟩, ⟨some 18, .indexAddr 40 (.tmp 16) (.tmp 17), none, []⟩, ⟨some 19, .load 23 (.tmp 18), none, []⟩, ⟨some 20, .call 0 (.func 131) [(.tmp 15), (.tmp 19)], none, []⟩, ⟨some 21, .un .not (.tmp 20), none, []⟩] false) (.cond (.tmp 21) (.seq (.region 7 [⟨some 4, .asg 0 (.const (.int .i64 1)) 2, none, []⟩] false) .ret) .skip))) (.region 5 [⟨some 13, .mov (.tmp 5), none, []⟩, ⟨some 14, .bin .add 3 (.tmp 13) (.const (.int .i64 1)), none, []⟩, ⟨some 5, .asg 0 (.tmp 14) 3, none, []⟩] false)))))) (.seq (.region 8 [⟨some 4, .asg 0 (.const (.int .i64 0)) 2, none, []⟩] false) .ret))))
def spec_l01Code_L : Live := [(0, [0, 1]), (1, [0, 1]), (2, []), (3, [0, 1]), (4, [0, 1, 5]), (5, [0, 1, 5]), (6, [0, 1, 5]), (7, []), (8, []), (100008, [0, 1, 8]), (100012, [0, 1, 5, 12]), (100021, [0, 1, 5, 21])]
theorem spec_l01Code_body : Try.f104.body = some (Try.f104.body.getD .skip) := by kernel_rfl
theorem spec_l01Code_strip : strip [] (Try.f104.body.getD .skip) = spec_l01Code_c := by kernel_rfl
noncomputable def spec_l01Code_l1 (a1 : (List (Vec Int 64))) (a0 : Int) (x36 : Int) : Option (Int ⊕ (Unit ⊕ Int)) :=
  (if (decide (x36 < (a1.length : Int))) then (ifp (0 ≤ x36 ∧ x36 < ((a1.length : Nat) : Int)) ((Option.bind (spec_l01Is a0 (rd a1 x36.toNat)) fun r49 => (if (!r49) then (some (.inr (.inr 1))) else (some (.inl (IntKind.i64.wrap (x36 + 1)))))))) else (some (.inr (((.inl ()))))))
noncomputable def spec_l01Code (a0 : Int) (a1 : (List (Vec Int 64))) : Option Int :=
  (Option.bind (spec_l01Prime a0) fun r1 => (if (!r1) then (some 1) else (Option.bind ((loopM (fun s : Int => spec_l01Code_l1 a1 a0 s) 0)) fun z => match z with | .inl _ => (some 0) | .inr r53 => (some r53))))
set_option maxHeartbeats 16000000 in
theorem spec_l01Code_ok (a0 : Int) (a1 : (List (Vec Int 64))) (r : Int) (h : spec_l01Code a0 a1 = some r) : Den Try.prog 104 [(.int .i64 a0), (eSA64u8 a1)] { r := (.int .i64 r) } := by
  refine den_of (rs := [(.int .i64 r)]) (ac := spec_l01Code_c) (L := spec_l01Code_L) (n := 22) (m := []) good Try.func104 spec_l01Code_body (by kernel_rfl) Try.ntmps104 rfl rfl spec_l01Code_strip rfl rfl ?_
  refine a_st (σ' := ⟨[(0, (.int .i64 a0)), (1, (eSA64u8 a1))], []⟩) rfl ?_
  unfold spec_l01Code_c
  refine a_seq ?_
  refine a_region ?_
  refine a_val (v := (.int .i64 0)) (u := []) rfl trivial rfl ?_
  refine a_nil ?_
  refine a_next (σ' := ⟨[(0, (.int .i64 a0)), (1, (eSA64u8 a1))], []⟩) rfl ?_
  refine a_seq ?_
  refine a_seq ?_
  refine a_region ?_
  refine a_val (v := (.int .i64 a0)) (u := []) rfl trivial rfl ?_
  obtain ⟨r1, hr2, h⟩ := bind_some h
  refine a_call (args := [(.int .i64 a0)]) (u := []) (r := (.bool r1)) rfl rfl (spec_l01Prime_ok a0 r1 hr2) rfl ?_
  refine a_val (v := (.bool (!r1))) (u := []) rfl trivial rfl ?_
  refine a_nil ?_
  refine a_next (σ' := ⟨[(0, (.int .i64 a0)), (1, (eSA64u8 a1)), (8, (.bool (!r1)))], []⟩) rfl ?_
  cases hb3 : (!r1)
  · have h := ite_f hb3 h
    refine a_cond_f rfl ?_
    refine a_skip ?_
    refine a_next (σ' := ⟨[(0, (.int .i64 a0)), (1, (eSA64u8 a1))], []⟩) rfl ?_
    obtain ⟨y27, hy28, hk29⟩ := bind_some h
    clear h
    refine a_join (emb := fun (s : Unit) => ⟨[], []⟩) (pre := fun s => (.inl s) = y27) ?_ ?_
    · rintro _ rfl
      have h := hk29
      refine a_st (σ' := ⟨[], []⟩) rfl ?_
      refine a_seq ?_
      refine a_region ?_
      refine a_val (v := (.int .i64 0)) (u := []) rfl trivial rfl ?_
      refine a_nil ?_
      refine a_next rfl ?_
      refine a_ret ?_
      refine ⟨.inr rfl, ?_⟩
      rw [Try.results104]
      cases h
      exact ⟨_, _, _, _, _, rfl, trivial, .inl ⟨rfl, .inl rfl⟩, rfl, rfl⟩
    · have h := hy28
      refine a_seq ?_
      refine a_region ?_
      refine a_val (v := (.int .i64 0)) (u := []) rfl trivial rfl ?_
      refine a_nil ?_
      refine a_next (σ' := ⟨[(0, (.int .i64 a0)), (1, (eSA64u8 a1)), (5, (.int .i64 0))], []⟩) rfl ?_
      refine a_block ?_
      refine a_loop (emb := fun (s : Int) => ⟨[(0, (.int .i64 a0)), (1, (eSA64u8 a1)), (5, (.int .i64 s))], []⟩) (body := (fun s : Int => spec_l01Code_l1 a1 a0 s)) (G := fun q => some q = some y27) h rfl ?_ rfl
      rintro X43 x36 x44 h hX45
      have h : spec_l01Code_l1 a1 a0 x36 = some x44 := h
      refine a_st (σ' := ⟨[(0, (.int .i64 a0)), (1, (eSA64u8 a1)), (5, (.int .i64 x36))], []⟩) rfl ?_
      refine a_seq ?_
      refine a_seq ?_
      refine a_region ?_
      refine a_val (v := (.int .i64 x36)) (u := []) rfl trivial rfl ?_
      refine a_val (v := (eSA64u8 a1)) (u := []) rfl trivial rfl ?_
      refine a_val (v := (.int .i64 (a1.length : Int))) (u := []) (len_run rfl rfl) trivial rfl ?_
      refine a_val (v := (.bool ((decide (x36 < (a1.length : Int)))))) (u := []) rfl trivial rfl ?_
      refine a_nil ?_
      refine a_next (σ' := ⟨[(0, (.int .i64 a0)), (1, (eSA64u8 a1)), (5, (.int .i64 x36)), (12, (.bool ((decide (x36 < (a1.length : Int))))))], []⟩) rfl ?_
      cases hb46 : (decide (x36 < (a1.length : Int)))
      · have h := ite_f hb46 h
        refine a_cond_f rfl ?_
        refine a_exit ?_
        refine t_exit ?_
        cases h
        have h := hX45
        refine t_exit ?_
        refine b_exit ?_
        exact j_leaf () (Option.some.inj h) rfl
      · have h := ite_t hb46 h
        refine a_cond_t rfl ?_
        refine a_skip ?_
        refine a_next (σ' := ⟨[(0, (.int .i64 a0)), (1, (eSA64u8 a1)), (5, (.int .i64 x36))], []⟩) rfl ?_
        refine a_seq ?_
        refine a_block ?_
        refine a_seq ?_
        refine a_region ?_
        refine a_val (v := (.int .i64 a0)) (u := []) rfl trivial rfl ?_
        refine a_val (v := (eSA64u8 a1)) (u := []) rfl trivial rfl ?_
        refine a_val (v := (.int .i64 x36)) (u := []) rfl trivial rfl ?_
        obtain ⟨hc47, h⟩ := ifp_some h
        refine a_val (v := (.ref (.row 64 (a1.map eA64u8)) [x36.toNat] [x36.toNat * 64])) (u := []) rfl (lmap hc47) rfl ?_
        have hl48 : LdOk [x36.toNat] (.row 64 (a1.map eA64u8)) [x36.toNat * 64] 64 true (eA64u8 (rd a1 x36.toNat)) := (.row (llt hc47) rfl (.nil rfl rfl rfl))
        refine a_val (v := (eA64u8 (rd a1 x36.toNat))) (u := []) (ld_ref (i := ⟨.arr 64 5, 64, 64, (eA64u8 (vrep 64 (0 : Int)))⟩) rfl rfl hl48) hl48.c rfl ?_
        obtain ⟨r49, hr50, h⟩ := bind_some h
        refine a_call (args := [(.int .i64 a0), (eA64u8 (rd a1 x36.toNat))]) (u := []) (r := (.bool r49)) rfl rfl (spec_l01Is_ok a0 (rd a1 x36.toNat) r49 hr50) rfl ?_
        refine a_val (v := (.bool (!r49))) (u := []) rfl trivial rfl ?_
        refine a_nil ?_
        refine a_next (σ' := ⟨[(0, (.int .i64 a0)), (1, (eSA64u8 a1)), (5, (.int .i64 x36)), (21, (.bool (!r49)))], []⟩) rfl ?_
        cases hb51 : (!r49)
        · have h := ite_f hb51 h
          refine a_cond_f rfl ?_
          refine a_skip ?_
          refine b_norm ?_
          refine a_next (σ' := ⟨[(0, (.int .i64 a0)), (1, (eSA64u8 a1)), (5, (.int .i64 x36))], []⟩) rfl ?_
          refine a_region ?_
          refine a_val (v := (.int .i64 x36)) (u := []) rfl trivial rfl ?_
          refine a_val (v := (.int .i64 (IntKind.i64.wrap (x36 + 1)))) (u := []) rfl trivial rfl ?_
          refine a_val (v := (.int .i64 (IntKind.i64.wrap (x36 + 1)))) (u := []) rfl trivial rfl ?_
          refine a_nil ?_
          cases h
          exact a_again rfl hX45
        · have h := ite_t hb51 h
          refine a_cond_t rfl ?_
          refine a_seq ?_
          refine a_region ?_
          refine a_val (v := (.int .i64 1)) (u := []) rfl trivial rfl ?_
          refine a_nil ?_
          refine a_next rfl ?_
          refine a_ret ?_
          refine b_ret ?_
          refine t_ret ?_
          cases h
          have h := hX45
          refine t_ret ?_
          refine b_ret ?_
          refine t_ret ?_
          cases h
          have h := hk29
          refine ⟨.inr rfl, ?_⟩
          rw [Try.results104]
          cases h
          exact ⟨_, _, _, _, _, rfl, trivial, .inl ⟨rfl, .inl rfl⟩, rfl, rfl⟩
  · have h := ite_t hb3 h
    refine a_cond_t rfl ?_
    refine a_seq ?_
    refine a_region ?_
    refine a_val (v := (.int .i64 1)) (u := []) rfl trivial rfl ?_
    refine a_nil ?_
    refine a_next rfl ?_
    refine a_ret ?_
    refine t_ret ?_
    refine ⟨.inr rfl, ?_⟩
    rw [Try.results104]
    cases h
    exact ⟨_, _, _, _, _, rfl, trivial, .inl ⟨rfl, .inl rfl⟩, rfl, rfl⟩
def spec_l01Deg_c : ACode := (.seq (.region 0 [⟨some 1, .box 23 (.tmp 0), none, []⟩, ⟨some 2, .asg 0 (.const (.int .i64 0)) 2, none, []⟩] false) (.seq (.region 1 [⟨some 3, .asg 0 (.const (.int .i64 63)) 2, none, []⟩] false) (.seq (.block 0 (.loop (.seq (.seq (.region 2 [⟨some 4, .mov (.tmp 3), none, []⟩, ⟨some 5, .bin .geq 2 (.tmp 4) (.const (.int .i64 0)), none, []⟩, ⟨some 6, .mov (.tmp 5), none, []⟩, ⟨some 7, .mov (.tmp 3), some (6, true), []⟩, ⟨some 8, .indexAddr 23 (.tmp 1) (.tmp 7), some (6, true), []⟩, ⟨some 9, .load 5 (.tmp 8), some (6, true), []⟩, ⟨some 10, .bin .eql 5 (.tmp 9) (.const (.int .u8 0)), some (6, true), []⟩, ⟨some 11, .pick (.tmp 6) (.tmp 10) (.const (.bool false)), none, []⟩] false) (.cond (.tmp 11) .skip (.exit 0))) (.block 1 (.region 3 [⟨some 12, .mov (.tmp 3), none, []⟩, ⟨some 13, .bin .sub 2 (.tmp 12) (.const (.int .i64 1)), none, []⟩, ⟨some 3, .asg 0 (.tmp 13) 2, none, []⟩] false))))) (.seq (.region 4 [⟨some 14, .mov (.tmp 3), none, []⟩, ⟨some 2, .asg 0 (.tmp 14) 2, none, []⟩] false) .ret))))
def spec_l01Deg_L : Live := [(0, [0]), (1, [1]), (2, [1, 3]), (3, [1, 3]), (4, [3]), (100011, [1, 3, 11])]
theorem spec_l01Deg_body : Try.f71.body = some (Try.f71.body.getD .skip) := by kernel_rfl
theorem spec_l01Deg_strip : strip [] (Try.f71.body.getD .skip) = spec_l01Deg_c := by kernel_rfl
noncomputable def spec_l01Deg_l1 (a0 : (Vec Int 64)) (x54 : Int) : Option (Int ⊕ Int) :=
  (Option.bind ((if (decide (x54 ≥ 0)) then (ifp (0 ≤ x54 ∧ x54 < ((64 : Nat) : Int)) ((some (((rd a0.1 x54.toNat) == 0))))) else (some false))) fun x72 => (if x72 then (some (.inl (IntKind.i64.wrap (x54 - 1)))) else (some (.inr x54))))
noncomputable def spec_l01Deg (a0 : (Vec Int 64)) : Option Int :=
  (Option.bind ((loopM (fun s : Int => spec_l01Deg_l1 a0 s) 63)) fun x39 => (some x39))
set_option maxHeartbeats 16000000 in
theorem spec_l01Deg_ok (a0 : (Vec Int 64)) (r : Int) (h : spec_l01Deg a0 = some r) : Den Try.prog 71 [(eA64u8 a0)] { r := (.int .i64 r) } := by
  refine den_of (rs := [(.int .i64 r)]) (ac := spec_l01Deg_c) (L := spec_l01Deg_L) (n := 15) (m := []) good Try.func71 spec_l01Deg_body (by kernel_rfl) Try.ntmps71 rfl rfl spec_l01Deg_strip rfl rfl ?_
  refine a_st (σ' := ⟨[(0, (eA64u8 a0))], []⟩) rfl ?_
  unfold spec_l01Deg_c
  refine a_seq ?_
  refine a_region ?_
  refine a_val (v := (.own 1100 [] [])) (u := [(1100, some ⟨(eA64u8 a0), false⟩)]) rfl trivial rfl ?_
  refine a_val (v := (.int .i64 0)) (u := []) rfl trivial rfl ?_
  refine a_nil ?_
  refine a_next (σ' := ⟨[(1, (.own 1 [] []))], [(1, some ⟨(eA64u8 a0), false⟩)]⟩) rfl ?_
  refine a_seq ?_
  refine a_region ?_
  refine a_val (v := (.int .i64 63)) (u := []) rfl trivial rfl ?_
  refine a_nil ?_
  refine a_next (σ' := ⟨[(1, (.own 1 [] [])), (3, (.int .i64 63))], [(1, some ⟨(eA64u8 a0), false⟩)]⟩) rfl ?_
  obtain ⟨y40, hy41, hk42⟩ := bind_some h
  clear h
  refine a_join (emb := fun (s : Int) => ⟨[(3, (.int .i64 s))], []⟩) (pre := fun s => s = y40) ?_ ?_
  · rintro x39 rfl
    have h := hk42
    refine a_st (σ' := ⟨[(3, (.int .i64 x39))], []⟩) rfl ?_
    refine a_seq ?_
    refine a_region ?_
    refine a_val (v := (.int .i64 x39)) (u := []) rfl trivial rfl ?_
    refine a_val (v := (.int .i64 x39)) (u := []) rfl trivial rfl ?_
    refine a_nil ?_
    refine a_next rfl ?_
    refine a_ret ?_
    refine ⟨.inr rfl, ?_⟩
    rw [Try.results71]
    cases h
    exact ⟨_, _, _, _, _, rfl, trivial, .inl ⟨rfl, .inl rfl⟩, rfl, rfl⟩
  · have h := hy41
    refine a_block ?_
    refine a_loop (emb := fun (s : Int) => ⟨[(1, (.own 1 [] [])), (3, (.int .i64 s))], [(1, some ⟨(eA64u8 a0), false⟩)]⟩) (body := (fun s : Int => spec_l01Deg_l1 a0 s)) (G := fun q => some q = some y40) h rfl ?_ rfl
    rintro X66 x54 x67 h hX68
    have h : spec_l01Deg_l1 a0 x54 = some x67 := h
    refine a_st (σ' := ⟨[(1, (.own 1 [] [])), (3, (.int .i64 x54))], [(1, some ⟨(eA64u8 a0), false⟩)]⟩) rfl ?_
    refine a_seq ?_
    obtain ⟨y73, hy74, hk75⟩ := bind_some h
    clear h
    refine a_join (emb := fun (s : Bool) => ⟨[(1, (.own 1 [] [])), (3, (.int .i64 x54)), (11, (.bool s))], [(1, some ⟨(eA64u8 a0), false⟩)]⟩) (pre := fun s => s = y73) ?_ ?_
    · rintro x72 rfl
      have h := hk75
      refine a_st (σ' := ⟨[(1, (.own 1 [] [])), (3, (.int .i64 x54)), (11, (.bool x72))], [(1, some ⟨(eA64u8 a0), false⟩)]⟩) rfl ?_
      cases hb79 : x72
      · have h := ite_f hb79 h
        refine a_cond_f rfl ?_
        refine a_exit ?_
        refine t_exit ?_
        cases h
        have h := hX68
        refine t_exit ?_
        refine b_exit ?_
        exact j_leaf x54 (Option.some.inj h) rfl
      · have h := ite_t hb79 h
        refine a_cond_t rfl ?_
        refine a_skip ?_
        refine a_next (σ' := ⟨[(1, (.own 1 [] [])), (3, (.int .i64 x54))], [(1, some ⟨(eA64u8 a0), false⟩)]⟩) rfl ?_
        refine a_block ?_
        refine a_region ?_
        refine a_val (v := (.int .i64 x54)) (u := []) rfl trivial rfl ?_
        refine a_val (v := (.int .i64 (IntKind.i64.wrap (x54 - 1)))) (u := []) rfl trivial rfl ?_
        refine a_val (v := (.int .i64 (IntKind.i64.wrap (x54 - 1)))) (u := []) rfl trivial rfl ?_
        refine a_nil ?_
        refine b_norm ?_
        cases h
        exact a_again rfl hX68
    · have h := hy74
      refine a_region ?_
      refine a_val (v := (.int .i64 x54)) (u := []) rfl trivial rfl ?_
      refine a_val (v := (.bool ((decide (x54 ≥ 0))))) (u := []) rfl trivial rfl ?_
      refine a_val (v := (.bool ((decide (x54 ≥ 0))))) (u := []) rfl trivial rfl ?_
      cases hb76 : (decide (x54 ≥ 0))
      · have h := ite_f hb76 h
        refine a_gskip rfl ?_
        refine a_gskip rfl ?_
        refine a_gskip rfl ?_
        refine a_gskip rfl ?_
        refine a_val (v := (.bool false)) (u := []) rfl trivial rfl ?_
        refine a_nil ?_
        exact j_leaf false (Option.some.inj h) rfl
      · have h := ite_t hb76 h
        refine a_gval rfl (v := (.int .i64 x54)) (u := []) rfl trivial rfl ?_
        obtain ⟨hc77, h⟩ := ifp_some h
        refine a_gval rfl (v := (.own 1 [x54.toNat] [x54.toNat * 1])) (u := []) rfl hc77 rfl ?_
        have hl78 : LdOk [x54.toNat] (eA64u8 a0) [x54.toNat * 1] 1 false (.int .u8 (rd a0.1 x54.toNat)) := (.arr (vlt a0 hc77) rfl (.nil rfl rfl rfl))
        refine a_gval rfl (v := (.int .u8 (rd a0.1 x54.toNat))) (u := []) (ld_own (i := ⟨.int .u8, 1, 1, (.int .u8 0)⟩) rfl rfl rfl hl78) hl78.c rfl ?_
        refine a_gval rfl (v := (.bool (((rd a0.1 x54.toNat) == 0)))) (u := []) rfl trivial rfl ?_
        refine a_val (v := (.bool (((rd a0.1 x54.toNat) == 0)))) (u := []) rfl trivial rfl ?_
        refine a_nil ?_
        exact j_leaf (((rd a0.1 x54.toNat) == 0)) (Option.some.inj h) rfl
def spec_l01Monic_c : ACode := (.seq (.region 0 [⟨some 1, .box 23 (.tmp 0), none, []⟩, ⟨some 2, .asg 0 (.const (.bool false)) 4, none, []⟩] false) (.seq (.region 1 [⟨some 4, .load 23 (.tmp 1), none, []⟩, ⟨some 5, .call 0 (.func 71) [(.tmp 4)], none, []⟩, ⟨some 3, .asg 0 (.tmp 5) 2, none, []⟩] false) (.seq (.region 2 [⟨some 6, .mov (.tmp 3), none, []⟩, ⟨some 7, .bin .geq 2 (.tmp 6) (.const (.int .i64 0)), none, []⟩, ⟨some 8, .mov (.tmp 7), none, []⟩, ⟨some 9, .mov (.tmp 3), some (8, true), []⟩, ⟨some 10, .indexAddr 23 (.tmp 1) (.tmp 9), some (8, true), []⟩, ⟨some 11, .load 5 (.tmp 10), some (8, true), []⟩, ⟨some 12, .bin .eql 5 (.tmp 11) (.const (.int .u8 1)), some (8, true), []⟩, ⟨some 13, .pick (.tmp 8) (.tmp 12) (.const (.bool false)), none, []⟩, ⟨some 2, .asg 0 (.tmp 13) 4, none, []⟩] false) .ret)))
def spec_l01Monic_L : Live := [(0, [0]), (1, [1]), (2, [1, 3])]
theorem spec_l01Monic_body : Try.f105.body = some (Try.f105.body.getD .skip) := by kernel_rfl
theorem spec_l01Monic_strip : strip [] (Try.f105.body.getD .skip) = spec_l01Monic_c := by kernel_rfl
noncomputable def spec_l01Monic (a0 : (Vec Int 64)) : Option Bool :=
  (Option.bind (spec_l01Deg a0) fun r2 => (if (decide (r2 ≥ 0)) then (ifp (0 ≤ r2 ∧ r2 < ((64 : Nat) : Int)) ((some (((rd a0.1 r2.toNat) == 1))))) else (some false)))
set_option maxHeartbeats 16000000 in
theorem spec_l01Monic_ok (a0 : (Vec Int 64)) (r : Bool) (h : spec_l01Monic a0 = some r) : Den Try.prog 105 [(eA64u8 a0)] { r := (.bool r) } := by
  refine den_of (rs := [(.bool r)]) (ac := spec_l01Monic_c) (L := spec_l01Monic_L) (n := 14) (m := []) good Try.func105 spec_l01Monic_body (by kernel_rfl) Try.ntmps105 rfl rfl spec_l01Monic_strip rfl rfl ?_
  refine a_st (σ' := ⟨[(0, (eA64u8 a0))], []⟩) rfl ?_
  unfold spec_l01Monic_c
  refine a_seq ?_
  refine a_region ?_
  refine a_val (v := (.own 1100 [] [])) (u := [(1100, some ⟨(eA64u8 a0), false⟩)]) rfl trivial rfl ?_
  refine a_val (v := (.bool false)) (u := []) rfl trivial rfl ?_
  refine a_nil ?_
  refine a_next (σ' := ⟨[(1, (.own 1 [] []))], [(1, some ⟨(eA64u8 a0), false⟩)]⟩) rfl ?_
  refine a_seq ?_
  refine a_region ?_
  have hl1 : LdOk [] (eA64u8 a0) [] 64 true (eA64u8 a0) := (.nil rfl rfl rfl)
  refine a_val (v := (eA64u8 a0)) (u := []) (ld_own (i := ⟨.arr 64 5, 64, 64, (eA64u8 (vrep 64 (0 : Int)))⟩) rfl rfl rfl hl1) hl1.c rfl ?_
  obtain ⟨r2, hr3, h⟩ := bind_some h
  refine a_call (args := [(eA64u8 a0)]) (u := []) (r := (.int .i64 r2)) rfl rfl (spec_l01Deg_ok a0 r2 hr3) rfl ?_
  refine a_val (v := (.int .i64 r2)) (u := []) rfl trivial rfl ?_
  refine a_nil ?_
  refine a_next (σ' := ⟨[(1, (.own 1 [] [])), (3, (.int .i64 r2))], [(1, some ⟨(eA64u8 a0), false⟩)]⟩) rfl ?_
  refine a_seq ?_
  refine a_region ?_
  refine a_val (v := (.int .i64 r2)) (u := []) rfl trivial rfl ?_
  refine a_val (v := (.bool ((decide (r2 ≥ 0))))) (u := []) rfl trivial rfl ?_
  refine a_val (v := (.bool ((decide (r2 ≥ 0))))) (u := []) rfl trivial rfl ?_
  cases hb4 : (decide (r2 ≥ 0))
  · have h := ite_f hb4 h
    refine a_gskip rfl ?_
    refine a_gskip rfl ?_
    refine a_gskip rfl ?_
    refine a_gskip rfl ?_
    refine a_val (v := (.bool false)) (u := []) rfl trivial rfl ?_
    refine a_val (v := (.bool false)) (u := []) rfl trivial rfl ?_
    refine a_nil ?_
    refine a_next rfl ?_
    refine a_ret ?_
    refine ⟨.inr rfl, ?_⟩
    rw [Try.results105]
    cases h
    exact ⟨_, _, _, _, _, rfl, trivial, .inl ⟨rfl, .inl rfl⟩, rfl, rfl⟩
  · have h := ite_t hb4 h
    refine a_gval rfl (v := (.int .i64 r2)) (u := []) rfl trivial rfl ?_
    obtain ⟨hc5, h⟩ := ifp_some h
    refine a_gval rfl (v := (.own 1 [r2.toNat] [r2.toNat * 1])) (u := []) rfl hc5 rfl ?_
    have hl6 : LdOk [r2.toNat] (eA64u8 a0) [r2.toNat * 1] 1 false (.int .u8 (rd a0.1 r2.toNat)) := (.arr (vlt a0 hc5) rfl (.nil rfl rfl rfl))
    refine a_gval rfl (v := (.int .u8 (rd a0.1 r2.toNat))) (u := []) (ld_own (i := ⟨.int .u8, 1, 1, (.int .u8 0)⟩) rfl rfl rfl hl6) hl6.c rfl ?_
    refine a_gval rfl (v := (.bool (((rd a0.1 r2.toNat) == 1)))) (u := []) rfl trivial rfl ?_
    refine a_val (v := (.bool (((rd a0.1 r2.toNat) == 1)))) (u := []) rfl trivial rfl ?_
    refine a_val (v := (.bool (((rd a0.1 r2.toNat) == 1)))) (u := []) rfl trivial rfl ?_
    refine a_nil ?_
    refine a_next rfl ?_
    refine a_ret ?_
    refine ⟨.inr rfl, ?_⟩
    rw [Try.results105]
    cases h
    exact ⟨_, _, _, _, _, rfl, trivial, .inl ⟨rfl, .inl rfl⟩, rfl, rfl⟩
def spec_l02Modulus_c : ACode := (.seq (.region 0 [⟨some 4, .box 23 (.tmp 1), none, []⟩, ⟨some 6, .asg 0 (.const (.int .i64 0)) 2, none, []⟩] false) (.seq (.block 0 (.seq (.region 1 [⟨some 8, .mov (.tmp 0), none, []⟩, ⟨some 9, .load 23 (.tmp 4), none, []⟩, ⟨some 10, .bslice 40 1 [(0, (.tmp 9))], none, []⟩, ⟨some 11, .call 0 (.func 104) [(.tmp 8), (.tmp 10)], none, []⟩, ⟨some 12, .bin .neq 2 (.tmp 11) (.const (.int .i64 0)), none, []⟩, ⟨some 13, .mov (.tmp 12), none, []⟩, ⟨some 14, .mov (.tmp 0), some (13, false), []⟩, ⟨some 15, .mov (.tmp 2), some (13, false), []⟩, ⟨some 16, .call 0 (.func 104) [(.tmp 14), (.tmp 15)], some (13, false), []⟩, ⟨some 17, .bin .neq 2 (.tmp 16) (.const (.int .i64 0)), some (13, false), []⟩, ⟨some 18, .pick (.tmp 13) (.const (.bool true)) (.tmp 17), none, []⟩, ⟨some 7, .asg 0 (.tmp 18) 4, none, []⟩] false) (.cond (.tmp 7) (.seq (.region 2 [⟨some 6, .asg 0 (.const (.int .i64 1)) 2, none, []⟩] false) .ret) (.seq (.region 3 [⟨some 20, .load 23 (.tmp 4), none, []⟩, ⟨some 21, .call 0 (.func 105) [(.tmp 20)], none, []⟩, ⟨some 22, .un .not (.tmp 21), none, []⟩, ⟨some 23, .mov (.tmp 22), none, []⟩, ⟨some 24, .load 23 (.tmp 4), some (23, false), []⟩, ⟨some 25, .call 0 (.func 71) [(.tmp 24)], some (23, false), []⟩, ⟨some 26, .call 0 (.func 57) [(.tmp 25), (.const (.int .i64 1)), (.const (.int .i64 5))], some (23, false), []⟩, ⟨some 27, .un .not (.tmp 26), some (23, false), []⟩, ⟨some 28, .pick (.tmp 23) (.const (.bool true)) (.tmp 27), none, []⟩, ⟨some 19, .asg 0 (.tmp 28) 4, none, []⟩] false) (.cond (.tmp 19) (.seq (.region 4 [⟨some 6, .asg 0 (.const (.int .i64 2)) 2, none, []⟩] false) .ret) .skip))))) (.seq (.region 5 [⟨some 6, .asg 0 (.const (.int .i64 0)) 2, none, []⟩] false) .ret)))
def spec_l02Modulus_L : Live := [(0, [0, 1, 2]), (1, [0, 2, 4]), (2, []), (3, [4]), (4, []), (5, []), (100007, [4, 7]), (100019, [19])]
theorem spec_l02Modulus_body : Try.f62.body = some (Try.f62.body.getD .skip) := by kernel_rfl
theorem spec_l02Modulus_strip : strip [] (Try.f62.body.getD .skip) = spec_l02Modulus_c := by kernel_rfl
noncomputable def spec_l02Modulus (a0 : Int) (a1 : (Vec Int 64)) (a2 : (List (Vec Int 64))) : Option Int :=
  (Option.bind ((Option.bind (spec_l01Code a0 ([a1])) fun r12 => (if (r12 != 0) then (some true) else (Option.bind (spec_l01Code a0 a2) fun r15 => (some (r15 != 0)))))) fun x7 => (if x7 then (some 1) else (Option.bind ((Option.bind (spec_l01Monic a1) fun r32 => (if (!r32) then (some true) else (Option.bind (spec_l01Deg a1) fun r36 => (Option.bind (spec_l01In r36 1 5) fun r38 => (some (!r38))))))) fun x27 => (if x27 then (some 2) else (some 0)))))
set_option maxHeartbeats 16000000 in
theorem spec_l02Modulus_ok (a0 : Int) (a1 : (Vec Int 64)) (a2 : (List (Vec Int 64))) (r : Int) (h : spec_l02Modulus a0 a1 a2 = some r) : Den Try.prog 62 [(.int .i64 a0), (eA64u8 a1), (eSA64u8 a2)] { r := (.int .i64 r) } := by
  refine den_of (rs := [(.int .i64 r)]) (ac := spec_l02Modulus_c) (L := spec_l02Modulus_L) (n := 29) (m := []) good Try.func62 spec_l02Modulus_body (by kernel_rfl) Try.ntmps62 rfl rfl spec_l02Modulus_strip rfl rfl ?_
  refine a_st (σ' := ⟨[(0, (.int .i64 a0)), (1, (eA64u8 a1)), (2, (eSA64u8 a2))], []⟩) rfl ?_
  unfold spec_l02Modulus_c
  refine a_seq ?_
  refine a_region ?_
  refine a_val (v := (.own 1400 [] [])) (u := [(1400, some ⟨(eA64u8 a1), false⟩)]) rfl trivial rfl ?_
  refine a_val (v := (.int .i64 0)) (u := []) rfl trivial rfl ?_
  refine a_nil ?_
  refine a_next (σ' := ⟨[(0, (.int .i64 a0)), (2, (eSA64u8 a2)), (4, (.own 4 [] []))], [(4, some ⟨(eA64u8 a1), false⟩)]⟩) rfl ?_
  refine a_seq ?_
  refine a_block ?_
  obtain ⟨y8, hy9, hk10⟩ := bind_some h
  clear h
  refine a_join (emb := fun (s : Bool) => ⟨[(4, (.own 4 [] [])), (7, (.bool s))], [(4, some ⟨(eA64u8 a1), false⟩)]⟩) (pre := fun s => s = y8) ?_ ?_
  · rintro x7 rfl
    have h := hk10
    refine a_st (σ' := ⟨[(4, (.own 4 [] [])), (7, (.bool x7))], [(4, some ⟨(eA64u8 a1), false⟩)]⟩) rfl ?_
    cases hb17 : x7
    · have h := ite_f hb17 h
      refine a_cond_f rfl ?_
      obtain ⟨y28, hy29, hk30⟩ := bind_some h
      clear h
      refine a_join (emb := fun (s : Bool) => ⟨[(19, (.bool s))], []⟩) (pre := fun s => s = y28) ?_ ?_
      · rintro x27 rfl
        have h := hk30
        refine a_st (σ' := ⟨[(19, (.bool x27))], []⟩) rfl ?_
        cases hb40 : x27
        · have h := ite_f hb40 h
          refine a_cond_f rfl ?_
          refine a_skip ?_
          refine b_norm ?_
          refine a_next (σ' := ⟨[], []⟩) rfl ?_
          refine a_seq ?_
          refine a_region ?_
          refine a_val (v := (.int .i64 0)) (u := []) rfl trivial rfl ?_
          refine a_nil ?_
          refine a_next rfl ?_
          refine a_ret ?_
          refine ⟨.inr rfl, ?_⟩
          rw [Try.results62]
          cases h
          exact ⟨_, _, _, _, _, rfl, trivial, .inl ⟨rfl, .inl rfl⟩, rfl, rfl⟩
        · have h := ite_t hb40 h
          refine a_cond_t rfl ?_
          refine a_seq ?_
          refine a_region ?_
          refine a_val (v := (.int .i64 2)) (u := []) rfl trivial rfl ?_
          refine a_nil ?_
          refine a_next rfl ?_
          refine a_ret ?_
          refine b_ret ?_
          refine t_ret ?_
          refine ⟨.inr rfl, ?_⟩
          rw [Try.results62]
          cases h
          exact ⟨_, _, _, _, _, rfl, trivial, .inl ⟨rfl, .inl rfl⟩, rfl, rfl⟩
      · have h := hy29
        refine a_region ?_
        have hl31 : LdOk [] (eA64u8 a1) [] 64 true (eA64u8 a1) := (.nil rfl rfl rfl)
        refine a_val (v := (eA64u8 a1)) (u := []) (ld_own (i := ⟨.arr 64 5, 64, 64, (eA64u8 (vrep 64 (0 : Int)))⟩) rfl rfl rfl hl31) hl31.c rfl ?_
        obtain ⟨r32, hr33, h⟩ := bind_some h
        refine a_call (args := [(eA64u8 a1)]) (u := []) (r := (.bool r32)) rfl rfl (spec_l01Monic_ok a1 r32 hr33) rfl ?_
        refine a_val (v := (.bool (!r32))) (u := []) rfl trivial rfl ?_
        refine a_val (v := (.bool (!r32))) (u := []) rfl trivial rfl ?_
        cases hb34 : (!r32)
        · have h := ite_f hb34 h
          have hl35 : LdOk [] (eA64u8 a1) [] 64 true (eA64u8 a1) := (.nil rfl rfl rfl)
          refine a_gval rfl (v := (eA64u8 a1)) (u := []) (ld_own (i := ⟨.arr 64 5, 64, 64, (eA64u8 (vrep 64 (0 : Int)))⟩) rfl rfl rfl hl35) hl35.c rfl ?_
          obtain ⟨r36, hr37, h⟩ := bind_some h
          refine a_gcall rfl (args := [(eA64u8 a1)]) (u := []) (r := (.int .i64 r36)) rfl rfl (spec_l01Deg_ok a1 r36 hr37) rfl ?_
          obtain ⟨r38, hr39, h⟩ := bind_some h
          refine a_gcall rfl (args := [(.int .i64 r36), (.int .i64 1), (.int .i64 5)]) (u := []) (r := (.bool r38)) rfl rfl (spec_l01In_ok r36 1 5 r38 hr39) rfl ?_
          refine a_gval rfl (v := (.bool (!r38))) (u := []) rfl trivial rfl ?_
          refine a_val (v := (.bool (!r38))) (u := []) rfl trivial rfl ?_
          refine a_val (v := (.bool (!r38))) (u := []) rfl trivial rfl ?_
          refine a_nil ?_
          exact j_leaf (!r38) (Option.some.inj h) rfl
        · have h := ite_t hb34 h
          refine a_gskip rfl ?_
          refine a_gskip rfl ?_
          refine a_gskip rfl ?_
          refine a_gskip rfl ?_
          refine a_val (v := (.bool true)) (u := []) rfl trivial rfl ?_
          refine a_val (v := (.bool true)) (u := []) rfl trivial rfl ?_
          refine a_nil ?_
          exact j_leaf true (Option.some.inj h) rfl
    · have h := ite_t hb17 h
      refine a_cond_t rfl ?_
      refine a_seq ?_
      refine a_region ?_
      refine a_val (v := (.int .i64 1)) (u := []) rfl trivial rfl ?_
      refine a_nil ?_
      refine a_next rfl ?_
      refine a_ret ?_
      refine b_ret ?_
      refine t_ret ?_
      refine ⟨.inr rfl, ?_⟩
      rw [Try.results62]
      cases h
      exact ⟨_, _, _, _, _, rfl, trivial, .inl ⟨rfl, .inl rfl⟩, rfl, rfl⟩
  · have h := hy9
    refine a_region ?_
    refine a_val (v := (.int .i64 a0)) (u := []) rfl trivial rfl ?_
    have hl11 : LdOk [] (eA64u8 a1) [] 64 true (eA64u8 a1) := (.nil rfl rfl rfl)
    refine a_val (v := (eA64u8 a1)) (u := []) (ld_own (i := ⟨.arr 64 5, 64, 64, (eA64u8 (vrep 64 (0 : Int)))⟩) rfl rfl rfl hl11) hl11.c rfl ?_
    refine a_val (v := (.sl 64 true (([a1]).map eA64u8))) (u := []) rfl ⟨(Nat.le_of_ble_eq_true rfl), (Nat.le_of_ble_eq_true rfl), (all_cons ⟨(Nat.le_of_ble_eq_true rfl), rfl⟩ all_nil)⟩ rfl ?_
    obtain ⟨r12, hr13, h⟩ := bind_some h
    refine a_call (args := [(.int .i64 a0), (.sl 64 true (([a1]).map eA64u8))]) (u := []) (r := (.int .i64 r12)) rfl rfl (Den.args (spec_l01Code_ok a0 ([a1]) r12 hr13) rfl rfl (.cons (.refl _) (.cons (.loose _) .nil))) rfl ?_
    refine a_val (v := (.bool (r12 != 0))) (u := []) rfl trivial rfl ?_
    refine a_val (v := (.bool (r12 != 0))) (u := []) rfl trivial rfl ?_
    cases hb14 : (r12 != 0)
    · have h := ite_f hb14 h
      refine a_gval rfl (v := (.int .i64 a0)) (u := []) rfl trivial rfl ?_
      refine a_gval rfl (v := (eSA64u8 a2)) (u := []) rfl trivial rfl ?_
      obtain ⟨r15, hr16, h⟩ := bind_some h
      refine a_gcall rfl (args := [(.int .i64 a0), (eSA64u8 a2)]) (u := []) (r := (.int .i64 r15)) rfl rfl (spec_l01Code_ok a0 a2 r15 hr16) rfl ?_
      refine a_gval rfl (v := (.bool (r15 != 0))) (u := []) rfl trivial rfl ?_
      refine a_val (v := (.bool (r15 != 0))) (u := []) rfl trivial rfl ?_
      refine a_val (v := (.bool (r15 != 0))) (u := []) rfl trivial rfl ?_
      refine a_nil ?_
      exact j_leaf (r15 != 0) (Option.some.inj h) rfl
    · have h := ite_t hb14 h
      refine a_gskip rfl ?_
      refine a_gskip rfl ?_
      refine a_gskip rfl ?_
      refine a_gskip rfl ?_
      refine a_val (v := (.bool true)) (u := []) rfl trivial rfl ?_
      refine a_val (v := (.bool true)) (u := []) rfl trivial rfl ?_
      refine a_nil ?_
      exact j_leaf true (Option.some.inj h) rfl
def spec_IsDesk_c : ACode := (.seq (.region 0 [⟨some 1, .box 25 (.tmp 0), none, []⟩, ⟨some 2, .asg 0 (.const (.bool false)) 4, none, []⟩] false) (.seq (.region 1 [⟨some 3, .fieldAddr 25 (.tmp 1) 0, none, []⟩, ⟨some 4, .load 2 (.tmp 3), none, []⟩, ⟨some 5, .fieldAddr 25 (.tmp 1) 3, none, []⟩, ⟨some 6, .load 23 (.tmp 5), none, []⟩, ⟨some 7, .fieldAddr 25 (.tmp 1) 1, none, []⟩, ⟨some 8, .load 23 (.tmp 7), none, []⟩, ⟨some 9, .fieldAddr 25 (.tmp 1) 2, none, []⟩, ⟨some 10, .load 23 (.tmp 9), none, []⟩, ⟨some 11, .bslice 40 2 [(0, (.tmp 8)), (1, (.tmp 10))], none, []⟩, ⟨some 12, .call 0 (.func 62) [(.tmp 4), (.tmp 6), (.tmp 11)], none, []⟩, ⟨some 13, .bin .eql 2 (.tmp 12) (.const (.int .i64 0)), none, []⟩, ⟨some 2, .asg 0 (.tmp 13) 4, none, []⟩] false) .ret))
def spec_IsDesk_L : Live := [(0, [0]), (1, [1])]
theorem spec_IsDesk_body : Try.f23.body = some (Try.f23.body.getD .skip) := by kernel_rfl
theorem spec_IsDesk_strip : strip [] (Try.f23.body.getD .skip) = spec_IsDesk_c := by kernel_rfl
noncomputable def spec_IsDesk (a0 : (Int × (Vec Int 64) × (Vec Int 64) × (Vec Int 64))) : Option Bool :=
  (Option.bind (spec_l02Modulus a0.1 a0.2.2.2 ([a0.2.1, a0.2.2.1])) fun r5 => (some (r5 == 0)))
set_option maxHeartbeats 16000000 in
theorem spec_IsDesk_ok (a0 : (Int × (Vec Int 64) × (Vec Int 64) × (Vec Int 64))) (r : Bool) (h : spec_IsDesk a0 = some r) : Den Try.prog 23 [(eT_i64_A64u8_A64u8_A64u8_Z a0)] { r := (.bool r) } := by
  refine den_of (rs := [(.bool r)]) (ac := spec_IsDesk_c) (L := spec_IsDesk_L) (n := 14) (m := []) good Try.func23 spec_IsDesk_body (by kernel_rfl) Try.ntmps23 rfl rfl spec_IsDesk_strip rfl rfl ?_
  refine a_st (σ' := ⟨[(0, (eT_i64_A64u8_A64u8_A64u8_Z a0))], []⟩) rfl ?_
  unfold spec_IsDesk_c
  refine a_seq ?_
  refine a_region ?_
  refine a_val (v := (.own 1100 [] [])) (u := [(1100, some ⟨(eT_i64_A64u8_A64u8_A64u8_Z a0), false⟩)]) rfl trivial rfl ?_
  refine a_val (v := (.bool false)) (u := []) rfl trivial rfl ?_
  refine a_nil ?_
  refine a_next (σ' := ⟨[(1, (.own 1 [] []))], [(1, some ⟨(eT_i64_A64u8_A64u8_A64u8_Z a0), false⟩)]⟩) rfl ?_
  refine a_seq ?_
  refine a_region ?_
  refine a_val (v := (.own 1 [0] [0])) (u := []) rfl (Nat.le_of_ble_eq_true rfl) rfl ?_
  have hl1 : LdOk [0] (eT_i64_A64u8_A64u8_A64u8_Z a0) [0] 1 false (.int .i64 a0.1) := (.fld rfl rfl rfl rfl (.nil rfl rfl rfl))
  refine a_val (v := (.int .i64 a0.1)) (u := []) (ld_own (i := ⟨.int .i64, 1, 8, (.int .i64 0)⟩) rfl rfl rfl hl1) hl1.c rfl ?_
  refine a_val (v := (.own 1 [3] [129])) (u := []) rfl (Nat.le_of_ble_eq_true rfl) rfl ?_
  have hl2 : LdOk [3] (eT_i64_A64u8_A64u8_A64u8_Z a0) [129] 64 true (eA64u8 a0.2.2.2) := (.fld rfl rfl rfl rfl (.nil rfl rfl rfl))
  refine a_val (v := (eA64u8 a0.2.2.2)) (u := []) (ld_own (i := ⟨.arr 64 5, 64, 64, (eA64u8 (vrep 64 (0 : Int)))⟩) rfl rfl rfl hl2) hl2.c rfl ?_
  refine a_val (v := (.own 1 [1] [1])) (u := []) rfl (Nat.le_of_ble_eq_true rfl) rfl ?_
  have hl3 : LdOk [1] (eT_i64_A64u8_A64u8_A64u8_Z a0) [1] 64 true (eA64u8 a0.2.1) := (.fld rfl rfl rfl rfl (.nil rfl rfl rfl))
  refine a_val (v := (eA64u8 a0.2.1)) (u := []) (ld_own (i := ⟨.arr 64 5, 64, 64, (eA64u8 (vrep 64 (0 : Int)))⟩) rfl rfl rfl hl3) hl3.c rfl ?_
  refine a_val (v := (.own 1 [2] [65])) (u := []) rfl (Nat.le_of_ble_eq_true rfl) rfl ?_
  have hl4 : LdOk [2] (eT_i64_A64u8_A64u8_A64u8_Z a0) [65] 64 true (eA64u8 a0.2.2.1) := (.fld rfl rfl rfl rfl (.nil rfl rfl rfl))
  refine a_val (v := (eA64u8 a0.2.2.1)) (u := []) (ld_own (i := ⟨.arr 64 5, 64, 64, (eA64u8 (vrep 64 (0 : Int)))⟩) rfl rfl rfl hl4) hl4.c rfl ?_
  refine a_val (v := (.sl 64 true (([a0.2.1, a0.2.2.1]).map eA64u8))) (u := []) rfl ⟨(Nat.le_of_ble_eq_true rfl), (Nat.le_of_ble_eq_true rfl), (all_cons ⟨(Nat.le_of_ble_eq_true rfl), rfl⟩ (all_cons ⟨(Nat.le_of_ble_eq_true rfl), rfl⟩ all_nil))⟩ rfl ?_
  obtain ⟨r5, hr6, h⟩ := bind_some h
  refine a_call (args := [(.int .i64 a0.1), (eA64u8 a0.2.2.2), (.sl 64 true (([a0.2.1, a0.2.2.1]).map eA64u8))]) (u := []) (r := (.int .i64 r5)) rfl rfl (Den.args (spec_l02Modulus_ok a0.1 a0.2.2.2 ([a0.2.1, a0.2.2.1]) r5 hr6) rfl rfl (.cons (.refl _) (.cons (.refl _) (.cons (.loose _) .nil)))) rfl ?_
  refine a_val (v := (.bool (r5 == 0))) (u := []) rfl trivial rfl ?_
  refine a_val (v := (.bool (r5 == 0))) (u := []) rfl trivial rfl ?_
  refine a_nil ?_
  refine a_next rfl ?_
  refine a_ret ?_
  refine ⟨.inr rfl, ?_⟩
  rw [Try.results23]
  cases h
  exact ⟨_, _, _, _, _, rfl, trivial, .inl ⟨rfl, .inl rfl⟩, rfl, rfl⟩
def impl_isPoly_c1_of_p_c : ACode := (.seq (.region 0 [⟨some 3, .asg 0 (.const (.bool false)) 4, none, []⟩] false) (.seq (.region 1 [⟨some 4, .mov (.tmp 0), none, []⟩, ⟨some 5, .conv 5 2 (.tmp 4), none, []⟩, ⟨some 6, .load 2 (.tmp 1), none, []⟩, ⟨some 7, .bin .lss 2 (.tmp 5) (.tmp 6), none, []⟩, ⟨some 3, .asg 0 (.tmp 7) 4, none, []⟩] false) .ret))
def impl_isPoly_c1_of_p_L : Live := [(0, [0, 1]), (1, [0, 1])]
theorem impl_isPoly_c1_of_p_body : Try.f133.body = some (Try.f133.body.getD .skip) := by kernel_rfl
theorem impl_isPoly_c1_of_p_strip : strip [] (Try.f133.body.getD .skip) = impl_isPoly_c1_of_p_c := by kernel_rfl
noncomputable def impl_isPoly_c1_of_p (a0 : Int) (a1 : Int) : Option Bool :=
  (some ((decide ((IntKind.i64.wrap a0) < a1))))
set_option maxHeartbeats 16000000 in
theorem impl_isPoly_c1_of_p_ok (a0 : Int) (a1 : Int) (r : Bool) (h : impl_isPoly_c1_of_p a0 a1 = some r) : Den Try.prog 133 [(.int .u8 a0), (.ref (.int .i64 a1) [] [])] { r := (.bool r) } := by
  refine den_of (rs := [(.bool r)]) (ac := impl_isPoly_c1_of_p_c) (L := impl_isPoly_c1_of_p_L) (n := 8) (m := []) good Try.func133 impl_isPoly_c1_of_p_body (by kernel_rfl) Try.ntmps133 rfl rfl impl_isPoly_c1_of_p_strip rfl rfl ?_
  refine a_st (σ' := ⟨[(0, (.int .u8 a0)), (1, (.ref (.int .i64 a1) [] []))], []⟩) rfl ?_
  unfold impl_isPoly_c1_of_p_c
  refine a_seq ?_
  refine a_region ?_
  refine a_val (v := (.bool false)) (u := []) rfl trivial rfl ?_
  refine a_nil ?_
  refine a_next (σ' := ⟨[(0, (.int .u8 a0)), (1, (.ref (.int .i64 a1) [] []))], []⟩) rfl ?_
  refine a_seq ?_
  refine a_region ?_
  refine a_val (v := (.int .u8 a0)) (u := []) rfl trivial rfl ?_
  refine a_val (v := (.int .i64 (IntKind.i64.wrap a0))) (u := []) rfl trivial rfl ?_
  have hl1 : LdOk [] (.int .i64 a1) [] 1 false (.int .i64 a1) := (.nil rfl rfl rfl)
  refine a_val (v := (.int .i64 a1)) (u := []) (ld_ref (i := ⟨.int .i64, 1, 8, (.int .i64 0)⟩) rfl rfl hl1) hl1.c rfl ?_
  refine a_val (v := (.bool ((decide ((IntKind.i64.wrap a0) < a1))))) (u := []) rfl trivial rfl ?_
  refine a_val (v := (.bool ((decide ((IntKind.i64.wrap a0) < a1))))) (u := []) rfl trivial rfl ?_
  refine a_nil ?_
  refine a_next rfl ?_
  refine a_ret ?_
  refine ⟨.inr rfl, ?_⟩
  rw [Try.results133]
  cases h
  exact ⟨_, _, _, _, _, rfl, trivial, .inl ⟨rfl, .inl rfl⟩, rfl, rfl⟩
def impl_areAll_byte__c1_of_p_c : ACode := (.seq (.region 0 [⟨some 3, .asg 0 (.const (.bool false)) 4, none, []⟩] false) (.seq (.region 1 [⟨some 4, .load 127 (.tmp 1), none, []⟩, ⟨some 5, .mov (.tmp 0), none, []⟩, ⟨some 6, .call 0 (.tmp 4) [(.tmp 5)], none, []⟩, ⟨some 7, .un .not (.tmp 6), none, []⟩, ⟨some 3, .asg 0 (.tmp 7) 4, none, []⟩] false) .ret))
def impl_areAll_byte__c1_of_p_L : Live := [(0, [0, 1]), (1, [0, 1])]
theorem impl_areAll_byte__c1_of_p_body : Try.f149.body = some (Try.f149.body.getD .skip) := by kernel_rfl
theorem impl_areAll_byte__c1_of_p_strip : strip [] (Try.f149.body.getD .skip) = impl_areAll_byte__c1_of_p_c := by kernel_rfl
noncomputable def impl_areAll_byte__c1_of_p (a0 : Int) (a1c0 : Int) : Option Bool :=
  (Option.bind (impl_isPoly_c1_of_p a0 a1c0) fun r2 => (some (!r2)))
set_option maxHeartbeats 16000000 in
theorem impl_areAll_byte__c1_of_p_ok (a0 : Int) (a1c0 : Int) (r : Bool) (h : impl_areAll_byte__c1_of_p a0 a1c0 = some r) : Den Try.prog 149 [(.int .u8 a0), (.ref (.clo 133 [] [(.ref (.int .i64 a1c0) [] [])]) [] [])] { r := (.bool r) } := by
  refine den_of (rs := [(.bool r)]) (ac := impl_areAll_byte__c1_of_p_c) (L := impl_areAll_byte__c1_of_p_L) (n := 8) (m := []) good Try.func149 impl_areAll_byte__c1_of_p_body (by kernel_rfl) Try.ntmps149 rfl rfl impl_areAll_byte__c1_of_p_strip rfl rfl ?_
  refine a_st (σ' := ⟨[(0, (.int .u8 a0)), (1, (.ref (.clo 133 [] [(.ref (.int .i64 a1c0) [] [])]) [] []))], []⟩) rfl ?_
  unfold impl_areAll_byte__c1_of_p_c
  refine a_seq ?_
  refine a_region ?_
  refine a_val (v := (.bool false)) (u := []) rfl trivial rfl ?_
  refine a_nil ?_
  refine a_next (σ' := ⟨[(0, (.int .u8 a0)), (1, (.ref (.clo 133 [] [(.ref (.int .i64 a1c0) [] [])]) [] []))], []⟩) rfl ?_
  refine a_seq ?_
  refine a_region ?_
  have hl1 : LdOk [] (.clo 133 [] [(.ref (.int .i64 a1c0) [] [])]) [] 1 false (.clo 133 [] [(.ref (.int .i64 a1c0) [] [])]) := (.nil rfl rfl rfl)
  refine a_val (v := (.clo 133 [] [(.ref (.int .i64 a1c0) [] [])])) (u := []) (ld_ref (i := ⟨.other, 1, 8, (.raw .nilFunc)⟩) rfl rfl hl1) hl1.c rfl ?_
  refine a_val (v := (.int .u8 a0)) (u := []) rfl trivial rfl ?_
  obtain ⟨r2, hr3, h⟩ := bind_some h
  refine a_call (args := [(.int .u8 a0), (.ref (.int .i64 a1c0) [] [])]) (u := []) (r := (.bool r2)) rfl rfl (impl_isPoly_c1_of_p_ok a0 a1c0 r2 hr3) rfl ?_
  refine a_val (v := (.bool (!r2))) (u := []) rfl trivial rfl ?_
  refine a_val (v := (.bool (!r2))) (u := []) rfl trivial rfl ?_
  refine a_nil ?_
  refine a_next rfl ?_
  refine a_ret ?_
  refine ⟨.inr rfl, ?_⟩
  rw [Try.results149]
  cases h
  exact ⟨_, _, _, _, _, rfl, trivial, .inl ⟨rfl, .inl rfl⟩, rfl, rfl⟩
end Go.Proofs.Ytacebpbhddkelaa
