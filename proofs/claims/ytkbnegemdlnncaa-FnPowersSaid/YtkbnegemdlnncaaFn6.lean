/- Functions of the program: plain Lean functions, and that the program computes them. Printed by gen.py. -/
import Derived.Test.YtkbnegemdlnncaaFnT
import Derived.Test.YtkbnegemdlnncaaFn1
import Derived.Test.YtkbnegemdlnncaaFn2
import Derived.Test.YtkbnegemdlnncaaFn3
namespace Go.Proofs.Ytkbnegemdlnncaa
open Go.Abs Go.Proofs
set_option linter.unusedSimpArgs false
set_option linter.unusedVariables false
set_option maxHeartbeats 16000000
attribute [local irreducible] Abs.acode Abs.aops Abs.aopsT Abs.thenK Abs.blockK

def impl_prime_norm_c : ACode:=(.seq (.region 0 [q 6 (.asg 0 (.const (.int .i64 0)) 2)] false) (.seq (.region 1 [q 7 (.asg 0 (.const (.int .i64 1)) 2)] false) (.seq (.seq (.region 2 [q 8 (.mov (t 1)),q 9 (.mov (.const (.int .i64 0)))] false) (.block 0 (.loop (.seq (.region 3 [q 10 (.bin .lss 2 (t 9) (t 8))] false) (.seq (.cond (t 10) .skip (.exit 0)) (.seq (.block 1 (.seq (.seq (.region 4 [q 11 (.mov (t 7)),q 12 (.mov (t 2)),q 13 (.bin .gtr 2 (t 11) (t 12))] false) (.cond (t 13) (.exit 0) .skip)) (.region 5 [q 14 (.mov (t 7)),q 15 (.mov (t 0)),q 16 (.bin .mul 2 (t 14) (t 15)),q 7 (.asg 0 (t 16) 2)] false))) (.region 6 [q 17 (.bin .add 2 (t 9) (.const (.int .i64 1))),q 9 (.mov (t 17))] false))))))) (.seq (.region 7 [q 18 (.mov (t 7)),q 6 (.asg 0 (t 18) 2)] false) .ret))))
def impl_prime_norm_L : Live:=[(0,[0,1,2]),(1,[0,1,2]),(2,[0,1,2,7]),(3,[0,2,7,8,9]),(4,[0,2,7,8,9]),(5,[0,2,7,8,9]),(6,[0,2,7,8,9]),(7,[7]),(100010,[0,2,7,8,9,10]),(100013,[0,2,7,8,9,13])]
noncomputable def impl_prime_norm_l1 (a1 : Int) (a2 : Int) (a0 : Int) (x19 : Int) (x20 : Int) : Option ((Int × Int) ⊕ Int) :=
 (if (decide (x20 < a1)) then (if (decide (x19 > a2)) then (some (.inr x19)) else (some (.inl ((IntKind.i64.wrap (x19 * a0),IntKind.i64.wrap (x20 + 1)))))) else (some (.inr x19)))
noncomputable def impl_prime_norm (a0 : Int) (a1 : Int) (a2 : Int) : Option Int :=
 (Option.bind (α:=Int) ((loopM (fun s : (Int × Int)=>impl_prime_norm_l1 a1 a2 a0 s.1 s.2) (1,0))) fun x13=>(some x13))
theorem impl_prime_norm_ok (a0 : Int) (a1 : Int) (a2 : Int) (r : Int) (h : impl_prime_norm a0 a1 a2 = some r) : Den Try.prog 171 [(i6 a0),(i6 a1),(i6 a2)] { r:=(i6 r) }:=by
 refine den_of (rs:=[(i6 r)]) (ac:=impl_prime_norm_c) (L:=impl_prime_norm_L) (n:=19) (m:=[]) (c:=Try.f171.body.getD .skip) good Try.func171 (by kernel_rfl) (by kernel_rfl) Try.ntmps171 rfl rfl (by kernel_rfl) rfl rfl ?_
 refine ns ⟨[(0,i6 a0),(1,i6 a1),(2,i6 a2)],[]⟩ ?_
 unfold impl_prime_norm_c
 refine sr (vp (i6 0) rfl (nk ⟨[(0,i6 a0),(1,i6 a1),(2,i6 a2)],[]⟩ (sr (vp (i6 1) rfl (nk ⟨[(0,i6 a0),(1,i6 a1),(2,i6 a2),(7,i6 1)],[]⟩ ?_)))))
 obtain ⟨y14,hy15,hk16⟩:=bind_some h
 clear h
 refine a_join (emb:=fun (s : Int)=>⟨[(7,i6 s)],[]⟩) (pre:=fun s=>s = y14) ?_ ?_
 ·rintro x13 rfl
  have h:=hk16
  refine ns ⟨[(7,i6 x13)],[]⟩ (sr (vp (i6 x13) rfl (vp (i6 x13) rfl (nx _ rfl (a_ret ?_)))))
  refine ⟨.inr rfl,?_⟩
  rw [Try.results171]
  cases h
  exact ⟨_,_,_,_,_,rfl,trivial,.inl ⟨rfl,.inl rfl⟩,rfl,rfl⟩
 ·have h:=hy15
  refine sr (vp (i6 a1) rfl (vp (i6 0) rfl (nk ⟨[(0,i6 a0),(2,i6 a2),(7,i6 1),(8,i6 a1),(9,i6 0)],[]⟩ (a_block ?_))))
  refine a_loop (emb:=fun (s : (Int × Int))=>⟨[(0,i6 a0),(2,i6 a2),(7,i6 s.1),(8,i6 a1),(9,i6 s.2)],[]⟩) (body:=(fun s : (Int × Int)=>impl_prime_norm_l1 a1 a2 a0 s.1 s.2)) (G:=fun q=>some q = some y14) h rfl ?_ (by kernel_rfl)
  rintro X23 ⟨x19,x20⟩ x24 h hX25
  have h : impl_prime_norm_l1 a1 a2 a0 x19 x20 = some x24:=h
  refine ns ⟨[(0,i6 a0),(2,i6 a2),(7,i6 x19),(8,i6 a1),(9,i6 x20)],[]⟩ (sr (vp (.bool ((decide (x20 < a1)))) rfl (nk ⟨[(0,i6 a0),(2,i6 a2),(7,i6 x19),(8,i6 a1),(9,i6 x20),(10,.bool ((decide (x20 < a1))))],[]⟩ (a_seq ?_))))
  cases hb26 : (decide (x20 < a1))
  ·have h:=ite_f hb26 h
   refine a_cond_f rfl (a_exit (t_exit ?_))
   cases h
   have h:=hX25
   refine t_exit (b_exit ?_)
   exact j_leaf x19 (Option.some.inj h) (by kernel_rfl)
  ·have h:=ite_t hb26 h
   refine a_cond_t rfl (a_skip (nj ⟨[(0,i6 a0),(2,i6 a2),(7,i6 x19),(8,i6 a1),(9,i6 x20)],[]⟩ (a_seq (a_block (a_seq (sr (vp (i6 x19) rfl (vp (i6 a2) rfl (vp (.bool ((decide (x19 > a2)))) rfl ?_)))))))))
   refine nk ⟨[(0,i6 a0),(2,i6 a2),(7,i6 x19),(8,i6 a1),(9,i6 x20),(13,.bool ((decide (x19 > a2))))],[]⟩ ?_
   cases hb27 : (decide (x19 > a2))
   ·have h:=ite_f hb27 h
    refine a_cond_f rfl (a_skip (nj ⟨[(0,i6 a0),(2,i6 a2),(7,i6 x19),(8,i6 a1),(9,i6 x20)],[]⟩ (a_region (vp (i6 x19) rfl (vp (i6 a0) rfl (vp (i6 (IntKind.i64.wrap (x19 * a0))) rfl (vp (i6 (IntKind.i64.wrap (x19 * a0))) rfl (a_nil (b_norm ?_)))))))))
    refine nj ⟨[(0,i6 a0),(2,i6 a2),(7,i6 (IntKind.i64.wrap (x19 * a0))),(8,i6 a1),(9,i6 x20)],[]⟩ (a_region (vp (i6 (IntKind.i64.wrap (x20 + 1))) rfl (vp (i6 (IntKind.i64.wrap (x20 + 1))) rfl (a_nil ?_))))
    cases h
    exact a_again (by kernel_rfl) hX25
   ·have h:=ite_t hb27 h
    refine a_cond_t rfl (a_exit (t_exit (b_other rfl (t_exit ?_))))
    cases h
    have h:=hX25
    refine t_exit (b_exit ?_)
    exact j_leaf x19 (Option.some.inj h) (by kernel_rfl)
def impl_prime_numbered_c : ACode:=(.seq (.region 0 [q 4 (.asg 1 (.const (.slice none 0 0)) 80)] false) (.seq (.region 1 [q 5 (.asg 2 (.const (.slice none 0 0)) 80)] false) (.seq (.block 0 (.loop (.seq (.seq (.region 2 [q 6 (.mov (t 1)),q 7 (.bin .gtr 2 (t 6) (.const (.int .i64 0)))] false) (.cond (t 7) .skip (.exit 0))) (.seq (.block 1 (.region 4 [q 11 (.mov (t 5)),q 12 (.mov (t 1)),q 13 (.mov (t 0)),q 14 (.bin .rem 2 (t 12) (t 13)),q 15 (.bslice 0 80 1 [(0,t 14)]),q 16 (.blt 0 .append [(t 11),(t 15)] [80,80]),q 5 (.asg 2 (t 16) 80)] false)) (.region 3 [q 8 (.mov (t 1)),q 9 (.mov (t 0)),q 10 (.bin .quo 2 (t 8) (t 9)),q 1 (.asg 0 (t 10) 2)] false))))) (.seq (.region 5 [q 17 (.mov (t 5)),q 4 (.asg 1 (t 17) 80)] false) .ret))))
def impl_prime_numbered_L : Live:=[(0,[0,1]),(1,[0,1]),(2,[0,1,5]),(3,[0,1,5]),(4,[0,1,5]),(5,[5]),(100007,[0,1,5,7])]
noncomputable def impl_prime_numbered_l1 (a0 : Int) (x27 : Int) (x28 : (List Int)) : Option ((Int × (List Int)) ⊕ (List Int)) :=
 (if (decide (x27 > 0)) then (ifp (a0 ≠ 0) ((ifp ((x28.length + ([Int.tmod x27 a0] : List Int).length) * 8 ≤ 140737488355328) ((ifp (a0 ≠ 0) ((some (.inl ((IntKind.i64.wrap (Int.tdiv x27 a0),(x28 ++ ([Int.tmod x27 a0])))))))))))) else (some (.inr x28)))
noncomputable def impl_prime_numbered (a0 : Int) (a1 : Int) : Option (List Int) :=
 (Option.bind (α:=(List Int)) ((loopM (fun s : (Int × (List Int))=>impl_prime_numbered_l1 a0 s.1 s.2) (a1,[]))) fun x19=>(some x19))
theorem impl_prime_numbered_ok (a0 : Int) (a1 : Int) (r : (List Int)) (h : impl_prime_numbered a0 a1 = some r) : Den Try.prog 119 [(i6 a0),(i6 a1)] { r:=(eSi64 r) }:=by
 refine den_of (rs:=[(eSi64 r)]) (ac:=impl_prime_numbered_c) (L:=impl_prime_numbered_L) (n:=18) (m:=[(4,1),(5,2)]) (c:=Try.f119.body.getD .skip) good Try.func119 (by kernel_rfl) (by kernel_rfl) Try.ntmps119 rfl rfl (by kernel_rfl) rfl rfl ?_
 refine ns ⟨[(0,i6 a0),(1,i6 a1)],[]⟩ ?_
 unfold impl_prime_numbered_c
 refine sr (vp (eSi64 ([])) rfl (nk ⟨[(0,i6 a0),(1,i6 a1)],[]⟩ (sr (vu (.osl 1500) [(1500,bk (.row 1 (([]).map (AV.int .i64))))] rfl trivial rfl (nk ⟨[(0,i6 a0),(1,i6 a1),(5,.osl 5)],[(5,bk (.row 1 (([]).map (AV.int .i64))))]⟩ ?_)))))
 obtain ⟨y20,hy21,hk22⟩:=bind_some h
 clear h
 refine a_join (emb:=fun (s : (List Int))=>⟨[(5,.osl 5)],[(5,bk (.row 1 (s.map (AV.int .i64))))]⟩) (pre:=fun s=>s = y20) ?_ ?_
 ·rintro x19 rfl
  have h:=hk22
  refine ns ⟨[(5,.osl 5)],[(5,bk (.row 1 (x19.map (AV.int .i64))))]⟩ (sr (vp (.osl 5) rfl (vu (eSi64 x19) [(5,bf (.row 1 (x19.map (AV.int .i64))))] rfl trivial rfl (nx _ rfl (a_ret ?_)))))
  refine ⟨.inr rfl,?_⟩
  rw [Try.results119]
  cases h
  exact ⟨_,_,_,_,_,rfl,trivial,.inl ⟨rfl,.inl rfl⟩,rfl,rfl⟩
 ·have h:=hy21
  refine a_block ?_
  refine a_loop (emb:=fun (s : (Int × (List Int)))=>⟨[(0,i6 a0),(1,i6 s.1),(5,.osl 5)],[(5,bk (.row 1 (s.2.map (AV.int .i64))))]⟩) (body:=(fun s : (Int × (List Int))=>impl_prime_numbered_l1 a0 s.1 s.2)) (G:=fun q=>some q = some y20) h rfl ?_ (by kernel_rfl)
  rintro X33 ⟨x27,x28⟩ x34 h hX35
  have h : impl_prime_numbered_l1 a0 x27 x28 = some x34:=h
  refine ns ⟨[(0,i6 a0),(1,i6 x27),(5,.osl 5)],[(5,bk (.row 1 (x28.map (AV.int .i64))))]⟩ (a_seq (sr (vp (i6 x27) rfl (vp (.bool ((decide (x27 > 0)))) rfl (nk ⟨[(0,i6 a0),(1,i6 x27),(5,.osl 5),(7,.bool ((decide (x27 > 0))))],[(5,bk (.row 1 (x28.map (AV.int .i64))))]⟩ ?_)))))
  cases hb36 : (decide (x27 > 0))
  ·have h:=ite_f hb36 h
   refine a_cond_f rfl (a_exit (t_exit ?_))
   cases h
   have h:=hX35
   refine t_exit (b_exit ?_)
   exact j_leaf x28 (Option.some.inj h) (by kernel_rfl)
  ·have h:=ite_t hb36 h
   refine a_cond_t rfl (a_skip (nj ⟨[(0,i6 a0),(1,i6 x27),(5,.osl 5)],[(5,bk (.row 1 (x28.map (AV.int .i64))))]⟩ (a_seq (a_block (a_region (vp (.osl 5) rfl (vp (i6 x27) rfl (vp (i6 a0) rfl ?_))))))))
   obtain ⟨hc37,h⟩:=ifp_some h
   refine vq (i6 (Int.tmod x27 a0)) rfl hc37 (vq (.sl 1 true (([Int.tmod x27 a0]).map (AV.int .i64))) rfl ⟨(Nat.le_of_ble_eq_true rfl),(Nat.le_of_ble_eq_true rfl),(all_cons ⟨(Nat.le_of_ble_eq_true rfl),rfl⟩ all_nil)⟩ ?_)
   obtain ⟨hc38,h⟩:=ifp_some h
   refine vu (.osl 2600) [(2600,bk (.row 1 (((x28 ++ ([Int.tmod x27 a0]))).map (AV.int .i64)))),(5,none)] (app_run (i:=⟨.int .i64,1,8,(.int .i64 0)⟩) (f:=(AV.int .i64)) (l:=x28) (l2:=[Int.tmod x27 a0]) rfl rfl rfl rfl (fun _=>rfl) rfl rfl) (app_c (f:=(AV.int .i64)) (s:=1) (sz:=1) (by':=8) (u:=[]) (id:=5) hc38 (.inr rfl) rfl rfl rfl) rfl (vp (.osl 2600) rfl (a_nil (b_norm (nj ⟨[(0,i6 a0),(1,i6 x27),(5,.osl 5)],[(5,bk (.row 1 (((x28 ++ ([Int.tmod x27 a0]))).map (AV.int .i64))))]⟩ (a_region (vp (i6 x27) rfl (vp (i6 a0) rfl ?_)))))))
   obtain ⟨hc39,h⟩:=ifp_some h
   refine vq (i6 (IntKind.i64.wrap (Int.tdiv x27 a0))) rfl hc39 (vp (i6 (IntKind.i64.wrap (Int.tdiv x27 a0))) rfl (a_nil ?_))
   cases h
   exact a_again (by kernel_rfl) hX35
def impl_prime_monics_c : ACode:=(.seq (.region 0 [q 4 (.asg 1 (.const (.slice none 0 0)) 108)] false) (.seq (.region 1 [q 8 (.mov (t 0)),q 9 (.mov (t 1)),q 10 (.call 0 (.func 171) [(t 8),(t 9),(.const (.int .i64 343))]),q 5 (.asg 0 (t 10) 2)] false) (.seq (.region 2 [q 6 (.asg 2 (.const (.slice none 0 0)) 108)] false) (.seq (.seq (.region 3 [q 11 (.mov (t 5)),q 12 (.mov (.const (.int .i64 0)))] false) (.block 0 (.loop (.seq (.region 4 [q 13 (.bin .lss 2 (t 12) (t 11))] false) (.seq (.cond (t 13) .skip (.exit 0)) (.seq (.block 1 (.seq (.region 5 [q 14 (.mov (t 12)),q 7 (.asg 0 (t 14) 2)] false) (.region 6 [q 15 (.mov (t 6)),q 16 (.mov (t 0)),q 17 (.mov (t 5)),q 18 (.mov (t 7)),q 19 (.bin .add 2 (t 17) (t 18)),q 20 (.call 0 (.func 119) [(t 16),(t 19)]),q 21 (.bslice 0 108 1 [(0,t 20)]),q 22 (.blt 0 .append [(t 15),(t 21)] [108,108]),q 6 (.asg 2 (t 22) 108)] false))) (.region 7 [q 23 (.bin .add 2 (t 12) (.const (.int .i64 1))),q 12 (.mov (t 23))] false))))))) (.seq (.region 8 [q 24 (.mov (t 6)),q 4 (.asg 1 (t 24) 108)] false) .ret)))))
def impl_prime_monics_L : Live:=[(0,[0,1]),(1,[0,1]),(2,[0,5]),(3,[0,5,6]),(4,[0,5,6,11,12]),(5,[0,5,6,11,12]),(6,[0,5,6,7,11,12]),(7,[0,5,6,11,12]),(8,[6]),(100013,[0,5,6,11,12,13])]
noncomputable def impl_prime_monics_l1 (r1 : Int) (a0 : Int) (x29 : Int) (x30 : (List (List Int))) : Option ((Int × (List (List Int))) ⊕ (List (List Int))) :=
 (if (decide (x29 < r1)) then (Option.bind (impl_prime_numbered a0 (IntKind.i64.wrap (r1 + x29))) fun r39=>(ifp ((x30.length + ([r39] : List (List Int)).length) * 24 ≤ 140737488355328) ((some (.inl ((IntKind.i64.wrap (x29 + 1),(x30 ++ ([r39]))))))))) else (some (.inr x30)))
noncomputable def impl_prime_monics (a0 : Int) (a1 : Int) : Option (List (List Int)) :=
 (Option.bind (impl_prime_norm a0 a1 343) fun r1=>(Option.bind (α:=(List (List Int))) ((loopM (fun s : (Int × (List (List Int)))=>impl_prime_monics_l1 r1 a0 s.1 s.2) (0,[]))) fun x21=>(some x21)))
theorem impl_prime_monics_ok (a0 : Int) (a1 : Int) (r : (List (List Int))) (h : impl_prime_monics a0 a1 = some r) : Den Try.prog 172 [(i6 a0),(i6 a1)] { r:=(eSSi64 r) }:=by
 refine den_of (rs:=[(eSSi64 r)]) (ac:=impl_prime_monics_c) (L:=impl_prime_monics_L) (n:=25) (m:=[(4,1),(6,2)]) (c:=Try.f172.body.getD .skip) good Try.func172 (by kernel_rfl) (by kernel_rfl) Try.ntmps172 rfl rfl (by kernel_rfl) rfl rfl ?_
 refine ns ⟨[(0,i6 a0),(1,i6 a1)],[]⟩ ?_
 unfold impl_prime_monics_c
 refine sr (vp (eSSi64 ([])) rfl (nk ⟨[(0,i6 a0),(1,i6 a1)],[]⟩ (sr (vp (i6 a0) rfl (vp (i6 a1) rfl ?_)))))
 obtain ⟨r1,hr2,h⟩:=bind_some h
 refine a_call (args:=[(i6 a0),(i6 a1),(i6 343)]) (u:=[]) (r:=(i6 r1)) rfl rfl (impl_prime_norm_ok a0 a1 343 r1 hr2) rfl (vp (i6 r1) rfl (nk ⟨[(0,i6 a0),(5,i6 r1)],[]⟩ (sr (vu (.osl 1600) [(1600,bk (.row 1 (([]).map eSi64)))] rfl trivial rfl (nk ⟨[(0,i6 a0),(5,i6 r1),(6,.osl 6)],[(6,bk (.row 1 (([]).map eSi64)))]⟩ ?_)))))
 obtain ⟨y22,hy23,hk24⟩:=bind_some h
 clear h
 refine a_join (emb:=fun (s : (List (List Int)))=>⟨[(6,.osl 6)],[(6,bk (.row 1 (s.map eSi64)))]⟩) (pre:=fun s=>s = y22) ?_ ?_
 ·rintro x21 rfl
  have h:=hk24
  refine ns ⟨[(6,.osl 6)],[(6,bk (.row 1 (x21.map eSi64)))]⟩ (sr (vp (.osl 6) rfl (vu (eSSi64 x21) [(6,bf (.row 1 (x21.map eSi64)))] rfl trivial rfl (nx _ rfl (a_ret ?_)))))
  refine ⟨.inr rfl,?_⟩
  rw [Try.results172]
  cases h
  exact ⟨_,_,_,_,_,rfl,trivial,.inl ⟨rfl,.inl rfl⟩,rfl,rfl⟩
 ·have h:=hy23
  refine sr (vp (i6 r1) rfl (vp (i6 0) rfl (nk ⟨[(0,i6 a0),(5,i6 r1),(6,.osl 6),(11,i6 r1),(12,i6 0)],[(6,bk (.row 1 (([]).map eSi64)))]⟩ (a_block ?_))))
  refine a_loop (emb:=fun (s : (Int × (List (List Int))))=>⟨[(0,i6 a0),(5,i6 r1),(6,.osl 6),(11,i6 r1),(12,i6 s.1)],[(6,bk (.row 1 (s.2.map eSi64)))]⟩) (body:=(fun s : (Int × (List (List Int)))=>impl_prime_monics_l1 r1 a0 s.1 s.2)) (G:=fun q=>some q = some y22) h rfl ?_ (by kernel_rfl)
  rintro X35 ⟨x29,x30⟩ x36 h hX37
  have h : impl_prime_monics_l1 r1 a0 x29 x30 = some x36:=h
  refine ns ⟨[(0,i6 a0),(5,i6 r1),(6,.osl 6),(11,i6 r1),(12,i6 x29)],[(6,bk (.row 1 (x30.map eSi64)))]⟩ (sr (vp (.bool ((decide (x29 < r1)))) rfl (nk ⟨[(0,i6 a0),(5,i6 r1),(6,.osl 6),(11,i6 r1),(12,i6 x29),(13,.bool ((decide (x29 < r1))))],[(6,bk (.row 1 (x30.map eSi64)))]⟩ (a_seq ?_))))
  cases hb38 : (decide (x29 < r1))
  ·have h:=ite_f hb38 h
   refine a_cond_f rfl (a_exit (t_exit ?_))
   cases h
   have h:=hX37
   refine t_exit (b_exit ?_)
   exact j_leaf x30 (Option.some.inj h) (by kernel_rfl)
  ·have h:=ite_t hb38 h
   refine a_cond_t rfl (a_skip (nj ⟨[(0,i6 a0),(5,i6 r1),(6,.osl 6),(11,i6 r1),(12,i6 x29)],[(6,bk (.row 1 (x30.map eSi64)))]⟩ (a_seq (a_block (sr (vp (i6 x29) rfl (vp (i6 x29) rfl (nk ⟨[(0,i6 a0),(5,i6 r1),(6,.osl 6),(7,i6 x29),(11,i6 r1),(12,i6 x29)],[(6,bk (.row 1 (x30.map eSi64)))]⟩ (a_region ?_)))))))))
   refine vp (.osl 6) rfl (vp (i6 a0) rfl (vp (i6 r1) rfl (vp (i6 x29) rfl (vp (i6 (IntKind.i64.wrap (r1 + x29))) rfl ?_))))
   obtain ⟨r39,hr40,h⟩:=bind_some h
   refine a_call (args:=[(i6 a0),(i6 (IntKind.i64.wrap (r1 + x29)))]) (u:=[]) (r:=(eSi64 r39)) rfl rfl (impl_prime_numbered_ok a0 (IntKind.i64.wrap (r1 + x29)) r39 hr40) rfl (vq (.sl 1 true (([r39]).map eSi64)) rfl ⟨(Nat.le_of_ble_eq_true rfl),(Nat.le_of_ble_eq_true rfl),(all_cons ⟨(Nat.le_of_ble_eq_true rfl),rfl⟩ all_nil)⟩ ?_)
   obtain ⟨hc41,h⟩:=ifp_some h
   refine vu (.osl 3200) [(3200,bk (.row 1 (((x30 ++ ([r39]))).map eSi64))),(6,none)] (app_run (i:=⟨.slice 2,1,24,(eSi64 [])⟩) (f:=eSi64) (l:=x30) (l2:=[r39]) rfl rfl rfl rfl (fun _=>rfl) rfl rfl) (app_c (f:=eSi64) (s:=1) (sz:=1) (by':=24) (u:=[]) (id:=6) hc41 (.inr rfl) rfl rfl rfl) rfl (vp (.osl 3200) rfl (a_nil (b_norm (nj ⟨[(0,i6 a0),(5,i6 r1),(6,.osl 6),(11,i6 r1),(12,i6 x29)],[(6,bk (.row 1 (((x30 ++ ([r39]))).map eSi64)))]⟩ (a_region (vp (i6 (IntKind.i64.wrap (x29 + 1))) rfl (vp (i6 (IntKind.i64.wrap (x29 + 1))) rfl (a_nil ?_))))))))
   cases h
   exact a_again (by kernel_rfl) hX37
def impl_polys_c : ACode:=(.seq (.region 0 [q 2 (.asg 1 (.const (.slice none 0 0)) 55)] false) (.seq (.region 1 [q 3 (.asg 2 (.const (.slice none 0 0)) 55)] false) (.seq (.seq (.region 2 [q 6 (.mov (t 0)),q 7 (.blt 0 .len [(t 6)] [108]),q 8 (.mov (.const (.int .i64 0)))] false) (.block 0 (.loop (.seq (.region 3 [q 9 (.bin .lss 3 (t 8) (t 7))] false) (.seq (.cond (t 9) .skip (.exit 0)) (.seq (.block 1 (.seq (.region 4 [q 10 (.indexAddr 108 (t 6) (t 8)),q 11 (.load 80 (t 10)),q 5 (.asg 1 (t 11) 80)] false) (.region 5 [q 12 (.mov (t 3)),q 13 (.mov (t 5)),q 14 (.call 0 (.func 111) [(t 13)]),q 15 (.bslice 0 55 1 [(0,t 14)]),q 16 (.blt 0 .append [(t 12),(t 15)] [55,55]),q 3 (.asg 2 (t 16) 55)] false))) (.region 6 [q 17 (.bin .add 3 (t 8) (.const (.int .i64 1))),q 8 (.mov (t 17))] false))))))) (.seq (.region 7 [q 18 (.mov (t 3)),q 2 (.asg 1 (t 18) 55)] false) .ret))))
def impl_polys_L : Live:=[(0,[0]),(1,[0]),(2,[0,3]),(3,[3,6,7,8]),(4,[3,6,7,8]),(5,[3,5,6,7,8]),(6,[3,6,7,8]),(7,[3]),(100009,[3,6,7,8,9])]
noncomputable def impl_polys_l1 (a0 : (List (List Int))) (x35 : Int) (x36 : (List (Vec Int 64))) : Option ((Int × (List (Vec Int 64))) ⊕ (List (Vec Int 64))) :=
 (if (decide (x35 < (a0.length : Int))) then (ifp (0 ≤ x35 ∧ x35 < ((a0.length : Nat) : Int)) ((Option.bind (impl_row_poly (rd a0 x35.toNat)) fun r49=>(ifp ((x36.length + ([r49] : List (Vec Int 64)).length) * 64 ≤ 140737488355328) ((some (.inl ((IntKind.i64.wrap (x35 + 1),(x36 ++ ([r49]))))))))))) else (some (.inr x36)))
noncomputable def impl_polys (a0 : (List (List Int))) : Option (List (Vec Int 64)) :=
 (Option.bind (α:=(List (Vec Int 64))) ((loopM (fun s : (Int × (List (Vec Int 64)))=>impl_polys_l1 a0 s.1 s.2) (0,[]))) fun x25=>(some x25))
theorem impl_polys_ok (a0 : (List (List Int))) (r : (List (Vec Int 64))) (h : impl_polys a0 = some r) : Den Try.prog 151 [(eSSi64 a0)] { r:=(eSA64u8 r) }:=by
 refine den_of (rs:=[(eSA64u8 r)]) (ac:=impl_polys_c) (L:=impl_polys_L) (n:=19) (m:=[(2,1),(3,2),(5,1)]) (c:=Try.f151.body.getD .skip) good Try.func151 (by kernel_rfl) (by kernel_rfl) Try.ntmps151 rfl rfl (by kernel_rfl) rfl rfl ?_
 refine ns ⟨[(0,eSSi64 a0)],[]⟩ ?_
 unfold impl_polys_c
 refine sr (vp (eSA64u8 ([])) rfl (nk ⟨[(0,eSSi64 a0)],[]⟩ (sr (vu (.osl 1300) [(1300,bk (.row 64 (([]).map eVb)))] rfl trivial rfl (nk ⟨[(0,eSSi64 a0),(3,.osl 3)],[(3,bk (.row 64 (([]).map eVb)))]⟩ ?_)))))
 obtain ⟨y26,hy27,hk28⟩:=bind_some h
 clear h
 refine a_join (emb:=fun (s : (List (Vec Int 64)))=>⟨[(3,.osl 3)],[(3,bk (.row 64 (s.map eVb)))]⟩) (pre:=fun s=>s = y26) ?_ ?_
 ·rintro x25 rfl
  have h:=hk28
  refine ns ⟨[(3,.osl 3)],[(3,bk (.row 64 (x25.map eVb)))]⟩ (sr (vp (.osl 3) rfl (vu (eSA64u8 x25) [(3,bf (.row 64 (x25.map eVb)))] rfl trivial rfl (nx _ rfl (a_ret ?_)))))
  refine ⟨.inr rfl,?_⟩
  rw [Try.results151]
  cases h
  exact ⟨_,_,_,_,_,rfl,trivial,.inl ⟨rfl,.inl rfl⟩,rfl,rfl⟩
 ·have h:=hy27
  refine sr (vp (eSSi64 a0) rfl (vq (i6 (a0.length : Int)) (len_run rfl rfl) trivial (vp (i6 0) rfl (nk ⟨[(3,.osl 3),(6,eSSi64 a0),(7,i6 (a0.length : Int)),(8,i6 0)],[(3,bk (.row 64 (([]).map eVb)))]⟩ (a_block ?_)))))
  refine a_loop (emb:=fun (s : (Int × (List (Vec Int 64))))=>⟨[(3,.osl 3),(6,eSSi64 a0),(7,i6 (a0.length : Int)),(8,i6 s.1)],[(3,bk (.row 64 (s.2.map eVb)))]⟩) (body:=(fun s : (Int × (List (Vec Int 64)))=>impl_polys_l1 a0 s.1 s.2)) (G:=fun q=>some q = some y26) h rfl ?_ (by kernel_rfl)
  rintro X43 ⟨x35,x36⟩ x44 h hX45
  have h : impl_polys_l1 a0 x35 x36 = some x44:=h
  refine ns ⟨[(3,.osl 3),(6,eSSi64 a0),(7,i6 (a0.length : Int)),(8,i6 x35)],[(3,bk (.row 64 (x36.map eVb)))]⟩ (sr (vp (.bool ((decide (x35 < (a0.length : Int))))) rfl (nk ⟨[(3,.osl 3),(6,eSSi64 a0),(7,i6 (a0.length : Int)),(8,i6 x35),(9,.bool ((decide (x35 < (a0.length : Int)))))],[(3,bk (.row 64 (x36.map eVb)))]⟩ (a_seq ?_))))
  cases hb46 : (decide (x35 < (a0.length : Int)))
  ·have h:=ite_f hb46 h
   refine a_cond_f rfl (a_exit (t_exit ?_))
   cases h
   have h:=hX45
   refine t_exit (b_exit ?_)
   exact j_leaf x36 (Option.some.inj h) (by kernel_rfl)
  ·have h:=ite_t hb46 h
   refine a_cond_t rfl (a_skip (nj ⟨[(3,.osl 3),(6,eSSi64 a0),(7,i6 (a0.length : Int)),(8,i6 x35)],[(3,bk (.row 64 (x36.map eVb)))]⟩ (a_seq (a_block (sr ?_)))))
   obtain ⟨hc47,h⟩:=ifp_some h
   refine vq (.ref (.row 1 (a0.map eSi64)) [x35.toNat] [x35.toNat * 1]) rfl (lmap hc47) ?_
   have hl48 : LdOk [x35.toNat] (.row 1 (a0.map eSi64)) [x35.toNat * 1] 1 false (eSi64 (rd a0 x35.toNat)):=(.row (llt hc47) rfl (.nil rfl rfl rfl))
   refine vq (eSi64 (rd a0 x35.toNat)) (ld_ref (i:=⟨.slice 2,1,24,(eSi64 [])⟩) rfl rfl hl48) hl48.c (vp (eSi64 (rd a0 x35.toNat)) rfl (nk ⟨[(3,.osl 3),(5,eSi64 (rd a0 x35.toNat)),(6,eSSi64 a0),(7,i6 (a0.length : Int)),(8,i6 x35)],[(3,bk (.row 64 (x36.map eVb)))]⟩ (a_region (vp (.osl 3) rfl (vp (eSi64 (rd a0 x35.toNat)) rfl ?_)))))
   obtain ⟨r49,hr50,h⟩:=bind_some h
   refine a_call (args:=[(eSi64 (rd a0 x35.toNat))]) (u:=[]) (r:=(eVb r49)) rfl rfl (impl_row_poly_ok (rd a0 x35.toNat) r49 hr50) rfl (vq (.sl 64 true (([r49]).map eVb)) rfl ⟨(Nat.le_of_ble_eq_true rfl),(Nat.le_of_ble_eq_true rfl),(all_cons ⟨(Nat.le_of_ble_eq_true rfl),rfl⟩ all_nil)⟩ ?_)
   obtain ⟨hc51,h⟩:=ifp_some h
   refine vu (.osl 2600) [(2600,bk (.row 64 (((x36 ++ ([r49]))).map eVb))),(3,none)] (app_run (i:=⟨.arr 64 5,64,64,(eVb (vrep 64 (0 : Int)))⟩) (f:=eVb) (l:=x36) (l2:=[r49]) rfl rfl rfl rfl (fun _=>rfl) rfl rfl) (app_c (f:=eVb) (s:=64) (sz:=64) (by':=64) (u:=[]) (id:=3) hc51 (.inr rfl) rfl rfl rfl) rfl (vp (.osl 2600) rfl (a_nil (b_norm (nj ⟨[(3,.osl 3),(6,eSSi64 a0),(7,i6 (a0.length : Int)),(8,i6 x35)],[(3,bk (.row 64 (((x36 ++ ([r49]))).map eVb)))]⟩ (a_region (vp (i6 (IntKind.i64.wrap (x35 + 1))) rfl (vp (i6 (IntKind.i64.wrap (x35 + 1))) rfl (a_nil ?_))))))))
   cases h
   exact a_again (by kernel_rfl) hX45
def impl_MonicPolys_c : ACode:=(.seq (.region 0 [q 4 (.asg 1 (.const (.slice none 0 0)) 55),q 5 (.asg 0 (.const (.int .i64 0)) 2)] false) (.seq (.block 0 (.seq (.region 1 [q 7 (.mov (t 0)),q 8 (.call 0 (.func 106) [(t 7)]),q 9 (.un .not (t 8)),q 6 (.asg 0 (t 9) 4)] false) (.cond (t 6) (.seq (.region 2 [q 4 (.asg 1 (.const (.slice none 0 0)) 55),q 5 (.asg 0 (.const (.int .i64 1)) 2)] false) .ret) (.seq (.region 3 [q 11 (.mov (t 1)),q 12 (.call 0 (.func 139) [(t 11),(.const (.int .i64 0)),(.const (.int .i64 63))]),q 13 (.un .not (t 12)),q 10 (.asg 0 (t 13) 4)] false) (.cond (t 10) (.seq (.region 4 [q 4 (.asg 1 (.const (.slice none 0 0)) 55),q 5 (.asg 0 (.const (.int .i64 2)) 2)] false) .ret) (.seq (.region 5 [q 15 (.mov (t 0)),q 16 (.mov (t 1)),q 17 (.call 0 (.func 171) [(t 15),(t 16),(.const (.int .i64 343))]),q 18 (.bin .gtr 2 (t 17) (.const (.int .i64 343))),q 14 (.asg 0 (t 18) 4)] false) (.cond (t 14) (.seq (.region 6 [q 4 (.asg 1 (.const (.slice none 0 0)) 55),q 5 (.asg 0 (.const (.int .i64 3)) 2)] false) .ret) .skip))))))) (.seq (.region 7 [q 19 (.mov (t 0)),q 20 (.mov (t 1)),q 21 (.call 0 (.func 172) [(t 19),(t 20)]),q 22 (.call 0 (.func 151) [(t 21)]),q 4 (.asg 1 (t 22) 55),q 5 (.asg 0 (.const (.int .i64 0)) 2)] false) .ret)))
def impl_MonicPolys_L : Live:=[(0,[0,1]),(1,[0,1]),(2,[]),(3,[0,1]),(4,[]),(5,[0,1]),(6,[]),(7,[0,1]),(100006,[0,1,6]),(100010,[0,1,10]),(100014,[0,1,14])]
noncomputable def impl_MonicPolys (a0 : Int) (a1 : Int) : Option ((List (Vec Int 64)) × Int) :=
 (Option.bind (impl_isPrime a0) fun r1=>(if (!r1) then (some ([],1)) else (Option.bind (impl_within a1 0 63) fun r4=>(if (!r4) then (some ([],2)) else (Option.bind (impl_prime_norm a0 a1 343) fun r7=>(if (decide (r7 > 343)) then (some ([],3)) else (Option.bind (impl_prime_monics a0 a1) fun r10=>(Option.bind (impl_polys r10) fun r12=>(some (r12,0))))))))))
theorem impl_MonicPolys_ok (a0 : Int) (a1 : Int) (r : ((List (Vec Int 64)) × Int)) (h : impl_MonicPolys a0 a1 = some r) : Den Try.prog 86 [(i6 a0),(i6 a1)] { r:=(.tuple [(eSA64u8 r.1),(i6 r.2)]) }:=by
 refine den_of (rs:=[(eSA64u8 r.1),(i6 r.2)]) (ac:=impl_MonicPolys_c) (L:=impl_MonicPolys_L) (n:=23) (m:=[(4,1)]) (c:=Try.f86.body.getD .skip) good Try.func86 (by kernel_rfl) (by kernel_rfl) Try.ntmps86 rfl rfl (by kernel_rfl) rfl rfl ?_
 refine ns ⟨[(0,i6 a0),(1,i6 a1)],[]⟩ ?_
 unfold impl_MonicPolys_c
 refine sr (vp (eSA64u8 ([])) rfl (vp (i6 0) rfl (nk ⟨[(0,i6 a0),(1,i6 a1)],[]⟩ (a_seq (a_block (sr (vp (i6 a0) rfl ?_)))))))
 obtain ⟨r1,hr2,h⟩:=bind_some h
 refine a_call (args:=[(i6 a0)]) (u:=[]) (r:=(.bool r1)) rfl rfl (impl_isPrime_ok a0 r1 hr2) rfl (vp (.bool (!r1)) rfl (vp (.bool (!r1)) rfl (nk ⟨[(0,i6 a0),(1,i6 a1),(6,.bool (!r1))],[]⟩ ?_)))
 cases hb3 : (!r1)
 ·have h:=ite_f hb3 h
  refine a_cond_f rfl (sr (vp (i6 a1) rfl ?_))
  obtain ⟨r4,hr5,h⟩:=bind_some h
  refine a_call (args:=[(i6 a1),(i6 0),(i6 63)]) (u:=[]) (r:=(.bool r4)) rfl rfl (impl_within_ok a1 0 63 r4 hr5) rfl (vp (.bool (!r4)) rfl (vp (.bool (!r4)) rfl (nk ⟨[(0,i6 a0),(1,i6 a1),(10,.bool (!r4))],[]⟩ ?_)))
  cases hb6 : (!r4)
  ·have h:=ite_f hb6 h
   refine a_cond_f rfl (sr (vp (i6 a0) rfl (vp (i6 a1) rfl ?_)))
   obtain ⟨r7,hr8,h⟩:=bind_some h
   refine a_call (args:=[(i6 a0),(i6 a1),(i6 343)]) (u:=[]) (r:=(i6 r7)) rfl rfl (impl_prime_norm_ok a0 a1 343 r7 hr8) rfl (vp (.bool ((decide (r7 > 343)))) rfl (vp (.bool ((decide (r7 > 343)))) rfl (nk ⟨[(0,i6 a0),(1,i6 a1),(14,.bool ((decide (r7 > 343))))],[]⟩ ?_)))
   cases hb9 : (decide (r7 > 343))
   ·have h:=ite_f hb9 h
    refine a_cond_f rfl (a_skip (b_norm (nj ⟨[(0,i6 a0),(1,i6 a1)],[]⟩ (sr (vp (i6 a0) rfl (vp (i6 a1) rfl ?_))))))
    obtain ⟨r10,hr11,h⟩:=bind_some h
    refine a_call (args:=[(i6 a0),(i6 a1)]) (u:=[]) (r:=(eSSi64 r10)) rfl rfl (impl_prime_monics_ok a0 a1 r10 hr11) rfl ?_
    obtain ⟨r12,hr13,h⟩:=bind_some h
    refine a_call (args:=[(eSSi64 r10)]) (u:=[]) (r:=(eSA64u8 r12)) rfl rfl (impl_polys_ok r10 r12 hr13) rfl (vp (eSA64u8 r12) rfl (vp (i6 0) rfl (nx _ rfl (a_ret ?_))))
    refine ⟨.inr rfl,?_⟩
    rw [Try.results86]
    cases h
    exact ⟨_,_,_,_,_,rfl,trivial,.inl ⟨rfl,.inl rfl⟩,rfl,⟨_,_,_,_,_,rfl,trivial,.inl ⟨rfl,.inl rfl⟩,rfl,rfl⟩⟩
   ·have h:=ite_t hb9 h
    refine a_cond_t rfl (sr (vp (eSA64u8 ([])) rfl (vp (i6 3) rfl (nx _ rfl (a_ret (b_ret (t_ret ?_)))))))
    refine ⟨.inr rfl,?_⟩
    rw [Try.results86]
    cases h
    exact ⟨_,_,_,_,_,rfl,trivial,.inl ⟨rfl,.inl rfl⟩,rfl,⟨_,_,_,_,_,rfl,trivial,.inl ⟨rfl,.inl rfl⟩,rfl,rfl⟩⟩
  ·have h:=ite_t hb6 h
   refine a_cond_t rfl (sr (vp (eSA64u8 ([])) rfl (vp (i6 2) rfl (nx _ rfl (a_ret (b_ret (t_ret ?_)))))))
   refine ⟨.inr rfl,?_⟩
   rw [Try.results86]
   cases h
   exact ⟨_,_,_,_,_,rfl,trivial,.inl ⟨rfl,.inl rfl⟩,rfl,⟨_,_,_,_,_,rfl,trivial,.inl ⟨rfl,.inl rfl⟩,rfl,rfl⟩⟩
 ·have h:=ite_t hb3 h
  refine a_cond_t rfl (sr (vp (eSA64u8 ([])) rfl (vp (i6 1) rfl (nx _ rfl (a_ret (b_ret (t_ret ?_)))))))
  refine ⟨.inr rfl,?_⟩
  rw [Try.results86]
  cases h
  exact ⟨_,_,_,_,_,rfl,trivial,.inl ⟨rfl,.inl rfl⟩,rfl,⟨_,_,_,_,_,rfl,trivial,.inl ⟨rfl,.inl rfl⟩,rfl,rfl⟩⟩
def spec_l01Count_c : ACode:=(.seq (.region 0 [q 4 (.asg 0 (.const (.int .i64 0)) 2)] false) (.seq (.region 1 [q 5 (.asg 0 (.const (.int .i64 1)) 2)] false) (.seq (.block 0 (.loop (.seq (.seq (.region 2 [q 6 (.mov (t 1)),q 7 (.bin .gtr 2 (t 6) (.const (.int .i64 0))),q 8 (.mov (t 7)),⟨some 9,.mov (t 5),some (8,true),[]⟩,⟨some 10,.bin .leq 2 (t 9) (.const (.int .i64 1000000000000)),some (8,true),[]⟩,q 11 (.pick (t 8) (t 10) (.const (.bool false)))] false) (.cond (t 11) .skip (.exit 0))) (.seq (.block 1 (.region 4 [q 14 (.mov (t 5)),q 15 (.mov (t 0)),q 16 (.bin .mul 2 (t 14) (t 15)),q 5 (.asg 0 (t 16) 2)] false)) (.region 3 [q 12 (.mov (t 1)),q 13 (.bin .sub 2 (t 12) (.const (.int .i64 1))),q 1 (.asg 0 (t 13) 2)] false))))) (.seq (.region 5 [q 17 (.mov (t 5)),q 18 (.blt 0 .min [(t 17),(.const (.int .i64 1000000000001))] [2,2]),q 4 (.asg 0 (t 18) 2)] false) .ret))))
def spec_l01Count_L : Live:=[(0,[0,1]),(1,[0,1]),(2,[0,1,5]),(3,[0,1,5]),(4,[0,1,5]),(5,[5]),(100011,[0,1,5,11])]
noncomputable def spec_l01Count_l1 (a0 : Int) (x39 : Int) (x40 : Int) : Option ((Int × Int) ⊕ Int) :=
 (Option.bind (α:=Bool) ((if (decide (x39 > 0)) then (some ((decide (x40 ≤ 1000000000000)))) else (some false))) fun x52=>(if x52 then (some (.inl ((IntKind.i64.wrap (x39 - 1),IntKind.i64.wrap (x40 * a0))))) else (some (.inr x40))))
noncomputable def spec_l01Count (a0 : Int) (a1 : Int) : Option Int :=
 (Option.bind (α:=Int) ((loopM (fun s : (Int × Int)=>spec_l01Count_l1 a0 s.1 s.2) (a1,1))) fun x28=>(some (if 1000000000001 < x28 then 1000000000001 else x28)))
theorem spec_l01Count_ok (a0 : Int) (a1 : Int) (r : Int) (h : spec_l01Count a0 a1 = some r) : Den Try.prog 149 [(i6 a0),(i6 a1)] { r:=(i6 r) }:=by
 refine den_of (rs:=[(i6 r)]) (ac:=spec_l01Count_c) (L:=spec_l01Count_L) (n:=19) (m:=[]) (c:=Try.f149.body.getD .skip) good Try.func149 (by kernel_rfl) (by kernel_rfl) Try.ntmps149 rfl rfl (by kernel_rfl) rfl rfl ?_
 refine ns ⟨[(0,i6 a0),(1,i6 a1)],[]⟩ ?_
 unfold spec_l01Count_c
 refine sr (vp (i6 0) rfl (nk ⟨[(0,i6 a0),(1,i6 a1)],[]⟩ (sr (vp (i6 1) rfl (nk ⟨[(0,i6 a0),(1,i6 a1),(5,i6 1)],[]⟩ ?_)))))
 obtain ⟨y29,hy30,hk31⟩:=bind_some h
 clear h
 refine a_join (emb:=fun (s : Int)=>⟨[(5,i6 s)],[]⟩) (pre:=fun s=>s = y29) ?_ ?_
 ·rintro x28 rfl
  have h:=hk31
  refine ns ⟨[(5,i6 x28)],[]⟩ (sr (vp (i6 x28) rfl (vp (i6 (if 1000000000001 < x28 then 1000000000001 else x28)) rfl (vp (i6 (if 1000000000001 < x28 then 1000000000001 else x28)) rfl (nx _ rfl (a_ret ?_))))))
  refine ⟨.inr rfl,?_⟩
  rw [Try.results149]
  cases h
  exact ⟨_,_,_,_,_,rfl,trivial,.inl ⟨rfl,.inl rfl⟩,rfl,rfl⟩
 ·have h:=hy30
  refine a_block ?_
  refine a_loop (emb:=fun (s : (Int × Int))=>⟨[(0,i6 a0),(1,i6 s.1),(5,i6 s.2)],[]⟩) (body:=(fun s : (Int × Int)=>spec_l01Count_l1 a0 s.1 s.2)) (G:=fun q=>some q = some y29) h rfl ?_ (by kernel_rfl)
  rintro X48 ⟨x39,x40⟩ x49 h hX50
  have h : spec_l01Count_l1 a0 x39 x40 = some x49:=h
  refine ns ⟨[(0,i6 a0),(1,i6 x39),(5,i6 x40)],[]⟩ (a_seq ?_)
  obtain ⟨y53,hy54,hk55⟩:=bind_some h
  clear h
  refine a_join (emb:=fun (s : Bool)=>⟨[(0,i6 a0),(1,i6 x39),(5,i6 x40),(11,.bool s)],[]⟩) (pre:=fun s=>s = y53) ?_ ?_
  ·rintro x52 rfl
   have h:=hk55
   refine ns ⟨[(0,i6 a0),(1,i6 x39),(5,i6 x40),(11,.bool x52)],[]⟩ ?_
   cases hb57 : x52
   ·have h:=ite_f hb57 h
    refine a_cond_f rfl (a_exit (t_exit ?_))
    cases h
    have h:=hX50
    refine t_exit (b_exit ?_)
    exact j_leaf x40 (Option.some.inj h) (by kernel_rfl)
   ·have h:=ite_t hb57 h
    refine a_cond_t rfl (a_skip (nj ⟨[(0,i6 a0),(1,i6 x39),(5,i6 x40)],[]⟩ (a_seq (a_block (a_region (vp (i6 x40) rfl (vp (i6 a0) rfl (vp (i6 (IntKind.i64.wrap (x40 * a0))) rfl (vp (i6 (IntKind.i64.wrap (x40 * a0))) rfl ?_)))))))))
    refine a_nil (b_norm (nj ⟨[(0,i6 a0),(1,i6 x39),(5,i6 (IntKind.i64.wrap (x40 * a0)))],[]⟩ (a_region (vp (i6 x39) rfl (vp (i6 (IntKind.i64.wrap (x39 - 1))) rfl (vp (i6 (IntKind.i64.wrap (x39 - 1))) rfl (a_nil ?_)))))))
    cases h
    exact a_again (by kernel_rfl) hX50
  ·have h:=hy54
   refine a_region (vp (i6 x39) rfl (vp (.bool ((decide (x39 > 0)))) rfl (vp (.bool ((decide (x39 > 0)))) rfl ?_)))
   cases hb56 : (decide (x39 > 0))
   ·have h:=ite_f hb56 h
    refine a_gskip rfl (a_gskip rfl (vp (.bool false) rfl (a_nil ?_)))
    exact j_leaf false (Option.some.inj h) (by kernel_rfl)
   ·have h:=ite_t hb56 h
    refine gp (i6 x40) rfl rfl (gp (.bool ((decide (x40 ≤ 1000000000000)))) rfl rfl (vp (.bool ((decide (x40 ≤ 1000000000000)))) rfl (a_nil ?_)))
    exact j_leaf ((decide (x40 ≤ 1000000000000))) (Option.some.inj h) (by kernel_rfl)
def spec_l01Of_c : ACode:=(.seq (.region 0 [q 4 (.alloc 25)] false) (.seq (.region 1 [q 7 (.build 25 []),q 5 (.alloc 25),⟨none,.store 25 (t 5) (t 7),none,[]⟩] false) (.seq (.seq (.region 2 [q 6 (.asg 0 (.const (.int .i64 0)) 3)] false) (.block 0 (.loop (.seq (.seq (.region 3 [q 8 (.mov (t 1)),q 9 (.bin .gtr 2 (t 8) (.const (.int .i64 0)))] false) (.cond (t 9) .skip (.exit 0))) (.seq (.block 1 (.seq (.region 5 [q 12 (.mov (t 6)),q 13 (.mov (t 1)),q 14 (.mov (t 0)),q 15 (.bin .rem 2 (t 13) (t 14)),q 16 (.conv 2 5 (t 15)),q 17 (.indexAddr 25 (t 5) (t 12)),⟨none,.store 5 (t 17) (t 16),none,[]⟩] false) (.region 6 [q 18 (.mov (t 1)),q 19 (.mov (t 0)),q 20 (.bin .quo 2 (t 18) (t 19)),q 1 (.asg 0 (t 20) 2)] false))) (.region 4 [q 10 (.mov (t 6)),q 11 (.bin .add 3 (t 10) (.const (.int .i64 1))),q 6 (.asg 0 (t 11) 3)] false)))))) (.seq (.region 7 [q 21 (.load 25 (t 5)),⟨none,.store 25 (t 4) (t 21),none,[]⟩] false) .ret))))
def spec_l01Of_L : Live:=[(0,[0,1]),(1,[0,1,4]),(2,[0,1,4,5]),(3,[0,1,4,5,6]),(4,[0,1,4,5,6]),(5,[0,1,4,5,6]),(6,[0,1,4,5,6]),(7,[4,5]),(100009,[0,1,4,5,6,9])]
noncomputable def spec_l01Of_l1 (a0 : Int) (x33 : Int) (x34 : Int) (x35 : (Vec Int 64)) : Option ((Int × Int × (Vec Int 64)) ⊕ (Vec Int 64)) :=
 (if (decide (x33 > 0)) then (ifp (a0 ≠ 0) ((ifp (0 ≤ x34 ∧ x34 < ((64 : Nat) : Int)) ((ifp (a0 ≠ 0) ((some (.inl ((IntKind.i64.wrap (Int.tdiv x33 a0),IntKind.i64.wrap (x34 + 1),(vset x35 x34.toNat (IntKind.u8.wrap (Int.tmod x33 a0))))))))))))) else (some (.inr x35)))
noncomputable def spec_l01Of (a0 : Int) (a1 : Int) : Option (Vec Int 64) :=
 (Option.bind (α:=(Vec Int 64)) ((loopM (fun s : (Int × Int × (Vec Int 64))=>spec_l01Of_l1 a0 s.1 s.2.1 s.2.2) (a1,0,(vrep 64 (0 : Int))))) fun x24=>(some x24))
theorem spec_l01Of_ok (a0 : Int) (a1 : Int) (r : (Vec Int 64)) (h : spec_l01Of a0 a1 = some r) : Den Try.prog 173 [(i6 a0),(i6 a1)] { r:=(eVb r) }:=by
 refine den_of (rs:=[(eVb r)]) (ac:=spec_l01Of_c) (L:=spec_l01Of_L) (n:=22) (m:=[]) (c:=Try.f173.body.getD .skip) good Try.func173 (by kernel_rfl) (by kernel_rfl) Try.ntmps173 rfl rfl (by kernel_rfl) rfl rfl ?_
 refine ns ⟨[(0,i6 a0),(1,i6 a1)],[]⟩ ?_
 unfold spec_l01Of_c
 refine sr (vo 1400 (eVb ((vrep 64 (0 : Int)))) rfl rfl (nk ⟨[(0,i6 a0),(1,i6 a1),(4,ow 4)],[(4,bk (eVb ((vrep 64 (0 : Int)))))]⟩ (sr (vq (eVb ((vrep 64 (0 : Int)))) rfl ⟨⟨_,rfl,rfl⟩,all_nil⟩ (vo 1500 (eVb ((vrep 64 (0 : Int)))) rfl rfl (vs (eVb ((vrep 64 (0 : Int)))) rfl rfl (fun _=>rfl) rfl rfl rfl rfl rfl rfl (nk ⟨[(0,i6 a0),(1,i6 a1),(4,ow 4),(5,ow 5)],[(4,bk (eVb ((vrep 64 (0 : Int))))),(5,bk (eVb ((vrep 64 (0 : Int)))))]⟩ ?_)))))))
 obtain ⟨y25,hy26,hk27⟩:=bind_some h
 clear h
 refine a_join (emb:=fun (s : (Vec Int 64))=>⟨[(4,ow 4),(5,ow 5)],[(4,bk (eVb ((vrep 64 (0 : Int))))),(5,bk (eVb s))]⟩) (pre:=fun s=>s = y25) ?_ ?_
 ·rintro x24 rfl
  have h:=hk27
  refine ns ⟨[(4,ow 4),(5,ow 5)],[(4,bk (eVb ((vrep 64 (0 : Int))))),(5,bk (eVb x24))]⟩ (sr (vl (eVb x24) rfl rfl rfl rfl rfl rfl (vs (eVb x24) rfl rfl (fun _=>rfl) rfl rfl rfl rfl rfl rfl (nx _ rfl (a_ret ?_)))))
  have hl52 : LdOk [] (eVb x24) [] 64 true (eVb x24):=(.nil rfl rfl rfl)
  refine ⟨.inr rfl,?_⟩
  rw [Try.results173]
  cases h
  exact ⟨_,_,_,_,_,ld_own (i:=⟨.arr 64 5,64,64,(eVb (vrep 64 (0 : Int)))⟩) rfl rfl rfl hl52,hl52.c,.inl ⟨rfl,.inl rfl⟩,rfl,rfl⟩
 ·have h:=hy26
  refine sr (vp (i6 0) rfl (nk ⟨[(0,i6 a0),(1,i6 a1),(4,ow 4),(5,ow 5),(6,i6 0)],[(4,bk (eVb ((vrep 64 (0 : Int))))),(5,bk (eVb ((vrep 64 (0 : Int)))))]⟩ (a_block ?_)))
  refine a_loop (emb:=fun (s : (Int × Int × (Vec Int 64)))=>⟨[(0,i6 a0),(1,i6 s.1),(4,ow 4),(5,ow 5),(6,i6 s.2.1)],[(4,bk (eVb ((vrep 64 (0 : Int))))),(5,bk (eVb s.2.2))]⟩) (body:=(fun s : (Int × Int × (Vec Int 64))=>spec_l01Of_l1 a0 s.1 s.2.1 s.2.2)) (G:=fun q=>some q = some y25) h rfl ?_ (by kernel_rfl)
  rintro X41 ⟨x33,x34,x35⟩ x42 h hX43
  have h : spec_l01Of_l1 a0 x33 x34 x35 = some x42:=h
  refine ns ⟨[(0,i6 a0),(1,i6 x33),(4,ow 4),(5,ow 5),(6,i6 x34)],[(4,bk (eVb ((vrep 64 (0 : Int))))),(5,bk (eVb x35))]⟩ (a_seq (sr (vp (i6 x33) rfl (vp (.bool ((decide (x33 > 0)))) rfl (nk ⟨[(0,i6 a0),(1,i6 x33),(4,ow 4),(5,ow 5),(6,i6 x34),(9,.bool ((decide (x33 > 0))))],[(4,bk (eVb ((vrep 64 (0 : Int))))),(5,bk (eVb x35))]⟩ ?_)))))
  cases hb44 : (decide (x33 > 0))
  ·have h:=ite_f hb44 h
   refine a_cond_f rfl (a_exit (t_exit ?_))
   cases h
   have h:=hX43
   refine t_exit (b_exit ?_)
   exact j_leaf x35 (Option.some.inj h) (by kernel_rfl)
  ·have h:=ite_t hb44 h
   refine a_cond_t rfl (a_skip (nj ⟨[(0,i6 a0),(1,i6 x33),(4,ow 4),(5,ow 5),(6,i6 x34)],[(4,bk (eVb ((vrep 64 (0 : Int))))),(5,bk (eVb x35))]⟩ (a_seq (a_block (sr (vp (i6 x34) rfl (vp (i6 x33) rfl (vp (i6 a0) rfl ?_))))))))
   obtain ⟨hc45,h⟩:=ifp_some h
   refine vq (i6 (Int.tmod x33 a0)) rfl hc45 (vp (b8 (IntKind.u8.wrap (Int.tmod x33 a0))) rfl ?_)
   obtain ⟨hc46,h⟩:=ifp_some h
   refine vq (.own 5 [x34.toNat] [x34.toNat * 1]) rfl hc46 ?_
   have hs47 : StOk [x34.toNat] (eVb x35) [x34.toNat * 1] 1 (b8 (IntKind.u8.wrap (Int.tmod x33 a0))) (eVb ((vset x35 x34.toNat (IntKind.u8.wrap (Int.tmod x33 a0))))):=(.arr (y:=IntKind.u8.wrap (Int.tmod x33 a0)) (vlt x35 hc46) rfl (.nil rfl rfl rfl rfl))
   refine vu .top [(5,bk (eVb ((vset x35 x34.toNat (IntKind.u8.wrap (Int.tmod x33 a0))))))] (st_own (i:=⟨.int .u8,1,1,(.int .u8 0)⟩) rfl rfl (fun _=>rfl) rfl hs47) (hs47.c rfl) rfl (nk ⟨[(0,i6 a0),(1,i6 x33),(4,ow 4),(5,ow 5),(6,i6 x34)],[(4,bk (eVb ((vrep 64 (0 : Int))))),(5,bk (eVb ((vset x35 x34.toNat (IntKind.u8.wrap (Int.tmod x33 a0))))))]⟩ (a_region (vp (i6 x33) rfl (vp (i6 a0) rfl ?_))))
   obtain ⟨hc48,h⟩:=ifp_some h
   refine vq (i6 (IntKind.i64.wrap (Int.tdiv x33 a0))) rfl hc48 (vp (i6 (IntKind.i64.wrap (Int.tdiv x33 a0))) rfl (a_nil (b_norm (nj ⟨[(0,i6 a0),(1,i6 (IntKind.i64.wrap (Int.tdiv x33 a0))),(4,ow 4),(5,ow 5),(6,i6 x34)],[(4,bk (eVb ((vrep 64 (0 : Int))))),(5,bk (eVb ((vset x35 x34.toNat (IntKind.u8.wrap (Int.tmod x33 a0))))))]⟩ (a_region (vp (i6 x34) rfl (vp (i6 (IntKind.i64.wrap (x34 + 1))) rfl (vp (i6 (IntKind.i64.wrap (x34 + 1))) rfl (a_nil ?_)))))))))
   cases h
   exact a_again (by kernel_rfl) hX43
def spec_MonicPolys_c : ACode:=(.seq (.region 0 [q 4 (.asg 1 (.const (.slice none 0 0)) 55),q 5 (.asg 0 (.const (.int .i64 0)) 2)] false) (.seq (.block 0 (.seq (.region 1 [q 10 (.mov (t 0)),q 11 (.call 0 (.func 168) [(t 10)]),q 12 (.un .not (t 11)),q 9 (.asg 0 (t 12) 4)] false) (.cond (t 9) (.seq (.region 2 [q 4 (.asg 1 (.const (.slice none 0 0)) 55),q 5 (.asg 0 (.const (.int .i64 1)) 2)] false) .ret) (.seq (.region 3 [q 14 (.mov (t 1)),q 15 (.call 0 (.func 160) [(t 14),(.const (.int .i64 0)),(.const (.int .i64 63))]),q 16 (.un .not (t 15)),q 13 (.asg 0 (t 16) 4)] false) (.cond (t 13) (.seq (.region 4 [q 4 (.asg 1 (.const (.slice none 0 0)) 55),q 5 (.asg 0 (.const (.int .i64 2)) 2)] false) .ret) (.seq (.region 5 [q 18 (.mov (t 0)),q 19 (.mov (t 1)),q 20 (.call 0 (.func 149) [(t 18),(t 19)]),q 21 (.bin .gtr 2 (t 20) (.const (.int .i64 343))),q 17 (.asg 0 (t 21) 4)] false) (.cond (t 17) (.seq (.region 6 [q 4 (.asg 1 (.const (.slice none 0 0)) 55),q 5 (.asg 0 (.const (.int .i64 3)) 2)] false) .ret) .skip))))))) (.seq (.region 7 [q 22 (.bslice 2 55 0 []),q 6 (.asg 2 (t 22) 55)] false) (.seq (.seq (.region 8 [q 7 (.asg 0 (.const (.int .i64 0)) 2)] false) (.block 1 (.loop (.seq (.seq (.region 9 [q 23 (.mov (t 7)),q 24 (.mov (t 0)),q 25 (.mov (t 1)),q 26 (.call 0 (.func 149) [(t 24),(t 25)]),q 27 (.bin .lss 2 (t 23) (t 26))] false) (.cond (t 27) .skip (.exit 1))) (.seq (.block 2 (.seq (.region 11 [q 30 (.mov (t 0)),q 31 (.mov (t 7)),q 32 (.call 0 (.func 173) [(t 30),(t 31)]),q 8 (.alloc 25),⟨none,.store 25 (t 8) (t 32),none,[]⟩] false) (.seq (.region 12 [q 33 (.mov (t 1)),q 34 (.indexAddr 25 (t 8) (t 33)),⟨none,.store 5 (t 34) (.const (.int .u8 1)),none,[]⟩] false) (.region 13 [q 35 (.mov (t 6)),q 36 (.load 25 (t 8)),q 37 (.bslice 0 55 1 [(0,t 36)]),q 38 (.blt 0 .append [(t 35),(t 37)] [55,55]),q 6 (.asg 2 (t 38) 55)] false)))) (.region 10 [q 28 (.mov (t 7)),q 29 (.bin .add 2 (t 28) (.const (.int .i64 1))),q 7 (.asg 0 (t 29) 2)] false)))))) (.seq (.region 14 [q 39 (.mov (t 6)),q 4 (.asg 1 (t 39) 55),q 5 (.asg 0 (.const (.int .i64 0)) 2)] false) .ret)))))
def spec_MonicPolys_L : Live:=[(0,[0,1]),(1,[0,1]),(2,[]),(3,[0,1]),(4,[]),(5,[0,1]),(6,[]),(7,[0,1]),(8,[0,1,6]),(9,[0,1,6,7]),(10,[0,1,6,7]),(11,[0,1,6,7]),(12,[0,1,6,7,8]),(13,[0,1,6,7,8]),(14,[6]),(100009,[0,1,9]),(100013,[0,1,13]),(100017,[0,1,17]),(100027,[0,1,6,7,27])]
noncomputable def spec_MonicPolys_l1 (a0 : Int) (a1 : Int) (x60 : Int) (x61 : (List (Vec Int 64))) : Option ((Int × (List (Vec Int 64))) ⊕ (List (Vec Int 64))) :=
 (Option.bind (spec_l01Count a0 a1) fun r75=>(if (decide (x60 < r75)) then (Option.bind (spec_l01Of a0 x60) fun r78=>(ifp (0 ≤ a1 ∧ a1 < ((64 : Nat) : Int)) ((ifp ((x61.length + ([(vset r78 a1.toNat 1)] : List (Vec Int 64)).length) * 64 ≤ 140737488355328) ((some (.inl ((IntKind.i64.wrap (x60 + 1),(x61 ++ ([(vset r78 a1.toNat 1)]))))))))))) else (some (.inr x61))))
noncomputable def spec_MonicPolys (a0 : Int) (a1 : Int) : Option ((List (Vec Int 64)) × Int) :=
 (Option.bind (spec_l01Prime a0) fun r1=>(if (!r1) then (some ([],1)) else (Option.bind (spec_l01In a1 0 63) fun r4=>(if (!r4) then (some ([],2)) else (Option.bind (spec_l01Count a0 a1) fun r7=>(if (decide (r7 > 343)) then (some ([],3)) else (Option.bind (α:=(List (Vec Int 64))) ((loopM (fun s : (Int × (List (Vec Int 64)))=>spec_MonicPolys_l1 a0 a1 s.1 s.2) (0,[]))) fun x46=>(some (x46,0)))))))))
theorem spec_MonicPolys_ok (a0 : Int) (a1 : Int) (r : ((List (Vec Int 64)) × Int)) (h : spec_MonicPolys a0 a1 = some r) : Den Try.prog 87 [(i6 a0),(i6 a1)] { r:=(.tuple [(eSA64u8 r.1),(i6 r.2)]) }:=by
 refine den_of (rs:=[(eSA64u8 r.1),(i6 r.2)]) (ac:=spec_MonicPolys_c) (L:=spec_MonicPolys_L) (n:=40) (m:=[(4,1),(6,2),(22,2)]) (c:=Try.f87.body.getD .skip) good Try.func87 (by kernel_rfl) (by kernel_rfl) Try.ntmps87 rfl rfl (by kernel_rfl) rfl rfl ?_
 refine ns ⟨[(0,i6 a0),(1,i6 a1)],[]⟩ ?_
 unfold spec_MonicPolys_c
 refine sr (vp (eSA64u8 ([])) rfl (vp (i6 0) rfl (nk ⟨[(0,i6 a0),(1,i6 a1)],[]⟩ (a_seq (a_block (sr (vp (i6 a0) rfl ?_)))))))
 obtain ⟨r1,hr2,h⟩:=bind_some h
 refine a_call (args:=[(i6 a0)]) (u:=[]) (r:=(.bool r1)) rfl rfl (spec_l01Prime_ok a0 r1 hr2) rfl (vp (.bool (!r1)) rfl (vp (.bool (!r1)) rfl (nk ⟨[(0,i6 a0),(1,i6 a1),(9,.bool (!r1))],[]⟩ ?_)))
 cases hb3 : (!r1)
 ·have h:=ite_f hb3 h
  refine a_cond_f rfl (sr (vp (i6 a1) rfl ?_))
  obtain ⟨r4,hr5,h⟩:=bind_some h
  refine a_call (args:=[(i6 a1),(i6 0),(i6 63)]) (u:=[]) (r:=(.bool r4)) rfl rfl (spec_l01In_ok a1 0 63 r4 hr5) rfl (vp (.bool (!r4)) rfl (vp (.bool (!r4)) rfl (nk ⟨[(0,i6 a0),(1,i6 a1),(13,.bool (!r4))],[]⟩ ?_)))
  cases hb6 : (!r4)
  ·have h:=ite_f hb6 h
   refine a_cond_f rfl (sr (vp (i6 a0) rfl (vp (i6 a1) rfl ?_)))
   obtain ⟨r7,hr8,h⟩:=bind_some h
   refine a_call (args:=[(i6 a0),(i6 a1)]) (u:=[]) (r:=(i6 r7)) rfl rfl (spec_l01Count_ok a0 a1 r7 hr8) rfl (vp (.bool ((decide (r7 > 343)))) rfl (vp (.bool ((decide (r7 > 343)))) rfl (nk ⟨[(0,i6 a0),(1,i6 a1),(17,.bool ((decide (r7 > 343))))],[]⟩ ?_)))
   cases hb9 : (decide (r7 > 343))
   ·have h:=ite_f hb9 h
    refine a_cond_f rfl (a_skip (b_norm (nj ⟨[(0,i6 a0),(1,i6 a1)],[]⟩ (sr (vu (.osl 3200) [(3200,bk (.row 64 (([]).map eVb)))] rfl ⟨(Nat.le_of_ble_eq_true rfl),(Nat.le_of_ble_eq_true rfl),all_nil⟩ rfl (vp (.osl 3200) rfl (nk ⟨[(0,i6 a0),(1,i6 a1),(6,.osl 6)],[(6,bk (.row 64 (([]).map eVb)))]⟩ ?_)))))))
    obtain ⟨y47,hy48,hk49⟩:=bind_some h
    clear h
    refine a_join (emb:=fun (s : (List (Vec Int 64)))=>⟨[(6,.osl 6)],[(6,bk (.row 64 (s.map eVb)))]⟩) (pre:=fun s=>s = y47) ?_ ?_
    ·rintro x46 rfl
     have h:=hk49
     refine ns ⟨[(6,.osl 6)],[(6,bk (.row 64 (x46.map eVb)))]⟩ (sr (vp (.osl 6) rfl (vu (eSA64u8 x46) [(6,bf (.row 64 (x46.map eVb)))] rfl trivial rfl (vp (i6 0) rfl (nx _ rfl (a_ret ?_))))))
     refine ⟨.inr rfl,?_⟩
     rw [Try.results87]
     cases h
     exact ⟨_,_,_,_,_,rfl,trivial,.inl ⟨rfl,.inl rfl⟩,rfl,⟨_,_,_,_,_,rfl,trivial,.inl ⟨rfl,.inl rfl⟩,rfl,rfl⟩⟩
    ·have h:=hy48
     refine sr (vp (i6 0) rfl (nk ⟨[(0,i6 a0),(1,i6 a1),(6,.osl 6),(7,i6 0)],[(6,bk (.row 64 (([]).map eVb)))]⟩ (a_block ?_)))
     refine a_loop (emb:=fun (s : (Int × (List (Vec Int 64))))=>⟨[(0,i6 a0),(1,i6 a1),(6,.osl 6),(7,i6 s.1)],[(6,bk (.row 64 (s.2.map eVb)))]⟩) (body:=(fun s : (Int × (List (Vec Int 64)))=>spec_MonicPolys_l1 a0 a1 s.1 s.2)) (G:=fun q=>some q = some y47) h rfl ?_ (by kernel_rfl)
     rintro X72 ⟨x60,x61⟩ x73 h hX74
     have h : spec_MonicPolys_l1 a0 a1 x60 x61 = some x73:=h
     refine ns ⟨[(0,i6 a0),(1,i6 a1),(6,.osl 6),(7,i6 x60)],[(6,bk (.row 64 (x61.map eVb)))]⟩ (a_seq (sr (vp (i6 x60) rfl (vp (i6 a0) rfl (vp (i6 a1) rfl ?_)))))
     obtain ⟨r75,hr76,h⟩:=bind_some h
     refine a_call (args:=[(i6 a0),(i6 a1)]) (u:=[]) (r:=(i6 r75)) rfl rfl (spec_l01Count_ok a0 a1 r75 hr76) rfl (vp (.bool ((decide (x60 < r75)))) rfl (nk ⟨[(0,i6 a0),(1,i6 a1),(6,.osl 6),(7,i6 x60),(27,.bool ((decide (x60 < r75))))],[(6,bk (.row 64 (x61.map eVb)))]⟩ ?_))
     cases hb77 : (decide (x60 < r75))
     ·have h:=ite_f hb77 h
      refine a_cond_f rfl (a_exit (t_exit ?_))
      cases h
      have h:=hX74
      refine t_exit (b_exit ?_)
      exact j_leaf x61 (Option.some.inj h) (by kernel_rfl)
     ·have h:=ite_t hb77 h
      refine a_cond_t rfl (a_skip (nj ⟨[(0,i6 a0),(1,i6 a1),(6,.osl 6),(7,i6 x60)],[(6,bk (.row 64 (x61.map eVb)))]⟩ (a_seq (a_block (sr (vp (i6 a0) rfl (vp (i6 x60) rfl ?_)))))))
      obtain ⟨r78,hr79,h⟩:=bind_some h
      refine a_call (args:=[(i6 a0),(i6 x60)]) (u:=[]) (r:=(eVb r78)) rfl rfl (spec_l01Of_ok a0 x60 r78 hr79) rfl (vo 1800 (eVb ((vrep 64 (0 : Int)))) rfl rfl (vs (eVb r78) rfl rfl (fun _=>rfl) rfl rfl rfl rfl rfl rfl (nk ⟨[(0,i6 a0),(1,i6 a1),(6,.osl 6),(7,i6 x60),(8,ow 8)],[(6,bk (.row 64 (x61.map eVb))),(8,bk (eVb r78))]⟩ (sr (vp (i6 a1) rfl ?_)))))
      obtain ⟨hc81,h⟩:=ifp_some h
      refine vq (.own 8 [a1.toNat] [a1.toNat * 1]) rfl hc81 ?_
      have hs82 : StOk [a1.toNat] (eVb r78) [a1.toNat * 1] 1 (b8 1) (eVb (vset r78 a1.toNat 1)):=(.arr (y:=1) (vlt r78 hc81) rfl (.nil rfl rfl rfl rfl))
      refine vu .top [(8,bk (eVb (vset r78 a1.toNat 1)))] (st_own (i:=⟨.int .u8,1,1,(.int .u8 0)⟩) rfl rfl (fun _=>rfl) rfl hs82) (hs82.c rfl) rfl (nk ⟨[(0,i6 a0),(1,i6 a1),(6,.osl 6),(7,i6 x60),(8,ow 8)],[(6,bk (.row 64 (x61.map eVb))),(8,bk (eVb (vset r78 a1.toNat 1)))]⟩ (a_region (vp (.osl 6) rfl (vl (eVb (vset r78 a1.toNat 1)) rfl rfl rfl rfl rfl rfl (vq (.sl 64 true (([(vset r78 a1.toNat 1)]).map eVb)) rfl ⟨(Nat.le_of_ble_eq_true rfl),(Nat.le_of_ble_eq_true rfl),(all_cons ⟨(Nat.le_of_ble_eq_true rfl),rfl⟩ all_nil)⟩ ?_)))))
      obtain ⟨hc84,h⟩:=ifp_some h
      refine vu (.osl 4800) [(4800,bk (.row 64 (((x61 ++ ([(vset r78 a1.toNat 1)]))).map eVb))),(6,none)] (app_run (i:=⟨.arr 64 5,64,64,(eVb (vrep 64 (0 : Int)))⟩) (f:=eVb) (l:=x61) (l2:=[(vset r78 a1.toNat 1)]) rfl rfl rfl rfl (fun _=>rfl) rfl rfl) (app_c (f:=eVb) (s:=64) (sz:=64) (by':=64) (u:=[]) (id:=6) hc84 (.inr rfl) rfl rfl rfl) rfl (vp (.osl 4800) rfl (a_nil (b_norm (nj ⟨[(0,i6 a0),(1,i6 a1),(6,.osl 6),(7,i6 x60)],[(6,bk (.row 64 (((x61 ++ ([(vset r78 a1.toNat 1)]))).map eVb)))]⟩ (a_region (vp (i6 x60) rfl (vp (i6 (IntKind.i64.wrap (x60 + 1))) rfl (vp (i6 (IntKind.i64.wrap (x60 + 1))) rfl (a_nil ?_)))))))))
      cases h
      exact a_again (by kernel_rfl) hX74
   ·have h:=ite_t hb9 h
    refine a_cond_t rfl (sr (vp (eSA64u8 ([])) rfl (vp (i6 3) rfl (nx _ rfl (a_ret (b_ret (t_ret ?_)))))))
    refine ⟨.inr rfl,?_⟩
    rw [Try.results87]
    cases h
    exact ⟨_,_,_,_,_,rfl,trivial,.inl ⟨rfl,.inl rfl⟩,rfl,⟨_,_,_,_,_,rfl,trivial,.inl ⟨rfl,.inl rfl⟩,rfl,rfl⟩⟩
  ·have h:=ite_t hb6 h
   refine a_cond_t rfl (sr (vp (eSA64u8 ([])) rfl (vp (i6 2) rfl (nx _ rfl (a_ret (b_ret (t_ret ?_)))))))
   refine ⟨.inr rfl,?_⟩
   rw [Try.results87]
   cases h
   exact ⟨_,_,_,_,_,rfl,trivial,.inl ⟨rfl,.inl rfl⟩,rfl,⟨_,_,_,_,_,rfl,trivial,.inl ⟨rfl,.inl rfl⟩,rfl,rfl⟩⟩
 ·have h:=ite_t hb3 h
  refine a_cond_t rfl (sr (vp (eSA64u8 ([])) rfl (vp (i6 1) rfl (nx _ rfl (a_ret (b_ret (t_ret ?_)))))))
  refine ⟨.inr rfl,?_⟩
  rw [Try.results87]
  cases h
  exact ⟨_,_,_,_,_,rfl,trivial,.inl ⟨rfl,.inl rfl⟩,rfl,⟨_,_,_,_,_,rfl,trivial,.inl ⟨rfl,.inl rfl⟩,rfl,rfl⟩⟩
def spec_DrawPowerOf_c : ACode:=(.seq (.region 0 [q 2 (.asg 0 (.const (.int .i64 0)) 2),q 3 (.alloc 25),q 4 (.asg 0 (.const (.int .i64 0)) 2)] false) (.seq (.region 1 [q 8 (.mov (t 0)),q 9 (.call 0 (.func 116) [(t 8)]),q 5 (.asg 0 (t 9) 96)] false) (.seq (.region 2 [q 11 (.mov (t 5)),q 12 (.call 1 (.func 115) [(t 11)]),q 10 (.mov (t 12)),q 13 (.extract (t 10) 0),q 14 (.extract (t 10) 1),q 7 (.alloc 25),q 6 (.asg 0 (t 13) 2),⟨none,.store 25 (t 7) (t 14),none,[]⟩] false) (.seq (.seq (.region 3 [q 15 (.mov (t 5)),q 16 (.call 1 (.func 123) [(t 15),(.const (.int .i64 3))]),q 17 (.bin .eql 2 (t 16) (.const (.int .i64 0))),q 18 (.mov (t 17)),⟨some 19,.mov (t 6),some (18,true),[]⟩,⟨some 20,.call 0 (.func 168) [(t 19)],some (18,true),[]⟩,q 21 (.pick (t 18) (t 20) (.const (.bool false)))] false) (.cond (t 21) (.region 4 [q 22 (.mov (t 5)),q 23 (.mov (t 6)),q 24 (.call 1 (.func 155) [(t 22),(t 23),(.const (.int .i64 1))]),⟨none,.store 25 (t 7) (t 24),none,[]⟩] false) .skip)) (.seq (.region 5 [q 25 (.mov (t 6)),q 26 (.load 25 (t 7)),q 27 (.mov (t 5)),q 28 (.mov (t 5)),⟨some 29,.call 1 (.func 123) [(t 28),(.const (.int .i64 20))],none,[3]⟩,q 30 (.mov (t 5)),⟨some 31,.call 1 (.func 123) [(t 30),(.const (.int .i64 70))],none,[5,4]⟩,⟨some 32,.bslice 0 59 9 [(0,.const (.int .i64 0)),(1,.const (.int .i64 1)),(2,.const (.int .i64 2)),(3,.const (.int .i64 3)),(4,t 29),(5,t 31),(6,.const (.int .i64 1000000000000)),(7,.const (.int .i64 1000000000001)),(8,.const (.int .i64 (-1)))],none,[4,6]⟩,⟨some 33,.call 1 (.func 122) [(t 27),(t 32)],none,[2,7,6]⟩,⟨some 2,.asg 0 (t 25) 2,none,[0,8,0]⟩,⟨none,.store 25 (t 3) (t 26),none,[1,9,0,1,9]⟩,⟨some 4,.asg 0 (t 33) 2,none,[8,10,0,1,2,3,4,5,6,7,8,9,10]⟩] true) .ret)))))
def spec_DrawPowerOf_L : Live:=[(0,[0]),(1,[0,3]),(2,[3,5]),(3,[3,5,6,7]),(4,[3,5,6,7]),(5,[3,5,6,7]),(100021,[3,5,6,7,21])]
noncomputable def spec_DrawPowerOf (a0 : (List Int)) : Option (Int × (Vec Int 64) × Int) :=
 (Option.bind (spec_l01From a0) fun r1=>(Option.bind (spec_l01Spoil_of_src r1) fun r3=>(Option.bind (α:=(((List Int) × Int × Int) × (Vec Int 64))) ((Option.bind (α:=(Bool × ((List Int) × Int × Int))) ((Option.bind (spec_l01Next_of_src r3.2.2 3) fun r45=>(if (r45.1 == 0) then (Option.bind (spec_l01Prime r3.1) fun r49=>(some (r49,r45.2))) else (some (false,r45.2))))) fun ⟨x40,x41⟩=>(if x40 then (Option.bind (spec_l01Draw_of_src x41 r3.1 1) fun r52=>(some (r52.2,r52.1))) else (some (x41,r3.2.1))))) fun ⟨x29,x30⟩=>(Option.bind (spec_l01Next_of_src x29 20) fun r68=>(Option.bind (spec_l01Next_of_src r68.2 70) fun r71=>(Option.bind (spec_l01Pick_of_src r71.2 ([0,1,2,3,r68.1,r71.1,1000000000000,1000000000001,-1])) fun r74=>(some (r3.1,x30,r74.1))))))))
theorem spec_DrawPowerOf_ok (a0 : (List Int)) (r : (Int × (Vec Int 64) × Int)) (h : spec_DrawPowerOf a0 = some r) : Den Try.prog 88 [(eSu8 a0)] { r:=(.tuple [(i6 r.1),(eVb r.2.1),(i6 r.2.2)]) }:=by
 refine den_of (rs:=[(i6 r.1),(eVb r.2.1),(i6 r.2.2)]) (ac:=spec_DrawPowerOf_c) (L:=spec_DrawPowerOf_L) (n:=34) (m:=[(12,1),(16,1),(24,1),(29,1),(31,1),(33,1)]) (c:=Try.f88.body.getD .skip) good Try.func88 (by kernel_rfl) (by kernel_rfl) Try.ntmps88 rfl rfl (by kernel_rfl) rfl rfl ?_
 refine ns ⟨[(0,eSu8 a0)],[]⟩ ?_
 unfold spec_DrawPowerOf_c
 refine sr (vp (i6 0) rfl (vo 1300 (eVb ((vrep 64 (0 : Int)))) rfl rfl (vp (i6 0) rfl (nk ⟨[(0,eSu8 a0),(3,ow 3)],[(3,bk (eVb ((vrep 64 (0 : Int)))))]⟩ (sr (vp (eSu8 a0) rfl ?_))))))
 obtain ⟨r1,hr2,h⟩:=bind_some h
 refine a_callF (args:=[(eSu8 a0)]) (u:=[]) (u2:=[]) (r:=(ow 2000000)) (fs:=[(0,[eT_Su8_i64_u64_Z r1])]) rfl rfl (spec_l01From_ok a0 r1 hr2) rfl rfl rfl (.inl rfl) rfl (vp (ow 1900) rfl (nk ⟨[(3,ow 3),(5,ow 5)],[(3,bk (eVb ((vrep 64 (0 : Int))))),(5,bk (eT_Su8_i64_u64_Z r1))]⟩ (sr (vp (ow 5) rfl ?_))))
 obtain ⟨r3,hr4,h⟩:=bind_some h
 refine a_callM (args:=[(.mutp (eT_Su8_i64_u64_Z r1))]) (i:=0) (id:=5) (r:=(.tuple [(i6 r3.1),(eVb r3.2.1)])) (c:=(eT_Su8_i64_u64_Z r3.2.2)) rfl rfl (spec_l01Spoil_of_src_ok r1 r3 hr4) rfl trivial (vp (.tuple [(i6 r3.1),(eVb r3.2.1)]) rfl (vb (i6 r3.1) rfl rfl (vb (eVb r3.2.1) rfl rfl (vo 1700 (eVb ((vrep 64 (0 : Int)))) rfl rfl (vp (i6 r3.1) rfl (vs (eVb r3.2.1) rfl rfl (fun _=>rfl) rfl rfl rfl rfl rfl rfl (nk ⟨[(3,ow 3),(5,ow 5),(6,i6 r3.1),(7,ow 7)],[(3,bk (eVb ((vrep 64 (0 : Int))))),(5,bk (eT_Su8_i64_u64_Z r3.2.2)),(7,bk (eVb r3.2.1))]⟩ ?_)))))))
 obtain ⟨y31,hy32,hk33⟩:=bind_some h
 clear h
 refine a_join (emb:=fun (s : (((List Int) × Int × Int) × (Vec Int 64)))=>⟨[(3,ow 3),(5,ow 5),(6,i6 r3.1),(7,ow 7)],[(3,bk (eVb ((vrep 64 (0 : Int))))),(5,bk (eT_Su8_i64_u64_Z s.1)),(7,bk (eVb s.2))]⟩) (pre:=fun s=>s = y31) ?_ ?_
 ·rintro ⟨x29,x30⟩ rfl
  have h:=hk33
  refine ns ⟨[(3,ow 3),(5,ow 5),(6,i6 r3.1),(7,ow 7)],[(3,bk (eVb ((vrep 64 (0 : Int))))),(5,bk (eT_Su8_i64_u64_Z x29)),(7,bk (eVb x30))]⟩ (a_seq (a_draw [⟨[],[],[],[]⟩,⟨[7],[],[],[]⟩,⟨[],[],[5],[]⟩,⟨[],[],[5],[]⟩,⟨[5],[5],[],[3]⟩,⟨[],[],[5],[]⟩,⟨[5],[5],[],[3,4,5]⟩,⟨[],[],[],[3,4,5,6]⟩,⟨[5],[5],[],[2,3,4,5,6,7]⟩,⟨[],[],[],[0,2,3,4,5,6,7,8]⟩,⟨[3],[3],[],[0,1,2,3,4,5,6,7,8,9]⟩,⟨[],[],[],[0,1,2,3,4,5,6,7,8,9,10]⟩] (by kernel_rfl) (dj (i6 r3.1) rfl (d_cons (vl (eVb x30) rfl rfl rfl rfl rfl rfl (d_next (by kernel_rfl) (dj (ow 5) rfl (dj (ow 5) rfl (d_cons ?_)))))))))
  obtain ⟨r68,hr69,h⟩:=bind_some h
  refine a_callM (args:=[(.mutp (eT_Su8_i64_u64_Z x29)),(i6 20)]) (i:=0) (id:=5) (r:=(i6 r68.1)) (c:=(eT_Su8_i64_u64_Z r68.2)) rfl rfl (spec_l01Next_of_src_ok x29 20 r68 hr69) rfl trivial (d_next (by kernel_rfl) (dj (ow 5) rfl (d_cons ?_)))
  obtain ⟨r71,hr72,h⟩:=bind_some h
  refine a_callM (args:=[(.mutp (eT_Su8_i64_u64_Z r68.2)),(i6 70)]) (i:=0) (id:=5) (r:=(i6 r71.1)) (c:=(eT_Su8_i64_u64_Z r71.2)) rfl rfl (spec_l01Next_of_src_ok r68.2 70 r71 hr72) rfl trivial (d_next (by kernel_rfl) (d_cons (vq (.sl 1 true (([0,1,2,3,r68.1,r71.1,1000000000000,1000000000001,-1]).map (AV.int .i64))) rfl ⟨(Nat.le_of_ble_eq_true rfl),(Nat.le_of_ble_eq_true rfl),(all_cons ⟨(Nat.le_of_ble_eq_true rfl),rfl⟩ (all_cons ⟨(Nat.le_of_ble_eq_true rfl),rfl⟩ (all_cons ⟨(Nat.le_of_ble_eq_true rfl),rfl⟩ (all_cons ⟨(Nat.le_of_ble_eq_true rfl),rfl⟩ (all_cons ⟨(Nat.le_of_ble_eq_true rfl),rfl⟩ (all_cons ⟨(Nat.le_of_ble_eq_true rfl),rfl⟩ (all_cons ⟨(Nat.le_of_ble_eq_true rfl),rfl⟩ (all_cons ⟨(Nat.le_of_ble_eq_true rfl),rfl⟩ (all_cons ⟨(Nat.le_of_ble_eq_true rfl),rfl⟩ all_nil)))))))))⟩ (d_next (by kernel_rfl) (d_cons ?_)))))
  obtain ⟨r74,hr75,h⟩:=bind_some h
  refine a_callM (args:=[(.mutp (eT_Su8_i64_u64_Z r71.2)),(.sl 1 true (([0,1,2,3,r68.1,r71.1,1000000000000,1000000000001,-1]).map (AV.int .i64)))]) (i:=0) (id:=5) (r:=(i6 r74.1)) (c:=(eT_Su8_i64_u64_Z r74.2)) rfl rfl (Den.argsM (spec_l01Pick_of_src_ok r71.2 ([0,1,2,3,r68.1,r71.1,1000000000000,1000000000001,-1]) r74 hr75) rfl rfl (.cons (.loose _) .nil)) rfl trivial (d_next (by kernel_rfl) (dj (i6 r3.1) rfl (d_cons (vs (eVb x30) rfl rfl (fun _=>rfl) rfl rfl rfl rfl rfl rfl (d_next (by kernel_rfl) (dj (i6 r74.1) rfl (d_nil (a_next rfl (a_ret ?_)))))))))
  have hl78 : LdOk [] (eVb x30) [] 64 true (eVb x30):=(.nil rfl rfl rfl)
  refine ⟨.inr rfl,?_⟩
  rw [Try.results88]
  cases h
  exact ⟨_,_,_,_,_,rfl,trivial,.inl ⟨rfl,.inl rfl⟩,rfl,⟨_,_,_,_,_,ld_own (i:=⟨.arr 64 5,64,64,(eVb (vrep 64 (0 : Int)))⟩) rfl rfl rfl hl78,hl78.c,.inl ⟨rfl,.inl rfl⟩,rfl,⟨_,_,_,_,_,rfl,trivial,.inl ⟨rfl,.inl rfl⟩,rfl,rfl⟩⟩⟩
 ·have h:=hy32
  obtain ⟨y42,hy43,hk44⟩:=bind_some h
  clear h
  refine a_join (emb:=fun (s : (Bool × ((List Int) × Int × Int)))=>⟨[(3,ow 3),(5,ow 5),(6,i6 r3.1),(7,ow 7),(21,.bool s.1)],[(3,bk (eVb ((vrep 64 (0 : Int))))),(5,bk (eT_Su8_i64_u64_Z s.2)),(7,bk (eVb r3.2.1))]⟩) (pre:=fun s=>s = y42) ?_ ?_
  ·rintro ⟨x40,x41⟩ rfl
   have h:=hk44
   refine ns ⟨[(3,ow 3),(5,ow 5),(6,i6 r3.1),(7,ow 7),(21,.bool x40)],[(3,bk (eVb ((vrep 64 (0 : Int))))),(5,bk (eT_Su8_i64_u64_Z x41)),(7,bk (eVb r3.2.1))]⟩ ?_
   cases hb51 : x40
   ·have h:=ite_f hb51 h
    refine a_cond_f rfl (a_skip ?_)
    exact j_leaf (x41,r3.2.1) (Option.some.inj h) (by kernel_rfl)
   ·have h:=ite_t hb51 h
    refine a_cond_t rfl (a_region (vp (ow 5) rfl (vp (i6 r3.1) rfl ?_)))
    obtain ⟨r52,hr53,h⟩:=bind_some h
    refine a_callM (args:=[(.mutp (eT_Su8_i64_u64_Z x41)),(i6 r3.1),(i6 1)]) (i:=0) (id:=5) (r:=(eVb r52.1)) (c:=(eT_Su8_i64_u64_Z r52.2)) rfl rfl (spec_l01Draw_of_src_ok x41 r3.1 1 r52 hr53) rfl trivial (vs (eVb r52.1) rfl rfl (fun _=>rfl) rfl rfl rfl rfl rfl rfl (a_nil ?_))
    exact j_leaf (r52.2,r52.1) (Option.some.inj h) (by kernel_rfl)
  ·have h:=hy43
   refine a_region (vp (ow 5) rfl ?_)
   obtain ⟨r45,hr46,h⟩:=bind_some h
   refine a_callM (args:=[(.mutp (eT_Su8_i64_u64_Z r3.2.2)),(i6 3)]) (i:=0) (id:=5) (r:=(i6 r45.1)) (c:=(eT_Su8_i64_u64_Z r45.2)) rfl rfl (spec_l01Next_of_src_ok r3.2.2 3 r45 hr46) rfl trivial (vp (.bool (r45.1 == 0)) rfl (vp (.bool (r45.1 == 0)) rfl ?_))
   cases hb48 : (r45.1 == 0)
   ·have h:=ite_f hb48 h
    refine a_gskip rfl (a_gskip rfl (vp (.bool false) rfl (a_nil ?_)))
    exact j_leaf (false,r45.2) (Option.some.inj h) (by kernel_rfl)
   ·have h:=ite_t hb48 h
    refine gp (i6 r3.1) rfl rfl ?_
    obtain ⟨r49,hr50,h⟩:=bind_some h
    refine a_gcall rfl (args:=[(i6 r3.1)]) (u:=[]) (r:=(.bool r49)) rfl rfl (spec_l01Prime_ok r3.1 r49 hr50) rfl (vp (.bool r49) rfl (a_nil ?_))
    exact j_leaf (r49,r45.2) (Option.some.inj h) (by kernel_rfl)
def spec_PowerOf_c : ACode:=(.seq (.region 0 [q 4 (.box 25 (t 1)),q 6 (.alloc 25),q 7 (.asg 0 (.const (.int .i64 0)) 2)] false) (.seq (.seq (.region 1 [q 15 (.mov (t 0)),q 16 (.load 25 (t 4)),q 17 (.bslice 0 55 1 [(0,t 16)]),q 18 (.call 0 (.func 104) [(t 15),(t 17)]),q 8 (.asg 0 (t 18) 2)] false) (.seq (.region 2 [q 19 (.mov (t 8)),q 20 (.bin .neq 2 (t 19) (.const (.int .i64 0)))] false) (.cond (t 20) (.seq (.region 3 [q 21 (.build 25 []),q 22 (.mov (t 8)),⟨none,.store 25 (t 6) (t 21),none,[]⟩,q 7 (.asg 0 (t 22) 2)] false) .ret) .skip))) (.seq (.region 4 [q 23 (.load 25 (t 4)),q 24 (.call 0 (.func 112) [(t 23)]),q 9 (.asg 0 (t 24) 2)] false) (.seq (.block 0 (.seq (.region 5 [q 26 (.mov (t 2)),q 27 (.call 0 (.func 160) [(t 26),(.const (.int .i64 0)),(.const (.int .i64 1000000000000))]),q 28 (.un .not (t 27)),q 25 (.asg 0 (t 28) 4)] false) (.cond (t 25) (.seq (.region 6 [q 29 (.build 25 []),⟨none,.store 25 (t 6) (t 29),none,[]⟩,q 7 (.asg 0 (.const (.int .i64 2)) 2)] false) .ret) (.seq (.region 7 [q 31 (.mov (t 2)),q 32 (.bin .eql 2 (t 31) (.const (.int .i64 0))),q 30 (.asg 0 (t 32) 4)] false) (.cond (t 30) (.seq (.region 8 [q 33 (.call 0 (.func 133) []),⟨none,.store 25 (t 6) (t 33),none,[]⟩,q 7 (.asg 0 (.const (.int .i64 0)) 2)] false) .ret) (.seq (.region 9 [q 35 (.mov (t 9)),q 36 (.bin .lss 2 (t 35) (.const (.int .i64 0))),q 34 (.asg 0 (t 36) 4)] false) (.cond (t 34) (.seq (.region 10 [q 37 (.build 25 []),⟨none,.store 25 (t 6) (t 37),none,[]⟩,q 7 (.asg 0 (.const (.int .i64 0)) 2)] false) .ret) (.seq (.region 11 [q 39 (.mov (t 9)),q 40 (.bin .eql 2 (t 39) (.const (.int .i64 0))),q 38 (.asg 0 (t 40) 4)] false) (.cond (t 38) (.seq (.region 12 [q 10 (.asg 0 (.const (.int .i64 1)) 2)] false) (.seq (.seq (.region 13 [q 41 (.mov (t 2)),q 42 (.mov (t 0)),q 43 (.bin .sub 2 (t 42) (.const (.int .i64 1))),q 44 (.bin .rem 2 (t 41) (t 43)),q 11 (.asg 0 (t 44) 2)] false) (.block 1 (.loop (.seq (.seq (.region 14 [q 45 (.mov (t 11)),q 46 (.bin .gtr 2 (t 45) (.const (.int .i64 0)))] false) (.cond (t 46) .skip (.exit 1))) (.seq (.block 2 (.region 16 [q 49 (.mov (t 10)),q 50 (.indexAddr 25 (t 4) (.const (.int .i64 0))),q 51 (.load 5 (t 50)),q 52 (.conv 5 2 (t 51)),q 53 (.bin .mul 2 (t 49) (t 52)),q 54 (.mov (t 0)),q 55 (.bin .rem 2 (t 53) (t 54)),q 10 (.asg 0 (t 55) 2)] false)) (.region 15 [q 47 (.mov (t 11)),q 48 (.bin .sub 2 (t 47) (.const (.int .i64 1))),q 11 (.asg 0 (t 48) 2)] false)))))) (.seq (.region 17 [q 56 (.mov (t 10)),q 57 (.conv 2 5 (t 56)),q 58 (.build 25 [(0,t 57)]),⟨none,.store 25 (t 6) (t 58),none,[]⟩,q 7 (.asg 0 (.const (.int .i64 0)) 2)] false) .ret))) (.seq (.region 18 [q 60 (.mov (t 2)),q 61 (.bin .gtr 2 (t 60) (.const (.int .i64 63))),q 62 (.mov (t 61)),⟨some 63,.mov (t 9),some (62,false),[]⟩,⟨some 64,.mov (t 2),some (62,false),[]⟩,⟨some 65,.bin .mul 2 (t 63) (t 64),some (62,false),[]⟩,⟨some 66,.bin .gtr 2 (t 65) (.const (.int .i64 63)),some (62,false),[]⟩,q 67 (.pick (t 62) (.const (.bool true)) (t 66)),q 59 (.asg 0 (t 67) 4)] false) (.cond (t 59) (.seq (.region 19 [q 68 (.build 25 []),⟨none,.store 25 (t 6) (t 68),none,[]⟩,q 7 (.asg 0 (.const (.int .i64 3)) 2)] false) .ret) .skip))))))))))) (.seq (.region 20 [q 69 (.call 0 (.func 133) []),q 12 (.alloc 25),⟨none,.store 25 (t 12) (t 69),none,[]⟩] false) (.seq (.block 3 (.loop (.seq (.seq (.region 21 [q 70 (.mov (t 2)),q 71 (.bin .gtr 2 (t 70) (.const (.int .i64 0)))] false) (.cond (t 71) .skip (.exit 3))) (.seq (.block 4 (.seq (.region 23 [q 75 (.mov (t 0)),q 76 (.load 25 (t 12)),q 77 (.load 25 (t 4)),q 78 (.call 0 (.func 105) [(t 75),(t 76),(t 77)]),q 74 (.mov (t 78)),q 79 (.extract (t 74) 0),q 80 (.extract (t 74) 1),q 13 (.alloc 25),⟨none,.store 25 (t 13) (t 79),none,[]⟩,q 14 (.asg 0 (t 80) 4)] false) (.region 24 [q 81 (.load 25 (t 13)),⟨none,.store 25 (t 12) (t 81),none,[]⟩] false))) (.region 22 [q 72 (.mov (t 2)),q 73 (.bin .sub 2 (t 72) (.const (.int .i64 1))),q 2 (.asg 0 (t 73) 2)] false))))) (.seq (.region 25 [q 82 (.load 25 (t 12)),⟨none,.store 25 (t 6) (t 82),none,[]⟩,q 7 (.asg 0 (.const (.int .i64 0)) 2)] false) .ret)))))))
def spec_PowerOf_L : Live:=[(0,[0,1,2]),(1,[0,2,4,6]),(2,[0,2,4,6,8]),(3,[6,8]),(4,[0,2,4,6]),(5,[0,2,4,6,9]),(6,[6]),(7,[0,2,4,6,9]),(8,[6]),(9,[0,2,4,6,9]),(10,[6]),(11,[0,2,4,6,9]),(12,[0,2,4,6]),(13,[0,2,4,6,10]),(14,[0,4,6,10,11]),(15,[0,4,6,10,11]),(16,[0,4,6,10,11]),(17,[6,10]),(18,[0,2,4,6,9]),(19,[6]),(20,[0,2,4,6]),(21,[0,2,4,6,12]),(22,[0,2,4,6,12]),(23,[0,2,4,6,12]),(24,[0,2,4,6,12,13]),(25,[6,12]),(100020,[0,2,4,6,8,20]),(100025,[0,2,4,6,9,25]),(100030,[0,2,4,6,9,30]),(100034,[0,2,4,6,9,34]),(100038,[0,2,4,6,9,38]),(100046,[0,4,6,10,11,46]),(100059,[0,2,4,6,59]),(100071,[0,2,4,6,12,71])]
noncomputable def spec_PowerOf_l1 (a0 : Int) (a1 : (Vec Int 64)) (x66 : Int) (x67 : (Vec Int 64)) : Option ((Int × (Vec Int 64)) ⊕ (Vec Int 64)) :=
 (if (decide (x66 > 0)) then (Option.bind (spec_l01Times a0 x67 a1) fun r82=>(some (.inl ((IntKind.i64.wrap (x66 - 1),r82.1))))) else (some (.inr x67)))
noncomputable def spec_PowerOf_l2 (a1 : (Vec Int 64)) (a0 : Int) (x133 : Int) (x134 : Int) : Option ((Int × Int) ⊕ Int) :=
 (if (decide (x134 > 0)) then (ifp (0 ≤ (0 : Int) ∧ (0 : Int) < ((64 : Nat) : Int)) ((letp (IntKind.i64.wrap (x133 * (IntKind.i64.wrap ((rd a1.1 (0 : Int).toNat))))) fun x147=>(ifp (a0 ≠ 0) ((some (.inl ((Int.tmod x147 a0,IntKind.i64.wrap (x134 - 1)))))))))) else (some (.inr x133)))
noncomputable def spec_PowerOf (a0 : Int) (a1 : (Vec Int 64)) (a2 : Int) : Option ((Vec Int 64) × Int) :=
 (Option.bind (spec_l01Code a0 ([a1])) fun r2=>(if (r2 != 0) then (some (((vrep 64 (0 : Int)),r2))) else (Option.bind (spec_l01Deg a1) fun r6=>(Option.bind (spec_l01In a2 0 1000000000000) fun r8=>(if (!r8) then (some (((vrep 64 (0 : Int)),2))) else (if (a2 == 0) then (Option.bind (spec_l01One) fun r155=>(some (r155,0))) else (if (decide (r6 < 0)) then (some (((vrep 64 (0 : Int)),0))) else (if (r6 == 0) then (Option.bind (α:=Int) ((ifp ((IntKind.i64.wrap (a0 - 1)) ≠ 0) ((loopM (fun s : (Int × Int)=>spec_PowerOf_l2 a1 a0 s.1 s.2) (1,Int.tmod a2 (IntKind.i64.wrap (a0 - 1))))))) fun x120=>(some (((vset (vrep 64 (0 : Int)) 0 (IntKind.u8.wrap x120)),0)))) else (Option.bind (α:=Bool) ((if (decide (a2 > 63)) then (some true) else (some ((decide ((IntKind.i64.wrap (r6 * a2)) > 63)))))) fun x15=>(if x15 then (some (((vrep 64 (0 : Int)),3))) else (Option.bind (spec_l01One) fun r21=>(Option.bind (α:=(Vec Int 64)) ((loopM (fun s : (Int × (Vec Int 64))=>spec_PowerOf_l1 a0 a1 s.1 s.2) (a2,r21))) fun x54=>(some (x54,0))))))))))))))
theorem spec_PowerOf_ok (a0 : Int) (a1 : (Vec Int 64)) (a2 : Int) (r : ((Vec Int 64) × Int)) (h : spec_PowerOf a0 a1 a2 = some r) : Den Try.prog 89 [(i6 a0),(eVb a1),(i6 a2)] { r:=(.tuple [(eVb r.1),(i6 r.2)]) }:=by
 refine den_of (rs:=[(eVb r.1),(i6 r.2)]) (ac:=spec_PowerOf_c) (L:=spec_PowerOf_L) (n:=83) (m:=[]) (c:=Try.f89.body.getD .skip) good Try.func89 (by kernel_rfl) (by kernel_rfl) Try.ntmps89 rfl rfl (by kernel_rfl) rfl rfl ?_
 refine ns ⟨[(0,i6 a0),(1,eVb a1),(2,i6 a2)],[]⟩ ?_
 unfold spec_PowerOf_c
 refine sr (vo 1400 (eVb a1) rfl rfl (vo 1600 (eVb ((vrep 64 (0 : Int)))) rfl rfl (vp (i6 0) rfl (nk ⟨[(0,i6 a0),(2,i6 a2),(4,ow 4),(6,ow 6)],[(4,bk (eVb a1)),(6,bk (eVb ((vrep 64 (0 : Int)))))]⟩ (a_seq (sr (vp (i6 a0) rfl (vl (eVb a1) rfl rfl rfl rfl rfl rfl (vq (.sl 64 true (([a1]).map eVb)) rfl ⟨(Nat.le_of_ble_eq_true rfl),(Nat.le_of_ble_eq_true rfl),(all_cons ⟨(Nat.le_of_ble_eq_true rfl),rfl⟩ all_nil)⟩ ?_)))))))))
 obtain ⟨r2,hr3,h⟩:=bind_some h
 refine a_call (args:=[(i6 a0),(.sl 64 true (([a1]).map eVb))]) (u:=[]) (r:=(i6 r2)) rfl rfl (Den.args (spec_l01Code_ok a0 ([a1]) r2 hr3) rfl rfl (.cons (.refl _) (.cons (.loose _) .nil))) rfl (vp (i6 r2) rfl (nk ⟨[(0,i6 a0),(2,i6 a2),(4,ow 4),(6,ow 6),(8,i6 r2)],[(4,bk (eVb a1)),(6,bk (eVb ((vrep 64 (0 : Int)))))]⟩ (sr (vp (i6 r2) rfl (vp (.bool (r2 != 0)) rfl (nk ⟨[(0,i6 a0),(2,i6 a2),(4,ow 4),(6,ow 6),(8,i6 r2),(20,.bool (r2 != 0))],[(4,bk (eVb a1)),(6,bk (eVb ((vrep 64 (0 : Int)))))]⟩ ?_))))))
 cases hb4 : (r2 != 0)
 ·have h:=ite_f hb4 h
  refine a_cond_f rfl (a_skip (nj ⟨[(0,i6 a0),(2,i6 a2),(4,ow 4),(6,ow 6)],[(4,bk (eVb a1)),(6,bk (eVb ((vrep 64 (0 : Int)))))]⟩ (sr (vl (eVb a1) rfl rfl rfl rfl rfl rfl ?_))))
  obtain ⟨r6,hr7,h⟩:=bind_some h
  refine a_call (args:=[(eVb a1)]) (u:=[]) (r:=(i6 r6)) rfl rfl (spec_l01Deg_ok a1 r6 hr7) rfl (vp (i6 r6) rfl (nk ⟨[(0,i6 a0),(2,i6 a2),(4,ow 4),(6,ow 6),(9,i6 r6)],[(4,bk (eVb a1)),(6,bk (eVb ((vrep 64 (0 : Int)))))]⟩ (a_seq (a_block (sr (vp (i6 a2) rfl ?_))))))
  obtain ⟨r8,hr9,h⟩:=bind_some h
  refine a_call (args:=[(i6 a2),(i6 0),(i6 1000000000000)]) (u:=[]) (r:=(.bool r8)) rfl rfl (spec_l01In_ok a2 0 1000000000000 r8 hr9) rfl (vp (.bool (!r8)) rfl (vp (.bool (!r8)) rfl (nk ⟨[(0,i6 a0),(2,i6 a2),(4,ow 4),(6,ow 6),(9,i6 r6),(25,.bool (!r8))],[(4,bk (eVb a1)),(6,bk (eVb ((vrep 64 (0 : Int)))))]⟩ ?_)))
  cases hb10 : (!r8)
  ·have h:=ite_f hb10 h
   refine a_cond_f rfl (sr (vp (i6 a2) rfl (vp (.bool (a2 == 0)) rfl (vp (.bool (a2 == 0)) rfl (nk ⟨[(0,i6 a0),(2,i6 a2),(4,ow 4),(6,ow 6),(9,i6 r6),(30,.bool (a2 == 0))],[(4,bk (eVb a1)),(6,bk (eVb ((vrep 64 (0 : Int)))))]⟩ ?_)))))
   cases hb11 : (a2 == 0)
   ·have h:=ite_f hb11 h
    refine a_cond_f rfl (sr (vp (i6 r6) rfl (vp (.bool ((decide (r6 < 0)))) rfl (vp (.bool ((decide (r6 < 0)))) rfl (nk ⟨[(0,i6 a0),(2,i6 a2),(4,ow 4),(6,ow 6),(9,i6 r6),(34,.bool ((decide (r6 < 0))))],[(4,bk (eVb a1)),(6,bk (eVb ((vrep 64 (0 : Int)))))]⟩ ?_)))))
    cases hb12 : (decide (r6 < 0))
    ·have h:=ite_f hb12 h
     refine a_cond_f rfl (sr (vp (i6 r6) rfl (vp (.bool (r6 == 0)) rfl (vp (.bool (r6 == 0)) rfl (nk ⟨[(0,i6 a0),(2,i6 a2),(4,ow 4),(6,ow 6),(9,i6 r6),(38,.bool (r6 == 0))],[(4,bk (eVb a1)),(6,bk (eVb ((vrep 64 (0 : Int)))))]⟩ ?_)))))
     cases hb13 : (r6 == 0)
     ·have h:=ite_f hb13 h
      refine a_cond_f rfl ?_
      obtain ⟨y16,hy17,hk18⟩:=bind_some h
      clear h
      refine a_join (emb:=fun (s : Bool)=>⟨[(0,i6 a0),(2,i6 a2),(4,ow 4),(6,ow 6),(59,.bool s)],[(4,bk (eVb a1)),(6,bk (eVb ((vrep 64 (0 : Int)))))]⟩) (pre:=fun s=>s = y16) ?_ ?_
      ·rintro x15 rfl
       have h:=hk18
       refine ns ⟨[(0,i6 a0),(2,i6 a2),(4,ow 4),(6,ow 6),(59,.bool x15)],[(4,bk (eVb a1)),(6,bk (eVb ((vrep 64 (0 : Int)))))]⟩ ?_
       cases hb20 : x15
       ·have h:=ite_f hb20 h
        refine a_cond_f rfl (a_skip (b_norm (nj ⟨[(0,i6 a0),(2,i6 a2),(4,ow 4),(6,ow 6)],[(4,bk (eVb a1)),(6,bk (eVb ((vrep 64 (0 : Int)))))]⟩ (sr ?_))))
        obtain ⟨r21,hr22,h⟩:=bind_some h
        refine a_call (args:=[]) (u:=[]) (r:=(eVb r21)) rfl rfl (spec_l01One_ok r21 hr22) rfl (vo 2200 (eVb ((vrep 64 (0 : Int)))) rfl rfl (vs (eVb r21) rfl rfl (fun _=>rfl) rfl rfl rfl rfl rfl rfl (nk ⟨[(0,i6 a0),(2,i6 a2),(4,ow 4),(6,ow 6),(12,ow 12)],[(4,bk (eVb a1)),(6,bk (eVb ((vrep 64 (0 : Int))))),(12,bk (eVb r21))]⟩ ?_)))
        obtain ⟨y55,hy56,hk57⟩:=bind_some h
        clear h
        refine a_join (emb:=fun (s : (Vec Int 64))=>⟨[(6,ow 6),(12,ow 12)],[(6,bk (eVb ((vrep 64 (0 : Int))))),(12,bk (eVb s))]⟩) (pre:=fun s=>s = y55) ?_ ?_
        ·rintro x54 rfl
         have h:=hk57
         refine ns ⟨[(6,ow 6),(12,ow 12)],[(6,bk (eVb ((vrep 64 (0 : Int))))),(12,bk (eVb x54))]⟩ (sr (vl (eVb x54) rfl rfl rfl rfl rfl rfl (vs (eVb x54) rfl rfl (fun _=>rfl) rfl rfl rfl rfl rfl rfl (vp (i6 0) rfl (nx _ rfl (a_ret ?_))))))
         have hl90 : LdOk [] (eVb x54) [] 64 true (eVb x54):=(.nil rfl rfl rfl)
         refine ⟨.inr rfl,?_⟩
         rw [Try.results89]
         cases h
         exact ⟨_,_,_,_,_,ld_own (i:=⟨.arr 64 5,64,64,(eVb (vrep 64 (0 : Int)))⟩) rfl rfl rfl hl90,hl90.c,.inl ⟨rfl,.inl rfl⟩,rfl,⟨_,_,_,_,_,rfl,trivial,.inl ⟨rfl,.inl rfl⟩,rfl,rfl⟩⟩
        ·have h:=hy56
         refine a_block ?_
         refine a_loop (emb:=fun (s : (Int × (Vec Int 64)))=>⟨[(0,i6 a0),(2,i6 s.1),(4,ow 4),(6,ow 6),(12,ow 12)],[(4,bk (eVb a1)),(6,bk (eVb ((vrep 64 (0 : Int))))),(12,bk (eVb s.2))]⟩) (body:=(fun s : (Int × (Vec Int 64))=>spec_PowerOf_l1 a0 a1 s.1 s.2)) (G:=fun q=>some q = some y55) h rfl ?_ (by kernel_rfl)
         rintro X76 ⟨x66,x67⟩ x77 h hX78
         have h : spec_PowerOf_l1 a0 a1 x66 x67 = some x77:=h
         refine ns ⟨[(0,i6 a0),(2,i6 x66),(4,ow 4),(6,ow 6),(12,ow 12)],[(4,bk (eVb a1)),(6,bk (eVb ((vrep 64 (0 : Int))))),(12,bk (eVb x67))]⟩ (a_seq (sr (vp (i6 x66) rfl (vp (.bool ((decide (x66 > 0)))) rfl (nk ⟨[(0,i6 a0),(2,i6 x66),(4,ow 4),(6,ow 6),(12,ow 12),(71,.bool ((decide (x66 > 0))))],[(4,bk (eVb a1)),(6,bk (eVb ((vrep 64 (0 : Int))))),(12,bk (eVb x67))]⟩ ?_)))))
         cases hb79 : (decide (x66 > 0))
         ·have h:=ite_f hb79 h
          refine a_cond_f rfl (a_exit (t_exit ?_))
          cases h
          have h:=hX78
          refine t_exit (b_exit ?_)
          exact j_leaf x67 (Option.some.inj h) (by kernel_rfl)
         ·have h:=ite_t hb79 h
          refine a_cond_t rfl (a_skip (nj ⟨[(0,i6 a0),(2,i6 x66),(4,ow 4),(6,ow 6),(12,ow 12)],[(4,bk (eVb a1)),(6,bk (eVb ((vrep 64 (0 : Int))))),(12,bk (eVb x67))]⟩ (a_seq (a_block (sr (vp (i6 a0) rfl (vl (eVb x67) rfl rfl rfl rfl rfl rfl (vl (eVb a1) rfl rfl rfl rfl rfl rfl ?_))))))))
          obtain ⟨r82,hr83,h⟩:=bind_some h
          refine a_call (args:=[(i6 a0),(eVb x67),(eVb a1)]) (u:=[]) (r:=(.tuple [(eVb r82.1),(.bool r82.2)])) rfl rfl (spec_l01Times_ok a0 x67 a1 r82 hr83) rfl (vp (.tuple [(eVb r82.1),(.bool r82.2)]) rfl (vb (eVb r82.1) rfl rfl (vb (.bool r82.2) rfl rfl (vo 2300 (eVb ((vrep 64 (0 : Int)))) rfl rfl (vs (eVb r82.1) rfl rfl (fun _=>rfl) rfl rfl rfl rfl rfl rfl (vp (.bool r82.2) rfl (nk ⟨[(0,i6 a0),(2,i6 x66),(4,ow 4),(6,ow 6),(12,ow 12),(13,ow 13)],[(4,bk (eVb a1)),(6,bk (eVb ((vrep 64 (0 : Int))))),(12,bk (eVb x67)),(13,bk (eVb r82.1))]⟩ (a_region (vl (eVb r82.1) rfl rfl rfl rfl rfl rfl ?_)))))))))
          refine vs (eVb r82.1) rfl rfl (fun _=>rfl) rfl rfl rfl rfl rfl rfl (a_nil (b_norm (nj ⟨[(0,i6 a0),(2,i6 x66),(4,ow 4),(6,ow 6),(12,ow 12)],[(4,bk (eVb a1)),(6,bk (eVb ((vrep 64 (0 : Int))))),(12,bk (eVb r82.1))]⟩ (a_region (vp (i6 x66) rfl (vp (i6 (IntKind.i64.wrap (x66 - 1))) rfl (vp (i6 (IntKind.i64.wrap (x66 - 1))) rfl (a_nil ?_))))))))
          cases h
          exact a_again (by kernel_rfl) hX78
       ·have h:=ite_t hb20 h
        refine a_cond_t rfl (sr (vq (eVb ((vrep 64 (0 : Int)))) rfl ⟨⟨_,rfl,rfl⟩,all_nil⟩ (vs (eVb ((vrep 64 (0 : Int)))) rfl rfl (fun _=>rfl) rfl rfl rfl rfl rfl rfl (vp (i6 3) rfl (nx _ rfl (a_ret (b_ret (t_ret ?_))))))))
        have hl92 : LdOk [] (eVb ((vrep 64 (0 : Int)))) [] 64 true (eVb ((vrep 64 (0 : Int)))):=(.nil rfl rfl rfl)
        refine ⟨.inr rfl,?_⟩
        rw [Try.results89]
        cases h
        exact ⟨_,_,_,_,_,ld_own (i:=⟨.arr 64 5,64,64,(eVb (vrep 64 (0 : Int)))⟩) rfl rfl rfl hl92,hl92.c,.inl ⟨rfl,.inl rfl⟩,rfl,⟨_,_,_,_,_,rfl,trivial,.inl ⟨rfl,.inl rfl⟩,rfl,rfl⟩⟩
      ·have h:=hy17
       refine a_region (vp (i6 a2) rfl (vp (.bool ((decide (a2 > 63)))) rfl (vp (.bool ((decide (a2 > 63)))) rfl ?_)))
       cases hb19 : (decide (a2 > 63))
       ·have h:=ite_f hb19 h
        refine gp (i6 r6) rfl rfl (gp (i6 a2) rfl rfl (gp (i6 (IntKind.i64.wrap (r6 * a2))) rfl rfl (gp (.bool ((decide ((IntKind.i64.wrap (r6 * a2)) > 63)))) rfl rfl (vp (.bool ((decide ((IntKind.i64.wrap (r6 * a2)) > 63)))) rfl (vp (.bool ((decide ((IntKind.i64.wrap (r6 * a2)) > 63)))) rfl (a_nil ?_))))))
        exact j_leaf ((decide ((IntKind.i64.wrap (r6 * a2)) > 63))) (Option.some.inj h) (by kernel_rfl)
       ·have h:=ite_t hb19 h
        refine a_gskip rfl (a_gskip rfl (a_gskip rfl (a_gskip rfl (vp (.bool true) rfl (vp (.bool true) rfl (a_nil ?_))))))
        exact j_leaf true (Option.some.inj h) (by kernel_rfl)
     ·have h:=ite_t hb13 h
      refine a_cond_t rfl (sr (vp (i6 1) rfl (nk ⟨[(0,i6 a0),(2,i6 a2),(4,ow 4),(6,ow 6),(10,i6 1)],[(4,bk (eVb a1)),(6,bk (eVb ((vrep 64 (0 : Int)))))]⟩ ?_)))
      obtain ⟨y121,hy122,hk123⟩:=bind_some h
      clear h
      refine a_join (emb:=fun (s : Int)=>⟨[(6,ow 6),(10,i6 s)],[(6,bk (eVb ((vrep 64 (0 : Int)))))]⟩) (pre:=fun s=>s = y121) ?_ ?_
      ·rintro x120 rfl
       have h:=hk123
       refine ns ⟨[(6,ow 6),(10,i6 x120)],[(6,bk (eVb ((vrep 64 (0 : Int)))))]⟩ (sr (vp (i6 x120) rfl (vp (b8 (IntKind.u8.wrap x120)) rfl (vq (eVb ((vset (vrep 64 (0 : Int)) 0 (IntKind.u8.wrap x120)))) rfl ⟨⟨_,rfl,rfl⟩,(all_cons ⟨(Nat.le_of_ble_eq_true rfl),rfl⟩ all_nil)⟩ (vs (eVb ((vset (vrep 64 (0 : Int)) 0 (IntKind.u8.wrap x120)))) rfl rfl (fun _=>rfl) rfl rfl rfl rfl rfl rfl (vp (i6 0) rfl (nx _ rfl (a_ret (b_ret ?_)))))))))
       refine t_ret ?_
       have hl152 : LdOk [] (eVb ((vset (vrep 64 (0 : Int)) 0 (IntKind.u8.wrap x120)))) [] 64 true (eVb ((vset (vrep 64 (0 : Int)) 0 (IntKind.u8.wrap x120)))):=(.nil rfl rfl rfl)
       refine ⟨.inr rfl,?_⟩
       rw [Try.results89]
       cases h
       exact ⟨_,_,_,_,_,ld_own (i:=⟨.arr 64 5,64,64,(eVb (vrep 64 (0 : Int)))⟩) rfl rfl rfl hl152,hl152.c,.inl ⟨rfl,.inl rfl⟩,rfl,⟨_,_,_,_,_,rfl,trivial,.inl ⟨rfl,.inl rfl⟩,rfl,rfl⟩⟩
      ·have h:=hy122
       refine sr (vp (i6 a2) rfl (vp (i6 a0) rfl (vp (i6 (IntKind.i64.wrap (a0 - 1))) rfl ?_)))
       obtain ⟨hc124,h⟩:=ifp_some h
       refine vq (i6 (Int.tmod a2 (IntKind.i64.wrap (a0 - 1)))) rfl hc124 (vp (i6 (Int.tmod a2 (IntKind.i64.wrap (a0 - 1)))) rfl (nk ⟨[(0,i6 a0),(4,ow 4),(6,ow 6),(10,i6 1),(11,i6 (Int.tmod a2 (IntKind.i64.wrap (a0 - 1))))],[(4,bk (eVb a1)),(6,bk (eVb ((vrep 64 (0 : Int)))))]⟩ (a_block ?_)))
       refine a_loop (emb:=fun (s : (Int × Int))=>⟨[(0,i6 a0),(4,ow 4),(6,ow 6),(10,i6 s.1),(11,i6 s.2)],[(4,bk (eVb a1)),(6,bk (eVb ((vrep 64 (0 : Int)))))]⟩) (body:=(fun s : (Int × Int)=>spec_PowerOf_l2 a1 a0 s.1 s.2)) (G:=fun q=>some q = some y121) h rfl ?_ (by kernel_rfl)
       rintro X141 ⟨x133,x134⟩ x142 h hX143
       have h : spec_PowerOf_l2 a1 a0 x133 x134 = some x142:=h
       refine ns ⟨[(0,i6 a0),(4,ow 4),(6,ow 6),(10,i6 x133),(11,i6 x134)],[(4,bk (eVb a1)),(6,bk (eVb ((vrep 64 (0 : Int)))))]⟩ (a_seq (sr (vp (i6 x134) rfl (vp (.bool ((decide (x134 > 0)))) rfl (nk ⟨[(0,i6 a0),(4,ow 4),(6,ow 6),(10,i6 x133),(11,i6 x134),(46,.bool ((decide (x134 > 0))))],[(4,bk (eVb a1)),(6,bk (eVb ((vrep 64 (0 : Int)))))]⟩ ?_)))))
       cases hb144 : (decide (x134 > 0))
       ·have h:=ite_f hb144 h
        refine a_cond_f rfl (a_exit (t_exit ?_))
        cases h
        have h:=hX143
        refine t_exit (b_exit ?_)
        exact j_leaf x133 (Option.some.inj h) (by kernel_rfl)
       ·have h:=ite_t hb144 h
        refine a_cond_t rfl (a_skip (nj ⟨[(0,i6 a0),(4,ow 4),(6,ow 6),(10,i6 x133),(11,i6 x134)],[(4,bk (eVb a1)),(6,bk (eVb ((vrep 64 (0 : Int)))))]⟩ (a_seq (a_block (a_region (vp (i6 x133) rfl ?_))))))
        obtain ⟨hc145,h⟩:=ifp_some h
        refine vq (.own 4 [(0 : Int).toNat] [(0 : Int).toNat * 1]) rfl hc145 ?_
        have hl146 : LdOk [(0 : Int).toNat] (eVb a1) [(0 : Int).toNat * 1] 1 false (b8 ((rd a1.1 (0 : Int).toNat))):=(.arr (vlt a1 hc145) rfl (.nil rfl rfl rfl))
        refine vq (b8 ((rd a1.1 (0 : Int).toNat))) (ld_own (i:=⟨.int .u8,1,1,(.int .u8 0)⟩) rfl rfl rfl hl146) hl146.c (vp (i6 (IntKind.i64.wrap ((rd a1.1 (0 : Int).toNat)))) rfl ?_)
        obtain ⟨x147,hx148,h⟩:=letp_some h
        refine a_val' (v:=(i6 (IntKind.i64.wrap (x133 * (IntKind.i64.wrap ((rd a1.1 (0 : Int).toNat))))))) (v':=(i6 x147)) (u:=[]) (u':=[]) rfl (congrArg (fun z=>((i6 z) : AV)) hx148) rfl trivial rfl (vp (i6 a0) rfl ?_)
        obtain ⟨hc149,h⟩:=ifp_some h
        refine vq (i6 (Int.tmod x147 a0)) rfl hc149 (vp (i6 (Int.tmod x147 a0)) rfl (a_nil (b_norm (nj ⟨[(0,i6 a0),(4,ow 4),(6,ow 6),(10,i6 (Int.tmod x147 a0)),(11,i6 x134)],[(4,bk (eVb a1)),(6,bk (eVb ((vrep 64 (0 : Int)))))]⟩ (a_region (vp (i6 x134) rfl (vp (i6 (IntKind.i64.wrap (x134 - 1))) rfl (vp (i6 (IntKind.i64.wrap (x134 - 1))) rfl (a_nil ?_)))))))))
        cases h
        exact a_again (by kernel_rfl) hX143
    ·have h:=ite_t hb12 h
     refine a_cond_t rfl (sr (vq (eVb ((vrep 64 (0 : Int)))) rfl ⟨⟨_,rfl,rfl⟩,all_nil⟩ (vs (eVb ((vrep 64 (0 : Int)))) rfl rfl (fun _=>rfl) rfl rfl rfl rfl rfl rfl (vp (i6 0) rfl (nx _ rfl (a_ret (b_ret (t_ret ?_))))))))
     have hl154 : LdOk [] (eVb ((vrep 64 (0 : Int)))) [] 64 true (eVb ((vrep 64 (0 : Int)))):=(.nil rfl rfl rfl)
     refine ⟨.inr rfl,?_⟩
     rw [Try.results89]
     cases h
     exact ⟨_,_,_,_,_,ld_own (i:=⟨.arr 64 5,64,64,(eVb (vrep 64 (0 : Int)))⟩) rfl rfl rfl hl154,hl154.c,.inl ⟨rfl,.inl rfl⟩,rfl,⟨_,_,_,_,_,rfl,trivial,.inl ⟨rfl,.inl rfl⟩,rfl,rfl⟩⟩
   ·have h:=ite_t hb11 h
    refine a_cond_t rfl (sr ?_)
    obtain ⟨r155,hr156,h⟩:=bind_some h
    refine a_call (args:=[]) (u:=[]) (r:=(eVb r155)) rfl rfl (spec_l01One_ok r155 hr156) rfl (vs (eVb r155) rfl rfl (fun _=>rfl) rfl rfl rfl rfl rfl rfl (vp (i6 0) rfl (nx _ rfl (a_ret (b_ret (t_ret ?_))))))
    have hl158 : LdOk [] (eVb r155) [] 64 true (eVb r155):=(.nil rfl rfl rfl)
    refine ⟨.inr rfl,?_⟩
    rw [Try.results89]
    cases h
    exact ⟨_,_,_,_,_,ld_own (i:=⟨.arr 64 5,64,64,(eVb (vrep 64 (0 : Int)))⟩) rfl rfl rfl hl158,hl158.c,.inl ⟨rfl,.inl rfl⟩,rfl,⟨_,_,_,_,_,rfl,trivial,.inl ⟨rfl,.inl rfl⟩,rfl,rfl⟩⟩
  ·have h:=ite_t hb10 h
   refine a_cond_t rfl (sr (vq (eVb ((vrep 64 (0 : Int)))) rfl ⟨⟨_,rfl,rfl⟩,all_nil⟩ (vs (eVb ((vrep 64 (0 : Int)))) rfl rfl (fun _=>rfl) rfl rfl rfl rfl rfl rfl (vp (i6 2) rfl (nx _ rfl (a_ret (b_ret (t_ret ?_))))))))
   have hl160 : LdOk [] (eVb ((vrep 64 (0 : Int)))) [] 64 true (eVb ((vrep 64 (0 : Int)))):=(.nil rfl rfl rfl)
   refine ⟨.inr rfl,?_⟩
   rw [Try.results89]
   cases h
   exact ⟨_,_,_,_,_,ld_own (i:=⟨.arr 64 5,64,64,(eVb (vrep 64 (0 : Int)))⟩) rfl rfl rfl hl160,hl160.c,.inl ⟨rfl,.inl rfl⟩,rfl,⟨_,_,_,_,_,rfl,trivial,.inl ⟨rfl,.inl rfl⟩,rfl,rfl⟩⟩
 ·have h:=ite_t hb4 h
  refine a_cond_t rfl (sr (vq (eVb ((vrep 64 (0 : Int)))) rfl ⟨⟨_,rfl,rfl⟩,all_nil⟩ (vp (i6 r2) rfl (vs (eVb ((vrep 64 (0 : Int)))) rfl rfl (fun _=>rfl) rfl rfl rfl rfl rfl rfl (vp (i6 r2) rfl (nx _ rfl (a_ret (t_ret ?_))))))))
  have hl162 : LdOk [] (eVb ((vrep 64 (0 : Int)))) [] 64 true (eVb ((vrep 64 (0 : Int)))):=(.nil rfl rfl rfl)
  refine ⟨.inr rfl,?_⟩
  rw [Try.results89]
  cases h
  exact ⟨_,_,_,_,_,ld_own (i:=⟨.arr 64 5,64,64,(eVb (vrep 64 (0 : Int)))⟩) rfl rfl rfl hl162,hl162.c,.inl ⟨rfl,.inl rfl⟩,rfl,⟨_,_,_,_,_,rfl,trivial,.inl ⟨rfl,.inl rfl⟩,rfl,rfl⟩⟩
def spec_DrawPolyOfNumber_c : ACode:=(.seq (.region 0 [q 2 (.asg 0 (.const (.int .i64 0)) 2),q 3 (.asg 0 (.const (.int .i64 0)) 2)] false) (.seq (.region 1 [q 5 (.mov (t 0)),q 6 (.call 0 (.func 116) [(t 5)]),q 4 (.asg 0 (t 6) 96)] false) (.seq (.region 2 [q 7 (.mov (t 4)),q 8 (.bslice 0 59 5 [(0,.const (.int .i64 2)),(1,.const (.int .i64 3)),(2,.const (.int .i64 5)),(3,.const (.int .i64 7)),(4,.const (.int .i64 4))]),q 9 (.call 1 (.func 122) [(t 7),(t 8)]),q 10 (.mov (t 4)),q 11 (.mov (t 4)),q 12 (.call 1 (.func 123) [(t 11),(.const (.int .i64 100))]),q 13 (.mov (t 4)),q 14 (.call 1 (.func 123) [(t 13),(.const (.int .i64 1000000))]),q 15 (.bslice 0 59 5 [(0,t 12),(1,t 14),(2,.const (.int .i64 1000000000000)),(3,.const (.int .i64 1000000000001)),(4,.const (.int .i64 (-1)))]),q 16 (.call 1 (.func 122) [(t 10),(t 15)]),q 2 (.asg 0 (t 9) 2),q 3 (.asg 0 (t 16) 2)] false) .ret)))
def spec_DrawPolyOfNumber_L : Live:=[(0,[0]),(1,[0]),(2,[4])]
noncomputable def spec_DrawPolyOfNumber (a0 : (List Int)) : Option (Int × Int) :=
 (Option.bind (spec_l01From a0) fun r1=>(Option.bind (spec_l01Pick_of_src r1 ([2,3,5,7,4])) fun r3=>(Option.bind (spec_l01Next_of_src r3.2 100) fun r6=>(Option.bind (spec_l01Next_of_src r6.2 1000000) fun r9=>(Option.bind (spec_l01Pick_of_src r9.2 ([r6.1,r9.1,1000000000000,1000000000001,-1])) fun r12=>(some (r3.1,r12.1)))))))
theorem spec_DrawPolyOfNumber_ok (a0 : (List Int)) (r : (Int × Int)) (h : spec_DrawPolyOfNumber a0 = some r) : Den Try.prog 90 [(eSu8 a0)] { r:=(.tuple [(i6 r.1),(i6 r.2)]) }:=by
 refine den_of (rs:=[(i6 r.1),(i6 r.2)]) (ac:=spec_DrawPolyOfNumber_c) (L:=spec_DrawPolyOfNumber_L) (n:=17) (m:=[(9,1),(12,1),(14,1),(16,1)]) (c:=Try.f90.body.getD .skip) good Try.func90 (by kernel_rfl) (by kernel_rfl) Try.ntmps90 rfl rfl (by kernel_rfl) rfl rfl ?_
 refine ns ⟨[(0,eSu8 a0)],[]⟩ ?_
 unfold spec_DrawPolyOfNumber_c
 refine sr (vp (i6 0) rfl (vp (i6 0) rfl (nk ⟨[(0,eSu8 a0)],[]⟩ (sr (vp (eSu8 a0) rfl ?_)))))
 obtain ⟨r1,hr2,h⟩:=bind_some h
 refine a_callF (args:=[(eSu8 a0)]) (u:=[]) (u2:=[]) (r:=(ow 2000000)) (fs:=[(0,[eT_Su8_i64_u64_Z r1])]) rfl rfl (spec_l01From_ok a0 r1 hr2) rfl rfl rfl (.inl rfl) rfl (vp (ow 1600) rfl (nk ⟨[(4,ow 4)],[(4,bk (eT_Su8_i64_u64_Z r1))]⟩ (sr (vp (ow 4) rfl (vq (.sl 1 true (([2,3,5,7,4]).map (AV.int .i64))) rfl ⟨(Nat.le_of_ble_eq_true rfl),(Nat.le_of_ble_eq_true rfl),(all_cons ⟨(Nat.le_of_ble_eq_true rfl),rfl⟩ (all_cons ⟨(Nat.le_of_ble_eq_true rfl),rfl⟩ (all_cons ⟨(Nat.le_of_ble_eq_true rfl),rfl⟩ (all_cons ⟨(Nat.le_of_ble_eq_true rfl),rfl⟩ (all_cons ⟨(Nat.le_of_ble_eq_true rfl),rfl⟩ all_nil)))))⟩ ?_)))))
 obtain ⟨r3,hr4,h⟩:=bind_some h
 refine a_callM (args:=[(.mutp (eT_Su8_i64_u64_Z r1)),(.sl 1 true (([2,3,5,7,4]).map (AV.int .i64)))]) (i:=0) (id:=4) (r:=(i6 r3.1)) (c:=(eT_Su8_i64_u64_Z r3.2)) rfl rfl (Den.argsM (spec_l01Pick_of_src_ok r1 ([2,3,5,7,4]) r3 hr4) rfl rfl (.cons (.loose _) .nil)) rfl trivial (vp (ow 4) rfl (vp (ow 4) rfl ?_))
 obtain ⟨r6,hr7,h⟩:=bind_some h
 refine a_callM (args:=[(.mutp (eT_Su8_i64_u64_Z r3.2)),(i6 100)]) (i:=0) (id:=4) (r:=(i6 r6.1)) (c:=(eT_Su8_i64_u64_Z r6.2)) rfl rfl (spec_l01Next_of_src_ok r3.2 100 r6 hr7) rfl trivial (vp (ow 4) rfl ?_)
 obtain ⟨r9,hr10,h⟩:=bind_some h
 refine a_callM (args:=[(.mutp (eT_Su8_i64_u64_Z r6.2)),(i6 1000000)]) (i:=0) (id:=4) (r:=(i6 r9.1)) (c:=(eT_Su8_i64_u64_Z r9.2)) rfl rfl (spec_l01Next_of_src_ok r6.2 1000000 r9 hr10) rfl trivial (vq (.sl 1 true (([r6.1,r9.1,1000000000000,1000000000001,-1]).map (AV.int .i64))) rfl ⟨(Nat.le_of_ble_eq_true rfl),(Nat.le_of_ble_eq_true rfl),(all_cons ⟨(Nat.le_of_ble_eq_true rfl),rfl⟩ (all_cons ⟨(Nat.le_of_ble_eq_true rfl),rfl⟩ (all_cons ⟨(Nat.le_of_ble_eq_true rfl),rfl⟩ (all_cons ⟨(Nat.le_of_ble_eq_true rfl),rfl⟩ (all_cons ⟨(Nat.le_of_ble_eq_true rfl),rfl⟩ all_nil)))))⟩ ?_)
 obtain ⟨r12,hr13,h⟩:=bind_some h
 refine a_callM (args:=[(.mutp (eT_Su8_i64_u64_Z r9.2)),(.sl 1 true (([r6.1,r9.1,1000000000000,1000000000001,-1]).map (AV.int .i64)))]) (i:=0) (id:=4) (r:=(i6 r12.1)) (c:=(eT_Su8_i64_u64_Z r12.2)) rfl rfl (Den.argsM (spec_l01Pick_of_src_ok r9.2 ([r6.1,r9.1,1000000000000,1000000000001,-1]) r12 hr13) rfl rfl (.cons (.loose _) .nil)) rfl trivial (vp (i6 r3.1) rfl (vp (i6 r12.1) rfl (nx _ rfl (a_ret ?_))))
 refine ⟨.inr rfl,?_⟩
 rw [Try.results90]
 cases h
 exact ⟨_,_,_,_,_,rfl,trivial,.inl ⟨rfl,.inl rfl⟩,rfl,⟨_,_,_,_,_,rfl,trivial,.inl ⟨rfl,.inl rfl⟩,rfl,rfl⟩⟩
def impl_PolyOfNumber_c : ACode:=(.seq (.region 0 [q 4 (.alloc 25),q 5 (.asg 0 (.const (.int .i64 0)) 2)] false) (.seq (.block 0 (.seq (.region 1 [q 7 (.mov (t 0)),q 8 (.call 0 (.func 106) [(t 7)]),q 9 (.un .not (t 8)),q 6 (.asg 0 (t 9) 4)] false) (.cond (t 6) (.seq (.region 2 [q 10 (.build 25 []),⟨none,.store 25 (t 4) (t 10),none,[]⟩,q 5 (.asg 0 (.const (.int .i64 1)) 2)] false) .ret) (.seq (.region 3 [q 12 (.mov (t 1)),q 13 (.call 0 (.func 118) [(t 12)]),q 14 (.un .not (t 13)),q 11 (.asg 0 (t 14) 4)] false) (.cond (t 11) (.seq (.region 4 [q 15 (.build 25 []),⟨none,.store 25 (t 4) (t 15),none,[]⟩,q 5 (.asg 0 (.const (.int .i64 2)) 2)] false) .ret) .skip))))) (.seq (.region 5 [q 16 (.mov (t 0)),q 17 (.mov (t 1)),q 18 (.call 0 (.func 119) [(t 16),(t 17)]),q 19 (.call 0 (.func 101) [(t 18)]),q 20 (.extract (t 19) 0),q 21 (.extract (t 19) 1),⟨none,.store 25 (t 4) (t 20),none,[]⟩,q 5 (.asg 0 (t 21) 2)] false) .ret)))
def impl_PolyOfNumber_L : Live:=[(0,[0,1]),(1,[0,1,4]),(2,[4]),(3,[0,1,4]),(4,[4]),(5,[0,1,4]),(100006,[0,1,4,6]),(100011,[0,1,4,11])]
noncomputable def impl_PolyOfNumber (a0 : Int) (a1 : Int) : Option ((Vec Int 64) × Int) :=
 (Option.bind (impl_isPrime a0) fun r1=>(if (!r1) then (some (((vrep 64 (0 : Int)),1))) else (Option.bind (impl_isNumber a1) fun r4=>(if (!r4) then (some (((vrep 64 (0 : Int)),2))) else (Option.bind (impl_prime_numbered a0 a1) fun r7=>(Option.bind (impl_told r7) fun r9=>(some (r9.1,r9.2))))))))
theorem impl_PolyOfNumber_ok (a0 : Int) (a1 : Int) (r : ((Vec Int 64) × Int)) (h : impl_PolyOfNumber a0 a1 = some r) : Den Try.prog 25 [(i6 a0),(i6 a1)] { r:=(.tuple [(eVb r.1),(i6 r.2)]) }:=by
 refine den_of (rs:=[(eVb r.1),(i6 r.2)]) (ac:=impl_PolyOfNumber_c) (L:=impl_PolyOfNumber_L) (n:=22) (m:=[]) (c:=Try.f25.body.getD .skip) good Try.func25 (by kernel_rfl) (by kernel_rfl) Try.ntmps25 rfl rfl (by kernel_rfl) rfl rfl ?_
 refine ns ⟨[(0,i6 a0),(1,i6 a1)],[]⟩ ?_
 unfold impl_PolyOfNumber_c
 refine sr (vo 1400 (eVb ((vrep 64 (0 : Int)))) rfl rfl (vp (i6 0) rfl (nk ⟨[(0,i6 a0),(1,i6 a1),(4,ow 4)],[(4,bk (eVb ((vrep 64 (0 : Int)))))]⟩ (a_seq (a_block (sr (vp (i6 a0) rfl ?_)))))))
 obtain ⟨r1,hr2,h⟩:=bind_some h
 refine a_call (args:=[(i6 a0)]) (u:=[]) (r:=(.bool r1)) rfl rfl (impl_isPrime_ok a0 r1 hr2) rfl (vp (.bool (!r1)) rfl (vp (.bool (!r1)) rfl (nk ⟨[(0,i6 a0),(1,i6 a1),(4,ow 4),(6,.bool (!r1))],[(4,bk (eVb ((vrep 64 (0 : Int)))))]⟩ ?_)))
 cases hb3 : (!r1)
 ·have h:=ite_f hb3 h
  refine a_cond_f rfl (sr (vp (i6 a1) rfl ?_))
  obtain ⟨r4,hr5,h⟩:=bind_some h
  refine a_call (args:=[(i6 a1)]) (u:=[]) (r:=(.bool r4)) rfl rfl (impl_isNumber_ok a1 r4 hr5) rfl (vp (.bool (!r4)) rfl (vp (.bool (!r4)) rfl (nk ⟨[(0,i6 a0),(1,i6 a1),(4,ow 4),(11,.bool (!r4))],[(4,bk (eVb ((vrep 64 (0 : Int)))))]⟩ ?_)))
  cases hb6 : (!r4)
  ·have h:=ite_f hb6 h
   refine a_cond_f rfl (a_skip (b_norm (nj ⟨[(0,i6 a0),(1,i6 a1),(4,ow 4)],[(4,bk (eVb ((vrep 64 (0 : Int)))))]⟩ (sr (vp (i6 a0) rfl (vp (i6 a1) rfl ?_))))))
   obtain ⟨r7,hr8,h⟩:=bind_some h
   refine a_call (args:=[(i6 a0),(i6 a1)]) (u:=[]) (r:=(eSi64 r7)) rfl rfl (impl_prime_numbered_ok a0 a1 r7 hr8) rfl ?_
   obtain ⟨r9,hr10,h⟩:=bind_some h
   refine a_call (args:=[(eSi64 r7)]) (u:=[]) (r:=(.tuple [(eVb r9.1),(i6 r9.2)])) rfl rfl (impl_told_ok r7 r9 hr10) rfl (vb (eVb r9.1) rfl rfl (vb (i6 r9.2) rfl rfl (vs (eVb r9.1) rfl rfl (fun _=>rfl) rfl rfl rfl rfl rfl rfl (vp (i6 r9.2) rfl (nx _ rfl (a_ret ?_))))))
   have hl12 : LdOk [] (eVb r9.1) [] 64 true (eVb r9.1):=(.nil rfl rfl rfl)
   refine ⟨.inr rfl,?_⟩
   rw [Try.results25]
   cases h
   exact ⟨_,_,_,_,_,ld_own (i:=⟨.arr 64 5,64,64,(eVb (vrep 64 (0 : Int)))⟩) rfl rfl rfl hl12,hl12.c,.inl ⟨rfl,.inl rfl⟩,rfl,⟨_,_,_,_,_,rfl,trivial,.inl ⟨rfl,.inl rfl⟩,rfl,rfl⟩⟩
  ·have h:=ite_t hb6 h
   refine a_cond_t rfl (sr (vq (eVb ((vrep 64 (0 : Int)))) rfl ⟨⟨_,rfl,rfl⟩,all_nil⟩ (vs (eVb ((vrep 64 (0 : Int)))) rfl rfl (fun _=>rfl) rfl rfl rfl rfl rfl rfl (vp (i6 2) rfl (nx _ rfl (a_ret (b_ret (t_ret ?_))))))))
   have hl14 : LdOk [] (eVb ((vrep 64 (0 : Int)))) [] 64 true (eVb ((vrep 64 (0 : Int)))):=(.nil rfl rfl rfl)
   refine ⟨.inr rfl,?_⟩
   rw [Try.results25]
   cases h
   exact ⟨_,_,_,_,_,ld_own (i:=⟨.arr 64 5,64,64,(eVb (vrep 64 (0 : Int)))⟩) rfl rfl rfl hl14,hl14.c,.inl ⟨rfl,.inl rfl⟩,rfl,⟨_,_,_,_,_,rfl,trivial,.inl ⟨rfl,.inl rfl⟩,rfl,rfl⟩⟩
 ·have h:=ite_t hb3 h
  refine a_cond_t rfl (sr (vq (eVb ((vrep 64 (0 : Int)))) rfl ⟨⟨_,rfl,rfl⟩,all_nil⟩ (vs (eVb ((vrep 64 (0 : Int)))) rfl rfl (fun _=>rfl) rfl rfl rfl rfl rfl rfl (vp (i6 1) rfl (nx _ rfl (a_ret (b_ret (t_ret ?_))))))))
  have hl16 : LdOk [] (eVb ((vrep 64 (0 : Int)))) [] 64 true (eVb ((vrep 64 (0 : Int)))):=(.nil rfl rfl rfl)
  refine ⟨.inr rfl,?_⟩
  rw [Try.results25]
  cases h
  exact ⟨_,_,_,_,_,ld_own (i:=⟨.arr 64 5,64,64,(eVb (vrep 64 (0 : Int)))⟩) rfl rfl rfl hl16,hl16.c,.inl ⟨rfl,.inl rfl⟩,rfl,⟨_,_,_,_,_,rfl,trivial,.inl ⟨rfl,.inl rfl⟩,rfl,rfl⟩⟩
def spec_PolyOfNumber_c : ACode:=(.seq (.region 0 [q 4 (.alloc 25),q 5 (.asg 0 (.const (.int .i64 0)) 2)] false) (.seq (.block 0 (.seq (.region 1 [q 7 (.mov (t 0)),q 8 (.call 0 (.func 168) [(t 7)]),q 9 (.un .not (t 8)),q 6 (.asg 0 (t 9) 4)] false) (.cond (t 6) (.seq (.region 2 [q 10 (.build 25 []),⟨none,.store 25 (t 4) (t 10),none,[]⟩,q 5 (.asg 0 (.const (.int .i64 1)) 2)] false) .ret) (.seq (.region 3 [q 12 (.mov (t 1)),q 13 (.call 0 (.func 160) [(t 12),(.const (.int .i64 0)),(.const (.int .i64 1000000000000))]),q 14 (.un .not (t 13)),q 11 (.asg 0 (t 14) 4)] false) (.cond (t 11) (.seq (.region 4 [q 15 (.build 25 []),⟨none,.store 25 (t 4) (t 15),none,[]⟩,q 5 (.asg 0 (.const (.int .i64 2)) 2)] false) .ret) .skip))))) (.seq (.region 5 [q 16 (.mov (t 0)),q 17 (.mov (t 1)),q 18 (.call 0 (.func 173) [(t 16),(t 17)]),⟨none,.store 25 (t 4) (t 18),none,[]⟩,q 5 (.asg 0 (.const (.int .i64 0)) 2)] false) .ret)))
def spec_PolyOfNumber_L : Live:=[(0,[0,1]),(1,[0,1,4]),(2,[4]),(3,[0,1,4]),(4,[4]),(5,[0,1,4]),(100006,[0,1,4,6]),(100011,[0,1,4,11])]
noncomputable def spec_PolyOfNumber (a0 : Int) (a1 : Int) : Option ((Vec Int 64) × Int) :=
 (Option.bind (spec_l01Prime a0) fun r1=>(if (!r1) then (some (((vrep 64 (0 : Int)),1))) else (Option.bind (spec_l01In a1 0 1000000000000) fun r4=>(if (!r4) then (some (((vrep 64 (0 : Int)),2))) else (Option.bind (spec_l01Of a0 a1) fun r7=>(some (r7,0)))))))
theorem spec_PolyOfNumber_ok (a0 : Int) (a1 : Int) (r : ((Vec Int 64) × Int)) (h : spec_PolyOfNumber a0 a1 = some r) : Den Try.prog 91 [(i6 a0),(i6 a1)] { r:=(.tuple [(eVb r.1),(i6 r.2)]) }:=by
 refine den_of (rs:=[(eVb r.1),(i6 r.2)]) (ac:=spec_PolyOfNumber_c) (L:=spec_PolyOfNumber_L) (n:=19) (m:=[]) (c:=Try.f91.body.getD .skip) good Try.func91 (by kernel_rfl) (by kernel_rfl) Try.ntmps91 rfl rfl (by kernel_rfl) rfl rfl ?_
 refine ns ⟨[(0,i6 a0),(1,i6 a1)],[]⟩ ?_
 unfold spec_PolyOfNumber_c
 refine sr (vo 1400 (eVb ((vrep 64 (0 : Int)))) rfl rfl (vp (i6 0) rfl (nk ⟨[(0,i6 a0),(1,i6 a1),(4,ow 4)],[(4,bk (eVb ((vrep 64 (0 : Int)))))]⟩ (a_seq (a_block (sr (vp (i6 a0) rfl ?_)))))))
 obtain ⟨r1,hr2,h⟩:=bind_some h
 refine a_call (args:=[(i6 a0)]) (u:=[]) (r:=(.bool r1)) rfl rfl (spec_l01Prime_ok a0 r1 hr2) rfl (vp (.bool (!r1)) rfl (vp (.bool (!r1)) rfl (nk ⟨[(0,i6 a0),(1,i6 a1),(4,ow 4),(6,.bool (!r1))],[(4,bk (eVb ((vrep 64 (0 : Int)))))]⟩ ?_)))
 cases hb3 : (!r1)
 ·have h:=ite_f hb3 h
  refine a_cond_f rfl (sr (vp (i6 a1) rfl ?_))
  obtain ⟨r4,hr5,h⟩:=bind_some h
  refine a_call (args:=[(i6 a1),(i6 0),(i6 1000000000000)]) (u:=[]) (r:=(.bool r4)) rfl rfl (spec_l01In_ok a1 0 1000000000000 r4 hr5) rfl (vp (.bool (!r4)) rfl (vp (.bool (!r4)) rfl (nk ⟨[(0,i6 a0),(1,i6 a1),(4,ow 4),(11,.bool (!r4))],[(4,bk (eVb ((vrep 64 (0 : Int)))))]⟩ ?_)))
  cases hb6 : (!r4)
  ·have h:=ite_f hb6 h
   refine a_cond_f rfl (a_skip (b_norm (nj ⟨[(0,i6 a0),(1,i6 a1),(4,ow 4)],[(4,bk (eVb ((vrep 64 (0 : Int)))))]⟩ (sr (vp (i6 a0) rfl (vp (i6 a1) rfl ?_))))))
   obtain ⟨r7,hr8,h⟩:=bind_some h
   refine a_call (args:=[(i6 a0),(i6 a1)]) (u:=[]) (r:=(eVb r7)) rfl rfl (spec_l01Of_ok a0 a1 r7 hr8) rfl (vs (eVb r7) rfl rfl (fun _=>rfl) rfl rfl rfl rfl rfl rfl (vp (i6 0) rfl (nx _ rfl (a_ret ?_))))
   have hl10 : LdOk [] (eVb r7) [] 64 true (eVb r7):=(.nil rfl rfl rfl)
   refine ⟨.inr rfl,?_⟩
   rw [Try.results91]
   cases h
   exact ⟨_,_,_,_,_,ld_own (i:=⟨.arr 64 5,64,64,(eVb (vrep 64 (0 : Int)))⟩) rfl rfl rfl hl10,hl10.c,.inl ⟨rfl,.inl rfl⟩,rfl,⟨_,_,_,_,_,rfl,trivial,.inl ⟨rfl,.inl rfl⟩,rfl,rfl⟩⟩
  ·have h:=ite_t hb6 h
   refine a_cond_t rfl (sr (vq (eVb ((vrep 64 (0 : Int)))) rfl ⟨⟨_,rfl,rfl⟩,all_nil⟩ (vs (eVb ((vrep 64 (0 : Int)))) rfl rfl (fun _=>rfl) rfl rfl rfl rfl rfl rfl (vp (i6 2) rfl (nx _ rfl (a_ret (b_ret (t_ret ?_))))))))
   have hl12 : LdOk [] (eVb ((vrep 64 (0 : Int)))) [] 64 true (eVb ((vrep 64 (0 : Int)))):=(.nil rfl rfl rfl)
   refine ⟨.inr rfl,?_⟩
   rw [Try.results91]
   cases h
   exact ⟨_,_,_,_,_,ld_own (i:=⟨.arr 64 5,64,64,(eVb (vrep 64 (0 : Int)))⟩) rfl rfl rfl hl12,hl12.c,.inl ⟨rfl,.inl rfl⟩,rfl,⟨_,_,_,_,_,rfl,trivial,.inl ⟨rfl,.inl rfl⟩,rfl,rfl⟩⟩
 ·have h:=ite_t hb3 h
  refine a_cond_t rfl (sr (vq (eVb ((vrep 64 (0 : Int)))) rfl ⟨⟨_,rfl,rfl⟩,all_nil⟩ (vs (eVb ((vrep 64 (0 : Int)))) rfl rfl (fun _=>rfl) rfl rfl rfl rfl rfl rfl (vp (i6 1) rfl (nx _ rfl (a_ret (b_ret (t_ret ?_))))))))
  have hl14 : LdOk [] (eVb ((vrep 64 (0 : Int)))) [] 64 true (eVb ((vrep 64 (0 : Int)))):=(.nil rfl rfl rfl)
  refine ⟨.inr rfl,?_⟩
  rw [Try.results91]
  cases h
  exact ⟨_,_,_,_,_,ld_own (i:=⟨.arr 64 5,64,64,(eVb (vrep 64 (0 : Int)))⟩) rfl rfl rfl hl14,hl14.c,.inl ⟨rfl,.inl rfl⟩,rfl,⟨_,_,_,_,_,rfl,trivial,.inl ⟨rfl,.inl rfl⟩,rfl,rfl⟩⟩
end Go.Proofs.Ytkbnegemdlnncaa
