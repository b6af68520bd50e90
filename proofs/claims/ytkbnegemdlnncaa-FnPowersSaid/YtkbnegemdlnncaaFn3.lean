/- Functions of the program: plain Lean functions, and that the program computes them. Printed by gen.py. -/
import Derived.Test.YtkbnegemdlnncaaFnT
import Derived.Test.YtkbnegemdlnncaaFn1
import Derived.Test.YtkbnegemdlnncaaFn2
namespace Go.Proofs.Ytkbnegemdlnncaa
open Go.Abs Go.Proofs
set_option linter.unusedSimpArgs false
set_option linter.unusedVariables false
set_option maxHeartbeats 16000000
attribute [local irreducible] Abs.acode Abs.aops Abs.aopsT Abs.thenK Abs.blockK

def impl_prime_divide_c : ACode:=(.seq (.region 0 [q 6 (.asg 1 (.const (.slice none 0 0)) 80),q 7 (.asg 1 (.const (.slice none 0 0)) 80)] false) (.seq (.region 1 [q 15 (.mov (t 1)),q 16 (.call 0 (.func 184) [(t 15)]),q 8 (.asg 2 (t 16) 80)] false) (.seq (.seq (.region 2 [q 17 (.mov (t 1)),q 18 (.blt 0 .len [(t 17)] [80]),q 19 (.mov (t 2)),q 20 (.blt 0 .len [(t 19)] [80]),q 21 (.bin .lss 3 (t 18) (t 20))] false) (.cond (t 21) (.seq (.region 3 [q 22 (.mov (t 8)),q 6 (.asg 1 (.const (.slice none 0 0)) 80),q 7 (.asg 1 (t 22) 80)] false) .ret) .skip)) (.seq (.region 4 [q 23 (.mov (t 1)),q 24 (.blt 0 .len [(t 23)] [80]),q 25 (.mov (t 2)),q 26 (.blt 0 .len [(t 25)] [80]),q 27 (.bin .sub 3 (t 24) (t 26)),q 28 (.bin .add 3 (t 27) (.const (.int .i64 1))),q 29 (.mkslice 80 (t 28) (t 28)),q 9 (.asg 2 (t 29) 80)] false) (.seq (.region 5 [q 30 (.mov (t 0)),q 31 (.mov (t 2)),q 32 (.call 0 (.func 186) [(t 31)]),q 33 (.call 0 (.func 185) [(t 30),(t 32)]),q 10 (.asg 0 (t 33) 2)] false) (.seq (.seq (.region 6 [q 34 (.mov (t 9)),q 35 (.blt 0 .len [(t 34)] [80]),q 36 (.bin .sub 3 (t 35) (.const (.int .i64 1))),q 11 (.asg 0 (t 36) 3)] false) (.block 0 (.loop (.seq (.seq (.region 7 [q 37 (.mov (t 11)),q 38 (.bin .geq 3 (t 37) (.const (.int .i64 0)))] false) (.cond (t 38) .skip (.exit 0))) (.seq (.block 1 (.seq (.region 9 [q 41 (.mov (t 8)),q 42 (.mov (t 11)),q 43 (.mov (t 2)),q 44 (.blt 0 .len [(t 43)] [80]),q 45 (.bin .add 3 (t 42) (t 44)),q 46 (.bin .sub 3 (t 45) (.const (.int .i64 1))),q 47 (.indexAddr 80 (t 41) (t 46)),q 48 (.load 2 (t 47)),q 49 (.mov (t 10)),q 50 (.bin .mul 2 (t 48) (t 49)),q 51 (.mov (t 0)),q 52 (.bin .rem 2 (t 50) (t 51)),q 12 (.asg 0 (t 52) 2)] false) (.seq (.region 10 [q 53 (.mov (t 9)),q 54 (.mov (t 11)),q 55 (.mov (t 12)),q 56 (.indexAddr 80 (t 53) (t 54)),⟨none,.store 2 (t 56) (t 55),none,[]⟩] false) (.seq (.region 11 [q 57 (.mov (t 2)),q 58 (.blt 0 .len [(t 57)] [80]),q 59 (.mov (.const (.int .i64 0)))] false) (.block 2 (.loop (.seq (.region 12 [q 60 (.bin .lss 3 (t 59) (t 58))] false) (.seq (.cond (t 60) .skip (.exit 2)) (.seq (.block 3 (.seq (.region 13 [q 61 (.mov (t 59)),q 62 (.indexAddr 80 (t 57) (t 59)),q 63 (.load 2 (t 62)),q 13 (.asg 0 (t 61) 3),q 14 (.asg 0 (t 63) 2)] false) (.region 14 [q 64 (.mov (t 8)),q 65 (.mov (t 11)),q 66 (.mov (t 13)),q 67 (.bin .add 3 (t 65) (t 66)),q 68 (.mov (t 0)),q 69 (.mov (t 8)),q 70 (.mov (t 11)),q 71 (.mov (t 13)),q 72 (.bin .add 3 (t 70) (t 71)),q 73 (.indexAddr 80 (t 69) (t 72)),q 74 (.load 2 (t 73)),q 75 (.mov (t 12)),q 76 (.mov (t 14)),q 77 (.bin .mul 2 (t 75) (t 76)),q 78 (.bin .sub 2 (t 74) (t 77)),q 79 (.call 0 (.func 183) [(t 68),(t 78)]),q 80 (.indexAddr 80 (t 64) (t 67)),⟨none,.store 2 (t 80) (t 79),none,[]⟩] false))) (.region 15 [q 81 (.bin .add 3 (t 59) (.const (.int .i64 1))),q 59 (.mov (t 81))] false)))))))))) (.region 8 [q 39 (.mov (t 11)),q 40 (.bin .sub 3 (t 39) (.const (.int .i64 1))),q 11 (.asg 0 (t 40) 3)] false)))))) (.seq (.region 16 [q 82 (.mov (t 9)),q 83 (.call 0 (.func 180) [(t 82)]),q 84 (.mov (t 8)),q 85 (.call 0 (.func 180) [(t 84)]),q 6 (.asg 1 (t 83) 80),q 7 (.asg 1 (t 85) 80)] false) .ret)))))))
def impl_prime_divide_L : Live:=[(0,[0,1,2]),(1,[0,1,2]),(2,[0,1,2,8]),(3,[8]),(4,[0,1,2,8]),(5,[0,2,8,9]),(6,[0,2,8,9,10]),(7,[0,2,8,9,10,11]),(8,[0,2,8,9,10,11]),(9,[0,2,8,9,10,11]),(10,[0,2,8,9,10,11,12]),(11,[0,2,8,9,10,11,12]),(12,[0,2,8,9,10,11,12,57,58,59]),(13,[0,2,8,9,10,11,12,57,58,59]),(14,[0,2,8,9,10,11,12,13,14,57,58,59]),(15,[0,2,8,9,10,11,12,57,58,59]),(16,[8,9]),(100021,[0,1,2,8,21]),(100038,[0,2,8,9,10,11,38]),(100060,[0,2,8,9,10,11,12,57,58,59,60])]
noncomputable def impl_prime_divide_l2 (a2 : (List Int)) (x467 : Int) (x468 : (List Int)) (x641 : Int) (r9 : Int) (a0 : Int) (x469 : (List Int)) (x661 : Int) (x662 : (List Int)) : Option ((Int × (List Int)) ⊕ ((List Int) × (List Int))) :=
 (if (decide (x661 < (a2.length : Int))) then (ifp (0 ≤ x661 ∧ x661 < ((a2.length : Nat) : Int)) ((ifp (0 ≤ IntKind.i64.wrap (x467 + x661) ∧ IntKind.i64.wrap (x467 + x661) < ((x662.length : Nat) : Int)) ((letp (IntKind.i64.wrap ((Int.tmod (IntKind.i64.wrap ((rd x468 x641.toNat) * r9)) a0) * (rd a2 x661.toNat))) fun x684=>(letp (IntKind.i64.wrap (((rd x662 (IntKind.i64.wrap (x467 + x661)).toNat)) - x684)) fun x686=>(Option.bind (impl_prime_reduce a0 x686) fun r688=>(ifp (0 ≤ IntKind.i64.wrap (x467 + x661) ∧ IntKind.i64.wrap (x467 + x661) < ((x662.length : Nat) : Int)) ((some (.inl ((IntKind.i64.wrap (x661 + 1),(x662.set (IntKind.i64.wrap (x467 + x661)).toNat r688)))))))))))))) else (some (.inr (((x662,(x469.set x467.toNat (Int.tmod (IntKind.i64.wrap ((rd x468 x641.toNat) * r9)) a0))))))))
noncomputable def impl_prime_divide_l1 (a2 : (List Int)) (a0 : Int) (r9 : Int) (x467 : Int) (x468 : (List Int)) (x469 : (List Int)) : Option ((Int × (List Int) × (List Int)) ⊕ ((List Int) × (List Int))) :=
 (if (decide (x467 ≥ 0)) then (Option.bind (α:=((List Int) × (List Int))) ((letp (IntKind.i64.wrap ((IntKind.i64.wrap (x467 + (a2.length : Int))) - 1)) fun x641=>(ifp (0 ≤ x641 ∧ x641 < ((x468.length : Nat) : Int)) ((ifp (a0 ≠ 0) ((ifp (0 ≤ x467 ∧ x467 < ((x469.length : Nat) : Int)) ((loopM (fun s : (Int × (List Int))=>impl_prime_divide_l2 a2 x467 x468 x641 r9 a0 x469 s.1 s.2) (0,x468)))))))))) fun ⟨x636,x637⟩=>(some (.inl ((IntKind.i64.wrap (x467 - 1),x636,x637))))) else (some (.inr (x468,x469))))
noncomputable def impl_prime_divide (a0 : Int) (a1 : (List Int)) (a2 : (List Int)) : Option ((List Int) × (List Int)) :=
 (Option.bind (slices_Clone_impl_row_int64_fresh a1) fun r1=>(if (decide ((a1.length : Int) < (a2.length : Int))) then (some ([],r1)) else (letp (IntKind.i64.wrap ((IntKind.i64.wrap ((a1.length : Int) - (a2.length : Int))) + 1)) fun x4=>(ifp (0 ≤ x4 ∧ x4 ≤ 140737488355328 ∧ 8 * x4 ≤ 140737488355328) ((Option.bind (impl_row_lead a2) fun r7=>(Option.bind (impl_prime_inverse a0 r7) fun r9=>(Option.bind (α:=((List Int) × (List Int))) ((letp (IntKind.i64.wrap ((((List.replicate x4.toNat (0 : Int)).length : Int)) - 1)) fun x355=>(loopM (fun s : (Int × (List Int) × (List Int))=>impl_prime_divide_l1 a2 a0 r9 s.1 s.2.1 s.2.2) (x355,r1,List.replicate x4.toNat (0 : Int))))) fun ⟨x350,x351⟩=>(Option.bind (impl_row_trimmed x351) fun r694=>(Option.bind (impl_row_trimmed x350) fun r696=>(some (r694,r696))))))))))))
theorem impl_prime_divide_ok (a0 : Int) (a1 : (List Int)) (a2 : (List Int)) (r : ((List Int) × (List Int))) (h : impl_prime_divide a0 a1 a2 = some r) : Den Try.prog 110 [(i6 a0),(eSi64 a1),(eSi64 a2)] { r:=(.tuple [(eSi64 r.1),(eSi64 r.2)]) }:=by
 refine den_of (rs:=[(eSi64 r.1),(eSi64 r.2)]) (ac:=impl_prime_divide_c) (L:=impl_prime_divide_L) (n:=86) (m:=[(6,1),(7,1),(8,2),(9,2)]) (c:=Try.f110.body.getD .skip) good Try.func110 (by kernel_rfl) (by kernel_rfl) Try.ntmps110 rfl rfl (by kernel_rfl) rfl rfl ?_
 refine ns ⟨[(0,i6 a0),(1,eSi64 a1),(2,eSi64 a2)],[]⟩ ?_
 unfold impl_prime_divide_c
 refine sr (vp (eSi64 ([])) rfl (vp (eSi64 ([])) rfl (nk ⟨[(0,i6 a0),(1,eSi64 a1),(2,eSi64 a2)],[]⟩ (sr (vp (eSi64 a1) rfl ?_)))))
 obtain ⟨r1,hr2,h⟩:=bind_some h
 refine a_callF (args:=[(eSi64 a1)]) (u:=[]) (u2:=[]) (r:=(.osl 2000000)) (fs:=[(1,r1.map (AV.int .i64))]) rfl rfl (slices_Clone_impl_row_int64_fresh_ok a1 r1 hr2) rfl rfl rfl (.inl rfl) rfl (vp (.osl 2600) rfl (nk ⟨[(0,i6 a0),(1,eSi64 a1),(2,eSi64 a2),(8,.osl 8)],[(8,bk (.row 1 (r1.map (AV.int .i64))))]⟩ (a_seq (sr (vp (eSi64 a1) rfl (vq (i6 (a1.length : Int)) (len_run rfl rfl) trivial (vp (eSi64 a2) rfl (vq (i6 (a2.length : Int)) (len_run rfl rfl) trivial (vp (.bool ((decide ((a1.length : Int) < (a2.length : Int))))) rfl ?_)))))))))
 refine nk ⟨[(0,i6 a0),(1,eSi64 a1),(2,eSi64 a2),(8,.osl 8),(21,.bool ((decide ((a1.length : Int) < (a2.length : Int)))))],[(8,bk (.row 1 (r1.map (AV.int .i64))))]⟩ ?_
 cases hb3 : (decide ((a1.length : Int) < (a2.length : Int)))
 ·have h:=ite_f hb3 h
  refine a_cond_f rfl (a_skip (nj ⟨[(0,i6 a0),(1,eSi64 a1),(2,eSi64 a2),(8,.osl 8)],[(8,bk (.row 1 (r1.map (AV.int .i64))))]⟩ (sr (vp (eSi64 a1) rfl (vq (i6 (a1.length : Int)) (len_run rfl rfl) trivial (vp (eSi64 a2) rfl (vq (i6 (a2.length : Int)) (len_run rfl rfl) trivial (vp (i6 (IntKind.i64.wrap ((a1.length : Int) - (a2.length : Int)))) rfl ?_))))))))
  obtain ⟨x4,hx5,h⟩:=letp_some h
  refine a_val' (v:=(i6 (IntKind.i64.wrap ((IntKind.i64.wrap ((a1.length : Int) - (a2.length : Int))) + 1)))) (v':=(i6 x4)) (u:=[]) (u':=[]) rfl (congrArg (fun z=>((i6 z) : AV)) hx5) rfl trivial rfl ?_
  obtain ⟨hc6,h⟩:=ifp_some h
  refine vu (.osl 3900) [(3900,bk (.row 1 ((List.replicate x4.toNat (0 : Int)).map (AV.int .i64))))] (mk_run (i:=⟨.int .i64,1,8,(.int .i64 0)⟩) (f:=(AV.int .i64)) (y:=(0 : Int)) rfl rfl rfl rfl rfl rfl) ⟨rfl,hc6.1,hc6.2.1,hc6.2.2,(Nat.le_of_ble_eq_true rfl)⟩ rfl (vp (.osl 3900) rfl (nk ⟨[(0,i6 a0),(2,eSi64 a2),(8,.osl 8),(9,.osl 9)],[(8,bk (.row 1 (r1.map (AV.int .i64)))),(9,bk (.row 1 ((List.replicate x4.toNat (0 : Int)).map (AV.int .i64))))]⟩ (sr (vp (i6 a0) rfl (vp (eSi64 a2) rfl ?_)))))
  obtain ⟨r7,hr8,h⟩:=bind_some h
  refine a_call (args:=[(eSi64 a2)]) (u:=[]) (r:=(i6 r7)) rfl rfl (impl_row_lead_ok a2 r7 hr8) rfl ?_
  obtain ⟨r9,hr10,h⟩:=bind_some h
  refine a_call (args:=[(i6 a0),(i6 r7)]) (u:=[]) (r:=(i6 r9)) rfl rfl (impl_prime_inverse_ok a0 r7 r9 hr10) rfl (vp (i6 r9) rfl (nk ⟨[(0,i6 a0),(2,eSi64 a2),(8,.osl 8),(9,.osl 9),(10,i6 r9)],[(8,bk (.row 1 (r1.map (AV.int .i64)))),(9,bk (.row 1 ((List.replicate x4.toNat (0 : Int)).map (AV.int .i64))))]⟩ ?_))
  obtain ⟨y352,hy353,hk354⟩:=bind_some h
  clear h
  refine a_join (emb:=fun (s : ((List Int) × (List Int)))=>⟨[(8,.osl 8),(9,.osl 9)],[(8,bk (.row 1 (s.1.map (AV.int .i64)))),(9,bk (.row 1 (s.2.map (AV.int .i64))))]⟩) (pre:=fun s=>s = y352) ?_ ?_
  ·rintro ⟨x350,x351⟩ rfl
   have h:=hk354
   refine ns ⟨[(8,.osl 8),(9,.osl 9)],[(8,bk (.row 1 (x350.map (AV.int .i64)))),(9,bk (.row 1 (x351.map (AV.int .i64))))]⟩ (sr (vp (.osl 9) rfl ?_))
   obtain ⟨r694,hr695,h⟩:=bind_some h
   refine a_call (args:=[(eSi64 x351)]) (u:=[(9,bf (.row 1 (x351.map (AV.int .i64))))]) (r:=(eSi64 r694)) rfl rfl (impl_row_trimmed_ok x351 r694 hr695) rfl (vp (.osl 8) rfl ?_)
   obtain ⟨r696,hr697,h⟩:=bind_some h
   refine a_call (args:=[(eSi64 x350)]) (u:=[(8,bf (.row 1 (x350.map (AV.int .i64))))]) (r:=(eSi64 r696)) rfl rfl (impl_row_trimmed_ok x350 r696 hr697) rfl (vp (eSi64 r694) rfl (vp (eSi64 r696) rfl (nx _ rfl (a_ret ?_))))
   refine ⟨.inr rfl,?_⟩
   rw [Try.results110]
   cases h
   exact ⟨_,_,_,_,_,rfl,trivial,.inl ⟨rfl,.inl rfl⟩,rfl,⟨_,_,_,_,_,rfl,trivial,.inl ⟨rfl,.inl rfl⟩,rfl,rfl⟩⟩
  ·have h:=hy353
   refine sr (vp (.osl 9) rfl (vq (i6 (((List.replicate x4.toNat (0 : Int)).length : Int))) (leno_run rfl rfl rfl) trivial ?_))
   obtain ⟨x355,hx356,h⟩:=letp_some h
   refine a_val' (v:=(i6 (IntKind.i64.wrap ((((List.replicate x4.toNat (0 : Int)).length : Int)) - 1)))) (v':=(i6 x355)) (u:=[]) (u':=[]) rfl (congrArg (fun z=>((i6 z) : AV)) hx356) rfl trivial rfl (vp (i6 x355) rfl (nk ⟨[(0,i6 a0),(2,eSi64 a2),(8,.osl 8),(9,.osl 9),(10,i6 r9),(11,i6 x355)],[(8,bk (.row 1 (r1.map (AV.int .i64)))),(9,bk (.row 1 ((List.replicate x4.toNat (0 : Int)).map (AV.int .i64))))]⟩ (a_block ?_)))
   refine a_loop (emb:=fun (s : (Int × (List Int) × (List Int)))=>⟨[(0,i6 a0),(2,eSi64 a2),(8,.osl 8),(9,.osl 9),(10,i6 r9),(11,i6 s.1)],[(8,bk (.row 1 (s.2.1.map (AV.int .i64)))),(9,bk (.row 1 (s.2.2.map (AV.int .i64))))]⟩) (body:=(fun s : (Int × (List Int) × (List Int))=>impl_prime_divide_l1 a2 a0 r9 s.1 s.2.1 s.2.2)) (G:=fun q=>some q = some y352) h rfl ?_ (by kernel_rfl)
   rintro X580 ⟨x467,x468,x469⟩ x581 h hX582
   have h : impl_prime_divide_l1 a2 a0 r9 x467 x468 x469 = some x581:=h
   refine ns ⟨[(0,i6 a0),(2,eSi64 a2),(8,.osl 8),(9,.osl 9),(10,i6 r9),(11,i6 x467)],[(8,bk (.row 1 (x468.map (AV.int .i64)))),(9,bk (.row 1 (x469.map (AV.int .i64))))]⟩ (a_seq (sr (vp (i6 x467) rfl (vp (.bool ((decide (x467 ≥ 0)))) rfl (nk ⟨[(0,i6 a0),(2,eSi64 a2),(8,.osl 8),(9,.osl 9),(10,i6 r9),(11,i6 x467),(38,.bool ((decide (x467 ≥ 0))))],[(8,bk (.row 1 (x468.map (AV.int .i64)))),(9,bk (.row 1 (x469.map (AV.int .i64))))]⟩ ?_)))))
   cases hb583 : (decide (x467 ≥ 0))
   ·have h:=ite_f hb583 h
    refine a_cond_f rfl (a_exit (t_exit ?_))
    cases h
    have h:=hX582
    refine t_exit (b_exit ?_)
    exact j_leaf (x468,x469) (Option.some.inj h) (by kernel_rfl)
   ·have h:=ite_t hb583 h
    refine a_cond_t rfl (a_skip (nj ⟨[(0,i6 a0),(2,eSi64 a2),(8,.osl 8),(9,.osl 9),(10,i6 r9),(11,i6 x467)],[(8,bk (.row 1 (x468.map (AV.int .i64)))),(9,bk (.row 1 (x469.map (AV.int .i64))))]⟩ ?_))
    obtain ⟨y638,hy639,hk640⟩:=bind_some h
    clear h
    refine a_join (emb:=fun (s : ((List Int) × (List Int)))=>⟨[(0,i6 a0),(2,eSi64 a2),(8,.osl 8),(9,.osl 9),(10,i6 r9),(11,i6 x467)],[(8,bk (.row 1 (s.1.map (AV.int .i64)))),(9,bk (.row 1 (s.2.map (AV.int .i64))))]⟩) (pre:=fun s=>s = y638) ?_ ?_
    ·rintro ⟨x636,x637⟩ rfl
     have h:=hk640
     refine ns ⟨[(0,i6 a0),(2,eSi64 a2),(8,.osl 8),(9,.osl 9),(10,i6 r9),(11,i6 x467)],[(8,bk (.row 1 (x636.map (AV.int .i64)))),(9,bk (.row 1 (x637.map (AV.int .i64))))]⟩ (a_region (vp (i6 x467) rfl (vp (i6 (IntKind.i64.wrap (x467 - 1))) rfl (vp (i6 (IntKind.i64.wrap (x467 - 1))) rfl (a_nil ?_)))))
     cases h
     exact a_again (by kernel_rfl) hX582
    ·have h:=hy639
     refine a_block (sr (vp (.osl 8) rfl (vp (i6 x467) rfl (vp (eSi64 a2) rfl (vq (i6 (a2.length : Int)) (len_run rfl rfl) trivial (vp (i6 (IntKind.i64.wrap (x467 + (a2.length : Int)))) rfl ?_))))))
     obtain ⟨x641,hx642,h⟩:=letp_some h
     refine a_val' (v:=(i6 (IntKind.i64.wrap ((IntKind.i64.wrap (x467 + (a2.length : Int))) - 1)))) (v':=(i6 x641)) (u:=[]) (u':=[]) rfl (congrArg (fun z=>((i6 z) : AV)) hx642) rfl trivial rfl ?_
     obtain ⟨hc643,h⟩:=ifp_some h
     refine vq (.own 8 [x641.toNat] [x641.toNat * 1]) rfl (lmap hc643) ?_
     have hl644 : LdOk [x641.toNat] (.row 1 (x468.map (AV.int .i64))) [x641.toNat * 1] 1 false (i6 (rd x468 x641.toNat)):=(.row (llt hc643) rfl (.nil rfl rfl rfl))
     refine vq (i6 (rd x468 x641.toNat)) (ld_own (i:=⟨.int .i64,1,8,(.int .i64 0)⟩) rfl rfl rfl hl644) hl644.c (vp (i6 r9) rfl (vp (i6 (IntKind.i64.wrap ((rd x468 x641.toNat) * r9))) rfl (vp (i6 a0) rfl ?_)))
     obtain ⟨hc645,h⟩:=ifp_some h
     refine vq (i6 (Int.tmod (IntKind.i64.wrap ((rd x468 x641.toNat) * r9)) a0)) rfl hc645 (vp (i6 (Int.tmod (IntKind.i64.wrap ((rd x468 x641.toNat) * r9)) a0)) rfl (nk ⟨[(0,i6 a0),(2,eSi64 a2),(8,.osl 8),(9,.osl 9),(10,i6 r9),(11,i6 x467),(12,i6 (Int.tmod (IntKind.i64.wrap ((rd x468 x641.toNat) * r9)) a0))],[(8,bk (.row 1 (x468.map (AV.int .i64)))),(9,bk (.row 1 (x469.map (AV.int .i64))))]⟩ (sr (vp (.osl 9) rfl (vp (i6 x467) rfl (vp (i6 (Int.tmod (IntKind.i64.wrap ((rd x468 x641.toNat) * r9)) a0)) rfl ?_))))))
     obtain ⟨hc646,h⟩:=ifp_some h
     refine vq (.own 9 [x467.toNat] [x467.toNat * 1]) rfl (lmap hc646) ?_
     have hs647 : StOk [x467.toNat] (.row 1 (x469.map (AV.int .i64))) [x467.toNat * 1] 1 (i6 (Int.tmod (IntKind.i64.wrap ((rd x468 x641.toNat) * r9)) a0)) (.row 1 (((x469.set x467.toNat (Int.tmod (IntKind.i64.wrap ((rd x468 x641.toNat) * r9)) a0))).map (AV.int .i64))):=(.row (y:=Int.tmod (IntKind.i64.wrap ((rd x468 x641.toNat) * r9)) a0) (llt hc646) rfl (.nil rfl rfl rfl rfl))
     refine vu .top [(9,bk (.row 1 (((x469.set x467.toNat (Int.tmod (IntKind.i64.wrap ((rd x468 x641.toNat) * r9)) a0))).map (AV.int .i64))))] (st_own (i:=⟨.int .i64,1,8,(.int .i64 0)⟩) rfl rfl (fun _=>rfl) rfl hs647) (hs647.c rfl) rfl (nk ⟨[(0,i6 a0),(2,eSi64 a2),(8,.osl 8),(9,.osl 9),(10,i6 r9),(11,i6 x467),(12,i6 (Int.tmod (IntKind.i64.wrap ((rd x468 x641.toNat) * r9)) a0))],[(8,bk (.row 1 (x468.map (AV.int .i64)))),(9,bk (.row 1 (((x469.set x467.toNat (Int.tmod (IntKind.i64.wrap ((rd x468 x641.toNat) * r9)) a0))).map (AV.int .i64))))]⟩ (sr (vp (eSi64 a2) rfl (vq (i6 (a2.length : Int)) (len_run rfl rfl) trivial (vp (i6 0) rfl (nk ⟨[(0,i6 a0),(2,eSi64 a2),(8,.osl 8),(9,.osl 9),(10,i6 r9),(11,i6 x467),(12,i6 (Int.tmod (IntKind.i64.wrap ((rd x468 x641.toNat) * r9)) a0)),(57,eSi64 a2),(58,i6 (a2.length : Int)),(59,i6 0)],[(8,bk (.row 1 (x468.map (AV.int .i64)))),(9,bk (.row 1 (((x469.set x467.toNat (Int.tmod (IntKind.i64.wrap ((rd x468 x641.toNat) * r9)) a0))).map (AV.int .i64))))]⟩ (a_block ?_)))))))
     refine a_loop (emb:=fun (s : (Int × (List Int)))=>⟨[(0,i6 a0),(2,eSi64 a2),(8,.osl 8),(9,.osl 9),(10,i6 r9),(11,i6 x467),(12,i6 (Int.tmod (IntKind.i64.wrap ((rd x468 x641.toNat) * r9)) a0)),(57,eSi64 a2),(58,i6 (a2.length : Int)),(59,i6 s.1)],[(8,bk (.row 1 (s.2.map (AV.int .i64)))),(9,bk (.row 1 (((x469.set x467.toNat (Int.tmod (IntKind.i64.wrap ((rd x468 x641.toNat) * r9)) a0))).map (AV.int .i64))))]⟩) (body:=(fun s : (Int × (List Int))=>impl_prime_divide_l2 a2 x467 x468 x641 r9 a0 x469 s.1 s.2)) (G:=fun q=>some q = some y638) h rfl ?_ (by kernel_rfl)
     rintro X676 ⟨x661,x662⟩ x677 h hX678
     have h : impl_prime_divide_l2 a2 x467 x468 x641 r9 a0 x469 x661 x662 = some x677:=h
     refine ns ⟨[(0,i6 a0),(2,eSi64 a2),(8,.osl 8),(9,.osl 9),(10,i6 r9),(11,i6 x467),(12,i6 (Int.tmod (IntKind.i64.wrap ((rd x468 x641.toNat) * r9)) a0)),(57,eSi64 a2),(58,i6 (a2.length : Int)),(59,i6 x661)],[(8,bk (.row 1 (x662.map (AV.int .i64)))),(9,bk (.row 1 (((x469.set x467.toNat (Int.tmod (IntKind.i64.wrap ((rd x468 x641.toNat) * r9)) a0))).map (AV.int .i64))))]⟩ (sr (vp (.bool ((decide (x661 < (a2.length : Int))))) rfl (nk ⟨[(0,i6 a0),(2,eSi64 a2),(8,.osl 8),(9,.osl 9),(10,i6 r9),(11,i6 x467),(12,i6 (Int.tmod (IntKind.i64.wrap ((rd x468 x641.toNat) * r9)) a0)),(57,eSi64 a2),(58,i6 (a2.length : Int)),(59,i6 x661),(60,.bool ((decide (x661 < (a2.length : Int)))))],[(8,bk (.row 1 (x662.map (AV.int .i64)))),(9,bk (.row 1 (((x469.set x467.toNat (Int.tmod (IntKind.i64.wrap ((rd x468 x641.toNat) * r9)) a0))).map (AV.int .i64))))]⟩ (a_seq ?_))))
     cases hb679 : (decide (x661 < (a2.length : Int)))
     ·have h:=ite_f hb679 h
      refine a_cond_f rfl (a_exit (t_exit ?_))
      cases h
      have h:=hX678
      refine t_exit (b_exit (b_norm ?_))
      exact j_leaf ((x662,(x469.set x467.toNat (Int.tmod (IntKind.i64.wrap ((rd x468 x641.toNat) * r9)) a0)))) (Option.some.inj h) (by kernel_rfl)
     ·have h:=ite_t hb679 h
      refine a_cond_t rfl (a_skip (nj ⟨[(0,i6 a0),(2,eSi64 a2),(8,.osl 8),(9,.osl 9),(10,i6 r9),(11,i6 x467),(12,i6 (Int.tmod (IntKind.i64.wrap ((rd x468 x641.toNat) * r9)) a0)),(57,eSi64 a2),(58,i6 (a2.length : Int)),(59,i6 x661)],[(8,bk (.row 1 (x662.map (AV.int .i64)))),(9,bk (.row 1 (((x469.set x467.toNat (Int.tmod (IntKind.i64.wrap ((rd x468 x641.toNat) * r9)) a0))).map (AV.int .i64))))]⟩ (a_seq (a_block (sr (vp (i6 x661) rfl ?_))))))
      obtain ⟨hc680,h⟩:=ifp_some h
      refine vq (.ref (.row 1 (a2.map (AV.int .i64))) [x661.toNat] [x661.toNat * 1]) rfl (lmap hc680) ?_
      have hl681 : LdOk [x661.toNat] (.row 1 (a2.map (AV.int .i64))) [x661.toNat * 1] 1 false (i6 (rd a2 x661.toNat)):=(.row (llt hc680) rfl (.nil rfl rfl rfl))
      refine vq (i6 (rd a2 x661.toNat)) (ld_ref (i:=⟨.int .i64,1,8,(.int .i64 0)⟩) rfl rfl hl681) hl681.c (vp (i6 x661) rfl (vp (i6 (rd a2 x661.toNat)) rfl (nk ⟨[(0,i6 a0),(2,eSi64 a2),(8,.osl 8),(9,.osl 9),(10,i6 r9),(11,i6 x467),(12,i6 (Int.tmod (IntKind.i64.wrap ((rd x468 x641.toNat) * r9)) a0)),(13,i6 x661),(14,i6 (rd a2 x661.toNat)),(57,eSi64 a2),(58,i6 (a2.length : Int)),(59,i6 x661)],[(8,bk (.row 1 (x662.map (AV.int .i64)))),(9,bk (.row 1 (((x469.set x467.toNat (Int.tmod (IntKind.i64.wrap ((rd x468 x641.toNat) * r9)) a0))).map (AV.int .i64))))]⟩ (a_region (vp (.osl 8) rfl (vp (i6 x467) rfl (vp (i6 x661) rfl (vp (i6 (IntKind.i64.wrap (x467 + x661))) rfl (vp (i6 a0) rfl ?_)))))))))
      refine vp (.osl 8) rfl (vp (i6 x467) rfl (vp (i6 x661) rfl (vp (i6 (IntKind.i64.wrap (x467 + x661))) rfl ?_)))
      obtain ⟨hc682,h⟩:=ifp_some h
      refine vq (.own 8 [(IntKind.i64.wrap (x467 + x661)).toNat] [(IntKind.i64.wrap (x467 + x661)).toNat * 1]) rfl (lmap hc682) ?_
      have hl683 : LdOk [(IntKind.i64.wrap (x467 + x661)).toNat] (.row 1 (x662.map (AV.int .i64))) [(IntKind.i64.wrap (x467 + x661)).toNat * 1] 1 false (i6 ((rd x662 (IntKind.i64.wrap (x467 + x661)).toNat))):=(.row (llt hc682) rfl (.nil rfl rfl rfl))
      refine vq (i6 ((rd x662 (IntKind.i64.wrap (x467 + x661)).toNat))) (ld_own (i:=⟨.int .i64,1,8,(.int .i64 0)⟩) rfl rfl rfl hl683) hl683.c (vp (i6 (Int.tmod (IntKind.i64.wrap ((rd x468 x641.toNat) * r9)) a0)) rfl (vp (i6 (rd a2 x661.toNat)) rfl ?_))
      obtain ⟨x684,hx685,h⟩:=letp_some h
      refine a_val' (v:=(i6 (IntKind.i64.wrap ((Int.tmod (IntKind.i64.wrap ((rd x468 x641.toNat) * r9)) a0) * (rd a2 x661.toNat))))) (v':=(i6 x684)) (u:=[]) (u':=[]) rfl (congrArg (fun z=>((i6 z) : AV)) hx685) rfl trivial rfl ?_
      obtain ⟨x686,hx687,h⟩:=letp_some h
      refine a_val' (v:=(i6 (IntKind.i64.wrap (((rd x662 (IntKind.i64.wrap (x467 + x661)).toNat)) - x684)))) (v':=(i6 x686)) (u:=[]) (u':=[]) rfl (congrArg (fun z=>((i6 z) : AV)) hx687) rfl trivial rfl ?_
      obtain ⟨r688,hr689,h⟩:=bind_some h
      refine a_call (args:=[(i6 a0),(i6 x686)]) (u:=[]) (r:=(i6 r688)) rfl rfl (impl_prime_reduce_ok a0 x686 r688 hr689) rfl ?_
      obtain ⟨hc690,h⟩:=ifp_some h
      refine vq (.own 8 [(IntKind.i64.wrap (x467 + x661)).toNat] [(IntKind.i64.wrap (x467 + x661)).toNat * 1]) rfl (lmap hc690) ?_
      have hs691 : StOk [(IntKind.i64.wrap (x467 + x661)).toNat] (.row 1 (x662.map (AV.int .i64))) [(IntKind.i64.wrap (x467 + x661)).toNat * 1] 1 (i6 r688) (.row 1 (((x662.set (IntKind.i64.wrap (x467 + x661)).toNat r688)).map (AV.int .i64))):=(.row (y:=r688) (llt hc690) rfl (.nil rfl rfl rfl rfl))
      refine vu .top [(8,bk (.row 1 (((x662.set (IntKind.i64.wrap (x467 + x661)).toNat r688)).map (AV.int .i64))))] (st_own (i:=⟨.int .i64,1,8,(.int .i64 0)⟩) rfl rfl (fun _=>rfl) rfl hs691) (hs691.c rfl) rfl (a_nil (b_norm (nj ⟨[(0,i6 a0),(2,eSi64 a2),(8,.osl 8),(9,.osl 9),(10,i6 r9),(11,i6 x467),(12,i6 (Int.tmod (IntKind.i64.wrap ((rd x468 x641.toNat) * r9)) a0)),(57,eSi64 a2),(58,i6 (a2.length : Int)),(59,i6 x661)],[(8,bk (.row 1 (((x662.set (IntKind.i64.wrap (x467 + x661)).toNat r688)).map (AV.int .i64)))),(9,bk (.row 1 (((x469.set x467.toNat (Int.tmod (IntKind.i64.wrap ((rd x468 x641.toNat) * r9)) a0))).map (AV.int .i64))))]⟩ (a_region (vp (i6 (IntKind.i64.wrap (x661 + 1))) rfl (vp (i6 (IntKind.i64.wrap (x661 + 1))) rfl (a_nil ?_)))))))
      cases h
      exact a_again (by kernel_rfl) hX678
 ·have h:=ite_t hb3 h
  refine a_cond_t rfl (sr (vp (.osl 8) rfl (vp (eSi64 ([])) rfl (vu (eSi64 r1) [(8,bf (.row 1 (r1.map (AV.int .i64))))] rfl trivial rfl (nx _ rfl (a_ret (t_ret ?_)))))))
  refine ⟨.inr rfl,?_⟩
  rw [Try.results110]
  cases h
  exact ⟨_,_,_,_,_,rfl,trivial,.inl ⟨rfl,.inl rfl⟩,rfl,⟨_,_,_,_,_,rfl,trivial,.inl ⟨rfl,.inl rfl⟩,rfl,rfl⟩⟩
def impl_prime_rest_c : ACode:=(.seq (.region 0 [q 6 (.asg 1 (.const (.slice none 0 0)) 80)] false) (.seq (.region 1 [q 10 (.mov (t 0)),q 11 (.mov (t 1)),q 12 (.mov (t 2)),q 13 (.call 0 (.func 110) [(t 10),(t 11),(t 12)]),q 9 (.mov (t 13)),q 14 (.extract (t 9) 0),q 15 (.extract (t 9) 1),q 7 (.asg 1 (t 14) 80),q 8 (.asg 1 (t 15) 80)] false) (.seq (.region 2 [q 16 (.mov (t 8)),q 6 (.asg 1 (t 16) 80)] false) .ret)))
def impl_prime_rest_L : Live:=[(0,[0,1,2]),(1,[0,1,2]),(2,[8])]
noncomputable def impl_prime_rest (a0 : Int) (a1 : (List Int)) (a2 : (List Int)) : Option (List Int) :=
 (Option.bind (impl_prime_divide a0 a1 a2) fun r1=>(some r1.2))
theorem impl_prime_rest_ok (a0 : Int) (a1 : (List Int)) (a2 : (List Int)) (r : (List Int)) (h : impl_prime_rest a0 a1 a2 = some r) : Den Try.prog 162 [(i6 a0),(eSi64 a1),(eSi64 a2)] { r:=(eSi64 r) }:=by
 refine den_of (rs:=[(eSi64 r)]) (ac:=impl_prime_rest_c) (L:=impl_prime_rest_L) (n:=17) (m:=[(6,1),(7,1),(8,1)]) (c:=Try.f162.body.getD .skip) good Try.func162 (by kernel_rfl) (by kernel_rfl) Try.ntmps162 rfl rfl (by kernel_rfl) rfl rfl ?_
 refine ns ⟨[(0,i6 a0),(1,eSi64 a1),(2,eSi64 a2)],[]⟩ ?_
 unfold impl_prime_rest_c
 refine sr (vp (eSi64 ([])) rfl (nk ⟨[(0,i6 a0),(1,eSi64 a1),(2,eSi64 a2)],[]⟩ (sr (vp (i6 a0) rfl (vp (eSi64 a1) rfl (vp (eSi64 a2) rfl ?_))))))
 obtain ⟨r1,hr2,h⟩:=bind_some h
 refine a_call (args:=[(i6 a0),(eSi64 a1),(eSi64 a2)]) (u:=[]) (r:=(.tuple [(eSi64 r1.1),(eSi64 r1.2)])) rfl rfl (impl_prime_divide_ok a0 a1 a2 r1 hr2) rfl (vp (.tuple [(eSi64 r1.1),(eSi64 r1.2)]) rfl (vb (eSi64 r1.1) rfl rfl (vb (eSi64 r1.2) rfl rfl (vp (eSi64 r1.1) rfl (vp (eSi64 r1.2) rfl (nk ⟨[(8,eSi64 r1.2)],[]⟩ (sr (vp (eSi64 r1.2) rfl (vp (eSi64 r1.2) rfl ?_)))))))))
 refine nx _ rfl (a_ret ?_)
 refine ⟨.inr rfl,?_⟩
 rw [Try.results162]
 cases h
 exact ⟨_,_,_,_,_,rfl,trivial,.inl ⟨rfl,.inl rfl⟩,rfl,rfl⟩
def impl_prime_times_c : ACode:=(.seq (.region 0 [q 6 (.asg 1 (.const (.slice none 0 0)) 80)] false) (.seq (.seq (.region 1 [q 14 (.mov (t 1)),q 15 (.blt 0 .len [(t 14)] [80]),q 16 (.bin .eql 3 (t 15) (.const (.int .i64 0))),q 17 (.mov (t 16)),⟨some 18,.mov (t 2),some (17,false),[]⟩,⟨some 19,.blt 0 .len [(t 18)] [80],some (17,false),[]⟩,⟨some 20,.bin .eql 3 (t 19) (.const (.int .i64 0)),some (17,false),[]⟩,q 21 (.pick (t 17) (.const (.bool true)) (t 20))] false) (.cond (t 21) (.seq (.region 2 [q 6 (.asg 1 (.const (.slice none 0 0)) 80)] false) .ret) .skip)) (.seq (.region 3 [q 22 (.mov (t 1)),q 23 (.blt 0 .len [(t 22)] [80]),q 24 (.mov (t 2)),q 25 (.blt 0 .len [(t 24)] [80]),q 26 (.bin .add 3 (t 23) (t 25)),q 27 (.bin .sub 3 (t 26) (.const (.int .i64 1))),q 28 (.mkslice 80 (t 27) (t 27)),q 7 (.asg 2 (t 28) 80)] false) (.seq (.seq (.region 4 [q 29 (.mov (t 1)),q 30 (.blt 0 .len [(t 29)] [80]),q 31 (.mov (.const (.int .i64 0)))] false) (.block 0 (.loop (.seq (.region 5 [q 32 (.bin .lss 3 (t 31) (t 30))] false) (.seq (.cond (t 32) .skip (.exit 0)) (.seq (.block 1 (.seq (.region 6 [q 33 (.mov (t 31)),q 34 (.indexAddr 80 (t 29) (t 31)),q 35 (.load 2 (t 34)),q 8 (.asg 0 (t 33) 3),q 9 (.asg 0 (t 35) 2)] false) (.seq (.region 7 [q 36 (.mov (t 2)),q 37 (.blt 0 .len [(t 36)] [80]),q 38 (.mov (.const (.int .i64 0)))] false) (.block 2 (.loop (.seq (.region 8 [q 39 (.bin .lss 3 (t 38) (t 37))] false) (.seq (.cond (t 39) .skip (.exit 2)) (.seq (.block 3 (.seq (.region 9 [q 40 (.mov (t 38)),q 41 (.indexAddr 80 (t 36) (t 38)),q 42 (.load 2 (t 41)),q 10 (.asg 0 (t 40) 3),q 11 (.asg 0 (t 42) 2)] false) (.region 10 [q 43 (.mov (t 7)),q 44 (.mov (t 8)),q 45 (.mov (t 10)),q 46 (.bin .add 3 (t 44) (t 45)),q 47 (.indexAddr 80 (t 43) (t 46)),q 48 (.load 2 (t 47)),q 49 (.mov (t 9)),q 50 (.mov (t 11)),q 51 (.bin .mul 2 (t 49) (t 50)),q 52 (.bin .add 2 (t 48) (t 51)),q 53 (.indexAddr 80 (t 43) (t 46)),⟨none,.store 2 (t 53) (t 52),none,[]⟩] false))) (.region 11 [q 54 (.bin .add 3 (t 38) (.const (.int .i64 1))),q 38 (.mov (t 54))] false))))))))) (.region 12 [q 55 (.bin .add 3 (t 31) (.const (.int .i64 1))),q 31 (.mov (t 55))] false))))))) (.seq (.seq (.region 13 [q 56 (.mov (t 7)),q 57 (.blt 0 .len [(t 56)] [80]),q 58 (.mov (.const (.int .i64 0)))] false) (.block 4 (.loop (.seq (.region 14 [q 59 (.bin .lss 3 (t 58) (t 57))] false) (.seq (.cond (t 59) .skip (.exit 4)) (.seq (.block 5 (.seq (.region 15 [q 60 (.mov (t 58)),q 61 (.indexAddr 80 (t 56) (t 58)),q 62 (.load 2 (t 61)),q 12 (.asg 0 (t 60) 3),q 13 (.asg 0 (t 62) 2)] false) (.region 16 [q 63 (.mov (t 7)),q 64 (.mov (t 12)),q 65 (.mov (t 13)),q 66 (.mov (t 0)),q 67 (.bin .rem 2 (t 65) (t 66)),q 68 (.indexAddr 80 (t 63) (t 64)),⟨none,.store 2 (t 68) (t 67),none,[]⟩] false))) (.region 17 [q 69 (.bin .add 3 (t 58) (.const (.int .i64 1))),q 58 (.mov (t 69))] false))))))) (.seq (.region 18 [q 70 (.mov (t 7)),q 71 (.call 0 (.func 180) [(t 70)]),q 6 (.asg 1 (t 71) 80)] false) .ret))))))
def impl_prime_times_L : Live:=[(0,[0,1,2]),(1,[0,1,2]),(2,[]),(3,[0,1,2]),(4,[0,1,2,7]),(5,[0,2,7,29,30,31]),(6,[0,2,7,29,30,31]),(7,[0,2,7,8,9,29,30,31]),(8,[0,2,7,8,9,29,30,31,36,37,38]),(9,[0,2,7,8,9,29,30,31,36,37,38]),(10,[0,2,7,8,9,10,11,29,30,31,36,37,38]),(11,[0,2,7,8,9,29,30,31,36,37,38]),(12,[0,2,7,29,30,31]),(13,[0,7]),(14,[0,7,56,57,58]),(15,[0,7,56,57,58]),(16,[0,7,12,13,56,57,58]),(17,[0,7,56,57,58]),(18,[7]),(100021,[0,1,2,21]),(100032,[0,2,7,29,30,31,32]),(100039,[0,2,7,8,9,29,30,31,36,37,38,39]),(100059,[0,7,56,57,58,59])]
noncomputable def impl_prime_times_l2 (a2 : (List Int)) (x353 : Int) (a1 : (List Int)) (x492 : Int) (x493 : (List Int)) : Option ((Int × (List Int)) ⊕ (List Int)) :=
 (if (decide (x492 < (a2.length : Int))) then (ifp (0 ≤ x492 ∧ x492 < ((a2.length : Nat) : Int)) ((ifp (0 ≤ IntKind.i64.wrap (x353 + x492) ∧ IntKind.i64.wrap (x353 + x492) < ((x493.length : Nat) : Int)) ((letp (IntKind.i64.wrap (((rd x493 (IntKind.i64.wrap (x353 + x492)).toNat)) + (IntKind.i64.wrap ((rd a1 x353.toNat) * (rd a2 x492.toNat))))) fun x511=>(ifp (0 ≤ IntKind.i64.wrap (x353 + x492) ∧ IntKind.i64.wrap (x353 + x492) < ((x493.length : Nat) : Int)) ((some (.inl ((IntKind.i64.wrap (x492 + 1),(x493.set (IntKind.i64.wrap (x353 + x492)).toNat x511)))))))))))) else (some (.inr x493)))
noncomputable def impl_prime_times_l1 (a1 : (List Int)) (a2 : (List Int)) (x353 : Int) (x354 : (List Int)) : Option ((Int × (List Int)) ⊕ (List Int)) :=
 (if (decide (x353 < (a1.length : Int))) then (Option.bind (α:=(List Int)) ((ifp (0 ≤ x353 ∧ x353 < ((a1.length : Nat) : Int)) ((loopM (fun s : (Int × (List Int))=>impl_prime_times_l2 a2 x353 a1 s.1 s.2) (0,x354))))) fun x475=>(some (.inl ((IntKind.i64.wrap (x353 + 1),x475))))) else (some (.inr x354)))
noncomputable def impl_prime_times_l3 (x262 : (List Int)) (a0 : Int) (x551 : Int) (x552 : (List Int)) : Option ((Int × (List Int)) ⊕ (List Int)) :=
 (if (decide (x551 < (x262.length : Int))) then (ifp (0 ≤ x551 ∧ x551 < ((x552.length : Nat) : Int)) ((ifp (a0 ≠ 0) ((ifp (0 ≤ x551 ∧ x551 < ((x552.length : Nat) : Int)) ((some (.inl ((IntKind.i64.wrap (x551 + 1),(x552.set x551.toNat (Int.tmod (rd x552 x551.toNat) a0)))))))))))) else (some (.inr x552)))
noncomputable def impl_prime_times (a0 : Int) (a1 : (List Int)) (a2 : (List Int)) : Option (List Int) :=
 (Option.bind (α:=Bool) ((if ((a1.length : Int) == 0) then (some true) else (some (((a2.length : Int) == 0))))) fun x2=>(if x2 then (some ([])) else (letp (IntKind.i64.wrap ((IntKind.i64.wrap ((a1.length : Int) + (a2.length : Int))) - 1)) fun x8=>(ifp (0 ≤ x8 ∧ x8 ≤ 140737488355328 ∧ 8 * x8 ≤ 140737488355328) ((Option.bind (α:=(List Int)) ((loopM (fun s : (Int × (List Int))=>impl_prime_times_l1 a1 a2 s.1 s.2) (0,List.replicate x8.toNat (0 : Int)))) fun x262=>(Option.bind (α:=(List Int)) ((loopM (fun s : (Int × (List Int))=>impl_prime_times_l3 x262 a0 s.1 s.2) (0,x262))) fun x541=>(Option.bind (impl_row_trimmed x541) fun r569=>(some r569)))))))))
theorem impl_prime_times_ok (a0 : Int) (a1 : (List Int)) (a2 : (List Int)) (r : (List Int)) (h : impl_prime_times a0 a1 a2 = some r) : Den Try.prog 102 [(i6 a0),(eSi64 a1),(eSi64 a2)] { r:=(eSi64 r) }:=by
 refine den_of (rs:=[(eSi64 r)]) (ac:=impl_prime_times_c) (L:=impl_prime_times_L) (n:=72) (m:=[(6,1),(7,2)]) (c:=Try.f102.body.getD .skip) good Try.func102 (by kernel_rfl) (by kernel_rfl) Try.ntmps102 rfl rfl (by kernel_rfl) rfl rfl ?_
 refine ns ⟨[(0,i6 a0),(1,eSi64 a1),(2,eSi64 a2)],[]⟩ ?_
 unfold impl_prime_times_c
 refine sr (vp (eSi64 ([])) rfl (nk ⟨[(0,i6 a0),(1,eSi64 a1),(2,eSi64 a2)],[]⟩ (a_seq ?_)))
 obtain ⟨y3,hy4,hk5⟩:=bind_some h
 clear h
 refine a_join (emb:=fun (s : Bool)=>⟨[(0,i6 a0),(1,eSi64 a1),(2,eSi64 a2),(21,.bool s)],[]⟩) (pre:=fun s=>s = y3) ?_ ?_
 ·rintro x2 rfl
  have h:=hk5
  refine ns ⟨[(0,i6 a0),(1,eSi64 a1),(2,eSi64 a2),(21,.bool x2)],[]⟩ ?_
  cases hb7 : x2
  ·have h:=ite_f hb7 h
   refine a_cond_f rfl (a_skip (nj ⟨[(0,i6 a0),(1,eSi64 a1),(2,eSi64 a2)],[]⟩ (sr (vp (eSi64 a1) rfl (vq (i6 (a1.length : Int)) (len_run rfl rfl) trivial (vp (eSi64 a2) rfl (vq (i6 (a2.length : Int)) (len_run rfl rfl) trivial (vp (i6 (IntKind.i64.wrap ((a1.length : Int) + (a2.length : Int)))) rfl ?_))))))))
   obtain ⟨x8,hx9,h⟩:=letp_some h
   refine a_val' (v:=(i6 (IntKind.i64.wrap ((IntKind.i64.wrap ((a1.length : Int) + (a2.length : Int))) - 1)))) (v':=(i6 x8)) (u:=[]) (u':=[]) rfl (congrArg (fun z=>((i6 z) : AV)) hx9) rfl trivial rfl ?_
   obtain ⟨hc10,h⟩:=ifp_some h
   refine vu (.osl 3800) [(3800,bk (.row 1 ((List.replicate x8.toNat (0 : Int)).map (AV.int .i64))))] (mk_run (i:=⟨.int .i64,1,8,(.int .i64 0)⟩) (f:=(AV.int .i64)) (y:=(0 : Int)) rfl rfl rfl rfl rfl rfl) ⟨rfl,hc10.1,hc10.2.1,hc10.2.2,(Nat.le_of_ble_eq_true rfl)⟩ rfl (vp (.osl 3800) rfl (nk ⟨[(0,i6 a0),(1,eSi64 a1),(2,eSi64 a2),(7,.osl 7)],[(7,bk (.row 1 ((List.replicate x8.toNat (0 : Int)).map (AV.int .i64))))]⟩ ?_))
   obtain ⟨y263,hy264,hk265⟩:=bind_some h
   clear h
   refine a_join (emb:=fun (s : (List Int))=>⟨[(0,i6 a0),(7,.osl 7)],[(7,bk (.row 1 (s.map (AV.int .i64))))]⟩) (pre:=fun s=>s = y263) ?_ ?_
   ·rintro x262 rfl
    have h:=hk265
    refine ns ⟨[(0,i6 a0),(7,.osl 7)],[(7,bk (.row 1 (x262.map (AV.int .i64))))]⟩ ?_
    obtain ⟨y542,hy543,hk544⟩:=bind_some h
    clear h
    refine a_join (emb:=fun (s : (List Int))=>⟨[(7,.osl 7)],[(7,bk (.row 1 (s.map (AV.int .i64))))]⟩) (pre:=fun s=>s = y542) ?_ ?_
    ·rintro x541 rfl
     have h:=hk544
     refine ns ⟨[(7,.osl 7)],[(7,bk (.row 1 (x541.map (AV.int .i64))))]⟩ (sr (vp (.osl 7) rfl ?_))
     obtain ⟨r569,hr570,h⟩:=bind_some h
     refine a_call (args:=[(eSi64 x541)]) (u:=[(7,bf (.row 1 (x541.map (AV.int .i64))))]) (r:=(eSi64 r569)) rfl rfl (impl_row_trimmed_ok x541 r569 hr570) rfl (vp (eSi64 r569) rfl (nx _ rfl (a_ret ?_)))
     refine ⟨.inr rfl,?_⟩
     rw [Try.results102]
     cases h
     exact ⟨_,_,_,_,_,rfl,trivial,.inl ⟨rfl,.inl rfl⟩,rfl,rfl⟩
    ·have h:=hy543
     refine sr (vp (.osl 7) rfl (vq (i6 (x262.length : Int)) (leno_run rfl rfl rfl) trivial (vp (i6 0) rfl (nk ⟨[(0,i6 a0),(7,.osl 7),(56,.osl 7),(57,i6 (x262.length : Int)),(58,i6 0)],[(7,bk (.row 1 (x262.map (AV.int .i64))))]⟩ (a_block ?_)))))
     refine a_loop (emb:=fun (s : (Int × (List Int)))=>⟨[(0,i6 a0),(7,.osl 7),(56,.osl 7),(57,i6 (x262.length : Int)),(58,i6 s.1)],[(7,bk (.row 1 (s.2.map (AV.int .i64))))]⟩) (body:=(fun s : (Int × (List Int))=>impl_prime_times_l3 x262 a0 s.1 s.2)) (G:=fun q=>some q = some y542) h rfl ?_ (by kernel_rfl)
     rintro X559 ⟨x551,x552⟩ x560 h hX561
     have h : impl_prime_times_l3 x262 a0 x551 x552 = some x560:=h
     refine ns ⟨[(0,i6 a0),(7,.osl 7),(56,.osl 7),(57,i6 (x262.length : Int)),(58,i6 x551)],[(7,bk (.row 1 (x552.map (AV.int .i64))))]⟩ (sr (vp (.bool ((decide (x551 < (x262.length : Int))))) rfl (nk ⟨[(0,i6 a0),(7,.osl 7),(56,.osl 7),(57,i6 (x262.length : Int)),(58,i6 x551),(59,.bool ((decide (x551 < (x262.length : Int)))))],[(7,bk (.row 1 (x552.map (AV.int .i64))))]⟩ (a_seq ?_))))
     cases hb562 : (decide (x551 < (x262.length : Int)))
     ·have h:=ite_f hb562 h
      refine a_cond_f rfl (a_exit (t_exit ?_))
      cases h
      have h:=hX561
      refine t_exit (b_exit ?_)
      exact j_leaf x552 (Option.some.inj h) (by kernel_rfl)
     ·have h:=ite_t hb562 h
      refine a_cond_t rfl (a_skip (nj ⟨[(0,i6 a0),(7,.osl 7),(56,.osl 7),(57,i6 (x262.length : Int)),(58,i6 x551)],[(7,bk (.row 1 (x552.map (AV.int .i64))))]⟩ (a_seq (a_block (sr (vp (i6 x551) rfl ?_))))))
      obtain ⟨hc563,h⟩:=ifp_some h
      refine vq (.own 7 [x551.toNat] [x551.toNat * 1]) rfl (lmap hc563) ?_
      have hl564 : LdOk [x551.toNat] (.row 1 (x552.map (AV.int .i64))) [x551.toNat * 1] 1 false (i6 (rd x552 x551.toNat)):=(.row (llt hc563) rfl (.nil rfl rfl rfl))
      refine vq (i6 (rd x552 x551.toNat)) (ld_own (i:=⟨.int .i64,1,8,(.int .i64 0)⟩) rfl rfl rfl hl564) hl564.c (vp (i6 x551) rfl (vp (i6 (rd x552 x551.toNat)) rfl (nk ⟨[(0,i6 a0),(7,.osl 7),(12,i6 x551),(13,i6 (rd x552 x551.toNat)),(56,.osl 7),(57,i6 (x262.length : Int)),(58,i6 x551)],[(7,bk (.row 1 (x552.map (AV.int .i64))))]⟩ (a_region (vp (.osl 7) rfl (vp (i6 x551) rfl (vp (i6 (rd x552 x551.toNat)) rfl (vp (i6 a0) rfl ?_))))))))
      obtain ⟨hc565,h⟩:=ifp_some h
      refine vq (i6 (Int.tmod (rd x552 x551.toNat) a0)) rfl hc565 ?_
      obtain ⟨hc566,h⟩:=ifp_some h
      refine vq (.own 7 [x551.toNat] [x551.toNat * 1]) rfl (lmap hc566) ?_
      have hs567 : StOk [x551.toNat] (.row 1 (x552.map (AV.int .i64))) [x551.toNat * 1] 1 (i6 (Int.tmod (rd x552 x551.toNat) a0)) (.row 1 (((x552.set x551.toNat (Int.tmod (rd x552 x551.toNat) a0))).map (AV.int .i64))):=(.row (y:=Int.tmod (rd x552 x551.toNat) a0) (llt hc566) rfl (.nil rfl rfl rfl rfl))
      refine vu .top [(7,bk (.row 1 (((x552.set x551.toNat (Int.tmod (rd x552 x551.toNat) a0))).map (AV.int .i64))))] (st_own (i:=⟨.int .i64,1,8,(.int .i64 0)⟩) rfl rfl (fun _=>rfl) rfl hs567) (hs567.c rfl) rfl (a_nil (b_norm (nj ⟨[(0,i6 a0),(7,.osl 7),(56,.osl 7),(57,i6 (x262.length : Int)),(58,i6 x551)],[(7,bk (.row 1 (((x552.set x551.toNat (Int.tmod (rd x552 x551.toNat) a0))).map (AV.int .i64))))]⟩ (a_region (vp (i6 (IntKind.i64.wrap (x551 + 1))) rfl (vp (i6 (IntKind.i64.wrap (x551 + 1))) rfl (a_nil ?_)))))))
      cases h
      exact a_again (by kernel_rfl) hX561
   ·have h:=hy264
    refine sr (vp (eSi64 a1) rfl (vq (i6 (a1.length : Int)) (len_run rfl rfl) trivial (vp (i6 0) rfl (nk ⟨[(0,i6 a0),(2,eSi64 a2),(7,.osl 7),(29,eSi64 a1),(30,i6 (a1.length : Int)),(31,i6 0)],[(7,bk (.row 1 ((List.replicate x8.toNat (0 : Int)).map (AV.int .i64))))]⟩ (a_block ?_)))))
    refine a_loop (emb:=fun (s : (Int × (List Int)))=>⟨[(0,i6 a0),(2,eSi64 a2),(7,.osl 7),(29,eSi64 a1),(30,i6 (a1.length : Int)),(31,i6 s.1)],[(7,bk (.row 1 (s.2.map (AV.int .i64))))]⟩) (body:=(fun s : (Int × (List Int))=>impl_prime_times_l1 a1 a2 s.1 s.2)) (G:=fun q=>some q = some y263) h rfl ?_ (by kernel_rfl)
    rintro X434 ⟨x353,x354⟩ x435 h hX436
    have h : impl_prime_times_l1 a1 a2 x353 x354 = some x435:=h
    refine ns ⟨[(0,i6 a0),(2,eSi64 a2),(7,.osl 7),(29,eSi64 a1),(30,i6 (a1.length : Int)),(31,i6 x353)],[(7,bk (.row 1 (x354.map (AV.int .i64))))]⟩ (sr (vp (.bool ((decide (x353 < (a1.length : Int))))) rfl (nk ⟨[(0,i6 a0),(2,eSi64 a2),(7,.osl 7),(29,eSi64 a1),(30,i6 (a1.length : Int)),(31,i6 x353),(32,.bool ((decide (x353 < (a1.length : Int)))))],[(7,bk (.row 1 (x354.map (AV.int .i64))))]⟩ (a_seq ?_))))
    cases hb437 : (decide (x353 < (a1.length : Int)))
    ·have h:=ite_f hb437 h
     refine a_cond_f rfl (a_exit (t_exit ?_))
     cases h
     have h:=hX436
     refine t_exit (b_exit ?_)
     exact j_leaf x354 (Option.some.inj h) (by kernel_rfl)
    ·have h:=ite_t hb437 h
     refine a_cond_t rfl (a_skip (nj ⟨[(0,i6 a0),(2,eSi64 a2),(7,.osl 7),(29,eSi64 a1),(30,i6 (a1.length : Int)),(31,i6 x353)],[(7,bk (.row 1 (x354.map (AV.int .i64))))]⟩ ?_))
     obtain ⟨y476,hy477,hk478⟩:=bind_some h
     clear h
     refine a_join (emb:=fun (s : (List Int))=>⟨[(0,i6 a0),(2,eSi64 a2),(7,.osl 7),(29,eSi64 a1),(30,i6 (a1.length : Int)),(31,i6 x353)],[(7,bk (.row 1 (s.map (AV.int .i64))))]⟩) (pre:=fun s=>s = y476) ?_ ?_
     ·rintro x475 rfl
      have h:=hk478
      refine ns ⟨[(0,i6 a0),(2,eSi64 a2),(7,.osl 7),(29,eSi64 a1),(30,i6 (a1.length : Int)),(31,i6 x353)],[(7,bk (.row 1 (x475.map (AV.int .i64))))]⟩ (a_region (vp (i6 (IntKind.i64.wrap (x353 + 1))) rfl (vp (i6 (IntKind.i64.wrap (x353 + 1))) rfl (a_nil ?_))))
      cases h
      exact a_again (by kernel_rfl) hX436
     ·have h:=hy477
      refine a_block (sr (vp (i6 x353) rfl ?_))
      obtain ⟨hc479,h⟩:=ifp_some h
      refine vq (.ref (.row 1 (a1.map (AV.int .i64))) [x353.toNat] [x353.toNat * 1]) rfl (lmap hc479) ?_
      have hl480 : LdOk [x353.toNat] (.row 1 (a1.map (AV.int .i64))) [x353.toNat * 1] 1 false (i6 (rd a1 x353.toNat)):=(.row (llt hc479) rfl (.nil rfl rfl rfl))
      refine vq (i6 (rd a1 x353.toNat)) (ld_ref (i:=⟨.int .i64,1,8,(.int .i64 0)⟩) rfl rfl hl480) hl480.c (vp (i6 x353) rfl (vp (i6 (rd a1 x353.toNat)) rfl (nk ⟨[(0,i6 a0),(2,eSi64 a2),(7,.osl 7),(8,i6 x353),(9,i6 (rd a1 x353.toNat)),(29,eSi64 a1),(30,i6 (a1.length : Int)),(31,i6 x353)],[(7,bk (.row 1 (x354.map (AV.int .i64))))]⟩ (sr (vp (eSi64 a2) rfl (vq (i6 (a2.length : Int)) (len_run rfl rfl) trivial (vp (i6 0) rfl (nk ⟨[(0,i6 a0),(2,eSi64 a2),(7,.osl 7),(8,i6 x353),(9,i6 (rd a1 x353.toNat)),(29,eSi64 a1),(30,i6 (a1.length : Int)),(31,i6 x353),(36,eSi64 a2),(37,i6 (a2.length : Int)),(38,i6 0)],[(7,bk (.row 1 (x354.map (AV.int .i64))))]⟩ (a_block ?_)))))))))
      refine a_loop (emb:=fun (s : (Int × (List Int)))=>⟨[(0,i6 a0),(2,eSi64 a2),(7,.osl 7),(8,i6 x353),(9,i6 (rd a1 x353.toNat)),(29,eSi64 a1),(30,i6 (a1.length : Int)),(31,i6 x353),(36,eSi64 a2),(37,i6 (a2.length : Int)),(38,i6 s.1)],[(7,bk (.row 1 (s.2.map (AV.int .i64))))]⟩) (body:=(fun s : (Int × (List Int))=>impl_prime_times_l2 a2 x353 a1 s.1 s.2)) (G:=fun q=>some q = some y476) h rfl ?_ (by kernel_rfl)
      rintro X503 ⟨x492,x493⟩ x504 h hX505
      have h : impl_prime_times_l2 a2 x353 a1 x492 x493 = some x504:=h
      refine ns ⟨[(0,i6 a0),(2,eSi64 a2),(7,.osl 7),(8,i6 x353),(9,i6 (rd a1 x353.toNat)),(29,eSi64 a1),(30,i6 (a1.length : Int)),(31,i6 x353),(36,eSi64 a2),(37,i6 (a2.length : Int)),(38,i6 x492)],[(7,bk (.row 1 (x493.map (AV.int .i64))))]⟩ (sr (vp (.bool ((decide (x492 < (a2.length : Int))))) rfl (nk ⟨[(0,i6 a0),(2,eSi64 a2),(7,.osl 7),(8,i6 x353),(9,i6 (rd a1 x353.toNat)),(29,eSi64 a1),(30,i6 (a1.length : Int)),(31,i6 x353),(36,eSi64 a2),(37,i6 (a2.length : Int)),(38,i6 x492),(39,.bool ((decide (x492 < (a2.length : Int)))))],[(7,bk (.row 1 (x493.map (AV.int .i64))))]⟩ (a_seq ?_))))
      cases hb506 : (decide (x492 < (a2.length : Int)))
      ·have h:=ite_f hb506 h
       refine a_cond_f rfl (a_exit (t_exit ?_))
       cases h
       have h:=hX505
       refine t_exit (b_exit (b_norm ?_))
       exact j_leaf x493 (Option.some.inj h) (by kernel_rfl)
      ·have h:=ite_t hb506 h
       refine a_cond_t rfl (a_skip (nj ⟨[(0,i6 a0),(2,eSi64 a2),(7,.osl 7),(8,i6 x353),(9,i6 (rd a1 x353.toNat)),(29,eSi64 a1),(30,i6 (a1.length : Int)),(31,i6 x353),(36,eSi64 a2),(37,i6 (a2.length : Int)),(38,i6 x492)],[(7,bk (.row 1 (x493.map (AV.int .i64))))]⟩ (a_seq (a_block (sr (vp (i6 x492) rfl ?_))))))
       obtain ⟨hc507,h⟩:=ifp_some h
       refine vq (.ref (.row 1 (a2.map (AV.int .i64))) [x492.toNat] [x492.toNat * 1]) rfl (lmap hc507) ?_
       have hl508 : LdOk [x492.toNat] (.row 1 (a2.map (AV.int .i64))) [x492.toNat * 1] 1 false (i6 (rd a2 x492.toNat)):=(.row (llt hc507) rfl (.nil rfl rfl rfl))
       refine vq (i6 (rd a2 x492.toNat)) (ld_ref (i:=⟨.int .i64,1,8,(.int .i64 0)⟩) rfl rfl hl508) hl508.c (vp (i6 x492) rfl (vp (i6 (rd a2 x492.toNat)) rfl (nk ⟨[(0,i6 a0),(2,eSi64 a2),(7,.osl 7),(8,i6 x353),(9,i6 (rd a1 x353.toNat)),(10,i6 x492),(11,i6 (rd a2 x492.toNat)),(29,eSi64 a1),(30,i6 (a1.length : Int)),(31,i6 x353),(36,eSi64 a2),(37,i6 (a2.length : Int)),(38,i6 x492)],[(7,bk (.row 1 (x493.map (AV.int .i64))))]⟩ (a_region (vp (.osl 7) rfl (vp (i6 x353) rfl (vp (i6 x492) rfl (vp (i6 (IntKind.i64.wrap (x353 + x492))) rfl ?_))))))))
       obtain ⟨hc509,h⟩:=ifp_some h
       refine vq (.own 7 [(IntKind.i64.wrap (x353 + x492)).toNat] [(IntKind.i64.wrap (x353 + x492)).toNat * 1]) rfl (lmap hc509) ?_
       have hl510 : LdOk [(IntKind.i64.wrap (x353 + x492)).toNat] (.row 1 (x493.map (AV.int .i64))) [(IntKind.i64.wrap (x353 + x492)).toNat * 1] 1 false (i6 ((rd x493 (IntKind.i64.wrap (x353 + x492)).toNat))):=(.row (llt hc509) rfl (.nil rfl rfl rfl))
       refine vq (i6 ((rd x493 (IntKind.i64.wrap (x353 + x492)).toNat))) (ld_own (i:=⟨.int .i64,1,8,(.int .i64 0)⟩) rfl rfl rfl hl510) hl510.c (vp (i6 (rd a1 x353.toNat)) rfl (vp (i6 (rd a2 x492.toNat)) rfl (vp (i6 (IntKind.i64.wrap ((rd a1 x353.toNat) * (rd a2 x492.toNat)))) rfl ?_)))
       obtain ⟨x511,hx512,h⟩:=letp_some h
       refine a_val' (v:=(i6 (IntKind.i64.wrap (((rd x493 (IntKind.i64.wrap (x353 + x492)).toNat)) + (IntKind.i64.wrap ((rd a1 x353.toNat) * (rd a2 x492.toNat))))))) (v':=(i6 x511)) (u:=[]) (u':=[]) rfl (congrArg (fun z=>((i6 z) : AV)) hx512) rfl trivial rfl ?_
       obtain ⟨hc513,h⟩:=ifp_some h
       refine vq (.own 7 [(IntKind.i64.wrap (x353 + x492)).toNat] [(IntKind.i64.wrap (x353 + x492)).toNat * 1]) rfl (lmap hc513) ?_
       have hs514 : StOk [(IntKind.i64.wrap (x353 + x492)).toNat] (.row 1 (x493.map (AV.int .i64))) [(IntKind.i64.wrap (x353 + x492)).toNat * 1] 1 (i6 x511) (.row 1 (((x493.set (IntKind.i64.wrap (x353 + x492)).toNat x511)).map (AV.int .i64))):=(.row (y:=x511) (llt hc513) rfl (.nil rfl rfl rfl rfl))
       refine vu .top [(7,bk (.row 1 (((x493.set (IntKind.i64.wrap (x353 + x492)).toNat x511)).map (AV.int .i64))))] (st_own (i:=⟨.int .i64,1,8,(.int .i64 0)⟩) rfl rfl (fun _=>rfl) rfl hs514) (hs514.c rfl) rfl (a_nil (b_norm (nj ⟨[(0,i6 a0),(2,eSi64 a2),(7,.osl 7),(8,i6 x353),(9,i6 (rd a1 x353.toNat)),(29,eSi64 a1),(30,i6 (a1.length : Int)),(31,i6 x353),(36,eSi64 a2),(37,i6 (a2.length : Int)),(38,i6 x492)],[(7,bk (.row 1 (((x493.set (IntKind.i64.wrap (x353 + x492)).toNat x511)).map (AV.int .i64))))]⟩ (a_region (vp (i6 (IntKind.i64.wrap (x492 + 1))) rfl (vp (i6 (IntKind.i64.wrap (x492 + 1))) rfl (a_nil ?_)))))))
       cases h
       exact a_again (by kernel_rfl) hX505
  ·have h:=ite_t hb7 h
   refine a_cond_t rfl (sr (vp (eSi64 ([])) rfl (nx _ rfl (a_ret (t_ret ?_)))))
   refine ⟨.inr rfl,?_⟩
   rw [Try.results102]
   cases h
   exact ⟨_,_,_,_,_,rfl,trivial,.inl ⟨rfl,.inl rfl⟩,rfl,rfl⟩
 ·have h:=hy4
  refine a_region (vp (eSi64 a1) rfl (vq (i6 (a1.length : Int)) (len_run rfl rfl) trivial (vp (.bool (((a1.length : Int) == 0))) rfl (vp (.bool (((a1.length : Int) == 0))) rfl ?_))))
  cases hb6 : ((a1.length : Int) == 0)
  ·have h:=ite_f hb6 h
   refine gp (eSi64 a2) rfl rfl (gq (i6 (a2.length : Int)) rfl (len_run rfl rfl) trivial (gp (.bool (((a2.length : Int) == 0))) rfl rfl (vp (.bool (((a2.length : Int) == 0))) rfl (a_nil ?_))))
   exact j_leaf (((a2.length : Int) == 0)) (Option.some.inj h) (by kernel_rfl)
  ·have h:=ite_t hb6 h
   refine a_gskip rfl (a_gskip rfl (a_gskip rfl (vp (.bool true) rfl (a_nil ?_))))
   exact j_leaf true (Option.some.inj h) (by kernel_rfl)
def impl_prime_power_c : ACode:=(.seq (.region 0 [q 8 (.asg 1 (.const (.slice none 0 0)) 80)] false) (.seq (.region 1 [q 11 (.mov (t 0)),q 12 (.bslice 0 80 1 [(0,.const (.int .i64 1))]),q 13 (.mov (t 3)),q 14 (.call 0 (.func 162) [(t 11),(t 12),(t 13)]),q 15 (.mov (t 0)),q 16 (.mov (t 1)),q 17 (.mov (t 3)),q 18 (.call 0 (.func 162) [(t 15),(t 16),(t 17)]),q 9 (.asg 1 (t 14) 80),q 10 (.asg 1 (t 18) 80)] false) (.seq (.block 0 (.loop (.seq (.seq (.region 2 [q 19 (.mov (t 2)),q 20 (.bin .gtr 2 (t 19) (.const (.int .i64 0)))] false) (.cond (t 20) .skip (.exit 0))) (.seq (.block 1 (.seq (.seq (.region 4 [q 23 (.mov (t 2)),q 24 (.bin .and 2 (t 23) (.const (.int .i64 1))),q 25 (.bin .eql 2 (t 24) (.const (.int .i64 1)))] false) (.cond (t 25) (.region 5 [q 26 (.mov (t 0)),q 27 (.mov (t 0)),q 28 (.mov (t 9)),q 29 (.mov (t 10)),q 30 (.call 0 (.func 102) [(t 27),(t 28),(t 29)]),q 31 (.mov (t 3)),q 32 (.call 0 (.func 162) [(t 26),(t 30),(t 31)]),q 9 (.asg 1 (t 32) 80)] false) .skip)) (.region 6 [q 33 (.mov (t 0)),q 34 (.mov (t 0)),q 35 (.mov (t 10)),q 36 (.mov (t 10)),q 37 (.call 0 (.func 102) [(t 34),(t 35),(t 36)]),q 38 (.mov (t 3)),q 39 (.call 0 (.func 162) [(t 33),(t 37),(t 38)]),q 10 (.asg 1 (t 39) 80)] false))) (.region 3 [q 21 (.mov (t 2)),q 22 (.bin .shr 2 (t 21) (.const (.int .u64 1))),q 2 (.asg 0 (t 22) 2)] false))))) (.seq (.region 7 [q 40 (.mov (t 9)),q 8 (.asg 1 (t 40) 80)] false) .ret))))
def impl_prime_power_L : Live:=[(0,[0,1,2,3]),(1,[0,1,2,3]),(2,[0,2,3,9,10]),(3,[0,2,3,9,10]),(4,[0,2,3,9,10]),(5,[0,2,3,9,10]),(6,[0,2,3,9,10]),(7,[9]),(100020,[0,2,3,9,10,20]),(100025,[0,2,3,9,10,25])]
noncomputable def impl_prime_power_l1 (a0 : Int) (a3 : (List Int)) (x108 : Int) (x109 : (List Int)) (x110 : (List Int)) : Option ((Int × (List Int) × (List Int)) ⊕ (List Int)) :=
 (if (decide (x108 > 0)) then (Option.bind (α:=(List Int)) ((letp (IntKind.i64.wrap (BitVec.ofInt IntKind.i64.bits x108 &&& BitVec.ofInt IntKind.i64.bits 1).toNat) fun x149=>(if (x149 == 1) then (Option.bind (impl_prime_times a0 x109 x110) fun r152=>(Option.bind (impl_prime_rest a0 r152 a3) fun r154=>(some r154))) else (some x109)))) fun x145=>(Option.bind (impl_prime_times a0 x110 x110) fun r156=>(Option.bind (impl_prime_rest a0 r156 a3) fun r158=>(some (.inl ((Int.fdiv x108 (2 ^ (min (1 : Int).toNat IntKind.i64.bits)),x145,r158))))))) else (some (.inr x109)))
noncomputable def impl_prime_power (a0 : Int) (a1 : (List Int)) (a2 : Int) (a3 : (List Int)) : Option (List Int) :=
 (Option.bind (impl_prime_rest a0 ([1]) a3) fun r1=>(Option.bind (impl_prime_rest a0 a1 a3) fun r3=>(Option.bind (α:=(List Int)) ((loopM (fun s : (Int × (List Int) × (List Int))=>impl_prime_power_l1 a0 a3 s.1 s.2.1 s.2.2) (a2,r1,r3))) fun x81=>(some x81))))
theorem impl_prime_power_ok (a0 : Int) (a1 : (List Int)) (a2 : Int) (a3 : (List Int)) (r : (List Int)) (h : impl_prime_power a0 a1 a2 a3 = some r) : Den Try.prog 134 [(i6 a0),(eSi64 a1),(i6 a2),(eSi64 a3)] { r:=(eSi64 r) }:=by
 refine den_of (rs:=[(eSi64 r)]) (ac:=impl_prime_power_c) (L:=impl_prime_power_L) (n:=41) (m:=[(8,1),(9,1),(10,1)]) (c:=Try.f134.body.getD .skip) good Try.func134 (by kernel_rfl) (by kernel_rfl) Try.ntmps134 rfl rfl (by kernel_rfl) rfl rfl ?_
 refine ns ⟨[(0,i6 a0),(1,eSi64 a1),(2,i6 a2),(3,eSi64 a3)],[]⟩ ?_
 unfold impl_prime_power_c
 refine sr (vp (eSi64 ([])) rfl (nk ⟨[(0,i6 a0),(1,eSi64 a1),(2,i6 a2),(3,eSi64 a3)],[]⟩ (sr (vp (i6 a0) rfl (vq (.sl 1 true (([1]).map (AV.int .i64))) rfl ⟨(Nat.le_of_ble_eq_true rfl),(Nat.le_of_ble_eq_true rfl),(all_cons ⟨(Nat.le_of_ble_eq_true rfl),rfl⟩ all_nil)⟩ (vp (eSi64 a3) rfl ?_))))))
 obtain ⟨r1,hr2,h⟩:=bind_some h
 refine a_call (args:=[(i6 a0),(.sl 1 true (([1]).map (AV.int .i64))),(eSi64 a3)]) (u:=[]) (r:=(eSi64 r1)) rfl rfl (Den.args (impl_prime_rest_ok a0 ([1]) a3 r1 hr2) rfl rfl (.cons (.refl _) (.cons (.loose _) (.cons (.refl _) .nil)))) rfl (vp (i6 a0) rfl (vp (eSi64 a1) rfl (vp (eSi64 a3) rfl ?_)))
 obtain ⟨r3,hr4,h⟩:=bind_some h
 refine a_call (args:=[(i6 a0),(eSi64 a1),(eSi64 a3)]) (u:=[]) (r:=(eSi64 r3)) rfl rfl (impl_prime_rest_ok a0 a1 a3 r3 hr4) rfl (vp (eSi64 r1) rfl (vp (eSi64 r3) rfl (nk ⟨[(0,i6 a0),(2,i6 a2),(3,eSi64 a3),(9,eSi64 r1),(10,eSi64 r3)],[]⟩ ?_)))
 obtain ⟨y82,hy83,hk84⟩:=bind_some h
 clear h
 refine a_join (emb:=fun (s : (List Int))=>⟨[(9,eSi64 s)],[]⟩) (pre:=fun s=>s = y82) ?_ ?_
 ·rintro x81 rfl
  have h:=hk84
  refine ns ⟨[(9,eSi64 x81)],[]⟩ (sr (vp (eSi64 x81) rfl (vp (eSi64 x81) rfl (nx _ rfl (a_ret ?_)))))
  refine ⟨.inr rfl,?_⟩
  rw [Try.results134]
  cases h
  exact ⟨_,_,_,_,_,rfl,trivial,.inl ⟨rfl,.inl rfl⟩,rfl,rfl⟩
 ·have h:=hy83
  refine a_block ?_
  refine a_loop (emb:=fun (s : (Int × (List Int) × (List Int)))=>⟨[(0,i6 a0),(2,i6 s.1),(3,eSi64 a3),(9,eSi64 s.2.1),(10,eSi64 s.2.2)],[]⟩) (body:=(fun s : (Int × (List Int) × (List Int))=>impl_prime_power_l1 a0 a3 s.1 s.2.1 s.2.2)) (G:=fun q=>some q = some y82) h rfl ?_ (by kernel_rfl)
  rintro X134 ⟨x108,x109,x110⟩ x135 h hX136
  have h : impl_prime_power_l1 a0 a3 x108 x109 x110 = some x135:=h
  refine ns ⟨[(0,i6 a0),(2,i6 x108),(3,eSi64 a3),(9,eSi64 x109),(10,eSi64 x110)],[]⟩ (a_seq (sr (vp (i6 x108) rfl (vp (.bool ((decide (x108 > 0)))) rfl (nk ⟨[(0,i6 a0),(2,i6 x108),(3,eSi64 a3),(9,eSi64 x109),(10,eSi64 x110),(20,.bool ((decide (x108 > 0))))],[]⟩ ?_)))))
  cases hb137 : (decide (x108 > 0))
  ·have h:=ite_f hb137 h
   refine a_cond_f rfl (a_exit (t_exit ?_))
   cases h
   have h:=hX136
   refine t_exit (b_exit ?_)
   exact j_leaf x109 (Option.some.inj h) (by kernel_rfl)
  ·have h:=ite_t hb137 h
   refine a_cond_t rfl (a_skip (nj ⟨[(0,i6 a0),(2,i6 x108),(3,eSi64 a3),(9,eSi64 x109),(10,eSi64 x110)],[]⟩ (a_seq (a_block ?_))))
   obtain ⟨y146,hy147,hk148⟩:=bind_some h
   clear h
   refine a_join (emb:=fun (s : (List Int))=>⟨[(0,i6 a0),(2,i6 x108),(3,eSi64 a3),(9,eSi64 s),(10,eSi64 x110)],[]⟩) (pre:=fun s=>s = y146) ?_ ?_
   ·rintro x145 rfl
    have h:=hk148
    refine ns ⟨[(0,i6 a0),(2,i6 x108),(3,eSi64 a3),(9,eSi64 x145),(10,eSi64 x110)],[]⟩ (a_region (vp (i6 a0) rfl (vp (i6 a0) rfl (vp (eSi64 x110) rfl (vp (eSi64 x110) rfl ?_)))))
    obtain ⟨r156,hr157,h⟩:=bind_some h
    refine a_call (args:=[(i6 a0),(eSi64 x110),(eSi64 x110)]) (u:=[]) (r:=(eSi64 r156)) rfl rfl (impl_prime_times_ok a0 x110 x110 r156 hr157) rfl (vp (eSi64 a3) rfl ?_)
    obtain ⟨r158,hr159,h⟩:=bind_some h
    refine a_call (args:=[(i6 a0),(eSi64 r156),(eSi64 a3)]) (u:=[]) (r:=(eSi64 r158)) rfl rfl (impl_prime_rest_ok a0 r156 a3 r158 hr159) rfl (vp (eSi64 r158) rfl (a_nil (b_norm (nj ⟨[(0,i6 a0),(2,i6 x108),(3,eSi64 a3),(9,eSi64 x145),(10,eSi64 r158)],[]⟩ (a_region (vp (i6 x108) rfl (vq (i6 (Int.fdiv x108 (2 ^ (min (1 : Int).toNat IntKind.i64.bits)))) rfl (by decide) (vp (i6 (Int.fdiv x108 (2 ^ (min (1 : Int).toNat IntKind.i64.bits)))) rfl (a_nil ?_)))))))))
    cases h
    exact a_again (by kernel_rfl) hX136
   ·have h:=hy147
    refine sr (vp (i6 x108) rfl ?_)
    obtain ⟨x149,hx150,h⟩:=letp_some h
    refine a_val' (v:=(i6 (IntKind.i64.wrap (BitVec.ofInt IntKind.i64.bits x108 &&& BitVec.ofInt IntKind.i64.bits 1).toNat))) (v':=(i6 x149)) (u:=[]) (u':=[]) rfl (congrArg (fun z=>((i6 z) : AV)) hx150) rfl trivial rfl (vp (.bool (x149 == 1)) rfl (nk ⟨[(0,i6 a0),(2,i6 x108),(3,eSi64 a3),(9,eSi64 x109),(10,eSi64 x110),(25,.bool (x149 == 1))],[]⟩ ?_))
    cases hb151 : (x149 == 1)
    ·have h:=ite_f hb151 h
     refine a_cond_f rfl (a_skip ?_)
     exact j_leaf x109 (Option.some.inj h) (by kernel_rfl)
    ·have h:=ite_t hb151 h
     refine a_cond_t rfl (a_region (vp (i6 a0) rfl (vp (i6 a0) rfl (vp (eSi64 x109) rfl (vp (eSi64 x110) rfl ?_)))))
     obtain ⟨r152,hr153,h⟩:=bind_some h
     refine a_call (args:=[(i6 a0),(eSi64 x109),(eSi64 x110)]) (u:=[]) (r:=(eSi64 r152)) rfl rfl (impl_prime_times_ok a0 x109 x110 r152 hr153) rfl (vp (eSi64 a3) rfl ?_)
     obtain ⟨r154,hr155,h⟩:=bind_some h
     refine a_call (args:=[(i6 a0),(eSi64 r152),(eSi64 a3)]) (u:=[]) (r:=(eSi64 r154)) rfl rfl (impl_prime_rest_ok a0 r152 a3 r154 hr155) rfl (vp (eSi64 r154) rfl (a_nil ?_))
     exact j_leaf r154 (Option.some.inj h) (by kernel_rfl)
def impl_row_degree_c : ACode:=(.seq (.region 0 [q 2 (.asg 0 (.const (.int .i64 0)) 2)] false) (.seq (.region 1 [q 3 (.mov (t 0)),q 4 (.blt 0 .len [(t 3)] [80]),q 5 (.bin .sub 2 (t 4) (.const (.int .i64 1))),q 2 (.asg 0 (t 5) 2)] false) .ret))
def impl_row_degree_L : Live:=[(0,[0]),(1,[0])]
noncomputable def impl_row_degree (a0 : (List Int)) : Option Int :=
 (some (IntKind.i64.wrap ((a0.length : Int) - 1)))
theorem impl_row_degree_ok (a0 : (List Int)) (r : Int) (h : impl_row_degree a0 = some r) : Den Try.prog 114 [(eSi64 a0)] { r:=(i6 r) }:=by
 refine den_of (rs:=[(i6 r)]) (ac:=impl_row_degree_c) (L:=impl_row_degree_L) (n:=6) (m:=[]) (c:=Try.f114.body.getD .skip) good Try.func114 (by kernel_rfl) (by kernel_rfl) Try.ntmps114 rfl rfl (by kernel_rfl) rfl rfl ?_
 refine ns ⟨[(0,eSi64 a0)],[]⟩ ?_
 unfold impl_row_degree_c
 refine sr (vp (i6 0) rfl (nk ⟨[(0,eSi64 a0)],[]⟩ (sr (vp (eSi64 a0) rfl (vq (i6 (a0.length : Int)) (len_run rfl rfl) trivial (vp (i6 (IntKind.i64.wrap ((a0.length : Int) - 1))) rfl (vp (i6 (IntKind.i64.wrap ((a0.length : Int) - 1))) rfl (nx _ rfl (a_ret ?_)))))))))
 refine ⟨.inr rfl,?_⟩
 rw [Try.results114]
 cases h
 exact ⟨_,_,_,_,_,rfl,trivial,.inl ⟨rfl,.inl rfl⟩,rfl,rfl⟩
def impl_row_fits_c : ACode:=(.seq (.region 0 [q 2 (.asg 0 (.const (.bool false)) 4)] false) (.seq (.region 1 [q 3 (.mov (t 0)),q 4 (.call 0 (.func 114) [(t 3)]),q 5 (.bin .leq 2 (t 4) (.const (.int .i64 63))),q 2 (.asg 0 (t 5) 4)] false) .ret))
def impl_row_fits_L : Live:=[(0,[0]),(1,[0])]
noncomputable def impl_row_fits (a0 : (List Int)) : Option Bool :=
 (Option.bind (impl_row_degree a0) fun r1=>(some ((decide (r1 ≤ 63)))))
theorem impl_row_fits_ok (a0 : (List Int)) (r : Bool) (h : impl_row_fits a0 = some r) : Den Try.prog 135 [(eSi64 a0)] { r:=(.bool r) }:=by
 refine den_of (rs:=[(.bool r)]) (ac:=impl_row_fits_c) (L:=impl_row_fits_L) (n:=6) (m:=[]) (c:=Try.f135.body.getD .skip) good Try.func135 (by kernel_rfl) (by kernel_rfl) Try.ntmps135 rfl rfl (by kernel_rfl) rfl rfl ?_
 refine ns ⟨[(0,eSi64 a0)],[]⟩ ?_
 unfold impl_row_fits_c
 refine sr (vp (.bool false) rfl (nk ⟨[(0,eSi64 a0)],[]⟩ (sr (vp (eSi64 a0) rfl ?_))))
 obtain ⟨r1,hr2,h⟩:=bind_some h
 refine a_call (args:=[(eSi64 a0)]) (u:=[]) (r:=(i6 r1)) rfl rfl (impl_row_degree_ok a0 r1 hr2) rfl (vp (.bool ((decide (r1 ≤ 63)))) rfl (vp (.bool ((decide (r1 ≤ 63)))) rfl (nx _ rfl (a_ret ?_))))
 refine ⟨.inr rfl,?_⟩
 rw [Try.results135]
 cases h
 exact ⟨_,_,_,_,_,rfl,trivial,.inl ⟨rfl,.inl rfl⟩,rfl,rfl⟩
def impl_row_poly_c : ACode:=(.seq (.region 0 [q 2 (.alloc 25)] false) (.seq (.region 1 [q 3 (.alloc 25)] false) (.seq (.seq (.region 2 [q 6 (.mov (t 0)),q 7 (.blt 0 .len [(t 6)] [80]),q 8 (.mov (.const (.int .i64 0)))] false) (.block 0 (.loop (.seq (.region 3 [q 9 (.bin .lss 3 (t 8) (t 7))] false) (.seq (.cond (t 9) .skip (.exit 0)) (.seq (.block 1 (.seq (.region 4 [q 10 (.mov (t 8)),q 11 (.indexAddr 80 (t 6) (t 8)),q 12 (.load 2 (t 11)),q 4 (.asg 0 (t 10) 3),q 5 (.asg 0 (t 12) 2)] false) (.region 5 [q 13 (.mov (t 4)),q 14 (.mov (t 5)),q 15 (.conv 2 5 (t 14)),q 16 (.indexAddr 25 (t 3) (t 13)),⟨none,.store 5 (t 16) (t 15),none,[]⟩] false))) (.region 6 [q 17 (.bin .add 3 (t 8) (.const (.int .i64 1))),q 8 (.mov (t 17))] false))))))) (.seq (.region 7 [q 18 (.load 25 (t 3)),⟨none,.store 25 (t 2) (t 18),none,[]⟩] false) .ret))))
def impl_row_poly_L : Live:=[(0,[0]),(1,[0,2]),(2,[0,2,3]),(3,[2,3,6,7,8]),(4,[2,3,6,7,8]),(5,[2,3,4,5,6,7,8]),(6,[2,3,6,7,8]),(7,[2,3]),(100009,[2,3,6,7,8,9])]
noncomputable def impl_row_poly_l1 (a0 : (List Int)) (x31 : Int) (x32 : (Vec Int 64)) : Option ((Int × (Vec Int 64)) ⊕ (Vec Int 64)) :=
 (if (decide (x31 < (a0.length : Int))) then (ifp (0 ≤ x31 ∧ x31 < ((a0.length : Nat) : Int)) ((ifp (0 ≤ x31 ∧ x31 < ((64 : Nat) : Int)) ((some (.inl ((IntKind.i64.wrap (x31 + 1),(vset x32 x31.toNat (IntKind.u8.wrap (rd a0 x31.toNat))))))))))) else (some (.inr x32)))
noncomputable def impl_row_poly (a0 : (List Int)) : Option (Vec Int 64) :=
 (Option.bind (α:=(Vec Int 64)) ((loopM (fun s : (Int × (Vec Int 64))=>impl_row_poly_l1 a0 s.1 s.2) (0,vrep 64 (0 : Int)))) fun x22=>(some x22))
theorem impl_row_poly_ok (a0 : (List Int)) (r : (Vec Int 64)) (h : impl_row_poly a0 = some r) : Den Try.prog 111 [(eSi64 a0)] { r:=(eVb r) }:=by
 refine den_of (rs:=[(eVb r)]) (ac:=impl_row_poly_c) (L:=impl_row_poly_L) (n:=19) (m:=[]) (c:=Try.f111.body.getD .skip) good Try.func111 (by kernel_rfl) (by kernel_rfl) Try.ntmps111 rfl rfl (by kernel_rfl) rfl rfl ?_
 refine ns ⟨[(0,eSi64 a0)],[]⟩ ?_
 unfold impl_row_poly_c
 refine sr (vo 1200 (eVb ((vrep 64 (0 : Int)))) rfl rfl (nk ⟨[(0,eSi64 a0),(2,ow 2)],[(2,bk (eVb ((vrep 64 (0 : Int)))))]⟩ (sr (vo 1300 (eVb ((vrep 64 (0 : Int)))) rfl rfl (nk ⟨[(0,eSi64 a0),(2,ow 2),(3,ow 3)],[(2,bk (eVb ((vrep 64 (0 : Int))))),(3,bk (eVb ((vrep 64 (0 : Int)))))]⟩ ?_)))))
 obtain ⟨y23,hy24,hk25⟩:=bind_some h
 clear h
 refine a_join (emb:=fun (s : (Vec Int 64))=>⟨[(2,ow 2),(3,ow 3)],[(2,bk (eVb ((vrep 64 (0 : Int))))),(3,bk (eVb s))]⟩) (pre:=fun s=>s = y23) ?_ ?_
 ·rintro x22 rfl
  have h:=hk25
  refine ns ⟨[(2,ow 2),(3,ow 3)],[(2,bk (eVb ((vrep 64 (0 : Int))))),(3,bk (eVb x22))]⟩ (sr (vl (eVb x22) rfl rfl rfl rfl rfl rfl (vs (eVb x22) rfl rfl (fun _=>rfl) rfl rfl rfl rfl rfl rfl (nx _ rfl (a_ret ?_)))))
  have hl49 : LdOk [] (eVb x22) [] 64 true (eVb x22):=(.nil rfl rfl rfl)
  refine ⟨.inr rfl,?_⟩
  rw [Try.results111]
  cases h
  exact ⟨_,_,_,_,_,ld_own (i:=⟨.arr 64 5,64,64,(eVb (vrep 64 (0 : Int)))⟩) rfl rfl rfl hl49,hl49.c,.inl ⟨rfl,.inl rfl⟩,rfl,rfl⟩
 ·have h:=hy24
  refine sr (vp (eSi64 a0) rfl (vq (i6 (a0.length : Int)) (len_run rfl rfl) trivial (vp (i6 0) rfl (nk ⟨[(2,ow 2),(3,ow 3),(6,eSi64 a0),(7,i6 (a0.length : Int)),(8,i6 0)],[(2,bk (eVb ((vrep 64 (0 : Int))))),(3,bk (eVb ((vrep 64 (0 : Int)))))]⟩ (a_block ?_)))))
  refine a_loop (emb:=fun (s : (Int × (Vec Int 64)))=>⟨[(2,ow 2),(3,ow 3),(6,eSi64 a0),(7,i6 (a0.length : Int)),(8,i6 s.1)],[(2,bk (eVb ((vrep 64 (0 : Int))))),(3,bk (eVb s.2))]⟩) (body:=(fun s : (Int × (Vec Int 64))=>impl_row_poly_l1 a0 s.1 s.2)) (G:=fun q=>some q = some y23) h rfl ?_ (by kernel_rfl)
  rintro X38 ⟨x31,x32⟩ x39 h hX40
  have h : impl_row_poly_l1 a0 x31 x32 = some x39:=h
  refine ns ⟨[(2,ow 2),(3,ow 3),(6,eSi64 a0),(7,i6 (a0.length : Int)),(8,i6 x31)],[(2,bk (eVb ((vrep 64 (0 : Int))))),(3,bk (eVb x32))]⟩ (sr (vp (.bool ((decide (x31 < (a0.length : Int))))) rfl (nk ⟨[(2,ow 2),(3,ow 3),(6,eSi64 a0),(7,i6 (a0.length : Int)),(8,i6 x31),(9,.bool ((decide (x31 < (a0.length : Int)))))],[(2,bk (eVb ((vrep 64 (0 : Int))))),(3,bk (eVb x32))]⟩ (a_seq ?_))))
  cases hb41 : (decide (x31 < (a0.length : Int)))
  ·have h:=ite_f hb41 h
   refine a_cond_f rfl (a_exit (t_exit ?_))
   cases h
   have h:=hX40
   refine t_exit (b_exit ?_)
   exact j_leaf x32 (Option.some.inj h) (by kernel_rfl)
  ·have h:=ite_t hb41 h
   refine a_cond_t rfl (a_skip (nj ⟨[(2,ow 2),(3,ow 3),(6,eSi64 a0),(7,i6 (a0.length : Int)),(8,i6 x31)],[(2,bk (eVb ((vrep 64 (0 : Int))))),(3,bk (eVb x32))]⟩ (a_seq (a_block (sr (vp (i6 x31) rfl ?_))))))
   obtain ⟨hc42,h⟩:=ifp_some h
   refine vq (.ref (.row 1 (a0.map (AV.int .i64))) [x31.toNat] [x31.toNat * 1]) rfl (lmap hc42) ?_
   have hl43 : LdOk [x31.toNat] (.row 1 (a0.map (AV.int .i64))) [x31.toNat * 1] 1 false (i6 (rd a0 x31.toNat)):=(.row (llt hc42) rfl (.nil rfl rfl rfl))
   refine vq (i6 (rd a0 x31.toNat)) (ld_ref (i:=⟨.int .i64,1,8,(.int .i64 0)⟩) rfl rfl hl43) hl43.c (vp (i6 x31) rfl (vp (i6 (rd a0 x31.toNat)) rfl (nk ⟨[(2,ow 2),(3,ow 3),(4,i6 x31),(5,i6 (rd a0 x31.toNat)),(6,eSi64 a0),(7,i6 (a0.length : Int)),(8,i6 x31)],[(2,bk (eVb ((vrep 64 (0 : Int))))),(3,bk (eVb x32))]⟩ (a_region (vp (i6 x31) rfl (vp (i6 (rd a0 x31.toNat)) rfl (vp (b8 (IntKind.u8.wrap (rd a0 x31.toNat))) rfl ?_)))))))
   obtain ⟨hc44,h⟩:=ifp_some h
   refine vq (.own 3 [x31.toNat] [x31.toNat * 1]) rfl hc44 ?_
   have hs45 : StOk [x31.toNat] (eVb x32) [x31.toNat * 1] 1 (b8 (IntKind.u8.wrap (rd a0 x31.toNat))) (eVb ((vset x32 x31.toNat (IntKind.u8.wrap (rd a0 x31.toNat))))):=(.arr (y:=IntKind.u8.wrap (rd a0 x31.toNat)) (vlt x32 hc44) rfl (.nil rfl rfl rfl rfl))
   refine vu .top [(3,bk (eVb ((vset x32 x31.toNat (IntKind.u8.wrap (rd a0 x31.toNat))))))] (st_own (i:=⟨.int .u8,1,1,(.int .u8 0)⟩) rfl rfl (fun _=>rfl) rfl hs45) (hs45.c rfl) rfl (a_nil (b_norm (nj ⟨[(2,ow 2),(3,ow 3),(6,eSi64 a0),(7,i6 (a0.length : Int)),(8,i6 x31)],[(2,bk (eVb ((vrep 64 (0 : Int))))),(3,bk (eVb ((vset x32 x31.toNat (IntKind.u8.wrap (rd a0 x31.toNat))))))]⟩ (a_region (vp (i6 (IntKind.i64.wrap (x31 + 1))) rfl (vp (i6 (IntKind.i64.wrap (x31 + 1))) rfl (a_nil ?_)))))))
   cases h
   exact a_again (by kernel_rfl) hX40
def impl_told_c : ACode:=(.seq (.region 0 [q 2 (.alloc 25),q 3 (.asg 0 (.const (.int .i64 0)) 2)] false) (.seq (.seq (.region 1 [q 4 (.mov (t 0)),q 5 (.call 0 (.func 135) [(t 4)]),q 6 (.un .not (t 5))] false) (.cond (t 6) (.seq (.region 2 [q 7 (.build 25 []),⟨none,.store 25 (t 2) (t 7),none,[]⟩,q 3 (.asg 0 (.const (.int .i64 3)) 2)] false) .ret) .skip)) (.seq (.region 3 [q 8 (.mov (t 0)),q 9 (.call 0 (.func 111) [(t 8)]),⟨none,.store 25 (t 2) (t 9),none,[]⟩,q 3 (.asg 0 (.const (.int .i64 0)) 2)] false) .ret)))
def impl_told_L : Live:=[(0,[0]),(1,[0,2]),(2,[2]),(3,[0,2]),(100006,[0,2,6])]
noncomputable def impl_told (a0 : (List Int)) : Option ((Vec Int 64) × Int) :=
 (Option.bind (impl_row_fits a0) fun r1=>(if (!r1) then (some (((vrep 64 (0 : Int)),3))) else (Option.bind (impl_row_poly a0) fun r4=>(some (r4,0)))))
theorem impl_told_ok (a0 : (List Int)) (r : ((Vec Int 64) × Int)) (h : impl_told a0 = some r) : Den Try.prog 101 [(eSi64 a0)] { r:=(.tuple [(eVb r.1),(i6 r.2)]) }:=by
 refine den_of (rs:=[(eVb r.1),(i6 r.2)]) (ac:=impl_told_c) (L:=impl_told_L) (n:=10) (m:=[]) (c:=Try.f101.body.getD .skip) good Try.func101 (by kernel_rfl) (by kernel_rfl) Try.ntmps101 rfl rfl (by kernel_rfl) rfl rfl ?_
 refine ns ⟨[(0,eSi64 a0)],[]⟩ ?_
 unfold impl_told_c
 refine sr (vo 1200 (eVb ((vrep 64 (0 : Int)))) rfl rfl (vp (i6 0) rfl (nk ⟨[(0,eSi64 a0),(2,ow 2)],[(2,bk (eVb ((vrep 64 (0 : Int)))))]⟩ (a_seq (sr (vp (eSi64 a0) rfl ?_))))))
 obtain ⟨r1,hr2,h⟩:=bind_some h
 refine a_call (args:=[(eSi64 a0)]) (u:=[]) (r:=(.bool r1)) rfl rfl (impl_row_fits_ok a0 r1 hr2) rfl (vp (.bool (!r1)) rfl (nk ⟨[(0,eSi64 a0),(2,ow 2),(6,.bool (!r1))],[(2,bk (eVb ((vrep 64 (0 : Int)))))]⟩ ?_))
 cases hb3 : (!r1)
 ·have h:=ite_f hb3 h
  refine a_cond_f rfl (a_skip (nj ⟨[(0,eSi64 a0),(2,ow 2)],[(2,bk (eVb ((vrep 64 (0 : Int)))))]⟩ (sr (vp (eSi64 a0) rfl ?_))))
  obtain ⟨r4,hr5,h⟩:=bind_some h
  refine a_call (args:=[(eSi64 a0)]) (u:=[]) (r:=(eVb r4)) rfl rfl (impl_row_poly_ok a0 r4 hr5) rfl (vs (eVb r4) rfl rfl (fun _=>rfl) rfl rfl rfl rfl rfl rfl (vp (i6 0) rfl (nx _ rfl (a_ret ?_))))
  have hl7 : LdOk [] (eVb r4) [] 64 true (eVb r4):=(.nil rfl rfl rfl)
  refine ⟨.inr rfl,?_⟩
  rw [Try.results101]
  cases h
  exact ⟨_,_,_,_,_,ld_own (i:=⟨.arr 64 5,64,64,(eVb (vrep 64 (0 : Int)))⟩) rfl rfl rfl hl7,hl7.c,.inl ⟨rfl,.inl rfl⟩,rfl,⟨_,_,_,_,_,rfl,trivial,.inl ⟨rfl,.inl rfl⟩,rfl,rfl⟩⟩
 ·have h:=ite_t hb3 h
  refine a_cond_t rfl (sr (vq (eVb ((vrep 64 (0 : Int)))) rfl ⟨⟨_,rfl,rfl⟩,all_nil⟩ (vs (eVb ((vrep 64 (0 : Int)))) rfl rfl (fun _=>rfl) rfl rfl rfl rfl rfl rfl (vp (i6 3) rfl (nx _ rfl (a_ret (t_ret ?_)))))))
  have hl9 : LdOk [] (eVb ((vrep 64 (0 : Int)))) [] 64 true (eVb ((vrep 64 (0 : Int)))):=(.nil rfl rfl rfl)
  refine ⟨.inr rfl,?_⟩
  rw [Try.results101]
  cases h
  exact ⟨_,_,_,_,_,ld_own (i:=⟨.arr 64 5,64,64,(eVb (vrep 64 (0 : Int)))⟩) rfl rfl rfl hl9,hl9.c,.inl ⟨rfl,.inl rfl⟩,rfl,⟨_,_,_,_,_,rfl,trivial,.inl ⟨rfl,.inl rfl⟩,rfl,rfl⟩⟩
def impl_PowerModulo_c : ACode:=(.seq (.region 0 [q 5 (.box 25 (t 1)),q 7 (.box 25 (t 3)),q 8 (.alloc 25),q 9 (.asg 0 (.const (.int .i64 0)) 2)] false) (.seq (.seq (.region 1 [q 11 (.mov (t 0)),q 12 (.load 25 (t 5)),q 13 (.load 25 (t 7)),q 14 (.bslice 0 55 2 [(0,t 12),(1,t 13)]),q 15 (.call 0 (.func 100) [(t 11),(t 14)]),q 10 (.asg 0 (t 15) 2)] false) (.seq (.region 2 [q 16 (.mov (t 10)),q 17 (.bin .neq 2 (t 16) (.const (.int .i64 0)))] false) (.cond (t 17) (.seq (.region 3 [q 18 (.build 25 []),q 19 (.mov (t 10)),⟨none,.store 25 (t 8) (t 18),none,[]⟩,q 9 (.asg 0 (t 19) 2)] false) .ret) .skip))) (.seq (.block 0 (.seq (.region 4 [q 21 (.mov (t 2)),q 22 (.call 0 (.func 118) [(t 21)]),q 23 (.un .not (t 22)),q 20 (.asg 0 (t 23) 4)] false) (.cond (t 20) (.seq (.region 5 [q 24 (.build 25 []),⟨none,.store 25 (t 8) (t 24),none,[]⟩,q 9 (.asg 0 (.const (.int .i64 2)) 2)] false) .ret) (.seq (.region 6 [q 26 (.load 25 (t 7)),q 27 (.build 25 []),q 28 (.bin .eql 25 (t 26) (t 27)),q 25 (.asg 0 (t 28) 4)] false) (.cond (t 25) (.seq (.region 7 [q 29 (.build 25 []),⟨none,.store 25 (t 8) (t 29),none,[]⟩,q 9 (.asg 0 (.const (.int .i64 5)) 2)] false) .ret) .skip))))) (.seq (.region 8 [q 30 (.mov (t 0)),q 31 (.load 25 (t 5)),⟨some 32,.call 0 (.func 103) [(t 31)],none,[1]⟩,q 33 (.mov (t 2)),q 34 (.load 25 (t 7)),⟨some 35,.call 0 (.func 103) [(t 34)],none,[4,2]⟩,⟨some 36,.call 0 (.func 134) [(t 30),(t 32),(t 33),(t 35)],none,[0,2,3,5,5]⟩,⟨some 37,.call 0 (.func 101) [(t 36)],none,[6,6]⟩,⟨some 38,.extract (t 37) 0,none,[7]⟩,⟨some 39,.extract (t 37) 1,none,[7]⟩,⟨none,.store 25 (t 8) (t 38),none,[8,7,0,1,2,3,4,5,6,7,8,9]⟩,⟨some 9,.asg 0 (t 39) 2,none,[9,10,0,1,2,3,4,5,6,7,8,9,10]⟩] true) .ret))))
def impl_PowerModulo_L : Live:=[(0,[0,1,2,3]),(1,[0,2,5,7,8]),(2,[0,2,5,7,8,10]),(3,[8,10]),(4,[0,2,5,7,8]),(5,[8]),(6,[0,2,5,7,8]),(7,[8]),(8,[0,2,5,7,8]),(100017,[0,2,5,7,8,10,17]),(100020,[0,2,5,7,8,20]),(100025,[0,2,5,7,8,25])]
noncomputable def impl_PowerModulo (a0 : Int) (a1 : (Vec Int 64)) (a2 : Int) (a3 : (Vec Int 64)) : Option ((Vec Int 64) × Int) :=
 (Option.bind (impl_polysCode a0 ([a1,a3])) fun r3=>(if (r3 != 0) then (some (((vrep 64 (0 : Int)),r3))) else (Option.bind (impl_isNumber a2) fun r6=>(if (!r6) then (some (((vrep 64 (0 : Int)),2))) else (if (decide (a3 = ((vrep 64 (0 : Int))))) then (some (((vrep 64 (0 : Int)),5))) else (Option.bind (impl_rowOf a1) fun r23=>(Option.bind (impl_rowOf a3) fun r26=>(Option.bind (impl_prime_power a0 r23 a2 r26) fun r28=>(Option.bind (impl_told r28) fun r30=>(some (r30.1,r30.2)))))))))))
theorem impl_PowerModulo_ok (a0 : Int) (a1 : (Vec Int 64)) (a2 : Int) (a3 : (Vec Int 64)) (r : ((Vec Int 64) × Int)) (h : impl_PowerModulo a0 a1 a2 a3 = some r) : Den Try.prog 80 [(i6 a0),(eVb a1),(i6 a2),(eVb a3)] { r:=(.tuple [(eVb r.1),(i6 r.2)]) }:=by
 refine den_of (rs:=[(eVb r.1),(i6 r.2)]) (ac:=impl_PowerModulo_c) (L:=impl_PowerModulo_L) (n:=40) (m:=[]) (c:=Try.f80.body.getD .skip) good Try.func80 (by kernel_rfl) (by kernel_rfl) Try.ntmps80 rfl rfl (by kernel_rfl) rfl rfl ?_
 refine ns ⟨[(0,i6 a0),(1,eVb a1),(2,i6 a2),(3,eVb a3)],[]⟩ ?_
 unfold impl_PowerModulo_c
 refine sr (vo 1500 (eVb a1) rfl rfl (vo 1700 (eVb a3) rfl rfl (vo 1800 (eVb ((vrep 64 (0 : Int)))) rfl rfl (vp (i6 0) rfl (nk ⟨[(0,i6 a0),(2,i6 a2),(5,ow 5),(7,ow 7),(8,ow 8)],[(5,bk (eVb a1)),(7,bk (eVb a3)),(8,bk (eVb ((vrep 64 (0 : Int)))))]⟩ (a_seq (sr (vp (i6 a0) rfl (vl (eVb a1) rfl rfl rfl rfl rfl rfl ?_)))))))))
 refine vl (eVb a3) rfl rfl rfl rfl rfl rfl (vq (.sl 64 true (([a1,a3]).map eVb)) rfl ⟨(Nat.le_of_ble_eq_true rfl),(Nat.le_of_ble_eq_true rfl),(all_cons ⟨(Nat.le_of_ble_eq_true rfl),rfl⟩ (all_cons ⟨(Nat.le_of_ble_eq_true rfl),rfl⟩ all_nil))⟩ ?_)
 obtain ⟨r3,hr4,h⟩:=bind_some h
 refine a_call (args:=[(i6 a0),(.sl 64 true (([a1,a3]).map eVb))]) (u:=[]) (r:=(i6 r3)) rfl rfl (Den.args (impl_polysCode_ok a0 ([a1,a3]) r3 hr4) rfl rfl (.cons (.refl _) (.cons (.loose _) .nil))) rfl (vp (i6 r3) rfl (nk ⟨[(0,i6 a0),(2,i6 a2),(5,ow 5),(7,ow 7),(8,ow 8),(10,i6 r3)],[(5,bk (eVb a1)),(7,bk (eVb a3)),(8,bk (eVb ((vrep 64 (0 : Int)))))]⟩ (sr (vp (i6 r3) rfl (vp (.bool (r3 != 0)) rfl (nk ⟨[(0,i6 a0),(2,i6 a2),(5,ow 5),(7,ow 7),(8,ow 8),(10,i6 r3),(17,.bool (r3 != 0))],[(5,bk (eVb a1)),(7,bk (eVb a3)),(8,bk (eVb ((vrep 64 (0 : Int)))))]⟩ ?_))))))
 cases hb5 : (r3 != 0)
 ·have h:=ite_f hb5 h
  refine a_cond_f rfl (a_skip (nj ⟨[(0,i6 a0),(2,i6 a2),(5,ow 5),(7,ow 7),(8,ow 8)],[(5,bk (eVb a1)),(7,bk (eVb a3)),(8,bk (eVb ((vrep 64 (0 : Int)))))]⟩ (a_seq (a_block (sr (vp (i6 a2) rfl ?_))))))
  obtain ⟨r6,hr7,h⟩:=bind_some h
  refine a_call (args:=[(i6 a2)]) (u:=[]) (r:=(.bool r6)) rfl rfl (impl_isNumber_ok a2 r6 hr7) rfl (vp (.bool (!r6)) rfl (vp (.bool (!r6)) rfl (nk ⟨[(0,i6 a0),(2,i6 a2),(5,ow 5),(7,ow 7),(8,ow 8),(20,.bool (!r6))],[(5,bk (eVb a1)),(7,bk (eVb a3)),(8,bk (eVb ((vrep 64 (0 : Int)))))]⟩ ?_)))
  cases hb8 : (!r6)
  ·have h:=ite_f hb8 h
   refine a_cond_f rfl (sr (vl (eVb a3) rfl rfl rfl rfl rfl rfl (vq (eVb ((vrep 64 (0 : Int)))) rfl ⟨⟨_,rfl,rfl⟩,all_nil⟩ (vq (.bool ((decide (a3 = ((vrep 64 (0 : Int))))))) (eqa_run (f:=(AV.int .u8)) (a:=a3.1) (b:=((vrep 64 (0 : Int))).1) rfl rfl (eqb_vec (fun _ _=>eqb_int _ _) a3 ((vrep 64 (0 : Int))))) (cmp_arr (g:=8) (f:=(AV.int .u8)) (x:=a3) (y:=((vrep 64 (0 : Int)))) rfl rfl rfl (fun _ _=>rfl) (fun _ _=>cmp_int rfl)) (vp (.bool ((decide (a3 = ((vrep 64 (0 : Int))))))) rfl (nk ⟨[(0,i6 a0),(2,i6 a2),(5,ow 5),(7,ow 7),(8,ow 8),(25,.bool ((decide (a3 = ((vrep 64 (0 : Int)))))))],[(5,bk (eVb a1)),(7,bk (eVb a3)),(8,bk (eVb ((vrep 64 (0 : Int)))))]⟩ ?_))))))
   cases hb10 : (decide (a3 = ((vrep 64 (0 : Int)))))
   ·have h:=ite_f hb10 h
    refine a_cond_f rfl (a_skip (b_norm (nj ⟨[(0,i6 a0),(2,i6 a2),(5,ow 5),(7,ow 7),(8,ow 8)],[(5,bk (eVb a1)),(7,bk (eVb a3)),(8,bk (eVb ((vrep 64 (0 : Int)))))]⟩ (a_seq (a_draw [⟨[],[],[],[]⟩,⟨[5],[],[],[]⟩,⟨[],[],[],[1]⟩,⟨[],[],[],[]⟩,⟨[7],[],[],[]⟩,⟨[],[],[],[1,2,4]⟩,⟨[],[],[],[0,1,2,3,4,5]⟩,⟨[],[],[],[0,1,2,3,4,5,6]⟩,⟨[],[],[],[0,1,2,3,4,5,6,7]⟩,⟨[],[],[],[0,1,2,3,4,5,6,7]⟩,⟨[8],[8],[],[0,1,2,3,4,5,6,7,8,9]⟩,⟨[],[],[],[0,1,2,3,4,5,6,7,8,9,10]⟩] (by kernel_rfl) (dj (i6 a0) rfl (d_cons (vl (eVb a1) rfl rfl rfl rfl rfl rfl (d_next (by kernel_rfl) ?_)))))))))
    refine d_cons ?_
    obtain ⟨r23,hr24,h⟩:=bind_some h
    refine a_call (args:=[(eVb a1)]) (u:=[]) (r:=(eSi64 r23)) rfl rfl (impl_rowOf_ok a1 r23 hr24) rfl (d_next (by kernel_rfl) (dj (i6 a2) rfl (d_cons (vl (eVb a3) rfl rfl rfl rfl rfl rfl (d_next (by kernel_rfl) (d_cons ?_))))))
    obtain ⟨r26,hr27,h⟩:=bind_some h
    refine a_call (args:=[(eVb a3)]) (u:=[]) (r:=(eSi64 r26)) rfl rfl (impl_rowOf_ok a3 r26 hr27) rfl (d_next (by kernel_rfl) (d_cons ?_))
    obtain ⟨r28,hr29,h⟩:=bind_some h
    refine a_call (args:=[(i6 a0),(eSi64 r23),(i6 a2),(eSi64 r26)]) (u:=[]) (r:=(eSi64 r28)) rfl rfl (impl_prime_power_ok a0 r23 a2 r26 r28 hr29) rfl (d_next (by kernel_rfl) (d_cons ?_))
    obtain ⟨r30,hr31,h⟩:=bind_some h
    refine a_call (args:=[(eSi64 r28)]) (u:=[]) (r:=(.tuple [(eVb r30.1),(i6 r30.2)])) rfl rfl (impl_told_ok r28 r30 hr31) rfl (d_next (by kernel_rfl) (d_cons (vb (eVb r30.1) rfl rfl (d_next (by kernel_rfl) (d_cons (vb (i6 r30.2) rfl rfl (d_next (by kernel_rfl) (d_cons (vs (eVb r30.1) rfl rfl (fun _=>rfl) rfl rfl rfl rfl rfl rfl ?_)))))))))
    refine d_next (by kernel_rfl) (dj (i6 r30.2) rfl (d_nil (a_next rfl (a_ret ?_))))
    have hl33 : LdOk [] (eVb r30.1) [] 64 true (eVb r30.1):=(.nil rfl rfl rfl)
    refine ⟨.inr rfl,?_⟩
    rw [Try.results80]
    cases h
    exact ⟨_,_,_,_,_,ld_own (i:=⟨.arr 64 5,64,64,(eVb (vrep 64 (0 : Int)))⟩) rfl rfl rfl hl33,hl33.c,.inl ⟨rfl,.inl rfl⟩,rfl,⟨_,_,_,_,_,rfl,trivial,.inl ⟨rfl,.inl rfl⟩,rfl,rfl⟩⟩
   ·have h:=ite_t hb10 h
    refine a_cond_t rfl (sr (vq (eVb ((vrep 64 (0 : Int)))) rfl ⟨⟨_,rfl,rfl⟩,all_nil⟩ (vs (eVb ((vrep 64 (0 : Int)))) rfl rfl (fun _=>rfl) rfl rfl rfl rfl rfl rfl (vp (i6 5) rfl (nx _ rfl (a_ret (b_ret (t_ret ?_))))))))
    have hl35 : LdOk [] (eVb ((vrep 64 (0 : Int)))) [] 64 true (eVb ((vrep 64 (0 : Int)))):=(.nil rfl rfl rfl)
    refine ⟨.inr rfl,?_⟩
    rw [Try.results80]
    cases h
    exact ⟨_,_,_,_,_,ld_own (i:=⟨.arr 64 5,64,64,(eVb (vrep 64 (0 : Int)))⟩) rfl rfl rfl hl35,hl35.c,.inl ⟨rfl,.inl rfl⟩,rfl,⟨_,_,_,_,_,rfl,trivial,.inl ⟨rfl,.inl rfl⟩,rfl,rfl⟩⟩
  ·have h:=ite_t hb8 h
   refine a_cond_t rfl (sr (vq (eVb ((vrep 64 (0 : Int)))) rfl ⟨⟨_,rfl,rfl⟩,all_nil⟩ (vs (eVb ((vrep 64 (0 : Int)))) rfl rfl (fun _=>rfl) rfl rfl rfl rfl rfl rfl (vp (i6 2) rfl (nx _ rfl (a_ret (b_ret (t_ret ?_))))))))
   have hl37 : LdOk [] (eVb ((vrep 64 (0 : Int)))) [] 64 true (eVb ((vrep 64 (0 : Int)))):=(.nil rfl rfl rfl)
   refine ⟨.inr rfl,?_⟩
   rw [Try.results80]
   cases h
   exact ⟨_,_,_,_,_,ld_own (i:=⟨.arr 64 5,64,64,(eVb (vrep 64 (0 : Int)))⟩) rfl rfl rfl hl37,hl37.c,.inl ⟨rfl,.inl rfl⟩,rfl,⟨_,_,_,_,_,rfl,trivial,.inl ⟨rfl,.inl rfl⟩,rfl,rfl⟩⟩
 ·have h:=ite_t hb5 h
  refine a_cond_t rfl (sr (vq (eVb ((vrep 64 (0 : Int)))) rfl ⟨⟨_,rfl,rfl⟩,all_nil⟩ (vp (i6 r3) rfl (vs (eVb ((vrep 64 (0 : Int)))) rfl rfl (fun _=>rfl) rfl rfl rfl rfl rfl rfl (vp (i6 r3) rfl (nx _ rfl (a_ret (t_ret ?_))))))))
  have hl39 : LdOk [] (eVb ((vrep 64 (0 : Int)))) [] 64 true (eVb ((vrep 64 (0 : Int)))):=(.nil rfl rfl rfl)
  refine ⟨.inr rfl,?_⟩
  rw [Try.results80]
  cases h
  exact ⟨_,_,_,_,_,ld_own (i:=⟨.arr 64 5,64,64,(eVb (vrep 64 (0 : Int)))⟩) rfl rfl rfl hl39,hl39.c,.inl ⟨rfl,.inl rfl⟩,rfl,⟨_,_,_,_,_,rfl,trivial,.inl ⟨rfl,.inl rfl⟩,rfl,rfl⟩⟩
def spec_l01Code_c : ACode:=(.seq (.region 0 [q 4 (.asg 0 (.const (.int .i64 0)) 2)] false) (.seq (.seq (.region 1 [q 6 (.mov (t 0)),q 7 (.call 0 (.func 168) [(t 6)]),q 8 (.un .not (t 7))] false) (.cond (t 8) (.seq (.region 2 [q 4 (.asg 0 (.const (.int .i64 1)) 2)] false) .ret) .skip)) (.seq (.seq (.region 3 [q 5 (.asg 0 (.const (.int .i64 0)) 3)] false) (.block 0 (.loop (.seq (.seq (.region 4 [q 9 (.mov (t 5)),q 10 (.mov (t 1)),q 11 (.blt 0 .len [(t 10)] [55]),q 12 (.bin .lss 3 (t 9) (t 11))] false) (.cond (t 12) .skip (.exit 0))) (.seq (.block 1 (.seq (.region 6 [q 15 (.mov (t 0)),q 16 (.mov (t 1)),q 17 (.mov (t 5)),q 18 (.indexAddr 55 (t 16) (t 17)),q 19 (.load 25 (t 18)),q 20 (.call 0 (.func 108) [(t 15),(t 19)]),q 21 (.un .not (t 20))] false) (.cond (t 21) (.seq (.region 7 [q 4 (.asg 0 (.const (.int .i64 1)) 2)] false) .ret) .skip))) (.region 5 [q 13 (.mov (t 5)),q 14 (.bin .add 3 (t 13) (.const (.int .i64 1))),q 5 (.asg 0 (t 14) 3)] false)))))) (.seq (.region 8 [q 4 (.asg 0 (.const (.int .i64 0)) 2)] false) .ret))))
def spec_l01Code_L : Live:=[(0,[0,1]),(1,[0,1]),(2,[]),(3,[0,1]),(4,[0,1,5]),(5,[0,1,5]),(6,[0,1,5]),(7,[]),(8,[]),(100008,[0,1,8]),(100012,[0,1,5,12]),(100021,[0,1,5,21])]
noncomputable def spec_l01Code_l1 (a1 : (List (Vec Int 64))) (a0 : Int) (x36 : Int) : Option (Int ⊕ (Unit ⊕ Int)) :=
 (if (decide (x36 < (a1.length : Int))) then (ifp (0 ≤ x36 ∧ x36 < ((a1.length : Nat) : Int)) ((Option.bind (spec_l01Is a0 (rd a1 x36.toNat)) fun r49=>(if (!r49) then (some (.inr (.inr 1))) else (some (.inl (IntKind.i64.wrap (x36 + 1)))))))) else (some (.inr (((.inl ()))))))
noncomputable def spec_l01Code (a0 : Int) (a1 : (List (Vec Int 64))) : Option Int :=
 (Option.bind (spec_l01Prime a0) fun r1=>(if (!r1) then (some 1) else (Option.bind (α:=(Unit ⊕ Int)) ((loopM (fun s : Int=>spec_l01Code_l1 a1 a0 s) 0)) fun z=>match z with | .inl _=>(some 0) | .inr r53=>(some r53))))
theorem spec_l01Code_ok (a0 : Int) (a1 : (List (Vec Int 64))) (r : Int) (h : spec_l01Code a0 a1 = some r) : Den Try.prog 104 [(i6 a0),(eSA64u8 a1)] { r:=(i6 r) }:=by
 refine den_of (rs:=[(i6 r)]) (ac:=spec_l01Code_c) (L:=spec_l01Code_L) (n:=22) (m:=[]) (c:=Try.f104.body.getD .skip) good Try.func104 (by kernel_rfl) (by kernel_rfl) Try.ntmps104 rfl rfl (by kernel_rfl) rfl rfl ?_
 refine ns ⟨[(0,i6 a0),(1,eSA64u8 a1)],[]⟩ ?_
 unfold spec_l01Code_c
 refine sr (vp (i6 0) rfl (nk ⟨[(0,i6 a0),(1,eSA64u8 a1)],[]⟩ (a_seq (sr (vp (i6 a0) rfl ?_)))))
 obtain ⟨r1,hr2,h⟩:=bind_some h
 refine a_call (args:=[(i6 a0)]) (u:=[]) (r:=(.bool r1)) rfl rfl (spec_l01Prime_ok a0 r1 hr2) rfl (vp (.bool (!r1)) rfl (nk ⟨[(0,i6 a0),(1,eSA64u8 a1),(8,.bool (!r1))],[]⟩ ?_))
 cases hb3 : (!r1)
 ·have h:=ite_f hb3 h
  refine a_cond_f rfl (a_skip (nj ⟨[(0,i6 a0),(1,eSA64u8 a1)],[]⟩ ?_))
  obtain ⟨y27,hy28,hk29⟩:=bind_some h
  clear h
  refine a_join (emb:=fun (s : Unit)=>⟨[],[]⟩) (pre:=fun s=>(.inl s) = y27) ?_ ?_
  ·rintro _ rfl
   have h:=hk29
   refine ns ⟨[],[]⟩ (sr (vp (i6 0) rfl (nx _ rfl (a_ret ?_))))
   refine ⟨.inr rfl,?_⟩
   rw [Try.results104]
   cases h
   exact ⟨_,_,_,_,_,rfl,trivial,.inl ⟨rfl,.inl rfl⟩,rfl,rfl⟩
  ·have h:=hy28
   refine sr (vp (i6 0) rfl (nk ⟨[(0,i6 a0),(1,eSA64u8 a1),(5,i6 0)],[]⟩ (a_block ?_)))
   refine a_loop (emb:=fun (s : Int)=>⟨[(0,i6 a0),(1,eSA64u8 a1),(5,i6 s)],[]⟩) (body:=(fun s : Int=>spec_l01Code_l1 a1 a0 s)) (G:=fun q=>some q = some y27) h rfl ?_ (by kernel_rfl)
   rintro X43 x36 x44 h hX45
   have h : spec_l01Code_l1 a1 a0 x36 = some x44:=h
   refine ns ⟨[(0,i6 a0),(1,eSA64u8 a1),(5,i6 x36)],[]⟩ (a_seq (sr (vp (i6 x36) rfl (vp (eSA64u8 a1) rfl (vq (i6 (a1.length : Int)) (len_run rfl rfl) trivial (vp (.bool ((decide (x36 < (a1.length : Int))))) rfl (nk ⟨[(0,i6 a0),(1,eSA64u8 a1),(5,i6 x36),(12,.bool ((decide (x36 < (a1.length : Int)))))],[]⟩ ?_)))))))
   cases hb46 : (decide (x36 < (a1.length : Int)))
   ·have h:=ite_f hb46 h
    refine a_cond_f rfl (a_exit (t_exit ?_))
    cases h
    have h:=hX45
    refine t_exit (b_exit ?_)
    exact j_leaf () (Option.some.inj h) (by kernel_rfl)
   ·have h:=ite_t hb46 h
    refine a_cond_t rfl (a_skip (nj ⟨[(0,i6 a0),(1,eSA64u8 a1),(5,i6 x36)],[]⟩ (a_seq (a_block (sr (vp (i6 a0) rfl (vp (eSA64u8 a1) rfl (vp (i6 x36) rfl ?_))))))))
    obtain ⟨hc47,h⟩:=ifp_some h
    refine vq (.ref (.row 64 (a1.map eVb)) [x36.toNat] [x36.toNat * 64]) rfl (lmap hc47) ?_
    have hl48 : LdOk [x36.toNat] (.row 64 (a1.map eVb)) [x36.toNat * 64] 64 true (eVb (rd a1 x36.toNat)):=(.row (llt hc47) rfl (.nil rfl rfl rfl))
    refine vq (eVb (rd a1 x36.toNat)) (ld_ref (i:=⟨.arr 64 5,64,64,(eVb (vrep 64 (0 : Int)))⟩) rfl rfl hl48) hl48.c ?_
    obtain ⟨r49,hr50,h⟩:=bind_some h
    refine a_call (args:=[(i6 a0),(eVb (rd a1 x36.toNat))]) (u:=[]) (r:=(.bool r49)) rfl rfl (spec_l01Is_ok a0 (rd a1 x36.toNat) r49 hr50) rfl (vp (.bool (!r49)) rfl (nk ⟨[(0,i6 a0),(1,eSA64u8 a1),(5,i6 x36),(21,.bool (!r49))],[]⟩ ?_))
    cases hb51 : (!r49)
    ·have h:=ite_f hb51 h
     refine a_cond_f rfl (a_skip (b_norm (nj ⟨[(0,i6 a0),(1,eSA64u8 a1),(5,i6 x36)],[]⟩ (a_region (vp (i6 x36) rfl (vp (i6 (IntKind.i64.wrap (x36 + 1))) rfl (vp (i6 (IntKind.i64.wrap (x36 + 1))) rfl (a_nil ?_))))))))
     cases h
     exact a_again (by kernel_rfl) hX45
    ·have h:=ite_t hb51 h
     refine a_cond_t rfl (sr (vp (i6 1) rfl (nx _ rfl (a_ret (b_ret (t_ret ?_))))))
     cases h
     have h:=hX45
     refine t_ret (b_ret (t_ret ?_))
     cases h
     have h:=hk29
     refine ⟨.inr rfl,?_⟩
     rw [Try.results104]
     cases h
     exact ⟨_,_,_,_,_,rfl,trivial,.inl ⟨rfl,.inl rfl⟩,rfl,rfl⟩
 ·have h:=ite_t hb3 h
  refine a_cond_t rfl (sr (vp (i6 1) rfl (nx _ rfl (a_ret (t_ret ?_)))))
  refine ⟨.inr rfl,?_⟩
  rw [Try.results104]
  cases h
  exact ⟨_,_,_,_,_,rfl,trivial,.inl ⟨rfl,.inl rfl⟩,rfl,rfl⟩
def spec_l01In_c : ACode:=(.seq (.region 0 [q 6 (.asg 0 (.const (.bool false)) 4)] false) (.seq (.region 1 [q 7 (.mov (t 0)),q 8 (.mov (t 1)),q 9 (.bin .geq 2 (t 7) (t 8)),q 10 (.mov (t 9)),⟨some 11,.mov (t 0),some (10,true),[]⟩,⟨some 12,.mov (t 2),some (10,true),[]⟩,⟨some 13,.bin .leq 2 (t 11) (t 12),some (10,true),[]⟩,q 14 (.pick (t 10) (t 13) (.const (.bool false))),q 6 (.asg 0 (t 14) 4)] false) .ret))
def spec_l01In_L : Live:=[(0,[0,1,2]),(1,[0,1,2])]
noncomputable def spec_l01In (a0 : Int) (a1 : Int) (a2 : Int) : Option Bool :=
 (if (decide (a0 ≥ a1)) then (some ((decide (a0 ≤ a2)))) else (some false))
theorem spec_l01In_ok (a0 : Int) (a1 : Int) (a2 : Int) (r : Bool) (h : spec_l01In a0 a1 a2 = some r) : Den Try.prog 160 [(i6 a0),(i6 a1),(i6 a2)] { r:=(.bool r) }:=by
 refine den_of (rs:=[(.bool r)]) (ac:=spec_l01In_c) (L:=spec_l01In_L) (n:=15) (m:=[]) (c:=Try.f160.body.getD .skip) good Try.func160 (by kernel_rfl) (by kernel_rfl) Try.ntmps160 rfl rfl (by kernel_rfl) rfl rfl ?_
 refine ns ⟨[(0,i6 a0),(1,i6 a1),(2,i6 a2)],[]⟩ ?_
 unfold spec_l01In_c
 refine sr (vp (.bool false) rfl (nk ⟨[(0,i6 a0),(1,i6 a1),(2,i6 a2)],[]⟩ (sr (vp (i6 a0) rfl (vp (i6 a1) rfl (vp (.bool ((decide (a0 ≥ a1)))) rfl (vp (.bool ((decide (a0 ≥ a1)))) rfl ?_)))))))
 cases hb1 : (decide (a0 ≥ a1))
 ·have h:=ite_f hb1 h
  refine a_gskip rfl (a_gskip rfl (a_gskip rfl (vp (.bool false) rfl (vp (.bool false) rfl (nx _ rfl (a_ret ?_))))))
  refine ⟨.inr rfl,?_⟩
  rw [Try.results160]
  cases h
  exact ⟨_,_,_,_,_,rfl,trivial,.inl ⟨rfl,.inl rfl⟩,rfl,rfl⟩
 ·have h:=ite_t hb1 h
  refine gp (i6 a0) rfl rfl (gp (i6 a2) rfl rfl (gp (.bool ((decide (a0 ≤ a2)))) rfl rfl (vp (.bool ((decide (a0 ≤ a2)))) rfl (vp (.bool ((decide (a0 ≤ a2)))) rfl (nx _ rfl (a_ret ?_))))))
  refine ⟨.inr rfl,?_⟩
  rw [Try.results160]
  cases h
  exact ⟨_,_,_,_,_,rfl,trivial,.inl ⟨rfl,.inl rfl⟩,rfl,rfl⟩
def spec_l01One_c : ACode:=(.seq (.region 0 [q 0 (.alloc 25)] false) (.seq (.region 1 [q 1 (.build 25 [(0,.const (.int .u8 1))]),⟨none,.store 25 (t 0) (t 1),none,[]⟩] false) .ret))
def spec_l01One_L : Live:=[(0,[]),(1,[0])]
noncomputable def spec_l01One  : Option (Vec Int 64) :=
 (some ((vset (vrep 64 (0 : Int)) 0 1)))
theorem spec_l01One_ok  (r : (Vec Int 64)) (h : spec_l01One = some r) : Den Try.prog 133 [] { r:=(eVb r) }:=by
 refine den_of (rs:=[(eVb r)]) (ac:=spec_l01One_c) (L:=spec_l01One_L) (n:=2) (m:=[]) (c:=Try.f133.body.getD .skip) good Try.func133 (by kernel_rfl) (by kernel_rfl) Try.ntmps133 rfl rfl (by kernel_rfl) rfl rfl ?_
 refine ns ⟨[],[]⟩ ?_
 unfold spec_l01One_c
 refine sr (vo 1000 (eVb ((vrep 64 (0 : Int)))) rfl rfl (nk ⟨[(0,ow 0)],[(0,bk (eVb ((vrep 64 (0 : Int)))))]⟩ (sr (vq (eVb ((vset (vrep 64 (0 : Int)) 0 1))) rfl ⟨⟨_,rfl,rfl⟩,(all_cons ⟨(Nat.le_of_ble_eq_true rfl),rfl⟩ all_nil)⟩ (vs (eVb ((vset (vrep 64 (0 : Int)) 0 1))) rfl rfl (fun _=>rfl) rfl rfl rfl rfl rfl rfl (nx _ rfl (a_ret ?_)))))))
 have hl2 : LdOk [] (eVb ((vset (vrep 64 (0 : Int)) 0 1))) [] 64 true (eVb ((vset (vrep 64 (0 : Int)) 0 1))):=(.nil rfl rfl rfl)
 refine ⟨.inr rfl,?_⟩
 rw [Try.results133]
 cases h
 exact ⟨_,_,_,_,_,ld_own (i:=⟨.arr 64 5,64,64,(eVb (vrep 64 (0 : Int)))⟩) rfl rfl rfl hl2,hl2.c,.inl ⟨rfl,.inl rfl⟩,rfl,rfl⟩
def spec_l01Inverse_c : ACode:=(.seq (.region 0 [q 4 (.asg 0 (.const (.int .u8 0)) 5)] false) (.seq (.seq (.region 1 [q 5 (.asg 0 (.const (.int .i64 1)) 2)] false) (.block 0 (.loop (.seq (.seq (.region 2 [q 6 (.mov (t 5)),q 7 (.mov (t 0)),q 8 (.bin .lss 2 (t 6) (t 7))] false) (.cond (t 8) .skip (.exit 0))) (.seq (.block 1 (.seq (.region 4 [q 11 (.mov (t 5)),q 12 (.mov (t 1)),q 13 (.conv 5 2 (t 12)),q 14 (.bin .mul 2 (t 11) (t 13)),q 15 (.mov (t 0)),q 16 (.bin .rem 2 (t 14) (t 15)),q 17 (.bin .eql 2 (t 16) (.const (.int .i64 1)))] false) (.cond (t 17) (.seq (.region 5 [q 18 (.mov (t 5)),q 19 (.conv 2 5 (t 18)),q 4 (.asg 0 (t 19) 5)] false) .ret) .skip))) (.region 3 [q 9 (.mov (t 5)),q 10 (.bin .add 2 (t 9) (.const (.int .i64 1))),q 5 (.asg 0 (t 10) 2)] false)))))) (.seq (.region 6 [q 4 (.asg 0 (.const (.int .u8 0)) 5)] false) .ret)))
def spec_l01Inverse_L : Live:=[(0,[0,1]),(1,[0,1]),(2,[0,1,5]),(3,[0,1,5]),(4,[0,1,5]),(5,[5]),(6,[]),(100008,[0,1,5,8]),(100017,[0,1,5,17])]
noncomputable def spec_l01Inverse_l1 (a0 : Int) (a1 : Int) (x29 : Int) : Option (Int ⊕ (Unit ⊕ Int)) :=
 (if (decide (x29 < a0)) then (ifp (a0 ≠ 0) ((letp (((Int.tmod (IntKind.i64.wrap (x29 * (IntKind.i64.wrap a1))) a0) == 1)) fun x40=>(if x40 then (some (.inr ((.inr (IntKind.u8.wrap x29))))) else (some (.inl (IntKind.i64.wrap (x29 + 1)))))))) else (some (.inr (((.inl ()))))))
noncomputable def spec_l01Inverse (a0 : Int) (a1 : Int) : Option Int :=
 (Option.bind (α:=(Unit ⊕ Int)) ((loopM (fun s : Int=>spec_l01Inverse_l1 a0 a1 s) 1)) fun z=>match z with | .inl _=>(some 0) | .inr r44=>(some r44))
theorem spec_l01Inverse_ok (a0 : Int) (a1 : Int) (r : Int) (h : spec_l01Inverse a0 a1 = some r) : Den Try.prog 187 [(i6 a0),(b8 a1)] { r:=(b8 r) }:=by
 refine den_of (rs:=[(b8 r)]) (ac:=spec_l01Inverse_c) (L:=spec_l01Inverse_L) (n:=20) (m:=[]) (c:=Try.f187.body.getD .skip) good Try.func187 (by kernel_rfl) (by kernel_rfl) Try.ntmps187 rfl rfl (by kernel_rfl) rfl rfl ?_
 refine ns ⟨[(0,i6 a0),(1,b8 a1)],[]⟩ ?_
 unfold spec_l01Inverse_c
 refine sr (vp (b8 0) rfl (nk ⟨[(0,i6 a0),(1,b8 a1)],[]⟩ ?_))
 obtain ⟨y21,hy22,hk23⟩:=bind_some h
 clear h
 refine a_join (emb:=fun (s : Unit)=>⟨[],[]⟩) (pre:=fun s=>(.inl s) = y21) ?_ ?_
 ·rintro _ rfl
  have h:=hk23
  refine ns ⟨[],[]⟩ (sr (vp (b8 0) rfl (nx _ rfl (a_ret ?_))))
  refine ⟨.inr rfl,?_⟩
  rw [Try.results187]
  cases h
  exact ⟨_,_,_,_,_,rfl,trivial,.inl ⟨rfl,.inl rfl⟩,rfl,rfl⟩
 ·have h:=hy22
  refine sr (vp (i6 1) rfl (nk ⟨[(0,i6 a0),(1,b8 a1),(5,i6 1)],[]⟩ (a_block ?_)))
  refine a_loop (emb:=fun (s : Int)=>⟨[(0,i6 a0),(1,b8 a1),(5,i6 s)],[]⟩) (body:=(fun s : Int=>spec_l01Inverse_l1 a0 a1 s)) (G:=fun q=>some q = some y21) h rfl ?_ (by kernel_rfl)
  rintro X35 x29 x36 h hX37
  have h : spec_l01Inverse_l1 a0 a1 x29 = some x36:=h
  refine ns ⟨[(0,i6 a0),(1,b8 a1),(5,i6 x29)],[]⟩ (a_seq (sr (vp (i6 x29) rfl (vp (i6 a0) rfl (vp (.bool ((decide (x29 < a0)))) rfl (nk ⟨[(0,i6 a0),(1,b8 a1),(5,i6 x29),(8,.bool ((decide (x29 < a0))))],[]⟩ ?_))))))
  cases hb38 : (decide (x29 < a0))
  ·have h:=ite_f hb38 h
   refine a_cond_f rfl (a_exit (t_exit ?_))
   cases h
   have h:=hX37
   refine t_exit (b_exit ?_)
   exact j_leaf () (Option.some.inj h) (by kernel_rfl)
  ·have h:=ite_t hb38 h
   refine a_cond_t rfl (a_skip (nj ⟨[(0,i6 a0),(1,b8 a1),(5,i6 x29)],[]⟩ (a_seq (a_block (sr (vp (i6 x29) rfl (vp (b8 a1) rfl (vp (i6 (IntKind.i64.wrap a1)) rfl (vp (i6 (IntKind.i64.wrap (x29 * (IntKind.i64.wrap a1)))) rfl ?_)))))))))
   refine vp (i6 a0) rfl ?_
   obtain ⟨hc39,h⟩:=ifp_some h
   refine vq (i6 (Int.tmod (IntKind.i64.wrap (x29 * (IntKind.i64.wrap a1))) a0)) rfl hc39 ?_
   obtain ⟨x40,hx41,h⟩:=letp_some h
   refine a_val' (v:=(.bool (((Int.tmod (IntKind.i64.wrap (x29 * (IntKind.i64.wrap a1))) a0) == 1)))) (v':=(.bool x40)) (u:=[]) (u':=[]) rfl (congrArg (fun z=>((.bool z) : AV)) hx41) rfl trivial rfl (nk ⟨[(0,i6 a0),(1,b8 a1),(5,i6 x29),(17,.bool x40)],[]⟩ ?_)
   cases hb42 : x40
   ·have h:=ite_f hb42 h
    refine a_cond_f rfl (a_skip (b_norm (nj ⟨[(0,i6 a0),(1,b8 a1),(5,i6 x29)],[]⟩ (a_region (vp (i6 x29) rfl (vp (i6 (IntKind.i64.wrap (x29 + 1))) rfl (vp (i6 (IntKind.i64.wrap (x29 + 1))) rfl (a_nil ?_))))))))
    cases h
    exact a_again (by kernel_rfl) hX37
   ·have h:=ite_t hb42 h
    refine a_cond_t rfl (sr (vp (i6 x29) rfl (vp (b8 (IntKind.u8.wrap x29)) rfl (vp (b8 (IntKind.u8.wrap x29)) rfl (nx _ rfl (a_ret (b_ret (t_ret ?_))))))))
    cases h
    have h:=hX37
    refine t_ret (b_ret (t_ret ?_))
    cases h
    have h:=hk23
    refine ⟨.inr rfl,?_⟩
    rw [Try.results187]
    cases h
    exact ⟨_,_,_,_,_,rfl,trivial,.inl ⟨rfl,.inl rfl⟩,rfl,rfl⟩
end Go.Proofs.Ytkbnegemdlnncaa
