/- Functions of the program: plain Lean functions, and that the program computes them. Printed by gen.py. -/
import Derived.Test.YtkbnegemdlnncaaFnT
import Derived.Test.YtkbnegemdlnncaaFn1
import Derived.Test.YtkbnegemdlnncaaFn3
namespace Go.Proofs.Ytkbnegemdlnncaa
open Go.Abs Go.Proofs
set_option linter.unusedSimpArgs false
set_option linter.unusedVariables false
set_option maxHeartbeats 16000000
attribute [local irreducible] Abs.acode Abs.aops Abs.aopsT Abs.thenK Abs.blockK

def spec_l01Divide_c : ACode:=(.seq (.region 0 [q 4 (.box 25 (t 1)),q 5 (.box 25 (t 2)),q 6 (.alloc 25),q 7 (.alloc 25)] false) (.seq (.region 1 [q 14 (.build 25 []),q 15 (.load 25 (t 5)),q 16 (.call 0 (.func 112) [(t 15)]),q 8 (.alloc 25),⟨none,.store 25 (t 8) (t 14),none,[]⟩,q 9 (.asg 0 (t 16) 2)] false) (.seq (.region 2 [q 17 (.mov (t 0)),q 18 (.mov (t 9)),q 19 (.indexAddr 25 (t 5) (t 18)),q 20 (.load 5 (t 19)),q 21 (.call 0 (.func 187) [(t 17),(t 20)]),q 22 (.conv 5 2 (t 21)),q 10 (.asg 0 (t 22) 2)] false) (.seq (.seq (.region 3 [q 23 (.load 25 (t 4)),q 24 (.call 0 (.func 112) [(t 23)]),q 11 (.asg 0 (t 24) 2)] false) (.block 0 (.loop (.seq (.seq (.region 4 [q 25 (.mov (t 11)),q 26 (.mov (t 9)),q 27 (.bin .geq 2 (t 25) (t 26))] false) (.cond (t 27) .skip (.exit 0))) (.seq (.block 1 (.seq (.region 6 [q 30 (.mov (t 11)),q 31 (.indexAddr 25 (t 4) (t 30)),q 32 (.load 5 (t 31)),q 33 (.conv 5 2 (t 32)),q 34 (.mov (t 10)),q 35 (.bin .mul 2 (t 33) (t 34)),q 36 (.mov (t 0)),q 37 (.bin .rem 2 (t 35) (t 36)),q 12 (.asg 0 (t 37) 2)] false) (.seq (.region 7 [q 38 (.mov (t 11)),q 39 (.mov (t 9)),q 40 (.bin .sub 2 (t 38) (t 39)),q 41 (.mov (t 12)),q 42 (.conv 2 5 (t 41)),q 43 (.indexAddr 25 (t 8) (t 40)),⟨none,.store 5 (t 43) (t 42),none,[]⟩] false) (.seq (.region 8 [q 13 (.asg 0 (.const (.int .i64 0)) 2)] false) (.block 2 (.loop (.seq (.seq (.region 9 [q 44 (.mov (t 13)),q 45 (.mov (t 9)),q 46 (.bin .leq 2 (t 44) (t 45)),q 47 (.mov (t 46)),⟨some 48,.mov (t 12),some (47,true),[]⟩,⟨some 49,.bin .neq 2 (t 48) (.const (.int .i64 0)),some (47,true),[]⟩,q 50 (.pick (t 47) (t 49) (.const (.bool false)))] false) (.cond (t 50) .skip (.exit 2))) (.seq (.block 3 (.region 11 [q 53 (.mov (t 11)),q 54 (.mov (t 9)),⟨some 55,.bin .sub 2 (t 53) (t 54),none,[0,1]⟩,q 56 (.mov (t 13)),⟨some 57,.bin .add 2 (t 55) (t 56),none,[2,3]⟩,q 58 (.mov (t 11)),q 59 (.mov (t 9)),⟨some 60,.bin .sub 2 (t 58) (t 59),none,[5,6]⟩,q 61 (.mov (t 13)),⟨some 62,.bin .add 2 (t 60) (t 61),none,[7,8]⟩,⟨some 63,.indexAddr 25 (t 4) (t 62),none,[9]⟩,⟨some 64,.load 5 (t 63),none,[10]⟩,⟨some 65,.conv 5 2 (t 64),none,[11]⟩,q 66 (.mov (t 12)),q 67 (.mov (t 13)),⟨some 68,.indexAddr 25 (t 5) (t 67),none,[14]⟩,⟨some 69,.load 5 (t 68),none,[15]⟩,⟨some 70,.conv 5 2 (t 69),none,[16]⟩,⟨some 71,.bin .mul 2 (t 66) (t 70),none,[13,17]⟩,⟨some 72,.bin .sub 2 (t 65) (t 71),none,[12,18]⟩,q 73 (.mov (t 0)),⟨some 74,.bin .rem 2 (t 72) (t 73),none,[19,20]⟩,q 75 (.mov (t 0)),⟨some 76,.bin .add 2 (t 74) (t 75),none,[21,22]⟩,q 77 (.mov (t 0)),⟨some 78,.bin .rem 2 (t 76) (t 77),none,[23,24]⟩,⟨some 79,.conv 2 5 (t 78),none,[25]⟩,⟨some 80,.indexAddr 25 (t 4) (t 57),none,[4,0,1,2,3,4,5,6,7,8,9,10,11,12,13,14,15,16,17,18,19,20,21,22,23,24,25,26]⟩,⟨none,.store 5 (t 80) (t 79),none,[27,26,0,1,2,3,4,5,6,7,8,9,10,11,12,13,14,15,16,17,18,19,20,21,22,23,24,25,26]⟩] true)) (.region 10 [q 51 (.mov (t 13)),q 52 (.bin .add 2 (t 51) (.const (.int .i64 1))),q 13 (.asg 0 (t 52) 2)] false))))))))) (.region 5 [q 28 (.mov (t 11)),q 29 (.bin .sub 2 (t 28) (.const (.int .i64 1))),q 11 (.asg 0 (t 29) 2)] false)))))) (.seq (.region 12 [q 81 (.load 25 (t 8)),q 82 (.load 25 (t 4)),⟨none,.store 25 (t 6) (t 81),none,[0,0]⟩,⟨none,.store 25 (t 7) (t 82),none,[1,2,0,1,2]⟩] true) .ret)))))
def spec_l01Divide_L : Live:=[(0,[0,1,2]),(1,[0,4,5,6,7]),(2,[0,4,5,6,7,8,9]),(3,[0,4,5,6,7,8,9,10]),(4,[0,4,5,6,7,8,9,10,11]),(5,[0,4,5,6,7,8,9,10,11]),(6,[0,4,5,6,7,8,9,10,11]),(7,[0,4,5,6,7,8,9,10,11,12]),(8,[0,4,5,6,7,8,9,10,11,12]),(9,[0,4,5,6,7,8,9,10,11,12,13]),(10,[0,4,5,6,7,8,9,10,11,12,13]),(11,[0,4,5,6,7,8,9,10,11,12,13]),(12,[4,6,7,8]),(100027,[0,4,5,6,7,8,9,10,11,27]),(100050,[0,4,5,6,7,8,9,10,11,12,13,50])]
noncomputable def spec_l01Divide_l2 (r2 : Int) (x1405 : Int) (a0 : Int) (x995 : Int) (a2 : (Vec Int 64)) (x997 : (Vec Int 64)) (x1449 : Int) (x1450 : (Vec Int 64)) : Option ((Int × (Vec Int 64)) ⊕ ((Vec Int 64) × (Vec Int 64))) :=
 (Option.bind (α:=Bool) ((if (decide (x1449 ≤ r2)) then (some (((Int.tmod x1405 a0) != 0))) else (some false))) fun x1494=>(if x1494 then (ifp (0 ≤ IntKind.i64.wrap ((IntKind.i64.wrap (x995 - r2)) + x1449) ∧ IntKind.i64.wrap ((IntKind.i64.wrap (x995 - r2)) + x1449) < ((64 : Nat) : Int)) ((letp ((rd x1450.1 (IntKind.i64.wrap ((IntKind.i64.wrap (x995 - r2)) + x1449)).toNat)) fun x1518=>(ifp (0 ≤ x1449 ∧ x1449 < ((64 : Nat) : Int)) ((letp (IntKind.i64.wrap ((Int.tmod x1405 a0) * (IntKind.i64.wrap (rd a2.1 x1449.toNat)))) fun x1522=>(ifp (a0 ≠ 0) ((letp (Int.tmod (IntKind.i64.wrap ((IntKind.i64.wrap x1518) - x1522)) a0) fun x1525=>(ifp (a0 ≠ 0) ((letp (IntKind.u8.wrap (Int.tmod (IntKind.i64.wrap (x1525 + a0)) a0)) fun x1528=>(ifp (0 ≤ IntKind.i64.wrap ((IntKind.i64.wrap (x995 - r2)) + x1449) ∧ IntKind.i64.wrap ((IntKind.i64.wrap (x995 - r2)) + x1449) < ((64 : Nat) : Int)) ((some (.inl ((IntKind.i64.wrap (x1449 + 1),(vset x1450 (IntKind.i64.wrap ((IntKind.i64.wrap (x995 - r2)) + x1449)).toNat x1528))))))))))))))))))) else (some (.inr (((x1450,(vset x997 (IntKind.i64.wrap (x995 - r2)).toNat (IntKind.u8.wrap (Int.tmod x1405 a0))))))))))
noncomputable def spec_l01Divide_l1 (r2 : Int) (r7 : Int) (a0 : Int) (a2 : (Vec Int 64)) (x995 : Int) (x996 : (Vec Int 64)) (x997 : (Vec Int 64)) : Option ((Int × (Vec Int 64) × (Vec Int 64)) ⊕ ((Vec Int 64) × (Vec Int 64))) :=
 (if (decide (x995 ≥ r2)) then (Option.bind (α:=((Vec Int 64) × (Vec Int 64))) ((ifp (0 ≤ x995 ∧ x995 < ((64 : Nat) : Int)) ((letp (IntKind.i64.wrap ((IntKind.i64.wrap (rd x996.1 x995.toNat)) * (IntKind.i64.wrap r7))) fun x1405=>(ifp (a0 ≠ 0) ((ifp (0 ≤ IntKind.i64.wrap (x995 - r2) ∧ IntKind.i64.wrap (x995 - r2) < ((64 : Nat) : Int)) ((loopM (fun s : (Int × (Vec Int 64))=>spec_l01Divide_l2 r2 x1405 a0 x995 a2 x997 s.1 s.2) (0,x996)))))))))) fun ⟨x1398,x1399⟩=>(some (.inl ((IntKind.i64.wrap (x995 - 1),x1398,x1399))))) else (some (.inr (x996,x997))))
noncomputable def spec_l01Divide (a0 : Int) (a1 : (Vec Int 64)) (a2 : (Vec Int 64)) : Option ((Vec Int 64) × (Vec Int 64)) :=
 (Option.bind (spec_l01Deg a2) fun r2=>(ifp (0 ≤ r2 ∧ r2 < ((64 : Nat) : Int)) ((Option.bind (spec_l01Inverse a0 (rd a2.1 r2.toNat)) fun r7=>(Option.bind (α:=((Vec Int 64) × (Vec Int 64))) ((Option.bind (spec_l01Deg a1) fun r751=>(loopM (fun s : (Int × (Vec Int 64) × (Vec Int 64))=>spec_l01Divide_l1 r2 r7 a0 a2 s.1 s.2.1 s.2.2) (r751,a1,(vrep 64 (0 : Int)))))) fun ⟨x745,x746⟩=>(some (x746,x745)))))))
theorem spec_l01Divide_ok (a0 : Int) (a1 : (Vec Int 64)) (a2 : (Vec Int 64)) (r : ((Vec Int 64) × (Vec Int 64))) (h : spec_l01Divide a0 a1 a2 = some r) : Den Try.prog 113 [(i6 a0),(eVb a1),(eVb a2)] { r:=(.tuple [(eVb r.1),(eVb r.2)]) }:=by
 refine den_of (rs:=[(eVb r.1),(eVb r.2)]) (ac:=spec_l01Divide_c) (L:=spec_l01Divide_L) (n:=83) (m:=[]) (c:=Try.f113.body.getD .skip) good Try.func113 (by kernel_rfl) (by kernel_rfl) Try.ntmps113 rfl rfl (by kernel_rfl) rfl rfl ?_
 refine ns ⟨[(0,i6 a0),(1,eVb a1),(2,eVb a2)],[]⟩ ?_
 unfold spec_l01Divide_c
 refine sr (vo 1400 (eVb a1) rfl rfl (vo 1500 (eVb a2) rfl rfl (vo 1600 (eVb ((vrep 64 (0 : Int)))) rfl rfl (vo 1700 (eVb ((vrep 64 (0 : Int)))) rfl rfl (nk ⟨[(0,i6 a0),(4,ow 4),(5,ow 5),(6,ow 6),(7,ow 7)],[(4,bk (eVb a1)),(5,bk (eVb a2)),(6,bk (eVb ((vrep 64 (0 : Int))))),(7,bk (eVb ((vrep 64 (0 : Int)))))]⟩ (sr (vq (eVb ((vrep 64 (0 : Int)))) rfl ⟨⟨_,rfl,rfl⟩,all_nil⟩ (vl (eVb a2) rfl rfl rfl rfl rfl rfl ?_))))))))
 obtain ⟨r2,hr3,h⟩:=bind_some h
 refine a_call (args:=[(eVb a2)]) (u:=[]) (r:=(i6 r2)) rfl rfl (spec_l01Deg_ok a2 r2 hr3) rfl (vo 1800 (eVb ((vrep 64 (0 : Int)))) rfl rfl (vs (eVb ((vrep 64 (0 : Int)))) rfl rfl (fun _=>rfl) rfl rfl rfl rfl rfl rfl (vp (i6 r2) rfl (nk ⟨[(0,i6 a0),(4,ow 4),(5,ow 5),(6,ow 6),(7,ow 7),(8,ow 8),(9,i6 r2)],[(4,bk (eVb a1)),(5,bk (eVb a2)),(6,bk (eVb ((vrep 64 (0 : Int))))),(7,bk (eVb ((vrep 64 (0 : Int))))),(8,bk (eVb ((vrep 64 (0 : Int)))))]⟩ (sr (vp (i6 a0) rfl (vp (i6 r2) rfl ?_)))))))
 obtain ⟨hc5,h⟩:=ifp_some h
 refine vq (.own 5 [r2.toNat] [r2.toNat * 1]) rfl hc5 ?_
 have hl6 : LdOk [r2.toNat] (eVb a2) [r2.toNat * 1] 1 false (b8 (rd a2.1 r2.toNat)):=(.arr (vlt a2 hc5) rfl (.nil rfl rfl rfl))
 refine vq (b8 (rd a2.1 r2.toNat)) (ld_own (i:=⟨.int .u8,1,1,(.int .u8 0)⟩) rfl rfl rfl hl6) hl6.c ?_
 obtain ⟨r7,hr8,h⟩:=bind_some h
 refine a_call (args:=[(i6 a0),(b8 (rd a2.1 r2.toNat))]) (u:=[]) (r:=(b8 r7)) rfl rfl (spec_l01Inverse_ok a0 (rd a2.1 r2.toNat) r7 hr8) rfl (vp (i6 (IntKind.i64.wrap r7)) rfl (vp (i6 (IntKind.i64.wrap r7)) rfl (nk ⟨[(0,i6 a0),(4,ow 4),(5,ow 5),(6,ow 6),(7,ow 7),(8,ow 8),(9,i6 r2),(10,i6 (IntKind.i64.wrap r7))],[(4,bk (eVb a1)),(5,bk (eVb a2)),(6,bk (eVb ((vrep 64 (0 : Int))))),(7,bk (eVb ((vrep 64 (0 : Int))))),(8,bk (eVb ((vrep 64 (0 : Int)))))]⟩ ?_)))
 obtain ⟨y747,hy748,hk749⟩:=bind_some h
 clear h
 refine a_join (emb:=fun (s : ((Vec Int 64) × (Vec Int 64)))=>⟨[(4,ow 4),(6,ow 6),(7,ow 7),(8,ow 8)],[(4,bk (eVb s.1)),(6,bk (eVb ((vrep 64 (0 : Int))))),(7,bk (eVb ((vrep 64 (0 : Int))))),(8,bk (eVb s.2))]⟩) (pre:=fun s=>s = y747) ?_ ?_
 ·rintro ⟨x745,x746⟩ rfl
  have h:=hk749
  refine ns ⟨[(4,ow 4),(6,ow 6),(7,ow 7),(8,ow 8)],[(4,bk (eVb x745)),(6,bk (eVb ((vrep 64 (0 : Int))))),(7,bk (eVb ((vrep 64 (0 : Int))))),(8,bk (eVb x746))]⟩ (a_seq (a_draw [⟨[8],[],[],[]⟩,⟨[4],[],[],[]⟩,⟨[6],[6],[],[0]⟩,⟨[7],[7],[],[0,1,2]⟩] (by kernel_rfl) (d_cons (vl (eVb x746) rfl rfl rfl rfl rfl rfl (d_next (by kernel_rfl) (d_cons (vl (eVb x745) rfl rfl rfl rfl rfl rfl (d_next (by kernel_rfl) (d_cons ?_)))))))))
  refine vs (eVb x746) rfl rfl (fun _=>rfl) rfl rfl rfl rfl rfl rfl (d_next (by kernel_rfl) (d_cons (vs (eVb x745) rfl rfl (fun _=>rfl) rfl rfl rfl rfl rfl rfl (d_next (by kernel_rfl) (d_nil (a_next rfl (a_ret ?_)))))))
  have hl1542 : LdOk [] (eVb x746) [] 64 true (eVb x746):=(.nil rfl rfl rfl)
  have hl1543 : LdOk [] (eVb x745) [] 64 true (eVb x745):=(.nil rfl rfl rfl)
  refine ⟨.inr rfl,?_⟩
  rw [Try.results113]
  cases h
  exact ⟨_,_,_,_,_,ld_own (i:=⟨.arr 64 5,64,64,(eVb (vrep 64 (0 : Int)))⟩) rfl rfl rfl hl1542,hl1542.c,.inl ⟨rfl,.inl rfl⟩,rfl,⟨_,_,_,_,_,ld_own (i:=⟨.arr 64 5,64,64,(eVb (vrep 64 (0 : Int)))⟩) rfl rfl rfl hl1543,hl1543.c,.inl ⟨rfl,.inl rfl⟩,rfl,rfl⟩⟩
 ·have h:=hy748
  refine sr (vl (eVb a1) rfl rfl rfl rfl rfl rfl ?_)
  obtain ⟨r751,hr752,h⟩:=bind_some h
  refine a_call (args:=[(eVb a1)]) (u:=[]) (r:=(i6 r751)) rfl rfl (spec_l01Deg_ok a1 r751 hr752) rfl (vp (i6 r751) rfl (nk ⟨[(0,i6 a0),(4,ow 4),(5,ow 5),(6,ow 6),(7,ow 7),(8,ow 8),(9,i6 r2),(10,i6 (IntKind.i64.wrap r7)),(11,i6 r751)],[(4,bk (eVb a1)),(5,bk (eVb a2)),(6,bk (eVb ((vrep 64 (0 : Int))))),(7,bk (eVb ((vrep 64 (0 : Int))))),(8,bk (eVb ((vrep 64 (0 : Int)))))]⟩ (a_block ?_)))
  refine a_loop (emb:=fun (s : (Int × (Vec Int 64) × (Vec Int 64)))=>⟨[(0,i6 a0),(4,ow 4),(5,ow 5),(6,ow 6),(7,ow 7),(8,ow 8),(9,i6 r2),(10,i6 (IntKind.i64.wrap r7)),(11,i6 s.1)],[(4,bk (eVb s.2.1)),(5,bk (eVb a2)),(6,bk (eVb ((vrep 64 (0 : Int))))),(7,bk (eVb ((vrep 64 (0 : Int))))),(8,bk (eVb s.2.2))]⟩) (body:=(fun s : (Int × (Vec Int 64) × (Vec Int 64))=>spec_l01Divide_l1 r2 r7 a0 a2 s.1 s.2.1 s.2.2)) (G:=fun q=>some q = some y747) h rfl ?_ (by kernel_rfl)
  rintro X1264 ⟨x995,x996,x997⟩ x1265 h hX1266
  have h : spec_l01Divide_l1 r2 r7 a0 a2 x995 x996 x997 = some x1265:=h
  refine ns ⟨[(0,i6 a0),(4,ow 4),(5,ow 5),(6,ow 6),(7,ow 7),(8,ow 8),(9,i6 r2),(10,i6 (IntKind.i64.wrap r7)),(11,i6 x995)],[(4,bk (eVb x996)),(5,bk (eVb a2)),(6,bk (eVb ((vrep 64 (0 : Int))))),(7,bk (eVb ((vrep 64 (0 : Int))))),(8,bk (eVb x997))]⟩ (a_seq (sr (vp (i6 x995) rfl (vp (i6 r2) rfl (vp (.bool ((decide (x995 ≥ r2)))) rfl (nk ⟨[(0,i6 a0),(4,ow 4),(5,ow 5),(6,ow 6),(7,ow 7),(8,ow 8),(9,i6 r2),(10,i6 (IntKind.i64.wrap r7)),(11,i6 x995),(27,.bool ((decide (x995 ≥ r2))))],[(4,bk (eVb x996)),(5,bk (eVb a2)),(6,bk (eVb ((vrep 64 (0 : Int))))),(7,bk (eVb ((vrep 64 (0 : Int))))),(8,bk (eVb x997))]⟩ ?_))))))
  cases hb1267 : (decide (x995 ≥ r2))
  ·have h:=ite_f hb1267 h
   refine a_cond_f rfl (a_exit (t_exit ?_))
   cases h
   have h:=hX1266
   refine t_exit (b_exit ?_)
   exact j_leaf (x996,x997) (Option.some.inj h) (by kernel_rfl)
  ·have h:=ite_t hb1267 h
   refine a_cond_t rfl (a_skip (nj ⟨[(0,i6 a0),(4,ow 4),(5,ow 5),(6,ow 6),(7,ow 7),(8,ow 8),(9,i6 r2),(10,i6 (IntKind.i64.wrap r7)),(11,i6 x995)],[(4,bk (eVb x996)),(5,bk (eVb a2)),(6,bk (eVb ((vrep 64 (0 : Int))))),(7,bk (eVb ((vrep 64 (0 : Int))))),(8,bk (eVb x997))]⟩ ?_))
   obtain ⟨y1400,hy1401,hk1402⟩:=bind_some h
   clear h
   refine a_join (emb:=fun (s : ((Vec Int 64) × (Vec Int 64)))=>⟨[(0,i6 a0),(4,ow 4),(5,ow 5),(6,ow 6),(7,ow 7),(8,ow 8),(9,i6 r2),(10,i6 (IntKind.i64.wrap r7)),(11,i6 x995)],[(4,bk (eVb s.1)),(5,bk (eVb a2)),(6,bk (eVb ((vrep 64 (0 : Int))))),(7,bk (eVb ((vrep 64 (0 : Int))))),(8,bk (eVb s.2))]⟩) (pre:=fun s=>s = y1400) ?_ ?_
   ·rintro ⟨x1398,x1399⟩ rfl
    have h:=hk1402
    refine ns ⟨[(0,i6 a0),(4,ow 4),(5,ow 5),(6,ow 6),(7,ow 7),(8,ow 8),(9,i6 r2),(10,i6 (IntKind.i64.wrap r7)),(11,i6 x995)],[(4,bk (eVb x1398)),(5,bk (eVb a2)),(6,bk (eVb ((vrep 64 (0 : Int))))),(7,bk (eVb ((vrep 64 (0 : Int))))),(8,bk (eVb x1399))]⟩ (a_region (vp (i6 x995) rfl (vp (i6 (IntKind.i64.wrap (x995 - 1))) rfl (vp (i6 (IntKind.i64.wrap (x995 - 1))) rfl (a_nil ?_)))))
    cases h
    exact a_again (by kernel_rfl) hX1266
   ·have h:=hy1401
    refine a_block (sr (vp (i6 x995) rfl ?_))
    obtain ⟨hc1403,h⟩:=ifp_some h
    refine vq (.own 4 [x995.toNat] [x995.toNat * 1]) rfl hc1403 ?_
    have hl1404 : LdOk [x995.toNat] (eVb x996) [x995.toNat * 1] 1 false (b8 (rd x996.1 x995.toNat)):=(.arr (vlt x996 hc1403) rfl (.nil rfl rfl rfl))
    refine vq (b8 (rd x996.1 x995.toNat)) (ld_own (i:=⟨.int .u8,1,1,(.int .u8 0)⟩) rfl rfl rfl hl1404) hl1404.c (vp (i6 (IntKind.i64.wrap (rd x996.1 x995.toNat))) rfl (vp (i6 (IntKind.i64.wrap r7)) rfl ?_))
    obtain ⟨x1405,hx1406,h⟩:=letp_some h
    refine a_val' (v:=(i6 (IntKind.i64.wrap ((IntKind.i64.wrap (rd x996.1 x995.toNat)) * (IntKind.i64.wrap r7))))) (v':=(i6 x1405)) (u:=[]) (u':=[]) rfl (congrArg (fun z=>((i6 z) : AV)) hx1406) rfl trivial rfl (vp (i6 a0) rfl ?_)
    obtain ⟨hc1407,h⟩:=ifp_some h
    refine vq (i6 (Int.tmod x1405 a0)) rfl hc1407 (vp (i6 (Int.tmod x1405 a0)) rfl (nk ⟨[(0,i6 a0),(4,ow 4),(5,ow 5),(6,ow 6),(7,ow 7),(8,ow 8),(9,i6 r2),(10,i6 (IntKind.i64.wrap r7)),(11,i6 x995),(12,i6 (Int.tmod x1405 a0))],[(4,bk (eVb x996)),(5,bk (eVb a2)),(6,bk (eVb ((vrep 64 (0 : Int))))),(7,bk (eVb ((vrep 64 (0 : Int))))),(8,bk (eVb x997))]⟩ (sr (vp (i6 x995) rfl (vp (i6 r2) rfl (vp (i6 (IntKind.i64.wrap (x995 - r2))) rfl (vp (i6 (Int.tmod x1405 a0)) rfl (vp (b8 (IntKind.u8.wrap (Int.tmod x1405 a0))) rfl ?_))))))))
    obtain ⟨hc1408,h⟩:=ifp_some h
    refine vq (.own 8 [(IntKind.i64.wrap (x995 - r2)).toNat] [(IntKind.i64.wrap (x995 - r2)).toNat * 1]) rfl hc1408 ?_
    have hs1409 : StOk [(IntKind.i64.wrap (x995 - r2)).toNat] (eVb x997) [(IntKind.i64.wrap (x995 - r2)).toNat * 1] 1 (b8 (IntKind.u8.wrap (Int.tmod x1405 a0))) (eVb ((vset x997 (IntKind.i64.wrap (x995 - r2)).toNat (IntKind.u8.wrap (Int.tmod x1405 a0))))):=(.arr (y:=IntKind.u8.wrap (Int.tmod x1405 a0)) (vlt x997 hc1408) rfl (.nil rfl rfl rfl rfl))
    refine vu .top [(8,bk (eVb ((vset x997 (IntKind.i64.wrap (x995 - r2)).toNat (IntKind.u8.wrap (Int.tmod x1405 a0))))))] (st_own (i:=⟨.int .u8,1,1,(.int .u8 0)⟩) rfl rfl (fun _=>rfl) rfl hs1409) (hs1409.c rfl) rfl (nk ⟨[(0,i6 a0),(4,ow 4),(5,ow 5),(6,ow 6),(7,ow 7),(8,ow 8),(9,i6 r2),(10,i6 (IntKind.i64.wrap r7)),(11,i6 x995),(12,i6 (Int.tmod x1405 a0))],[(4,bk (eVb x996)),(5,bk (eVb a2)),(6,bk (eVb ((vrep 64 (0 : Int))))),(7,bk (eVb ((vrep 64 (0 : Int))))),(8,bk (eVb ((vset x997 (IntKind.i64.wrap (x995 - r2)).toNat (IntKind.u8.wrap (Int.tmod x1405 a0))))))]⟩ (sr (vp (i6 0) rfl (nk ⟨[(0,i6 a0),(4,ow 4),(5,ow 5),(6,ow 6),(7,ow 7),(8,ow 8),(9,i6 r2),(10,i6 (IntKind.i64.wrap r7)),(11,i6 x995),(12,i6 (Int.tmod x1405 a0)),(13,i6 0)],[(4,bk (eVb x996)),(5,bk (eVb a2)),(6,bk (eVb ((vrep 64 (0 : Int))))),(7,bk (eVb ((vrep 64 (0 : Int))))),(8,bk (eVb ((vset x997 (IntKind.i64.wrap (x995 - r2)).toNat (IntKind.u8.wrap (Int.tmod x1405 a0))))))]⟩ (a_block ?_)))))
    refine a_loop (emb:=fun (s : (Int × (Vec Int 64)))=>⟨[(0,i6 a0),(4,ow 4),(5,ow 5),(6,ow 6),(7,ow 7),(8,ow 8),(9,i6 r2),(10,i6 (IntKind.i64.wrap r7)),(11,i6 x995),(12,i6 (Int.tmod x1405 a0)),(13,i6 s.1)],[(4,bk (eVb s.2)),(5,bk (eVb a2)),(6,bk (eVb ((vrep 64 (0 : Int))))),(7,bk (eVb ((vrep 64 (0 : Int))))),(8,bk (eVb ((vset x997 (IntKind.i64.wrap (x995 - r2)).toNat (IntKind.u8.wrap (Int.tmod x1405 a0))))))]⟩) (body:=(fun s : (Int × (Vec Int 64))=>spec_l01Divide_l2 r2 x1405 a0 x995 a2 x997 s.1 s.2)) (G:=fun q=>some q = some y1400) h rfl ?_ (by kernel_rfl)
    rintro X1490 ⟨x1449,x1450⟩ x1491 h hX1492
    have h : spec_l01Divide_l2 r2 x1405 a0 x995 a2 x997 x1449 x1450 = some x1491:=h
    refine ns ⟨[(0,i6 a0),(4,ow 4),(5,ow 5),(6,ow 6),(7,ow 7),(8,ow 8),(9,i6 r2),(10,i6 (IntKind.i64.wrap r7)),(11,i6 x995),(12,i6 (Int.tmod x1405 a0)),(13,i6 x1449)],[(4,bk (eVb x1450)),(5,bk (eVb a2)),(6,bk (eVb ((vrep 64 (0 : Int))))),(7,bk (eVb ((vrep 64 (0 : Int))))),(8,bk (eVb ((vset x997 (IntKind.i64.wrap (x995 - r2)).toNat (IntKind.u8.wrap (Int.tmod x1405 a0))))))]⟩ (a_seq ?_)
    obtain ⟨y1495,hy1496,hk1497⟩:=bind_some h
    clear h
    refine a_join (emb:=fun (s : Bool)=>⟨[(0,i6 a0),(4,ow 4),(5,ow 5),(6,ow 6),(7,ow 7),(8,ow 8),(9,i6 r2),(10,i6 (IntKind.i64.wrap r7)),(11,i6 x995),(12,i6 (Int.tmod x1405 a0)),(13,i6 x1449),(50,.bool s)],[(4,bk (eVb x1450)),(5,bk (eVb a2)),(6,bk (eVb ((vrep 64 (0 : Int))))),(7,bk (eVb ((vrep 64 (0 : Int))))),(8,bk (eVb ((vset x997 (IntKind.i64.wrap (x995 - r2)).toNat (IntKind.u8.wrap (Int.tmod x1405 a0))))))]⟩) (pre:=fun s=>s = y1495) ?_ ?_
    ·rintro x1494 rfl
     have h:=hk1497
     refine ns ⟨[(0,i6 a0),(4,ow 4),(5,ow 5),(6,ow 6),(7,ow 7),(8,ow 8),(9,i6 r2),(10,i6 (IntKind.i64.wrap r7)),(11,i6 x995),(12,i6 (Int.tmod x1405 a0)),(13,i6 x1449),(50,.bool x1494)],[(4,bk (eVb x1450)),(5,bk (eVb a2)),(6,bk (eVb ((vrep 64 (0 : Int))))),(7,bk (eVb ((vrep 64 (0 : Int))))),(8,bk (eVb ((vset x997 (IntKind.i64.wrap (x995 - r2)).toNat (IntKind.u8.wrap (Int.tmod x1405 a0))))))]⟩ ?_
     cases hb1499 : x1494
     ·have h:=ite_f hb1499 h
      refine a_cond_f rfl (a_exit (t_exit ?_))
      cases h
      have h:=hX1492
      refine t_exit (b_exit (b_norm ?_))
      exact j_leaf ((x1450,(vset x997 (IntKind.i64.wrap (x995 - r2)).toNat (IntKind.u8.wrap (Int.tmod x1405 a0))))) (Option.some.inj h) (by kernel_rfl)
     ·have h:=ite_t hb1499 h
      refine a_cond_t rfl (a_skip (nj ⟨[(0,i6 a0),(4,ow 4),(5,ow 5),(6,ow 6),(7,ow 7),(8,ow 8),(9,i6 r2),(10,i6 (IntKind.i64.wrap r7)),(11,i6 x995),(12,i6 (Int.tmod x1405 a0)),(13,i6 x1449)],[(4,bk (eVb x1450)),(5,bk (eVb a2)),(6,bk (eVb ((vrep 64 (0 : Int))))),(7,bk (eVb ((vrep 64 (0 : Int))))),(8,bk (eVb ((vset x997 (IntKind.i64.wrap (x995 - r2)).toNat (IntKind.u8.wrap (Int.tmod x1405 a0))))))]⟩ (a_seq (a_block (a_draw [⟨[],[],[],[]⟩,⟨[],[],[],[]⟩,⟨[],[],[],[0,1]⟩,⟨[],[],[],[]⟩,⟨[],[],[],[0,1,2,3]⟩,⟨[],[],[],[]⟩,⟨[],[],[],[]⟩,⟨[],[],[],[5,6]⟩,⟨[],[],[],[]⟩,⟨[],[],[],[5,6,7,8]⟩,⟨[4],[],[4],[5,6,7,8,9]⟩,⟨[4],[],[],[5,6,7,8,9,10]⟩,⟨[],[],[],[5,6,7,8,9,10,11]⟩,⟨[],[],[],[]⟩,⟨[],[],[],[]⟩,⟨[5],[],[5],[14]⟩,⟨[5],[],[],[14,15]⟩,⟨[],[],[],[14,15,16]⟩,⟨[],[],[],[13,14,15,16,17]⟩,⟨[],[],[],[5,6,7,8,9,10,11,12,13,14,15,16,17,18]⟩,⟨[],[],[],[]⟩,⟨[],[],[],[5,6,7,8,9,10,11,12,13,14,15,16,17,18,19,20]⟩,⟨[],[],[],[]⟩,⟨[],[],[],[5,6,7,8,9,10,11,12,13,14,15,16,17,18,19,20,21,22]⟩,⟨[],[],[],[]⟩,⟨[],[],[],[5,6,7,8,9,10,11,12,13,14,15,16,17,18,19,20,21,22,23,24]⟩,⟨[],[],[],[5,6,7,8,9,10,11,12,13,14,15,16,17,18,19,20,21,22,23,24,25]⟩,⟨[4],[],[4],[0,1,2,3,4,5,6,7,8,9,10,11,12,13,14,15,16,17,18,19,20,21,22,23,24,25,26]⟩,⟨[4],[4],[],[0,1,2,3,4,5,6,7,8,9,10,11,12,13,14,15,16,17,18,19,20,21,22,23,24,25,26,27]⟩] (by kernel_rfl) (dj (i6 x995) rfl (dj (i6 r2) rfl (dj (i6 (IntKind.i64.wrap (x995 - r2))) rfl (dj (i6 x1449) rfl ?_)))))))))
      refine dj (i6 (IntKind.i64.wrap ((IntKind.i64.wrap (x995 - r2)) + x1449))) rfl (dj (i6 x995) rfl (dj (i6 r2) rfl (dj (i6 (IntKind.i64.wrap (x995 - r2))) rfl (dj (i6 x1449) rfl (dj (i6 (IntKind.i64.wrap ((IntKind.i64.wrap (x995 - r2)) + x1449))) rfl (d_cons ?_))))))
      obtain ⟨hc1516,h⟩:=ifp_some h
      refine vq (.own 4 [(IntKind.i64.wrap ((IntKind.i64.wrap (x995 - r2)) + x1449)).toNat] [(IntKind.i64.wrap ((IntKind.i64.wrap (x995 - r2)) + x1449)).toNat * 1]) rfl hc1516 (d_next (by kernel_rfl) (d_cons ?_))
      have hl1517 : LdOk [(IntKind.i64.wrap ((IntKind.i64.wrap (x995 - r2)) + x1449)).toNat] (eVb x1450) [(IntKind.i64.wrap ((IntKind.i64.wrap (x995 - r2)) + x1449)).toNat * 1] 1 false (b8 ((rd x1450.1 (IntKind.i64.wrap ((IntKind.i64.wrap (x995 - r2)) + x1449)).toNat))):=(.arr (vlt x1450 hc1516) rfl (.nil rfl rfl rfl))
      obtain ⟨x1518,hx1519,h⟩:=letp_some h
      refine a_val' (v:=(b8 ((rd x1450.1 (IntKind.i64.wrap ((IntKind.i64.wrap (x995 - r2)) + x1449)).toNat)))) (v':=(b8 x1518)) (u:=[]) (u':=[]) (ld_own (i:=⟨.int .u8,1,1,(.int .u8 0)⟩) rfl rfl rfl hl1517) (congrArg (fun z=>((b8 z) : AV)) hx1519) rfl hl1517.c rfl (d_next (by kernel_rfl) (dj (i6 (IntKind.i64.wrap x1518)) rfl (dj (i6 (Int.tmod x1405 a0)) rfl (dj (i6 x1449) rfl (d_cons ?_)))))
      obtain ⟨hc1520,h⟩:=ifp_some h
      refine vq (.own 5 [x1449.toNat] [x1449.toNat * 1]) rfl hc1520 (d_next (by kernel_rfl) (d_cons ?_))
      have hl1521 : LdOk [x1449.toNat] (eVb a2) [x1449.toNat * 1] 1 false (b8 (rd a2.1 x1449.toNat)):=(.arr (vlt a2 hc1520) rfl (.nil rfl rfl rfl))
      refine vq (b8 (rd a2.1 x1449.toNat)) (ld_own (i:=⟨.int .u8,1,1,(.int .u8 0)⟩) rfl rfl rfl hl1521) hl1521.c (d_next (by kernel_rfl) (dj (i6 (IntKind.i64.wrap (rd a2.1 x1449.toNat))) rfl (d_cons ?_)))
      obtain ⟨x1522,hx1523,h⟩:=letp_some h
      refine a_val' (v:=(i6 (IntKind.i64.wrap ((Int.tmod x1405 a0) * (IntKind.i64.wrap (rd a2.1 x1449.toNat)))))) (v':=(i6 x1522)) (u:=[]) (u':=[]) rfl (congrArg (fun z=>((i6 z) : AV)) hx1523) rfl trivial rfl (d_next (by kernel_rfl) (dj (i6 (IntKind.i64.wrap ((IntKind.i64.wrap x1518) - x1522))) rfl (dj (i6 a0) rfl (d_cons ?_))))
      obtain ⟨hc1524,h⟩:=ifp_some h
      obtain ⟨x1525,hx1526,h⟩:=letp_some h
      refine a_val' (v:=(i6 (Int.tmod (IntKind.i64.wrap ((IntKind.i64.wrap x1518) - x1522)) a0))) (v':=(i6 x1525)) (u:=[]) (u':=[]) rfl (congrArg (fun z=>((i6 z) : AV)) hx1526) rfl hc1524 rfl (d_next (by kernel_rfl) (dj (i6 a0) rfl (dj (i6 (IntKind.i64.wrap (x1525 + a0))) rfl (dj (i6 a0) rfl (d_cons ?_)))))
      obtain ⟨hc1527,h⟩:=ifp_some h
      refine vq (i6 (Int.tmod (IntKind.i64.wrap (x1525 + a0)) a0)) rfl hc1527 (d_next (by kernel_rfl) (d_cons ?_))
      obtain ⟨x1528,hx1529,h⟩:=letp_some h
      refine a_val' (v:=(b8 (IntKind.u8.wrap (Int.tmod (IntKind.i64.wrap (x1525 + a0)) a0)))) (v':=(b8 x1528)) (u:=[]) (u':=[]) rfl (congrArg (fun z=>((b8 z) : AV)) hx1529) rfl trivial rfl (d_next (by kernel_rfl) (d_cons ?_))
      obtain ⟨hc1530,h⟩:=ifp_some h
      refine vq (.own 4 [(IntKind.i64.wrap ((IntKind.i64.wrap (x995 - r2)) + x1449)).toNat] [(IntKind.i64.wrap ((IntKind.i64.wrap (x995 - r2)) + x1449)).toNat * 1]) rfl hc1530 (d_next (by kernel_rfl) (d_cons ?_))
      have hs1531 : StOk [(IntKind.i64.wrap ((IntKind.i64.wrap (x995 - r2)) + x1449)).toNat] (eVb x1450) [(IntKind.i64.wrap ((IntKind.i64.wrap (x995 - r2)) + x1449)).toNat * 1] 1 (b8 x1528) (eVb ((vset x1450 (IntKind.i64.wrap ((IntKind.i64.wrap (x995 - r2)) + x1449)).toNat x1528))):=(.arr (y:=x1528) (vlt x1450 hc1530) rfl (.nil rfl rfl rfl rfl))
      refine vu .top [(4,bk (eVb ((vset x1450 (IntKind.i64.wrap ((IntKind.i64.wrap (x995 - r2)) + x1449)).toNat x1528))))] (st_own (i:=⟨.int .u8,1,1,(.int .u8 0)⟩) rfl rfl (fun _=>rfl) rfl hs1531) (hs1531.c rfl) rfl (d_next (by kernel_rfl) (d_nil (b_norm (nj ⟨[(0,i6 a0),(4,ow 4),(5,ow 5),(6,ow 6),(7,ow 7),(8,ow 8),(9,i6 r2),(10,i6 (IntKind.i64.wrap r7)),(11,i6 x995),(12,i6 (Int.tmod x1405 a0)),(13,i6 x1449)],[(4,bk (eVb ((vset x1450 (IntKind.i64.wrap ((IntKind.i64.wrap (x995 - r2)) + x1449)).toNat x1528)))),(5,bk (eVb a2)),(6,bk (eVb ((vrep 64 (0 : Int))))),(7,bk (eVb ((vrep 64 (0 : Int))))),(8,bk (eVb ((vset x997 (IntKind.i64.wrap (x995 - r2)).toNat (IntKind.u8.wrap (Int.tmod x1405 a0))))))]⟩ (a_region (vp (i6 x1449) rfl (vp (i6 (IntKind.i64.wrap (x1449 + 1))) rfl (vp (i6 (IntKind.i64.wrap (x1449 + 1))) rfl (a_nil ?_)))))))))
      cases h
      exact a_again (by kernel_rfl) hX1492
    ·have h:=hy1496
     refine a_region (vp (i6 x1449) rfl (vp (i6 r2) rfl (vp (.bool ((decide (x1449 ≤ r2)))) rfl (vp (.bool ((decide (x1449 ≤ r2)))) rfl ?_))))
     cases hb1498 : (decide (x1449 ≤ r2))
     ·have h:=ite_f hb1498 h
      refine a_gskip rfl (a_gskip rfl (vp (.bool false) rfl (a_nil ?_)))
      exact j_leaf false (Option.some.inj h) (by kernel_rfl)
     ·have h:=ite_t hb1498 h
      refine gp (i6 (Int.tmod x1405 a0)) rfl rfl (gp (.bool (((Int.tmod x1405 a0) != 0))) rfl rfl (vp (.bool (((Int.tmod x1405 a0) != 0))) rfl (a_nil ?_)))
      exact j_leaf (((Int.tmod x1405 a0) != 0)) (Option.some.inj h) (by kernel_rfl)
def spec_l01Mod_c : ACode:=(.seq (.region 0 [q 4 (.box 25 (t 1)),q 5 (.box 25 (t 2)),q 6 (.alloc 25)] false) (.seq (.region 1 [q 10 (.mov (t 0)),q 11 (.load 25 (t 4)),q 12 (.load 25 (t 5)),q 13 (.call 0 (.func 113) [(t 10),(t 11),(t 12)]),q 9 (.mov (t 13)),q 14 (.extract (t 9) 0),q 15 (.extract (t 9) 1),q 7 (.alloc 25),q 8 (.alloc 25),⟨none,.store 25 (t 7) (t 14),none,[]⟩,⟨none,.store 25 (t 8) (t 15),none,[]⟩] false) (.seq (.region 2 [q 16 (.load 25 (t 8)),⟨none,.store 25 (t 6) (t 16),none,[]⟩] false) .ret)))
def spec_l01Mod_L : Live:=[(0,[0,1,2]),(1,[0,4,5,6]),(2,[6,8])]
noncomputable def spec_l01Mod (a0 : Int) (a1 : (Vec Int 64)) (a2 : (Vec Int 64)) : Option (Vec Int 64) :=
 (Option.bind (spec_l01Divide a0 a1 a2) fun r3=>(some r3.2))
theorem spec_l01Mod_ok (a0 : Int) (a1 : (Vec Int 64)) (a2 : (Vec Int 64)) (r : (Vec Int 64)) (h : spec_l01Mod a0 a1 a2 = some r) : Den Try.prog 165 [(i6 a0),(eVb a1),(eVb a2)] { r:=(eVb r) }:=by
 refine den_of (rs:=[(eVb r)]) (ac:=spec_l01Mod_c) (L:=spec_l01Mod_L) (n:=17) (m:=[]) (c:=Try.f165.body.getD .skip) good Try.func165 (by kernel_rfl) (by kernel_rfl) Try.ntmps165 rfl rfl (by kernel_rfl) rfl rfl ?_
 refine ns ⟨[(0,i6 a0),(1,eVb a1),(2,eVb a2)],[]⟩ ?_
 unfold spec_l01Mod_c
 refine sr (vo 1400 (eVb a1) rfl rfl (vo 1500 (eVb a2) rfl rfl (vo 1600 (eVb ((vrep 64 (0 : Int)))) rfl rfl (nk ⟨[(0,i6 a0),(4,ow 4),(5,ow 5),(6,ow 6)],[(4,bk (eVb a1)),(5,bk (eVb a2)),(6,bk (eVb ((vrep 64 (0 : Int)))))]⟩ (sr (vp (i6 a0) rfl (vl (eVb a1) rfl rfl rfl rfl rfl rfl (vl (eVb a2) rfl rfl rfl rfl rfl rfl ?_))))))))
 obtain ⟨r3,hr4,h⟩:=bind_some h
 refine a_call (args:=[(i6 a0),(eVb a1),(eVb a2)]) (u:=[]) (r:=(.tuple [(eVb r3.1),(eVb r3.2)])) rfl rfl (spec_l01Divide_ok a0 a1 a2 r3 hr4) rfl (vp (.tuple [(eVb r3.1),(eVb r3.2)]) rfl (vb (eVb r3.1) rfl rfl (vb (eVb r3.2) rfl rfl (vo 1700 (eVb ((vrep 64 (0 : Int)))) rfl rfl (vo 1800 (eVb ((vrep 64 (0 : Int)))) rfl rfl (vs (eVb r3.1) rfl rfl (fun _=>rfl) rfl rfl rfl rfl rfl rfl (vs (eVb r3.2) rfl rfl (fun _=>rfl) rfl rfl rfl rfl rfl rfl (nk ⟨[(6,ow 6),(8,ow 8)],[(6,bk (eVb ((vrep 64 (0 : Int))))),(8,bk (eVb r3.2))]⟩ (sr ?_)))))))))
 refine vl (eVb r3.2) rfl rfl rfl rfl rfl rfl (vs (eVb r3.2) rfl rfl (fun _=>rfl) rfl rfl rfl rfl rfl rfl (nx _ rfl (a_ret ?_)))
 have hl9 : LdOk [] (eVb r3.2) [] 64 true (eVb r3.2):=(.nil rfl rfl rfl)
 refine ⟨.inr rfl,?_⟩
 rw [Try.results165]
 cases h
 exact ⟨_,_,_,_,_,ld_own (i:=⟨.arr 64 5,64,64,(eVb (vrep 64 (0 : Int)))⟩) rfl rfl rfl hl9,hl9.c,.inl ⟨rfl,.inl rfl⟩,rfl,rfl⟩
def spec_l01Up_c : ACode:=(.seq (.region 0 [q 4 (.box 25 (t 1)),q 5 (.box 25 (t 2)),q 6 (.alloc 25)] false) (.seq (.region 1 [q 13 (.load 25 (t 5)),q 14 (.call 0 (.func 112) [(t 13)]),q 7 (.asg 0 (t 14) 2)] false) (.seq (.seq (.region 2 [q 15 (.mov (t 7)),q 16 (.bin .eql 2 (t 15) (.const (.int .i64 0)))] false) (.cond (t 16) (.seq (.region 3 [q 17 (.build 25 []),⟨none,.store 25 (t 6) (t 17),none,[]⟩] false) .ret) .skip)) (.seq (.region 4 [q 18 (.mov (t 7)),q 19 (.bin .sub 2 (t 18) (.const (.int .i64 1))),q 20 (.indexAddr 25 (t 4) (t 19)),q 21 (.load 5 (t 20)),q 22 (.conv 5 2 (t 21)),q 23 (.build 25 []),q 9 (.alloc 25),q 8 (.asg 0 (t 22) 2),⟨none,.store 25 (t 9) (t 23),none,[]⟩] false) (.seq (.seq (.region 5 [q 10 (.asg 0 (.const (.int .i64 1)) 2)] false) (.block 0 (.loop (.seq (.seq (.region 6 [q 24 (.mov (t 10)),q 25 (.mov (t 7)),q 26 (.bin .lss 2 (t 24) (t 25))] false) (.cond (t 26) .skip (.exit 0))) (.seq (.block 1 (.region 8 [q 29 (.mov (t 10)),q 30 (.mov (t 10)),q 31 (.bin .sub 2 (t 30) (.const (.int .i64 1))),q 32 (.indexAddr 25 (t 4) (t 31)),q 33 (.load 5 (t 32)),q 34 (.indexAddr 25 (t 9) (t 29)),⟨none,.store 5 (t 34) (t 33),none,[]⟩] false)) (.region 7 [q 27 (.mov (t 10)),q 28 (.bin .add 2 (t 27) (.const (.int .i64 1))),q 10 (.asg 0 (t 28) 2)] false)))))) (.seq (.region 9 [q 35 (.mov (t 8)),q 36 (.mov (t 0)),q 37 (.mov (t 7)),q 38 (.indexAddr 25 (t 5) (t 37)),q 39 (.load 5 (t 38)),q 40 (.call 0 (.func 187) [(t 36),(t 39)]),q 41 (.conv 5 2 (t 40)),q 42 (.bin .mul 2 (t 35) (t 41)),q 43 (.mov (t 0)),q 44 (.bin .rem 2 (t 42) (t 43)),q 11 (.asg 0 (t 44) 2)] false) (.seq (.seq (.region 10 [q 12 (.asg 0 (.const (.int .i64 0)) 2)] false) (.block 2 (.loop (.seq (.seq (.region 11 [q 45 (.mov (t 12)),q 46 (.mov (t 7)),q 47 (.bin .lss 2 (t 45) (t 46))] false) (.cond (t 47) .skip (.exit 2))) (.seq (.block 3 (.region 13 [q 50 (.mov (t 12)),q 51 (.mov (t 12)),⟨some 52,.indexAddr 25 (t 9) (t 51),none,[1]⟩,⟨some 53,.load 5 (t 52),none,[2]⟩,⟨some 54,.conv 5 2 (t 53),none,[3]⟩,q 55 (.mov (t 11)),q 56 (.mov (t 12)),⟨some 57,.indexAddr 25 (t 5) (t 56),none,[6]⟩,⟨some 58,.load 5 (t 57),none,[7]⟩,⟨some 59,.conv 5 2 (t 58),none,[8]⟩,⟨some 60,.bin .mul 2 (t 55) (t 59),none,[5,9]⟩,⟨some 61,.bin .sub 2 (t 54) (t 60),none,[4,10]⟩,q 62 (.mov (t 0)),⟨some 63,.bin .rem 2 (t 61) (t 62),none,[11,12]⟩,q 64 (.mov (t 0)),⟨some 65,.bin .add 2 (t 63) (t 64),none,[13,14]⟩,q 66 (.mov (t 0)),⟨some 67,.bin .rem 2 (t 65) (t 66),none,[15,16]⟩,⟨some 68,.conv 2 5 (t 67),none,[17]⟩,⟨some 69,.indexAddr 25 (t 9) (t 50),none,[0,0,1,2,3,4,5,6,7,8,9,10,11,12,13,14,15,16,17,18]⟩,⟨none,.store 5 (t 69) (t 68),none,[19,18,0,1,2,3,4,5,6,7,8,9,10,11,12,13,14,15,16,17,18]⟩] true)) (.region 12 [q 48 (.mov (t 12)),q 49 (.bin .add 2 (t 48) (.const (.int .i64 1))),q 12 (.asg 0 (t 49) 2)] false)))))) (.seq (.region 14 [q 70 (.load 25 (t 9)),⟨none,.store 25 (t 6) (t 70),none,[]⟩] false) .ret))))))))
def spec_l01Up_L : Live:=[(0,[0,1,2]),(1,[0,4,5,6]),(2,[0,4,5,6,7]),(3,[6]),(4,[0,4,5,6,7]),(5,[0,4,5,6,7,8,9]),(6,[0,4,5,6,7,8,9,10]),(7,[0,4,5,6,7,8,9,10]),(8,[0,4,5,6,7,8,9,10]),(9,[0,5,6,7,8,9]),(10,[0,5,6,7,9,11]),(11,[0,5,6,7,9,11,12]),(12,[0,5,6,7,9,11,12]),(13,[0,5,6,7,9,11,12]),(14,[6,9]),(100016,[0,4,5,6,7,16]),(100026,[0,4,5,6,7,8,9,10,26]),(100047,[0,5,6,7,9,11,12,47])]
noncomputable def spec_l01Up_l1 (r2 : Int) (a1 : (Vec Int 64)) (x40 : Int) (x41 : (Vec Int 64)) : Option ((Int × (Vec Int 64)) ⊕ (Vec Int 64)) :=
 (if (decide (x40 < r2)) then (ifp (0 ≤ IntKind.i64.wrap (x40 - 1) ∧ IntKind.i64.wrap (x40 - 1) < ((64 : Nat) : Int)) ((ifp (0 ≤ x40 ∧ x40 < ((64 : Nat) : Int)) ((some (.inl ((IntKind.i64.wrap (x40 + 1),(vset x41 x40.toNat ((rd a1.1 (IntKind.i64.wrap (x40 - 1)).toNat))))))))))) else (some (.inr x41)))
noncomputable def spec_l01Up_l2 (r2 : Int) (x7 : Int) (r58 : Int) (a0 : Int) (a2 : (Vec Int 64)) (x187 : Int) (x188 : (Vec Int 64)) : Option ((Int × (Vec Int 64)) ⊕ (Vec Int 64)) :=
 (if (decide (x187 < r2)) then (ifp (0 ≤ x187 ∧ x187 < ((64 : Nat) : Int)) ((ifp (0 ≤ x187 ∧ x187 < ((64 : Nat) : Int)) ((letp (IntKind.i64.wrap ((Int.tmod (IntKind.i64.wrap (x7 * (IntKind.i64.wrap r58))) a0) * (IntKind.i64.wrap (rd a2.1 x187.toNat)))) fun x240=>(letp (IntKind.i64.wrap ((IntKind.i64.wrap (rd x188.1 x187.toNat)) - x240)) fun x242=>(ifp (a0 ≠ 0) ((ifp (a0 ≠ 0) ((letp (IntKind.u8.wrap (Int.tmod (IntKind.i64.wrap ((Int.tmod x242 a0) + a0)) a0)) fun x246=>(ifp (0 ≤ x187 ∧ x187 < ((64 : Nat) : Int)) ((some (.inl ((IntKind.i64.wrap (x187 + 1),(vset x188 x187.toNat x246)))))))))))))))))) else (some (.inr x188)))
noncomputable def spec_l01Up (a0 : Int) (a1 : (Vec Int 64)) (a2 : (Vec Int 64)) : Option (Vec Int 64) :=
 (Option.bind (spec_l01Deg a2) fun r2=>(if (r2 == 0) then (some ((vrep 64 (0 : Int)))) else (ifp (0 ≤ IntKind.i64.wrap (r2 - 1) ∧ IntKind.i64.wrap (r2 - 1) < ((64 : Nat) : Int)) ((letp (IntKind.i64.wrap ((rd a1.1 (IntKind.i64.wrap (r2 - 1)).toNat))) fun x7=>(Option.bind (α:=(Vec Int 64)) ((loopM (fun s : (Int × (Vec Int 64))=>spec_l01Up_l1 r2 a1 s.1 s.2) (1,vrep 64 (0 : Int)))) fun x31=>(ifp (0 ≤ r2 ∧ r2 < ((64 : Nat) : Int)) ((Option.bind (spec_l01Inverse a0 (rd a2.1 r2.toNat)) fun r58=>(ifp (a0 ≠ 0) ((Option.bind (α:=(Vec Int 64)) ((loopM (fun s : (Int × (Vec Int 64))=>spec_l01Up_l2 r2 x7 r58 a0 a2 s.1 s.2) (0,x31))) fun x154=>(some x154)))))))))))))
theorem spec_l01Up_ok (a0 : Int) (a1 : (Vec Int 64)) (a2 : (Vec Int 64)) (r : (Vec Int 64)) (h : spec_l01Up a0 a1 a2 = some r) : Den Try.prog 207 [(i6 a0),(eVb a1),(eVb a2)] { r:=(eVb r) }:=by
 refine den_of (rs:=[(eVb r)]) (ac:=spec_l01Up_c) (L:=spec_l01Up_L) (n:=71) (m:=[]) (c:=Try.f207.body.getD .skip) good Try.func207 (by kernel_rfl) (by kernel_rfl) Try.ntmps207 rfl rfl (by kernel_rfl) rfl rfl ?_
 refine ns ⟨[(0,i6 a0),(1,eVb a1),(2,eVb a2)],[]⟩ ?_
 unfold spec_l01Up_c
 refine sr (vo 1400 (eVb a1) rfl rfl (vo 1500 (eVb a2) rfl rfl (vo 1600 (eVb ((vrep 64 (0 : Int)))) rfl rfl (nk ⟨[(0,i6 a0),(4,ow 4),(5,ow 5),(6,ow 6)],[(4,bk (eVb a1)),(5,bk (eVb a2)),(6,bk (eVb ((vrep 64 (0 : Int)))))]⟩ (sr (vl (eVb a2) rfl rfl rfl rfl rfl rfl ?_))))))
 obtain ⟨r2,hr3,h⟩:=bind_some h
 refine a_call (args:=[(eVb a2)]) (u:=[]) (r:=(i6 r2)) rfl rfl (spec_l01Deg_ok a2 r2 hr3) rfl (vp (i6 r2) rfl (nk ⟨[(0,i6 a0),(4,ow 4),(5,ow 5),(6,ow 6),(7,i6 r2)],[(4,bk (eVb a1)),(5,bk (eVb a2)),(6,bk (eVb ((vrep 64 (0 : Int)))))]⟩ (a_seq (sr (vp (i6 r2) rfl (vp (.bool (r2 == 0)) rfl (nk ⟨[(0,i6 a0),(4,ow 4),(5,ow 5),(6,ow 6),(7,i6 r2),(16,.bool (r2 == 0))],[(4,bk (eVb a1)),(5,bk (eVb a2)),(6,bk (eVb ((vrep 64 (0 : Int)))))]⟩ ?_)))))))
 cases hb4 : (r2 == 0)
 ·have h:=ite_f hb4 h
  refine a_cond_f rfl (a_skip (nj ⟨[(0,i6 a0),(4,ow 4),(5,ow 5),(6,ow 6),(7,i6 r2)],[(4,bk (eVb a1)),(5,bk (eVb a2)),(6,bk (eVb ((vrep 64 (0 : Int)))))]⟩ (sr (vp (i6 r2) rfl (vp (i6 (IntKind.i64.wrap (r2 - 1))) rfl ?_)))))
  obtain ⟨hc5,h⟩:=ifp_some h
  refine vq (.own 4 [(IntKind.i64.wrap (r2 - 1)).toNat] [(IntKind.i64.wrap (r2 - 1)).toNat * 1]) rfl hc5 ?_
  have hl6 : LdOk [(IntKind.i64.wrap (r2 - 1)).toNat] (eVb a1) [(IntKind.i64.wrap (r2 - 1)).toNat * 1] 1 false (b8 ((rd a1.1 (IntKind.i64.wrap (r2 - 1)).toNat))):=(.arr (vlt a1 hc5) rfl (.nil rfl rfl rfl))
  refine vq (b8 ((rd a1.1 (IntKind.i64.wrap (r2 - 1)).toNat))) (ld_own (i:=⟨.int .u8,1,1,(.int .u8 0)⟩) rfl rfl rfl hl6) hl6.c ?_
  obtain ⟨x7,hx8,h⟩:=letp_some h
  refine a_val' (v:=(i6 (IntKind.i64.wrap ((rd a1.1 (IntKind.i64.wrap (r2 - 1)).toNat))))) (v':=(i6 x7)) (u:=[]) (u':=[]) rfl (congrArg (fun z=>((i6 z) : AV)) hx8) rfl trivial rfl (vq (eVb ((vrep 64 (0 : Int)))) rfl ⟨⟨_,rfl,rfl⟩,all_nil⟩ (vo 1900 (eVb ((vrep 64 (0 : Int)))) rfl rfl (vp (i6 x7) rfl (vs (eVb ((vrep 64 (0 : Int)))) rfl rfl (fun _=>rfl) rfl rfl rfl rfl rfl rfl (nk ⟨[(0,i6 a0),(4,ow 4),(5,ow 5),(6,ow 6),(7,i6 r2),(8,i6 x7),(9,ow 9)],[(4,bk (eVb a1)),(5,bk (eVb a2)),(6,bk (eVb ((vrep 64 (0 : Int))))),(9,bk (eVb ((vrep 64 (0 : Int)))))]⟩ ?_)))))
  obtain ⟨y32,hy33,hk34⟩:=bind_some h
  clear h
  refine a_join (emb:=fun (s : (Vec Int 64))=>⟨[(0,i6 a0),(5,ow 5),(6,ow 6),(7,i6 r2),(8,i6 x7),(9,ow 9)],[(5,bk (eVb a2)),(6,bk (eVb ((vrep 64 (0 : Int))))),(9,bk (eVb s))]⟩) (pre:=fun s=>s = y32) ?_ ?_
  ·rintro x31 rfl
   have h:=hk34
   refine ns ⟨[(0,i6 a0),(5,ow 5),(6,ow 6),(7,i6 r2),(8,i6 x7),(9,ow 9)],[(5,bk (eVb a2)),(6,bk (eVb ((vrep 64 (0 : Int))))),(9,bk (eVb x31))]⟩ (sr (vp (i6 x7) rfl (vp (i6 a0) rfl (vp (i6 r2) rfl ?_))))
   obtain ⟨hc56,h⟩:=ifp_some h
   refine vq (.own 5 [r2.toNat] [r2.toNat * 1]) rfl hc56 ?_
   have hl57 : LdOk [r2.toNat] (eVb a2) [r2.toNat * 1] 1 false (b8 (rd a2.1 r2.toNat)):=(.arr (vlt a2 hc56) rfl (.nil rfl rfl rfl))
   refine vq (b8 (rd a2.1 r2.toNat)) (ld_own (i:=⟨.int .u8,1,1,(.int .u8 0)⟩) rfl rfl rfl hl57) hl57.c ?_
   obtain ⟨r58,hr59,h⟩:=bind_some h
   refine a_call (args:=[(i6 a0),(b8 (rd a2.1 r2.toNat))]) (u:=[]) (r:=(b8 r58)) rfl rfl (spec_l01Inverse_ok a0 (rd a2.1 r2.toNat) r58 hr59) rfl (vp (i6 (IntKind.i64.wrap r58)) rfl (vp (i6 (IntKind.i64.wrap (x7 * (IntKind.i64.wrap r58)))) rfl (vp (i6 a0) rfl ?_)))
   obtain ⟨hc60,h⟩:=ifp_some h
   refine vq (i6 (Int.tmod (IntKind.i64.wrap (x7 * (IntKind.i64.wrap r58))) a0)) rfl hc60 (vp (i6 (Int.tmod (IntKind.i64.wrap (x7 * (IntKind.i64.wrap r58))) a0)) rfl (nk ⟨[(0,i6 a0),(5,ow 5),(6,ow 6),(7,i6 r2),(9,ow 9),(11,i6 (Int.tmod (IntKind.i64.wrap (x7 * (IntKind.i64.wrap r58))) a0))],[(5,bk (eVb a2)),(6,bk (eVb ((vrep 64 (0 : Int))))),(9,bk (eVb x31))]⟩ ?_))
   obtain ⟨y155,hy156,hk157⟩:=bind_some h
   clear h
   refine a_join (emb:=fun (s : (Vec Int 64))=>⟨[(6,ow 6),(9,ow 9)],[(6,bk (eVb ((vrep 64 (0 : Int))))),(9,bk (eVb s))]⟩) (pre:=fun s=>s = y155) ?_ ?_
   ·rintro x154 rfl
    have h:=hk157
    refine ns ⟨[(6,ow 6),(9,ow 9)],[(6,bk (eVb ((vrep 64 (0 : Int))))),(9,bk (eVb x154))]⟩ (sr (vl (eVb x154) rfl rfl rfl rfl rfl rfl (vs (eVb x154) rfl rfl (fun _=>rfl) rfl rfl rfl rfl rfl rfl (nx _ rfl (a_ret ?_)))))
    have hl253 : LdOk [] (eVb x154) [] 64 true (eVb x154):=(.nil rfl rfl rfl)
    refine ⟨.inr rfl,?_⟩
    rw [Try.results207]
    cases h
    exact ⟨_,_,_,_,_,ld_own (i:=⟨.arr 64 5,64,64,(eVb (vrep 64 (0 : Int)))⟩) rfl rfl rfl hl253,hl253.c,.inl ⟨rfl,.inl rfl⟩,rfl,rfl⟩
   ·have h:=hy156
    refine sr (vp (i6 0) rfl (nk ⟨[(0,i6 a0),(5,ow 5),(6,ow 6),(7,i6 r2),(9,ow 9),(11,i6 (Int.tmod (IntKind.i64.wrap (x7 * (IntKind.i64.wrap r58))) a0)),(12,i6 0)],[(5,bk (eVb a2)),(6,bk (eVb ((vrep 64 (0 : Int))))),(9,bk (eVb x31))]⟩ (a_block ?_)))
    refine a_loop (emb:=fun (s : (Int × (Vec Int 64)))=>⟨[(0,i6 a0),(5,ow 5),(6,ow 6),(7,i6 r2),(9,ow 9),(11,i6 (Int.tmod (IntKind.i64.wrap (x7 * (IntKind.i64.wrap r58))) a0)),(12,i6 s.1)],[(5,bk (eVb a2)),(6,bk (eVb ((vrep 64 (0 : Int))))),(9,bk (eVb s.2))]⟩) (body:=(fun s : (Int × (Vec Int 64))=>spec_l01Up_l2 r2 x7 r58 a0 a2 s.1 s.2)) (G:=fun q=>some q = some y155) h rfl ?_ (by kernel_rfl)
    rintro X218 ⟨x187,x188⟩ x219 h hX220
    have h : spec_l01Up_l2 r2 x7 r58 a0 a2 x187 x188 = some x219:=h
    refine ns ⟨[(0,i6 a0),(5,ow 5),(6,ow 6),(7,i6 r2),(9,ow 9),(11,i6 (Int.tmod (IntKind.i64.wrap (x7 * (IntKind.i64.wrap r58))) a0)),(12,i6 x187)],[(5,bk (eVb a2)),(6,bk (eVb ((vrep 64 (0 : Int))))),(9,bk (eVb x188))]⟩ (a_seq (sr (vp (i6 x187) rfl (vp (i6 r2) rfl (vp (.bool ((decide (x187 < r2)))) rfl (nk ⟨[(0,i6 a0),(5,ow 5),(6,ow 6),(7,i6 r2),(9,ow 9),(11,i6 (Int.tmod (IntKind.i64.wrap (x7 * (IntKind.i64.wrap r58))) a0)),(12,i6 x187),(47,.bool ((decide (x187 < r2))))],[(5,bk (eVb a2)),(6,bk (eVb ((vrep 64 (0 : Int))))),(9,bk (eVb x188))]⟩ ?_))))))
    cases hb221 : (decide (x187 < r2))
    ·have h:=ite_f hb221 h
     refine a_cond_f rfl (a_exit (t_exit ?_))
     cases h
     have h:=hX220
     refine t_exit (b_exit ?_)
     exact j_leaf x188 (Option.some.inj h) (by kernel_rfl)
    ·have h:=ite_t hb221 h
     refine a_cond_t rfl (a_skip (nj ⟨[(0,i6 a0),(5,ow 5),(6,ow 6),(7,i6 r2),(9,ow 9),(11,i6 (Int.tmod (IntKind.i64.wrap (x7 * (IntKind.i64.wrap r58))) a0)),(12,i6 x187)],[(5,bk (eVb a2)),(6,bk (eVb ((vrep 64 (0 : Int))))),(9,bk (eVb x188))]⟩ (a_seq (a_block (a_draw [⟨[],[],[],[]⟩,⟨[],[],[],[]⟩,⟨[9],[],[9],[1]⟩,⟨[9],[],[],[1,2]⟩,⟨[],[],[],[1,2,3]⟩,⟨[],[],[],[]⟩,⟨[],[],[],[]⟩,⟨[5],[],[5],[6]⟩,⟨[5],[],[],[6,7]⟩,⟨[],[],[],[6,7,8]⟩,⟨[],[],[],[5,6,7,8,9]⟩,⟨[],[],[],[1,2,3,4,5,6,7,8,9,10]⟩,⟨[],[],[],[]⟩,⟨[],[],[],[1,2,3,4,5,6,7,8,9,10,11,12]⟩,⟨[],[],[],[]⟩,⟨[],[],[],[1,2,3,4,5,6,7,8,9,10,11,12,13,14]⟩,⟨[],[],[],[]⟩,⟨[],[],[],[1,2,3,4,5,6,7,8,9,10,11,12,13,14,15,16]⟩,⟨[],[],[],[1,2,3,4,5,6,7,8,9,10,11,12,13,14,15,16,17]⟩,⟨[9],[],[9],[0,1,2,3,4,5,6,7,8,9,10,11,12,13,14,15,16,17,18]⟩,⟨[9],[9],[],[0,1,2,3,4,5,6,7,8,9,10,11,12,13,14,15,16,17,18,19]⟩] (by kernel_rfl) (dj (i6 x187) rfl (dj (i6 x187) rfl (d_cons ?_))))))))
     obtain ⟨hc236,h⟩:=ifp_some h
     refine vq (.own 9 [x187.toNat] [x187.toNat * 1]) rfl hc236 (d_next (by kernel_rfl) (d_cons ?_))
     have hl237 : LdOk [x187.toNat] (eVb x188) [x187.toNat * 1] 1 false (b8 (rd x188.1 x187.toNat)):=(.arr (vlt x188 hc236) rfl (.nil rfl rfl rfl))
     refine vq (b8 (rd x188.1 x187.toNat)) (ld_own (i:=⟨.int .u8,1,1,(.int .u8 0)⟩) rfl rfl rfl hl237) hl237.c (d_next (by kernel_rfl) (dj (i6 (IntKind.i64.wrap (rd x188.1 x187.toNat))) rfl (dj (i6 (Int.tmod (IntKind.i64.wrap (x7 * (IntKind.i64.wrap r58))) a0)) rfl (dj (i6 x187) rfl (d_cons ?_)))))
     obtain ⟨hc238,h⟩:=ifp_some h
     refine vq (.own 5 [x187.toNat] [x187.toNat * 1]) rfl hc238 (d_next (by kernel_rfl) (d_cons ?_))
     have hl239 : LdOk [x187.toNat] (eVb a2) [x187.toNat * 1] 1 false (b8 (rd a2.1 x187.toNat)):=(.arr (vlt a2 hc238) rfl (.nil rfl rfl rfl))
     refine vq (b8 (rd a2.1 x187.toNat)) (ld_own (i:=⟨.int .u8,1,1,(.int .u8 0)⟩) rfl rfl rfl hl239) hl239.c (d_next (by kernel_rfl) (dj (i6 (IntKind.i64.wrap (rd a2.1 x187.toNat))) rfl (d_cons ?_)))
     obtain ⟨x240,hx241,h⟩:=letp_some h
     refine a_val' (v:=(i6 (IntKind.i64.wrap ((Int.tmod (IntKind.i64.wrap (x7 * (IntKind.i64.wrap r58))) a0) * (IntKind.i64.wrap (rd a2.1 x187.toNat)))))) (v':=(i6 x240)) (u:=[]) (u':=[]) rfl (congrArg (fun z=>((i6 z) : AV)) hx241) rfl trivial rfl (d_next (by kernel_rfl) (d_cons ?_))
     obtain ⟨x242,hx243,h⟩:=letp_some h
     refine a_val' (v:=(i6 (IntKind.i64.wrap ((IntKind.i64.wrap (rd x188.1 x187.toNat)) - x240)))) (v':=(i6 x242)) (u:=[]) (u':=[]) rfl (congrArg (fun z=>((i6 z) : AV)) hx243) rfl trivial rfl (d_next (by kernel_rfl) (dj (i6 a0) rfl (d_cons ?_)))
     obtain ⟨hc244,h⟩:=ifp_some h
     refine vq (i6 (Int.tmod x242 a0)) rfl hc244 (d_next (by kernel_rfl) (dj (i6 a0) rfl (dj (i6 (IntKind.i64.wrap ((Int.tmod x242 a0) + a0))) rfl (dj (i6 a0) rfl (d_cons ?_)))))
     obtain ⟨hc245,h⟩:=ifp_some h
     refine vq (i6 (Int.tmod (IntKind.i64.wrap ((Int.tmod x242 a0) + a0)) a0)) rfl hc245 (d_next (by kernel_rfl) (d_cons ?_))
     obtain ⟨x246,hx247,h⟩:=letp_some h
     refine a_val' (v:=(b8 (IntKind.u8.wrap (Int.tmod (IntKind.i64.wrap ((Int.tmod x242 a0) + a0)) a0)))) (v':=(b8 x246)) (u:=[]) (u':=[]) rfl (congrArg (fun z=>((b8 z) : AV)) hx247) rfl trivial rfl (d_next (by kernel_rfl) (d_cons ?_))
     obtain ⟨hc248,h⟩:=ifp_some h
     refine vq (.own 9 [x187.toNat] [x187.toNat * 1]) rfl hc248 (d_next (by kernel_rfl) (d_cons ?_))
     have hs249 : StOk [x187.toNat] (eVb x188) [x187.toNat * 1] 1 (b8 x246) (eVb (vset x188 x187.toNat x246)):=(.arr (y:=x246) (vlt x188 hc248) rfl (.nil rfl rfl rfl rfl))
     refine vu .top [(9,bk (eVb (vset x188 x187.toNat x246)))] (st_own (i:=⟨.int .u8,1,1,(.int .u8 0)⟩) rfl rfl (fun _=>rfl) rfl hs249) (hs249.c rfl) rfl (d_next (by kernel_rfl) (d_nil (b_norm (nj ⟨[(0,i6 a0),(5,ow 5),(6,ow 6),(7,i6 r2),(9,ow 9),(11,i6 (Int.tmod (IntKind.i64.wrap (x7 * (IntKind.i64.wrap r58))) a0)),(12,i6 x187)],[(5,bk (eVb a2)),(6,bk (eVb ((vrep 64 (0 : Int))))),(9,bk (eVb (vset x188 x187.toNat x246)))]⟩ (a_region (vp (i6 x187) rfl (vp (i6 (IntKind.i64.wrap (x187 + 1))) rfl (vp (i6 (IntKind.i64.wrap (x187 + 1))) rfl (a_nil ?_)))))))))
     cases h
     exact a_again (by kernel_rfl) hX220
  ·have h:=hy33
   refine sr (vp (i6 1) rfl (nk ⟨[(0,i6 a0),(4,ow 4),(5,ow 5),(6,ow 6),(7,i6 r2),(8,i6 x7),(9,ow 9),(10,i6 1)],[(4,bk (eVb a1)),(5,bk (eVb a2)),(6,bk (eVb ((vrep 64 (0 : Int))))),(9,bk (eVb ((vrep 64 (0 : Int)))))]⟩ (a_block ?_)))
   refine a_loop (emb:=fun (s : (Int × (Vec Int 64)))=>⟨[(0,i6 a0),(4,ow 4),(5,ow 5),(6,ow 6),(7,i6 r2),(8,i6 x7),(9,ow 9),(10,i6 s.1)],[(4,bk (eVb a1)),(5,bk (eVb a2)),(6,bk (eVb ((vrep 64 (0 : Int))))),(9,bk (eVb s.2))]⟩) (body:=(fun s : (Int × (Vec Int 64))=>spec_l01Up_l1 r2 a1 s.1 s.2)) (G:=fun q=>some q = some y32) h rfl ?_ (by kernel_rfl)
   rintro X47 ⟨x40,x41⟩ x48 h hX49
   have h : spec_l01Up_l1 r2 a1 x40 x41 = some x48:=h
   refine ns ⟨[(0,i6 a0),(4,ow 4),(5,ow 5),(6,ow 6),(7,i6 r2),(8,i6 x7),(9,ow 9),(10,i6 x40)],[(4,bk (eVb a1)),(5,bk (eVb a2)),(6,bk (eVb ((vrep 64 (0 : Int))))),(9,bk (eVb x41))]⟩ (a_seq (sr (vp (i6 x40) rfl (vp (i6 r2) rfl (vp (.bool ((decide (x40 < r2)))) rfl (nk ⟨[(0,i6 a0),(4,ow 4),(5,ow 5),(6,ow 6),(7,i6 r2),(8,i6 x7),(9,ow 9),(10,i6 x40),(26,.bool ((decide (x40 < r2))))],[(4,bk (eVb a1)),(5,bk (eVb a2)),(6,bk (eVb ((vrep 64 (0 : Int))))),(9,bk (eVb x41))]⟩ ?_))))))
   cases hb50 : (decide (x40 < r2))
   ·have h:=ite_f hb50 h
    refine a_cond_f rfl (a_exit (t_exit ?_))
    cases h
    have h:=hX49
    refine t_exit (b_exit ?_)
    exact j_leaf x41 (Option.some.inj h) (by kernel_rfl)
   ·have h:=ite_t hb50 h
    refine a_cond_t rfl (a_skip (nj ⟨[(0,i6 a0),(4,ow 4),(5,ow 5),(6,ow 6),(7,i6 r2),(8,i6 x7),(9,ow 9),(10,i6 x40)],[(4,bk (eVb a1)),(5,bk (eVb a2)),(6,bk (eVb ((vrep 64 (0 : Int))))),(9,bk (eVb x41))]⟩ (a_seq (a_block (a_region (vp (i6 x40) rfl (vp (i6 x40) rfl (vp (i6 (IntKind.i64.wrap (x40 - 1))) rfl ?_))))))))
    obtain ⟨hc51,h⟩:=ifp_some h
    refine vq (.own 4 [(IntKind.i64.wrap (x40 - 1)).toNat] [(IntKind.i64.wrap (x40 - 1)).toNat * 1]) rfl hc51 ?_
    have hl52 : LdOk [(IntKind.i64.wrap (x40 - 1)).toNat] (eVb a1) [(IntKind.i64.wrap (x40 - 1)).toNat * 1] 1 false (b8 ((rd a1.1 (IntKind.i64.wrap (x40 - 1)).toNat))):=(.arr (vlt a1 hc51) rfl (.nil rfl rfl rfl))
    refine vq (b8 ((rd a1.1 (IntKind.i64.wrap (x40 - 1)).toNat))) (ld_own (i:=⟨.int .u8,1,1,(.int .u8 0)⟩) rfl rfl rfl hl52) hl52.c ?_
    obtain ⟨hc53,h⟩:=ifp_some h
    refine vq (.own 9 [x40.toNat] [x40.toNat * 1]) rfl hc53 ?_
    have hs54 : StOk [x40.toNat] (eVb x41) [x40.toNat * 1] 1 (b8 ((rd a1.1 (IntKind.i64.wrap (x40 - 1)).toNat))) (eVb ((vset x41 x40.toNat ((rd a1.1 (IntKind.i64.wrap (x40 - 1)).toNat))))):=(.arr (y:=(rd a1.1 (IntKind.i64.wrap (x40 - 1)).toNat)) (vlt x41 hc53) rfl (.nil rfl rfl rfl rfl))
    refine vu .top [(9,bk (eVb ((vset x41 x40.toNat ((rd a1.1 (IntKind.i64.wrap (x40 - 1)).toNat))))))] (st_own (i:=⟨.int .u8,1,1,(.int .u8 0)⟩) rfl rfl (fun _=>rfl) rfl hs54) (hs54.c rfl) rfl (a_nil (b_norm (nj ⟨[(0,i6 a0),(4,ow 4),(5,ow 5),(6,ow 6),(7,i6 r2),(8,i6 x7),(9,ow 9),(10,i6 x40)],[(4,bk (eVb a1)),(5,bk (eVb a2)),(6,bk (eVb ((vrep 64 (0 : Int))))),(9,bk (eVb ((vset x41 x40.toNat ((rd a1.1 (IntKind.i64.wrap (x40 - 1)).toNat))))))]⟩ (a_region (vp (i6 x40) rfl (vp (i6 (IntKind.i64.wrap (x40 + 1))) rfl (vp (i6 (IntKind.i64.wrap (x40 + 1))) rfl (a_nil ?_))))))))
    cases h
    exact a_again (by kernel_rfl) hX49
 ·have h:=ite_t hb4 h
  refine a_cond_t rfl (sr (vq (eVb ((vrep 64 (0 : Int)))) rfl ⟨⟨_,rfl,rfl⟩,all_nil⟩ (vs (eVb ((vrep 64 (0 : Int)))) rfl rfl (fun _=>rfl) rfl rfl rfl rfl rfl rfl (nx _ rfl (a_ret (t_ret ?_))))))
  have hl255 : LdOk [] (eVb ((vrep 64 (0 : Int)))) [] 64 true (eVb ((vrep 64 (0 : Int)))):=(.nil rfl rfl rfl)
  refine ⟨.inr rfl,?_⟩
  rw [Try.results207]
  cases h
  exact ⟨_,_,_,_,_,ld_own (i:=⟨.arr 64 5,64,64,(eVb (vrep 64 (0 : Int)))⟩) rfl rfl rfl hl255,hl255.c,.inl ⟨rfl,.inl rfl⟩,rfl,rfl⟩
def spec_l01Add_c : ACode:=(.seq (.region 0 [q 5 (.box 25 (t 1)),q 6 (.box 25 (t 2)),q 8 (.alloc 25)] false) (.seq (.seq (.region 1 [q 9 (.asg 0 (.const (.int .i64 0)) 3)] false) (.block 0 (.loop (.seq (.seq (.region 2 [q 10 (.mov (t 9)),q 11 (.bin .lss 3 (t 10) (.const (.int .i64 64)))] false) (.cond (t 11) .skip (.exit 0))) (.seq (.block 1 (.region 4 [q 14 (.mov (t 9)),q 15 (.mov (t 9)),⟨some 16,.indexAddr 25 (t 5) (t 15),none,[1]⟩,⟨some 17,.load 5 (t 16),none,[2]⟩,⟨some 18,.conv 5 2 (t 17),none,[3]⟩,q 19 (.mov (t 3)),q 20 (.mov (t 9)),⟨some 21,.indexAddr 25 (t 6) (t 20),none,[6]⟩,⟨some 22,.load 5 (t 21),none,[7]⟩,⟨some 23,.conv 5 2 (t 22),none,[8]⟩,⟨some 24,.bin .mul 2 (t 19) (t 23),none,[5,9]⟩,⟨some 25,.bin .add 2 (t 18) (t 24),none,[4,10]⟩,q 26 (.mov (t 0)),⟨some 27,.bin .rem 2 (t 25) (t 26),none,[11,12]⟩,q 28 (.mov (t 0)),⟨some 29,.bin .add 2 (t 27) (t 28),none,[13,14]⟩,q 30 (.mov (t 0)),⟨some 31,.bin .rem 2 (t 29) (t 30),none,[15,16]⟩,⟨some 32,.conv 2 5 (t 31),none,[17]⟩,⟨some 33,.indexAddr 25 (t 5) (t 14),none,[0,0,1,2,3,4,5,6,7,8,9,10,11,12,13,14,15,16,17,18]⟩,⟨none,.store 5 (t 33) (t 32),none,[19,18,0,1,2,3,4,5,6,7,8,9,10,11,12,13,14,15,16,17,18]⟩] true)) (.region 3 [q 12 (.mov (t 9)),q 13 (.bin .add 3 (t 12) (.const (.int .i64 1))),q 9 (.asg 0 (t 13) 3)] false)))))) (.seq (.region 5 [q 34 (.load 25 (t 5)),⟨none,.store 25 (t 8) (t 34),none,[]⟩] false) .ret)))
def spec_l01Add_L : Live:=[(0,[0,1,2,3]),(1,[0,3,5,6,8]),(2,[0,3,5,6,8,9]),(3,[0,3,5,6,8,9]),(4,[0,3,5,6,8,9]),(5,[5,8]),(100011,[0,3,5,6,8,9,11])]
noncomputable def spec_l01Add_l1 (a3 : Int) (a2 : (Vec Int 64)) (a0 : Int) (x127 : Int) (x128 : (Vec Int 64)) : Option ((Int × (Vec Int 64)) ⊕ (Vec Int 64)) :=
 (if (decide (x127 < 64)) then (ifp (0 ≤ x127 ∧ x127 < ((64 : Nat) : Int)) ((ifp (0 ≤ x127 ∧ x127 < ((64 : Nat) : Int)) ((letp (IntKind.i64.wrap (a3 * (IntKind.i64.wrap (rd a2.1 x127.toNat)))) fun x180=>(letp (IntKind.i64.wrap ((IntKind.i64.wrap (rd x128.1 x127.toNat)) + x180)) fun x182=>(ifp (a0 ≠ 0) ((ifp (a0 ≠ 0) ((letp (IntKind.u8.wrap (Int.tmod (IntKind.i64.wrap ((Int.tmod x182 a0) + a0)) a0)) fun x186=>(ifp (0 ≤ x127 ∧ x127 < ((64 : Nat) : Int)) ((some (.inl ((IntKind.i64.wrap (x127 + 1),(vset x128 x127.toNat x186)))))))))))))))))) else (some (.inr x128)))
noncomputable def spec_l01Add (a0 : Int) (a1 : (Vec Int 64)) (a2 : (Vec Int 64)) (a3 : Int) : Option (Vec Int 64) :=
 (Option.bind (α:=(Vec Int 64)) ((loopM (fun s : (Int × (Vec Int 64))=>spec_l01Add_l1 a3 a2 a0 s.1 s.2) (0,a1))) fun x94=>(some x94))
theorem spec_l01Add_ok (a0 : Int) (a1 : (Vec Int 64)) (a2 : (Vec Int 64)) (a3 : Int) (r : (Vec Int 64)) (h : spec_l01Add a0 a1 a2 a3 = some r) : Den Try.prog 121 [(i6 a0),(eVb a1),(eVb a2),(i6 a3)] { r:=(eVb r) }:=by
 refine den_of (rs:=[(eVb r)]) (ac:=spec_l01Add_c) (L:=spec_l01Add_L) (n:=35) (m:=[]) (c:=Try.f121.body.getD .skip) good Try.func121 (by kernel_rfl) (by kernel_rfl) Try.ntmps121 rfl rfl (by kernel_rfl) rfl rfl ?_
 refine ns ⟨[(0,i6 a0),(1,eVb a1),(2,eVb a2),(3,i6 a3)],[]⟩ ?_
 unfold spec_l01Add_c
 refine sr (vo 1500 (eVb a1) rfl rfl (vo 1600 (eVb a2) rfl rfl (vo 1800 (eVb ((vrep 64 (0 : Int)))) rfl rfl (nk ⟨[(0,i6 a0),(3,i6 a3),(5,ow 5),(6,ow 6),(8,ow 8)],[(5,bk (eVb a1)),(6,bk (eVb a2)),(8,bk (eVb ((vrep 64 (0 : Int)))))]⟩ ?_))))
 obtain ⟨y95,hy96,hk97⟩:=bind_some h
 clear h
 refine a_join (emb:=fun (s : (Vec Int 64))=>⟨[(5,ow 5),(8,ow 8)],[(5,bk (eVb s)),(8,bk (eVb ((vrep 64 (0 : Int)))))]⟩) (pre:=fun s=>s = y95) ?_ ?_
 ·rintro x94 rfl
  have h:=hk97
  refine ns ⟨[(5,ow 5),(8,ow 8)],[(5,bk (eVb x94)),(8,bk (eVb ((vrep 64 (0 : Int)))))]⟩ (sr (vl (eVb x94) rfl rfl rfl rfl rfl rfl (vs (eVb x94) rfl rfl (fun _=>rfl) rfl rfl rfl rfl rfl rfl (nx _ rfl (a_ret ?_)))))
  have hl193 : LdOk [] (eVb x94) [] 64 true (eVb x94):=(.nil rfl rfl rfl)
  refine ⟨.inr rfl,?_⟩
  rw [Try.results121]
  cases h
  exact ⟨_,_,_,_,_,ld_own (i:=⟨.arr 64 5,64,64,(eVb (vrep 64 (0 : Int)))⟩) rfl rfl rfl hl193,hl193.c,.inl ⟨rfl,.inl rfl⟩,rfl,rfl⟩
 ·have h:=hy96
  refine sr (vp (i6 0) rfl (nk ⟨[(0,i6 a0),(3,i6 a3),(5,ow 5),(6,ow 6),(8,ow 8),(9,i6 0)],[(5,bk (eVb a1)),(6,bk (eVb a2)),(8,bk (eVb ((vrep 64 (0 : Int)))))]⟩ (a_block ?_)))
  refine a_loop (emb:=fun (s : (Int × (Vec Int 64)))=>⟨[(0,i6 a0),(3,i6 a3),(5,ow 5),(6,ow 6),(8,ow 8),(9,i6 s.1)],[(5,bk (eVb s.2)),(6,bk (eVb a2)),(8,bk (eVb ((vrep 64 (0 : Int)))))]⟩) (body:=(fun s : (Int × (Vec Int 64))=>spec_l01Add_l1 a3 a2 a0 s.1 s.2)) (G:=fun q=>some q = some y95) h rfl ?_ (by kernel_rfl)
  rintro X158 ⟨x127,x128⟩ x159 h hX160
  have h : spec_l01Add_l1 a3 a2 a0 x127 x128 = some x159:=h
  refine ns ⟨[(0,i6 a0),(3,i6 a3),(5,ow 5),(6,ow 6),(8,ow 8),(9,i6 x127)],[(5,bk (eVb x128)),(6,bk (eVb a2)),(8,bk (eVb ((vrep 64 (0 : Int)))))]⟩ (a_seq (sr (vp (i6 x127) rfl (vp (.bool ((decide (x127 < 64)))) rfl (nk ⟨[(0,i6 a0),(3,i6 a3),(5,ow 5),(6,ow 6),(8,ow 8),(9,i6 x127),(11,.bool ((decide (x127 < 64))))],[(5,bk (eVb x128)),(6,bk (eVb a2)),(8,bk (eVb ((vrep 64 (0 : Int)))))]⟩ ?_)))))
  cases hb161 : (decide (x127 < 64))
  ·have h:=ite_f hb161 h
   refine a_cond_f rfl (a_exit (t_exit ?_))
   cases h
   have h:=hX160
   refine t_exit (b_exit ?_)
   exact j_leaf x128 (Option.some.inj h) (by kernel_rfl)
  ·have h:=ite_t hb161 h
   refine a_cond_t rfl (a_skip (nj ⟨[(0,i6 a0),(3,i6 a3),(5,ow 5),(6,ow 6),(8,ow 8),(9,i6 x127)],[(5,bk (eVb x128)),(6,bk (eVb a2)),(8,bk (eVb ((vrep 64 (0 : Int)))))]⟩ (a_seq (a_block (a_draw [⟨[],[],[],[]⟩,⟨[],[],[],[]⟩,⟨[5],[],[5],[1]⟩,⟨[5],[],[],[1,2]⟩,⟨[],[],[],[1,2,3]⟩,⟨[],[],[],[]⟩,⟨[],[],[],[]⟩,⟨[6],[],[6],[6]⟩,⟨[6],[],[],[6,7]⟩,⟨[],[],[],[6,7,8]⟩,⟨[],[],[],[5,6,7,8,9]⟩,⟨[],[],[],[1,2,3,4,5,6,7,8,9,10]⟩,⟨[],[],[],[]⟩,⟨[],[],[],[1,2,3,4,5,6,7,8,9,10,11,12]⟩,⟨[],[],[],[]⟩,⟨[],[],[],[1,2,3,4,5,6,7,8,9,10,11,12,13,14]⟩,⟨[],[],[],[]⟩,⟨[],[],[],[1,2,3,4,5,6,7,8,9,10,11,12,13,14,15,16]⟩,⟨[],[],[],[1,2,3,4,5,6,7,8,9,10,11,12,13,14,15,16,17]⟩,⟨[5],[],[5],[0,1,2,3,4,5,6,7,8,9,10,11,12,13,14,15,16,17,18]⟩,⟨[5],[5],[],[0,1,2,3,4,5,6,7,8,9,10,11,12,13,14,15,16,17,18,19]⟩] (by kernel_rfl) (dj (i6 x127) rfl (dj (i6 x127) rfl (d_cons ?_))))))))
   obtain ⟨hc176,h⟩:=ifp_some h
   refine vq (.own 5 [x127.toNat] [x127.toNat * 1]) rfl hc176 (d_next (by kernel_rfl) (d_cons ?_))
   have hl177 : LdOk [x127.toNat] (eVb x128) [x127.toNat * 1] 1 false (b8 (rd x128.1 x127.toNat)):=(.arr (vlt x128 hc176) rfl (.nil rfl rfl rfl))
   refine vq (b8 (rd x128.1 x127.toNat)) (ld_own (i:=⟨.int .u8,1,1,(.int .u8 0)⟩) rfl rfl rfl hl177) hl177.c (d_next (by kernel_rfl) (dj (i6 (IntKind.i64.wrap (rd x128.1 x127.toNat))) rfl (dj (i6 a3) rfl (dj (i6 x127) rfl (d_cons ?_)))))
   obtain ⟨hc178,h⟩:=ifp_some h
   refine vq (.own 6 [x127.toNat] [x127.toNat * 1]) rfl hc178 (d_next (by kernel_rfl) (d_cons ?_))
   have hl179 : LdOk [x127.toNat] (eVb a2) [x127.toNat * 1] 1 false (b8 (rd a2.1 x127.toNat)):=(.arr (vlt a2 hc178) rfl (.nil rfl rfl rfl))
   refine vq (b8 (rd a2.1 x127.toNat)) (ld_own (i:=⟨.int .u8,1,1,(.int .u8 0)⟩) rfl rfl rfl hl179) hl179.c (d_next (by kernel_rfl) (dj (i6 (IntKind.i64.wrap (rd a2.1 x127.toNat))) rfl (d_cons ?_)))
   obtain ⟨x180,hx181,h⟩:=letp_some h
   refine a_val' (v:=(i6 (IntKind.i64.wrap (a3 * (IntKind.i64.wrap (rd a2.1 x127.toNat)))))) (v':=(i6 x180)) (u:=[]) (u':=[]) rfl (congrArg (fun z=>((i6 z) : AV)) hx181) rfl trivial rfl (d_next (by kernel_rfl) (d_cons ?_))
   obtain ⟨x182,hx183,h⟩:=letp_some h
   refine a_val' (v:=(i6 (IntKind.i64.wrap ((IntKind.i64.wrap (rd x128.1 x127.toNat)) + x180)))) (v':=(i6 x182)) (u:=[]) (u':=[]) rfl (congrArg (fun z=>((i6 z) : AV)) hx183) rfl trivial rfl (d_next (by kernel_rfl) (dj (i6 a0) rfl (d_cons ?_)))
   obtain ⟨hc184,h⟩:=ifp_some h
   refine vq (i6 (Int.tmod x182 a0)) rfl hc184 (d_next (by kernel_rfl) (dj (i6 a0) rfl (dj (i6 (IntKind.i64.wrap ((Int.tmod x182 a0) + a0))) rfl (dj (i6 a0) rfl (d_cons ?_)))))
   obtain ⟨hc185,h⟩:=ifp_some h
   refine vq (i6 (Int.tmod (IntKind.i64.wrap ((Int.tmod x182 a0) + a0)) a0)) rfl hc185 (d_next (by kernel_rfl) (d_cons ?_))
   obtain ⟨x186,hx187,h⟩:=letp_some h
   refine a_val' (v:=(b8 (IntKind.u8.wrap (Int.tmod (IntKind.i64.wrap ((Int.tmod x182 a0) + a0)) a0)))) (v':=(b8 x186)) (u:=[]) (u':=[]) rfl (congrArg (fun z=>((b8 z) : AV)) hx187) rfl trivial rfl (d_next (by kernel_rfl) (d_cons ?_))
   obtain ⟨hc188,h⟩:=ifp_some h
   refine vq (.own 5 [x127.toNat] [x127.toNat * 1]) rfl hc188 (d_next (by kernel_rfl) (d_cons ?_))
   have hs189 : StOk [x127.toNat] (eVb x128) [x127.toNat * 1] 1 (b8 x186) (eVb (vset x128 x127.toNat x186)):=(.arr (y:=x186) (vlt x128 hc188) rfl (.nil rfl rfl rfl rfl))
   refine vu .top [(5,bk (eVb (vset x128 x127.toNat x186)))] (st_own (i:=⟨.int .u8,1,1,(.int .u8 0)⟩) rfl rfl (fun _=>rfl) rfl hs189) (hs189.c rfl) rfl (d_next (by kernel_rfl) (d_nil (b_norm (nj ⟨[(0,i6 a0),(3,i6 a3),(5,ow 5),(6,ow 6),(8,ow 8),(9,i6 x127)],[(5,bk (eVb (vset x128 x127.toNat x186))),(6,bk (eVb a2)),(8,bk (eVb ((vrep 64 (0 : Int)))))]⟩ (a_region (vp (i6 x127) rfl (vp (i6 (IntKind.i64.wrap (x127 + 1))) rfl (vp (i6 (IntKind.i64.wrap (x127 + 1))) rfl (a_nil ?_)))))))))
   cases h
   exact a_again (by kernel_rfl) hX160
def spec_l01MulMod_c : ACode:=(.seq (.region 0 [q 5 (.box 25 (t 1)),q 6 (.box 25 (t 2)),q 7 (.box 25 (t 3)),q 8 (.alloc 25)] false) (.seq (.region 1 [q 11 (.build 25 []),q 9 (.alloc 25),⟨none,.store 25 (t 9) (t 11),none,[]⟩] false) (.seq (.seq (.region 2 [q 12 (.load 25 (t 6)),q 13 (.call 0 (.func 112) [(t 12)]),q 10 (.asg 0 (t 13) 2)] false) (.block 0 (.loop (.seq (.seq (.region 3 [q 14 (.mov (t 10)),q 15 (.bin .geq 2 (t 14) (.const (.int .i64 0)))] false) (.cond (t 15) .skip (.exit 0))) (.seq (.block 1 (.seq (.region 5 [q 18 (.mov (t 0)),q 19 (.load 25 (t 9)),q 20 (.load 25 (t 7)),q 21 (.call 0 (.func 207) [(t 18),(t 19),(t 20)]),⟨none,.store 25 (t 9) (t 21),none,[]⟩] false) (.region 6 [q 22 (.mov (t 0)),q 23 (.mov (t 0)),q 24 (.load 25 (t 9)),q 25 (.load 25 (t 5)),q 26 (.mov (t 10)),⟨some 27,.indexAddr 25 (t 6) (t 26),none,[4]⟩,⟨some 28,.load 5 (t 27),none,[5]⟩,⟨some 29,.conv 5 2 (t 28),none,[6]⟩,⟨some 30,.call 0 (.func 121) [(t 23),(t 24),(t 25),(t 29)],none,[1,2,3,7]⟩,q 31 (.load 25 (t 7)),⟨some 32,.call 0 (.func 165) [(t 22),(t 30),(t 31)],none,[0,8,9,8]⟩,⟨none,.store 25 (t 9) (t 32),none,[10,10,0,1,2,3,4,5,6,7,8,9,10]⟩] true))) (.region 4 [q 16 (.mov (t 10)),q 17 (.bin .sub 2 (t 16) (.const (.int .i64 1))),q 10 (.asg 0 (t 17) 2)] false)))))) (.seq (.region 7 [q 33 (.load 25 (t 9)),⟨none,.store 25 (t 8) (t 33),none,[]⟩] false) .ret))))
def spec_l01MulMod_L : Live:=[(0,[0,1,2,3]),(1,[0,5,6,7,8]),(2,[0,5,6,7,8,9]),(3,[0,5,6,7,8,9,10]),(4,[0,5,6,7,8,9,10]),(5,[0,5,6,7,8,9,10]),(6,[0,5,6,7,8,9,10]),(7,[8,9]),(100015,[0,5,6,7,8,9,10,15])]
noncomputable def spec_l01MulMod_l1 (a0 : Int) (a3 : (Vec Int 64)) (a1 : (Vec Int 64)) (a2 : (Vec Int 64)) (x122 : Int) (x123 : (Vec Int 64)) : Option ((Int × (Vec Int 64)) ⊕ (Vec Int 64)) :=
 (if (decide (x122 ≥ 0)) then (Option.bind (spec_l01Up a0 x123 a3) fun r156=>(ifp (0 ≤ x122 ∧ x122 < ((64 : Nat) : Int)) ((Option.bind (spec_l01Add a0 r156 a1 (IntKind.i64.wrap (rd a2.1 x122.toNat))) fun r173=>(Option.bind (spec_l01Mod a0 r173 a3) fun r176=>(some (.inl ((IntKind.i64.wrap (x122 - 1),r176))))))))) else (some (.inr x123)))
noncomputable def spec_l01MulMod (a0 : Int) (a1 : (Vec Int 64)) (a2 : (Vec Int 64)) (a3 : (Vec Int 64)) : Option (Vec Int 64) :=
 (Option.bind (α:=(Vec Int 64)) ((Option.bind (spec_l01Deg a2) fun r94=>(loopM (fun s : (Int × (Vec Int 64))=>spec_l01MulMod_l1 a0 a3 a1 a2 s.1 s.2) (r94,(vrep 64 (0 : Int)))))) fun x89=>(some x89))
theorem spec_l01MulMod_ok (a0 : Int) (a1 : (Vec Int 64)) (a2 : (Vec Int 64)) (a3 : (Vec Int 64)) (r : (Vec Int 64)) (h : spec_l01MulMod a0 a1 a2 a3 = some r) : Den Try.prog 199 [(i6 a0),(eVb a1),(eVb a2),(eVb a3)] { r:=(eVb r) }:=by
 refine den_of (rs:=[(eVb r)]) (ac:=spec_l01MulMod_c) (L:=spec_l01MulMod_L) (n:=34) (m:=[]) (c:=Try.f199.body.getD .skip) good Try.func199 (by kernel_rfl) (by kernel_rfl) Try.ntmps199 rfl rfl (by kernel_rfl) rfl rfl ?_
 refine ns ⟨[(0,i6 a0),(1,eVb a1),(2,eVb a2),(3,eVb a3)],[]⟩ ?_
 unfold spec_l01MulMod_c
 refine sr (vo 1500 (eVb a1) rfl rfl (vo 1600 (eVb a2) rfl rfl (vo 1700 (eVb a3) rfl rfl (vo 1800 (eVb ((vrep 64 (0 : Int)))) rfl rfl (nk ⟨[(0,i6 a0),(5,ow 5),(6,ow 6),(7,ow 7),(8,ow 8)],[(5,bk (eVb a1)),(6,bk (eVb a2)),(7,bk (eVb a3)),(8,bk (eVb ((vrep 64 (0 : Int)))))]⟩ (sr (vq (eVb ((vrep 64 (0 : Int)))) rfl ⟨⟨_,rfl,rfl⟩,all_nil⟩ (vo 1900 (eVb ((vrep 64 (0 : Int)))) rfl rfl (vs (eVb ((vrep 64 (0 : Int)))) rfl rfl (fun _=>rfl) rfl rfl rfl rfl rfl rfl ?_)))))))))
 refine nk ⟨[(0,i6 a0),(5,ow 5),(6,ow 6),(7,ow 7),(8,ow 8),(9,ow 9)],[(5,bk (eVb a1)),(6,bk (eVb a2)),(7,bk (eVb a3)),(8,bk (eVb ((vrep 64 (0 : Int))))),(9,bk (eVb ((vrep 64 (0 : Int)))))]⟩ ?_
 obtain ⟨y90,hy91,hk92⟩:=bind_some h
 clear h
 refine a_join (emb:=fun (s : (Vec Int 64))=>⟨[(8,ow 8),(9,ow 9)],[(8,bk (eVb ((vrep 64 (0 : Int))))),(9,bk (eVb s))]⟩) (pre:=fun s=>s = y90) ?_ ?_
 ·rintro x89 rfl
  have h:=hk92
  refine ns ⟨[(8,ow 8),(9,ow 9)],[(8,bk (eVb ((vrep 64 (0 : Int))))),(9,bk (eVb x89))]⟩ (sr (vl (eVb x89) rfl rfl rfl rfl rfl rfl (vs (eVb x89) rfl rfl (fun _=>rfl) rfl rfl rfl rfl rfl rfl (nx _ rfl (a_ret ?_)))))
  have hl182 : LdOk [] (eVb x89) [] 64 true (eVb x89):=(.nil rfl rfl rfl)
  refine ⟨.inr rfl,?_⟩
  rw [Try.results199]
  cases h
  exact ⟨_,_,_,_,_,ld_own (i:=⟨.arr 64 5,64,64,(eVb (vrep 64 (0 : Int)))⟩) rfl rfl rfl hl182,hl182.c,.inl ⟨rfl,.inl rfl⟩,rfl,rfl⟩
 ·have h:=hy91
  refine sr (vl (eVb a2) rfl rfl rfl rfl rfl rfl ?_)
  obtain ⟨r94,hr95,h⟩:=bind_some h
  refine a_call (args:=[(eVb a2)]) (u:=[]) (r:=(i6 r94)) rfl rfl (spec_l01Deg_ok a2 r94 hr95) rfl (vp (i6 r94) rfl (nk ⟨[(0,i6 a0),(5,ow 5),(6,ow 6),(7,ow 7),(8,ow 8),(9,ow 9),(10,i6 r94)],[(5,bk (eVb a1)),(6,bk (eVb a2)),(7,bk (eVb a3)),(8,bk (eVb ((vrep 64 (0 : Int))))),(9,bk (eVb ((vrep 64 (0 : Int)))))]⟩ (a_block ?_)))
  refine a_loop (emb:=fun (s : (Int × (Vec Int 64)))=>⟨[(0,i6 a0),(5,ow 5),(6,ow 6),(7,ow 7),(8,ow 8),(9,ow 9),(10,i6 s.1)],[(5,bk (eVb a1)),(6,bk (eVb a2)),(7,bk (eVb a3)),(8,bk (eVb ((vrep 64 (0 : Int))))),(9,bk (eVb s.2))]⟩) (body:=(fun s : (Int × (Vec Int 64))=>spec_l01MulMod_l1 a0 a3 a1 a2 s.1 s.2)) (G:=fun q=>some q = some y90) h rfl ?_ (by kernel_rfl)
  rintro X150 ⟨x122,x123⟩ x151 h hX152
  have h : spec_l01MulMod_l1 a0 a3 a1 a2 x122 x123 = some x151:=h
  refine ns ⟨[(0,i6 a0),(5,ow 5),(6,ow 6),(7,ow 7),(8,ow 8),(9,ow 9),(10,i6 x122)],[(5,bk (eVb a1)),(6,bk (eVb a2)),(7,bk (eVb a3)),(8,bk (eVb ((vrep 64 (0 : Int))))),(9,bk (eVb x123))]⟩ (a_seq (sr (vp (i6 x122) rfl (vp (.bool ((decide (x122 ≥ 0)))) rfl (nk ⟨[(0,i6 a0),(5,ow 5),(6,ow 6),(7,ow 7),(8,ow 8),(9,ow 9),(10,i6 x122),(15,.bool ((decide (x122 ≥ 0))))],[(5,bk (eVb a1)),(6,bk (eVb a2)),(7,bk (eVb a3)),(8,bk (eVb ((vrep 64 (0 : Int))))),(9,bk (eVb x123))]⟩ ?_)))))
  cases hb153 : (decide (x122 ≥ 0))
  ·have h:=ite_f hb153 h
   refine a_cond_f rfl (a_exit (t_exit ?_))
   cases h
   have h:=hX152
   refine t_exit (b_exit ?_)
   exact j_leaf x123 (Option.some.inj h) (by kernel_rfl)
  ·have h:=ite_t hb153 h
   refine a_cond_t rfl (a_skip (nj ⟨[(0,i6 a0),(5,ow 5),(6,ow 6),(7,ow 7),(8,ow 8),(9,ow 9),(10,i6 x122)],[(5,bk (eVb a1)),(6,bk (eVb a2)),(7,bk (eVb a3)),(8,bk (eVb ((vrep 64 (0 : Int))))),(9,bk (eVb x123))]⟩ (a_seq (a_block (sr (vp (i6 a0) rfl (vl (eVb x123) rfl rfl rfl rfl rfl rfl (vl (eVb a3) rfl rfl rfl rfl rfl rfl ?_))))))))
   obtain ⟨r156,hr157,h⟩:=bind_some h
   refine a_call (args:=[(i6 a0),(eVb x123),(eVb a3)]) (u:=[]) (r:=(eVb r156)) rfl rfl (spec_l01Up_ok a0 x123 a3 r156 hr157) rfl (vs (eVb r156) rfl rfl (fun _=>rfl) rfl rfl rfl rfl rfl rfl (nk ⟨[(0,i6 a0),(5,ow 5),(6,ow 6),(7,ow 7),(8,ow 8),(9,ow 9),(10,i6 x122)],[(5,bk (eVb a1)),(6,bk (eVb a2)),(7,bk (eVb a3)),(8,bk (eVb ((vrep 64 (0 : Int))))),(9,bk (eVb r156))]⟩ (a_draw [⟨[],[],[],[]⟩,⟨[],[],[],[]⟩,⟨[9],[],[],[]⟩,⟨[5],[],[],[]⟩,⟨[],[],[],[]⟩,⟨[6],[],[6],[4]⟩,⟨[6],[],[],[4,5]⟩,⟨[],[],[],[4,5,6]⟩,⟨[],[],[],[1,2,3,4,5,6,7]⟩,⟨[7],[],[],[]⟩,⟨[],[],[],[0,1,2,3,4,5,6,7,8,9]⟩,⟨[9],[9],[],[0,1,2,3,4,5,6,7,8,9,10]⟩] (by kernel_rfl) (dj (i6 a0) rfl (dj (i6 a0) rfl (d_cons (vl (eVb r156) rfl rfl rfl rfl rfl rfl (d_next (by kernel_rfl) (d_cons ?_)))))))))
   refine vl (eVb a1) rfl rfl rfl rfl rfl rfl (d_next (by kernel_rfl) (dj (i6 x122) rfl (d_cons ?_)))
   obtain ⟨hc171,h⟩:=ifp_some h
   refine vq (.own 6 [x122.toNat] [x122.toNat * 1]) rfl hc171 (d_next (by kernel_rfl) (d_cons ?_))
   have hl172 : LdOk [x122.toNat] (eVb a2) [x122.toNat * 1] 1 false (b8 (rd a2.1 x122.toNat)):=(.arr (vlt a2 hc171) rfl (.nil rfl rfl rfl))
   refine vq (b8 (rd a2.1 x122.toNat)) (ld_own (i:=⟨.int .u8,1,1,(.int .u8 0)⟩) rfl rfl rfl hl172) hl172.c (d_next (by kernel_rfl) (dj (i6 (IntKind.i64.wrap (rd a2.1 x122.toNat))) rfl (d_cons ?_)))
   obtain ⟨r173,hr174,h⟩:=bind_some h
   refine a_call (args:=[(i6 a0),(eVb r156),(eVb a1),(i6 (IntKind.i64.wrap (rd a2.1 x122.toNat)))]) (u:=[]) (r:=(eVb r173)) rfl rfl (spec_l01Add_ok a0 r156 a1 (IntKind.i64.wrap (rd a2.1 x122.toNat)) r173 hr174) rfl (d_next (by kernel_rfl) (d_cons (vl (eVb a3) rfl rfl rfl rfl rfl rfl (d_next (by kernel_rfl) (d_cons ?_)))))
   obtain ⟨r176,hr177,h⟩:=bind_some h
   refine a_call (args:=[(i6 a0),(eVb r173),(eVb a3)]) (u:=[]) (r:=(eVb r176)) rfl rfl (spec_l01Mod_ok a0 r173 a3 r176 hr177) rfl (d_next (by kernel_rfl) (d_cons (vs (eVb r176) rfl rfl (fun _=>rfl) rfl rfl rfl rfl rfl rfl (d_next (by kernel_rfl) (d_nil (b_norm (nj ⟨[(0,i6 a0),(5,ow 5),(6,ow 6),(7,ow 7),(8,ow 8),(9,ow 9),(10,i6 x122)],[(5,bk (eVb a1)),(6,bk (eVb a2)),(7,bk (eVb a3)),(8,bk (eVb ((vrep 64 (0 : Int))))),(9,bk (eVb r176))]⟩ (a_region (vp (i6 x122) rfl ?_)))))))))
   refine vp (i6 (IntKind.i64.wrap (x122 - 1))) rfl (vp (i6 (IntKind.i64.wrap (x122 - 1))) rfl (a_nil ?_))
   cases h
   exact a_again (by kernel_rfl) hX152
def spec_l01PowMod_c : ACode:=(.seq (.region 0 [q 5 (.box 25 (t 1)),q 7 (.box 25 (t 3)),q 8 (.alloc 25)] false) (.seq (.region 1 [q 11 (.mov (t 0)),q 12 (.call 0 (.func 133) []),q 13 (.load 25 (t 7)),⟨some 14,.call 0 (.func 165) [(t 11),(t 12),(t 13)],none,[0,1,2,1]⟩,q 15 (.mov (t 0)),q 16 (.load 25 (t 5)),q 17 (.load 25 (t 7)),⟨some 18,.call 0 (.func 165) [(t 15),(t 16),(t 17)],none,[4,5,6,3]⟩,q 9 (.alloc 25),q 10 (.alloc 25),⟨none,.store 25 (t 9) (t 14),none,[8,3,7,0,1,2,3,8,9]⟩,⟨none,.store 25 (t 10) (t 18),none,[9,7,10,0,1,2,3,4,5,6,7,8,9,10]⟩] true) (.seq (.block 0 (.loop (.seq (.seq (.region 2 [q 19 (.mov (t 2)),q 20 (.bin .gtr 2 (t 19) (.const (.int .i64 0)))] false) (.cond (t 20) .skip (.exit 0))) (.seq (.block 1 (.seq (.seq (.region 4 [q 23 (.mov (t 2)),q 24 (.bin .rem 2 (t 23) (.const (.int .i64 2))),q 25 (.bin .eql 2 (t 24) (.const (.int .i64 1)))] false) (.cond (t 25) (.region 5 [q 26 (.mov (t 0)),q 27 (.load 25 (t 9)),q 28 (.load 25 (t 10)),q 29 (.load 25 (t 7)),q 30 (.call 0 (.func 199) [(t 26),(t 27),(t 28),(t 29)]),⟨none,.store 25 (t 9) (t 30),none,[]⟩] false) .skip)) (.region 6 [q 31 (.mov (t 0)),q 32 (.load 25 (t 10)),q 33 (.load 25 (t 10)),q 34 (.load 25 (t 7)),q 35 (.call 0 (.func 199) [(t 31),(t 32),(t 33),(t 34)]),⟨none,.store 25 (t 10) (t 35),none,[]⟩] false))) (.region 3 [q 21 (.mov (t 2)),q 22 (.bin .quo 2 (t 21) (.const (.int .i64 2))),q 2 (.asg 0 (t 22) 2)] false))))) (.seq (.region 7 [q 36 (.load 25 (t 9)),⟨none,.store 25 (t 8) (t 36),none,[]⟩] false) .ret))))
def spec_l01PowMod_L : Live:=[(0,[0,1,2,3]),(1,[0,2,5,7,8]),(2,[0,2,7,8,9,10]),(3,[0,2,7,8,9,10]),(4,[0,2,7,8,9,10]),(5,[0,2,7,8,9,10]),(6,[0,2,7,8,9,10]),(7,[8,9]),(100020,[0,2,7,8,9,10,20]),(100025,[0,2,7,8,9,10,25])]
noncomputable def spec_l01PowMod_l1 (a0 : Int) (a3 : (Vec Int 64)) (x134 : Int) (x135 : (Vec Int 64)) (x136 : (Vec Int 64)) : Option ((Int × (Vec Int 64) × (Vec Int 64)) ⊕ (Vec Int 64)) :=
 (if (decide (x134 > 0)) then (Option.bind (α:=(Vec Int 64)) ((if ((Int.tmod x134 2) == 1) then (Option.bind (spec_l01MulMod a0 x135 x136 a3) fun r181=>(some r181)) else (some x135))) fun x173=>(Option.bind (spec_l01MulMod a0 x136 x136 a3) fun r187=>(some (.inl ((IntKind.i64.wrap (Int.tdiv x134 2),x173,r187)))))) else (some (.inr x135)))
noncomputable def spec_l01PowMod (a0 : Int) (a1 : (Vec Int 64)) (a2 : Int) (a3 : (Vec Int 64)) : Option (Vec Int 64) :=
 (Option.bind (spec_l01One) fun r12=>(Option.bind (spec_l01Mod a0 r12 a3) fun r15=>(Option.bind (spec_l01Mod a0 a1 a3) fun r19=>(Option.bind (α:=(Vec Int 64)) ((loopM (fun s : (Int × (Vec Int 64) × (Vec Int 64))=>spec_l01PowMod_l1 a0 a3 s.1 s.2.1 s.2.2) (a2,r15,r19))) fun x105=>(some x105)))))
theorem spec_l01PowMod_ok (a0 : Int) (a1 : (Vec Int 64)) (a2 : Int) (a3 : (Vec Int 64)) (r : (Vec Int 64)) (h : spec_l01PowMod a0 a1 a2 a3 = some r) : Den Try.prog 167 [(i6 a0),(eVb a1),(i6 a2),(eVb a3)] { r:=(eVb r) }:=by
 refine den_of (rs:=[(eVb r)]) (ac:=spec_l01PowMod_c) (L:=spec_l01PowMod_L) (n:=37) (m:=[]) (c:=Try.f167.body.getD .skip) good Try.func167 (by kernel_rfl) (by kernel_rfl) Try.ntmps167 rfl rfl (by kernel_rfl) rfl rfl ?_
 refine ns ⟨[(0,i6 a0),(1,eVb a1),(2,i6 a2),(3,eVb a3)],[]⟩ ?_
 unfold spec_l01PowMod_c
 refine sr (vo 1500 (eVb a1) rfl rfl (vo 1700 (eVb a3) rfl rfl (vo 1800 (eVb ((vrep 64 (0 : Int)))) rfl rfl (nk ⟨[(0,i6 a0),(2,i6 a2),(5,ow 5),(7,ow 7),(8,ow 8)],[(5,bk (eVb a1)),(7,bk (eVb a3)),(8,bk (eVb ((vrep 64 (0 : Int)))))]⟩ (a_seq (a_draw [⟨[],[],[],[]⟩,⟨[],[],[],[]⟩,⟨[7],[],[],[]⟩,⟨[],[],[],[0,1,2]⟩,⟨[],[],[],[]⟩,⟨[5],[],[],[]⟩,⟨[7],[],[],[]⟩,⟨[],[],[],[0,1,2,3,4,5,6]⟩,⟨[1900],[1900],[1900],[]⟩,⟨[2000],[2000],[2000],[]⟩,⟨[1900],[1900],[],[0,1,2,3,4,5,6,7,8,9]⟩,⟨[2000],[2000],[],[0,1,2,3,4,5,6,7,8,9,10]⟩] (by kernel_rfl) (dj (i6 a0) rfl (d_cons ?_))))))))
 obtain ⟨r12,hr13,h⟩:=bind_some h
 refine a_call (args:=[]) (u:=[]) (r:=(eVb r12)) rfl rfl (spec_l01One_ok r12 hr13) rfl (d_next (by kernel_rfl) (d_cons (vl (eVb a3) rfl rfl rfl rfl rfl rfl (d_next (by kernel_rfl) (d_cons ?_)))))
 obtain ⟨r15,hr16,h⟩:=bind_some h
 refine a_call (args:=[(i6 a0),(eVb r12),(eVb a3)]) (u:=[]) (r:=(eVb r15)) rfl rfl (spec_l01Mod_ok a0 r12 a3 r15 hr16) rfl (d_next (by kernel_rfl) (dj (i6 a0) rfl (d_cons (vl (eVb a1) rfl rfl rfl rfl rfl rfl (d_next (by kernel_rfl) (d_cons (vl (eVb a3) rfl rfl rfl rfl rfl rfl (d_next (by kernel_rfl) (d_cons ?_)))))))))
 obtain ⟨r19,hr20,h⟩:=bind_some h
 refine a_call (args:=[(i6 a0),(eVb a1),(eVb a3)]) (u:=[]) (r:=(eVb r19)) rfl rfl (spec_l01Mod_ok a0 a1 a3 r19 hr20) rfl (d_next (by kernel_rfl) (d_cons (vo 1900 (eVb ((vrep 64 (0 : Int)))) rfl rfl (d_next (by kernel_rfl) (d_cons (vo 2000 (eVb ((vrep 64 (0 : Int)))) rfl rfl (d_next (by kernel_rfl) (d_cons (vs (eVb r15) rfl rfl (fun _=>rfl) rfl rfl rfl rfl rfl rfl ?_)))))))))
 refine d_next (by kernel_rfl) (d_cons (vs (eVb r19) rfl rfl (fun _=>rfl) rfl rfl rfl rfl rfl rfl (d_next (by kernel_rfl) (d_nil (nj ⟨[(0,i6 a0),(2,i6 a2),(7,ow 7),(8,ow 8),(9,ow 9),(10,ow 10)],[(7,bk (eVb a3)),(8,bk (eVb ((vrep 64 (0 : Int))))),(9,bk (eVb r15)),(10,bk (eVb r19))]⟩ ?_)))))
 obtain ⟨y106,hy107,hk108⟩:=bind_some h
 clear h
 refine a_join (emb:=fun (s : (Vec Int 64))=>⟨[(8,ow 8),(9,ow 9)],[(8,bk (eVb ((vrep 64 (0 : Int))))),(9,bk (eVb s))]⟩) (pre:=fun s=>s = y106) ?_ ?_
 ·rintro x105 rfl
  have h:=hk108
  refine ns ⟨[(8,ow 8),(9,ow 9)],[(8,bk (eVb ((vrep 64 (0 : Int))))),(9,bk (eVb x105))]⟩ (sr (vl (eVb x105) rfl rfl rfl rfl rfl rfl (vs (eVb x105) rfl rfl (fun _=>rfl) rfl rfl rfl rfl rfl rfl (nx _ rfl (a_ret ?_)))))
  have hl193 : LdOk [] (eVb x105) [] 64 true (eVb x105):=(.nil rfl rfl rfl)
  refine ⟨.inr rfl,?_⟩
  rw [Try.results167]
  cases h
  exact ⟨_,_,_,_,_,ld_own (i:=⟨.arr 64 5,64,64,(eVb (vrep 64 (0 : Int)))⟩) rfl rfl rfl hl193,hl193.c,.inl ⟨rfl,.inl rfl⟩,rfl,rfl⟩
 ·have h:=hy107
  refine a_block ?_
  refine a_loop (emb:=fun (s : (Int × (Vec Int 64) × (Vec Int 64)))=>⟨[(0,i6 a0),(2,i6 s.1),(7,ow 7),(8,ow 8),(9,ow 9),(10,ow 10)],[(7,bk (eVb a3)),(8,bk (eVb ((vrep 64 (0 : Int))))),(9,bk (eVb s.2.1)),(10,bk (eVb s.2.2))]⟩) (body:=(fun s : (Int × (Vec Int 64) × (Vec Int 64))=>spec_l01PowMod_l1 a0 a3 s.1 s.2.1 s.2.2)) (G:=fun q=>some q = some y106) h rfl ?_ (by kernel_rfl)
  rintro X162 ⟨x134,x135,x136⟩ x163 h hX164
  have h : spec_l01PowMod_l1 a0 a3 x134 x135 x136 = some x163:=h
  refine ns ⟨[(0,i6 a0),(2,i6 x134),(7,ow 7),(8,ow 8),(9,ow 9),(10,ow 10)],[(7,bk (eVb a3)),(8,bk (eVb ((vrep 64 (0 : Int))))),(9,bk (eVb x135)),(10,bk (eVb x136))]⟩ (a_seq (sr (vp (i6 x134) rfl (vp (.bool ((decide (x134 > 0)))) rfl (nk ⟨[(0,i6 a0),(2,i6 x134),(7,ow 7),(8,ow 8),(9,ow 9),(10,ow 10),(20,.bool ((decide (x134 > 0))))],[(7,bk (eVb a3)),(8,bk (eVb ((vrep 64 (0 : Int))))),(9,bk (eVb x135)),(10,bk (eVb x136))]⟩ ?_)))))
  cases hb165 : (decide (x134 > 0))
  ·have h:=ite_f hb165 h
   refine a_cond_f rfl (a_exit (t_exit ?_))
   cases h
   have h:=hX164
   refine t_exit (b_exit ?_)
   exact j_leaf x135 (Option.some.inj h) (by kernel_rfl)
  ·have h:=ite_t hb165 h
   refine a_cond_t rfl (a_skip (nj ⟨[(0,i6 a0),(2,i6 x134),(7,ow 7),(8,ow 8),(9,ow 9),(10,ow 10)],[(7,bk (eVb a3)),(8,bk (eVb ((vrep 64 (0 : Int))))),(9,bk (eVb x135)),(10,bk (eVb x136))]⟩ (a_seq (a_block ?_))))
   obtain ⟨y174,hy175,hk176⟩:=bind_some h
   clear h
   refine a_join (emb:=fun (s : (Vec Int 64))=>⟨[(0,i6 a0),(2,i6 x134),(7,ow 7),(8,ow 8),(9,ow 9),(10,ow 10)],[(7,bk (eVb a3)),(8,bk (eVb ((vrep 64 (0 : Int))))),(9,bk (eVb s)),(10,bk (eVb x136))]⟩) (pre:=fun s=>s = y174) ?_ ?_
   ·rintro x173 rfl
    have h:=hk176
    refine ns ⟨[(0,i6 a0),(2,i6 x134),(7,ow 7),(8,ow 8),(9,ow 9),(10,ow 10)],[(7,bk (eVb a3)),(8,bk (eVb ((vrep 64 (0 : Int))))),(9,bk (eVb x173)),(10,bk (eVb x136))]⟩ (a_region (vp (i6 a0) rfl (vl (eVb x136) rfl rfl rfl rfl rfl rfl (vl (eVb x136) rfl rfl rfl rfl rfl rfl (vl (eVb a3) rfl rfl rfl rfl rfl rfl ?_)))))
    obtain ⟨r187,hr188,h⟩:=bind_some h
    refine a_call (args:=[(i6 a0),(eVb x136),(eVb x136),(eVb a3)]) (u:=[]) (r:=(eVb r187)) rfl rfl (spec_l01MulMod_ok a0 x136 x136 a3 r187 hr188) rfl (vs (eVb r187) rfl rfl (fun _=>rfl) rfl rfl rfl rfl rfl rfl (a_nil (b_norm (nj ⟨[(0,i6 a0),(2,i6 x134),(7,ow 7),(8,ow 8),(9,ow 9),(10,ow 10)],[(7,bk (eVb a3)),(8,bk (eVb ((vrep 64 (0 : Int))))),(9,bk (eVb x173)),(10,bk (eVb r187))]⟩ (a_region (vp (i6 x134) rfl (vq (i6 (IntKind.i64.wrap (Int.tdiv x134 2))) rfl (by decide) (vp (i6 (IntKind.i64.wrap (Int.tdiv x134 2))) rfl (a_nil ?_)))))))))
    cases h
    exact a_again (by kernel_rfl) hX164
   ·have h:=hy175
    refine sr (vp (i6 x134) rfl (vq (i6 (Int.tmod x134 2)) rfl (by decide) (vp (.bool (((Int.tmod x134 2) == 1))) rfl (nk ⟨[(0,i6 a0),(2,i6 x134),(7,ow 7),(8,ow 8),(9,ow 9),(10,ow 10),(25,.bool (((Int.tmod x134 2) == 1)))],[(7,bk (eVb a3)),(8,bk (eVb ((vrep 64 (0 : Int))))),(9,bk (eVb x135)),(10,bk (eVb x136))]⟩ ?_))))
    cases hb177 : ((Int.tmod x134 2) == 1)
    ·have h:=ite_f hb177 h
     refine a_cond_f rfl (a_skip ?_)
     exact j_leaf x135 (Option.some.inj h) (by kernel_rfl)
    ·have h:=ite_t hb177 h
     refine a_cond_t rfl (a_region (vp (i6 a0) rfl (vl (eVb x135) rfl rfl rfl rfl rfl rfl (vl (eVb x136) rfl rfl rfl rfl rfl rfl (vl (eVb a3) rfl rfl rfl rfl rfl rfl ?_)))))
     obtain ⟨r181,hr182,h⟩:=bind_some h
     refine a_call (args:=[(i6 a0),(eVb x135),(eVb x136),(eVb a3)]) (u:=[]) (r:=(eVb r181)) rfl rfl (spec_l01MulMod_ok a0 x135 x136 a3 r181 hr182) rfl (vs (eVb r181) rfl rfl (fun _=>rfl) rfl rfl rfl rfl rfl rfl (a_nil ?_))
     exact j_leaf r181 (Option.some.inj h) (by kernel_rfl)
def spec_PowerModulo_c : ACode:=(.seq (.region 0 [q 5 (.box 25 (t 1)),q 7 (.box 25 (t 3)),q 8 (.alloc 25),q 9 (.asg 0 (.const (.int .i64 0)) 2)] false) (.seq (.seq (.region 1 [q 11 (.mov (t 0)),q 12 (.load 25 (t 5)),q 13 (.load 25 (t 7)),q 14 (.bslice 0 55 2 [(0,t 12),(1,t 13)]),q 15 (.call 0 (.func 104) [(t 11),(t 14)]),q 10 (.asg 0 (t 15) 2)] false) (.seq (.region 2 [q 16 (.mov (t 10)),q 17 (.bin .neq 2 (t 16) (.const (.int .i64 0)))] false) (.cond (t 17) (.seq (.region 3 [q 18 (.build 25 []),q 19 (.mov (t 10)),⟨none,.store 25 (t 8) (t 18),none,[]⟩,q 9 (.asg 0 (t 19) 2)] false) .ret) .skip))) (.seq (.block 0 (.seq (.region 4 [q 21 (.mov (t 2)),q 22 (.call 0 (.func 160) [(t 21),(.const (.int .i64 0)),(.const (.int .i64 1000000000000))]),q 23 (.un .not (t 22)),q 20 (.asg 0 (t 23) 4)] false) (.cond (t 20) (.seq (.region 5 [q 24 (.build 25 []),⟨none,.store 25 (t 8) (t 24),none,[]⟩,q 9 (.asg 0 (.const (.int .i64 2)) 2)] false) .ret) (.seq (.region 6 [q 26 (.load 25 (t 7)),q 27 (.call 0 (.func 112) [(t 26)]),q 28 (.bin .lss 2 (t 27) (.const (.int .i64 0))),q 25 (.asg 0 (t 28) 4)] false) (.cond (t 25) (.seq (.region 7 [q 29 (.build 25 []),⟨none,.store 25 (t 8) (t 29),none,[]⟩,q 9 (.asg 0 (.const (.int .i64 5)) 2)] false) .ret) .skip))))) (.seq (.region 8 [q 30 (.mov (t 0)),q 31 (.load 25 (t 5)),q 32 (.mov (t 2)),q 33 (.load 25 (t 7)),q 34 (.call 0 (.func 167) [(t 30),(t 31),(t 32),(t 33)]),⟨none,.store 25 (t 8) (t 34),none,[]⟩,q 9 (.asg 0 (.const (.int .i64 0)) 2)] false) .ret))))
def spec_PowerModulo_L : Live:=[(0,[0,1,2,3]),(1,[0,2,5,7,8]),(2,[0,2,5,7,8,10]),(3,[8,10]),(4,[0,2,5,7,8]),(5,[8]),(6,[0,2,5,7,8]),(7,[8]),(8,[0,2,5,7,8]),(100017,[0,2,5,7,8,10,17]),(100020,[0,2,5,7,8,20]),(100025,[0,2,5,7,8,25])]
noncomputable def spec_PowerModulo (a0 : Int) (a1 : (Vec Int 64)) (a2 : Int) (a3 : (Vec Int 64)) : Option ((Vec Int 64) × Int) :=
 (Option.bind (spec_l01Code a0 ([a1,a3])) fun r3=>(if (r3 != 0) then (some (((vrep 64 (0 : Int)),r3))) else (Option.bind (spec_l01In a2 0 1000000000000) fun r6=>(if (!r6) then (some (((vrep 64 (0 : Int)),2))) else (Option.bind (spec_l01Deg a3) fun r10=>(if (decide (r10 < 0)) then (some (((vrep 64 (0 : Int)),5))) else (Option.bind (spec_l01PowMod a0 a1 a2 a3) fun r15=>(some (r15,0)))))))))
theorem spec_PowerModulo_ok (a0 : Int) (a1 : (Vec Int 64)) (a2 : Int) (a3 : (Vec Int 64)) (r : ((Vec Int 64) × Int)) (h : spec_PowerModulo a0 a1 a2 a3 = some r) : Den Try.prog 81 [(i6 a0),(eVb a1),(i6 a2),(eVb a3)] { r:=(.tuple [(eVb r.1),(i6 r.2)]) }:=by
 refine den_of (rs:=[(eVb r.1),(i6 r.2)]) (ac:=spec_PowerModulo_c) (L:=spec_PowerModulo_L) (n:=35) (m:=[]) (c:=Try.f81.body.getD .skip) good Try.func81 (by kernel_rfl) (by kernel_rfl) Try.ntmps81 rfl rfl (by kernel_rfl) rfl rfl ?_
 refine ns ⟨[(0,i6 a0),(1,eVb a1),(2,i6 a2),(3,eVb a3)],[]⟩ ?_
 unfold spec_PowerModulo_c
 refine sr (vo 1500 (eVb a1) rfl rfl (vo 1700 (eVb a3) rfl rfl (vo 1800 (eVb ((vrep 64 (0 : Int)))) rfl rfl (vp (i6 0) rfl (nk ⟨[(0,i6 a0),(2,i6 a2),(5,ow 5),(7,ow 7),(8,ow 8)],[(5,bk (eVb a1)),(7,bk (eVb a3)),(8,bk (eVb ((vrep 64 (0 : Int)))))]⟩ (a_seq (sr (vp (i6 a0) rfl (vl (eVb a1) rfl rfl rfl rfl rfl rfl ?_)))))))))
 refine vl (eVb a3) rfl rfl rfl rfl rfl rfl (vq (.sl 64 true (([a1,a3]).map eVb)) rfl ⟨(Nat.le_of_ble_eq_true rfl),(Nat.le_of_ble_eq_true rfl),(all_cons ⟨(Nat.le_of_ble_eq_true rfl),rfl⟩ (all_cons ⟨(Nat.le_of_ble_eq_true rfl),rfl⟩ all_nil))⟩ ?_)
 obtain ⟨r3,hr4,h⟩:=bind_some h
 refine a_call (args:=[(i6 a0),(.sl 64 true (([a1,a3]).map eVb))]) (u:=[]) (r:=(i6 r3)) rfl rfl (Den.args (spec_l01Code_ok a0 ([a1,a3]) r3 hr4) rfl rfl (.cons (.refl _) (.cons (.loose _) .nil))) rfl (vp (i6 r3) rfl (nk ⟨[(0,i6 a0),(2,i6 a2),(5,ow 5),(7,ow 7),(8,ow 8),(10,i6 r3)],[(5,bk (eVb a1)),(7,bk (eVb a3)),(8,bk (eVb ((vrep 64 (0 : Int)))))]⟩ (sr (vp (i6 r3) rfl (vp (.bool (r3 != 0)) rfl (nk ⟨[(0,i6 a0),(2,i6 a2),(5,ow 5),(7,ow 7),(8,ow 8),(10,i6 r3),(17,.bool (r3 != 0))],[(5,bk (eVb a1)),(7,bk (eVb a3)),(8,bk (eVb ((vrep 64 (0 : Int)))))]⟩ ?_))))))
 cases hb5 : (r3 != 0)
 ·have h:=ite_f hb5 h
  refine a_cond_f rfl (a_skip (nj ⟨[(0,i6 a0),(2,i6 a2),(5,ow 5),(7,ow 7),(8,ow 8)],[(5,bk (eVb a1)),(7,bk (eVb a3)),(8,bk (eVb ((vrep 64 (0 : Int)))))]⟩ (a_seq (a_block (sr (vp (i6 a2) rfl ?_))))))
  obtain ⟨r6,hr7,h⟩:=bind_some h
  refine a_call (args:=[(i6 a2),(i6 0),(i6 1000000000000)]) (u:=[]) (r:=(.bool r6)) rfl rfl (spec_l01In_ok a2 0 1000000000000 r6 hr7) rfl (vp (.bool (!r6)) rfl (vp (.bool (!r6)) rfl (nk ⟨[(0,i6 a0),(2,i6 a2),(5,ow 5),(7,ow 7),(8,ow 8),(20,.bool (!r6))],[(5,bk (eVb a1)),(7,bk (eVb a3)),(8,bk (eVb ((vrep 64 (0 : Int)))))]⟩ ?_)))
  cases hb8 : (!r6)
  ·have h:=ite_f hb8 h
   refine a_cond_f rfl (sr (vl (eVb a3) rfl rfl rfl rfl rfl rfl ?_))
   obtain ⟨r10,hr11,h⟩:=bind_some h
   refine a_call (args:=[(eVb a3)]) (u:=[]) (r:=(i6 r10)) rfl rfl (spec_l01Deg_ok a3 r10 hr11) rfl (vp (.bool ((decide (r10 < 0)))) rfl (vp (.bool ((decide (r10 < 0)))) rfl (nk ⟨[(0,i6 a0),(2,i6 a2),(5,ow 5),(7,ow 7),(8,ow 8),(25,.bool ((decide (r10 < 0))))],[(5,bk (eVb a1)),(7,bk (eVb a3)),(8,bk (eVb ((vrep 64 (0 : Int)))))]⟩ ?_)))
   cases hb12 : (decide (r10 < 0))
   ·have h:=ite_f hb12 h
    refine a_cond_f rfl (a_skip (b_norm (nj ⟨[(0,i6 a0),(2,i6 a2),(5,ow 5),(7,ow 7),(8,ow 8)],[(5,bk (eVb a1)),(7,bk (eVb a3)),(8,bk (eVb ((vrep 64 (0 : Int)))))]⟩ (sr (vp (i6 a0) rfl (vl (eVb a1) rfl rfl rfl rfl rfl rfl (vp (i6 a2) rfl (vl (eVb a3) rfl rfl rfl rfl rfl rfl ?_))))))))
    obtain ⟨r15,hr16,h⟩:=bind_some h
    refine a_call (args:=[(i6 a0),(eVb a1),(i6 a2),(eVb a3)]) (u:=[]) (r:=(eVb r15)) rfl rfl (spec_l01PowMod_ok a0 a1 a2 a3 r15 hr16) rfl (vs (eVb r15) rfl rfl (fun _=>rfl) rfl rfl rfl rfl rfl rfl (vp (i6 0) rfl (nx _ rfl (a_ret ?_))))
    have hl18 : LdOk [] (eVb r15) [] 64 true (eVb r15):=(.nil rfl rfl rfl)
    refine ⟨.inr rfl,?_⟩
    rw [Try.results81]
    cases h
    exact ⟨_,_,_,_,_,ld_own (i:=⟨.arr 64 5,64,64,(eVb (vrep 64 (0 : Int)))⟩) rfl rfl rfl hl18,hl18.c,.inl ⟨rfl,.inl rfl⟩,rfl,⟨_,_,_,_,_,rfl,trivial,.inl ⟨rfl,.inl rfl⟩,rfl,rfl⟩⟩
   ·have h:=ite_t hb12 h
    refine a_cond_t rfl (sr (vq (eVb ((vrep 64 (0 : Int)))) rfl ⟨⟨_,rfl,rfl⟩,all_nil⟩ (vs (eVb ((vrep 64 (0 : Int)))) rfl rfl (fun _=>rfl) rfl rfl rfl rfl rfl rfl (vp (i6 5) rfl (nx _ rfl (a_ret (b_ret (t_ret ?_))))))))
    have hl20 : LdOk [] (eVb ((vrep 64 (0 : Int)))) [] 64 true (eVb ((vrep 64 (0 : Int)))):=(.nil rfl rfl rfl)
    refine ⟨.inr rfl,?_⟩
    rw [Try.results81]
    cases h
    exact ⟨_,_,_,_,_,ld_own (i:=⟨.arr 64 5,64,64,(eVb (vrep 64 (0 : Int)))⟩) rfl rfl rfl hl20,hl20.c,.inl ⟨rfl,.inl rfl⟩,rfl,⟨_,_,_,_,_,rfl,trivial,.inl ⟨rfl,.inl rfl⟩,rfl,rfl⟩⟩
  ·have h:=ite_t hb8 h
   refine a_cond_t rfl (sr (vq (eVb ((vrep 64 (0 : Int)))) rfl ⟨⟨_,rfl,rfl⟩,all_nil⟩ (vs (eVb ((vrep 64 (0 : Int)))) rfl rfl (fun _=>rfl) rfl rfl rfl rfl rfl rfl (vp (i6 2) rfl (nx _ rfl (a_ret (b_ret (t_ret ?_))))))))
   have hl22 : LdOk [] (eVb ((vrep 64 (0 : Int)))) [] 64 true (eVb ((vrep 64 (0 : Int)))):=(.nil rfl rfl rfl)
   refine ⟨.inr rfl,?_⟩
   rw [Try.results81]
   cases h
   exact ⟨_,_,_,_,_,ld_own (i:=⟨.arr 64 5,64,64,(eVb (vrep 64 (0 : Int)))⟩) rfl rfl rfl hl22,hl22.c,.inl ⟨rfl,.inl rfl⟩,rfl,⟨_,_,_,_,_,rfl,trivial,.inl ⟨rfl,.inl rfl⟩,rfl,rfl⟩⟩
 ·have h:=ite_t hb5 h
  refine a_cond_t rfl (sr (vq (eVb ((vrep 64 (0 : Int)))) rfl ⟨⟨_,rfl,rfl⟩,all_nil⟩ (vp (i6 r3) rfl (vs (eVb ((vrep 64 (0 : Int)))) rfl rfl (fun _=>rfl) rfl rfl rfl rfl rfl rfl (vp (i6 r3) rfl (nx _ rfl (a_ret (t_ret ?_))))))))
  have hl24 : LdOk [] (eVb ((vrep 64 (0 : Int)))) [] 64 true (eVb ((vrep 64 (0 : Int)))):=(.nil rfl rfl rfl)
  refine ⟨.inr rfl,?_⟩
  rw [Try.results81]
  cases h
  exact ⟨_,_,_,_,_,ld_own (i:=⟨.arr 64 5,64,64,(eVb (vrep 64 (0 : Int)))⟩) rfl rfl rfl hl24,hl24.c,.inl ⟨rfl,.inl rfl⟩,rfl,⟨_,_,_,_,_,rfl,trivial,.inl ⟨rfl,.inl rfl⟩,rfl,rfl⟩⟩
end Go.Proofs.Ytkbnegemdlnncaa
