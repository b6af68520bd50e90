/- Functions of the program: plain Lean functions, and that the program computes them. Printed by gen.py. -/
import Derived.Test.YtkbnegemdlnncaaFnT
namespace Go.Proofs.Ytkbnegemdlnncaa
open Go.Abs Go.Proofs
set_option linter.unusedSimpArgs false
set_option linter.unusedVariables false
set_option maxHeartbeats 16000000
attribute [local irreducible] Abs.acode Abs.aops Abs.aopsT Abs.thenK Abs.blockK

def laws_big_c : ACode:=(.seq (.region 0 [q 2 (.asg 0 (.const (.bool false)) 4)] false) (.seq (.region 1 [q 3 (.mov (t 0)),q 4 (.blt 0 .len [(t 3)] [22]),q 5 (.bin .gtr 3 (t 4) (.const (.int .i64 4096))),q 2 (.asg 0 (t 5) 4)] false) .ret))
def laws_big_L : Live:=[(0,[0]),(1,[0])]
noncomputable def laws_big (a0 : (List Int)) : Option Bool :=
 (some ((decide ((a0.length : Int) > 4096))))
theorem laws_big_ok (a0 : (List Int)) (r : Bool) (h : laws_big a0 = some r) : Den Try.prog 10 [(eSu8 a0)] { r:=(.bool r) }:=by
 refine den_of (rs:=[(.bool r)]) (ac:=laws_big_c) (L:=laws_big_L) (n:=6) (m:=[]) (c:=Try.f10.body.getD .skip) good Try.func10 (by kernel_rfl) (by kernel_rfl) Try.ntmps10 rfl rfl (by kernel_rfl) rfl rfl ?_
 refine ns ⟨[(0,eSu8 a0)],[]⟩ ?_
 unfold laws_big_c
 refine sr (vp (.bool false) rfl (nk ⟨[(0,eSu8 a0)],[]⟩ (sr (vp (eSu8 a0) rfl (vq (i6 (a0.length : Int)) (len_run rfl rfl) trivial (vp (.bool ((decide ((a0.length : Int) > 4096)))) rfl (vp (.bool ((decide ((a0.length : Int) > 4096)))) rfl (nx _ rfl (a_ret ?_)))))))))
 refine ⟨.inr rfl,?_⟩
 rw [Try.results10]
 cases h
 exact ⟨_,_,_,_,_,rfl,trivial,.inl ⟨rfl,.inl rfl⟩,rfl,rfl⟩
def spec_l01From_c : ACode:=(.seq (.region 0 [q 2 (.asg 0 (.const (.pointer none)) 96)] false) (.seq (.region 1 [q 5 (.mov (t 0)),q 6 (.mov (t 0)),q 7 (.blt 0 .len [(t 6)] [22]),q 8 (.conv 3 153 (t 7)),q 9 (.bin .add 153 (.const (.int .u64 12251)) (t 8)),q 10 (.build 155 [(0,t 5),(2,t 9)]),q 11 (.box 155 (t 10)),q 3 (.asg 0 (t 11) 96)] false) (.seq (.seq (.region 2 [q 4 (.asg 0 (.const (.int .i64 0)) 3)] false) (.block 0 (.loop (.seq (.seq (.region 3 [q 12 (.mov (t 4)),q 13 (.mov (t 0)),q 14 (.blt 0 .len [(t 13)] [22]),q 15 (.bin .lss 3 (t 12) (t 14)),q 16 (.mov (t 15)),⟨some 17,.mov (t 4),some (16,true),[]⟩,⟨some 18,.bin .lss 3 (t 17) (.const (.int .i64 4096)),some (16,true),[]⟩,q 19 (.pick (t 16) (t 18) (.const (.bool false)))] false) (.cond (t 19) .skip (.exit 0))) (.seq (.block 1 (.region 5 [q 22 (.mov (t 3)),q 23 (.mov (t 3)),⟨some 24,.nilCheck (t 23),none,[1]⟩,⟨some 25,.fieldAddr 155 (t 24) 2,none,[2]⟩,⟨some 26,.load 153 (t 25),none,[3]⟩,⟨some 27,.bin .mul 153 (t 26) (.const (.int .u64 1099511628211)),none,[4]⟩,q 28 (.mov (t 0)),q 29 (.mov (t 4)),⟨some 30,.indexAddr 22 (t 28) (t 29),none,[6,7]⟩,⟨some 31,.load 5 (t 30),none,[8]⟩,⟨some 32,.conv 5 153 (t 31),none,[9]⟩,⟨some 33,.bin .add 153 (t 27) (t 32),none,[5,10]⟩,⟨some 34,.bin .add 153 (t 33) (.const (.int .u64 61)),none,[11]⟩,⟨some 35,.nilCheck (t 22),none,[0,0,1,2,3,4,5,6,7,8,9,10,11,12]⟩,⟨some 36,.fieldAddr 155 (t 35) 2,none,[13,0,1,2,3,4,5,6,7,8,9,10,11,12]⟩,⟨none,.store 153 (t 36) (t 34),none,[14,12,0,1,2,3,4,5,6,7,8,9,10,11,12]⟩] true)) (.region 4 [q 20 (.mov (t 4)),q 21 (.bin .add 3 (t 20) (.const (.int .i64 1))),q 4 (.asg 0 (t 21) 3)] false)))))) (.seq (.region 6 [q 37 (.mov (t 3)),q 2 (.asg 0 (t 37) 96)] false) .ret))))
def spec_l01From_L : Live:=[(0,[0]),(1,[0]),(2,[0,3]),(3,[0,3,4]),(4,[0,3,4]),(5,[0,3,4]),(6,[3]),(100019,[0,3,4,19])]
noncomputable def spec_l01From_l1 (a0 : (List Int)) (x89 : Int) (x90 : ((List Int) × Int × Int)) : Option ((Int × ((List Int) × Int × Int)) ⊕ ((List Int) × Int × Int)) :=
 (Option.bind (α:=Bool) ((if (decide (x89 < (a0.length : Int))) then (some ((decide (x89 < 4096)))) else (some false))) fun x114=>(if x114 then (ifp (0 ≤ x89 ∧ x89 < ((a0.length : Nat) : Int)) ((letp (IntKind.u64.wrap ((IntKind.u64.wrap (x90.2.2 * 1099511628211)) + (IntKind.u64.wrap (rd a0 x89.toNat)))) fun x129=>(some (.inl ((IntKind.i64.wrap (x89 + 1),(x90.1,x90.2.1,IntKind.u64.wrap (x129 + 61))))))))) else (some (.inr x90))))
noncomputable def spec_l01From (a0 : (List Int)) : Option ((List Int) × Int × Int) :=
 (letp (IntKind.u64.wrap (12251 + (IntKind.u64.wrap (a0.length : Int)))) fun x1=>(Option.bind (α:=((List Int) × Int × Int)) ((loopM (fun s : (Int × ((List Int) × Int × Int))=>spec_l01From_l1 a0 s.1 s.2) (0,(a0,(0 : Int),x1)))) fun x66=>(some x66)))
theorem spec_l01From_ok (a0 : (List Int)) (r : ((List Int) × Int × Int)) (h : spec_l01From a0 = some r) : Den Try.prog 116 [(eSu8 a0)] { r:=(ow 2000000),ms:=[],fs:=[(0,[eT_Su8_i64_u64_Z r])] }:=by
 refine den_ofX (rs:=[(ow 2000000)]) (ac:=spec_l01From_c) (L:=spec_l01From_L) (n:=38) (m:=[]) (c:=Try.f116.body.getD .skip) good Try.func116 (by kernel_rfl) (by kernel_rfl) Try.ntmps116 rfl rfl (by kernel_rfl) rfl ?_
 refine ns ⟨[(0,eSu8 a0)],[]⟩ ?_
 unfold spec_l01From_c
 refine sr (vp (.raw (.pointer none)) rfl (nk ⟨[(0,eSu8 a0)],[]⟩ (sr (vp (eSu8 a0) rfl (vp (eSu8 a0) rfl (vq (i6 (a0.length : Int)) (len_run rfl rfl) trivial (vp (.int .u64 (IntKind.u64.wrap (a0.length : Int))) rfl ?_)))))))
 obtain ⟨x1,hx2,h⟩:=letp_some h
 refine a_val' (v:=(.int .u64 (IntKind.u64.wrap (12251 + (IntKind.u64.wrap (a0.length : Int)))))) (v':=(.int .u64 x1)) (u:=[]) (u':=[]) rfl (congrArg (fun z=>((.int .u64 z) : AV)) hx2) rfl trivial rfl (vq (eT_Su8_i64_u64_Z ((a0,(0 : Int),x1))) rfl ⟨rfl,(all_cons ⟨(Nat.le_of_ble_eq_true rfl),rfl⟩ (all_cons ⟨(Nat.le_of_ble_eq_true rfl),rfl⟩ all_nil))⟩ (vo 2100 (eT_Su8_i64_u64_Z ((a0,(0 : Int),x1))) rfl rfl (vp (ow 2100) rfl (nk ⟨[(0,eSu8 a0),(3,ow 3)],[(3,bk (eT_Su8_i64_u64_Z ((a0,(0 : Int),x1))))]⟩ ?_))))
 obtain ⟨y67,hy68,hk69⟩:=bind_some h
 clear h
 refine a_join (emb:=fun (s : ((List Int) × Int × Int))=>⟨[(3,ow 3)],[(3,bk (eT_Su8_i64_u64_Z s))]⟩) (pre:=fun s=>s = y67) ?_ ?_
 ·rintro x66 rfl
  have h:=hk69
  refine ns ⟨[(3,ow 3)],[(3,bk (eT_Su8_i64_u64_Z x66))]⟩ (sr (vp (ow 3) rfl (vp (ow 3) rfl (nx _ rfl (a_ret ?_)))))
  refine ⟨.inr rfl,?_⟩
  rw [Try.results116]
  cases h
  exact ⟨[some 3],⟨_,_,_,_,_,rfl,trivial,rfl,.inr (.inr (.inl ⟨_,_,_,_,rfl,rfl,rfl,rfl,rfl,⟨rfl,rfl,rfl⟩⟩))⟩,rfl,rfl⟩
 ·have h:=hy68
  refine sr (vp (i6 0) rfl (nk ⟨[(0,eSu8 a0),(3,ow 3),(4,i6 0)],[(3,bk (eT_Su8_i64_u64_Z ((a0,(0 : Int),x1))))]⟩ (a_block ?_)))
  refine a_loop (emb:=fun (s : (Int × ((List Int) × Int × Int)))=>⟨[(0,eSu8 a0),(3,ow 3),(4,i6 s.1)],[(3,bk (eT_Su8_i64_u64_Z s.2))]⟩) (body:=(fun s : (Int × ((List Int) × Int × Int))=>spec_l01From_l1 a0 s.1 s.2)) (G:=fun q=>some q = some y67) h rfl ?_ (by kernel_rfl)
  rintro X110 ⟨x89,x90⟩ x111 h hX112
  have h : spec_l01From_l1 a0 x89 x90 = some x111:=h
  refine ns ⟨[(0,eSu8 a0),(3,ow 3),(4,i6 x89)],[(3,bk (eT_Su8_i64_u64_Z x90))]⟩ (a_seq ?_)
  obtain ⟨y115,hy116,hk117⟩:=bind_some h
  clear h
  refine a_join (emb:=fun (s : Bool)=>⟨[(0,eSu8 a0),(3,ow 3),(4,i6 x89),(19,.bool s)],[(3,bk (eT_Su8_i64_u64_Z x90))]⟩) (pre:=fun s=>s = y115) ?_ ?_
  ·rintro x114 rfl
   have h:=hk117
   refine ns ⟨[(0,eSu8 a0),(3,ow 3),(4,i6 x89),(19,.bool x114)],[(3,bk (eT_Su8_i64_u64_Z x90))]⟩ ?_
   cases hb119 : x114
   ·have h:=ite_f hb119 h
    refine a_cond_f rfl (a_exit (t_exit ?_))
    cases h
    have h:=hX112
    refine t_exit (b_exit ?_)
    exact j_leaf x90 (Option.some.inj h) (by kernel_rfl)
   ·have h:=ite_t hb119 h
    refine a_cond_t rfl (a_skip (nj ⟨[(0,eSu8 a0),(3,ow 3),(4,i6 x89)],[(3,bk (eT_Su8_i64_u64_Z x90))]⟩ (a_seq (a_block (a_draw [⟨[],[],[3],[]⟩,⟨[],[],[3],[]⟩,⟨[3],[],[3],[1]⟩,⟨[3],[],[3],[1,2]⟩,⟨[3],[],[],[1,2,3]⟩,⟨[],[],[],[1,2,3,4]⟩,⟨[],[],[],[]⟩,⟨[],[],[],[]⟩,⟨[],[],[],[6,7]⟩,⟨[],[],[],[6,7,8]⟩,⟨[],[],[],[6,7,8,9]⟩,⟨[],[],[],[1,2,3,4,5,6,7,8,9,10]⟩,⟨[],[],[],[1,2,3,4,5,6,7,8,9,10,11]⟩,⟨[3],[],[3],[0,1,2,3,4,5,6,7,8,9,10,11,12]⟩,⟨[3],[],[3],[0,1,2,3,4,5,6,7,8,9,10,11,12,13]⟩,⟨[3],[3],[],[0,1,2,3,4,5,6,7,8,9,10,11,12,13,14]⟩] (by kernel_rfl) (dj (ow 3) rfl (dj (ow 3) rfl (dj (ow 3) rfl (d_cons ?_)))))))))
    refine vb (.own 3 [2] [2]) rfl rfl (d_next (by kernel_rfl) (d_cons ?_))
    have hl126 : LdOk [2] (eT_Su8_i64_u64_Z x90) [2] 1 false (.int .u64 x90.2.2):=(.fld rfl rfl rfl rfl (.nil rfl rfl rfl))
    refine vq (.int .u64 x90.2.2) (ld_own (i:=⟨.int .u64,1,8,(.int .u64 0)⟩) rfl rfl rfl hl126) hl126.c (d_next (by kernel_rfl) (dj (.int .u64 (IntKind.u64.wrap (x90.2.2 * 1099511628211))) rfl (dj (eSu8 a0) rfl (dj (i6 x89) rfl (d_cons ?_)))))
    obtain ⟨hc127,h⟩:=ifp_some h
    refine vq (.ref (.row 1 (a0.map (AV.int .u8))) [x89.toNat] [x89.toNat * 1]) rfl (lmap hc127) (d_next (by kernel_rfl) (d_cons ?_))
    have hl128 : LdOk [x89.toNat] (.row 1 (a0.map (AV.int .u8))) [x89.toNat * 1] 1 false (b8 (rd a0 x89.toNat)):=(.row (llt hc127) rfl (.nil rfl rfl rfl))
    refine vq (b8 (rd a0 x89.toNat)) (ld_ref (i:=⟨.int .u8,1,1,(.int .u8 0)⟩) rfl rfl hl128) hl128.c (d_next (by kernel_rfl) (dj (.int .u64 (IntKind.u64.wrap (rd a0 x89.toNat))) rfl (d_cons ?_)))
    obtain ⟨x129,hx130,h⟩:=letp_some h
    refine a_val' (v:=(.int .u64 (IntKind.u64.wrap ((IntKind.u64.wrap (x90.2.2 * 1099511628211)) + (IntKind.u64.wrap (rd a0 x89.toNat)))))) (v':=(.int .u64 x129)) (u:=[]) (u':=[]) rfl (congrArg (fun z=>((.int .u64 z) : AV)) hx130) rfl trivial rfl (d_next (by kernel_rfl) (dj (.int .u64 (IntKind.u64.wrap (x129 + 61))) rfl (dj (ow 3) rfl (d_cons (vb (.own 3 [2] [2]) rfl rfl (d_next (by kernel_rfl) (d_cons ?_)))))))
    have hs131 : StOk [2] (eT_Su8_i64_u64_Z x90) [2] 1 (.int .u64 (IntKind.u64.wrap (x129 + 61))) (eT_Su8_i64_u64_Z ((x90.1,x90.2.1,IntKind.u64.wrap (x129 + 61)))):=(.fld rfl rfl rfl rfl (.nil rfl rfl rfl rfl))
    refine vu .top [(3,bk (eT_Su8_i64_u64_Z ((x90.1,x90.2.1,IntKind.u64.wrap (x129 + 61)))))] (st_own (i:=⟨.int .u64,1,8,(.int .u64 0)⟩) rfl rfl (fun _=>rfl) rfl hs131) (hs131.c rfl) rfl (d_next (by kernel_rfl) (d_nil (b_norm (nj ⟨[(0,eSu8 a0),(3,ow 3),(4,i6 x89)],[(3,bk (eT_Su8_i64_u64_Z ((x90.1,x90.2.1,IntKind.u64.wrap (x129 + 61)))))]⟩ (a_region (vp (i6 x89) rfl (vp (i6 (IntKind.i64.wrap (x89 + 1))) rfl (vp (i6 (IntKind.i64.wrap (x89 + 1))) rfl (a_nil ?_)))))))))
    cases h
    exact a_again (by kernel_rfl) hX112
  ·have h:=hy116
   refine a_region (vp (i6 x89) rfl (vp (eSu8 a0) rfl (vq (i6 (a0.length : Int)) (len_run rfl rfl) trivial (vp (.bool ((decide (x89 < (a0.length : Int))))) rfl (vp (.bool ((decide (x89 < (a0.length : Int))))) rfl ?_)))))
   cases hb118 : (decide (x89 < (a0.length : Int)))
   ·have h:=ite_f hb118 h
    refine a_gskip rfl (a_gskip rfl (vp (.bool false) rfl (a_nil ?_)))
    exact j_leaf false (Option.some.inj h) (by kernel_rfl)
   ·have h:=ite_t hb118 h
    refine gp (i6 x89) rfl rfl (gp (.bool ((decide (x89 < 4096)))) rfl rfl (vp (.bool ((decide (x89 < 4096)))) rfl (a_nil ?_)))
    exact j_leaf ((decide (x89 < 4096))) (Option.some.inj h) (by kernel_rfl)
def spec_l01Next_of_src_c : ACode:=(.seq (.region 0 [q 4 (.asg 0 (.const (.int .i64 0)) 2)] false) (.seq (.seq (.region 1 [q 6 (.mov (t 1)),q 7 (.bin .lss 2 (t 6) (.const (.int .i64 1)))] false) (.cond (t 7) (.seq (.region 2 [q 4 (.asg 0 (.const (.int .i64 0)) 2)] false) .ret) .skip)) (.seq (.region 3 [q 8 (.mov (t 0)),q 9 (.mov (t 0)),q 10 (.nilCheck (t 9)),q 11 (.fieldAddr 155 (t 10) 2),q 12 (.load 153 (t 11)),q 13 (.bin .mul 153 (t 12) (.const (.int .u64 6364136223846793005))),q 14 (.bin .add 153 (t 13) (.const (.int .u64 1442695040888963407))),q 15 (.nilCheck (t 8)),q 16 (.fieldAddr 155 (t 15) 2),⟨none,.store 153 (t 16) (t 14),none,[]⟩] false) (.seq (.region 4 [q 17 (.mov (t 0)),q 18 (.nilCheck (t 17)),q 19 (.fieldAddr 155 (t 18) 2),q 20 (.load 153 (t 19)),q 21 (.bin .shr 153 (t 20) (.const (.int .u64 33))),q 22 (.bin .and 153 (t 21) (.const (.int .u64 16777215))),q 23 (.conv 153 2 (t 22)),q 5 (.asg 0 (t 23) 2)] false) (.seq (.seq (.region 5 [q 24 (.mov (t 0)),⟨some 25,.nilCheck (t 24),none,[0]⟩,⟨some 26,.fieldAddr 155 (t 25) 1,none,[1]⟩,⟨some 27,.load 3 (t 26),none,[2]⟩,q 28 (.mov (t 0)),⟨some 29,.nilCheck (t 28),none,[4]⟩,⟨some 30,.fieldAddr 155 (t 29) 0,none,[5]⟩,⟨some 31,.load 22 (t 30),none,[6]⟩,⟨some 32,.blt 0 .len [(t 31)] [22],none,[7]⟩,⟨some 33,.bin .lss 3 (t 27) (t 32),none,[3,8]⟩] true) (.cond (t 33) (.seq (.region 6 [q 34 (.mov (t 5)),q 35 (.mov (t 0)),⟨some 36,.nilCheck (t 35),none,[1]⟩,⟨some 37,.fieldAddr 155 (t 36) 0,none,[2]⟩,⟨some 38,.load 22 (t 37),none,[3]⟩,q 39 (.mov (t 0)),⟨some 40,.nilCheck (t 39),none,[5]⟩,⟨some 41,.fieldAddr 155 (t 40) 1,none,[6]⟩,⟨some 42,.load 3 (t 41),none,[7]⟩,⟨some 43,.indexAddr 22 (t 38) (t 42),none,[4,8]⟩,⟨some 44,.load 5 (t 43),none,[9]⟩,⟨some 45,.conv 5 2 (t 44),none,[10]⟩,⟨some 46,.bin .add 2 (t 34) (t 45),none,[0,11]⟩,⟨some 5,.asg 0 (t 46) 2,none,[12,0,1,2,3,4,5,6,7,8,9,10,11,12]⟩] true) (.region 7 [q 47 (.mov (t 0)),q 48 (.mov (t 0)),q 49 (.nilCheck (t 48)),q 50 (.fieldAddr 155 (t 49) 1),q 51 (.load 3 (t 50)),q 52 (.bin .add 3 (t 51) (.const (.int .i64 1))),q 53 (.nilCheck (t 47)),q 54 (.fieldAddr 155 (t 53) 1),⟨none,.store 3 (t 54) (t 52),none,[]⟩] false)) .skip)) (.seq (.region 8 [q 55 (.mov (t 5)),q 56 (.mov (t 1)),q 57 (.bin .rem 2 (t 55) (t 56)),q 4 (.asg 0 (t 57) 2)] false) .ret))))))
def spec_l01Next_of_src_L : Live:=[(0,[0,1]),(1,[0,1]),(2,[]),(3,[0,1]),(4,[0,1]),(5,[0,1,5]),(6,[0,1,5]),(7,[0,1,5]),(8,[1,5]),(100007,[0,1,7]),(100033,[0,1,5,33])]
noncomputable def spec_l01Next_of_src (a0 : ((List Int) × Int × Int)) (a1 : Int) : Option (Int × ((List Int) × Int × Int)) :=
 (if (decide (a1 < 1)) then (some (0,a0)) else (letp (IntKind.u64.wrap ((IntKind.u64.wrap (a0.2.2 * 6364136223846793005)) + 1442695040888963407)) fun x3=>(letp (IntKind.u64.wrap (BitVec.ofInt IntKind.u64.bits (Int.fdiv x3 (2 ^ (min (33 : Int).toNat IntKind.u64.bits))) &&& BitVec.ofInt IntKind.u64.bits 16777215).toNat) fun x7=>(Option.bind (α:=(Int × ((List Int) × Int × Int))) ((if (decide (a0.2.1 < (a0.1.length : Int))) then (ifp (0 ≤ a0.2.1 ∧ a0.2.1 < ((a0.1.length : Nat) : Int)) ((letp (IntKind.i64.wrap ((IntKind.i64.wrap x7) + (IntKind.i64.wrap (rd a0.1 a0.2.1.toNat)))) fun x48=>(some ((x48,(a0.1,IntKind.i64.wrap (a0.2.1 + 1),x3))))))) else (some ((IntKind.i64.wrap x7,(a0.1,a0.2.1,x3)))))) fun ⟨x28,x29⟩=>(ifp (a1 ≠ 0) ((some (Int.tmod x28 a1,x29))))))))
theorem spec_l01Next_of_src_ok (a0 : ((List Int) × Int × Int)) (a1 : Int) (r : (Int × ((List Int) × Int × Int))) (h : spec_l01Next_of_src a0 a1 = some r) : Den Try.prog 123 [(.mutp (eT_Su8_i64_u64_Z a0)),(i6 a1)] { r:=(i6 r.1),ms:=[(eT_Su8_i64_u64_Z r.2)],fs:=[] }:=by
 refine den_ofX (rs:=[(i6 r.1)]) (ac:=spec_l01Next_of_src_c) (L:=spec_l01Next_of_src_L) (n:=58) (m:=[]) (c:=Try.f123.body.getD .skip) good Try.func123 (by kernel_rfl) (by kernel_rfl) Try.ntmps123 rfl rfl (by kernel_rfl) rfl ?_
 refine ns ⟨[(0,ow 1000000),(1,i6 a1)],[(1000000,bk (eT_Su8_i64_u64_Z a0))]⟩ ?_
 unfold spec_l01Next_of_src_c
 refine sr (vp (i6 0) rfl (nk ⟨[(0,ow 1000000),(1,i6 a1)],[(1000000,bk (eT_Su8_i64_u64_Z a0))]⟩ (a_seq (sr (vp (i6 a1) rfl (vp (.bool ((decide (a1 < 1)))) rfl (nk ⟨[(0,ow 1000000),(1,i6 a1),(7,.bool ((decide (a1 < 1))))],[(1000000,bk (eT_Su8_i64_u64_Z a0))]⟩ ?_)))))))
 cases hb1 : (decide (a1 < 1))
 ·have h:=ite_f hb1 h
  refine a_cond_f rfl (a_skip (nj ⟨[(0,ow 1000000),(1,i6 a1)],[(1000000,bk (eT_Su8_i64_u64_Z a0))]⟩ (sr (vp (ow 1000000) rfl (vp (ow 1000000) rfl (vp (ow 1000000) rfl (vb (.own 1000000 [2] [2]) rfl rfl ?_)))))))
  have hl2 : LdOk [2] (eT_Su8_i64_u64_Z a0) [2] 1 false (.int .u64 a0.2.2):=(.fld rfl rfl rfl rfl (.nil rfl rfl rfl))
  refine vq (.int .u64 a0.2.2) (ld_own (i:=⟨.int .u64,1,8,(.int .u64 0)⟩) rfl rfl rfl hl2) hl2.c (vp (.int .u64 (IntKind.u64.wrap (a0.2.2 * 6364136223846793005))) rfl ?_)
  obtain ⟨x3,hx4,h⟩:=letp_some h
  refine a_val' (v:=(.int .u64 (IntKind.u64.wrap ((IntKind.u64.wrap (a0.2.2 * 6364136223846793005)) + 1442695040888963407)))) (v':=(.int .u64 x3)) (u:=[]) (u':=[]) rfl (congrArg (fun z=>((.int .u64 z) : AV)) hx4) rfl trivial rfl (vp (ow 1000000) rfl (vb (.own 1000000 [2] [2]) rfl rfl ?_))
  have hs5 : StOk [2] (eT_Su8_i64_u64_Z a0) [2] 1 (.int .u64 x3) (eT_Su8_i64_u64_Z (a0.1,a0.2.1,x3)):=(.fld rfl rfl rfl rfl (.nil rfl rfl rfl rfl))
  refine vu .top [(1000000,bk (eT_Su8_i64_u64_Z (a0.1,a0.2.1,x3)))] (st_own (i:=⟨.int .u64,1,8,(.int .u64 0)⟩) rfl rfl (fun _=>rfl) rfl hs5) (hs5.c rfl) rfl (nk ⟨[(0,ow 1000000),(1,i6 a1)],[(1000000,bk (eT_Su8_i64_u64_Z (a0.1,a0.2.1,x3)))]⟩ (sr (vp (ow 1000000) rfl (vp (ow 1000000) rfl (vb (.own 1000000 [2] [2]) rfl rfl ?_)))))
  have hl6 : LdOk [2] (eT_Su8_i64_u64_Z (a0.1,a0.2.1,x3)) [2] 1 false (.int .u64 x3):=(.fld rfl rfl rfl rfl (.nil rfl rfl rfl))
  refine vq (.int .u64 x3) (ld_own (i:=⟨.int .u64,1,8,(.int .u64 0)⟩) rfl rfl rfl hl6) hl6.c (vq (.int .u64 (Int.fdiv x3 (2 ^ (min (33 : Int).toNat IntKind.u64.bits)))) rfl (by decide) ?_)
  obtain ⟨x7,hx8,h⟩:=letp_some h
  refine a_val' (v:=(.int .u64 (IntKind.u64.wrap (BitVec.ofInt IntKind.u64.bits (Int.fdiv x3 (2 ^ (min (33 : Int).toNat IntKind.u64.bits))) &&& BitVec.ofInt IntKind.u64.bits 16777215).toNat))) (v':=(.int .u64 x7)) (u:=[]) (u':=[]) rfl (congrArg (fun z=>((.int .u64 z) : AV)) hx8) rfl trivial rfl (vp (i6 (IntKind.i64.wrap x7)) rfl (vp (i6 (IntKind.i64.wrap x7)) rfl (nk ⟨[(0,ow 1000000),(1,i6 a1),(5,i6 (IntKind.i64.wrap x7))],[(1000000,bk (eT_Su8_i64_u64_Z (a0.1,a0.2.1,x3)))]⟩ ?_)))
  obtain ⟨y30,hy31,hk32⟩:=bind_some h
  clear h
  refine a_join (emb:=fun (s : (Int × ((List Int) × Int × Int)))=>⟨[(1,i6 a1),(5,i6 s.1)],[(1000000,bk (eT_Su8_i64_u64_Z s.2))]⟩) (pre:=fun s=>s = y30) ?_ ?_
  ·rintro ⟨x28,x29⟩ rfl
   have h:=hk32
   refine ns ⟨[(1,i6 a1),(5,i6 x28)],[(1000000,bk (eT_Su8_i64_u64_Z x29))]⟩ (sr (vp (i6 x28) rfl (vp (i6 a1) rfl ?_)))
   obtain ⟨hc52,h⟩:=ifp_some h
   refine vq (i6 (Int.tmod x28 a1)) rfl hc52 (vp (i6 (Int.tmod x28 a1)) rfl (nx _ rfl (a_ret ?_)))
   refine ⟨.inr rfl,?_⟩
   rw [Try.results123]
   cases h
   exact ⟨[],⟨_,_,_,_,_,rfl,trivial,rfl,.inl ⟨rfl,.inl rfl,⟨rfl,rfl,rfl⟩⟩⟩,rfl,⟨_,_,rfl,rfl,rfl⟩⟩
  ·have h:=hy31
   refine a_seq (a_draw [⟨[],[],[1000000],[]⟩,⟨[1000000],[],[1000000],[0]⟩,⟨[1000000],[],[1000000],[0,1]⟩,⟨[1000000],[],[],[0,1,2]⟩,⟨[],[],[1000000],[]⟩,⟨[1000000],[],[1000000],[4]⟩,⟨[1000000],[],[1000000],[4,5]⟩,⟨[1000000],[],[],[4,5,6]⟩,⟨[],[],[],[4,5,6,7]⟩,⟨[],[],[],[0,1,2,3,4,5,6,7,8]⟩] (by kernel_rfl) (dj (ow 1000000) rfl (dj (ow 1000000) rfl (d_cons (vb (.own 1000000 [1] [1]) rfl rfl (d_next (by kernel_rfl) (d_cons ?_)))))))
   have hl35 : LdOk [1] (eT_Su8_i64_u64_Z (a0.1,a0.2.1,x3)) [1] 1 false (i6 a0.2.1):=(.fld rfl rfl rfl rfl (.nil rfl rfl rfl))
   refine vq (i6 a0.2.1) (ld_own (i:=⟨.int .i64,1,8,(.int .i64 0)⟩) rfl rfl rfl hl35) hl35.c (d_next (by kernel_rfl) (dj (ow 1000000) rfl (dj (ow 1000000) rfl (d_cons (vb (.own 1000000 [0] [0]) rfl rfl (d_next (by kernel_rfl) (d_cons ?_)))))))
   have hl36 : LdOk [0] (eT_Su8_i64_u64_Z (a0.1,a0.2.1,x3)) [0] 1 false (eSu8 a0.1):=(.fld rfl rfl rfl rfl (.nil rfl rfl rfl))
   refine vq (eSu8 a0.1) (ld_own (i:=⟨.slice 5,1,24,(eSu8 [])⟩) rfl rfl rfl hl36) hl36.c (d_next (by kernel_rfl) (d_cons (vq (i6 (a0.1.length : Int)) (len_run rfl rfl) trivial (d_next (by kernel_rfl) (dj (.bool ((decide (a0.2.1 < (a0.1.length : Int))))) rfl (d_nil (nj ⟨[(0,ow 1000000),(1,i6 a1),(5,i6 (IntKind.i64.wrap x7)),(33,.bool ((decide (a0.2.1 < (a0.1.length : Int)))))],[(1000000,bk (eT_Su8_i64_u64_Z (a0.1,a0.2.1,x3)))]⟩ ?_)))))))
   cases hb37 : (decide (a0.2.1 < (a0.1.length : Int)))
   ·have h:=ite_f hb37 h
    refine a_cond_f rfl (a_skip ?_)
    exact j_leaf ((IntKind.i64.wrap x7,(a0.1,a0.2.1,x3))) (Option.some.inj h) (by kernel_rfl)
   ·have h:=ite_t hb37 h
    refine a_cond_t rfl (a_seq (a_draw [⟨[],[],[],[]⟩,⟨[],[],[1000000],[]⟩,⟨[1000000],[],[1000000],[1]⟩,⟨[1000000],[],[1000000],[1,2]⟩,⟨[1000000],[],[],[1,2,3]⟩,⟨[],[],[1000000],[]⟩,⟨[1000000],[],[1000000],[5]⟩,⟨[1000000],[],[1000000],[5,6]⟩,⟨[1000000],[],[],[5,6,7]⟩,⟨[],[],[],[1,2,3,4,5,6,7,8]⟩,⟨[],[],[],[1,2,3,4,5,6,7,8,9]⟩,⟨[],[],[],[1,2,3,4,5,6,7,8,9,10]⟩,⟨[],[],[],[0,1,2,3,4,5,6,7,8,9,10,11]⟩,⟨[],[],[],[0,1,2,3,4,5,6,7,8,9,10,11,12]⟩] (by kernel_rfl) (dj (i6 (IntKind.i64.wrap x7)) rfl (dj (ow 1000000) rfl (dj (ow 1000000) rfl (d_cons (vb (.own 1000000 [0] [0]) rfl rfl (d_next (by kernel_rfl) (d_cons ?_)))))))))
    have hl44 : LdOk [0] (eT_Su8_i64_u64_Z (a0.1,a0.2.1,x3)) [0] 1 false (eSu8 a0.1):=(.fld rfl rfl rfl rfl (.nil rfl rfl rfl))
    refine vq (eSu8 a0.1) (ld_own (i:=⟨.slice 5,1,24,(eSu8 [])⟩) rfl rfl rfl hl44) hl44.c (d_next (by kernel_rfl) (dj (ow 1000000) rfl (dj (ow 1000000) rfl (d_cons (vb (.own 1000000 [1] [1]) rfl rfl (d_next (by kernel_rfl) (d_cons ?_)))))))
    have hl45 : LdOk [1] (eT_Su8_i64_u64_Z (a0.1,a0.2.1,x3)) [1] 1 false (i6 a0.2.1):=(.fld rfl rfl rfl rfl (.nil rfl rfl rfl))
    refine vq (i6 a0.2.1) (ld_own (i:=⟨.int .i64,1,8,(.int .i64 0)⟩) rfl rfl rfl hl45) hl45.c (d_next (by kernel_rfl) (d_cons ?_))
    obtain ⟨hc46,h⟩:=ifp_some h
    refine vq (.ref (.row 1 (a0.1.map (AV.int .u8))) [a0.2.1.toNat] [a0.2.1.toNat * 1]) rfl (lmap hc46) (d_next (by kernel_rfl) (d_cons ?_))
    have hl47 : LdOk [a0.2.1.toNat] (.row 1 (a0.1.map (AV.int .u8))) [a0.2.1.toNat * 1] 1 false (b8 (rd a0.1 a0.2.1.toNat)):=(.row (llt hc46) rfl (.nil rfl rfl rfl))
    refine vq (b8 (rd a0.1 a0.2.1.toNat)) (ld_ref (i:=⟨.int .u8,1,1,(.int .u8 0)⟩) rfl rfl hl47) hl47.c (d_next (by kernel_rfl) (dj (i6 (IntKind.i64.wrap (rd a0.1 a0.2.1.toNat))) rfl (d_cons ?_)))
    obtain ⟨x48,hx49,h⟩:=letp_some h
    refine a_val' (v:=(i6 (IntKind.i64.wrap ((IntKind.i64.wrap x7) + (IntKind.i64.wrap (rd a0.1 a0.2.1.toNat)))))) (v':=(i6 x48)) (u:=[]) (u':=[]) rfl (congrArg (fun z=>((i6 z) : AV)) hx49) rfl trivial rfl (d_next (by kernel_rfl) (dj (i6 x48) rfl (d_nil (nj ⟨[(0,ow 1000000),(1,i6 a1),(5,i6 x48)],[(1000000,bk (eT_Su8_i64_u64_Z (a0.1,a0.2.1,x3)))]⟩ (a_region (vp (ow 1000000) rfl (vp (ow 1000000) rfl (vp (ow 1000000) rfl (vb (.own 1000000 [1] [1]) rfl rfl ?_)))))))))
    have hl50 : LdOk [1] (eT_Su8_i64_u64_Z (a0.1,a0.2.1,x3)) [1] 1 false (i6 a0.2.1):=(.fld rfl rfl rfl rfl (.nil rfl rfl rfl))
    refine vq (i6 a0.2.1) (ld_own (i:=⟨.int .i64,1,8,(.int .i64 0)⟩) rfl rfl rfl hl50) hl50.c (vp (i6 (IntKind.i64.wrap (a0.2.1 + 1))) rfl (vp (ow 1000000) rfl (vb (.own 1000000 [1] [1]) rfl rfl ?_)))
    have hs51 : StOk [1] (eT_Su8_i64_u64_Z (a0.1,a0.2.1,x3)) [1] 1 (i6 (IntKind.i64.wrap (a0.2.1 + 1))) (eT_Su8_i64_u64_Z ((a0.1,IntKind.i64.wrap (a0.2.1 + 1),x3))):=(.fld rfl rfl rfl rfl (.nil rfl rfl rfl rfl))
    refine vu .top [(1000000,bk (eT_Su8_i64_u64_Z ((a0.1,IntKind.i64.wrap (a0.2.1 + 1),x3))))] (st_own (i:=⟨.int .i64,1,8,(.int .i64 0)⟩) rfl rfl (fun _=>rfl) rfl hs51) (hs51.c rfl) rfl (a_nil ?_)
    exact j_leaf ((x48,(a0.1,IntKind.i64.wrap (a0.2.1 + 1),x3))) (Option.some.inj h) (by kernel_rfl)
 ·have h:=ite_t hb1 h
  refine a_cond_t rfl (sr (vp (i6 0) rfl (nx _ rfl (a_ret (t_ret ?_)))))
  refine ⟨.inr rfl,?_⟩
  rw [Try.results123]
  cases h
  exact ⟨[],⟨_,_,_,_,_,rfl,trivial,rfl,.inl ⟨rfl,.inl rfl,⟨rfl,rfl,rfl⟩⟩⟩,rfl,⟨_,_,rfl,rfl,rfl⟩⟩
def spec_l01Pick_of_src_c : ACode:=(.seq (.region 0 [q 4 (.asg 0 (.const (.int .i64 0)) 2)] false) (.seq (.region 1 [q 5 (.mov (t 1)),q 6 (.mov (t 0)),q 7 (.mov (t 1)),q 8 (.blt 0 .len [(t 7)] [59]),q 9 (.call 1 (.func 123) [(t 6),(t 8)]),q 10 (.indexAddr 59 (t 5) (t 9)),q 11 (.load 2 (t 10)),q 4 (.asg 0 (t 11) 2)] false) .ret))
def spec_l01Pick_of_src_L : Live:=[(0,[0,1]),(1,[0,1])]
noncomputable def spec_l01Pick_of_src (a0 : ((List Int) × Int × Int)) (a1 : (List Int)) : Option (Int × ((List Int) × Int × Int)) :=
 (Option.bind (spec_l01Next_of_src a0 (a1.length : Int)) fun r1=>(ifp (0 ≤ r1.1 ∧ r1.1 < ((a1.length : Nat) : Int)) ((some (((rd a1 r1.1.toNat),r1.2))))))
theorem spec_l01Pick_of_src_ok (a0 : ((List Int) × Int × Int)) (a1 : (List Int)) (r : (Int × ((List Int) × Int × Int))) (h : spec_l01Pick_of_src a0 a1 = some r) : Den Try.prog 122 [(.mutp (eT_Su8_i64_u64_Z a0)),(eSi64 a1)] { r:=(i6 r.1),ms:=[(eT_Su8_i64_u64_Z r.2)],fs:=[] }:=by
 refine den_ofX (rs:=[(i6 r.1)]) (ac:=spec_l01Pick_of_src_c) (L:=spec_l01Pick_of_src_L) (n:=12) (m:=[(9,1)]) (c:=Try.f122.body.getD .skip) good Try.func122 (by kernel_rfl) (by kernel_rfl) Try.ntmps122 rfl rfl (by kernel_rfl) rfl ?_
 refine ns ⟨[(0,ow 1000000),(1,eSi64 a1)],[(1000000,bk (eT_Su8_i64_u64_Z a0))]⟩ ?_
 unfold spec_l01Pick_of_src_c
 refine sr (vp (i6 0) rfl (nk ⟨[(0,ow 1000000),(1,eSi64 a1)],[(1000000,bk (eT_Su8_i64_u64_Z a0))]⟩ (sr (vp (eSi64 a1) rfl (vp (ow 1000000) rfl (vp (eSi64 a1) rfl (vq (i6 (a1.length : Int)) (len_run rfl rfl) trivial ?_)))))))
 obtain ⟨r1,hr2,h⟩:=bind_some h
 refine a_callM (args:=[(.mutp (eT_Su8_i64_u64_Z a0)),(i6 (a1.length : Int))]) (i:=0) (id:=1000000) (r:=(i6 r1.1)) (c:=(eT_Su8_i64_u64_Z r1.2)) rfl rfl (spec_l01Next_of_src_ok a0 (a1.length : Int) r1 hr2) rfl trivial ?_
 obtain ⟨hc4,h⟩:=ifp_some h
 refine vq (.ref (.row 1 (a1.map (AV.int .i64))) [r1.1.toNat] [r1.1.toNat * 1]) rfl (lmap hc4) ?_
 have hl5 : LdOk [r1.1.toNat] (.row 1 (a1.map (AV.int .i64))) [r1.1.toNat * 1] 1 false (i6 (rd a1 r1.1.toNat)):=(.row (llt hc4) rfl (.nil rfl rfl rfl))
 refine vq (i6 (rd a1 r1.1.toNat)) (ld_ref (i:=⟨.int .i64,1,8,(.int .i64 0)⟩) rfl rfl hl5) hl5.c (vp (i6 (rd a1 r1.1.toNat)) rfl (nx _ rfl (a_ret ?_)))
 refine ⟨.inr rfl,?_⟩
 rw [Try.results122]
 cases h
 exact ⟨[],⟨_,_,_,_,_,rfl,trivial,rfl,.inl ⟨rfl,.inl rfl,⟨rfl,rfl,rfl⟩⟩⟩,rfl,⟨_,_,rfl,rfl,rfl⟩⟩
def spec_l01DrawPrime_of_src_c : ACode:=(.seq (.region 0 [q 2 (.asg 0 (.const (.int .i64 0)) 2)] false) (.seq (.region 1 [q 3 (.mov (t 0)),q 4 (.bslice 0 59 6 [(0,.const (.int .i64 2)),(1,.const (.int .i64 2)),(2,.const (.int .i64 3)),(3,.const (.int .i64 3)),(4,.const (.int .i64 5)),(5,.const (.int .i64 7))]),q 5 (.call 1 (.func 122) [(t 3),(t 4)]),q 2 (.asg 0 (t 5) 2)] false) .ret))
def spec_l01DrawPrime_of_src_L : Live:=[(0,[0]),(1,[0])]
noncomputable def spec_l01DrawPrime_of_src (a0 : ((List Int) × Int × Int)) : Option (Int × ((List Int) × Int × Int)) :=
 (Option.bind (spec_l01Pick_of_src a0 ([2,2,3,3,5,7])) fun r1=>(some (r1.1,r1.2)))
theorem spec_l01DrawPrime_of_src_ok (a0 : ((List Int) × Int × Int)) (r : (Int × ((List Int) × Int × Int))) (h : spec_l01DrawPrime_of_src a0 = some r) : Den Try.prog 188 [(.mutp (eT_Su8_i64_u64_Z a0))] { r:=(i6 r.1),ms:=[(eT_Su8_i64_u64_Z r.2)],fs:=[] }:=by
 refine den_ofX (rs:=[(i6 r.1)]) (ac:=spec_l01DrawPrime_of_src_c) (L:=spec_l01DrawPrime_of_src_L) (n:=6) (m:=[(5,1)]) (c:=Try.f188.body.getD .skip) good Try.func188 (by kernel_rfl) (by kernel_rfl) Try.ntmps188 rfl rfl (by kernel_rfl) rfl ?_
 refine ns ⟨[(0,ow 1000000)],[(1000000,bk (eT_Su8_i64_u64_Z a0))]⟩ ?_
 unfold spec_l01DrawPrime_of_src_c
 refine sr (vp (i6 0) rfl (nk ⟨[(0,ow 1000000)],[(1000000,bk (eT_Su8_i64_u64_Z a0))]⟩ (sr (vp (ow 1000000) rfl (vq (.sl 1 true (([2,2,3,3,5,7]).map (AV.int .i64))) rfl ⟨(Nat.le_of_ble_eq_true rfl),(Nat.le_of_ble_eq_true rfl),(all_cons ⟨(Nat.le_of_ble_eq_true rfl),rfl⟩ (all_cons ⟨(Nat.le_of_ble_eq_true rfl),rfl⟩ (all_cons ⟨(Nat.le_of_ble_eq_true rfl),rfl⟩ (all_cons ⟨(Nat.le_of_ble_eq_true rfl),rfl⟩ (all_cons ⟨(Nat.le_of_ble_eq_true rfl),rfl⟩ (all_cons ⟨(Nat.le_of_ble_eq_true rfl),rfl⟩ all_nil))))))⟩ ?_)))))
 obtain ⟨r1,hr2,h⟩:=bind_some h
 refine a_callM (args:=[(.mutp (eT_Su8_i64_u64_Z a0)),(.sl 1 true (([2,2,3,3,5,7]).map (AV.int .i64)))]) (i:=0) (id:=1000000) (r:=(i6 r1.1)) (c:=(eT_Su8_i64_u64_Z r1.2)) rfl rfl (Den.argsM (spec_l01Pick_of_src_ok a0 ([2,2,3,3,5,7]) r1 hr2) rfl rfl (.cons (.loose _) .nil)) rfl trivial (vp (i6 r1.1) rfl (nx _ rfl (a_ret ?_)))
 refine ⟨.inr rfl,?_⟩
 rw [Try.results188]
 cases h
 exact ⟨[],⟨_,_,_,_,_,rfl,trivial,rfl,.inl ⟨rfl,.inl rfl,⟨rfl,rfl,rfl⟩⟩⟩,rfl,⟨_,_,rfl,rfl,rfl⟩⟩
def spec_l01Draw_of_src_c : ACode:=(.seq (.region 0 [q 6 (.alloc 25)] false) (.seq (.region 1 [q 9 (.build 25 []),q 7 (.alloc 25),⟨none,.store 25 (t 7) (t 9),none,[]⟩] false) (.seq (.seq (.region 2 [q 10 (.mov (t 0)),q 11 (.mov (t 2)),q 12 (.bin .add 2 (t 11) (.const (.int .i64 2))),q 13 (.call 1 (.func 123) [(t 10),(t 12)]),q 14 (.bin .sub 2 (t 13) (.const (.int .i64 1))),q 8 (.asg 0 (t 14) 2)] false) (.block 0 (.loop (.seq (.seq (.region 3 [q 15 (.mov (t 8)),q 16 (.bin .geq 2 (t 15) (.const (.int .i64 0)))] false) (.cond (t 16) .skip (.exit 0))) (.seq (.block 1 (.seq (.region 5 [q 19 (.mov (t 0)),q 20 (.call 1 (.func 123) [(t 19),(.const (.int .i64 3))]),q 21 (.bin .gtr 2 (t 20) (.const (.int .i64 0)))] false) (.cond (t 21) (.region 6 [q 22 (.mov (t 8)),q 23 (.mov (t 0)),q 24 (.mov (t 1)),q 25 (.call 1 (.func 123) [(t 23),(t 24)]),q 26 (.conv 2 5 (t 25)),q 27 (.indexAddr 25 (t 7) (t 22)),⟨none,.store 5 (t 27) (t 26),none,[]⟩] false) .skip))) (.region 4 [q 17 (.mov (t 8)),q 18 (.bin .sub 2 (t 17) (.const (.int .i64 1))),q 8 (.asg 0 (t 18) 2)] false)))))) (.seq (.region 7 [q 28 (.load 25 (t 7)),⟨none,.store 25 (t 6) (t 28),none,[]⟩] false) .ret))))
def spec_l01Draw_of_src_L : Live:=[(0,[0,1,2]),(1,[0,1,2,6]),(2,[0,1,2,6,7]),(3,[0,1,6,7,8]),(4,[0,1,6,7,8]),(5,[0,1,6,7,8]),(6,[0,1,6,7,8]),(7,[6,7]),(100016,[0,1,6,7,8,16]),(100021,[0,1,6,7,8,21])]
noncomputable def spec_l01Draw_of_src_l1 (a1 : Int) (x116 : Int) (x117 : (Vec Int 64)) (x118 : ((List Int) × Int × Int)) : Option ((Int × (Vec Int 64) × ((List Int) × Int × Int)) ⊕ ((Vec Int 64) × ((List Int) × Int × Int))) :=
 (if (decide (x116 ≥ 0)) then (Option.bind (α:=((Vec Int 64) × ((List Int) × Int × Int))) ((Option.bind (spec_l01Next_of_src x118 3) fun r161=>(if (decide (r161.1 > 0)) then (Option.bind (spec_l01Next_of_src r161.2 a1) fun r165=>(ifp (0 ≤ x116 ∧ x116 < ((64 : Nat) : Int)) ((some (((vset x117 x116.toNat (IntKind.u8.wrap r165.1)),r165.2)))))) else (some (x117,r161.2))))) fun ⟨x156,x157⟩=>(some (.inl ((IntKind.i64.wrap (x116 - 1),x156,x157))))) else (some (.inr (x117,x118))))
noncomputable def spec_l01Draw_of_src (a0 : ((List Int) × Int × Int)) (a1 : Int) (a2 : Int) : Option ((Vec Int 64) × ((List Int) × Int × Int)) :=
 (Option.bind (α:=((Vec Int 64) × ((List Int) × Int × Int))) ((Option.bind (spec_l01Next_of_src a0 (IntKind.i64.wrap (a2 + 2))) fun r89=>(loopM (fun s : (Int × (Vec Int 64) × ((List Int) × Int × Int))=>spec_l01Draw_of_src_l1 a1 s.1 s.2.1 s.2.2) (IntKind.i64.wrap (r89.1 - 1),(vrep 64 (0 : Int)),r89.2)))) fun ⟨x84,x85⟩=>(some (x84,x85)))
theorem spec_l01Draw_of_src_ok (a0 : ((List Int) × Int × Int)) (a1 : Int) (a2 : Int) (r : ((Vec Int 64) × ((List Int) × Int × Int))) (h : spec_l01Draw_of_src a0 a1 a2 = some r) : Den Try.prog 155 [(.mutp (eT_Su8_i64_u64_Z a0)),(i6 a1),(i6 a2)] { r:=(eVb r.1),ms:=[(eT_Su8_i64_u64_Z r.2)],fs:=[] }:=by
 refine den_ofX (rs:=[(eVb r.1)]) (ac:=spec_l01Draw_of_src_c) (L:=spec_l01Draw_of_src_L) (n:=29) (m:=[(13,1),(20,1),(25,1)]) (c:=Try.f155.body.getD .skip) good Try.func155 (by kernel_rfl) (by kernel_rfl) Try.ntmps155 rfl rfl (by kernel_rfl) rfl ?_
 refine ns ⟨[(0,ow 1000000),(1,i6 a1),(2,i6 a2)],[(1000000,bk (eT_Su8_i64_u64_Z a0))]⟩ ?_
 unfold spec_l01Draw_of_src_c
 refine sr (vo 1600 (eVb ((vrep 64 (0 : Int)))) rfl rfl (nk ⟨[(0,ow 1000000),(1,i6 a1),(2,i6 a2),(6,ow 6)],[(6,bk (eVb ((vrep 64 (0 : Int))))),(1000000,bk (eT_Su8_i64_u64_Z a0))]⟩ (sr (vq (eVb ((vrep 64 (0 : Int)))) rfl ⟨⟨_,rfl,rfl⟩,all_nil⟩ (vo 1700 (eVb ((vrep 64 (0 : Int)))) rfl rfl (vs (eVb ((vrep 64 (0 : Int)))) rfl rfl (fun _=>rfl) rfl rfl rfl rfl rfl rfl (nk ⟨[(0,ow 1000000),(1,i6 a1),(2,i6 a2),(6,ow 6),(7,ow 7)],[(6,bk (eVb ((vrep 64 (0 : Int))))),(7,bk (eVb ((vrep 64 (0 : Int))))),(1000000,bk (eT_Su8_i64_u64_Z a0))]⟩ ?_)))))))
 obtain ⟨y86,hy87,hk88⟩:=bind_some h
 clear h
 refine a_join (emb:=fun (s : ((Vec Int 64) × ((List Int) × Int × Int)))=>⟨[(6,ow 6),(7,ow 7)],[(6,bk (eVb ((vrep 64 (0 : Int))))),(7,bk (eVb s.1)),(1000000,bk (eT_Su8_i64_u64_Z s.2))]⟩) (pre:=fun s=>s = y86) ?_ ?_
 ·rintro ⟨x84,x85⟩ rfl
  have h:=hk88
  refine ns ⟨[(6,ow 6),(7,ow 7)],[(6,bk (eVb ((vrep 64 (0 : Int))))),(7,bk (eVb x84)),(1000000,bk (eT_Su8_i64_u64_Z x85))]⟩ (sr (vl (eVb x84) rfl rfl rfl rfl rfl rfl (vs (eVb x84) rfl rfl (fun _=>rfl) rfl rfl rfl rfl rfl rfl (nx _ rfl (a_ret ?_)))))
  have hl173 : LdOk [] (eVb x84) [] 64 true (eVb x84):=(.nil rfl rfl rfl)
  refine ⟨.inr rfl,?_⟩
  rw [Try.results155]
  cases h
  exact ⟨[],⟨_,_,_,_,_,ld_own (i:=⟨.arr 64 5,64,64,(eVb (vrep 64 (0 : Int)))⟩) rfl rfl rfl hl173,hl173.c,rfl,.inl ⟨rfl,.inl rfl,⟨rfl,rfl,rfl⟩⟩⟩,rfl,⟨_,_,rfl,rfl,rfl⟩⟩
 ·have h:=hy87
  refine sr (vp (ow 1000000) rfl (vp (i6 a2) rfl (vp (i6 (IntKind.i64.wrap (a2 + 2))) rfl ?_)))
  obtain ⟨r89,hr90,h⟩:=bind_some h
  refine a_callM (args:=[(.mutp (eT_Su8_i64_u64_Z a0)),(i6 (IntKind.i64.wrap (a2 + 2)))]) (i:=0) (id:=1000000) (r:=(i6 r89.1)) (c:=(eT_Su8_i64_u64_Z r89.2)) rfl rfl (spec_l01Next_of_src_ok a0 (IntKind.i64.wrap (a2 + 2)) r89 hr90) rfl trivial (vp (i6 (IntKind.i64.wrap (r89.1 - 1))) rfl (vp (i6 (IntKind.i64.wrap (r89.1 - 1))) rfl (nk ⟨[(0,ow 1000000),(1,i6 a1),(6,ow 6),(7,ow 7),(8,i6 (IntKind.i64.wrap (r89.1 - 1)))],[(6,bk (eVb ((vrep 64 (0 : Int))))),(7,bk (eVb ((vrep 64 (0 : Int))))),(1000000,bk (eT_Su8_i64_u64_Z r89.2))]⟩ (a_block ?_))))
  refine a_loop (emb:=fun (s : (Int × (Vec Int 64) × ((List Int) × Int × Int)))=>⟨[(0,ow 1000000),(1,i6 a1),(6,ow 6),(7,ow 7),(8,i6 s.1)],[(6,bk (eVb ((vrep 64 (0 : Int))))),(7,bk (eVb s.2.1)),(1000000,bk (eT_Su8_i64_u64_Z s.2.2))]⟩) (body:=(fun s : (Int × (Vec Int 64) × ((List Int) × Int × Int))=>spec_l01Draw_of_src_l1 a1 s.1 s.2.1 s.2.2)) (G:=fun q=>some q = some y86) h rfl ?_ (by kernel_rfl)
  rintro X143 ⟨x116,x117,x118⟩ x144 h hX145
  have h : spec_l01Draw_of_src_l1 a1 x116 x117 x118 = some x144:=h
  refine ns ⟨[(0,ow 1000000),(1,i6 a1),(6,ow 6),(7,ow 7),(8,i6 x116)],[(6,bk (eVb ((vrep 64 (0 : Int))))),(7,bk (eVb x117)),(1000000,bk (eT_Su8_i64_u64_Z x118))]⟩ (a_seq (sr (vp (i6 x116) rfl (vp (.bool ((decide (x116 ≥ 0)))) rfl (nk ⟨[(0,ow 1000000),(1,i6 a1),(6,ow 6),(7,ow 7),(8,i6 x116),(16,.bool ((decide (x116 ≥ 0))))],[(6,bk (eVb ((vrep 64 (0 : Int))))),(7,bk (eVb x117)),(1000000,bk (eT_Su8_i64_u64_Z x118))]⟩ ?_)))))
  cases hb146 : (decide (x116 ≥ 0))
  ·have h:=ite_f hb146 h
   refine a_cond_f rfl (a_exit (t_exit ?_))
   cases h
   have h:=hX145
   refine t_exit (b_exit ?_)
   exact j_leaf (x117,x118) (Option.some.inj h) (by kernel_rfl)
  ·have h:=ite_t hb146 h
   refine a_cond_t rfl (a_skip (nj ⟨[(0,ow 1000000),(1,i6 a1),(6,ow 6),(7,ow 7),(8,i6 x116)],[(6,bk (eVb ((vrep 64 (0 : Int))))),(7,bk (eVb x117)),(1000000,bk (eT_Su8_i64_u64_Z x118))]⟩ ?_))
   obtain ⟨y158,hy159,hk160⟩:=bind_some h
   clear h
   refine a_join (emb:=fun (s : ((Vec Int 64) × ((List Int) × Int × Int)))=>⟨[(0,ow 1000000),(1,i6 a1),(6,ow 6),(7,ow 7),(8,i6 x116)],[(6,bk (eVb ((vrep 64 (0 : Int))))),(7,bk (eVb s.1)),(1000000,bk (eT_Su8_i64_u64_Z s.2))]⟩) (pre:=fun s=>s = y158) ?_ ?_
   ·rintro ⟨x156,x157⟩ rfl
    have h:=hk160
    refine ns ⟨[(0,ow 1000000),(1,i6 a1),(6,ow 6),(7,ow 7),(8,i6 x116)],[(6,bk (eVb ((vrep 64 (0 : Int))))),(7,bk (eVb x156)),(1000000,bk (eT_Su8_i64_u64_Z x157))]⟩ (a_region (vp (i6 x116) rfl (vp (i6 (IntKind.i64.wrap (x116 - 1))) rfl (vp (i6 (IntKind.i64.wrap (x116 - 1))) rfl (a_nil ?_)))))
    cases h
    exact a_again (by kernel_rfl) hX145
   ·have h:=hy159
    refine a_block (sr (vp (ow 1000000) rfl ?_))
    obtain ⟨r161,hr162,h⟩:=bind_some h
    refine a_callM (args:=[(.mutp (eT_Su8_i64_u64_Z x118)),(i6 3)]) (i:=0) (id:=1000000) (r:=(i6 r161.1)) (c:=(eT_Su8_i64_u64_Z r161.2)) rfl rfl (spec_l01Next_of_src_ok x118 3 r161 hr162) rfl trivial (vp (.bool ((decide (r161.1 > 0)))) rfl (nk ⟨[(0,ow 1000000),(1,i6 a1),(6,ow 6),(7,ow 7),(8,i6 x116),(21,.bool ((decide (r161.1 > 0))))],[(6,bk (eVb ((vrep 64 (0 : Int))))),(7,bk (eVb x117)),(1000000,bk (eT_Su8_i64_u64_Z r161.2))]⟩ ?_))
    cases hb164 : (decide (r161.1 > 0))
    ·have h:=ite_f hb164 h
     refine a_cond_f rfl (a_skip (b_norm ?_))
     exact j_leaf (x117,r161.2) (Option.some.inj h) (by kernel_rfl)
    ·have h:=ite_t hb164 h
     refine a_cond_t rfl (a_region (vp (i6 x116) rfl (vp (ow 1000000) rfl (vp (i6 a1) rfl ?_))))
     obtain ⟨r165,hr166,h⟩:=bind_some h
     refine a_callM (args:=[(.mutp (eT_Su8_i64_u64_Z r161.2)),(i6 a1)]) (i:=0) (id:=1000000) (r:=(i6 r165.1)) (c:=(eT_Su8_i64_u64_Z r165.2)) rfl rfl (spec_l01Next_of_src_ok r161.2 a1 r165 hr166) rfl trivial (vp (b8 (IntKind.u8.wrap r165.1)) rfl ?_)
     obtain ⟨hc168,h⟩:=ifp_some h
     refine vq (.own 7 [x116.toNat] [x116.toNat * 1]) rfl hc168 ?_
     have hs169 : StOk [x116.toNat] (eVb x117) [x116.toNat * 1] 1 (b8 (IntKind.u8.wrap r165.1)) (eVb ((vset x117 x116.toNat (IntKind.u8.wrap r165.1)))):=(.arr (y:=IntKind.u8.wrap r165.1) (vlt x117 hc168) rfl (.nil rfl rfl rfl rfl))
     refine vu .top [(7,bk (eVb ((vset x117 x116.toNat (IntKind.u8.wrap r165.1)))))] (st_own (i:=⟨.int .u8,1,1,(.int .u8 0)⟩) rfl rfl (fun _=>rfl) rfl hs169) (hs169.c rfl) rfl (a_nil (b_norm ?_))
     exact j_leaf (((vset x117 x116.toNat (IntKind.u8.wrap r165.1)),r165.2)) (Option.some.inj h) (by kernel_rfl)
def spec_l01Bad_of_src_c : ACode:=(.seq (.region 0 [q 5 (.box 25 (t 2)),q 6 (.alloc 25)] false) (.seq (.seq (.region 1 [q 7 (.mov (t 0)),q 8 (.call 1 (.func 123) [(t 7),(.const (.int .i64 40))]),q 9 (.bin .eql 2 (t 8) (.const (.int .i64 0)))] false) (.cond (t 9) (.region 2 [q 10 (.mov (t 0)),q 11 (.call 1 (.func 123) [(t 10),(.const (.int .i64 64))]),q 12 (.mov (t 0)),q 13 (.mov (t 1)),q 14 (.bslice 0 59 4 [(0,t 13),(1,.const (.int .i64 7)),(2,.const (.int .i64 255)),(3,.const (.int .i64 1))]),q 15 (.call 1 (.func 122) [(t 12),(t 14)]),q 16 (.conv 2 5 (t 15)),q 17 (.indexAddr 25 (t 5) (t 11)),⟨none,.store 5 (t 17) (t 16),none,[]⟩] false) .skip)) (.seq (.region 3 [q 18 (.load 25 (t 5)),⟨none,.store 25 (t 6) (t 18),none,[]⟩] false) .ret)))
def spec_l01Bad_of_src_L : Live:=[(0,[0,1,2]),(1,[0,1,5,6]),(2,[0,1,5,6]),(3,[5,6]),(100009,[0,1,5,6,9])]
noncomputable def spec_l01Bad_of_src (a0 : ((List Int) × Int × Int)) (a1 : Int) (a2 : (Vec Int 64)) : Option ((Vec Int 64) × ((List Int) × Int × Int)) :=
 (Option.bind (α:=((Vec Int 64) × ((List Int) × Int × Int))) ((Option.bind (spec_l01Next_of_src a0 40) fun r18=>(if (r18.1 == 0) then (Option.bind (spec_l01Next_of_src r18.2 64) fun r22=>(Option.bind (spec_l01Pick_of_src r22.2 ([a1,7,255,1])) fun r25=>(ifp (0 ≤ r22.1 ∧ r22.1 < ((64 : Nat) : Int)) ((some (((vset a2 r22.1.toNat (IntKind.u8.wrap r25.1)),r25.2))))))) else (some (a2,r18.2))))) fun ⟨x13,x14⟩=>(some (x13,x14)))
theorem spec_l01Bad_of_src_ok (a0 : ((List Int) × Int × Int)) (a1 : Int) (a2 : (Vec Int 64)) (r : ((Vec Int 64) × ((List Int) × Int × Int))) (h : spec_l01Bad_of_src a0 a1 a2 = some r) : Den Try.prog 177 [(.mutp (eT_Su8_i64_u64_Z a0)),(i6 a1),(eVb a2)] { r:=(eVb r.1),ms:=[(eT_Su8_i64_u64_Z r.2)],fs:=[] }:=by
 refine den_ofX (rs:=[(eVb r.1)]) (ac:=spec_l01Bad_of_src_c) (L:=spec_l01Bad_of_src_L) (n:=19) (m:=[(8,1),(11,1),(15,1)]) (c:=Try.f177.body.getD .skip) good Try.func177 (by kernel_rfl) (by kernel_rfl) Try.ntmps177 rfl rfl (by kernel_rfl) rfl ?_
 refine ns ⟨[(0,ow 1000000),(1,i6 a1),(2,eVb a2)],[(1000000,bk (eT_Su8_i64_u64_Z a0))]⟩ ?_
 unfold spec_l01Bad_of_src_c
 refine sr (vo 1500 (eVb a2) rfl rfl (vo 1600 (eVb ((vrep 64 (0 : Int)))) rfl rfl (nk ⟨[(0,ow 1000000),(1,i6 a1),(5,ow 5),(6,ow 6)],[(5,bk (eVb a2)),(6,bk (eVb ((vrep 64 (0 : Int))))),(1000000,bk (eT_Su8_i64_u64_Z a0))]⟩ ?_)))
 obtain ⟨y15,hy16,hk17⟩:=bind_some h
 clear h
 refine a_join (emb:=fun (s : ((Vec Int 64) × ((List Int) × Int × Int)))=>⟨[(5,ow 5),(6,ow 6)],[(5,bk (eVb s.1)),(6,bk (eVb ((vrep 64 (0 : Int))))),(1000000,bk (eT_Su8_i64_u64_Z s.2))]⟩) (pre:=fun s=>s = y15) ?_ ?_
 ·rintro ⟨x13,x14⟩ rfl
  have h:=hk17
  refine ns ⟨[(5,ow 5),(6,ow 6)],[(5,bk (eVb x13)),(6,bk (eVb ((vrep 64 (0 : Int))))),(1000000,bk (eT_Su8_i64_u64_Z x14))]⟩ (sr (vl (eVb x13) rfl rfl rfl rfl rfl rfl (vs (eVb x13) rfl rfl (fun _=>rfl) rfl rfl rfl rfl rfl rfl (nx _ rfl (a_ret ?_)))))
  have hl32 : LdOk [] (eVb x13) [] 64 true (eVb x13):=(.nil rfl rfl rfl)
  refine ⟨.inr rfl,?_⟩
  rw [Try.results177]
  cases h
  exact ⟨[],⟨_,_,_,_,_,ld_own (i:=⟨.arr 64 5,64,64,(eVb (vrep 64 (0 : Int)))⟩) rfl rfl rfl hl32,hl32.c,rfl,.inl ⟨rfl,.inl rfl,⟨rfl,rfl,rfl⟩⟩⟩,rfl,⟨_,_,rfl,rfl,rfl⟩⟩
 ·have h:=hy16
  refine sr (vp (ow 1000000) rfl ?_)
  obtain ⟨r18,hr19,h⟩:=bind_some h
  refine a_callM (args:=[(.mutp (eT_Su8_i64_u64_Z a0)),(i6 40)]) (i:=0) (id:=1000000) (r:=(i6 r18.1)) (c:=(eT_Su8_i64_u64_Z r18.2)) rfl rfl (spec_l01Next_of_src_ok a0 40 r18 hr19) rfl trivial (vp (.bool (r18.1 == 0)) rfl (nk ⟨[(0,ow 1000000),(1,i6 a1),(5,ow 5),(6,ow 6),(9,.bool (r18.1 == 0))],[(5,bk (eVb a2)),(6,bk (eVb ((vrep 64 (0 : Int))))),(1000000,bk (eT_Su8_i64_u64_Z r18.2))]⟩ ?_))
  cases hb21 : (r18.1 == 0)
  ·have h:=ite_f hb21 h
   refine a_cond_f rfl (a_skip ?_)
   exact j_leaf (a2,r18.2) (Option.some.inj h) (by kernel_rfl)
  ·have h:=ite_t hb21 h
   refine a_cond_t rfl (a_region (vp (ow 1000000) rfl ?_))
   obtain ⟨r22,hr23,h⟩:=bind_some h
   refine a_callM (args:=[(.mutp (eT_Su8_i64_u64_Z r18.2)),(i6 64)]) (i:=0) (id:=1000000) (r:=(i6 r22.1)) (c:=(eT_Su8_i64_u64_Z r22.2)) rfl rfl (spec_l01Next_of_src_ok r18.2 64 r22 hr23) rfl trivial (vp (ow 1000000) rfl (vp (i6 a1) rfl (vq (.sl 1 true (([a1,7,255,1]).map (AV.int .i64))) rfl ⟨(Nat.le_of_ble_eq_true rfl),(Nat.le_of_ble_eq_true rfl),(all_cons ⟨(Nat.le_of_ble_eq_true rfl),rfl⟩ (all_cons ⟨(Nat.le_of_ble_eq_true rfl),rfl⟩ (all_cons ⟨(Nat.le_of_ble_eq_true rfl),rfl⟩ (all_cons ⟨(Nat.le_of_ble_eq_true rfl),rfl⟩ all_nil))))⟩ ?_)))
   obtain ⟨r25,hr26,h⟩:=bind_some h
   refine a_callM (args:=[(.mutp (eT_Su8_i64_u64_Z r22.2)),(.sl 1 true (([a1,7,255,1]).map (AV.int .i64)))]) (i:=0) (id:=1000000) (r:=(i6 r25.1)) (c:=(eT_Su8_i64_u64_Z r25.2)) rfl rfl (Den.argsM (spec_l01Pick_of_src_ok r22.2 ([a1,7,255,1]) r25 hr26) rfl rfl (.cons (.loose _) .nil)) rfl trivial (vp (b8 (IntKind.u8.wrap r25.1)) rfl ?_)
   obtain ⟨hc28,h⟩:=ifp_some h
   refine vq (.own 5 [r22.1.toNat] [r22.1.toNat * 1]) rfl hc28 ?_
   have hs29 : StOk [r22.1.toNat] (eVb a2) [r22.1.toNat * 1] 1 (b8 (IntKind.u8.wrap r25.1)) (eVb ((vset a2 r22.1.toNat (IntKind.u8.wrap r25.1)))):=(.arr (y:=IntKind.u8.wrap r25.1) (vlt a2 hc28) rfl (.nil rfl rfl rfl rfl))
   refine vu .top [(5,bk (eVb ((vset a2 r22.1.toNat (IntKind.u8.wrap r25.1)))))] (st_own (i:=⟨.int .u8,1,1,(.int .u8 0)⟩) rfl rfl (fun _=>rfl) rfl hs29) (hs29.c rfl) rfl (a_nil ?_)
   exact j_leaf (((vset a2 r22.1.toNat (IntKind.u8.wrap r25.1)),r25.2)) (Option.some.inj h) (by kernel_rfl)
def spec_l01Spoil_of_src_c : ACode:=(.seq (.region 0 [q 2 (.asg 0 (.const (.int .i64 0)) 2),q 3 (.alloc 25)] false) (.seq (.region 1 [q 6 (.mov (t 0)),q 7 (.call 1 (.func 188) [(t 6)]),q 4 (.asg 0 (t 7) 2)] false) (.seq (.region 2 [q 8 (.mov (t 0)),q 9 (.mov (t 4)),q 10 (.mov (t 0)),q 11 (.bslice 0 59 4 [(0,.const (.int .i64 3)),(1,.const (.int .i64 6)),(2,.const (.int .i64 9)),(3,.const (.int .i64 63))]),q 12 (.call 1 (.func 122) [(t 10),(t 11)]),q 13 (.call 1 (.func 155) [(t 8),(t 9),(t 12)]),q 5 (.alloc 25),⟨none,.store 25 (t 5) (t 13),none,[]⟩] false) (.seq (.seq (.region 3 [q 14 (.mov (t 0)),q 15 (.call 1 (.func 123) [(t 14),(.const (.int .i64 40))]),q 16 (.bin .eql 2 (t 15) (.const (.int .i64 0)))] false) (.cond (t 16) (.region 4 [q 17 (.mov (t 0)),q 18 (.bslice 0 59 5 [(0,.const (.int .i64 0)),(1,.const (.int .i64 1)),(2,.const (.int .i64 4)),(3,.const (.int .i64 11)),(4,.const (.int .i64 (-3)))]),q 19 (.call 1 (.func 122) [(t 17),(t 18)]),q 4 (.asg 0 (t 19) 2)] false) .skip)) (.seq (.region 5 [q 20 (.mov (t 4)),q 21 (.mov (t 0)),q 22 (.mov (t 4)),q 23 (.blt 0 .max [(t 22),(.const (.int .i64 1))] [2,2]),q 24 (.load 25 (t 5)),q 25 (.call 1 (.func 177) [(t 21),(t 23),(t 24)]),q 2 (.asg 0 (t 20) 2),⟨none,.store 25 (t 3) (t 25),none,[]⟩] false) .ret)))))
def spec_l01Spoil_of_src_L : Live:=[(0,[0]),(1,[0,3]),(2,[0,3,4]),(3,[0,3,4,5]),(4,[0,3,5]),(5,[0,3,4,5]),(100016,[0,3,4,5,16])]
noncomputable def spec_l01Spoil_of_src (a0 : ((List Int) × Int × Int)) : Option (Int × (Vec Int 64) × ((List Int) × Int × Int)) :=
 (Option.bind (spec_l01DrawPrime_of_src a0) fun r1=>(Option.bind (spec_l01Pick_of_src r1.2 ([3,6,9,63])) fun r4=>(Option.bind (spec_l01Draw_of_src r4.2 r1.1 r4.1) fun r7=>(Option.bind (α:=(Int × ((List Int) × Int × Int))) ((Option.bind (spec_l01Next_of_src r7.2 40) fun r23=>(if (r23.1 == 0) then (Option.bind (spec_l01Pick_of_src r23.2 ([0,1,4,11,-3])) fun r27=>(some (r27.1,r27.2))) else (some (r1.1,r23.2))))) fun ⟨x18,x19⟩=>(Option.bind (spec_l01Bad_of_src x19 (if 1 > x18 then 1 else x18) r7.1) fun r31=>(some (x18,r31.1,r31.2)))))))
theorem spec_l01Spoil_of_src_ok (a0 : ((List Int) × Int × Int)) (r : (Int × (Vec Int 64) × ((List Int) × Int × Int))) (h : spec_l01Spoil_of_src a0 = some r) : Den Try.prog 115 [(.mutp (eT_Su8_i64_u64_Z a0))] { r:=(.tuple [(i6 r.1),(eVb r.2.1)]),ms:=[(eT_Su8_i64_u64_Z r.2.2)],fs:=[] }:=by
 refine den_ofX (rs:=[(i6 r.1),(eVb r.2.1)]) (ac:=spec_l01Spoil_of_src_c) (L:=spec_l01Spoil_of_src_L) (n:=26) (m:=[(7,1),(12,1),(13,1),(15,1),(19,1),(25,1)]) (c:=Try.f115.body.getD .skip) good Try.func115 (by kernel_rfl) (by kernel_rfl) Try.ntmps115 rfl rfl (by kernel_rfl) rfl ?_
 refine ns ⟨[(0,ow 1000000)],[(1000000,bk (eT_Su8_i64_u64_Z a0))]⟩ ?_
 unfold spec_l01Spoil_of_src_c
 refine sr (vp (i6 0) rfl (vo 1300 (eVb ((vrep 64 (0 : Int)))) rfl rfl (nk ⟨[(0,ow 1000000),(3,ow 3)],[(3,bk (eVb ((vrep 64 (0 : Int))))),(1000000,bk (eT_Su8_i64_u64_Z a0))]⟩ (sr (vp (ow 1000000) rfl ?_)))))
 obtain ⟨r1,hr2,h⟩:=bind_some h
 refine a_callM (args:=[(.mutp (eT_Su8_i64_u64_Z a0))]) (i:=0) (id:=1000000) (r:=(i6 r1.1)) (c:=(eT_Su8_i64_u64_Z r1.2)) rfl rfl (spec_l01DrawPrime_of_src_ok a0 r1 hr2) rfl trivial (vp (i6 r1.1) rfl (nk ⟨[(0,ow 1000000),(3,ow 3),(4,i6 r1.1)],[(3,bk (eVb ((vrep 64 (0 : Int))))),(1000000,bk (eT_Su8_i64_u64_Z r1.2))]⟩ (sr (vp (ow 1000000) rfl (vp (i6 r1.1) rfl (vp (ow 1000000) rfl (vq (.sl 1 true (([3,6,9,63]).map (AV.int .i64))) rfl ⟨(Nat.le_of_ble_eq_true rfl),(Nat.le_of_ble_eq_true rfl),(all_cons ⟨(Nat.le_of_ble_eq_true rfl),rfl⟩ (all_cons ⟨(Nat.le_of_ble_eq_true rfl),rfl⟩ (all_cons ⟨(Nat.le_of_ble_eq_true rfl),rfl⟩ (all_cons ⟨(Nat.le_of_ble_eq_true rfl),rfl⟩ all_nil))))⟩ ?_)))))))
 obtain ⟨r4,hr5,h⟩:=bind_some h
 refine a_callM (args:=[(.mutp (eT_Su8_i64_u64_Z r1.2)),(.sl 1 true (([3,6,9,63]).map (AV.int .i64)))]) (i:=0) (id:=1000000) (r:=(i6 r4.1)) (c:=(eT_Su8_i64_u64_Z r4.2)) rfl rfl (Den.argsM (spec_l01Pick_of_src_ok r1.2 ([3,6,9,63]) r4 hr5) rfl rfl (.cons (.loose _) .nil)) rfl trivial ?_
 obtain ⟨r7,hr8,h⟩:=bind_some h
 refine a_callM (args:=[(.mutp (eT_Su8_i64_u64_Z r4.2)),(i6 r1.1),(i6 r4.1)]) (i:=0) (id:=1000000) (r:=(eVb r7.1)) (c:=(eT_Su8_i64_u64_Z r7.2)) rfl rfl (spec_l01Draw_of_src_ok r4.2 r1.1 r4.1 r7 hr8) rfl trivial (vo 1500 (eVb ((vrep 64 (0 : Int)))) rfl rfl (vs (eVb r7.1) rfl rfl (fun _=>rfl) rfl rfl rfl rfl rfl rfl (nk ⟨[(0,ow 1000000),(3,ow 3),(4,i6 r1.1),(5,ow 5)],[(3,bk (eVb ((vrep 64 (0 : Int))))),(5,bk (eVb r7.1)),(1000000,bk (eT_Su8_i64_u64_Z r7.2))]⟩ ?_)))
 obtain ⟨y20,hy21,hk22⟩:=bind_some h
 clear h
 refine a_join (emb:=fun (s : (Int × ((List Int) × Int × Int)))=>⟨[(0,ow 1000000),(3,ow 3),(4,i6 s.1),(5,ow 5)],[(3,bk (eVb ((vrep 64 (0 : Int))))),(5,bk (eVb r7.1)),(1000000,bk (eT_Su8_i64_u64_Z s.2))]⟩) (pre:=fun s=>s = y20) ?_ ?_
 ·rintro ⟨x18,x19⟩ rfl
  have h:=hk22
  refine ns ⟨[(0,ow 1000000),(3,ow 3),(4,i6 x18),(5,ow 5)],[(3,bk (eVb ((vrep 64 (0 : Int))))),(5,bk (eVb r7.1)),(1000000,bk (eT_Su8_i64_u64_Z x19))]⟩ (sr (vp (i6 x18) rfl (vp (ow 1000000) rfl (vp (i6 x18) rfl (vp (i6 (if 1 > x18 then 1 else x18)) rfl (vl (eVb r7.1) rfl rfl rfl rfl rfl rfl ?_))))))
  obtain ⟨r31,hr32,h⟩:=bind_some h
  refine a_callM (args:=[(.mutp (eT_Su8_i64_u64_Z x19)),(i6 (if 1 > x18 then 1 else x18)),(eVb r7.1)]) (i:=0) (id:=1000000) (r:=(eVb r31.1)) (c:=(eT_Su8_i64_u64_Z r31.2)) rfl rfl (spec_l01Bad_of_src_ok x19 (if 1 > x18 then 1 else x18) r7.1 r31 hr32) rfl trivial (vp (i6 x18) rfl (vs (eVb r31.1) rfl rfl (fun _=>rfl) rfl rfl rfl rfl rfl rfl (nx _ rfl (a_ret ?_))))
  have hl35 : LdOk [] (eVb r31.1) [] 64 true (eVb r31.1):=(.nil rfl rfl rfl)
  refine ⟨.inr rfl,?_⟩
  rw [Try.results115]
  cases h
  exact ⟨[],⟨_,_,_,_,_,rfl,trivial,rfl,.inl ⟨rfl,.inl rfl,⟨_,_,_,_,_,ld_own (i:=⟨.arr 64 5,64,64,(eVb (vrep 64 (0 : Int)))⟩) rfl rfl rfl hl35,hl35.c,rfl,.inl ⟨rfl,.inl rfl,⟨rfl,rfl,rfl⟩⟩⟩⟩⟩,rfl,⟨_,_,rfl,rfl,rfl⟩⟩
 ·have h:=hy21
  refine sr (vp (ow 1000000) rfl ?_)
  obtain ⟨r23,hr24,h⟩:=bind_some h
  refine a_callM (args:=[(.mutp (eT_Su8_i64_u64_Z r7.2)),(i6 40)]) (i:=0) (id:=1000000) (r:=(i6 r23.1)) (c:=(eT_Su8_i64_u64_Z r23.2)) rfl rfl (spec_l01Next_of_src_ok r7.2 40 r23 hr24) rfl trivial (vp (.bool (r23.1 == 0)) rfl (nk ⟨[(0,ow 1000000),(3,ow 3),(4,i6 r1.1),(5,ow 5),(16,.bool (r23.1 == 0))],[(3,bk (eVb ((vrep 64 (0 : Int))))),(5,bk (eVb r7.1)),(1000000,bk (eT_Su8_i64_u64_Z r23.2))]⟩ ?_))
  cases hb26 : (r23.1 == 0)
  ·have h:=ite_f hb26 h
   refine a_cond_f rfl (a_skip ?_)
   exact j_leaf (r1.1,r23.2) (Option.some.inj h) (by kernel_rfl)
  ·have h:=ite_t hb26 h
   refine a_cond_t rfl (a_region (vp (ow 1000000) rfl (vq (.sl 1 true (([0,1,4,11,-3]).map (AV.int .i64))) rfl ⟨(Nat.le_of_ble_eq_true rfl),(Nat.le_of_ble_eq_true rfl),(all_cons ⟨(Nat.le_of_ble_eq_true rfl),rfl⟩ (all_cons ⟨(Nat.le_of_ble_eq_true rfl),rfl⟩ (all_cons ⟨(Nat.le_of_ble_eq_true rfl),rfl⟩ (all_cons ⟨(Nat.le_of_ble_eq_true rfl),rfl⟩ (all_cons ⟨(Nat.le_of_ble_eq_true rfl),rfl⟩ all_nil)))))⟩ ?_)))
   obtain ⟨r27,hr28,h⟩:=bind_some h
   refine a_callM (args:=[(.mutp (eT_Su8_i64_u64_Z r23.2)),(.sl 1 true (([0,1,4,11,-3]).map (AV.int .i64)))]) (i:=0) (id:=1000000) (r:=(i6 r27.1)) (c:=(eT_Su8_i64_u64_Z r27.2)) rfl rfl (Den.argsM (spec_l01Pick_of_src_ok r23.2 ([0,1,4,11,-3]) r27 hr28) rfl rfl (.cons (.loose _) .nil)) rfl trivial (vp (i6 r27.1) rfl (a_nil ?_))
   exact j_leaf (r27.1,r27.2) (Option.some.inj h) (by kernel_rfl)
def spec_l01Prime_c : ACode:=(.seq (.region 0 [q 2 (.asg 0 (.const (.bool false)) 4)] false) (.seq (.region 1 [q 3 (.mov (t 0)),q 4 (.bin .eql 2 (t 3) (.const (.int .i64 2))),q 5 (.mov (t 4)),⟨some 6,.mov (t 0),some (5,false),[]⟩,⟨some 7,.bin .eql 2 (t 6) (.const (.int .i64 3)),some (5,false),[]⟩,q 8 (.pick (t 5) (.const (.bool true)) (t 7)),q 9 (.mov (t 8)),⟨some 10,.mov (t 0),some (9,false),[]⟩,⟨some 11,.bin .eql 2 (t 10) (.const (.int .i64 5)),some (9,false),[]⟩,q 12 (.pick (t 9) (.const (.bool true)) (t 11)),q 13 (.mov (t 12)),⟨some 14,.mov (t 0),some (13,false),[]⟩,⟨some 15,.bin .eql 2 (t 14) (.const (.int .i64 7)),some (13,false),[]⟩,q 16 (.pick (t 13) (.const (.bool true)) (t 15)),q 2 (.asg 0 (t 16) 4)] false) .ret))
def spec_l01Prime_L : Live:=[(0,[0]),(1,[0])]
noncomputable def spec_l01Prime (a0 : Int) : Option Bool :=
 (if (a0 == 2) then (some true) else (if (a0 == 3) then (some true) else (if (a0 == 5) then (some true) else (some (a0 == 7)))))
theorem spec_l01Prime_ok (a0 : Int) (r : Bool) (h : spec_l01Prime a0 = some r) : Den Try.prog 168 [(i6 a0)] { r:=(.bool r) }:=by
 refine den_of (rs:=[(.bool r)]) (ac:=spec_l01Prime_c) (L:=spec_l01Prime_L) (n:=17) (m:=[]) (c:=Try.f168.body.getD .skip) good Try.func168 (by kernel_rfl) (by kernel_rfl) Try.ntmps168 rfl rfl (by kernel_rfl) rfl rfl ?_
 refine ns ⟨[(0,i6 a0)],[]⟩ ?_
 unfold spec_l01Prime_c
 refine sr (vp (.bool false) rfl (nk ⟨[(0,i6 a0)],[]⟩ (sr (vp (i6 a0) rfl (vp (.bool (a0 == 2)) rfl (vp (.bool (a0 == 2)) rfl ?_))))))
 cases hb1 : (a0 == 2)
 ·have h:=ite_f hb1 h
  refine gp (i6 a0) rfl rfl (gp (.bool (a0 == 3)) rfl rfl (vp (.bool (a0 == 3)) rfl (vp (.bool (a0 == 3)) rfl ?_)))
  cases hb2 : (a0 == 3)
  ·have h:=ite_f hb2 h
   refine gp (i6 a0) rfl rfl (gp (.bool (a0 == 5)) rfl rfl (vp (.bool (a0 == 5)) rfl (vp (.bool (a0 == 5)) rfl ?_)))
   cases hb3 : (a0 == 5)
   ·have h:=ite_f hb3 h
    refine gp (i6 a0) rfl rfl (gp (.bool (a0 == 7)) rfl rfl (vp (.bool (a0 == 7)) rfl (vp (.bool (a0 == 7)) rfl (nx _ rfl (a_ret ?_)))))
    refine ⟨.inr rfl,?_⟩
    rw [Try.results168]
    cases h
    exact ⟨_,_,_,_,_,rfl,trivial,.inl ⟨rfl,.inl rfl⟩,rfl,rfl⟩
   ·have h:=ite_t hb3 h
    refine a_gskip rfl (a_gskip rfl (vp (.bool true) rfl (vp (.bool true) rfl (nx _ rfl (a_ret ?_)))))
    refine ⟨.inr rfl,?_⟩
    rw [Try.results168]
    cases h
    exact ⟨_,_,_,_,_,rfl,trivial,.inl ⟨rfl,.inl rfl⟩,rfl,rfl⟩
  ·have h:=ite_t hb2 h
   refine a_gskip rfl (a_gskip rfl (vp (.bool true) rfl (vp (.bool true) rfl (a_gskip rfl (a_gskip rfl (vp (.bool true) rfl (vp (.bool true) rfl (nx _ rfl (a_ret ?_)))))))))
   refine ⟨.inr rfl,?_⟩
   rw [Try.results168]
   cases h
   exact ⟨_,_,_,_,_,rfl,trivial,.inl ⟨rfl,.inl rfl⟩,rfl,rfl⟩
 ·have h:=ite_t hb1 h
  refine a_gskip rfl (a_gskip rfl (vp (.bool true) rfl (vp (.bool true) rfl (a_gskip rfl (a_gskip rfl (vp (.bool true) rfl (vp (.bool true) rfl (a_gskip rfl (a_gskip rfl ?_)))))))))
  refine vp (.bool true) rfl (vp (.bool true) rfl (nx _ rfl (a_ret ?_)))
  refine ⟨.inr rfl,?_⟩
  rw [Try.results168]
  cases h
  exact ⟨_,_,_,_,_,rfl,trivial,.inl ⟨rfl,.inl rfl⟩,rfl,rfl⟩
def spec_l01Deg_c : ACode:=(.seq (.region 0 [q 1 (.box 25 (t 0)),q 2 (.asg 0 (.const (.int .i64 0)) 2)] false) (.seq (.region 1 [q 3 (.asg 0 (.const (.int .i64 63)) 2)] false) (.seq (.block 0 (.loop (.seq (.seq (.region 2 [q 4 (.mov (t 3)),q 5 (.bin .geq 2 (t 4) (.const (.int .i64 0))),q 6 (.mov (t 5)),⟨some 7,.mov (t 3),some (6,true),[]⟩,⟨some 8,.indexAddr 25 (t 1) (t 7),some (6,true),[]⟩,⟨some 9,.load 5 (t 8),some (6,true),[]⟩,⟨some 10,.bin .eql 5 (t 9) (.const (.int .u8 0)),some (6,true),[]⟩,q 11 (.pick (t 6) (t 10) (.const (.bool false)))] false) (.cond (t 11) .skip (.exit 0))) (.block 1 (.region 3 [q 12 (.mov (t 3)),q 13 (.bin .sub 2 (t 12) (.const (.int .i64 1))),q 3 (.asg 0 (t 13) 2)] false))))) (.seq (.region 4 [q 14 (.mov (t 3)),q 2 (.asg 0 (t 14) 2)] false) .ret))))
def spec_l01Deg_L : Live:=[(0,[0]),(1,[1]),(2,[1,3]),(3,[1,3]),(4,[3]),(100011,[1,3,11])]
noncomputable def spec_l01Deg_l1 (a0 : (Vec Int 64)) (x54 : Int) : Option (Int ⊕ Int) :=
 (Option.bind (α:=Bool) ((if (decide (x54 ≥ 0)) then (ifp (0 ≤ x54 ∧ x54 < ((64 : Nat) : Int)) ((some (((rd a0.1 x54.toNat) == 0))))) else (some false))) fun x72=>(if x72 then (some (.inl (IntKind.i64.wrap (x54 - 1)))) else (some (.inr x54))))
noncomputable def spec_l01Deg (a0 : (Vec Int 64)) : Option Int :=
 (Option.bind (α:=Int) ((loopM (fun s : Int=>spec_l01Deg_l1 a0 s) 63)) fun x39=>(some x39))
theorem spec_l01Deg_ok (a0 : (Vec Int 64)) (r : Int) (h : spec_l01Deg a0 = some r) : Den Try.prog 112 [(eVb a0)] { r:=(i6 r) }:=by
 refine den_of (rs:=[(i6 r)]) (ac:=spec_l01Deg_c) (L:=spec_l01Deg_L) (n:=15) (m:=[]) (c:=Try.f112.body.getD .skip) good Try.func112 (by kernel_rfl) (by kernel_rfl) Try.ntmps112 rfl rfl (by kernel_rfl) rfl rfl ?_
 refine ns ⟨[(0,eVb a0)],[]⟩ ?_
 unfold spec_l01Deg_c
 refine sr (vo 1100 (eVb a0) rfl rfl (vp (i6 0) rfl (nk ⟨[(1,ow 1)],[(1,bk (eVb a0))]⟩ (sr (vp (i6 63) rfl (nk ⟨[(1,ow 1),(3,i6 63)],[(1,bk (eVb a0))]⟩ ?_))))))
 obtain ⟨y40,hy41,hk42⟩:=bind_some h
 clear h
 refine a_join (emb:=fun (s : Int)=>⟨[(3,i6 s)],[]⟩) (pre:=fun s=>s = y40) ?_ ?_
 ·rintro x39 rfl
  have h:=hk42
  refine ns ⟨[(3,i6 x39)],[]⟩ (sr (vp (i6 x39) rfl (vp (i6 x39) rfl (nx _ rfl (a_ret ?_)))))
  refine ⟨.inr rfl,?_⟩
  rw [Try.results112]
  cases h
  exact ⟨_,_,_,_,_,rfl,trivial,.inl ⟨rfl,.inl rfl⟩,rfl,rfl⟩
 ·have h:=hy41
  refine a_block ?_
  refine a_loop (emb:=fun (s : Int)=>⟨[(1,ow 1),(3,i6 s)],[(1,bk (eVb a0))]⟩) (body:=(fun s : Int=>spec_l01Deg_l1 a0 s)) (G:=fun q=>some q = some y40) h rfl ?_ (by kernel_rfl)
  rintro X66 x54 x67 h hX68
  have h : spec_l01Deg_l1 a0 x54 = some x67:=h
  refine ns ⟨[(1,ow 1),(3,i6 x54)],[(1,bk (eVb a0))]⟩ (a_seq ?_)
  obtain ⟨y73,hy74,hk75⟩:=bind_some h
  clear h
  refine a_join (emb:=fun (s : Bool)=>⟨[(1,ow 1),(3,i6 x54),(11,.bool s)],[(1,bk (eVb a0))]⟩) (pre:=fun s=>s = y73) ?_ ?_
  ·rintro x72 rfl
   have h:=hk75
   refine ns ⟨[(1,ow 1),(3,i6 x54),(11,.bool x72)],[(1,bk (eVb a0))]⟩ ?_
   cases hb79 : x72
   ·have h:=ite_f hb79 h
    refine a_cond_f rfl (a_exit (t_exit ?_))
    cases h
    have h:=hX68
    refine t_exit (b_exit ?_)
    exact j_leaf x54 (Option.some.inj h) (by kernel_rfl)
   ·have h:=ite_t hb79 h
    refine a_cond_t rfl (a_skip (nj ⟨[(1,ow 1),(3,i6 x54)],[(1,bk (eVb a0))]⟩ (a_block (a_region (vp (i6 x54) rfl (vp (i6 (IntKind.i64.wrap (x54 - 1))) rfl (vp (i6 (IntKind.i64.wrap (x54 - 1))) rfl (a_nil (b_norm ?_)))))))))
    cases h
    exact a_again (by kernel_rfl) hX68
  ·have h:=hy74
   refine a_region (vp (i6 x54) rfl (vp (.bool ((decide (x54 ≥ 0)))) rfl (vp (.bool ((decide (x54 ≥ 0)))) rfl ?_)))
   cases hb76 : (decide (x54 ≥ 0))
   ·have h:=ite_f hb76 h
    refine a_gskip rfl (a_gskip rfl (a_gskip rfl (a_gskip rfl (vp (.bool false) rfl (a_nil ?_)))))
    exact j_leaf false (Option.some.inj h) (by kernel_rfl)
   ·have h:=ite_t hb76 h
    refine gp (i6 x54) rfl rfl ?_
    obtain ⟨hc77,h⟩:=ifp_some h
    refine gq (.own 1 [x54.toNat] [x54.toNat * 1]) rfl rfl hc77 ?_
    have hl78 : LdOk [x54.toNat] (eVb a0) [x54.toNat * 1] 1 false (b8 (rd a0.1 x54.toNat)):=(.arr (vlt a0 hc77) rfl (.nil rfl rfl rfl))
    refine gq (b8 (rd a0.1 x54.toNat)) rfl (ld_own (i:=⟨.int .u8,1,1,(.int .u8 0)⟩) rfl rfl rfl hl78) hl78.c (gp (.bool (((rd a0.1 x54.toNat) == 0))) rfl rfl (vp (.bool (((rd a0.1 x54.toNat) == 0))) rfl (a_nil ?_)))
    exact j_leaf (((rd a0.1 x54.toNat) == 0)) (Option.some.inj h) (by kernel_rfl)
def spec_l01Times_c : ACode:=(.seq (.region 0 [q 4 (.box 25 (t 1)),q 5 (.box 25 (t 2)),q 6 (.alloc 25),q 7 (.asg 0 (.const (.bool false)) 4)] false) (.seq (.region 1 [q 13 (.load 25 (t 4)),⟨some 14,.call 0 (.func 112) [(t 13)],none,[0]⟩,q 15 (.load 25 (t 5)),⟨some 16,.call 0 (.func 112) [(t 15)],none,[2,1]⟩,q 17 (.build 25 []),q 10 (.alloc 25),⟨some 8,.asg 0 (t 14) 2,none,[1,3,0,1,5]⟩,⟨some 9,.asg 0 (t 16) 2,none,[3,6,0,1,2,3,5,6]⟩,⟨none,.store 25 (t 10) (t 17),none,[5,4,7,0,1,2,3,4,5,6,7]⟩] true) (.seq (.seq (.region 2 [q 18 (.mov (t 8)),q 19 (.bin .lss 2 (t 18) (.const (.int .i64 0))),q 20 (.mov (t 19)),⟨some 21,.mov (t 9),some (20,false),[]⟩,⟨some 22,.bin .lss 2 (t 21) (.const (.int .i64 0)),some (20,false),[]⟩,q 23 (.pick (t 20) (.const (.bool true)) (t 22))] false) (.cond (t 23) (.seq (.region 3 [q 24 (.load 25 (t 10)),⟨none,.store 25 (t 6) (t 24),none,[]⟩,q 7 (.asg 0 (.const (.bool true)) 4)] false) .ret) .skip)) (.seq (.seq (.region 4 [q 25 (.mov (t 8)),q 26 (.mov (t 9)),q 27 (.bin .add 2 (t 25) (t 26)),q 28 (.bin .gtr 2 (t 27) (.const (.int .i64 63)))] false) (.cond (t 28) (.seq (.region 5 [q 29 (.load 25 (t 10)),⟨none,.store 25 (t 6) (t 29),none,[]⟩,q 7 (.asg 0 (.const (.bool false)) 4)] false) .ret) .skip)) (.seq (.seq (.region 6 [q 11 (.asg 0 (.const (.int .i64 0)) 2)] false) (.block 0 (.loop (.seq (.seq (.region 7 [q 30 (.mov (t 11)),q 31 (.mov (t 8)),q 32 (.bin .leq 2 (t 30) (t 31))] false) (.cond (t 32) .skip (.exit 0))) (.seq (.block 1 (.seq (.region 9 [q 12 (.asg 0 (.const (.int .i64 0)) 2)] false) (.block 2 (.loop (.seq (.seq (.region 10 [q 35 (.mov (t 12)),q 36 (.mov (t 9)),q 37 (.bin .leq 2 (t 35) (t 36)),q 38 (.mov (t 37)),⟨some 39,.mov (t 11),some (38,true),[]⟩,⟨some 40,.indexAddr 25 (t 4) (t 39),some (38,true),[]⟩,⟨some 41,.load 5 (t 40),some (38,true),[]⟩,⟨some 42,.bin .neq 5 (t 41) (.const (.int .u8 0)),some (38,true),[]⟩,q 43 (.pick (t 38) (t 42) (.const (.bool false)))] false) (.cond (t 43) .skip (.exit 2))) (.seq (.block 3 (.region 12 [q 46 (.mov (t 11)),q 47 (.mov (t 12)),⟨some 48,.bin .add 2 (t 46) (t 47),none,[0,1]⟩,q 49 (.mov (t 11)),q 50 (.mov (t 12)),⟨some 51,.bin .add 2 (t 49) (t 50),none,[3,4]⟩,⟨some 52,.indexAddr 25 (t 10) (t 51),none,[5]⟩,⟨some 53,.load 5 (t 52),none,[6]⟩,⟨some 54,.conv 5 2 (t 53),none,[7]⟩,q 55 (.mov (t 11)),⟨some 56,.indexAddr 25 (t 4) (t 55),none,[9]⟩,⟨some 57,.load 5 (t 56),none,[10]⟩,⟨some 58,.conv 5 2 (t 57),none,[11]⟩,q 59 (.mov (t 12)),⟨some 60,.indexAddr 25 (t 5) (t 59),none,[13]⟩,⟨some 61,.load 5 (t 60),none,[14]⟩,⟨some 62,.conv 5 2 (t 61),none,[15]⟩,⟨some 63,.bin .mul 2 (t 58) (t 62),none,[12,16]⟩,⟨some 64,.bin .add 2 (t 54) (t 63),none,[8,17]⟩,q 65 (.mov (t 0)),⟨some 66,.bin .rem 2 (t 64) (t 65),none,[18,19]⟩,⟨some 67,.conv 2 5 (t 66),none,[20]⟩,⟨some 68,.indexAddr 25 (t 10) (t 48),none,[2,0,1,2,3,4,5,6,7,8,9,10,11,12,13,14,15,16,17,18,19,20,21]⟩,⟨none,.store 5 (t 68) (t 67),none,[22,21,0,1,2,3,4,5,6,7,8,9,10,11,12,13,14,15,16,17,18,19,20,21]⟩] true)) (.region 11 [q 44 (.mov (t 12)),q 45 (.bin .add 2 (t 44) (.const (.int .i64 1))),q 12 (.asg 0 (t 45) 2)] false))))))) (.region 8 [q 33 (.mov (t 11)),q 34 (.bin .add 2 (t 33) (.const (.int .i64 1))),q 11 (.asg 0 (t 34) 2)] false)))))) (.seq (.region 13 [q 69 (.load 25 (t 10)),⟨none,.store 25 (t 6) (t 69),none,[]⟩,q 7 (.asg 0 (.const (.bool true)) 4)] false) .ret))))))
def spec_l01Times_L : Live:=[(0,[0,1,2]),(1,[0,4,5,6]),(2,[0,4,5,6,8,9,10]),(3,[6,10]),(4,[0,4,5,6,8,9,10]),(5,[6,10]),(6,[0,4,5,6,8,9,10]),(7,[0,4,5,6,8,9,10,11]),(8,[0,4,5,6,8,9,10,11]),(9,[0,4,5,6,8,9,10,11]),(10,[0,4,5,6,8,9,10,11,12]),(11,[0,4,5,6,8,9,10,11,12]),(12,[0,4,5,6,8,9,10,11,12]),(13,[6,10]),(100023,[0,4,5,6,8,9,10,23]),(100028,[0,4,5,6,8,9,10,28]),(100032,[0,4,5,6,8,9,10,11,32]),(100043,[0,4,5,6,8,9,10,11,12,43])]
noncomputable def spec_l01Times_l2 (r12 : Int) (x1081 : Int) (a1 : (Vec Int 64)) (a2 : (Vec Int 64)) (a0 : Int) (x1524 : Int) (x1525 : (Vec Int 64)) : Option ((Int × (Vec Int 64)) ⊕ (Vec Int 64)) :=
 (Option.bind (α:=Bool) ((if (decide (x1524 ≤ r12)) then (ifp (0 ≤ x1081 ∧ x1081 < ((64 : Nat) : Int)) ((some (((rd a1.1 x1081.toNat) != 0))))) else (some false))) fun x1573=>(if x1573 then (ifp (0 ≤ IntKind.i64.wrap (x1081 + x1524) ∧ IntKind.i64.wrap (x1081 + x1524) < ((64 : Nat) : Int)) ((letp (IntKind.i64.wrap ((rd x1525.1 (IntKind.i64.wrap (x1081 + x1524)).toNat))) fun x1598=>(ifp (0 ≤ x1081 ∧ x1081 < ((64 : Nat) : Int)) ((ifp (0 ≤ x1524 ∧ x1524 < ((64 : Nat) : Int)) ((letp (IntKind.i64.wrap ((IntKind.i64.wrap (rd a1.1 x1081.toNat)) * (IntKind.i64.wrap (rd a2.1 x1524.toNat)))) fun x1604=>(ifp (a0 ≠ 0) ((letp (IntKind.u8.wrap (Int.tmod (IntKind.i64.wrap (x1598 + x1604)) a0)) fun x1607=>(ifp (0 ≤ IntKind.i64.wrap (x1081 + x1524) ∧ IntKind.i64.wrap (x1081 + x1524) < ((64 : Nat) : Int)) ((some (.inl ((IntKind.i64.wrap (x1524 + 1),(vset x1525 (IntKind.i64.wrap (x1081 + x1524)).toNat x1607)))))))))))))))))) else (some (.inr x1525))))
noncomputable def spec_l01Times_l1 (r9 : Int) (r12 : Int) (a1 : (Vec Int 64)) (a2 : (Vec Int 64)) (a0 : Int) (x1081 : Int) (x1082 : (Vec Int 64)) : Option ((Int × (Vec Int 64)) ⊕ (Vec Int 64)) :=
 (if (decide (x1081 ≤ r9)) then (Option.bind (α:=(Vec Int 64)) ((loopM (fun s : (Int × (Vec Int 64))=>spec_l01Times_l2 r12 x1081 a1 a2 a0 s.1 s.2) (0,x1082))) fun x1479=>(some (.inl ((IntKind.i64.wrap (x1081 + 1),x1479))))) else (some (.inr x1082)))
noncomputable def spec_l01Times (a0 : Int) (a1 : (Vec Int 64)) (a2 : (Vec Int 64)) : Option ((Vec Int 64) × Bool) :=
 (Option.bind (spec_l01Deg a1) fun r9=>(Option.bind (spec_l01Deg a2) fun r12=>(Option.bind (α:=Bool) ((if (decide (r9 < 0)) then (some true) else (some ((decide (r12 < 0)))))) fun x16=>(if x16 then (some (((vrep 64 (0 : Int)),true))) else (if (decide ((IntKind.i64.wrap (r9 + r12)) > 63)) then (some (((vrep 64 (0 : Int)),false))) else (Option.bind (α:=(Vec Int 64)) ((loopM (fun s : (Int × (Vec Int 64))=>spec_l01Times_l1 r9 r12 a1 a2 a0 s.1 s.2) (0,vrep 64 (0 : Int)))) fun x814=>(some (x814,true))))))))
theorem spec_l01Times_ok (a0 : Int) (a1 : (Vec Int 64)) (a2 : (Vec Int 64)) (r : ((Vec Int 64) × Bool)) (h : spec_l01Times a0 a1 a2 = some r) : Den Try.prog 105 [(i6 a0),(eVb a1),(eVb a2)] { r:=(.tuple [(eVb r.1),(.bool r.2)]) }:=by
 refine den_of (rs:=[(eVb r.1),(.bool r.2)]) (ac:=spec_l01Times_c) (L:=spec_l01Times_L) (n:=70) (m:=[]) (c:=Try.f105.body.getD .skip) good Try.func105 (by kernel_rfl) (by kernel_rfl) Try.ntmps105 rfl rfl (by kernel_rfl) rfl rfl ?_
 refine ns ⟨[(0,i6 a0),(1,eVb a1),(2,eVb a2)],[]⟩ ?_
 unfold spec_l01Times_c
 refine sr (vo 1400 (eVb a1) rfl rfl (vo 1500 (eVb a2) rfl rfl (vo 1600 (eVb ((vrep 64 (0 : Int)))) rfl rfl (vp (.bool false) rfl (nk ⟨[(0,i6 a0),(4,ow 4),(5,ow 5),(6,ow 6)],[(4,bk (eVb a1)),(5,bk (eVb a2)),(6,bk (eVb ((vrep 64 (0 : Int)))))]⟩ (a_seq (a_draw [⟨[4],[],[],[]⟩,⟨[],[],[],[0]⟩,⟨[5],[],[],[]⟩,⟨[],[],[],[0,1,2]⟩,⟨[],[],[],[]⟩,⟨[2000],[2000],[2000],[]⟩,⟨[],[],[],[0,1,2,3,5]⟩,⟨[],[],[],[0,1,2,3,5,6]⟩,⟨[2000],[2000],[],[0,1,2,3,4,5,6,7]⟩] (by kernel_rfl) (d_cons (vl (eVb a1) rfl rfl rfl rfl rfl rfl ?_)))))))))
 refine d_next (by kernel_rfl) (d_cons ?_)
 obtain ⟨r9,hr10,h⟩:=bind_some h
 refine a_call (args:=[(eVb a1)]) (u:=[]) (r:=(i6 r9)) rfl rfl (spec_l01Deg_ok a1 r9 hr10) rfl (d_next (by kernel_rfl) (d_cons (vl (eVb a2) rfl rfl rfl rfl rfl rfl (d_next (by kernel_rfl) (d_cons ?_)))))
 obtain ⟨r12,hr13,h⟩:=bind_some h
 refine a_call (args:=[(eVb a2)]) (u:=[]) (r:=(i6 r12)) rfl rfl (spec_l01Deg_ok a2 r12 hr13) rfl (d_next (by kernel_rfl) (d_cons (vq (eVb ((vrep 64 (0 : Int)))) rfl ⟨⟨_,rfl,rfl⟩,all_nil⟩ (d_next (by kernel_rfl) (d_cons (vo 2000 (eVb ((vrep 64 (0 : Int)))) rfl rfl (d_next (by kernel_rfl) (dj (i6 r9) rfl (dj (i6 r12) rfl ?_)))))))))
 refine d_cons (vs (eVb ((vrep 64 (0 : Int)))) rfl rfl (fun _=>rfl) rfl rfl rfl rfl rfl rfl (d_next (by kernel_rfl) (d_nil (nj ⟨[(0,i6 a0),(4,ow 4),(5,ow 5),(6,ow 6),(8,i6 r9),(9,i6 r12),(10,ow 10)],[(4,bk (eVb a1)),(5,bk (eVb a2)),(6,bk (eVb ((vrep 64 (0 : Int))))),(10,bk (eVb ((vrep 64 (0 : Int)))))]⟩ (a_seq ?_)))))
 obtain ⟨y17,hy18,hk19⟩:=bind_some h
 clear h
 refine a_join (emb:=fun (s : Bool)=>⟨[(0,i6 a0),(4,ow 4),(5,ow 5),(6,ow 6),(8,i6 r9),(9,i6 r12),(10,ow 10),(23,.bool s)],[(4,bk (eVb a1)),(5,bk (eVb a2)),(6,bk (eVb ((vrep 64 (0 : Int))))),(10,bk (eVb ((vrep 64 (0 : Int)))))]⟩) (pre:=fun s=>s = y17) ?_ ?_
 ·rintro x16 rfl
  have h:=hk19
  refine ns ⟨[(0,i6 a0),(4,ow 4),(5,ow 5),(6,ow 6),(8,i6 r9),(9,i6 r12),(10,ow 10),(23,.bool x16)],[(4,bk (eVb a1)),(5,bk (eVb a2)),(6,bk (eVb ((vrep 64 (0 : Int))))),(10,bk (eVb ((vrep 64 (0 : Int)))))]⟩ ?_
  cases hb21 : x16
  ·have h:=ite_f hb21 h
   refine a_cond_f rfl (a_skip (nj ⟨[(0,i6 a0),(4,ow 4),(5,ow 5),(6,ow 6),(8,i6 r9),(9,i6 r12),(10,ow 10)],[(4,bk (eVb a1)),(5,bk (eVb a2)),(6,bk (eVb ((vrep 64 (0 : Int))))),(10,bk (eVb ((vrep 64 (0 : Int)))))]⟩ (a_seq (sr (vp (i6 r9) rfl (vp (i6 r12) rfl (vp (i6 (IntKind.i64.wrap (r9 + r12))) rfl (vp (.bool ((decide ((IntKind.i64.wrap (r9 + r12)) > 63)))) rfl (nk ⟨[(0,i6 a0),(4,ow 4),(5,ow 5),(6,ow 6),(8,i6 r9),(9,i6 r12),(10,ow 10),(28,.bool ((decide ((IntKind.i64.wrap (r9 + r12)) > 63))))],[(4,bk (eVb a1)),(5,bk (eVb a2)),(6,bk (eVb ((vrep 64 (0 : Int))))),(10,bk (eVb ((vrep 64 (0 : Int)))))]⟩ ?_)))))))))
   cases hb22 : (decide ((IntKind.i64.wrap (r9 + r12)) > 63))
   ·have h:=ite_f hb22 h
    refine a_cond_f rfl (a_skip (nj ⟨[(0,i6 a0),(4,ow 4),(5,ow 5),(6,ow 6),(8,i6 r9),(9,i6 r12),(10,ow 10)],[(4,bk (eVb a1)),(5,bk (eVb a2)),(6,bk (eVb ((vrep 64 (0 : Int))))),(10,bk (eVb ((vrep 64 (0 : Int)))))]⟩ ?_))
    obtain ⟨y815,hy816,hk817⟩:=bind_some h
    clear h
    refine a_join (emb:=fun (s : (Vec Int 64))=>⟨[(6,ow 6),(10,ow 10)],[(6,bk (eVb ((vrep 64 (0 : Int))))),(10,bk (eVb s))]⟩) (pre:=fun s=>s = y815) ?_ ?_
    ·rintro x814 rfl
     have h:=hk817
     refine ns ⟨[(6,ow 6),(10,ow 10)],[(6,bk (eVb ((vrep 64 (0 : Int))))),(10,bk (eVb x814))]⟩ (sr (vl (eVb x814) rfl rfl rfl rfl rfl rfl (vs (eVb x814) rfl rfl (fun _=>rfl) rfl rfl rfl rfl rfl rfl (vp (.bool true) rfl (nx _ rfl (a_ret ?_))))))
     have hl1615 : LdOk [] (eVb x814) [] 64 true (eVb x814):=(.nil rfl rfl rfl)
     refine ⟨.inr rfl,?_⟩
     rw [Try.results105]
     cases h
     exact ⟨_,_,_,_,_,ld_own (i:=⟨.arr 64 5,64,64,(eVb (vrep 64 (0 : Int)))⟩) rfl rfl rfl hl1615,hl1615.c,.inl ⟨rfl,.inl rfl⟩,rfl,⟨_,_,_,_,_,rfl,trivial,.inl ⟨rfl,.inl rfl⟩,rfl,rfl⟩⟩
    ·have h:=hy816
     refine sr (vp (i6 0) rfl (nk ⟨[(0,i6 a0),(4,ow 4),(5,ow 5),(6,ow 6),(8,i6 r9),(9,i6 r12),(10,ow 10),(11,i6 0)],[(4,bk (eVb a1)),(5,bk (eVb a2)),(6,bk (eVb ((vrep 64 (0 : Int))))),(10,bk (eVb ((vrep 64 (0 : Int)))))]⟩ (a_block ?_)))
     refine a_loop (emb:=fun (s : (Int × (Vec Int 64)))=>⟨[(0,i6 a0),(4,ow 4),(5,ow 5),(6,ow 6),(8,i6 r9),(9,i6 r12),(10,ow 10),(11,i6 s.1)],[(4,bk (eVb a1)),(5,bk (eVb a2)),(6,bk (eVb ((vrep 64 (0 : Int))))),(10,bk (eVb s.2))]⟩) (body:=(fun s : (Int × (Vec Int 64))=>spec_l01Times_l1 r9 r12 a1 a2 a0 s.1 s.2)) (G:=fun q=>some q = some y815) h rfl ?_ (by kernel_rfl)
     rintro X1346 ⟨x1081,x1082⟩ x1347 h hX1348
     have h : spec_l01Times_l1 r9 r12 a1 a2 a0 x1081 x1082 = some x1347:=h
     refine ns ⟨[(0,i6 a0),(4,ow 4),(5,ow 5),(6,ow 6),(8,i6 r9),(9,i6 r12),(10,ow 10),(11,i6 x1081)],[(4,bk (eVb a1)),(5,bk (eVb a2)),(6,bk (eVb ((vrep 64 (0 : Int))))),(10,bk (eVb x1082))]⟩ (a_seq (sr (vp (i6 x1081) rfl (vp (i6 r9) rfl (vp (.bool ((decide (x1081 ≤ r9)))) rfl (nk ⟨[(0,i6 a0),(4,ow 4),(5,ow 5),(6,ow 6),(8,i6 r9),(9,i6 r12),(10,ow 10),(11,i6 x1081),(32,.bool ((decide (x1081 ≤ r9))))],[(4,bk (eVb a1)),(5,bk (eVb a2)),(6,bk (eVb ((vrep 64 (0 : Int))))),(10,bk (eVb x1082))]⟩ ?_))))))
     cases hb1349 : (decide (x1081 ≤ r9))
     ·have h:=ite_f hb1349 h
      refine a_cond_f rfl (a_exit (t_exit ?_))
      cases h
      have h:=hX1348
      refine t_exit (b_exit ?_)
      exact j_leaf x1082 (Option.some.inj h) (by kernel_rfl)
     ·have h:=ite_t hb1349 h
      refine a_cond_t rfl (a_skip (nj ⟨[(0,i6 a0),(4,ow 4),(5,ow 5),(6,ow 6),(8,i6 r9),(9,i6 r12),(10,ow 10),(11,i6 x1081)],[(4,bk (eVb a1)),(5,bk (eVb a2)),(6,bk (eVb ((vrep 64 (0 : Int))))),(10,bk (eVb x1082))]⟩ ?_))
      obtain ⟨y1480,hy1481,hk1482⟩:=bind_some h
      clear h
      refine a_join (emb:=fun (s : (Vec Int 64))=>⟨[(0,i6 a0),(4,ow 4),(5,ow 5),(6,ow 6),(8,i6 r9),(9,i6 r12),(10,ow 10),(11,i6 x1081)],[(4,bk (eVb a1)),(5,bk (eVb a2)),(6,bk (eVb ((vrep 64 (0 : Int))))),(10,bk (eVb s))]⟩) (pre:=fun s=>s = y1480) ?_ ?_
      ·rintro x1479 rfl
       have h:=hk1482
       refine ns ⟨[(0,i6 a0),(4,ow 4),(5,ow 5),(6,ow 6),(8,i6 r9),(9,i6 r12),(10,ow 10),(11,i6 x1081)],[(4,bk (eVb a1)),(5,bk (eVb a2)),(6,bk (eVb ((vrep 64 (0 : Int))))),(10,bk (eVb x1479))]⟩ (a_region (vp (i6 x1081) rfl (vp (i6 (IntKind.i64.wrap (x1081 + 1))) rfl (vp (i6 (IntKind.i64.wrap (x1081 + 1))) rfl (a_nil ?_)))))
       cases h
       exact a_again (by kernel_rfl) hX1348
      ·have h:=hy1481
       refine a_block (sr (vp (i6 0) rfl (nk ⟨[(0,i6 a0),(4,ow 4),(5,ow 5),(6,ow 6),(8,i6 r9),(9,i6 r12),(10,ow 10),(11,i6 x1081),(12,i6 0)],[(4,bk (eVb a1)),(5,bk (eVb a2)),(6,bk (eVb ((vrep 64 (0 : Int))))),(10,bk (eVb x1082))]⟩ (a_block ?_))))
       refine a_loop (emb:=fun (s : (Int × (Vec Int 64)))=>⟨[(0,i6 a0),(4,ow 4),(5,ow 5),(6,ow 6),(8,i6 r9),(9,i6 r12),(10,ow 10),(11,i6 x1081),(12,i6 s.1)],[(4,bk (eVb a1)),(5,bk (eVb a2)),(6,bk (eVb ((vrep 64 (0 : Int))))),(10,bk (eVb s.2))]⟩) (body:=(fun s : (Int × (Vec Int 64))=>spec_l01Times_l2 r12 x1081 a1 a2 a0 s.1 s.2)) (G:=fun q=>some q = some y1480) h rfl ?_ (by kernel_rfl)
       rintro X1567 ⟨x1524,x1525⟩ x1568 h hX1569
       have h : spec_l01Times_l2 r12 x1081 a1 a2 a0 x1524 x1525 = some x1568:=h
       refine ns ⟨[(0,i6 a0),(4,ow 4),(5,ow 5),(6,ow 6),(8,i6 r9),(9,i6 r12),(10,ow 10),(11,i6 x1081),(12,i6 x1524)],[(4,bk (eVb a1)),(5,bk (eVb a2)),(6,bk (eVb ((vrep 64 (0 : Int))))),(10,bk (eVb x1525))]⟩ (a_seq ?_)
       obtain ⟨y1574,hy1575,hk1576⟩:=bind_some h
       clear h
       refine a_join (emb:=fun (s : Bool)=>⟨[(0,i6 a0),(4,ow 4),(5,ow 5),(6,ow 6),(8,i6 r9),(9,i6 r12),(10,ow 10),(11,i6 x1081),(12,i6 x1524),(43,.bool s)],[(4,bk (eVb a1)),(5,bk (eVb a2)),(6,bk (eVb ((vrep 64 (0 : Int))))),(10,bk (eVb x1525))]⟩) (pre:=fun s=>s = y1574) ?_ ?_
       ·rintro x1573 rfl
        have h:=hk1576
        refine ns ⟨[(0,i6 a0),(4,ow 4),(5,ow 5),(6,ow 6),(8,i6 r9),(9,i6 r12),(10,ow 10),(11,i6 x1081),(12,i6 x1524),(43,.bool x1573)],[(4,bk (eVb a1)),(5,bk (eVb a2)),(6,bk (eVb ((vrep 64 (0 : Int))))),(10,bk (eVb x1525))]⟩ ?_
        cases hb1580 : x1573
        ·have h:=ite_f hb1580 h
         refine a_cond_f rfl (a_exit (t_exit ?_))
         cases h
         have h:=hX1569
         refine t_exit (b_exit (b_norm ?_))
         exact j_leaf x1525 (Option.some.inj h) (by kernel_rfl)
        ·have h:=ite_t hb1580 h
         refine a_cond_t rfl (a_skip (nj ⟨[(0,i6 a0),(4,ow 4),(5,ow 5),(6,ow 6),(8,i6 r9),(9,i6 r12),(10,ow 10),(11,i6 x1081),(12,i6 x1524)],[(4,bk (eVb a1)),(5,bk (eVb a2)),(6,bk (eVb ((vrep 64 (0 : Int))))),(10,bk (eVb x1525))]⟩ (a_seq (a_block (a_draw [⟨[],[],[],[]⟩,⟨[],[],[],[]⟩,⟨[],[],[],[0,1]⟩,⟨[],[],[],[]⟩,⟨[],[],[],[]⟩,⟨[],[],[],[3,4]⟩,⟨[10],[],[10],[3,4,5]⟩,⟨[10],[],[],[3,4,5,6]⟩,⟨[],[],[],[3,4,5,6,7]⟩,⟨[],[],[],[]⟩,⟨[4],[],[4],[9]⟩,⟨[4],[],[],[9,10]⟩,⟨[],[],[],[9,10,11]⟩,⟨[],[],[],[]⟩,⟨[5],[],[5],[13]⟩,⟨[5],[],[],[13,14]⟩,⟨[],[],[],[13,14,15]⟩,⟨[],[],[],[9,10,11,12,13,14,15,16]⟩,⟨[],[],[],[3,4,5,6,7,8,9,10,11,12,13,14,15,16,17]⟩,⟨[],[],[],[]⟩,⟨[],[],[],[3,4,5,6,7,8,9,10,11,12,13,14,15,16,17,18,19]⟩,⟨[],[],[],[3,4,5,6,7,8,9,10,11,12,13,14,15,16,17,18,19,20]⟩,⟨[10],[],[10],[0,1,2,3,4,5,6,7,8,9,10,11,12,13,14,15,16,17,18,19,20,21]⟩,⟨[10],[10],[],[0,1,2,3,4,5,6,7,8,9,10,11,12,13,14,15,16,17,18,19,20,21,22]⟩] (by kernel_rfl) (dj (i6 x1081) rfl (dj (i6 x1524) rfl (dj (i6 (IntKind.i64.wrap (x1081 + x1524))) rfl (dj (i6 x1081) rfl ?_)))))))))
         refine dj (i6 x1524) rfl (dj (i6 (IntKind.i64.wrap (x1081 + x1524))) rfl (d_cons ?_))
         obtain ⟨hc1596,h⟩:=ifp_some h
         refine vq (.own 10 [(IntKind.i64.wrap (x1081 + x1524)).toNat] [(IntKind.i64.wrap (x1081 + x1524)).toNat * 1]) rfl hc1596 (d_next (by kernel_rfl) (d_cons ?_))
         have hl1597 : LdOk [(IntKind.i64.wrap (x1081 + x1524)).toNat] (eVb x1525) [(IntKind.i64.wrap (x1081 + x1524)).toNat * 1] 1 false (b8 ((rd x1525.1 (IntKind.i64.wrap (x1081 + x1524)).toNat))):=(.arr (vlt x1525 hc1596) rfl (.nil rfl rfl rfl))
         refine vq (b8 ((rd x1525.1 (IntKind.i64.wrap (x1081 + x1524)).toNat))) (ld_own (i:=⟨.int .u8,1,1,(.int .u8 0)⟩) rfl rfl rfl hl1597) hl1597.c (d_next (by kernel_rfl) (d_cons ?_))
         obtain ⟨x1598,hx1599,h⟩:=letp_some h
         refine a_val' (v:=(i6 (IntKind.i64.wrap ((rd x1525.1 (IntKind.i64.wrap (x1081 + x1524)).toNat))))) (v':=(i6 x1598)) (u:=[]) (u':=[]) rfl (congrArg (fun z=>((i6 z) : AV)) hx1599) rfl trivial rfl (d_next (by kernel_rfl) (dj (i6 x1081) rfl (d_cons ?_)))
         obtain ⟨hc1600,h⟩:=ifp_some h
         refine vq (.own 4 [x1081.toNat] [x1081.toNat * 1]) rfl hc1600 (d_next (by kernel_rfl) (d_cons ?_))
         have hl1601 : LdOk [x1081.toNat] (eVb a1) [x1081.toNat * 1] 1 false (b8 (rd a1.1 x1081.toNat)):=(.arr (vlt a1 hc1600) rfl (.nil rfl rfl rfl))
         refine vq (b8 (rd a1.1 x1081.toNat)) (ld_own (i:=⟨.int .u8,1,1,(.int .u8 0)⟩) rfl rfl rfl hl1601) hl1601.c (d_next (by kernel_rfl) (dj (i6 (IntKind.i64.wrap (rd a1.1 x1081.toNat))) rfl (dj (i6 x1524) rfl (d_cons ?_))))
         obtain ⟨hc1602,h⟩:=ifp_some h
         refine vq (.own 5 [x1524.toNat] [x1524.toNat * 1]) rfl hc1602 (d_next (by kernel_rfl) (d_cons ?_))
         have hl1603 : LdOk [x1524.toNat] (eVb a2) [x1524.toNat * 1] 1 false (b8 (rd a2.1 x1524.toNat)):=(.arr (vlt a2 hc1602) rfl (.nil rfl rfl rfl))
         refine vq (b8 (rd a2.1 x1524.toNat)) (ld_own (i:=⟨.int .u8,1,1,(.int .u8 0)⟩) rfl rfl rfl hl1603) hl1603.c (d_next (by kernel_rfl) (dj (i6 (IntKind.i64.wrap (rd a2.1 x1524.toNat))) rfl (d_cons ?_)))
         obtain ⟨x1604,hx1605,h⟩:=letp_some h
         refine a_val' (v:=(i6 (IntKind.i64.wrap ((IntKind.i64.wrap (rd a1.1 x1081.toNat)) * (IntKind.i64.wrap (rd a2.1 x1524.toNat)))))) (v':=(i6 x1604)) (u:=[]) (u':=[]) rfl (congrArg (fun z=>((i6 z) : AV)) hx1605) rfl trivial rfl (d_next (by kernel_rfl) (dj (i6 (IntKind.i64.wrap (x1598 + x1604))) rfl (dj (i6 a0) rfl (d_cons ?_))))
         obtain ⟨hc1606,h⟩:=ifp_some h
         refine vq (i6 (Int.tmod (IntKind.i64.wrap (x1598 + x1604)) a0)) rfl hc1606 (d_next (by kernel_rfl) (d_cons ?_))
         obtain ⟨x1607,hx1608,h⟩:=letp_some h
         refine a_val' (v:=(b8 (IntKind.u8.wrap (Int.tmod (IntKind.i64.wrap (x1598 + x1604)) a0)))) (v':=(b8 x1607)) (u:=[]) (u':=[]) rfl (congrArg (fun z=>((b8 z) : AV)) hx1608) rfl trivial rfl (d_next (by kernel_rfl) (d_cons ?_))
         obtain ⟨hc1609,h⟩:=ifp_some h
         refine vq (.own 10 [(IntKind.i64.wrap (x1081 + x1524)).toNat] [(IntKind.i64.wrap (x1081 + x1524)).toNat * 1]) rfl hc1609 (d_next (by kernel_rfl) (d_cons ?_))
         have hs1610 : StOk [(IntKind.i64.wrap (x1081 + x1524)).toNat] (eVb x1525) [(IntKind.i64.wrap (x1081 + x1524)).toNat * 1] 1 (b8 x1607) (eVb ((vset x1525 (IntKind.i64.wrap (x1081 + x1524)).toNat x1607))):=(.arr (y:=x1607) (vlt x1525 hc1609) rfl (.nil rfl rfl rfl rfl))
         refine vu .top [(10,bk (eVb ((vset x1525 (IntKind.i64.wrap (x1081 + x1524)).toNat x1607))))] (st_own (i:=⟨.int .u8,1,1,(.int .u8 0)⟩) rfl rfl (fun _=>rfl) rfl hs1610) (hs1610.c rfl) rfl (d_next (by kernel_rfl) (d_nil (b_norm (nj ⟨[(0,i6 a0),(4,ow 4),(5,ow 5),(6,ow 6),(8,i6 r9),(9,i6 r12),(10,ow 10),(11,i6 x1081),(12,i6 x1524)],[(4,bk (eVb a1)),(5,bk (eVb a2)),(6,bk (eVb ((vrep 64 (0 : Int))))),(10,bk (eVb ((vset x1525 (IntKind.i64.wrap (x1081 + x1524)).toNat x1607))))]⟩ (a_region (vp (i6 x1524) rfl (vp (i6 (IntKind.i64.wrap (x1524 + 1))) rfl (vp (i6 (IntKind.i64.wrap (x1524 + 1))) rfl (a_nil ?_)))))))))
         cases h
         exact a_again (by kernel_rfl) hX1569
       ·have h:=hy1575
        refine a_region (vp (i6 x1524) rfl (vp (i6 r12) rfl (vp (.bool ((decide (x1524 ≤ r12)))) rfl (vp (.bool ((decide (x1524 ≤ r12)))) rfl ?_))))
        cases hb1577 : (decide (x1524 ≤ r12))
        ·have h:=ite_f hb1577 h
         refine a_gskip rfl (a_gskip rfl (a_gskip rfl (a_gskip rfl (vp (.bool false) rfl (a_nil ?_)))))
         exact j_leaf false (Option.some.inj h) (by kernel_rfl)
        ·have h:=ite_t hb1577 h
         refine gp (i6 x1081) rfl rfl ?_
         obtain ⟨hc1578,h⟩:=ifp_some h
         refine gq (.own 4 [x1081.toNat] [x1081.toNat * 1]) rfl rfl hc1578 ?_
         have hl1579 : LdOk [x1081.toNat] (eVb a1) [x1081.toNat * 1] 1 false (b8 (rd a1.1 x1081.toNat)):=(.arr (vlt a1 hc1578) rfl (.nil rfl rfl rfl))
         refine gq (b8 (rd a1.1 x1081.toNat)) rfl (ld_own (i:=⟨.int .u8,1,1,(.int .u8 0)⟩) rfl rfl rfl hl1579) hl1579.c (gp (.bool (((rd a1.1 x1081.toNat) != 0))) rfl rfl (vp (.bool (((rd a1.1 x1081.toNat) != 0))) rfl (a_nil ?_)))
         exact j_leaf (((rd a1.1 x1081.toNat) != 0)) (Option.some.inj h) (by kernel_rfl)
   ·have h:=ite_t hb22 h
    refine a_cond_t rfl (sr (vl (eVb ((vrep 64 (0 : Int)))) rfl rfl rfl rfl rfl rfl (vs (eVb ((vrep 64 (0 : Int)))) rfl rfl (fun _=>rfl) rfl rfl rfl rfl rfl rfl (vp (.bool false) rfl (nx _ rfl (a_ret (t_ret ?_)))))))
    have hl1618 : LdOk [] (eVb ((vrep 64 (0 : Int)))) [] 64 true (eVb ((vrep 64 (0 : Int)))):=(.nil rfl rfl rfl)
    refine ⟨.inr rfl,?_⟩
    rw [Try.results105]
    cases h
    exact ⟨_,_,_,_,_,ld_own (i:=⟨.arr 64 5,64,64,(eVb (vrep 64 (0 : Int)))⟩) rfl rfl rfl hl1618,hl1618.c,.inl ⟨rfl,.inl rfl⟩,rfl,⟨_,_,_,_,_,rfl,trivial,.inl ⟨rfl,.inl rfl⟩,rfl,rfl⟩⟩
  ·have h:=ite_t hb21 h
   refine a_cond_t rfl (sr (vl (eVb ((vrep 64 (0 : Int)))) rfl rfl rfl rfl rfl rfl (vs (eVb ((vrep 64 (0 : Int)))) rfl rfl (fun _=>rfl) rfl rfl rfl rfl rfl rfl (vp (.bool true) rfl (nx _ rfl (a_ret (t_ret ?_)))))))
   have hl1621 : LdOk [] (eVb ((vrep 64 (0 : Int)))) [] 64 true (eVb ((vrep 64 (0 : Int)))):=(.nil rfl rfl rfl)
   refine ⟨.inr rfl,?_⟩
   rw [Try.results105]
   cases h
   exact ⟨_,_,_,_,_,ld_own (i:=⟨.arr 64 5,64,64,(eVb (vrep 64 (0 : Int)))⟩) rfl rfl rfl hl1621,hl1621.c,.inl ⟨rfl,.inl rfl⟩,rfl,⟨_,_,_,_,_,rfl,trivial,.inl ⟨rfl,.inl rfl⟩,rfl,rfl⟩⟩
 ·have h:=hy18
  refine a_region (vp (i6 r9) rfl (vp (.bool ((decide (r9 < 0)))) rfl (vp (.bool ((decide (r9 < 0)))) rfl ?_)))
  cases hb20 : (decide (r9 < 0))
  ·have h:=ite_f hb20 h
   refine gp (i6 r12) rfl rfl (gp (.bool ((decide (r12 < 0)))) rfl rfl (vp (.bool ((decide (r12 < 0)))) rfl (a_nil ?_)))
   exact j_leaf ((decide (r12 < 0))) (Option.some.inj h) (by kernel_rfl)
  ·have h:=ite_t hb20 h
   refine a_gskip rfl (a_gskip rfl (vp (.bool true) rfl (a_nil ?_)))
   exact j_leaf true (Option.some.inj h) (by kernel_rfl)
def spec_l01Is_c : ACode:=(.seq (.region 0 [q 3 (.box 25 (t 1)),q 4 (.asg 0 (.const (.bool false)) 4)] false) (.seq (.seq (.region 1 [q 5 (.asg 0 (.const (.int .i64 0)) 3)] false) (.block 0 (.loop (.seq (.seq (.region 2 [q 6 (.mov (t 5)),q 7 (.bin .lss 3 (t 6) (.const (.int .i64 64)))] false) (.cond (t 7) .skip (.exit 0))) (.seq (.block 1 (.seq (.region 4 [q 10 (.mov (t 5)),q 11 (.indexAddr 25 (t 3) (t 10)),q 12 (.load 5 (t 11)),q 13 (.conv 5 2 (t 12)),q 14 (.mov (t 0)),q 15 (.bin .geq 2 (t 13) (t 14))] false) (.cond (t 15) (.seq (.region 5 [q 4 (.asg 0 (.const (.bool false)) 4)] false) .ret) .skip))) (.region 3 [q 8 (.mov (t 5)),q 9 (.bin .add 3 (t 8) (.const (.int .i64 1))),q 5 (.asg 0 (t 9) 3)] false)))))) (.seq (.region 6 [q 16 (.mov (t 0)),q 17 (.call 0 (.func 168) [(t 16)]),q 4 (.asg 0 (t 17) 4)] false) .ret)))
def spec_l01Is_L : Live:=[(0,[0,1]),(1,[0,3]),(2,[0,3,5]),(3,[0,3,5]),(4,[0,3,5]),(5,[]),(6,[0]),(100007,[0,3,5,7]),(100015,[0,3,5,15])]
noncomputable def spec_l01Is_l1 (a1 : (Vec Int 64)) (a0 : Int) (x29 : Int) : Option (Int ⊕ (Unit ⊕ Bool)) :=
 (if (decide (x29 < 64)) then (ifp (0 ≤ x29 ∧ x29 < ((64 : Nat) : Int)) ((if (decide ((IntKind.i64.wrap (rd a1.1 x29.toNat)) ≥ a0)) then (some (.inr (.inr false))) else (some (.inl (IntKind.i64.wrap (x29 + 1))))))) else (some (.inr (((.inl ()))))))
noncomputable def spec_l01Is (a0 : Int) (a1 : (Vec Int 64)) : Option Bool :=
 (Option.bind (α:=(Unit ⊕ Bool)) ((loopM (fun s : Int=>spec_l01Is_l1 a1 a0 s) 0)) fun z=>match z with | .inl _=>(Option.bind (spec_l01Prime a0) fun r42=>(some r42)) | .inr r44=>(some r44))
theorem spec_l01Is_ok (a0 : Int) (a1 : (Vec Int 64)) (r : Bool) (h : spec_l01Is a0 a1 = some r) : Den Try.prog 108 [(i6 a0),(eVb a1)] { r:=(.bool r) }:=by
 refine den_of (rs:=[(.bool r)]) (ac:=spec_l01Is_c) (L:=spec_l01Is_L) (n:=18) (m:=[]) (c:=Try.f108.body.getD .skip) good Try.func108 (by kernel_rfl) (by kernel_rfl) Try.ntmps108 rfl rfl (by kernel_rfl) rfl rfl ?_
 refine ns ⟨[(0,i6 a0),(1,eVb a1)],[]⟩ ?_
 unfold spec_l01Is_c
 refine sr (vo 1300 (eVb a1) rfl rfl (vp (.bool false) rfl (nk ⟨[(0,i6 a0),(3,ow 3)],[(3,bk (eVb a1))]⟩ ?_)))
 obtain ⟨y20,hy21,hk22⟩:=bind_some h
 clear h
 refine a_join (emb:=fun (s : Unit)=>⟨[(0,i6 a0)],[]⟩) (pre:=fun s=>(.inl s) = y20) ?_ ?_
 ·rintro _ rfl
  have h:=hk22
  refine ns ⟨[(0,i6 a0)],[]⟩ (sr (vp (i6 a0) rfl ?_))
  obtain ⟨r42,hr43,h⟩:=bind_some h
  refine a_call (args:=[(i6 a0)]) (u:=[]) (r:=(.bool r42)) rfl rfl (spec_l01Prime_ok a0 r42 hr43) rfl (vp (.bool r42) rfl (nx _ rfl (a_ret ?_)))
  refine ⟨.inr rfl,?_⟩
  rw [Try.results108]
  cases h
  exact ⟨_,_,_,_,_,rfl,trivial,.inl ⟨rfl,.inl rfl⟩,rfl,rfl⟩
 ·have h:=hy21
  refine sr (vp (i6 0) rfl (nk ⟨[(0,i6 a0),(3,ow 3),(5,i6 0)],[(3,bk (eVb a1))]⟩ (a_block ?_)))
  refine a_loop (emb:=fun (s : Int)=>⟨[(0,i6 a0),(3,ow 3),(5,i6 s)],[(3,bk (eVb a1))]⟩) (body:=(fun s : Int=>spec_l01Is_l1 a1 a0 s)) (G:=fun q=>some q = some y20) h rfl ?_ (by kernel_rfl)
  rintro X34 x29 x35 h hX36
  have h : spec_l01Is_l1 a1 a0 x29 = some x35:=h
  refine ns ⟨[(0,i6 a0),(3,ow 3),(5,i6 x29)],[(3,bk (eVb a1))]⟩ (a_seq (sr (vp (i6 x29) rfl (vp (.bool ((decide (x29 < 64)))) rfl (nk ⟨[(0,i6 a0),(3,ow 3),(5,i6 x29),(7,.bool ((decide (x29 < 64))))],[(3,bk (eVb a1))]⟩ ?_)))))
  cases hb37 : (decide (x29 < 64))
  ·have h:=ite_f hb37 h
   refine a_cond_f rfl (a_exit (t_exit ?_))
   cases h
   have h:=hX36
   refine t_exit (b_exit ?_)
   exact j_leaf () (Option.some.inj h) (by kernel_rfl)
  ·have h:=ite_t hb37 h
   refine a_cond_t rfl (a_skip (nj ⟨[(0,i6 a0),(3,ow 3),(5,i6 x29)],[(3,bk (eVb a1))]⟩ (a_seq (a_block (sr (vp (i6 x29) rfl ?_))))))
   obtain ⟨hc38,h⟩:=ifp_some h
   refine vq (.own 3 [x29.toNat] [x29.toNat * 1]) rfl hc38 ?_
   have hl39 : LdOk [x29.toNat] (eVb a1) [x29.toNat * 1] 1 false (b8 (rd a1.1 x29.toNat)):=(.arr (vlt a1 hc38) rfl (.nil rfl rfl rfl))
   refine vq (b8 (rd a1.1 x29.toNat)) (ld_own (i:=⟨.int .u8,1,1,(.int .u8 0)⟩) rfl rfl rfl hl39) hl39.c (vp (i6 (IntKind.i64.wrap (rd a1.1 x29.toNat))) rfl (vp (i6 a0) rfl (vp (.bool ((decide ((IntKind.i64.wrap (rd a1.1 x29.toNat)) ≥ a0)))) rfl (nk ⟨[(0,i6 a0),(3,ow 3),(5,i6 x29),(15,.bool ((decide ((IntKind.i64.wrap (rd a1.1 x29.toNat)) ≥ a0))))],[(3,bk (eVb a1))]⟩ ?_))))
   cases hb40 : (decide ((IntKind.i64.wrap (rd a1.1 x29.toNat)) ≥ a0))
   ·have h:=ite_f hb40 h
    refine a_cond_f rfl (a_skip (b_norm (nj ⟨[(0,i6 a0),(3,ow 3),(5,i6 x29)],[(3,bk (eVb a1))]⟩ (a_region (vp (i6 x29) rfl (vp (i6 (IntKind.i64.wrap (x29 + 1))) rfl (vp (i6 (IntKind.i64.wrap (x29 + 1))) rfl (a_nil ?_))))))))
    cases h
    exact a_again (by kernel_rfl) hX36
   ·have h:=ite_t hb40 h
    refine a_cond_t rfl (sr (vp (.bool false) rfl (nx _ rfl (a_ret (b_ret (t_ret ?_))))))
    cases h
    have h:=hX36
    refine t_ret (b_ret (t_ret ?_))
    cases h
    have h:=hk22
    refine ⟨.inr rfl,?_⟩
    rw [Try.results108]
    cases h
    exact ⟨_,_,_,_,_,rfl,trivial,.inl ⟨rfl,.inl rfl⟩,rfl,rfl⟩
end Go.Proofs.Ytkbnegemdlnncaa
