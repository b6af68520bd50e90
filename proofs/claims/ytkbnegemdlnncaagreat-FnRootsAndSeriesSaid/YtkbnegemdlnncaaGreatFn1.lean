/- Functions of the program: plain Lean functions, and that the program computes them. Printed by gen.py. -/
import Derived.Test.YtkbnegemdlnncaaGreatFnT
namespace Go.Proofs.YtkbnegemdlnncaaGreat
open Go.Abs Go.Proofs
set_option linter.unusedSimpArgs false
set_option linter.unusedVariables false
set_option maxHeartbeats 16000000
attribute [local irreducible] Abs.acode Abs.aops Abs.aopsT Abs.thenK Abs.blockK

def laws_big_L:Live:=[(0,[0]),(1,[0])]
noncomputable def laws_big (a0:(List Int)):Option Bool :=
 (some ((decide ((a0.length:Int) > 4096))))
theorem laws_big_ok (a0:(List Int)) (r:Bool) (h:laws_big a0=some r):Den Tryz.prog 5 [(eSu8 a0)] { r:=(.bool r) }:=by
 refine dd (rs:=[(.bool r)]) (L:=laws_big_L) good [] Tryz.func5 Tryz.ntmps5 ?_
 refine ns ⟨[(0,eSu8 a0)],[]⟩ ?_
 refine sr (vr (.bool false) (nk ⟨[(0,eSu8 a0)],[]⟩ (sr (vr (eSu8 a0) (vq (i6 (a0.length:Int)) (len_run rfl rfl) trivial (vr (.bool ((decide ((a0.length:Int) > 4096)))) (vr (.bool ((decide ((a0.length:Int) > 4096)))) (nx _ rfl (a_ret ?_)))))))))
 refine ⟨.inr rfl,?_⟩
 rw [Tryz.results5]
 cases h
 exact ⟨_,_,_,_,_,rfl,trivial,.inl ⟨rfl,.inl rfl⟩,rfl,rfl⟩
noncomputable def spec_l01From_c:ACode:=strip [] (Tryz.f57.body.getD .skip)
def spec_l01From_L:Live:=[(0,[0]),(1,[0]),(2,[0,3]),(3,[0,3,4]),(4,[0,3,4]),(5,[0,3,4]),(6,[3]),(100019,[0,3,4,19])]
noncomputable def spec_l01From_l1 (a0:(List Int)) (x89:Int) (x90:((List Int)×Int×Int)):Option ((Int×((List Int)×Int×Int))⊕((List Int)×Int×Int)) :=
 (Option.bind (α:=Bool) ((if (decide (x89 < (a0.length:Int))) then (some ((decide (x89 < 4096)))) else (some false))) fun x114=>(if x114 then (ifp (0≤x89∧x89 < ((a0.length:Nat):Int)) ((letp (IntKind.u64.wrap ((IntKind.u64.wrap (x90.2.2*1099511628211)) + (IntKind.u64.wrap (rd a0 x89.toNat)))) fun x129=>(some (.inl ((IntKind.i64.wrap (x89 + 1),(x90.1,x90.2.1,IntKind.u64.wrap (x129 + 61))))))))) else (some (.inr x90))))
noncomputable def spec_l01From (a0:(List Int)):Option ((List Int)×Int×Int) :=
 (letp (IntKind.u64.wrap (12251 + (IntKind.u64.wrap (a0.length:Int)))) fun x1=>(Option.bind (α:=((List Int)×Int×Int)) ((loopM (fun s:(Int×((List Int)×Int×Int))=>spec_l01From_l1 a0 s.1 s.2) (0,(a0,(0:Int),x1)))) fun x66=>(some x66)))
theorem spec_l01From_ok (a0:(List Int)) (r:((List Int)×Int×Int)) (h:spec_l01From a0=some r):Den Tryz.prog 57 [(eSu8 a0)] { r:=(ow 2000000),ms:=[],fs:=[(0,[eT_Su8_i64_u64_Z r])] }:=by
 refine den_ofX (rs:=[(ow 2000000)]) (ac:=spec_l01From_c) (L:=spec_l01From_L) (n:=38) (m:=[]) (c:=Tryz.f57.body.getD .skip) good Tryz.func57 (by kernel_rfl) (by kernel_rfl) Tryz.ntmps57 rfl rfl (by kernel_rfl) rfl ?_
 refine ns ⟨[(0,eSu8 a0)],[]⟩ ?_
 unfold spec_l01From_c
 refine sr (vr (.raw (.pointer none)) (nk ⟨[(0,eSu8 a0)],[]⟩ (sr (vr (eSu8 a0) (vr (eSu8 a0) (vq (i6 (a0.length:Int)) (len_run rfl rfl) trivial (vr (.int .u64 (IntKind.u64.wrap (a0.length:Int))) ?_)))))))
 obtain ⟨x1,hx2,h⟩:=letp_some h
 refine a_val' (v:=(.int .u64 (IntKind.u64.wrap (12251 + (IntKind.u64.wrap (a0.length:Int)))))) (v':=(.int .u64 x1)) (u:=[]) (u':=[]) rfl (congrArg (fun z=>((.int .u64 z):AV)) hx2) rfl trivial rfl (vq (eT_Su8_i64_u64_Z ((a0,(0:Int),x1))) rfl ⟨rfl,(all_cons ⟨(Nat.le_of_ble_eq_true rfl),rfl⟩ (all_cons ⟨(Nat.le_of_ble_eq_true rfl),rfl⟩ all_nil))⟩ (vo 2100 (eT_Su8_i64_u64_Z ((a0,(0:Int),x1))) rfl rfl (vr (ow 2100) (nk ⟨[(0,eSu8 a0),(3,ow 3)],[(3,bk (eT_Su8_i64_u64_Z ((a0,(0:Int),x1))))]⟩ ?_))))
 obtain ⟨y67,hy68,hk69⟩:=bind_some h
 clear h
 refine a_join (emb:=fun (s:((List Int)×Int×Int))=>⟨[(3,ow 3)],[(3,bk (eT_Su8_i64_u64_Z s))]⟩) (pre:=fun s=>s=y67) ?_ ?_
 ·rintro x66 rfl
  have h:=hk69
  refine ns ⟨[(3,ow 3)],[(3,bk (eT_Su8_i64_u64_Z x66))]⟩ (sr (vr (ow 3) (vr (ow 3) (nx _ rfl (a_ret ?_)))))
  refine ⟨.inr rfl,?_⟩
  rw [Tryz.results57]
  cases h
  exact ⟨[some 3],⟨_,_,_,_,_,rfl,trivial,rfl,.inr (.inr (.inl ⟨_,_,_,_,rfl,rfl,rfl,rfl,rfl,⟨rfl,rfl,rfl⟩⟩))⟩,rfl,rfl⟩
 ·have h:=hy68
  refine sr (vr (i6 0) (nk ⟨[(0,eSu8 a0),(3,ow 3),(4,i6 0)],[(3,bk (eT_Su8_i64_u64_Z ((a0,(0:Int),x1))))]⟩ (a_block ?_)))
  refine a_loop (emb:=fun (s:(Int×((List Int)×Int×Int)))=>⟨[(0,eSu8 a0),(3,ow 3),(4,i6 s.1)],[(3,bk (eT_Su8_i64_u64_Z s.2))]⟩) (body:=(fun s:(Int×((List Int)×Int×Int))=>spec_l01From_l1 a0 s.1 s.2)) (G:=fun q=>some q=some y67) h rfl ?_ (by kernel_rfl)
  rintro X110 ⟨x89,x90⟩ x111 h hX112
  have h:spec_l01From_l1 a0 x89 x90=some x111:=h
  refine ns ⟨[(0,eSu8 a0),(3,ow 3),(4,i6 x89)],[(3,bk (eT_Su8_i64_u64_Z x90))]⟩ (a_seq ?_)
  obtain ⟨y115,hy116,hk117⟩:=bind_some h
  clear h
  refine a_join (emb:=fun (s:Bool)=>⟨[(0,eSu8 a0),(3,ow 3),(4,i6 x89),(19,.bool s)],[(3,bk (eT_Su8_i64_u64_Z x90))]⟩) (pre:=fun s=>s=y115) ?_ ?_
  ·rintro x114 rfl
   have h:=hk117
   refine ns ⟨[(0,eSu8 a0),(3,ow 3),(4,i6 x89),(19,.bool x114)],[(3,bk (eT_Su8_i64_u64_Z x90))]⟩ ?_
   cases hb119:x114
   ·have h:=ite_f hb119 h
    refine a_cond_f rfl (a_exit (t_exit ?_))
    cases h
    have h:=hX112
    refine t_exit (b_exit ?_)
    exact jl x90 h
   ·have h:=ite_t hb119 h
    refine a_cond_t rfl (a_skip (nj ⟨[(0,eSu8 a0),(3,ow 3),(4,i6 x89)],[(3,bk (eT_Su8_i64_u64_Z x90))]⟩ (a_seq (a_block (a_draw [⟨[],[],[3],[]⟩,⟨[],[],[3],[]⟩,⟨[3],[],[3],[1]⟩,⟨[3],[],[3],[1,2]⟩,⟨[3],[],[],[1,2,3]⟩,⟨[],[],[],[1,2,3,4]⟩,⟨[],[],[],[]⟩,⟨[],[],[],[]⟩,⟨[],[],[],[6,7]⟩,⟨[],[],[],[6,7,8]⟩,⟨[],[],[],[6,7,8,9]⟩,⟨[],[],[],[1,2,3,4,5,6,7,8,9,10]⟩,⟨[],[],[],[1,2,3,4,5,6,7,8,9,10,11]⟩,⟨[3],[],[3],[0,1,2,3,4,5,6,7,8,9,10,11,12]⟩,⟨[3],[],[3],[0,1,2,3,4,5,6,7,8,9,10,11,12,13]⟩,⟨[3],[3],[],[0,1,2,3,4,5,6,7,8,9,10,11,12,13,14]⟩] (by kernel_rfl) (dj (ow 3) rfl (dj (ow 3) rfl (dj (ow 3) rfl (d_cons ?_)))))))))
    refine vb (.own 3 [2] [2]) rfl rfl (dn (d_cons ?_))
    have hl126:LdOk [2] (eT_Su8_i64_u64_Z x90) [2] 1 false (.int .u64 x90.2.2):=(.fld rfl rfl rfl rfl (.nil rfl rfl rfl))
    refine vq (.int .u64 x90.2.2) (ld_own (i:=⟨.int .u64,1,8,(.int .u64 0)⟩) rfl rfl rfl hl126) hl126.c (dn (dj (.int .u64 (IntKind.u64.wrap (x90.2.2*1099511628211))) rfl (dj (eSu8 a0) rfl (dj (i6 x89) rfl (d_cons ?_)))))
    obtain ⟨hc127,h⟩:=ifp_some h
    refine vq (.ref (.row 1 (a0.map (AV.int .u8))) [x89.toNat] [x89.toNat*1]) rfl (lmap hc127) (dn (d_cons ?_))
    have hl128:LdOk [x89.toNat] (.row 1 (a0.map (AV.int .u8))) [x89.toNat*1] 1 false (b8 (rd a0 x89.toNat)):=(.row (llt hc127) rfl (.nil rfl rfl rfl))
    refine vq (b8 (rd a0 x89.toNat)) (ld_ref (i:=⟨.int .u8,1,1,(.int .u8 0)⟩) rfl rfl hl128) hl128.c (dn (dj (.int .u64 (IntKind.u64.wrap (rd a0 x89.toNat))) rfl (d_cons ?_)))
    obtain ⟨x129,hx130,h⟩:=letp_some h
    refine a_val' (v:=(.int .u64 (IntKind.u64.wrap ((IntKind.u64.wrap (x90.2.2*1099511628211)) + (IntKind.u64.wrap (rd a0 x89.toNat)))))) (v':=(.int .u64 x129)) (u:=[]) (u':=[]) rfl (congrArg (fun z=>((.int .u64 z):AV)) hx130) rfl trivial rfl (dn (dj (.int .u64 (IntKind.u64.wrap (x129 + 61))) rfl (dj (ow 3) rfl (d_cons (vb (.own 3 [2] [2]) rfl rfl (dn (d_cons ?_)))))))
    have hs131:StOk [2] (eT_Su8_i64_u64_Z x90) [2] 1 (.int .u64 (IntKind.u64.wrap (x129 + 61))) (eT_Su8_i64_u64_Z ((x90.1,x90.2.1,IntKind.u64.wrap (x129 + 61)))):=(.fld rfl rfl rfl rfl (.nil rfl rfl rfl rfl))
    refine vu .top [(3,bk (eT_Su8_i64_u64_Z ((x90.1,x90.2.1,IntKind.u64.wrap (x129 + 61)))))] (st_own (i:=⟨.int .u64,1,8,(.int .u64 0)⟩) rfl rfl (fun _=>rfl) rfl hs131) (hs131.c rfl) rfl (dn (d_nil (b_norm (nj ⟨[(0,eSu8 a0),(3,ow 3),(4,i6 x89)],[(3,bk (eT_Su8_i64_u64_Z ((x90.1,x90.2.1,IntKind.u64.wrap (x129 + 61)))))]⟩ (a_region (vr (i6 x89) (vr (i6 (IntKind.i64.wrap (x89 + 1))) (vr (i6 (IntKind.i64.wrap (x89 + 1))) (a_nil ?_)))))))))
    cases h
    exact ag hX112
  ·have h:=hy116
   refine a_region (vr (i6 x89) (vr (eSu8 a0) (vq (i6 (a0.length:Int)) (len_run rfl rfl) trivial (vr (.bool ((decide (x89 < (a0.length:Int))))) (vr (.bool ((decide (x89 < (a0.length:Int))))) ?_)))))
   cases hb118:(decide (x89 < (a0.length:Int)))
   ·have h:=ite_f hb118 h
    refine a_gskip rfl (a_gskip rfl (vr (.bool false) (a_nil ?_)))
    exact jl false h
   ·have h:=ite_t hb118 h
    refine gp (i6 x89) rfl rfl (gp (.bool ((decide (x89 < 4096)))) rfl rfl (vr (.bool ((decide (x89 < 4096)))) (a_nil ?_)))
    exact jl ((decide (x89 < 4096))) h
noncomputable def spec_l01Next_of_src_c:ACode:=strip [] (Tryz.f78.body.getD .skip)
def spec_l01Next_of_src_L:Live:=[(0,[0,1]),(1,[0,1]),(2,[]),(3,[0,1]),(4,[0,1]),(5,[0,1,5]),(6,[0,1,5]),(7,[0,1,5]),(8,[1,5]),(100007,[0,1,7]),(100033,[0,1,5,33])]
noncomputable def spec_l01Next_of_src (a0:((List Int)×Int×Int)) (a1:Int):Option (Int×((List Int)×Int×Int)) :=
 (if (decide (a1 < 1)) then (some (0,a0)) else (letp (IntKind.u64.wrap ((IntKind.u64.wrap (a0.2.2*6364136223846793005)) + 1442695040888963407)) fun x3=>(letp (IntKind.u64.wrap (BitVec.ofInt IntKind.u64.bits (Int.fdiv x3 (2 ^ (min (33:Int).toNat IntKind.u64.bits))) &&& BitVec.ofInt IntKind.u64.bits 16777215).toNat) fun x7=>(Option.bind (α:=(Int×((List Int)×Int×Int))) ((if (decide (a0.2.1 < (a0.1.length:Int))) then (ifp (0≤a0.2.1∧a0.2.1 < ((a0.1.length:Nat):Int)) ((letp (IntKind.i64.wrap ((IntKind.i64.wrap x7) + (IntKind.i64.wrap (rd a0.1 a0.2.1.toNat)))) fun x48=>(some ((x48,(a0.1,IntKind.i64.wrap (a0.2.1 + 1),x3))))))) else (some ((IntKind.i64.wrap x7,(a0.1,a0.2.1,x3)))))) fun ⟨x28,x29⟩=>(ifp (a1 ≠ 0) ((some (Int.tmod x28 a1,x29))))))))
theorem spec_l01Next_of_src_ok (a0:((List Int)×Int×Int)) (a1:Int) (r:(Int×((List Int)×Int×Int))) (h:spec_l01Next_of_src a0 a1=some r):Den Tryz.prog 78 [(.mutp (eT_Su8_i64_u64_Z a0)),(i6 a1)] { r:=(i6 r.1),ms:=[(eT_Su8_i64_u64_Z r.2)],fs:=[] }:=by
 refine den_ofX (rs:=[(i6 r.1)]) (ac:=spec_l01Next_of_src_c) (L:=spec_l01Next_of_src_L) (n:=58) (m:=[]) (c:=Tryz.f78.body.getD .skip) good Tryz.func78 (by kernel_rfl) (by kernel_rfl) Tryz.ntmps78 rfl rfl (by kernel_rfl) rfl ?_
 refine ns ⟨[(0,ow 1000000),(1,i6 a1)],[(1000000,bk (eT_Su8_i64_u64_Z a0))]⟩ ?_
 unfold spec_l01Next_of_src_c
 refine sr (vr (i6 0) (nk ⟨[(0,ow 1000000),(1,i6 a1)],[(1000000,bk (eT_Su8_i64_u64_Z a0))]⟩ (a_seq (sr (vr (i6 a1) (vr (.bool ((decide (a1 < 1)))) (nk ⟨[(0,ow 1000000),(1,i6 a1),(7,.bool ((decide (a1 < 1))))],[(1000000,bk (eT_Su8_i64_u64_Z a0))]⟩ ?_)))))))
 cases hb1:(decide (a1 < 1))
 ·have h:=ite_f hb1 h
  refine a_cond_f rfl (a_skip (nj ⟨[(0,ow 1000000),(1,i6 a1)],[(1000000,bk (eT_Su8_i64_u64_Z a0))]⟩ (sr (vr (ow 1000000) (vr (ow 1000000) (vr (ow 1000000) (vb (.own 1000000 [2] [2]) rfl rfl ?_)))))))
  have hl2:LdOk [2] (eT_Su8_i64_u64_Z a0) [2] 1 false (.int .u64 a0.2.2):=(.fld rfl rfl rfl rfl (.nil rfl rfl rfl))
  refine vq (.int .u64 a0.2.2) (ld_own (i:=⟨.int .u64,1,8,(.int .u64 0)⟩) rfl rfl rfl hl2) hl2.c (vr (.int .u64 (IntKind.u64.wrap (a0.2.2*6364136223846793005))) ?_)
  obtain ⟨x3,hx4,h⟩:=letp_some h
  refine a_val' (v:=(.int .u64 (IntKind.u64.wrap ((IntKind.u64.wrap (a0.2.2*6364136223846793005)) + 1442695040888963407)))) (v':=(.int .u64 x3)) (u:=[]) (u':=[]) rfl (congrArg (fun z=>((.int .u64 z):AV)) hx4) rfl trivial rfl (vr (ow 1000000) (vb (.own 1000000 [2] [2]) rfl rfl ?_))
  have hs5:StOk [2] (eT_Su8_i64_u64_Z a0) [2] 1 (.int .u64 x3) (eT_Su8_i64_u64_Z (a0.1,a0.2.1,x3)):=(.fld rfl rfl rfl rfl (.nil rfl rfl rfl rfl))
  refine vu .top [(1000000,bk (eT_Su8_i64_u64_Z (a0.1,a0.2.1,x3)))] (st_own (i:=⟨.int .u64,1,8,(.int .u64 0)⟩) rfl rfl (fun _=>rfl) rfl hs5) (hs5.c rfl) rfl (nk ⟨[(0,ow 1000000),(1,i6 a1)],[(1000000,bk (eT_Su8_i64_u64_Z (a0.1,a0.2.1,x3)))]⟩ (sr (vr (ow 1000000) (vr (ow 1000000) (vb (.own 1000000 [2] [2]) rfl rfl ?_)))))
  have hl6:LdOk [2] (eT_Su8_i64_u64_Z (a0.1,a0.2.1,x3)) [2] 1 false (.int .u64 x3):=(.fld rfl rfl rfl rfl (.nil rfl rfl rfl))
  refine vq (.int .u64 x3) (ld_own (i:=⟨.int .u64,1,8,(.int .u64 0)⟩) rfl rfl rfl hl6) hl6.c (vq (.int .u64 (Int.fdiv x3 (2 ^ (min (33:Int).toNat IntKind.u64.bits)))) rfl (by decide) ?_)
  obtain ⟨x7,hx8,h⟩:=letp_some h
  refine a_val' (v:=(.int .u64 (IntKind.u64.wrap (BitVec.ofInt IntKind.u64.bits (Int.fdiv x3 (2 ^ (min (33:Int).toNat IntKind.u64.bits))) &&& BitVec.ofInt IntKind.u64.bits 16777215).toNat))) (v':=(.int .u64 x7)) (u:=[]) (u':=[]) rfl (congrArg (fun z=>((.int .u64 z):AV)) hx8) rfl trivial rfl (vr (i6 (IntKind.i64.wrap x7)) (vr (i6 (IntKind.i64.wrap x7)) (nk ⟨[(0,ow 1000000),(1,i6 a1),(5,i6 (IntKind.i64.wrap x7))],[(1000000,bk (eT_Su8_i64_u64_Z (a0.1,a0.2.1,x3)))]⟩ ?_)))
  obtain ⟨y30,hy31,hk32⟩:=bind_some h
  clear h
  refine a_join (emb:=fun (s:(Int×((List Int)×Int×Int)))=>⟨[(1,i6 a1),(5,i6 s.1)],[(1000000,bk (eT_Su8_i64_u64_Z s.2))]⟩) (pre:=fun s=>s=y30) ?_ ?_
  ·rintro ⟨x28,x29⟩ rfl
   have h:=hk32
   refine ns ⟨[(1,i6 a1),(5,i6 x28)],[(1000000,bk (eT_Su8_i64_u64_Z x29))]⟩ (sr (vr (i6 x28) (vr (i6 a1) ?_)))
   obtain ⟨hc52,h⟩:=ifp_some h
   refine vq (i6 (Int.tmod x28 a1)) rfl hc52 (vr (i6 (Int.tmod x28 a1)) (nx _ rfl (a_ret ?_)))
   refine ⟨.inr rfl,?_⟩
   rw [Tryz.results78]
   cases h
   exact ⟨[],⟨_,_,_,_,_,rfl,trivial,rfl,.inl ⟨rfl,.inl rfl,⟨rfl,rfl,rfl⟩⟩⟩,rfl,⟨_,_,rfl,rfl,rfl⟩⟩
  ·have h:=hy31
   refine a_seq (a_draw [⟨[],[],[1000000],[]⟩,⟨[1000000],[],[1000000],[0]⟩,⟨[1000000],[],[1000000],[0,1]⟩,⟨[1000000],[],[],[0,1,2]⟩,⟨[],[],[1000000],[]⟩,⟨[1000000],[],[1000000],[4]⟩,⟨[1000000],[],[1000000],[4,5]⟩,⟨[1000000],[],[],[4,5,6]⟩,⟨[],[],[],[4,5,6,7]⟩,⟨[],[],[],[0,1,2,3,4,5,6,7,8]⟩] (by kernel_rfl) (dj (ow 1000000) rfl (dj (ow 1000000) rfl (d_cons (vb (.own 1000000 [1] [1]) rfl rfl (dn (d_cons ?_)))))))
   have hl35:LdOk [1] (eT_Su8_i64_u64_Z (a0.1,a0.2.1,x3)) [1] 1 false (i6 a0.2.1):=(.fld rfl rfl rfl rfl (.nil rfl rfl rfl))
   refine vq (i6 a0.2.1) (ld_own (i:=⟨.int .i64,1,8,(.int .i64 0)⟩) rfl rfl rfl hl35) hl35.c (dn (dj (ow 1000000) rfl (dj (ow 1000000) rfl (d_cons (vb (.own 1000000 [0] [0]) rfl rfl (dn (d_cons ?_)))))))
   have hl36:LdOk [0] (eT_Su8_i64_u64_Z (a0.1,a0.2.1,x3)) [0] 1 false (eSu8 a0.1):=(.fld rfl rfl rfl rfl (.nil rfl rfl rfl))
   refine vq (eSu8 a0.1) (ld_own (i:=⟨.slice 5,1,24,(eSu8 [])⟩) rfl rfl rfl hl36) hl36.c (dn (d_cons (vq (i6 (a0.1.length:Int)) (len_run rfl rfl) trivial (dn (dj (.bool ((decide (a0.2.1 < (a0.1.length:Int))))) rfl (d_nil (nj ⟨[(0,ow 1000000),(1,i6 a1),(5,i6 (IntKind.i64.wrap x7)),(33,.bool ((decide (a0.2.1 < (a0.1.length:Int)))))],[(1000000,bk (eT_Su8_i64_u64_Z (a0.1,a0.2.1,x3)))]⟩ ?_)))))))
   cases hb37:(decide (a0.2.1 < (a0.1.length:Int)))
   ·have h:=ite_f hb37 h
    refine a_cond_f rfl (a_skip ?_)
    exact jl ((IntKind.i64.wrap x7,(a0.1,a0.2.1,x3))) h
   ·have h:=ite_t hb37 h
    refine a_cond_t rfl (a_seq (a_draw [⟨[],[],[],[]⟩,⟨[],[],[1000000],[]⟩,⟨[1000000],[],[1000000],[1]⟩,⟨[1000000],[],[1000000],[1,2]⟩,⟨[1000000],[],[],[1,2,3]⟩,⟨[],[],[1000000],[]⟩,⟨[1000000],[],[1000000],[5]⟩,⟨[1000000],[],[1000000],[5,6]⟩,⟨[1000000],[],[],[5,6,7]⟩,⟨[],[],[],[1,2,3,4,5,6,7,8]⟩,⟨[],[],[],[1,2,3,4,5,6,7,8,9]⟩,⟨[],[],[],[1,2,3,4,5,6,7,8,9,10]⟩,⟨[],[],[],[0,1,2,3,4,5,6,7,8,9,10,11]⟩,⟨[],[],[],[0,1,2,3,4,5,6,7,8,9,10,11,12]⟩] (by kernel_rfl) (dj (i6 (IntKind.i64.wrap x7)) rfl (dj (ow 1000000) rfl (dj (ow 1000000) rfl (d_cons (vb (.own 1000000 [0] [0]) rfl rfl (dn (d_cons ?_)))))))))
    have hl44:LdOk [0] (eT_Su8_i64_u64_Z (a0.1,a0.2.1,x3)) [0] 1 false (eSu8 a0.1):=(.fld rfl rfl rfl rfl (.nil rfl rfl rfl))
    refine vq (eSu8 a0.1) (ld_own (i:=⟨.slice 5,1,24,(eSu8 [])⟩) rfl rfl rfl hl44) hl44.c (dn (dj (ow 1000000) rfl (dj (ow 1000000) rfl (d_cons (vb (.own 1000000 [1] [1]) rfl rfl (dn (d_cons ?_)))))))
    have hl45:LdOk [1] (eT_Su8_i64_u64_Z (a0.1,a0.2.1,x3)) [1] 1 false (i6 a0.2.1):=(.fld rfl rfl rfl rfl (.nil rfl rfl rfl))
    refine vq (i6 a0.2.1) (ld_own (i:=⟨.int .i64,1,8,(.int .i64 0)⟩) rfl rfl rfl hl45) hl45.c (dn (d_cons ?_))
    obtain ⟨hc46,h⟩:=ifp_some h
    refine vq (.ref (.row 1 (a0.1.map (AV.int .u8))) [a0.2.1.toNat] [a0.2.1.toNat*1]) rfl (lmap hc46) (dn (d_cons ?_))
    have hl47:LdOk [a0.2.1.toNat] (.row 1 (a0.1.map (AV.int .u8))) [a0.2.1.toNat*1] 1 false (b8 (rd a0.1 a0.2.1.toNat)):=(.row (llt hc46) rfl (.nil rfl rfl rfl))
    refine vq (b8 (rd a0.1 a0.2.1.toNat)) (ld_ref (i:=⟨.int .u8,1,1,(.int .u8 0)⟩) rfl rfl hl47) hl47.c (dn (dj (i6 (IntKind.i64.wrap (rd a0.1 a0.2.1.toNat))) rfl (d_cons ?_)))
    obtain ⟨x48,hx49,h⟩:=letp_some h
    refine a_val' (v:=(i6 (IntKind.i64.wrap ((IntKind.i64.wrap x7) + (IntKind.i64.wrap (rd a0.1 a0.2.1.toNat)))))) (v':=(i6 x48)) (u:=[]) (u':=[]) rfl (congrArg (fun z=>((i6 z):AV)) hx49) rfl trivial rfl (dn (dj (i6 x48) rfl (d_nil (nj ⟨[(0,ow 1000000),(1,i6 a1),(5,i6 x48)],[(1000000,bk (eT_Su8_i64_u64_Z (a0.1,a0.2.1,x3)))]⟩ (a_region (vr (ow 1000000) (vr (ow 1000000) (vr (ow 1000000) (vb (.own 1000000 [1] [1]) rfl rfl ?_)))))))))
    have hl50:LdOk [1] (eT_Su8_i64_u64_Z (a0.1,a0.2.1,x3)) [1] 1 false (i6 a0.2.1):=(.fld rfl rfl rfl rfl (.nil rfl rfl rfl))
    refine vq (i6 a0.2.1) (ld_own (i:=⟨.int .i64,1,8,(.int .i64 0)⟩) rfl rfl rfl hl50) hl50.c (vr (i6 (IntKind.i64.wrap (a0.2.1 + 1))) (vr (ow 1000000) (vb (.own 1000000 [1] [1]) rfl rfl ?_)))
    have hs51:StOk [1] (eT_Su8_i64_u64_Z (a0.1,a0.2.1,x3)) [1] 1 (i6 (IntKind.i64.wrap (a0.2.1 + 1))) (eT_Su8_i64_u64_Z ((a0.1,IntKind.i64.wrap (a0.2.1 + 1),x3))):=(.fld rfl rfl rfl rfl (.nil rfl rfl rfl rfl))
    refine vu .top [(1000000,bk (eT_Su8_i64_u64_Z ((a0.1,IntKind.i64.wrap (a0.2.1 + 1),x3))))] (st_own (i:=⟨.int .i64,1,8,(.int .i64 0)⟩) rfl rfl (fun _=>rfl) rfl hs51) (hs51.c rfl) rfl (a_nil ?_)
    exact jl ((x48,(a0.1,IntKind.i64.wrap (a0.2.1 + 1),x3))) h
 ·have h:=ite_t hb1 h
  refine a_cond_t rfl (sr (vr (i6 0) (nx _ rfl (a_ret (t_ret ?_)))))
  refine ⟨.inr rfl,?_⟩
  rw [Tryz.results78]
  cases h
  exact ⟨[],⟨_,_,_,_,_,rfl,trivial,rfl,.inl ⟨rfl,.inl rfl,⟨rfl,rfl,rfl⟩⟩⟩,rfl,⟨_,_,rfl,rfl,rfl⟩⟩
noncomputable def spec_l01Pick_of_src_c:ACode:=strip [(9,1)] (Tryz.f65.body.getD .skip)
def spec_l01Pick_of_src_L:Live:=[(0,[0,1]),(1,[0,1])]
noncomputable def spec_l01Pick_of_src (a0:((List Int)×Int×Int)) (a1:(List Int)):Option (Int×((List Int)×Int×Int)) :=
 (Option.bind (spec_l01Next_of_src a0 (a1.length:Int)) fun r1=>(ifp (0≤r1.1∧r1.1 < ((a1.length:Nat):Int)) ((some (((rd a1 r1.1.toNat),r1.2))))))
theorem spec_l01Pick_of_src_ok (a0:((List Int)×Int×Int)) (a1:(List Int)) (r:(Int×((List Int)×Int×Int))) (h:spec_l01Pick_of_src a0 a1=some r):Den Tryz.prog 65 [(.mutp (eT_Su8_i64_u64_Z a0)),(eSi64 a1)] { r:=(i6 r.1),ms:=[(eT_Su8_i64_u64_Z r.2)],fs:=[] }:=by
 refine den_ofX (rs:=[(i6 r.1)]) (ac:=spec_l01Pick_of_src_c) (L:=spec_l01Pick_of_src_L) (n:=12) (m:=[(9,1)]) (c:=Tryz.f65.body.getD .skip) good Tryz.func65 (by kernel_rfl) (by kernel_rfl) Tryz.ntmps65 rfl rfl (by kernel_rfl) rfl ?_
 refine ns ⟨[(0,ow 1000000),(1,eSi64 a1)],[(1000000,bk (eT_Su8_i64_u64_Z a0))]⟩ ?_
 unfold spec_l01Pick_of_src_c
 refine sr (vr (i6 0) (nk ⟨[(0,ow 1000000),(1,eSi64 a1)],[(1000000,bk (eT_Su8_i64_u64_Z a0))]⟩ (sr (vr (eSi64 a1) (vr (ow 1000000) (vr (eSi64 a1) (vq (i6 (a1.length:Int)) (len_run rfl rfl) trivial ?_)))))))
 obtain ⟨r1,hr2,h⟩:=bind_some h
 refine a_callM (args:=[(.mutp (eT_Su8_i64_u64_Z a0)),(i6 (a1.length:Int))]) (i:=0) (id:=1000000) (r:=(i6 r1.1)) (c:=(eT_Su8_i64_u64_Z r1.2)) rfl rfl (spec_l01Next_of_src_ok a0 (a1.length:Int) r1 hr2) rfl trivial ?_
 obtain ⟨hc4,h⟩:=ifp_some h
 refine vq (.ref (.row 1 (a1.map (AV.int .i64))) [r1.1.toNat] [r1.1.toNat*1]) rfl (lmap hc4) ?_
 have hl5:LdOk [r1.1.toNat] (.row 1 (a1.map (AV.int .i64))) [r1.1.toNat*1] 1 false (i6 (rd a1 r1.1.toNat)):=(.row (llt hc4) rfl (.nil rfl rfl rfl))
 refine vq (i6 (rd a1 r1.1.toNat)) (ld_ref (i:=⟨.int .i64,1,8,(.int .i64 0)⟩) rfl rfl hl5) hl5.c (vr (i6 (rd a1 r1.1.toNat)) (nx _ rfl (a_ret ?_)))
 refine ⟨.inr rfl,?_⟩
 rw [Tryz.results65]
 cases h
 exact ⟨[],⟨_,_,_,_,_,rfl,trivial,rfl,.inl ⟨rfl,.inl rfl,⟨rfl,rfl,rfl⟩⟩⟩,rfl,⟨_,_,rfl,rfl,rfl⟩⟩
noncomputable def spec_l01Draw_of_src_c:ACode:=strip [(13,1),(20,1),(25,1)] (Tryz.f114.body.getD .skip)
def spec_l01Draw_of_src_L:Live:=[(0,[0,1,2]),(1,[0,1,2,6]),(2,[0,1,2,6,7]),(3,[0,1,6,7,8]),(4,[0,1,6,7,8]),(5,[0,1,6,7,8]),(6,[0,1,6,7,8]),(7,[6,7]),(100016,[0,1,6,7,8,16]),(100021,[0,1,6,7,8,21])]
noncomputable def spec_l01Draw_of_src_l1 (a1:Int) (x116:Int) (x117:(Vec Int 64)) (x118:((List Int)×Int×Int)):Option ((Int×(Vec Int 64)×((List Int)×Int×Int))⊕((Vec Int 64)×((List Int)×Int×Int))) :=
 (if (decide (x116 ≥ 0)) then (Option.bind (α:=((Vec Int 64)×((List Int)×Int×Int))) ((Option.bind (spec_l01Next_of_src x118 3) fun r161=>(if (decide (r161.1 > 0)) then (Option.bind (spec_l01Next_of_src r161.2 a1) fun r165=>(ifp (0≤x116∧x116 < ((64:Nat):Int)) ((some (((vset x117 x116.toNat (IntKind.u8.wrap r165.1)),r165.2)))))) else (some (x117,r161.2))))) fun ⟨x156,x157⟩=>(some (.inl ((IntKind.i64.wrap (x116 - 1),x156,x157))))) else (some (.inr (x117,x118))))
noncomputable def spec_l01Draw_of_src (a0:((List Int)×Int×Int)) (a1:Int) (a2:Int):Option ((Vec Int 64)×((List Int)×Int×Int)) :=
 (Option.bind (α:=((Vec Int 64)×((List Int)×Int×Int))) ((Option.bind (spec_l01Next_of_src a0 (IntKind.i64.wrap (a2 + 2))) fun r89=>(loopM (fun s:(Int×(Vec Int 64)×((List Int)×Int×Int))=>spec_l01Draw_of_src_l1 a1 s.1 s.2.1 s.2.2) (IntKind.i64.wrap (r89.1 - 1),(vrep 64 (0:Int)),r89.2)))) fun ⟨x84,x85⟩=>(some (x84,x85)))
theorem spec_l01Draw_of_src_ok (a0:((List Int)×Int×Int)) (a1:Int) (a2:Int) (r:((Vec Int 64)×((List Int)×Int×Int))) (h:spec_l01Draw_of_src a0 a1 a2=some r):Den Tryz.prog 114 [(.mutp (eT_Su8_i64_u64_Z a0)),(i6 a1),(i6 a2)] { r:=(eVb r.1),ms:=[(eT_Su8_i64_u64_Z r.2)],fs:=[] }:=by
 refine den_ofX (rs:=[(eVb r.1)]) (ac:=spec_l01Draw_of_src_c) (L:=spec_l01Draw_of_src_L) (n:=29) (m:=[(13,1),(20,1),(25,1)]) (c:=Tryz.f114.body.getD .skip) good Tryz.func114 (by kernel_rfl) (by kernel_rfl) Tryz.ntmps114 rfl rfl (by kernel_rfl) rfl ?_
 refine ns ⟨[(0,ow 1000000),(1,i6 a1),(2,i6 a2)],[(1000000,bk (eT_Su8_i64_u64_Z a0))]⟩ ?_
 unfold spec_l01Draw_of_src_c
 refine sr (vo 1600 (eV0) rfl rfl (nk ⟨[(0,ow 1000000),(1,i6 a1),(2,i6 a2),(6,ow 6)],[(6,bk (eV0)),(1000000,bk (eT_Su8_i64_u64_Z a0))]⟩ (sr (vq (eV0) rfl ⟨⟨_,rfl,rfl⟩,all_nil⟩ (vo 1700 (eV0) rfl rfl (vs (eV0) rfl rfl (fun _=>rfl) rfl rfl rfl rfl rfl rfl (nk ⟨[(0,ow 1000000),(1,i6 a1),(2,i6 a2),(6,ow 6),(7,ow 7)],[(6,bk (eV0)),(7,bk (eV0)),(1000000,bk (eT_Su8_i64_u64_Z a0))]⟩ ?_)))))))
 obtain ⟨y86,hy87,hk88⟩:=bind_some h
 clear h
 refine a_join (emb:=fun (s:((Vec Int 64)×((List Int)×Int×Int)))=>⟨[(6,ow 6),(7,ow 7)],[(6,bk (eV0)),(7,bk (eVb s.1)),(1000000,bk (eT_Su8_i64_u64_Z s.2))]⟩) (pre:=fun s=>s=y86) ?_ ?_
 ·rintro ⟨x84,x85⟩ rfl
  have h:=hk88
  refine ns ⟨[(6,ow 6),(7,ow 7)],[(6,bk (eV0)),(7,bk (eVb x84)),(1000000,bk (eT_Su8_i64_u64_Z x85))]⟩ (sr (vl (eVb x84) rfl rfl rfl rfl rfl rfl (vs (eVb x84) rfl rfl (fun _=>rfl) rfl rfl rfl rfl rfl rfl (nx _ rfl (a_ret ?_)))))
  have hl173:LdOk [] (eVb x84) [] 64 true (eVb x84):=(.nil rfl rfl rfl)
  refine ⟨.inr rfl,?_⟩
  rw [Tryz.results114]
  cases h
  exact ⟨[],⟨_,_,_,_,_,ld_own (i:=⟨.arr 64 5,64,64,(eVb (vrep 64 (0:Int)))⟩) rfl rfl rfl hl173,hl173.c,rfl,.inl ⟨rfl,.inl rfl,⟨rfl,rfl,rfl⟩⟩⟩,rfl,⟨_,_,rfl,rfl,rfl⟩⟩
 ·have h:=hy87
  refine sr (vr (ow 1000000) (vr (i6 a2) (vr (i6 (IntKind.i64.wrap (a2 + 2))) ?_)))
  obtain ⟨r89,hr90,h⟩:=bind_some h
  refine a_callM (args:=[(.mutp (eT_Su8_i64_u64_Z a0)),(i6 (IntKind.i64.wrap (a2 + 2)))]) (i:=0) (id:=1000000) (r:=(i6 r89.1)) (c:=(eT_Su8_i64_u64_Z r89.2)) rfl rfl (spec_l01Next_of_src_ok a0 (IntKind.i64.wrap (a2 + 2)) r89 hr90) rfl trivial (vr (i6 (IntKind.i64.wrap (r89.1 - 1))) (vr (i6 (IntKind.i64.wrap (r89.1 - 1))) (nk ⟨[(0,ow 1000000),(1,i6 a1),(6,ow 6),(7,ow 7),(8,i6 (IntKind.i64.wrap (r89.1 - 1)))],[(6,bk (eV0)),(7,bk (eV0)),(1000000,bk (eT_Su8_i64_u64_Z r89.2))]⟩ (a_block ?_))))
  refine a_loop (emb:=fun (s:(Int×(Vec Int 64)×((List Int)×Int×Int)))=>⟨[(0,ow 1000000),(1,i6 a1),(6,ow 6),(7,ow 7),(8,i6 s.1)],[(6,bk (eV0)),(7,bk (eVb s.2.1)),(1000000,bk (eT_Su8_i64_u64_Z s.2.2))]⟩) (body:=(fun s:(Int×(Vec Int 64)×((List Int)×Int×Int))=>spec_l01Draw_of_src_l1 a1 s.1 s.2.1 s.2.2)) (G:=fun q=>some q=some y86) h rfl ?_ (by kernel_rfl)
  rintro X143 ⟨x116,x117,x118⟩ x144 h hX145
  have h:spec_l01Draw_of_src_l1 a1 x116 x117 x118=some x144:=h
  refine ns ⟨[(0,ow 1000000),(1,i6 a1),(6,ow 6),(7,ow 7),(8,i6 x116)],[(6,bk (eV0)),(7,bk (eVb x117)),(1000000,bk (eT_Su8_i64_u64_Z x118))]⟩ (a_seq (sr (vr (i6 x116) (vr (.bool ((decide (x116 ≥ 0)))) (nk ⟨[(0,ow 1000000),(1,i6 a1),(6,ow 6),(7,ow 7),(8,i6 x116),(16,.bool ((decide (x116 ≥ 0))))],[(6,bk (eV0)),(7,bk (eVb x117)),(1000000,bk (eT_Su8_i64_u64_Z x118))]⟩ ?_)))))
  cases hb146:(decide (x116 ≥ 0))
  ·have h:=ite_f hb146 h
   refine a_cond_f rfl (a_exit (t_exit ?_))
   cases h
   have h:=hX145
   refine t_exit (b_exit ?_)
   exact jl (x117,x118) h
  ·have h:=ite_t hb146 h
   refine a_cond_t rfl (a_skip (nj ⟨[(0,ow 1000000),(1,i6 a1),(6,ow 6),(7,ow 7),(8,i6 x116)],[(6,bk (eV0)),(7,bk (eVb x117)),(1000000,bk (eT_Su8_i64_u64_Z x118))]⟩ ?_))
   obtain ⟨y158,hy159,hk160⟩:=bind_some h
   clear h
   refine a_join (emb:=fun (s:((Vec Int 64)×((List Int)×Int×Int)))=>⟨[(0,ow 1000000),(1,i6 a1),(6,ow 6),(7,ow 7),(8,i6 x116)],[(6,bk (eV0)),(7,bk (eVb s.1)),(1000000,bk (eT_Su8_i64_u64_Z s.2))]⟩) (pre:=fun s=>s=y158) ?_ ?_
   ·rintro ⟨x156,x157⟩ rfl
    have h:=hk160
    refine ns ⟨[(0,ow 1000000),(1,i6 a1),(6,ow 6),(7,ow 7),(8,i6 x116)],[(6,bk (eV0)),(7,bk (eVb x156)),(1000000,bk (eT_Su8_i64_u64_Z x157))]⟩ (a_region (vr (i6 x116) (vr (i6 (IntKind.i64.wrap (x116 - 1))) (vr (i6 (IntKind.i64.wrap (x116 - 1))) (a_nil ?_)))))
    cases h
    exact ag hX145
   ·have h:=hy159
    refine a_block (sr (vr (ow 1000000) ?_))
    obtain ⟨r161,hr162,h⟩:=bind_some h
    refine a_callM (args:=[(.mutp (eT_Su8_i64_u64_Z x118)),(i6 3)]) (i:=0) (id:=1000000) (r:=(i6 r161.1)) (c:=(eT_Su8_i64_u64_Z r161.2)) rfl rfl (spec_l01Next_of_src_ok x118 3 r161 hr162) rfl trivial (vr (.bool ((decide (r161.1 > 0)))) (nk ⟨[(0,ow 1000000),(1,i6 a1),(6,ow 6),(7,ow 7),(8,i6 x116),(21,.bool ((decide (r161.1 > 0))))],[(6,bk (eV0)),(7,bk (eVb x117)),(1000000,bk (eT_Su8_i64_u64_Z r161.2))]⟩ ?_))
    cases hb164:(decide (r161.1 > 0))
    ·have h:=ite_f hb164 h
     refine a_cond_f rfl (a_skip (b_norm ?_))
     exact jl (x117,r161.2) h
    ·have h:=ite_t hb164 h
     refine a_cond_t rfl (a_region (vr (i6 x116) (vr (ow 1000000) (vr (i6 a1) ?_))))
     obtain ⟨r165,hr166,h⟩:=bind_some h
     refine a_callM (args:=[(.mutp (eT_Su8_i64_u64_Z r161.2)),(i6 a1)]) (i:=0) (id:=1000000) (r:=(i6 r165.1)) (c:=(eT_Su8_i64_u64_Z r165.2)) rfl rfl (spec_l01Next_of_src_ok r161.2 a1 r165 hr166) rfl trivial (vr (b8 (IntKind.u8.wrap r165.1)) ?_)
     obtain ⟨hc168,h⟩:=ifp_some h
     refine vq (.own 7 [x116.toNat] [x116.toNat*1]) rfl hc168 ?_
     have hs169:StOk [x116.toNat] (eVb x117) [x116.toNat*1] 1 (b8 (IntKind.u8.wrap r165.1)) (eVb ((vset x117 x116.toNat (IntKind.u8.wrap r165.1)))):=(.arr (y:=IntKind.u8.wrap r165.1) (vlt x117 hc168) rfl (.nil rfl rfl rfl rfl))
     refine vu .top [(7,bk (eVb ((vset x117 x116.toNat (IntKind.u8.wrap r165.1)))))] (st_own (i:=⟨.int .u8,1,1,(.int .u8 0)⟩) rfl rfl (fun _=>rfl) rfl hs169) (hs169.c rfl) rfl (a_nil (b_norm ?_))
     exact jl (((vset x117 x116.toNat (IntKind.u8.wrap r165.1)),r165.2)) h
def spec_l01Deg_L:Live:=[(0,[0]),(1,[1]),(2,[1,3]),(3,[1,3]),(4,[3]),(100011,[1,3,11])]
noncomputable def spec_l01Deg_l1 (a0:(Vec Int 64)) (x54:Int):Option (Int⊕Int) :=
 (Option.bind (α:=Bool) ((if (decide (x54 ≥ 0)) then (ifp (0≤x54∧x54 < ((64:Nat):Int)) ((some (((rd a0.1 x54.toNat) == 0))))) else (some false))) fun x72=>(if x72 then (some (.inl (IntKind.i64.wrap (x54 - 1)))) else (some (.inr x54))))
noncomputable def spec_l01Deg (a0:(Vec Int 64)):Option Int :=
 (Option.bind (α:=Int) ((loopM (fun s:Int=>spec_l01Deg_l1 a0 s) 63)) fun x39=>(some x39))
theorem spec_l01Deg_ok (a0:(Vec Int 64)) (r:Int) (h:spec_l01Deg a0=some r):Den Tryz.prog 62 [(eVb a0)] { r:=(i6 r) }:=by
 refine dd (rs:=[(i6 r)]) (L:=spec_l01Deg_L) good [] Tryz.func62 Tryz.ntmps62 ?_
 refine ns ⟨[(0,eVb a0)],[]⟩ ?_
 refine sr (vo 1100 (eVb a0) rfl rfl (vr (i6 0) (nk ⟨[(1,ow 1)],[(1,bk (eVb a0))]⟩ (sr (vr (i6 63) (nk ⟨[(1,ow 1),(3,i6 63)],[(1,bk (eVb a0))]⟩ ?_))))))
 obtain ⟨y40,hy41,hk42⟩:=bind_some h
 clear h
 refine a_join (emb:=fun (s:Int)=>⟨[(3,i6 s)],[]⟩) (pre:=fun s=>s=y40) ?_ ?_
 ·rintro x39 rfl
  have h:=hk42
  refine ns ⟨[(3,i6 x39)],[]⟩ (sr (vr (i6 x39) (vr (i6 x39) (nx _ rfl (a_ret ?_)))))
  refine ⟨.inr rfl,?_⟩
  rw [Tryz.results62]
  cases h
  exact ⟨_,_,_,_,_,rfl,trivial,.inl ⟨rfl,.inl rfl⟩,rfl,rfl⟩
 ·have h:=hy41
  refine a_block ?_
  refine a_loop (emb:=fun (s:Int)=>⟨[(1,ow 1),(3,i6 s)],[(1,bk (eVb a0))]⟩) (body:=(fun s:Int=>spec_l01Deg_l1 a0 s)) (G:=fun q=>some q=some y40) h rfl ?_ (by kernel_rfl)
  rintro X66 x54 x67 h hX68
  have h:spec_l01Deg_l1 a0 x54=some x67:=h
  refine ns ⟨[(1,ow 1),(3,i6 x54)],[(1,bk (eVb a0))]⟩ (a_seq ?_)
  obtain ⟨y73,hy74,hk75⟩:=bind_some h
  clear h
  refine a_join (emb:=fun (s:Bool)=>⟨[(1,ow 1),(3,i6 x54),(11,.bool s)],[(1,bk (eVb a0))]⟩) (pre:=fun s=>s=y73) ?_ ?_
  ·rintro x72 rfl
   have h:=hk75
   refine ns ⟨[(1,ow 1),(3,i6 x54),(11,.bool x72)],[(1,bk (eVb a0))]⟩ ?_
   cases hb79:x72
   ·have h:=ite_f hb79 h
    refine a_cond_f rfl (a_exit (t_exit ?_))
    cases h
    have h:=hX68
    refine t_exit (b_exit ?_)
    exact jl x54 h
   ·have h:=ite_t hb79 h
    refine a_cond_t rfl (a_skip (nj ⟨[(1,ow 1),(3,i6 x54)],[(1,bk (eVb a0))]⟩ (a_block (a_region (vr (i6 x54) (vr (i6 (IntKind.i64.wrap (x54 - 1))) (vr (i6 (IntKind.i64.wrap (x54 - 1))) (a_nil (b_norm ?_)))))))))
    cases h
    exact ag hX68
  ·have h:=hy74
   refine a_region (vr (i6 x54) (vr (.bool ((decide (x54 ≥ 0)))) (vr (.bool ((decide (x54 ≥ 0)))) ?_)))
   cases hb76:(decide (x54 ≥ 0))
   ·have h:=ite_f hb76 h
    refine a_gskip rfl (a_gskip rfl (a_gskip rfl (a_gskip rfl (vr (.bool false) (a_nil ?_)))))
    exact jl false h
   ·have h:=ite_t hb76 h
    refine gp (i6 x54) rfl rfl ?_
    obtain ⟨hc77,h⟩:=ifp_some h
    refine gq (.own 1 [x54.toNat] [x54.toNat*1]) rfl rfl hc77 ?_
    have hl78:LdOk [x54.toNat] (eVb a0) [x54.toNat*1] 1 false (b8 (rd a0.1 x54.toNat)):=(.arr (vlt a0 hc77) rfl (.nil rfl rfl rfl))
    refine gq (b8 (rd a0.1 x54.toNat)) rfl (ld_own (i:=⟨.int .u8,1,1,(.int .u8 0)⟩) rfl rfl rfl hl78) hl78.c (gp (.bool (((rd a0.1 x54.toNat) == 0))) rfl rfl (vr (.bool (((rd a0.1 x54.toNat) == 0))) (a_nil ?_)))
    exact jl (((rd a0.1 x54.toNat) == 0)) h
def spec_l01Times_L:Live:=[(0,[0,1,2]),(1,[0,4,5,6]),(2,[0,4,5,6,8,9,10]),(3,[6,10]),(4,[0,4,5,6,8,9,10]),(5,[6,10]),(6,[0,4,5,6,8,9,10]),(7,[0,4,5,6,8,9,10,11]),(8,[0,4,5,6,8,9,10,11]),(9,[0,4,5,6,8,9,10,11]),(10,[0,4,5,6,8,9,10,11,12]),(11,[0,4,5,6,8,9,10,11,12]),(12,[0,4,5,6,8,9,10,11,12]),(13,[6,10]),(100023,[0,4,5,6,8,9,10,23]),(100028,[0,4,5,6,8,9,10,28]),(100032,[0,4,5,6,8,9,10,11,32]),(100043,[0,4,5,6,8,9,10,11,12,43])]
noncomputable def spec_l01Times_l2 (r12:Int) (x1081:Int) (a1:(Vec Int 64)) (a2:(Vec Int 64)) (a0:Int) (x1524:Int) (x1525:(Vec Int 64)):Option ((Int×(Vec Int 64))⊕(Vec Int 64)) :=
 (Option.bind (α:=Bool) ((if (decide (x1524≤r12)) then (ifp (0≤x1081∧x1081 < ((64:Nat):Int)) ((some (((rd a1.1 x1081.toNat) != 0))))) else (some false))) fun x1573=>(if x1573 then (ifp (0≤IntKind.i64.wrap (x1081 + x1524)∧IntKind.i64.wrap (x1081 + x1524) < ((64:Nat):Int)) ((letp (IntKind.i64.wrap ((rd x1525.1 (IntKind.i64.wrap (x1081 + x1524)).toNat))) fun x1598=>(ifp (0≤x1081∧x1081 < ((64:Nat):Int)) ((ifp (0≤x1524∧x1524 < ((64:Nat):Int)) ((letp (IntKind.i64.wrap ((IntKind.i64.wrap (rd a1.1 x1081.toNat))*(IntKind.i64.wrap (rd a2.1 x1524.toNat)))) fun x1604=>(ifp (a0 ≠ 0) ((letp (IntKind.u8.wrap (Int.tmod (IntKind.i64.wrap (x1598 + x1604)) a0)) fun x1607=>(ifp (0≤IntKind.i64.wrap (x1081 + x1524)∧IntKind.i64.wrap (x1081 + x1524) < ((64:Nat):Int)) ((some (.inl ((IntKind.i64.wrap (x1524 + 1),(vset x1525 (IntKind.i64.wrap (x1081 + x1524)).toNat x1607)))))))))))))))))) else (some (.inr x1525))))
noncomputable def spec_l01Times_l1 (r9:Int) (r12:Int) (a1:(Vec Int 64)) (a2:(Vec Int 64)) (a0:Int) (x1081:Int) (x1082:(Vec Int 64)):Option ((Int×(Vec Int 64))⊕(Vec Int 64)) :=
 (if (decide (x1081≤r9)) then (Option.bind (α:=(Vec Int 64)) ((loopM (fun s:(Int×(Vec Int 64))=>spec_l01Times_l2 r12 x1081 a1 a2 a0 s.1 s.2) (0,x1082))) fun x1479=>(some (.inl ((IntKind.i64.wrap (x1081 + 1),x1479))))) else (some (.inr x1082)))
noncomputable def spec_l01Times (a0:Int) (a1:(Vec Int 64)) (a2:(Vec Int 64)):Option ((Vec Int 64)×Bool) :=
 (Option.bind (spec_l01Deg a1) fun r9=>(Option.bind (spec_l01Deg a2) fun r12=>(Option.bind (α:=Bool) ((if (decide (r9 < 0)) then (some true) else (some ((decide (r12 < 0)))))) fun x16=>(if x16 then (some (((vrep 64 (0:Int)),true))) else (if (decide ((IntKind.i64.wrap (r9 + r12)) > 63)) then (some (((vrep 64 (0:Int)),false))) else (Option.bind (α:=(Vec Int 64)) ((loopM (fun s:(Int×(Vec Int 64))=>spec_l01Times_l1 r9 r12 a1 a2 a0 s.1 s.2) (0,vrep 64 (0:Int)))) fun x814=>(some (x814,true))))))))
theorem spec_l01Times_ok (a0:Int) (a1:(Vec Int 64)) (a2:(Vec Int 64)) (r:((Vec Int 64)×Bool)) (h:spec_l01Times a0 a1 a2=some r):Den Tryz.prog 55 [(i6 a0),(eVb a1),(eVb a2)] { r:=(.tuple [(eVb r.1),(.bool r.2)]) }:=by
 refine dd (rs:=[(eVb r.1),(.bool r.2)]) (L:=spec_l01Times_L) good [] Tryz.func55 Tryz.ntmps55 ?_
 refine ns ⟨[(0,i6 a0),(1,eVb a1),(2,eVb a2)],[]⟩ ?_
 refine sr (vo 1400 (eVb a1) rfl rfl (vo 1500 (eVb a2) rfl rfl (vo 1600 (eV0) rfl rfl (vr (.bool false) (nk ⟨[(0,i6 a0),(4,ow 4),(5,ow 5),(6,ow 6)],[(4,bk (eVb a1)),(5,bk (eVb a2)),(6,bk (eV0))]⟩ (a_seq (a_draw [⟨[4],[],[],[]⟩,⟨[],[],[],[0]⟩,⟨[5],[],[],[]⟩,⟨[],[],[],[0,1,2]⟩,⟨[],[],[],[]⟩,⟨[2000],[2000],[2000],[]⟩,⟨[],[],[],[0,1,2,3,5]⟩,⟨[],[],[],[0,1,2,3,5,6]⟩,⟨[2000],[2000],[],[0,1,2,3,4,5,6,7]⟩] (by kernel_rfl) (d_cons (vl (eVb a1) rfl rfl rfl rfl rfl rfl ?_)))))))))
 refine dn (d_cons ?_)
 obtain ⟨r9,hr10,h⟩:=bind_some h
 refine ca (spec_l01Deg_ok a1 r9 hr10) (dn (d_cons (vl (eVb a2) rfl rfl rfl rfl rfl rfl (dn (d_cons ?_)))))
 obtain ⟨r12,hr13,h⟩:=bind_some h
 refine ca (spec_l01Deg_ok a2 r12 hr13) (dn (d_cons (vq (eV0) rfl ⟨⟨_,rfl,rfl⟩,all_nil⟩ (dn (d_cons (vo 2000 (eV0) rfl rfl (dn (dj (i6 r9) rfl (dj (i6 r12) rfl ?_)))))))))
 refine d_cons (vs (eV0) rfl rfl (fun _=>rfl) rfl rfl rfl rfl rfl rfl (dn (d_nil (nj ⟨[(0,i6 a0),(4,ow 4),(5,ow 5),(6,ow 6),(8,i6 r9),(9,i6 r12),(10,ow 10)],[(4,bk (eVb a1)),(5,bk (eVb a2)),(6,bk (eV0)),(10,bk (eV0))]⟩ (a_seq ?_)))))
 obtain ⟨y17,hy18,hk19⟩:=bind_some h
 clear h
 refine a_join (emb:=fun (s:Bool)=>⟨[(0,i6 a0),(4,ow 4),(5,ow 5),(6,ow 6),(8,i6 r9),(9,i6 r12),(10,ow 10),(23,.bool s)],[(4,bk (eVb a1)),(5,bk (eVb a2)),(6,bk (eV0)),(10,bk (eV0))]⟩) (pre:=fun s=>s=y17) ?_ ?_
 ·rintro x16 rfl
  have h:=hk19
  refine ns ⟨[(0,i6 a0),(4,ow 4),(5,ow 5),(6,ow 6),(8,i6 r9),(9,i6 r12),(10,ow 10),(23,.bool x16)],[(4,bk (eVb a1)),(5,bk (eVb a2)),(6,bk (eV0)),(10,bk (eV0))]⟩ ?_
  cases hb21:x16
  ·have h:=ite_f hb21 h
   refine a_cond_f rfl (a_skip (nj ⟨[(0,i6 a0),(4,ow 4),(5,ow 5),(6,ow 6),(8,i6 r9),(9,i6 r12),(10,ow 10)],[(4,bk (eVb a1)),(5,bk (eVb a2)),(6,bk (eV0)),(10,bk (eV0))]⟩ (a_seq (sr (vr (i6 r9) (vr (i6 r12) (vr (i6 (IntKind.i64.wrap (r9 + r12))) (vr (.bool ((decide ((IntKind.i64.wrap (r9 + r12)) > 63)))) (nk ⟨[(0,i6 a0),(4,ow 4),(5,ow 5),(6,ow 6),(8,i6 r9),(9,i6 r12),(10,ow 10),(28,.bool ((decide ((IntKind.i64.wrap (r9 + r12)) > 63))))],[(4,bk (eVb a1)),(5,bk (eVb a2)),(6,bk (eV0)),(10,bk (eV0))]⟩ ?_)))))))))
   cases hb22:(decide ((IntKind.i64.wrap (r9 + r12)) > 63))
   ·have h:=ite_f hb22 h
    refine a_cond_f rfl (a_skip (nj ⟨[(0,i6 a0),(4,ow 4),(5,ow 5),(6,ow 6),(8,i6 r9),(9,i6 r12),(10,ow 10)],[(4,bk (eVb a1)),(5,bk (eVb a2)),(6,bk (eV0)),(10,bk (eV0))]⟩ ?_))
    obtain ⟨y815,hy816,hk817⟩:=bind_some h
    clear h
    refine a_join (emb:=fun (s:(Vec Int 64))=>⟨[(6,ow 6),(10,ow 10)],[(6,bk (eV0)),(10,bk (eVb s))]⟩) (pre:=fun s=>s=y815) ?_ ?_
    ·rintro x814 rfl
     have h:=hk817
     refine ns ⟨[(6,ow 6),(10,ow 10)],[(6,bk (eV0)),(10,bk (eVb x814))]⟩ (sr (vl (eVb x814) rfl rfl rfl rfl rfl rfl (vs (eVb x814) rfl rfl (fun _=>rfl) rfl rfl rfl rfl rfl rfl (vr (.bool true) (nx _ rfl (a_ret ?_))))))
     have hl1615:LdOk [] (eVb x814) [] 64 true (eVb x814):=(.nil rfl rfl rfl)
     refine ⟨.inr rfl,?_⟩
     rw [Tryz.results55]
     cases h
     exact ⟨_,_,_,_,_,ld_own (i:=⟨.arr 64 5,64,64,(eVb (vrep 64 (0:Int)))⟩) rfl rfl rfl hl1615,hl1615.c,.inl ⟨rfl,.inl rfl⟩,rfl,⟨_,_,_,_,_,rfl,trivial,.inl ⟨rfl,.inl rfl⟩,rfl,rfl⟩⟩
    ·have h:=hy816
     refine sr (vr (i6 0) (nk ⟨[(0,i6 a0),(4,ow 4),(5,ow 5),(6,ow 6),(8,i6 r9),(9,i6 r12),(10,ow 10),(11,i6 0)],[(4,bk (eVb a1)),(5,bk (eVb a2)),(6,bk (eV0)),(10,bk (eV0))]⟩ (a_block ?_)))
     refine a_loop (emb:=fun (s:(Int×(Vec Int 64)))=>⟨[(0,i6 a0),(4,ow 4),(5,ow 5),(6,ow 6),(8,i6 r9),(9,i6 r12),(10,ow 10),(11,i6 s.1)],[(4,bk (eVb a1)),(5,bk (eVb a2)),(6,bk (eV0)),(10,bk (eVb s.2))]⟩) (body:=(fun s:(Int×(Vec Int 64))=>spec_l01Times_l1 r9 r12 a1 a2 a0 s.1 s.2)) (G:=fun q=>some q=some y815) h rfl ?_ (by kernel_rfl)
     rintro X1346 ⟨x1081,x1082⟩ x1347 h hX1348
     have h:spec_l01Times_l1 r9 r12 a1 a2 a0 x1081 x1082=some x1347:=h
     refine ns ⟨[(0,i6 a0),(4,ow 4),(5,ow 5),(6,ow 6),(8,i6 r9),(9,i6 r12),(10,ow 10),(11,i6 x1081)],[(4,bk (eVb a1)),(5,bk (eVb a2)),(6,bk (eV0)),(10,bk (eVb x1082))]⟩ (a_seq (sr (vr (i6 x1081) (vr (i6 r9) (vr (.bool ((decide (x1081≤r9)))) (nk ⟨[(0,i6 a0),(4,ow 4),(5,ow 5),(6,ow 6),(8,i6 r9),(9,i6 r12),(10,ow 10),(11,i6 x1081),(32,.bool ((decide (x1081≤r9))))],[(4,bk (eVb a1)),(5,bk (eVb a2)),(6,bk (eV0)),(10,bk (eVb x1082))]⟩ ?_))))))
     cases hb1349:(decide (x1081≤r9))
     ·have h:=ite_f hb1349 h
      refine a_cond_f rfl (a_exit (t_exit ?_))
      cases h
      have h:=hX1348
      refine t_exit (b_exit ?_)
      exact jl x1082 h
     ·have h:=ite_t hb1349 h
      refine a_cond_t rfl (a_skip (nj ⟨[(0,i6 a0),(4,ow 4),(5,ow 5),(6,ow 6),(8,i6 r9),(9,i6 r12),(10,ow 10),(11,i6 x1081)],[(4,bk (eVb a1)),(5,bk (eVb a2)),(6,bk (eV0)),(10,bk (eVb x1082))]⟩ ?_))
      obtain ⟨y1480,hy1481,hk1482⟩:=bind_some h
      clear h
      refine a_join (emb:=fun (s:(Vec Int 64))=>⟨[(0,i6 a0),(4,ow 4),(5,ow 5),(6,ow 6),(8,i6 r9),(9,i6 r12),(10,ow 10),(11,i6 x1081)],[(4,bk (eVb a1)),(5,bk (eVb a2)),(6,bk (eV0)),(10,bk (eVb s))]⟩) (pre:=fun s=>s=y1480) ?_ ?_
      ·rintro x1479 rfl
       have h:=hk1482
       refine ns ⟨[(0,i6 a0),(4,ow 4),(5,ow 5),(6,ow 6),(8,i6 r9),(9,i6 r12),(10,ow 10),(11,i6 x1081)],[(4,bk (eVb a1)),(5,bk (eVb a2)),(6,bk (eV0)),(10,bk (eVb x1479))]⟩ (a_region (vr (i6 x1081) (vr (i6 (IntKind.i64.wrap (x1081 + 1))) (vr (i6 (IntKind.i64.wrap (x1081 + 1))) (a_nil ?_)))))
       cases h
       exact ag hX1348
      ·have h:=hy1481
       refine a_block (sr (vr (i6 0) (nk ⟨[(0,i6 a0),(4,ow 4),(5,ow 5),(6,ow 6),(8,i6 r9),(9,i6 r12),(10,ow 10),(11,i6 x1081),(12,i6 0)],[(4,bk (eVb a1)),(5,bk (eVb a2)),(6,bk (eV0)),(10,bk (eVb x1082))]⟩ (a_block ?_))))
       refine a_loop (emb:=fun (s:(Int×(Vec Int 64)))=>⟨[(0,i6 a0),(4,ow 4),(5,ow 5),(6,ow 6),(8,i6 r9),(9,i6 r12),(10,ow 10),(11,i6 x1081),(12,i6 s.1)],[(4,bk (eVb a1)),(5,bk (eVb a2)),(6,bk (eV0)),(10,bk (eVb s.2))]⟩) (body:=(fun s:(Int×(Vec Int 64))=>spec_l01Times_l2 r12 x1081 a1 a2 a0 s.1 s.2)) (G:=fun q=>some q=some y1480) h rfl ?_ (by kernel_rfl)
       rintro X1567 ⟨x1524,x1525⟩ x1568 h hX1569
       have h:spec_l01Times_l2 r12 x1081 a1 a2 a0 x1524 x1525=some x1568:=h
       refine ns ⟨[(0,i6 a0),(4,ow 4),(5,ow 5),(6,ow 6),(8,i6 r9),(9,i6 r12),(10,ow 10),(11,i6 x1081),(12,i6 x1524)],[(4,bk (eVb a1)),(5,bk (eVb a2)),(6,bk (eV0)),(10,bk (eVb x1525))]⟩ (a_seq ?_)
       obtain ⟨y1574,hy1575,hk1576⟩:=bind_some h
       clear h
       refine a_join (emb:=fun (s:Bool)=>⟨[(0,i6 a0),(4,ow 4),(5,ow 5),(6,ow 6),(8,i6 r9),(9,i6 r12),(10,ow 10),(11,i6 x1081),(12,i6 x1524),(43,.bool s)],[(4,bk (eVb a1)),(5,bk (eVb a2)),(6,bk (eV0)),(10,bk (eVb x1525))]⟩) (pre:=fun s=>s=y1574) ?_ ?_
       ·rintro x1573 rfl
        have h:=hk1576
        refine ns ⟨[(0,i6 a0),(4,ow 4),(5,ow 5),(6,ow 6),(8,i6 r9),(9,i6 r12),(10,ow 10),(11,i6 x1081),(12,i6 x1524),(43,.bool x1573)],[(4,bk (eVb a1)),(5,bk (eVb a2)),(6,bk (eV0)),(10,bk (eVb x1525))]⟩ ?_
        cases hb1580:x1573
        ·have h:=ite_f hb1580 h
         refine a_cond_f rfl (a_exit (t_exit ?_))
         cases h
         have h:=hX1569
         refine t_exit (b_exit (b_norm ?_))
         exact jl x1525 h
        ·have h:=ite_t hb1580 h
         refine a_cond_t rfl (a_skip (nj ⟨[(0,i6 a0),(4,ow 4),(5,ow 5),(6,ow 6),(8,i6 r9),(9,i6 r12),(10,ow 10),(11,i6 x1081),(12,i6 x1524)],[(4,bk (eVb a1)),(5,bk (eVb a2)),(6,bk (eV0)),(10,bk (eVb x1525))]⟩ (a_seq (a_block (a_draw [⟨[],[],[],[]⟩,⟨[],[],[],[]⟩,⟨[],[],[],[0,1]⟩,⟨[],[],[],[]⟩,⟨[],[],[],[]⟩,⟨[],[],[],[3,4]⟩,⟨[10],[],[10],[3,4,5]⟩,⟨[10],[],[],[3,4,5,6]⟩,⟨[],[],[],[3,4,5,6,7]⟩,⟨[],[],[],[]⟩,⟨[4],[],[4],[9]⟩,⟨[4],[],[],[9,10]⟩,⟨[],[],[],[9,10,11]⟩,⟨[],[],[],[]⟩,⟨[5],[],[5],[13]⟩,⟨[5],[],[],[13,14]⟩,⟨[],[],[],[13,14,15]⟩,⟨[],[],[],[9,10,11,12,13,14,15,16]⟩,⟨[],[],[],[3,4,5,6,7,8,9,10,11,12,13,14,15,16,17]⟩,⟨[],[],[],[]⟩,⟨[],[],[],[3,4,5,6,7,8,9,10,11,12,13,14,15,16,17,18,19]⟩,⟨[],[],[],[3,4,5,6,7,8,9,10,11,12,13,14,15,16,17,18,19,20]⟩,⟨[10],[],[10],[0,1,2,3,4,5,6,7,8,9,10,11,12,13,14,15,16,17,18,19,20,21]⟩,⟨[10],[10],[],[0,1,2,3,4,5,6,7,8,9,10,11,12,13,14,15,16,17,18,19,20,21,22]⟩] (by kernel_rfl) (dj (i6 x1081) rfl (dj (i6 x1524) rfl (dj (i6 (IntKind.i64.wrap (x1081 + x1524))) rfl (dj (i6 x1081) rfl ?_)))))))))
         refine dj (i6 x1524) rfl (dj (i6 (IntKind.i64.wrap (x1081 + x1524))) rfl (d_cons ?_))
         obtain ⟨hc1596,h⟩:=ifp_some h
         refine vq (.own 10 [(IntKind.i64.wrap (x1081 + x1524)).toNat] [(IntKind.i64.wrap (x1081 + x1524)).toNat*1]) rfl hc1596 (dn (d_cons ?_))
         have hl1597:LdOk [(IntKind.i64.wrap (x1081 + x1524)).toNat] (eVb x1525) [(IntKind.i64.wrap (x1081 + x1524)).toNat*1] 1 false (b8 ((rd x1525.1 (IntKind.i64.wrap (x1081 + x1524)).toNat))):=(.arr (vlt x1525 hc1596) rfl (.nil rfl rfl rfl))
         refine vq (b8 ((rd x1525.1 (IntKind.i64.wrap (x1081 + x1524)).toNat))) (ld_own (i:=⟨.int .u8,1,1,(.int .u8 0)⟩) rfl rfl rfl hl1597) hl1597.c (dn (d_cons ?_))
         obtain ⟨x1598,hx1599,h⟩:=letp_some h
         refine a_val' (v:=(i6 (IntKind.i64.wrap ((rd x1525.1 (IntKind.i64.wrap (x1081 + x1524)).toNat))))) (v':=(i6 x1598)) (u:=[]) (u':=[]) rfl (congrArg (fun z=>((i6 z):AV)) hx1599) rfl trivial rfl (dn (dj (i6 x1081) rfl (d_cons ?_)))
         obtain ⟨hc1600,h⟩:=ifp_some h
         refine vq (.own 4 [x1081.toNat] [x1081.toNat*1]) rfl hc1600 (dn (d_cons ?_))
         have hl1601:LdOk [x1081.toNat] (eVb a1) [x1081.toNat*1] 1 false (b8 (rd a1.1 x1081.toNat)):=(.arr (vlt a1 hc1600) rfl (.nil rfl rfl rfl))
         refine vq (b8 (rd a1.1 x1081.toNat)) (ld_own (i:=⟨.int .u8,1,1,(.int .u8 0)⟩) rfl rfl rfl hl1601) hl1601.c (dn (dj (i6 (IntKind.i64.wrap (rd a1.1 x1081.toNat))) rfl (dj (i6 x1524) rfl (d_cons ?_))))
         obtain ⟨hc1602,h⟩:=ifp_some h
         refine vq (.own 5 [x1524.toNat] [x1524.toNat*1]) rfl hc1602 (dn (d_cons ?_))
         have hl1603:LdOk [x1524.toNat] (eVb a2) [x1524.toNat*1] 1 false (b8 (rd a2.1 x1524.toNat)):=(.arr (vlt a2 hc1602) rfl (.nil rfl rfl rfl))
         refine vq (b8 (rd a2.1 x1524.toNat)) (ld_own (i:=⟨.int .u8,1,1,(.int .u8 0)⟩) rfl rfl rfl hl1603) hl1603.c (dn (dj (i6 (IntKind.i64.wrap (rd a2.1 x1524.toNat))) rfl (d_cons ?_)))
         obtain ⟨x1604,hx1605,h⟩:=letp_some h
         refine a_val' (v:=(i6 (IntKind.i64.wrap ((IntKind.i64.wrap (rd a1.1 x1081.toNat))*(IntKind.i64.wrap (rd a2.1 x1524.toNat)))))) (v':=(i6 x1604)) (u:=[]) (u':=[]) rfl (congrArg (fun z=>((i6 z):AV)) hx1605) rfl trivial rfl (dn (dj (i6 (IntKind.i64.wrap (x1598 + x1604))) rfl (dj (i6 a0) rfl (d_cons ?_))))
         obtain ⟨hc1606,h⟩:=ifp_some h
         refine vq (i6 (Int.tmod (IntKind.i64.wrap (x1598 + x1604)) a0)) rfl hc1606 (dn (d_cons ?_))
         obtain ⟨x1607,hx1608,h⟩:=letp_some h
         refine a_val' (v:=(b8 (IntKind.u8.wrap (Int.tmod (IntKind.i64.wrap (x1598 + x1604)) a0)))) (v':=(b8 x1607)) (u:=[]) (u':=[]) rfl (congrArg (fun z=>((b8 z):AV)) hx1608) rfl trivial rfl (dn (d_cons ?_))
         obtain ⟨hc1609,h⟩:=ifp_some h
         refine vq (.own 10 [(IntKind.i64.wrap (x1081 + x1524)).toNat] [(IntKind.i64.wrap (x1081 + x1524)).toNat*1]) rfl hc1609 (dn (d_cons ?_))
         have hs1610:StOk [(IntKind.i64.wrap (x1081 + x1524)).toNat] (eVb x1525) [(IntKind.i64.wrap (x1081 + x1524)).toNat*1] 1 (b8 x1607) (eVb ((vset x1525 (IntKind.i64.wrap (x1081 + x1524)).toNat x1607))):=(.arr (y:=x1607) (vlt x1525 hc1609) rfl (.nil rfl rfl rfl rfl))
         refine vu .top [(10,bk (eVb ((vset x1525 (IntKind.i64.wrap (x1081 + x1524)).toNat x1607))))] (st_own (i:=⟨.int .u8,1,1,(.int .u8 0)⟩) rfl rfl (fun _=>rfl) rfl hs1610) (hs1610.c rfl) rfl (dn (d_nil (b_norm (nj ⟨[(0,i6 a0),(4,ow 4),(5,ow 5),(6,ow 6),(8,i6 r9),(9,i6 r12),(10,ow 10),(11,i6 x1081),(12,i6 x1524)],[(4,bk (eVb a1)),(5,bk (eVb a2)),(6,bk (eV0)),(10,bk (eVb ((vset x1525 (IntKind.i64.wrap (x1081 + x1524)).toNat x1607))))]⟩ (a_region (vr (i6 x1524) (vr (i6 (IntKind.i64.wrap (x1524 + 1))) (vr (i6 (IntKind.i64.wrap (x1524 + 1))) (a_nil ?_)))))))))
         cases h
         exact ag hX1569
       ·have h:=hy1575
        refine a_region (vr (i6 x1524) (vr (i6 r12) (vr (.bool ((decide (x1524≤r12)))) (vr (.bool ((decide (x1524≤r12)))) ?_))))
        cases hb1577:(decide (x1524≤r12))
        ·have h:=ite_f hb1577 h
         refine a_gskip rfl (a_gskip rfl (a_gskip rfl (a_gskip rfl (vr (.bool false) (a_nil ?_)))))
         exact jl false h
        ·have h:=ite_t hb1577 h
         refine gp (i6 x1081) rfl rfl ?_
         obtain ⟨hc1578,h⟩:=ifp_some h
         refine gq (.own 4 [x1081.toNat] [x1081.toNat*1]) rfl rfl hc1578 ?_
         have hl1579:LdOk [x1081.toNat] (eVb a1) [x1081.toNat*1] 1 false (b8 (rd a1.1 x1081.toNat)):=(.arr (vlt a1 hc1578) rfl (.nil rfl rfl rfl))
         refine gq (b8 (rd a1.1 x1081.toNat)) rfl (ld_own (i:=⟨.int .u8,1,1,(.int .u8 0)⟩) rfl rfl rfl hl1579) hl1579.c (gp (.bool (((rd a1.1 x1081.toNat) != 0))) rfl rfl (vr (.bool (((rd a1.1 x1081.toNat) != 0))) (a_nil ?_)))
         exact jl (((rd a1.1 x1081.toNat) != 0)) h
   ·have h:=ite_t hb22 h
    refine a_cond_t rfl (sr (vl (eV0) rfl rfl rfl rfl rfl rfl (vs (eV0) rfl rfl (fun _=>rfl) rfl rfl rfl rfl rfl rfl (vr (.bool false) (nx _ rfl (a_ret (t_ret ?_)))))))
    have hl1618:LdOk [] (eV0) [] 64 true (eV0):=(.nil rfl rfl rfl)
    refine ⟨.inr rfl,?_⟩
    rw [Tryz.results55]
    cases h
    exact ⟨_,_,_,_,_,ld_own (i:=⟨.arr 64 5,64,64,(eVb (vrep 64 (0:Int)))⟩) rfl rfl rfl hl1618,hl1618.c,.inl ⟨rfl,.inl rfl⟩,rfl,⟨_,_,_,_,_,rfl,trivial,.inl ⟨rfl,.inl rfl⟩,rfl,rfl⟩⟩
  ·have h:=ite_t hb21 h
   refine a_cond_t rfl (sr (vl (eV0) rfl rfl rfl rfl rfl rfl (vs (eV0) rfl rfl (fun _=>rfl) rfl rfl rfl rfl rfl rfl (vr (.bool true) (nx _ rfl (a_ret (t_ret ?_)))))))
   have hl1621:LdOk [] (eV0) [] 64 true (eV0):=(.nil rfl rfl rfl)
   refine ⟨.inr rfl,?_⟩
   rw [Tryz.results55]
   cases h
   exact ⟨_,_,_,_,_,ld_own (i:=⟨.arr 64 5,64,64,(eVb (vrep 64 (0:Int)))⟩) rfl rfl rfl hl1621,hl1621.c,.inl ⟨rfl,.inl rfl⟩,rfl,⟨_,_,_,_,_,rfl,trivial,.inl ⟨rfl,.inl rfl⟩,rfl,rfl⟩⟩
 ·have h:=hy18
  refine a_region (vr (i6 r9) (vr (.bool ((decide (r9 < 0)))) (vr (.bool ((decide (r9 < 0)))) ?_)))
  cases hb20:(decide (r9 < 0))
  ·have h:=ite_f hb20 h
   refine gp (i6 r12) rfl rfl (gp (.bool ((decide (r12 < 0)))) rfl rfl (vr (.bool ((decide (r12 < 0)))) (a_nil ?_)))
   exact jl ((decide (r12 < 0))) h
  ·have h:=ite_t hb20 h
   refine a_gskip rfl (a_gskip rfl (vr (.bool true) (a_nil ?_)))
   exact jl true h
noncomputable def spec_l10Square_of_src_c:ACode:=strip [(12,1),(15,1),(21,1),(29,1),(36,1),(52,1),(54,1)] (Tryz.f58.body.getD .skip)
def spec_l10Square_of_src_L:Live:=[(0,[0]),(1,[0,3]),(2,[0,3,4]),(3,[0,3,4,5]),(4,[0,3,4,5,6]),(5,[0,3,4,5,6]),(6,[0,3,4,5,6]),(7,[0,3,4,6]),(8,[0,3,4,6,29]),(9,[0,3,4,6,29]),(10,[0,3,4,6,29]),(11,[0,3,4,6]),(12,[3,4,6,7]),(13,[3,4,6,7]),(14,[3,4,6,8,9]),(15,[3,4,8]),(16,[0,3,4,6,29]),(17,[0,3]),(18,[3,4,6]),(100023,[0,3,4,5,6,23]),(100030,[0,3,4,6,29,30]),(100045,[3,4,6,8,45]),(100048,[0,3,4,6,48])]
noncomputable def spec_l10Square_of_src (a0:((List Int)×Int×Int)):Option (Int×(Vec Int 64)×((List Int)×Int×Int)) :=
 (Option.bind (spec_l01Pick_of_src a0 ([3,3,5,7])) fun r1=>(Option.bind (spec_l01Pick_of_src r1.2 ([0,1,1,2,3,6])) fun r4=>(Option.bind (spec_l01Draw_of_src r4.2 r1.1 (IntKind.i64.wrap ((IntKind.i64.wrap (2*r4.1)) - 1))) fun r7=>(Option.bind (α:=(Vec Int 64)) ((if (r4.1 == 0) then (some ((vrep 64 (0:Int)))) else (some r7.1))) fun x13=>(ifp (0≤IntKind.i64.wrap (2*r4.1)∧IntKind.i64.wrap (2*r4.1) < ((64:Nat):Int)) ((Option.bind (α:=(((List Int)×Int×Int)⊕(Int×(Vec Int 64)×((List Int)×Int×Int)))) ((Option.bind (spec_l01Next_of_src r7.2 10) fun r61=>(Option.bind (α:=Bool) ((if (r61.1 == 0) then (some true) else (if (r61.1 == 1) then (some true) else (some (r61.1 == 2))))) fun x66=>(if x66 then (Option.bind (spec_l01Draw_of_src r61.2 r1.1 4) fun r82=>(ifp (0≤(5:Int)∧(5:Int) < ((64:Nat):Int)) ((Option.bind (spec_l01Times r1.1 ((vset r82.1 (5:Int).toNat 1)) ((vset r82.1 (5:Int).toNat 1))) fun r90=>(if r90.2 then (some (.inr (r1.1,r90.1,r82.2))) else (some (.inl r82.2))))))) else (if (r61.1 == 3) then (Option.bind (spec_l01Pick_of_src r61.2 ([2,3,4])) fun r74=>(Option.bind (spec_l01Draw_of_src r74.2 3 7) fun r77=>(some (.inr (r74.1,r77.1,r77.2))))) else (some (.inl r61.2))))))) fun z=>match z with | .inl x57=>(some ((r1.1,(vset x13 (IntKind.i64.wrap (2*r4.1)).toNat 1),x57))) | .inr r104=>(some r104))))))))
theorem spec_l10Square_of_src_ok (a0:((List Int)×Int×Int)) (r:(Int×(Vec Int 64)×((List Int)×Int×Int))) (h:spec_l10Square_of_src a0=some r):Den Tryz.prog 58 [(.mutp (eT_Su8_i64_u64_Z a0))] { r:=(.tuple [(i6 r.1),(eVb r.2.1)]),ms:=[(eT_Su8_i64_u64_Z r.2.2)],fs:=[] }:=by
 refine den_ofX (rs:=[(i6 r.1),(eVb r.2.1)]) (ac:=spec_l10Square_of_src_c) (L:=spec_l10Square_of_src_L) (n:=57) (m:=[(12,1),(15,1),(21,1),(29,1),(36,1),(52,1),(54,1)]) (c:=Tryz.f58.body.getD .skip) good Tryz.func58 (by kernel_rfl) (by kernel_rfl) Tryz.ntmps58 rfl rfl (by kernel_rfl) rfl ?_
 refine ns ⟨[(0,ow 1000000)],[(1000000,bk (eT_Su8_i64_u64_Z a0))]⟩ ?_
 unfold spec_l10Square_of_src_c
 refine sr (vr (i6 0) (vo 1300 (eV0) rfl rfl (nk ⟨[(0,ow 1000000),(3,ow 3)],[(3,bk (eV0)),(1000000,bk (eT_Su8_i64_u64_Z a0))]⟩ (sr (vr (ow 1000000) (vq (.sl 1 true (([3,3,5,7]).map (AV.int .i64))) rfl ⟨(Nat.le_of_ble_eq_true rfl),(Nat.le_of_ble_eq_true rfl),(all_cons ⟨(Nat.le_of_ble_eq_true rfl),rfl⟩ (all_cons ⟨(Nat.le_of_ble_eq_true rfl),rfl⟩ (all_cons ⟨(Nat.le_of_ble_eq_true rfl),rfl⟩ (all_cons ⟨(Nat.le_of_ble_eq_true rfl),rfl⟩ all_nil))))⟩ ?_))))))
 obtain ⟨r1,hr2,h⟩:=bind_some h
 refine a_callM (args:=[(.mutp (eT_Su8_i64_u64_Z a0)),(.sl 1 true (([3,3,5,7]).map (AV.int .i64)))]) (i:=0) (id:=1000000) (r:=(i6 r1.1)) (c:=(eT_Su8_i64_u64_Z r1.2)) rfl rfl (Den.argsM (spec_l01Pick_of_src_ok a0 ([3,3,5,7]) r1 hr2) rfl rfl (.cons (.loose _) .nil)) rfl trivial (vr (i6 r1.1) (nk ⟨[(0,ow 1000000),(3,ow 3),(4,i6 r1.1)],[(3,bk (eV0)),(1000000,bk (eT_Su8_i64_u64_Z r1.2))]⟩ (sr (vr (ow 1000000) (vq (.sl 1 true (([0,1,1,2,3,6]).map (AV.int .i64))) rfl ⟨(Nat.le_of_ble_eq_true rfl),(Nat.le_of_ble_eq_true rfl),(all_cons ⟨(Nat.le_of_ble_eq_true rfl),rfl⟩ (all_cons ⟨(Nat.le_of_ble_eq_true rfl),rfl⟩ (all_cons ⟨(Nat.le_of_ble_eq_true rfl),rfl⟩ (all_cons ⟨(Nat.le_of_ble_eq_true rfl),rfl⟩ (all_cons ⟨(Nat.le_of_ble_eq_true rfl),rfl⟩ (all_cons ⟨(Nat.le_of_ble_eq_true rfl),rfl⟩ all_nil))))))⟩ ?_)))))
 obtain ⟨r4,hr5,h⟩:=bind_some h
 refine a_callM (args:=[(.mutp (eT_Su8_i64_u64_Z r1.2)),(.sl 1 true (([0,1,1,2,3,6]).map (AV.int .i64)))]) (i:=0) (id:=1000000) (r:=(i6 r4.1)) (c:=(eT_Su8_i64_u64_Z r4.2)) rfl rfl (Den.argsM (spec_l01Pick_of_src_ok r1.2 ([0,1,1,2,3,6]) r4 hr5) rfl rfl (.cons (.loose _) .nil)) rfl trivial (vr (i6 r4.1) (nk ⟨[(0,ow 1000000),(3,ow 3),(4,i6 r1.1),(5,i6 r4.1)],[(3,bk (eV0)),(1000000,bk (eT_Su8_i64_u64_Z r4.2))]⟩ (sr (vr (ow 1000000) (vr (i6 r1.1) (vr (i6 r4.1) (vr (i6 (IntKind.i64.wrap (2*r4.1))) (vr (i6 (IntKind.i64.wrap ((IntKind.i64.wrap (2*r4.1)) - 1))) ?_))))))))
 obtain ⟨r7,hr8,h⟩:=bind_some h
 refine a_callM (args:=[(.mutp (eT_Su8_i64_u64_Z r4.2)),(i6 r1.1),(i6 (IntKind.i64.wrap ((IntKind.i64.wrap (2*r4.1)) - 1)))]) (i:=0) (id:=1000000) (r:=(eVb r7.1)) (c:=(eT_Su8_i64_u64_Z r7.2)) rfl rfl (spec_l01Draw_of_src_ok r4.2 r1.1 (IntKind.i64.wrap ((IntKind.i64.wrap (2*r4.1)) - 1)) r7 hr8) rfl trivial (vo 1600 (eV0) rfl rfl (vs (eVb r7.1) rfl rfl (fun _=>rfl) rfl rfl rfl rfl rfl rfl (nk ⟨[(0,ow 1000000),(3,ow 3),(4,i6 r1.1),(5,i6 r4.1),(6,ow 6)],[(3,bk (eV0)),(6,bk (eVb r7.1)),(1000000,bk (eT_Su8_i64_u64_Z r7.2))]⟩ ?_)))
 obtain ⟨y14,hy15,hk16⟩:=bind_some h
 clear h
 refine a_join (emb:=fun (s:(Vec Int 64))=>⟨[(0,ow 1000000),(3,ow 3),(4,i6 r1.1),(5,i6 r4.1),(6,ow 6)],[(3,bk (eV0)),(6,bk (eVb s)),(1000000,bk (eT_Su8_i64_u64_Z r7.2))]⟩) (pre:=fun s=>s=y14) ?_ ?_
 ·rintro x13 rfl
  have h:=hk16
  refine ns ⟨[(0,ow 1000000),(3,ow 3),(4,i6 r1.1),(5,i6 r4.1),(6,ow 6)],[(3,bk (eV0)),(6,bk (eVb x13)),(1000000,bk (eT_Su8_i64_u64_Z r7.2))]⟩ (sr (vr (i6 r4.1) (vr (i6 (IntKind.i64.wrap (2*r4.1))) ?_)))
  obtain ⟨hc19,h⟩:=ifp_some h
  refine vq (.own 6 [(IntKind.i64.wrap (2*r4.1)).toNat] [(IntKind.i64.wrap (2*r4.1)).toNat*1]) rfl hc19 ?_
  have hs20:StOk [(IntKind.i64.wrap (2*r4.1)).toNat] (eVb x13) [(IntKind.i64.wrap (2*r4.1)).toNat*1] 1 (b8 1) (eVb ((vset x13 (IntKind.i64.wrap (2*r4.1)).toNat 1))):=(.arr (y:=1) (vlt x13 hc19) rfl (.nil rfl rfl rfl rfl))
  refine vu .top [(6,bk (eVb ((vset x13 (IntKind.i64.wrap (2*r4.1)).toNat 1))))] (st_own (i:=⟨.int .u8,1,1,(.int .u8 0)⟩) rfl rfl (fun _=>rfl) rfl hs20) (hs20.c rfl) rfl (nk ⟨[(0,ow 1000000),(3,ow 3),(4,i6 r1.1),(6,ow 6)],[(3,bk (eV0)),(6,bk (eVb ((vset x13 (IntKind.i64.wrap (2*r4.1)).toNat 1)))),(1000000,bk (eT_Su8_i64_u64_Z r7.2))]⟩ ?_)
  obtain ⟨y58,hy59,hk60⟩:=bind_some h
  clear h
  refine a_join (emb:=fun (s:((List Int)×Int×Int))=>⟨[(3,ow 3),(4,i6 r1.1),(6,ow 6)],[(3,bk (eV0)),(6,bk (eVb ((vset x13 (IntKind.i64.wrap (2*r4.1)).toNat 1)))),(1000000,bk (eT_Su8_i64_u64_Z s))]⟩) (pre:=fun s=>(.inl s)=y58) ?_ ?_
  ·rintro x57 rfl
   have h:=hk60
   refine ns ⟨[(3,ow 3),(4,i6 r1.1),(6,ow 6)],[(3,bk (eV0)),(6,bk (eVb ((vset x13 (IntKind.i64.wrap (2*r4.1)).toNat 1)))),(1000000,bk (eT_Su8_i64_u64_Z x57))]⟩ (a_seq (a_draw [⟨[],[],[],[]⟩,⟨[6],[],[],[]⟩,⟨[],[],[],[0]⟩,⟨[3],[3],[],[0,1,2]⟩] (by kernel_rfl) (dj (i6 r1.1) rfl (d_cons (vl (eVb ((vset x13 (IntKind.i64.wrap (2*r4.1)).toNat 1))) rfl rfl rfl rfl rfl rfl (dn (dj (i6 r1.1) rfl (d_cons (vs (eVb ((vset x13 (IntKind.i64.wrap (2*r4.1)).toNat 1))) rfl rfl (fun _=>rfl) rfl rfl rfl rfl rfl rfl ?_)))))))))
   refine dn (d_nil (a_next rfl (a_ret ?_)))
   have hl103:LdOk [] (eVb ((vset x13 (IntKind.i64.wrap (2*r4.1)).toNat 1))) [] 64 true (eVb ((vset x13 (IntKind.i64.wrap (2*r4.1)).toNat 1))):=(.nil rfl rfl rfl)
   refine ⟨.inr rfl,?_⟩
   rw [Tryz.results58]
   cases h
   exact ⟨[],⟨_,_,_,_,_,rfl,trivial,rfl,.inl ⟨rfl,.inl rfl,⟨_,_,_,_,_,ld_own (i:=⟨.arr 64 5,64,64,(eVb (vrep 64 (0:Int)))⟩) rfl rfl rfl hl103,hl103.c,rfl,.inl ⟨rfl,.inl rfl,⟨rfl,rfl,rfl⟩⟩⟩⟩⟩,rfl,⟨_,_,rfl,rfl,rfl⟩⟩
  ·have h:=hy59
   refine sr (vr (ow 1000000) ?_)
   obtain ⟨r61,hr62,h⟩:=bind_some h
   refine a_callM (args:=[(.mutp (eT_Su8_i64_u64_Z r7.2)),(i6 10)]) (i:=0) (id:=1000000) (r:=(i6 r61.1)) (c:=(eT_Su8_i64_u64_Z r61.2)) rfl rfl (spec_l01Next_of_src_ok r7.2 10 r61 hr62) rfl trivial (nk ⟨[(0,ow 1000000),(3,ow 3),(4,i6 r1.1),(6,ow 6),(29,i6 r61.1)],[(3,bk (eV0)),(6,bk (eVb ((vset x13 (IntKind.i64.wrap (2*r4.1)).toNat 1)))),(1000000,bk (eT_Su8_i64_u64_Z r61.2))]⟩ (a_block ?_))
   obtain ⟨y67,hy68,hk69⟩:=bind_some h
   clear h
   refine a_join (emb:=fun (s:Bool)=>⟨[(0,ow 1000000),(3,ow 3),(4,i6 r1.1),(6,ow 6),(29,i6 r61.1),(30,.bool s)],[(3,bk (eV0)),(6,bk (eVb ((vset x13 (IntKind.i64.wrap (2*r4.1)).toNat 1)))),(1000000,bk (eT_Su8_i64_u64_Z r61.2))]⟩) (pre:=fun s=>s=y67) ?_ ?_
   ·rintro x66 rfl
    have h:=hk69
    refine ns ⟨[(0,ow 1000000),(3,ow 3),(4,i6 r1.1),(6,ow 6),(29,i6 r61.1),(30,.bool x66)],[(3,bk (eV0)),(6,bk (eVb ((vset x13 (IntKind.i64.wrap (2*r4.1)).toNat 1)))),(1000000,bk (eT_Su8_i64_u64_Z r61.2))]⟩ ?_
    cases hb72:x66
    ·have h:=ite_f hb72 h
     refine a_cond_f rfl (sr (vr (.bool (r61.1 == 3)) (vr (.bool (r61.1 == 3)) (nk ⟨[(0,ow 1000000),(3,ow 3),(4,i6 r1.1),(6,ow 6),(48,.bool (r61.1 == 3))],[(3,bk (eV0)),(6,bk (eVb ((vset x13 (IntKind.i64.wrap (2*r4.1)).toNat 1)))),(1000000,bk (eT_Su8_i64_u64_Z r61.2))]⟩ ?_))))
     cases hb73:(r61.1 == 3)
     ·have h:=ite_f hb73 h
      refine a_cond_f rfl (a_skip (b_norm ?_))
      exact jl r61.2 h
     ·have h:=ite_t hb73 h
      refine a_cond_t rfl (sr (vr (ow 1000000) (vq (.sl 1 true (([2,3,4]).map (AV.int .i64))) rfl ⟨(Nat.le_of_ble_eq_true rfl),(Nat.le_of_ble_eq_true rfl),(all_cons ⟨(Nat.le_of_ble_eq_true rfl),rfl⟩ (all_cons ⟨(Nat.le_of_ble_eq_true rfl),rfl⟩ (all_cons ⟨(Nat.le_of_ble_eq_true rfl),rfl⟩ all_nil)))⟩ ?_)))
      obtain ⟨r74,hr75,h⟩:=bind_some h
      refine a_callM (args:=[(.mutp (eT_Su8_i64_u64_Z r61.2)),(.sl 1 true (([2,3,4]).map (AV.int .i64)))]) (i:=0) (id:=1000000) (r:=(i6 r74.1)) (c:=(eT_Su8_i64_u64_Z r74.2)) rfl rfl (Den.argsM (spec_l01Pick_of_src_ok r61.2 ([2,3,4]) r74 hr75) rfl rfl (.cons (.loose _) .nil)) rfl trivial (vr (ow 1000000) ?_)
      obtain ⟨r77,hr78,h⟩:=bind_some h
      refine a_callM (args:=[(.mutp (eT_Su8_i64_u64_Z r74.2)),(i6 3),(i6 7)]) (i:=0) (id:=1000000) (r:=(eVb r77.1)) (c:=(eT_Su8_i64_u64_Z r77.2)) rfl rfl (spec_l01Draw_of_src_ok r74.2 3 7 r77 hr78) rfl trivial (vr (i6 r74.1) (vs (eVb r77.1) rfl rfl (fun _=>rfl) rfl rfl rfl rfl rfl rfl (nx _ rfl (a_ret (b_ret (t_ret ?_))))))
      cases h
      have h:=hk60
      have hl81:LdOk [] (eVb r77.1) [] 64 true (eVb r77.1):=(.nil rfl rfl rfl)
      refine ⟨.inr rfl,?_⟩
      rw [Tryz.results58]
      cases h
      exact ⟨[],⟨_,_,_,_,_,rfl,trivial,rfl,.inl ⟨rfl,.inl rfl,⟨_,_,_,_,_,ld_own (i:=⟨.arr 64 5,64,64,(eVb (vrep 64 (0:Int)))⟩) rfl rfl rfl hl81,hl81.c,rfl,.inl ⟨rfl,.inl rfl,⟨rfl,rfl,rfl⟩⟩⟩⟩⟩,rfl,⟨_,_,rfl,rfl,rfl⟩⟩
    ·have h:=ite_t hb72 h
     refine a_cond_t rfl (sr (vr (ow 1000000) (vr (i6 r1.1) ?_)))
     obtain ⟨r82,hr83,h⟩:=bind_some h
     refine a_callM (args:=[(.mutp (eT_Su8_i64_u64_Z r61.2)),(i6 r1.1),(i6 4)]) (i:=0) (id:=1000000) (r:=(eVb r82.1)) (c:=(eT_Su8_i64_u64_Z r82.2)) rfl rfl (spec_l01Draw_of_src_ok r61.2 r1.1 4 r82 hr83) rfl trivial (vo 1700 (eV0) rfl rfl (vs (eVb r82.1) rfl rfl (fun _=>rfl) rfl rfl rfl rfl rfl rfl (nk ⟨[(3,ow 3),(4,i6 r1.1),(6,ow 6),(7,ow 7)],[(3,bk (eV0)),(6,bk (eVb ((vset x13 (IntKind.i64.wrap (2*r4.1)).toNat 1)))),(7,bk (eVb r82.1)),(1000000,bk (eT_Su8_i64_u64_Z r82.2))]⟩ (sr ?_))))
     obtain ⟨hc86,h⟩:=ifp_some h
     refine vq (.own 7 [(5:Int).toNat] [(5:Int).toNat*1]) rfl hc86 ?_
     have hs87:StOk [(5:Int).toNat] (eVb r82.1) [(5:Int).toNat*1] 1 (b8 1) (eVb ((vset r82.1 (5:Int).toNat 1))):=(.arr (y:=1) (vlt r82.1 hc86) rfl (.nil rfl rfl rfl rfl))
     refine vu .top [(7,bk (eVb ((vset r82.1 (5:Int).toNat 1))))] (st_own (i:=⟨.int .u8,1,1,(.int .u8 0)⟩) rfl rfl (fun _=>rfl) rfl hs87) (hs87.c rfl) rfl (nk ⟨[(3,ow 3),(4,i6 r1.1),(6,ow 6),(7,ow 7)],[(3,bk (eV0)),(6,bk (eVb ((vset x13 (IntKind.i64.wrap (2*r4.1)).toNat 1)))),(7,bk (eVb ((vset r82.1 (5:Int).toNat 1)))),(1000000,bk (eT_Su8_i64_u64_Z r82.2))]⟩ (sr (vr (i6 r1.1) (vl (eVb ((vset r82.1 (5:Int).toNat 1))) rfl rfl rfl rfl rfl rfl (vl (eVb ((vset r82.1 (5:Int).toNat 1))) rfl rfl rfl rfl rfl rfl ?_)))))
     obtain ⟨r90,hr91,h⟩:=bind_some h
     refine ca (spec_l01Times_ok r1.1 ((vset r82.1 (5:Int).toNat 1)) ((vset r82.1 (5:Int).toNat 1)) r90 hr91) (vr (.tuple [(eVb r90.1),(.bool r90.2)]) (vb (eVb r90.1) rfl rfl (vb (.bool r90.2) rfl rfl (vo 1800 (eV0) rfl rfl (vs (eVb r90.1) rfl rfl (fun _=>rfl) rfl rfl rfl rfl rfl rfl (vr (.bool r90.2) (nk ⟨[(3,ow 3),(4,i6 r1.1),(6,ow 6),(8,ow 8),(9,.bool r90.2)],[(3,bk (eV0)),(6,bk (eVb ((vset x13 (IntKind.i64.wrap (2*r4.1)).toNat 1)))),(8,bk (eVb r90.1)),(1000000,bk (eT_Su8_i64_u64_Z r82.2))]⟩ (sr (vr (.bool r90.2) ?_)))))))))
     refine nk ⟨[(3,ow 3),(4,i6 r1.1),(6,ow 6),(8,ow 8),(45,.bool r90.2)],[(3,bk (eV0)),(6,bk (eVb ((vset x13 (IntKind.i64.wrap (2*r4.1)).toNat 1)))),(8,bk (eVb r90.1)),(1000000,bk (eT_Su8_i64_u64_Z r82.2))]⟩ ?_
     cases hb93:r90.2
     ·have h:=ite_f hb93 h
      refine a_cond_f rfl (a_skip (b_norm ?_))
      exact jl r82.2 h
     ·have h:=ite_t hb93 h
      refine a_cond_t rfl (a_seq (a_draw [⟨[],[],[],[]⟩,⟨[8],[],[],[]⟩,⟨[],[],[],[0]⟩,⟨[3],[3],[],[0,1,2]⟩] (by kernel_rfl) (dj (i6 r1.1) rfl (d_cons (vl (eVb r90.1) rfl rfl rfl rfl rfl rfl (dn (dj (i6 r1.1) rfl (d_cons (vs (eVb r90.1) rfl rfl (fun _=>rfl) rfl rfl rfl rfl rfl rfl ?_)))))))))
      refine dn (d_nil (a_next rfl (a_ret (b_ret (t_ret ?_)))))
      cases h
      have h:=hk60
      have hl98:LdOk [] (eVb r90.1) [] 64 true (eVb r90.1):=(.nil rfl rfl rfl)
      refine ⟨.inr rfl,?_⟩
      rw [Tryz.results58]
      cases h
      exact ⟨[],⟨_,_,_,_,_,rfl,trivial,rfl,.inl ⟨rfl,.inl rfl,⟨_,_,_,_,_,ld_own (i:=⟨.arr 64 5,64,64,(eVb (vrep 64 (0:Int)))⟩) rfl rfl rfl hl98,hl98.c,rfl,.inl ⟨rfl,.inl rfl,⟨rfl,rfl,rfl⟩⟩⟩⟩⟩,rfl,⟨_,_,rfl,rfl,rfl⟩⟩
   ·have h:=hy68
    refine sr (vr (.bool (r61.1 == 0)) (vr (.bool (r61.1 == 0)) (nk ⟨[(0,ow 1000000),(3,ow 3),(4,i6 r1.1),(6,ow 6),(29,i6 r61.1),(30,.bool (r61.1 == 0))],[(3,bk (eV0)),(6,bk (eVb ((vset x13 (IntKind.i64.wrap (2*r4.1)).toNat 1)))),(1000000,bk (eT_Su8_i64_u64_Z r61.2))]⟩ ?_)))
    cases hb70:(r61.1 == 0)
    ·have h:=ite_f hb70 h
     refine a_cond_f rfl (sr (vr (.bool (r61.1 == 1)) (vr (.bool (r61.1 == 1)) (nk ⟨[(0,ow 1000000),(3,ow 3),(4,i6 r1.1),(6,ow 6),(29,i6 r61.1),(30,.bool (r61.1 == 1))],[(3,bk (eV0)),(6,bk (eVb ((vset x13 (IntKind.i64.wrap (2*r4.1)).toNat 1)))),(1000000,bk (eT_Su8_i64_u64_Z r61.2))]⟩ ?_))))
     cases hb71:(r61.1 == 1)
     ·have h:=ite_f hb71 h
      refine a_cond_f rfl (a_region (vr (.bool (r61.1 == 2)) (vr (.bool (r61.1 == 2)) (a_nil ?_))))
      exact jl (r61.1 == 2) h
     ·have h:=ite_t hb71 h
      refine a_cond_t rfl (a_skip ?_)
      exact jl true h
    ·have h:=ite_t hb70 h
     refine a_cond_t rfl (a_skip ?_)
     exact jl true h
 ·have h:=hy15
  refine sr (vr (i6 r4.1) (vr (.bool (r4.1 == 0)) (nk ⟨[(0,ow 1000000),(3,ow 3),(4,i6 r1.1),(5,i6 r4.1),(6,ow 6),(23,.bool (r4.1 == 0))],[(3,bk (eV0)),(6,bk (eVb r7.1)),(1000000,bk (eT_Su8_i64_u64_Z r7.2))]⟩ ?_)))
  cases hb17:(r4.1 == 0)
  ·have h:=ite_f hb17 h
   refine a_cond_f rfl (a_skip ?_)
   exact jl r7.1 h
  ·have h:=ite_t hb17 h
   refine a_cond_t rfl (a_region (vq (eV0) rfl ⟨⟨_,rfl,rfl⟩,all_nil⟩ (vs (eV0) rfl rfl (fun _=>rfl) rfl rfl rfl rfl rfl rfl (a_nil ?_))))
   exact jl ((vrep 64 (0:Int))) h
def spec_DrawRootPart_L:Live:=[(0,[0]),(1,[0,3]),(2,[3,4,5])]
noncomputable def spec_DrawRootPart (a0:(List Int)):Option (Int×(Vec Int 64)) :=
 (Option.bind (spec_l01From a0) fun r1=>(Option.bind (spec_l10Square_of_src r1) fun r3=>(some (r3.1,r3.2.1))))
theorem spec_DrawRootPart_ok (a0:(List Int)) (r:(Int×(Vec Int 64))) (h:spec_DrawRootPart a0=some r):Den Tryz.prog 47 [(eSu8 a0)] { r:=(.tuple [(i6 r.1),(eVb r.2)]) }:=by
 refine dd (rs:=[(i6 r.1),(eVb r.2)]) (L:=spec_DrawRootPart_L) good [(9,1)] Tryz.func47 Tryz.ntmps47 ?_
 refine ns ⟨[(0,eSu8 a0)],[]⟩ ?_
 refine sr (vr (i6 0) (vo 1300 (eV0) rfl rfl (nk ⟨[(0,eSu8 a0),(3,ow 3)],[(3,bk (eV0))]⟩ (sr (vr (eSu8 a0) ?_)))))
 obtain ⟨r1,hr2,h⟩:=bind_some h
 refine a_callF (args:=[(eSu8 a0)]) (u:=[]) (u2:=[]) (r:=(ow 2000000)) (fs:=[(0,[eT_Su8_i64_u64_Z r1])]) rfl rfl (spec_l01From_ok a0 r1 hr2) rfl rfl rfl (.inl rfl) rfl ?_
 obtain ⟨r3,hr4,h⟩:=bind_some h
 refine a_callM (args:=[(.mutp (eT_Su8_i64_u64_Z r1))]) (i:=0) (id:=1800) (r:=(.tuple [(i6 r3.1),(eVb r3.2.1)])) (c:=(eT_Su8_i64_u64_Z r3.2.2)) rfl rfl (spec_l10Square_of_src_ok r1 r3 hr4) rfl trivial (vr (.tuple [(i6 r3.1),(eVb r3.2.1)]) (vb (i6 r3.1) rfl rfl (vb (eVb r3.2.1) rfl rfl (vo 1500 (eV0) rfl rfl (vr (i6 r3.1) (vs (eVb r3.2.1) rfl rfl (fun _=>rfl) rfl rfl rfl rfl rfl rfl (nk ⟨[(3,ow 3),(4,i6 r3.1),(5,ow 5)],[(3,bk (eV0)),(5,bk (eVb r3.2.1))]⟩ (a_seq (a_draw [⟨[],[],[],[]⟩,⟨[5],[],[],[]⟩,⟨[],[],[],[0]⟩,⟨[3],[3],[],[0,1,2]⟩] (by kernel_rfl) ?_)))))))))
 refine dj (i6 r3.1) rfl (d_cons (vl (eVb r3.2.1) rfl rfl rfl rfl rfl rfl (dn (dj (i6 r3.1) rfl (d_cons (vs (eVb r3.2.1) rfl rfl (fun _=>rfl) rfl rfl rfl rfl rfl rfl (dn (d_nil (a_next rfl ?_)))))))))
 refine a_ret ?_
 have hl11:LdOk [] (eVb r3.2.1) [] 64 true (eVb r3.2.1):=(.nil rfl rfl rfl)
 refine ⟨.inr rfl,?_⟩
 rw [Tryz.results47]
 cases h
 exact ⟨_,_,_,_,_,rfl,trivial,.inl ⟨rfl,.inl rfl⟩,rfl,⟨_,_,_,_,_,ld_own (i:=⟨.arr 64 5,64,64,(eVb (vrep 64 (0:Int)))⟩) rfl rfl rfl hl11,hl11.c,.inl ⟨rfl,.inl rfl⟩,rfl,rfl⟩⟩
def spec_DrawIsSquarePoly_L:Live:=[(0,[0]),(1,[0,3])]
noncomputable def spec_DrawIsSquarePoly (a0:(List Int)):Option (Int×(Vec Int 64)) :=
 (Option.bind (spec_DrawRootPart a0) fun r1=>(some (r1.1,r1.2)))
theorem spec_DrawIsSquarePoly_ok (a0:(List Int)) (r:(Int×(Vec Int 64))) (h:spec_DrawIsSquarePoly a0=some r):Den Tryz.prog 6 [(eSu8 a0)] { r:=(.tuple [(i6 r.1),(eVb r.2)]) }:=by
 refine dd (rs:=[(i6 r.1),(eVb r.2)]) (L:=spec_DrawIsSquarePoly_L) good [] Tryz.func6 Tryz.ntmps6 ?_
 refine ns ⟨[(0,eSu8 a0)],[]⟩ ?_
 refine sr (vr (i6 0) (vo 1300 (eV0) rfl rfl (nk ⟨[(0,eSu8 a0),(3,ow 3)],[(3,bk (eV0))]⟩ (sr (vr (eSu8 a0) ?_)))))
 obtain ⟨r1,hr2,h⟩:=bind_some h
 refine ca (spec_DrawRootPart_ok a0 r1 hr2) (vb (i6 r1.1) rfl rfl (vb (eVb r1.2) rfl rfl (vr (i6 r1.1) (vs (eVb r1.2) rfl rfl (fun _=>rfl) rfl rfl rfl rfl rfl rfl (nx _ rfl (a_ret ?_))))))
 have hl4:LdOk [] (eVb r1.2) [] 64 true (eVb r1.2):=(.nil rfl rfl rfl)
 refine ⟨.inr rfl,?_⟩
 rw [Tryz.results6]
 cases h
 exact ⟨_,_,_,_,_,rfl,trivial,.inl ⟨rfl,.inl rfl⟩,rfl,⟨_,_,_,_,_,ld_own (i:=⟨.arr 64 5,64,64,(eVb (vrep 64 (0:Int)))⟩) rfl rfl rfl hl4,hl4.c,.inl ⟨rfl,.inl rfl⟩,rfl,rfl⟩⟩
def impl_isPrime_L:Live:=[(0,[0]),(1,[0])]
noncomputable def impl_isPrime (a0:Int):Option Bool :=
 (if (a0 == 2) then (some true) else (if (a0 == 3) then (some true) else (if (a0 == 5) then (some true) else (some (a0 == 7)))))
theorem impl_isPrime_ok (a0:Int) (r:Bool) (h:impl_isPrime a0=some r):Den Tryz.prog 130 [(i6 a0)] { r:=(.bool r) }:=by
 refine dd (rs:=[(.bool r)]) (L:=impl_isPrime_L) good [] Tryz.func130 Tryz.ntmps130 ?_
 refine ns ⟨[(0,i6 a0)],[]⟩ ?_
 refine sr (vr (.bool false) (nk ⟨[(0,i6 a0)],[]⟩ (sr (vr (i6 a0) (vr (.bool (a0 == 2)) (vr (.bool (a0 == 2)) ?_))))))
 cases hb1:(a0 == 2)
 ·have h:=ite_f hb1 h
  refine gp (i6 a0) rfl rfl (gp (.bool (a0 == 3)) rfl rfl (vr (.bool (a0 == 3)) (vr (.bool (a0 == 3)) ?_)))
  cases hb2:(a0 == 3)
  ·have h:=ite_f hb2 h
   refine gp (i6 a0) rfl rfl (gp (.bool (a0 == 5)) rfl rfl (vr (.bool (a0 == 5)) (vr (.bool (a0 == 5)) ?_)))
   cases hb3:(a0 == 5)
   ·have h:=ite_f hb3 h
    refine gp (i6 a0) rfl rfl (gp (.bool (a0 == 7)) rfl rfl (vr (.bool (a0 == 7)) (vr (.bool (a0 == 7)) (nx _ rfl (a_ret ?_)))))
    refine ⟨.inr rfl,?_⟩
    rw [Tryz.results130]
    cases h
    exact ⟨_,_,_,_,_,rfl,trivial,.inl ⟨rfl,.inl rfl⟩,rfl,rfl⟩
   ·have h:=ite_t hb3 h
    refine a_gskip rfl (a_gskip rfl (vr (.bool true) (vr (.bool true) (nx _ rfl (a_ret ?_)))))
    refine ⟨.inr rfl,?_⟩
    rw [Tryz.results130]
    cases h
    exact ⟨_,_,_,_,_,rfl,trivial,.inl ⟨rfl,.inl rfl⟩,rfl,rfl⟩
  ·have h:=ite_t hb2 h
   refine a_gskip rfl (a_gskip rfl (vr (.bool true) (vr (.bool true) (a_gskip rfl (a_gskip rfl (vr (.bool true) (vr (.bool true) (nx _ rfl (a_ret ?_)))))))))
   refine ⟨.inr rfl,?_⟩
   rw [Tryz.results130]
   cases h
   exact ⟨_,_,_,_,_,rfl,trivial,.inl ⟨rfl,.inl rfl⟩,rfl,rfl⟩
 ·have h:=ite_t hb1 h
  refine a_gskip rfl (a_gskip rfl (vr (.bool true) (vr (.bool true) (a_gskip rfl (a_gskip rfl (vr (.bool true) (vr (.bool true) (a_gskip rfl (a_gskip rfl ?_)))))))))
  refine vr (.bool true) (vr (.bool true) (nx _ rfl (a_ret ?_)))
  refine ⟨.inr rfl,?_⟩
  rw [Tryz.results130]
  cases h
  exact ⟨_,_,_,_,_,rfl,trivial,.inl ⟨rfl,.inl rfl⟩,rfl,rfl⟩
def impl_isPoly_c1_of_p_L:Live:=[(0,[0,1]),(1,[0,1])]
noncomputable def impl_isPoly_c1_of_p (a0:Int) (a1:Int):Option Bool :=
 (some ((decide ((IntKind.i64.wrap a0) < a1))))
theorem impl_isPoly_c1_of_p_ok (a0:Int) (a1:Int) (r:Bool) (h:impl_isPoly_c1_of_p a0 a1=some r):Den Tryz.prog 147 [(b8 a0),(.ref (i6 a1) [] [])] { r:=(.bool r) }:=by
 refine dd (rs:=[(.bool r)]) (L:=impl_isPoly_c1_of_p_L) good [] Tryz.func147 Tryz.ntmps147 ?_
 refine ns ⟨[(0,b8 a0),(1,.ref (i6 a1) [] [])],[]⟩ ?_
 refine sr (vr (.bool false) (nk ⟨[(0,b8 a0),(1,.ref (i6 a1) [] [])],[]⟩ (sr (vr (b8 a0) (vr (i6 (IntKind.i64.wrap a0)) ?_)))))
 have hl1:LdOk [] (i6 a1) [] 1 false (i6 a1):=(.nil rfl rfl rfl)
 refine vq (i6 a1) (ld_ref (i:=⟨.int .i64,1,8,(.int .i64 0)⟩) rfl rfl hl1) hl1.c (vr (.bool ((decide ((IntKind.i64.wrap a0) < a1)))) (vr (.bool ((decide ((IntKind.i64.wrap a0) < a1)))) (nx _ rfl (a_ret ?_))))
 refine ⟨.inr rfl,?_⟩
 rw [Tryz.results147]
 cases h
 exact ⟨_,_,_,_,_,rfl,trivial,.inl ⟨rfl,.inl rfl⟩,rfl,rfl⟩
def impl_areAll_byte__c1_of_p_L:Live:=[(0,[0,1]),(1,[0,1])]
noncomputable def impl_areAll_byte__c1_of_p (a0:Int) (a1c0:Int):Option Bool :=
 (Option.bind (impl_isPoly_c1_of_p a0 a1c0) fun r2=>(some (!r2)))
theorem impl_areAll_byte__c1_of_p_ok (a0:Int) (a1c0:Int) (r:Bool) (h:impl_areAll_byte__c1_of_p a0 a1c0=some r):Den Tryz.prog 172 [(b8 a0),(.ref (.clo 147 [] [(.ref (i6 a1c0) [] [])]) [] [])] { r:=(.bool r) }:=by
 refine dd (rs:=[(.bool r)]) (L:=impl_areAll_byte__c1_of_p_L) good [] Tryz.func172 Tryz.ntmps172 ?_
 refine ns ⟨[(0,b8 a0),(1,.ref (.clo 147 [] [(.ref (i6 a1c0) [] [])]) [] [])],[]⟩ ?_
 refine sr (vr (.bool false) (nk ⟨[(0,b8 a0),(1,.ref (.clo 147 [] [(.ref (i6 a1c0) [] [])]) [] [])],[]⟩ (sr ?_)))
 have hl1:LdOk [] (.clo 147 [] [(.ref (i6 a1c0) [] [])]) [] 1 false (.clo 147 [] [(.ref (i6 a1c0) [] [])]):=(.nil rfl rfl rfl)
 refine vq (.clo 147 [] [(.ref (i6 a1c0) [] [])]) (ld_ref (i:=⟨.other,1,8,(.raw .nilFunc)⟩) rfl rfl hl1) hl1.c (vr (b8 a0) ?_)
 obtain ⟨r2,hr3,h⟩:=bind_some h
 refine ca (impl_isPoly_c1_of_p_ok a0 a1c0 r2 hr3) (vr (.bool (!r2)) (vr (.bool (!r2)) (nx _ rfl (a_ret ?_))))
 refine ⟨.inr rfl,?_⟩
 rw [Tryz.results172]
 cases h
 exact ⟨_,_,_,_,_,rfl,trivial,.inl ⟨rfl,.inl rfl⟩,rfl,rfl⟩
end Go.Proofs.YtkbnegemdlnncaaGreat
