/- Functions of the program: plain Lean functions, and that the program computes them. Printed by gen.py. -/
import Derived.Test.YtebfhlnfmkhmcaaFnT
import Derived.Test.YtebfhlnfmkhmcaaFn4
import Derived.Test.YtebfhlnfmkhmcaaFn5
import Derived.Test.YtebfhlnfmkhmcaaFn6
namespace Go.Proofs.Ytebfhlnfmkhmcaa
open Go.Abs Go.Proofs
set_option linter.unusedSimpArgs false
set_option linter.unusedVariables false
set_option maxHeartbeats 16000000
attribute [local irreducible] Abs.acode Abs.aops Abs.aopsT Abs.thenK Abs.blockK

def impl_curve_reduced_L:Live:=[(0,[0,1]),(1,[2,3,4]),(2,[2,3,4]),(3,[2,3,4,5]),(4,[2,3,4]),(5,[3,4]),(100010,[2,3,4,10])]
noncomputable def impl_curve_reduced_l1 (a0:(Int×(List Int))) (x278:((List Int)×(List Int))):Option (((List Int)×(List Int))⊕((List Int)×(List Int))) :=
 (Option.bind (impl_curve_isReduced a0 x278) fun r351=>(if (!r351) then (Option.bind (impl_prime_times a0.1 x278.2 x278.2) fun r373=>(Option.bind (impl_prime_combine a0.1 a0.2 r373 (-1)) fun r375=>(Option.bind (impl_prime_divide a0.1 r375 x278.1) fun r378=>(Option.bind (impl_row_lead r378.1) fun r391=>(Option.bind (impl_prime_inverse a0.1 r391) fun r393=>(Option.bind (impl_prime_scale a0.1 r378.1 r393) fun r395=>(Option.bind (impl_prime_scale a0.1 x278.2 (-1)) fun r410=>(Option.bind (impl_prime_rest a0.1 r410 r395) fun r413=>(some (.inl (r395,r413))))))))))) else (some (.inr x278))))
noncomputable def impl_curve_reduced (a0:(Int×(List Int))) (a1:((List Int)×(List Int))):Option ((List Int)×(List Int)) :=
 (Option.bind (α:=((List Int)×(List Int))) ((loopM (fun s:((List Int)×(List Int))=>impl_curve_reduced_l1 a0 s) a1)) fun x207=>(some x207))
theorem impl_curve_reduced_ok (a0:(Int×(List Int))) (a1:((List Int)×(List Int))) (r:((List Int)×(List Int))) (h:impl_curve_reduced a0 a1=some r):Den Try.prog 92 [(eT_i64_Si64_Z a0),(eT_Si64_Si64_Z a1)] { r:=(eT_Si64_Si64_Z r) }:=by
 refine dd (rs:=[(eT_Si64_Si64_Z r)]) (L:=impl_curve_reduced_L) good [(5,1),(6,1)] Try.func92 Try.ntmps92 ?_
 refine ns ⟨[(0,eT_i64_Si64_Z a0),(1,eT_Si64_Si64_Z a1)],[]⟩ ?_
 refine sr (vo 1200 (eT_i64_Si64_Z a0) rfl rfl (vo 1300 (eT_Si64_Si64_Z a1) rfl rfl (vo 1400 (eT_Si64_Si64_Z ([],[])) rfl rfl (nk ⟨[(2,ow 2),(3,ow 3),(4,ow 4)],[(2,bk (eT_i64_Si64_Z a0)),(3,bk (eT_Si64_Si64_Z a1)),(4,bk (eT_Si64_Si64_Z ([],[])))]⟩ ?_))))
 obtain ⟨y208,hy209,hk210⟩:=bind_some h
 clear h
 refine a_join (emb:=fun (s:((List Int)×(List Int)))=>⟨[(3,ow 3),(4,ow 4)],[(3,bk (eT_Si64_Si64_Z s)),(4,bk (eT_Si64_Si64_Z ([],[])))]⟩) (pre:=fun s=>s=y208) ?_ ?_
 ·rintro x207 rfl
  have h:=hk210
  refine ns ⟨[(3,ow 3),(4,ow 4)],[(3,bk (eT_Si64_Si64_Z x207)),(4,bk (eT_Si64_Si64_Z ([],[])))]⟩ (sr (vl (eT_Si64_Si64_Z x207) rfl rfl rfl rfl rfl rfl (vs (eT_Si64_Si64_Z x207) rfl rfl (fun _=>rfl) rfl rfl rfl rfl rfl rfl (nx _ rfl (a_ret ?_)))))
  have hl419:LdOk [] (eT_Si64_Si64_Z x207) [] 2 true (eT_Si64_Si64_Z x207):=(.nil rfl rfl rfl)
  refine ⟨.inr rfl,?_⟩
  rw [Try.results92]
  cases h
  exact ⟨_,_,_,_,_,ld_own (i:=⟨.struct [(0,42),(1,42)],2,48,(eT_Si64_Si64_Z ([],[]))⟩) rfl rfl rfl hl419,hl419.c,.inl ⟨rfl,.inl rfl⟩,rfl,rfl⟩
 ·have h:=hy209
  refine a_block ?_
  refine a_loop (emb:=fun (s:((List Int)×(List Int)))=>⟨[(2,ow 2),(3,ow 3),(4,ow 4)],[(2,bk (eT_i64_Si64_Z a0)),(3,bk (eT_Si64_Si64_Z s)),(4,bk (eT_Si64_Si64_Z ([],[])))]⟩) (body:=(fun s:((List Int)×(List Int))=>impl_curve_reduced_l1 a0 s)) (G:=fun q=>some q=some y208) h rfl ?_ (by kernel_rfl)
  rintro X346 x278 x347 h hX348
  have h:impl_curve_reduced_l1 a0 x278=some x347:=h
  refine ns ⟨[(2,ow 2),(3,ow 3),(4,ow 4)],[(2,bk (eT_i64_Si64_Z a0)),(3,bk (eT_Si64_Si64_Z x278)),(4,bk (eT_Si64_Si64_Z ([],[])))]⟩ (a_seq (sr (vl (eT_i64_Si64_Z a0) rfl rfl rfl rfl rfl rfl (vl (eT_Si64_Si64_Z x278) rfl rfl rfl rfl rfl rfl ?_))))
  obtain ⟨r351,hr352,h⟩:=bind_some h
  refine ca (impl_curve_isReduced_ok a0 x278 r351 hr352) (vr (.bool (!r351)) (nk ⟨[(2,ow 2),(3,ow 3),(4,ow 4),(10,.bool (!r351))],[(2,bk (eT_i64_Si64_Z a0)),(3,bk (eT_Si64_Si64_Z x278)),(4,bk (eT_Si64_Si64_Z ([],[])))]⟩ ?_))
  cases hb353:(!r351)
  ·have h:=ite_f hb353 h
   refine a_cond_f rfl (a_exit (t_exit ?_))
   cases h
   have h:=hX348
   refine t_exit (b_exit ?_)
   exact jl x278 h
  ·have h:=ite_t hb353 h
   refine a_cond_t rfl (a_skip (nj ⟨[(2,ow 2),(3,ow 3),(4,ow 4)],[(2,bk (eT_i64_Si64_Z a0)),(3,bk (eT_Si64_Si64_Z x278)),(4,bk (eT_Si64_Si64_Z ([],[])))]⟩ (a_block (a_seq (a_draw [⟨[2],[],[2],[]⟩,⟨[2],[],[],[0]⟩,⟨[2],[],[2],[]⟩,⟨[2],[],[],[2]⟩,⟨[2],[],[2],[]⟩,⟨[2],[],[],[4]⟩,⟨[2],[],[2],[]⟩,⟨[2],[],[],[6]⟩,⟨[3],[],[3],[]⟩,⟨[3],[],[],[8]⟩,⟨[3],[],[3],[]⟩,⟨[3],[],[],[10]⟩,⟨[],[],[],[6,7,8,9,10,11]⟩,⟨[],[],[],[2,3,4,5,6,7,8,9,10,11,12]⟩,⟨[3],[],[3],[]⟩,⟨[3],[],[],[14]⟩,⟨[],[],[],[0,1,2,3,4,5,6,7,8,9,10,11,12,13,14,15]⟩,⟨[],[],[],[0,1,2,3,4,5,6,7,8,9,10,11,12,13,14,15,16]⟩,⟨[],[],[],[0,1,2,3,4,5,6,7,8,9,10,11,12,13,14,15,16,17]⟩,⟨[],[],[],[0,1,2,3,4,5,6,7,8,9,10,11,12,13,14,15,16,17]⟩,⟨[],[],[],[0,1,2,3,4,5,6,7,8,9,10,11,12,13,14,15,16,17,18]⟩,⟨[],[],[],[0,1,2,3,4,5,6,7,8,9,10,11,12,13,14,15,16,17,18,19,20]⟩] (by kernel_rfl) (d_cons (vb (.own 2 [0] [0]) rfl rfl (dn (d_cons ?_)))))))))
   have hl367:LdOk [0] (eT_i64_Si64_Z a0) [0] 1 false (i6 a0.1):=(.fld rfl rfl rfl rfl (.nil rfl rfl rfl))
   refine vq (i6 a0.1) (ld_own (i:=⟨.int .i64,1,8,(.int .i64 0)⟩) rfl rfl rfl hl367) hl367.c (dn (d_cons (vb (.own 2 [0] [0]) rfl rfl (dn (d_cons ?_)))))
   have hl368:LdOk [0] (eT_i64_Si64_Z a0) [0] 1 false (i6 a0.1):=(.fld rfl rfl rfl rfl (.nil rfl rfl rfl))
   refine vq (i6 a0.1) (ld_own (i:=⟨.int .i64,1,8,(.int .i64 0)⟩) rfl rfl rfl hl368) hl368.c (dn (d_cons (vb (.own 2 [1] [1]) rfl rfl (dn (d_cons ?_)))))
   have hl369:LdOk [1] (eT_i64_Si64_Z a0) [1] 1 false (eSi64 a0.2):=(.fld rfl rfl rfl rfl (.nil rfl rfl rfl))
   refine vq (eSi64 a0.2) (ld_own (i:=⟨.slice 2,1,24,(eSi64 [])⟩) rfl rfl rfl hl369) hl369.c (dn (d_cons (vb (.own 2 [0] [0]) rfl rfl (dn (d_cons ?_)))))
   have hl370:LdOk [0] (eT_i64_Si64_Z a0) [0] 1 false (i6 a0.1):=(.fld rfl rfl rfl rfl (.nil rfl rfl rfl))
   refine vq (i6 a0.1) (ld_own (i:=⟨.int .i64,1,8,(.int .i64 0)⟩) rfl rfl rfl hl370) hl370.c (dn (d_cons (vb (.own 3 [1] [1]) rfl rfl (dn (d_cons ?_)))))
   have hl371:LdOk [1] (eT_Si64_Si64_Z x278) [1] 1 false (eSi64 x278.2):=(.fld rfl rfl rfl rfl (.nil rfl rfl rfl))
   refine vq (eSi64 x278.2) (ld_own (i:=⟨.slice 2,1,24,(eSi64 [])⟩) rfl rfl rfl hl371) hl371.c (dn (d_cons (vb (.own 3 [1] [1]) rfl rfl (dn (d_cons ?_)))))
   have hl372:LdOk [1] (eT_Si64_Si64_Z x278) [1] 1 false (eSi64 x278.2):=(.fld rfl rfl rfl rfl (.nil rfl rfl rfl))
   refine vq (eSi64 x278.2) (ld_own (i:=⟨.slice 2,1,24,(eSi64 [])⟩) rfl rfl rfl hl372) hl372.c (dn (d_cons ?_))
   obtain ⟨r373,hr374,h⟩:=bind_some h
   refine ca (impl_prime_times_ok a0.1 x278.2 x278.2 r373 hr374) (dn (d_cons ?_))
   obtain ⟨r375,hr376,h⟩:=bind_some h
   refine ca (impl_prime_combine_ok a0.1 a0.2 r373 (-1) r375 hr376) (dn (d_cons (vb (.own 3 [0] [0]) rfl rfl (dn (d_cons ?_)))))
   have hl377:LdOk [0] (eT_Si64_Si64_Z x278) [0] 1 false (eSi64 x278.1):=(.fld rfl rfl rfl rfl (.nil rfl rfl rfl))
   refine vq (eSi64 x278.1) (ld_own (i:=⟨.slice 2,1,24,(eSi64 [])⟩) rfl rfl rfl hl377) hl377.c (dn (d_cons ?_))
   obtain ⟨r378,hr379,h⟩:=bind_some h
   refine ca (impl_prime_divide_ok a0.1 r375 x278.1 r378 hr379) (dn (dj (.tuple [(eSi64 r378.1),(eSi64 r378.2)]) rfl (d_cons (vb (eSi64 r378.1) rfl rfl (dn (d_cons (vb (eSi64 r378.2) rfl rfl (dn (dj (eSi64 r378.1) rfl ?_)))))))))
   refine dj (eSi64 r378.2) rfl (d_nil (nj ⟨[(2,ow 2),(3,ow 3),(4,ow 4),(5,eSi64 r378.1)],[(2,bk (eT_i64_Si64_Z a0)),(3,bk (eT_Si64_Si64_Z x278)),(4,bk (eT_Si64_Si64_Z ([],[])))]⟩ (a_seq (a_draw [⟨[2],[],[2],[]⟩,⟨[2],[],[],[0]⟩,⟨[],[],[],[]⟩,⟨[2],[],[2],[]⟩,⟨[2],[],[],[3]⟩,⟨[],[],[],[]⟩,⟨[],[],[],[5]⟩,⟨[],[],[],[3,4,5,6]⟩,⟨[],[],[],[0,1,2,3,4,5,6,7]⟩,⟨[3],[],[3],[0,1,2,3,4,5,6,7,8]⟩,⟨[3],[3],[],[0,1,2,3,4,5,6,7,8,9]⟩] (by kernel_rfl) (d_cons (vb (.own 2 [0] [0]) rfl rfl (dn (d_cons ?_))))))))
   have hl389:LdOk [0] (eT_i64_Si64_Z a0) [0] 1 false (i6 a0.1):=(.fld rfl rfl rfl rfl (.nil rfl rfl rfl))
   refine vq (i6 a0.1) (ld_own (i:=⟨.int .i64,1,8,(.int .i64 0)⟩) rfl rfl rfl hl389) hl389.c (dn (dj (eSi64 r378.1) rfl (d_cons (vb (.own 2 [0] [0]) rfl rfl (dn (d_cons ?_))))))
   have hl390:LdOk [0] (eT_i64_Si64_Z a0) [0] 1 false (i6 a0.1):=(.fld rfl rfl rfl rfl (.nil rfl rfl rfl))
   refine vq (i6 a0.1) (ld_own (i:=⟨.int .i64,1,8,(.int .i64 0)⟩) rfl rfl rfl hl390) hl390.c (dn (dj (eSi64 r378.1) rfl (d_cons ?_)))
   obtain ⟨r391,hr392,h⟩:=bind_some h
   refine ca (impl_row_lead_ok r378.1 r391 hr392) (dn (d_cons ?_))
   obtain ⟨r393,hr394,h⟩:=bind_some h
   refine ca (impl_prime_inverse_ok a0.1 r391 r393 hr394) (dn (d_cons ?_))
   obtain ⟨r395,hr396,h⟩:=bind_some h
   refine ca (impl_prime_scale_ok a0.1 r378.1 r393 r395 hr396) (dn (d_cons (vb (.own 3 [0] [0]) rfl rfl (dn (d_cons ?_)))))
   have hs397:StOk [0] (eT_Si64_Si64_Z x278) [0] 1 (eSi64 r395) (eT_Si64_Si64_Z (r395,x278.2)):=(.fld rfl rfl rfl rfl (.nil rfl rfl rfl rfl))
   refine vu .top [(3,bk (eT_Si64_Si64_Z (r395,x278.2)))] (st_own (i:=⟨.slice 2,1,24,(eSi64 [])⟩) rfl rfl (fun _=>rfl) rfl hs397) (hs397.c rfl) rfl (dn (d_nil (nj ⟨[(2,ow 2),(3,ow 3),(4,ow 4)],[(2,bk (eT_i64_Si64_Z a0)),(3,bk (eT_Si64_Si64_Z (r395,x278.2))),(4,bk (eT_Si64_Si64_Z ([],[])))]⟩ (a_draw [⟨[2],[],[2],[]⟩,⟨[2],[],[],[0]⟩,⟨[2],[],[2],[]⟩,⟨[2],[],[],[2]⟩,⟨[3],[],[3],[]⟩,⟨[3],[],[],[4]⟩,⟨[],[],[],[2,3,4,5]⟩,⟨[3],[],[3],[]⟩,⟨[3],[],[],[7]⟩,⟨[],[],[],[0,1,2,3,4,5,6,7,8]⟩,⟨[3],[],[3],[0,1,2,3,4,5,6,7,8,9]⟩,⟨[3],[3],[],[0,1,2,3,4,5,6,7,8,9,10]⟩] (by kernel_rfl) (d_cons (vb (.own 2 [0] [0]) rfl rfl (dn (d_cons ?_))))))))
   have hl407:LdOk [0] (eT_i64_Si64_Z a0) [0] 1 false (i6 a0.1):=(.fld rfl rfl rfl rfl (.nil rfl rfl rfl))
   refine vq (i6 a0.1) (ld_own (i:=⟨.int .i64,1,8,(.int .i64 0)⟩) rfl rfl rfl hl407) hl407.c (dn (d_cons (vb (.own 2 [0] [0]) rfl rfl (dn (d_cons ?_)))))
   have hl408:LdOk [0] (eT_i64_Si64_Z a0) [0] 1 false (i6 a0.1):=(.fld rfl rfl rfl rfl (.nil rfl rfl rfl))
   refine vq (i6 a0.1) (ld_own (i:=⟨.int .i64,1,8,(.int .i64 0)⟩) rfl rfl rfl hl408) hl408.c (dn (d_cons (vb (.own 3 [1] [1]) rfl rfl (dn (d_cons ?_)))))
   have hl409:LdOk [1] (eT_Si64_Si64_Z (r395,x278.2)) [1] 1 false (eSi64 x278.2):=(.fld rfl rfl rfl rfl (.nil rfl rfl rfl))
   refine vq (eSi64 x278.2) (ld_own (i:=⟨.slice 2,1,24,(eSi64 [])⟩) rfl rfl rfl hl409) hl409.c (dn (d_cons ?_))
   obtain ⟨r410,hr411,h⟩:=bind_some h
   refine ca (impl_prime_scale_ok a0.1 x278.2 (-1) r410 hr411) (dn (d_cons (vb (.own 3 [0] [0]) rfl rfl (dn (d_cons ?_)))))
   have hl412:LdOk [0] (eT_Si64_Si64_Z (r395,x278.2)) [0] 1 false (eSi64 r395):=(.fld rfl rfl rfl rfl (.nil rfl rfl rfl))
   refine vq (eSi64 r395) (ld_own (i:=⟨.slice 2,1,24,(eSi64 [])⟩) rfl rfl rfl hl412) hl412.c (dn (d_cons ?_))
   obtain ⟨r413,hr414,h⟩:=bind_some h
   refine ca (impl_prime_rest_ok a0.1 r410 r395 r413 hr414) (dn (d_cons (vb (.own 3 [1] [1]) rfl rfl (dn (d_cons ?_)))))
   have hs415:StOk [1] (eT_Si64_Si64_Z (r395,x278.2)) [1] 1 (eSi64 r413) (eT_Si64_Si64_Z (r395,r413)):=(.fld rfl rfl rfl rfl (.nil rfl rfl rfl rfl))
   refine vu .top [(3,bk (eT_Si64_Si64_Z (r395,r413)))] (st_own (i:=⟨.slice 2,1,24,(eSi64 [])⟩) rfl rfl (fun _=>rfl) rfl hs415) (hs415.c rfl) rfl (dn (d_nil (b_norm ?_)))
   cases h
   exact ag hX348
def impl_curve_compose_L:Live:=[(0,[0,1,2]),(1,[3,4,5,6]),(2,[3,4,5,6,7,8,9]),(3,[3,4,5,6,7,8,9,10]),(4,[3,4,5,6,8,9,11,12,13]),(5,[3,4,5,6,11,13,14,15]),(6,[3,4,5,6,11,13,14,15,16]),(7,[3,4,5,6,11,13,15,16,18]),(8,[3,4,5,6,11,13,16,18]),(9,[3,6,11,16,18]),(10,[3,6,16,18])]
noncomputable def impl_curve_compose (a0:(Int×(List Int))) (a1:((List Int)×(List Int))) (a2:((List Int)×(List Int))):Option ((List Int)×(List Int)) :=
 (Option.bind (impl_prime_bezout a0.1 a1.1 a2.1) fun r4=>(Option.bind (impl_prime_combine a0.1 a1.2 a2.2 1) fun r9=>(Option.bind (impl_prime_bezout a0.1 r4.1 r9) fun r12=>(Option.bind (impl_prime_times a0.1 r12.2.1 r4.2.1) fun r21=>(Option.bind (impl_prime_times a0.1 r12.2.1 r4.2.2) fun r24=>(Option.bind (impl_prime_times a0.1 a1.1 a2.1) fun r41=>(Option.bind (impl_prime_times a0.1 r12.1 r12.1) fun r44=>(Option.bind (impl_prime_divide a0.1 r41 r44) fun r46=>(Option.bind (impl_prime_times a0.1 r21 a1.1) fun r59=>(Option.bind (impl_prime_times a0.1 r59 a2.2) fun r62=>(Option.bind (impl_prime_times a0.1 r24 a2.1) fun r79=>(Option.bind (impl_prime_times a0.1 r79 a1.2) fun r82=>(Option.bind (impl_prime_combine a0.1 r62 r82 1) fun r84=>(Option.bind (impl_prime_times a0.1 a1.2 a2.2) fun r107=>(Option.bind (impl_prime_combine a0.1 r107 a0.2 1) fun r110=>(Option.bind (impl_prime_times a0.1 r12.2.2 r110) fun r112=>(Option.bind (impl_prime_combine a0.1 r84 r112 1) fun r114=>(Option.bind (impl_prime_divide a0.1 r114 r12.1) fun r117=>(Option.bind (impl_prime_rest a0.1 r117.1 r46.1) fun r128=>(Option.bind (impl_curve_reduced a0 (r46.1,r128)) fun r130=>(some r130)))))))))))))))))))))
theorem impl_curve_compose_ok (a0:(Int×(List Int))) (a1:((List Int)×(List Int))) (a2:((List Int)×(List Int))) (r:((List Int)×(List Int))) (h:impl_curve_compose a0 a1 a2=some r):Den Try.prog 56 [(eT_i64_Si64_Z a0),(eT_Si64_Si64_Z a1),(eT_Si64_Si64_Z a2)] { r:=(eT_Si64_Si64_Z r) }:=by
 refine dd (rs:=[(eT_Si64_Si64_Z r)]) (L:=impl_curve_compose_L) good [(7,1),(8,1),(9,1),(10,1),(11,1),(12,1),(13,1),(14,1),(15,1),(16,1),(17,1),(18,1)] Try.func56 Try.ntmps56 ?_
 refine ns ⟨[(0,eT_i64_Si64_Z a0),(1,eT_Si64_Si64_Z a1),(2,eT_Si64_Si64_Z a2)],[]⟩ ?_
 refine sr (vo 1300 (eT_i64_Si64_Z a0) rfl rfl (vo 1400 (eT_Si64_Si64_Z a1) rfl rfl (vo 1500 (eT_Si64_Si64_Z a2) rfl rfl (vo 1600 (eT_Si64_Si64_Z ([],[])) rfl rfl (nk ⟨[(3,ow 3),(4,ow 4),(5,ow 5),(6,ow 6)],[(3,bk (eT_i64_Si64_Z a0)),(4,bk (eT_Si64_Si64_Z a1)),(5,bk (eT_Si64_Si64_Z a2)),(6,bk (eT_Si64_Si64_Z ([],[])))]⟩ (sr (vb (.own 3 [0] [0]) rfl rfl ?_)))))))
 have hl1:LdOk [0] (eT_i64_Si64_Z a0) [0] 1 false (i6 a0.1):=(.fld rfl rfl rfl rfl (.nil rfl rfl rfl))
 refine vq (i6 a0.1) (ld_own (i:=⟨.int .i64,1,8,(.int .i64 0)⟩) rfl rfl rfl hl1) hl1.c (vb (.own 4 [0] [0]) rfl rfl ?_)
 have hl2:LdOk [0] (eT_Si64_Si64_Z a1) [0] 1 false (eSi64 a1.1):=(.fld rfl rfl rfl rfl (.nil rfl rfl rfl))
 refine vq (eSi64 a1.1) (ld_own (i:=⟨.slice 2,1,24,(eSi64 [])⟩) rfl rfl rfl hl2) hl2.c (vb (.own 5 [0] [0]) rfl rfl ?_)
 have hl3:LdOk [0] (eT_Si64_Si64_Z a2) [0] 1 false (eSi64 a2.1):=(.fld rfl rfl rfl rfl (.nil rfl rfl rfl))
 refine vq (eSi64 a2.1) (ld_own (i:=⟨.slice 2,1,24,(eSi64 [])⟩) rfl rfl rfl hl3) hl3.c ?_
 obtain ⟨r4,hr5,h⟩:=bind_some h
 refine ca (impl_prime_bezout_ok a0.1 a1.1 a2.1 r4 hr5) (vr (.tuple [(eSi64 r4.1),(eSi64 r4.2.1),(eSi64 r4.2.2)]) (vb (eSi64 r4.1) rfl rfl (vb (eSi64 r4.2.1) rfl rfl (vb (eSi64 r4.2.2) rfl rfl (vr (eSi64 r4.1) (vr (eSi64 r4.2.1) (vr (eSi64 r4.2.2) (nk ⟨[(3,ow 3),(4,ow 4),(5,ow 5),(6,ow 6),(7,eSi64 r4.1),(8,eSi64 r4.2.1),(9,eSi64 r4.2.2)],[(3,bk (eT_i64_Si64_Z a0)),(4,bk (eT_Si64_Si64_Z a1)),(5,bk (eT_Si64_Si64_Z a2)),(6,bk (eT_Si64_Si64_Z ([],[])))]⟩ (sr ?_)))))))))
 refine vb (.own 3 [0] [0]) rfl rfl ?_
 have hl6:LdOk [0] (eT_i64_Si64_Z a0) [0] 1 false (i6 a0.1):=(.fld rfl rfl rfl rfl (.nil rfl rfl rfl))
 refine vq (i6 a0.1) (ld_own (i:=⟨.int .i64,1,8,(.int .i64 0)⟩) rfl rfl rfl hl6) hl6.c (vb (.own 4 [1] [1]) rfl rfl ?_)
 have hl7:LdOk [1] (eT_Si64_Si64_Z a1) [1] 1 false (eSi64 a1.2):=(.fld rfl rfl rfl rfl (.nil rfl rfl rfl))
 refine vq (eSi64 a1.2) (ld_own (i:=⟨.slice 2,1,24,(eSi64 [])⟩) rfl rfl rfl hl7) hl7.c (vb (.own 5 [1] [1]) rfl rfl ?_)
 have hl8:LdOk [1] (eT_Si64_Si64_Z a2) [1] 1 false (eSi64 a2.2):=(.fld rfl rfl rfl rfl (.nil rfl rfl rfl))
 refine vq (eSi64 a2.2) (ld_own (i:=⟨.slice 2,1,24,(eSi64 [])⟩) rfl rfl rfl hl8) hl8.c ?_
 obtain ⟨r9,hr10,h⟩:=bind_some h
 refine ca (impl_prime_combine_ok a0.1 a1.2 a2.2 1 r9 hr10) (vr (eSi64 r9) (nk ⟨[(3,ow 3),(4,ow 4),(5,ow 5),(6,ow 6),(7,eSi64 r4.1),(8,eSi64 r4.2.1),(9,eSi64 r4.2.2),(10,eSi64 r9)],[(3,bk (eT_i64_Si64_Z a0)),(4,bk (eT_Si64_Si64_Z a1)),(5,bk (eT_Si64_Si64_Z a2)),(6,bk (eT_Si64_Si64_Z ([],[])))]⟩ (sr (vb (.own 3 [0] [0]) rfl rfl ?_))))
 have hl11:LdOk [0] (eT_i64_Si64_Z a0) [0] 1 false (i6 a0.1):=(.fld rfl rfl rfl rfl (.nil rfl rfl rfl))
 refine vq (i6 a0.1) (ld_own (i:=⟨.int .i64,1,8,(.int .i64 0)⟩) rfl rfl rfl hl11) hl11.c (vr (eSi64 r4.1) (vr (eSi64 r9) ?_))
 obtain ⟨r12,hr13,h⟩:=bind_some h
 refine ca (impl_prime_bezout_ok a0.1 r4.1 r9 r12 hr13) (vr (.tuple [(eSi64 r12.1),(eSi64 r12.2.1),(eSi64 r12.2.2)]) (vb (eSi64 r12.1) rfl rfl (vb (eSi64 r12.2.1) rfl rfl (vb (eSi64 r12.2.2) rfl rfl (vr (eSi64 r12.1) (vr (eSi64 r12.2.1) (vr (eSi64 r12.2.2) (nk ⟨[(3,ow 3),(4,ow 4),(5,ow 5),(6,ow 6),(8,eSi64 r4.2.1),(9,eSi64 r4.2.2),(11,eSi64 r12.1),(12,eSi64 r12.2.1),(13,eSi64 r12.2.2)],[(3,bk (eT_i64_Si64_Z a0)),(4,bk (eT_Si64_Si64_Z a1)),(5,bk (eT_Si64_Si64_Z a2)),(6,bk (eT_Si64_Si64_Z ([],[])))]⟩ (a_seq ?_)))))))))
 refine a_draw [⟨[3],[],[3],[]⟩,⟨[3],[],[],[0]⟩,⟨[],[],[],[]⟩,⟨[],[],[],[]⟩,⟨[],[],[],[0,1,2,3]⟩,⟨[3],[],[3],[]⟩,⟨[3],[],[],[5]⟩,⟨[],[],[],[]⟩,⟨[],[],[],[]⟩,⟨[],[],[],[0,1,2,3,4,5,6,7,8]⟩,⟨[],[],[],[0,1,2,3,4,5,6,7,8,9]⟩,⟨[],[],[],[0,1,2,3,4,5,6,7,8,9,10]⟩] (by kernel_rfl) (d_cons (vb (.own 3 [0] [0]) rfl rfl (dn (d_cons ?_))))
 have hl20:LdOk [0] (eT_i64_Si64_Z a0) [0] 1 false (i6 a0.1):=(.fld rfl rfl rfl rfl (.nil rfl rfl rfl))
 refine vq (i6 a0.1) (ld_own (i:=⟨.int .i64,1,8,(.int .i64 0)⟩) rfl rfl rfl hl20) hl20.c (dn (dj (eSi64 r12.2.1) rfl (dj (eSi64 r4.2.1) rfl (d_cons ?_))))
 obtain ⟨r21,hr22,h⟩:=bind_some h
 refine ca (impl_prime_times_ok a0.1 r12.2.1 r4.2.1 r21 hr22) (dn (d_cons (vb (.own 3 [0] [0]) rfl rfl (dn (d_cons ?_)))))
 have hl23:LdOk [0] (eT_i64_Si64_Z a0) [0] 1 false (i6 a0.1):=(.fld rfl rfl rfl rfl (.nil rfl rfl rfl))
 refine vq (i6 a0.1) (ld_own (i:=⟨.int .i64,1,8,(.int .i64 0)⟩) rfl rfl rfl hl23) hl23.c (dn (dj (eSi64 r12.2.1) rfl (dj (eSi64 r4.2.2) rfl (d_cons ?_))))
 obtain ⟨r24,hr25,h⟩:=bind_some h
 refine ca (impl_prime_times_ok a0.1 r12.2.1 r4.2.2 r24 hr25) (dn (dj (eSi64 r21) rfl (dj (eSi64 r24) rfl (d_nil (nj ⟨[(3,ow 3),(4,ow 4),(5,ow 5),(6,ow 6),(11,eSi64 r12.1),(13,eSi64 r12.2.2),(14,eSi64 r21),(15,eSi64 r24)],[(3,bk (eT_i64_Si64_Z a0)),(4,bk (eT_Si64_Si64_Z a1)),(5,bk (eT_Si64_Si64_Z a2)),(6,bk (eT_Si64_Si64_Z ([],[])))]⟩ (a_seq (a_draw [⟨[3],[],[3],[]⟩,⟨[3],[],[],[0]⟩,⟨[3],[],[3],[]⟩,⟨[3],[],[],[2]⟩,⟨[4],[],[4],[]⟩,⟨[4],[],[],[4]⟩,⟨[5],[],[5],[]⟩,⟨[5],[],[],[6]⟩,⟨[],[],[],[2,3,4,5,6,7]⟩,⟨[3],[],[3],[]⟩,⟨[3],[],[],[9]⟩,⟨[],[],[],[]⟩,⟨[],[],[],[]⟩,⟨[],[],[],[2,3,4,5,6,7,8,9,10,11,12]⟩,⟨[],[],[],[0,1,2,3,4,5,6,7,8,9,10,11,12,13]⟩,⟨[],[],[],[0,1,2,3,4,5,6,7,8,9,10,11,12,13,14]⟩,⟨[],[],[],[0,1,2,3,4,5,6,7,8,9,10,11,12,13,14,15]⟩,⟨[],[],[],[0,1,2,3,4,5,6,7,8,9,10,11,12,13,14,15]⟩,⟨[],[],[],[0,1,2,3,4,5,6,7,8,9,10,11,12,13,14,15,16]⟩,⟨[],[],[],[0,1,2,3,4,5,6,7,8,9,10,11,12,13,14,15,16,17,18]⟩] (by kernel_rfl) (d_cons (vb (.own 3 [0] [0]) rfl rfl ?_)))))))))
 refine dn (d_cons ?_)
 have hl37:LdOk [0] (eT_i64_Si64_Z a0) [0] 1 false (i6 a0.1):=(.fld rfl rfl rfl rfl (.nil rfl rfl rfl))
 refine vq (i6 a0.1) (ld_own (i:=⟨.int .i64,1,8,(.int .i64 0)⟩) rfl rfl rfl hl37) hl37.c (dn (d_cons (vb (.own 3 [0] [0]) rfl rfl (dn (d_cons ?_)))))
 have hl38:LdOk [0] (eT_i64_Si64_Z a0) [0] 1 false (i6 a0.1):=(.fld rfl rfl rfl rfl (.nil rfl rfl rfl))
 refine vq (i6 a0.1) (ld_own (i:=⟨.int .i64,1,8,(.int .i64 0)⟩) rfl rfl rfl hl38) hl38.c (dn (d_cons (vb (.own 4 [0] [0]) rfl rfl (dn (d_cons ?_)))))
 have hl39:LdOk [0] (eT_Si64_Si64_Z a1) [0] 1 false (eSi64 a1.1):=(.fld rfl rfl rfl rfl (.nil rfl rfl rfl))
 refine vq (eSi64 a1.1) (ld_own (i:=⟨.slice 2,1,24,(eSi64 [])⟩) rfl rfl rfl hl39) hl39.c (dn (d_cons (vb (.own 5 [0] [0]) rfl rfl (dn (d_cons ?_)))))
 have hl40:LdOk [0] (eT_Si64_Si64_Z a2) [0] 1 false (eSi64 a2.1):=(.fld rfl rfl rfl rfl (.nil rfl rfl rfl))
 refine vq (eSi64 a2.1) (ld_own (i:=⟨.slice 2,1,24,(eSi64 [])⟩) rfl rfl rfl hl40) hl40.c (dn (d_cons ?_))
 obtain ⟨r41,hr42,h⟩:=bind_some h
 refine ca (impl_prime_times_ok a0.1 a1.1 a2.1 r41 hr42) (dn (d_cons (vb (.own 3 [0] [0]) rfl rfl (dn (d_cons ?_)))))
 have hl43:LdOk [0] (eT_i64_Si64_Z a0) [0] 1 false (i6 a0.1):=(.fld rfl rfl rfl rfl (.nil rfl rfl rfl))
 refine vq (i6 a0.1) (ld_own (i:=⟨.int .i64,1,8,(.int .i64 0)⟩) rfl rfl rfl hl43) hl43.c (dn (dj (eSi64 r12.1) rfl (dj (eSi64 r12.1) rfl (d_cons ?_))))
 obtain ⟨r44,hr45,h⟩:=bind_some h
 refine ca (impl_prime_times_ok a0.1 r12.1 r12.1 r44 hr45) (dn (d_cons ?_))
 obtain ⟨r46,hr47,h⟩:=bind_some h
 refine ca (impl_prime_divide_ok a0.1 r41 r44 r46 hr47) (dn (dj (.tuple [(eSi64 r46.1),(eSi64 r46.2)]) rfl (d_cons (vb (eSi64 r46.1) rfl rfl (dn (d_cons (vb (eSi64 r46.2) rfl rfl (dn (dj (eSi64 r46.1) rfl ?_)))))))))
 refine dj (eSi64 r46.2) rfl (d_nil (nj ⟨[(3,ow 3),(4,ow 4),(5,ow 5),(6,ow 6),(11,eSi64 r12.1),(13,eSi64 r12.2.2),(14,eSi64 r21),(15,eSi64 r24),(16,eSi64 r46.1)],[(3,bk (eT_i64_Si64_Z a0)),(4,bk (eT_Si64_Si64_Z a1)),(5,bk (eT_Si64_Si64_Z a2)),(6,bk (eT_Si64_Si64_Z ([],[])))]⟩ (a_seq (a_draw [⟨[3],[],[3],[]⟩,⟨[3],[],[],[0]⟩,⟨[3],[],[3],[]⟩,⟨[3],[],[],[2]⟩,⟨[],[],[],[]⟩,⟨[4],[],[4],[]⟩,⟨[4],[],[],[5]⟩,⟨[],[],[],[2,3,4,5,6]⟩,⟨[5],[],[5],[]⟩,⟨[5],[],[],[8]⟩,⟨[],[],[],[0,1,2,3,4,5,6,7,8,9]⟩,⟨[],[],[],[0,1,2,3,4,5,6,7,8,9,10]⟩] (by kernel_rfl) (d_cons (vb (.own 3 [0] [0]) rfl rfl (dn (d_cons ?_))))))))
 have hl56:LdOk [0] (eT_i64_Si64_Z a0) [0] 1 false (i6 a0.1):=(.fld rfl rfl rfl rfl (.nil rfl rfl rfl))
 refine vq (i6 a0.1) (ld_own (i:=⟨.int .i64,1,8,(.int .i64 0)⟩) rfl rfl rfl hl56) hl56.c (dn (d_cons (vb (.own 3 [0] [0]) rfl rfl (dn (d_cons ?_)))))
 have hl57:LdOk [0] (eT_i64_Si64_Z a0) [0] 1 false (i6 a0.1):=(.fld rfl rfl rfl rfl (.nil rfl rfl rfl))
 refine vq (i6 a0.1) (ld_own (i:=⟨.int .i64,1,8,(.int .i64 0)⟩) rfl rfl rfl hl57) hl57.c (dn (dj (eSi64 r21) rfl (d_cons (vb (.own 4 [0] [0]) rfl rfl (dn (d_cons ?_))))))
 have hl58:LdOk [0] (eT_Si64_Si64_Z a1) [0] 1 false (eSi64 a1.1):=(.fld rfl rfl rfl rfl (.nil rfl rfl rfl))
 refine vq (eSi64 a1.1) (ld_own (i:=⟨.slice 2,1,24,(eSi64 [])⟩) rfl rfl rfl hl58) hl58.c (dn (d_cons ?_))
 obtain ⟨r59,hr60,h⟩:=bind_some h
 refine ca (impl_prime_times_ok a0.1 r21 a1.1 r59 hr60) (dn (d_cons (vb (.own 5 [1] [1]) rfl rfl (dn (d_cons ?_)))))
 have hl61:LdOk [1] (eT_Si64_Si64_Z a2) [1] 1 false (eSi64 a2.2):=(.fld rfl rfl rfl rfl (.nil rfl rfl rfl))
 refine vq (eSi64 a2.2) (ld_own (i:=⟨.slice 2,1,24,(eSi64 [])⟩) rfl rfl rfl hl61) hl61.c (dn (d_cons ?_))
 obtain ⟨r62,hr63,h⟩:=bind_some h
 refine ca (impl_prime_times_ok a0.1 r59 a2.2 r62 hr63) (dn (dj (eSi64 r62) rfl (d_nil (nj ⟨[(3,ow 3),(4,ow 4),(5,ow 5),(6,ow 6),(11,eSi64 r12.1),(13,eSi64 r12.2.2),(15,eSi64 r24),(16,eSi64 r46.1),(18,eSi64 r62)],[(3,bk (eT_i64_Si64_Z a0)),(4,bk (eT_Si64_Si64_Z a1)),(5,bk (eT_Si64_Si64_Z a2)),(6,bk (eT_Si64_Si64_Z ([],[])))]⟩ (a_seq (a_draw [⟨[3],[],[3],[]⟩,⟨[3],[],[],[0]⟩,⟨[],[],[],[]⟩,⟨[3],[],[3],[]⟩,⟨[3],[],[],[3]⟩,⟨[3],[],[3],[]⟩,⟨[3],[],[],[5]⟩,⟨[],[],[],[]⟩,⟨[5],[],[5],[]⟩,⟨[5],[],[],[8]⟩,⟨[],[],[],[5,6,7,8,9]⟩,⟨[4],[],[4],[]⟩,⟨[4],[],[],[11]⟩,⟨[],[],[],[3,4,5,6,7,8,9,10,11,12]⟩,⟨[],[],[],[0,1,2,3,4,5,6,7,8,9,10,11,12,13]⟩,⟨[],[],[],[0,1,2,3,4,5,6,7,8,9,10,11,12,13,14]⟩] (by kernel_rfl) (d_cons (vb (.own 3 [0] [0]) rfl rfl (dn ?_)))))))))
 refine d_cons ?_
 have hl75:LdOk [0] (eT_i64_Si64_Z a0) [0] 1 false (i6 a0.1):=(.fld rfl rfl rfl rfl (.nil rfl rfl rfl))
 refine vq (i6 a0.1) (ld_own (i:=⟨.int .i64,1,8,(.int .i64 0)⟩) rfl rfl rfl hl75) hl75.c (dn (dj (eSi64 r62) rfl (d_cons (vb (.own 3 [0] [0]) rfl rfl (dn (d_cons ?_))))))
 have hl76:LdOk [0] (eT_i64_Si64_Z a0) [0] 1 false (i6 a0.1):=(.fld rfl rfl rfl rfl (.nil rfl rfl rfl))
 refine vq (i6 a0.1) (ld_own (i:=⟨.int .i64,1,8,(.int .i64 0)⟩) rfl rfl rfl hl76) hl76.c (dn (d_cons (vb (.own 3 [0] [0]) rfl rfl (dn (d_cons ?_)))))
 have hl77:LdOk [0] (eT_i64_Si64_Z a0) [0] 1 false (i6 a0.1):=(.fld rfl rfl rfl rfl (.nil rfl rfl rfl))
 refine vq (i6 a0.1) (ld_own (i:=⟨.int .i64,1,8,(.int .i64 0)⟩) rfl rfl rfl hl77) hl77.c (dn (dj (eSi64 r24) rfl (d_cons (vb (.own 5 [0] [0]) rfl rfl (dn (d_cons ?_))))))
 have hl78:LdOk [0] (eT_Si64_Si64_Z a2) [0] 1 false (eSi64 a2.1):=(.fld rfl rfl rfl rfl (.nil rfl rfl rfl))
 refine vq (eSi64 a2.1) (ld_own (i:=⟨.slice 2,1,24,(eSi64 [])⟩) rfl rfl rfl hl78) hl78.c (dn (d_cons ?_))
 obtain ⟨r79,hr80,h⟩:=bind_some h
 refine ca (impl_prime_times_ok a0.1 r24 a2.1 r79 hr80) (dn (d_cons (vb (.own 4 [1] [1]) rfl rfl (dn (d_cons ?_)))))
 have hl81:LdOk [1] (eT_Si64_Si64_Z a1) [1] 1 false (eSi64 a1.2):=(.fld rfl rfl rfl rfl (.nil rfl rfl rfl))
 refine vq (eSi64 a1.2) (ld_own (i:=⟨.slice 2,1,24,(eSi64 [])⟩) rfl rfl rfl hl81) hl81.c (dn (d_cons ?_))
 obtain ⟨r82,hr83,h⟩:=bind_some h
 refine ca (impl_prime_times_ok a0.1 r79 a1.2 r82 hr83) (dn (d_cons ?_))
 obtain ⟨r84,hr85,h⟩:=bind_some h
 refine ca (impl_prime_combine_ok a0.1 r62 r82 1 r84 hr85) (dn (dj (eSi64 r84) rfl (d_nil (nj ⟨[(3,ow 3),(4,ow 4),(5,ow 5),(6,ow 6),(11,eSi64 r12.1),(13,eSi64 r12.2.2),(16,eSi64 r46.1),(18,eSi64 r84)],[(3,bk (eT_i64_Si64_Z a0)),(4,bk (eT_Si64_Si64_Z a1)),(5,bk (eT_Si64_Si64_Z a2)),(6,bk (eT_Si64_Si64_Z ([],[])))]⟩ (a_seq (a_draw [⟨[3],[],[3],[]⟩,⟨[3],[],[],[0]⟩,⟨[],[],[],[]⟩,⟨[3],[],[3],[]⟩,⟨[3],[],[],[3]⟩,⟨[],[],[],[]⟩,⟨[3],[],[3],[]⟩,⟨[3],[],[],[6]⟩,⟨[3],[],[3],[]⟩,⟨[3],[],[],[8]⟩,⟨[4],[],[4],[]⟩,⟨[4],[],[],[10]⟩,⟨[5],[],[5],[]⟩,⟨[5],[],[],[12]⟩,⟨[],[],[],[8,9,10,11,12,13]⟩,⟨[3],[],[3],[]⟩,⟨[3],[],[],[15]⟩,⟨[],[],[],[6,7,8,9,10,11,12,13,14,15,16]⟩,⟨[],[],[],[3,4,5,6,7,8,9,10,11,12,13,14,15,16,17]⟩,⟨[],[],[],[0,1,2,3,4,5,6,7,8,9,10,11,12,13,14,15,16,17,18]⟩,⟨[],[],[],[0,1,2,3,4,5,6,7,8,9,10,11,12,13,14,15,16,17,18,19]⟩] (by kernel_rfl) (d_cons (vb (.own 3 [0] [0]) rfl rfl (dn ?_)))))))))
 refine d_cons ?_
 have hl101:LdOk [0] (eT_i64_Si64_Z a0) [0] 1 false (i6 a0.1):=(.fld rfl rfl rfl rfl (.nil rfl rfl rfl))
 refine vq (i6 a0.1) (ld_own (i:=⟨.int .i64,1,8,(.int .i64 0)⟩) rfl rfl rfl hl101) hl101.c (dn (dj (eSi64 r84) rfl (d_cons (vb (.own 3 [0] [0]) rfl rfl (dn (d_cons ?_))))))
 have hl102:LdOk [0] (eT_i64_Si64_Z a0) [0] 1 false (i6 a0.1):=(.fld rfl rfl rfl rfl (.nil rfl rfl rfl))
 refine vq (i6 a0.1) (ld_own (i:=⟨.int .i64,1,8,(.int .i64 0)⟩) rfl rfl rfl hl102) hl102.c (dn (dj (eSi64 r12.2.2) rfl (d_cons (vb (.own 3 [0] [0]) rfl rfl (dn (d_cons ?_))))))
 have hl103:LdOk [0] (eT_i64_Si64_Z a0) [0] 1 false (i6 a0.1):=(.fld rfl rfl rfl rfl (.nil rfl rfl rfl))
 refine vq (i6 a0.1) (ld_own (i:=⟨.int .i64,1,8,(.int .i64 0)⟩) rfl rfl rfl hl103) hl103.c (dn (d_cons (vb (.own 3 [0] [0]) rfl rfl (dn (d_cons ?_)))))
 have hl104:LdOk [0] (eT_i64_Si64_Z a0) [0] 1 false (i6 a0.1):=(.fld rfl rfl rfl rfl (.nil rfl rfl rfl))
 refine vq (i6 a0.1) (ld_own (i:=⟨.int .i64,1,8,(.int .i64 0)⟩) rfl rfl rfl hl104) hl104.c (dn (d_cons (vb (.own 4 [1] [1]) rfl rfl (dn (d_cons ?_)))))
 have hl105:LdOk [1] (eT_Si64_Si64_Z a1) [1] 1 false (eSi64 a1.2):=(.fld rfl rfl rfl rfl (.nil rfl rfl rfl))
 refine vq (eSi64 a1.2) (ld_own (i:=⟨.slice 2,1,24,(eSi64 [])⟩) rfl rfl rfl hl105) hl105.c (dn (d_cons (vb (.own 5 [1] [1]) rfl rfl (dn (d_cons ?_)))))
 have hl106:LdOk [1] (eT_Si64_Si64_Z a2) [1] 1 false (eSi64 a2.2):=(.fld rfl rfl rfl rfl (.nil rfl rfl rfl))
 refine vq (eSi64 a2.2) (ld_own (i:=⟨.slice 2,1,24,(eSi64 [])⟩) rfl rfl rfl hl106) hl106.c (dn (d_cons ?_))
 obtain ⟨r107,hr108,h⟩:=bind_some h
 refine ca (impl_prime_times_ok a0.1 a1.2 a2.2 r107 hr108) (dn (d_cons (vb (.own 3 [1] [1]) rfl rfl (dn (d_cons ?_)))))
 have hl109:LdOk [1] (eT_i64_Si64_Z a0) [1] 1 false (eSi64 a0.2):=(.fld rfl rfl rfl rfl (.nil rfl rfl rfl))
 refine vq (eSi64 a0.2) (ld_own (i:=⟨.slice 2,1,24,(eSi64 [])⟩) rfl rfl rfl hl109) hl109.c (dn (d_cons ?_))
 obtain ⟨r110,hr111,h⟩:=bind_some h
 refine ca (impl_prime_combine_ok a0.1 r107 a0.2 1 r110 hr111) (dn (d_cons ?_))
 obtain ⟨r112,hr113,h⟩:=bind_some h
 refine ca (impl_prime_times_ok a0.1 r12.2.2 r110 r112 hr113) (dn (d_cons ?_))
 obtain ⟨r114,hr115,h⟩:=bind_some h
 refine ca (impl_prime_combine_ok a0.1 r84 r112 1 r114 hr115) (dn (dj (eSi64 r114) rfl (d_nil (nj ⟨[(3,ow 3),(6,ow 6),(11,eSi64 r12.1),(16,eSi64 r46.1),(18,eSi64 r114)],[(3,bk (eT_i64_Si64_Z a0)),(6,bk (eT_Si64_Si64_Z ([],[])))]⟩ (sr (vb (.own 3 [0] [0]) rfl rfl ?_))))))
 have hl116:LdOk [0] (eT_i64_Si64_Z a0) [0] 1 false (i6 a0.1):=(.fld rfl rfl rfl rfl (.nil rfl rfl rfl))
 refine vq (i6 a0.1) (ld_own (i:=⟨.int .i64,1,8,(.int .i64 0)⟩) rfl rfl rfl hl116) hl116.c (vr (eSi64 r114) (vr (eSi64 r12.1) ?_))
 obtain ⟨r117,hr118,h⟩:=bind_some h
 refine ca (impl_prime_divide_ok a0.1 r114 r12.1 r117 hr118) (vr (.tuple [(eSi64 r117.1),(eSi64 r117.2)]) (vb (eSi64 r117.1) rfl rfl (vb (eSi64 r117.2) rfl rfl (vr (eSi64 r117.1) (nk ⟨[(3,ow 3),(6,ow 6),(16,eSi64 r46.1),(18,eSi64 r117.1)],[(3,bk (eT_i64_Si64_Z a0)),(6,bk (eT_Si64_Si64_Z ([],[])))]⟩ (a_seq (a_draw [⟨[3],[],[],[]⟩,⟨[],[],[],[]⟩,⟨[3],[],[3],[]⟩,⟨[3],[],[],[2]⟩,⟨[],[],[],[]⟩,⟨[],[],[],[]⟩,⟨[],[],[],[2,3,4,5]⟩,⟨[],[],[],[1,2,3,4,5,6]⟩,⟨[],[],[],[0,1,2,3,4,5,6,7]⟩,⟨[6],[6],[],[0,1,2,3,4,5,6,7,8]⟩] (by kernel_rfl) (d_cons (vl (eT_i64_Si64_Z a0) rfl rfl rfl rfl rfl rfl ?_)))))))))
 refine dn (dj (eSi64 r46.1) rfl (d_cons (vb (.own 3 [0] [0]) rfl rfl (dn (d_cons ?_)))))
 have hl127:LdOk [0] (eT_i64_Si64_Z a0) [0] 1 false (i6 a0.1):=(.fld rfl rfl rfl rfl (.nil rfl rfl rfl))
 refine vq (i6 a0.1) (ld_own (i:=⟨.int .i64,1,8,(.int .i64 0)⟩) rfl rfl rfl hl127) hl127.c (dn (dj (eSi64 r117.1) rfl (dj (eSi64 r46.1) rfl (d_cons ?_))))
 obtain ⟨r128,hr129,h⟩:=bind_some h
 refine ca (impl_prime_rest_ok a0.1 r117.1 r46.1 r128 hr129) (dn (d_cons (vq (eT_Si64_Si64_Z (r46.1,r128)) rfl ⟨rfl,(all_cons ⟨(Nat.le_of_ble_eq_true rfl),rfl⟩ (all_cons ⟨(Nat.le_of_ble_eq_true rfl),rfl⟩ all_nil))⟩ (dn (d_cons ?_)))))
 obtain ⟨r130,hr131,h⟩:=bind_some h
 refine ca (impl_curve_reduced_ok a0 (r46.1,r128) r130 hr131) (dn (d_cons (vs (eT_Si64_Si64_Z r130) rfl rfl (fun _=>rfl) rfl rfl rfl rfl rfl rfl (dn (d_nil (a_next rfl (a_ret ?_)))))))
 have hl133:LdOk [] (eT_Si64_Si64_Z r130) [] 2 true (eT_Si64_Si64_Z r130):=(.nil rfl rfl rfl)
 refine ⟨.inr rfl,?_⟩
 rw [Try.results56]
 cases h
 exact ⟨_,_,_,_,_,ld_own (i:=⟨.struct [(0,42),(1,42)],2,48,(eT_Si64_Si64_Z ([],[]))⟩) rfl rfl rfl hl133,hl133.c,.inl ⟨rfl,.inl rfl⟩,rfl,rfl⟩
def impl_curve_orderOf_L:Live:=[(0,[0,1]),(1,[2,3]),(2,[2,3,5]),(3,[2,3,5,6]),(4,[2,3,5,6]),(5,[2,3,5,6]),(6,[2,3,5,6]),(7,[2,3,5,18]),(8,[5]),(100011,[2,3,5,6,11])]
noncomputable def impl_curve_orderOf_l1 (a0:(Int×(List Int))) (a1:((List Int)×(List Int))) (x63:Int) (x64:((List Int)×(List Int))):Option ((Int×((List Int)×(List Int)))⊕Int) :=
 (Option.bind (impl_isOne x64.1) fun r81=>(if (!r81) then (Option.bind (impl_curve_compose a0 x64 a1) fun r89=>(some (.inl ((IntKind.i64.wrap (x63 + 1),r89))))) else (some (.inr x63))))
noncomputable def impl_curve_orderOf (a0:(Int×(List Int))) (a1:((List Int)×(List Int))):Option Int :=
 (Option.bind (α:=Int) ((loopM (fun s:(Int×((List Int)×(List Int)))=>impl_curve_orderOf_l1 a0 a1 s.1 s.2) (1,a1))) fun x45=>(some x45))
theorem impl_curve_orderOf_ok (a0:(Int×(List Int))) (a1:((List Int)×(List Int))) (r:Int) (h:impl_curve_orderOf a0 a1=some r):Den Try.prog 23 [(eT_i64_Si64_Z a0),(eT_Si64_Si64_Z a1)] { r:=(i6 r) }:=by
 refine dd (rs:=[(i6 r)]) (L:=impl_curve_orderOf_L) good [] Try.func23 Try.ntmps23 ?_
 refine ns ⟨[(0,eT_i64_Si64_Z a0),(1,eT_Si64_Si64_Z a1)],[]⟩ ?_
 refine sr (vo 1200 (eT_i64_Si64_Z a0) rfl rfl (vo 1300 (eT_Si64_Si64_Z a1) rfl rfl (vr (i6 0) (nk ⟨[(2,ow 2),(3,ow 3)],[(2,bk (eT_i64_Si64_Z a0)),(3,bk (eT_Si64_Si64_Z a1))]⟩ (sr (vr (i6 1) (nk ⟨[(2,ow 2),(3,ow 3),(5,i6 1)],[(2,bk (eT_i64_Si64_Z a0)),(3,bk (eT_Si64_Si64_Z a1))]⟩ ?_)))))))
 obtain ⟨y46,hy47,hk48⟩:=bind_some h
 clear h
 refine a_join (emb:=fun (s:Int)=>⟨[(5,i6 s)],[]⟩) (pre:=fun s=>s=y46) ?_ ?_
 ·rintro x45 rfl
  have h:=hk48
  refine ns ⟨[(5,i6 x45)],[]⟩ (sr (vr (i6 x45) (vr (i6 x45) (nx _ rfl (a_ret ?_)))))
  refine ⟨.inr rfl,?_⟩
  rw [Try.results23]
  cases h
  exact ⟨_,_,_,_,_,rfl,trivial,.inl ⟨rfl,.inl rfl⟩,rfl,rfl⟩
 ·have h:=hy47
  refine sr (vl (eT_Si64_Si64_Z a1) rfl rfl rfl rfl rfl rfl (vo 1600 (eT_Si64_Si64_Z ([],[])) rfl rfl (vs (eT_Si64_Si64_Z a1) rfl rfl (fun _=>rfl) rfl rfl rfl rfl rfl rfl (nk ⟨[(2,ow 2),(3,ow 3),(5,i6 1),(6,ow 6)],[(2,bk (eT_i64_Si64_Z a0)),(3,bk (eT_Si64_Si64_Z a1)),(6,bk (eT_Si64_Si64_Z a1))]⟩ (a_block ?_)))))
  refine a_loop (emb:=fun (s:(Int×((List Int)×(List Int))))=>⟨[(2,ow 2),(3,ow 3),(5,i6 s.1),(6,ow 6)],[(2,bk (eT_i64_Si64_Z a0)),(3,bk (eT_Si64_Si64_Z a1)),(6,bk (eT_Si64_Si64_Z s.2))]⟩) (body:=(fun s:(Int×((List Int)×(List Int)))=>impl_curve_orderOf_l1 a0 a1 s.1 s.2)) (G:=fun q=>some q=some y46) h rfl ?_ (by kernel_rfl)
  rintro X77 ⟨x63,x64⟩ x78 h hX79
  have h:impl_curve_orderOf_l1 a0 a1 x63 x64=some x78:=h
  refine ns ⟨[(2,ow 2),(3,ow 3),(5,i6 x63),(6,ow 6)],[(2,bk (eT_i64_Si64_Z a0)),(3,bk (eT_Si64_Si64_Z a1)),(6,bk (eT_Si64_Si64_Z x64))]⟩ (a_seq (sr (vb (.own 6 [0] [0]) rfl rfl ?_)))
  have hl80:LdOk [0] (eT_Si64_Si64_Z x64) [0] 1 false (eSi64 x64.1):=(.fld rfl rfl rfl rfl (.nil rfl rfl rfl))
  refine vq (eSi64 x64.1) (ld_own (i:=⟨.slice 2,1,24,(eSi64 [])⟩) rfl rfl rfl hl80) hl80.c ?_
  obtain ⟨r81,hr82,h⟩:=bind_some h
  refine ca (impl_isOne_ok x64.1 r81 hr82) (vr (.bool (!r81)) (nk ⟨[(2,ow 2),(3,ow 3),(5,i6 x63),(6,ow 6),(11,.bool (!r81))],[(2,bk (eT_i64_Si64_Z a0)),(3,bk (eT_Si64_Si64_Z a1)),(6,bk (eT_Si64_Si64_Z x64))]⟩ ?_))
  cases hb83:(!r81)
  ·have h:=ite_f hb83 h
   refine a_cond_f rfl (a_exit (t_exit ?_))
   cases h
   have h:=hX79
   refine t_exit (b_exit ?_)
   exact jl x63 h
  ·have h:=ite_t hb83 h
   refine a_cond_t rfl (a_skip (nj ⟨[(2,ow 2),(3,ow 3),(5,i6 x63),(6,ow 6)],[(2,bk (eT_i64_Si64_Z a0)),(3,bk (eT_Si64_Si64_Z a1)),(6,bk (eT_Si64_Si64_Z x64))]⟩ (a_seq (a_block (a_region (vr (i6 x63) (vr (i6 (IntKind.i64.wrap (x63 + 1))) (vr (i6 (IntKind.i64.wrap (x63 + 1))) (a_nil ?_)))))))))
   refine b_norm (nj ⟨[(2,ow 2),(3,ow 3),(5,i6 (IntKind.i64.wrap (x63 + 1))),(6,ow 6)],[(2,bk (eT_i64_Si64_Z a0)),(3,bk (eT_Si64_Si64_Z a1)),(6,bk (eT_Si64_Si64_Z x64))]⟩ (a_seq (sr (vl (eT_Si64_Si64_Z x64) rfl rfl rfl rfl rfl rfl (nk ⟨[(2,ow 2),(3,ow 3),(5,i6 (IntKind.i64.wrap (x63 + 1))),(18,eT_Si64_Si64_Z x64)],[(2,bk (eT_i64_Si64_Z a0)),(3,bk (eT_Si64_Si64_Z a1))]⟩ (a_region (vo 1600 (eT_Si64_Si64_Z ([],[])) rfl rfl (vs (eT_Si64_Si64_Z x64) rfl rfl (fun _=>rfl) rfl rfl rfl rfl rfl rfl (nk ⟨[(2,ow 2),(3,ow 3),(5,i6 (IntKind.i64.wrap (x63 + 1))),(6,ow 6)],[(2,bk (eT_i64_Si64_Z a0)),(3,bk (eT_Si64_Si64_Z a1)),(6,bk (eT_Si64_Si64_Z x64))]⟩ ?_)))))))))
   refine a_region (vl (eT_i64_Si64_Z a0) rfl rfl rfl rfl rfl rfl (vl (eT_Si64_Si64_Z x64) rfl rfl rfl rfl rfl rfl (vl (eT_Si64_Si64_Z a1) rfl rfl rfl rfl rfl rfl ?_)))
   obtain ⟨r89,hr90,h⟩:=bind_some h
   refine ca (impl_curve_compose_ok a0 x64 a1 r89 hr90) (vs (eT_Si64_Si64_Z r89) rfl rfl (fun _=>rfl) rfl rfl rfl rfl rfl rfl (a_nil ?_))
   cases h
   exact ag hX79
noncomputable def impl_GroupOrders_fresh_c:ACode:=strip [(4,2),(8,2)] (Try.f8.body.getD .skip)
def impl_GroupOrders_fresh_L:Live:=[(0,[0,1]),(1,[0,3]),(2,[0,3,6]),(3,[6]),(4,[0,3]),(5,[7]),(6,[7,8]),(7,[7,8,21,22,23]),(8,[7,8,21,22,23]),(9,[7,8,10,21,22,23]),(10,[7,8,21,22,23]),(11,[8]),(100015,[0,3,6,15]),(100024,[7,8,21,22,23,24])]
noncomputable def impl_GroupOrders_fresh_l1 (r50:(List ((List Int)×(List Int)))) (r6:(Int×(List Int))) (x61:Int) (x62:(List Int)):Option ((Int×(List Int))⊕(List Int)) :=
 (if (decide (x61 < (r50.length:Int))) then (ifp (0≤x61∧x61 < ((r50.length:Nat):Int)) ((Option.bind (impl_curve_orderOf r6 (rd r50 x61.toNat)) fun r81=>(ifp ((x62.length + ([r81]:List Int).length)*8≤140737488355328) ((some (.inl ((IntKind.i64.wrap (x61 + 1),(x62 ++ ([r81]))))))))))) else (some (.inr x62)))
noncomputable def impl_GroupOrders_fresh (a0:Int) (a1:(Vec Int 64)):Option ((List Int)×Int) :=
 (Option.bind (impl_formCode a0 a1 true false ([])) fun r2=>(if (r2 != 0) then (some ([],r2)) else (Option.bind (impl_curveOf a0 a1) fun r6=>(Option.bind (α:=(List Int)) ((Option.bind (impl_curve_forms r6) fun r50=>(loopM (fun s:(Int×(List Int))=>impl_GroupOrders_fresh_l1 r50 r6 s.1 s.2) (0,[])))) fun x45=>(some (x45,0))))))
theorem impl_GroupOrders_fresh_ok (a0:Int) (a1:(Vec Int 64)) (r:((List Int)×Int)) (h:impl_GroupOrders_fresh a0 a1=some r):Den Try.prog 8 [(i6 a0),(eVb a1)] { r:=(.tuple [(.osl 2000000),(i6 r.2)]),ms:=[],fs:=[(1,r.1.map (AV.int .i64))] }:=by
 refine den_ofX (rs:=[(.osl 2000000),(i6 r.2)]) (ac:=impl_GroupOrders_fresh_c) (L:=impl_GroupOrders_fresh_L) (n:=35) (m:=[(4,2),(8,2)]) (c:=Try.f8.body.getD .skip) good Try.func8 (by kernel_rfl) (by kernel_rfl) Try.ntmps8 rfl rfl (by kernel_rfl) rfl ?_
 refine ns ⟨[(0,i6 a0),(1,eVb a1)],[]⟩ ?_
 unfold impl_GroupOrders_fresh_c
 refine sr (vo 1300 (eVb a1) rfl rfl (vu (.osl 1400) [(1400,bk (.row 1 (([]).map (AV.int .i64))))] rfl trivial rfl (vr (i6 0) (nk ⟨[(0,i6 a0),(3,ow 3)],[(3,bk (eVb a1))]⟩ (a_seq (sr (vr (i6 a0) (vl (eVb a1) rfl rfl rfl rfl rfl rfl ?_))))))))
 obtain ⟨r2,hr3,h⟩:=bind_some h
 refine a_call (args:=[(i6 a0),(eVb a1),(.bool true),(.bool false),(.sl 0 true [])]) (u:=[]) (r:=(i6 r2)) rfl rfl (Den.args (impl_formCode_ok a0 a1 true false ([]) r2 hr3) rfl rfl (.cons (.refl _) (.cons (.refl _) (.cons (.refl _) (.cons (.refl _) (.cons (.nil _ _ _ _ (fun _=>rfl)) .nil)))))) rfl (vr (i6 r2) (nk ⟨[(0,i6 a0),(3,ow 3),(6,i6 r2)],[(3,bk (eVb a1))]⟩ (sr (vr (i6 r2) (vr (.bool (r2 != 0)) (nk ⟨[(0,i6 a0),(3,ow 3),(6,i6 r2),(15,.bool (r2 != 0))],[(3,bk (eVb a1))]⟩ ?_))))))
 cases hb4:(r2 != 0)
 ·have h:=ite_f hb4 h
  refine a_cond_f rfl (a_skip (nj ⟨[(0,i6 a0),(3,ow 3)],[(3,bk (eVb a1))]⟩ (sr (vr (i6 a0) (vl (eVb a1) rfl rfl rfl rfl rfl rfl ?_)))))
  obtain ⟨r6,hr7,h⟩:=bind_some h
  refine ca (impl_curveOf_ok a0 a1 r6 hr7) (vo 1700 (eT_i64_Si64_Z (((0:Int),[]))) rfl rfl (vs (eT_i64_Si64_Z r6) rfl rfl (fun _=>rfl) rfl rfl rfl rfl rfl rfl (nk ⟨[(7,ow 7)],[(7,bk (eT_i64_Si64_Z r6))]⟩ (sr (vu (.osl 1800) [(1800,bk (.row 1 (([]).map (AV.int .i64))))] rfl trivial rfl (nk ⟨[(7,ow 7),(8,.osl 8)],[(7,bk (eT_i64_Si64_Z r6)),(8,bk (.row 1 (([]).map (AV.int .i64))))]⟩ ?_))))))
  obtain ⟨y46,hy47,hk48⟩:=bind_some h
  clear h
  refine a_join (emb:=fun (s:(List Int))=>⟨[(8,.osl 8)],[(8,bk (.row 1 (s.map (AV.int .i64))))]⟩) (pre:=fun s=>s=y46) ?_ ?_
  ·rintro x45 rfl
   have h:=hk48
   refine ns ⟨[(8,.osl 8)],[(8,bk (.row 1 (x45.map (AV.int .i64))))]⟩ (sr (vr (.osl 8) (vr (.osl 8) (vr (i6 0) (nx _ rfl (a_ret ?_))))))
   refine ⟨.inr rfl,?_⟩
   rw [Try.results8]
   cases h
   exact ⟨[some 8],⟨_,_,_,_,_,rfl,trivial,rfl,.inr (.inl ⟨_,_,_,_,_,rfl,rfl,rfl,rfl,rfl,rfl,⟨_,_,_,_,_,rfl,trivial,rfl,.inl ⟨rfl,.inl rfl,⟨rfl,rfl,rfl⟩⟩⟩⟩)⟩,rfl,rfl⟩
  ·have h:=hy47
   refine sr (vl (eT_i64_Si64_Z r6) rfl rfl rfl rfl rfl rfl ?_)
   obtain ⟨r50,hr51,h⟩:=bind_some h
   refine ca (impl_curve_forms_ok r6 r50 hr51) (vq (i6 (r50.length:Int)) (len_run rfl rfl) trivial (vr (i6 0) (nk ⟨[(7,ow 7),(8,.osl 8),(21,eST_Si64_Si64_Z r50),(22,i6 (r50.length:Int)),(23,i6 0)],[(7,bk (eT_i64_Si64_Z r6)),(8,bk (.row 1 (([]).map (AV.int .i64))))]⟩ (a_block ?_))))
   refine a_loop (emb:=fun (s:(Int×(List Int)))=>⟨[(7,ow 7),(8,.osl 8),(21,eST_Si64_Si64_Z r50),(22,i6 (r50.length:Int)),(23,i6 s.1)],[(7,bk (eT_i64_Si64_Z r6)),(8,bk (.row 1 (s.2.map (AV.int .i64))))]⟩) (body:=(fun s:(Int×(List Int))=>impl_GroupOrders_fresh_l1 r50 r6 s.1 s.2)) (G:=fun q=>some q=some y46) h rfl ?_ (by kernel_rfl)
   rintro X72 ⟨x61,x62⟩ x73 h hX74
   have h:impl_GroupOrders_fresh_l1 r50 r6 x61 x62=some x73:=h
   refine ns ⟨[(7,ow 7),(8,.osl 8),(21,eST_Si64_Si64_Z r50),(22,i6 (r50.length:Int)),(23,i6 x61)],[(7,bk (eT_i64_Si64_Z r6)),(8,bk (.row 1 (x62.map (AV.int .i64))))]⟩ (sr (vr (.bool ((decide (x61 < (r50.length:Int))))) (nk ⟨[(7,ow 7),(8,.osl 8),(21,eST_Si64_Si64_Z r50),(22,i6 (r50.length:Int)),(23,i6 x61),(24,.bool ((decide (x61 < (r50.length:Int)))))],[(7,bk (eT_i64_Si64_Z r6)),(8,bk (.row 1 (x62.map (AV.int .i64))))]⟩ (a_seq ?_))))
   cases hb75:(decide (x61 < (r50.length:Int)))
   ·have h:=ite_f hb75 h
    refine a_cond_f rfl (a_exit (t_exit ?_))
    cases h
    have h:=hX74
    refine t_exit (b_exit ?_)
    exact jl x62 h
   ·have h:=ite_t hb75 h
    refine a_cond_t rfl (a_skip (nj ⟨[(7,ow 7),(8,.osl 8),(21,eST_Si64_Si64_Z r50),(22,i6 (r50.length:Int)),(23,i6 x61)],[(7,bk (eT_i64_Si64_Z r6)),(8,bk (.row 1 (x62.map (AV.int .i64))))]⟩ (a_seq (a_block (sr ?_)))))
    obtain ⟨hc76,h⟩:=ifp_some h
    refine vq (.ref (.row 2 (r50.map eT_Si64_Si64_Z)) [x61.toNat] [x61.toNat*2]) rfl (lmap hc76) ?_
    have hl77:LdOk [x61.toNat] (.row 2 (r50.map eT_Si64_Si64_Z)) [x61.toNat*2] 2 true (eT_Si64_Si64_Z (rd r50 x61.toNat)):=(.row (llt hc76) rfl (.nil rfl rfl rfl))
    refine vq (eT_Si64_Si64_Z (rd r50 x61.toNat)) (ld_ref (i:=⟨.struct [(0,42),(1,42)],2,48,(eT_Si64_Si64_Z ([],[]))⟩) rfl rfl hl77) hl77.c (vo 2000 (eT_Si64_Si64_Z ([],[])) rfl rfl (vs (eT_Si64_Si64_Z (rd r50 x61.toNat)) rfl rfl (fun _=>rfl) rfl rfl rfl rfl rfl rfl (nk ⟨[(7,ow 7),(8,.osl 8),(10,ow 10),(21,eST_Si64_Si64_Z r50),(22,i6 (r50.length:Int)),(23,i6 x61)],[(7,bk (eT_i64_Si64_Z r6)),(8,bk (.row 1 (x62.map (AV.int .i64)))),(10,bk (eT_Si64_Si64_Z (rd r50 x61.toNat)))]⟩ (a_region (vr (.osl 8) (vl (eT_i64_Si64_Z r6) rfl rfl rfl rfl rfl rfl (vl (eT_Si64_Si64_Z (rd r50 x61.toNat)) rfl rfl rfl rfl rfl rfl ?_)))))))
    obtain ⟨r81,hr82,h⟩:=bind_some h
    refine ca (impl_curve_orderOf_ok r6 (rd r50 x61.toNat) r81 hr82) (vq (.sl 1 true (([r81]).map (AV.int .i64))) rfl ⟨(Nat.le_of_ble_eq_true rfl),(Nat.le_of_ble_eq_true rfl),(all_cons ⟨(Nat.le_of_ble_eq_true rfl),rfl⟩ all_nil)⟩ ?_)
    obtain ⟨hc83,h⟩:=ifp_some h
    refine vu (.osl 4200) [(4200,bk (.row 1 (((x62 ++ ([r81]))).map (AV.int .i64)))),(8,none)] (app_run (i:=⟨.int .i64,1,8,(.int .i64 0)⟩) (f:=(AV.int .i64)) (l:=x62) (l2:=[r81]) rfl rfl rfl rfl (fun _=>rfl) rfl rfl) (app_c (f:=(AV.int .i64)) (s:=1) (sz:=1) (by':=8) (u:=[]) (id:=8) hc83 (.inr rfl) rfl rfl rfl) rfl (vr (.osl 4200) (a_nil (b_norm (nj ⟨[(7,ow 7),(8,.osl 8),(21,eST_Si64_Si64_Z r50),(22,i6 (r50.length:Int)),(23,i6 x61)],[(7,bk (eT_i64_Si64_Z r6)),(8,bk (.row 1 (((x62 ++ ([r81]))).map (AV.int .i64))))]⟩ (a_region (vr (i6 (IntKind.i64.wrap (x61 + 1))) (vr (i6 (IntKind.i64.wrap (x61 + 1))) (a_nil ?_))))))))
    cases h
    exact ag hX74
 ·have h:=ite_t hb4 h
  refine a_cond_t rfl (sr (vr (i6 r2) (vu (.osl 1400) [(1400,bk (.row 1 (([]).map (AV.int .i64))))] rfl trivial rfl (vr (i6 r2) (nx _ rfl (a_ret (t_ret ?_)))))))
  refine ⟨.inr rfl,?_⟩
  rw [Try.results8]
  cases h
  exact ⟨[some 1400],⟨_,_,_,_,_,rfl,trivial,rfl,.inr (.inl ⟨_,_,_,_,_,rfl,rfl,rfl,rfl,rfl,rfl,⟨_,_,_,_,_,rfl,trivial,rfl,.inl ⟨rfl,.inl rfl,⟨rfl,rfl,rfl⟩⟩⟩⟩)⟩,rfl,rfl⟩
def laws_eqInt64S_L:Live:=[(0,[0,1]),(1,[0,1]),(2,[]),(3,[0,1]),(4,[0,1,5]),(5,[0,1,5]),(6,[0,1,5]),(7,[]),(8,[]),(100010,[0,1,10]),(100014,[0,1,5,14]),(100025,[0,1,5,25])]
noncomputable def laws_eqInt64S_l1 (a0:(List Int)) (a1:(List Int)) (x50:Int):Option (Int⊕(Unit⊕Bool)) :=
 (if (decide (x50 < (a0.length:Int))) then (ifp (0≤x50∧x50 < ((a0.length:Nat):Int)) ((ifp (0≤x50∧x50 < ((a1.length:Nat):Int)) ((if ((rd a0 x50.toNat) != (rd a1 x50.toNat)) then (some (.inr (.inr false))) else (some (.inl (IntKind.i64.wrap (x50 + 1))))))))) else (some (.inr (((.inl ()))))))
noncomputable def laws_eqInt64S (a0:(List Int)) (a1:(List Int)):Option Bool :=
 (if ((a0.length:Int) != (a1.length:Int)) then (some false) else (Option.bind (α:=(Unit⊕Bool)) ((loopM (fun s:Int=>laws_eqInt64S_l1 a0 a1 s) 0)) fun z=>match z with | .inl _=>(some true) | .inr r75=>(some r75)))
theorem laws_eqInt64S_ok (a0:(List Int)) (a1:(List Int)) (r:Bool) (h:laws_eqInt64S a0 a1=some r):Den Try.prog 9 [(eSi64 a0),(eSi64 a1)] { r:=(.bool r) }:=by
 refine dd (rs:=[(.bool r)]) (L:=laws_eqInt64S_L) good [] Try.func9 Try.ntmps9 ?_
 refine ns ⟨[(0,eSi64 a0),(1,eSi64 a1)],[]⟩ ?_
 refine sr (vr (.bool false) (nk ⟨[(0,eSi64 a0),(1,eSi64 a1)],[]⟩ (a_seq (sr (vr (eSi64 a0) (vq (i6 (a0.length:Int)) (len_run rfl rfl) trivial (vr (eSi64 a1) (vq (i6 (a1.length:Int)) (len_run rfl rfl) trivial (vr (.bool (((a0.length:Int) != (a1.length:Int)))) ?_)))))))))
 refine nk ⟨[(0,eSi64 a0),(1,eSi64 a1),(10,.bool (((a0.length:Int) != (a1.length:Int))))],[]⟩ ?_
 cases hb1:((a0.length:Int) != (a1.length:Int))
 ·have h:=ite_f hb1 h
  refine a_cond_f rfl (a_skip (nj ⟨[(0,eSi64 a0),(1,eSi64 a1)],[]⟩ ?_))
  obtain ⟨y37,hy38,hk39⟩:=bind_some h
  clear h
  refine a_join (emb:=fun (s:Unit)=>⟨[],[]⟩) (pre:=fun s=>(.inl s)=y37) ?_ ?_
  ·rintro _ rfl
   have h:=hk39
   refine ns ⟨[],[]⟩ (sr (vr (.bool true) (nx _ rfl (a_ret ?_))))
   refine ⟨.inr rfl,?_⟩
   rw [Try.results9]
   cases h
   exact ⟨_,_,_,_,_,rfl,trivial,.inl ⟨rfl,.inl rfl⟩,rfl,rfl⟩
  ·have h:=hy38
   refine sr (vr (i6 0) (nk ⟨[(0,eSi64 a0),(1,eSi64 a1),(5,i6 0)],[]⟩ (a_block ?_)))
   refine a_loop (emb:=fun (s:Int)=>⟨[(0,eSi64 a0),(1,eSi64 a1),(5,i6 s)],[]⟩) (body:=(fun s:Int=>laws_eqInt64S_l1 a0 a1 s)) (G:=fun q=>some q=some y37) h rfl ?_ (by kernel_rfl)
   rintro X61 x50 x62 h hX63
   have h:laws_eqInt64S_l1 a0 a1 x50=some x62:=h
   refine ns ⟨[(0,eSi64 a0),(1,eSi64 a1),(5,i6 x50)],[]⟩ (a_seq (sr (vr (i6 x50) (vr (eSi64 a0) (vq (i6 (a0.length:Int)) (len_run rfl rfl) trivial (vr (.bool ((decide (x50 < (a0.length:Int))))) (nk ⟨[(0,eSi64 a0),(1,eSi64 a1),(5,i6 x50),(14,.bool ((decide (x50 < (a0.length:Int)))))],[]⟩ ?_)))))))
   cases hb64:(decide (x50 < (a0.length:Int)))
   ·have h:=ite_f hb64 h
    refine a_cond_f rfl (a_exit (t_exit ?_))
    cases h
    have h:=hX63
    refine t_exit (b_exit ?_)
    exact jl () h
   ·have h:=ite_t hb64 h
    refine a_cond_t rfl (a_skip (nj ⟨[(0,eSi64 a0),(1,eSi64 a1),(5,i6 x50)],[]⟩ (a_seq (a_block (a_seq (a_draw [⟨[],[],[],[]⟩,⟨[],[],[],[]⟩,⟨[],[],[],[0,1]⟩,⟨[],[],[],[0,1,2]⟩,⟨[],[],[],[]⟩,⟨[],[],[],[]⟩,⟨[],[],[],[4,5]⟩,⟨[],[],[],[4,5,6]⟩,⟨[],[],[],[0,1,2,3,4,5,6,7]⟩] (by kernel_rfl) (dj (eSi64 a0) rfl (dj (i6 x50) rfl (d_cons ?_)))))))))
    obtain ⟨hc69,h⟩:=ifp_some h
    refine vq (.ref (.row 1 (a0.map (AV.int .i64))) [x50.toNat] [x50.toNat*1]) rfl (lmap hc69) (dn (d_cons ?_))
    have hl70:LdOk [x50.toNat] (.row 1 (a0.map (AV.int .i64))) [x50.toNat*1] 1 false (i6 (rd a0 x50.toNat)):=(.row (llt hc69) rfl (.nil rfl rfl rfl))
    refine vq (i6 (rd a0 x50.toNat)) (ld_ref (i:=⟨.int .i64,1,8,(.int .i64 0)⟩) rfl rfl hl70) hl70.c (dn (dj (eSi64 a1) rfl (dj (i6 x50) rfl (d_cons ?_))))
    obtain ⟨hc71,h⟩:=ifp_some h
    refine vq (.ref (.row 1 (a1.map (AV.int .i64))) [x50.toNat] [x50.toNat*1]) rfl (lmap hc71) (dn (d_cons ?_))
    have hl72:LdOk [x50.toNat] (.row 1 (a1.map (AV.int .i64))) [x50.toNat*1] 1 false (i6 (rd a1 x50.toNat)):=(.row (llt hc71) rfl (.nil rfl rfl rfl))
    refine vq (i6 (rd a1 x50.toNat)) (ld_ref (i:=⟨.int .i64,1,8,(.int .i64 0)⟩) rfl rfl hl72) hl72.c (dn (dj (.bool (((rd a0 x50.toNat) != (rd a1 x50.toNat)))) rfl (d_nil (nj ⟨[(0,eSi64 a0),(1,eSi64 a1),(5,i6 x50),(25,.bool (((rd a0 x50.toNat) != (rd a1 x50.toNat))))],[]⟩ ?_))))
    cases hb73:((rd a0 x50.toNat) != (rd a1 x50.toNat))
    ·have h:=ite_f hb73 h
     refine a_cond_f rfl (a_skip (b_norm (nj ⟨[(0,eSi64 a0),(1,eSi64 a1),(5,i6 x50)],[]⟩ (a_region (vr (i6 x50) (vr (i6 (IntKind.i64.wrap (x50 + 1))) (vr (i6 (IntKind.i64.wrap (x50 + 1))) (a_nil ?_))))))))
     cases h
     exact ag hX63
    ·have h:=ite_t hb73 h
     refine a_cond_t rfl (sr (vr (.bool false) (nx _ rfl (a_ret (b_ret (t_ret ?_))))))
     cases h
     have h:=hX63
     refine t_ret (b_ret (t_ret ?_))
     cases h
     have h:=hk39
     refine ⟨.inr rfl,?_⟩
     rw [Try.results9]
     cases h
     exact ⟨_,_,_,_,_,rfl,trivial,.inl ⟨rfl,.inl rfl⟩,rfl,rfl⟩
 ·have h:=ite_t hb1 h
  refine a_cond_t rfl (sr (vr (.bool false) (nx _ rfl (a_ret (t_ret ?_)))))
  refine ⟨.inr rfl,?_⟩
  rw [Try.results9]
  cases h
  exact ⟨_,_,_,_,_,rfl,trivial,.inl ⟨rfl,.inl rfl⟩,rfl,rfl⟩
noncomputable def laws_markInt64S_of_mut_c:ACode:=strip [] (Try.f10.body.getD .skip)
def laws_markInt64S_of_mut_L:Live:=[(0,[0,1]),(1,[0,1]),(2,[0,1,5]),(3,[0,1,5]),(4,[0,1,5]),(5,[0,1,5]),(6,[1]),(100009,[0,1,5,9])]
noncomputable def laws_markInt64S_of_mut_l1  (x25:Int) (x26:Int) (x27:(List Int)):Option ((Int×Int×(List Int))⊕(Int×(List Int))) :=
 (if (decide (x26 < (x27.length:Int))) then (ifp (0≤x26∧x26 < ((x27.length:Nat):Int)) ((some (.inl ((IntKind.i64.wrap (x25 + 1),IntKind.i64.wrap (x26 + 1),(x27.set x26.toNat x25))))))) else (some (.inr (x25,x27))))
noncomputable def laws_markInt64S_of_mut (a0:(List Int)) (a1:Int):Option (Int×(List Int)) :=
 (Option.bind (α:=(Int×(List Int))) ((loopM (fun s:(Int×Int×(List Int))=>laws_markInt64S_of_mut_l1 s.1 s.2.1 s.2.2) (a1,0,a0))) fun ⟨x17,x18⟩=>(some (x17,x18)))
theorem laws_markInt64S_of_mut_ok (a0:(List Int)) (a1:Int) (r:(Int×(List Int))) (h:laws_markInt64S_of_mut a0 a1=some r):Den Try.prog 10 [(.mutsl 1 (a0.map (AV.int .i64))),(i6 a1)] { r:=(i6 r.1),ms:=[(.row 1 (r.2.map (AV.int .i64)))],fs:=[] }:=by
 refine den_ofX (rs:=[(i6 r.1)]) (ac:=laws_markInt64S_of_mut_c) (L:=laws_markInt64S_of_mut_L) (n:=19) (m:=[]) (c:=Try.f10.body.getD .skip) good Try.func10 (by kernel_rfl) (by kernel_rfl) Try.ntmps10 rfl rfl (by kernel_rfl) rfl ?_
 refine ns ⟨[(0,.osl 1000000),(1,i6 a1)],[(1000000,bk (.row 1 (a0.map (AV.int .i64))))]⟩ ?_
 unfold laws_markInt64S_of_mut_c
 refine sr (vr (i6 0) (nk ⟨[(0,.osl 1000000),(1,i6 a1)],[(1000000,bk (.row 1 (a0.map (AV.int .i64))))]⟩ ?_))
 obtain ⟨y19,hy20,hk21⟩:=bind_some h
 clear h
 refine a_join (emb:=fun (s:(Int×(List Int)))=>⟨[(1,i6 s.1)],[(1000000,bk (.row 1 (s.2.map (AV.int .i64))))]⟩) (pre:=fun s=>s=y19) ?_ ?_
 ·rintro ⟨x17,x18⟩ rfl
  have h:=hk21
  refine ns ⟨[(1,i6 x17)],[(1000000,bk (.row 1 (x18.map (AV.int .i64))))]⟩ (sr (vr (i6 x17) (vr (i6 x17) (nx _ rfl (a_ret ?_)))))
  refine ⟨.inr rfl,?_⟩
  rw [Try.results10]
  cases h
  exact ⟨[],⟨_,_,_,_,_,rfl,trivial,rfl,.inl ⟨rfl,.inl rfl,⟨rfl,rfl,rfl⟩⟩⟩,rfl,⟨_,_,rfl,rfl,rfl⟩⟩
 ·have h:=hy20
  refine sr (vr (i6 0) (nk ⟨[(0,.osl 1000000),(1,i6 a1),(5,i6 0)],[(1000000,bk (.row 1 (a0.map (AV.int .i64))))]⟩ (a_block ?_)))
  refine a_loop (emb:=fun (s:(Int×Int×(List Int)))=>⟨[(0,.osl 1000000),(1,i6 s.1),(5,i6 s.2.1)],[(1000000,bk (.row 1 (s.2.2.map (AV.int .i64))))]⟩) (body:=(fun s:(Int×Int×(List Int))=>laws_markInt64S_of_mut_l1 s.1 s.2.1 s.2.2)) (G:=fun q=>some q=some y19) h rfl ?_ (by kernel_rfl)
  rintro X31 ⟨x25,x26,x27⟩ x32 h hX33
  have h:laws_markInt64S_of_mut_l1 x25 x26 x27=some x32:=h
  refine ns ⟨[(0,.osl 1000000),(1,i6 x25),(5,i6 x26)],[(1000000,bk (.row 1 (x27.map (AV.int .i64))))]⟩ (a_seq (sr (vr (i6 x26) (vr (.osl 1000000) (vq (i6 (x27.length:Int)) (leno_run rfl rfl rfl) trivial (vr (.bool ((decide (x26 < (x27.length:Int))))) (nk ⟨[(0,.osl 1000000),(1,i6 x25),(5,i6 x26),(9,.bool ((decide (x26 < (x27.length:Int)))))],[(1000000,bk (.row 1 (x27.map (AV.int .i64))))]⟩ ?_)))))))
  cases hb34:(decide (x26 < (x27.length:Int)))
  ·have h:=ite_f hb34 h
   refine a_cond_f rfl (a_exit (t_exit ?_))
   cases h
   have h:=hX33
   refine t_exit (b_exit ?_)
   exact jl (x25,x27) h
  ·have h:=ite_t hb34 h
   refine a_cond_t rfl (a_skip (nj ⟨[(0,.osl 1000000),(1,i6 x25),(5,i6 x26)],[(1000000,bk (.row 1 (x27.map (AV.int .i64))))]⟩ (a_seq (a_block (sr (vr (.osl 1000000) (vr (i6 x26) (vr (i6 x25) ?_))))))))
   obtain ⟨hc35,h⟩:=ifp_some h
   refine vq (.own 1000000 [x26.toNat] [x26.toNat*1]) rfl (lmap hc35) ?_
   have hs36:StOk [x26.toNat] (.row 1 (x27.map (AV.int .i64))) [x26.toNat*1] 1 (i6 x25) (.row 1 ((x27.set x26.toNat x25).map (AV.int .i64))):=(.row (y:=x25) (llt hc35) rfl (.nil rfl rfl rfl rfl))
   refine vu .top [(1000000,bk (.row 1 ((x27.set x26.toNat x25).map (AV.int .i64))))] (st_own (i:=⟨.int .i64,1,8,(.int .i64 0)⟩) rfl rfl (fun _=>rfl) rfl hs36) (hs36.c rfl) rfl (nk ⟨[(0,.osl 1000000),(1,i6 x25),(5,i6 x26)],[(1000000,bk (.row 1 ((x27.set x26.toNat x25).map (AV.int .i64))))]⟩ (a_region (vr (i6 x25) (vr (i6 (IntKind.i64.wrap (x25 + 1))) (vr (i6 (IntKind.i64.wrap (x25 + 1))) (a_nil (b_norm (nj ⟨[(0,.osl 1000000),(1,i6 (IntKind.i64.wrap (x25 + 1))),(5,i6 x26)],[(1000000,bk (.row 1 ((x27.set x26.toNat x25).map (AV.int .i64))))]⟩ (a_region ?_)))))))))
   refine vr (i6 x26) (vr (i6 (IntKind.i64.wrap (x26 + 1))) (vr (i6 (IntKind.i64.wrap (x26 + 1))) (a_nil ?_)))
   cases h
   exact ag hX33
def laws_heldInt64S_L:Live:=[(0,[0,1]),(1,[0,1]),(2,[0,1,5]),(3,[0,1,5]),(4,[0,1,5]),(5,[]),(6,[0,1,5]),(7,[1]),(100009,[0,1,5,9]),(100017,[0,1,5,17])]
noncomputable def laws_heldInt64S_l1 (a0:(List Int)) (x27:Int) (x28:Int):Option ((Int×Int)⊕(Int⊕Int)) :=
 (if (decide (x28 < (a0.length:Int))) then (ifp (0≤x28∧x28 < ((a0.length:Nat):Int)) ((if ((rd a0 x28.toNat) != x27) then (some (.inr ((.inr (-1))))) else (some (.inl ((IntKind.i64.wrap (x27 + 1),IntKind.i64.wrap (x28 + 1)))))))) else (some (.inr (.inl x27))))
noncomputable def laws_heldInt64S (a0:(List Int)) (a1:Int):Option Int :=
 (Option.bind (α:=(Int⊕Int)) ((loopM (fun s:(Int×Int)=>laws_heldInt64S_l1 a0 s.1 s.2) (a1,0))) fun z=>match z with | .inl x19=>(some x19) | .inr r41=>(some r41))
theorem laws_heldInt64S_ok (a0:(List Int)) (a1:Int) (r:Int) (h:laws_heldInt64S a0 a1=some r):Den Try.prog 11 [(eSi64 a0),(i6 a1)] { r:=(i6 r) }:=by
 refine dd (rs:=[(i6 r)]) (L:=laws_heldInt64S_L) good [] Try.func11 Try.ntmps11 ?_
 refine ns ⟨[(0,eSi64 a0),(1,i6 a1)],[]⟩ ?_
 refine sr (vr (i6 0) (nk ⟨[(0,eSi64 a0),(1,i6 a1)],[]⟩ ?_))
 obtain ⟨y20,hy21,hk22⟩:=bind_some h
 clear h
 refine a_join (emb:=fun (s:Int)=>⟨[(1,i6 s)],[]⟩) (pre:=fun s=>(.inl s)=y20) ?_ ?_
 ·rintro x19 rfl
  have h:=hk22
  refine ns ⟨[(1,i6 x19)],[]⟩ (sr (vr (i6 x19) (vr (i6 x19) (nx _ rfl (a_ret ?_)))))
  refine ⟨.inr rfl,?_⟩
  rw [Try.results11]
  cases h
  exact ⟨_,_,_,_,_,rfl,trivial,.inl ⟨rfl,.inl rfl⟩,rfl,rfl⟩
 ·have h:=hy21
  refine sr (vr (i6 0) (nk ⟨[(0,eSi64 a0),(1,i6 a1),(5,i6 0)],[]⟩ (a_block ?_)))
  refine a_loop (emb:=fun (s:(Int×Int))=>⟨[(0,eSi64 a0),(1,i6 s.1),(5,i6 s.2)],[]⟩) (body:=(fun s:(Int×Int)=>laws_heldInt64S_l1 a0 s.1 s.2)) (G:=fun q=>some q=some y20) h rfl ?_ (by kernel_rfl)
  rintro X33 ⟨x27,x28⟩ x34 h hX35
  have h:laws_heldInt64S_l1 a0 x27 x28=some x34:=h
  refine ns ⟨[(0,eSi64 a0),(1,i6 x27),(5,i6 x28)],[]⟩ (a_seq (sr (vr (i6 x28) (vr (eSi64 a0) (vq (i6 (a0.length:Int)) (len_run rfl rfl) trivial (vr (.bool ((decide (x28 < (a0.length:Int))))) (nk ⟨[(0,eSi64 a0),(1,i6 x27),(5,i6 x28),(9,.bool ((decide (x28 < (a0.length:Int)))))],[]⟩ ?_)))))))
  cases hb36:(decide (x28 < (a0.length:Int)))
  ·have h:=ite_f hb36 h
   refine a_cond_f rfl (a_exit (t_exit ?_))
   cases h
   have h:=hX35
   refine t_exit (b_exit ?_)
   exact jl x27 h
  ·have h:=ite_t hb36 h
   refine a_cond_t rfl (a_skip (nj ⟨[(0,eSi64 a0),(1,i6 x27),(5,i6 x28)],[]⟩ (a_seq (a_block (a_seq (sr (vr (eSi64 a0) (vr (i6 x28) ?_))))))))
   obtain ⟨hc37,h⟩:=ifp_some h
   refine vq (.ref (.row 1 (a0.map (AV.int .i64))) [x28.toNat] [x28.toNat*1]) rfl (lmap hc37) ?_
   have hl38:LdOk [x28.toNat] (.row 1 (a0.map (AV.int .i64))) [x28.toNat*1] 1 false (i6 (rd a0 x28.toNat)):=(.row (llt hc37) rfl (.nil rfl rfl rfl))
   refine vq (i6 (rd a0 x28.toNat)) (ld_ref (i:=⟨.int .i64,1,8,(.int .i64 0)⟩) rfl rfl hl38) hl38.c (vr (i6 x27) (vr (.bool (((rd a0 x28.toNat) != x27))) (nk ⟨[(0,eSi64 a0),(1,i6 x27),(5,i6 x28),(17,.bool (((rd a0 x28.toNat) != x27)))],[]⟩ ?_)))
   cases hb39:((rd a0 x28.toNat) != x27)
   ·have h:=ite_f hb39 h
    refine a_cond_f rfl (a_skip (nj ⟨[(0,eSi64 a0),(1,i6 x27),(5,i6 x28)],[]⟩ (a_region (vr (i6 x27) (vr (i6 (IntKind.i64.wrap (x27 + 1))) (vr (i6 (IntKind.i64.wrap (x27 + 1))) (a_nil (b_norm (nj ⟨[(0,eSi64 a0),(1,i6 (IntKind.i64.wrap (x27 + 1))),(5,i6 x28)],[]⟩ ?_)))))))))
    refine a_region (vr (i6 x28) (vr (i6 (IntKind.i64.wrap (x28 + 1))) (vr (i6 (IntKind.i64.wrap (x28 + 1))) (a_nil ?_))))
    cases h
    exact ag hX35
   ·have h:=ite_t hb39 h
    refine a_cond_t rfl (sr (vr (i6 (-1)) (nx _ rfl (a_ret (t_ret (b_ret (t_ret ?_)))))))
    cases h
    have h:=hX35
    refine t_ret (b_ret (t_ret ?_))
    cases h
    have h:=hk22
    refine ⟨.inr rfl,?_⟩
    rw [Try.results11]
    cases h
    exact ⟨_,_,_,_,_,rfl,trivial,.inl ⟨rfl,.inl rfl⟩,rfl,rfl⟩
def impl_GroupOrders_L:Live:=[(0,[0,1]),(1,[0,3]),(2,[0,3,6]),(3,[6]),(4,[0,3]),(5,[7]),(6,[7,8]),(7,[7,8,21,22,23]),(8,[7,8,21,22,23]),(9,[7,8,10,21,22,23]),(10,[7,8,21,22,23]),(11,[8]),(100015,[0,3,6,15]),(100024,[7,8,21,22,23,24])]
noncomputable def impl_GroupOrders_l1 (r50:(List ((List Int)×(List Int)))) (r6:(Int×(List Int))) (x61:Int) (x62:(List Int)):Option ((Int×(List Int))⊕(List Int)) :=
 (if (decide (x61 < (r50.length:Int))) then (ifp (0≤x61∧x61 < ((r50.length:Nat):Int)) ((Option.bind (impl_curve_orderOf r6 (rd r50 x61.toNat)) fun r81=>(ifp ((x62.length + ([r81]:List Int).length)*8≤140737488355328) ((some (.inl ((IntKind.i64.wrap (x61 + 1),(x62 ++ ([r81]))))))))))) else (some (.inr x62)))
noncomputable def impl_GroupOrders (a0:Int) (a1:(Vec Int 64)):Option ((List Int)×Int) :=
 (Option.bind (impl_formCode a0 a1 true false ([])) fun r2=>(if (r2 != 0) then (some ([],r2)) else (Option.bind (impl_curveOf a0 a1) fun r6=>(Option.bind (α:=(List Int)) ((Option.bind (impl_curve_forms r6) fun r50=>(loopM (fun s:(Int×(List Int))=>impl_GroupOrders_l1 r50 r6 s.1 s.2) (0,[])))) fun x45=>(some (x45,0))))))
theorem impl_GroupOrders_ok (a0:Int) (a1:(Vec Int 64)) (r:((List Int)×Int)) (h:impl_GroupOrders a0 a1=some r):Den Try.prog 8 [(i6 a0),(eVb a1)] { r:=(.tuple [(eSi64 r.1),(i6 r.2)]) }:=by
 refine dd (rs:=[(eSi64 r.1),(i6 r.2)]) (L:=impl_GroupOrders_L) good [(4,1),(8,2)] Try.func8 Try.ntmps8 ?_
 refine ns ⟨[(0,i6 a0),(1,eVb a1)],[]⟩ ?_
 refine sr (vo 1300 (eVb a1) rfl rfl (vr (eSi64 ([])) (vr (i6 0) (nk ⟨[(0,i6 a0),(3,ow 3)],[(3,bk (eVb a1))]⟩ (a_seq (sr (vr (i6 a0) (vl (eVb a1) rfl rfl rfl rfl rfl rfl ?_))))))))
 obtain ⟨r2,hr3,h⟩:=bind_some h
 refine a_call (args:=[(i6 a0),(eVb a1),(.bool true),(.bool false),(.sl 0 true [])]) (u:=[]) (r:=(i6 r2)) rfl rfl (Den.args (impl_formCode_ok a0 a1 true false ([]) r2 hr3) rfl rfl (.cons (.refl _) (.cons (.refl _) (.cons (.refl _) (.cons (.refl _) (.cons (.nil _ _ _ _ (fun _=>rfl)) .nil)))))) rfl (vr (i6 r2) (nk ⟨[(0,i6 a0),(3,ow 3),(6,i6 r2)],[(3,bk (eVb a1))]⟩ (sr (vr (i6 r2) (vr (.bool (r2 != 0)) (nk ⟨[(0,i6 a0),(3,ow 3),(6,i6 r2),(15,.bool (r2 != 0))],[(3,bk (eVb a1))]⟩ ?_))))))
 cases hb4:(r2 != 0)
 ·have h:=ite_f hb4 h
  refine a_cond_f rfl (a_skip (nj ⟨[(0,i6 a0),(3,ow 3)],[(3,bk (eVb a1))]⟩ (sr (vr (i6 a0) (vl (eVb a1) rfl rfl rfl rfl rfl rfl ?_)))))
  obtain ⟨r6,hr7,h⟩:=bind_some h
  refine ca (impl_curveOf_ok a0 a1 r6 hr7) (vo 1700 (eT_i64_Si64_Z (((0:Int),[]))) rfl rfl (vs (eT_i64_Si64_Z r6) rfl rfl (fun _=>rfl) rfl rfl rfl rfl rfl rfl (nk ⟨[(7,ow 7)],[(7,bk (eT_i64_Si64_Z r6))]⟩ (sr (vu (.osl 1800) [(1800,bk (.row 1 (([]).map (AV.int .i64))))] rfl trivial rfl (nk ⟨[(7,ow 7),(8,.osl 8)],[(7,bk (eT_i64_Si64_Z r6)),(8,bk (.row 1 (([]).map (AV.int .i64))))]⟩ ?_))))))
  obtain ⟨y46,hy47,hk48⟩:=bind_some h
  clear h
  refine a_join (emb:=fun (s:(List Int))=>⟨[(8,.osl 8)],[(8,bk (.row 1 (s.map (AV.int .i64))))]⟩) (pre:=fun s=>s=y46) ?_ ?_
  ·rintro x45 rfl
   have h:=hk48
   refine ns ⟨[(8,.osl 8)],[(8,bk (.row 1 (x45.map (AV.int .i64))))]⟩ (sr (vr (.osl 8) (vu (eSi64 x45) [(8,bf (.row 1 (x45.map (AV.int .i64))))] rfl trivial rfl (vr (i6 0) (nx _ rfl (a_ret ?_))))))
   refine ⟨.inr rfl,?_⟩
   rw [Try.results8]
   cases h
   exact ⟨_,_,_,_,_,rfl,trivial,.inl ⟨rfl,.inl rfl⟩,rfl,⟨_,_,_,_,_,rfl,trivial,.inl ⟨rfl,.inl rfl⟩,rfl,rfl⟩⟩
  ·have h:=hy47
   refine sr (vl (eT_i64_Si64_Z r6) rfl rfl rfl rfl rfl rfl ?_)
   obtain ⟨r50,hr51,h⟩:=bind_some h
   refine ca (impl_curve_forms_ok r6 r50 hr51) (vq (i6 (r50.length:Int)) (len_run rfl rfl) trivial (vr (i6 0) (nk ⟨[(7,ow 7),(8,.osl 8),(21,eST_Si64_Si64_Z r50),(22,i6 (r50.length:Int)),(23,i6 0)],[(7,bk (eT_i64_Si64_Z r6)),(8,bk (.row 1 (([]).map (AV.int .i64))))]⟩ (a_block ?_))))
   refine a_loop (emb:=fun (s:(Int×(List Int)))=>⟨[(7,ow 7),(8,.osl 8),(21,eST_Si64_Si64_Z r50),(22,i6 (r50.length:Int)),(23,i6 s.1)],[(7,bk (eT_i64_Si64_Z r6)),(8,bk (.row 1 (s.2.map (AV.int .i64))))]⟩) (body:=(fun s:(Int×(List Int))=>impl_GroupOrders_l1 r50 r6 s.1 s.2)) (G:=fun q=>some q=some y46) h rfl ?_ (by kernel_rfl)
   rintro X72 ⟨x61,x62⟩ x73 h hX74
   have h:impl_GroupOrders_l1 r50 r6 x61 x62=some x73:=h
   refine ns ⟨[(7,ow 7),(8,.osl 8),(21,eST_Si64_Si64_Z r50),(22,i6 (r50.length:Int)),(23,i6 x61)],[(7,bk (eT_i64_Si64_Z r6)),(8,bk (.row 1 (x62.map (AV.int .i64))))]⟩ (sr (vr (.bool ((decide (x61 < (r50.length:Int))))) (nk ⟨[(7,ow 7),(8,.osl 8),(21,eST_Si64_Si64_Z r50),(22,i6 (r50.length:Int)),(23,i6 x61),(24,.bool ((decide (x61 < (r50.length:Int)))))],[(7,bk (eT_i64_Si64_Z r6)),(8,bk (.row 1 (x62.map (AV.int .i64))))]⟩ (a_seq ?_))))
   cases hb75:(decide (x61 < (r50.length:Int)))
   ·have h:=ite_f hb75 h
    refine a_cond_f rfl (a_exit (t_exit ?_))
    cases h
    have h:=hX74
    refine t_exit (b_exit ?_)
    exact jl x62 h
   ·have h:=ite_t hb75 h
    refine a_cond_t rfl (a_skip (nj ⟨[(7,ow 7),(8,.osl 8),(21,eST_Si64_Si64_Z r50),(22,i6 (r50.length:Int)),(23,i6 x61)],[(7,bk (eT_i64_Si64_Z r6)),(8,bk (.row 1 (x62.map (AV.int .i64))))]⟩ (a_seq (a_block (sr ?_)))))
    obtain ⟨hc76,h⟩:=ifp_some h
    refine vq (.ref (.row 2 (r50.map eT_Si64_Si64_Z)) [x61.toNat] [x61.toNat*2]) rfl (lmap hc76) ?_
    have hl77:LdOk [x61.toNat] (.row 2 (r50.map eT_Si64_Si64_Z)) [x61.toNat*2] 2 true (eT_Si64_Si64_Z (rd r50 x61.toNat)):=(.row (llt hc76) rfl (.nil rfl rfl rfl))
    refine vq (eT_Si64_Si64_Z (rd r50 x61.toNat)) (ld_ref (i:=⟨.struct [(0,42),(1,42)],2,48,(eT_Si64_Si64_Z ([],[]))⟩) rfl rfl hl77) hl77.c (vo 2000 (eT_Si64_Si64_Z ([],[])) rfl rfl (vs (eT_Si64_Si64_Z (rd r50 x61.toNat)) rfl rfl (fun _=>rfl) rfl rfl rfl rfl rfl rfl (nk ⟨[(7,ow 7),(8,.osl 8),(10,ow 10),(21,eST_Si64_Si64_Z r50),(22,i6 (r50.length:Int)),(23,i6 x61)],[(7,bk (eT_i64_Si64_Z r6)),(8,bk (.row 1 (x62.map (AV.int .i64)))),(10,bk (eT_Si64_Si64_Z (rd r50 x61.toNat)))]⟩ (a_region (vr (.osl 8) (vl (eT_i64_Si64_Z r6) rfl rfl rfl rfl rfl rfl (vl (eT_Si64_Si64_Z (rd r50 x61.toNat)) rfl rfl rfl rfl rfl rfl ?_)))))))
    obtain ⟨r81,hr82,h⟩:=bind_some h
    refine ca (impl_curve_orderOf_ok r6 (rd r50 x61.toNat) r81 hr82) (vq (.sl 1 true (([r81]).map (AV.int .i64))) rfl ⟨(Nat.le_of_ble_eq_true rfl),(Nat.le_of_ble_eq_true rfl),(all_cons ⟨(Nat.le_of_ble_eq_true rfl),rfl⟩ all_nil)⟩ ?_)
    obtain ⟨hc83,h⟩:=ifp_some h
    refine vu (.osl 4200) [(4200,bk (.row 1 (((x62 ++ ([r81]))).map (AV.int .i64)))),(8,none)] (app_run (i:=⟨.int .i64,1,8,(.int .i64 0)⟩) (f:=(AV.int .i64)) (l:=x62) (l2:=[r81]) rfl rfl rfl rfl (fun _=>rfl) rfl rfl) (app_c (f:=(AV.int .i64)) (s:=1) (sz:=1) (by':=8) (u:=[]) (id:=8) hc83 (.inr rfl) rfl rfl rfl) rfl (vr (.osl 4200) (a_nil (b_norm (nj ⟨[(7,ow 7),(8,.osl 8),(21,eST_Si64_Si64_Z r50),(22,i6 (r50.length:Int)),(23,i6 x61)],[(7,bk (eT_i64_Si64_Z r6)),(8,bk (.row 1 (((x62 ++ ([r81]))).map (AV.int .i64))))]⟩ (a_region (vr (i6 (IntKind.i64.wrap (x61 + 1))) (vr (i6 (IntKind.i64.wrap (x61 + 1))) (a_nil ?_))))))))
    cases h
    exact ag hX74
 ·have h:=ite_t hb4 h
  refine a_cond_t rfl (sr (vr (i6 r2) (vr (eSi64 ([])) (vr (i6 r2) (nx _ rfl (a_ret (t_ret ?_)))))))
  refine ⟨.inr rfl,?_⟩
  rw [Try.results8]
  cases h
  exact ⟨_,_,_,_,_,rfl,trivial,.inl ⟨rfl,.inl rfl⟩,rfl,⟨_,_,_,_,_,rfl,trivial,.inl ⟨rfl,.inl rfl⟩,rfl,rfl⟩⟩
end Go.Proofs.Ytebfhlnfmkhmcaa
