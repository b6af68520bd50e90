/- Functions of the program: plain Lean functions, and that the program computes them. Printed by gen.py. -/
import Derived.Test.YtkbnegemdlnncaaGreatFnT
import Derived.Test.YtkbnegemdlnncaaGreatFn2
import Derived.Test.YtkbnegemdlnncaaGreatFn3
import Derived.Test.YtkbnegemdlnncaaGreatFn4
import Derived.Test.YtkbnegemdlnncaaGreatFn5
import Derived.Test.YtkbnegemdlnncaaGreatFn6
import Derived.Test.YtkbnegemdlnncaaGreatFn8
namespace Go.Proofs.YtkbnegemdlnncaaGreat
open Go.Abs Go.Proofs
set_option linter.unusedSimpArgs false
set_option linter.unusedVariables false
set_option maxHeartbeats 16000000
attribute [local irreducible] Abs.acode Abs.aops Abs.aopsT Abs.thenK Abs.blockK

def impl_cut_sum_of_s_impl_prime_second_L:Live:=[(0,[0,1]),(1,[1,2,4,5]),(2,[1,2,4,5,7,8]),(3,[4,5]),(4,[1,2,4,5,7]),(5,[1,2,4,5,7,9]),(6,[1,2,4,5,7,9,10]),(7,[1,2,4,5,7,9,10,26,27]),(8,[1,2,4,5,7,9,10,26,27]),(9,[1,2,4,5,7,9,10,11,26,27]),(10,[1,2,4,5,7,9,10,12,13,26,27]),(11,[4,5]),(12,[1,2,4,5,7,9,10,12,26,27]),(13,[1,2,4,5,7,9,10,26,27]),(14,[1,2,4,5,7,9,10,26,27]),(15,[2,4,5,7,9]),(16,[2,4,5,7,9,14]),(17,[2,4,5,7,9,14]),(18,[2,4,5,7,9]),(19,[2,4,5,7,9,15]),(100022,[1,2,4,5,7,22]),(100028,[1,2,4,5,7,9,10,26,27,28]),(100037,[1,2,4,5,7,9,10,12,26,27,37])]
noncomputable def impl_cut_sum_of_s_impl_prime_second_l1 (a0s3:Int) (a0s0:Int) (a0s1:(List Int)) (a0s2:(List Int)) (a0s4f0:Int) (a1:Int) (x58:(List Int)) (x59:Int) (x60:Int):Option (((List Int)×Int×Int)⊕((List Int)⊕((Vec Int 64)×(Vec Int 64)×Int))) :=
 (if (decide (x60 < a0s3)) then (Option.bind (impl_cut_summand_of_s_impl_prime_second a0s0 a0s1 a0s2 a0s3 a0s4f0 x60) fun r76=>(if (!r76.2) then (some (.inr ((.inr (((vrep 64 (0:Int)),(vrep 64 (0:Int)),3)))))) else (Option.bind (impl_prime_combine a0s0 x58 r76.1 x59) fun r80=>(some (.inl ((r80,IntKind.i64.wrap (x59*a1),IntKind.i64.wrap (x60 + 1)))))))) else (some (.inr (.inl x58))))
noncomputable def impl_cut_sum_of_s_impl_prime_second (a0s0:Int) (a0s1:(List Int)) (a0s2:(List Int)) (a0s3:Int) (a0s4f0:Int) (a1:Int):Option ((Vec Int 64)×(Vec Int 64)×Int) :=
 (Option.bind (impl_cut_bottom_of_s_impl_prime_second a0s0 a0s1 a0s2 a0s3 a0s4f0) fun r2=>(if (!r2.2) then (some (((vrep 64 (0:Int)),(vrep 64 (0:Int)),3))) else (Option.bind (α:=((List Int)⊕((Vec Int 64)×(Vec Int 64)×Int))) ((loopM (fun s:((List Int)×Int×Int)=>impl_cut_sum_of_s_impl_prime_second_l1 a0s3 a0s0 a0s1 a0s2 a0s4f0 a1 s.1 s.2.1 s.2.2) ([],1,0))) fun z=>match z with | .inl x43=>(Option.bind (impl_prime_gcd a0s0 x43 r2.1) fun r88=>(Option.bind (impl_prime_divide a0s0 x43 r88) fun r91=>(Option.bind (impl_prime_divide a0s0 r2.1 r88) fun r94=>(Option.bind (impl_row_lead r94.1) fun r102=>(Option.bind (impl_prime_inverse a0s0 r102) fun r104=>(Option.bind (impl_prime_scale a0s0 r91.1 r104) fun r119=>(Option.bind (impl_row_poly r119) fun r121=>(Option.bind (impl_prime_scale a0s0 r94.1 r104) fun r124=>(Option.bind (impl_row_poly r124) fun r126=>(some (r121,r126,0))))))))))) | .inr r132=>(some r132))))
theorem impl_cut_sum_of_s_impl_prime_second_ok (a0s0:Int) (a0s1:(List Int)) (a0s2:(List Int)) (a0s3:Int) (a0s4f0:Int) (a1:Int) (r:((Vec Int 64)×(Vec Int 64)×Int)) (h:impl_cut_sum_of_s_impl_prime_second a0s0 a0s1 a0s2 a0s3 a0s4f0 a1=some r):Den Tryz.prog 69 [(.struct [1,1,1,1,1] [(i6 a0s0),(eSi64 a0s1),(eSi64 a0s2),(i6 a0s3),(.clo 72 [(i6 a0s4f0)] [])]),(i6 a1)] { r:=(.tuple [(eVb r.1),(eVb r.2.1),(i6 r.2.2)]) }:=by
 refine dd (rs:=[(eVb r.1),(eVb r.2.1),(i6 r.2.2)]) (L:=impl_cut_sum_of_s_impl_prime_second_L) good [(7,1),(9,1),(12,1),(14,1)] Tryz.func69 Tryz.ntmps69 ?_
 refine ns ⟨[(0,.struct [1,1,1,1,1] [(i6 a0s0),(eSi64 a0s1),(eSi64 a0s2),(i6 a0s3),(.clo 72 [(i6 a0s4f0)] [])]),(1,i6 a1)],[]⟩ ?_
 refine sr (vo 1200 (.struct [1,1,1,1,1] [(i6 a0s0),(eSi64 a0s1),(eSi64 a0s2),(i6 a0s3),(.clo 72 [(i6 a0s4f0)] [])]) rfl rfl (vo 1400 (eV0) rfl rfl (vo 1500 (eV0) rfl rfl (vr (i6 0) (nk ⟨[(1,i6 a1),(2,ow 2),(4,ow 4),(5,ow 5)],[(2,bk (.struct [1,1,1,1,1] [(i6 a0s0),(eSi64 a0s1),(eSi64 a0s2),(i6 a0s3),(.clo 72 [(i6 a0s4f0)] [])])),(4,bk (eV0)),(5,bk (eV0))]⟩ (sr (vl (.struct [1,1,1,1,1] [(i6 a0s0),(eSi64 a0s1),(eSi64 a0s2),(i6 a0s3),(.clo 72 [(i6 a0s4f0)] [])]) rfl rfl rfl rfl rfl rfl ?_)))))))
 obtain ⟨r2,hr3,h⟩:=bind_some h
 refine ca (impl_cut_bottom_of_s_impl_prime_second_ok a0s0 a0s1 a0s2 a0s3 a0s4f0 r2 hr3) (vr (.tuple [(eSi64 r2.1),(.bool r2.2)]) (vb (eSi64 r2.1) rfl rfl (vb (.bool r2.2) rfl rfl (vr (eSi64 r2.1) (vr (.bool r2.2) (nk ⟨[(1,i6 a1),(2,ow 2),(4,ow 4),(5,ow 5),(7,eSi64 r2.1),(8,.bool r2.2)],[(2,bk (.struct [1,1,1,1,1] [(i6 a0s0),(eSi64 a0s1),(eSi64 a0s2),(i6 a0s3),(.clo 72 [(i6 a0s4f0)] [])])),(4,bk (eV0)),(5,bk (eV0))]⟩ (a_seq (sr (vr (.bool r2.2) ?_)))))))))
 refine vr (.bool (!r2.2)) (nk ⟨[(1,i6 a1),(2,ow 2),(4,ow 4),(5,ow 5),(7,eSi64 r2.1),(22,.bool (!r2.2))],[(2,bk (.struct [1,1,1,1,1] [(i6 a0s0),(eSi64 a0s1),(eSi64 a0s2),(i6 a0s3),(.clo 72 [(i6 a0s4f0)] [])])),(4,bk (eV0)),(5,bk (eV0))]⟩ ?_)
 cases hb4:(!r2.2)
 ·have h:=ite_f hb4 h
  refine a_cond_f rfl (a_skip (nj ⟨[(1,i6 a1),(2,ow 2),(4,ow 4),(5,ow 5),(7,eSi64 r2.1)],[(2,bk (.struct [1,1,1,1,1] [(i6 a0s0),(eSi64 a0s1),(eSi64 a0s2),(i6 a0s3),(.clo 72 [(i6 a0s4f0)] [])])),(4,bk (eV0)),(5,bk (eV0))]⟩ (sr (vr (eSi64 ([])) (nk ⟨[(1,i6 a1),(2,ow 2),(4,ow 4),(5,ow 5),(7,eSi64 r2.1),(9,eSi64 ([]))],[(2,bk (.struct [1,1,1,1,1] [(i6 a0s0),(eSi64 a0s1),(eSi64 a0s2),(i6 a0s3),(.clo 72 [(i6 a0s4f0)] [])])),(4,bk (eV0)),(5,bk (eV0))]⟩ (sr (vr (i6 1) (nk ⟨[(1,i6 a1),(2,ow 2),(4,ow 4),(5,ow 5),(7,eSi64 r2.1),(9,eSi64 ([])),(10,i6 1)],[(2,bk (.struct [1,1,1,1,1] [(i6 a0s0),(eSi64 a0s1),(eSi64 a0s2),(i6 a0s3),(.clo 72 [(i6 a0s4f0)] [])])),(4,bk (eV0)),(5,bk (eV0))]⟩ ?_))))))))
  obtain ⟨y44,hy45,hk46⟩:=bind_some h
  clear h
  refine a_join (emb:=fun (s:(List Int))=>⟨[(2,ow 2),(4,ow 4),(5,ow 5),(7,eSi64 r2.1),(9,eSi64 s)],[(2,bk (.struct [1,1,1,1,1] [(i6 a0s0),(eSi64 a0s1),(eSi64 a0s2),(i6 a0s3),(.clo 72 [(i6 a0s4f0)] [])])),(4,bk (eV0)),(5,bk (eV0))]⟩) (pre:=fun s=>(.inl s)=y44) ?_ ?_
  ·rintro x43 rfl
   have h:=hk46
   refine ns ⟨[(2,ow 2),(4,ow 4),(5,ow 5),(7,eSi64 r2.1),(9,eSi64 x43)],[(2,bk (.struct [1,1,1,1,1] [(i6 a0s0),(eSi64 a0s1),(eSi64 a0s2),(i6 a0s3),(.clo 72 [(i6 a0s4f0)] [])])),(4,bk (eV0)),(5,bk (eV0))]⟩ (sr (vb (.own 2 [0] [0]) rfl rfl ?_))
   have hl87:LdOk [0] (.struct [1,1,1,1,1] [(i6 a0s0),(eSi64 a0s1),(eSi64 a0s2),(i6 a0s3),(.clo 72 [(i6 a0s4f0)] [])]) [0] 1 false (i6 a0s0):=(.fld rfl rfl rfl rfl (.nil rfl rfl rfl))
   refine vq (i6 a0s0) (ld_own (i:=⟨.int .i64,1,8,(.int .i64 0)⟩) rfl rfl rfl hl87) hl87.c (vr (eSi64 x43) (vr (eSi64 r2.1) ?_))
   obtain ⟨r88,hr89,h⟩:=bind_some h
   refine ca (impl_prime_gcd_ok a0s0 x43 r2.1 r88 hr89) (vr (eSi64 r88) (nk ⟨[(2,ow 2),(4,ow 4),(5,ow 5),(7,eSi64 r2.1),(9,eSi64 x43),(14,eSi64 r88)],[(2,bk (.struct [1,1,1,1,1] [(i6 a0s0),(eSi64 a0s1),(eSi64 a0s2),(i6 a0s3),(.clo 72 [(i6 a0s4f0)] [])])),(4,bk (eV0)),(5,bk (eV0))]⟩ (sr (vb (.own 2 [0] [0]) rfl rfl ?_))))
   have hl90:LdOk [0] (.struct [1,1,1,1,1] [(i6 a0s0),(eSi64 a0s1),(eSi64 a0s2),(i6 a0s3),(.clo 72 [(i6 a0s4f0)] [])]) [0] 1 false (i6 a0s0):=(.fld rfl rfl rfl rfl (.nil rfl rfl rfl))
   refine vq (i6 a0s0) (ld_own (i:=⟨.int .i64,1,8,(.int .i64 0)⟩) rfl rfl rfl hl90) hl90.c (vr (eSi64 x43) (vr (eSi64 r88) ?_))
   obtain ⟨r91,hr92,h⟩:=bind_some h
   refine ca (impl_prime_divide_ok a0s0 x43 r88 r91 hr92) (vr (.tuple [(eSi64 r91.1),(eSi64 r91.2)]) (vb (eSi64 r91.1) rfl rfl (vb (eSi64 r91.2) rfl rfl (vr (eSi64 r91.1) (nk ⟨[(2,ow 2),(4,ow 4),(5,ow 5),(7,eSi64 r2.1),(9,eSi64 r91.1),(14,eSi64 r88)],[(2,bk (.struct [1,1,1,1,1] [(i6 a0s0),(eSi64 a0s1),(eSi64 a0s2),(i6 a0s3),(.clo 72 [(i6 a0s4f0)] [])])),(4,bk (eV0)),(5,bk (eV0))]⟩ (sr (vb (.own 2 [0] [0]) rfl rfl ?_)))))))
   have hl93:LdOk [0] (.struct [1,1,1,1,1] [(i6 a0s0),(eSi64 a0s1),(eSi64 a0s2),(i6 a0s3),(.clo 72 [(i6 a0s4f0)] [])]) [0] 1 false (i6 a0s0):=(.fld rfl rfl rfl rfl (.nil rfl rfl rfl))
   refine vq (i6 a0s0) (ld_own (i:=⟨.int .i64,1,8,(.int .i64 0)⟩) rfl rfl rfl hl93) hl93.c (vr (eSi64 r2.1) (vr (eSi64 r88) ?_))
   obtain ⟨r94,hr95,h⟩:=bind_some h
   refine ca (impl_prime_divide_ok a0s0 r2.1 r88 r94 hr95) (vr (.tuple [(eSi64 r94.1),(eSi64 r94.2)]) (vb (eSi64 r94.1) rfl rfl (vb (eSi64 r94.2) rfl rfl (vr (eSi64 r94.1) (nk ⟨[(2,ow 2),(4,ow 4),(5,ow 5),(7,eSi64 r94.1),(9,eSi64 r91.1)],[(2,bk (.struct [1,1,1,1,1] [(i6 a0s0),(eSi64 a0s1),(eSi64 a0s2),(i6 a0s3),(.clo 72 [(i6 a0s4f0)] [])])),(4,bk (eV0)),(5,bk (eV0))]⟩ (a_seq (a_draw [⟨[2],[],[2],[]⟩,⟨[2],[],[],[0]⟩,⟨[],[],[],[]⟩,⟨[],[],[],[2]⟩,⟨[],[],[],[0,1,2,3]⟩,⟨[],[],[],[0,1,2,3,4]⟩] (by kernel_rfl) (d_cons (vb (.own 2 [0] [0]) rfl rfl ?_)))))))))
   refine dn (d_cons ?_)
   have hl101:LdOk [0] (.struct [1,1,1,1,1] [(i6 a0s0),(eSi64 a0s1),(eSi64 a0s2),(i6 a0s3),(.clo 72 [(i6 a0s4f0)] [])]) [0] 1 false (i6 a0s0):=(.fld rfl rfl rfl rfl (.nil rfl rfl rfl))
   refine vq (i6 a0s0) (ld_own (i:=⟨.int .i64,1,8,(.int .i64 0)⟩) rfl rfl rfl hl101) hl101.c (dn (dj (eSi64 r94.1) rfl (d_cons ?_)))
   obtain ⟨r102,hr103,h⟩:=bind_some h
   refine ca (impl_row_lead_ok r94.1 r102 hr103) (dn (d_cons ?_))
   obtain ⟨r104,hr105,h⟩:=bind_some h
   refine ca (impl_prime_inverse_ok a0s0 r102 r104 hr105) (dn (dj (i6 r104) rfl (d_nil (nj ⟨[(2,ow 2),(4,ow 4),(5,ow 5),(7,eSi64 r94.1),(9,eSi64 r91.1),(15,i6 r104)],[(2,bk (.struct [1,1,1,1,1] [(i6 a0s0),(eSi64 a0s1),(eSi64 a0s2),(i6 a0s3),(.clo 72 [(i6 a0s4f0)] [])])),(4,bk (eV0)),(5,bk (eV0))]⟩ (a_seq (a_draw [⟨[2],[],[2],[]⟩,⟨[2],[],[],[0]⟩,⟨[],[],[],[]⟩,⟨[],[],[],[]⟩,⟨[],[],[],[0,1,2,3]⟩,⟨[],[],[],[0,1,2,3,4]⟩,⟨[2],[],[2],[]⟩,⟨[2],[],[],[6]⟩,⟨[],[],[],[]⟩,⟨[],[],[],[]⟩,⟨[],[],[],[0,1,2,3,4,5,6,7,8,9]⟩,⟨[],[],[],[0,1,2,3,4,5,6,7,8,9,10]⟩,⟨[4],[4],[],[0,1,2,3,4,5,6,7,8,9,10,11]⟩,⟨[5],[5],[],[0,1,2,3,4,5,6,7,8,9,10,11,12]⟩,⟨[],[],[],[0,1,2,3,4,5,6,7,8,9,10,11,12,13]⟩] (by kernel_rfl) (d_cons (vb (.own 2 [0] [0]) rfl rfl (dn ?_)))))))))
   refine d_cons ?_
   have hl118:LdOk [0] (.struct [1,1,1,1,1] [(i6 a0s0),(eSi64 a0s1),(eSi64 a0s2),(i6 a0s3),(.clo 72 [(i6 a0s4f0)] [])]) [0] 1 false (i6 a0s0):=(.fld rfl rfl rfl rfl (.nil rfl rfl rfl))
   refine vq (i6 a0s0) (ld_own (i:=⟨.int .i64,1,8,(.int .i64 0)⟩) rfl rfl rfl hl118) hl118.c (dn (dj (eSi64 r91.1) rfl (dj (i6 r104) rfl (d_cons ?_))))
   obtain ⟨r119,hr120,h⟩:=bind_some h
   refine ca (impl_prime_scale_ok a0s0 r91.1 r104 r119 hr120) (dn (d_cons ?_))
   obtain ⟨r121,hr122,h⟩:=bind_some h
   refine ca (impl_row_poly_ok r119 r121 hr122) (dn (d_cons (vb (.own 2 [0] [0]) rfl rfl (dn (d_cons ?_)))))
   have hl123:LdOk [0] (.struct [1,1,1,1,1] [(i6 a0s0),(eSi64 a0s1),(eSi64 a0s2),(i6 a0s3),(.clo 72 [(i6 a0s4f0)] [])]) [0] 1 false (i6 a0s0):=(.fld rfl rfl rfl rfl (.nil rfl rfl rfl))
   refine vq (i6 a0s0) (ld_own (i:=⟨.int .i64,1,8,(.int .i64 0)⟩) rfl rfl rfl hl123) hl123.c (dn (dj (eSi64 r94.1) rfl (dj (i6 r104) rfl (d_cons ?_))))
   obtain ⟨r124,hr125,h⟩:=bind_some h
   refine ca (impl_prime_scale_ok a0s0 r94.1 r104 r124 hr125) (dn (d_cons ?_))
   obtain ⟨r126,hr127,h⟩:=bind_some h
   refine ca (impl_row_poly_ok r124 r126 hr127) (dn (d_cons (vs (eVb r121) rfl rfl (fun _=>rfl) rfl rfl rfl rfl rfl rfl (dn (d_cons (vs (eVb r126) rfl rfl (fun _=>rfl) rfl rfl rfl rfl rfl rfl (dn (dj (i6 0) rfl (d_nil ?_)))))))))
   refine a_next rfl (a_ret ?_)
   have hl130:LdOk [] (eVb r121) [] 64 true (eVb r121):=(.nil rfl rfl rfl)
   have hl131:LdOk [] (eVb r126) [] 64 true (eVb r126):=(.nil rfl rfl rfl)
   refine ⟨.inr rfl,?_⟩
   rw [Tryz.results69]
   cases h
   exact ⟨_,_,_,_,_,ld_own (i:=⟨.arr 64 5,64,64,(eVb (vrep 64 (0:Int)))⟩) rfl rfl rfl hl130,hl130.c,.inl ⟨rfl,.inl rfl⟩,rfl,⟨_,_,_,_,_,ld_own (i:=⟨.arr 64 5,64,64,(eVb (vrep 64 (0:Int)))⟩) rfl rfl rfl hl131,hl131.c,.inl ⟨rfl,.inl rfl⟩,rfl,⟨_,_,_,_,_,rfl,trivial,.inl ⟨rfl,.inl rfl⟩,rfl,rfl⟩⟩⟩
  ·have h:=hy45
   refine sr (vb (.own 2 [3] [3]) rfl rfl ?_)
   have hl47:LdOk [3] (.struct [1,1,1,1,1] [(i6 a0s0),(eSi64 a0s1),(eSi64 a0s2),(i6 a0s3),(.clo 72 [(i6 a0s4f0)] [])]) [3] 1 false (i6 a0s3):=(.fld rfl rfl rfl rfl (.nil rfl rfl rfl))
   refine vq (i6 a0s3) (ld_own (i:=⟨.int .i64,1,8,(.int .i64 0)⟩) rfl rfl rfl hl47) hl47.c (vr (i6 0) (nk ⟨[(1,i6 a1),(2,ow 2),(4,ow 4),(5,ow 5),(7,eSi64 r2.1),(9,eSi64 ([])),(10,i6 1),(26,i6 a0s3),(27,i6 0)],[(2,bk (.struct [1,1,1,1,1] [(i6 a0s0),(eSi64 a0s1),(eSi64 a0s2),(i6 a0s3),(.clo 72 [(i6 a0s4f0)] [])])),(4,bk (eV0)),(5,bk (eV0))]⟩ (a_block ?_)))
   refine a_loop (emb:=fun (s:((List Int)×Int×Int))=>⟨[(1,i6 a1),(2,ow 2),(4,ow 4),(5,ow 5),(7,eSi64 r2.1),(9,eSi64 s.1),(10,i6 s.2.1),(26,i6 a0s3),(27,i6 s.2.2)],[(2,bk (.struct [1,1,1,1,1] [(i6 a0s0),(eSi64 a0s1),(eSi64 a0s2),(i6 a0s3),(.clo 72 [(i6 a0s4f0)] [])])),(4,bk (eV0)),(5,bk (eV0))]⟩) (body:=(fun s:((List Int)×Int×Int)=>impl_cut_sum_of_s_impl_prime_second_l1 a0s3 a0s0 a0s1 a0s2 a0s4f0 a1 s.1 s.2.1 s.2.2)) (G:=fun q=>some q=some y44) h rfl ?_ (by kernel_rfl)
   rintro X71 ⟨x58,x59,x60⟩ x72 h hX73
   have h:impl_cut_sum_of_s_impl_prime_second_l1 a0s3 a0s0 a0s1 a0s2 a0s4f0 a1 x58 x59 x60=some x72:=h
   refine ns ⟨[(1,i6 a1),(2,ow 2),(4,ow 4),(5,ow 5),(7,eSi64 r2.1),(9,eSi64 x58),(10,i6 x59),(26,i6 a0s3),(27,i6 x60)],[(2,bk (.struct [1,1,1,1,1] [(i6 a0s0),(eSi64 a0s1),(eSi64 a0s2),(i6 a0s3),(.clo 72 [(i6 a0s4f0)] [])])),(4,bk (eV0)),(5,bk (eV0))]⟩ (sr (vr (.bool ((decide (x60 < a0s3)))) (nk ⟨[(1,i6 a1),(2,ow 2),(4,ow 4),(5,ow 5),(7,eSi64 r2.1),(9,eSi64 x58),(10,i6 x59),(26,i6 a0s3),(27,i6 x60),(28,.bool ((decide (x60 < a0s3))))],[(2,bk (.struct [1,1,1,1,1] [(i6 a0s0),(eSi64 a0s1),(eSi64 a0s2),(i6 a0s3),(.clo 72 [(i6 a0s4f0)] [])])),(4,bk (eV0)),(5,bk (eV0))]⟩ (a_seq ?_))))
   cases hb74:(decide (x60 < a0s3))
   ·have h:=ite_f hb74 h
    refine a_cond_f rfl (a_exit (t_exit ?_))
    cases h
    have h:=hX73
    refine t_exit (b_exit ?_)
    exact jl x58 h
   ·have h:=ite_t hb74 h
    refine a_cond_t rfl (a_skip (nj ⟨[(1,i6 a1),(2,ow 2),(4,ow 4),(5,ow 5),(7,eSi64 r2.1),(9,eSi64 x58),(10,i6 x59),(26,i6 a0s3),(27,i6 x60)],[(2,bk (.struct [1,1,1,1,1] [(i6 a0s0),(eSi64 a0s1),(eSi64 a0s2),(i6 a0s3),(.clo 72 [(i6 a0s4f0)] [])])),(4,bk (eV0)),(5,bk (eV0))]⟩ (a_seq (a_block (sr (vr (i6 x60) (vr (i6 x60) (nk ⟨[(1,i6 a1),(2,ow 2),(4,ow 4),(5,ow 5),(7,eSi64 r2.1),(9,eSi64 x58),(10,i6 x59),(11,i6 x60),(26,i6 a0s3),(27,i6 x60)],[(2,bk (.struct [1,1,1,1,1] [(i6 a0s0),(eSi64 a0s1),(eSi64 a0s2),(i6 a0s3),(.clo 72 [(i6 a0s4f0)] [])])),(4,bk (eV0)),(5,bk (eV0))]⟩ (sr ?_)))))))))
    refine vl (.struct [1,1,1,1,1] [(i6 a0s0),(eSi64 a0s1),(eSi64 a0s2),(i6 a0s3),(.clo 72 [(i6 a0s4f0)] [])]) rfl rfl rfl rfl rfl rfl (vr (i6 x60) ?_)
    obtain ⟨r76,hr77,h⟩:=bind_some h
    refine ca (impl_cut_summand_of_s_impl_prime_second_ok a0s0 a0s1 a0s2 a0s3 a0s4f0 x60 r76 hr77) (vr (.tuple [(eSi64 r76.1),(.bool r76.2)]) (vb (eSi64 r76.1) rfl rfl (vb (.bool r76.2) rfl rfl (vr (eSi64 r76.1) (vr (.bool r76.2) (nk ⟨[(1,i6 a1),(2,ow 2),(4,ow 4),(5,ow 5),(7,eSi64 r2.1),(9,eSi64 x58),(10,i6 x59),(12,eSi64 r76.1),(13,.bool r76.2),(26,i6 a0s3),(27,i6 x60)],[(2,bk (.struct [1,1,1,1,1] [(i6 a0s0),(eSi64 a0s1),(eSi64 a0s2),(i6 a0s3),(.clo 72 [(i6 a0s4f0)] [])])),(4,bk (eV0)),(5,bk (eV0))]⟩ (a_seq (sr (vr (.bool r76.2) ?_)))))))))
    refine vr (.bool (!r76.2)) (nk ⟨[(1,i6 a1),(2,ow 2),(4,ow 4),(5,ow 5),(7,eSi64 r2.1),(9,eSi64 x58),(10,i6 x59),(12,eSi64 r76.1),(26,i6 a0s3),(27,i6 x60),(37,.bool (!r76.2))],[(2,bk (.struct [1,1,1,1,1] [(i6 a0s0),(eSi64 a0s1),(eSi64 a0s2),(i6 a0s3),(.clo 72 [(i6 a0s4f0)] [])])),(4,bk (eV0)),(5,bk (eV0))]⟩ ?_)
    cases hb78:(!r76.2)
    ·have h:=ite_f hb78 h
     refine a_cond_f rfl (a_skip (nj ⟨[(1,i6 a1),(2,ow 2),(4,ow 4),(5,ow 5),(7,eSi64 r2.1),(9,eSi64 x58),(10,i6 x59),(12,eSi64 r76.1),(26,i6 a0s3),(27,i6 x60)],[(2,bk (.struct [1,1,1,1,1] [(i6 a0s0),(eSi64 a0s1),(eSi64 a0s2),(i6 a0s3),(.clo 72 [(i6 a0s4f0)] [])])),(4,bk (eV0)),(5,bk (eV0))]⟩ (sr (vb (.own 2 [0] [0]) rfl rfl ?_))))
     have hl79:LdOk [0] (.struct [1,1,1,1,1] [(i6 a0s0),(eSi64 a0s1),(eSi64 a0s2),(i6 a0s3),(.clo 72 [(i6 a0s4f0)] [])]) [0] 1 false (i6 a0s0):=(.fld rfl rfl rfl rfl (.nil rfl rfl rfl))
     refine vq (i6 a0s0) (ld_own (i:=⟨.int .i64,1,8,(.int .i64 0)⟩) rfl rfl rfl hl79) hl79.c (vr (eSi64 x58) (vr (eSi64 r76.1) (vr (i6 x59) ?_)))
     obtain ⟨r80,hr81,h⟩:=bind_some h
     refine ca (impl_prime_combine_ok a0s0 x58 r76.1 x59 r80 hr81) (vr (eSi64 r80) (nk ⟨[(1,i6 a1),(2,ow 2),(4,ow 4),(5,ow 5),(7,eSi64 r2.1),(9,eSi64 r80),(10,i6 x59),(26,i6 a0s3),(27,i6 x60)],[(2,bk (.struct [1,1,1,1,1] [(i6 a0s0),(eSi64 a0s1),(eSi64 a0s2),(i6 a0s3),(.clo 72 [(i6 a0s4f0)] [])])),(4,bk (eV0)),(5,bk (eV0))]⟩ (a_region (vr (i6 x59) (vr (i6 a1) (vr (i6 (IntKind.i64.wrap (x59*a1))) (vr (i6 (IntKind.i64.wrap (x59*a1))) (a_nil (b_norm ?_)))))))))
     refine nj ⟨[(1,i6 a1),(2,ow 2),(4,ow 4),(5,ow 5),(7,eSi64 r2.1),(9,eSi64 r80),(10,i6 (IntKind.i64.wrap (x59*a1))),(26,i6 a0s3),(27,i6 x60)],[(2,bk (.struct [1,1,1,1,1] [(i6 a0s0),(eSi64 a0s1),(eSi64 a0s2),(i6 a0s3),(.clo 72 [(i6 a0s4f0)] [])])),(4,bk (eV0)),(5,bk (eV0))]⟩ (a_region (vr (i6 (IntKind.i64.wrap (x60 + 1))) (vr (i6 (IntKind.i64.wrap (x60 + 1))) (a_nil ?_))))
     cases h
     exact ag hX73
    ·have h:=ite_t hb78 h
     refine a_cond_t rfl (sr (vq (eV0) rfl ⟨⟨_,rfl,rfl⟩,all_nil⟩ (vq (eV0) rfl ⟨⟨_,rfl,rfl⟩,all_nil⟩ (vs (eV0) rfl rfl (fun _=>rfl) rfl rfl rfl rfl rfl rfl (vs (eV0) rfl rfl (fun _=>rfl) rfl rfl rfl rfl rfl rfl (vr (i6 3) (nx _ rfl (a_ret (t_ret ?_)))))))))
     refine b_ret (t_ret ?_)
     cases h
     have h:=hX73
     refine t_ret (b_ret (t_ret ?_))
     cases h
     have h:=hk46
     have hl84:LdOk [] (eV0) [] 64 true (eV0):=(.nil rfl rfl rfl)
     have hl85:LdOk [] (eV0) [] 64 true (eV0):=(.nil rfl rfl rfl)
     refine ⟨.inr rfl,?_⟩
     rw [Tryz.results69]
     cases h
     exact ⟨_,_,_,_,_,ld_own (i:=⟨.arr 64 5,64,64,(eVb (vrep 64 (0:Int)))⟩) rfl rfl rfl hl84,hl84.c,.inl ⟨rfl,.inl rfl⟩,rfl,⟨_,_,_,_,_,ld_own (i:=⟨.arr 64 5,64,64,(eVb (vrep 64 (0:Int)))⟩) rfl rfl rfl hl85,hl85.c,.inl ⟨rfl,.inl rfl⟩,rfl,⟨_,_,_,_,_,rfl,trivial,.inl ⟨rfl,.inl rfl⟩,rfl,rfl⟩⟩⟩
 ·have h:=ite_t hb4 h
  refine a_cond_t rfl (sr (vq (eV0) rfl ⟨⟨_,rfl,rfl⟩,all_nil⟩ (vq (eV0) rfl ⟨⟨_,rfl,rfl⟩,all_nil⟩ (vs (eV0) rfl rfl (fun _=>rfl) rfl rfl rfl rfl rfl rfl (vs (eV0) rfl rfl (fun _=>rfl) rfl rfl rfl rfl rfl rfl (vr (i6 3) (nx _ rfl (a_ret (t_ret ?_)))))))))
  have hl135:LdOk [] (eV0) [] 64 true (eV0):=(.nil rfl rfl rfl)
  have hl136:LdOk [] (eV0) [] 64 true (eV0):=(.nil rfl rfl rfl)
  refine ⟨.inr rfl,?_⟩
  rw [Tryz.results69]
  cases h
  exact ⟨_,_,_,_,_,ld_own (i:=⟨.arr 64 5,64,64,(eVb (vrep 64 (0:Int)))⟩) rfl rfl rfl hl135,hl135.c,.inl ⟨rfl,.inl rfl⟩,rfl,⟨_,_,_,_,_,ld_own (i:=⟨.arr 64 5,64,64,(eVb (vrep 64 (0:Int)))⟩) rfl rfl rfl hl136,hl136.c,.inl ⟨rfl,.inl rfl⟩,rfl,⟨_,_,_,_,_,rfl,trivial,.inl ⟨rfl,.inl rfl⟩,rfl,rfl⟩⟩⟩
def impl_LogarithmUpTo_L:Live:=[(0,[0,1,2,3]),(1,[0,3,5,6,8,9]),(2,[0,3,5,6,8,9,11]),(3,[8,9,11]),(4,[0,3,5,6,8,9]),(100019,[0,3,5,6,8,9,11,19])]
noncomputable def impl_LogarithmUpTo (a0:Int) (a1:(Vec Int 64)) (a2:(Vec Int 64)) (a3:Int):Option ((Vec Int 64)×(Vec Int 64)×Int) :=
 (Option.bind (impl_within a3 1 4) fun r9=>(Option.bind (impl_quotientCode a0 a1 a2 r9) fun r11=>(if (r11 != 0) then (some (((vrep 64 (0:Int)),(vrep 64 (0:Int)),r11))) else (Option.bind (impl_rowOf a1) fun r25=>(Option.bind (impl_rowOf a2) fun r28=>(Option.bind (impl_cut_sum_of_s_impl_prime_second a0 r25 r28 a3 a0 (-1)) fun r30=>(some (r30.1,r30.2.1,r30.2.2))))))))
theorem impl_LogarithmUpTo_ok (a0:Int) (a1:(Vec Int 64)) (a2:(Vec Int 64)) (a3:Int) (r:((Vec Int 64)×(Vec Int 64)×Int)) (h:impl_LogarithmUpTo a0 a1 a2 a3=some r):Den Tryz.prog 18 [(i6 a0),(eVb a1),(eVb a2),(i6 a3)] { r:=(.tuple [(eVb r.1),(eVb r.2.1),(i6 r.2.2)]) }:=by
 refine dd (rs:=[(eVb r.1),(eVb r.2.1),(i6 r.2.2)]) (L:=impl_LogarithmUpTo_L) good [] Tryz.func18 Tryz.ntmps18 ?_
 refine ns ⟨[(0,i6 a0),(1,eVb a1),(2,eVb a2),(3,i6 a3)],[]⟩ ?_
 refine sr (vo 1500 (eVb a1) rfl rfl (vo 1600 (eVb a2) rfl rfl (vo 1800 (eV0) rfl rfl (vo 1900 (eV0) rfl rfl (vr (i6 0) (nk ⟨[(0,i6 a0),(3,i6 a3),(5,ow 5),(6,ow 6),(8,ow 8),(9,ow 9)],[(5,bk (eVb a1)),(6,bk (eVb a2)),(8,bk (eV0)),(9,bk (eV0))]⟩ (a_seq (a_seq (a_draw [⟨[],[],[],[]⟩,⟨[5],[],[],[]⟩,⟨[6],[],[],[]⟩,⟨[],[],[],[]⟩,⟨[],[],[],[3]⟩,⟨[],[],[],[0,1,2,3,4]⟩,⟨[],[],[],[0,1,2,3,4,5]⟩] (by kernel_rfl) ?_)))))))))
 refine dj (i6 a0) rfl (d_cons (vl (eVb a1) rfl rfl rfl rfl rfl rfl (dn (d_cons (vl (eVb a2) rfl rfl rfl rfl rfl rfl (dn (dj (i6 a3) rfl (d_cons ?_))))))))
 obtain ⟨r9,hr10,h⟩:=bind_some h
 refine ca (impl_within_ok a3 1 4 r9 hr10) (dn (d_cons ?_))
 obtain ⟨r11,hr12,h⟩:=bind_some h
 refine ca (impl_quotientCode_ok a0 a1 a2 r9 r11 hr12) (dn (dj (i6 r11) rfl (d_nil (nj ⟨[(0,i6 a0),(3,i6 a3),(5,ow 5),(6,ow 6),(8,ow 8),(9,ow 9),(11,i6 r11)],[(5,bk (eVb a1)),(6,bk (eVb a2)),(8,bk (eV0)),(9,bk (eV0))]⟩ (sr (vr (i6 r11) (vr (.bool (r11 != 0)) (nk ⟨[(0,i6 a0),(3,i6 a3),(5,ow 5),(6,ow 6),(8,ow 8),(9,ow 9),(11,i6 r11),(19,.bool (r11 != 0))],[(5,bk (eVb a1)),(6,bk (eVb a2)),(8,bk (eV0)),(9,bk (eV0))]⟩ ?_))))))))
 cases hb13:(r11 != 0)
 ·have h:=ite_f hb13 h
  refine a_cond_f rfl (a_skip (nj ⟨[(0,i6 a0),(3,i6 a3),(5,ow 5),(6,ow 6),(8,ow 8),(9,ow 9)],[(5,bk (eVb a1)),(6,bk (eVb a2)),(8,bk (eV0)),(9,bk (eV0))]⟩ (a_seq (a_draw [⟨[],[],[],[]⟩,⟨[5],[],[],[]⟩,⟨[],[],[],[1]⟩,⟨[6],[],[],[]⟩,⟨[],[],[],[1,2,3]⟩,⟨[],[],[],[]⟩,⟨[],[],[],[]⟩,⟨[],[],[],[6]⟩,⟨[],[],[],[0,1,2,3,4,5,6,7]⟩,⟨[],[],[],[0,1,2,3,4,5,6,7,8]⟩,⟨[],[],[],[0,1,2,3,4,5,6,7,8,9]⟩,⟨[],[],[],[0,1,2,3,4,5,6,7,8,9]⟩,⟨[],[],[],[0,1,2,3,4,5,6,7,8,9]⟩,⟨[8],[8],[],[0,1,2,3,4,5,6,7,8,9,10,11,12]⟩,⟨[9],[9],[],[0,1,2,3,4,5,6,7,8,9,10,11,12,13]⟩,⟨[],[],[],[0,1,2,3,4,5,6,7,8,9,10,11,12,13,14]⟩] (by kernel_rfl) (dj (i6 a0) rfl (d_cons (vl (eVb a1) rfl rfl rfl rfl rfl rfl (dn (d_cons ?_)))))))))
  obtain ⟨r25,hr26,h⟩:=bind_some h
  refine ca (impl_rowOf_ok a1 r25 hr26) (dn (d_cons (vl (eVb a2) rfl rfl rfl rfl rfl rfl (dn (d_cons ?_)))))
  obtain ⟨r28,hr29,h⟩:=bind_some h
  refine ca (impl_rowOf_ok a2 r28 hr29) (dn (dj (i6 a3) rfl (dj (i6 a0) rfl (dj (.clo 72 [(i6 a0)] []) rfl (d_cons (vq (.struct [1,1,1,1,1] [(i6 a0),(eSi64 r25),(eSi64 r28),(i6 a3),(.clo 72 [(i6 a0)] [])]) rfl ⟨rfl,(all_cons ⟨(Nat.le_of_ble_eq_true rfl),rfl⟩ (all_cons ⟨(Nat.le_of_ble_eq_true rfl),rfl⟩ (all_cons ⟨(Nat.le_of_ble_eq_true rfl),rfl⟩ (all_cons ⟨(Nat.le_of_ble_eq_true rfl),rfl⟩ (all_cons ⟨(Nat.le_of_ble_eq_true rfl),rfl⟩ all_nil)))))⟩ (dn (d_cons ?_))))))))
  obtain ⟨r30,hr31,h⟩:=bind_some h
  refine ca (impl_cut_sum_of_s_impl_prime_second_ok a0 r25 r28 a3 a0 (-1) r30 hr31) (dn (d_cons (vb (eVb r30.1) rfl rfl (dn (d_cons (vb (eVb r30.2.1) rfl rfl (dn (d_cons (vb (i6 r30.2.2) rfl rfl ?_)))))))))
  refine dn (d_cons (vs (eVb r30.1) rfl rfl (fun _=>rfl) rfl rfl rfl rfl rfl rfl (dn (d_cons (vs (eVb r30.2.1) rfl rfl (fun _=>rfl) rfl rfl rfl rfl rfl rfl (dn (dj (i6 r30.2.2) rfl (d_nil (a_next rfl ?_)))))))))
  refine a_ret ?_
  have hl34:LdOk [] (eVb r30.1) [] 64 true (eVb r30.1):=(.nil rfl rfl rfl)
  have hl35:LdOk [] (eVb r30.2.1) [] 64 true (eVb r30.2.1):=(.nil rfl rfl rfl)
  refine ⟨.inr rfl,?_⟩
  rw [Tryz.results18]
  cases h
  exact ⟨_,_,_,_,_,ld_own (i:=⟨.arr 64 5,64,64,(eVb (vrep 64 (0:Int)))⟩) rfl rfl rfl hl34,hl34.c,.inl ⟨rfl,.inl rfl⟩,rfl,⟨_,_,_,_,_,ld_own (i:=⟨.arr 64 5,64,64,(eVb (vrep 64 (0:Int)))⟩) rfl rfl rfl hl35,hl35.c,.inl ⟨rfl,.inl rfl⟩,rfl,⟨_,_,_,_,_,rfl,trivial,.inl ⟨rfl,.inl rfl⟩,rfl,rfl⟩⟩⟩
 ·have h:=ite_t hb13 h
  refine a_cond_t rfl (sr (vq (eV0) rfl ⟨⟨_,rfl,rfl⟩,all_nil⟩ (vq (eV0) rfl ⟨⟨_,rfl,rfl⟩,all_nil⟩ (vr (i6 r11) (vs (eV0) rfl rfl (fun _=>rfl) rfl rfl rfl rfl rfl rfl (vs (eV0) rfl rfl (fun _=>rfl) rfl rfl rfl rfl rfl rfl (vr (i6 r11) (nx _ rfl (a_ret ?_)))))))))
  refine t_ret ?_
  have hl38:LdOk [] (eV0) [] 64 true (eV0):=(.nil rfl rfl rfl)
  have hl39:LdOk [] (eV0) [] 64 true (eV0):=(.nil rfl rfl rfl)
  refine ⟨.inr rfl,?_⟩
  rw [Tryz.results18]
  cases h
  exact ⟨_,_,_,_,_,ld_own (i:=⟨.arr 64 5,64,64,(eVb (vrep 64 (0:Int)))⟩) rfl rfl rfl hl38,hl38.c,.inl ⟨rfl,.inl rfl⟩,rfl,⟨_,_,_,_,_,ld_own (i:=⟨.arr 64 5,64,64,(eVb (vrep 64 (0:Int)))⟩) rfl rfl rfl hl39,hl39.c,.inl ⟨rfl,.inl rfl⟩,rfl,⟨_,_,_,_,_,rfl,trivial,.inl ⟨rfl,.inl rfl⟩,rfl,rfl⟩⟩⟩
def spec_LogarithmUpTo_L:Live:=[(0,[0,1,2,3]),(1,[0,3,5,6,8,9]),(2,[0,3,5,6,8,9,11]),(3,[8,9,11]),(4,[0,3,5,6,8,9]),(5,[8,9,12,13,14]),(6,[8,9]),(7,[8,9,12,13]),(100021,[0,3,5,6,8,9,11,21]),(100035,[8,9,12,13,35])]
noncomputable def spec_LogarithmUpTo (a0:Int) (a1:(Vec Int 64)) (a2:(Vec Int 64)) (a3:Int):Option ((Vec Int 64)×(Vec Int 64)×Int) :=
 (Option.bind (spec_l10Cut a0 a1 a2 a3) fun r3=>(if (r3 != 0) then (some (((vrep 64 (0:Int)),(vrep 64 (0:Int)),r3))) else (Option.bind (spec_l10Series a0 a1 a2 a3 true) fun r8=>(if (!r8.2.2) then (some (((vrep 64 (0:Int)),(vrep 64 (0:Int)),3))) else (some (r8.1,r8.2.1,0))))))
theorem spec_LogarithmUpTo_ok (a0:Int) (a1:(Vec Int 64)) (a2:(Vec Int 64)) (a3:Int) (r:((Vec Int 64)×(Vec Int 64)×Int)) (h:spec_LogarithmUpTo a0 a1 a2 a3=some r):Den Tryz.prog 19 [(i6 a0),(eVb a1),(eVb a2),(i6 a3)] { r:=(.tuple [(eVb r.1),(eVb r.2.1),(i6 r.2.2)]) }:=by
 refine dd (rs:=[(eVb r.1),(eVb r.2.1),(i6 r.2.2)]) (L:=spec_LogarithmUpTo_L) good [] Tryz.func19 Tryz.ntmps19 ?_
 refine ns ⟨[(0,i6 a0),(1,eVb a1),(2,eVb a2),(3,i6 a3)],[]⟩ ?_
 refine sr (vo 1500 (eVb a1) rfl rfl (vo 1600 (eVb a2) rfl rfl (vo 1800 (eV0) rfl rfl (vo 1900 (eV0) rfl rfl (vr (i6 0) (nk ⟨[(0,i6 a0),(3,i6 a3),(5,ow 5),(6,ow 6),(8,ow 8),(9,ow 9)],[(5,bk (eVb a1)),(6,bk (eVb a2)),(8,bk (eV0)),(9,bk (eV0))]⟩ (a_seq (sr (vr (i6 a0) ?_)))))))))
 refine vl (eVb a1) rfl rfl rfl rfl rfl rfl (vl (eVb a2) rfl rfl rfl rfl rfl rfl (vr (i6 a3) ?_))
 obtain ⟨r3,hr4,h⟩:=bind_some h
 refine ca (spec_l10Cut_ok a0 a1 a2 a3 r3 hr4) (vr (i6 r3) (nk ⟨[(0,i6 a0),(3,i6 a3),(5,ow 5),(6,ow 6),(8,ow 8),(9,ow 9),(11,i6 r3)],[(5,bk (eVb a1)),(6,bk (eVb a2)),(8,bk (eV0)),(9,bk (eV0))]⟩ (sr (vr (i6 r3) (vr (.bool (r3 != 0)) (nk ⟨[(0,i6 a0),(3,i6 a3),(5,ow 5),(6,ow 6),(8,ow 8),(9,ow 9),(11,i6 r3),(21,.bool (r3 != 0))],[(5,bk (eVb a1)),(6,bk (eVb a2)),(8,bk (eV0)),(9,bk (eV0))]⟩ ?_))))))
 cases hb5:(r3 != 0)
 ·have h:=ite_f hb5 h
  refine a_cond_f rfl (a_skip (nj ⟨[(0,i6 a0),(3,i6 a3),(5,ow 5),(6,ow 6),(8,ow 8),(9,ow 9)],[(5,bk (eVb a1)),(6,bk (eVb a2)),(8,bk (eV0)),(9,bk (eV0))]⟩ (sr (vr (i6 a0) (vl (eVb a1) rfl rfl rfl rfl rfl rfl (vl (eVb a2) rfl rfl rfl rfl rfl rfl (vr (i6 a3) ?_)))))))
  obtain ⟨r8,hr9,h⟩:=bind_some h
  refine ca (spec_l10Series_ok a0 a1 a2 a3 true r8 hr9) (vr (.tuple [(eVb r8.1),(eVb r8.2.1),(.bool r8.2.2)]) (vb (eVb r8.1) rfl rfl (vb (eVb r8.2.1) rfl rfl (vb (.bool r8.2.2) rfl rfl (vo 2200 (eV0) rfl rfl (vo 2300 (eV0) rfl rfl (vs (eVb r8.1) rfl rfl (fun _=>rfl) rfl rfl rfl rfl rfl rfl (vs (eVb r8.2.1) rfl rfl (fun _=>rfl) rfl rfl rfl rfl rfl rfl (vr (.bool r8.2.2) ?_)))))))))
  refine nk ⟨[(8,ow 8),(9,ow 9),(12,ow 12),(13,ow 13),(14,.bool r8.2.2)],[(8,bk (eV0)),(9,bk (eV0)),(12,bk (eVb r8.1)),(13,bk (eVb r8.2.1))]⟩ (a_seq (sr (vr (.bool r8.2.2) (vr (.bool (!r8.2.2)) (nk ⟨[(8,ow 8),(9,ow 9),(12,ow 12),(13,ow 13),(35,.bool (!r8.2.2))],[(8,bk (eV0)),(9,bk (eV0)),(12,bk (eVb r8.1)),(13,bk (eVb r8.2.1))]⟩ ?_)))))
  cases hb12:(!r8.2.2)
  ·have h:=ite_f hb12 h
   refine a_cond_f rfl (a_skip (nj ⟨[(8,ow 8),(9,ow 9),(12,ow 12),(13,ow 13)],[(8,bk (eV0)),(9,bk (eV0)),(12,bk (eVb r8.1)),(13,bk (eVb r8.2.1))]⟩ (a_seq (a_draw [⟨[12],[],[],[]⟩,⟨[13],[],[],[]⟩,⟨[8],[8],[],[0]⟩,⟨[9],[9],[],[0,1,2]⟩,⟨[],[],[],[0,1,2,3]⟩] (by kernel_rfl) (d_cons (vl (eVb r8.1) rfl rfl rfl rfl rfl rfl (dn (d_cons (vl (eVb r8.2.1) rfl rfl rfl rfl rfl rfl ?_)))))))))
   refine dn (d_cons (vs (eVb r8.1) rfl rfl (fun _=>rfl) rfl rfl rfl rfl rfl rfl (dn (d_cons (vs (eVb r8.2.1) rfl rfl (fun _=>rfl) rfl rfl rfl rfl rfl rfl (dn (dj (i6 0) rfl (d_nil (a_next rfl ?_)))))))))
   refine a_ret ?_
   have hl21:LdOk [] (eVb r8.1) [] 64 true (eVb r8.1):=(.nil rfl rfl rfl)
   have hl22:LdOk [] (eVb r8.2.1) [] 64 true (eVb r8.2.1):=(.nil rfl rfl rfl)
   refine ⟨.inr rfl,?_⟩
   rw [Tryz.results19]
   cases h
   exact ⟨_,_,_,_,_,ld_own (i:=⟨.arr 64 5,64,64,(eVb (vrep 64 (0:Int)))⟩) rfl rfl rfl hl21,hl21.c,.inl ⟨rfl,.inl rfl⟩,rfl,⟨_,_,_,_,_,ld_own (i:=⟨.arr 64 5,64,64,(eVb (vrep 64 (0:Int)))⟩) rfl rfl rfl hl22,hl22.c,.inl ⟨rfl,.inl rfl⟩,rfl,⟨_,_,_,_,_,rfl,trivial,.inl ⟨rfl,.inl rfl⟩,rfl,rfl⟩⟩⟩
  ·have h:=ite_t hb12 h
   refine a_cond_t rfl (sr (vq (eV0) rfl ⟨⟨_,rfl,rfl⟩,all_nil⟩ (vq (eV0) rfl ⟨⟨_,rfl,rfl⟩,all_nil⟩ (vs (eV0) rfl rfl (fun _=>rfl) rfl rfl rfl rfl rfl rfl (vs (eV0) rfl rfl (fun _=>rfl) rfl rfl rfl rfl rfl rfl (vr (i6 3) (nx _ rfl (a_ret (t_ret ?_)))))))))
   have hl25:LdOk [] (eV0) [] 64 true (eV0):=(.nil rfl rfl rfl)
   have hl26:LdOk [] (eV0) [] 64 true (eV0):=(.nil rfl rfl rfl)
   refine ⟨.inr rfl,?_⟩
   rw [Tryz.results19]
   cases h
   exact ⟨_,_,_,_,_,ld_own (i:=⟨.arr 64 5,64,64,(eVb (vrep 64 (0:Int)))⟩) rfl rfl rfl hl25,hl25.c,.inl ⟨rfl,.inl rfl⟩,rfl,⟨_,_,_,_,_,ld_own (i:=⟨.arr 64 5,64,64,(eVb (vrep 64 (0:Int)))⟩) rfl rfl rfl hl26,hl26.c,.inl ⟨rfl,.inl rfl⟩,rfl,⟨_,_,_,_,_,rfl,trivial,.inl ⟨rfl,.inl rfl⟩,rfl,rfl⟩⟩⟩
 ·have h:=ite_t hb5 h
  refine a_cond_t rfl (sr (vq (eV0) rfl ⟨⟨_,rfl,rfl⟩,all_nil⟩ (vq (eV0) rfl ⟨⟨_,rfl,rfl⟩,all_nil⟩ (vr (i6 r3) (vs (eV0) rfl rfl (fun _=>rfl) rfl rfl rfl rfl rfl rfl (vs (eV0) rfl rfl (fun _=>rfl) rfl rfl rfl rfl rfl rfl (vr (i6 r3) (nx _ rfl (a_ret ?_)))))))))
  refine t_ret ?_
  have hl29:LdOk [] (eV0) [] 64 true (eV0):=(.nil rfl rfl rfl)
  have hl30:LdOk [] (eV0) [] 64 true (eV0):=(.nil rfl rfl rfl)
  refine ⟨.inr rfl,?_⟩
  rw [Tryz.results19]
  cases h
  exact ⟨_,_,_,_,_,ld_own (i:=⟨.arr 64 5,64,64,(eVb (vrep 64 (0:Int)))⟩) rfl rfl rfl hl29,hl29.c,.inl ⟨rfl,.inl rfl⟩,rfl,⟨_,_,_,_,_,ld_own (i:=⟨.arr 64 5,64,64,(eVb (vrep 64 (0:Int)))⟩) rfl rfl rfl hl30,hl30.c,.inl ⟨rfl,.inl rfl⟩,rfl,⟨_,_,_,_,_,rfl,trivial,.inl ⟨rfl,.inl rfl⟩,rfl,rfl⟩⟩⟩
def laws_sum_L:Live:=[(0,[0]),(1,[0]),(2,[0,3]),(3,[0,3,4]),(4,[0,3,4]),(5,[0,3,4]),(6,[3]),(100008,[0,3,4,8])]
noncomputable def laws_sum_l1 (a0:(List Int)) (x23:Int) (x24:Int):Option ((Int×Int)⊕Int) :=
 (if (decide (x24 < (a0.length:Int))) then (ifp (0≤x24∧x24 < ((a0.length:Nat):Int)) ((some (.inl ((IntKind.i64.wrap (x23 + (rd a0 x24.toNat)),IntKind.i64.wrap (x24 + 1))))))) else (some (.inr x23)))
noncomputable def laws_sum (a0:(List Int)):Option Int :=
 (Option.bind (α:=Int) ((loopM (fun s:(Int×Int)=>laws_sum_l1 a0 s.1 s.2) (0,0))) fun x16=>(some x16))
theorem laws_sum_ok (a0:(List Int)) (r:Int) (h:laws_sum a0=some r):Den Tryz.prog 20 [(eSi64 a0)] { r:=(i6 r) }:=by
 refine dd (rs:=[(i6 r)]) (L:=laws_sum_L) good [] Tryz.func20 Tryz.ntmps20 ?_
 refine ns ⟨[(0,eSi64 a0)],[]⟩ ?_
 refine sr (vr (i6 0) (nk ⟨[(0,eSi64 a0)],[]⟩ (sr (vr (i6 0) (nk ⟨[(0,eSi64 a0),(3,i6 0)],[]⟩ ?_)))))
 obtain ⟨y17,hy18,hk19⟩:=bind_some h
 clear h
 refine a_join (emb:=fun (s:Int)=>⟨[(3,i6 s)],[]⟩) (pre:=fun s=>s=y17) ?_ ?_
 ·rintro x16 rfl
  have h:=hk19
  refine ns ⟨[(3,i6 x16)],[]⟩ (sr (vr (i6 x16) (vr (i6 x16) (nx _ rfl (a_ret ?_)))))
  refine ⟨.inr rfl,?_⟩
  rw [Tryz.results20]
  cases h
  exact ⟨_,_,_,_,_,rfl,trivial,.inl ⟨rfl,.inl rfl⟩,rfl,rfl⟩
 ·have h:=hy18
  refine sr (vr (i6 0) (nk ⟨[(0,eSi64 a0),(3,i6 0),(4,i6 0)],[]⟩ (a_block ?_)))
  refine a_loop (emb:=fun (s:(Int×Int))=>⟨[(0,eSi64 a0),(3,i6 s.1),(4,i6 s.2)],[]⟩) (body:=(fun s:(Int×Int)=>laws_sum_l1 a0 s.1 s.2)) (G:=fun q=>some q=some y17) h rfl ?_ (by kernel_rfl)
  rintro X28 ⟨x23,x24⟩ x29 h hX30
  have h:laws_sum_l1 a0 x23 x24=some x29:=h
  refine ns ⟨[(0,eSi64 a0),(3,i6 x23),(4,i6 x24)],[]⟩ (a_seq (sr (vr (i6 x24) (vr (eSi64 a0) (vq (i6 (a0.length:Int)) (len_run rfl rfl) trivial (vr (.bool ((decide (x24 < (a0.length:Int))))) (nk ⟨[(0,eSi64 a0),(3,i6 x23),(4,i6 x24),(8,.bool ((decide (x24 < (a0.length:Int)))))],[]⟩ ?_)))))))
  cases hb31:(decide (x24 < (a0.length:Int)))
  ·have h:=ite_f hb31 h
   refine a_cond_f rfl (a_exit (t_exit ?_))
   cases h
   have h:=hX30
   refine t_exit (b_exit ?_)
   exact jl x23 h
  ·have h:=ite_t hb31 h
   refine a_cond_t rfl (a_skip (nj ⟨[(0,eSi64 a0),(3,i6 x23),(4,i6 x24)],[]⟩ (a_seq (a_block (a_region (vr (i6 x23) (vr (eSi64 a0) (vr (i6 x24) ?_))))))))
   obtain ⟨hc32,h⟩:=ifp_some h
   refine vq (.ref (.row 1 (a0.map (AV.int .i64))) [x24.toNat] [x24.toNat*1]) rfl (lmap hc32) ?_
   have hl33:LdOk [x24.toNat] (.row 1 (a0.map (AV.int .i64))) [x24.toNat*1] 1 false (i6 (rd a0 x24.toNat)):=(.row (llt hc32) rfl (.nil rfl rfl rfl))
   refine vq (i6 (rd a0 x24.toNat)) (ld_ref (i:=⟨.int .i64,1,8,(.int .i64 0)⟩) rfl rfl hl33) hl33.c (vr (i6 (IntKind.i64.wrap (x23 + (rd a0 x24.toNat)))) (vr (i6 (IntKind.i64.wrap (x23 + (rd a0 x24.toNat)))) (a_nil (b_norm (nj ⟨[(0,eSi64 a0),(3,i6 (IntKind.i64.wrap (x23 + (rd a0 x24.toNat)))),(4,i6 x24)],[]⟩ (a_region (vr (i6 x24) (vr (i6 (IntKind.i64.wrap (x24 + 1))) (vr (i6 (IntKind.i64.wrap (x24 + 1))) ?_)))))))))
   refine a_nil ?_
   cases h
   exact ag hX30
def impl_MultiplyPolys_L:Live:=[(0,[0,1,2]),(1,[0,4,5,6]),(2,[0,4,5,6,8]),(3,[6,8]),(4,[0,4,5,6]),(100015,[0,4,5,6,8,15])]
noncomputable def impl_MultiplyPolys (a0:Int) (a1:(Vec Int 64)) (a2:(Vec Int 64)):Option ((Vec Int 64)×Int) :=
 (Option.bind (impl_polysCode a0 ([a1,a2])) fun r3=>(if (r3 != 0) then (some (((vrep 64 (0:Int)),r3))) else (Option.bind (impl_rowOf a1) fun r18=>(Option.bind (impl_rowOf a2) fun r21=>(Option.bind (impl_prime_times a0 r18 r21) fun r23=>(Option.bind (impl_told r23) fun r25=>(some (r25.1,r25.2))))))))
theorem impl_MultiplyPolys_ok (a0:Int) (a1:(Vec Int 64)) (a2:(Vec Int 64)) (r:((Vec Int 64)×Int)) (h:impl_MultiplyPolys a0 a1 a2=some r):Den Tryz.prog 21 [(i6 a0),(eVb a1),(eVb a2)] { r:=(.tuple [(eVb r.1),(i6 r.2)]) }:=by
 refine dd (rs:=[(eVb r.1),(i6 r.2)]) (L:=impl_MultiplyPolys_L) good [] Tryz.func21 Tryz.ntmps21 ?_
 refine ns ⟨[(0,i6 a0),(1,eVb a1),(2,eVb a2)],[]⟩ ?_
 refine sr (vo 1400 (eVb a1) rfl rfl (vo 1500 (eVb a2) rfl rfl (vo 1600 (eV0) rfl rfl (vr (i6 0) (nk ⟨[(0,i6 a0),(4,ow 4),(5,ow 5),(6,ow 6)],[(4,bk (eVb a1)),(5,bk (eVb a2)),(6,bk (eV0))]⟩ (a_seq (sr (vr (i6 a0) (vl (eVb a1) rfl rfl rfl rfl rfl rfl ?_)))))))))
 refine vl (eVb a2) rfl rfl rfl rfl rfl rfl (vq (.sl 64 true (([a1,a2]).map eVb)) rfl ⟨(Nat.le_of_ble_eq_true rfl),(Nat.le_of_ble_eq_true rfl),(all_cons ⟨(Nat.le_of_ble_eq_true rfl),rfl⟩ (all_cons ⟨(Nat.le_of_ble_eq_true rfl),rfl⟩ all_nil))⟩ ?_)
 obtain ⟨r3,hr4,h⟩:=bind_some h
 refine a_call (args:=[(i6 a0),(.sl 64 true (([a1,a2]).map eVb))]) (u:=[]) (r:=(i6 r3)) rfl rfl (Den.args (impl_polysCode_ok a0 ([a1,a2]) r3 hr4) rfl rfl (.cons (.refl _) (.cons (.loose _) .nil))) rfl (vr (i6 r3) (nk ⟨[(0,i6 a0),(4,ow 4),(5,ow 5),(6,ow 6),(8,i6 r3)],[(4,bk (eVb a1)),(5,bk (eVb a2)),(6,bk (eV0))]⟩ (sr (vr (i6 r3) (vr (.bool (r3 != 0)) (nk ⟨[(0,i6 a0),(4,ow 4),(5,ow 5),(6,ow 6),(8,i6 r3),(15,.bool (r3 != 0))],[(4,bk (eVb a1)),(5,bk (eVb a2)),(6,bk (eV0))]⟩ ?_))))))
 cases hb5:(r3 != 0)
 ·have h:=ite_f hb5 h
  refine a_cond_f rfl (a_skip (nj ⟨[(0,i6 a0),(4,ow 4),(5,ow 5),(6,ow 6)],[(4,bk (eVb a1)),(5,bk (eVb a2)),(6,bk (eV0))]⟩ (a_seq (a_draw [⟨[],[],[],[]⟩,⟨[4],[],[],[]⟩,⟨[],[],[],[1]⟩,⟨[5],[],[],[]⟩,⟨[],[],[],[1,2,3]⟩,⟨[],[],[],[0,1,2,3,4]⟩,⟨[],[],[],[0,1,2,3,4,5]⟩,⟨[],[],[],[0,1,2,3,4,5,6]⟩,⟨[],[],[],[0,1,2,3,4,5,6]⟩,⟨[6],[6],[],[0,1,2,3,4,5,6,7,8]⟩,⟨[],[],[],[0,1,2,3,4,5,6,7,8,9]⟩] (by kernel_rfl) (dj (i6 a0) rfl (d_cons (vl (eVb a1) rfl rfl rfl rfl rfl rfl (dn (d_cons ?_)))))))))
  obtain ⟨r18,hr19,h⟩:=bind_some h
  refine ca (impl_rowOf_ok a1 r18 hr19) (dn (d_cons (vl (eVb a2) rfl rfl rfl rfl rfl rfl (dn (d_cons ?_)))))
  obtain ⟨r21,hr22,h⟩:=bind_some h
  refine ca (impl_rowOf_ok a2 r21 hr22) (dn (d_cons ?_))
  obtain ⟨r23,hr24,h⟩:=bind_some h
  refine ca (impl_prime_times_ok a0 r18 r21 r23 hr24) (dn (d_cons ?_))
  obtain ⟨r25,hr26,h⟩:=bind_some h
  refine ca (impl_told_ok r23 r25 hr26) (dn (d_cons (vb (eVb r25.1) rfl rfl (dn (d_cons (vb (i6 r25.2) rfl rfl (dn (d_cons (vs (eVb r25.1) rfl rfl (fun _=>rfl) rfl rfl rfl rfl rfl rfl ?_)))))))))
  refine dn (dj (i6 r25.2) rfl (d_nil (a_next rfl (a_ret ?_))))
  have hl28:LdOk [] (eVb r25.1) [] 64 true (eVb r25.1):=(.nil rfl rfl rfl)
  refine ⟨.inr rfl,?_⟩
  rw [Tryz.results21]
  cases h
  exact ⟨_,_,_,_,_,ld_own (i:=⟨.arr 64 5,64,64,(eVb (vrep 64 (0:Int)))⟩) rfl rfl rfl hl28,hl28.c,.inl ⟨rfl,.inl rfl⟩,rfl,⟨_,_,_,_,_,rfl,trivial,.inl ⟨rfl,.inl rfl⟩,rfl,rfl⟩⟩
 ·have h:=ite_t hb5 h
  refine a_cond_t rfl (sr (vq (eV0) rfl ⟨⟨_,rfl,rfl⟩,all_nil⟩ (vr (i6 r3) (vs (eV0) rfl rfl (fun _=>rfl) rfl rfl rfl rfl rfl rfl (vr (i6 r3) (nx _ rfl (a_ret (t_ret ?_))))))))
  have hl30:LdOk [] (eV0) [] 64 true (eV0):=(.nil rfl rfl rfl)
  refine ⟨.inr rfl,?_⟩
  rw [Tryz.results21]
  cases h
  exact ⟨_,_,_,_,_,ld_own (i:=⟨.arr 64 5,64,64,(eVb (vrep 64 (0:Int)))⟩) rfl rfl rfl hl30,hl30.c,.inl ⟨rfl,.inl rfl⟩,rfl,⟨_,_,_,_,_,rfl,trivial,.inl ⟨rfl,.inl rfl⟩,rfl,rfl⟩⟩
def impl_SubtractPolys_L:Live:=[(0,[0,1,2]),(1,[0,4,5,6]),(2,[0,4,5,6,8]),(3,[6,8]),(4,[0,4,5,6]),(100015,[0,4,5,6,8,15])]
noncomputable def impl_SubtractPolys (a0:Int) (a1:(Vec Int 64)) (a2:(Vec Int 64)):Option ((Vec Int 64)×Int) :=
 (Option.bind (impl_polysCode a0 ([a1,a2])) fun r3=>(if (r3 != 0) then (some (((vrep 64 (0:Int)),r3))) else (Option.bind (impl_rowOf a1) fun r18=>(Option.bind (impl_rowOf a2) fun r21=>(Option.bind (impl_prime_combine a0 r18 r21 (-1)) fun r23=>(Option.bind (impl_told r23) fun r25=>(some (r25.1,r25.2))))))))
theorem impl_SubtractPolys_ok (a0:Int) (a1:(Vec Int 64)) (a2:(Vec Int 64)) (r:((Vec Int 64)×Int)) (h:impl_SubtractPolys a0 a1 a2=some r):Den Tryz.prog 22 [(i6 a0),(eVb a1),(eVb a2)] { r:=(.tuple [(eVb r.1),(i6 r.2)]) }:=by
 refine dd (rs:=[(eVb r.1),(i6 r.2)]) (L:=impl_SubtractPolys_L) good [] Tryz.func22 Tryz.ntmps22 ?_
 refine ns ⟨[(0,i6 a0),(1,eVb a1),(2,eVb a2)],[]⟩ ?_
 refine sr (vo 1400 (eVb a1) rfl rfl (vo 1500 (eVb a2) rfl rfl (vo 1600 (eV0) rfl rfl (vr (i6 0) (nk ⟨[(0,i6 a0),(4,ow 4),(5,ow 5),(6,ow 6)],[(4,bk (eVb a1)),(5,bk (eVb a2)),(6,bk (eV0))]⟩ (a_seq (sr (vr (i6 a0) (vl (eVb a1) rfl rfl rfl rfl rfl rfl ?_)))))))))
 refine vl (eVb a2) rfl rfl rfl rfl rfl rfl (vq (.sl 64 true (([a1,a2]).map eVb)) rfl ⟨(Nat.le_of_ble_eq_true rfl),(Nat.le_of_ble_eq_true rfl),(all_cons ⟨(Nat.le_of_ble_eq_true rfl),rfl⟩ (all_cons ⟨(Nat.le_of_ble_eq_true rfl),rfl⟩ all_nil))⟩ ?_)
 obtain ⟨r3,hr4,h⟩:=bind_some h
 refine a_call (args:=[(i6 a0),(.sl 64 true (([a1,a2]).map eVb))]) (u:=[]) (r:=(i6 r3)) rfl rfl (Den.args (impl_polysCode_ok a0 ([a1,a2]) r3 hr4) rfl rfl (.cons (.refl _) (.cons (.loose _) .nil))) rfl (vr (i6 r3) (nk ⟨[(0,i6 a0),(4,ow 4),(5,ow 5),(6,ow 6),(8,i6 r3)],[(4,bk (eVb a1)),(5,bk (eVb a2)),(6,bk (eV0))]⟩ (sr (vr (i6 r3) (vr (.bool (r3 != 0)) (nk ⟨[(0,i6 a0),(4,ow 4),(5,ow 5),(6,ow 6),(8,i6 r3),(15,.bool (r3 != 0))],[(4,bk (eVb a1)),(5,bk (eVb a2)),(6,bk (eV0))]⟩ ?_))))))
 cases hb5:(r3 != 0)
 ·have h:=ite_f hb5 h
  refine a_cond_f rfl (a_skip (nj ⟨[(0,i6 a0),(4,ow 4),(5,ow 5),(6,ow 6)],[(4,bk (eVb a1)),(5,bk (eVb a2)),(6,bk (eV0))]⟩ (a_seq (a_draw [⟨[],[],[],[]⟩,⟨[4],[],[],[]⟩,⟨[],[],[],[1]⟩,⟨[5],[],[],[]⟩,⟨[],[],[],[1,2,3]⟩,⟨[],[],[],[0,1,2,3,4]⟩,⟨[],[],[],[0,1,2,3,4,5]⟩,⟨[],[],[],[0,1,2,3,4,5,6]⟩,⟨[],[],[],[0,1,2,3,4,5,6]⟩,⟨[6],[6],[],[0,1,2,3,4,5,6,7,8]⟩,⟨[],[],[],[0,1,2,3,4,5,6,7,8,9]⟩] (by kernel_rfl) (dj (i6 a0) rfl (d_cons (vl (eVb a1) rfl rfl rfl rfl rfl rfl (dn (d_cons ?_)))))))))
  obtain ⟨r18,hr19,h⟩:=bind_some h
  refine ca (impl_rowOf_ok a1 r18 hr19) (dn (d_cons (vl (eVb a2) rfl rfl rfl rfl rfl rfl (dn (d_cons ?_)))))
  obtain ⟨r21,hr22,h⟩:=bind_some h
  refine ca (impl_rowOf_ok a2 r21 hr22) (dn (d_cons ?_))
  obtain ⟨r23,hr24,h⟩:=bind_some h
  refine ca (impl_prime_combine_ok a0 r18 r21 (-1) r23 hr24) (dn (d_cons ?_))
  obtain ⟨r25,hr26,h⟩:=bind_some h
  refine ca (impl_told_ok r23 r25 hr26) (dn (d_cons (vb (eVb r25.1) rfl rfl (dn (d_cons (vb (i6 r25.2) rfl rfl (dn (d_cons (vs (eVb r25.1) rfl rfl (fun _=>rfl) rfl rfl rfl rfl rfl rfl ?_)))))))))
  refine dn (dj (i6 r25.2) rfl (d_nil (a_next rfl (a_ret ?_))))
  have hl28:LdOk [] (eVb r25.1) [] 64 true (eVb r25.1):=(.nil rfl rfl rfl)
  refine ⟨.inr rfl,?_⟩
  rw [Tryz.results22]
  cases h
  exact ⟨_,_,_,_,_,ld_own (i:=⟨.arr 64 5,64,64,(eVb (vrep 64 (0:Int)))⟩) rfl rfl rfl hl28,hl28.c,.inl ⟨rfl,.inl rfl⟩,rfl,⟨_,_,_,_,_,rfl,trivial,.inl ⟨rfl,.inl rfl⟩,rfl,rfl⟩⟩
 ·have h:=ite_t hb5 h
  refine a_cond_t rfl (sr (vq (eV0) rfl ⟨⟨_,rfl,rfl⟩,all_nil⟩ (vr (i6 r3) (vs (eV0) rfl rfl (fun _=>rfl) rfl rfl rfl rfl rfl rfl (vr (i6 r3) (nx _ rfl (a_ret (t_ret ?_))))))))
  have hl30:LdOk [] (eV0) [] 64 true (eV0):=(.nil rfl rfl rfl)
  refine ⟨.inr rfl,?_⟩
  rw [Tryz.results22]
  cases h
  exact ⟨_,_,_,_,_,ld_own (i:=⟨.arr 64 5,64,64,(eVb (vrep 64 (0:Int)))⟩) rfl rfl rfl hl30,hl30.c,.inl ⟨rfl,.inl rfl⟩,rfl,⟨_,_,_,_,_,rfl,trivial,.inl ⟨rfl,.inl rfl⟩,rfl,rfl⟩⟩
def impl_DegreeOf_L:Live:=[(0,[0,1]),(1,[0,3]),(2,[3,6]),(3,[6]),(4,[3]),(100012,[3,6,12])]
noncomputable def impl_DegreeOf (a0:Int) (a1:(Vec Int 64)):Option (Int×Int) :=
 (Option.bind (impl_polysCode a0 ([a1])) fun r2=>(if (r2 != 0) then (some (0,r2)) else (Option.bind (impl_rowOf a1) fun r6=>(Option.bind (impl_row_degree r6) fun r8=>(some (r8,0))))))
theorem impl_DegreeOf_ok (a0:Int) (a1:(Vec Int 64)) (r:(Int×Int)) (h:impl_DegreeOf a0 a1=some r):Den Tryz.prog 23 [(i6 a0),(eVb a1)] { r:=(.tuple [(i6 r.1),(i6 r.2)]) }:=by
 refine dd (rs:=[(i6 r.1),(i6 r.2)]) (L:=impl_DegreeOf_L) good [] Tryz.func23 Tryz.ntmps23 ?_
 refine ns ⟨[(0,i6 a0),(1,eVb a1)],[]⟩ ?_
 refine sr (vo 1300 (eVb a1) rfl rfl (vr (i6 0) (vr (i6 0) (nk ⟨[(0,i6 a0),(3,ow 3)],[(3,bk (eVb a1))]⟩ (a_seq (sr (vr (i6 a0) (vl (eVb a1) rfl rfl rfl rfl rfl rfl (vq (.sl 64 true (([a1]).map eVb)) rfl ⟨(Nat.le_of_ble_eq_true rfl),(Nat.le_of_ble_eq_true rfl),(all_cons ⟨(Nat.le_of_ble_eq_true rfl),rfl⟩ all_nil)⟩ ?_)))))))))
 obtain ⟨r2,hr3,h⟩:=bind_some h
 refine a_call (args:=[(i6 a0),(.sl 64 true (([a1]).map eVb))]) (u:=[]) (r:=(i6 r2)) rfl rfl (Den.args (impl_polysCode_ok a0 ([a1]) r2 hr3) rfl rfl (.cons (.refl _) (.cons (.loose _) .nil))) rfl (vr (i6 r2) (nk ⟨[(3,ow 3),(6,i6 r2)],[(3,bk (eVb a1))]⟩ (sr (vr (i6 r2) (vr (.bool (r2 != 0)) (nk ⟨[(3,ow 3),(6,i6 r2),(12,.bool (r2 != 0))],[(3,bk (eVb a1))]⟩ ?_))))))
 cases hb4:(r2 != 0)
 ·have h:=ite_f hb4 h
  refine a_cond_f rfl (a_skip (nj ⟨[(3,ow 3)],[(3,bk (eVb a1))]⟩ (sr (vl (eVb a1) rfl rfl rfl rfl rfl rfl ?_))))
  obtain ⟨r6,hr7,h⟩:=bind_some h
  refine ca (impl_rowOf_ok a1 r6 hr7) ?_
  obtain ⟨r8,hr9,h⟩:=bind_some h
  refine ca (impl_row_degree_ok r6 r8 hr9) (vr (i6 r8) (vr (i6 0) (nx _ rfl (a_ret ?_))))
  refine ⟨.inr rfl,?_⟩
  rw [Tryz.results23]
  cases h
  exact ⟨_,_,_,_,_,rfl,trivial,.inl ⟨rfl,.inl rfl⟩,rfl,⟨_,_,_,_,_,rfl,trivial,.inl ⟨rfl,.inl rfl⟩,rfl,rfl⟩⟩
 ·have h:=ite_t hb4 h
  refine a_cond_t rfl (sr (vr (i6 r2) (vr (i6 0) (vr (i6 r2) (nx _ rfl (a_ret (t_ret ?_)))))))
  refine ⟨.inr rfl,?_⟩
  rw [Tryz.results23]
  cases h
  exact ⟨_,_,_,_,_,rfl,trivial,.inl ⟨rfl,.inl rfl⟩,rfl,⟨_,_,_,_,_,rfl,trivial,.inl ⟨rfl,.inl rfl⟩,rfl,rfl⟩⟩
def impl_AddPolys_L:Live:=[(0,[0,1,2]),(1,[0,4,5,6]),(2,[0,4,5,6,8]),(3,[6,8]),(4,[0,4,5,6]),(100015,[0,4,5,6,8,15])]
noncomputable def impl_AddPolys (a0:Int) (a1:(Vec Int 64)) (a2:(Vec Int 64)):Option ((Vec Int 64)×Int) :=
 (Option.bind (impl_polysCode a0 ([a1,a2])) fun r3=>(if (r3 != 0) then (some (((vrep 64 (0:Int)),r3))) else (Option.bind (impl_rowOf a1) fun r18=>(Option.bind (impl_rowOf a2) fun r21=>(Option.bind (impl_prime_combine a0 r18 r21 1) fun r23=>(Option.bind (impl_told r23) fun r25=>(some (r25.1,r25.2))))))))
theorem impl_AddPolys_ok (a0:Int) (a1:(Vec Int 64)) (a2:(Vec Int 64)) (r:((Vec Int 64)×Int)) (h:impl_AddPolys a0 a1 a2=some r):Den Tryz.prog 24 [(i6 a0),(eVb a1),(eVb a2)] { r:=(.tuple [(eVb r.1),(i6 r.2)]) }:=by
 refine dd (rs:=[(eVb r.1),(i6 r.2)]) (L:=impl_AddPolys_L) good [] Tryz.func24 Tryz.ntmps24 ?_
 refine ns ⟨[(0,i6 a0),(1,eVb a1),(2,eVb a2)],[]⟩ ?_
 refine sr (vo 1400 (eVb a1) rfl rfl (vo 1500 (eVb a2) rfl rfl (vo 1600 (eV0) rfl rfl (vr (i6 0) (nk ⟨[(0,i6 a0),(4,ow 4),(5,ow 5),(6,ow 6)],[(4,bk (eVb a1)),(5,bk (eVb a2)),(6,bk (eV0))]⟩ (a_seq (sr (vr (i6 a0) (vl (eVb a1) rfl rfl rfl rfl rfl rfl ?_)))))))))
 refine vl (eVb a2) rfl rfl rfl rfl rfl rfl (vq (.sl 64 true (([a1,a2]).map eVb)) rfl ⟨(Nat.le_of_ble_eq_true rfl),(Nat.le_of_ble_eq_true rfl),(all_cons ⟨(Nat.le_of_ble_eq_true rfl),rfl⟩ (all_cons ⟨(Nat.le_of_ble_eq_true rfl),rfl⟩ all_nil))⟩ ?_)
 obtain ⟨r3,hr4,h⟩:=bind_some h
 refine a_call (args:=[(i6 a0),(.sl 64 true (([a1,a2]).map eVb))]) (u:=[]) (r:=(i6 r3)) rfl rfl (Den.args (impl_polysCode_ok a0 ([a1,a2]) r3 hr4) rfl rfl (.cons (.refl _) (.cons (.loose _) .nil))) rfl (vr (i6 r3) (nk ⟨[(0,i6 a0),(4,ow 4),(5,ow 5),(6,ow 6),(8,i6 r3)],[(4,bk (eVb a1)),(5,bk (eVb a2)),(6,bk (eV0))]⟩ (sr (vr (i6 r3) (vr (.bool (r3 != 0)) (nk ⟨[(0,i6 a0),(4,ow 4),(5,ow 5),(6,ow 6),(8,i6 r3),(15,.bool (r3 != 0))],[(4,bk (eVb a1)),(5,bk (eVb a2)),(6,bk (eV0))]⟩ ?_))))))
 cases hb5:(r3 != 0)
 ·have h:=ite_f hb5 h
  refine a_cond_f rfl (a_skip (nj ⟨[(0,i6 a0),(4,ow 4),(5,ow 5),(6,ow 6)],[(4,bk (eVb a1)),(5,bk (eVb a2)),(6,bk (eV0))]⟩ (a_seq (a_draw [⟨[],[],[],[]⟩,⟨[4],[],[],[]⟩,⟨[],[],[],[1]⟩,⟨[5],[],[],[]⟩,⟨[],[],[],[1,2,3]⟩,⟨[],[],[],[0,1,2,3,4]⟩,⟨[],[],[],[0,1,2,3,4,5]⟩,⟨[],[],[],[0,1,2,3,4,5,6]⟩,⟨[],[],[],[0,1,2,3,4,5,6]⟩,⟨[6],[6],[],[0,1,2,3,4,5,6,7,8]⟩,⟨[],[],[],[0,1,2,3,4,5,6,7,8,9]⟩] (by kernel_rfl) (dj (i6 a0) rfl (d_cons (vl (eVb a1) rfl rfl rfl rfl rfl rfl (dn (d_cons ?_)))))))))
  obtain ⟨r18,hr19,h⟩:=bind_some h
  refine ca (impl_rowOf_ok a1 r18 hr19) (dn (d_cons (vl (eVb a2) rfl rfl rfl rfl rfl rfl (dn (d_cons ?_)))))
  obtain ⟨r21,hr22,h⟩:=bind_some h
  refine ca (impl_rowOf_ok a2 r21 hr22) (dn (d_cons ?_))
  obtain ⟨r23,hr24,h⟩:=bind_some h
  refine ca (impl_prime_combine_ok a0 r18 r21 1 r23 hr24) (dn (d_cons ?_))
  obtain ⟨r25,hr26,h⟩:=bind_some h
  refine ca (impl_told_ok r23 r25 hr26) (dn (d_cons (vb (eVb r25.1) rfl rfl (dn (d_cons (vb (i6 r25.2) rfl rfl (dn (d_cons (vs (eVb r25.1) rfl rfl (fun _=>rfl) rfl rfl rfl rfl rfl rfl ?_)))))))))
  refine dn (dj (i6 r25.2) rfl (d_nil (a_next rfl (a_ret ?_))))
  have hl28:LdOk [] (eVb r25.1) [] 64 true (eVb r25.1):=(.nil rfl rfl rfl)
  refine ⟨.inr rfl,?_⟩
  rw [Tryz.results24]
  cases h
  exact ⟨_,_,_,_,_,ld_own (i:=⟨.arr 64 5,64,64,(eVb (vrep 64 (0:Int)))⟩) rfl rfl rfl hl28,hl28.c,.inl ⟨rfl,.inl rfl⟩,rfl,⟨_,_,_,_,_,rfl,trivial,.inl ⟨rfl,.inl rfl⟩,rfl,rfl⟩⟩
 ·have h:=ite_t hb5 h
  refine a_cond_t rfl (sr (vq (eV0) rfl ⟨⟨_,rfl,rfl⟩,all_nil⟩ (vr (i6 r3) (vs (eV0) rfl rfl (fun _=>rfl) rfl rfl rfl rfl rfl rfl (vr (i6 r3) (nx _ rfl (a_ret (t_ret ?_))))))))
  have hl30:LdOk [] (eV0) [] 64 true (eV0):=(.nil rfl rfl rfl)
  refine ⟨.inr rfl,?_⟩
  rw [Tryz.results24]
  cases h
  exact ⟨_,_,_,_,_,ld_own (i:=⟨.arr 64 5,64,64,(eVb (vrep 64 (0:Int)))⟩) rfl rfl rfl hl30,hl30.c,.inl ⟨rfl,.inl rfl⟩,rfl,⟨_,_,_,_,_,rfl,trivial,.inl ⟨rfl,.inl rfl⟩,rfl,rfl⟩⟩
end Go.Proofs.YtkbnegemdlnncaaGreat
