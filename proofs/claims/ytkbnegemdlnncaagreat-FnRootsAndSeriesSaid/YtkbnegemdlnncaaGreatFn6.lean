/- Functions of the program: plain Lean functions, and that the program computes them. Printed by gen.py. -/
import Derived.Test.YtkbnegemdlnncaaGreatFnT
import Derived.Test.YtkbnegemdlnncaaGreatFn1
import Derived.Test.YtkbnegemdlnncaaGreatFn2
import Derived.Test.YtkbnegemdlnncaaGreatFn3
import Derived.Test.YtkbnegemdlnncaaGreatFn4
import Derived.Test.YtkbnegemdlnncaaGreatFn5
namespace Go.Proofs.YtkbnegemdlnncaaGreat
open Go.Abs Go.Proofs
set_option linter.unusedSimpArgs false
set_option linter.unusedVariables false
set_option maxHeartbeats 16000000
attribute [local irreducible] Abs.acode Abs.aops Abs.aopsT Abs.thenK Abs.blockK

def impl_prime_bezout_L:Live:=[(0,[0,1,2]),(1,[0,1,2]),(2,[0,1,2,9,10]),(3,[0,1,2,9,10,11,12]),(4,[0,1,2,9,10,11,12]),(5,[0,2,9,10,11,12,13,14]),(6,[0,1,2,9,10,11,12,13]),(7,[0,1,2,9,10,11,12,13]),(8,[0,1,9,10]),(9,[0,1,9,10,15]),(100020,[0,1,2,9,10,11,12,20])]
noncomputable def impl_prime_bezout_l1 (a0:Int) (x61:(List Int)) (x62:(List Int)) (x63:(List Int)) (x64:(List Int)) (x65:(List Int)) (x66:(List Int)):Option (((List Int)×(List Int)×(List Int)×(List Int)×(List Int)×(List Int))⊕((List Int)×(List Int)×(List Int))) :=
 (if (decide ((x62.length:Int) > 0)) then (Option.bind (impl_prime_divide a0 x61 x62) fun r82=>(Option.bind (impl_prime_times a0 r82.1 x65) fun r84=>(Option.bind (impl_prime_combine a0 x63 r84 (-1)) fun r86=>(Option.bind (impl_prime_times a0 r82.1 x66) fun r88=>(Option.bind (impl_prime_combine a0 x64 r88 (-1)) fun r90=>(some (.inl (x62,r82.2,x65,x66,r86,r90)))))))) else (some (.inr (x61,x63,x64))))
noncomputable def impl_prime_bezout (a0:Int) (a1:(List Int)) (a2:(List Int)):Option ((List Int)×(List Int)×(List Int)) :=
 (Option.bind (α:=((List Int)×(List Int)×(List Int))) ((loopM (fun s:((List Int)×(List Int)×(List Int)×(List Int)×(List Int)×(List Int))=>impl_prime_bezout_l1 a0 s.1 s.2.1 s.2.2.1 s.2.2.2.1 s.2.2.2.2.1 s.2.2.2.2.2) (a1,a2,[1],[],[],[1]))) fun ⟨x44,x45,x46⟩=>(Option.bind (impl_row_lead x44) fun r93=>(Option.bind (impl_prime_inverse a0 r93) fun r95=>(Option.bind (impl_prime_scale a0 x44 r95) fun r97=>(Option.bind (impl_prime_scale a0 x45 r95) fun r99=>(Option.bind (impl_prime_scale a0 x46 r95) fun r101=>(some (r97,r99,r101))))))))
theorem impl_prime_bezout_ok (a0:Int) (a1:(List Int)) (a2:(List Int)) (r:((List Int)×(List Int)×(List Int))) (h:impl_prime_bezout a0 a1 a2=some r):Den Tryz.prog 142 [(i6 a0),(eSi64 a1),(eSi64 a2)] { r:=(.tuple [(eSi64 r.1),(eSi64 r.2.1),(eSi64 r.2.2)]) }:=by
 refine dd (rs:=[(eSi64 r.1),(eSi64 r.2.1),(eSi64 r.2.2)]) (L:=impl_prime_bezout_L) good [(1,1),(2,1),(6,1),(7,1),(8,1),(9,1),(10,1),(11,1),(12,1),(13,1),(14,1)] Tryz.func142 Tryz.ntmps142 ?_
 refine ns ⟨[(0,i6 a0),(1,eSi64 a1),(2,eSi64 a2)],[]⟩ ?_
 refine sr (vr (eSi64 ([])) (vr (eSi64 ([])) (vr (eSi64 ([])) (nk ⟨[(0,i6 a0),(1,eSi64 a1),(2,eSi64 a2)],[]⟩ (sr (vq (.sl 1 true (([1]).map (AV.int .i64))) rfl ⟨(Nat.le_of_ble_eq_true rfl),(Nat.le_of_ble_eq_true rfl),(all_cons ⟨(Nat.le_of_ble_eq_true rfl),rfl⟩ all_nil)⟩ (vq (eSi64 ([1])) (asg_tight (i:=⟨.int .i64,1,8,(.int .i64 0)⟩) (f:=(AV.int .i64)) (l:=[1]) rfl rfl rfl) trivial (vr (eSi64 ([])) (nk ⟨[(0,i6 a0),(1,eSi64 a1),(2,eSi64 a2),(9,eSi64 ([1])),(10,eSi64 ([]))],[]⟩ ?_)))))))))
 refine sr (vq (.sl 1 true (([1]).map (AV.int .i64))) rfl ⟨(Nat.le_of_ble_eq_true rfl),(Nat.le_of_ble_eq_true rfl),(all_cons ⟨(Nat.le_of_ble_eq_true rfl),rfl⟩ all_nil)⟩ (vr (eSi64 ([])) (vq (eSi64 ([1])) (asg_tight (i:=⟨.int .i64,1,8,(.int .i64 0)⟩) (f:=(AV.int .i64)) (l:=[1]) rfl rfl rfl) trivial (nk ⟨[(0,i6 a0),(1,eSi64 a1),(2,eSi64 a2),(9,eSi64 ([1])),(10,eSi64 ([])),(11,eSi64 ([])),(12,eSi64 ([1]))],[]⟩ ?_))))
 obtain ⟨y47,hy48,hk49⟩:=bind_some h
 clear h
 refine a_join (emb:=fun (s:((List Int)×(List Int)×(List Int)))=>⟨[(0,i6 a0),(1,eSi64 s.1),(9,eSi64 s.2.1),(10,eSi64 s.2.2)],[]⟩) (pre:=fun s=>s=y47) ?_ ?_
 ·rintro ⟨x44,x45,x46⟩ rfl
  have h:=hk49
  refine ns ⟨[(0,i6 a0),(1,eSi64 x44),(9,eSi64 x45),(10,eSi64 x46)],[]⟩ (sr (vr (i6 a0) (vr (eSi64 x44) ?_)))
  obtain ⟨r93,hr94,h⟩:=bind_some h
  refine ca (impl_row_lead_ok x44 r93 hr94) ?_
  obtain ⟨r95,hr96,h⟩:=bind_some h
  refine ca (impl_prime_inverse_ok a0 r93 r95 hr96) (vr (i6 r95) (nk ⟨[(0,i6 a0),(1,eSi64 x44),(9,eSi64 x45),(10,eSi64 x46),(15,i6 r95)],[]⟩ (sr (vr (i6 a0) (vr (eSi64 x44) (vr (i6 r95) ?_))))))
  obtain ⟨r97,hr98,h⟩:=bind_some h
  refine ca (impl_prime_scale_ok a0 x44 r95 r97 hr98) (vr (i6 a0) (vr (eSi64 x45) (vr (i6 r95) ?_)))
  obtain ⟨r99,hr100,h⟩:=bind_some h
  refine ca (impl_prime_scale_ok a0 x45 r95 r99 hr100) (vr (i6 a0) (vr (eSi64 x46) (vr (i6 r95) ?_)))
  obtain ⟨r101,hr102,h⟩:=bind_some h
  refine ca (impl_prime_scale_ok a0 x46 r95 r101 hr102) (vr (eSi64 r97) (vr (eSi64 r99) (vr (eSi64 r101) (nx _ rfl (a_ret ?_)))))
  refine ⟨.inr rfl,?_⟩
  rw [Tryz.results142]
  cases h
  exact ⟨_,_,_,_,_,rfl,trivial,.inl ⟨rfl,.inl rfl⟩,rfl,⟨_,_,_,_,_,rfl,trivial,.inl ⟨rfl,.inl rfl⟩,rfl,⟨_,_,_,_,_,rfl,trivial,.inl ⟨rfl,.inl rfl⟩,rfl,rfl⟩⟩⟩
 ·have h:=hy48
  refine a_block ?_
  refine a_loop (emb:=fun (s:((List Int)×(List Int)×(List Int)×(List Int)×(List Int)×(List Int)))=>⟨[(0,i6 a0),(1,eSi64 s.1),(2,eSi64 s.2.1),(9,eSi64 s.2.2.1),(10,eSi64 s.2.2.2.1),(11,eSi64 s.2.2.2.2.1),(12,eSi64 s.2.2.2.2.2)],[]⟩) (body:=(fun s:((List Int)×(List Int)×(List Int)×(List Int)×(List Int)×(List Int))=>impl_prime_bezout_l1 a0 s.1 s.2.1 s.2.2.1 s.2.2.2.1 s.2.2.2.2.1 s.2.2.2.2.2)) (G:=fun q=>some q=some y47) h rfl ?_ (by kernel_rfl)
  rintro X78 ⟨x61,x62,x63,x64,x65,x66⟩ x79 h hX80
  have h:impl_prime_bezout_l1 a0 x61 x62 x63 x64 x65 x66=some x79:=h
  refine ns ⟨[(0,i6 a0),(1,eSi64 x61),(2,eSi64 x62),(9,eSi64 x63),(10,eSi64 x64),(11,eSi64 x65),(12,eSi64 x66)],[]⟩ (a_seq (sr (vr (eSi64 x62) (vq (i6 (x62.length:Int)) (len_run rfl rfl) trivial (vr (.bool ((decide ((x62.length:Int) > 0)))) (nk ⟨[(0,i6 a0),(1,eSi64 x61),(2,eSi64 x62),(9,eSi64 x63),(10,eSi64 x64),(11,eSi64 x65),(12,eSi64 x66),(20,.bool ((decide ((x62.length:Int) > 0))))],[]⟩ ?_))))))
  cases hb81:(decide ((x62.length:Int) > 0))
  ·have h:=ite_f hb81 h
   refine a_cond_f rfl (a_exit (t_exit ?_))
   cases h
   have h:=hX80
   refine t_exit (b_exit ?_)
   exact jl (x61,x63,x64) h
  ·have h:=ite_t hb81 h
   refine a_cond_t rfl (a_skip (nj ⟨[(0,i6 a0),(1,eSi64 x61),(2,eSi64 x62),(9,eSi64 x63),(10,eSi64 x64),(11,eSi64 x65),(12,eSi64 x66)],[]⟩ (a_block (sr (vr (i6 a0) (vr (eSi64 x61) (vr (eSi64 x62) ?_)))))))
   obtain ⟨r82,hr83,h⟩:=bind_some h
   refine ca (impl_prime_divide_ok a0 x61 x62 r82 hr83) (vr (.tuple [(eSi64 r82.1),(eSi64 r82.2)]) (vb (eSi64 r82.1) rfl rfl (vb (eSi64 r82.2) rfl rfl (vr (eSi64 r82.1) (vr (eSi64 r82.2) (nk ⟨[(0,i6 a0),(2,eSi64 x62),(9,eSi64 x63),(10,eSi64 x64),(11,eSi64 x65),(12,eSi64 x66),(13,eSi64 r82.1),(14,eSi64 r82.2)],[]⟩ (sr (vr (eSi64 x62) (vr (eSi64 r82.2) ?_)))))))))
   refine vr (eSi64 x62) (vr (eSi64 r82.2) (nk ⟨[(0,i6 a0),(1,eSi64 x62),(2,eSi64 r82.2),(9,eSi64 x63),(10,eSi64 x64),(11,eSi64 x65),(12,eSi64 x66),(13,eSi64 r82.1)],[]⟩ (sr (vr (eSi64 x65) (vr (i6 a0) (vr (eSi64 x63) (vr (i6 a0) (vr (eSi64 r82.1) (vr (eSi64 x65) ?_)))))))))
   obtain ⟨r84,hr85,h⟩:=bind_some h
   refine ca (impl_prime_times_ok a0 r82.1 x65 r84 hr85) ?_
   obtain ⟨r86,hr87,h⟩:=bind_some h
   refine ca (impl_prime_combine_ok a0 x63 r84 (-1) r86 hr87) (vr (eSi64 x65) (vr (eSi64 r86) (nk ⟨[(0,i6 a0),(1,eSi64 x62),(2,eSi64 r82.2),(9,eSi64 x65),(10,eSi64 x64),(11,eSi64 r86),(12,eSi64 x66),(13,eSi64 r82.1)],[]⟩ (a_region (vr (eSi64 x66) (vr (i6 a0) (vr (eSi64 x64) (vr (i6 a0) (vr (eSi64 r82.1) ?_)))))))))
   refine vr (eSi64 x66) ?_
   obtain ⟨r88,hr89,h⟩:=bind_some h
   refine ca (impl_prime_times_ok a0 r82.1 x66 r88 hr89) ?_
   obtain ⟨r90,hr91,h⟩:=bind_some h
   refine ca (impl_prime_combine_ok a0 x64 r88 (-1) r90 hr91) (vr (eSi64 x66) (vr (eSi64 r90) (a_nil (b_norm ?_))))
   cases h
   exact ag hX80
def impl_prime_gcd_L:Live:=[(0,[0,1,2]),(1,[0,1,2]),(2,[7])]
noncomputable def impl_prime_gcd (a0:Int) (a1:(List Int)) (a2:(List Int)):Option (List Int) :=
 (Option.bind (impl_prime_bezout a0 a1 a2) fun r1=>(some r1.1))
theorem impl_prime_gcd_ok (a0:Int) (a1:(List Int)) (a2:(List Int)) (r:(List Int)) (h:impl_prime_gcd a0 a1 a2=some r):Den Tryz.prog 105 [(i6 a0),(eSi64 a1),(eSi64 a2)] { r:=(eSi64 r) }:=by
 refine dd (rs:=[(eSi64 r)]) (L:=impl_prime_gcd_L) good [(6,1),(7,1),(8,1),(9,1)] Tryz.func105 Tryz.ntmps105 ?_
 refine ns ⟨[(0,i6 a0),(1,eSi64 a1),(2,eSi64 a2)],[]⟩ ?_
 refine sr (vr (eSi64 ([])) (nk ⟨[(0,i6 a0),(1,eSi64 a1),(2,eSi64 a2)],[]⟩ (sr (vr (i6 a0) (vr (eSi64 a1) (vr (eSi64 a2) ?_))))))
 obtain ⟨r1,hr2,h⟩:=bind_some h
 refine ca (impl_prime_bezout_ok a0 a1 a2 r1 hr2) (vr (.tuple [(eSi64 r1.1),(eSi64 r1.2.1),(eSi64 r1.2.2)]) (vb (eSi64 r1.1) rfl rfl (vb (eSi64 r1.2.1) rfl rfl (vb (eSi64 r1.2.2) rfl rfl (vr (eSi64 r1.1) (vr (eSi64 r1.2.1) (vr (eSi64 r1.2.2) (nk ⟨[(7,eSi64 r1.1)],[]⟩ (sr ?_)))))))))
 refine vr (eSi64 r1.1) (vr (eSi64 r1.1) (nx _ rfl (a_ret ?_)))
 refine ⟨.inr rfl,?_⟩
 rw [Tryz.results105]
 cases h
 exact ⟨_,_,_,_,_,rfl,trivial,.inl ⟨rfl,.inl rfl⟩,rfl,rfl⟩
def impl_cut_sum_of_s_impl_prime_first_L:Live:=[(0,[0,1]),(1,[1,2,4,5]),(2,[1,2,4,5,7,8]),(3,[4,5]),(4,[1,2,4,5,7]),(5,[1,2,4,5,7,9]),(6,[1,2,4,5,7,9,10]),(7,[1,2,4,5,7,9,10,26,27]),(8,[1,2,4,5,7,9,10,26,27]),(9,[1,2,4,5,7,9,10,11,26,27]),(10,[1,2,4,5,7,9,10,12,13,26,27]),(11,[4,5]),(12,[1,2,4,5,7,9,10,12,26,27]),(13,[1,2,4,5,7,9,10,26,27]),(14,[1,2,4,5,7,9,10,26,27]),(15,[2,4,5,7,9]),(16,[2,4,5,7,9,14]),(17,[2,4,5,7,9,14]),(18,[2,4,5,7,9]),(19,[2,4,5,7,9,15]),(100022,[1,2,4,5,7,22]),(100028,[1,2,4,5,7,9,10,26,27,28]),(100037,[1,2,4,5,7,9,10,12,26,27,37])]
noncomputable def impl_cut_sum_of_s_impl_prime_first_l1 (a0s3:Int) (a0s0:Int) (a0s1:(List Int)) (a0s2:(List Int)) (a0s4f0:Int) (a1:Int) (x58:(List Int)) (x59:Int) (x60:Int):Option (((List Int)×Int×Int)⊕((List Int)⊕((Vec Int 64)×(Vec Int 64)×Int))) :=
 (if (decide (x60 < a0s3)) then (Option.bind (impl_cut_summand_of_s_impl_prime_first a0s0 a0s1 a0s2 a0s3 a0s4f0 x60) fun r76=>(if (!r76.2) then (some (.inr ((.inr (((vrep 64 (0:Int)),(vrep 64 (0:Int)),3)))))) else (Option.bind (impl_prime_combine a0s0 x58 r76.1 x59) fun r80=>(some (.inl ((r80,IntKind.i64.wrap (x59*a1),IntKind.i64.wrap (x60 + 1)))))))) else (some (.inr (.inl x58))))
noncomputable def impl_cut_sum_of_s_impl_prime_first (a0s0:Int) (a0s1:(List Int)) (a0s2:(List Int)) (a0s3:Int) (a0s4f0:Int) (a1:Int):Option ((Vec Int 64)×(Vec Int 64)×Int) :=
 (Option.bind (impl_cut_bottom_of_s_impl_prime_first a0s0 a0s1 a0s2 a0s3 a0s4f0) fun r2=>(if (!r2.2) then (some (((vrep 64 (0:Int)),(vrep 64 (0:Int)),3))) else (Option.bind (α:=((List Int)⊕((Vec Int 64)×(Vec Int 64)×Int))) ((loopM (fun s:((List Int)×Int×Int)=>impl_cut_sum_of_s_impl_prime_first_l1 a0s3 a0s0 a0s1 a0s2 a0s4f0 a1 s.1 s.2.1 s.2.2) ([],1,0))) fun z=>match z with | .inl x43=>(Option.bind (impl_prime_gcd a0s0 x43 r2.1) fun r88=>(Option.bind (impl_prime_divide a0s0 x43 r88) fun r91=>(Option.bind (impl_prime_divide a0s0 r2.1 r88) fun r94=>(Option.bind (impl_row_lead r94.1) fun r102=>(Option.bind (impl_prime_inverse a0s0 r102) fun r104=>(Option.bind (impl_prime_scale a0s0 r91.1 r104) fun r119=>(Option.bind (impl_row_poly r119) fun r121=>(Option.bind (impl_prime_scale a0s0 r94.1 r104) fun r124=>(Option.bind (impl_row_poly r124) fun r126=>(some (r121,r126,0))))))))))) | .inr r132=>(some r132))))
theorem impl_cut_sum_of_s_impl_prime_first_ok (a0s0:Int) (a0s1:(List Int)) (a0s2:(List Int)) (a0s3:Int) (a0s4f0:Int) (a1:Int) (r:((Vec Int 64)×(Vec Int 64)×Int)) (h:impl_cut_sum_of_s_impl_prime_first a0s0 a0s1 a0s2 a0s3 a0s4f0 a1=some r):Den Tryz.prog 69 [(.struct [1,1,1,1,1] [(i6 a0s0),(eSi64 a0s1),(eSi64 a0s2),(i6 a0s3),(.clo 68 [(i6 a0s4f0)] [])]),(i6 a1)] { r:=(.tuple [(eVb r.1),(eVb r.2.1),(i6 r.2.2)]) }:=by
 refine dd (rs:=[(eVb r.1),(eVb r.2.1),(i6 r.2.2)]) (L:=impl_cut_sum_of_s_impl_prime_first_L) good [(7,1),(9,1),(12,1),(14,1)] Tryz.func69 Tryz.ntmps69 ?_
 refine ns ⟨[(0,.struct [1,1,1,1,1] [(i6 a0s0),(eSi64 a0s1),(eSi64 a0s2),(i6 a0s3),(.clo 68 [(i6 a0s4f0)] [])]),(1,i6 a1)],[]⟩ ?_
 refine sr (vo 1200 (.struct [1,1,1,1,1] [(i6 a0s0),(eSi64 a0s1),(eSi64 a0s2),(i6 a0s3),(.clo 68 [(i6 a0s4f0)] [])]) rfl rfl (vo 1400 (eV0) rfl rfl (vo 1500 (eV0) rfl rfl (vr (i6 0) (nk ⟨[(1,i6 a1),(2,ow 2),(4,ow 4),(5,ow 5)],[(2,bk (.struct [1,1,1,1,1] [(i6 a0s0),(eSi64 a0s1),(eSi64 a0s2),(i6 a0s3),(.clo 68 [(i6 a0s4f0)] [])])),(4,bk (eV0)),(5,bk (eV0))]⟩ (sr (vl (.struct [1,1,1,1,1] [(i6 a0s0),(eSi64 a0s1),(eSi64 a0s2),(i6 a0s3),(.clo 68 [(i6 a0s4f0)] [])]) rfl rfl rfl rfl rfl rfl ?_)))))))
 obtain ⟨r2,hr3,h⟩:=bind_some h
 refine ca (impl_cut_bottom_of_s_impl_prime_first_ok a0s0 a0s1 a0s2 a0s3 a0s4f0 r2 hr3) (vr (.tuple [(eSi64 r2.1),(.bool r2.2)]) (vb (eSi64 r2.1) rfl rfl (vb (.bool r2.2) rfl rfl (vr (eSi64 r2.1) (vr (.bool r2.2) (nk ⟨[(1,i6 a1),(2,ow 2),(4,ow 4),(5,ow 5),(7,eSi64 r2.1),(8,.bool r2.2)],[(2,bk (.struct [1,1,1,1,1] [(i6 a0s0),(eSi64 a0s1),(eSi64 a0s2),(i6 a0s3),(.clo 68 [(i6 a0s4f0)] [])])),(4,bk (eV0)),(5,bk (eV0))]⟩ (a_seq (sr (vr (.bool r2.2) ?_)))))))))
 refine vr (.bool (!r2.2)) (nk ⟨[(1,i6 a1),(2,ow 2),(4,ow 4),(5,ow 5),(7,eSi64 r2.1),(22,.bool (!r2.2))],[(2,bk (.struct [1,1,1,1,1] [(i6 a0s0),(eSi64 a0s1),(eSi64 a0s2),(i6 a0s3),(.clo 68 [(i6 a0s4f0)] [])])),(4,bk (eV0)),(5,bk (eV0))]⟩ ?_)
 cases hb4:(!r2.2)
 ·have h:=ite_f hb4 h
  refine a_cond_f rfl (a_skip (nj ⟨[(1,i6 a1),(2,ow 2),(4,ow 4),(5,ow 5),(7,eSi64 r2.1)],[(2,bk (.struct [1,1,1,1,1] [(i6 a0s0),(eSi64 a0s1),(eSi64 a0s2),(i6 a0s3),(.clo 68 [(i6 a0s4f0)] [])])),(4,bk (eV0)),(5,bk (eV0))]⟩ (sr (vr (eSi64 ([])) (nk ⟨[(1,i6 a1),(2,ow 2),(4,ow 4),(5,ow 5),(7,eSi64 r2.1),(9,eSi64 ([]))],[(2,bk (.struct [1,1,1,1,1] [(i6 a0s0),(eSi64 a0s1),(eSi64 a0s2),(i6 a0s3),(.clo 68 [(i6 a0s4f0)] [])])),(4,bk (eV0)),(5,bk (eV0))]⟩ (sr (vr (i6 1) (nk ⟨[(1,i6 a1),(2,ow 2),(4,ow 4),(5,ow 5),(7,eSi64 r2.1),(9,eSi64 ([])),(10,i6 1)],[(2,bk (.struct [1,1,1,1,1] [(i6 a0s0),(eSi64 a0s1),(eSi64 a0s2),(i6 a0s3),(.clo 68 [(i6 a0s4f0)] [])])),(4,bk (eV0)),(5,bk (eV0))]⟩ ?_))))))))
  obtain ⟨y44,hy45,hk46⟩:=bind_some h
  clear h
  refine a_join (emb:=fun (s:(List Int))=>⟨[(2,ow 2),(4,ow 4),(5,ow 5),(7,eSi64 r2.1),(9,eSi64 s)],[(2,bk (.struct [1,1,1,1,1] [(i6 a0s0),(eSi64 a0s1),(eSi64 a0s2),(i6 a0s3),(.clo 68 [(i6 a0s4f0)] [])])),(4,bk (eV0)),(5,bk (eV0))]⟩) (pre:=fun s=>(.inl s)=y44) ?_ ?_
  ·rintro x43 rfl
   have h:=hk46
   refine ns ⟨[(2,ow 2),(4,ow 4),(5,ow 5),(7,eSi64 r2.1),(9,eSi64 x43)],[(2,bk (.struct [1,1,1,1,1] [(i6 a0s0),(eSi64 a0s1),(eSi64 a0s2),(i6 a0s3),(.clo 68 [(i6 a0s4f0)] [])])),(4,bk (eV0)),(5,bk (eV0))]⟩ (sr (vb (.own 2 [0] [0]) rfl rfl ?_))
   have hl87:LdOk [0] (.struct [1,1,1,1,1] [(i6 a0s0),(eSi64 a0s1),(eSi64 a0s2),(i6 a0s3),(.clo 68 [(i6 a0s4f0)] [])]) [0] 1 false (i6 a0s0):=(.fld rfl rfl rfl rfl (.nil rfl rfl rfl))
   refine vq (i6 a0s0) (ld_own (i:=⟨.int .i64,1,8,(.int .i64 0)⟩) rfl rfl rfl hl87) hl87.c (vr (eSi64 x43) (vr (eSi64 r2.1) ?_))
   obtain ⟨r88,hr89,h⟩:=bind_some h
   refine ca (impl_prime_gcd_ok a0s0 x43 r2.1 r88 hr89) (vr (eSi64 r88) (nk ⟨[(2,ow 2),(4,ow 4),(5,ow 5),(7,eSi64 r2.1),(9,eSi64 x43),(14,eSi64 r88)],[(2,bk (.struct [1,1,1,1,1] [(i6 a0s0),(eSi64 a0s1),(eSi64 a0s2),(i6 a0s3),(.clo 68 [(i6 a0s4f0)] [])])),(4,bk (eV0)),(5,bk (eV0))]⟩ (sr (vb (.own 2 [0] [0]) rfl rfl ?_))))
   have hl90:LdOk [0] (.struct [1,1,1,1,1] [(i6 a0s0),(eSi64 a0s1),(eSi64 a0s2),(i6 a0s3),(.clo 68 [(i6 a0s4f0)] [])]) [0] 1 false (i6 a0s0):=(.fld rfl rfl rfl rfl (.nil rfl rfl rfl))
   refine vq (i6 a0s0) (ld_own (i:=⟨.int .i64,1,8,(.int .i64 0)⟩) rfl rfl rfl hl90) hl90.c (vr (eSi64 x43) (vr (eSi64 r88) ?_))
   obtain ⟨r91,hr92,h⟩:=bind_some h
   refine ca (impl_prime_divide_ok a0s0 x43 r88 r91 hr92) (vr (.tuple [(eSi64 r91.1),(eSi64 r91.2)]) (vb (eSi64 r91.1) rfl rfl (vb (eSi64 r91.2) rfl rfl (vr (eSi64 r91.1) (nk ⟨[(2,ow 2),(4,ow 4),(5,ow 5),(7,eSi64 r2.1),(9,eSi64 r91.1),(14,eSi64 r88)],[(2,bk (.struct [1,1,1,1,1] [(i6 a0s0),(eSi64 a0s1),(eSi64 a0s2),(i6 a0s3),(.clo 68 [(i6 a0s4f0)] [])])),(4,bk (eV0)),(5,bk (eV0))]⟩ (sr (vb (.own 2 [0] [0]) rfl rfl ?_)))))))
   have hl93:LdOk [0] (.struct [1,1,1,1,1] [(i6 a0s0),(eSi64 a0s1),(eSi64 a0s2),(i6 a0s3),(.clo 68 [(i6 a0s4f0)] [])]) [0] 1 false (i6 a0s0):=(.fld rfl rfl rfl rfl (.nil rfl rfl rfl))
   refine vq (i6 a0s0) (ld_own (i:=⟨.int .i64,1,8,(.int .i64 0)⟩) rfl rfl rfl hl93) hl93.c (vr (eSi64 r2.1) (vr (eSi64 r88) ?_))
   obtain ⟨r94,hr95,h⟩:=bind_some h
   refine ca (impl_prime_divide_ok a0s0 r2.1 r88 r94 hr95) (vr (.tuple [(eSi64 r94.1),(eSi64 r94.2)]) (vb (eSi64 r94.1) rfl rfl (vb (eSi64 r94.2) rfl rfl (vr (eSi64 r94.1) (nk ⟨[(2,ow 2),(4,ow 4),(5,ow 5),(7,eSi64 r94.1),(9,eSi64 r91.1)],[(2,bk (.struct [1,1,1,1,1] [(i6 a0s0),(eSi64 a0s1),(eSi64 a0s2),(i6 a0s3),(.clo 68 [(i6 a0s4f0)] [])])),(4,bk (eV0)),(5,bk (eV0))]⟩ (a_seq (a_draw [⟨[2],[],[2],[]⟩,⟨[2],[],[],[0]⟩,⟨[],[],[],[]⟩,⟨[],[],[],[2]⟩,⟨[],[],[],[0,1,2,3]⟩,⟨[],[],[],[0,1,2,3,4]⟩] (by kernel_rfl) (d_cons (vb (.own 2 [0] [0]) rfl rfl ?_)))))))))
   refine dn (d_cons ?_)
   have hl101:LdOk [0] (.struct [1,1,1,1,1] [(i6 a0s0),(eSi64 a0s1),(eSi64 a0s2),(i6 a0s3),(.clo 68 [(i6 a0s4f0)] [])]) [0] 1 false (i6 a0s0):=(.fld rfl rfl rfl rfl (.nil rfl rfl rfl))
   refine vq (i6 a0s0) (ld_own (i:=⟨.int .i64,1,8,(.int .i64 0)⟩) rfl rfl rfl hl101) hl101.c (dn (dj (eSi64 r94.1) rfl (d_cons ?_)))
   obtain ⟨r102,hr103,h⟩:=bind_some h
   refine ca (impl_row_lead_ok r94.1 r102 hr103) (dn (d_cons ?_))
   obtain ⟨r104,hr105,h⟩:=bind_some h
   refine ca (impl_prime_inverse_ok a0s0 r102 r104 hr105) (dn (dj (i6 r104) rfl (d_nil (nj ⟨[(2,ow 2),(4,ow 4),(5,ow 5),(7,eSi64 r94.1),(9,eSi64 r91.1),(15,i6 r104)],[(2,bk (.struct [1,1,1,1,1] [(i6 a0s0),(eSi64 a0s1),(eSi64 a0s2),(i6 a0s3),(.clo 68 [(i6 a0s4f0)] [])])),(4,bk (eV0)),(5,bk (eV0))]⟩ (a_seq (a_draw [⟨[2],[],[2],[]⟩,⟨[2],[],[],[0]⟩,⟨[],[],[],[]⟩,⟨[],[],[],[]⟩,⟨[],[],[],[0,1,2,3]⟩,⟨[],[],[],[0,1,2,3,4]⟩,⟨[2],[],[2],[]⟩,⟨[2],[],[],[6]⟩,⟨[],[],[],[]⟩,⟨[],[],[],[]⟩,⟨[],[],[],[0,1,2,3,4,5,6,7,8,9]⟩,⟨[],[],[],[0,1,2,3,4,5,6,7,8,9,10]⟩,⟨[4],[4],[],[0,1,2,3,4,5,6,7,8,9,10,11]⟩,⟨[5],[5],[],[0,1,2,3,4,5,6,7,8,9,10,11,12]⟩,⟨[],[],[],[0,1,2,3,4,5,6,7,8,9,10,11,12,13]⟩] (by kernel_rfl) (d_cons (vb (.own 2 [0] [0]) rfl rfl (dn ?_)))))))))
   refine d_cons ?_
   have hl118:LdOk [0] (.struct [1,1,1,1,1] [(i6 a0s0),(eSi64 a0s1),(eSi64 a0s2),(i6 a0s3),(.clo 68 [(i6 a0s4f0)] [])]) [0] 1 false (i6 a0s0):=(.fld rfl rfl rfl rfl (.nil rfl rfl rfl))
   refine vq (i6 a0s0) (ld_own (i:=⟨.int .i64,1,8,(.int .i64 0)⟩) rfl rfl rfl hl118) hl118.c (dn (dj (eSi64 r91.1) rfl (dj (i6 r104) rfl (d_cons ?_))))
   obtain ⟨r119,hr120,h⟩:=bind_some h
   refine ca (impl_prime_scale_ok a0s0 r91.1 r104 r119 hr120) (dn (d_cons ?_))
   obtain ⟨r121,hr122,h⟩:=bind_some h
   refine ca (impl_row_poly_ok r119 r121 hr122) (dn (d_cons (vb (.own 2 [0] [0]) rfl rfl (dn (d_cons ?_)))))
   have hl123:LdOk [0] (.struct [1,1,1,1,1] [(i6 a0s0),(eSi64 a0s1),(eSi64 a0s2),(i6 a0s3),(.clo 68 [(i6 a0s4f0)] [])]) [0] 1 false (i6 a0s0):=(.fld rfl rfl rfl rfl (.nil rfl rfl rfl))
   refine vq (i6 a0s0) (ld_own (i:=⟨.int .i64,1,8,(.int .i64 0)⟩) rfl rfl rfl hl123) hl123.c (dn (dj (eSi64 r94.1) rfl (dj (i6 r104) rfl (d_cons ?_))))
   obtain ⟨r124,hr125,h⟩:=bind_some h
   refine ca (impl_prime_scale_ok a0s0 r94.1 r104 r124 hr125) (dn (d_cons ?_))
   obtain ⟨r126,hr127,h⟩:=bind_some h
   refine ca (impl_row_poly_ok r124 r126 hr127) (dn (d_cons (vs (eVb r121) rfl rfl (fun _=>rfl) rfl rfl rfl rfl rfl rfl (dn (d_cons (vs (eVb r126) rfl rfl (fun _=>rfl) rfl rfl rfl rfl rfl rfl (dn (dj (i6 0) rfl (d_nil ?_)))))))))
   refine a_next rfl (a_ret ?_)
   have hl130:LdOk [] (eVb r121) [] 64 true (eVb r121):=(.nil rfl rfl rfl)
   have hl131:LdOk [] (eVb r126) [] 64 true (eVb r126):=(.nil rfl rfl rfl)
   refine ⟨.inr rfl,?_⟩
   rw [Tryz.results69]
   cases h
   exact ⟨_,_,_,_,_,ld_own (i:=⟨.arr 64 5,64,64,(eVb (vrep 64 (0:Int)))⟩) rfl rfl rfl hl130,hl130.c,.inl ⟨rfl,.inl rfl⟩,rfl,⟨_,_,_,_,_,ld_own (i:=⟨.arr 64 5,64,64,(eVb (vrep 64 (0:Int)))⟩) rfl rfl rfl hl131,hl131.c,.inl ⟨rfl,.inl rfl⟩,rfl,⟨_,_,_,_,_,rfl,trivial,.inl ⟨rfl,.inl rfl⟩,rfl,rfl⟩⟩⟩
  ·have h:=hy45
   refine sr (vb (.own 2 [3] [3]) rfl rfl ?_)
   have hl47:LdOk [3] (.struct [1,1,1,1,1] [(i6 a0s0),(eSi64 a0s1),(eSi64 a0s2),(i6 a0s3),(.clo 68 [(i6 a0s4f0)] [])]) [3] 1 false (i6 a0s3):=(.fld rfl rfl rfl rfl (.nil rfl rfl rfl))
   refine vq (i6 a0s3) (ld_own (i:=⟨.int .i64,1,8,(.int .i64 0)⟩) rfl rfl rfl hl47) hl47.c (vr (i6 0) (nk ⟨[(1,i6 a1),(2,ow 2),(4,ow 4),(5,ow 5),(7,eSi64 r2.1),(9,eSi64 ([])),(10,i6 1),(26,i6 a0s3),(27,i6 0)],[(2,bk (.struct [1,1,1,1,1] [(i6 a0s0),(eSi64 a0s1),(eSi64 a0s2),(i6 a0s3),(.clo 68 [(i6 a0s4f0)] [])])),(4,bk (eV0)),(5,bk (eV0))]⟩ (a_block ?_)))
   refine a_loop (emb:=fun (s:((List Int)×Int×Int))=>⟨[(1,i6 a1),(2,ow 2),(4,ow 4),(5,ow 5),(7,eSi64 r2.1),(9,eSi64 s.1),(10,i6 s.2.1),(26,i6 a0s3),(27,i6 s.2.2)],[(2,bk (.struct [1,1,1,1,1] [(i6 a0s0),(eSi64 a0s1),(eSi64 a0s2),(i6 a0s3),(.clo 68 [(i6 a0s4f0)] [])])),(4,bk (eV0)),(5,bk (eV0))]⟩) (body:=(fun s:((List Int)×Int×Int)=>impl_cut_sum_of_s_impl_prime_first_l1 a0s3 a0s0 a0s1 a0s2 a0s4f0 a1 s.1 s.2.1 s.2.2)) (G:=fun q=>some q=some y44) h rfl ?_ (by kernel_rfl)
   rintro X71 ⟨x58,x59,x60⟩ x72 h hX73
   have h:impl_cut_sum_of_s_impl_prime_first_l1 a0s3 a0s0 a0s1 a0s2 a0s4f0 a1 x58 x59 x60=some x72:=h
   refine ns ⟨[(1,i6 a1),(2,ow 2),(4,ow 4),(5,ow 5),(7,eSi64 r2.1),(9,eSi64 x58),(10,i6 x59),(26,i6 a0s3),(27,i6 x60)],[(2,bk (.struct [1,1,1,1,1] [(i6 a0s0),(eSi64 a0s1),(eSi64 a0s2),(i6 a0s3),(.clo 68 [(i6 a0s4f0)] [])])),(4,bk (eV0)),(5,bk (eV0))]⟩ (sr (vr (.bool ((decide (x60 < a0s3)))) (nk ⟨[(1,i6 a1),(2,ow 2),(4,ow 4),(5,ow 5),(7,eSi64 r2.1),(9,eSi64 x58),(10,i6 x59),(26,i6 a0s3),(27,i6 x60),(28,.bool ((decide (x60 < a0s3))))],[(2,bk (.struct [1,1,1,1,1] [(i6 a0s0),(eSi64 a0s1),(eSi64 a0s2),(i6 a0s3),(.clo 68 [(i6 a0s4f0)] [])])),(4,bk (eV0)),(5,bk (eV0))]⟩ (a_seq ?_))))
   cases hb74:(decide (x60 < a0s3))
   ·have h:=ite_f hb74 h
    refine a_cond_f rfl (a_exit (t_exit ?_))
    cases h
    have h:=hX73
    refine t_exit (b_exit ?_)
    exact jl x58 h
   ·have h:=ite_t hb74 h
    refine a_cond_t rfl (a_skip (nj ⟨[(1,i6 a1),(2,ow 2),(4,ow 4),(5,ow 5),(7,eSi64 r2.1),(9,eSi64 x58),(10,i6 x59),(26,i6 a0s3),(27,i6 x60)],[(2,bk (.struct [1,1,1,1,1] [(i6 a0s0),(eSi64 a0s1),(eSi64 a0s2),(i6 a0s3),(.clo 68 [(i6 a0s4f0)] [])])),(4,bk (eV0)),(5,bk (eV0))]⟩ (a_seq (a_block (sr (vr (i6 x60) (vr (i6 x60) (nk ⟨[(1,i6 a1),(2,ow 2),(4,ow 4),(5,ow 5),(7,eSi64 r2.1),(9,eSi64 x58),(10,i6 x59),(11,i6 x60),(26,i6 a0s3),(27,i6 x60)],[(2,bk (.struct [1,1,1,1,1] [(i6 a0s0),(eSi64 a0s1),(eSi64 a0s2),(i6 a0s3),(.clo 68 [(i6 a0s4f0)] [])])),(4,bk (eV0)),(5,bk (eV0))]⟩ (sr ?_)))))))))
    refine vl (.struct [1,1,1,1,1] [(i6 a0s0),(eSi64 a0s1),(eSi64 a0s2),(i6 a0s3),(.clo 68 [(i6 a0s4f0)] [])]) rfl rfl rfl rfl rfl rfl (vr (i6 x60) ?_)
    obtain ⟨r76,hr77,h⟩:=bind_some h
    refine ca (impl_cut_summand_of_s_impl_prime_first_ok a0s0 a0s1 a0s2 a0s3 a0s4f0 x60 r76 hr77) (vr (.tuple [(eSi64 r76.1),(.bool r76.2)]) (vb (eSi64 r76.1) rfl rfl (vb (.bool r76.2) rfl rfl (vr (eSi64 r76.1) (vr (.bool r76.2) (nk ⟨[(1,i6 a1),(2,ow 2),(4,ow 4),(5,ow 5),(7,eSi64 r2.1),(9,eSi64 x58),(10,i6 x59),(12,eSi64 r76.1),(13,.bool r76.2),(26,i6 a0s3),(27,i6 x60)],[(2,bk (.struct [1,1,1,1,1] [(i6 a0s0),(eSi64 a0s1),(eSi64 a0s2),(i6 a0s3),(.clo 68 [(i6 a0s4f0)] [])])),(4,bk (eV0)),(5,bk (eV0))]⟩ (a_seq (sr (vr (.bool r76.2) ?_)))))))))
    refine vr (.bool (!r76.2)) (nk ⟨[(1,i6 a1),(2,ow 2),(4,ow 4),(5,ow 5),(7,eSi64 r2.1),(9,eSi64 x58),(10,i6 x59),(12,eSi64 r76.1),(26,i6 a0s3),(27,i6 x60),(37,.bool (!r76.2))],[(2,bk (.struct [1,1,1,1,1] [(i6 a0s0),(eSi64 a0s1),(eSi64 a0s2),(i6 a0s3),(.clo 68 [(i6 a0s4f0)] [])])),(4,bk (eV0)),(5,bk (eV0))]⟩ ?_)
    cases hb78:(!r76.2)
    ·have h:=ite_f hb78 h
     refine a_cond_f rfl (a_skip (nj ⟨[(1,i6 a1),(2,ow 2),(4,ow 4),(5,ow 5),(7,eSi64 r2.1),(9,eSi64 x58),(10,i6 x59),(12,eSi64 r76.1),(26,i6 a0s3),(27,i6 x60)],[(2,bk (.struct [1,1,1,1,1] [(i6 a0s0),(eSi64 a0s1),(eSi64 a0s2),(i6 a0s3),(.clo 68 [(i6 a0s4f0)] [])])),(4,bk (eV0)),(5,bk (eV0))]⟩ (sr (vb (.own 2 [0] [0]) rfl rfl ?_))))
     have hl79:LdOk [0] (.struct [1,1,1,1,1] [(i6 a0s0),(eSi64 a0s1),(eSi64 a0s2),(i6 a0s3),(.clo 68 [(i6 a0s4f0)] [])]) [0] 1 false (i6 a0s0):=(.fld rfl rfl rfl rfl (.nil rfl rfl rfl))
     refine vq (i6 a0s0) (ld_own (i:=⟨.int .i64,1,8,(.int .i64 0)⟩) rfl rfl rfl hl79) hl79.c (vr (eSi64 x58) (vr (eSi64 r76.1) (vr (i6 x59) ?_)))
     obtain ⟨r80,hr81,h⟩:=bind_some h
     refine ca (impl_prime_combine_ok a0s0 x58 r76.1 x59 r80 hr81) (vr (eSi64 r80) (nk ⟨[(1,i6 a1),(2,ow 2),(4,ow 4),(5,ow 5),(7,eSi64 r2.1),(9,eSi64 r80),(10,i6 x59),(26,i6 a0s3),(27,i6 x60)],[(2,bk (.struct [1,1,1,1,1] [(i6 a0s0),(eSi64 a0s1),(eSi64 a0s2),(i6 a0s3),(.clo 68 [(i6 a0s4f0)] [])])),(4,bk (eV0)),(5,bk (eV0))]⟩ (a_region (vr (i6 x59) (vr (i6 a1) (vr (i6 (IntKind.i64.wrap (x59*a1))) (vr (i6 (IntKind.i64.wrap (x59*a1))) (a_nil (b_norm ?_)))))))))
     refine nj ⟨[(1,i6 a1),(2,ow 2),(4,ow 4),(5,ow 5),(7,eSi64 r2.1),(9,eSi64 r80),(10,i6 (IntKind.i64.wrap (x59*a1))),(26,i6 a0s3),(27,i6 x60)],[(2,bk (.struct [1,1,1,1,1] [(i6 a0s0),(eSi64 a0s1),(eSi64 a0s2),(i6 a0s3),(.clo 68 [(i6 a0s4f0)] [])])),(4,bk (eV0)),(5,bk (eV0))]⟩ (a_region (vr (i6 (IntKind.i64.wrap (x60 + 1))) (vr (i6 (IntKind.i64.wrap (x60 + 1))) (a_nil ?_))))
     cases h
     exact ag hX73
    ·have h:=ite_t hb78 h
     refine a_cond_t rfl (sr (vq (eV0) rfl ⟨⟨_,rfl,rfl⟩,all_nil⟩ (vq (eV0) rfl ⟨⟨_,rfl,rfl⟩,all_nil⟩ (vs (eV0) rfl rfl (fun _=>rfl) rfl rfl rfl rfl rfl rfl (vs (eV0) rfl rfl (fun _=>rfl) rfl rfl rfl rfl rfl rfl (vr (i6 3) (nx _ rfl (a_ret (t_ret ?_)))))))))
     refine b_ret (t_ret ?_)
     cases h
     have h:=hX73
     refine t_ret (b_ret (t_ret ?_))
     cases h
     have h:=hk46
     have hl84:LdOk [] (eV0) [] 64 true (eV0):=(.nil rfl rfl rfl)
     have hl85:LdOk [] (eV0) [] 64 true (eV0):=(.nil rfl rfl rfl)
     refine ⟨.inr rfl,?_⟩
     rw [Tryz.results69]
     cases h
     exact ⟨_,_,_,_,_,ld_own (i:=⟨.arr 64 5,64,64,(eVb (vrep 64 (0:Int)))⟩) rfl rfl rfl hl84,hl84.c,.inl ⟨rfl,.inl rfl⟩,rfl,⟨_,_,_,_,_,ld_own (i:=⟨.arr 64 5,64,64,(eVb (vrep 64 (0:Int)))⟩) rfl rfl rfl hl85,hl85.c,.inl ⟨rfl,.inl rfl⟩,rfl,⟨_,_,_,_,_,rfl,trivial,.inl ⟨rfl,.inl rfl⟩,rfl,rfl⟩⟩⟩
 ·have h:=ite_t hb4 h
  refine a_cond_t rfl (sr (vq (eV0) rfl ⟨⟨_,rfl,rfl⟩,all_nil⟩ (vq (eV0) rfl ⟨⟨_,rfl,rfl⟩,all_nil⟩ (vs (eV0) rfl rfl (fun _=>rfl) rfl rfl rfl rfl rfl rfl (vs (eV0) rfl rfl (fun _=>rfl) rfl rfl rfl rfl rfl rfl (vr (i6 3) (nx _ rfl (a_ret (t_ret ?_)))))))))
  have hl135:LdOk [] (eV0) [] 64 true (eV0):=(.nil rfl rfl rfl)
  have hl136:LdOk [] (eV0) [] 64 true (eV0):=(.nil rfl rfl rfl)
  refine ⟨.inr rfl,?_⟩
  rw [Tryz.results69]
  cases h
  exact ⟨_,_,_,_,_,ld_own (i:=⟨.arr 64 5,64,64,(eVb (vrep 64 (0:Int)))⟩) rfl rfl rfl hl135,hl135.c,.inl ⟨rfl,.inl rfl⟩,rfl,⟨_,_,_,_,_,ld_own (i:=⟨.arr 64 5,64,64,(eVb (vrep 64 (0:Int)))⟩) rfl rfl rfl hl136,hl136.c,.inl ⟨rfl,.inl rfl⟩,rfl,⟨_,_,_,_,_,rfl,trivial,.inl ⟨rfl,.inl rfl⟩,rfl,rfl⟩⟩⟩
def impl_ExponentialUpTo_L:Live:=[(0,[0,1,2,3]),(1,[0,3,5,6,8,9]),(2,[0,3,5,6,8,9,11]),(3,[8,9,11]),(4,[0,3,5,6,8,9]),(100019,[0,3,5,6,8,9,11,19])]
noncomputable def impl_ExponentialUpTo (a0:Int) (a1:(Vec Int 64)) (a2:(Vec Int 64)) (a3:Int):Option ((Vec Int 64)×(Vec Int 64)×Int) :=
 (Option.bind (impl_within a3 1 4) fun r9=>(Option.bind (impl_quotientCode a0 a1 a2 r9) fun r11=>(if (r11 != 0) then (some (((vrep 64 (0:Int)),(vrep 64 (0:Int)),r11))) else (Option.bind (impl_rowOf a1) fun r25=>(Option.bind (impl_rowOf a2) fun r28=>(Option.bind (impl_cut_sum_of_s_impl_prime_first a0 r25 r28 a3 a0 1) fun r30=>(some (r30.1,r30.2.1,r30.2.2))))))))
theorem impl_ExponentialUpTo_ok (a0:Int) (a1:(Vec Int 64)) (a2:(Vec Int 64)) (a3:Int) (r:((Vec Int 64)×(Vec Int 64)×Int)) (h:impl_ExponentialUpTo a0 a1 a2 a3=some r):Den Tryz.prog 16 [(i6 a0),(eVb a1),(eVb a2),(i6 a3)] { r:=(.tuple [(eVb r.1),(eVb r.2.1),(i6 r.2.2)]) }:=by
 refine dd (rs:=[(eVb r.1),(eVb r.2.1),(i6 r.2.2)]) (L:=impl_ExponentialUpTo_L) good [] Tryz.func16 Tryz.ntmps16 ?_
 refine ns ⟨[(0,i6 a0),(1,eVb a1),(2,eVb a2),(3,i6 a3)],[]⟩ ?_
 refine sr (vo 1500 (eVb a1) rfl rfl (vo 1600 (eVb a2) rfl rfl (vo 1800 (eV0) rfl rfl (vo 1900 (eV0) rfl rfl (vr (i6 0) (nk ⟨[(0,i6 a0),(3,i6 a3),(5,ow 5),(6,ow 6),(8,ow 8),(9,ow 9)],[(5,bk (eVb a1)),(6,bk (eVb a2)),(8,bk (eV0)),(9,bk (eV0))]⟩ (a_seq (a_seq (a_draw [⟨[],[],[],[]⟩,⟨[5],[],[],[]⟩,⟨[6],[],[],[]⟩,⟨[],[],[],[]⟩,⟨[],[],[],[3]⟩,⟨[],[],[],[0,1,2,3,4]⟩,⟨[],[],[],[0,1,2,3,4,5]⟩] (by kernel_rfl) ?_)))))))))
 refine dj (i6 a0) rfl (d_cons (vl (eVb a1) rfl rfl rfl rfl rfl rfl (dn (d_cons (vl (eVb a2) rfl rfl rfl rfl rfl rfl (dn (dj (i6 a3) rfl (d_cons ?_))))))))
 obtain ⟨r9,hr10,h⟩:=bind_some h
 refine ca (impl_within_ok a3 1 4 r9 hr10) (dn (d_cons ?_))
 obtain ⟨r11,hr12,h⟩:=bind_some h
 refine ca (impl_quotientCode_ok a0 a1 a2 r9 r11 hr12) (dn (dj (i6 r11) rfl (d_nil (nj ⟨[(0,i6 a0),(3,i6 a3),(5,ow 5),(6,ow 6),(8,ow 8),(9,ow 9),(11,i6 r11)],[(5,bk (eVb a1)),(6,bk (eVb a2)),(8,bk (eV0)),(9,bk (eV0))]⟩ (sr (vr (i6 r11) (vr (.bool (r11 != 0)) (nk ⟨[(0,i6 a0),(3,i6 a3),(5,ow 5),(6,ow 6),(8,ow 8),(9,ow 9),(11,i6 r11),(19,.bool (r11 != 0))],[(5,bk (eVb a1)),(6,bk (eVb a2)),(8,bk (eV0)),(9,bk (eV0))]⟩ ?_))))))))
 cases hb13:(r11 != 0)
 ·have h:=ite_f hb13 h
  refine a_cond_f rfl (a_skip (nj ⟨[(0,i6 a0),(3,i6 a3),(5,ow 5),(6,ow 6),(8,ow 8),(9,ow 9)],[(5,bk (eVb a1)),(6,bk (eVb a2)),(8,bk (eV0)),(9,bk (eV0))]⟩ (a_seq (a_draw [⟨[],[],[],[]⟩,⟨[5],[],[],[]⟩,⟨[],[],[],[1]⟩,⟨[6],[],[],[]⟩,⟨[],[],[],[1,2,3]⟩,⟨[],[],[],[]⟩,⟨[],[],[],[]⟩,⟨[],[],[],[6]⟩,⟨[],[],[],[0,1,2,3,4,5,6,7]⟩,⟨[],[],[],[0,1,2,3,4,5,6,7,8]⟩,⟨[],[],[],[0,1,2,3,4,5,6,7,8,9]⟩,⟨[],[],[],[0,1,2,3,4,5,6,7,8,9]⟩,⟨[],[],[],[0,1,2,3,4,5,6,7,8,9]⟩,⟨[8],[8],[],[0,1,2,3,4,5,6,7,8,9,10,11,12]⟩,⟨[9],[9],[],[0,1,2,3,4,5,6,7,8,9,10,11,12,13]⟩,⟨[],[],[],[0,1,2,3,4,5,6,7,8,9,10,11,12,13,14]⟩] (by kernel_rfl) (dj (i6 a0) rfl (d_cons (vl (eVb a1) rfl rfl rfl rfl rfl rfl (dn (d_cons ?_)))))))))
  obtain ⟨r25,hr26,h⟩:=bind_some h
  refine ca (impl_rowOf_ok a1 r25 hr26) (dn (d_cons (vl (eVb a2) rfl rfl rfl rfl rfl rfl (dn (d_cons ?_)))))
  obtain ⟨r28,hr29,h⟩:=bind_some h
  refine ca (impl_rowOf_ok a2 r28 hr29) (dn (dj (i6 a3) rfl (dj (i6 a0) rfl (dj (.clo 68 [(i6 a0)] []) rfl (d_cons (vq (.struct [1,1,1,1,1] [(i6 a0),(eSi64 r25),(eSi64 r28),(i6 a3),(.clo 68 [(i6 a0)] [])]) rfl ⟨rfl,(all_cons ⟨(Nat.le_of_ble_eq_true rfl),rfl⟩ (all_cons ⟨(Nat.le_of_ble_eq_true rfl),rfl⟩ (all_cons ⟨(Nat.le_of_ble_eq_true rfl),rfl⟩ (all_cons ⟨(Nat.le_of_ble_eq_true rfl),rfl⟩ (all_cons ⟨(Nat.le_of_ble_eq_true rfl),rfl⟩ all_nil)))))⟩ (dn (d_cons ?_))))))))
  obtain ⟨r30,hr31,h⟩:=bind_some h
  refine ca (impl_cut_sum_of_s_impl_prime_first_ok a0 r25 r28 a3 a0 1 r30 hr31) (dn (d_cons (vb (eVb r30.1) rfl rfl (dn (d_cons (vb (eVb r30.2.1) rfl rfl (dn (d_cons (vb (i6 r30.2.2) rfl rfl ?_)))))))))
  refine dn (d_cons (vs (eVb r30.1) rfl rfl (fun _=>rfl) rfl rfl rfl rfl rfl rfl (dn (d_cons (vs (eVb r30.2.1) rfl rfl (fun _=>rfl) rfl rfl rfl rfl rfl rfl (dn (dj (i6 r30.2.2) rfl (d_nil (a_next rfl ?_)))))))))
  refine a_ret ?_
  have hl34:LdOk [] (eVb r30.1) [] 64 true (eVb r30.1):=(.nil rfl rfl rfl)
  have hl35:LdOk [] (eVb r30.2.1) [] 64 true (eVb r30.2.1):=(.nil rfl rfl rfl)
  refine ⟨.inr rfl,?_⟩
  rw [Tryz.results16]
  cases h
  exact ⟨_,_,_,_,_,ld_own (i:=⟨.arr 64 5,64,64,(eVb (vrep 64 (0:Int)))⟩) rfl rfl rfl hl34,hl34.c,.inl ⟨rfl,.inl rfl⟩,rfl,⟨_,_,_,_,_,ld_own (i:=⟨.arr 64 5,64,64,(eVb (vrep 64 (0:Int)))⟩) rfl rfl rfl hl35,hl35.c,.inl ⟨rfl,.inl rfl⟩,rfl,⟨_,_,_,_,_,rfl,trivial,.inl ⟨rfl,.inl rfl⟩,rfl,rfl⟩⟩⟩
 ·have h:=ite_t hb13 h
  refine a_cond_t rfl (sr (vq (eV0) rfl ⟨⟨_,rfl,rfl⟩,all_nil⟩ (vq (eV0) rfl ⟨⟨_,rfl,rfl⟩,all_nil⟩ (vr (i6 r11) (vs (eV0) rfl rfl (fun _=>rfl) rfl rfl rfl rfl rfl rfl (vs (eV0) rfl rfl (fun _=>rfl) rfl rfl rfl rfl rfl rfl (vr (i6 r11) (nx _ rfl (a_ret ?_)))))))))
  refine t_ret ?_
  have hl38:LdOk [] (eV0) [] 64 true (eV0):=(.nil rfl rfl rfl)
  have hl39:LdOk [] (eV0) [] 64 true (eV0):=(.nil rfl rfl rfl)
  refine ⟨.inr rfl,?_⟩
  rw [Tryz.results16]
  cases h
  exact ⟨_,_,_,_,_,ld_own (i:=⟨.arr 64 5,64,64,(eVb (vrep 64 (0:Int)))⟩) rfl rfl rfl hl38,hl38.c,.inl ⟨rfl,.inl rfl⟩,rfl,⟨_,_,_,_,_,ld_own (i:=⟨.arr 64 5,64,64,(eVb (vrep 64 (0:Int)))⟩) rfl rfl rfl hl39,hl39.c,.inl ⟨rfl,.inl rfl⟩,rfl,⟨_,_,_,_,_,rfl,trivial,.inl ⟨rfl,.inl rfl⟩,rfl,rfl⟩⟩⟩
def spec_l10Code_L:Live:=[(0,[0,1,2]),(1,[0,4,5]),(2,[]),(3,[5]),(4,[]),(5,[]),(100007,[5,7]),(100014,[14])]
noncomputable def spec_l10Code (a0:Int) (a1:(Vec Int 64)) (a2:(Vec Int 64)):Option Int :=
 (Option.bind (spec_l01Code a0 ([a1,a2])) fun r3=>(if (r3 != 0) then (some 1) else (if (decide (a2=((vrep 64 (0:Int))))) then (some 5) else (some 0))))
theorem spec_l10Code_ok (a0:Int) (a1:(Vec Int 64)) (a2:(Vec Int 64)) (r:Int) (h:spec_l10Code a0 a1 a2=some r):Den Tryz.prog 122 [(i6 a0),(eVb a1),(eVb a2)] { r:=(i6 r) }:=by
 refine dd (rs:=[(i6 r)]) (L:=spec_l10Code_L) good [] Tryz.func122 Tryz.ntmps122 ?_
 refine ns ⟨[(0,i6 a0),(1,eVb a1),(2,eVb a2)],[]⟩ ?_
 refine sr (vo 1400 (eVb a1) rfl rfl (vo 1500 (eVb a2) rfl rfl (vr (i6 0) (nk ⟨[(0,i6 a0),(4,ow 4),(5,ow 5)],[(4,bk (eVb a1)),(5,bk (eVb a2))]⟩ (a_seq (a_block (sr (vr (i6 a0) (vl (eVb a1) rfl rfl rfl rfl rfl rfl ?_)))))))))
 refine vl (eVb a2) rfl rfl rfl rfl rfl rfl (vq (.sl 64 true (([a1,a2]).map eVb)) rfl ⟨(Nat.le_of_ble_eq_true rfl),(Nat.le_of_ble_eq_true rfl),(all_cons ⟨(Nat.le_of_ble_eq_true rfl),rfl⟩ (all_cons ⟨(Nat.le_of_ble_eq_true rfl),rfl⟩ all_nil))⟩ ?_)
 obtain ⟨r3,hr4,h⟩:=bind_some h
 refine a_call (args:=[(i6 a0),(.sl 64 true (([a1,a2]).map eVb))]) (u:=[]) (r:=(i6 r3)) rfl rfl (Den.args (spec_l01Code_ok a0 ([a1,a2]) r3 hr4) rfl rfl (.cons (.refl _) (.cons (.loose _) .nil))) rfl (vr (.bool (r3 != 0)) (vr (.bool (r3 != 0)) (nk ⟨[(5,ow 5),(7,.bool (r3 != 0))],[(5,bk (eVb a2))]⟩ ?_)))
 cases hb5:(r3 != 0)
 ·have h:=ite_f hb5 h
  refine a_cond_f rfl (sr (vl (eVb a2) rfl rfl rfl rfl rfl rfl (vq (eV0) rfl ⟨⟨_,rfl,rfl⟩,all_nil⟩ (vq (.bool ((decide (a2=((vrep 64 (0:Int))))))) (eqa_run (f:=(AV.int .u8)) (a:=a2.1) (b:=((vrep 64 (0:Int))).1) rfl rfl (eqb_vec (fun _ _=>eqb_int _ _) a2 ((vrep 64 (0:Int))))) (cmp_arr (g:=8) (f:=(AV.int .u8)) (x:=a2) (y:=((vrep 64 (0:Int)))) rfl rfl rfl (fun _ _=>rfl) (fun _ _=>cmp_int rfl)) (vr (.bool ((decide (a2=((vrep 64 (0:Int))))))) (nk ⟨[(14,.bool ((decide (a2=((vrep 64 (0:Int)))))))],[]⟩ ?_))))))
  cases hb7:(decide (a2=((vrep 64 (0:Int)))))
  ·have h:=ite_f hb7 h
   refine a_cond_f rfl (a_skip (b_norm (nj ⟨[],[]⟩ (sr (vr (i6 0) (nx _ rfl (a_ret ?_)))))))
   refine ⟨.inr rfl,?_⟩
   rw [Tryz.results122]
   cases h
   exact ⟨_,_,_,_,_,rfl,trivial,.inl ⟨rfl,.inl rfl⟩,rfl,rfl⟩
  ·have h:=ite_t hb7 h
   refine a_cond_t rfl (sr (vr (i6 5) (nx _ rfl (a_ret (b_ret (t_ret ?_))))))
   refine ⟨.inr rfl,?_⟩
   rw [Tryz.results122]
   cases h
   exact ⟨_,_,_,_,_,rfl,trivial,.inl ⟨rfl,.inl rfl⟩,rfl,rfl⟩
 ·have h:=ite_t hb5 h
  refine a_cond_t rfl (sr (vr (i6 1) (nx _ rfl (a_ret (b_ret (t_ret ?_))))))
  refine ⟨.inr rfl,?_⟩
  rw [Tryz.results122]
  cases h
  exact ⟨_,_,_,_,_,rfl,trivial,.inl ⟨rfl,.inl rfl⟩,rfl,rfl⟩
def spec_l10Cut_L:Live:=[(0,[0,1,2,3]),(1,[0,3,5,6]),(2,[3,9]),(3,[]),(4,[9]),(100020,[9,20])]
noncomputable def spec_l10Cut (a0:Int) (a1:(Vec Int 64)) (a2:(Vec Int 64)) (a3:Int):Option Int :=
 (Option.bind (spec_l10Code a0 a1 a2) fun r3=>(Option.bind (α:=Int) ((Option.bind (α:=Bool) ((if (r3 != 1) then (Option.bind (spec_l01In a3 1 4) fun r28=>(some (!r28))) else (some false))) fun x23=>(if x23 then (some 2) else (some r3)))) fun x16=>(some x16)))
theorem spec_l10Cut_ok (a0:Int) (a1:(Vec Int 64)) (a2:(Vec Int 64)) (a3:Int) (r:Int) (h:spec_l10Cut a0 a1 a2 a3=some r):Den Tryz.prog 70 [(i6 a0),(eVb a1),(eVb a2),(i6 a3)] { r:=(i6 r) }:=by
 refine dd (rs:=[(i6 r)]) (L:=spec_l10Cut_L) good [] Tryz.func70 Tryz.ntmps70 ?_
 refine ns ⟨[(0,i6 a0),(1,eVb a1),(2,eVb a2),(3,i6 a3)],[]⟩ ?_
 refine sr (vo 1500 (eVb a1) rfl rfl (vo 1600 (eVb a2) rfl rfl (vr (i6 0) (nk ⟨[(0,i6 a0),(3,i6 a3),(5,ow 5),(6,ow 6)],[(5,bk (eVb a1)),(6,bk (eVb a2))]⟩ (sr (vr (i6 a0) (vl (eVb a1) rfl rfl rfl rfl rfl rfl (vl (eVb a2) rfl rfl rfl rfl rfl rfl ?_))))))))
 obtain ⟨r3,hr4,h⟩:=bind_some h
 refine ca (spec_l10Code_ok a0 a1 a2 r3 hr4) (vr (i6 r3) (nk ⟨[(3,i6 a3),(9,i6 r3)],[]⟩ ?_))
 obtain ⟨y17,hy18,hk19⟩:=bind_some h
 clear h
 refine a_join (emb:=fun (s:Int)=>⟨[(9,i6 s)],[]⟩) (pre:=fun s=>s=y17) ?_ ?_
 ·rintro x16 rfl
  have h:=hk19
  refine ns ⟨[(9,i6 x16)],[]⟩ (sr (vr (i6 x16) (vr (i6 x16) (nx _ rfl (a_ret ?_)))))
  refine ⟨.inr rfl,?_⟩
  rw [Tryz.results70]
  cases h
  exact ⟨_,_,_,_,_,rfl,trivial,.inl ⟨rfl,.inl rfl⟩,rfl,rfl⟩
 ·have h:=hy18
  obtain ⟨y24,hy25,hk26⟩:=bind_some h
  clear h
  refine a_join (emb:=fun (s:Bool)=>⟨[(9,i6 r3),(20,.bool s)],[]⟩) (pre:=fun s=>s=y24) ?_ ?_
  ·rintro x23 rfl
   have h:=hk26
   refine ns ⟨[(9,i6 r3),(20,.bool x23)],[]⟩ ?_
   cases hb30:x23
   ·have h:=ite_f hb30 h
    refine a_cond_f rfl (a_skip ?_)
    exact jl r3 h
   ·have h:=ite_t hb30 h
    refine a_cond_t rfl (a_region (vr (i6 2) (a_nil ?_)))
    exact jl 2 h
  ·have h:=hy25
   refine a_region (vr (i6 r3) (vr (.bool (r3 != 1)) (vr (.bool (r3 != 1)) ?_)))
   cases hb27:(r3 != 1)
   ·have h:=ite_f hb27 h
    refine a_gskip rfl (a_gskip rfl (a_gskip rfl (vr (.bool false) (a_nil ?_))))
    exact jl false h
   ·have h:=ite_t hb27 h
    refine gp (i6 a3) rfl rfl ?_
    obtain ⟨r28,hr29,h⟩:=bind_some h
    refine a_gcall rfl (args:=[(i6 a3),(i6 1),(i6 4)]) (u:=[]) (r:=(.bool r28)) rfl rfl (spec_l01In_ok a3 1 4 r28 hr29) rfl (gp (.bool (!r28)) rfl rfl (vr (.bool (!r28)) (a_nil ?_)))
    exact jl (!r28) h
def spec_l01One_L:Live:=[(0,[]),(1,[0])]
noncomputable def spec_l01One :Option (Vec Int 64) :=
 (some ((vset (vrep 64 (0:Int)) 0 1)))
theorem spec_l01One_ok  (r:(Vec Int 64)) (h:spec_l01One=some r):Den Tryz.prog 152 [] { r:=(eVb r) }:=by
 refine dd (rs:=[(eVb r)]) (L:=spec_l01One_L) good [] Tryz.func152 Tryz.ntmps152 ?_
 refine ns ⟨[],[]⟩ ?_
 refine sr (vo 1000 (eV0) rfl rfl (nk ⟨[(0,ow 0)],[(0,bk (eV0))]⟩ (sr (vq (eVb ((vset (vrep 64 (0:Int)) 0 1))) rfl ⟨⟨_,rfl,rfl⟩,(all_cons ⟨(Nat.le_of_ble_eq_true rfl),rfl⟩ all_nil)⟩ (vs (eVb ((vset (vrep 64 (0:Int)) 0 1))) rfl rfl (fun _=>rfl) rfl rfl rfl rfl rfl rfl (nx _ rfl (a_ret ?_)))))))
 have hl2:LdOk [] (eVb ((vset (vrep 64 (0:Int)) 0 1))) [] 64 true (eVb ((vset (vrep 64 (0:Int)) 0 1))):=(.nil rfl rfl rfl)
 refine ⟨.inr rfl,?_⟩
 rw [Tryz.results152]
 cases h
 exact ⟨_,_,_,_,_,ld_own (i:=⟨.arr 64 5,64,64,(eVb (vrep 64 (0:Int)))⟩) rfl rfl rfl hl2,hl2.c,.inl ⟨rfl,.inl rfl⟩,rfl,rfl⟩
def spec_l01T_L:Live:=[(0,[]),(1,[0])]
noncomputable def spec_l01T :Option (Vec Int 64) :=
 (some ((vset (vset (vrep 64 (0:Int)) 0 0) 1 1)))
theorem spec_l01T_ok  (r:(Vec Int 64)) (h:spec_l01T=some r):Den Tryz.prog 153 [] { r:=(eVb r) }:=by
 refine dd (rs:=[(eVb r)]) (L:=spec_l01T_L) good [] Tryz.func153 Tryz.ntmps153 ?_
 refine ns ⟨[],[]⟩ ?_
 refine sr (vo 1000 (eV0) rfl rfl (nk ⟨[(0,ow 0)],[(0,bk (eV0))]⟩ (sr (vq (eVb ((vset (vset (vrep 64 (0:Int)) 0 0) 1 1))) rfl ⟨⟨_,rfl,rfl⟩,(all_cons ⟨(Nat.le_of_ble_eq_true rfl),rfl⟩ (all_cons ⟨(Nat.le_of_ble_eq_true rfl),rfl⟩ all_nil))⟩ (vs (eVb ((vset (vset (vrep 64 (0:Int)) 0 0) 1 1))) rfl rfl (fun _=>rfl) rfl rfl rfl rfl rfl rfl (nx _ rfl (a_ret ?_)))))))
 have hl2:LdOk [] (eVb ((vset (vset (vrep 64 (0:Int)) 0 0) 1 1))) [] 64 true (eVb ((vset (vset (vrep 64 (0:Int)) 0 0) 1 1))):=(.nil rfl rfl rfl)
 refine ⟨.inr rfl,?_⟩
 rw [Tryz.results153]
 cases h
 exact ⟨_,_,_,_,_,ld_own (i:=⟨.arr 64 5,64,64,(eVb (vrep 64 (0:Int)))⟩) rfl rfl rfl hl2,hl2.c,.inl ⟨rfl,.inl rfl⟩,rfl,rfl⟩
def spec_l04Raise_L:Live:=[(0,[0,1,2]),(1,[0,2,4,6]),(2,[0,2,4,6,8,9]),(3,[0,2,4,6,8,9,10]),(4,[0,2,4,6,8,9,10]),(5,[0,2,4,6,8,9,10]),(6,[0,2,4,6,8,9,10]),(7,[0,2,4,6,8,9,10,11]),(8,[0,2,4,6,8,9,10,11,12]),(9,[0,2,4,6,8,9,10,11,12]),(10,[0,2,4,6,8,9,10,11,12]),(11,[0,2,4,6,8,9,10,11,12]),(12,[6]),(13,[0,2,4,6,8,9,10,11]),(14,[6,8]),(100018,[0,2,4,6,8,9,10,18]),(100024,[0,2,4,6,8,9,10,24]),(100032,[0,2,4,6,8,9,10,11,12,32]),(100039,[0,2,4,6,8,9,10,11,12,39])]
noncomputable def spec_l04Raise_l2 (a2:Int) (a0:Int) (x962:Int) (x963:Int):Option ((Int×Int)⊕(Int⊕((Vec Int 64)×Bool))) :=
 (Option.bind (α:=Bool) ((if (decide (x963 < a2)) then (some ((decide (x962 > 0)))) else (some false))) fun x977=>(if x977 then (if (decide ((IntKind.i64.wrap (x962*a0)) > 63)) then (some (.inr ((.inr (((vrep 64 (0:Int)),false)))))) else (some (.inl ((IntKind.i64.wrap (x962*a0),IntKind.i64.wrap (x963 + 1)))))) else (some (.inr (.inl x962)))))
noncomputable def spec_l04Raise_l1 (r2:Int) (a1:(Vec Int 64)) (a2:Int) (a0:Int) (x663:Int) (x664:(Vec Int 64)):Option ((Int×(Vec Int 64))⊕((Vec Int 64)⊕((Vec Int 64)×Bool))) :=
 (if (decide (x663≤r2)) then (Option.bind (α:=((Vec Int 64)⊕((Vec Int 64)×Bool))) ((ifp (0≤x663∧x663 < ((64:Nat):Int)) ((if ((rd a1.1 x663.toNat) == 0) then (some (.inl x664)) else (Option.bind (α:=(Int⊕((Vec Int 64)×Bool))) ((loopM (fun s:(Int×Int)=>spec_l04Raise_l2 a2 a0 s.1 s.2) (x663,0))) fun z=>match z with | .inl x949=>(ifp (0≤x663∧x663 < ((64:Nat):Int)) ((ifp (0≤x949∧x949 < ((64:Nat):Int)) ((some ((.inl (vset x664 x949.toNat (rd a1.1 x663.toNat))))))))) | .inr r991=>(some (.inr r991))))))) fun z=>match z with | .inl x909=>(some (.inl ((IntKind.i64.wrap (x663 + 1),x909)))) | .inr r992=>(some (.inr (.inr r992)))) else (some (.inr (.inl x664))))
noncomputable def spec_l04Raise (a0:Int) (a1:(Vec Int 64)) (a2:Int):Option ((Vec Int 64)×Bool) :=
 (Option.bind (spec_l01Deg a1) fun r2=>(Option.bind (α:=((Vec Int 64)⊕((Vec Int 64)×Bool))) ((loopM (fun s:(Int×(Vec Int 64))=>spec_l04Raise_l1 r2 a1 a2 a0 s.1 s.2) (0,vrep 64 (0:Int)))) fun z=>match z with | .inl x497=>(some (x497,true)) | .inr r997=>(some r997)))
theorem spec_l04Raise_ok (a0:Int) (a1:(Vec Int 64)) (a2:Int) (r:((Vec Int 64)×Bool)) (h:spec_l04Raise a0 a1 a2=some r):Den Tryz.prog 124 [(i6 a0),(eVb a1),(i6 a2)] { r:=(.tuple [(eVb r.1),(.bool r.2)]) }:=by
 refine dd (rs:=[(eVb r.1),(.bool r.2)]) (L:=spec_l04Raise_L) good [] Tryz.func124 Tryz.ntmps124 ?_
 refine ns ⟨[(0,i6 a0),(1,eVb a1),(2,i6 a2)],[]⟩ ?_
 refine sr (vo 1400 (eVb a1) rfl rfl (vo 1600 (eV0) rfl rfl (vr (.bool false) (nk ⟨[(0,i6 a0),(2,i6 a2),(4,ow 4),(6,ow 6)],[(4,bk (eVb a1)),(6,bk (eV0))]⟩ (sr (vq (eV0) rfl ⟨⟨_,rfl,rfl⟩,all_nil⟩ (vl (eVb a1) rfl rfl rfl rfl rfl rfl ?_)))))))
 obtain ⟨r2,hr3,h⟩:=bind_some h
 refine ca (spec_l01Deg_ok a1 r2 hr3) (vo 1800 (eV0) rfl rfl (vs (eV0) rfl rfl (fun _=>rfl) rfl rfl rfl rfl rfl rfl (vr (i6 r2) (nk ⟨[(0,i6 a0),(2,i6 a2),(4,ow 4),(6,ow 6),(8,ow 8),(9,i6 r2)],[(4,bk (eVb a1)),(6,bk (eV0)),(8,bk (eV0))]⟩ ?_))))
 obtain ⟨y498,hy499,hk500⟩:=bind_some h
 clear h
 refine a_join (emb:=fun (s:(Vec Int 64))=>⟨[(6,ow 6),(8,ow 8)],[(6,bk (eV0)),(8,bk (eVb s))]⟩) (pre:=fun s=>(.inl s)=y498) ?_ ?_
 ·rintro x497 rfl
  have h:=hk500
  refine ns ⟨[(6,ow 6),(8,ow 8)],[(6,bk (eV0)),(8,bk (eVb x497))]⟩ (sr (vl (eVb x497) rfl rfl rfl rfl rfl rfl (vs (eVb x497) rfl rfl (fun _=>rfl) rfl rfl rfl rfl rfl rfl (vr (.bool true) (nx _ rfl (a_ret ?_))))))
  have hl996:LdOk [] (eVb x497) [] 64 true (eVb x497):=(.nil rfl rfl rfl)
  refine ⟨.inr rfl,?_⟩
  rw [Tryz.results124]
  cases h
  exact ⟨_,_,_,_,_,ld_own (i:=⟨.arr 64 5,64,64,(eVb (vrep 64 (0:Int)))⟩) rfl rfl rfl hl996,hl996.c,.inl ⟨rfl,.inl rfl⟩,rfl,⟨_,_,_,_,_,rfl,trivial,.inl ⟨rfl,.inl rfl⟩,rfl,rfl⟩⟩
 ·have h:=hy499
  refine sr (vr (i6 0) (nk ⟨[(0,i6 a0),(2,i6 a2),(4,ow 4),(6,ow 6),(8,ow 8),(9,i6 r2),(10,i6 0)],[(4,bk (eVb a1)),(6,bk (eV0)),(8,bk (eV0))]⟩ (a_block ?_)))
  refine a_loop (emb:=fun (s:(Int×(Vec Int 64)))=>⟨[(0,i6 a0),(2,i6 a2),(4,ow 4),(6,ow 6),(8,ow 8),(9,i6 r2),(10,i6 s.1)],[(4,bk (eVb a1)),(6,bk (eV0)),(8,bk (eVb s.2))]⟩) (body:=(fun s:(Int×(Vec Int 64))=>spec_l04Raise_l1 r2 a1 a2 a0 s.1 s.2)) (G:=fun q=>some q=some y498) h rfl ?_ (by kernel_rfl)
  rintro X827 ⟨x663,x664⟩ x828 h hX829
  have h:spec_l04Raise_l1 r2 a1 a2 a0 x663 x664=some x828:=h
  refine ns ⟨[(0,i6 a0),(2,i6 a2),(4,ow 4),(6,ow 6),(8,ow 8),(9,i6 r2),(10,i6 x663)],[(4,bk (eVb a1)),(6,bk (eV0)),(8,bk (eVb x664))]⟩ (a_seq (sr (vr (i6 x663) (vr (i6 r2) (vr (.bool ((decide (x663≤r2)))) (nk ⟨[(0,i6 a0),(2,i6 a2),(4,ow 4),(6,ow 6),(8,ow 8),(9,i6 r2),(10,i6 x663),(18,.bool ((decide (x663≤r2))))],[(4,bk (eVb a1)),(6,bk (eV0)),(8,bk (eVb x664))]⟩ ?_))))))
  cases hb830:(decide (x663≤r2))
  ·have h:=ite_f hb830 h
   refine a_cond_f rfl (a_exit (t_exit ?_))
   cases h
   have h:=hX829
   refine t_exit (b_exit ?_)
   exact jl x664 h
  ·have h:=ite_t hb830 h
   refine a_cond_t rfl (a_skip (nj ⟨[(0,i6 a0),(2,i6 a2),(4,ow 4),(6,ow 6),(8,ow 8),(9,i6 r2),(10,i6 x663)],[(4,bk (eVb a1)),(6,bk (eV0)),(8,bk (eVb x664))]⟩ ?_))
   obtain ⟨y910,hy911,hk912⟩:=bind_some h
   clear h
   refine a_join (emb:=fun (s:(Vec Int 64))=>⟨[(0,i6 a0),(2,i6 a2),(4,ow 4),(6,ow 6),(8,ow 8),(9,i6 r2),(10,i6 x663)],[(4,bk (eVb a1)),(6,bk (eV0)),(8,bk (eVb s))]⟩) (pre:=fun s=>(.inl s)=y910) ?_ ?_
   ·rintro x909 rfl
    have h:=hk912
    refine ns ⟨[(0,i6 a0),(2,i6 a2),(4,ow 4),(6,ow 6),(8,ow 8),(9,i6 r2),(10,i6 x663)],[(4,bk (eVb a1)),(6,bk (eV0)),(8,bk (eVb x909))]⟩ (a_region (vr (i6 x663) (vr (i6 (IntKind.i64.wrap (x663 + 1))) (vr (i6 (IntKind.i64.wrap (x663 + 1))) (a_nil ?_)))))
    cases h
    exact ag hX829
   ·have h:=hy911
    refine a_block (a_seq (sr (vr (i6 x663) ?_)))
    obtain ⟨hc913,h⟩:=ifp_some h
    refine vq (.own 4 [x663.toNat] [x663.toNat*1]) rfl hc913 ?_
    have hl914:LdOk [x663.toNat] (eVb a1) [x663.toNat*1] 1 false (b8 (rd a1.1 x663.toNat)):=(.arr (vlt a1 hc913) rfl (.nil rfl rfl rfl))
    refine vq (b8 (rd a1.1 x663.toNat)) (ld_own (i:=⟨.int .u8,1,1,(.int .u8 0)⟩) rfl rfl rfl hl914) hl914.c (vr (.bool (((rd a1.1 x663.toNat) == 0))) (nk ⟨[(0,i6 a0),(2,i6 a2),(4,ow 4),(6,ow 6),(8,ow 8),(9,i6 r2),(10,i6 x663),(24,.bool (((rd a1.1 x663.toNat) == 0)))],[(4,bk (eVb a1)),(6,bk (eV0)),(8,bk (eVb x664))]⟩ ?_))
    cases hb915:((rd a1.1 x663.toNat) == 0)
    ·have h:=ite_f hb915 h
     refine a_cond_f rfl (a_skip (nj ⟨[(0,i6 a0),(2,i6 a2),(4,ow 4),(6,ow 6),(8,ow 8),(9,i6 r2),(10,i6 x663)],[(4,bk (eVb a1)),(6,bk (eV0)),(8,bk (eVb x664))]⟩ (sr (vr (i6 x663) (vr (i6 x663) (nk ⟨[(0,i6 a0),(2,i6 a2),(4,ow 4),(6,ow 6),(8,ow 8),(9,i6 r2),(10,i6 x663),(11,i6 x663)],[(4,bk (eVb a1)),(6,bk (eV0)),(8,bk (eVb x664))]⟩ ?_))))))
     obtain ⟨y950,hy951,hk952⟩:=bind_some h
     clear h
     refine a_join (emb:=fun (s:Int)=>⟨[(0,i6 a0),(2,i6 a2),(4,ow 4),(6,ow 6),(8,ow 8),(9,i6 r2),(10,i6 x663),(11,i6 s)],[(4,bk (eVb a1)),(6,bk (eV0)),(8,bk (eVb x664))]⟩) (pre:=fun s=>(.inl s)=y950) ?_ ?_
     ·rintro x949 rfl
      have h:=hk952
      refine ns ⟨[(0,i6 a0),(2,i6 a2),(4,ow 4),(6,ow 6),(8,ow 8),(9,i6 r2),(10,i6 x663),(11,i6 x949)],[(4,bk (eVb a1)),(6,bk (eV0)),(8,bk (eVb x664))]⟩ (a_region (vr (i6 x949) (vr (i6 x663) ?_)))
      obtain ⟨hc987,h⟩:=ifp_some h
      refine vq (.own 4 [x663.toNat] [x663.toNat*1]) rfl hc987 ?_
      have hl988:LdOk [x663.toNat] (eVb a1) [x663.toNat*1] 1 false (b8 (rd a1.1 x663.toNat)):=(.arr (vlt a1 hc987) rfl (.nil rfl rfl rfl))
      refine vq (b8 (rd a1.1 x663.toNat)) (ld_own (i:=⟨.int .u8,1,1,(.int .u8 0)⟩) rfl rfl rfl hl988) hl988.c ?_
      obtain ⟨hc989,h⟩:=ifp_some h
      refine vq (.own 8 [x949.toNat] [x949.toNat*1]) rfl hc989 ?_
      have hs990:StOk [x949.toNat] (eVb x664) [x949.toNat*1] 1 (b8 (rd a1.1 x663.toNat)) (eVb ((vset x664 x949.toNat (rd a1.1 x663.toNat)))):=(.arr (y:=(rd a1.1 x663.toNat)) (vlt x664 hc989) rfl (.nil rfl rfl rfl rfl))
      refine vu .top [(8,bk (eVb ((vset x664 x949.toNat (rd a1.1 x663.toNat)))))] (st_own (i:=⟨.int .u8,1,1,(.int .u8 0)⟩) rfl rfl (fun _=>rfl) rfl hs990) (hs990.c rfl) rfl (a_nil (b_norm ?_))
      exact jl ((vset x664 x949.toNat (rd a1.1 x663.toNat))) h
     ·have h:=hy951
      refine sr (vr (i6 0) (nk ⟨[(0,i6 a0),(2,i6 a2),(4,ow 4),(6,ow 6),(8,ow 8),(9,i6 r2),(10,i6 x663),(11,i6 x663),(12,i6 0)],[(4,bk (eVb a1)),(6,bk (eV0)),(8,bk (eVb x664))]⟩ (a_block ?_)))
      refine a_loop (emb:=fun (s:(Int×Int))=>⟨[(0,i6 a0),(2,i6 a2),(4,ow 4),(6,ow 6),(8,ow 8),(9,i6 r2),(10,i6 x663),(11,i6 s.1),(12,i6 s.2)],[(4,bk (eVb a1)),(6,bk (eV0)),(8,bk (eVb x664))]⟩) (body:=(fun s:(Int×Int)=>spec_l04Raise_l2 a2 a0 s.1 s.2)) (G:=fun q=>some q=some y950) h rfl ?_ (by kernel_rfl)
      rintro X973 ⟨x962,x963⟩ x974 h hX975
      have h:spec_l04Raise_l2 a2 a0 x962 x963=some x974:=h
      refine ns ⟨[(0,i6 a0),(2,i6 a2),(4,ow 4),(6,ow 6),(8,ow 8),(9,i6 r2),(10,i6 x663),(11,i6 x962),(12,i6 x963)],[(4,bk (eVb a1)),(6,bk (eV0)),(8,bk (eVb x664))]⟩ (a_seq ?_)
      obtain ⟨y978,hy979,hk980⟩:=bind_some h
      clear h
      refine a_join (emb:=fun (s:Bool)=>⟨[(0,i6 a0),(2,i6 a2),(4,ow 4),(6,ow 6),(8,ow 8),(9,i6 r2),(10,i6 x663),(11,i6 x962),(12,i6 x963),(32,.bool s)],[(4,bk (eVb a1)),(6,bk (eV0)),(8,bk (eVb x664))]⟩) (pre:=fun s=>s=y978) ?_ ?_
      ·rintro x977 rfl
       have h:=hk980
       refine ns ⟨[(0,i6 a0),(2,i6 a2),(4,ow 4),(6,ow 6),(8,ow 8),(9,i6 r2),(10,i6 x663),(11,i6 x962),(12,i6 x963),(32,.bool x977)],[(4,bk (eVb a1)),(6,bk (eV0)),(8,bk (eVb x664))]⟩ ?_
       cases hb982:x977
       ·have h:=ite_f hb982 h
        refine a_cond_f rfl (a_exit (t_exit ?_))
        cases h
        have h:=hX975
        refine t_exit (b_exit ?_)
        exact jl x962 h
       ·have h:=ite_t hb982 h
        refine a_cond_t rfl (a_skip (nj ⟨[(0,i6 a0),(2,i6 a2),(4,ow 4),(6,ow 6),(8,ow 8),(9,i6 r2),(10,i6 x663),(11,i6 x962),(12,i6 x963)],[(4,bk (eVb a1)),(6,bk (eV0)),(8,bk (eVb x664))]⟩ (a_seq (a_block (sr (vr (i6 x962) (vr (i6 a0) (vr (i6 (IntKind.i64.wrap (x962*a0))) (vr (i6 (IntKind.i64.wrap (x962*a0))) ?_)))))))))
        refine nk ⟨[(0,i6 a0),(2,i6 a2),(4,ow 4),(6,ow 6),(8,ow 8),(9,i6 r2),(10,i6 x663),(11,i6 (IntKind.i64.wrap (x962*a0))),(12,i6 x963)],[(4,bk (eVb a1)),(6,bk (eV0)),(8,bk (eVb x664))]⟩ (sr (vr (i6 (IntKind.i64.wrap (x962*a0))) (vr (.bool ((decide ((IntKind.i64.wrap (x962*a0)) > 63)))) (nk ⟨[(0,i6 a0),(2,i6 a2),(4,ow 4),(6,ow 6),(8,ow 8),(9,i6 r2),(10,i6 x663),(11,i6 (IntKind.i64.wrap (x962*a0))),(12,i6 x963),(39,.bool ((decide ((IntKind.i64.wrap (x962*a0)) > 63))))],[(4,bk (eVb a1)),(6,bk (eV0)),(8,bk (eVb x664))]⟩ ?_))))
        cases hb983:(decide ((IntKind.i64.wrap (x962*a0)) > 63))
        ·have h:=ite_f hb983 h
         refine a_cond_f rfl (a_skip (b_norm (nj ⟨[(0,i6 a0),(2,i6 a2),(4,ow 4),(6,ow 6),(8,ow 8),(9,i6 r2),(10,i6 x663),(11,i6 (IntKind.i64.wrap (x962*a0))),(12,i6 x963)],[(4,bk (eVb a1)),(6,bk (eV0)),(8,bk (eVb x664))]⟩ (a_region (vr (i6 x963) (vr (i6 (IntKind.i64.wrap (x963 + 1))) (vr (i6 (IntKind.i64.wrap (x963 + 1))) (a_nil ?_))))))))
         cases h
         exact ag hX975
        ·have h:=ite_t hb983 h
         refine a_cond_t rfl (sr (vq (eV0) rfl ⟨⟨_,rfl,rfl⟩,all_nil⟩ (vs (eV0) rfl rfl (fun _=>rfl) rfl rfl rfl rfl rfl rfl (vr (.bool false) (nx _ rfl (a_ret (b_ret (t_ret ?_))))))))
         cases h
         have h:=hX975
         refine t_ret (b_ret (t_ret ?_))
         cases h
         have h:=hk952
         refine b_ret (t_ret ?_)
         cases h
         have h:=hk912
         cases h
         have h:=hX829
         refine t_ret (b_ret (t_ret ?_))
         cases h
         have h:=hk500
         have hl985:LdOk [] (eV0) [] 64 true (eV0):=(.nil rfl rfl rfl)
         refine ⟨.inr rfl,?_⟩
         rw [Tryz.results124]
         cases h
         exact ⟨_,_,_,_,_,ld_own (i:=⟨.arr 64 5,64,64,(eVb (vrep 64 (0:Int)))⟩) rfl rfl rfl hl985,hl985.c,.inl ⟨rfl,.inl rfl⟩,rfl,⟨_,_,_,_,_,rfl,trivial,.inl ⟨rfl,.inl rfl⟩,rfl,rfl⟩⟩
      ·have h:=hy979
       refine a_region (vr (i6 x963) (vr (i6 a2) (vr (.bool ((decide (x963 < a2)))) (vr (.bool ((decide (x963 < a2)))) ?_))))
       cases hb981:(decide (x963 < a2))
       ·have h:=ite_f hb981 h
        refine a_gskip rfl (a_gskip rfl (vr (.bool false) (a_nil ?_)))
        exact jl false h
       ·have h:=ite_t hb981 h
        refine gp (i6 x962) rfl rfl (gp (.bool ((decide (x962 > 0)))) rfl rfl (vr (.bool ((decide (x962 > 0)))) (a_nil ?_)))
        exact jl ((decide (x962 > 0))) h
    ·have h:=ite_t hb915 h
     refine a_cond_t rfl (a_exit (t_exit (b_exit ?_)))
     exact jl x664 h
def spec_l01Add_L:Live:=[(0,[0,1,2,3]),(1,[0,3,5,6,8]),(2,[0,3,5,6,8,9]),(3,[0,3,5,6,8,9]),(4,[0,3,5,6,8,9]),(5,[5,8]),(100011,[0,3,5,6,8,9,11])]
noncomputable def spec_l01Add_l1 (a3:Int) (a2:(Vec Int 64)) (a0:Int) (x127:Int) (x128:(Vec Int 64)):Option ((Int×(Vec Int 64))⊕(Vec Int 64)) :=
 (if (decide (x127 < 64)) then (ifp (0≤x127∧x127 < ((64:Nat):Int)) ((ifp (0≤x127∧x127 < ((64:Nat):Int)) ((letp (IntKind.i64.wrap (a3*(IntKind.i64.wrap (rd a2.1 x127.toNat)))) fun x180=>(letp (IntKind.i64.wrap ((IntKind.i64.wrap (rd x128.1 x127.toNat)) + x180)) fun x182=>(ifp (a0 ≠ 0) ((ifp (a0 ≠ 0) ((letp (IntKind.u8.wrap (Int.tmod (IntKind.i64.wrap ((Int.tmod x182 a0) + a0)) a0)) fun x186=>(ifp (0≤x127∧x127 < ((64:Nat):Int)) ((some (.inl ((IntKind.i64.wrap (x127 + 1),(vset x128 x127.toNat x186)))))))))))))))))) else (some (.inr x128)))
noncomputable def spec_l01Add (a0:Int) (a1:(Vec Int 64)) (a2:(Vec Int 64)) (a3:Int):Option (Vec Int 64) :=
 (Option.bind (α:=(Vec Int 64)) ((loopM (fun s:(Int×(Vec Int 64))=>spec_l01Add_l1 a3 a2 a0 s.1 s.2) (0,a1))) fun x94=>(some x94))
theorem spec_l01Add_ok (a0:Int) (a1:(Vec Int 64)) (a2:(Vec Int 64)) (a3:Int) (r:(Vec Int 64)) (h:spec_l01Add a0 a1 a2 a3=some r):Den Tryz.prog 127 [(i6 a0),(eVb a1),(eVb a2),(i6 a3)] { r:=(eVb r) }:=by
 refine dd (rs:=[(eVb r)]) (L:=spec_l01Add_L) good [] Tryz.func127 Tryz.ntmps127 ?_
 refine ns ⟨[(0,i6 a0),(1,eVb a1),(2,eVb a2),(3,i6 a3)],[]⟩ ?_
 refine sr (vo 1500 (eVb a1) rfl rfl (vo 1600 (eVb a2) rfl rfl (vo 1800 (eV0) rfl rfl (nk ⟨[(0,i6 a0),(3,i6 a3),(5,ow 5),(6,ow 6),(8,ow 8)],[(5,bk (eVb a1)),(6,bk (eVb a2)),(8,bk (eV0))]⟩ ?_))))
 obtain ⟨y95,hy96,hk97⟩:=bind_some h
 clear h
 refine a_join (emb:=fun (s:(Vec Int 64))=>⟨[(5,ow 5),(8,ow 8)],[(5,bk (eVb s)),(8,bk (eV0))]⟩) (pre:=fun s=>s=y95) ?_ ?_
 ·rintro x94 rfl
  have h:=hk97
  refine ns ⟨[(5,ow 5),(8,ow 8)],[(5,bk (eVb x94)),(8,bk (eV0))]⟩ (sr (vl (eVb x94) rfl rfl rfl rfl rfl rfl (vs (eVb x94) rfl rfl (fun _=>rfl) rfl rfl rfl rfl rfl rfl (nx _ rfl (a_ret ?_)))))
  have hl193:LdOk [] (eVb x94) [] 64 true (eVb x94):=(.nil rfl rfl rfl)
  refine ⟨.inr rfl,?_⟩
  rw [Tryz.results127]
  cases h
  exact ⟨_,_,_,_,_,ld_own (i:=⟨.arr 64 5,64,64,(eVb (vrep 64 (0:Int)))⟩) rfl rfl rfl hl193,hl193.c,.inl ⟨rfl,.inl rfl⟩,rfl,rfl⟩
 ·have h:=hy96
  refine sr (vr (i6 0) (nk ⟨[(0,i6 a0),(3,i6 a3),(5,ow 5),(6,ow 6),(8,ow 8),(9,i6 0)],[(5,bk (eVb a1)),(6,bk (eVb a2)),(8,bk (eV0))]⟩ (a_block ?_)))
  refine a_loop (emb:=fun (s:(Int×(Vec Int 64)))=>⟨[(0,i6 a0),(3,i6 a3),(5,ow 5),(6,ow 6),(8,ow 8),(9,i6 s.1)],[(5,bk (eVb s.2)),(6,bk (eVb a2)),(8,bk (eV0))]⟩) (body:=(fun s:(Int×(Vec Int 64))=>spec_l01Add_l1 a3 a2 a0 s.1 s.2)) (G:=fun q=>some q=some y95) h rfl ?_ (by kernel_rfl)
  rintro X158 ⟨x127,x128⟩ x159 h hX160
  have h:spec_l01Add_l1 a3 a2 a0 x127 x128=some x159:=h
  refine ns ⟨[(0,i6 a0),(3,i6 a3),(5,ow 5),(6,ow 6),(8,ow 8),(9,i6 x127)],[(5,bk (eVb x128)),(6,bk (eVb a2)),(8,bk (eV0))]⟩ (a_seq (sr (vr (i6 x127) (vr (.bool ((decide (x127 < 64)))) (nk ⟨[(0,i6 a0),(3,i6 a3),(5,ow 5),(6,ow 6),(8,ow 8),(9,i6 x127),(11,.bool ((decide (x127 < 64))))],[(5,bk (eVb x128)),(6,bk (eVb a2)),(8,bk (eV0))]⟩ ?_)))))
  cases hb161:(decide (x127 < 64))
  ·have h:=ite_f hb161 h
   refine a_cond_f rfl (a_exit (t_exit ?_))
   cases h
   have h:=hX160
   refine t_exit (b_exit ?_)
   exact jl x128 h
  ·have h:=ite_t hb161 h
   refine a_cond_t rfl (a_skip (nj ⟨[(0,i6 a0),(3,i6 a3),(5,ow 5),(6,ow 6),(8,ow 8),(9,i6 x127)],[(5,bk (eVb x128)),(6,bk (eVb a2)),(8,bk (eV0))]⟩ (a_seq (a_block (a_draw [⟨[],[],[],[]⟩,⟨[],[],[],[]⟩,⟨[5],[],[5],[1]⟩,⟨[5],[],[],[1,2]⟩,⟨[],[],[],[1,2,3]⟩,⟨[],[],[],[]⟩,⟨[],[],[],[]⟩,⟨[6],[],[6],[6]⟩,⟨[6],[],[],[6,7]⟩,⟨[],[],[],[6,7,8]⟩,⟨[],[],[],[5,6,7,8,9]⟩,⟨[],[],[],[1,2,3,4,5,6,7,8,9,10]⟩,⟨[],[],[],[]⟩,⟨[],[],[],[1,2,3,4,5,6,7,8,9,10,11,12]⟩,⟨[],[],[],[]⟩,⟨[],[],[],[1,2,3,4,5,6,7,8,9,10,11,12,13,14]⟩,⟨[],[],[],[]⟩,⟨[],[],[],[1,2,3,4,5,6,7,8,9,10,11,12,13,14,15,16]⟩,⟨[],[],[],[1,2,3,4,5,6,7,8,9,10,11,12,13,14,15,16,17]⟩,⟨[5],[],[5],[0,1,2,3,4,5,6,7,8,9,10,11,12,13,14,15,16,17,18]⟩,⟨[5],[5],[],[0,1,2,3,4,5,6,7,8,9,10,11,12,13,14,15,16,17,18,19]⟩] (by kernel_rfl) (dj (i6 x127) rfl (dj (i6 x127) rfl (d_cons ?_))))))))
   obtain ⟨hc176,h⟩:=ifp_some h
   refine vq (.own 5 [x127.toNat] [x127.toNat*1]) rfl hc176 (dn (d_cons ?_))
   have hl177:LdOk [x127.toNat] (eVb x128) [x127.toNat*1] 1 false (b8 (rd x128.1 x127.toNat)):=(.arr (vlt x128 hc176) rfl (.nil rfl rfl rfl))
   refine vq (b8 (rd x128.1 x127.toNat)) (ld_own (i:=⟨.int .u8,1,1,(.int .u8 0)⟩) rfl rfl rfl hl177) hl177.c (dn (dj (i6 (IntKind.i64.wrap (rd x128.1 x127.toNat))) rfl (dj (i6 a3) rfl (dj (i6 x127) rfl (d_cons ?_)))))
   obtain ⟨hc178,h⟩:=ifp_some h
   refine vq (.own 6 [x127.toNat] [x127.toNat*1]) rfl hc178 (dn (d_cons ?_))
   have hl179:LdOk [x127.toNat] (eVb a2) [x127.toNat*1] 1 false (b8 (rd a2.1 x127.toNat)):=(.arr (vlt a2 hc178) rfl (.nil rfl rfl rfl))
   refine vq (b8 (rd a2.1 x127.toNat)) (ld_own (i:=⟨.int .u8,1,1,(.int .u8 0)⟩) rfl rfl rfl hl179) hl179.c (dn (dj (i6 (IntKind.i64.wrap (rd a2.1 x127.toNat))) rfl (d_cons ?_)))
   obtain ⟨x180,hx181,h⟩:=letp_some h
   refine a_val' (v:=(i6 (IntKind.i64.wrap (a3*(IntKind.i64.wrap (rd a2.1 x127.toNat)))))) (v':=(i6 x180)) (u:=[]) (u':=[]) rfl (congrArg (fun z=>((i6 z):AV)) hx181) rfl trivial rfl (dn (d_cons ?_))
   obtain ⟨x182,hx183,h⟩:=letp_some h
   refine a_val' (v:=(i6 (IntKind.i64.wrap ((IntKind.i64.wrap (rd x128.1 x127.toNat)) + x180)))) (v':=(i6 x182)) (u:=[]) (u':=[]) rfl (congrArg (fun z=>((i6 z):AV)) hx183) rfl trivial rfl (dn (dj (i6 a0) rfl (d_cons ?_)))
   obtain ⟨hc184,h⟩:=ifp_some h
   refine vq (i6 (Int.tmod x182 a0)) rfl hc184 (dn (dj (i6 a0) rfl (dj (i6 (IntKind.i64.wrap ((Int.tmod x182 a0) + a0))) rfl (dj (i6 a0) rfl (d_cons ?_)))))
   obtain ⟨hc185,h⟩:=ifp_some h
   refine vq (i6 (Int.tmod (IntKind.i64.wrap ((Int.tmod x182 a0) + a0)) a0)) rfl hc185 (dn (d_cons ?_))
   obtain ⟨x186,hx187,h⟩:=letp_some h
   refine a_val' (v:=(b8 (IntKind.u8.wrap (Int.tmod (IntKind.i64.wrap ((Int.tmod x182 a0) + a0)) a0)))) (v':=(b8 x186)) (u:=[]) (u':=[]) rfl (congrArg (fun z=>((b8 z):AV)) hx187) rfl trivial rfl (dn (d_cons ?_))
   obtain ⟨hc188,h⟩:=ifp_some h
   refine vq (.own 5 [x127.toNat] [x127.toNat*1]) rfl hc188 (dn (d_cons ?_))
   have hs189:StOk [x127.toNat] (eVb x128) [x127.toNat*1] 1 (b8 x186) (eVb (vset x128 x127.toNat x186)):=(.arr (y:=x186) (vlt x128 hc188) rfl (.nil rfl rfl rfl rfl))
   refine vu .top [(5,bk (eVb (vset x128 x127.toNat x186)))] (st_own (i:=⟨.int .u8,1,1,(.int .u8 0)⟩) rfl rfl (fun _=>rfl) rfl hs189) (hs189.c rfl) rfl (dn (d_nil (b_norm (nj ⟨[(0,i6 a0),(3,i6 a3),(5,ow 5),(6,ow 6),(8,ow 8),(9,i6 x127)],[(5,bk (eVb (vset x128 x127.toNat x186))),(6,bk (eVb a2)),(8,bk (eV0))]⟩ (a_region (vr (i6 x127) (vr (i6 (IntKind.i64.wrap (x127 + 1))) (vr (i6 (IntKind.i64.wrap (x127 + 1))) (a_nil ?_)))))))))
   cases h
   exact ag hX160
def spec_l04Bracket_L:Live:=[(0,[0,1,2]),(1,[0,1,2,6]),(2,[0,2,6,8,9]),(3,[0,6,8,9,10,11])]
noncomputable def spec_l04Bracket (a0:Int) (a1:Int) (a2:Int):Option ((Vec Int 64)×Bool) :=
 (Option.bind (spec_l01T) fun r1=>(Option.bind (spec_l04Raise a0 r1 a1) fun r3=>(Option.bind (spec_l01T) fun r6=>(Option.bind (spec_l04Raise a0 r6 a2) fun r8=>(Option.bind (spec_l01Add a0 r3.1 r8.1 (-1)) fun r13=>(if r3.2 then (some (r13,r8.2)) else (some (r13,false))))))))
theorem spec_l04Bracket_ok (a0:Int) (a1:Int) (a2:Int) (r:((Vec Int 64)×Bool)) (h:spec_l04Bracket a0 a1 a2=some r):Den Tryz.prog 161 [(i6 a0),(i6 a1),(i6 a2)] { r:=(.tuple [(eVb r.1),(.bool r.2)]) }:=by
 refine dd (rs:=[(eVb r.1),(.bool r.2)]) (L:=spec_l04Bracket_L) good [] Tryz.func161 Tryz.ntmps161 ?_
 refine ns ⟨[(0,i6 a0),(1,i6 a1),(2,i6 a2)],[]⟩ ?_
 refine sr (vo 1600 (eV0) rfl rfl (vr (.bool false) (nk ⟨[(0,i6 a0),(1,i6 a1),(2,i6 a2),(6,ow 6)],[(6,bk (eV0))]⟩ (sr (vr (i6 a0) ?_)))))
 obtain ⟨r1,hr2,h⟩:=bind_some h
 refine ca (spec_l01T_ok r1 hr2) (vr (i6 a1) ?_)
 obtain ⟨r3,hr4,h⟩:=bind_some h
 refine ca (spec_l04Raise_ok a0 r1 a1 r3 hr4) (vr (.tuple [(eVb r3.1),(.bool r3.2)]) (vb (eVb r3.1) rfl rfl (vb (.bool r3.2) rfl rfl (vo 1800 (eV0) rfl rfl (vs (eVb r3.1) rfl rfl (fun _=>rfl) rfl rfl rfl rfl rfl rfl (vr (.bool r3.2) (nk ⟨[(0,i6 a0),(2,i6 a2),(6,ow 6),(8,ow 8),(9,.bool r3.2)],[(6,bk (eV0)),(8,bk (eVb r3.1))]⟩ (sr (vr (i6 a0) ?_)))))))))
 obtain ⟨r6,hr7,h⟩:=bind_some h
 refine ca (spec_l01T_ok r6 hr7) (vr (i6 a2) ?_)
 obtain ⟨r8,hr9,h⟩:=bind_some h
 refine ca (spec_l04Raise_ok a0 r6 a2 r8 hr9) (vr (.tuple [(eVb r8.1),(.bool r8.2)]) (vb (eVb r8.1) rfl rfl (vb (.bool r8.2) rfl rfl (vo 2000 (eV0) rfl rfl (vs (eVb r8.1) rfl rfl (fun _=>rfl) rfl rfl rfl rfl rfl rfl (vr (.bool r8.2) (nk ⟨[(0,i6 a0),(6,ow 6),(8,ow 8),(9,.bool r3.2),(10,ow 10),(11,.bool r8.2)],[(6,bk (eV0)),(8,bk (eVb r3.1)),(10,bk (eVb r8.1))]⟩ (sr (vr (i6 a0) ?_)))))))))
 refine vl (eVb r3.1) rfl rfl rfl rfl rfl rfl (vl (eVb r8.1) rfl rfl rfl rfl rfl rfl ?_)
 obtain ⟨r13,hr14,h⟩:=bind_some h
 refine ca (spec_l01Add_ok a0 r3.1 r8.1 (-1) r13 hr14) (vr (.bool r3.2) (vr (.bool r3.2) ?_))
 cases hb15:r3.2
 ·have h:=ite_f hb15 h
  refine a_gskip rfl (vr (.bool false) (vs (eVb r13) rfl rfl (fun _=>rfl) rfl rfl rfl rfl rfl rfl (vr (.bool false) (nx _ rfl (a_ret ?_)))))
  have hl17:LdOk [] (eVb r13) [] 64 true (eVb r13):=(.nil rfl rfl rfl)
  refine ⟨.inr rfl,?_⟩
  rw [Tryz.results161]
  cases h
  exact ⟨_,_,_,_,_,ld_own (i:=⟨.arr 64 5,64,64,(eVb (vrep 64 (0:Int)))⟩) rfl rfl rfl hl17,hl17.c,.inl ⟨rfl,.inl rfl⟩,rfl,⟨_,_,_,_,_,rfl,trivial,.inl ⟨rfl,.inl rfl⟩,rfl,rfl⟩⟩
 ·have h:=ite_t hb15 h
  refine gp (.bool r8.2) rfl rfl (vr (.bool r8.2) (vs (eVb r13) rfl rfl (fun _=>rfl) rfl rfl rfl rfl rfl rfl (vr (.bool r8.2) (nx _ rfl (a_ret ?_)))))
  have hl19:LdOk [] (eVb r13) [] 64 true (eVb r13):=(.nil rfl rfl rfl)
  refine ⟨.inr rfl,?_⟩
  rw [Tryz.results161]
  cases h
  exact ⟨_,_,_,_,_,ld_own (i:=⟨.arr 64 5,64,64,(eVb (vrep 64 (0:Int)))⟩) rfl rfl rfl hl19,hl19.c,.inl ⟨rfl,.inl rfl⟩,rfl,⟨_,_,_,_,_,rfl,trivial,.inl ⟨rfl,.inl rfl⟩,rfl,rfl⟩⟩
end Go.Proofs.YtkbnegemdlnncaaGreat
