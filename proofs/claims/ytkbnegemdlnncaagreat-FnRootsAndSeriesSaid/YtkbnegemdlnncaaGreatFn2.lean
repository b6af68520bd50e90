/- Functions of the program: plain Lean functions, and that the program computes them. Printed by gen.py. -/
import Derived.Test.YtkbnegemdlnncaaGreatFnT
import Derived.Test.YtkbnegemdlnncaaGreatFn1
namespace Go.Proofs.YtkbnegemdlnncaaGreat
open Go.Abs Go.Proofs
set_option linter.unusedSimpArgs false
set_option linter.unusedVariables false
set_option maxHeartbeats 16000000
attribute [local irreducible] Abs.acode Abs.aops Abs.aopsT Abs.thenK Abs.blockK

def slices_IndexFunc_byte_byte_of_impl_areAll_byte__c1_p_L:Live:=[(0,[0,1]),(1,[0,1]),(2,[0,1,7,8]),(3,[0,1,7,8]),(4,[0,1,5,7,8]),(5,[5]),(6,[0,1,7,8]),(7,[]),(100009,[0,1,7,8,9]),(100016,[0,1,5,7,8,16])]
noncomputable def slices_IndexFunc_byte_byte_of_impl_areAll_byte__c1_p_l1 (a0:(List Int)) (a1c0c0:Int) (x33:Int):Option (Int⊕(Unit⊕Int)) :=
 (if (decide (x33 < (a0.length:Int))) then (ifp (0≤x33∧x33 < ((a0.length:Nat):Int)) ((Option.bind (impl_areAll_byte__c1_of_p (rd a0 x33.toNat) a1c0c0) fun r46=>(if r46 then (some (.inr (.inr x33))) else (some (.inl (IntKind.i64.wrap (x33 + 1)))))))) else (some (.inr (((.inl ()))))))
noncomputable def slices_IndexFunc_byte_byte_of_impl_areAll_byte__c1_p (a0:(List Int)) (a1c0c0:Int):Option Int :=
 (Option.bind (α:=(Unit⊕Int)) ((loopM (fun s:Int=>slices_IndexFunc_byte_byte_of_impl_areAll_byte__c1_p_l1 a0 a1c0c0 s) 0)) fun z=>match z with | .inl _=>(some (-1)) | .inr r50=>(some r50))
theorem slices_IndexFunc_byte_byte_of_impl_areAll_byte__c1_p_ok (a0:(List Int)) (a1c0c0:Int) (r:Int) (h:slices_IndexFunc_byte_byte_of_impl_areAll_byte__c1_p a0 a1c0c0=some r):Den Tryz.prog 176 [(eSu8 a0),(.clo 172 [] [(.ref (.clo 147 [] [(.ref (i6 a1c0c0) [] [])]) [] [])])] { r:=(i6 r) }:=by
 refine dd (rs:=[(i6 r)]) (L:=slices_IndexFunc_byte_byte_of_impl_areAll_byte__c1_p_L) good [] Tryz.func176 Tryz.ntmps176 ?_
 refine ns ⟨[(0,eSu8 a0),(1,.clo 172 [] [(.ref (.clo 147 [] [(.ref (i6 a1c0c0) [] [])]) [] [])])],[]⟩ ?_
 refine sr (vr (i6 0) (nk ⟨[(0,eSu8 a0),(1,.clo 172 [] [(.ref (.clo 147 [] [(.ref (i6 a1c0c0) [] [])]) [] [])])],[]⟩ ?_))
 obtain ⟨y24,hy25,hk26⟩:=bind_some h
 clear h
 refine a_join (emb:=fun (s:Unit)=>⟨[],[]⟩) (pre:=fun s=>(.inl s)=y24) ?_ ?_
 ·rintro _ rfl
  have h:=hk26
  refine ns ⟨[],[]⟩ (sr (vr (i6 (-1)) (nx _ rfl (a_ret ?_))))
  refine ⟨.inr rfl,?_⟩
  rw [Tryz.results176]
  cases h
  exact ⟨_,_,_,_,_,rfl,trivial,.inl ⟨rfl,.inl rfl⟩,rfl,rfl⟩
 ·have h:=hy25
  refine sr (vr (eSu8 a0) (vq (i6 (a0.length:Int)) (len_run rfl rfl) trivial (vr (i6 0) (nk ⟨[(0,eSu8 a0),(1,.clo 172 [] [(.ref (.clo 147 [] [(.ref (i6 a1c0c0) [] [])]) [] [])]),(7,i6 (a0.length:Int)),(8,i6 0)],[]⟩ (a_block ?_)))))
  refine a_loop (emb:=fun (s:Int)=>⟨[(0,eSu8 a0),(1,.clo 172 [] [(.ref (.clo 147 [] [(.ref (i6 a1c0c0) [] [])]) [] [])]),(7,i6 (a0.length:Int)),(8,i6 s)],[]⟩) (body:=(fun s:Int=>slices_IndexFunc_byte_byte_of_impl_areAll_byte__c1_p_l1 a0 a1c0c0 s)) (G:=fun q=>some q=some y24) h rfl ?_ (by kernel_rfl)
  rintro X40 x33 x41 h hX42
  have h:slices_IndexFunc_byte_byte_of_impl_areAll_byte__c1_p_l1 a0 a1c0c0 x33=some x41:=h
  refine ns ⟨[(0,eSu8 a0),(1,.clo 172 [] [(.ref (.clo 147 [] [(.ref (i6 a1c0c0) [] [])]) [] [])]),(7,i6 (a0.length:Int)),(8,i6 x33)],[]⟩ (sr (vr (.bool ((decide (x33 < (a0.length:Int))))) (nk ⟨[(0,eSu8 a0),(1,.clo 172 [] [(.ref (.clo 147 [] [(.ref (i6 a1c0c0) [] [])]) [] [])]),(7,i6 (a0.length:Int)),(8,i6 x33),(9,.bool ((decide (x33 < (a0.length:Int)))))],[]⟩ (a_seq ?_))))
  cases hb43:(decide (x33 < (a0.length:Int)))
  ·have h:=ite_f hb43 h
   refine a_cond_f rfl (a_exit (t_exit ?_))
   cases h
   have h:=hX42
   refine t_exit (b_exit ?_)
   exact jl () h
  ·have h:=ite_t hb43 h
   refine a_cond_t rfl (a_skip (nj ⟨[(0,eSu8 a0),(1,.clo 172 [] [(.ref (.clo 147 [] [(.ref (i6 a1c0c0) [] [])]) [] [])]),(7,i6 (a0.length:Int)),(8,i6 x33)],[]⟩ (a_seq (a_block (sr (vr (i6 x33) (vr (i6 x33) (nk ⟨[(0,eSu8 a0),(1,.clo 172 [] [(.ref (.clo 147 [] [(.ref (i6 a1c0c0) [] [])]) [] [])]),(5,i6 x33),(7,i6 (a0.length:Int)),(8,i6 x33)],[]⟩ (sr ?_)))))))))
   refine vr (.clo 172 [] [(.ref (.clo 147 [] [(.ref (i6 a1c0c0) [] [])]) [] [])]) (vr (eSu8 a0) (vr (i6 x33) ?_))
   obtain ⟨hc44,h⟩:=ifp_some h
   refine vq (.ref (.row 1 (a0.map (AV.int .u8))) [x33.toNat] [x33.toNat*1]) rfl (lmap hc44) ?_
   have hl45:LdOk [x33.toNat] (.row 1 (a0.map (AV.int .u8))) [x33.toNat*1] 1 false (b8 (rd a0 x33.toNat)):=(.row (llt hc44) rfl (.nil rfl rfl rfl))
   refine vq (b8 (rd a0 x33.toNat)) (ld_ref (i:=⟨.int .u8,1,1,(.int .u8 0)⟩) rfl rfl hl45) hl45.c ?_
   obtain ⟨r46,hr47,h⟩:=bind_some h
   refine ca (impl_areAll_byte__c1_of_p_ok (rd a0 x33.toNat) a1c0c0 r46 hr47) (nk ⟨[(0,eSu8 a0),(1,.clo 172 [] [(.ref (.clo 147 [] [(.ref (i6 a1c0c0) [] [])]) [] [])]),(5,i6 x33),(7,i6 (a0.length:Int)),(8,i6 x33),(16,.bool r46)],[]⟩ ?_)
   cases hb48:r46
   ·have h:=ite_f hb48 h
    refine a_cond_f rfl (a_skip (b_norm (nj ⟨[(0,eSu8 a0),(1,.clo 172 [] [(.ref (.clo 147 [] [(.ref (i6 a1c0c0) [] [])]) [] [])]),(7,i6 (a0.length:Int)),(8,i6 x33)],[]⟩ (a_region (vr (i6 (IntKind.i64.wrap (x33 + 1))) (vr (i6 (IntKind.i64.wrap (x33 + 1))) (a_nil ?_)))))))
    cases h
    exact ag hX42
   ·have h:=ite_t hb48 h
    refine a_cond_t rfl (sr (vr (i6 x33) (vr (i6 x33) (nx _ rfl (a_ret (b_ret (t_ret ?_)))))))
    cases h
    have h:=hX42
    refine t_ret (b_ret (t_ret ?_))
    cases h
    have h:=hk26
    refine ⟨.inr rfl,?_⟩
    rw [Tryz.results176]
    cases h
    exact ⟨_,_,_,_,_,rfl,trivial,.inl ⟨rfl,.inl rfl⟩,rfl,rfl⟩
def slices_ContainsFunc_byte_byte_of_impl_areAll_byte__c1_p_L:Live:=[(0,[0,1]),(1,[0,1])]
noncomputable def slices_ContainsFunc_byte_byte_of_impl_areAll_byte__c1_p (a0:(List Int)) (a1c0c0:Int):Option Bool :=
 (Option.bind (slices_IndexFunc_byte_byte_of_impl_areAll_byte__c1_p a0 a1c0c0) fun r1=>(some ((decide (r1 ≥ 0)))))
theorem slices_ContainsFunc_byte_byte_of_impl_areAll_byte__c1_p_ok (a0:(List Int)) (a1c0c0:Int) (r:Bool) (h:slices_ContainsFunc_byte_byte_of_impl_areAll_byte__c1_p a0 a1c0c0=some r):Den Tryz.prog 171 [(eSu8 a0),(.clo 172 [] [(.ref (.clo 147 [] [(.ref (i6 a1c0c0) [] [])]) [] [])])] { r:=(.bool r) }:=by
 refine dd (rs:=[(.bool r)]) (L:=slices_ContainsFunc_byte_byte_of_impl_areAll_byte__c1_p_L) good [] Tryz.func171 Tryz.ntmps171 ?_
 refine ns ⟨[(0,eSu8 a0),(1,.clo 172 [] [(.ref (.clo 147 [] [(.ref (i6 a1c0c0) [] [])]) [] [])])],[]⟩ ?_
 refine sr (vr (.bool false) (nk ⟨[(0,eSu8 a0),(1,.clo 172 [] [(.ref (.clo 147 [] [(.ref (i6 a1c0c0) [] [])]) [] [])])],[]⟩ (sr (vr (eSu8 a0) (vr (.clo 172 [] [(.ref (.clo 147 [] [(.ref (i6 a1c0c0) [] [])]) [] [])]) ?_)))))
 obtain ⟨r1,hr2,h⟩:=bind_some h
 refine ca (slices_IndexFunc_byte_byte_of_impl_areAll_byte__c1_p_ok a0 a1c0c0 r1 hr2) (vr (.bool ((decide (r1 ≥ 0)))) (vr (.bool ((decide (r1 ≥ 0)))) (nx _ rfl (a_ret ?_))))
 refine ⟨.inr rfl,?_⟩
 rw [Tryz.results171]
 cases h
 exact ⟨_,_,_,_,_,rfl,trivial,.inl ⟨rfl,.inl rfl⟩,rfl,rfl⟩
def impl_areAll_byte_of_impl_isPoly_c1_p_L:Live:=[(0,[0,1]),(1,[0,3])]
noncomputable def impl_areAll_byte_of_impl_isPoly_c1_p (a0:(List Int)) (a1c0:Int):Option Bool :=
 (Option.bind (slices_ContainsFunc_byte_byte_of_impl_areAll_byte__c1_p a0 a1c0) fun r1=>(some (!r1)))
theorem impl_areAll_byte_of_impl_isPoly_c1_p_ok (a0:(List Int)) (a1c0:Int) (r:Bool) (h:impl_areAll_byte_of_impl_isPoly_c1_p a0 a1c0=some r):Den Tryz.prog 146 [(eSu8 a0),(.clo 147 [] [(.ref (i6 a1c0) [] [])])] { r:=(.bool r) }:=by
 refine dd (rs:=[(.bool r)]) (L:=impl_areAll_byte_of_impl_isPoly_c1_p_L) good [] Tryz.func146 Tryz.ntmps146 ?_
 refine ns ⟨[(0,eSu8 a0),(1,.clo 147 [] [(.ref (i6 a1c0) [] [])])],[]⟩ ?_
 refine sr (vo 1300 (.clo 147 [] [(.ref (i6 a1c0) [] [])]) rfl rfl (vr (.bool false) (nk ⟨[(0,eSu8 a0),(3,ow 3)],[(3,bk (.clo 147 [] [(.ref (i6 a1c0) [] [])]))]⟩ (sr (vr (eSu8 a0) (vu (.clo 172 [] [(.ref (.clo 147 [] [(.ref (i6 a1c0) [] [])]) [] [])]) [(3,bf (.clo 147 [] [(.ref (i6 a1c0) [] [])]))] rfl trivial rfl ?_))))))
 obtain ⟨r1,hr2,h⟩:=bind_some h
 refine ca (slices_ContainsFunc_byte_byte_of_impl_areAll_byte__c1_p_ok a0 a1c0 r1 hr2) (vr (.bool (!r1)) (vr (.bool (!r1)) (nx _ rfl (a_ret ?_))))
 refine ⟨.inr rfl,?_⟩
 rw [Tryz.results146]
 cases h
 exact ⟨_,_,_,_,_,rfl,trivial,.inl ⟨rfl,.inl rfl⟩,rfl,rfl⟩
def impl_isPoly_L:Live:=[(0,[0,1]),(1,[2,3])]
noncomputable def impl_isPoly (a0:Int) (a1:(Vec Int 64)):Option Bool :=
 (Option.bind (impl_areAll_byte_of_impl_isPoly_c1_p a1.1 a0) fun r1=>(some r1))
theorem impl_isPoly_ok (a0:Int) (a1:(Vec Int 64)) (r:Bool) (h:impl_isPoly a0 a1=some r):Den Tryz.prog 90 [(i6 a0),(eVb a1)] { r:=(.bool r) }:=by
 refine dd (rs:=[(.bool r)]) (L:=impl_isPoly_L) good [] Tryz.func90 Tryz.ntmps90 ?_
 refine ns ⟨[(0,i6 a0),(1,eVb a1)],[]⟩ ?_
 refine sr (vo 1200 (i6 a0) rfl rfl (vo 1300 (eVb a1) rfl rfl (vr (.bool false) (nk ⟨[(2,ow 2),(3,ow 3)],[(2,bk (i6 a0)),(3,bk (eVb a1))]⟩ (sr (vu (.sl 1 true (a1.1.map (AV.int .u8))) [(3,bf (eVb a1))] rfl ⟨rfl,trivial,rfl,rfl⟩ rfl (vu (.clo 147 [] [(.ref (i6 a0) [] [])]) [(2,bf (i6 a0))] rfl trivial rfl ?_)))))))
 obtain ⟨r1,hr2,h⟩:=bind_some h
 refine a_call (args:=[(.sl 1 true (a1.1.map (AV.int .u8))),(.clo 147 [] [(.ref (i6 a0) [] [])])]) (u:=[]) (r:=(.bool r1)) rfl rfl (Den.args (impl_areAll_byte_of_impl_isPoly_c1_p_ok a1.1 a0 r1 hr2) rfl rfl (.cons (.loose _) (.cons (.refl _) .nil))) rfl (vr (.bool r1) (nx _ rfl (a_ret ?_)))
 refine ⟨.inr rfl,?_⟩
 rw [Tryz.results90]
 cases h
 exact ⟨_,_,_,_,_,rfl,trivial,.inl ⟨rfl,.inl rfl⟩,rfl,rfl⟩
def impl_polysCode_c1_of_p_L:Live:=[(0,[0,1]),(1,[1,2])]
noncomputable def impl_polysCode_c1_of_p (a0:(Vec Int 64)) (a1:Int):Option Bool :=
 (Option.bind (impl_isPoly a1 a0) fun r3=>(some r3))
theorem impl_polysCode_c1_of_p_ok (a0:(Vec Int 64)) (a1:Int) (r:Bool) (h:impl_polysCode_c1_of_p a0 a1=some r):Den Tryz.prog 132 [(eVb a0),(.ref (i6 a1) [] [])] { r:=(.bool r) }:=by
 refine dd (rs:=[(.bool r)]) (L:=impl_polysCode_c1_of_p_L) good [] Tryz.func132 Tryz.ntmps132 ?_
 refine ns ⟨[(0,eVb a0),(1,.ref (i6 a1) [] [])],[]⟩ ?_
 refine sr (vo 1200 (eVb a0) rfl rfl (vr (.bool false) (nk ⟨[(1,.ref (i6 a1) [] []),(2,ow 2)],[(2,bk (eVb a0))]⟩ (sr ?_))))
 have hl1:LdOk [] (i6 a1) [] 1 false (i6 a1):=(.nil rfl rfl rfl)
 refine vq (i6 a1) (ld_ref (i:=⟨.int .i64,1,8,(.int .i64 0)⟩) rfl rfl hl1) hl1.c (vl (eVb a0) rfl rfl rfl rfl rfl rfl ?_)
 obtain ⟨r3,hr4,h⟩:=bind_some h
 refine ca (impl_isPoly_ok a1 a0 r3 hr4) (vr (.bool r3) (nx _ rfl (a_ret ?_)))
 refine ⟨.inr rfl,?_⟩
 rw [Tryz.results132]
 cases h
 exact ⟨_,_,_,_,_,rfl,trivial,.inl ⟨rfl,.inl rfl⟩,rfl,rfl⟩
def impl_areAll_impl_Poly__c1_of_p_L:Live:=[(0,[0,1]),(1,[1,2])]
noncomputable def impl_areAll_impl_Poly__c1_of_p (a0:(Vec Int 64)) (a1c0:Int):Option Bool :=
 (Option.bind (impl_polysCode_c1_of_p a0 a1c0) fun r3=>(some (!r3)))
theorem impl_areAll_impl_Poly__c1_of_p_ok (a0:(Vec Int 64)) (a1c0:Int) (r:Bool) (h:impl_areAll_impl_Poly__c1_of_p a0 a1c0=some r):Den Tryz.prog 163 [(eVb a0),(.ref (.clo 132 [] [(.ref (i6 a1c0) [] [])]) [] [])] { r:=(.bool r) }:=by
 refine dd (rs:=[(.bool r)]) (L:=impl_areAll_impl_Poly__c1_of_p_L) good [] Tryz.func163 Tryz.ntmps163 ?_
 refine ns ⟨[(0,eVb a0),(1,.ref (.clo 132 [] [(.ref (i6 a1c0) [] [])]) [] [])],[]⟩ ?_
 refine sr (vo 1200 (eVb a0) rfl rfl (vr (.bool false) (nk ⟨[(1,.ref (.clo 132 [] [(.ref (i6 a1c0) [] [])]) [] []),(2,ow 2)],[(2,bk (eVb a0))]⟩ (sr ?_))))
 have hl1:LdOk [] (.clo 132 [] [(.ref (i6 a1c0) [] [])]) [] 1 false (.clo 132 [] [(.ref (i6 a1c0) [] [])]):=(.nil rfl rfl rfl)
 refine vq (.clo 132 [] [(.ref (i6 a1c0) [] [])]) (ld_ref (i:=⟨.other,1,8,(.raw .nilFunc)⟩) rfl rfl hl1) hl1.c (vl (eVb a0) rfl rfl rfl rfl rfl rfl ?_)
 obtain ⟨r3,hr4,h⟩:=bind_some h
 refine ca (impl_polysCode_c1_of_p_ok a0 a1c0 r3 hr4) (vr (.bool (!r3)) (vr (.bool (!r3)) (nx _ rfl (a_ret ?_))))
 refine ⟨.inr rfl,?_⟩
 rw [Tryz.results163]
 cases h
 exact ⟨_,_,_,_,_,rfl,trivial,.inl ⟨rfl,.inl rfl⟩,rfl,rfl⟩
def slices_IndexFunc_impl_Poly_impl_Poly_of_impl_areAll_impl_Poly__c1_p_L:Live:=[(0,[0,1]),(1,[0,1]),(2,[0,1,7,8]),(3,[0,1,7,8]),(4,[0,1,5,7,8]),(5,[5]),(6,[0,1,7,8]),(7,[]),(100009,[0,1,7,8,9]),(100016,[0,1,5,7,8,16])]
noncomputable def slices_IndexFunc_impl_Poly_impl_Poly_of_impl_areAll_impl_Poly__c1_p_l1 (a0:(List (Vec Int 64))) (a1c0c0:Int) (x33:Int):Option (Int⊕(Unit⊕Int)) :=
 (if (decide (x33 < (a0.length:Int))) then (ifp (0≤x33∧x33 < ((a0.length:Nat):Int)) ((Option.bind (impl_areAll_impl_Poly__c1_of_p (rd a0 x33.toNat) a1c0c0) fun r46=>(if r46 then (some (.inr (.inr x33))) else (some (.inl (IntKind.i64.wrap (x33 + 1)))))))) else (some (.inr (((.inl ()))))))
noncomputable def slices_IndexFunc_impl_Poly_impl_Poly_of_impl_areAll_impl_Poly__c1_p (a0:(List (Vec Int 64))) (a1c0c0:Int):Option Int :=
 (Option.bind (α:=(Unit⊕Int)) ((loopM (fun s:Int=>slices_IndexFunc_impl_Poly_impl_Poly_of_impl_areAll_impl_Poly__c1_p_l1 a0 a1c0c0 s) 0)) fun z=>match z with | .inl _=>(some (-1)) | .inr r50=>(some r50))
theorem slices_IndexFunc_impl_Poly_impl_Poly_of_impl_areAll_impl_Poly__c1_p_ok (a0:(List (Vec Int 64))) (a1c0c0:Int) (r:Int) (h:slices_IndexFunc_impl_Poly_impl_Poly_of_impl_areAll_impl_Poly__c1_p a0 a1c0c0=some r):Den Tryz.prog 174 [(eSA64u8 a0),(.clo 163 [] [(.ref (.clo 132 [] [(.ref (i6 a1c0c0) [] [])]) [] [])])] { r:=(i6 r) }:=by
 refine dd (rs:=[(i6 r)]) (L:=slices_IndexFunc_impl_Poly_impl_Poly_of_impl_areAll_impl_Poly__c1_p_L) good [] Tryz.func174 Tryz.ntmps174 ?_
 refine ns ⟨[(0,eSA64u8 a0),(1,.clo 163 [] [(.ref (.clo 132 [] [(.ref (i6 a1c0c0) [] [])]) [] [])])],[]⟩ ?_
 refine sr (vr (i6 0) (nk ⟨[(0,eSA64u8 a0),(1,.clo 163 [] [(.ref (.clo 132 [] [(.ref (i6 a1c0c0) [] [])]) [] [])])],[]⟩ ?_))
 obtain ⟨y24,hy25,hk26⟩:=bind_some h
 clear h
 refine a_join (emb:=fun (s:Unit)=>⟨[],[]⟩) (pre:=fun s=>(.inl s)=y24) ?_ ?_
 ·rintro _ rfl
  have h:=hk26
  refine ns ⟨[],[]⟩ (sr (vr (i6 (-1)) (nx _ rfl (a_ret ?_))))
  refine ⟨.inr rfl,?_⟩
  rw [Tryz.results174]
  cases h
  exact ⟨_,_,_,_,_,rfl,trivial,.inl ⟨rfl,.inl rfl⟩,rfl,rfl⟩
 ·have h:=hy25
  refine sr (vr (eSA64u8 a0) (vq (i6 (a0.length:Int)) (len_run rfl rfl) trivial (vr (i6 0) (nk ⟨[(0,eSA64u8 a0),(1,.clo 163 [] [(.ref (.clo 132 [] [(.ref (i6 a1c0c0) [] [])]) [] [])]),(7,i6 (a0.length:Int)),(8,i6 0)],[]⟩ (a_block ?_)))))
  refine a_loop (emb:=fun (s:Int)=>⟨[(0,eSA64u8 a0),(1,.clo 163 [] [(.ref (.clo 132 [] [(.ref (i6 a1c0c0) [] [])]) [] [])]),(7,i6 (a0.length:Int)),(8,i6 s)],[]⟩) (body:=(fun s:Int=>slices_IndexFunc_impl_Poly_impl_Poly_of_impl_areAll_impl_Poly__c1_p_l1 a0 a1c0c0 s)) (G:=fun q=>some q=some y24) h rfl ?_ (by kernel_rfl)
  rintro X40 x33 x41 h hX42
  have h:slices_IndexFunc_impl_Poly_impl_Poly_of_impl_areAll_impl_Poly__c1_p_l1 a0 a1c0c0 x33=some x41:=h
  refine ns ⟨[(0,eSA64u8 a0),(1,.clo 163 [] [(.ref (.clo 132 [] [(.ref (i6 a1c0c0) [] [])]) [] [])]),(7,i6 (a0.length:Int)),(8,i6 x33)],[]⟩ (sr (vr (.bool ((decide (x33 < (a0.length:Int))))) (nk ⟨[(0,eSA64u8 a0),(1,.clo 163 [] [(.ref (.clo 132 [] [(.ref (i6 a1c0c0) [] [])]) [] [])]),(7,i6 (a0.length:Int)),(8,i6 x33),(9,.bool ((decide (x33 < (a0.length:Int)))))],[]⟩ (a_seq ?_))))
  cases hb43:(decide (x33 < (a0.length:Int)))
  ·have h:=ite_f hb43 h
   refine a_cond_f rfl (a_exit (t_exit ?_))
   cases h
   have h:=hX42
   refine t_exit (b_exit ?_)
   exact jl () h
  ·have h:=ite_t hb43 h
   refine a_cond_t rfl (a_skip (nj ⟨[(0,eSA64u8 a0),(1,.clo 163 [] [(.ref (.clo 132 [] [(.ref (i6 a1c0c0) [] [])]) [] [])]),(7,i6 (a0.length:Int)),(8,i6 x33)],[]⟩ (a_seq (a_block (sr (vr (i6 x33) (vr (i6 x33) (nk ⟨[(0,eSA64u8 a0),(1,.clo 163 [] [(.ref (.clo 132 [] [(.ref (i6 a1c0c0) [] [])]) [] [])]),(5,i6 x33),(7,i6 (a0.length:Int)),(8,i6 x33)],[]⟩ (sr ?_)))))))))
   refine vr (.clo 163 [] [(.ref (.clo 132 [] [(.ref (i6 a1c0c0) [] [])]) [] [])]) (vr (eSA64u8 a0) (vr (i6 x33) ?_))
   obtain ⟨hc44,h⟩:=ifp_some h
   refine vq (.ref (.row 64 (a0.map eVb)) [x33.toNat] [x33.toNat*64]) rfl (lmap hc44) ?_
   have hl45:LdOk [x33.toNat] (.row 64 (a0.map eVb)) [x33.toNat*64] 64 true (eVb (rd a0 x33.toNat)):=(.row (llt hc44) rfl (.nil rfl rfl rfl))
   refine vq (eVb (rd a0 x33.toNat)) (ld_ref (i:=⟨.arr 64 5,64,64,(eVb (vrep 64 (0:Int)))⟩) rfl rfl hl45) hl45.c ?_
   obtain ⟨r46,hr47,h⟩:=bind_some h
   refine ca (impl_areAll_impl_Poly__c1_of_p_ok (rd a0 x33.toNat) a1c0c0 r46 hr47) (nk ⟨[(0,eSA64u8 a0),(1,.clo 163 [] [(.ref (.clo 132 [] [(.ref (i6 a1c0c0) [] [])]) [] [])]),(5,i6 x33),(7,i6 (a0.length:Int)),(8,i6 x33),(16,.bool r46)],[]⟩ ?_)
   cases hb48:r46
   ·have h:=ite_f hb48 h
    refine a_cond_f rfl (a_skip (b_norm (nj ⟨[(0,eSA64u8 a0),(1,.clo 163 [] [(.ref (.clo 132 [] [(.ref (i6 a1c0c0) [] [])]) [] [])]),(7,i6 (a0.length:Int)),(8,i6 x33)],[]⟩ (a_region (vr (i6 (IntKind.i64.wrap (x33 + 1))) (vr (i6 (IntKind.i64.wrap (x33 + 1))) (a_nil ?_)))))))
    cases h
    exact ag hX42
   ·have h:=ite_t hb48 h
    refine a_cond_t rfl (sr (vr (i6 x33) (vr (i6 x33) (nx _ rfl (a_ret (b_ret (t_ret ?_)))))))
    cases h
    have h:=hX42
    refine t_ret (b_ret (t_ret ?_))
    cases h
    have h:=hk26
    refine ⟨.inr rfl,?_⟩
    rw [Tryz.results174]
    cases h
    exact ⟨_,_,_,_,_,rfl,trivial,.inl ⟨rfl,.inl rfl⟩,rfl,rfl⟩
def slices_ContainsFunc_impl_Poly_impl_Poly_of_impl_areAll_impl_Poly__c1_p_L:Live:=[(0,[0,1]),(1,[0,1])]
noncomputable def slices_ContainsFunc_impl_Poly_impl_Poly_of_impl_areAll_impl_Poly__c1_p (a0:(List (Vec Int 64))) (a1c0c0:Int):Option Bool :=
 (Option.bind (slices_IndexFunc_impl_Poly_impl_Poly_of_impl_areAll_impl_Poly__c1_p a0 a1c0c0) fun r1=>(some ((decide (r1 ≥ 0)))))
theorem slices_ContainsFunc_impl_Poly_impl_Poly_of_impl_areAll_impl_Poly__c1_p_ok (a0:(List (Vec Int 64))) (a1c0c0:Int) (r:Bool) (h:slices_ContainsFunc_impl_Poly_impl_Poly_of_impl_areAll_impl_Poly__c1_p a0 a1c0c0=some r):Den Tryz.prog 162 [(eSA64u8 a0),(.clo 163 [] [(.ref (.clo 132 [] [(.ref (i6 a1c0c0) [] [])]) [] [])])] { r:=(.bool r) }:=by
 refine dd (rs:=[(.bool r)]) (L:=slices_ContainsFunc_impl_Poly_impl_Poly_of_impl_areAll_impl_Poly__c1_p_L) good [] Tryz.func162 Tryz.ntmps162 ?_
 refine ns ⟨[(0,eSA64u8 a0),(1,.clo 163 [] [(.ref (.clo 132 [] [(.ref (i6 a1c0c0) [] [])]) [] [])])],[]⟩ ?_
 refine sr (vr (.bool false) (nk ⟨[(0,eSA64u8 a0),(1,.clo 163 [] [(.ref (.clo 132 [] [(.ref (i6 a1c0c0) [] [])]) [] [])])],[]⟩ (sr (vr (eSA64u8 a0) (vr (.clo 163 [] [(.ref (.clo 132 [] [(.ref (i6 a1c0c0) [] [])]) [] [])]) ?_)))))
 obtain ⟨r1,hr2,h⟩:=bind_some h
 refine ca (slices_IndexFunc_impl_Poly_impl_Poly_of_impl_areAll_impl_Poly__c1_p_ok a0 a1c0c0 r1 hr2) (vr (.bool ((decide (r1 ≥ 0)))) (vr (.bool ((decide (r1 ≥ 0)))) (nx _ rfl (a_ret ?_))))
 refine ⟨.inr rfl,?_⟩
 rw [Tryz.results162]
 cases h
 exact ⟨_,_,_,_,_,rfl,trivial,.inl ⟨rfl,.inl rfl⟩,rfl,rfl⟩
def impl_areAll_impl_Poly_of_impl_polysCode_c1_p_L:Live:=[(0,[0,1]),(1,[0,3])]
noncomputable def impl_areAll_impl_Poly_of_impl_polysCode_c1_p (a0:(List (Vec Int 64))) (a1c0:Int):Option Bool :=
 (Option.bind (slices_ContainsFunc_impl_Poly_impl_Poly_of_impl_areAll_impl_Poly__c1_p a0 a1c0) fun r1=>(some (!r1)))
theorem impl_areAll_impl_Poly_of_impl_polysCode_c1_p_ok (a0:(List (Vec Int 64))) (a1c0:Int) (r:Bool) (h:impl_areAll_impl_Poly_of_impl_polysCode_c1_p a0 a1c0=some r):Den Tryz.prog 131 [(eSA64u8 a0),(.clo 132 [] [(.ref (i6 a1c0) [] [])])] { r:=(.bool r) }:=by
 refine dd (rs:=[(.bool r)]) (L:=impl_areAll_impl_Poly_of_impl_polysCode_c1_p_L) good [] Tryz.func131 Tryz.ntmps131 ?_
 refine ns ⟨[(0,eSA64u8 a0),(1,.clo 132 [] [(.ref (i6 a1c0) [] [])])],[]⟩ ?_
 refine sr (vo 1300 (.clo 132 [] [(.ref (i6 a1c0) [] [])]) rfl rfl (vr (.bool false) (nk ⟨[(0,eSA64u8 a0),(3,ow 3)],[(3,bk (.clo 132 [] [(.ref (i6 a1c0) [] [])]))]⟩ (sr (vr (eSA64u8 a0) (vu (.clo 163 [] [(.ref (.clo 132 [] [(.ref (i6 a1c0) [] [])]) [] [])]) [(3,bf (.clo 132 [] [(.ref (i6 a1c0) [] [])]))] rfl trivial rfl ?_))))))
 obtain ⟨r1,hr2,h⟩:=bind_some h
 refine ca (slices_ContainsFunc_impl_Poly_impl_Poly_of_impl_areAll_impl_Poly__c1_p_ok a0 a1c0 r1 hr2) (vr (.bool (!r1)) (vr (.bool (!r1)) (nx _ rfl (a_ret ?_))))
 refine ⟨.inr rfl,?_⟩
 rw [Tryz.results131]
 cases h
 exact ⟨_,_,_,_,_,rfl,trivial,.inl ⟨rfl,.inl rfl⟩,rfl,rfl⟩
def impl_polysCode_L:Live:=[(0,[0,1]),(1,[1,2]),(2,[]),(3,[]),(100013,[13])]
noncomputable def impl_polysCode (a0:Int) (a1:(List (Vec Int 64))):Option Int :=
 (Option.bind (α:=Bool) ((Option.bind (impl_isPrime a0) fun r12=>(if (!r12) then (some true) else (Option.bind (impl_areAll_impl_Poly_of_impl_polysCode_c1_p a1 a0) fun r15=>(some (!r15)))))) fun x7=>(if x7 then (some 1) else (some 0)))
theorem impl_polysCode_ok (a0:Int) (a1:(List (Vec Int 64))) (r:Int) (h:impl_polysCode a0 a1=some r):Den Tryz.prog 73 [(i6 a0),(eSA64u8 a1)] { r:=(i6 r) }:=by
 refine dd (rs:=[(i6 r)]) (L:=impl_polysCode_L) good [] Tryz.func73 Tryz.ntmps73 ?_
 refine ns ⟨[(0,i6 a0),(1,eSA64u8 a1)],[]⟩ ?_
 refine sr (vo 1200 (i6 a0) rfl rfl (vr (i6 0) (nk ⟨[(1,eSA64u8 a1),(2,ow 2)],[(2,bk (i6 a0))]⟩ (a_seq ?_))))
 obtain ⟨y8,hy9,hk10⟩:=bind_some h
 clear h
 refine a_join (emb:=fun (s:Bool)=>⟨[(13,.bool s)],[]⟩) (pre:=fun s=>s=y8) ?_ ?_
 ·rintro x7 rfl
  have h:=hk10
  refine ns ⟨[(13,.bool x7)],[]⟩ ?_
  cases hb17:x7
  ·have h:=ite_f hb17 h
   refine a_cond_f rfl (a_skip (nj ⟨[],[]⟩ (sr (vr (i6 0) (nx _ rfl (a_ret ?_))))))
   refine ⟨.inr rfl,?_⟩
   rw [Tryz.results73]
   cases h
   exact ⟨_,_,_,_,_,rfl,trivial,.inl ⟨rfl,.inl rfl⟩,rfl,rfl⟩
  ·have h:=ite_t hb17 h
   refine a_cond_t rfl (sr (vr (i6 1) (nx _ rfl (a_ret (t_ret ?_)))))
   refine ⟨.inr rfl,?_⟩
   rw [Tryz.results73]
   cases h
   exact ⟨_,_,_,_,_,rfl,trivial,.inl ⟨rfl,.inl rfl⟩,rfl,rfl⟩
 ·have h:=hy9
  refine a_region (vl (i6 a0) rfl rfl rfl rfl rfl rfl ?_)
  obtain ⟨r12,hr13,h⟩:=bind_some h
  refine ca (impl_isPrime_ok a0 r12 hr13) (vr (.bool (!r12)) (vr (.bool (!r12)) ?_))
  cases hb14:(!r12)
  ·have h:=ite_f hb14 h
   refine gp (eSA64u8 a1) rfl rfl (a_gval rfl (v:=(.clo 132 [] [(.ref (i6 a0) [] [])])) (u:=[(2,bf (i6 a0))]) rfl trivial rfl ?_)
   obtain ⟨r15,hr16,h⟩:=bind_some h
   refine a_gcall rfl (args:=[(eSA64u8 a1),(.clo 132 [] [(.ref (i6 a0) [] [])])]) (u:=[]) (r:=(.bool r15)) rfl rfl (impl_areAll_impl_Poly_of_impl_polysCode_c1_p_ok a1 a0 r15 hr16) rfl (gp (.bool (!r15)) rfl rfl (vr (.bool (!r15)) (a_nil ?_)))
   exact jl (!r15) h
  ·have h:=ite_t hb14 h
   refine a_gskip rfl (a_gskip rfl (a_gskip rfl (a_gskip rfl (vr (.bool true) (a_nil ?_)))))
   exact jl true h
def impl_row_trimmed_L:Live:=[(0,[0]),(1,[0]),(2,[0,3]),(3,[0,3]),(4,[0,3]),(100015,[0,3,15])]
noncomputable def impl_row_trimmed_l1 (a0:(List Int)) (x62:Int):Option (Int⊕Int) :=
 (Option.bind (α:=Bool) ((if (decide (x62 > 0)) then (ifp (0≤IntKind.i64.wrap (x62 - 1)∧IntKind.i64.wrap (x62 - 1) < ((a0.length:Nat):Int)) ((some ((((rd a0 (IntKind.i64.wrap (x62 - 1)).toNat)) == 0))))) else (some false))) fun x80=>(if x80 then (some (.inl (IntKind.i64.wrap (x62 - 1)))) else (some (.inr x62))))
noncomputable def impl_row_trimmed (a0:(List Int)):Option (List Int) :=
 (Option.bind (α:=Int) ((loopM (fun s:Int=>impl_row_trimmed_l1 a0 s) (a0.length:Int))) fun x43=>(ifp (0≤x43∧x43≤(a0.length:Int)) ((some (a0.take x43.toNat)))))
theorem impl_row_trimmed_ok (a0:(List Int)) (r:(List Int)) (h:impl_row_trimmed a0=some r):Den Tryz.prog 109 [(eSi64 a0)] { r:=(eSi64 r) }:=by
 refine dd (rs:=[(eSi64 r)]) (L:=impl_row_trimmed_L) good [(2,1)] Tryz.func109 Tryz.ntmps109 ?_
 refine ns ⟨[(0,eSi64 a0)],[]⟩ ?_
 refine sr (vr (eSi64 ([])) (nk ⟨[(0,eSi64 a0)],[]⟩ (sr (vr (eSi64 a0) (vq (i6 (a0.length:Int)) (len_run rfl rfl) trivial (vr (i6 (a0.length:Int)) (nk ⟨[(0,eSi64 a0),(3,i6 (a0.length:Int))],[]⟩ ?_)))))))
 obtain ⟨y44,hy45,hk46⟩:=bind_some h
 clear h
 refine a_join (emb:=fun (s:Int)=>⟨[(0,eSi64 a0),(3,i6 s)],[]⟩) (pre:=fun s=>s=y44) ?_ ?_
 ·rintro x43 rfl
  have h:=hk46
  refine ns ⟨[(0,eSi64 a0),(3,i6 x43)],[]⟩ (sr (vr (eSi64 a0) (vr (i6 x43) (vr (i6 x43) ?_))))
  obtain ⟨hc89,h⟩:=ifp_some h
  refine vq (.sl 1 true ((a0.take x43.toNat).map (AV.int .i64))) (take3_run (f:=(AV.int .i64)) (l:=a0) (i:=⟨.int .i64,1,8,(.int .i64 0)⟩) rfl rfl rfl rfl (fun _=>rfl)) ⟨hc89.1,lmap_le hc89.2,rfl⟩ (vq (eSi64 (a0.take x43.toNat)) (asg_tight (i:=⟨.int .i64,1,8,(.int .i64 0)⟩) (f:=(AV.int .i64)) (l:=(a0.take x43.toNat)) rfl rfl rfl) trivial (nx _ rfl (a_ret ?_)))
  refine ⟨.inr rfl,?_⟩
  rw [Tryz.results109]
  cases h
  exact ⟨_,_,_,_,_,rfl,trivial,.inl ⟨rfl,.inl rfl⟩,rfl,rfl⟩
 ·have h:=hy45
  refine a_block ?_
  refine a_loop (emb:=fun (s:Int)=>⟨[(0,eSi64 a0),(3,i6 s)],[]⟩) (body:=(fun s:Int=>impl_row_trimmed_l1 a0 s)) (G:=fun q=>some q=some y44) h rfl ?_ (by kernel_rfl)
  rintro X74 x62 x75 h hX76
  have h:impl_row_trimmed_l1 a0 x62=some x75:=h
  refine ns ⟨[(0,eSi64 a0),(3,i6 x62)],[]⟩ (a_seq ?_)
  obtain ⟨y81,hy82,hk83⟩:=bind_some h
  clear h
  refine a_join (emb:=fun (s:Bool)=>⟨[(0,eSi64 a0),(3,i6 x62),(15,.bool s)],[]⟩) (pre:=fun s=>s=y81) ?_ ?_
  ·rintro x80 rfl
   have h:=hk83
   refine ns ⟨[(0,eSi64 a0),(3,i6 x62),(15,.bool x80)],[]⟩ ?_
   cases hb87:x80
   ·have h:=ite_f hb87 h
    refine a_cond_f rfl (a_exit (t_exit ?_))
    cases h
    have h:=hX76
    refine t_exit (b_exit ?_)
    exact jl x62 h
   ·have h:=ite_t hb87 h
    refine a_cond_t rfl (a_skip (nj ⟨[(0,eSi64 a0),(3,i6 x62)],[]⟩ (a_block (a_region (vr (i6 x62) (vr (i6 (IntKind.i64.wrap (x62 - 1))) (vr (i6 (IntKind.i64.wrap (x62 - 1))) (a_nil (b_norm ?_)))))))))
    cases h
    exact ag hX76
  ·have h:=hy82
   refine a_region (vr (i6 x62) (vr (.bool ((decide (x62 > 0)))) (vr (.bool ((decide (x62 > 0)))) ?_)))
   cases hb84:(decide (x62 > 0))
   ·have h:=ite_f hb84 h
    refine a_gskip rfl (a_gskip rfl (a_gskip rfl (a_gskip rfl (a_gskip rfl (a_gskip rfl (vr (.bool false) (a_nil ?_)))))))
    exact jl false h
   ·have h:=ite_t hb84 h
    refine gp (eSi64 a0) rfl rfl (gp (i6 x62) rfl rfl (gp (i6 (IntKind.i64.wrap (x62 - 1))) rfl rfl ?_))
    obtain ⟨hc85,h⟩:=ifp_some h
    refine gq (.ref (.row 1 (a0.map (AV.int .i64))) [(IntKind.i64.wrap (x62 - 1)).toNat] [(IntKind.i64.wrap (x62 - 1)).toNat*1]) rfl rfl (lmap hc85) ?_
    have hl86:LdOk [(IntKind.i64.wrap (x62 - 1)).toNat] (.row 1 (a0.map (AV.int .i64))) [(IntKind.i64.wrap (x62 - 1)).toNat*1] 1 false (i6 ((rd a0 (IntKind.i64.wrap (x62 - 1)).toNat))):=(.row (llt hc85) rfl (.nil rfl rfl rfl))
    refine gq (i6 ((rd a0 (IntKind.i64.wrap (x62 - 1)).toNat))) rfl (ld_ref (i:=⟨.int .i64,1,8,(.int .i64 0)⟩) rfl rfl hl86) hl86.c (gp (.bool ((((rd a0 (IntKind.i64.wrap (x62 - 1)).toNat)) == 0))) rfl rfl (vr (.bool ((((rd a0 (IntKind.i64.wrap (x62 - 1)).toNat)) == 0))) (a_nil ?_)))
    exact jl ((((rd a0 (IntKind.i64.wrap (x62 - 1)).toNat)) == 0)) h
def impl_rowOf_L:Live:=[(0,[0]),(1,[1]),(2,[1,3]),(3,[3,6,7]),(4,[3,6,7]),(5,[3,5,6,7]),(6,[3,6,7]),(7,[3]),(100008,[3,6,7,8])]
noncomputable def impl_rowOf_l1 (a0:(Vec Int 64)) (x25:Int) (x26:(List Int)):Option ((Int×(List Int))⊕(List Int)) :=
 (if (decide (x25 < 64)) then (ifp (0≤x25∧x25 < ((64:Nat):Int)) ((ifp ((x26.length + ([IntKind.i64.wrap (rd a0.1 x25.toNat)]:List Int).length)*8≤140737488355328) ((some (.inl ((IntKind.i64.wrap (x25 + 1),(x26 ++ ([IntKind.i64.wrap (rd a0.1 x25.toNat)])))))))))) else (some (.inr x26)))
noncomputable def impl_rowOf (a0:(Vec Int 64)):Option (List Int) :=
 (Option.bind (α:=(List Int)) ((loopM (fun s:(Int×(List Int))=>impl_rowOf_l1 a0 s.1 s.2) (0,[]))) fun x17=>(Option.bind (impl_row_trimmed x17) fun r37=>(some r37)))
theorem impl_rowOf_ok (a0:(Vec Int 64)) (r:(List Int)) (h:impl_rowOf a0=some r):Den Tryz.prog 50 [(eVb a0)] { r:=(eSi64 r) }:=by
 refine dd (rs:=[(eSi64 r)]) (L:=impl_rowOf_L) good [(2,1),(3,2)] Tryz.func50 Tryz.ntmps50 ?_
 refine ns ⟨[(0,eVb a0)],[]⟩ ?_
 refine sr (vo 1100 (eVb a0) rfl rfl (vr (eSi64 ([])) (nk ⟨[(1,ow 1)],[(1,bk (eVb a0))]⟩ (sr (vu (.osl 1300) [(1300,bk (.row 1 (([]).map (AV.int .i64))))] rfl trivial rfl (nk ⟨[(1,ow 1),(3,.osl 3)],[(1,bk (eVb a0)),(3,bk (.row 1 (([]).map (AV.int .i64))))]⟩ ?_))))))
 obtain ⟨y18,hy19,hk20⟩:=bind_some h
 clear h
 refine a_join (emb:=fun (s:(List Int))=>⟨[(3,.osl 3)],[(3,bk (.row 1 (s.map (AV.int .i64))))]⟩) (pre:=fun s=>s=y18) ?_ ?_
 ·rintro x17 rfl
  have h:=hk20
  refine ns ⟨[(3,.osl 3)],[(3,bk (.row 1 (x17.map (AV.int .i64))))]⟩ (sr (vr (.osl 3) ?_))
  obtain ⟨r37,hr38,h⟩:=bind_some h
  refine a_call (args:=[(eSi64 x17)]) (u:=[(3,bf (.row 1 (x17.map (AV.int .i64))))]) (r:=(eSi64 r37)) rfl rfl (impl_row_trimmed_ok x17 r37 hr38) rfl (vr (eSi64 r37) (nx _ rfl (a_ret ?_)))
  refine ⟨.inr rfl,?_⟩
  rw [Tryz.results50]
  cases h
  exact ⟨_,_,_,_,_,rfl,trivial,.inl ⟨rfl,.inl rfl⟩,rfl,rfl⟩
 ·have h:=hy19
  refine sr (vl (eVb a0) rfl rfl rfl rfl rfl rfl (vr (i6 0) (nk ⟨[(3,.osl 3),(6,eVb a0),(7,i6 0)],[(3,bk (.row 1 (([]).map (AV.int .i64))))]⟩ (a_block ?_))))
  refine a_loop (emb:=fun (s:(Int×(List Int)))=>⟨[(3,.osl 3),(6,eVb a0),(7,i6 s.1)],[(3,bk (.row 1 (s.2.map (AV.int .i64))))]⟩) (body:=(fun s:(Int×(List Int))=>impl_rowOf_l1 a0 s.1 s.2)) (G:=fun q=>some q=some y18) h rfl ?_ (by kernel_rfl)
  rintro X30 ⟨x25,x26⟩ x31 h hX32
  have h:impl_rowOf_l1 a0 x25 x26=some x31:=h
  refine ns ⟨[(3,.osl 3),(6,eVb a0),(7,i6 x25)],[(3,bk (.row 1 (x26.map (AV.int .i64))))]⟩ (sr (vr (.bool ((decide (x25 < 64)))) (nk ⟨[(3,.osl 3),(6,eVb a0),(7,i6 x25),(8,.bool ((decide (x25 < 64))))],[(3,bk (.row 1 (x26.map (AV.int .i64))))]⟩ (a_seq ?_))))
  cases hb33:(decide (x25 < 64))
  ·have h:=ite_f hb33 h
   refine a_cond_f rfl (a_exit (t_exit ?_))
   cases h
   have h:=hX32
   refine t_exit (b_exit ?_)
   exact jl x26 h
  ·have h:=ite_t hb33 h
   refine a_cond_t rfl (a_skip (nj ⟨[(3,.osl 3),(6,eVb a0),(7,i6 x25)],[(3,bk (.row 1 (x26.map (AV.int .i64))))]⟩ (a_seq (a_block (sr ?_)))))
   obtain ⟨hc34,h⟩:=ifp_some h
   refine vq (b8 (rd a0.1 x25.toNat)) (ix_run (i:=⟨.int .u8,1,1,(.int .u8 0)⟩) (f:=(AV.int .u8)) rfl rfl rfl rfl (vlt a0 hc34)) ⟨hc34.1,hc34.2,rfl,rfl,rfl,rfl⟩ (vr (b8 (rd a0.1 x25.toNat)) (nk ⟨[(3,.osl 3),(5,b8 (rd a0.1 x25.toNat)),(6,eVb a0),(7,i6 x25)],[(3,bk (.row 1 (x26.map (AV.int .i64))))]⟩ (a_region (vr (.osl 3) (vr (b8 (rd a0.1 x25.toNat)) (vr (i6 (IntKind.i64.wrap (rd a0.1 x25.toNat))) (vq (.sl 1 true (([IntKind.i64.wrap (rd a0.1 x25.toNat)]).map (AV.int .i64))) rfl ⟨(Nat.le_of_ble_eq_true rfl),(Nat.le_of_ble_eq_true rfl),(all_cons ⟨(Nat.le_of_ble_eq_true rfl),rfl⟩ all_nil)⟩ ?_)))))))
   obtain ⟨hc35,h⟩:=ifp_some h
   refine vu (.osl 2400) [(2400,bk (.row 1 (((x26 ++ ([IntKind.i64.wrap (rd a0.1 x25.toNat)]))).map (AV.int .i64)))),(3,none)] (app_run (i:=⟨.int .i64,1,8,(.int .i64 0)⟩) (f:=(AV.int .i64)) (l:=x26) (l2:=[IntKind.i64.wrap (rd a0.1 x25.toNat)]) rfl rfl rfl rfl (fun _=>rfl) rfl rfl) (app_c (f:=(AV.int .i64)) (s:=1) (sz:=1) (by':=8) (u:=[]) (id:=3) hc35 (.inr rfl) rfl rfl rfl) rfl (vr (.osl 2400) (a_nil (b_norm (nj ⟨[(3,.osl 3),(6,eVb a0),(7,i6 x25)],[(3,bk (.row 1 (((x26 ++ ([IntKind.i64.wrap (rd a0.1 x25.toNat)]))).map (AV.int .i64))))]⟩ (a_region (vr (i6 (IntKind.i64.wrap (x25 + 1))) (vr (i6 (IntKind.i64.wrap (x25 + 1))) (a_nil ?_))))))))
   cases h
   exact ag hX32
def impl_row_lead_L:Live:=[(0,[0]),(1,[0]),(2,[]),(3,[0]),(100005,[0,5])]
noncomputable def impl_row_lead (a0:(List Int)):Option Int :=
 (if ((a0.length:Int) == 0) then (some 0) else (ifp (0≤IntKind.i64.wrap ((a0.length:Int) - 1)∧IntKind.i64.wrap ((a0.length:Int) - 1) < ((a0.length:Nat):Int)) ((some ((rd a0 (IntKind.i64.wrap ((a0.length:Int) - 1)).toNat))))))
theorem impl_row_lead_ok (a0:(List Int)) (r:Int) (h:impl_row_lead a0=some r):Den Tryz.prog 106 [(eSi64 a0)] { r:=(i6 r) }:=by
 refine dd (rs:=[(i6 r)]) (L:=impl_row_lead_L) good [] Tryz.func106 Tryz.ntmps106 ?_
 refine ns ⟨[(0,eSi64 a0)],[]⟩ ?_
 refine sr (vr (i6 0) (nk ⟨[(0,eSi64 a0)],[]⟩ (a_seq (sr (vr (eSi64 a0) (vq (i6 (a0.length:Int)) (len_run rfl rfl) trivial (vr (.bool (((a0.length:Int) == 0))) (nk ⟨[(0,eSi64 a0),(5,.bool (((a0.length:Int) == 0)))],[]⟩ ?_))))))))
 cases hb1:((a0.length:Int) == 0)
 ·have h:=ite_f hb1 h
  refine a_cond_f rfl (a_skip (nj ⟨[(0,eSi64 a0)],[]⟩ (sr (vr (eSi64 a0) (vr (eSi64 a0) (vq (i6 (a0.length:Int)) (len_run rfl rfl) trivial (vr (i6 (IntKind.i64.wrap ((a0.length:Int) - 1))) ?_)))))))
  obtain ⟨hc2,h⟩:=ifp_some h
  refine vq (.ref (.row 1 (a0.map (AV.int .i64))) [(IntKind.i64.wrap ((a0.length:Int) - 1)).toNat] [(IntKind.i64.wrap ((a0.length:Int) - 1)).toNat*1]) rfl (lmap hc2) ?_
  have hl3:LdOk [(IntKind.i64.wrap ((a0.length:Int) - 1)).toNat] (.row 1 (a0.map (AV.int .i64))) [(IntKind.i64.wrap ((a0.length:Int) - 1)).toNat*1] 1 false (i6 ((rd a0 (IntKind.i64.wrap ((a0.length:Int) - 1)).toNat))):=(.row (llt hc2) rfl (.nil rfl rfl rfl))
  refine vq (i6 ((rd a0 (IntKind.i64.wrap ((a0.length:Int) - 1)).toNat))) (ld_ref (i:=⟨.int .i64,1,8,(.int .i64 0)⟩) rfl rfl hl3) hl3.c (vr (i6 ((rd a0 (IntKind.i64.wrap ((a0.length:Int) - 1)).toNat))) (nx _ rfl (a_ret ?_)))
  refine ⟨.inr rfl,?_⟩
  rw [Tryz.results106]
  cases h
  exact ⟨_,_,_,_,_,rfl,trivial,.inl ⟨rfl,.inl rfl⟩,rfl,rfl⟩
 ·have h:=ite_t hb1 h
  refine a_cond_t rfl (sr (vr (i6 0) (nx _ rfl (a_ret (t_ret ?_)))))
  refine ⟨.inr rfl,?_⟩
  rw [Tryz.results106]
  cases h
  exact ⟨_,_,_,_,_,rfl,trivial,.inl ⟨rfl,.inl rfl⟩,rfl,rfl⟩
def impl_row_degree_L:Live:=[(0,[0]),(1,[0])]
noncomputable def impl_row_degree (a0:(List Int)):Option Int :=
 (some (IntKind.i64.wrap ((a0.length:Int) - 1)))
theorem impl_row_degree_ok (a0:(List Int)) (r:Int) (h:impl_row_degree a0=some r):Den Tryz.prog 75 [(eSi64 a0)] { r:=(i6 r) }:=by
 refine dd (rs:=[(i6 r)]) (L:=impl_row_degree_L) good [] Tryz.func75 Tryz.ntmps75 ?_
 refine ns ⟨[(0,eSi64 a0)],[]⟩ ?_
 refine sr (vr (i6 0) (nk ⟨[(0,eSi64 a0)],[]⟩ (sr (vr (eSi64 a0) (vq (i6 (a0.length:Int)) (len_run rfl rfl) trivial (vr (i6 (IntKind.i64.wrap ((a0.length:Int) - 1))) (vr (i6 (IntKind.i64.wrap ((a0.length:Int) - 1))) (nx _ rfl (a_ret ?_)))))))))
 refine ⟨.inr rfl,?_⟩
 rw [Tryz.results75]
 cases h
 exact ⟨_,_,_,_,_,rfl,trivial,.inl ⟨rfl,.inl rfl⟩,rfl,rfl⟩
def impl_squareCode_L:Live:=[(0,[0,1,2]),(1,[0,2,4]),(2,[0,2,4,7]),(3,[7]),(4,[0,2,4]),(5,[0,2,8]),(6,[]),(7,[]),(100014,[0,2,4,7,14]),(100034,[34])]
noncomputable def impl_squareCode (a0:Int) (a1:(Vec Int 64)) (a2:Bool):Option Int :=
 (Option.bind (impl_polysCode a0 ([a1])) fun r2=>(if (r2 != 0) then (some r2) else (Option.bind (impl_rowOf a1) fun r6=>(Option.bind (α:=Bool) ((if (a0 == 2) then (some true) else (Option.bind (impl_row_lead r6) fun r20=>(if (r20 != 1) then (some true) else (Option.bind (impl_row_degree r6) fun r23=>(if ((Int.tmod r23 2) != 0) then (some true) else (some (!a2)))))))) fun x15=>(if x15 then (some 2) else (some 0))))))
theorem impl_squareCode_ok (a0:Int) (a1:(Vec Int 64)) (a2:Bool) (r:Int) (h:impl_squareCode a0 a1 a2=some r):Den Tryz.prog 48 [(i6 a0),(eVb a1),(.bool a2)] { r:=(i6 r) }:=by
 refine dd (rs:=[(i6 r)]) (L:=impl_squareCode_L) good [(8,1)] Tryz.func48 Tryz.ntmps48 ?_
 refine ns ⟨[(0,i6 a0),(1,eVb a1),(2,.bool a2)],[]⟩ ?_
 refine sr (vo 1400 (eVb a1) rfl rfl (vr (i6 0) (nk ⟨[(0,i6 a0),(2,.bool a2),(4,ow 4)],[(4,bk (eVb a1))]⟩ (a_seq (sr (vr (i6 a0) (vl (eVb a1) rfl rfl rfl rfl rfl rfl (vq (.sl 64 true (([a1]).map eVb)) rfl ⟨(Nat.le_of_ble_eq_true rfl),(Nat.le_of_ble_eq_true rfl),(all_cons ⟨(Nat.le_of_ble_eq_true rfl),rfl⟩ all_nil)⟩ ?_))))))))
 obtain ⟨r2,hr3,h⟩:=bind_some h
 refine a_call (args:=[(i6 a0),(.sl 64 true (([a1]).map eVb))]) (u:=[]) (r:=(i6 r2)) rfl rfl (Den.args (impl_polysCode_ok a0 ([a1]) r2 hr3) rfl rfl (.cons (.refl _) (.cons (.loose _) .nil))) rfl (vr (i6 r2) (nk ⟨[(0,i6 a0),(2,.bool a2),(4,ow 4),(7,i6 r2)],[(4,bk (eVb a1))]⟩ (sr (vr (i6 r2) (vr (.bool (r2 != 0)) (nk ⟨[(0,i6 a0),(2,.bool a2),(4,ow 4),(7,i6 r2),(14,.bool (r2 != 0))],[(4,bk (eVb a1))]⟩ ?_))))))
 cases hb4:(r2 != 0)
 ·have h:=ite_f hb4 h
  refine a_cond_f rfl (a_skip (nj ⟨[(0,i6 a0),(2,.bool a2),(4,ow 4)],[(4,bk (eVb a1))]⟩ (sr (vl (eVb a1) rfl rfl rfl rfl rfl rfl ?_))))
  obtain ⟨r6,hr7,h⟩:=bind_some h
  refine ca (impl_rowOf_ok a1 r6 hr7) (vr (eSi64 r6) (nk ⟨[(0,i6 a0),(2,.bool a2),(8,eSi64 r6)],[]⟩ (a_seq ?_)))
  obtain ⟨y16,hy17,hk18⟩:=bind_some h
  clear h
  refine a_join (emb:=fun (s:Bool)=>⟨[(34,.bool s)],[]⟩) (pre:=fun s=>s=y16) ?_ ?_
  ·rintro x15 rfl
   have h:=hk18
   refine ns ⟨[(34,.bool x15)],[]⟩ ?_
   cases hb26:x15
   ·have h:=ite_f hb26 h
    refine a_cond_f rfl (a_skip (nj ⟨[],[]⟩ (sr (vr (i6 0) (nx _ rfl (a_ret ?_))))))
    refine ⟨.inr rfl,?_⟩
    rw [Tryz.results48]
    cases h
    exact ⟨_,_,_,_,_,rfl,trivial,.inl ⟨rfl,.inl rfl⟩,rfl,rfl⟩
   ·have h:=ite_t hb26 h
    refine a_cond_t rfl (sr (vr (i6 2) (nx _ rfl (a_ret (t_ret ?_)))))
    refine ⟨.inr rfl,?_⟩
    rw [Tryz.results48]
    cases h
    exact ⟨_,_,_,_,_,rfl,trivial,.inl ⟨rfl,.inl rfl⟩,rfl,rfl⟩
  ·have h:=hy17
   refine a_region (vr (i6 a0) (vr (.bool (a0 == 2)) (vr (.bool (a0 == 2)) ?_)))
   cases hb19:(a0 == 2)
   ·have h:=ite_f hb19 h
    refine gp (eSi64 r6) rfl rfl ?_
    obtain ⟨r20,hr21,h⟩:=bind_some h
    refine a_gcall rfl (args:=[(eSi64 r6)]) (u:=[]) (r:=(i6 r20)) rfl rfl (impl_row_lead_ok r6 r20 hr21) rfl (gp (.bool (r20 != 1)) rfl rfl (vr (.bool (r20 != 1)) (vr (.bool (r20 != 1)) ?_)))
    cases hb22:(r20 != 1)
    ·have h:=ite_f hb22 h
     refine gp (eSi64 r6) rfl rfl ?_
     obtain ⟨r23,hr24,h⟩:=bind_some h
     refine a_gcall rfl (args:=[(eSi64 r6)]) (u:=[]) (r:=(i6 r23)) rfl rfl (impl_row_degree_ok r6 r23 hr24) rfl (gq (i6 (Int.tmod r23 2)) rfl rfl (by decide) (gp (.bool (((Int.tmod r23 2) != 0))) rfl rfl (vr (.bool (((Int.tmod r23 2) != 0))) (vr (.bool (((Int.tmod r23 2) != 0))) ?_))))
     cases hb25:((Int.tmod r23 2) != 0)
     ·have h:=ite_f hb25 h
      refine gp (.bool a2) rfl rfl (gp (.bool (!a2)) rfl rfl (vr (.bool (!a2)) (a_nil ?_)))
      exact jl (!a2) h
     ·have h:=ite_t hb25 h
      refine a_gskip rfl (a_gskip rfl (vr (.bool true) (a_nil ?_)))
      exact jl true h
    ·have h:=ite_t hb22 h
     refine a_gskip rfl (a_gskip rfl (a_gskip rfl (a_gskip rfl (vr (.bool true) (vr (.bool true) (a_gskip rfl (a_gskip rfl (vr (.bool true) (a_nil ?_)))))))))
     exact jl true h
   ·have h:=ite_t hb19 h
    refine a_gskip rfl (a_gskip rfl (a_gskip rfl (vr (.bool true) (vr (.bool true) (a_gskip rfl (a_gskip rfl (a_gskip rfl (a_gskip rfl (vr (.bool true) ?_)))))))))
    refine vr (.bool true) (a_gskip rfl (a_gskip rfl (vr (.bool true) (a_nil ?_))))
    exact jl true h
 ·have h:=ite_t hb4 h
  refine a_cond_t rfl (sr (vr (i6 r2) (vr (i6 r2) (nx _ rfl (a_ret (t_ret ?_))))))
  refine ⟨.inr rfl,?_⟩
  rw [Tryz.results48]
  cases h
  exact ⟨_,_,_,_,_,rfl,trivial,.inl ⟨rfl,.inl rfl⟩,rfl,rfl⟩
def impl_prime_inverse_L:Live:=[(0,[0,1]),(1,[0,1]),(2,[0,1,5]),(3,[0,1,5,7,8]),(4,[0,1,5,7,8]),(5,[0,1,5,7,8]),(6,[5]),(100009,[0,1,5,7,8,9])]
noncomputable def impl_prime_inverse_l1 (a0:Int) (a1:Int) (x19:Int) (x20:Int):Option ((Int×Int)⊕Int) :=
 (if (decide (x20 < (IntKind.i64.wrap (a0 - 2)))) then (ifp (a0 ≠ 0) ((some (.inl ((Int.tmod (IntKind.i64.wrap (x19*a1)) a0,IntKind.i64.wrap (x20 + 1))))))) else (some (.inr x19)))
noncomputable def impl_prime_inverse (a0:Int) (a1:Int):Option Int :=
 (Option.bind (α:=Int) ((loopM (fun s:(Int×Int)=>impl_prime_inverse_l1 a0 a1 s.1 s.2) (1,0))) fun x13=>(some x13))
theorem impl_prime_inverse_ok (a0:Int) (a1:Int) (r:Int) (h:impl_prime_inverse a0 a1=some r):Den Tryz.prog 107 [(i6 a0),(i6 a1)] { r:=(i6 r) }:=by
 refine dd (rs:=[(i6 r)]) (L:=impl_prime_inverse_L) good [] Tryz.func107 Tryz.ntmps107 ?_
 refine ns ⟨[(0,i6 a0),(1,i6 a1)],[]⟩ ?_
 refine sr (vr (i6 0) (nk ⟨[(0,i6 a0),(1,i6 a1)],[]⟩ (sr (vr (i6 1) (nk ⟨[(0,i6 a0),(1,i6 a1),(5,i6 1)],[]⟩ ?_)))))
 obtain ⟨y14,hy15,hk16⟩:=bind_some h
 clear h
 refine a_join (emb:=fun (s:Int)=>⟨[(5,i6 s)],[]⟩) (pre:=fun s=>s=y14) ?_ ?_
 ·rintro x13 rfl
  have h:=hk16
  refine ns ⟨[(5,i6 x13)],[]⟩ (sr (vr (i6 x13) (vr (i6 x13) (nx _ rfl (a_ret ?_)))))
  refine ⟨.inr rfl,?_⟩
  rw [Tryz.results107]
  cases h
  exact ⟨_,_,_,_,_,rfl,trivial,.inl ⟨rfl,.inl rfl⟩,rfl,rfl⟩
 ·have h:=hy15
  refine sr (vr (i6 a0) (vr (i6 (IntKind.i64.wrap (a0 - 2))) (vr (i6 0) (nk ⟨[(0,i6 a0),(1,i6 a1),(5,i6 1),(7,i6 (IntKind.i64.wrap (a0 - 2))),(8,i6 0)],[]⟩ (a_block ?_)))))
  refine a_loop (emb:=fun (s:(Int×Int))=>⟨[(0,i6 a0),(1,i6 a1),(5,i6 s.1),(7,i6 (IntKind.i64.wrap (a0 - 2))),(8,i6 s.2)],[]⟩) (body:=(fun s:(Int×Int)=>impl_prime_inverse_l1 a0 a1 s.1 s.2)) (G:=fun q=>some q=some y14) h rfl ?_ (by kernel_rfl)
  rintro X23 ⟨x19,x20⟩ x24 h hX25
  have h:impl_prime_inverse_l1 a0 a1 x19 x20=some x24:=h
  refine ns ⟨[(0,i6 a0),(1,i6 a1),(5,i6 x19),(7,i6 (IntKind.i64.wrap (a0 - 2))),(8,i6 x20)],[]⟩ (sr (vr (.bool ((decide (x20 < (IntKind.i64.wrap (a0 - 2)))))) (nk ⟨[(0,i6 a0),(1,i6 a1),(5,i6 x19),(7,i6 (IntKind.i64.wrap (a0 - 2))),(8,i6 x20),(9,.bool ((decide (x20 < (IntKind.i64.wrap (a0 - 2))))))],[]⟩ (a_seq ?_))))
  cases hb26:(decide (x20 < (IntKind.i64.wrap (a0 - 2))))
  ·have h:=ite_f hb26 h
   refine a_cond_f rfl (a_exit (t_exit ?_))
   cases h
   have h:=hX25
   refine t_exit (b_exit ?_)
   exact jl x19 h
  ·have h:=ite_t hb26 h
   refine a_cond_t rfl (a_skip (nj ⟨[(0,i6 a0),(1,i6 a1),(5,i6 x19),(7,i6 (IntKind.i64.wrap (a0 - 2))),(8,i6 x20)],[]⟩ (a_seq (a_block (a_region (vr (i6 x19) (vr (i6 a1) (vr (i6 (IntKind.i64.wrap (x19*a1))) (vr (i6 a0) ?_)))))))))
   obtain ⟨hc27,h⟩:=ifp_some h
   refine vq (i6 (Int.tmod (IntKind.i64.wrap (x19*a1)) a0)) rfl hc27 (vr (i6 (Int.tmod (IntKind.i64.wrap (x19*a1)) a0)) (a_nil (b_norm (nj ⟨[(0,i6 a0),(1,i6 a1),(5,i6 (Int.tmod (IntKind.i64.wrap (x19*a1)) a0)),(7,i6 (IntKind.i64.wrap (a0 - 2))),(8,i6 x20)],[]⟩ (a_region (vr (i6 (IntKind.i64.wrap (x20 + 1))) (vr (i6 (IntKind.i64.wrap (x20 + 1))) (a_nil ?_))))))))
   cases h
   exact ag hX25
def impl_prime_reduce_L:Live:=[(0,[0,1]),(1,[0,1])]
noncomputable def impl_prime_reduce (a0:Int) (a1:Int):Option Int :=
 (ifp (a0 ≠ 0) ((ifp (a0 ≠ 0) ((some (Int.tmod (IntKind.i64.wrap ((Int.tmod a1 a0) + a0)) a0))))))
theorem impl_prime_reduce_ok (a0:Int) (a1:Int) (r:Int) (h:impl_prime_reduce a0 a1=some r):Den Tryz.prog 108 [(i6 a0),(i6 a1)] { r:=(i6 r) }:=by
 refine dd (rs:=[(i6 r)]) (L:=impl_prime_reduce_L) good [] Tryz.func108 Tryz.ntmps108 ?_
 refine ns ⟨[(0,i6 a0),(1,i6 a1)],[]⟩ ?_
 refine sr (vr (i6 0) (nk ⟨[(0,i6 a0),(1,i6 a1)],[]⟩ (sr (vr (i6 a1) (vr (i6 a0) ?_)))))
 obtain ⟨hc1,h⟩:=ifp_some h
 refine vq (i6 (Int.tmod a1 a0)) rfl hc1 (vr (i6 a0) (vr (i6 (IntKind.i64.wrap ((Int.tmod a1 a0) + a0))) (vr (i6 a0) ?_)))
 obtain ⟨hc2,h⟩:=ifp_some h
 refine vq (i6 (Int.tmod (IntKind.i64.wrap ((Int.tmod a1 a0) + a0)) a0)) rfl hc2 (vr (i6 (Int.tmod (IntKind.i64.wrap ((Int.tmod a1 a0) + a0)) a0)) (nx _ rfl (a_ret ?_)))
 refine ⟨.inr rfl,?_⟩
 rw [Tryz.results108]
 cases h
 exact ⟨_,_,_,_,_,rfl,trivial,.inl ⟨rfl,.inl rfl⟩,rfl,rfl⟩
def impl_prime_root_L:Live:=[(0,[0,1]),(1,[0,1]),(2,[0,1,5]),(3,[0,1,5,6]),(4,[0,1,5,6,7]),(5,[0,1,5,6,7]),(6,[0,1,5,6,7,8]),(7,[0,1,5,6,7,8]),(8,[0,1,5,6,7,8]),(9,[0,1,5,6,7,8,9]),(10,[0,1,5,6,7,8,9,10]),(11,[0,1,5,6,7,8,9,10]),(12,[0,1,5,6,7,8,9,10]),(13,[0,1,5,6,7,8,9]),(14,[7]),(100026,[0,1,5,6,7,8,26]),(100038,[0,1,5,6,7,8,9,10,38])]
noncomputable def impl_prime_root_l2 (x643:Int) (r1:Int) (x644:(List Int)) (x899:Int) (x900:Int):Option ((Int×Int)⊕Int) :=
 (if (decide (x900 < x643)) then (ifp (0≤IntKind.i64.wrap ((IntKind.i64.wrap (Int.tdiv r1 2)) - x900)∧IntKind.i64.wrap ((IntKind.i64.wrap (Int.tdiv r1 2)) - x900) < ((x644.length:Nat):Int)) ((letp ((rd x644 (IntKind.i64.wrap ((IntKind.i64.wrap (Int.tdiv r1 2)) - x900)).toNat)) fun x938=>(letp (IntKind.i64.wrap ((IntKind.i64.wrap ((IntKind.i64.wrap (Int.tdiv r1 2)) - x643)) + x900)) fun x940=>(ifp (0≤x940∧x940 < ((x644.length:Nat):Int)) ((letp (IntKind.i64.wrap (x899 - (IntKind.i64.wrap (x938*(rd x644 x940.toNat))))) fun x944=>(some (.inl ((x944,IntKind.i64.wrap (x900 + 1)))))))))))) else (some (.inr x899)))
noncomputable def impl_prime_root_l1 (r1:Int) (a1:(List Int)) (a0:Int) (r4:Int) (x643:Int) (x644:(List Int)):Option ((Int×(List Int))⊕(List Int)) :=
 (if (decide (x643≤(IntKind.i64.wrap (Int.tdiv r1 2)))) then (letp (IntKind.i64.wrap ((IntKind.i64.wrap (2*(IntKind.i64.wrap (Int.tdiv r1 2)))) - x643)) fun x801=>(ifp (0≤x801∧x801 < ((a1.length:Nat):Int)) ((Option.bind (α:=Int) ((loopM (fun s:(Int×Int)=>impl_prime_root_l2 x643 r1 x644 s.1 s.2) ((rd a1 x801.toNat),1))) fun x874=>(Option.bind (impl_prime_reduce a0 x874) fun r947=>(ifp (a0 ≠ 0) ((ifp (0≤IntKind.i64.wrap ((IntKind.i64.wrap (Int.tdiv r1 2)) - x643)∧IntKind.i64.wrap ((IntKind.i64.wrap (Int.tdiv r1 2)) - x643) < ((x644.length:Nat):Int)) ((some (.inl ((IntKind.i64.wrap (x643 + 1),(x644.set (IntKind.i64.wrap ((IntKind.i64.wrap (Int.tdiv r1 2)) - x643)).toNat (Int.tmod (IntKind.i64.wrap (r947*r4)) a0))))))))))))))) else (some (.inr x644)))
noncomputable def impl_prime_root (a0:Int) (a1:(List Int)):Option (List Int) :=
 (Option.bind (impl_row_degree a1) fun r1=>(ifp (a0 ≠ 0) ((Option.bind (impl_prime_inverse a0 (Int.tmod 2 a0)) fun r4=>(ifp (0≤IntKind.i64.wrap ((IntKind.i64.wrap (Int.tdiv r1 2)) + 1)∧IntKind.i64.wrap ((IntKind.i64.wrap (Int.tdiv r1 2)) + 1)≤140737488355328∧8*IntKind.i64.wrap ((IntKind.i64.wrap (Int.tdiv r1 2)) + 1)≤140737488355328) ((ifp (0≤IntKind.i64.wrap (Int.tdiv r1 2)∧IntKind.i64.wrap (Int.tdiv r1 2) < (((List.replicate (IntKind.i64.wrap ((IntKind.i64.wrap (Int.tdiv r1 2)) + 1)).toNat (0:Int)).length:Nat):Int)) ((Option.bind (α:=(List Int)) ((loopM (fun s:(Int×(List Int))=>impl_prime_root_l1 r1 a1 a0 r4 s.1 s.2) (1,(List.replicate (IntKind.i64.wrap ((IntKind.i64.wrap (Int.tdiv r1 2)) + 1)).toNat (0:Int)).set (IntKind.i64.wrap (Int.tdiv r1 2)).toNat 1))) fun x479=>(some x479))))))))))
theorem impl_prime_root_ok (a0:Int) (a1:(List Int)) (r:(List Int)) (h:impl_prime_root a0 a1=some r):Den Tryz.prog 49 [(i6 a0),(eSi64 a1)] { r:=(eSi64 r) }:=by
 refine dd (rs:=[(eSi64 r)]) (L:=impl_prime_root_L) good [(4,1),(7,2)] Tryz.func49 Tryz.ntmps49 ?_
 refine ns ⟨[(0,i6 a0),(1,eSi64 a1)],[]⟩ ?_
 refine sr (vr (eSi64 ([])) (nk ⟨[(0,i6 a0),(1,eSi64 a1)],[]⟩ (sr (vr (eSi64 a1) ?_))))
 obtain ⟨r1,hr2,h⟩:=bind_some h
 refine ca (impl_row_degree_ok a1 r1 hr2) (vq (i6 (IntKind.i64.wrap (Int.tdiv r1 2))) rfl (by decide) (vr (i6 (IntKind.i64.wrap (Int.tdiv r1 2))) (nk ⟨[(0,i6 a0),(1,eSi64 a1),(5,i6 (IntKind.i64.wrap (Int.tdiv r1 2)))],[]⟩ (sr (vr (i6 a0) (vr (i6 a0) ?_))))))
 obtain ⟨hc3,h⟩:=ifp_some h
 refine vq (i6 (Int.tmod 2 a0)) rfl hc3 ?_
 obtain ⟨r4,hr5,h⟩:=bind_some h
 refine ca (impl_prime_inverse_ok a0 (Int.tmod 2 a0) r4 hr5) (vr (i6 r4) (nk ⟨[(0,i6 a0),(1,eSi64 a1),(5,i6 (IntKind.i64.wrap (Int.tdiv r1 2))),(6,i6 r4)],[]⟩ (sr (vr (i6 (IntKind.i64.wrap (Int.tdiv r1 2))) (vr (i6 (IntKind.i64.wrap ((IntKind.i64.wrap (Int.tdiv r1 2)) + 1))) ?_)))))
 obtain ⟨hc6,h⟩:=ifp_some h
 refine vu (.osl 3000) [(3000,bk (.row 1 ((List.replicate (IntKind.i64.wrap ((IntKind.i64.wrap (Int.tdiv r1 2)) + 1)).toNat (0:Int)).map (AV.int .i64))))] (mk_run (i:=⟨.int .i64,1,8,(.int .i64 0)⟩) (f:=(AV.int .i64)) (y:=(0:Int)) rfl rfl rfl rfl rfl rfl) ⟨rfl,hc6.1,hc6.2.1,hc6.2.2,(Nat.le_of_ble_eq_true rfl)⟩ rfl (vr (.osl 3000) (nk ⟨[(0,i6 a0),(1,eSi64 a1),(5,i6 (IntKind.i64.wrap (Int.tdiv r1 2))),(6,i6 r4),(7,.osl 7)],[(7,bk (.row 1 ((List.replicate (IntKind.i64.wrap ((IntKind.i64.wrap (Int.tdiv r1 2)) + 1)).toNat (0:Int)).map (AV.int .i64))))]⟩ (sr (vr (.osl 7) (vr (i6 (IntKind.i64.wrap (Int.tdiv r1 2))) ?_)))))
 obtain ⟨hc7,h⟩:=ifp_some h
 refine vq (.own 7 [(IntKind.i64.wrap (Int.tdiv r1 2)).toNat] [(IntKind.i64.wrap (Int.tdiv r1 2)).toNat*1]) rfl (lmap hc7) ?_
 have hs8:StOk [(IntKind.i64.wrap (Int.tdiv r1 2)).toNat] (.row 1 ((List.replicate (IntKind.i64.wrap ((IntKind.i64.wrap (Int.tdiv r1 2)) + 1)).toNat (0:Int)).map (AV.int .i64))) [(IntKind.i64.wrap (Int.tdiv r1 2)).toNat*1] 1 (i6 1) (.row 1 ((((List.replicate (IntKind.i64.wrap ((IntKind.i64.wrap (Int.tdiv r1 2)) + 1)).toNat (0:Int)).set (IntKind.i64.wrap (Int.tdiv r1 2)).toNat 1)).map (AV.int .i64))):=(.row (y:=1) (llt hc7) rfl (.nil rfl rfl rfl rfl))
 refine vu .top [(7,bk (.row 1 ((((List.replicate (IntKind.i64.wrap ((IntKind.i64.wrap (Int.tdiv r1 2)) + 1)).toNat (0:Int)).set (IntKind.i64.wrap (Int.tdiv r1 2)).toNat 1)).map (AV.int .i64))))] (st_own (i:=⟨.int .i64,1,8,(.int .i64 0)⟩) rfl rfl (fun _=>rfl) rfl hs8) (hs8.c rfl) rfl (nk ⟨[(0,i6 a0),(1,eSi64 a1),(5,i6 (IntKind.i64.wrap (Int.tdiv r1 2))),(6,i6 r4),(7,.osl 7)],[(7,bk (.row 1 ((((List.replicate (IntKind.i64.wrap ((IntKind.i64.wrap (Int.tdiv r1 2)) + 1)).toNat (0:Int)).set (IntKind.i64.wrap (Int.tdiv r1 2)).toNat 1)).map (AV.int .i64))))]⟩ ?_)
 obtain ⟨y480,hy481,hk482⟩:=bind_some h
 clear h
 refine a_join (emb:=fun (s:(List Int))=>⟨[(7,.osl 7)],[(7,bk (.row 1 (s.map (AV.int .i64))))]⟩) (pre:=fun s=>s=y480) ?_ ?_
 ·rintro x479 rfl
  have h:=hk482
  refine ns ⟨[(7,.osl 7)],[(7,bk (.row 1 (x479.map (AV.int .i64))))]⟩ (sr (vr (.osl 7) (vu (eSi64 x479) [(7,bf (.row 1 (x479.map (AV.int .i64))))] rfl trivial rfl (nx _ rfl (a_ret ?_)))))
  refine ⟨.inr rfl,?_⟩
  rw [Tryz.results49]
  cases h
  exact ⟨_,_,_,_,_,rfl,trivial,.inl ⟨rfl,.inl rfl⟩,rfl,rfl⟩
 ·have h:=hy481
  refine sr (vr (i6 1) (nk ⟨[(0,i6 a0),(1,eSi64 a1),(5,i6 (IntKind.i64.wrap (Int.tdiv r1 2))),(6,i6 r4),(7,.osl 7),(8,i6 1)],[(7,bk (.row 1 ((((List.replicate (IntKind.i64.wrap ((IntKind.i64.wrap (Int.tdiv r1 2)) + 1)).toNat (0:Int)).set (IntKind.i64.wrap (Int.tdiv r1 2)).toNat 1)).map (AV.int .i64))))]⟩ (a_block ?_)))
  refine a_loop (emb:=fun (s:(Int×(List Int)))=>⟨[(0,i6 a0),(1,eSi64 a1),(5,i6 (IntKind.i64.wrap (Int.tdiv r1 2))),(6,i6 r4),(7,.osl 7),(8,i6 s.1)],[(7,bk (.row 1 (s.2.map (AV.int .i64))))]⟩) (body:=(fun s:(Int×(List Int))=>impl_prime_root_l1 r1 a1 a0 r4 s.1 s.2)) (G:=fun q=>some q=some y480) h rfl ?_ (by kernel_rfl)
  rintro X797 ⟨x643,x644⟩ x798 h hX799
  have h:impl_prime_root_l1 r1 a1 a0 r4 x643 x644=some x798:=h
  refine ns ⟨[(0,i6 a0),(1,eSi64 a1),(5,i6 (IntKind.i64.wrap (Int.tdiv r1 2))),(6,i6 r4),(7,.osl 7),(8,i6 x643)],[(7,bk (.row 1 (x644.map (AV.int .i64))))]⟩ (a_seq (sr (vr (i6 x643) (vr (i6 (IntKind.i64.wrap (Int.tdiv r1 2))) (vr (.bool ((decide (x643≤(IntKind.i64.wrap (Int.tdiv r1 2)))))) (nk ⟨[(0,i6 a0),(1,eSi64 a1),(5,i6 (IntKind.i64.wrap (Int.tdiv r1 2))),(6,i6 r4),(7,.osl 7),(8,i6 x643),(26,.bool ((decide (x643≤(IntKind.i64.wrap (Int.tdiv r1 2))))))],[(7,bk (.row 1 (x644.map (AV.int .i64))))]⟩ ?_))))))
  cases hb800:(decide (x643≤(IntKind.i64.wrap (Int.tdiv r1 2))))
  ·have h:=ite_f hb800 h
   refine a_cond_f rfl (a_exit (t_exit ?_))
   cases h
   have h:=hX799
   refine t_exit (b_exit ?_)
   exact jl x644 h
  ·have h:=ite_t hb800 h
   refine a_cond_t rfl (a_skip (nj ⟨[(0,i6 a0),(1,eSi64 a1),(5,i6 (IntKind.i64.wrap (Int.tdiv r1 2))),(6,i6 r4),(7,.osl 7),(8,i6 x643)],[(7,bk (.row 1 (x644.map (AV.int .i64))))]⟩ (a_seq (a_block (sr (vr (eSi64 a1) (vr (i6 (IntKind.i64.wrap (Int.tdiv r1 2))) (vr (i6 (IntKind.i64.wrap (2*(IntKind.i64.wrap (Int.tdiv r1 2))))) (vr (i6 x643) ?_)))))))))
   obtain ⟨x801,hx802,h⟩:=letp_some h
   refine a_val' (v:=(i6 (IntKind.i64.wrap ((IntKind.i64.wrap (2*(IntKind.i64.wrap (Int.tdiv r1 2)))) - x643)))) (v':=(i6 x801)) (u:=[]) (u':=[]) rfl (congrArg (fun z=>((i6 z):AV)) hx802) rfl trivial rfl ?_
   obtain ⟨hc803,h⟩:=ifp_some h
   refine vq (.ref (.row 1 (a1.map (AV.int .i64))) [x801.toNat] [x801.toNat*1]) rfl (lmap hc803) ?_
   have hl804:LdOk [x801.toNat] (.row 1 (a1.map (AV.int .i64))) [x801.toNat*1] 1 false (i6 (rd a1 x801.toNat)):=(.row (llt hc803) rfl (.nil rfl rfl rfl))
   refine vq (i6 (rd a1 x801.toNat)) (ld_ref (i:=⟨.int .i64,1,8,(.int .i64 0)⟩) rfl rfl hl804) hl804.c (vr (i6 (rd a1 x801.toNat)) (nk ⟨[(0,i6 a0),(1,eSi64 a1),(5,i6 (IntKind.i64.wrap (Int.tdiv r1 2))),(6,i6 r4),(7,.osl 7),(8,i6 x643),(9,i6 (rd a1 x801.toNat))],[(7,bk (.row 1 (x644.map (AV.int .i64))))]⟩ ?_))
   obtain ⟨y875,hy876,hk877⟩:=bind_some h
   clear h
   refine a_join (emb:=fun (s:Int)=>⟨[(0,i6 a0),(1,eSi64 a1),(5,i6 (IntKind.i64.wrap (Int.tdiv r1 2))),(6,i6 r4),(7,.osl 7),(8,i6 x643),(9,i6 s)],[(7,bk (.row 1 (x644.map (AV.int .i64))))]⟩) (pre:=fun s=>s=y875) ?_ ?_
   ·rintro x874 rfl
    have h:=hk877
    refine ns ⟨[(0,i6 a0),(1,eSi64 a1),(5,i6 (IntKind.i64.wrap (Int.tdiv r1 2))),(6,i6 r4),(7,.osl 7),(8,i6 x643),(9,i6 x874)],[(7,bk (.row 1 (x644.map (AV.int .i64))))]⟩ (a_region (vr (.osl 7) (vr (i6 (IntKind.i64.wrap (Int.tdiv r1 2))) (vr (i6 x643) (vr (i6 (IntKind.i64.wrap ((IntKind.i64.wrap (Int.tdiv r1 2)) - x643))) (vr (i6 a0) (vr (i6 x874) ?_)))))))
    obtain ⟨r947,hr948,h⟩:=bind_some h
    refine ca (impl_prime_reduce_ok a0 x874 r947 hr948) (vr (i6 r4) (vr (i6 (IntKind.i64.wrap (r947*r4))) (vr (i6 a0) ?_)))
    obtain ⟨hc949,h⟩:=ifp_some h
    refine vq (i6 (Int.tmod (IntKind.i64.wrap (r947*r4)) a0)) rfl hc949 ?_
    obtain ⟨hc950,h⟩:=ifp_some h
    refine vq (.own 7 [(IntKind.i64.wrap ((IntKind.i64.wrap (Int.tdiv r1 2)) - x643)).toNat] [(IntKind.i64.wrap ((IntKind.i64.wrap (Int.tdiv r1 2)) - x643)).toNat*1]) rfl (lmap hc950) ?_
    have hs951:StOk [(IntKind.i64.wrap ((IntKind.i64.wrap (Int.tdiv r1 2)) - x643)).toNat] (.row 1 (x644.map (AV.int .i64))) [(IntKind.i64.wrap ((IntKind.i64.wrap (Int.tdiv r1 2)) - x643)).toNat*1] 1 (i6 (Int.tmod (IntKind.i64.wrap (r947*r4)) a0)) (.row 1 (((x644.set (IntKind.i64.wrap ((IntKind.i64.wrap (Int.tdiv r1 2)) - x643)).toNat (Int.tmod (IntKind.i64.wrap (r947*r4)) a0))).map (AV.int .i64))):=(.row (y:=Int.tmod (IntKind.i64.wrap (r947*r4)) a0) (llt hc950) rfl (.nil rfl rfl rfl rfl))
    refine vu .top [(7,bk (.row 1 (((x644.set (IntKind.i64.wrap ((IntKind.i64.wrap (Int.tdiv r1 2)) - x643)).toNat (Int.tmod (IntKind.i64.wrap (r947*r4)) a0))).map (AV.int .i64))))] (st_own (i:=⟨.int .i64,1,8,(.int .i64 0)⟩) rfl rfl (fun _=>rfl) rfl hs951) (hs951.c rfl) rfl (a_nil (b_norm (nj ⟨[(0,i6 a0),(1,eSi64 a1),(5,i6 (IntKind.i64.wrap (Int.tdiv r1 2))),(6,i6 r4),(7,.osl 7),(8,i6 x643)],[(7,bk (.row 1 (((x644.set (IntKind.i64.wrap ((IntKind.i64.wrap (Int.tdiv r1 2)) - x643)).toNat (Int.tmod (IntKind.i64.wrap (r947*r4)) a0))).map (AV.int .i64))))]⟩ (a_region (vr (i6 x643) (vr (i6 (IntKind.i64.wrap (x643 + 1))) (vr (i6 (IntKind.i64.wrap (x643 + 1))) (a_nil ?_))))))))
    cases h
    exact ag hX799
   ·have h:=hy876
    refine sr (vr (i6 1) (nk ⟨[(0,i6 a0),(1,eSi64 a1),(5,i6 (IntKind.i64.wrap (Int.tdiv r1 2))),(6,i6 r4),(7,.osl 7),(8,i6 x643),(9,i6 (rd a1 x801.toNat)),(10,i6 1)],[(7,bk (.row 1 (x644.map (AV.int .i64))))]⟩ (a_block ?_)))
    refine a_loop (emb:=fun (s:(Int×Int))=>⟨[(0,i6 a0),(1,eSi64 a1),(5,i6 (IntKind.i64.wrap (Int.tdiv r1 2))),(6,i6 r4),(7,.osl 7),(8,i6 x643),(9,i6 s.1),(10,i6 s.2)],[(7,bk (.row 1 (x644.map (AV.int .i64))))]⟩) (body:=(fun s:(Int×Int)=>impl_prime_root_l2 x643 r1 x644 s.1 s.2)) (G:=fun q=>some q=some y875) h rfl ?_ (by kernel_rfl)
    rintro X922 ⟨x899,x900⟩ x923 h hX924
    have h:impl_prime_root_l2 x643 r1 x644 x899 x900=some x923:=h
    refine ns ⟨[(0,i6 a0),(1,eSi64 a1),(5,i6 (IntKind.i64.wrap (Int.tdiv r1 2))),(6,i6 r4),(7,.osl 7),(8,i6 x643),(9,i6 x899),(10,i6 x900)],[(7,bk (.row 1 (x644.map (AV.int .i64))))]⟩ (a_seq (sr (vr (i6 x900) (vr (i6 x643) (vr (.bool ((decide (x900 < x643)))) (nk ⟨[(0,i6 a0),(1,eSi64 a1),(5,i6 (IntKind.i64.wrap (Int.tdiv r1 2))),(6,i6 r4),(7,.osl 7),(8,i6 x643),(9,i6 x899),(10,i6 x900),(38,.bool ((decide (x900 < x643))))],[(7,bk (.row 1 (x644.map (AV.int .i64))))]⟩ ?_))))))
    cases hb925:(decide (x900 < x643))
    ·have h:=ite_f hb925 h
     refine a_cond_f rfl (a_exit (t_exit ?_))
     cases h
     have h:=hX924
     refine t_exit (b_exit ?_)
     exact jl x899 h
    ·have h:=ite_t hb925 h
     refine a_cond_t rfl (a_skip (nj ⟨[(0,i6 a0),(1,eSi64 a1),(5,i6 (IntKind.i64.wrap (Int.tdiv r1 2))),(6,i6 r4),(7,.osl 7),(8,i6 x643),(9,i6 x899),(10,i6 x900)],[(7,bk (.row 1 (x644.map (AV.int .i64))))]⟩ (a_seq (a_block (a_draw [⟨[],[],[],[]⟩,⟨[],[],[7],[]⟩,⟨[],[],[],[]⟩,⟨[],[],[],[]⟩,⟨[],[],[],[2,3]⟩,⟨[7],[],[7],[1,2,3,4]⟩,⟨[7],[],[],[1,2,3,4,5]⟩,⟨[],[],[7],[]⟩,⟨[],[],[],[]⟩,⟨[],[],[],[]⟩,⟨[],[],[],[8,9]⟩,⟨[],[],[],[]⟩,⟨[],[],[],[8,9,10,11]⟩,⟨[7],[],[7],[7,8,9,10,11,12]⟩,⟨[7],[],[],[7,8,9,10,11,12,13]⟩,⟨[],[],[],[1,2,3,4,5,6,7,8,9,10,11,12,13,14]⟩,⟨[],[],[],[0,1,2,3,4,5,6,7,8,9,10,11,12,13,14,15]⟩,⟨[],[],[],[0,1,2,3,4,5,6,7,8,9,10,11,12,13,14,15,16]⟩] (by kernel_rfl) (dj (i6 x899) rfl (dj (.osl 7) rfl (dj (i6 (IntKind.i64.wrap (Int.tdiv r1 2))) rfl (dj (i6 x900) rfl ?_)))))))))
     refine dj (i6 (IntKind.i64.wrap ((IntKind.i64.wrap (Int.tdiv r1 2)) - x900))) rfl (d_cons ?_)
     obtain ⟨hc936,h⟩:=ifp_some h
     refine vq (.own 7 [(IntKind.i64.wrap ((IntKind.i64.wrap (Int.tdiv r1 2)) - x900)).toNat] [(IntKind.i64.wrap ((IntKind.i64.wrap (Int.tdiv r1 2)) - x900)).toNat*1]) rfl (lmap hc936) (dn (d_cons ?_))
     have hl937:LdOk [(IntKind.i64.wrap ((IntKind.i64.wrap (Int.tdiv r1 2)) - x900)).toNat] (.row 1 (x644.map (AV.int .i64))) [(IntKind.i64.wrap ((IntKind.i64.wrap (Int.tdiv r1 2)) - x900)).toNat*1] 1 false (i6 ((rd x644 (IntKind.i64.wrap ((IntKind.i64.wrap (Int.tdiv r1 2)) - x900)).toNat))):=(.row (llt hc936) rfl (.nil rfl rfl rfl))
     obtain ⟨x938,hx939,h⟩:=letp_some h
     refine a_val' (v:=(i6 ((rd x644 (IntKind.i64.wrap ((IntKind.i64.wrap (Int.tdiv r1 2)) - x900)).toNat)))) (v':=(i6 x938)) (u:=[]) (u':=[]) (ld_own (i:=⟨.int .i64,1,8,(.int .i64 0)⟩) rfl rfl rfl hl937) (congrArg (fun z=>((i6 z):AV)) hx939) rfl hl937.c rfl (dn (dj (.osl 7) rfl (dj (i6 (IntKind.i64.wrap (Int.tdiv r1 2))) rfl (dj (i6 x643) rfl (dj (i6 (IntKind.i64.wrap ((IntKind.i64.wrap (Int.tdiv r1 2)) - x643))) rfl (dj (i6 x900) rfl (d_cons ?_)))))))
     obtain ⟨x940,hx941,h⟩:=letp_some h
     refine a_val' (v:=(i6 (IntKind.i64.wrap ((IntKind.i64.wrap ((IntKind.i64.wrap (Int.tdiv r1 2)) - x643)) + x900)))) (v':=(i6 x940)) (u:=[]) (u':=[]) rfl (congrArg (fun z=>((i6 z):AV)) hx941) rfl trivial rfl (dn (d_cons ?_))
     obtain ⟨hc942,h⟩:=ifp_some h
     refine vq (.own 7 [x940.toNat] [x940.toNat*1]) rfl (lmap hc942) (dn (d_cons ?_))
     have hl943:LdOk [x940.toNat] (.row 1 (x644.map (AV.int .i64))) [x940.toNat*1] 1 false (i6 (rd x644 x940.toNat)):=(.row (llt hc942) rfl (.nil rfl rfl rfl))
     refine vq (i6 (rd x644 x940.toNat)) (ld_own (i:=⟨.int .i64,1,8,(.int .i64 0)⟩) rfl rfl rfl hl943) hl943.c (dn (dj (i6 (IntKind.i64.wrap (x938*(rd x644 x940.toNat)))) rfl (d_cons ?_)))
     obtain ⟨x944,hx945,h⟩:=letp_some h
     refine a_val' (v:=(i6 (IntKind.i64.wrap (x899 - (IntKind.i64.wrap (x938*(rd x644 x940.toNat))))))) (v':=(i6 x944)) (u:=[]) (u':=[]) rfl (congrArg (fun z=>((i6 z):AV)) hx945) rfl trivial rfl (dn (dj (i6 x944) rfl (d_nil (b_norm (nj ⟨[(0,i6 a0),(1,eSi64 a1),(5,i6 (IntKind.i64.wrap (Int.tdiv r1 2))),(6,i6 r4),(7,.osl 7),(8,i6 x643),(9,i6 x944),(10,i6 x900)],[(7,bk (.row 1 (x644.map (AV.int .i64))))]⟩ (a_region (vr (i6 x900) (vr (i6 (IntKind.i64.wrap (x900 + 1))) (vr (i6 (IntKind.i64.wrap (x900 + 1))) ?_)))))))))
     refine a_nil ?_
     cases h
     exact ag hX924
end Go.Proofs.YtkbnegemdlnncaaGreat
