/- Functions of the program: plain Lean functions, and that the program computes them. Printed by gen.py. -/
import Derived.Test.YtebfhlnfmkhmcaaFnT
import Derived.Test.YtebfhlnfmkhmcaaFn3
namespace Go.Proofs.Ytebfhlnfmkhmcaa
open Go.Abs Go.Proofs
set_option linter.unusedSimpArgs false
set_option linter.unusedVariables false
set_option maxHeartbeats 16000000
attribute [local irreducible] Abs.acode Abs.aops Abs.aopsT Abs.thenK Abs.blockK

def impl_isPrime_L:Live:=[(0,[0]),(1,[0])]
noncomputable def impl_isPrime (a0:Int):Option Bool :=
 (if (a0 == 2) then (some true) else (if (a0 == 3) then (some true) else (if (a0 == 5) then (some true) else (some (a0 == 7)))))
theorem impl_isPrime_ok (a0:Int) (r:Bool) (h:impl_isPrime a0=some r):Den Try.prog 93 [(i6 a0)] { r:=(.bool r) }:=by
 refine dd (rs:=[(.bool r)]) (L:=impl_isPrime_L) good [] Try.func93 Try.ntmps93 ?_
 refine ns ⟨[(0,i6 a0)],[]⟩ ?_
 refine sr (vr (.bool false) (nk ⟨[(0,i6 a0)],[]⟩ (sr (vr (i6 a0) (vr (.bool (a0 == 2)) (vr (.bool (a0 == 2)) ?_))))))
 cases hb1:(a0 == 2)
 ·have h:=ite_f hb1 h
  refine gp (i6 a0) rfl rfl (gp (.bool (a0 == 3)) rfl rfl (vr (.bool (a0 == 3)) (vr (.bool (a0 == 3)) ?_)))
  cases hb2:(a0 == 3)
  ·have h:=ite_f hb2 h
   refine gp (i6 a0) rfl rfl (gp (.bool (a0 == 5)) rfl rfl (vr (.bool (a0 == 5)) (vr (.bool (a0 == 5)) ?_)))
   cases hb3:(a0 == 5)
   ·have h:=ite_f hb3 h
    refine gp (i6 a0) rfl rfl (gp (.bool (a0 == 7)) rfl rfl (vr (.bool (a0 == 7)) (vr (.bool (a0 == 7)) (nx _ rfl (a_ret ?_)))))
    refine ⟨.inr rfl,?_⟩
    rw [Try.results93]
    cases h
    exact ⟨_,_,_,_,_,rfl,trivial,.inl ⟨rfl,.inl rfl⟩,rfl,rfl⟩
   ·have h:=ite_t hb3 h
    refine a_gskip rfl (a_gskip rfl (vr (.bool true) (vr (.bool true) (nx _ rfl (a_ret ?_)))))
    refine ⟨.inr rfl,?_⟩
    rw [Try.results93]
    cases h
    exact ⟨_,_,_,_,_,rfl,trivial,.inl ⟨rfl,.inl rfl⟩,rfl,rfl⟩
  ·have h:=ite_t hb2 h
   refine a_gskip rfl (a_gskip rfl (vr (.bool true) (vr (.bool true) (a_gskip rfl (a_gskip rfl (vr (.bool true) (vr (.bool true) (nx _ rfl (a_ret ?_)))))))))
   refine ⟨.inr rfl,?_⟩
   rw [Try.results93]
   cases h
   exact ⟨_,_,_,_,_,rfl,trivial,.inl ⟨rfl,.inl rfl⟩,rfl,rfl⟩
 ·have h:=ite_t hb1 h
  refine a_gskip rfl (a_gskip rfl (vr (.bool true) (vr (.bool true) (a_gskip rfl (a_gskip rfl (vr (.bool true) (vr (.bool true) (a_gskip rfl (a_gskip rfl ?_)))))))))
  refine vr (.bool true) (vr (.bool true) (nx _ rfl (a_ret ?_)))
  refine ⟨.inr rfl,?_⟩
  rw [Try.results93]
  cases h
  exact ⟨_,_,_,_,_,rfl,trivial,.inl ⟨rfl,.inl rfl⟩,rfl,rfl⟩
def impl_isPoly_c1_of_p_L:Live:=[(0,[0,1]),(1,[0,1])]
noncomputable def impl_isPoly_c1_of_p (a0:Int) (a1:Int):Option Bool :=
 (some ((decide ((IntKind.i64.wrap a0) < a1))))
theorem impl_isPoly_c1_of_p_ok (a0:Int) (a1:Int) (r:Bool) (h:impl_isPoly_c1_of_p a0 a1=some r):Den Try.prog 113 [(b8 a0),(.ref (i6 a1) [] [])] { r:=(.bool r) }:=by
 refine dd (rs:=[(.bool r)]) (L:=impl_isPoly_c1_of_p_L) good [] Try.func113 Try.ntmps113 ?_
 refine ns ⟨[(0,b8 a0),(1,.ref (i6 a1) [] [])],[]⟩ ?_
 refine sr (vr (.bool false) (nk ⟨[(0,b8 a0),(1,.ref (i6 a1) [] [])],[]⟩ (sr (vr (b8 a0) (vr (i6 (IntKind.i64.wrap a0)) ?_)))))
 have hl1:LdOk [] (i6 a1) [] 1 false (i6 a1):=(.nil rfl rfl rfl)
 refine vq (i6 a1) (ld_ref (i:=⟨.int .i64,1,8,(.int .i64 0)⟩) rfl rfl hl1) hl1.c (vr (.bool ((decide ((IntKind.i64.wrap a0) < a1)))) (vr (.bool ((decide ((IntKind.i64.wrap a0) < a1)))) (nx _ rfl (a_ret ?_))))
 refine ⟨.inr rfl,?_⟩
 rw [Try.results113]
 cases h
 exact ⟨_,_,_,_,_,rfl,trivial,.inl ⟨rfl,.inl rfl⟩,rfl,rfl⟩
def impl_areAll_byte__c1_of_p_L:Live:=[(0,[0,1]),(1,[0,1])]
noncomputable def impl_areAll_byte__c1_of_p (a0:Int) (a1c0:Int):Option Bool :=
 (Option.bind (impl_isPoly_c1_of_p a0 a1c0) fun r2=>(some (!r2)))
theorem impl_areAll_byte__c1_of_p_ok (a0:Int) (a1c0:Int) (r:Bool) (h:impl_areAll_byte__c1_of_p a0 a1c0=some r):Den Try.prog 121 [(b8 a0),(.ref (.clo 113 [] [(.ref (i6 a1c0) [] [])]) [] [])] { r:=(.bool r) }:=by
 refine dd (rs:=[(.bool r)]) (L:=impl_areAll_byte__c1_of_p_L) good [] Try.func121 Try.ntmps121 ?_
 refine ns ⟨[(0,b8 a0),(1,.ref (.clo 113 [] [(.ref (i6 a1c0) [] [])]) [] [])],[]⟩ ?_
 refine sr (vr (.bool false) (nk ⟨[(0,b8 a0),(1,.ref (.clo 113 [] [(.ref (i6 a1c0) [] [])]) [] [])],[]⟩ (sr ?_)))
 have hl1:LdOk [] (.clo 113 [] [(.ref (i6 a1c0) [] [])]) [] 1 false (.clo 113 [] [(.ref (i6 a1c0) [] [])]):=(.nil rfl rfl rfl)
 refine vq (.clo 113 [] [(.ref (i6 a1c0) [] [])]) (ld_ref (i:=⟨.other,1,8,(.raw .nilFunc)⟩) rfl rfl hl1) hl1.c (vr (b8 a0) ?_)
 obtain ⟨r2,hr3,h⟩:=bind_some h
 refine ca (impl_isPoly_c1_of_p_ok a0 a1c0 r2 hr3) (vr (.bool (!r2)) (vr (.bool (!r2)) (nx _ rfl (a_ret ?_))))
 refine ⟨.inr rfl,?_⟩
 rw [Try.results121]
 cases h
 exact ⟨_,_,_,_,_,rfl,trivial,.inl ⟨rfl,.inl rfl⟩,rfl,rfl⟩
def slices_IndexFunc_byte_byte_of_impl_areAll_byte__c1_p_L:Live:=[(0,[0,1]),(1,[0,1]),(2,[0,1,7,8]),(3,[0,1,7,8]),(4,[0,1,5,7,8]),(5,[5]),(6,[0,1,7,8]),(7,[]),(100009,[0,1,7,8,9]),(100016,[0,1,5,7,8,16])]
noncomputable def slices_IndexFunc_byte_byte_of_impl_areAll_byte__c1_p_l1 (a0:(List Int)) (a1c0c0:Int) (x33:Int):Option (Int⊕(Unit⊕Int)) :=
 (if (decide (x33 < (a0.length:Int))) then (ifp (0≤x33∧x33 < ((a0.length:Nat):Int)) ((Option.bind (impl_areAll_byte__c1_of_p (rd a0 x33.toNat) a1c0c0) fun r46=>(if r46 then (some (.inr (.inr x33))) else (some (.inl (IntKind.i64.wrap (x33 + 1)))))))) else (some (.inr (((.inl ()))))))
noncomputable def slices_IndexFunc_byte_byte_of_impl_areAll_byte__c1_p (a0:(List Int)) (a1c0c0:Int):Option Int :=
 (Option.bind (α:=(Unit⊕Int)) ((loopM (fun s:Int=>slices_IndexFunc_byte_byte_of_impl_areAll_byte__c1_p_l1 a0 a1c0c0 s) 0)) fun z=>match z with | .inl _=>(some (-1)) | .inr r50=>(some r50))
theorem slices_IndexFunc_byte_byte_of_impl_areAll_byte__c1_p_ok (a0:(List Int)) (a1c0c0:Int) (r:Int) (h:slices_IndexFunc_byte_byte_of_impl_areAll_byte__c1_p a0 a1c0c0=some r):Den Try.prog 124 [(eSu8 a0),(.clo 121 [] [(.ref (.clo 113 [] [(.ref (i6 a1c0c0) [] [])]) [] [])])] { r:=(i6 r) }:=by
 refine dd (rs:=[(i6 r)]) (L:=slices_IndexFunc_byte_byte_of_impl_areAll_byte__c1_p_L) good [] Try.func124 Try.ntmps124 ?_
 refine ns ⟨[(0,eSu8 a0),(1,.clo 121 [] [(.ref (.clo 113 [] [(.ref (i6 a1c0c0) [] [])]) [] [])])],[]⟩ ?_
 refine sr (vr (i6 0) (nk ⟨[(0,eSu8 a0),(1,.clo 121 [] [(.ref (.clo 113 [] [(.ref (i6 a1c0c0) [] [])]) [] [])])],[]⟩ ?_))
 obtain ⟨y24,hy25,hk26⟩:=bind_some h
 clear h
 refine a_join (emb:=fun (s:Unit)=>⟨[],[]⟩) (pre:=fun s=>(.inl s)=y24) ?_ ?_
 ·rintro _ rfl
  have h:=hk26
  refine ns ⟨[],[]⟩ (sr (vr (i6 (-1)) (nx _ rfl (a_ret ?_))))
  refine ⟨.inr rfl,?_⟩
  rw [Try.results124]
  cases h
  exact ⟨_,_,_,_,_,rfl,trivial,.inl ⟨rfl,.inl rfl⟩,rfl,rfl⟩
 ·have h:=hy25
  refine sr (vr (eSu8 a0) (vq (i6 (a0.length:Int)) (len_run rfl rfl) trivial (vr (i6 0) (nk ⟨[(0,eSu8 a0),(1,.clo 121 [] [(.ref (.clo 113 [] [(.ref (i6 a1c0c0) [] [])]) [] [])]),(7,i6 (a0.length:Int)),(8,i6 0)],[]⟩ (a_block ?_)))))
  refine a_loop (emb:=fun (s:Int)=>⟨[(0,eSu8 a0),(1,.clo 121 [] [(.ref (.clo 113 [] [(.ref (i6 a1c0c0) [] [])]) [] [])]),(7,i6 (a0.length:Int)),(8,i6 s)],[]⟩) (body:=(fun s:Int=>slices_IndexFunc_byte_byte_of_impl_areAll_byte__c1_p_l1 a0 a1c0c0 s)) (G:=fun q=>some q=some y24) h rfl ?_ (by kernel_rfl)
  rintro X40 x33 x41 h hX42
  have h:slices_IndexFunc_byte_byte_of_impl_areAll_byte__c1_p_l1 a0 a1c0c0 x33=some x41:=h
  refine ns ⟨[(0,eSu8 a0),(1,.clo 121 [] [(.ref (.clo 113 [] [(.ref (i6 a1c0c0) [] [])]) [] [])]),(7,i6 (a0.length:Int)),(8,i6 x33)],[]⟩ (sr (vr (.bool ((decide (x33 < (a0.length:Int))))) (nk ⟨[(0,eSu8 a0),(1,.clo 121 [] [(.ref (.clo 113 [] [(.ref (i6 a1c0c0) [] [])]) [] [])]),(7,i6 (a0.length:Int)),(8,i6 x33),(9,.bool ((decide (x33 < (a0.length:Int)))))],[]⟩ (a_seq ?_))))
  cases hb43:(decide (x33 < (a0.length:Int)))
  ·have h:=ite_f hb43 h
   refine a_cond_f rfl (a_exit (t_exit ?_))
   cases h
   have h:=hX42
   refine t_exit (b_exit ?_)
   exact jl () h
  ·have h:=ite_t hb43 h
   refine a_cond_t rfl (a_skip (nj ⟨[(0,eSu8 a0),(1,.clo 121 [] [(.ref (.clo 113 [] [(.ref (i6 a1c0c0) [] [])]) [] [])]),(7,i6 (a0.length:Int)),(8,i6 x33)],[]⟩ (a_seq (a_block (sr (vr (i6 x33) (vr (i6 x33) (nk ⟨[(0,eSu8 a0),(1,.clo 121 [] [(.ref (.clo 113 [] [(.ref (i6 a1c0c0) [] [])]) [] [])]),(5,i6 x33),(7,i6 (a0.length:Int)),(8,i6 x33)],[]⟩ (sr ?_)))))))))
   refine vr (.clo 121 [] [(.ref (.clo 113 [] [(.ref (i6 a1c0c0) [] [])]) [] [])]) (vr (eSu8 a0) (vr (i6 x33) ?_))
   obtain ⟨hc44,h⟩:=ifp_some h
   refine vq (.ref (.row 1 (a0.map (AV.int .u8))) [x33.toNat] [x33.toNat*1]) rfl (lmap hc44) ?_
   have hl45:LdOk [x33.toNat] (.row 1 (a0.map (AV.int .u8))) [x33.toNat*1] 1 false (b8 (rd a0 x33.toNat)):=(.row (llt hc44) rfl (.nil rfl rfl rfl))
   refine vq (b8 (rd a0 x33.toNat)) (ld_ref (i:=⟨.int .u8,1,1,(.int .u8 0)⟩) rfl rfl hl45) hl45.c ?_
   obtain ⟨r46,hr47,h⟩:=bind_some h
   refine ca (impl_areAll_byte__c1_of_p_ok (rd a0 x33.toNat) a1c0c0 r46 hr47) (nk ⟨[(0,eSu8 a0),(1,.clo 121 [] [(.ref (.clo 113 [] [(.ref (i6 a1c0c0) [] [])]) [] [])]),(5,i6 x33),(7,i6 (a0.length:Int)),(8,i6 x33),(16,.bool r46)],[]⟩ ?_)
   cases hb48:r46
   ·have h:=ite_f hb48 h
    refine a_cond_f rfl (a_skip (b_norm (nj ⟨[(0,eSu8 a0),(1,.clo 121 [] [(.ref (.clo 113 [] [(.ref (i6 a1c0c0) [] [])]) [] [])]),(7,i6 (a0.length:Int)),(8,i6 x33)],[]⟩ (a_region (vr (i6 (IntKind.i64.wrap (x33 + 1))) (vr (i6 (IntKind.i64.wrap (x33 + 1))) (a_nil ?_)))))))
    cases h
    exact ag hX42
   ·have h:=ite_t hb48 h
    refine a_cond_t rfl (sr (vr (i6 x33) (vr (i6 x33) (nx _ rfl (a_ret (b_ret (t_ret ?_)))))))
    cases h
    have h:=hX42
    refine t_ret (b_ret (t_ret ?_))
    cases h
    have h:=hk26
    refine ⟨.inr rfl,?_⟩
    rw [Try.results124]
    cases h
    exact ⟨_,_,_,_,_,rfl,trivial,.inl ⟨rfl,.inl rfl⟩,rfl,rfl⟩
def slices_ContainsFunc_byte_byte_of_impl_areAll_byte__c1_p_L:Live:=[(0,[0,1]),(1,[0,1])]
noncomputable def slices_ContainsFunc_byte_byte_of_impl_areAll_byte__c1_p (a0:(List Int)) (a1c0c0:Int):Option Bool :=
 (Option.bind (slices_IndexFunc_byte_byte_of_impl_areAll_byte__c1_p a0 a1c0c0) fun r1=>(some ((decide (r1 ≥ 0)))))
theorem slices_ContainsFunc_byte_byte_of_impl_areAll_byte__c1_p_ok (a0:(List Int)) (a1c0c0:Int) (r:Bool) (h:slices_ContainsFunc_byte_byte_of_impl_areAll_byte__c1_p a0 a1c0c0=some r):Den Try.prog 120 [(eSu8 a0),(.clo 121 [] [(.ref (.clo 113 [] [(.ref (i6 a1c0c0) [] [])]) [] [])])] { r:=(.bool r) }:=by
 refine dd (rs:=[(.bool r)]) (L:=slices_ContainsFunc_byte_byte_of_impl_areAll_byte__c1_p_L) good [] Try.func120 Try.ntmps120 ?_
 refine ns ⟨[(0,eSu8 a0),(1,.clo 121 [] [(.ref (.clo 113 [] [(.ref (i6 a1c0c0) [] [])]) [] [])])],[]⟩ ?_
 refine sr (vr (.bool false) (nk ⟨[(0,eSu8 a0),(1,.clo 121 [] [(.ref (.clo 113 [] [(.ref (i6 a1c0c0) [] [])]) [] [])])],[]⟩ (sr (vr (eSu8 a0) (vr (.clo 121 [] [(.ref (.clo 113 [] [(.ref (i6 a1c0c0) [] [])]) [] [])]) ?_)))))
 obtain ⟨r1,hr2,h⟩:=bind_some h
 refine ca (slices_IndexFunc_byte_byte_of_impl_areAll_byte__c1_p_ok a0 a1c0c0 r1 hr2) (vr (.bool ((decide (r1 ≥ 0)))) (vr (.bool ((decide (r1 ≥ 0)))) (nx _ rfl (a_ret ?_))))
 refine ⟨.inr rfl,?_⟩
 rw [Try.results120]
 cases h
 exact ⟨_,_,_,_,_,rfl,trivial,.inl ⟨rfl,.inl rfl⟩,rfl,rfl⟩
def impl_areAll_byte_of_impl_isPoly_c1_p_L:Live:=[(0,[0,1]),(1,[0,3])]
noncomputable def impl_areAll_byte_of_impl_isPoly_c1_p (a0:(List Int)) (a1c0:Int):Option Bool :=
 (Option.bind (slices_ContainsFunc_byte_byte_of_impl_areAll_byte__c1_p a0 a1c0) fun r1=>(some (!r1)))
theorem impl_areAll_byte_of_impl_isPoly_c1_p_ok (a0:(List Int)) (a1c0:Int) (r:Bool) (h:impl_areAll_byte_of_impl_isPoly_c1_p a0 a1c0=some r):Den Try.prog 112 [(eSu8 a0),(.clo 113 [] [(.ref (i6 a1c0) [] [])])] { r:=(.bool r) }:=by
 refine dd (rs:=[(.bool r)]) (L:=impl_areAll_byte_of_impl_isPoly_c1_p_L) good [] Try.func112 Try.ntmps112 ?_
 refine ns ⟨[(0,eSu8 a0),(1,.clo 113 [] [(.ref (i6 a1c0) [] [])])],[]⟩ ?_
 refine sr (vo 1300 (.clo 113 [] [(.ref (i6 a1c0) [] [])]) rfl rfl (vr (.bool false) (nk ⟨[(0,eSu8 a0),(3,ow 3)],[(3,bk (.clo 113 [] [(.ref (i6 a1c0) [] [])]))]⟩ (sr (vr (eSu8 a0) (vu (.clo 121 [] [(.ref (.clo 113 [] [(.ref (i6 a1c0) [] [])]) [] [])]) [(3,bf (.clo 113 [] [(.ref (i6 a1c0) [] [])]))] rfl trivial rfl ?_))))))
 obtain ⟨r1,hr2,h⟩:=bind_some h
 refine ca (slices_ContainsFunc_byte_byte_of_impl_areAll_byte__c1_p_ok a0 a1c0 r1 hr2) (vr (.bool (!r1)) (vr (.bool (!r1)) (nx _ rfl (a_ret ?_))))
 refine ⟨.inr rfl,?_⟩
 rw [Try.results112]
 cases h
 exact ⟨_,_,_,_,_,rfl,trivial,.inl ⟨rfl,.inl rfl⟩,rfl,rfl⟩
def impl_isPoly_L:Live:=[(0,[0,1]),(1,[2,3])]
noncomputable def impl_isPoly (a0:Int) (a1:(Vec Int 64)):Option Bool :=
 (Option.bind (impl_areAll_byte_of_impl_isPoly_c1_p a1.1 a0) fun r1=>(some r1))
theorem impl_isPoly_ok (a0:Int) (a1:(Vec Int 64)) (r:Bool) (h:impl_isPoly a0 a1=some r):Den Try.prog 88 [(i6 a0),(eVb a1)] { r:=(.bool r) }:=by
 refine dd (rs:=[(.bool r)]) (L:=impl_isPoly_L) good [] Try.func88 Try.ntmps88 ?_
 refine ns ⟨[(0,i6 a0),(1,eVb a1)],[]⟩ ?_
 refine sr (vo 1200 (i6 a0) rfl rfl (vo 1300 (eVb a1) rfl rfl (vr (.bool false) (nk ⟨[(2,ow 2),(3,ow 3)],[(2,bk (i6 a0)),(3,bk (eVb a1))]⟩ (sr (vu (.sl 1 true (a1.1.map (AV.int .u8))) [(3,bf (eVb a1))] rfl ⟨rfl,trivial,rfl,rfl⟩ rfl (vu (.clo 113 [] [(.ref (i6 a0) [] [])]) [(2,bf (i6 a0))] rfl trivial rfl ?_)))))))
 obtain ⟨r1,hr2,h⟩:=bind_some h
 refine a_call (args:=[(.sl 1 true (a1.1.map (AV.int .u8))),(.clo 113 [] [(.ref (i6 a0) [] [])])]) (u:=[]) (r:=(.bool r1)) rfl rfl (Den.args (impl_areAll_byte_of_impl_isPoly_c1_p_ok a1.1 a0 r1 hr2) rfl rfl (.cons (.loose _) (.cons (.refl _) .nil))) rfl (vr (.bool r1) (nx _ rfl (a_ret ?_)))
 refine ⟨.inr rfl,?_⟩
 rw [Try.results88]
 cases h
 exact ⟨_,_,_,_,_,rfl,trivial,.inl ⟨rfl,.inl rfl⟩,rfl,rfl⟩
def impl_IsPoly_L:Live:=[(0,[0,1]),(1,[0,3])]
noncomputable def impl_IsPoly (a0:Int) (a1:(Vec Int 64)):Option Bool :=
 (Option.bind (impl_isPrime a0) fun r1=>(if r1 then (Option.bind (impl_isPoly a0 a1) fun r5=>(some r5)) else (some false)))
theorem impl_IsPoly_ok (a0:Int) (a1:(Vec Int 64)) (r:Bool) (h:impl_IsPoly a0 a1=some r):Den Try.prog 84 [(i6 a0),(eVb a1)] { r:=(.bool r) }:=by
 refine dd (rs:=[(.bool r)]) (L:=impl_IsPoly_L) good [] Try.func84 Try.ntmps84 ?_
 refine ns ⟨[(0,i6 a0),(1,eVb a1)],[]⟩ ?_
 refine sr (vo 1300 (eVb a1) rfl rfl (vr (.bool false) (nk ⟨[(0,i6 a0),(3,ow 3)],[(3,bk (eVb a1))]⟩ (sr (vr (i6 a0) ?_)))))
 obtain ⟨r1,hr2,h⟩:=bind_some h
 refine ca (impl_isPrime_ok a0 r1 hr2) (vr (.bool r1) ?_)
 cases hb3:r1
 ·have h:=ite_f hb3 h
  refine a_gskip rfl (a_gskip rfl (a_gskip rfl (vr (.bool false) (vr (.bool false) (nx _ rfl (a_ret ?_))))))
  refine ⟨.inr rfl,?_⟩
  rw [Try.results84]
  cases h
  exact ⟨_,_,_,_,_,rfl,trivial,.inl ⟨rfl,.inl rfl⟩,rfl,rfl⟩
 ·have h:=ite_t hb3 h
  refine gp (i6 a0) rfl rfl ?_
  have hl4:LdOk [] (eVb a1) [] 64 true (eVb a1):=(.nil rfl rfl rfl)
  refine gq (eVb a1) rfl (ld_own (i:=⟨.arr 64 5,64,64,(eVb (vrep 64 (0:Int)))⟩) rfl rfl rfl hl4) hl4.c ?_
  obtain ⟨r5,hr6,h⟩:=bind_some h
  refine a_gcall rfl (args:=[(i6 a0),(eVb a1)]) (u:=[]) (r:=(.bool r5)) rfl rfl (impl_isPoly_ok a0 a1 r5 hr6) rfl (vr (.bool r5) (vr (.bool r5) (nx _ rfl (a_ret ?_))))
  refine ⟨.inr rfl,?_⟩
  rw [Try.results84]
  cases h
  exact ⟨_,_,_,_,_,rfl,trivial,.inl ⟨rfl,.inl rfl⟩,rfl,rfl⟩
def impl_row_degree_L:Live:=[(0,[0]),(1,[0])]
noncomputable def impl_row_degree (a0:(List Int)):Option Int :=
 (some (IntKind.i64.wrap ((a0.length:Int) - 1)))
theorem impl_row_degree_ok (a0:(List Int)) (r:Int) (h:impl_row_degree a0=some r):Den Try.prog 28 [(eSi64 a0)] { r:=(i6 r) }:=by
 refine dd (rs:=[(i6 r)]) (L:=impl_row_degree_L) good [] Try.func28 Try.ntmps28 ?_
 refine ns ⟨[(0,eSi64 a0)],[]⟩ ?_
 refine sr (vr (i6 0) (nk ⟨[(0,eSi64 a0)],[]⟩ (sr (vr (eSi64 a0) (vq (i6 (a0.length:Int)) (len_run rfl rfl) trivial (vr (i6 (IntKind.i64.wrap ((a0.length:Int) - 1))) (vr (i6 (IntKind.i64.wrap ((a0.length:Int) - 1))) (nx _ rfl (a_ret ?_)))))))))
 refine ⟨.inr rfl,?_⟩
 rw [Try.results28]
 cases h
 exact ⟨_,_,_,_,_,rfl,trivial,.inl ⟨rfl,.inl rfl⟩,rfl,rfl⟩
def impl_polysCode_c1_of_p_L:Live:=[(0,[0,1]),(1,[1,2])]
noncomputable def impl_polysCode_c1_of_p (a0:(Vec Int 64)) (a1:Int):Option Bool :=
 (Option.bind (impl_isPoly a1 a0) fun r3=>(some r3))
theorem impl_polysCode_c1_of_p_ok (a0:(Vec Int 64)) (a1:Int) (r:Bool) (h:impl_polysCode_c1_of_p a0 a1=some r):Den Try.prog 95 [(eVb a0),(.ref (i6 a1) [] [])] { r:=(.bool r) }:=by
 refine dd (rs:=[(.bool r)]) (L:=impl_polysCode_c1_of_p_L) good [] Try.func95 Try.ntmps95 ?_
 refine ns ⟨[(0,eVb a0),(1,.ref (i6 a1) [] [])],[]⟩ ?_
 refine sr (vo 1200 (eVb a0) rfl rfl (vr (.bool false) (nk ⟨[(1,.ref (i6 a1) [] []),(2,ow 2)],[(2,bk (eVb a0))]⟩ (sr ?_))))
 have hl1:LdOk [] (i6 a1) [] 1 false (i6 a1):=(.nil rfl rfl rfl)
 refine vq (i6 a1) (ld_ref (i:=⟨.int .i64,1,8,(.int .i64 0)⟩) rfl rfl hl1) hl1.c (vl (eVb a0) rfl rfl rfl rfl rfl rfl ?_)
 obtain ⟨r3,hr4,h⟩:=bind_some h
 refine ca (impl_isPoly_ok a1 a0 r3 hr4) (vr (.bool r3) (nx _ rfl (a_ret ?_)))
 refine ⟨.inr rfl,?_⟩
 rw [Try.results95]
 cases h
 exact ⟨_,_,_,_,_,rfl,trivial,.inl ⟨rfl,.inl rfl⟩,rfl,rfl⟩
def impl_areAll_impl_Poly__c1_of_p_L:Live:=[(0,[0,1]),(1,[1,2])]
noncomputable def impl_areAll_impl_Poly__c1_of_p (a0:(Vec Int 64)) (a1c0:Int):Option Bool :=
 (Option.bind (impl_polysCode_c1_of_p a0 a1c0) fun r3=>(some (!r3)))
theorem impl_areAll_impl_Poly__c1_of_p_ok (a0:(Vec Int 64)) (a1c0:Int) (r:Bool) (h:impl_areAll_impl_Poly__c1_of_p a0 a1c0=some r):Den Try.prog 116 [(eVb a0),(.ref (.clo 95 [] [(.ref (i6 a1c0) [] [])]) [] [])] { r:=(.bool r) }:=by
 refine dd (rs:=[(.bool r)]) (L:=impl_areAll_impl_Poly__c1_of_p_L) good [] Try.func116 Try.ntmps116 ?_
 refine ns ⟨[(0,eVb a0),(1,.ref (.clo 95 [] [(.ref (i6 a1c0) [] [])]) [] [])],[]⟩ ?_
 refine sr (vo 1200 (eVb a0) rfl rfl (vr (.bool false) (nk ⟨[(1,.ref (.clo 95 [] [(.ref (i6 a1c0) [] [])]) [] []),(2,ow 2)],[(2,bk (eVb a0))]⟩ (sr ?_))))
 have hl1:LdOk [] (.clo 95 [] [(.ref (i6 a1c0) [] [])]) [] 1 false (.clo 95 [] [(.ref (i6 a1c0) [] [])]):=(.nil rfl rfl rfl)
 refine vq (.clo 95 [] [(.ref (i6 a1c0) [] [])]) (ld_ref (i:=⟨.other,1,8,(.raw .nilFunc)⟩) rfl rfl hl1) hl1.c (vl (eVb a0) rfl rfl rfl rfl rfl rfl ?_)
 obtain ⟨r3,hr4,h⟩:=bind_some h
 refine ca (impl_polysCode_c1_of_p_ok a0 a1c0 r3 hr4) (vr (.bool (!r3)) (vr (.bool (!r3)) (nx _ rfl (a_ret ?_))))
 refine ⟨.inr rfl,?_⟩
 rw [Try.results116]
 cases h
 exact ⟨_,_,_,_,_,rfl,trivial,.inl ⟨rfl,.inl rfl⟩,rfl,rfl⟩
def slices_IndexFunc_impl_Poly_impl_Poly_of_impl_areAll_impl_Poly__c1_p_L:Live:=[(0,[0,1]),(1,[0,1]),(2,[0,1,7,8]),(3,[0,1,7,8]),(4,[0,1,5,7,8]),(5,[5]),(6,[0,1,7,8]),(7,[]),(100009,[0,1,7,8,9]),(100016,[0,1,5,7,8,16])]
noncomputable def slices_IndexFunc_impl_Poly_impl_Poly_of_impl_areAll_impl_Poly__c1_p_l1 (a0:(List (Vec Int 64))) (a1c0c0:Int) (x33:Int):Option (Int⊕(Unit⊕Int)) :=
 (if (decide (x33 < (a0.length:Int))) then (ifp (0≤x33∧x33 < ((a0.length:Nat):Int)) ((Option.bind (impl_areAll_impl_Poly__c1_of_p (rd a0 x33.toNat) a1c0c0) fun r46=>(if r46 then (some (.inr (.inr x33))) else (some (.inl (IntKind.i64.wrap (x33 + 1)))))))) else (some (.inr (((.inl ()))))))
noncomputable def slices_IndexFunc_impl_Poly_impl_Poly_of_impl_areAll_impl_Poly__c1_p (a0:(List (Vec Int 64))) (a1c0c0:Int):Option Int :=
 (Option.bind (α:=(Unit⊕Int)) ((loopM (fun s:Int=>slices_IndexFunc_impl_Poly_impl_Poly_of_impl_areAll_impl_Poly__c1_p_l1 a0 a1c0c0 s) 0)) fun z=>match z with | .inl _=>(some (-1)) | .inr r50=>(some r50))
theorem slices_IndexFunc_impl_Poly_impl_Poly_of_impl_areAll_impl_Poly__c1_p_ok (a0:(List (Vec Int 64))) (a1c0c0:Int) (r:Int) (h:slices_IndexFunc_impl_Poly_impl_Poly_of_impl_areAll_impl_Poly__c1_p a0 a1c0c0=some r):Den Try.prog 122 [(eSA64u8 a0),(.clo 116 [] [(.ref (.clo 95 [] [(.ref (i6 a1c0c0) [] [])]) [] [])])] { r:=(i6 r) }:=by
 refine dd (rs:=[(i6 r)]) (L:=slices_IndexFunc_impl_Poly_impl_Poly_of_impl_areAll_impl_Poly__c1_p_L) good [] Try.func122 Try.ntmps122 ?_
 refine ns ⟨[(0,eSA64u8 a0),(1,.clo 116 [] [(.ref (.clo 95 [] [(.ref (i6 a1c0c0) [] [])]) [] [])])],[]⟩ ?_
 refine sr (vr (i6 0) (nk ⟨[(0,eSA64u8 a0),(1,.clo 116 [] [(.ref (.clo 95 [] [(.ref (i6 a1c0c0) [] [])]) [] [])])],[]⟩ ?_))
 obtain ⟨y24,hy25,hk26⟩:=bind_some h
 clear h
 refine a_join (emb:=fun (s:Unit)=>⟨[],[]⟩) (pre:=fun s=>(.inl s)=y24) ?_ ?_
 ·rintro _ rfl
  have h:=hk26
  refine ns ⟨[],[]⟩ (sr (vr (i6 (-1)) (nx _ rfl (a_ret ?_))))
  refine ⟨.inr rfl,?_⟩
  rw [Try.results122]
  cases h
  exact ⟨_,_,_,_,_,rfl,trivial,.inl ⟨rfl,.inl rfl⟩,rfl,rfl⟩
 ·have h:=hy25
  refine sr (vr (eSA64u8 a0) (vq (i6 (a0.length:Int)) (len_run rfl rfl) trivial (vr (i6 0) (nk ⟨[(0,eSA64u8 a0),(1,.clo 116 [] [(.ref (.clo 95 [] [(.ref (i6 a1c0c0) [] [])]) [] [])]),(7,i6 (a0.length:Int)),(8,i6 0)],[]⟩ (a_block ?_)))))
  refine a_loop (emb:=fun (s:Int)=>⟨[(0,eSA64u8 a0),(1,.clo 116 [] [(.ref (.clo 95 [] [(.ref (i6 a1c0c0) [] [])]) [] [])]),(7,i6 (a0.length:Int)),(8,i6 s)],[]⟩) (body:=(fun s:Int=>slices_IndexFunc_impl_Poly_impl_Poly_of_impl_areAll_impl_Poly__c1_p_l1 a0 a1c0c0 s)) (G:=fun q=>some q=some y24) h rfl ?_ (by kernel_rfl)
  rintro X40 x33 x41 h hX42
  have h:slices_IndexFunc_impl_Poly_impl_Poly_of_impl_areAll_impl_Poly__c1_p_l1 a0 a1c0c0 x33=some x41:=h
  refine ns ⟨[(0,eSA64u8 a0),(1,.clo 116 [] [(.ref (.clo 95 [] [(.ref (i6 a1c0c0) [] [])]) [] [])]),(7,i6 (a0.length:Int)),(8,i6 x33)],[]⟩ (sr (vr (.bool ((decide (x33 < (a0.length:Int))))) (nk ⟨[(0,eSA64u8 a0),(1,.clo 116 [] [(.ref (.clo 95 [] [(.ref (i6 a1c0c0) [] [])]) [] [])]),(7,i6 (a0.length:Int)),(8,i6 x33),(9,.bool ((decide (x33 < (a0.length:Int)))))],[]⟩ (a_seq ?_))))
  cases hb43:(decide (x33 < (a0.length:Int)))
  ·have h:=ite_f hb43 h
   refine a_cond_f rfl (a_exit (t_exit ?_))
   cases h
   have h:=hX42
   refine t_exit (b_exit ?_)
   exact jl () h
  ·have h:=ite_t hb43 h
   refine a_cond_t rfl (a_skip (nj ⟨[(0,eSA64u8 a0),(1,.clo 116 [] [(.ref (.clo 95 [] [(.ref (i6 a1c0c0) [] [])]) [] [])]),(7,i6 (a0.length:Int)),(8,i6 x33)],[]⟩ (a_seq (a_block (sr (vr (i6 x33) (vr (i6 x33) (nk ⟨[(0,eSA64u8 a0),(1,.clo 116 [] [(.ref (.clo 95 [] [(.ref (i6 a1c0c0) [] [])]) [] [])]),(5,i6 x33),(7,i6 (a0.length:Int)),(8,i6 x33)],[]⟩ (sr ?_)))))))))
   refine vr (.clo 116 [] [(.ref (.clo 95 [] [(.ref (i6 a1c0c0) [] [])]) [] [])]) (vr (eSA64u8 a0) (vr (i6 x33) ?_))
   obtain ⟨hc44,h⟩:=ifp_some h
   refine vq (.ref (.row 64 (a0.map eVb)) [x33.toNat] [x33.toNat*64]) rfl (lmap hc44) ?_
   have hl45:LdOk [x33.toNat] (.row 64 (a0.map eVb)) [x33.toNat*64] 64 true (eVb (rd a0 x33.toNat)):=(.row (llt hc44) rfl (.nil rfl rfl rfl))
   refine vq (eVb (rd a0 x33.toNat)) (ld_ref (i:=⟨.arr 64 5,64,64,(eVb (vrep 64 (0:Int)))⟩) rfl rfl hl45) hl45.c ?_
   obtain ⟨r46,hr47,h⟩:=bind_some h
   refine ca (impl_areAll_impl_Poly__c1_of_p_ok (rd a0 x33.toNat) a1c0c0 r46 hr47) (nk ⟨[(0,eSA64u8 a0),(1,.clo 116 [] [(.ref (.clo 95 [] [(.ref (i6 a1c0c0) [] [])]) [] [])]),(5,i6 x33),(7,i6 (a0.length:Int)),(8,i6 x33),(16,.bool r46)],[]⟩ ?_)
   cases hb48:r46
   ·have h:=ite_f hb48 h
    refine a_cond_f rfl (a_skip (b_norm (nj ⟨[(0,eSA64u8 a0),(1,.clo 116 [] [(.ref (.clo 95 [] [(.ref (i6 a1c0c0) [] [])]) [] [])]),(7,i6 (a0.length:Int)),(8,i6 x33)],[]⟩ (a_region (vr (i6 (IntKind.i64.wrap (x33 + 1))) (vr (i6 (IntKind.i64.wrap (x33 + 1))) (a_nil ?_)))))))
    cases h
    exact ag hX42
   ·have h:=ite_t hb48 h
    refine a_cond_t rfl (sr (vr (i6 x33) (vr (i6 x33) (nx _ rfl (a_ret (b_ret (t_ret ?_)))))))
    cases h
    have h:=hX42
    refine t_ret (b_ret (t_ret ?_))
    cases h
    have h:=hk26
    refine ⟨.inr rfl,?_⟩
    rw [Try.results122]
    cases h
    exact ⟨_,_,_,_,_,rfl,trivial,.inl ⟨rfl,.inl rfl⟩,rfl,rfl⟩
def slices_ContainsFunc_impl_Poly_impl_Poly_of_impl_areAll_impl_Poly__c1_p_L:Live:=[(0,[0,1]),(1,[0,1])]
noncomputable def slices_ContainsFunc_impl_Poly_impl_Poly_of_impl_areAll_impl_Poly__c1_p (a0:(List (Vec Int 64))) (a1c0c0:Int):Option Bool :=
 (Option.bind (slices_IndexFunc_impl_Poly_impl_Poly_of_impl_areAll_impl_Poly__c1_p a0 a1c0c0) fun r1=>(some ((decide (r1 ≥ 0)))))
theorem slices_ContainsFunc_impl_Poly_impl_Poly_of_impl_areAll_impl_Poly__c1_p_ok (a0:(List (Vec Int 64))) (a1c0c0:Int) (r:Bool) (h:slices_ContainsFunc_impl_Poly_impl_Poly_of_impl_areAll_impl_Poly__c1_p a0 a1c0c0=some r):Den Try.prog 115 [(eSA64u8 a0),(.clo 116 [] [(.ref (.clo 95 [] [(.ref (i6 a1c0c0) [] [])]) [] [])])] { r:=(.bool r) }:=by
 refine dd (rs:=[(.bool r)]) (L:=slices_ContainsFunc_impl_Poly_impl_Poly_of_impl_areAll_impl_Poly__c1_p_L) good [] Try.func115 Try.ntmps115 ?_
 refine ns ⟨[(0,eSA64u8 a0),(1,.clo 116 [] [(.ref (.clo 95 [] [(.ref (i6 a1c0c0) [] [])]) [] [])])],[]⟩ ?_
 refine sr (vr (.bool false) (nk ⟨[(0,eSA64u8 a0),(1,.clo 116 [] [(.ref (.clo 95 [] [(.ref (i6 a1c0c0) [] [])]) [] [])])],[]⟩ (sr (vr (eSA64u8 a0) (vr (.clo 116 [] [(.ref (.clo 95 [] [(.ref (i6 a1c0c0) [] [])]) [] [])]) ?_)))))
 obtain ⟨r1,hr2,h⟩:=bind_some h
 refine ca (slices_IndexFunc_impl_Poly_impl_Poly_of_impl_areAll_impl_Poly__c1_p_ok a0 a1c0c0 r1 hr2) (vr (.bool ((decide (r1 ≥ 0)))) (vr (.bool ((decide (r1 ≥ 0)))) (nx _ rfl (a_ret ?_))))
 refine ⟨.inr rfl,?_⟩
 rw [Try.results115]
 cases h
 exact ⟨_,_,_,_,_,rfl,trivial,.inl ⟨rfl,.inl rfl⟩,rfl,rfl⟩
def impl_areAll_impl_Poly_of_impl_polysCode_c1_p_L:Live:=[(0,[0,1]),(1,[0,3])]
noncomputable def impl_areAll_impl_Poly_of_impl_polysCode_c1_p (a0:(List (Vec Int 64))) (a1c0:Int):Option Bool :=
 (Option.bind (slices_ContainsFunc_impl_Poly_impl_Poly_of_impl_areAll_impl_Poly__c1_p a0 a1c0) fun r1=>(some (!r1)))
theorem impl_areAll_impl_Poly_of_impl_polysCode_c1_p_ok (a0:(List (Vec Int 64))) (a1c0:Int) (r:Bool) (h:impl_areAll_impl_Poly_of_impl_polysCode_c1_p a0 a1c0=some r):Den Try.prog 94 [(eSA64u8 a0),(.clo 95 [] [(.ref (i6 a1c0) [] [])])] { r:=(.bool r) }:=by
 refine dd (rs:=[(.bool r)]) (L:=impl_areAll_impl_Poly_of_impl_polysCode_c1_p_L) good [] Try.func94 Try.ntmps94 ?_
 refine ns ⟨[(0,eSA64u8 a0),(1,.clo 95 [] [(.ref (i6 a1c0) [] [])])],[]⟩ ?_
 refine sr (vo 1300 (.clo 95 [] [(.ref (i6 a1c0) [] [])]) rfl rfl (vr (.bool false) (nk ⟨[(0,eSA64u8 a0),(3,ow 3)],[(3,bk (.clo 95 [] [(.ref (i6 a1c0) [] [])]))]⟩ (sr (vr (eSA64u8 a0) (vu (.clo 116 [] [(.ref (.clo 95 [] [(.ref (i6 a1c0) [] [])]) [] [])]) [(3,bf (.clo 95 [] [(.ref (i6 a1c0) [] [])]))] rfl trivial rfl ?_))))))
 obtain ⟨r1,hr2,h⟩:=bind_some h
 refine ca (slices_ContainsFunc_impl_Poly_impl_Poly_of_impl_areAll_impl_Poly__c1_p_ok a0 a1c0 r1 hr2) (vr (.bool (!r1)) (vr (.bool (!r1)) (nx _ rfl (a_ret ?_))))
 refine ⟨.inr rfl,?_⟩
 rw [Try.results94]
 cases h
 exact ⟨_,_,_,_,_,rfl,trivial,.inl ⟨rfl,.inl rfl⟩,rfl,rfl⟩
def impl_polysCode_L:Live:=[(0,[0,1]),(1,[1,2]),(2,[]),(3,[]),(100013,[13])]
noncomputable def impl_polysCode (a0:Int) (a1:(List (Vec Int 64))):Option Int :=
 (Option.bind (α:=Bool) ((Option.bind (impl_isPrime a0) fun r12=>(if (!r12) then (some true) else (Option.bind (impl_areAll_impl_Poly_of_impl_polysCode_c1_p a1 a0) fun r15=>(some (!r15)))))) fun x7=>(if x7 then (some 1) else (some 0)))
theorem impl_polysCode_ok (a0:Int) (a1:(List (Vec Int 64))) (r:Int) (h:impl_polysCode a0 a1=some r):Den Try.prog 60 [(i6 a0),(eSA64u8 a1)] { r:=(i6 r) }:=by
 refine dd (rs:=[(i6 r)]) (L:=impl_polysCode_L) good [] Try.func60 Try.ntmps60 ?_
 refine ns ⟨[(0,i6 a0),(1,eSA64u8 a1)],[]⟩ ?_
 refine sr (vo 1200 (i6 a0) rfl rfl (vr (i6 0) (nk ⟨[(1,eSA64u8 a1),(2,ow 2)],[(2,bk (i6 a0))]⟩ (a_seq ?_))))
 obtain ⟨y8,hy9,hk10⟩:=bind_some h
 clear h
 refine a_join (emb:=fun (s:Bool)=>⟨[(13,.bool s)],[]⟩) (pre:=fun s=>s=y8) ?_ ?_
 ·rintro x7 rfl
  have h:=hk10
  refine ns ⟨[(13,.bool x7)],[]⟩ ?_
  cases hb17:x7
  ·have h:=ite_f hb17 h
   refine a_cond_f rfl (a_skip (nj ⟨[],[]⟩ (sr (vr (i6 0) (nx _ rfl (a_ret ?_))))))
   refine ⟨.inr rfl,?_⟩
   rw [Try.results60]
   cases h
   exact ⟨_,_,_,_,_,rfl,trivial,.inl ⟨rfl,.inl rfl⟩,rfl,rfl⟩
  ·have h:=ite_t hb17 h
   refine a_cond_t rfl (sr (vr (i6 1) (nx _ rfl (a_ret (t_ret ?_)))))
   refine ⟨.inr rfl,?_⟩
   rw [Try.results60]
   cases h
   exact ⟨_,_,_,_,_,rfl,trivial,.inl ⟨rfl,.inl rfl⟩,rfl,rfl⟩
 ·have h:=hy9
  refine a_region (vl (i6 a0) rfl rfl rfl rfl rfl rfl ?_)
  obtain ⟨r12,hr13,h⟩:=bind_some h
  refine ca (impl_isPrime_ok a0 r12 hr13) (vr (.bool (!r12)) (vr (.bool (!r12)) ?_))
  cases hb14:(!r12)
  ·have h:=ite_f hb14 h
   refine gp (eSA64u8 a1) rfl rfl (a_gval rfl (v:=(.clo 95 [] [(.ref (i6 a0) [] [])])) (u:=[(2,bf (i6 a0))]) rfl trivial rfl ?_)
   obtain ⟨r15,hr16,h⟩:=bind_some h
   refine a_gcall rfl (args:=[(eSA64u8 a1),(.clo 95 [] [(.ref (i6 a0) [] [])])]) (u:=[]) (r:=(.bool r15)) rfl rfl (impl_areAll_impl_Poly_of_impl_polysCode_c1_p_ok a1 a0 r15 hr16) rfl (gp (.bool (!r15)) rfl rfl (vr (.bool (!r15)) (a_nil ?_)))
   exact jl (!r15) h
  ·have h:=ite_t hb14 h
   refine a_gskip rfl (a_gskip rfl (a_gskip rfl (a_gskip rfl (vr (.bool true) (a_nil ?_)))))
   exact jl true h
def impl_DerivativeOf_L:Live:=[(0,[0,1]),(1,[0,3,4]),(2,[0,3,4,6]),(3,[4,6]),(4,[0,3,4]),(5,[0,3,4,7]),(6,[0,3,4,7,8]),(7,[0,3,4,7,8]),(8,[0,3,4,7,8]),(9,[4,7]),(100014,[0,3,4,6,14]),(100018,[0,3,4,7,8,18])]
noncomputable def impl_DerivativeOf_l1 (a1:(Vec Int 64)) (a0:Int) (x47:Int) (x48:(Vec Int 64)):Option ((Int×(Vec Int 64))⊕(Vec Int 64)) :=
 (if (decide (x47 < 64)) then (ifp (0≤x47∧x47 < ((64:Nat):Int)) ((letp (IntKind.i64.wrap (x47*(IntKind.i64.wrap (rd a1.1 x47.toNat)))) fun x63=>(ifp (a0 ≠ 0) ((ifp (0≤IntKind.i64.wrap (x47 - 1)∧IntKind.i64.wrap (x47 - 1) < ((64:Nat):Int)) ((some (.inl ((IntKind.i64.wrap (x47 + 1),(vset x48 (IntKind.i64.wrap (x47 - 1)).toNat (IntKind.u8.wrap (Int.tmod x63 a0)))))))))))))) else (some (.inr x48)))
noncomputable def impl_DerivativeOf (a0:Int) (a1:(Vec Int 64)):Option ((Vec Int 64)×Int) :=
 (Option.bind (impl_polysCode a0 ([a1])) fun r2=>(if (r2 != 0) then (some (((vrep 64 (0:Int)),r2))) else (Option.bind (α:=(Vec Int 64)) ((loopM (fun s:(Int×(Vec Int 64))=>impl_DerivativeOf_l1 a1 a0 s.1 s.2) (1,vrep 64 (0:Int)))) fun x35=>(some (x35,0)))))
theorem impl_DerivativeOf_ok (a0:Int) (a1:(Vec Int 64)) (r:((Vec Int 64)×Int)) (h:impl_DerivativeOf a0 a1=some r):Den Try.prog 85 [(i6 a0),(eVb a1)] { r:=(.tuple [(eVb r.1),(i6 r.2)]) }:=by
 refine dd (rs:=[(eVb r.1),(i6 r.2)]) (L:=impl_DerivativeOf_L) good [] Try.func85 Try.ntmps85 ?_
 refine ns ⟨[(0,i6 a0),(1,eVb a1)],[]⟩ ?_
 refine sr (vo 1300 (eVb a1) rfl rfl (vo 1400 (eV0) rfl rfl (vr (i6 0) (nk ⟨[(0,i6 a0),(3,ow 3),(4,ow 4)],[(3,bk (eVb a1)),(4,bk (eV0))]⟩ (a_seq (sr (vr (i6 a0) (vl (eVb a1) rfl rfl rfl rfl rfl rfl (vq (.sl 64 true (([a1]).map eVb)) rfl ⟨(Nat.le_of_ble_eq_true rfl),(Nat.le_of_ble_eq_true rfl),(all_cons ⟨(Nat.le_of_ble_eq_true rfl),rfl⟩ all_nil)⟩ ?_)))))))))
 obtain ⟨r2,hr3,h⟩:=bind_some h
 refine a_call (args:=[(i6 a0),(.sl 64 true (([a1]).map eVb))]) (u:=[]) (r:=(i6 r2)) rfl rfl (Den.args (impl_polysCode_ok a0 ([a1]) r2 hr3) rfl rfl (.cons (.refl _) (.cons (.loose _) .nil))) rfl (vr (i6 r2) (nk ⟨[(0,i6 a0),(3,ow 3),(4,ow 4),(6,i6 r2)],[(3,bk (eVb a1)),(4,bk (eV0))]⟩ (sr (vr (i6 r2) (vr (.bool (r2 != 0)) (nk ⟨[(0,i6 a0),(3,ow 3),(4,ow 4),(6,i6 r2),(14,.bool (r2 != 0))],[(3,bk (eVb a1)),(4,bk (eV0))]⟩ ?_))))))
 cases hb4:(r2 != 0)
 ·have h:=ite_f hb4 h
  refine a_cond_f rfl (a_skip (nj ⟨[(0,i6 a0),(3,ow 3),(4,ow 4)],[(3,bk (eVb a1)),(4,bk (eV0))]⟩ (sr (vo 1700 (eV0) rfl rfl (nk ⟨[(0,i6 a0),(3,ow 3),(4,ow 4),(7,ow 7)],[(3,bk (eVb a1)),(4,bk (eV0)),(7,bk (eV0))]⟩ ?_)))))
  obtain ⟨y36,hy37,hk38⟩:=bind_some h
  clear h
  refine a_join (emb:=fun (s:(Vec Int 64))=>⟨[(4,ow 4),(7,ow 7)],[(4,bk (eV0)),(7,bk (eVb s))]⟩) (pre:=fun s=>s=y36) ?_ ?_
  ·rintro x35 rfl
   have h:=hk38
   refine ns ⟨[(4,ow 4),(7,ow 7)],[(4,bk (eV0)),(7,bk (eVb x35))]⟩ (sr (vl (eVb x35) rfl rfl rfl rfl rfl rfl (vs (eVb x35) rfl rfl (fun _=>rfl) rfl rfl rfl rfl rfl rfl (vr (i6 0) (nx _ rfl (a_ret ?_))))))
   have hl71:LdOk [] (eVb x35) [] 64 true (eVb x35):=(.nil rfl rfl rfl)
   refine ⟨.inr rfl,?_⟩
   rw [Try.results85]
   cases h
   exact ⟨_,_,_,_,_,ld_own (i:=⟨.arr 64 5,64,64,(eVb (vrep 64 (0:Int)))⟩) rfl rfl rfl hl71,hl71.c,.inl ⟨rfl,.inl rfl⟩,rfl,⟨_,_,_,_,_,rfl,trivial,.inl ⟨rfl,.inl rfl⟩,rfl,rfl⟩⟩
  ·have h:=hy37
   refine sr (vr (i6 1) (nk ⟨[(0,i6 a0),(3,ow 3),(4,ow 4),(7,ow 7),(8,i6 1)],[(3,bk (eVb a1)),(4,bk (eV0)),(7,bk (eV0))]⟩ (a_block ?_)))
   refine a_loop (emb:=fun (s:(Int×(Vec Int 64)))=>⟨[(0,i6 a0),(3,ow 3),(4,ow 4),(7,ow 7),(8,i6 s.1)],[(3,bk (eVb a1)),(4,bk (eV0)),(7,bk (eVb s.2))]⟩) (body:=(fun s:(Int×(Vec Int 64))=>impl_DerivativeOf_l1 a1 a0 s.1 s.2)) (G:=fun q=>some q=some y36) h rfl ?_ (by kernel_rfl)
   rintro X57 ⟨x47,x48⟩ x58 h hX59
   have h:impl_DerivativeOf_l1 a1 a0 x47 x48=some x58:=h
   refine ns ⟨[(0,i6 a0),(3,ow 3),(4,ow 4),(7,ow 7),(8,i6 x47)],[(3,bk (eVb a1)),(4,bk (eV0)),(7,bk (eVb x48))]⟩ (a_seq (sr (vr (i6 x47) (vr (.bool ((decide (x47 < 64)))) (nk ⟨[(0,i6 a0),(3,ow 3),(4,ow 4),(7,ow 7),(8,i6 x47),(18,.bool ((decide (x47 < 64))))],[(3,bk (eVb a1)),(4,bk (eV0)),(7,bk (eVb x48))]⟩ ?_)))))
   cases hb60:(decide (x47 < 64))
   ·have h:=ite_f hb60 h
    refine a_cond_f rfl (a_exit (t_exit ?_))
    cases h
    have h:=hX59
    refine t_exit (b_exit ?_)
    exact jl x48 h
   ·have h:=ite_t hb60 h
    refine a_cond_t rfl (a_skip (nj ⟨[(0,i6 a0),(3,ow 3),(4,ow 4),(7,ow 7),(8,i6 x47)],[(3,bk (eVb a1)),(4,bk (eV0)),(7,bk (eVb x48))]⟩ (a_seq (a_block (a_region (vr (i6 x47) (vr (i6 (IntKind.i64.wrap (x47 - 1))) (vr (i6 x47) (vr (i6 x47) ?_)))))))))
    obtain ⟨hc61,h⟩:=ifp_some h
    refine vq (.own 3 [x47.toNat] [x47.toNat*1]) rfl hc61 ?_
    have hl62:LdOk [x47.toNat] (eVb a1) [x47.toNat*1] 1 false (b8 (rd a1.1 x47.toNat)):=(.arr (vlt a1 hc61) rfl (.nil rfl rfl rfl))
    refine vq (b8 (rd a1.1 x47.toNat)) (ld_own (i:=⟨.int .u8,1,1,(.int .u8 0)⟩) rfl rfl rfl hl62) hl62.c (vr (i6 (IntKind.i64.wrap (rd a1.1 x47.toNat))) ?_)
    obtain ⟨x63,hx64,h⟩:=letp_some h
    refine a_val' (v:=(i6 (IntKind.i64.wrap (x47*(IntKind.i64.wrap (rd a1.1 x47.toNat)))))) (v':=(i6 x63)) (u:=[]) (u':=[]) rfl (congrArg (fun z=>((i6 z):AV)) hx64) rfl trivial rfl (vr (i6 a0) ?_)
    obtain ⟨hc65,h⟩:=ifp_some h
    refine vq (i6 (Int.tmod x63 a0)) rfl hc65 (vr (b8 (IntKind.u8.wrap (Int.tmod x63 a0))) ?_)
    obtain ⟨hc66,h⟩:=ifp_some h
    refine vq (.own 7 [(IntKind.i64.wrap (x47 - 1)).toNat] [(IntKind.i64.wrap (x47 - 1)).toNat*1]) rfl hc66 ?_
    have hs67:StOk [(IntKind.i64.wrap (x47 - 1)).toNat] (eVb x48) [(IntKind.i64.wrap (x47 - 1)).toNat*1] 1 (b8 (IntKind.u8.wrap (Int.tmod x63 a0))) (eVb ((vset x48 (IntKind.i64.wrap (x47 - 1)).toNat (IntKind.u8.wrap (Int.tmod x63 a0))))):=(.arr (y:=IntKind.u8.wrap (Int.tmod x63 a0)) (vlt x48 hc66) rfl (.nil rfl rfl rfl rfl))
    refine vu .top [(7,bk (eVb ((vset x48 (IntKind.i64.wrap (x47 - 1)).toNat (IntKind.u8.wrap (Int.tmod x63 a0))))))] (st_own (i:=⟨.int .u8,1,1,(.int .u8 0)⟩) rfl rfl (fun _=>rfl) rfl hs67) (hs67.c rfl) rfl (a_nil (b_norm (nj ⟨[(0,i6 a0),(3,ow 3),(4,ow 4),(7,ow 7),(8,i6 x47)],[(3,bk (eVb a1)),(4,bk (eV0)),(7,bk (eVb ((vset x48 (IntKind.i64.wrap (x47 - 1)).toNat (IntKind.u8.wrap (Int.tmod x63 a0))))))]⟩ (a_region (vr (i6 x47) (vr (i6 (IntKind.i64.wrap (x47 + 1))) (vr (i6 (IntKind.i64.wrap (x47 + 1))) (a_nil ?_))))))))
    cases h
    exact ag hX59
 ·have h:=ite_t hb4 h
  refine a_cond_t rfl (sr (vq (eV0) rfl ⟨⟨_,rfl,rfl⟩,all_nil⟩ (vr (i6 r2) (vs (eV0) rfl rfl (fun _=>rfl) rfl rfl rfl rfl rfl rfl (vr (i6 r2) (nx _ rfl (a_ret (t_ret ?_))))))))
  have hl73:LdOk [] (eV0) [] 64 true (eV0):=(.nil rfl rfl rfl)
  refine ⟨.inr rfl,?_⟩
  rw [Try.results85]
  cases h
  exact ⟨_,_,_,_,_,ld_own (i:=⟨.arr 64 5,64,64,(eVb (vrep 64 (0:Int)))⟩) rfl rfl rfl hl73,hl73.c,.inl ⟨rfl,.inl rfl⟩,rfl,⟨_,_,_,_,_,rfl,trivial,.inl ⟨rfl,.inl rfl⟩,rfl,rfl⟩⟩
noncomputable def slices_Clone_impl_row_int64_fresh_c:ACode:=strip [(2,2)] (Try.f97.body.getD .skip)
def slices_Clone_impl_row_int64_fresh_L:Live:=[(0,[0]),(1,[0]),(2,[]),(3,[0]),(100004,[0,4])]
noncomputable def slices_Clone_impl_row_int64_fresh (a0:(List Int)):Option (List Int) :=
 (ifc (a0=[]→((some ([])))=((ifp ((([]:List Int).length + a0.length)*8≤140737488355328) ((some ((([]:List Int) ++ a0))))))) ((ifp ((([]:List Int).length + a0.length)*8≤140737488355328) ((some ((([]:List Int) ++ a0)))))))
theorem slices_Clone_impl_row_int64_fresh_ok (a0:(List Int)) (r:(List Int)) (h:slices_Clone_impl_row_int64_fresh a0=some r):Den Try.prog 97 [(eSi64 a0)] { r:=(.osl 2000000),ms:=[],fs:=[(1,r.map (AV.int .i64))] }:=by
 refine den_ofX (rs:=[(.osl 2000000)]) (ac:=slices_Clone_impl_row_int64_fresh_c) (L:=slices_Clone_impl_row_int64_fresh_L) (n:=8) (m:=[(2,2)]) (c:=Try.f97.body.getD .skip) good Try.func97 (by kernel_rfl) (by kernel_rfl) Try.ntmps97 rfl rfl (by kernel_rfl) rfl ?_
 refine ns ⟨[(0,eSi64 a0)],[]⟩ ?_
 unfold slices_Clone_impl_row_int64_fresh_c
 refine sr (vu (.osl 1200) [(1200,bk (.row 1 (([]).map (AV.int .i64))))] rfl trivial rfl (nk ⟨[(0,eSi64 a0)],[]⟩ (a_seq (sr (vr (eSi64 a0) ?_)))))
 obtain ⟨hq2,h⟩:=ifc_some h
 refine a_split (v:=.bool true) (v':=.bool false) rfl rfl (fun hn3=>?_) ?_
 ·have h:=(hq2 (List.map_eq_nil_iff.1 hn3)).trans h
  refine nk ⟨[(0,eSi64 a0),(4,.bool true)],[]⟩ (a_cond_t rfl (sr (vu (.osl 1200) [(1200,bk (.row 1 (([]).map (AV.int .i64))))] rfl trivial rfl (nx _ rfl (a_ret (t_ret ?_))))))
  refine ⟨.inr rfl,?_⟩
  rw [Try.results97]
  cases h
  exact ⟨[some 1200],⟨_,_,_,_,_,rfl,trivial,rfl,.inr (.inl ⟨_,_,_,_,_,rfl,rfl,rfl,rfl,rfl,rfl,⟨rfl,rfl,rfl⟩⟩)⟩,rfl,rfl⟩
 ·skip
  refine nk ⟨[(0,eSi64 a0),(4,.bool false)],[]⟩ (a_cond_f rfl (a_skip (nj ⟨[(0,eSi64 a0)],[]⟩ (sr (vq (.sl 1 true (([]).map (AV.int .i64))) rfl ⟨(Nat.le_of_ble_eq_true rfl),(Nat.le_of_ble_eq_true rfl),all_nil⟩ (vr (eSi64 a0) ?_))))))
  obtain ⟨hc1,h⟩:=ifp_some h
  refine vu (.osl 1700) [(1700,bk (.row 1 (((([]:List Int) ++ a0)).map (AV.int .i64))))] (appt_run (i:=⟨.int .i64,1,8,(.int .i64 0)⟩) (f:=(AV.int .i64)) (l:=[]) (l2:=a0) rfl rfl rfl rfl (fun _=>rfl) rfl) (appt_c (f:=(AV.int .i64)) (s:=1) (sz:=1) (sz':=1) (by':=8) hc1 (.inl rfl) (.inl rfl) (.inr rfl) rfl rfl) rfl (vr (.osl 1700) (nx _ rfl (a_ret ?_)))
  refine ⟨.inr rfl,?_⟩
  rw [Try.results97]
  cases h
  exact ⟨[some 1700],⟨_,_,_,_,_,rfl,trivial,rfl,.inr (.inl ⟨_,_,_,_,_,rfl,rfl,rfl,rfl,rfl,rfl,⟨rfl,rfl,rfl⟩⟩)⟩,rfl,rfl⟩
def impl_row_lead_L:Live:=[(0,[0]),(1,[0]),(2,[]),(3,[0]),(100005,[0,5])]
noncomputable def impl_row_lead (a0:(List Int)):Option Int :=
 (if ((a0.length:Int) == 0) then (some 0) else (ifp (0≤IntKind.i64.wrap ((a0.length:Int) - 1)∧IntKind.i64.wrap ((a0.length:Int) - 1) < ((a0.length:Nat):Int)) ((some ((rd a0 (IntKind.i64.wrap ((a0.length:Int) - 1)).toNat))))))
theorem impl_row_lead_ok (a0:(List Int)) (r:Int) (h:impl_row_lead a0=some r):Den Try.prog 89 [(eSi64 a0)] { r:=(i6 r) }:=by
 refine dd (rs:=[(i6 r)]) (L:=impl_row_lead_L) good [] Try.func89 Try.ntmps89 ?_
 refine ns ⟨[(0,eSi64 a0)],[]⟩ ?_
 refine sr (vr (i6 0) (nk ⟨[(0,eSi64 a0)],[]⟩ (a_seq (sr (vr (eSi64 a0) (vq (i6 (a0.length:Int)) (len_run rfl rfl) trivial (vr (.bool (((a0.length:Int) == 0))) (nk ⟨[(0,eSi64 a0),(5,.bool (((a0.length:Int) == 0)))],[]⟩ ?_))))))))
 cases hb1:((a0.length:Int) == 0)
 ·have h:=ite_f hb1 h
  refine a_cond_f rfl (a_skip (nj ⟨[(0,eSi64 a0)],[]⟩ (sr (vr (eSi64 a0) (vr (eSi64 a0) (vq (i6 (a0.length:Int)) (len_run rfl rfl) trivial (vr (i6 (IntKind.i64.wrap ((a0.length:Int) - 1))) ?_)))))))
  obtain ⟨hc2,h⟩:=ifp_some h
  refine vq (.ref (.row 1 (a0.map (AV.int .i64))) [(IntKind.i64.wrap ((a0.length:Int) - 1)).toNat] [(IntKind.i64.wrap ((a0.length:Int) - 1)).toNat*1]) rfl (lmap hc2) ?_
  have hl3:LdOk [(IntKind.i64.wrap ((a0.length:Int) - 1)).toNat] (.row 1 (a0.map (AV.int .i64))) [(IntKind.i64.wrap ((a0.length:Int) - 1)).toNat*1] 1 false (i6 ((rd a0 (IntKind.i64.wrap ((a0.length:Int) - 1)).toNat))):=(.row (llt hc2) rfl (.nil rfl rfl rfl))
  refine vq (i6 ((rd a0 (IntKind.i64.wrap ((a0.length:Int) - 1)).toNat))) (ld_ref (i:=⟨.int .i64,1,8,(.int .i64 0)⟩) rfl rfl hl3) hl3.c (vr (i6 ((rd a0 (IntKind.i64.wrap ((a0.length:Int) - 1)).toNat))) (nx _ rfl (a_ret ?_)))
  refine ⟨.inr rfl,?_⟩
  rw [Try.results89]
  cases h
  exact ⟨_,_,_,_,_,rfl,trivial,.inl ⟨rfl,.inl rfl⟩,rfl,rfl⟩
 ·have h:=ite_t hb1 h
  refine a_cond_t rfl (sr (vr (i6 0) (nx _ rfl (a_ret (t_ret ?_)))))
  refine ⟨.inr rfl,?_⟩
  rw [Try.results89]
  cases h
  exact ⟨_,_,_,_,_,rfl,trivial,.inl ⟨rfl,.inl rfl⟩,rfl,rfl⟩
def impl_prime_inverse_L:Live:=[(0,[0,1]),(1,[0,1]),(2,[0,1,5]),(3,[0,1,5,7,8]),(4,[0,1,5,7,8]),(5,[0,1,5,7,8]),(6,[5]),(100009,[0,1,5,7,8,9])]
noncomputable def impl_prime_inverse_l1 (a0:Int) (a1:Int) (x19:Int) (x20:Int):Option ((Int×Int)⊕Int) :=
 (if (decide (x20 < (IntKind.i64.wrap (a0 - 2)))) then (ifp (a0 ≠ 0) ((some (.inl ((Int.tmod (IntKind.i64.wrap (x19*a1)) a0,IntKind.i64.wrap (x20 + 1))))))) else (some (.inr x19)))
noncomputable def impl_prime_inverse (a0:Int) (a1:Int):Option Int :=
 (Option.bind (α:=Int) ((loopM (fun s:(Int×Int)=>impl_prime_inverse_l1 a0 a1 s.1 s.2) (1,0))) fun x13=>(some x13))
theorem impl_prime_inverse_ok (a0:Int) (a1:Int) (r:Int) (h:impl_prime_inverse a0 a1=some r):Den Try.prog 98 [(i6 a0),(i6 a1)] { r:=(i6 r) }:=by
 refine dd (rs:=[(i6 r)]) (L:=impl_prime_inverse_L) good [] Try.func98 Try.ntmps98 ?_
 refine ns ⟨[(0,i6 a0),(1,i6 a1)],[]⟩ ?_
 refine sr (vr (i6 0) (nk ⟨[(0,i6 a0),(1,i6 a1)],[]⟩ (sr (vr (i6 1) (nk ⟨[(0,i6 a0),(1,i6 a1),(5,i6 1)],[]⟩ ?_)))))
 obtain ⟨y14,hy15,hk16⟩:=bind_some h
 clear h
 refine a_join (emb:=fun (s:Int)=>⟨[(5,i6 s)],[]⟩) (pre:=fun s=>s=y14) ?_ ?_
 ·rintro x13 rfl
  have h:=hk16
  refine ns ⟨[(5,i6 x13)],[]⟩ (sr (vr (i6 x13) (vr (i6 x13) (nx _ rfl (a_ret ?_)))))
  refine ⟨.inr rfl,?_⟩
  rw [Try.results98]
  cases h
  exact ⟨_,_,_,_,_,rfl,trivial,.inl ⟨rfl,.inl rfl⟩,rfl,rfl⟩
 ·have h:=hy15
  refine sr (vr (i6 a0) (vr (i6 (IntKind.i64.wrap (a0 - 2))) (vr (i6 0) (nk ⟨[(0,i6 a0),(1,i6 a1),(5,i6 1),(7,i6 (IntKind.i64.wrap (a0 - 2))),(8,i6 0)],[]⟩ (a_block ?_)))))
  refine a_loop (emb:=fun (s:(Int×Int))=>⟨[(0,i6 a0),(1,i6 a1),(5,i6 s.1),(7,i6 (IntKind.i64.wrap (a0 - 2))),(8,i6 s.2)],[]⟩) (body:=(fun s:(Int×Int)=>impl_prime_inverse_l1 a0 a1 s.1 s.2)) (G:=fun q=>some q=some y14) h rfl ?_ (by kernel_rfl)
  rintro X23 ⟨x19,x20⟩ x24 h hX25
  have h:impl_prime_inverse_l1 a0 a1 x19 x20=some x24:=h
  refine ns ⟨[(0,i6 a0),(1,i6 a1),(5,i6 x19),(7,i6 (IntKind.i64.wrap (a0 - 2))),(8,i6 x20)],[]⟩ (sr (vr (.bool ((decide (x20 < (IntKind.i64.wrap (a0 - 2)))))) (nk ⟨[(0,i6 a0),(1,i6 a1),(5,i6 x19),(7,i6 (IntKind.i64.wrap (a0 - 2))),(8,i6 x20),(9,.bool ((decide (x20 < (IntKind.i64.wrap (a0 - 2))))))],[]⟩ (a_seq ?_))))
  cases hb26:(decide (x20 < (IntKind.i64.wrap (a0 - 2))))
  ·have h:=ite_f hb26 h
   refine a_cond_f rfl (a_exit (t_exit ?_))
   cases h
   have h:=hX25
   refine t_exit (b_exit ?_)
   exact jl x19 h
  ·have h:=ite_t hb26 h
   refine a_cond_t rfl (a_skip (nj ⟨[(0,i6 a0),(1,i6 a1),(5,i6 x19),(7,i6 (IntKind.i64.wrap (a0 - 2))),(8,i6 x20)],[]⟩ (a_seq (a_block (a_region (vr (i6 x19) (vr (i6 a1) (vr (i6 (IntKind.i64.wrap (x19*a1))) (vr (i6 a0) ?_)))))))))
   obtain ⟨hc27,h⟩:=ifp_some h
   refine vq (i6 (Int.tmod (IntKind.i64.wrap (x19*a1)) a0)) rfl hc27 (vr (i6 (Int.tmod (IntKind.i64.wrap (x19*a1)) a0)) (a_nil (b_norm (nj ⟨[(0,i6 a0),(1,i6 a1),(5,i6 (Int.tmod (IntKind.i64.wrap (x19*a1)) a0)),(7,i6 (IntKind.i64.wrap (a0 - 2))),(8,i6 x20)],[]⟩ (a_region (vr (i6 (IntKind.i64.wrap (x20 + 1))) (vr (i6 (IntKind.i64.wrap (x20 + 1))) (a_nil ?_))))))))
   cases h
   exact ag hX25
def impl_prime_reduce_L:Live:=[(0,[0,1]),(1,[0,1])]
noncomputable def impl_prime_reduce (a0:Int) (a1:Int):Option Int :=
 (ifp (a0 ≠ 0) ((ifp (a0 ≠ 0) ((some (Int.tmod (IntKind.i64.wrap ((Int.tmod a1 a0) + a0)) a0))))))
theorem impl_prime_reduce_ok (a0:Int) (a1:Int) (r:Int) (h:impl_prime_reduce a0 a1=some r):Den Try.prog 99 [(i6 a0),(i6 a1)] { r:=(i6 r) }:=by
 refine dd (rs:=[(i6 r)]) (L:=impl_prime_reduce_L) good [] Try.func99 Try.ntmps99 ?_
 refine ns ⟨[(0,i6 a0),(1,i6 a1)],[]⟩ ?_
 refine sr (vr (i6 0) (nk ⟨[(0,i6 a0),(1,i6 a1)],[]⟩ (sr (vr (i6 a1) (vr (i6 a0) ?_)))))
 obtain ⟨hc1,h⟩:=ifp_some h
 refine vq (i6 (Int.tmod a1 a0)) rfl hc1 (vr (i6 a0) (vr (i6 (IntKind.i64.wrap ((Int.tmod a1 a0) + a0))) (vr (i6 a0) ?_)))
 obtain ⟨hc2,h⟩:=ifp_some h
 refine vq (i6 (Int.tmod (IntKind.i64.wrap ((Int.tmod a1 a0) + a0)) a0)) rfl hc2 (vr (i6 (Int.tmod (IntKind.i64.wrap ((Int.tmod a1 a0) + a0)) a0)) (nx _ rfl (a_ret ?_)))
 refine ⟨.inr rfl,?_⟩
 rw [Try.results99]
 cases h
 exact ⟨_,_,_,_,_,rfl,trivial,.inl ⟨rfl,.inl rfl⟩,rfl,rfl⟩
def impl_prime_divide_L:Live:=[(0,[0,1,2]),(1,[0,1,2]),(2,[0,1,2,8]),(3,[8]),(4,[0,1,2,8]),(5,[0,2,8,9]),(6,[0,2,8,9,10]),(7,[0,2,8,9,10,11]),(8,[0,2,8,9,10,11]),(9,[0,2,8,9,10,11]),(10,[0,2,8,9,10,11,12]),(11,[0,2,8,9,10,11,12]),(12,[0,2,8,9,10,11,12,57,58,59]),(13,[0,2,8,9,10,11,12,57,58,59]),(14,[0,2,8,9,10,11,12,13,14,57,58,59]),(15,[0,2,8,9,10,11,12,57,58,59]),(16,[8,9]),(100021,[0,1,2,8,21]),(100038,[0,2,8,9,10,11,38]),(100060,[0,2,8,9,10,11,12,57,58,59,60])]
noncomputable def impl_prime_divide_l2 (a2:(List Int)) (x467:Int) (x468:(List Int)) (x641:Int) (r9:Int) (a0:Int) (x469:(List Int)) (x661:Int) (x662:(List Int)):Option ((Int×(List Int))⊕((List Int)×(List Int))) :=
 (if (decide (x661 < (a2.length:Int))) then (ifp (0≤x661∧x661 < ((a2.length:Nat):Int)) ((ifp (0≤IntKind.i64.wrap (x467 + x661)∧IntKind.i64.wrap (x467 + x661) < ((x662.length:Nat):Int)) ((letp (IntKind.i64.wrap ((Int.tmod (IntKind.i64.wrap ((rd x468 x641.toNat)*r9)) a0)*(rd a2 x661.toNat))) fun x684=>(letp (IntKind.i64.wrap (((rd x662 (IntKind.i64.wrap (x467 + x661)).toNat)) - x684)) fun x686=>(Option.bind (impl_prime_reduce a0 x686) fun r688=>(ifp (0≤IntKind.i64.wrap (x467 + x661)∧IntKind.i64.wrap (x467 + x661) < ((x662.length:Nat):Int)) ((some (.inl ((IntKind.i64.wrap (x661 + 1),(x662.set (IntKind.i64.wrap (x467 + x661)).toNat r688)))))))))))))) else (some (.inr (((x662,(x469.set x467.toNat (Int.tmod (IntKind.i64.wrap ((rd x468 x641.toNat)*r9)) a0))))))))
noncomputable def impl_prime_divide_l1 (a2:(List Int)) (a0:Int) (r9:Int) (x467:Int) (x468:(List Int)) (x469:(List Int)):Option ((Int×(List Int)×(List Int))⊕((List Int)×(List Int))) :=
 (if (decide (x467 ≥ 0)) then (Option.bind (α:=((List Int)×(List Int))) ((letp (IntKind.i64.wrap ((IntKind.i64.wrap (x467 + (a2.length:Int))) - 1)) fun x641=>(ifp (0≤x641∧x641 < ((x468.length:Nat):Int)) ((ifp (a0 ≠ 0) ((ifp (0≤x467∧x467 < ((x469.length:Nat):Int)) ((loopM (fun s:(Int×(List Int))=>impl_prime_divide_l2 a2 x467 x468 x641 r9 a0 x469 s.1 s.2) (0,x468)))))))))) fun ⟨x636,x637⟩=>(some (.inl ((IntKind.i64.wrap (x467 - 1),x636,x637))))) else (some (.inr (x468,x469))))
noncomputable def impl_prime_divide (a0:Int) (a1:(List Int)) (a2:(List Int)):Option ((List Int)×(List Int)) :=
 (Option.bind (slices_Clone_impl_row_int64_fresh a1) fun r1=>(if (decide ((a1.length:Int) < (a2.length:Int))) then (some ([],r1)) else (letp (IntKind.i64.wrap ((IntKind.i64.wrap ((a1.length:Int) - (a2.length:Int))) + 1)) fun x4=>(ifp (0≤x4∧x4≤140737488355328∧8*x4≤140737488355328) ((Option.bind (impl_row_lead a2) fun r7=>(Option.bind (impl_prime_inverse a0 r7) fun r9=>(Option.bind (α:=((List Int)×(List Int))) ((letp (IntKind.i64.wrap ((((List.replicate x4.toNat (0:Int)).length:Int)) - 1)) fun x355=>(loopM (fun s:(Int×(List Int)×(List Int))=>impl_prime_divide_l1 a2 a0 r9 s.1 s.2.1 s.2.2) (x355,r1,List.replicate x4.toNat (0:Int))))) fun ⟨x350,x351⟩=>(Option.bind (impl_row_trimmed x351) fun r694=>(Option.bind (impl_row_trimmed x350) fun r696=>(some (r694,r696))))))))))))
theorem impl_prime_divide_ok (a0:Int) (a1:(List Int)) (a2:(List Int)) (r:((List Int)×(List Int))) (h:impl_prime_divide a0 a1 a2=some r):Den Try.prog 63 [(i6 a0),(eSi64 a1),(eSi64 a2)] { r:=(.tuple [(eSi64 r.1),(eSi64 r.2)]) }:=by
 refine dd (rs:=[(eSi64 r.1),(eSi64 r.2)]) (L:=impl_prime_divide_L) good [(6,1),(7,1),(8,2),(9,2)] Try.func63 Try.ntmps63 ?_
 refine ns ⟨[(0,i6 a0),(1,eSi64 a1),(2,eSi64 a2)],[]⟩ ?_
 refine sr (vr (eSi64 ([])) (vr (eSi64 ([])) (nk ⟨[(0,i6 a0),(1,eSi64 a1),(2,eSi64 a2)],[]⟩ (sr (vr (eSi64 a1) ?_)))))
 obtain ⟨r1,hr2,h⟩:=bind_some h
 refine a_callF (args:=[(eSi64 a1)]) (u:=[]) (u2:=[]) (r:=(.osl 2000000)) (fs:=[(1,r1.map (AV.int .i64))]) rfl rfl (slices_Clone_impl_row_int64_fresh_ok a1 r1 hr2) rfl rfl rfl (.inl rfl) rfl (vr (.osl 2600) (nk ⟨[(0,i6 a0),(1,eSi64 a1),(2,eSi64 a2),(8,.osl 8)],[(8,bk (.row 1 (r1.map (AV.int .i64))))]⟩ (a_seq (sr (vr (eSi64 a1) (vq (i6 (a1.length:Int)) (len_run rfl rfl) trivial (vr (eSi64 a2) (vq (i6 (a2.length:Int)) (len_run rfl rfl) trivial (vr (.bool ((decide ((a1.length:Int) < (a2.length:Int))))) ?_)))))))))
 refine nk ⟨[(0,i6 a0),(1,eSi64 a1),(2,eSi64 a2),(8,.osl 8),(21,.bool ((decide ((a1.length:Int) < (a2.length:Int)))))],[(8,bk (.row 1 (r1.map (AV.int .i64))))]⟩ ?_
 cases hb3:(decide ((a1.length:Int) < (a2.length:Int)))
 ·have h:=ite_f hb3 h
  refine a_cond_f rfl (a_skip (nj ⟨[(0,i6 a0),(1,eSi64 a1),(2,eSi64 a2),(8,.osl 8)],[(8,bk (.row 1 (r1.map (AV.int .i64))))]⟩ (sr (vr (eSi64 a1) (vq (i6 (a1.length:Int)) (len_run rfl rfl) trivial (vr (eSi64 a2) (vq (i6 (a2.length:Int)) (len_run rfl rfl) trivial (vr (i6 (IntKind.i64.wrap ((a1.length:Int) - (a2.length:Int)))) ?_))))))))
  obtain ⟨x4,hx5,h⟩:=letp_some h
  refine a_val' (v:=(i6 (IntKind.i64.wrap ((IntKind.i64.wrap ((a1.length:Int) - (a2.length:Int))) + 1)))) (v':=(i6 x4)) (u:=[]) (u':=[]) rfl (congrArg (fun z=>((i6 z):AV)) hx5) rfl trivial rfl ?_
  obtain ⟨hc6,h⟩:=ifp_some h
  refine vu (.osl 3900) [(3900,bk (.row 1 ((List.replicate x4.toNat (0:Int)).map (AV.int .i64))))] (mk_run (i:=⟨.int .i64,1,8,(.int .i64 0)⟩) (f:=(AV.int .i64)) (y:=(0:Int)) rfl rfl rfl rfl rfl rfl) ⟨rfl,hc6.1,hc6.2.1,hc6.2.2,(Nat.le_of_ble_eq_true rfl)⟩ rfl (vr (.osl 3900) (nk ⟨[(0,i6 a0),(2,eSi64 a2),(8,.osl 8),(9,.osl 9)],[(8,bk (.row 1 (r1.map (AV.int .i64)))),(9,bk (.row 1 ((List.replicate x4.toNat (0:Int)).map (AV.int .i64))))]⟩ (sr (vr (i6 a0) (vr (eSi64 a2) ?_)))))
  obtain ⟨r7,hr8,h⟩:=bind_some h
  refine ca (impl_row_lead_ok a2 r7 hr8) ?_
  obtain ⟨r9,hr10,h⟩:=bind_some h
  refine ca (impl_prime_inverse_ok a0 r7 r9 hr10) (vr (i6 r9) (nk ⟨[(0,i6 a0),(2,eSi64 a2),(8,.osl 8),(9,.osl 9),(10,i6 r9)],[(8,bk (.row 1 (r1.map (AV.int .i64)))),(9,bk (.row 1 ((List.replicate x4.toNat (0:Int)).map (AV.int .i64))))]⟩ ?_))
  obtain ⟨y352,hy353,hk354⟩:=bind_some h
  clear h
  refine a_join (emb:=fun (s:((List Int)×(List Int)))=>⟨[(8,.osl 8),(9,.osl 9)],[(8,bk (.row 1 (s.1.map (AV.int .i64)))),(9,bk (.row 1 (s.2.map (AV.int .i64))))]⟩) (pre:=fun s=>s=y352) ?_ ?_
  ·rintro ⟨x350,x351⟩ rfl
   have h:=hk354
   refine ns ⟨[(8,.osl 8),(9,.osl 9)],[(8,bk (.row 1 (x350.map (AV.int .i64)))),(9,bk (.row 1 (x351.map (AV.int .i64))))]⟩ (sr (vr (.osl 9) ?_))
   obtain ⟨r694,hr695,h⟩:=bind_some h
   refine a_call (args:=[(eSi64 x351)]) (u:=[(9,bf (.row 1 (x351.map (AV.int .i64))))]) (r:=(eSi64 r694)) rfl rfl (impl_row_trimmed_ok x351 r694 hr695) rfl (vr (.osl 8) ?_)
   obtain ⟨r696,hr697,h⟩:=bind_some h
   refine a_call (args:=[(eSi64 x350)]) (u:=[(8,bf (.row 1 (x350.map (AV.int .i64))))]) (r:=(eSi64 r696)) rfl rfl (impl_row_trimmed_ok x350 r696 hr697) rfl (vr (eSi64 r694) (vr (eSi64 r696) (nx _ rfl (a_ret ?_))))
   refine ⟨.inr rfl,?_⟩
   rw [Try.results63]
   cases h
   exact ⟨_,_,_,_,_,rfl,trivial,.inl ⟨rfl,.inl rfl⟩,rfl,⟨_,_,_,_,_,rfl,trivial,.inl ⟨rfl,.inl rfl⟩,rfl,rfl⟩⟩
  ·have h:=hy353
   refine sr (vr (.osl 9) (vq (i6 (((List.replicate x4.toNat (0:Int)).length:Int))) (leno_run rfl rfl rfl) trivial ?_))
   obtain ⟨x355,hx356,h⟩:=letp_some h
   refine a_val' (v:=(i6 (IntKind.i64.wrap ((((List.replicate x4.toNat (0:Int)).length:Int)) - 1)))) (v':=(i6 x355)) (u:=[]) (u':=[]) rfl (congrArg (fun z=>((i6 z):AV)) hx356) rfl trivial rfl (vr (i6 x355) (nk ⟨[(0,i6 a0),(2,eSi64 a2),(8,.osl 8),(9,.osl 9),(10,i6 r9),(11,i6 x355)],[(8,bk (.row 1 (r1.map (AV.int .i64)))),(9,bk (.row 1 ((List.replicate x4.toNat (0:Int)).map (AV.int .i64))))]⟩ (a_block ?_)))
   refine a_loop (emb:=fun (s:(Int×(List Int)×(List Int)))=>⟨[(0,i6 a0),(2,eSi64 a2),(8,.osl 8),(9,.osl 9),(10,i6 r9),(11,i6 s.1)],[(8,bk (.row 1 (s.2.1.map (AV.int .i64)))),(9,bk (.row 1 (s.2.2.map (AV.int .i64))))]⟩) (body:=(fun s:(Int×(List Int)×(List Int))=>impl_prime_divide_l1 a2 a0 r9 s.1 s.2.1 s.2.2)) (G:=fun q=>some q=some y352) h rfl ?_ (by kernel_rfl)
   rintro X580 ⟨x467,x468,x469⟩ x581 h hX582
   have h:impl_prime_divide_l1 a2 a0 r9 x467 x468 x469=some x581:=h
   refine ns ⟨[(0,i6 a0),(2,eSi64 a2),(8,.osl 8),(9,.osl 9),(10,i6 r9),(11,i6 x467)],[(8,bk (.row 1 (x468.map (AV.int .i64)))),(9,bk (.row 1 (x469.map (AV.int .i64))))]⟩ (a_seq (sr (vr (i6 x467) (vr (.bool ((decide (x467 ≥ 0)))) (nk ⟨[(0,i6 a0),(2,eSi64 a2),(8,.osl 8),(9,.osl 9),(10,i6 r9),(11,i6 x467),(38,.bool ((decide (x467 ≥ 0))))],[(8,bk (.row 1 (x468.map (AV.int .i64)))),(9,bk (.row 1 (x469.map (AV.int .i64))))]⟩ ?_)))))
   cases hb583:(decide (x467 ≥ 0))
   ·have h:=ite_f hb583 h
    refine a_cond_f rfl (a_exit (t_exit ?_))
    cases h
    have h:=hX582
    refine t_exit (b_exit ?_)
    exact jl (x468,x469) h
   ·have h:=ite_t hb583 h
    refine a_cond_t rfl (a_skip (nj ⟨[(0,i6 a0),(2,eSi64 a2),(8,.osl 8),(9,.osl 9),(10,i6 r9),(11,i6 x467)],[(8,bk (.row 1 (x468.map (AV.int .i64)))),(9,bk (.row 1 (x469.map (AV.int .i64))))]⟩ ?_))
    obtain ⟨y638,hy639,hk640⟩:=bind_some h
    clear h
    refine a_join (emb:=fun (s:((List Int)×(List Int)))=>⟨[(0,i6 a0),(2,eSi64 a2),(8,.osl 8),(9,.osl 9),(10,i6 r9),(11,i6 x467)],[(8,bk (.row 1 (s.1.map (AV.int .i64)))),(9,bk (.row 1 (s.2.map (AV.int .i64))))]⟩) (pre:=fun s=>s=y638) ?_ ?_
    ·rintro ⟨x636,x637⟩ rfl
     have h:=hk640
     refine ns ⟨[(0,i6 a0),(2,eSi64 a2),(8,.osl 8),(9,.osl 9),(10,i6 r9),(11,i6 x467)],[(8,bk (.row 1 (x636.map (AV.int .i64)))),(9,bk (.row 1 (x637.map (AV.int .i64))))]⟩ (a_region (vr (i6 x467) (vr (i6 (IntKind.i64.wrap (x467 - 1))) (vr (i6 (IntKind.i64.wrap (x467 - 1))) (a_nil ?_)))))
     cases h
     exact ag hX582
    ·have h:=hy639
     refine a_block (sr (vr (.osl 8) (vr (i6 x467) (vr (eSi64 a2) (vq (i6 (a2.length:Int)) (len_run rfl rfl) trivial (vr (i6 (IntKind.i64.wrap (x467 + (a2.length:Int)))) ?_))))))
     obtain ⟨x641,hx642,h⟩:=letp_some h
     refine a_val' (v:=(i6 (IntKind.i64.wrap ((IntKind.i64.wrap (x467 + (a2.length:Int))) - 1)))) (v':=(i6 x641)) (u:=[]) (u':=[]) rfl (congrArg (fun z=>((i6 z):AV)) hx642) rfl trivial rfl ?_
     obtain ⟨hc643,h⟩:=ifp_some h
     refine vq (.own 8 [x641.toNat] [x641.toNat*1]) rfl (lmap hc643) ?_
     have hl644:LdOk [x641.toNat] (.row 1 (x468.map (AV.int .i64))) [x641.toNat*1] 1 false (i6 (rd x468 x641.toNat)):=(.row (llt hc643) rfl (.nil rfl rfl rfl))
     refine vq (i6 (rd x468 x641.toNat)) (ld_own (i:=⟨.int .i64,1,8,(.int .i64 0)⟩) rfl rfl rfl hl644) hl644.c (vr (i6 r9) (vr (i6 (IntKind.i64.wrap ((rd x468 x641.toNat)*r9))) (vr (i6 a0) ?_)))
     obtain ⟨hc645,h⟩:=ifp_some h
     refine vq (i6 (Int.tmod (IntKind.i64.wrap ((rd x468 x641.toNat)*r9)) a0)) rfl hc645 (vr (i6 (Int.tmod (IntKind.i64.wrap ((rd x468 x641.toNat)*r9)) a0)) (nk ⟨[(0,i6 a0),(2,eSi64 a2),(8,.osl 8),(9,.osl 9),(10,i6 r9),(11,i6 x467),(12,i6 (Int.tmod (IntKind.i64.wrap ((rd x468 x641.toNat)*r9)) a0))],[(8,bk (.row 1 (x468.map (AV.int .i64)))),(9,bk (.row 1 (x469.map (AV.int .i64))))]⟩ (sr (vr (.osl 9) (vr (i6 x467) (vr (i6 (Int.tmod (IntKind.i64.wrap ((rd x468 x641.toNat)*r9)) a0)) ?_))))))
     obtain ⟨hc646,h⟩:=ifp_some h
     refine vq (.own 9 [x467.toNat] [x467.toNat*1]) rfl (lmap hc646) ?_
     have hs647:StOk [x467.toNat] (.row 1 (x469.map (AV.int .i64))) [x467.toNat*1] 1 (i6 (Int.tmod (IntKind.i64.wrap ((rd x468 x641.toNat)*r9)) a0)) (.row 1 (((x469.set x467.toNat (Int.tmod (IntKind.i64.wrap ((rd x468 x641.toNat)*r9)) a0))).map (AV.int .i64))):=(.row (y:=Int.tmod (IntKind.i64.wrap ((rd x468 x641.toNat)*r9)) a0) (llt hc646) rfl (.nil rfl rfl rfl rfl))
     refine vu .top [(9,bk (.row 1 (((x469.set x467.toNat (Int.tmod (IntKind.i64.wrap ((rd x468 x641.toNat)*r9)) a0))).map (AV.int .i64))))] (st_own (i:=⟨.int .i64,1,8,(.int .i64 0)⟩) rfl rfl (fun _=>rfl) rfl hs647) (hs647.c rfl) rfl (nk ⟨[(0,i6 a0),(2,eSi64 a2),(8,.osl 8),(9,.osl 9),(10,i6 r9),(11,i6 x467),(12,i6 (Int.tmod (IntKind.i64.wrap ((rd x468 x641.toNat)*r9)) a0))],[(8,bk (.row 1 (x468.map (AV.int .i64)))),(9,bk (.row 1 (((x469.set x467.toNat (Int.tmod (IntKind.i64.wrap ((rd x468 x641.toNat)*r9)) a0))).map (AV.int .i64))))]⟩ (sr (vr (eSi64 a2) (vq (i6 (a2.length:Int)) (len_run rfl rfl) trivial (vr (i6 0) (nk ⟨[(0,i6 a0),(2,eSi64 a2),(8,.osl 8),(9,.osl 9),(10,i6 r9),(11,i6 x467),(12,i6 (Int.tmod (IntKind.i64.wrap ((rd x468 x641.toNat)*r9)) a0)),(57,eSi64 a2),(58,i6 (a2.length:Int)),(59,i6 0)],[(8,bk (.row 1 (x468.map (AV.int .i64)))),(9,bk (.row 1 (((x469.set x467.toNat (Int.tmod (IntKind.i64.wrap ((rd x468 x641.toNat)*r9)) a0))).map (AV.int .i64))))]⟩ (a_block ?_)))))))
     refine a_loop (emb:=fun (s:(Int×(List Int)))=>⟨[(0,i6 a0),(2,eSi64 a2),(8,.osl 8),(9,.osl 9),(10,i6 r9),(11,i6 x467),(12,i6 (Int.tmod (IntKind.i64.wrap ((rd x468 x641.toNat)*r9)) a0)),(57,eSi64 a2),(58,i6 (a2.length:Int)),(59,i6 s.1)],[(8,bk (.row 1 (s.2.map (AV.int .i64)))),(9,bk (.row 1 (((x469.set x467.toNat (Int.tmod (IntKind.i64.wrap ((rd x468 x641.toNat)*r9)) a0))).map (AV.int .i64))))]⟩) (body:=(fun s:(Int×(List Int))=>impl_prime_divide_l2 a2 x467 x468 x641 r9 a0 x469 s.1 s.2)) (G:=fun q=>some q=some y638) h rfl ?_ (by kernel_rfl)
     rintro X676 ⟨x661,x662⟩ x677 h hX678
     have h:impl_prime_divide_l2 a2 x467 x468 x641 r9 a0 x469 x661 x662=some x677:=h
     refine ns ⟨[(0,i6 a0),(2,eSi64 a2),(8,.osl 8),(9,.osl 9),(10,i6 r9),(11,i6 x467),(12,i6 (Int.tmod (IntKind.i64.wrap ((rd x468 x641.toNat)*r9)) a0)),(57,eSi64 a2),(58,i6 (a2.length:Int)),(59,i6 x661)],[(8,bk (.row 1 (x662.map (AV.int .i64)))),(9,bk (.row 1 (((x469.set x467.toNat (Int.tmod (IntKind.i64.wrap ((rd x468 x641.toNat)*r9)) a0))).map (AV.int .i64))))]⟩ (sr (vr (.bool ((decide (x661 < (a2.length:Int))))) (nk ⟨[(0,i6 a0),(2,eSi64 a2),(8,.osl 8),(9,.osl 9),(10,i6 r9),(11,i6 x467),(12,i6 (Int.tmod (IntKind.i64.wrap ((rd x468 x641.toNat)*r9)) a0)),(57,eSi64 a2),(58,i6 (a2.length:Int)),(59,i6 x661),(60,.bool ((decide (x661 < (a2.length:Int)))))],[(8,bk (.row 1 (x662.map (AV.int .i64)))),(9,bk (.row 1 (((x469.set x467.toNat (Int.tmod (IntKind.i64.wrap ((rd x468 x641.toNat)*r9)) a0))).map (AV.int .i64))))]⟩ (a_seq ?_))))
     cases hb679:(decide (x661 < (a2.length:Int)))
     ·have h:=ite_f hb679 h
      refine a_cond_f rfl (a_exit (t_exit ?_))
      cases h
      have h:=hX678
      refine t_exit (b_exit (b_norm ?_))
      exact jl ((x662,(x469.set x467.toNat (Int.tmod (IntKind.i64.wrap ((rd x468 x641.toNat)*r9)) a0)))) h
     ·have h:=ite_t hb679 h
      refine a_cond_t rfl (a_skip (nj ⟨[(0,i6 a0),(2,eSi64 a2),(8,.osl 8),(9,.osl 9),(10,i6 r9),(11,i6 x467),(12,i6 (Int.tmod (IntKind.i64.wrap ((rd x468 x641.toNat)*r9)) a0)),(57,eSi64 a2),(58,i6 (a2.length:Int)),(59,i6 x661)],[(8,bk (.row 1 (x662.map (AV.int .i64)))),(9,bk (.row 1 (((x469.set x467.toNat (Int.tmod (IntKind.i64.wrap ((rd x468 x641.toNat)*r9)) a0))).map (AV.int .i64))))]⟩ (a_seq (a_block (sr (vr (i6 x661) ?_))))))
      obtain ⟨hc680,h⟩:=ifp_some h
      refine vq (.ref (.row 1 (a2.map (AV.int .i64))) [x661.toNat] [x661.toNat*1]) rfl (lmap hc680) ?_
      have hl681:LdOk [x661.toNat] (.row 1 (a2.map (AV.int .i64))) [x661.toNat*1] 1 false (i6 (rd a2 x661.toNat)):=(.row (llt hc680) rfl (.nil rfl rfl rfl))
      refine vq (i6 (rd a2 x661.toNat)) (ld_ref (i:=⟨.int .i64,1,8,(.int .i64 0)⟩) rfl rfl hl681) hl681.c (vr (i6 x661) (vr (i6 (rd a2 x661.toNat)) (nk ⟨[(0,i6 a0),(2,eSi64 a2),(8,.osl 8),(9,.osl 9),(10,i6 r9),(11,i6 x467),(12,i6 (Int.tmod (IntKind.i64.wrap ((rd x468 x641.toNat)*r9)) a0)),(13,i6 x661),(14,i6 (rd a2 x661.toNat)),(57,eSi64 a2),(58,i6 (a2.length:Int)),(59,i6 x661)],[(8,bk (.row 1 (x662.map (AV.int .i64)))),(9,bk (.row 1 (((x469.set x467.toNat (Int.tmod (IntKind.i64.wrap ((rd x468 x641.toNat)*r9)) a0))).map (AV.int .i64))))]⟩ (a_region (vr (.osl 8) (vr (i6 x467) (vr (i6 x661) (vr (i6 (IntKind.i64.wrap (x467 + x661))) (vr (i6 a0) ?_)))))))))
      refine vr (.osl 8) (vr (i6 x467) (vr (i6 x661) (vr (i6 (IntKind.i64.wrap (x467 + x661))) ?_)))
      obtain ⟨hc682,h⟩:=ifp_some h
      refine vq (.own 8 [(IntKind.i64.wrap (x467 + x661)).toNat] [(IntKind.i64.wrap (x467 + x661)).toNat*1]) rfl (lmap hc682) ?_
      have hl683:LdOk [(IntKind.i64.wrap (x467 + x661)).toNat] (.row 1 (x662.map (AV.int .i64))) [(IntKind.i64.wrap (x467 + x661)).toNat*1] 1 false (i6 ((rd x662 (IntKind.i64.wrap (x467 + x661)).toNat))):=(.row (llt hc682) rfl (.nil rfl rfl rfl))
      refine vq (i6 ((rd x662 (IntKind.i64.wrap (x467 + x661)).toNat))) (ld_own (i:=⟨.int .i64,1,8,(.int .i64 0)⟩) rfl rfl rfl hl683) hl683.c (vr (i6 (Int.tmod (IntKind.i64.wrap ((rd x468 x641.toNat)*r9)) a0)) (vr (i6 (rd a2 x661.toNat)) ?_))
      obtain ⟨x684,hx685,h⟩:=letp_some h
      refine a_val' (v:=(i6 (IntKind.i64.wrap ((Int.tmod (IntKind.i64.wrap ((rd x468 x641.toNat)*r9)) a0)*(rd a2 x661.toNat))))) (v':=(i6 x684)) (u:=[]) (u':=[]) rfl (congrArg (fun z=>((i6 z):AV)) hx685) rfl trivial rfl ?_
      obtain ⟨x686,hx687,h⟩:=letp_some h
      refine a_val' (v:=(i6 (IntKind.i64.wrap (((rd x662 (IntKind.i64.wrap (x467 + x661)).toNat)) - x684)))) (v':=(i6 x686)) (u:=[]) (u':=[]) rfl (congrArg (fun z=>((i6 z):AV)) hx687) rfl trivial rfl ?_
      obtain ⟨r688,hr689,h⟩:=bind_some h
      refine ca (impl_prime_reduce_ok a0 x686 r688 hr689) ?_
      obtain ⟨hc690,h⟩:=ifp_some h
      refine vq (.own 8 [(IntKind.i64.wrap (x467 + x661)).toNat] [(IntKind.i64.wrap (x467 + x661)).toNat*1]) rfl (lmap hc690) ?_
      have hs691:StOk [(IntKind.i64.wrap (x467 + x661)).toNat] (.row 1 (x662.map (AV.int .i64))) [(IntKind.i64.wrap (x467 + x661)).toNat*1] 1 (i6 r688) (.row 1 (((x662.set (IntKind.i64.wrap (x467 + x661)).toNat r688)).map (AV.int .i64))):=(.row (y:=r688) (llt hc690) rfl (.nil rfl rfl rfl rfl))
      refine vu .top [(8,bk (.row 1 (((x662.set (IntKind.i64.wrap (x467 + x661)).toNat r688)).map (AV.int .i64))))] (st_own (i:=⟨.int .i64,1,8,(.int .i64 0)⟩) rfl rfl (fun _=>rfl) rfl hs691) (hs691.c rfl) rfl (a_nil (b_norm (nj ⟨[(0,i6 a0),(2,eSi64 a2),(8,.osl 8),(9,.osl 9),(10,i6 r9),(11,i6 x467),(12,i6 (Int.tmod (IntKind.i64.wrap ((rd x468 x641.toNat)*r9)) a0)),(57,eSi64 a2),(58,i6 (a2.length:Int)),(59,i6 x661)],[(8,bk (.row 1 (((x662.set (IntKind.i64.wrap (x467 + x661)).toNat r688)).map (AV.int .i64)))),(9,bk (.row 1 (((x469.set x467.toNat (Int.tmod (IntKind.i64.wrap ((rd x468 x641.toNat)*r9)) a0))).map (AV.int .i64))))]⟩ (a_region (vr (i6 (IntKind.i64.wrap (x661 + 1))) (vr (i6 (IntKind.i64.wrap (x661 + 1))) (a_nil ?_)))))))
      cases h
      exact ag hX678
 ·have h:=ite_t hb3 h
  refine a_cond_t rfl (sr (vr (.osl 8) (vr (eSi64 ([])) (vu (eSi64 r1) [(8,bf (.row 1 (r1.map (AV.int .i64))))] rfl trivial rfl (nx _ rfl (a_ret (t_ret ?_)))))))
  refine ⟨.inr rfl,?_⟩
  rw [Try.results63]
  cases h
  exact ⟨_,_,_,_,_,rfl,trivial,.inl ⟨rfl,.inl rfl⟩,rfl,⟨_,_,_,_,_,rfl,trivial,.inl ⟨rfl,.inl rfl⟩,rfl,rfl⟩⟩
end Go.Proofs.Ytebfhlnfmkhmcaa
