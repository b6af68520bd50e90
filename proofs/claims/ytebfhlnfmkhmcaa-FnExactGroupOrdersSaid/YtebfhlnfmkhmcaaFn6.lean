/- Functions of the program: plain Lean functions, and that the program computes them. Printed by gen.py. -/
import Derived.Test.YtebfhlnfmkhmcaaFnT
import Derived.Test.YtebfhlnfmkhmcaaFn4
import Derived.Test.YtebfhlnfmkhmcaaFn5
namespace Go.Proofs.Ytebfhlnfmkhmcaa
open Go.Abs Go.Proofs
set_option linter.unusedSimpArgs false
set_option linter.unusedVariables false
set_option maxHeartbeats 16000000
attribute [local irreducible] Abs.acode Abs.aops Abs.aopsT Abs.thenK Abs.blockK

def impl_IsForm_L:Live:=[(0,[0,1,2]),(1,[0,4,5])]
noncomputable def impl_IsForm (a0:Int) (a1:(Vec Int 64)) (a2:((Vec Int 64)×(Vec Int 64))):Option Bool :=
 (Option.bind (impl_IsDiscriminant a0 a1) fun r22=>(if r22 then (Option.bind (impl_isPoly a0 a2.1) fun r26=>(if r26 then (Option.bind (impl_isPoly a0 a2.2) fun r30=>(if r30 then (Option.bind (impl_curveOf a0 a1) fun r34=>(Option.bind (impl_formOf a2) fun r37=>(Option.bind (impl_curve_isForm r34 r37) fun r39=>(some r39)))) else (some false))) else (some false))) else (some false)))
theorem impl_IsForm_ok (a0:Int) (a1:(Vec Int 64)) (a2:((Vec Int 64)×(Vec Int 64))) (r:Bool) (h:impl_IsForm a0 a1 a2=some r):Den Try.prog 48 [(i6 a0),(eVb a1),(eT_A64u8_A64u8_Z a2)] { r:=(.bool r) }:=by
 refine dd (rs:=[(.bool r)]) (L:=impl_IsForm_L) good [] Try.func48 Try.ntmps48 ?_
 refine ns ⟨[(0,i6 a0),(1,eVb a1),(2,eT_A64u8_A64u8_Z a2)],[]⟩ ?_
 refine sr (vo 1400 (eVb a1) rfl rfl (vo 1500 (eT_A64u8_A64u8_Z a2) rfl rfl (vr (.bool false) (nk ⟨[(0,i6 a0),(4,ow 4),(5,ow 5)],[(4,bk (eVb a1)),(5,bk (eT_A64u8_A64u8_Z a2))]⟩ (a_seq (a_draw [⟨[],[],[],[]⟩,⟨[4],[],[],[]⟩,⟨[],[],[],[0,1]⟩,⟨[],[],[],[0,1,2]⟩,⟨[],[],[],[0,1,2,3]⟩,⟨[5],[],[5],[0,1,2,3]⟩,⟨[5],[],[],[0,1,2,3,5]⟩,⟨[],[],[],[0,1,2,3,4,5,6]⟩,⟨[],[],[],[0,1,2,3,4,5,6,7]⟩,⟨[],[],[],[0,1,2,3,4,5,6,7,8]⟩,⟨[],[],[],[0,1,2,3,4,5,6,7,8,9]⟩,⟨[5],[],[5],[0,1,2,3,4,5,6,7,8,9]⟩,⟨[5],[],[],[0,1,2,3,4,5,6,7,8,9,11]⟩,⟨[],[],[],[0,1,2,3,4,5,6,7,8,9,10,11,12]⟩,⟨[],[],[],[0,1,2,3,4,5,6,7,8,9,10,11,12,13]⟩,⟨[],[],[],[0,1,2,3,4,5,6,7,8,9,10,11,12,13,14]⟩,⟨[],[],[],[0,1,2,3,4,5,6,7,8,9,10,11,12,13,14,15]⟩,⟨[4],[],[],[0,1,2,3,4,5,6,7,8,9,10,11,12,13,14,15]⟩,⟨[],[],[],[0,1,2,3,4,5,6,7,8,9,10,11,12,13,14,15,16,17]⟩,⟨[5],[],[],[0,1,2,3,4,5,6,7,8,9,10,11,12,13,14,15]⟩,⟨[],[],[],[0,1,2,3,4,5,6,7,8,9,10,11,12,13,14,15,16,17,18,19]⟩,⟨[],[],[],[0,1,2,3,4,5,6,7,8,9,10,11,12,13,14,15,16,17,18,19,20]⟩,⟨[],[],[],[0,1,2,3,4,5,6,7,8,9,10,11,12,13,14,15,16,17,18,19,20,21]⟩,⟨[],[],[],[0,1,2,3,4,5,6,7,8,9,10,11,12,13,14,15,16,17,18,19,20,21,22]⟩] (by kernel_rfl) (dj (i6 a0) rfl (d_cons (vl (eVb a1) rfl rfl rfl rfl rfl rfl ?_)))))))))
 refine dn (d_cons ?_)
 obtain ⟨r22,hr23,h⟩:=bind_some h
 refine ca (impl_IsDiscriminant_ok a0 a1 r22 hr23) (dn (dj (.bool r22) rfl ?_))
 cases hb24:r22
 ·have h:=ite_f hb24 h
  refine dk rfl (by kernel_rfl) (dk rfl (by kernel_rfl) (dk rfl (by kernel_rfl) (dk rfl (by kernel_rfl) (dj (.bool false) rfl (dj (.bool false) rfl (dk rfl (by kernel_rfl) (dk rfl (by kernel_rfl) (dk rfl (by kernel_rfl) (dk rfl (by kernel_rfl) ?_)))))))))
  refine dj (.bool false) rfl (dj (.bool false) rfl (dk rfl (by kernel_rfl) (dk rfl (by kernel_rfl) (dk rfl (by kernel_rfl) (dk rfl (by kernel_rfl) (dk rfl (by kernel_rfl) (dk rfl (by kernel_rfl) (dj (.bool false) rfl (dj (.bool false) rfl ?_)))))))))
  refine d_nil (a_next rfl (a_ret ?_))
  refine ⟨.inr rfl,?_⟩
  rw [Try.results48]
  cases h
  exact ⟨_,_,_,_,_,rfl,trivial,.inl ⟨rfl,.inl rfl⟩,rfl,rfl⟩
 ·have h:=ite_t hb24 h
  refine dg (i6 a0) rfl rfl (by kernel_rfl) (d_cons (gq (.own 5 [0] [0]) rfl rfl (Nat.le_of_ble_eq_true rfl) (dn (d_cons ?_))))
  have hl25:LdOk [0] (eT_A64u8_A64u8_Z a2) [0] 64 true (eVb a2.1):=(.fld rfl rfl rfl rfl (.nil rfl rfl rfl))
  refine gq (eVb a2.1) rfl (ld_own (i:=⟨.arr 64 5,64,64,(eVb (vrep 64 (0:Int)))⟩) rfl rfl rfl hl25) hl25.c (dn (d_cons ?_))
  obtain ⟨r26,hr27,h⟩:=bind_some h
  refine a_gcall rfl (args:=[(i6 a0),(eVb a2.1)]) (u:=[]) (r:=(.bool r26)) rfl rfl (impl_isPoly_ok a0 a2.1 r26 hr27) rfl (dn (dj (.bool r26) rfl (dj (.bool r26) rfl ?_)))
  cases hb28:r26
  ·have h:=ite_f hb28 h
   refine dk rfl (by kernel_rfl) (dk rfl (by kernel_rfl) (dk rfl (by kernel_rfl) (dk rfl (by kernel_rfl) (dj (.bool false) rfl (dj (.bool false) rfl (dk rfl (by kernel_rfl) (dk rfl (by kernel_rfl) (dk rfl (by kernel_rfl) (dk rfl (by kernel_rfl) ?_)))))))))
   refine dk rfl (by kernel_rfl) (dk rfl (by kernel_rfl) (dj (.bool false) rfl (dj (.bool false) rfl (d_nil (a_next rfl (a_ret ?_))))))
   refine ⟨.inr rfl,?_⟩
   rw [Try.results48]
   cases h
   exact ⟨_,_,_,_,_,rfl,trivial,.inl ⟨rfl,.inl rfl⟩,rfl,rfl⟩
  ·have h:=ite_t hb28 h
   refine dg (i6 a0) rfl rfl (by kernel_rfl) (d_cons (gq (.own 5 [1] [64]) rfl rfl (Nat.le_of_ble_eq_true rfl) (dn (d_cons ?_))))
   have hl29:LdOk [1] (eT_A64u8_A64u8_Z a2) [64] 64 true (eVb a2.2):=(.fld rfl rfl rfl rfl (.nil rfl rfl rfl))
   refine gq (eVb a2.2) rfl (ld_own (i:=⟨.arr 64 5,64,64,(eVb (vrep 64 (0:Int)))⟩) rfl rfl rfl hl29) hl29.c (dn (d_cons ?_))
   obtain ⟨r30,hr31,h⟩:=bind_some h
   refine a_gcall rfl (args:=[(i6 a0),(eVb a2.2)]) (u:=[]) (r:=(.bool r30)) rfl rfl (impl_isPoly_ok a0 a2.2 r30 hr31) rfl (dn (dj (.bool r30) rfl (dj (.bool r30) rfl ?_)))
   cases hb32:r30
   ·have h:=ite_f hb32 h
    refine dk rfl (by kernel_rfl) (dk rfl (by kernel_rfl) (dk rfl (by kernel_rfl) (dk rfl (by kernel_rfl) (dk rfl (by kernel_rfl) (dk rfl (by kernel_rfl) (dj (.bool false) rfl (dj (.bool false) rfl (d_nil (a_next rfl ?_)))))))))
    refine a_ret ?_
    refine ⟨.inr rfl,?_⟩
    rw [Try.results48]
    cases h
    exact ⟨_,_,_,_,_,rfl,trivial,.inl ⟨rfl,.inl rfl⟩,rfl,rfl⟩
   ·have h:=ite_t hb32 h
    refine dg (i6 a0) rfl rfl (by kernel_rfl) (d_cons ?_)
    have hl33:LdOk [] (eVb a1) [] 64 true (eVb a1):=(.nil rfl rfl rfl)
    refine gq (eVb a1) rfl (ld_own (i:=⟨.arr 64 5,64,64,(eVb (vrep 64 (0:Int)))⟩) rfl rfl rfl hl33) hl33.c (dn (d_cons ?_))
    obtain ⟨r34,hr35,h⟩:=bind_some h
    refine a_gcall rfl (args:=[(i6 a0),(eVb a1)]) (u:=[]) (r:=(eT_i64_Si64_Z r34)) rfl rfl (impl_curveOf_ok a0 a1 r34 hr35) rfl (dn (d_cons ?_))
    have hl36:LdOk [] (eT_A64u8_A64u8_Z a2) [] 128 true (eT_A64u8_A64u8_Z a2):=(.nil rfl rfl rfl)
    refine gq (eT_A64u8_A64u8_Z a2) rfl (ld_own (i:=⟨.struct [(0,26),(64,26)],128,128,(eT_A64u8_A64u8_Z ((vrep 64 (0:Int)),(vrep 64 (0:Int))))⟩) rfl rfl rfl hl36) hl36.c (dn (d_cons ?_))
    obtain ⟨r37,hr38,h⟩:=bind_some h
    refine a_gcall rfl (args:=[(eT_A64u8_A64u8_Z a2)]) (u:=[]) (r:=(eT_Si64_Si64_Z r37)) rfl rfl (impl_formOf_ok a2 r37 hr38) rfl (dn (d_cons ?_))
    obtain ⟨r39,hr40,h⟩:=bind_some h
    refine a_gcall rfl (args:=[(eT_i64_Si64_Z r34),(eT_Si64_Si64_Z r37)]) (u:=[]) (r:=(.bool r39)) rfl rfl (impl_curve_isForm_ok r34 r37 r39 hr40) rfl (dn (dj (.bool r39) rfl (dj (.bool r39) rfl (d_nil (a_next rfl (a_ret ?_))))))
    refine ⟨.inr rfl,?_⟩
    rw [Try.results48]
    cases h
    exact ⟨_,_,_,_,_,rfl,trivial,.inl ⟨rfl,.inl rfl⟩,rfl,rfl⟩
def impl_formCode_c1_of_p_p_L:Live:=[(0,[0,1,2]),(1,[1,2,3])]
noncomputable def impl_formCode_c1_of_p_p (a0:((Vec Int 64)×(Vec Int 64))) (a1:Int) (a2:(Vec Int 64)):Option Bool :=
 (Option.bind (impl_IsForm a1 a2 a0) fun r4=>(some r4))
theorem impl_formCode_c1_of_p_p_ok (a0:((Vec Int 64)×(Vec Int 64))) (a1:Int) (a2:(Vec Int 64)) (r:Bool) (h:impl_formCode_c1_of_p_p a0 a1 a2=some r):Den Try.prog 47 [(eT_A64u8_A64u8_Z a0),(.ref (i6 a1) [] []),(.ref (eVb a2) [] [])] { r:=(.bool r) }:=by
 refine dd (rs:=[(.bool r)]) (L:=impl_formCode_c1_of_p_p_L) good [] Try.func47 Try.ntmps47 ?_
 refine ns ⟨[(0,eT_A64u8_A64u8_Z a0),(1,.ref (i6 a1) [] []),(2,.ref (eVb a2) [] [])],[]⟩ ?_
 refine sr (vo 1300 (eT_A64u8_A64u8_Z a0) rfl rfl (vr (.bool false) (nk ⟨[(1,.ref (i6 a1) [] []),(2,.ref (eVb a2) [] []),(3,ow 3)],[(3,bk (eT_A64u8_A64u8_Z a0))]⟩ (sr ?_))))
 have hl1:LdOk [] (i6 a1) [] 1 false (i6 a1):=(.nil rfl rfl rfl)
 refine vq (i6 a1) (ld_ref (i:=⟨.int .i64,1,8,(.int .i64 0)⟩) rfl rfl hl1) hl1.c ?_
 have hl2:LdOk [] (eVb a2) [] 64 true (eVb a2):=(.nil rfl rfl rfl)
 refine vq (eVb a2) (ld_ref (i:=⟨.arr 64 5,64,64,(eVb (vrep 64 (0:Int)))⟩) rfl rfl hl2) hl2.c (vl (eT_A64u8_A64u8_Z a0) rfl rfl rfl rfl rfl rfl ?_)
 obtain ⟨r4,hr5,h⟩:=bind_some h
 refine ca (impl_IsForm_ok a1 a2 a0 r4 hr5) (vr (.bool r4) (nx _ rfl (a_ret ?_)))
 refine ⟨.inr rfl,?_⟩
 rw [Try.results47]
 cases h
 exact ⟨_,_,_,_,_,rfl,trivial,.inl ⟨rfl,.inl rfl⟩,rfl,rfl⟩
def impl_areAll_impl_Form__c1_of_p_formCode_c1_L:Live:=[(0,[0,1]),(1,[1,2])]
noncomputable def impl_areAll_impl_Form__c1_of_p_formCode_c1 (a0:((Vec Int 64)×(Vec Int 64))) (a1c0:Int) (a1c1:(Vec Int 64)):Option Bool :=
 (Option.bind (impl_formCode_c1_of_p_p a0 a1c0 a1c1) fun r3=>(some (!r3)))
theorem impl_areAll_impl_Form__c1_of_p_formCode_c1_ok (a0:((Vec Int 64)×(Vec Int 64))) (a1c0:Int) (a1c1:(Vec Int 64)) (r:Bool) (h:impl_areAll_impl_Form__c1_of_p_formCode_c1 a0 a1c0 a1c1=some r):Den Try.prog 87 [(eT_A64u8_A64u8_Z a0),(.ref (.clo 47 [] [(.ref (i6 a1c0) [] []),(.ref (eVb a1c1) [] [])]) [] [])] { r:=(.bool r) }:=by
 refine dd (rs:=[(.bool r)]) (L:=impl_areAll_impl_Form__c1_of_p_formCode_c1_L) good [] Try.func87 Try.ntmps87 ?_
 refine ns ⟨[(0,eT_A64u8_A64u8_Z a0),(1,.ref (.clo 47 [] [(.ref (i6 a1c0) [] []),(.ref (eVb a1c1) [] [])]) [] [])],[]⟩ ?_
 refine sr (vo 1200 (eT_A64u8_A64u8_Z a0) rfl rfl (vr (.bool false) (nk ⟨[(1,.ref (.clo 47 [] [(.ref (i6 a1c0) [] []),(.ref (eVb a1c1) [] [])]) [] []),(2,ow 2)],[(2,bk (eT_A64u8_A64u8_Z a0))]⟩ (sr ?_))))
 have hl1:LdOk [] (.clo 47 [] [(.ref (i6 a1c0) [] []),(.ref (eVb a1c1) [] [])]) [] 1 false (.clo 47 [] [(.ref (i6 a1c0) [] []),(.ref (eVb a1c1) [] [])]):=(.nil rfl rfl rfl)
 refine vq (.clo 47 [] [(.ref (i6 a1c0) [] []),(.ref (eVb a1c1) [] [])]) (ld_ref (i:=⟨.other,1,8,(.raw .nilFunc)⟩) rfl rfl hl1) hl1.c (vl (eT_A64u8_A64u8_Z a0) rfl rfl rfl rfl rfl rfl ?_)
 obtain ⟨r3,hr4,h⟩:=bind_some h
 refine ca (impl_formCode_c1_of_p_p_ok a0 a1c0 a1c1 r3 hr4) (vr (.bool (!r3)) (vr (.bool (!r3)) (nx _ rfl (a_ret ?_))))
 refine ⟨.inr rfl,?_⟩
 rw [Try.results87]
 cases h
 exact ⟨_,_,_,_,_,rfl,trivial,.inl ⟨rfl,.inl rfl⟩,rfl,rfl⟩
def slices_IndexFunc_impl_Form_impl_Form_of_impl_areAll_impl_Form__c1_p_formCode_c1_L:Live:=[(0,[0,1]),(1,[0,1]),(2,[0,1,7,8]),(3,[0,1,7,8]),(4,[0,1,5,7,8]),(5,[5]),(6,[0,1,7,8]),(7,[]),(100009,[0,1,7,8,9]),(100016,[0,1,5,7,8,16])]
noncomputable def slices_IndexFunc_impl_Form_impl_Form_of_impl_areAll_impl_Form__c1_p_formCode_c1_l1 (a0:(List ((Vec Int 64)×(Vec Int 64)))) (a1c0c0:Int) (a1c0c1:(Vec Int 64)) (x33:Int):Option (Int⊕(Unit⊕Int)) :=
 (if (decide (x33 < (a0.length:Int))) then (ifp (0≤x33∧x33 < ((a0.length:Nat):Int)) ((Option.bind (impl_areAll_impl_Form__c1_of_p_formCode_c1 (rd a0 x33.toNat) a1c0c0 a1c0c1) fun r46=>(if r46 then (some (.inr (.inr x33))) else (some (.inl (IntKind.i64.wrap (x33 + 1)))))))) else (some (.inr (((.inl ()))))))
noncomputable def slices_IndexFunc_impl_Form_impl_Form_of_impl_areAll_impl_Form__c1_p_formCode_c1 (a0:(List ((Vec Int 64)×(Vec Int 64)))) (a1c0c0:Int) (a1c0c1:(Vec Int 64)):Option Int :=
 (Option.bind (α:=(Unit⊕Int)) ((loopM (fun s:Int=>slices_IndexFunc_impl_Form_impl_Form_of_impl_areAll_impl_Form__c1_p_formCode_c1_l1 a0 a1c0c0 a1c0c1 s) 0)) fun z=>match z with | .inl _=>(some (-1)) | .inr r50=>(some r50))
theorem slices_IndexFunc_impl_Form_impl_Form_of_impl_areAll_impl_Form__c1_p_formCode_c1_ok (a0:(List ((Vec Int 64)×(Vec Int 64)))) (a1c0c0:Int) (a1c0c1:(Vec Int 64)) (r:Int) (h:slices_IndexFunc_impl_Form_impl_Form_of_impl_areAll_impl_Form__c1_p_formCode_c1 a0 a1c0c0 a1c0c1=some r):Den Try.prog 111 [(eST_A64u8_A64u8_Z a0),(.clo 87 [] [(.ref (.clo 47 [] [(.ref (i6 a1c0c0) [] []),(.ref (eVb a1c0c1) [] [])]) [] [])])] { r:=(i6 r) }:=by
 refine dd (rs:=[(i6 r)]) (L:=slices_IndexFunc_impl_Form_impl_Form_of_impl_areAll_impl_Form__c1_p_formCode_c1_L) good [] Try.func111 Try.ntmps111 ?_
 refine ns ⟨[(0,eST_A64u8_A64u8_Z a0),(1,.clo 87 [] [(.ref (.clo 47 [] [(.ref (i6 a1c0c0) [] []),(.ref (eVb a1c0c1) [] [])]) [] [])])],[]⟩ ?_
 refine sr (vr (i6 0) (nk ⟨[(0,eST_A64u8_A64u8_Z a0),(1,.clo 87 [] [(.ref (.clo 47 [] [(.ref (i6 a1c0c0) [] []),(.ref (eVb a1c0c1) [] [])]) [] [])])],[]⟩ ?_))
 obtain ⟨y24,hy25,hk26⟩:=bind_some h
 clear h
 refine a_join (emb:=fun (s:Unit)=>⟨[],[]⟩) (pre:=fun s=>(.inl s)=y24) ?_ ?_
 ·rintro _ rfl
  have h:=hk26
  refine ns ⟨[],[]⟩ (sr (vr (i6 (-1)) (nx _ rfl (a_ret ?_))))
  refine ⟨.inr rfl,?_⟩
  rw [Try.results111]
  cases h
  exact ⟨_,_,_,_,_,rfl,trivial,.inl ⟨rfl,.inl rfl⟩,rfl,rfl⟩
 ·have h:=hy25
  refine sr (vr (eST_A64u8_A64u8_Z a0) (vq (i6 (a0.length:Int)) (len_run rfl rfl) trivial (vr (i6 0) (nk ⟨[(0,eST_A64u8_A64u8_Z a0),(1,.clo 87 [] [(.ref (.clo 47 [] [(.ref (i6 a1c0c0) [] []),(.ref (eVb a1c0c1) [] [])]) [] [])]),(7,i6 (a0.length:Int)),(8,i6 0)],[]⟩ (a_block ?_)))))
  refine a_loop (emb:=fun (s:Int)=>⟨[(0,eST_A64u8_A64u8_Z a0),(1,.clo 87 [] [(.ref (.clo 47 [] [(.ref (i6 a1c0c0) [] []),(.ref (eVb a1c0c1) [] [])]) [] [])]),(7,i6 (a0.length:Int)),(8,i6 s)],[]⟩) (body:=(fun s:Int=>slices_IndexFunc_impl_Form_impl_Form_of_impl_areAll_impl_Form__c1_p_formCode_c1_l1 a0 a1c0c0 a1c0c1 s)) (G:=fun q=>some q=some y24) h rfl ?_ (by kernel_rfl)
  rintro X40 x33 x41 h hX42
  have h:slices_IndexFunc_impl_Form_impl_Form_of_impl_areAll_impl_Form__c1_p_formCode_c1_l1 a0 a1c0c0 a1c0c1 x33=some x41:=h
  refine ns ⟨[(0,eST_A64u8_A64u8_Z a0),(1,.clo 87 [] [(.ref (.clo 47 [] [(.ref (i6 a1c0c0) [] []),(.ref (eVb a1c0c1) [] [])]) [] [])]),(7,i6 (a0.length:Int)),(8,i6 x33)],[]⟩ (sr (vr (.bool ((decide (x33 < (a0.length:Int))))) (nk ⟨[(0,eST_A64u8_A64u8_Z a0),(1,.clo 87 [] [(.ref (.clo 47 [] [(.ref (i6 a1c0c0) [] []),(.ref (eVb a1c0c1) [] [])]) [] [])]),(7,i6 (a0.length:Int)),(8,i6 x33),(9,.bool ((decide (x33 < (a0.length:Int)))))],[]⟩ (a_seq ?_))))
  cases hb43:(decide (x33 < (a0.length:Int)))
  ·have h:=ite_f hb43 h
   refine a_cond_f rfl (a_exit (t_exit ?_))
   cases h
   have h:=hX42
   refine t_exit (b_exit ?_)
   exact jl () h
  ·have h:=ite_t hb43 h
   refine a_cond_t rfl (a_skip (nj ⟨[(0,eST_A64u8_A64u8_Z a0),(1,.clo 87 [] [(.ref (.clo 47 [] [(.ref (i6 a1c0c0) [] []),(.ref (eVb a1c0c1) [] [])]) [] [])]),(7,i6 (a0.length:Int)),(8,i6 x33)],[]⟩ (a_seq (a_block (sr (vr (i6 x33) (vr (i6 x33) (nk ⟨[(0,eST_A64u8_A64u8_Z a0),(1,.clo 87 [] [(.ref (.clo 47 [] [(.ref (i6 a1c0c0) [] []),(.ref (eVb a1c0c1) [] [])]) [] [])]),(5,i6 x33),(7,i6 (a0.length:Int)),(8,i6 x33)],[]⟩ (sr ?_)))))))))
   refine vr (.clo 87 [] [(.ref (.clo 47 [] [(.ref (i6 a1c0c0) [] []),(.ref (eVb a1c0c1) [] [])]) [] [])]) (vr (eST_A64u8_A64u8_Z a0) (vr (i6 x33) ?_))
   obtain ⟨hc44,h⟩:=ifp_some h
   refine vq (.ref (.row 128 (a0.map eT_A64u8_A64u8_Z)) [x33.toNat] [x33.toNat*128]) rfl (lmap hc44) ?_
   have hl45:LdOk [x33.toNat] (.row 128 (a0.map eT_A64u8_A64u8_Z)) [x33.toNat*128] 128 true (eT_A64u8_A64u8_Z (rd a0 x33.toNat)):=(.row (llt hc44) rfl (.nil rfl rfl rfl))
   refine vq (eT_A64u8_A64u8_Z (rd a0 x33.toNat)) (ld_ref (i:=⟨.struct [(0,26),(64,26)],128,128,(eT_A64u8_A64u8_Z ((vrep 64 (0:Int)),(vrep 64 (0:Int))))⟩) rfl rfl hl45) hl45.c ?_
   obtain ⟨r46,hr47,h⟩:=bind_some h
   refine ca (impl_areAll_impl_Form__c1_of_p_formCode_c1_ok (rd a0 x33.toNat) a1c0c0 a1c0c1 r46 hr47) (nk ⟨[(0,eST_A64u8_A64u8_Z a0),(1,.clo 87 [] [(.ref (.clo 47 [] [(.ref (i6 a1c0c0) [] []),(.ref (eVb a1c0c1) [] [])]) [] [])]),(5,i6 x33),(7,i6 (a0.length:Int)),(8,i6 x33),(16,.bool r46)],[]⟩ ?_)
   cases hb48:r46
   ·have h:=ite_f hb48 h
    refine a_cond_f rfl (a_skip (b_norm (nj ⟨[(0,eST_A64u8_A64u8_Z a0),(1,.clo 87 [] [(.ref (.clo 47 [] [(.ref (i6 a1c0c0) [] []),(.ref (eVb a1c0c1) [] [])]) [] [])]),(7,i6 (a0.length:Int)),(8,i6 x33)],[]⟩ (a_region (vr (i6 (IntKind.i64.wrap (x33 + 1))) (vr (i6 (IntKind.i64.wrap (x33 + 1))) (a_nil ?_)))))))
    cases h
    exact ag hX42
   ·have h:=ite_t hb48 h
    refine a_cond_t rfl (sr (vr (i6 x33) (vr (i6 x33) (nx _ rfl (a_ret (b_ret (t_ret ?_)))))))
    cases h
    have h:=hX42
    refine t_ret (b_ret (t_ret ?_))
    cases h
    have h:=hk26
    refine ⟨.inr rfl,?_⟩
    rw [Try.results111]
    cases h
    exact ⟨_,_,_,_,_,rfl,trivial,.inl ⟨rfl,.inl rfl⟩,rfl,rfl⟩
def slices_ContainsFunc_impl_Form_impl_Form_of_impl_areAll_impl_Form__c1_p_formCode_c1_L:Live:=[(0,[0,1]),(1,[0,1])]
noncomputable def slices_ContainsFunc_impl_Form_impl_Form_of_impl_areAll_impl_Form__c1_p_formCode_c1 (a0:(List ((Vec Int 64)×(Vec Int 64)))) (a1c0c0:Int) (a1c0c1:(Vec Int 64)):Option Bool :=
 (Option.bind (slices_IndexFunc_impl_Form_impl_Form_of_impl_areAll_impl_Form__c1_p_formCode_c1 a0 a1c0c0 a1c0c1) fun r1=>(some ((decide (r1 ≥ 0)))))
theorem slices_ContainsFunc_impl_Form_impl_Form_of_impl_areAll_impl_Form__c1_p_formCode_c1_ok (a0:(List ((Vec Int 64)×(Vec Int 64)))) (a1c0c0:Int) (a1c0c1:(Vec Int 64)) (r:Bool) (h:slices_ContainsFunc_impl_Form_impl_Form_of_impl_areAll_impl_Form__c1_p_formCode_c1 a0 a1c0c0 a1c0c1=some r):Den Try.prog 86 [(eST_A64u8_A64u8_Z a0),(.clo 87 [] [(.ref (.clo 47 [] [(.ref (i6 a1c0c0) [] []),(.ref (eVb a1c0c1) [] [])]) [] [])])] { r:=(.bool r) }:=by
 refine dd (rs:=[(.bool r)]) (L:=slices_ContainsFunc_impl_Form_impl_Form_of_impl_areAll_impl_Form__c1_p_formCode_c1_L) good [] Try.func86 Try.ntmps86 ?_
 refine ns ⟨[(0,eST_A64u8_A64u8_Z a0),(1,.clo 87 [] [(.ref (.clo 47 [] [(.ref (i6 a1c0c0) [] []),(.ref (eVb a1c0c1) [] [])]) [] [])])],[]⟩ ?_
 refine sr (vr (.bool false) (nk ⟨[(0,eST_A64u8_A64u8_Z a0),(1,.clo 87 [] [(.ref (.clo 47 [] [(.ref (i6 a1c0c0) [] []),(.ref (eVb a1c0c1) [] [])]) [] [])])],[]⟩ (sr (vr (eST_A64u8_A64u8_Z a0) (vr (.clo 87 [] [(.ref (.clo 47 [] [(.ref (i6 a1c0c0) [] []),(.ref (eVb a1c0c1) [] [])]) [] [])]) ?_)))))
 obtain ⟨r1,hr2,h⟩:=bind_some h
 refine ca (slices_IndexFunc_impl_Form_impl_Form_of_impl_areAll_impl_Form__c1_p_formCode_c1_ok a0 a1c0c0 a1c0c1 r1 hr2) (vr (.bool ((decide (r1 ≥ 0)))) (vr (.bool ((decide (r1 ≥ 0)))) (nx _ rfl (a_ret ?_))))
 refine ⟨.inr rfl,?_⟩
 rw [Try.results86]
 cases h
 exact ⟨_,_,_,_,_,rfl,trivial,.inl ⟨rfl,.inl rfl⟩,rfl,rfl⟩
def impl_areAll_impl_Form_of_impl_formCode_c1_p_p_L:Live:=[(0,[0,1]),(1,[0,3])]
noncomputable def impl_areAll_impl_Form_of_impl_formCode_c1_p_p (a0:(List ((Vec Int 64)×(Vec Int 64)))) (a1c0:Int) (a1c1:(Vec Int 64)):Option Bool :=
 (Option.bind (slices_ContainsFunc_impl_Form_impl_Form_of_impl_areAll_impl_Form__c1_p_formCode_c1 a0 a1c0 a1c1) fun r1=>(some (!r1)))
theorem impl_areAll_impl_Form_of_impl_formCode_c1_p_p_ok (a0:(List ((Vec Int 64)×(Vec Int 64)))) (a1c0:Int) (a1c1:(Vec Int 64)) (r:Bool) (h:impl_areAll_impl_Form_of_impl_formCode_c1_p_p a0 a1c0 a1c1=some r):Den Try.prog 46 [(eST_A64u8_A64u8_Z a0),(.clo 47 [] [(.ref (i6 a1c0) [] []),(.ref (eVb a1c1) [] [])])] { r:=(.bool r) }:=by
 refine dd (rs:=[(.bool r)]) (L:=impl_areAll_impl_Form_of_impl_formCode_c1_p_p_L) good [] Try.func46 Try.ntmps46 ?_
 refine ns ⟨[(0,eST_A64u8_A64u8_Z a0),(1,.clo 47 [] [(.ref (i6 a1c0) [] []),(.ref (eVb a1c1) [] [])])],[]⟩ ?_
 refine sr (vo 1300 (.clo 47 [] [(.ref (i6 a1c0) [] []),(.ref (eVb a1c1) [] [])]) rfl rfl (vr (.bool false) (nk ⟨[(0,eST_A64u8_A64u8_Z a0),(3,ow 3)],[(3,bk (.clo 47 [] [(.ref (i6 a1c0) [] []),(.ref (eVb a1c1) [] [])]))]⟩ (sr (vr (eST_A64u8_A64u8_Z a0) (vu (.clo 87 [] [(.ref (.clo 47 [] [(.ref (i6 a1c0) [] []),(.ref (eVb a1c1) [] [])]) [] [])]) [(3,bf (.clo 47 [] [(.ref (i6 a1c0) [] []),(.ref (eVb a1c1) [] [])]))] rfl trivial rfl ?_))))))
 obtain ⟨r1,hr2,h⟩:=bind_some h
 refine ca (slices_ContainsFunc_impl_Form_impl_Form_of_impl_areAll_impl_Form__c1_p_formCode_c1_ok a0 a1c0 a1c1 r1 hr2) (vr (.bool (!r1)) (vr (.bool (!r1)) (nx _ rfl (a_ret ?_))))
 refine ⟨.inr rfl,?_⟩
 rw [Try.results46]
 cases h
 exact ⟨_,_,_,_,_,rfl,trivial,.inl ⟨rfl,.inl rfl⟩,rfl,rfl⟩
def impl_curve_genus_L:Live:=[(0,[0]),(1,[1])]
noncomputable def impl_curve_genus (a0:(Int×(List Int))):Option Int :=
 (Option.bind (impl_row_degree a0.2) fun r2=>(some (IntKind.i64.wrap (Int.tdiv (IntKind.i64.wrap (r2 - 1)) 2))))
theorem impl_curve_genus_ok (a0:(Int×(List Int))) (r:Int) (h:impl_curve_genus a0=some r):Den Try.prog 52 [(eT_i64_Si64_Z a0)] { r:=(i6 r) }:=by
 refine dd (rs:=[(i6 r)]) (L:=impl_curve_genus_L) good [] Try.func52 Try.ntmps52 ?_
 refine ns ⟨[(0,eT_i64_Si64_Z a0)],[]⟩ ?_
 refine sr (vo 1100 (eT_i64_Si64_Z a0) rfl rfl (vr (i6 0) (nk ⟨[(1,ow 1)],[(1,bk (eT_i64_Si64_Z a0))]⟩ (sr (vb (.own 1 [1] [1]) rfl rfl ?_)))))
 have hl1:LdOk [1] (eT_i64_Si64_Z a0) [1] 1 false (eSi64 a0.2):=(.fld rfl rfl rfl rfl (.nil rfl rfl rfl))
 refine vq (eSi64 a0.2) (ld_own (i:=⟨.slice 2,1,24,(eSi64 [])⟩) rfl rfl rfl hl1) hl1.c ?_
 obtain ⟨r2,hr3,h⟩:=bind_some h
 refine ca (impl_row_degree_ok a0.2 r2 hr3) (vr (i6 (IntKind.i64.wrap (r2 - 1))) (vq (i6 (IntKind.i64.wrap (Int.tdiv (IntKind.i64.wrap (r2 - 1)) 2))) rfl (by decide) (vr (i6 (IntKind.i64.wrap (Int.tdiv (IntKind.i64.wrap (r2 - 1)) 2))) (nx _ rfl (a_ret ?_)))))
 refine ⟨.inr rfl,?_⟩
 rw [Try.results52]
 cases h
 exact ⟨_,_,_,_,_,rfl,trivial,.inl ⟨rfl,.inl rfl⟩,rfl,rfl⟩
def impl_curve_isReduced_L:Live:=[(0,[0,1]),(1,[2,3])]
noncomputable def impl_curve_isReduced (a0:(Int×(List Int))) (a1:((List Int)×(List Int))):Option Bool :=
 (Option.bind (impl_row_degree a1.1) fun r8=>(Option.bind (impl_curve_genus a0) fun r11=>(some ((decide (r8≤r11))))))
theorem impl_curve_isReduced_ok (a0:(Int×(List Int))) (a1:((List Int)×(List Int))) (r:Bool) (h:impl_curve_isReduced a0 a1=some r):Den Try.prog 50 [(eT_i64_Si64_Z a0),(eT_Si64_Si64_Z a1)] { r:=(.bool r) }:=by
 refine dd (rs:=[(.bool r)]) (L:=impl_curve_isReduced_L) good [] Try.func50 Try.ntmps50 ?_
 refine ns ⟨[(0,eT_i64_Si64_Z a0),(1,eT_Si64_Si64_Z a1)],[]⟩ ?_
 refine sr (vo 1200 (eT_i64_Si64_Z a0) rfl rfl (vo 1300 (eT_Si64_Si64_Z a1) rfl rfl (vr (.bool false) (nk ⟨[(2,ow 2),(3,ow 3)],[(2,bk (eT_i64_Si64_Z a0)),(3,bk (eT_Si64_Si64_Z a1))]⟩ (a_seq (a_draw [⟨[3],[],[3],[]⟩,⟨[3],[],[],[0]⟩,⟨[],[],[],[0,1]⟩,⟨[2],[],[],[]⟩,⟨[],[],[],[0,1,2,3]⟩,⟨[],[],[],[0,1,2,3,4]⟩,⟨[],[],[],[0,1,2,3,4,5]⟩] (by kernel_rfl) (d_cons (vb (.own 3 [0] [0]) rfl rfl (dn ?_)))))))))
 refine d_cons ?_
 have hl7:LdOk [0] (eT_Si64_Si64_Z a1) [0] 1 false (eSi64 a1.1):=(.fld rfl rfl rfl rfl (.nil rfl rfl rfl))
 refine vq (eSi64 a1.1) (ld_own (i:=⟨.slice 2,1,24,(eSi64 [])⟩) rfl rfl rfl hl7) hl7.c (dn (d_cons ?_))
 obtain ⟨r8,hr9,h⟩:=bind_some h
 refine ca (impl_row_degree_ok a1.1 r8 hr9) (dn (d_cons (vl (eT_i64_Si64_Z a0) rfl rfl rfl rfl rfl rfl (dn (d_cons ?_)))))
 obtain ⟨r11,hr12,h⟩:=bind_some h
 refine ca (impl_curve_genus_ok a0 r11 hr12) (dn (dj (.bool ((decide (r8≤r11)))) rfl (dj (.bool ((decide (r8≤r11)))) rfl (d_nil (a_next rfl (a_ret ?_))))))
 refine ⟨.inr rfl,?_⟩
 rw [Try.results50]
 cases h
 exact ⟨_,_,_,_,_,rfl,trivial,.inl ⟨rfl,.inl rfl⟩,rfl,rfl⟩
def impl_formCode_c2_of_p_p_L:Live:=[(0,[0,1,2]),(1,[1,2,3])]
noncomputable def impl_formCode_c2_of_p_p (a0:((Vec Int 64)×(Vec Int 64))) (a1:Int) (a2:(Vec Int 64)):Option Bool :=
 (Option.bind (impl_curveOf a1 a2) fun r12=>(Option.bind (impl_formOf a0) fun r15=>(Option.bind (impl_curve_isReduced r12 r15) fun r17=>(some r17))))
theorem impl_formCode_c2_of_p_p_ok (a0:((Vec Int 64)×(Vec Int 64))) (a1:Int) (a2:(Vec Int 64)) (r:Bool) (h:impl_formCode_c2_of_p_p a0 a1 a2=some r):Den Try.prog 49 [(eT_A64u8_A64u8_Z a0),(.ref (i6 a1) [] []),(.ref (eVb a2) [] [])] { r:=(.bool r) }:=by
 refine dd (rs:=[(.bool r)]) (L:=impl_formCode_c2_of_p_p_L) good [] Try.func49 Try.ntmps49 ?_
 refine ns ⟨[(0,eT_A64u8_A64u8_Z a0),(1,.ref (i6 a1) [] []),(2,.ref (eVb a2) [] [])],[]⟩ ?_
 refine sr (vo 1300 (eT_A64u8_A64u8_Z a0) rfl rfl (vr (.bool false) (nk ⟨[(1,.ref (i6 a1) [] []),(2,.ref (eVb a2) [] []),(3,ow 3)],[(3,bk (eT_A64u8_A64u8_Z a0))]⟩ (a_seq (a_draw [⟨[],[],[],[]⟩,⟨[],[],[],[]⟩,⟨[],[],[],[0,1]⟩,⟨[3],[],[],[]⟩,⟨[],[],[],[0,1,2,3]⟩,⟨[],[],[],[0,1,2,3,4]⟩,⟨[],[],[],[0,1,2,3,4,5]⟩] (by kernel_rfl) (d_cons ?_))))))
 have hl10:LdOk [] (i6 a1) [] 1 false (i6 a1):=(.nil rfl rfl rfl)
 refine vq (i6 a1) (ld_ref (i:=⟨.int .i64,1,8,(.int .i64 0)⟩) rfl rfl hl10) hl10.c (dn (d_cons ?_))
 have hl11:LdOk [] (eVb a2) [] 64 true (eVb a2):=(.nil rfl rfl rfl)
 refine vq (eVb a2) (ld_ref (i:=⟨.arr 64 5,64,64,(eVb (vrep 64 (0:Int)))⟩) rfl rfl hl11) hl11.c (dn (d_cons ?_))
 obtain ⟨r12,hr13,h⟩:=bind_some h
 refine ca (impl_curveOf_ok a1 a2 r12 hr13) (dn (d_cons (vl (eT_A64u8_A64u8_Z a0) rfl rfl rfl rfl rfl rfl (dn (d_cons ?_)))))
 obtain ⟨r15,hr16,h⟩:=bind_some h
 refine ca (impl_formOf_ok a0 r15 hr16) (dn (d_cons ?_))
 obtain ⟨r17,hr18,h⟩:=bind_some h
 refine ca (impl_curve_isReduced_ok r12 r15 r17 hr18) (dn (dj (.bool r17) rfl (d_nil (a_next rfl (a_ret ?_)))))
 refine ⟨.inr rfl,?_⟩
 rw [Try.results49]
 cases h
 exact ⟨_,_,_,_,_,rfl,trivial,.inl ⟨rfl,.inl rfl⟩,rfl,rfl⟩
def impl_areAll_impl_Form__c1_of_p_formCode_c2_L:Live:=[(0,[0,1]),(1,[1,2])]
noncomputable def impl_areAll_impl_Form__c1_of_p_formCode_c2 (a0:((Vec Int 64)×(Vec Int 64))) (a1c0:Int) (a1c1:(Vec Int 64)):Option Bool :=
 (Option.bind (impl_formCode_c2_of_p_p a0 a1c0 a1c1) fun r3=>(some (!r3)))
theorem impl_areAll_impl_Form__c1_of_p_formCode_c2_ok (a0:((Vec Int 64)×(Vec Int 64))) (a1c0:Int) (a1c1:(Vec Int 64)) (r:Bool) (h:impl_areAll_impl_Form__c1_of_p_formCode_c2 a0 a1c0 a1c1=some r):Den Try.prog 87 [(eT_A64u8_A64u8_Z a0),(.ref (.clo 49 [] [(.ref (i6 a1c0) [] []),(.ref (eVb a1c1) [] [])]) [] [])] { r:=(.bool r) }:=by
 refine dd (rs:=[(.bool r)]) (L:=impl_areAll_impl_Form__c1_of_p_formCode_c2_L) good [] Try.func87 Try.ntmps87 ?_
 refine ns ⟨[(0,eT_A64u8_A64u8_Z a0),(1,.ref (.clo 49 [] [(.ref (i6 a1c0) [] []),(.ref (eVb a1c1) [] [])]) [] [])],[]⟩ ?_
 refine sr (vo 1200 (eT_A64u8_A64u8_Z a0) rfl rfl (vr (.bool false) (nk ⟨[(1,.ref (.clo 49 [] [(.ref (i6 a1c0) [] []),(.ref (eVb a1c1) [] [])]) [] []),(2,ow 2)],[(2,bk (eT_A64u8_A64u8_Z a0))]⟩ (sr ?_))))
 have hl1:LdOk [] (.clo 49 [] [(.ref (i6 a1c0) [] []),(.ref (eVb a1c1) [] [])]) [] 1 false (.clo 49 [] [(.ref (i6 a1c0) [] []),(.ref (eVb a1c1) [] [])]):=(.nil rfl rfl rfl)
 refine vq (.clo 49 [] [(.ref (i6 a1c0) [] []),(.ref (eVb a1c1) [] [])]) (ld_ref (i:=⟨.other,1,8,(.raw .nilFunc)⟩) rfl rfl hl1) hl1.c (vl (eT_A64u8_A64u8_Z a0) rfl rfl rfl rfl rfl rfl ?_)
 obtain ⟨r3,hr4,h⟩:=bind_some h
 refine ca (impl_formCode_c2_of_p_p_ok a0 a1c0 a1c1 r3 hr4) (vr (.bool (!r3)) (vr (.bool (!r3)) (nx _ rfl (a_ret ?_))))
 refine ⟨.inr rfl,?_⟩
 rw [Try.results87]
 cases h
 exact ⟨_,_,_,_,_,rfl,trivial,.inl ⟨rfl,.inl rfl⟩,rfl,rfl⟩
def slices_IndexFunc_impl_Form_impl_Form_of_impl_areAll_impl_Form__c1_p_formCode_c2_L:Live:=[(0,[0,1]),(1,[0,1]),(2,[0,1,7,8]),(3,[0,1,7,8]),(4,[0,1,5,7,8]),(5,[5]),(6,[0,1,7,8]),(7,[]),(100009,[0,1,7,8,9]),(100016,[0,1,5,7,8,16])]
noncomputable def slices_IndexFunc_impl_Form_impl_Form_of_impl_areAll_impl_Form__c1_p_formCode_c2_l1 (a0:(List ((Vec Int 64)×(Vec Int 64)))) (a1c0c0:Int) (a1c0c1:(Vec Int 64)) (x33:Int):Option (Int⊕(Unit⊕Int)) :=
 (if (decide (x33 < (a0.length:Int))) then (ifp (0≤x33∧x33 < ((a0.length:Nat):Int)) ((Option.bind (impl_areAll_impl_Form__c1_of_p_formCode_c2 (rd a0 x33.toNat) a1c0c0 a1c0c1) fun r46=>(if r46 then (some (.inr (.inr x33))) else (some (.inl (IntKind.i64.wrap (x33 + 1)))))))) else (some (.inr (((.inl ()))))))
noncomputable def slices_IndexFunc_impl_Form_impl_Form_of_impl_areAll_impl_Form__c1_p_formCode_c2 (a0:(List ((Vec Int 64)×(Vec Int 64)))) (a1c0c0:Int) (a1c0c1:(Vec Int 64)):Option Int :=
 (Option.bind (α:=(Unit⊕Int)) ((loopM (fun s:Int=>slices_IndexFunc_impl_Form_impl_Form_of_impl_areAll_impl_Form__c1_p_formCode_c2_l1 a0 a1c0c0 a1c0c1 s) 0)) fun z=>match z with | .inl _=>(some (-1)) | .inr r50=>(some r50))
theorem slices_IndexFunc_impl_Form_impl_Form_of_impl_areAll_impl_Form__c1_p_formCode_c2_ok (a0:(List ((Vec Int 64)×(Vec Int 64)))) (a1c0c0:Int) (a1c0c1:(Vec Int 64)) (r:Int) (h:slices_IndexFunc_impl_Form_impl_Form_of_impl_areAll_impl_Form__c1_p_formCode_c2 a0 a1c0c0 a1c0c1=some r):Den Try.prog 111 [(eST_A64u8_A64u8_Z a0),(.clo 87 [] [(.ref (.clo 49 [] [(.ref (i6 a1c0c0) [] []),(.ref (eVb a1c0c1) [] [])]) [] [])])] { r:=(i6 r) }:=by
 refine dd (rs:=[(i6 r)]) (L:=slices_IndexFunc_impl_Form_impl_Form_of_impl_areAll_impl_Form__c1_p_formCode_c2_L) good [] Try.func111 Try.ntmps111 ?_
 refine ns ⟨[(0,eST_A64u8_A64u8_Z a0),(1,.clo 87 [] [(.ref (.clo 49 [] [(.ref (i6 a1c0c0) [] []),(.ref (eVb a1c0c1) [] [])]) [] [])])],[]⟩ ?_
 refine sr (vr (i6 0) (nk ⟨[(0,eST_A64u8_A64u8_Z a0),(1,.clo 87 [] [(.ref (.clo 49 [] [(.ref (i6 a1c0c0) [] []),(.ref (eVb a1c0c1) [] [])]) [] [])])],[]⟩ ?_))
 obtain ⟨y24,hy25,hk26⟩:=bind_some h
 clear h
 refine a_join (emb:=fun (s:Unit)=>⟨[],[]⟩) (pre:=fun s=>(.inl s)=y24) ?_ ?_
 ·rintro _ rfl
  have h:=hk26
  refine ns ⟨[],[]⟩ (sr (vr (i6 (-1)) (nx _ rfl (a_ret ?_))))
  refine ⟨.inr rfl,?_⟩
  rw [Try.results111]
  cases h
  exact ⟨_,_,_,_,_,rfl,trivial,.inl ⟨rfl,.inl rfl⟩,rfl,rfl⟩
 ·have h:=hy25
  refine sr (vr (eST_A64u8_A64u8_Z a0) (vq (i6 (a0.length:Int)) (len_run rfl rfl) trivial (vr (i6 0) (nk ⟨[(0,eST_A64u8_A64u8_Z a0),(1,.clo 87 [] [(.ref (.clo 49 [] [(.ref (i6 a1c0c0) [] []),(.ref (eVb a1c0c1) [] [])]) [] [])]),(7,i6 (a0.length:Int)),(8,i6 0)],[]⟩ (a_block ?_)))))
  refine a_loop (emb:=fun (s:Int)=>⟨[(0,eST_A64u8_A64u8_Z a0),(1,.clo 87 [] [(.ref (.clo 49 [] [(.ref (i6 a1c0c0) [] []),(.ref (eVb a1c0c1) [] [])]) [] [])]),(7,i6 (a0.length:Int)),(8,i6 s)],[]⟩) (body:=(fun s:Int=>slices_IndexFunc_impl_Form_impl_Form_of_impl_areAll_impl_Form__c1_p_formCode_c2_l1 a0 a1c0c0 a1c0c1 s)) (G:=fun q=>some q=some y24) h rfl ?_ (by kernel_rfl)
  rintro X40 x33 x41 h hX42
  have h:slices_IndexFunc_impl_Form_impl_Form_of_impl_areAll_impl_Form__c1_p_formCode_c2_l1 a0 a1c0c0 a1c0c1 x33=some x41:=h
  refine ns ⟨[(0,eST_A64u8_A64u8_Z a0),(1,.clo 87 [] [(.ref (.clo 49 [] [(.ref (i6 a1c0c0) [] []),(.ref (eVb a1c0c1) [] [])]) [] [])]),(7,i6 (a0.length:Int)),(8,i6 x33)],[]⟩ (sr (vr (.bool ((decide (x33 < (a0.length:Int))))) (nk ⟨[(0,eST_A64u8_A64u8_Z a0),(1,.clo 87 [] [(.ref (.clo 49 [] [(.ref (i6 a1c0c0) [] []),(.ref (eVb a1c0c1) [] [])]) [] [])]),(7,i6 (a0.length:Int)),(8,i6 x33),(9,.bool ((decide (x33 < (a0.length:Int)))))],[]⟩ (a_seq ?_))))
  cases hb43:(decide (x33 < (a0.length:Int)))
  ·have h:=ite_f hb43 h
   refine a_cond_f rfl (a_exit (t_exit ?_))
   cases h
   have h:=hX42
   refine t_exit (b_exit ?_)
   exact jl () h
  ·have h:=ite_t hb43 h
   refine a_cond_t rfl (a_skip (nj ⟨[(0,eST_A64u8_A64u8_Z a0),(1,.clo 87 [] [(.ref (.clo 49 [] [(.ref (i6 a1c0c0) [] []),(.ref (eVb a1c0c1) [] [])]) [] [])]),(7,i6 (a0.length:Int)),(8,i6 x33)],[]⟩ (a_seq (a_block (sr (vr (i6 x33) (vr (i6 x33) (nk ⟨[(0,eST_A64u8_A64u8_Z a0),(1,.clo 87 [] [(.ref (.clo 49 [] [(.ref (i6 a1c0c0) [] []),(.ref (eVb a1c0c1) [] [])]) [] [])]),(5,i6 x33),(7,i6 (a0.length:Int)),(8,i6 x33)],[]⟩ (sr ?_)))))))))
   refine vr (.clo 87 [] [(.ref (.clo 49 [] [(.ref (i6 a1c0c0) [] []),(.ref (eVb a1c0c1) [] [])]) [] [])]) (vr (eST_A64u8_A64u8_Z a0) (vr (i6 x33) ?_))
   obtain ⟨hc44,h⟩:=ifp_some h
   refine vq (.ref (.row 128 (a0.map eT_A64u8_A64u8_Z)) [x33.toNat] [x33.toNat*128]) rfl (lmap hc44) ?_
   have hl45:LdOk [x33.toNat] (.row 128 (a0.map eT_A64u8_A64u8_Z)) [x33.toNat*128] 128 true (eT_A64u8_A64u8_Z (rd a0 x33.toNat)):=(.row (llt hc44) rfl (.nil rfl rfl rfl))
   refine vq (eT_A64u8_A64u8_Z (rd a0 x33.toNat)) (ld_ref (i:=⟨.struct [(0,26),(64,26)],128,128,(eT_A64u8_A64u8_Z ((vrep 64 (0:Int)),(vrep 64 (0:Int))))⟩) rfl rfl hl45) hl45.c ?_
   obtain ⟨r46,hr47,h⟩:=bind_some h
   refine ca (impl_areAll_impl_Form__c1_of_p_formCode_c2_ok (rd a0 x33.toNat) a1c0c0 a1c0c1 r46 hr47) (nk ⟨[(0,eST_A64u8_A64u8_Z a0),(1,.clo 87 [] [(.ref (.clo 49 [] [(.ref (i6 a1c0c0) [] []),(.ref (eVb a1c0c1) [] [])]) [] [])]),(5,i6 x33),(7,i6 (a0.length:Int)),(8,i6 x33),(16,.bool r46)],[]⟩ ?_)
   cases hb48:r46
   ·have h:=ite_f hb48 h
    refine a_cond_f rfl (a_skip (b_norm (nj ⟨[(0,eST_A64u8_A64u8_Z a0),(1,.clo 87 [] [(.ref (.clo 49 [] [(.ref (i6 a1c0c0) [] []),(.ref (eVb a1c0c1) [] [])]) [] [])]),(7,i6 (a0.length:Int)),(8,i6 x33)],[]⟩ (a_region (vr (i6 (IntKind.i64.wrap (x33 + 1))) (vr (i6 (IntKind.i64.wrap (x33 + 1))) (a_nil ?_)))))))
    cases h
    exact ag hX42
   ·have h:=ite_t hb48 h
    refine a_cond_t rfl (sr (vr (i6 x33) (vr (i6 x33) (nx _ rfl (a_ret (b_ret (t_ret ?_)))))))
    cases h
    have h:=hX42
    refine t_ret (b_ret (t_ret ?_))
    cases h
    have h:=hk26
    refine ⟨.inr rfl,?_⟩
    rw [Try.results111]
    cases h
    exact ⟨_,_,_,_,_,rfl,trivial,.inl ⟨rfl,.inl rfl⟩,rfl,rfl⟩
def slices_ContainsFunc_impl_Form_impl_Form_of_impl_areAll_impl_Form__c1_p_formCode_c2_L:Live:=[(0,[0,1]),(1,[0,1])]
noncomputable def slices_ContainsFunc_impl_Form_impl_Form_of_impl_areAll_impl_Form__c1_p_formCode_c2 (a0:(List ((Vec Int 64)×(Vec Int 64)))) (a1c0c0:Int) (a1c0c1:(Vec Int 64)):Option Bool :=
 (Option.bind (slices_IndexFunc_impl_Form_impl_Form_of_impl_areAll_impl_Form__c1_p_formCode_c2 a0 a1c0c0 a1c0c1) fun r1=>(some ((decide (r1 ≥ 0)))))
theorem slices_ContainsFunc_impl_Form_impl_Form_of_impl_areAll_impl_Form__c1_p_formCode_c2_ok (a0:(List ((Vec Int 64)×(Vec Int 64)))) (a1c0c0:Int) (a1c0c1:(Vec Int 64)) (r:Bool) (h:slices_ContainsFunc_impl_Form_impl_Form_of_impl_areAll_impl_Form__c1_p_formCode_c2 a0 a1c0c0 a1c0c1=some r):Den Try.prog 86 [(eST_A64u8_A64u8_Z a0),(.clo 87 [] [(.ref (.clo 49 [] [(.ref (i6 a1c0c0) [] []),(.ref (eVb a1c0c1) [] [])]) [] [])])] { r:=(.bool r) }:=by
 refine dd (rs:=[(.bool r)]) (L:=slices_ContainsFunc_impl_Form_impl_Form_of_impl_areAll_impl_Form__c1_p_formCode_c2_L) good [] Try.func86 Try.ntmps86 ?_
 refine ns ⟨[(0,eST_A64u8_A64u8_Z a0),(1,.clo 87 [] [(.ref (.clo 49 [] [(.ref (i6 a1c0c0) [] []),(.ref (eVb a1c0c1) [] [])]) [] [])])],[]⟩ ?_
 refine sr (vr (.bool false) (nk ⟨[(0,eST_A64u8_A64u8_Z a0),(1,.clo 87 [] [(.ref (.clo 49 [] [(.ref (i6 a1c0c0) [] []),(.ref (eVb a1c0c1) [] [])]) [] [])])],[]⟩ (sr (vr (eST_A64u8_A64u8_Z a0) (vr (.clo 87 [] [(.ref (.clo 49 [] [(.ref (i6 a1c0c0) [] []),(.ref (eVb a1c0c1) [] [])]) [] [])]) ?_)))))
 obtain ⟨r1,hr2,h⟩:=bind_some h
 refine ca (slices_IndexFunc_impl_Form_impl_Form_of_impl_areAll_impl_Form__c1_p_formCode_c2_ok a0 a1c0c0 a1c0c1 r1 hr2) (vr (.bool ((decide (r1 ≥ 0)))) (vr (.bool ((decide (r1 ≥ 0)))) (nx _ rfl (a_ret ?_))))
 refine ⟨.inr rfl,?_⟩
 rw [Try.results86]
 cases h
 exact ⟨_,_,_,_,_,rfl,trivial,.inl ⟨rfl,.inl rfl⟩,rfl,rfl⟩
def impl_areAll_impl_Form_of_impl_formCode_c2_p_p_L:Live:=[(0,[0,1]),(1,[0,3])]
noncomputable def impl_areAll_impl_Form_of_impl_formCode_c2_p_p (a0:(List ((Vec Int 64)×(Vec Int 64)))) (a1c0:Int) (a1c1:(Vec Int 64)):Option Bool :=
 (Option.bind (slices_ContainsFunc_impl_Form_impl_Form_of_impl_areAll_impl_Form__c1_p_formCode_c2 a0 a1c0 a1c1) fun r1=>(some (!r1)))
theorem impl_areAll_impl_Form_of_impl_formCode_c2_p_p_ok (a0:(List ((Vec Int 64)×(Vec Int 64)))) (a1c0:Int) (a1c1:(Vec Int 64)) (r:Bool) (h:impl_areAll_impl_Form_of_impl_formCode_c2_p_p a0 a1c0 a1c1=some r):Den Try.prog 46 [(eST_A64u8_A64u8_Z a0),(.clo 49 [] [(.ref (i6 a1c0) [] []),(.ref (eVb a1c1) [] [])])] { r:=(.bool r) }:=by
 refine dd (rs:=[(.bool r)]) (L:=impl_areAll_impl_Form_of_impl_formCode_c2_p_p_L) good [] Try.func46 Try.ntmps46 ?_
 refine ns ⟨[(0,eST_A64u8_A64u8_Z a0),(1,.clo 49 [] [(.ref (i6 a1c0) [] []),(.ref (eVb a1c1) [] [])])],[]⟩ ?_
 refine sr (vo 1300 (.clo 49 [] [(.ref (i6 a1c0) [] []),(.ref (eVb a1c1) [] [])]) rfl rfl (vr (.bool false) (nk ⟨[(0,eST_A64u8_A64u8_Z a0),(3,ow 3)],[(3,bk (.clo 49 [] [(.ref (i6 a1c0) [] []),(.ref (eVb a1c1) [] [])]))]⟩ (sr (vr (eST_A64u8_A64u8_Z a0) (vu (.clo 87 [] [(.ref (.clo 49 [] [(.ref (i6 a1c0) [] []),(.ref (eVb a1c1) [] [])]) [] [])]) [(3,bf (.clo 49 [] [(.ref (i6 a1c0) [] []),(.ref (eVb a1c1) [] [])]))] rfl trivial rfl ?_))))))
 obtain ⟨r1,hr2,h⟩:=bind_some h
 refine ca (slices_ContainsFunc_impl_Form_impl_Form_of_impl_areAll_impl_Form__c1_p_formCode_c2_ok a0 a1c0 a1c1 r1 hr2) (vr (.bool (!r1)) (vr (.bool (!r1)) (nx _ rfl (a_ret ?_))))
 refine ⟨.inr rfl,?_⟩
 rw [Try.results46]
 cases h
 exact ⟨_,_,_,_,_,rfl,trivial,.inl ⟨rfl,.inl rfl⟩,rfl,rfl⟩
def impl_formCode_L:Live:=[(0,[0,1,2,3,4]),(1,[2,3,4,5,6]),(2,[]),(3,[2,3,4,5,6]),(4,[]),(5,[3,4,5,6]),(6,[]),(7,[]),(100011,[2,3,4,5,6,11]),(100022,[3,4,5,6,22]),(100025,[25])]
noncomputable def impl_formCode (a0:Int) (a1:(Vec Int 64)) (a2:Bool) (a3:Bool) (a4:(List ((Vec Int 64)×(Vec Int 64)))):Option Int :=
 (Option.bind (impl_IsDiscriminant a0 a1) fun r11=>(if (!r11) then (some 1) else (Option.bind (impl_areAll_impl_Form_of_impl_formCode_c1_p_p a4 a0 a1) fun r14=>(if (!r14) then (some 1) else (if (!a2) then (some 2) else (Option.bind (α:=Bool) ((if a3 then (Option.bind (impl_areAll_impl_Form_of_impl_formCode_c2_p_p a4 a0 a1) fun r26=>(some (!r26))) else (some false))) fun x21=>(if x21 then (some 5) else (some 0))))))))
theorem impl_formCode_ok (a0:Int) (a1:(Vec Int 64)) (a2:Bool) (a3:Bool) (a4:(List ((Vec Int 64)×(Vec Int 64)))) (r:Int) (h:impl_formCode a0 a1 a2 a3 a4=some r):Den Try.prog 20 [(i6 a0),(eVb a1),(.bool a2),(.bool a3),(eST_A64u8_A64u8_Z a4)] { r:=(i6 r) }:=by
 refine dd (rs:=[(i6 r)]) (L:=impl_formCode_L) good [] Try.func20 Try.ntmps20 ?_
 refine ns ⟨[(0,i6 a0),(1,eVb a1),(2,.bool a2),(3,.bool a3),(4,eST_A64u8_A64u8_Z a4)],[]⟩ ?_
 refine sr (vo 1500 (i6 a0) rfl rfl (vo 1600 (eVb a1) rfl rfl (vr (i6 0) (nk ⟨[(2,.bool a2),(3,.bool a3),(4,eST_A64u8_A64u8_Z a4),(5,ow 5),(6,ow 6)],[(5,bk (i6 a0)),(6,bk (eVb a1))]⟩ (a_seq (a_block (sr (vl (i6 a0) rfl rfl rfl rfl rfl rfl (vl (eVb a1) rfl rfl rfl rfl rfl rfl ?_)))))))))
 obtain ⟨r11,hr12,h⟩:=bind_some h
 refine ca (impl_IsDiscriminant_ok a0 a1 r11 hr12) (vr (.bool (!r11)) (vr (.bool (!r11)) ?_))
 cases hb13:(!r11)
 ·have h:=ite_f hb13 h
  refine gp (eST_A64u8_A64u8_Z a4) rfl rfl (a_gval rfl (v:=(.clo 47 [] [(.ref (i6 a0) [] []),(.ref (eVb a1) [] [])])) (u:=[(5,bf (i6 a0)),(6,bf (eVb a1))]) rfl trivial rfl ?_)
  obtain ⟨r14,hr15,h⟩:=bind_some h
  refine a_gcall rfl (args:=[(eST_A64u8_A64u8_Z a4),(.clo 47 [] [(.ref (i6 a0) [] []),(.ref (eVb a1) [] [])])]) (u:=[]) (r:=(.bool r14)) rfl rfl (impl_areAll_impl_Form_of_impl_formCode_c1_p_p_ok a4 a0 a1 r14 hr15) rfl (gp (.bool (!r14)) rfl rfl (vr (.bool (!r14)) (vr (.bool (!r14)) (nk ⟨[(2,.bool a2),(3,.bool a3),(4,eST_A64u8_A64u8_Z a4),(5,ow 5),(6,ow 6),(11,.bool (!r14))],[(5,bf (i6 a0)),(6,bf (eVb a1))]⟩ ?_))))
  cases hb16:(!r14)
  ·have h:=ite_f hb16 h
   refine a_cond_f rfl (sr (vr (.bool a2) (vr (.bool (!a2)) (vr (.bool (!a2)) (nk ⟨[(3,.bool a3),(4,eST_A64u8_A64u8_Z a4),(5,ow 5),(6,ow 6),(22,.bool (!a2))],[(5,bf (i6 a0)),(6,bf (eVb a1))]⟩ ?_)))))
   cases hb17:(!a2)
   ·have h:=ite_f hb17 h
    refine a_cond_f rfl ?_
    obtain ⟨y22,hy23,hk24⟩:=bind_some h
    clear h
    refine a_join (emb:=fun (s:Bool)=>⟨[(25,.bool s)],[]⟩) (pre:=fun s=>s=y22) ?_ ?_
    ·rintro x21 rfl
     have h:=hk24
     refine ns ⟨[(25,.bool x21)],[]⟩ ?_
     cases hb28:x21
     ·have h:=ite_f hb28 h
      refine a_cond_f rfl (a_skip (b_norm (nj ⟨[],[]⟩ (sr (vr (i6 0) (nx _ rfl (a_ret ?_)))))))
      refine ⟨.inr rfl,?_⟩
      rw [Try.results20]
      cases h
      exact ⟨_,_,_,_,_,rfl,trivial,.inl ⟨rfl,.inl rfl⟩,rfl,rfl⟩
     ·have h:=ite_t hb28 h
      refine a_cond_t rfl (sr (vr (i6 5) (nx _ rfl (a_ret (b_ret (t_ret ?_))))))
      refine ⟨.inr rfl,?_⟩
      rw [Try.results20]
      cases h
      exact ⟨_,_,_,_,_,rfl,trivial,.inl ⟨rfl,.inl rfl⟩,rfl,rfl⟩
    ·have h:=hy23
     refine a_region (vr (.bool a3) (vr (.bool a3) ?_))
     cases hb25:a3
     ·have h:=ite_f hb25 h
      refine a_gskip rfl (a_gskip rfl (a_gskip rfl (a_gskip rfl (vr (.bool false) (vr (.bool false) (a_nil ?_))))))
      exact jl false h
     ·have h:=ite_t hb25 h
      refine gp (eST_A64u8_A64u8_Z a4) rfl rfl (a_gval rfl (v:=(.clo 49 [] [(.ref (i6 a0) [] []),(.ref (eVb a1) [] [])])) (u:=[(5,bf (i6 a0)),(6,bf (eVb a1))]) rfl trivial rfl ?_)
      obtain ⟨r26,hr27,h⟩:=bind_some h
      refine a_gcall rfl (args:=[(eST_A64u8_A64u8_Z a4),(.clo 49 [] [(.ref (i6 a0) [] []),(.ref (eVb a1) [] [])])]) (u:=[]) (r:=(.bool r26)) rfl rfl (impl_areAll_impl_Form_of_impl_formCode_c2_p_p_ok a4 a0 a1 r26 hr27) rfl (gp (.bool (!r26)) rfl rfl (vr (.bool (!r26)) (vr (.bool (!r26)) (a_nil ?_))))
      exact jl (!r26) h
   ·have h:=ite_t hb17 h
    refine a_cond_t rfl (sr (vr (i6 2) (nx _ rfl (a_ret (b_ret (t_ret ?_))))))
    refine ⟨.inr rfl,?_⟩
    rw [Try.results20]
    cases h
    exact ⟨_,_,_,_,_,rfl,trivial,.inl ⟨rfl,.inl rfl⟩,rfl,rfl⟩
  ·have h:=ite_t hb16 h
   refine a_cond_t rfl (sr (vr (i6 1) (nx _ rfl (a_ret (b_ret (t_ret ?_))))))
   refine ⟨.inr rfl,?_⟩
   rw [Try.results20]
   cases h
   exact ⟨_,_,_,_,_,rfl,trivial,.inl ⟨rfl,.inl rfl⟩,rfl,rfl⟩
 ·have h:=ite_t hb13 h
  refine a_gskip rfl (a_gskip rfl (a_gskip rfl (a_gskip rfl (vr (.bool true) (vr (.bool true) (nk ⟨[(2,.bool a2),(3,.bool a3),(4,eST_A64u8_A64u8_Z a4),(5,ow 5),(6,ow 6),(11,.bool true)],[(5,bk (i6 a0)),(6,bk (eVb a1))]⟩ (a_cond_t rfl (sr (vr (i6 1) ?_)))))))))
  refine nx _ rfl (a_ret (b_ret (t_ret ?_)))
  refine ⟨.inr rfl,?_⟩
  rw [Try.results20]
  cases h
  exact ⟨_,_,_,_,_,rfl,trivial,.inl ⟨rfl,.inl rfl⟩,rfl,rfl⟩
def impl_prime_norm_L:Live:=[(0,[0,1,2]),(1,[0,1,2]),(2,[0,1,2,7]),(3,[0,2,7,8,9]),(4,[0,2,7,8,9]),(5,[0,2,7,8,9]),(6,[0,2,7,8,9]),(7,[7]),(100010,[0,2,7,8,9,10]),(100013,[0,2,7,8,9,13])]
noncomputable def impl_prime_norm_l1 (a1:Int) (a2:Int) (a0:Int) (x19:Int) (x20:Int):Option ((Int×Int)⊕Int) :=
 (if (decide (x20 < a1)) then (if (decide (x19 > a2)) then (some (.inr x19)) else (some (.inl ((IntKind.i64.wrap (x19*a0),IntKind.i64.wrap (x20 + 1)))))) else (some (.inr x19)))
noncomputable def impl_prime_norm (a0:Int) (a1:Int) (a2:Int):Option Int :=
 (Option.bind (α:=Int) ((loopM (fun s:(Int×Int)=>impl_prime_norm_l1 a1 a2 a0 s.1 s.2) (1,0))) fun x13=>(some x13))
theorem impl_prime_norm_ok (a0:Int) (a1:Int) (a2:Int) (r:Int) (h:impl_prime_norm a0 a1 a2=some r):Den Try.prog 32 [(i6 a0),(i6 a1),(i6 a2)] { r:=(i6 r) }:=by
 refine dd (rs:=[(i6 r)]) (L:=impl_prime_norm_L) good [] Try.func32 Try.ntmps32 ?_
 refine ns ⟨[(0,i6 a0),(1,i6 a1),(2,i6 a2)],[]⟩ ?_
 refine sr (vr (i6 0) (nk ⟨[(0,i6 a0),(1,i6 a1),(2,i6 a2)],[]⟩ (sr (vr (i6 1) (nk ⟨[(0,i6 a0),(1,i6 a1),(2,i6 a2),(7,i6 1)],[]⟩ ?_)))))
 obtain ⟨y14,hy15,hk16⟩:=bind_some h
 clear h
 refine a_join (emb:=fun (s:Int)=>⟨[(7,i6 s)],[]⟩) (pre:=fun s=>s=y14) ?_ ?_
 ·rintro x13 rfl
  have h:=hk16
  refine ns ⟨[(7,i6 x13)],[]⟩ (sr (vr (i6 x13) (vr (i6 x13) (nx _ rfl (a_ret ?_)))))
  refine ⟨.inr rfl,?_⟩
  rw [Try.results32]
  cases h
  exact ⟨_,_,_,_,_,rfl,trivial,.inl ⟨rfl,.inl rfl⟩,rfl,rfl⟩
 ·have h:=hy15
  refine sr (vr (i6 a1) (vr (i6 0) (nk ⟨[(0,i6 a0),(2,i6 a2),(7,i6 1),(8,i6 a1),(9,i6 0)],[]⟩ (a_block ?_))))
  refine a_loop (emb:=fun (s:(Int×Int))=>⟨[(0,i6 a0),(2,i6 a2),(7,i6 s.1),(8,i6 a1),(9,i6 s.2)],[]⟩) (body:=(fun s:(Int×Int)=>impl_prime_norm_l1 a1 a2 a0 s.1 s.2)) (G:=fun q=>some q=some y14) h rfl ?_ (by kernel_rfl)
  rintro X23 ⟨x19,x20⟩ x24 h hX25
  have h:impl_prime_norm_l1 a1 a2 a0 x19 x20=some x24:=h
  refine ns ⟨[(0,i6 a0),(2,i6 a2),(7,i6 x19),(8,i6 a1),(9,i6 x20)],[]⟩ (sr (vr (.bool ((decide (x20 < a1)))) (nk ⟨[(0,i6 a0),(2,i6 a2),(7,i6 x19),(8,i6 a1),(9,i6 x20),(10,.bool ((decide (x20 < a1))))],[]⟩ (a_seq ?_))))
  cases hb26:(decide (x20 < a1))
  ·have h:=ite_f hb26 h
   refine a_cond_f rfl (a_exit (t_exit ?_))
   cases h
   have h:=hX25
   refine t_exit (b_exit ?_)
   exact jl x19 h
  ·have h:=ite_t hb26 h
   refine a_cond_t rfl (a_skip (nj ⟨[(0,i6 a0),(2,i6 a2),(7,i6 x19),(8,i6 a1),(9,i6 x20)],[]⟩ (a_seq (a_block (a_seq (sr (vr (i6 x19) (vr (i6 a2) (vr (.bool ((decide (x19 > a2)))) ?_)))))))))
   refine nk ⟨[(0,i6 a0),(2,i6 a2),(7,i6 x19),(8,i6 a1),(9,i6 x20),(13,.bool ((decide (x19 > a2))))],[]⟩ ?_
   cases hb27:(decide (x19 > a2))
   ·have h:=ite_f hb27 h
    refine a_cond_f rfl (a_skip (nj ⟨[(0,i6 a0),(2,i6 a2),(7,i6 x19),(8,i6 a1),(9,i6 x20)],[]⟩ (a_region (vr (i6 x19) (vr (i6 a0) (vr (i6 (IntKind.i64.wrap (x19*a0))) (vr (i6 (IntKind.i64.wrap (x19*a0))) (a_nil (b_norm ?_)))))))))
    refine nj ⟨[(0,i6 a0),(2,i6 a2),(7,i6 (IntKind.i64.wrap (x19*a0))),(8,i6 a1),(9,i6 x20)],[]⟩ (a_region (vr (i6 (IntKind.i64.wrap (x20 + 1))) (vr (i6 (IntKind.i64.wrap (x20 + 1))) (a_nil ?_))))
    cases h
    exact ag hX25
   ·have h:=ite_t hb27 h
    refine a_cond_t rfl (a_exit (t_exit (b_other rfl (t_exit ?_))))
    cases h
    have h:=hX25
    refine t_exit (b_exit ?_)
    exact jl x19 h
def impl_prime_numbered_L:Live:=[(0,[0,1]),(1,[0,1]),(2,[0,1,5]),(3,[0,1,5]),(4,[0,1,5]),(5,[5]),(100007,[0,1,5,7])]
noncomputable def impl_prime_numbered_l1 (a0:Int) (x27:Int) (x28:(List Int)):Option ((Int×(List Int))⊕(List Int)) :=
 (if (decide (x27 > 0)) then (ifp (a0 ≠ 0) ((ifp ((x28.length + ([Int.tmod x27 a0]:List Int).length)*8≤140737488355328) ((ifp (a0 ≠ 0) ((some (.inl ((IntKind.i64.wrap (Int.tdiv x27 a0),(x28 ++ ([Int.tmod x27 a0])))))))))))) else (some (.inr x28)))
noncomputable def impl_prime_numbered (a0:Int) (a1:Int):Option (List Int) :=
 (Option.bind (α:=(List Int)) ((loopM (fun s:(Int×(List Int))=>impl_prime_numbered_l1 a0 s.1 s.2) (a1,[]))) fun x19=>(some x19))
theorem impl_prime_numbered_ok (a0:Int) (a1:Int) (r:(List Int)) (h:impl_prime_numbered a0 a1=some r):Den Try.prog 31 [(i6 a0),(i6 a1)] { r:=(eSi64 r) }:=by
 refine dd (rs:=[(eSi64 r)]) (L:=impl_prime_numbered_L) good [(4,1),(5,2)] Try.func31 Try.ntmps31 ?_
 refine ns ⟨[(0,i6 a0),(1,i6 a1)],[]⟩ ?_
 refine sr (vr (eSi64 ([])) (nk ⟨[(0,i6 a0),(1,i6 a1)],[]⟩ (sr (vu (.osl 1500) [(1500,bk (.row 1 (([]).map (AV.int .i64))))] rfl trivial rfl (nk ⟨[(0,i6 a0),(1,i6 a1),(5,.osl 5)],[(5,bk (.row 1 (([]).map (AV.int .i64))))]⟩ ?_)))))
 obtain ⟨y20,hy21,hk22⟩:=bind_some h
 clear h
 refine a_join (emb:=fun (s:(List Int))=>⟨[(5,.osl 5)],[(5,bk (.row 1 (s.map (AV.int .i64))))]⟩) (pre:=fun s=>s=y20) ?_ ?_
 ·rintro x19 rfl
  have h:=hk22
  refine ns ⟨[(5,.osl 5)],[(5,bk (.row 1 (x19.map (AV.int .i64))))]⟩ (sr (vr (.osl 5) (vu (eSi64 x19) [(5,bf (.row 1 (x19.map (AV.int .i64))))] rfl trivial rfl (nx _ rfl (a_ret ?_)))))
  refine ⟨.inr rfl,?_⟩
  rw [Try.results31]
  cases h
  exact ⟨_,_,_,_,_,rfl,trivial,.inl ⟨rfl,.inl rfl⟩,rfl,rfl⟩
 ·have h:=hy21
  refine a_block ?_
  refine a_loop (emb:=fun (s:(Int×(List Int)))=>⟨[(0,i6 a0),(1,i6 s.1),(5,.osl 5)],[(5,bk (.row 1 (s.2.map (AV.int .i64))))]⟩) (body:=(fun s:(Int×(List Int))=>impl_prime_numbered_l1 a0 s.1 s.2)) (G:=fun q=>some q=some y20) h rfl ?_ (by kernel_rfl)
  rintro X33 ⟨x27,x28⟩ x34 h hX35
  have h:impl_prime_numbered_l1 a0 x27 x28=some x34:=h
  refine ns ⟨[(0,i6 a0),(1,i6 x27),(5,.osl 5)],[(5,bk (.row 1 (x28.map (AV.int .i64))))]⟩ (a_seq (sr (vr (i6 x27) (vr (.bool ((decide (x27 > 0)))) (nk ⟨[(0,i6 a0),(1,i6 x27),(5,.osl 5),(7,.bool ((decide (x27 > 0))))],[(5,bk (.row 1 (x28.map (AV.int .i64))))]⟩ ?_)))))
  cases hb36:(decide (x27 > 0))
  ·have h:=ite_f hb36 h
   refine a_cond_f rfl (a_exit (t_exit ?_))
   cases h
   have h:=hX35
   refine t_exit (b_exit ?_)
   exact jl x28 h
  ·have h:=ite_t hb36 h
   refine a_cond_t rfl (a_skip (nj ⟨[(0,i6 a0),(1,i6 x27),(5,.osl 5)],[(5,bk (.row 1 (x28.map (AV.int .i64))))]⟩ (a_seq (a_block (a_region (vr (.osl 5) (vr (i6 x27) (vr (i6 a0) ?_))))))))
   obtain ⟨hc37,h⟩:=ifp_some h
   refine vq (i6 (Int.tmod x27 a0)) rfl hc37 (vq (.sl 1 true (([Int.tmod x27 a0]).map (AV.int .i64))) rfl ⟨(Nat.le_of_ble_eq_true rfl),(Nat.le_of_ble_eq_true rfl),(all_cons ⟨(Nat.le_of_ble_eq_true rfl),rfl⟩ all_nil)⟩ ?_)
   obtain ⟨hc38,h⟩:=ifp_some h
   refine vu (.osl 2600) [(2600,bk (.row 1 (((x28 ++ ([Int.tmod x27 a0]))).map (AV.int .i64)))),(5,none)] (app_run (i:=⟨.int .i64,1,8,(.int .i64 0)⟩) (f:=(AV.int .i64)) (l:=x28) (l2:=[Int.tmod x27 a0]) rfl rfl rfl rfl (fun _=>rfl) rfl rfl) (app_c (f:=(AV.int .i64)) (s:=1) (sz:=1) (by':=8) (u:=[]) (id:=5) hc38 (.inr rfl) rfl rfl rfl) rfl (vr (.osl 2600) (a_nil (b_norm (nj ⟨[(0,i6 a0),(1,i6 x27),(5,.osl 5)],[(5,bk (.row 1 (((x28 ++ ([Int.tmod x27 a0]))).map (AV.int .i64))))]⟩ (a_region (vr (i6 x27) (vr (i6 a0) ?_)))))))
   obtain ⟨hc39,h⟩:=ifp_some h
   refine vq (i6 (IntKind.i64.wrap (Int.tdiv x27 a0))) rfl hc39 (vr (i6 (IntKind.i64.wrap (Int.tdiv x27 a0))) (a_nil ?_))
   cases h
   exact ag hX35
def impl_prime_monics_L:Live:=[(0,[0,1]),(1,[0,1]),(2,[0,5]),(3,[0,5,6]),(4,[0,5,6,11,12]),(5,[0,5,6,11,12]),(6,[0,5,6,7,11,12]),(7,[0,5,6,11,12]),(8,[6]),(100013,[0,5,6,11,12,13])]
noncomputable def impl_prime_monics_l1 (r1:Int) (a0:Int) (x29:Int) (x30:(List (List Int))):Option ((Int×(List (List Int)))⊕(List (List Int))) :=
 (if (decide (x29 < r1)) then (Option.bind (impl_prime_numbered a0 (IntKind.i64.wrap (r1 + x29))) fun r39=>(ifp ((x30.length + ([r39]:List (List Int)).length)*24≤140737488355328) ((some (.inl ((IntKind.i64.wrap (x29 + 1),(x30 ++ ([r39]))))))))) else (some (.inr x30)))
noncomputable def impl_prime_monics (a0:Int) (a1:Int):Option (List (List Int)) :=
 (Option.bind (impl_prime_norm a0 a1 343) fun r1=>(Option.bind (α:=(List (List Int))) ((loopM (fun s:(Int×(List (List Int)))=>impl_prime_monics_l1 r1 a0 s.1 s.2) (0,[]))) fun x21=>(some x21)))
theorem impl_prime_monics_ok (a0:Int) (a1:Int) (r:(List (List Int))) (h:impl_prime_monics a0 a1=some r):Den Try.prog 53 [(i6 a0),(i6 a1)] { r:=(eSSi64 r) }:=by
 refine dd (rs:=[(eSSi64 r)]) (L:=impl_prime_monics_L) good [(4,1),(6,2)] Try.func53 Try.ntmps53 ?_
 refine ns ⟨[(0,i6 a0),(1,i6 a1)],[]⟩ ?_
 refine sr (vr (eSSi64 ([])) (nk ⟨[(0,i6 a0),(1,i6 a1)],[]⟩ (sr (vr (i6 a0) (vr (i6 a1) ?_)))))
 obtain ⟨r1,hr2,h⟩:=bind_some h
 refine ca (impl_prime_norm_ok a0 a1 343 r1 hr2) (vr (i6 r1) (nk ⟨[(0,i6 a0),(5,i6 r1)],[]⟩ (sr (vu (.osl 1600) [(1600,bk (.row 1 (([]).map eSi64)))] rfl trivial rfl (nk ⟨[(0,i6 a0),(5,i6 r1),(6,.osl 6)],[(6,bk (.row 1 (([]).map eSi64)))]⟩ ?_)))))
 obtain ⟨y22,hy23,hk24⟩:=bind_some h
 clear h
 refine a_join (emb:=fun (s:(List (List Int)))=>⟨[(6,.osl 6)],[(6,bk (.row 1 (s.map eSi64)))]⟩) (pre:=fun s=>s=y22) ?_ ?_
 ·rintro x21 rfl
  have h:=hk24
  refine ns ⟨[(6,.osl 6)],[(6,bk (.row 1 (x21.map eSi64)))]⟩ (sr (vr (.osl 6) (vu (eSSi64 x21) [(6,bf (.row 1 (x21.map eSi64)))] rfl trivial rfl (nx _ rfl (a_ret ?_)))))
  refine ⟨.inr rfl,?_⟩
  rw [Try.results53]
  cases h
  exact ⟨_,_,_,_,_,rfl,trivial,.inl ⟨rfl,.inl rfl⟩,rfl,rfl⟩
 ·have h:=hy23
  refine sr (vr (i6 r1) (vr (i6 0) (nk ⟨[(0,i6 a0),(5,i6 r1),(6,.osl 6),(11,i6 r1),(12,i6 0)],[(6,bk (.row 1 (([]).map eSi64)))]⟩ (a_block ?_))))
  refine a_loop (emb:=fun (s:(Int×(List (List Int))))=>⟨[(0,i6 a0),(5,i6 r1),(6,.osl 6),(11,i6 r1),(12,i6 s.1)],[(6,bk (.row 1 (s.2.map eSi64)))]⟩) (body:=(fun s:(Int×(List (List Int)))=>impl_prime_monics_l1 r1 a0 s.1 s.2)) (G:=fun q=>some q=some y22) h rfl ?_ (by kernel_rfl)
  rintro X35 ⟨x29,x30⟩ x36 h hX37
  have h:impl_prime_monics_l1 r1 a0 x29 x30=some x36:=h
  refine ns ⟨[(0,i6 a0),(5,i6 r1),(6,.osl 6),(11,i6 r1),(12,i6 x29)],[(6,bk (.row 1 (x30.map eSi64)))]⟩ (sr (vr (.bool ((decide (x29 < r1)))) (nk ⟨[(0,i6 a0),(5,i6 r1),(6,.osl 6),(11,i6 r1),(12,i6 x29),(13,.bool ((decide (x29 < r1))))],[(6,bk (.row 1 (x30.map eSi64)))]⟩ (a_seq ?_))))
  cases hb38:(decide (x29 < r1))
  ·have h:=ite_f hb38 h
   refine a_cond_f rfl (a_exit (t_exit ?_))
   cases h
   have h:=hX37
   refine t_exit (b_exit ?_)
   exact jl x30 h
  ·have h:=ite_t hb38 h
   refine a_cond_t rfl (a_skip (nj ⟨[(0,i6 a0),(5,i6 r1),(6,.osl 6),(11,i6 r1),(12,i6 x29)],[(6,bk (.row 1 (x30.map eSi64)))]⟩ (a_seq (a_block (sr (vr (i6 x29) (vr (i6 x29) (nk ⟨[(0,i6 a0),(5,i6 r1),(6,.osl 6),(7,i6 x29),(11,i6 r1),(12,i6 x29)],[(6,bk (.row 1 (x30.map eSi64)))]⟩ (a_region ?_)))))))))
   refine vr (.osl 6) (vr (i6 a0) (vr (i6 r1) (vr (i6 x29) (vr (i6 (IntKind.i64.wrap (r1 + x29))) ?_))))
   obtain ⟨r39,hr40,h⟩:=bind_some h
   refine ca (impl_prime_numbered_ok a0 (IntKind.i64.wrap (r1 + x29)) r39 hr40) (vq (.sl 1 true (([r39]).map eSi64)) rfl ⟨(Nat.le_of_ble_eq_true rfl),(Nat.le_of_ble_eq_true rfl),(all_cons ⟨(Nat.le_of_ble_eq_true rfl),rfl⟩ all_nil)⟩ ?_)
   obtain ⟨hc41,h⟩:=ifp_some h
   refine vu (.osl 3200) [(3200,bk (.row 1 (((x30 ++ ([r39]))).map eSi64))),(6,none)] (app_run (i:=⟨.slice 2,1,24,(eSi64 [])⟩) (f:=eSi64) (l:=x30) (l2:=[r39]) rfl rfl rfl rfl (fun _=>rfl) rfl rfl) (app_c (f:=eSi64) (s:=1) (sz:=1) (by':=24) (u:=[]) (id:=6) hc41 (.inr rfl) rfl rfl rfl) rfl (vr (.osl 3200) (a_nil (b_norm (nj ⟨[(0,i6 a0),(5,i6 r1),(6,.osl 6),(11,i6 r1),(12,i6 x29)],[(6,bk (.row 1 (((x30 ++ ([r39]))).map eSi64)))]⟩ (a_region (vr (i6 (IntKind.i64.wrap (x29 + 1))) (vr (i6 (IntKind.i64.wrap (x29 + 1))) (a_nil ?_))))))))
   cases h
   exact ag hX37
def impl_curve_forms_L:Live:=[(0,[0]),(1,[1]),(2,[1,3]),(3,[1,3,11,12]),(4,[1,3,11,12]),(5,[1,3,4,11,12]),(6,[1,3,4,11,12,18,19,20]),(7,[1,3,4,11,12,18,19,20]),(8,[1,3,4,6,11,12,18,19,20]),(9,[1,3,4,6,11,12,18,19,20,27,28]),(10,[1,3,4,6,11,12,18,19,20,27,28]),(11,[1,3,4,6,7,11,12,18,19,20,27,28]),(12,[1,3,4,6,8,11,12,18,19,20,27,28]),(13,[1,3,4,6,8,11,12,18,19,20,27,28]),(14,[1,3,4,6,11,12,18,19,20,27,28]),(15,[1,3,4,11,12,18,19,20]),(16,[1,3,11,12]),(17,[3]),(100013,[1,3,11,12,13]),(100021,[1,3,4,11,12,18,19,20,21]),(100029,[1,3,4,6,11,12,18,19,20,27,28,29]),(100039,[1,3,4,6,8,11,12,18,19,20,27,28,39])]
noncomputable def impl_curve_forms_l3 (r6874:Int) (a0:(Int×(List Int))) (r6389:(List (List Int))) (x6580:Int) (x6903:Int) (x6904:(List ((List Int)×(List Int)))):Option ((Int×(List ((List Int)×(List Int))))⊕(List ((List Int)×(List Int)))) :=
 (if (decide (x6903 < r6874)) then (Option.bind (α:=(List ((List Int)×(List Int)))) ((Option.bind (impl_prime_numbered a0.1 x6903) fun r6952=>(Option.bind (impl_curve_isForm a0 (((rd r6389 x6580.toNat),r6952))) fun r6957=>(if r6957 then (ifp ((x6904.length + ([((rd r6389 x6580.toNat),r6952)]:List ((List Int)×(List Int))).length)*48≤140737488355328) ((some ((x6904 ++ ([((rd r6389 x6580.toNat),r6952)])))))) else (some x6904))))) fun x6947=>(some (.inl ((IntKind.i64.wrap (x6903 + 1),x6947))))) else (some (.inr x6904)))
noncomputable def impl_curve_forms_l2 (r6389:(List (List Int))) (a0:(Int×(List Int))) (x4645:Int) (x6580:Int) (x6581:(List ((List Int)×(List Int)))):Option ((Int×(List ((List Int)×(List Int))))⊕(List ((List Int)×(List Int)))) :=
 (if (decide (x6580 < (r6389.length:Int))) then (Option.bind (α:=(List ((List Int)×(List Int)))) ((ifp (0≤x6580∧x6580 < ((r6389.length:Nat):Int)) ((Option.bind (impl_prime_norm a0.1 x4645 1099511627776) fun r6874=>(loopM (fun s:(Int×(List ((List Int)×(List Int))))=>impl_curve_forms_l3 r6874 a0 r6389 x6580 s.1 s.2) (0,x6581)))))) fun x6867=>(some (.inl ((IntKind.i64.wrap (x6580 + 1),x6867))))) else (some (.inr x6581)))
noncomputable def impl_curve_forms_l1 (r3486:Int) (a0:(Int×(List Int))) (x4645:Int) (x4646:(List ((List Int)×(List Int)))):Option ((Int×(List ((List Int)×(List Int))))⊕(List ((List Int)×(List Int)))) :=
 (if (decide (x4645 < (IntKind.i64.wrap (r3486 + 1)))) then (Option.bind (α:=(List ((List Int)×(List Int)))) ((Option.bind (impl_prime_monics a0.1 x4645) fun r6389=>(loopM (fun s:(Int×(List ((List Int)×(List Int))))=>impl_curve_forms_l2 r6389 a0 x4645 s.1 s.2) (0,x4646)))) fun x6384=>(some (.inl ((IntKind.i64.wrap (x4645 + 1),x6384))))) else (some (.inr x4646)))
noncomputable def impl_curve_forms (a0:(Int×(List Int))):Option (List ((List Int)×(List Int))) :=
 (Option.bind (α:=(List ((List Int)×(List Int)))) ((Option.bind (impl_curve_genus a0) fun r3486=>(loopM (fun s:(Int×(List ((List Int)×(List Int))))=>impl_curve_forms_l1 r3486 a0 s.1 s.2) (0,[])))) fun x3481=>(some x3481))
theorem impl_curve_forms_ok (a0:(Int×(List Int))) (r:(List ((List Int)×(List Int)))) (h:impl_curve_forms a0=some r):Den Try.prog 22 [(eT_i64_Si64_Z a0)] { r:=(eST_Si64_Si64_Z r) }:=by
 refine dd (rs:=[(eST_Si64_Si64_Z r)]) (L:=impl_curve_forms_L) good [(2,1),(3,2),(6,1)] Try.func22 Try.ntmps22 ?_
 refine ns ⟨[(0,eT_i64_Si64_Z a0)],[]⟩ ?_
 refine sr (vo 1100 (eT_i64_Si64_Z a0) rfl rfl (vr (eST_Si64_Si64_Z ([])) (nk ⟨[(1,ow 1)],[(1,bk (eT_i64_Si64_Z a0))]⟩ (sr (vu (.osl 1300) [(1300,bk (.row 2 (([]).map eT_Si64_Si64_Z)))] rfl trivial rfl (nk ⟨[(1,ow 1),(3,.osl 3)],[(1,bk (eT_i64_Si64_Z a0)),(3,bk (.row 2 (([]).map eT_Si64_Si64_Z)))]⟩ ?_))))))
 obtain ⟨y3482,hy3483,hk3484⟩:=bind_some h
 clear h
 refine a_join (emb:=fun (s:(List ((List Int)×(List Int))))=>⟨[(3,.osl 3)],[(3,bk (.row 2 (s.map eT_Si64_Si64_Z)))]⟩) (pre:=fun s=>s=y3482) ?_ ?_
 ·rintro x3481 rfl
  have h:=hk3484
  refine ns ⟨[(3,.osl 3)],[(3,bk (.row 2 (x3481.map eT_Si64_Si64_Z)))]⟩ (sr (vr (.osl 3) (vu (eST_Si64_Si64_Z x3481) [(3,bf (.row 2 (x3481.map eT_Si64_Si64_Z)))] rfl trivial rfl (nx _ rfl (a_ret ?_)))))
  refine ⟨.inr rfl,?_⟩
  rw [Try.results22]
  cases h
  exact ⟨_,_,_,_,_,rfl,trivial,.inl ⟨rfl,.inl rfl⟩,rfl,rfl⟩
 ·have h:=hy3483
  refine sr (vl (eT_i64_Si64_Z a0) rfl rfl rfl rfl rfl rfl ?_)
  obtain ⟨r3486,hr3487,h⟩:=bind_some h
  refine ca (impl_curve_genus_ok a0 r3486 hr3487) (vr (i6 (IntKind.i64.wrap (r3486 + 1))) (vr (i6 0) (nk ⟨[(1,ow 1),(3,.osl 3),(11,i6 (IntKind.i64.wrap (r3486 + 1))),(12,i6 0)],[(1,bk (eT_i64_Si64_Z a0)),(3,bk (.row 2 (([]).map eT_Si64_Si64_Z)))]⟩ (a_block ?_))))
  refine a_loop (emb:=fun (s:(Int×(List ((List Int)×(List Int)))))=>⟨[(1,ow 1),(3,.osl 3),(11,i6 (IntKind.i64.wrap (r3486 + 1))),(12,i6 s.1)],[(1,bk (eT_i64_Si64_Z a0)),(3,bk (.row 2 (s.2.map eT_Si64_Si64_Z)))]⟩) (body:=(fun s:(Int×(List ((List Int)×(List Int))))=>impl_curve_forms_l1 r3486 a0 s.1 s.2)) (G:=fun q=>some q=some y3482) h rfl ?_ (by kernel_rfl)
  rintro X5804 ⟨x4645,x4646⟩ x5805 h hX5806
  have h:impl_curve_forms_l1 r3486 a0 x4645 x4646=some x5805:=h
  refine ns ⟨[(1,ow 1),(3,.osl 3),(11,i6 (IntKind.i64.wrap (r3486 + 1))),(12,i6 x4645)],[(1,bk (eT_i64_Si64_Z a0)),(3,bk (.row 2 (x4646.map eT_Si64_Si64_Z)))]⟩ (sr (vr (.bool ((decide (x4645 < (IntKind.i64.wrap (r3486 + 1)))))) (nk ⟨[(1,ow 1),(3,.osl 3),(11,i6 (IntKind.i64.wrap (r3486 + 1))),(12,i6 x4645),(13,.bool ((decide (x4645 < (IntKind.i64.wrap (r3486 + 1))))))],[(1,bk (eT_i64_Si64_Z a0)),(3,bk (.row 2 (x4646.map eT_Si64_Si64_Z)))]⟩ (a_seq ?_))))
  cases hb5807:(decide (x4645 < (IntKind.i64.wrap (r3486 + 1))))
  ·have h:=ite_f hb5807 h
   refine a_cond_f rfl (a_exit (t_exit ?_))
   cases h
   have h:=hX5806
   refine t_exit (b_exit ?_)
   exact jl x4646 h
  ·have h:=ite_t hb5807 h
   refine a_cond_t rfl (a_skip (nj ⟨[(1,ow 1),(3,.osl 3),(11,i6 (IntKind.i64.wrap (r3486 + 1))),(12,i6 x4645)],[(1,bk (eT_i64_Si64_Z a0)),(3,bk (.row 2 (x4646.map eT_Si64_Si64_Z)))]⟩ ?_))
   obtain ⟨y6385,hy6386,hk6387⟩:=bind_some h
   clear h
   refine a_join (emb:=fun (s:(List ((List Int)×(List Int))))=>⟨[(1,ow 1),(3,.osl 3),(11,i6 (IntKind.i64.wrap (r3486 + 1))),(12,i6 x4645)],[(1,bk (eT_i64_Si64_Z a0)),(3,bk (.row 2 (s.map eT_Si64_Si64_Z)))]⟩) (pre:=fun s=>s=y6385) ?_ ?_
   ·rintro x6384 rfl
    have h:=hk6387
    refine ns ⟨[(1,ow 1),(3,.osl 3),(11,i6 (IntKind.i64.wrap (r3486 + 1))),(12,i6 x4645)],[(1,bk (eT_i64_Si64_Z a0)),(3,bk (.row 2 (x6384.map eT_Si64_Si64_Z)))]⟩ (a_region (vr (i6 (IntKind.i64.wrap (x4645 + 1))) (vr (i6 (IntKind.i64.wrap (x4645 + 1))) (a_nil ?_))))
    cases h
    exact ag hX5806
   ·have h:=hy6386
    refine a_block (sr (vr (i6 x4645) (vr (i6 x4645) (nk ⟨[(1,ow 1),(3,.osl 3),(4,i6 x4645),(11,i6 (IntKind.i64.wrap (r3486 + 1))),(12,i6 x4645)],[(1,bk (eT_i64_Si64_Z a0)),(3,bk (.row 2 (x4646.map eT_Si64_Si64_Z)))]⟩ (sr (vb (.own 1 [0] [0]) rfl rfl ?_))))))
    have hl6388:LdOk [0] (eT_i64_Si64_Z a0) [0] 1 false (i6 a0.1):=(.fld rfl rfl rfl rfl (.nil rfl rfl rfl))
    refine vq (i6 a0.1) (ld_own (i:=⟨.int .i64,1,8,(.int .i64 0)⟩) rfl rfl rfl hl6388) hl6388.c (vr (i6 x4645) ?_)
    obtain ⟨r6389,hr6390,h⟩:=bind_some h
    refine ca (impl_prime_monics_ok a0.1 x4645 r6389 hr6390) (vq (i6 (r6389.length:Int)) (len_run rfl rfl) trivial (vr (i6 0) (nk ⟨[(1,ow 1),(3,.osl 3),(4,i6 x4645),(11,i6 (IntKind.i64.wrap (r3486 + 1))),(12,i6 x4645),(18,eSSi64 r6389),(19,i6 (r6389.length:Int)),(20,i6 0)],[(1,bk (eT_i64_Si64_Z a0)),(3,bk (.row 2 (x4646.map eT_Si64_Si64_Z)))]⟩ (a_block ?_))))
    refine a_loop (emb:=fun (s:(Int×(List ((List Int)×(List Int)))))=>⟨[(1,ow 1),(3,.osl 3),(4,i6 x4645),(11,i6 (IntKind.i64.wrap (r3486 + 1))),(12,i6 x4645),(18,eSSi64 r6389),(19,i6 (r6389.length:Int)),(20,i6 s.1)],[(1,bk (eT_i64_Si64_Z a0)),(3,bk (.row 2 (s.2.map eT_Si64_Si64_Z)))]⟩) (body:=(fun s:(Int×(List ((List Int)×(List Int))))=>impl_curve_forms_l2 r6389 a0 x4645 s.1 s.2)) (G:=fun q=>some q=some y6385) h rfl ?_ (by kernel_rfl)
    rintro X6771 ⟨x6580,x6581⟩ x6772 h hX6773
    have h:impl_curve_forms_l2 r6389 a0 x4645 x6580 x6581=some x6772:=h
    refine ns ⟨[(1,ow 1),(3,.osl 3),(4,i6 x4645),(11,i6 (IntKind.i64.wrap (r3486 + 1))),(12,i6 x4645),(18,eSSi64 r6389),(19,i6 (r6389.length:Int)),(20,i6 x6580)],[(1,bk (eT_i64_Si64_Z a0)),(3,bk (.row 2 (x6581.map eT_Si64_Si64_Z)))]⟩ (sr (vr (.bool ((decide (x6580 < (r6389.length:Int))))) (nk ⟨[(1,ow 1),(3,.osl 3),(4,i6 x4645),(11,i6 (IntKind.i64.wrap (r3486 + 1))),(12,i6 x4645),(18,eSSi64 r6389),(19,i6 (r6389.length:Int)),(20,i6 x6580),(21,.bool ((decide (x6580 < (r6389.length:Int)))))],[(1,bk (eT_i64_Si64_Z a0)),(3,bk (.row 2 (x6581.map eT_Si64_Si64_Z)))]⟩ (a_seq ?_))))
    cases hb6774:(decide (x6580 < (r6389.length:Int)))
    ·have h:=ite_f hb6774 h
     refine a_cond_f rfl (a_exit (t_exit ?_))
     cases h
     have h:=hX6773
     refine t_exit (b_exit (b_norm ?_))
     exact jl x6581 h
    ·have h:=ite_t hb6774 h
     refine a_cond_t rfl (a_skip (nj ⟨[(1,ow 1),(3,.osl 3),(4,i6 x4645),(11,i6 (IntKind.i64.wrap (r3486 + 1))),(12,i6 x4645),(18,eSSi64 r6389),(19,i6 (r6389.length:Int)),(20,i6 x6580)],[(1,bk (eT_i64_Si64_Z a0)),(3,bk (.row 2 (x6581.map eT_Si64_Si64_Z)))]⟩ ?_))
     obtain ⟨y6868,hy6869,hk6870⟩:=bind_some h
     clear h
     refine a_join (emb:=fun (s:(List ((List Int)×(List Int))))=>⟨[(1,ow 1),(3,.osl 3),(4,i6 x4645),(11,i6 (IntKind.i64.wrap (r3486 + 1))),(12,i6 x4645),(18,eSSi64 r6389),(19,i6 (r6389.length:Int)),(20,i6 x6580)],[(1,bk (eT_i64_Si64_Z a0)),(3,bk (.row 2 (s.map eT_Si64_Si64_Z)))]⟩) (pre:=fun s=>s=y6868) ?_ ?_
     ·rintro x6867 rfl
      have h:=hk6870
      refine ns ⟨[(1,ow 1),(3,.osl 3),(4,i6 x4645),(11,i6 (IntKind.i64.wrap (r3486 + 1))),(12,i6 x4645),(18,eSSi64 r6389),(19,i6 (r6389.length:Int)),(20,i6 x6580)],[(1,bk (eT_i64_Si64_Z a0)),(3,bk (.row 2 (x6867.map eT_Si64_Si64_Z)))]⟩ (a_region (vr (i6 (IntKind.i64.wrap (x6580 + 1))) (vr (i6 (IntKind.i64.wrap (x6580 + 1))) (a_nil ?_))))
      cases h
      exact ag hX6773
     ·have h:=hy6869
      refine a_block (sr ?_)
      obtain ⟨hc6871,h⟩:=ifp_some h
      refine vq (.ref (.row 1 (r6389.map eSi64)) [x6580.toNat] [x6580.toNat*1]) rfl (lmap hc6871) ?_
      have hl6872:LdOk [x6580.toNat] (.row 1 (r6389.map eSi64)) [x6580.toNat*1] 1 false (eSi64 (rd r6389 x6580.toNat)):=(.row (llt hc6871) rfl (.nil rfl rfl rfl))
      refine vq (eSi64 (rd r6389 x6580.toNat)) (ld_ref (i:=⟨.slice 2,1,24,(eSi64 [])⟩) rfl rfl hl6872) hl6872.c (vr (eSi64 (rd r6389 x6580.toNat)) (nk ⟨[(1,ow 1),(3,.osl 3),(4,i6 x4645),(6,eSi64 (rd r6389 x6580.toNat)),(11,i6 (IntKind.i64.wrap (r3486 + 1))),(12,i6 x4645),(18,eSSi64 r6389),(19,i6 (r6389.length:Int)),(20,i6 x6580)],[(1,bk (eT_i64_Si64_Z a0)),(3,bk (.row 2 (x6581.map eT_Si64_Si64_Z)))]⟩ (sr (vb (.own 1 [0] [0]) rfl rfl ?_))))
      have hl6873:LdOk [0] (eT_i64_Si64_Z a0) [0] 1 false (i6 a0.1):=(.fld rfl rfl rfl rfl (.nil rfl rfl rfl))
      refine vq (i6 a0.1) (ld_own (i:=⟨.int .i64,1,8,(.int .i64 0)⟩) rfl rfl rfl hl6873) hl6873.c (vr (i6 x4645) ?_)
      obtain ⟨r6874,hr6875,h⟩:=bind_some h
      refine ca (impl_prime_norm_ok a0.1 x4645 1099511627776 r6874 hr6875) (vr (i6 0) (nk ⟨[(1,ow 1),(3,.osl 3),(4,i6 x4645),(6,eSi64 (rd r6389 x6580.toNat)),(11,i6 (IntKind.i64.wrap (r3486 + 1))),(12,i6 x4645),(18,eSSi64 r6389),(19,i6 (r6389.length:Int)),(20,i6 x6580),(27,i6 r6874),(28,i6 0)],[(1,bk (eT_i64_Si64_Z a0)),(3,bk (.row 2 (x6581.map eT_Si64_Si64_Z)))]⟩ (a_block ?_)))
      refine a_loop (emb:=fun (s:(Int×(List ((List Int)×(List Int)))))=>⟨[(1,ow 1),(3,.osl 3),(4,i6 x4645),(6,eSi64 (rd r6389 x6580.toNat)),(11,i6 (IntKind.i64.wrap (r3486 + 1))),(12,i6 x4645),(18,eSSi64 r6389),(19,i6 (r6389.length:Int)),(20,i6 x6580),(27,i6 r6874),(28,i6 s.1)],[(1,bk (eT_i64_Si64_Z a0)),(3,bk (.row 2 (s.2.map eT_Si64_Si64_Z)))]⟩) (body:=(fun s:(Int×(List ((List Int)×(List Int))))=>impl_curve_forms_l3 r6874 a0 r6389 x6580 s.1 s.2)) (G:=fun q=>some q=some y6868) h rfl ?_ (by kernel_rfl)
      rintro X6932 ⟨x6903,x6904⟩ x6933 h hX6934
      have h:impl_curve_forms_l3 r6874 a0 r6389 x6580 x6903 x6904=some x6933:=h
      refine ns ⟨[(1,ow 1),(3,.osl 3),(4,i6 x4645),(6,eSi64 (rd r6389 x6580.toNat)),(11,i6 (IntKind.i64.wrap (r3486 + 1))),(12,i6 x4645),(18,eSSi64 r6389),(19,i6 (r6389.length:Int)),(20,i6 x6580),(27,i6 r6874),(28,i6 x6903)],[(1,bk (eT_i64_Si64_Z a0)),(3,bk (.row 2 (x6904.map eT_Si64_Si64_Z)))]⟩ (sr (vr (.bool ((decide (x6903 < r6874)))) (nk ⟨[(1,ow 1),(3,.osl 3),(4,i6 x4645),(6,eSi64 (rd r6389 x6580.toNat)),(11,i6 (IntKind.i64.wrap (r3486 + 1))),(12,i6 x4645),(18,eSSi64 r6389),(19,i6 (r6389.length:Int)),(20,i6 x6580),(27,i6 r6874),(28,i6 x6903),(29,.bool ((decide (x6903 < r6874))))],[(1,bk (eT_i64_Si64_Z a0)),(3,bk (.row 2 (x6904.map eT_Si64_Si64_Z)))]⟩ (a_seq ?_))))
      cases hb6935:(decide (x6903 < r6874))
      ·have h:=ite_f hb6935 h
       refine a_cond_f rfl (a_exit (t_exit ?_))
       cases h
       have h:=hX6934
       refine t_exit (b_exit (b_norm ?_))
       exact jl x6904 h
      ·have h:=ite_t hb6935 h
       refine a_cond_t rfl (a_skip (nj ⟨[(1,ow 1),(3,.osl 3),(4,i6 x4645),(6,eSi64 (rd r6389 x6580.toNat)),(11,i6 (IntKind.i64.wrap (r3486 + 1))),(12,i6 x4645),(18,eSSi64 r6389),(19,i6 (r6389.length:Int)),(20,i6 x6580),(27,i6 r6874),(28,i6 x6903)],[(1,bk (eT_i64_Si64_Z a0)),(3,bk (.row 2 (x6904.map eT_Si64_Si64_Z)))]⟩ ?_))
       obtain ⟨y6948,hy6949,hk6950⟩:=bind_some h
       clear h
       refine a_join (emb:=fun (s:(List ((List Int)×(List Int))))=>⟨[(1,ow 1),(3,.osl 3),(4,i6 x4645),(6,eSi64 (rd r6389 x6580.toNat)),(11,i6 (IntKind.i64.wrap (r3486 + 1))),(12,i6 x4645),(18,eSSi64 r6389),(19,i6 (r6389.length:Int)),(20,i6 x6580),(27,i6 r6874),(28,i6 x6903)],[(1,bk (eT_i64_Si64_Z a0)),(3,bk (.row 2 (s.map eT_Si64_Si64_Z)))]⟩) (pre:=fun s=>s=y6948) ?_ ?_
       ·rintro x6947 rfl
        have h:=hk6950
        refine ns ⟨[(1,ow 1),(3,.osl 3),(4,i6 x4645),(6,eSi64 (rd r6389 x6580.toNat)),(11,i6 (IntKind.i64.wrap (r3486 + 1))),(12,i6 x4645),(18,eSSi64 r6389),(19,i6 (r6389.length:Int)),(20,i6 x6580),(27,i6 r6874),(28,i6 x6903)],[(1,bk (eT_i64_Si64_Z a0)),(3,bk (.row 2 (x6947.map eT_Si64_Si64_Z)))]⟩ (a_region (vr (i6 (IntKind.i64.wrap (x6903 + 1))) (vr (i6 (IntKind.i64.wrap (x6903 + 1))) (a_nil ?_))))
        cases h
        exact ag hX6934
       ·have h:=hy6949
        refine a_block (sr (vr (i6 x6903) (vr (i6 x6903) (nk ⟨[(1,ow 1),(3,.osl 3),(4,i6 x4645),(6,eSi64 (rd r6389 x6580.toNat)),(7,i6 x6903),(11,i6 (IntKind.i64.wrap (r3486 + 1))),(12,i6 x4645),(18,eSSi64 r6389),(19,i6 (r6389.length:Int)),(20,i6 x6580),(27,i6 r6874),(28,i6 x6903)],[(1,bk (eT_i64_Si64_Z a0)),(3,bk (.row 2 (x6904.map eT_Si64_Si64_Z)))]⟩ (sr (vr (eSi64 (rd r6389 x6580.toNat)) (vb (.own 1 [0] [0]) rfl rfl ?_)))))))
        have hl6951:LdOk [0] (eT_i64_Si64_Z a0) [0] 1 false (i6 a0.1):=(.fld rfl rfl rfl rfl (.nil rfl rfl rfl))
        refine vq (i6 a0.1) (ld_own (i:=⟨.int .i64,1,8,(.int .i64 0)⟩) rfl rfl rfl hl6951) hl6951.c (vr (i6 x6903) ?_)
        obtain ⟨r6952,hr6953,h⟩:=bind_some h
        refine ca (impl_prime_numbered_ok a0.1 x6903 r6952 hr6953) (vq (eT_Si64_Si64_Z (((rd r6389 x6580.toNat),r6952))) rfl ⟨rfl,(all_cons ⟨(Nat.le_of_ble_eq_true rfl),rfl⟩ (all_cons ⟨(Nat.le_of_ble_eq_true rfl),rfl⟩ all_nil))⟩ (vo 1800 (eT_Si64_Si64_Z ([],[])) rfl rfl (vs (eT_Si64_Si64_Z (((rd r6389 x6580.toNat),r6952))) rfl rfl (fun _=>rfl) rfl rfl rfl rfl rfl rfl (nk ⟨[(1,ow 1),(3,.osl 3),(4,i6 x4645),(6,eSi64 (rd r6389 x6580.toNat)),(8,ow 8),(11,i6 (IntKind.i64.wrap (r3486 + 1))),(12,i6 x4645),(18,eSSi64 r6389),(19,i6 (r6389.length:Int)),(20,i6 x6580),(27,i6 r6874),(28,i6 x6903)],[(1,bk (eT_i64_Si64_Z a0)),(3,bk (.row 2 (x6904.map eT_Si64_Si64_Z))),(8,bk (eT_Si64_Si64_Z (((rd r6389 x6580.toNat),r6952))))]⟩ (sr (vl (eT_i64_Si64_Z a0) rfl rfl rfl rfl rfl rfl (vl (eT_Si64_Si64_Z (((rd r6389 x6580.toNat),r6952))) rfl rfl rfl rfl rfl rfl ?_)))))))
        obtain ⟨r6957,hr6958,h⟩:=bind_some h
        refine ca (impl_curve_isForm_ok a0 (((rd r6389 x6580.toNat),r6952)) r6957 hr6958) (nk ⟨[(1,ow 1),(3,.osl 3),(4,i6 x4645),(6,eSi64 (rd r6389 x6580.toNat)),(8,ow 8),(11,i6 (IntKind.i64.wrap (r3486 + 1))),(12,i6 x4645),(18,eSSi64 r6389),(19,i6 (r6389.length:Int)),(20,i6 x6580),(27,i6 r6874),(28,i6 x6903),(39,.bool r6957)],[(1,bk (eT_i64_Si64_Z a0)),(3,bk (.row 2 (x6904.map eT_Si64_Si64_Z))),(8,bk (eT_Si64_Si64_Z (((rd r6389 x6580.toNat),r6952))))]⟩ ?_)
        cases hb6959:r6957
        ·have h:=ite_f hb6959 h
         refine a_cond_f rfl (a_skip (b_norm ?_))
         exact jl x6904 h
        ·have h:=ite_t hb6959 h
         refine a_cond_t rfl (a_region (vr (.osl 3) (vl (eT_Si64_Si64_Z (((rd r6389 x6580.toNat),r6952))) rfl rfl rfl rfl rfl rfl (vq (.sl 2 true (([((rd r6389 x6580.toNat),r6952)]).map eT_Si64_Si64_Z)) rfl ⟨(Nat.le_of_ble_eq_true rfl),(Nat.le_of_ble_eq_true rfl),(all_cons ⟨(Nat.le_of_ble_eq_true rfl),rfl⟩ all_nil)⟩ ?_))))
         obtain ⟨hc6961,h⟩:=ifp_some h
         refine vu (.osl 5300) [(5300,bk (.row 2 (((x6904 ++ ([((rd r6389 x6580.toNat),r6952)]))).map eT_Si64_Si64_Z))),(3,none)] (app_run (i:=⟨.struct [(0,42),(1,42)],2,48,(eT_Si64_Si64_Z ([],[]))⟩) (f:=eT_Si64_Si64_Z) (l:=x6904) (l2:=[((rd r6389 x6580.toNat),r6952)]) rfl rfl rfl rfl (fun _=>rfl) rfl rfl) (app_c (f:=eT_Si64_Si64_Z) (s:=2) (sz:=2) (by':=48) (u:=[]) (id:=3) hc6961 (.inr rfl) rfl rfl rfl) rfl (vr (.osl 5300) (a_nil (b_norm ?_)))
         exact jl ((x6904 ++ ([((rd r6389 x6580.toNat),r6952)]))) h
end Go.Proofs.Ytebfhlnfmkhmcaa
