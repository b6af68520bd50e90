/- Functions of the program: plain Lean functions, and that the program computes them. Printed by gen.py. -/
import Derived.Test.YtkbnegemdlnncaaGreatFnT
import Derived.Test.YtkbnegemdlnncaaGreatFn1
import Derived.Test.YtkbnegemdlnncaaGreatFn2
import Derived.Test.YtkbnegemdlnncaaGreatFn3
namespace Go.Proofs.YtkbnegemdlnncaaGreat
open Go.Abs Go.Proofs
set_option linter.unusedSimpArgs false
set_option linter.unusedVariables false
set_option maxHeartbeats 16000000
attribute [local irreducible] Abs.acode Abs.aops Abs.aopsT Abs.thenK Abs.blockK

def impl_told_L:Live:=[(0,[0]),(1,[0,2]),(2,[2]),(3,[0,2]),(100006,[0,2,6])]
noncomputable def impl_told (a0:(List Int)):Option ((Vec Int 64)×Int) :=
 (Option.bind (impl_row_fits a0) fun r1=>(if (!r1) then (some (((vrep 64 (0:Int)),3))) else (Option.bind (impl_row_poly a0) fun r4=>(some (r4,0)))))
theorem impl_told_ok (a0:(List Int)) (r:((Vec Int 64)×Int)) (h:impl_told a0=some r):Den Tryz.prog 56 [(eSi64 a0)] { r:=(.tuple [(eVb r.1),(i6 r.2)]) }:=by
 refine dd (rs:=[(eVb r.1),(i6 r.2)]) (L:=impl_told_L) good [] Tryz.func56 Tryz.ntmps56 ?_
 refine ns ⟨[(0,eSi64 a0)],[]⟩ ?_
 refine sr (vo 1200 (eV0) rfl rfl (vr (i6 0) (nk ⟨[(0,eSi64 a0),(2,ow 2)],[(2,bk (eV0))]⟩ (a_seq (sr (vr (eSi64 a0) ?_))))))
 obtain ⟨r1,hr2,h⟩:=bind_some h
 refine ca (impl_row_fits_ok a0 r1 hr2) (vr (.bool (!r1)) (nk ⟨[(0,eSi64 a0),(2,ow 2),(6,.bool (!r1))],[(2,bk (eV0))]⟩ ?_))
 cases hb3:(!r1)
 ·have h:=ite_f hb3 h
  refine a_cond_f rfl (a_skip (nj ⟨[(0,eSi64 a0),(2,ow 2)],[(2,bk (eV0))]⟩ (sr (vr (eSi64 a0) ?_))))
  obtain ⟨r4,hr5,h⟩:=bind_some h
  refine ca (impl_row_poly_ok a0 r4 hr5) (vs (eVb r4) rfl rfl (fun _=>rfl) rfl rfl rfl rfl rfl rfl (vr (i6 0) (nx _ rfl (a_ret ?_))))
  have hl7:LdOk [] (eVb r4) [] 64 true (eVb r4):=(.nil rfl rfl rfl)
  refine ⟨.inr rfl,?_⟩
  rw [Tryz.results56]
  cases h
  exact ⟨_,_,_,_,_,ld_own (i:=⟨.arr 64 5,64,64,(eVb (vrep 64 (0:Int)))⟩) rfl rfl rfl hl7,hl7.c,.inl ⟨rfl,.inl rfl⟩,rfl,⟨_,_,_,_,_,rfl,trivial,.inl ⟨rfl,.inl rfl⟩,rfl,rfl⟩⟩
 ·have h:=ite_t hb3 h
  refine a_cond_t rfl (sr (vq (eV0) rfl ⟨⟨_,rfl,rfl⟩,all_nil⟩ (vs (eV0) rfl rfl (fun _=>rfl) rfl rfl rfl rfl rfl rfl (vr (i6 3) (nx _ rfl (a_ret (t_ret ?_)))))))
  have hl9:LdOk [] (eV0) [] 64 true (eV0):=(.nil rfl rfl rfl)
  refine ⟨.inr rfl,?_⟩
  rw [Tryz.results56]
  cases h
  exact ⟨_,_,_,_,_,ld_own (i:=⟨.arr 64 5,64,64,(eVb (vrep 64 (0:Int)))⟩) rfl rfl rfl hl9,hl9.c,.inl ⟨rfl,.inl rfl⟩,rfl,⟨_,_,_,_,_,rfl,trivial,.inl ⟨rfl,.inl rfl⟩,rfl,rfl⟩⟩
def impl_RootPart_L:Live:=[(0,[0,1]),(1,[0,3,4]),(2,[0,3,4,6]),(3,[4,6]),(4,[0,3,4]),(100011,[0,3,4,6,11])]
noncomputable def impl_RootPart (a0:Int) (a1:(Vec Int 64)):Option ((Vec Int 64)×Int) :=
 (Option.bind (impl_squareCode a0 a1 true) fun r2=>(if (r2 != 0) then (some (((vrep 64 (0:Int)),r2))) else (Option.bind (impl_rowOf a1) fun r6=>(Option.bind (impl_prime_root a0 r6) fun r8=>(Option.bind (impl_told r8) fun r10=>(some (r10.1,r10.2)))))))
theorem impl_RootPart_ok (a0:Int) (a1:(Vec Int 64)) (r:((Vec Int 64)×Int)) (h:impl_RootPart a0 a1=some r):Den Tryz.prog 9 [(i6 a0),(eVb a1)] { r:=(.tuple [(eVb r.1),(i6 r.2)]) }:=by
 refine dd (rs:=[(eVb r.1),(i6 r.2)]) (L:=impl_RootPart_L) good [] Tryz.func9 Tryz.ntmps9 ?_
 refine ns ⟨[(0,i6 a0),(1,eVb a1)],[]⟩ ?_
 refine sr (vo 1300 (eVb a1) rfl rfl (vo 1400 (eV0) rfl rfl (vr (i6 0) (nk ⟨[(0,i6 a0),(3,ow 3),(4,ow 4)],[(3,bk (eVb a1)),(4,bk (eV0))]⟩ (a_seq (sr (vr (i6 a0) (vl (eVb a1) rfl rfl rfl rfl rfl rfl ?_))))))))
 obtain ⟨r2,hr3,h⟩:=bind_some h
 refine ca (impl_squareCode_ok a0 a1 true r2 hr3) (vr (i6 r2) (nk ⟨[(0,i6 a0),(3,ow 3),(4,ow 4),(6,i6 r2)],[(3,bk (eVb a1)),(4,bk (eV0))]⟩ (sr (vr (i6 r2) (vr (.bool (r2 != 0)) (nk ⟨[(0,i6 a0),(3,ow 3),(4,ow 4),(6,i6 r2),(11,.bool (r2 != 0))],[(3,bk (eVb a1)),(4,bk (eV0))]⟩ ?_))))))
 cases hb4:(r2 != 0)
 ·have h:=ite_f hb4 h
  refine a_cond_f rfl (a_skip (nj ⟨[(0,i6 a0),(3,ow 3),(4,ow 4)],[(3,bk (eVb a1)),(4,bk (eV0))]⟩ (sr (vr (i6 a0) (vl (eVb a1) rfl rfl rfl rfl rfl rfl ?_)))))
  obtain ⟨r6,hr7,h⟩:=bind_some h
  refine ca (impl_rowOf_ok a1 r6 hr7) ?_
  obtain ⟨r8,hr9,h⟩:=bind_some h
  refine ca (impl_prime_root_ok a0 r6 r8 hr9) ?_
  obtain ⟨r10,hr11,h⟩:=bind_some h
  refine ca (impl_told_ok r8 r10 hr11) (vb (eVb r10.1) rfl rfl (vb (i6 r10.2) rfl rfl (vs (eVb r10.1) rfl rfl (fun _=>rfl) rfl rfl rfl rfl rfl rfl (vr (i6 r10.2) (nx _ rfl (a_ret ?_))))))
  have hl13:LdOk [] (eVb r10.1) [] 64 true (eVb r10.1):=(.nil rfl rfl rfl)
  refine ⟨.inr rfl,?_⟩
  rw [Tryz.results9]
  cases h
  exact ⟨_,_,_,_,_,ld_own (i:=⟨.arr 64 5,64,64,(eVb (vrep 64 (0:Int)))⟩) rfl rfl rfl hl13,hl13.c,.inl ⟨rfl,.inl rfl⟩,rfl,⟨_,_,_,_,_,rfl,trivial,.inl ⟨rfl,.inl rfl⟩,rfl,rfl⟩⟩
 ·have h:=ite_t hb4 h
  refine a_cond_t rfl (sr (vq (eV0) rfl ⟨⟨_,rfl,rfl⟩,all_nil⟩ (vr (i6 r2) (vs (eV0) rfl rfl (fun _=>rfl) rfl rfl rfl rfl rfl rfl (vr (i6 r2) (nx _ rfl (a_ret (t_ret ?_))))))))
  have hl15:LdOk [] (eV0) [] 64 true (eV0):=(.nil rfl rfl rfl)
  refine ⟨.inr rfl,?_⟩
  rw [Tryz.results9]
  cases h
  exact ⟨_,_,_,_,_,ld_own (i:=⟨.arr 64 5,64,64,(eVb (vrep 64 (0:Int)))⟩) rfl rfl rfl hl15,hl15.c,.inl ⟨rfl,.inl rfl⟩,rfl,⟨_,_,_,_,_,rfl,trivial,.inl ⟨rfl,.inl rfl⟩,rfl,rfl⟩⟩
def spec_RootPart_L:Live:=[(0,[0,1]),(1,[0,3,4]),(2,[0,3,4,6]),(3,[4,6]),(4,[0,3,4]),(100011,[0,3,4,6,11])]
noncomputable def spec_RootPart (a0:Int) (a1:(Vec Int 64)):Option ((Vec Int 64)×Int) :=
 (Option.bind (spec_l10Case a0 a1) fun r2=>(if (r2 != 0) then (some (((vrep 64 (0:Int)),r2))) else (Option.bind (spec_l10Part a0 a1) fun r6=>(some (r6,0)))))
theorem spec_RootPart_ok (a0:Int) (a1:(Vec Int 64)) (r:((Vec Int 64)×Int)) (h:spec_RootPart a0 a1=some r):Den Tryz.prog 10 [(i6 a0),(eVb a1)] { r:=(.tuple [(eVb r.1),(i6 r.2)]) }:=by
 refine dd (rs:=[(eVb r.1),(i6 r.2)]) (L:=spec_RootPart_L) good [] Tryz.func10 Tryz.ntmps10 ?_
 refine ns ⟨[(0,i6 a0),(1,eVb a1)],[]⟩ ?_
 refine sr (vo 1300 (eVb a1) rfl rfl (vo 1400 (eV0) rfl rfl (vr (i6 0) (nk ⟨[(0,i6 a0),(3,ow 3),(4,ow 4)],[(3,bk (eVb a1)),(4,bk (eV0))]⟩ (a_seq (sr (vr (i6 a0) (vl (eVb a1) rfl rfl rfl rfl rfl rfl ?_))))))))
 obtain ⟨r2,hr3,h⟩:=bind_some h
 refine ca (spec_l10Case_ok a0 a1 r2 hr3) (vr (i6 r2) (nk ⟨[(0,i6 a0),(3,ow 3),(4,ow 4),(6,i6 r2)],[(3,bk (eVb a1)),(4,bk (eV0))]⟩ (sr (vr (i6 r2) (vr (.bool (r2 != 0)) (nk ⟨[(0,i6 a0),(3,ow 3),(4,ow 4),(6,i6 r2),(11,.bool (r2 != 0))],[(3,bk (eVb a1)),(4,bk (eV0))]⟩ ?_))))))
 cases hb4:(r2 != 0)
 ·have h:=ite_f hb4 h
  refine a_cond_f rfl (a_skip (nj ⟨[(0,i6 a0),(3,ow 3),(4,ow 4)],[(3,bk (eVb a1)),(4,bk (eV0))]⟩ (sr (vr (i6 a0) (vl (eVb a1) rfl rfl rfl rfl rfl rfl ?_)))))
  obtain ⟨r6,hr7,h⟩:=bind_some h
  refine ca (spec_l10Part_ok a0 a1 r6 hr7) (vs (eVb r6) rfl rfl (fun _=>rfl) rfl rfl rfl rfl rfl rfl (vr (i6 0) (nx _ rfl (a_ret ?_))))
  have hl9:LdOk [] (eVb r6) [] 64 true (eVb r6):=(.nil rfl rfl rfl)
  refine ⟨.inr rfl,?_⟩
  rw [Tryz.results10]
  cases h
  exact ⟨_,_,_,_,_,ld_own (i:=⟨.arr 64 5,64,64,(eVb (vrep 64 (0:Int)))⟩) rfl rfl rfl hl9,hl9.c,.inl ⟨rfl,.inl rfl⟩,rfl,⟨_,_,_,_,_,rfl,trivial,.inl ⟨rfl,.inl rfl⟩,rfl,rfl⟩⟩
 ·have h:=ite_t hb4 h
  refine a_cond_t rfl (sr (vq (eV0) rfl ⟨⟨_,rfl,rfl⟩,all_nil⟩ (vr (i6 r2) (vs (eV0) rfl rfl (fun _=>rfl) rfl rfl rfl rfl rfl rfl (vr (i6 r2) (nx _ rfl (a_ret (t_ret ?_))))))))
  have hl11:LdOk [] (eV0) [] 64 true (eV0):=(.nil rfl rfl rfl)
  refine ⟨.inr rfl,?_⟩
  rw [Tryz.results10]
  cases h
  exact ⟨_,_,_,_,_,ld_own (i:=⟨.arr 64 5,64,64,(eVb (vrep 64 (0:Int)))⟩) rfl rfl rfl hl11,hl11.c,.inl ⟨rfl,.inl rfl⟩,rfl,⟨_,_,_,_,_,rfl,trivial,.inl ⟨rfl,.inl rfl⟩,rfl,rfl⟩⟩
noncomputable def spec_l01Near_of_src_c:ACode:=strip [(6,1),(12,1),(16,1)] (Tryz.f59.body.getD .skip)
def spec_l01Near_of_src_L:Live:=[(0,[0,1]),(1,[0,1]),(2,[0,1]),(3,[0,1]),(100007,[0,1,7])]
noncomputable def spec_l01Near_of_src (a0:((List Int)×Int×Int)) (a1:Int):Option (Int×((List Int)×Int×Int)) :=
 (Option.bind (spec_l01Next_of_src a0 14) fun r1=>(if (r1.1 == 0) then (Option.bind (spec_l01Pick_of_src r1.2 ([-1,IntKind.i64.wrap (a1 + 1),1099511627776,-4611686018427387904])) fun r8=>(some (r8.1,r8.2))) else (Option.bind (spec_l01Next_of_src r1.2 (IntKind.i64.wrap (a1 + 1))) fun r5=>(some (r5.1,r5.2)))))
theorem spec_l01Near_of_src_ok (a0:((List Int)×Int×Int)) (a1:Int) (r:(Int×((List Int)×Int×Int))) (h:spec_l01Near_of_src a0 a1=some r):Den Tryz.prog 59 [(.mutp (eT_Su8_i64_u64_Z a0)),(i6 a1)] { r:=(i6 r.1),ms:=[(eT_Su8_i64_u64_Z r.2)],fs:=[] }:=by
 refine den_ofX (rs:=[(i6 r.1)]) (ac:=spec_l01Near_of_src_c) (L:=spec_l01Near_of_src_L) (n:=17) (m:=[(6,1),(12,1),(16,1)]) (c:=Tryz.f59.body.getD .skip) good Tryz.func59 (by kernel_rfl) (by kernel_rfl) Tryz.ntmps59 rfl rfl (by kernel_rfl) rfl ?_
 refine ns ⟨[(0,ow 1000000),(1,i6 a1)],[(1000000,bk (eT_Su8_i64_u64_Z a0))]⟩ ?_
 unfold spec_l01Near_of_src_c
 refine sr (vr (i6 0) (nk ⟨[(0,ow 1000000),(1,i6 a1)],[(1000000,bk (eT_Su8_i64_u64_Z a0))]⟩ (a_seq (sr (vr (ow 1000000) ?_)))))
 obtain ⟨r1,hr2,h⟩:=bind_some h
 refine a_callM (args:=[(.mutp (eT_Su8_i64_u64_Z a0)),(i6 14)]) (i:=0) (id:=1000000) (r:=(i6 r1.1)) (c:=(eT_Su8_i64_u64_Z r1.2)) rfl rfl (spec_l01Next_of_src_ok a0 14 r1 hr2) rfl trivial (vr (.bool (r1.1 == 0)) (nk ⟨[(0,ow 1000000),(1,i6 a1),(7,.bool (r1.1 == 0))],[(1000000,bk (eT_Su8_i64_u64_Z r1.2))]⟩ ?_))
 cases hb4:(r1.1 == 0)
 ·have h:=ite_f hb4 h
  refine a_cond_f rfl (a_skip (nj ⟨[(0,ow 1000000),(1,i6 a1)],[(1000000,bk (eT_Su8_i64_u64_Z r1.2))]⟩ (sr (vr (ow 1000000) (vr (i6 a1) (vr (i6 (IntKind.i64.wrap (a1 + 1))) ?_))))))
  obtain ⟨r5,hr6,h⟩:=bind_some h
  refine a_callM (args:=[(.mutp (eT_Su8_i64_u64_Z r1.2)),(i6 (IntKind.i64.wrap (a1 + 1)))]) (i:=0) (id:=1000000) (r:=(i6 r5.1)) (c:=(eT_Su8_i64_u64_Z r5.2)) rfl rfl (spec_l01Next_of_src_ok r1.2 (IntKind.i64.wrap (a1 + 1)) r5 hr6) rfl trivial (vr (i6 r5.1) (nx _ rfl (a_ret ?_)))
  refine ⟨.inr rfl,?_⟩
  rw [Tryz.results59]
  cases h
  exact ⟨[],⟨_,_,_,_,_,rfl,trivial,rfl,.inl ⟨rfl,.inl rfl,⟨rfl,rfl,rfl⟩⟩⟩,rfl,⟨_,_,rfl,rfl,rfl⟩⟩
 ·have h:=ite_t hb4 h
  refine a_cond_t rfl (sr (vr (ow 1000000) (vr (i6 a1) (vr (i6 (IntKind.i64.wrap (a1 + 1))) (vq (.sl 1 true (([-1,IntKind.i64.wrap (a1 + 1),1099511627776,-4611686018427387904]).map (AV.int .i64))) rfl ⟨(Nat.le_of_ble_eq_true rfl),(Nat.le_of_ble_eq_true rfl),(all_cons ⟨(Nat.le_of_ble_eq_true rfl),rfl⟩ (all_cons ⟨(Nat.le_of_ble_eq_true rfl),rfl⟩ (all_cons ⟨(Nat.le_of_ble_eq_true rfl),rfl⟩ (all_cons ⟨(Nat.le_of_ble_eq_true rfl),rfl⟩ all_nil))))⟩ ?_)))))
  obtain ⟨r8,hr9,h⟩:=bind_some h
  refine a_callM (args:=[(.mutp (eT_Su8_i64_u64_Z r1.2)),(.sl 1 true (([-1,IntKind.i64.wrap (a1 + 1),1099511627776,-4611686018427387904]).map (AV.int .i64)))]) (i:=0) (id:=1000000) (r:=(i6 r8.1)) (c:=(eT_Su8_i64_u64_Z r8.2)) rfl rfl (Den.argsM (spec_l01Pick_of_src_ok r1.2 ([-1,IntKind.i64.wrap (a1 + 1),1099511627776,-4611686018427387904]) r8 hr9) rfl rfl (.cons (.loose _) .nil)) rfl trivial (vr (i6 r8.1) (nx _ rfl (a_ret (t_ret ?_))))
  refine ⟨.inr rfl,?_⟩
  rw [Tryz.results59]
  cases h
  exact ⟨[],⟨_,_,_,_,_,rfl,trivial,rfl,.inl ⟨rfl,.inl rfl,⟨rfl,rfl,rfl⟩⟩⟩,rfl,⟨_,_,rfl,rfl,rfl⟩⟩
def spec_DrawDigitsOfRoot_L:Live:=[(0,[0]),(1,[0,3]),(2,[3,5]),(3,[3,5,6,7])]
noncomputable def spec_DrawDigitsOfRoot (a0:(List Int)):Option (Int×(Vec Int 64)×Int) :=
 (Option.bind (spec_l01From a0) fun r1=>(Option.bind (spec_l10Square_of_src r1) fun r3=>(Option.bind (spec_l01Near_of_src r3.2.2 40) fun r13=>(some (r3.1,r3.2.1,r13.1)))))
theorem spec_DrawDigitsOfRoot_ok (a0:(List Int)) (r:(Int×(Vec Int 64)×Int)) (h:spec_DrawDigitsOfRoot a0=some r):Den Tryz.prog 11 [(eSu8 a0)] { r:=(.tuple [(i6 r.1),(eVb r.2.1),(i6 r.2.2)]) }:=by
 refine dd (rs:=[(i6 r.1),(eVb r.2.1),(i6 r.2.2)]) (L:=spec_DrawDigitsOfRoot_L) good [(12,1),(18,1)] Tryz.func11 Tryz.ntmps11 ?_
 refine ns ⟨[(0,eSu8 a0)],[]⟩ ?_
 refine sr (vr (i6 0) (vo 1300 (eV0) rfl rfl (vr (i6 0) (nk ⟨[(0,eSu8 a0),(3,ow 3)],[(3,bk (eV0))]⟩ (sr (vr (eSu8 a0) ?_))))))
 obtain ⟨r1,hr2,h⟩:=bind_some h
 refine a_callF (args:=[(eSu8 a0)]) (u:=[]) (u2:=[]) (r:=(ow 2000000)) (fs:=[(0,[eT_Su8_i64_u64_Z r1])]) rfl rfl (spec_l01From_ok a0 r1 hr2) rfl rfl rfl (.inl rfl) rfl (vr (ow 1900) (nk ⟨[(3,ow 3),(5,ow 5)],[(3,bk (eV0)),(5,bk (eT_Su8_i64_u64_Z r1))]⟩ (sr (vr (ow 5) ?_))))
 obtain ⟨r3,hr4,h⟩:=bind_some h
 refine a_callM (args:=[(.mutp (eT_Su8_i64_u64_Z r1))]) (i:=0) (id:=5) (r:=(.tuple [(i6 r3.1),(eVb r3.2.1)])) (c:=(eT_Su8_i64_u64_Z r3.2.2)) rfl rfl (spec_l10Square_of_src_ok r1 r3 hr4) rfl trivial (vr (.tuple [(i6 r3.1),(eVb r3.2.1)]) (vb (i6 r3.1) rfl rfl (vb (eVb r3.2.1) rfl rfl (vo 1700 (eV0) rfl rfl (vr (i6 r3.1) (vs (eVb r3.2.1) rfl rfl (fun _=>rfl) rfl rfl rfl rfl rfl rfl (nk ⟨[(3,ow 3),(5,ow 5),(6,i6 r3.1),(7,ow 7)],[(3,bk (eV0)),(5,bk (eT_Su8_i64_u64_Z r3.2.2)),(7,bk (eVb r3.2.1))]⟩ (a_seq (a_draw [⟨[],[],[],[]⟩,⟨[7],[],[],[]⟩,⟨[],[],[5],[]⟩,⟨[5],[5],[],[2]⟩,⟨[],[],[],[0,2,3]⟩,⟨[3],[3],[],[0,1,2,3,4]⟩,⟨[],[],[],[0,1,2,3,4,5]⟩] (by kernel_rfl) ?_)))))))))
 refine dj (i6 r3.1) rfl (d_cons (vl (eVb r3.2.1) rfl rfl rfl rfl rfl rfl (dn (dj (ow 5) rfl (d_cons ?_)))))
 obtain ⟨r13,hr14,h⟩:=bind_some h
 refine a_callM (args:=[(.mutp (eT_Su8_i64_u64_Z r3.2.2)),(i6 40)]) (i:=0) (id:=5) (r:=(i6 r13.1)) (c:=(eT_Su8_i64_u64_Z r13.2)) rfl rfl (spec_l01Near_of_src_ok r3.2.2 40 r13 hr14) rfl trivial (dn (dj (i6 r3.1) rfl (d_cons (vs (eVb r3.2.1) rfl rfl (fun _=>rfl) rfl rfl rfl rfl rfl rfl (dn (dj (i6 r13.1) rfl (d_nil (a_next rfl (a_ret ?_)))))))))
 have hl17:LdOk [] (eVb r3.2.1) [] 64 true (eVb r3.2.1):=(.nil rfl rfl rfl)
 refine ⟨.inr rfl,?_⟩
 rw [Tryz.results11]
 cases h
 exact ⟨_,_,_,_,_,rfl,trivial,.inl ⟨rfl,.inl rfl⟩,rfl,⟨_,_,_,_,_,ld_own (i:=⟨.arr 64 5,64,64,(eVb (vrep 64 (0:Int)))⟩) rfl rfl rfl hl17,hl17.c,.inl ⟨rfl,.inl rfl⟩,rfl,⟨_,_,_,_,_,rfl,trivial,.inl ⟨rfl,.inl rfl⟩,rfl,rfl⟩⟩⟩
def impl_within_L:Live:=[(0,[0,1,2]),(1,[0,1,2])]
noncomputable def impl_within (a0:Int) (a1:Int) (a2:Int):Option Bool :=
 (if (decide (a1≤a0)) then (some ((decide (a0≤a2)))) else (some false))
theorem impl_within_ok (a0:Int) (a1:Int) (a2:Int) (r:Bool) (h:impl_within a0 a1 a2=some r):Den Tryz.prog 67 [(i6 a0),(i6 a1),(i6 a2)] { r:=(.bool r) }:=by
 refine dd (rs:=[(.bool r)]) (L:=impl_within_L) good [] Tryz.func67 Tryz.ntmps67 ?_
 refine ns ⟨[(0,i6 a0),(1,i6 a1),(2,i6 a2)],[]⟩ ?_
 refine sr (vr (.bool false) (nk ⟨[(0,i6 a0),(1,i6 a1),(2,i6 a2)],[]⟩ (sr (vr (i6 a1) (vr (i6 a0) (vr (.bool ((decide (a1≤a0)))) (vr (.bool ((decide (a1≤a0)))) ?_)))))))
 cases hb1:(decide (a1≤a0))
 ·have h:=ite_f hb1 h
  refine a_gskip rfl (a_gskip rfl (a_gskip rfl (vr (.bool false) (vr (.bool false) (nx _ rfl (a_ret ?_))))))
  refine ⟨.inr rfl,?_⟩
  rw [Tryz.results67]
  cases h
  exact ⟨_,_,_,_,_,rfl,trivial,.inl ⟨rfl,.inl rfl⟩,rfl,rfl⟩
 ·have h:=ite_t hb1 h
  refine gp (i6 a0) rfl rfl (gp (i6 a2) rfl rfl (gp (.bool ((decide (a0≤a2)))) rfl rfl (vr (.bool ((decide (a0≤a2)))) (vr (.bool ((decide (a0≤a2)))) (nx _ rfl (a_ret ?_))))))
  refine ⟨.inr rfl,?_⟩
  rw [Tryz.results67]
  cases h
  exact ⟨_,_,_,_,_,rfl,trivial,.inl ⟨rfl,.inl rfl⟩,rfl,rfl⟩
def impl_isDigits_L:Live:=[(0,[0]),(1,[0])]
noncomputable def impl_isDigits (a0:Int):Option Bool :=
 (Option.bind (impl_within a0 0 40) fun r1=>(some r1))
theorem impl_isDigits_ok (a0:Int) (r:Bool) (h:impl_isDigits a0=some r):Den Tryz.prog 60 [(i6 a0)] { r:=(.bool r) }:=by
 refine dd (rs:=[(.bool r)]) (L:=impl_isDigits_L) good [] Tryz.func60 Tryz.ntmps60 ?_
 refine ns ⟨[(0,i6 a0)],[]⟩ ?_
 refine sr (vr (.bool false) (nk ⟨[(0,i6 a0)],[]⟩ (sr (vr (i6 a0) ?_))))
 obtain ⟨r1,hr2,h⟩:=bind_some h
 refine ca (impl_within_ok a0 0 40 r1 hr2) (vr (.bool r1) (nx _ rfl (a_ret ?_)))
 refine ⟨.inr rfl,?_⟩
 rw [Tryz.results60]
 cases h
 exact ⟨_,_,_,_,_,rfl,trivial,.inl ⟨rfl,.inl rfl⟩,rfl,rfl⟩
def impl_DigitsOfRoot_L:Live:=[(0,[0,1,2]),(1,[0,2,4]),(2,[0,2,4,8]),(3,[8]),(4,[0,2,4]),(5,[2,9]),(6,[2,9,10]),(7,[9,10,11]),(8,[9,10,11]),(9,[9,10,11]),(10,[10]),(100018,[0,2,4,8,18]),(100031,[9,10,11,31])]
noncomputable def impl_DigitsOfRoot_l1 (r24:(List Int)) (x52:Int) (x53:(List Int)):Option ((Int×(List Int))⊕(List Int)) :=
 (if (decide (x52 ≥ 0)) then (ifp (0≤x52∧x52 < ((r24.length:Nat):Int)) ((ifp ((x53.length + ([(rd r24 x52.toNat)]:List Int).length)*8≤140737488355328) ((some (.inl ((IntKind.i64.wrap (x52 - 1),(x53 ++ ([(rd r24 x52.toNat)])))))))))) else (some (.inr x53)))
noncomputable def impl_DigitsOfRoot (a0:Int) (a1:(Vec Int 64)) (a2:Int):Option ((List Int)×Int) :=
 (Option.bind (impl_isDigits a2) fun r7=>(Option.bind (impl_squareCode a0 a1 r7) fun r9=>(if (r9 != 0) then (some ([],r9)) else (ifp (0≤IntKind.i64.wrap (2*a2)∧IntKind.i64.wrap (2*a2)≤140737488355328∧8*IntKind.i64.wrap (2*a2)≤140737488355328) ((Option.bind (impl_rowOf a1) fun r21=>(ifp (((List.replicate (IntKind.i64.wrap (2*a2)).toNat (0:Int)).length + r21.length)*8≤140737488355328) ((Option.bind (impl_prime_root a0 (((List.replicate (IntKind.i64.wrap (2*a2)).toNat (0:Int)) ++ r21))) fun r24=>(Option.bind (α:=(List Int)) ((loopM (fun s:(Int×(List Int))=>impl_DigitsOfRoot_l1 r24 s.1 s.2) (IntKind.i64.wrap (a2 - 1),[]))) fun x44=>(some (x44,0))))))))))))
theorem impl_DigitsOfRoot_ok (a0:Int) (a1:(Vec Int 64)) (a2:Int) (r:((List Int)×Int)) (h:impl_DigitsOfRoot a0 a1 a2=some r):Den Tryz.prog 12 [(i6 a0),(eVb a1),(i6 a2)] { r:=(.tuple [(eSi64 r.1),(i6 r.2)]) }:=by
 refine dd (rs:=[(eSi64 r.1),(i6 r.2)]) (L:=impl_DigitsOfRoot_L) good [(6,1),(9,1),(10,2)] Tryz.func12 Tryz.ntmps12 ?_
 refine ns ⟨[(0,i6 a0),(1,eVb a1),(2,i6 a2)],[]⟩ ?_
 refine sr (vo 1400 (eVb a1) rfl rfl (vr (eSi64 ([])) (vr (i6 0) (nk ⟨[(0,i6 a0),(2,i6 a2),(4,ow 4)],[(4,bk (eVb a1))]⟩ (a_seq (a_seq (a_draw [⟨[],[],[],[]⟩,⟨[4],[],[],[]⟩,⟨[],[],[],[]⟩,⟨[],[],[],[2]⟩,⟨[],[],[],[0,1,2,3]⟩,⟨[],[],[],[0,1,2,3,4]⟩] (by kernel_rfl) (dj (i6 a0) rfl (d_cons ?_)))))))))
 refine vl (eVb a1) rfl rfl rfl rfl rfl rfl (dn (dj (i6 a2) rfl (d_cons ?_)))
 obtain ⟨r7,hr8,h⟩:=bind_some h
 refine ca (impl_isDigits_ok a2 r7 hr8) (dn (d_cons ?_))
 obtain ⟨r9,hr10,h⟩:=bind_some h
 refine ca (impl_squareCode_ok a0 a1 r7 r9 hr10) (dn (dj (i6 r9) rfl (d_nil (nj ⟨[(0,i6 a0),(2,i6 a2),(4,ow 4),(8,i6 r9)],[(4,bk (eVb a1))]⟩ (sr (vr (i6 r9) (vr (.bool (r9 != 0)) (nk ⟨[(0,i6 a0),(2,i6 a2),(4,ow 4),(8,i6 r9),(18,.bool (r9 != 0))],[(4,bk (eVb a1))]⟩ ?_))))))))
 cases hb11:(r9 != 0)
 ·have h:=ite_f hb11 h
  refine a_cond_f rfl (a_skip (nj ⟨[(0,i6 a0),(2,i6 a2),(4,ow 4)],[(4,bk (eVb a1))]⟩ (a_seq (a_draw [⟨[],[],[],[]⟩,⟨[],[],[],[]⟩,⟨[],[],[],[1]⟩,⟨[3300],[3300],[3300],[1,2]⟩,⟨[4],[],[],[]⟩,⟨[],[],[],[4]⟩,⟨[3300,3600],[3300,3600],[3600],[1,2,3,4,5]⟩,⟨[3600],[3600],[],[0,1,2,3,4,5,6]⟩,⟨[],[],[],[0,1,2,3,4,5,6,7]⟩] (by kernel_rfl) (dj (i6 a0) rfl (dj (i6 a2) rfl (dj (i6 (IntKind.i64.wrap (2*a2))) rfl (d_cons ?_))))))))
  obtain ⟨hc19,h⟩:=ifp_some h
  refine vu (.osl 3300) [(3300,bk (.row 1 ((List.replicate (IntKind.i64.wrap (2*a2)).toNat (0:Int)).map (AV.int .i64))))] (mk_run (i:=⟨.int .i64,1,8,(.int .i64 0)⟩) (f:=(AV.int .i64)) (y:=(0:Int)) rfl rfl rfl rfl rfl rfl) ⟨rfl,hc19.1,hc19.2.1,hc19.2.2,(Nat.le_of_ble_eq_true rfl)⟩ rfl (dn (d_cons (vl (eVb a1) rfl rfl rfl rfl rfl rfl (dn (d_cons ?_)))))
  obtain ⟨r21,hr22,h⟩:=bind_some h
  refine ca (impl_rowOf_ok a1 r21 hr22) (dn (d_cons ?_))
  obtain ⟨hc23,h⟩:=ifp_some h
  refine vu (.osl 3600) [(3600,bk (.row 1 ((((List.replicate (IntKind.i64.wrap (2*a2)).toNat (0:Int)) ++ r21)).map (AV.int .i64)))),(3300,none)] (app_run (i:=⟨.int .i64,1,8,(.int .i64 0)⟩) (f:=(AV.int .i64)) (l:=List.replicate (IntKind.i64.wrap (2*a2)).toNat (0:Int)) (l2:=r21) rfl rfl rfl rfl (fun _=>rfl) rfl rfl) (app_c (f:=(AV.int .i64)) (s:=1) (sz:=1) (by':=8) (u:=[]) (id:=3300) hc23 (.inr rfl) rfl rfl rfl) rfl (dn (d_cons ?_))
  obtain ⟨r24,hr25,h⟩:=bind_some h
  refine a_call (args:=[(i6 a0),(eSi64 (((List.replicate (IntKind.i64.wrap (2*a2)).toNat (0:Int)) ++ r21)))]) (u:=[(3600,bf (.row 1 ((((List.replicate (IntKind.i64.wrap (2*a2)).toNat (0:Int)) ++ r21)).map (AV.int .i64))))]) (r:=(eSi64 r24)) rfl rfl (impl_prime_root_ok a0 (((List.replicate (IntKind.i64.wrap (2*a2)).toNat (0:Int)) ++ r21)) r24 hr25) rfl (dn (dj (eSi64 r24) rfl (d_nil (nj ⟨[(2,i6 a2),(9,eSi64 r24)],[]⟩ (sr (vu (.osl 2000) [(2000,bk (.row 1 (([]).map (AV.int .i64))))] rfl trivial rfl (nk ⟨[(2,i6 a2),(9,eSi64 r24),(10,.osl 10)],[(10,bk (.row 1 (([]).map (AV.int .i64))))]⟩ ?_)))))))
  obtain ⟨y45,hy46,hk47⟩:=bind_some h
  clear h
  refine a_join (emb:=fun (s:(List Int))=>⟨[(10,.osl 10)],[(10,bk (.row 1 (s.map (AV.int .i64))))]⟩) (pre:=fun s=>s=y45) ?_ ?_
  ·rintro x44 rfl
   have h:=hk47
   refine ns ⟨[(10,.osl 10)],[(10,bk (.row 1 (x44.map (AV.int .i64))))]⟩ (sr (vr (.osl 10) (vu (eSi64 x44) [(10,bf (.row 1 (x44.map (AV.int .i64))))] rfl trivial rfl (vr (i6 0) (nx _ rfl (a_ret ?_))))))
   refine ⟨.inr rfl,?_⟩
   rw [Tryz.results12]
   cases h
   exact ⟨_,_,_,_,_,rfl,trivial,.inl ⟨rfl,.inl rfl⟩,rfl,⟨_,_,_,_,_,rfl,trivial,.inl ⟨rfl,.inl rfl⟩,rfl,rfl⟩⟩
  ·have h:=hy46
   refine sr (vr (i6 a2) (vr (i6 (IntKind.i64.wrap (a2 - 1))) (vr (i6 (IntKind.i64.wrap (a2 - 1))) (nk ⟨[(9,eSi64 r24),(10,.osl 10),(11,i6 (IntKind.i64.wrap (a2 - 1)))],[(10,bk (.row 1 (([]).map (AV.int .i64))))]⟩ (a_block ?_)))))
   refine a_loop (emb:=fun (s:(Int×(List Int)))=>⟨[(9,eSi64 r24),(10,.osl 10),(11,i6 s.1)],[(10,bk (.row 1 (s.2.map (AV.int .i64))))]⟩) (body:=(fun s:(Int×(List Int))=>impl_DigitsOfRoot_l1 r24 s.1 s.2)) (G:=fun q=>some q=some y45) h rfl ?_ (by kernel_rfl)
   rintro X58 ⟨x52,x53⟩ x59 h hX60
   have h:impl_DigitsOfRoot_l1 r24 x52 x53=some x59:=h
   refine ns ⟨[(9,eSi64 r24),(10,.osl 10),(11,i6 x52)],[(10,bk (.row 1 (x53.map (AV.int .i64))))]⟩ (a_seq (sr (vr (i6 x52) (vr (.bool ((decide (x52 ≥ 0)))) (nk ⟨[(9,eSi64 r24),(10,.osl 10),(11,i6 x52),(31,.bool ((decide (x52 ≥ 0))))],[(10,bk (.row 1 (x53.map (AV.int .i64))))]⟩ ?_)))))
   cases hb61:(decide (x52 ≥ 0))
   ·have h:=ite_f hb61 h
    refine a_cond_f rfl (a_exit (t_exit ?_))
    cases h
    have h:=hX60
    refine t_exit (b_exit ?_)
    exact jl x53 h
   ·have h:=ite_t hb61 h
    refine a_cond_t rfl (a_skip (nj ⟨[(9,eSi64 r24),(10,.osl 10),(11,i6 x52)],[(10,bk (.row 1 (x53.map (AV.int .i64))))]⟩ (a_seq (a_block (a_region (vr (.osl 10) (vr (eSi64 r24) (vr (i6 x52) ?_))))))))
    obtain ⟨hc62,h⟩:=ifp_some h
    refine vq (.ref (.row 1 (r24.map (AV.int .i64))) [x52.toNat] [x52.toNat*1]) rfl (lmap hc62) ?_
    have hl63:LdOk [x52.toNat] (.row 1 (r24.map (AV.int .i64))) [x52.toNat*1] 1 false (i6 (rd r24 x52.toNat)):=(.row (llt hc62) rfl (.nil rfl rfl rfl))
    refine vq (i6 (rd r24 x52.toNat)) (ld_ref (i:=⟨.int .i64,1,8,(.int .i64 0)⟩) rfl rfl hl63) hl63.c (vq (.sl 1 true (([(rd r24 x52.toNat)]).map (AV.int .i64))) rfl ⟨(Nat.le_of_ble_eq_true rfl),(Nat.le_of_ble_eq_true rfl),(all_cons ⟨(Nat.le_of_ble_eq_true rfl),rfl⟩ all_nil)⟩ ?_)
    obtain ⟨hc64,h⟩:=ifp_some h
    refine vu (.osl 5000) [(5000,bk (.row 1 (((x53 ++ ([(rd r24 x52.toNat)]))).map (AV.int .i64)))),(10,none)] (app_run (i:=⟨.int .i64,1,8,(.int .i64 0)⟩) (f:=(AV.int .i64)) (l:=x53) (l2:=[(rd r24 x52.toNat)]) rfl rfl rfl rfl (fun _=>rfl) rfl rfl) (app_c (f:=(AV.int .i64)) (s:=1) (sz:=1) (by':=8) (u:=[]) (id:=10) hc64 (.inr rfl) rfl rfl rfl) rfl (vr (.osl 5000) (a_nil (b_norm (nj ⟨[(9,eSi64 r24),(10,.osl 10),(11,i6 x52)],[(10,bk (.row 1 (((x53 ++ ([(rd r24 x52.toNat)]))).map (AV.int .i64))))]⟩ (a_region (vr (i6 x52) (vr (i6 (IntKind.i64.wrap (x52 - 1))) (vr (i6 (IntKind.i64.wrap (x52 - 1))) (a_nil ?_)))))))))
    cases h
    exact ag hX60
 ·have h:=ite_t hb11 h
  refine a_cond_t rfl (sr (vr (i6 r9) (vr (eSi64 ([])) (vr (i6 r9) (nx _ rfl (a_ret (t_ret ?_)))))))
  refine ⟨.inr rfl,?_⟩
  rw [Tryz.results12]
  cases h
  exact ⟨_,_,_,_,_,rfl,trivial,.inl ⟨rfl,.inl rfl⟩,rfl,⟨_,_,_,_,_,rfl,trivial,.inl ⟨rfl,.inl rfl⟩,rfl,rfl⟩⟩
def spec_l01In_L:Live:=[(0,[0,1,2]),(1,[0,1,2])]
noncomputable def spec_l01In (a0:Int) (a1:Int) (a2:Int):Option Bool :=
 (if (decide (a0 ≥ a1)) then (some ((decide (a0≤a2)))) else (some false))
theorem spec_l01In_ok (a0:Int) (a1:Int) (a2:Int) (r:Bool) (h:spec_l01In a0 a1 a2=some r):Den Tryz.prog 61 [(i6 a0),(i6 a1),(i6 a2)] { r:=(.bool r) }:=by
 refine dd (rs:=[(.bool r)]) (L:=spec_l01In_L) good [] Tryz.func61 Tryz.ntmps61 ?_
 refine ns ⟨[(0,i6 a0),(1,i6 a1),(2,i6 a2)],[]⟩ ?_
 refine sr (vr (.bool false) (nk ⟨[(0,i6 a0),(1,i6 a1),(2,i6 a2)],[]⟩ (sr (vr (i6 a0) (vr (i6 a1) (vr (.bool ((decide (a0 ≥ a1)))) (vr (.bool ((decide (a0 ≥ a1)))) ?_)))))))
 cases hb1:(decide (a0 ≥ a1))
 ·have h:=ite_f hb1 h
  refine a_gskip rfl (a_gskip rfl (a_gskip rfl (vr (.bool false) (vr (.bool false) (nx _ rfl (a_ret ?_))))))
  refine ⟨.inr rfl,?_⟩
  rw [Tryz.results61]
  cases h
  exact ⟨_,_,_,_,_,rfl,trivial,.inl ⟨rfl,.inl rfl⟩,rfl,rfl⟩
 ·have h:=ite_t hb1 h
  refine gp (i6 a0) rfl rfl (gp (i6 a2) rfl rfl (gp (.bool ((decide (a0≤a2)))) rfl rfl (vr (.bool ((decide (a0≤a2)))) (vr (.bool ((decide (a0≤a2)))) (nx _ rfl (a_ret ?_))))))
  refine ⟨.inr rfl,?_⟩
  rw [Tryz.results61]
  cases h
  exact ⟨_,_,_,_,_,rfl,trivial,.inl ⟨rfl,.inl rfl⟩,rfl,rfl⟩
def spec_DigitsOfRoot_L:Live:=[(0,[0,1,2]),(1,[0,2,4]),(2,[0,2,4,8]),(3,[0,2,4]),(4,[0,2,4,8]),(5,[8]),(6,[0,2,4]),(7,[0,2,4,9]),(100019,[0,2,4,8,19]),(100021,[0,2,4,8,21])]
noncomputable def spec_DigitsOfRoot (a0:Int) (a1:(Vec Int 64)) (a2:Int):Option ((List Int)×Int) :=
 (Option.bind (spec_l10Case a0 a1) fun r2=>(Option.bind (α:=Int) ((Option.bind (α:=Bool) ((if (r2 == 0) then (Option.bind (spec_l01In a2 0 40) fun r27=>(some (!r27))) else (some false))) fun x22=>(if x22 then (some 2) else (some r2)))) fun x15=>(if (x15 != 0) then (some ([],x15)) else (Option.bind (spec_l01Deg a1) fun r32=>(letp (IntKind.i64.wrap ((IntKind.i64.wrap ((IntKind.i64.wrap (Int.tdiv r32 2)) + 1)) + a2)) fun x35=>(Option.bind (spec_l10Root a0 a1 x35) fun r37=>(ifp (0≤(IntKind.i64.wrap ((IntKind.i64.wrap (Int.tdiv r32 2)) + 1))∧(IntKind.i64.wrap ((IntKind.i64.wrap (Int.tdiv r32 2)) + 1))≤(r37.length:Int)) ((ifp ((([]:List Int).length + ((r37.drop (IntKind.i64.wrap ((IntKind.i64.wrap (Int.tdiv r32 2)) + 1)).toNat)).length)*8≤140737488355328) ((some (((([]:List Int) ++ ((r37.drop (IntKind.i64.wrap ((IntKind.i64.wrap (Int.tdiv r32 2)) + 1)).toNat))),0)))))))))))))
theorem spec_DigitsOfRoot_ok (a0:Int) (a1:(Vec Int 64)) (a2:Int) (r:((List Int)×Int)) (h:spec_DigitsOfRoot a0 a1 a2=some r):Den Tryz.prog 13 [(i6 a0),(eVb a1),(i6 a2)] { r:=(.tuple [(eSi64 r.1),(i6 r.2)]) }:=by
 refine dd (rs:=[(eSi64 r.1),(i6 r.2)]) (L:=spec_DigitsOfRoot_L) good [(6,1)] Tryz.func13 Tryz.ntmps13 ?_
 refine ns ⟨[(0,i6 a0),(1,eVb a1),(2,i6 a2)],[]⟩ ?_
 refine sr (vo 1400 (eVb a1) rfl rfl (vr (eSi64 ([])) (vr (i6 0) (nk ⟨[(0,i6 a0),(2,i6 a2),(4,ow 4)],[(4,bk (eVb a1))]⟩ (sr (vr (i6 a0) (vl (eVb a1) rfl rfl rfl rfl rfl rfl ?_)))))))
 obtain ⟨r2,hr3,h⟩:=bind_some h
 refine ca (spec_l10Case_ok a0 a1 r2 hr3) (vr (i6 r2) (nk ⟨[(0,i6 a0),(2,i6 a2),(4,ow 4),(8,i6 r2)],[(4,bk (eVb a1))]⟩ ?_))
 obtain ⟨y16,hy17,hk18⟩:=bind_some h
 clear h
 refine a_join (emb:=fun (s:Int)=>⟨[(0,i6 a0),(2,i6 a2),(4,ow 4),(8,i6 s)],[(4,bk (eVb a1))]⟩) (pre:=fun s=>s=y16) ?_ ?_
 ·rintro x15 rfl
  have h:=hk18
  refine ns ⟨[(0,i6 a0),(2,i6 a2),(4,ow 4),(8,i6 x15)],[(4,bk (eVb a1))]⟩ (a_seq (sr (vr (i6 x15) (vr (.bool (x15 != 0)) (nk ⟨[(0,i6 a0),(2,i6 a2),(4,ow 4),(8,i6 x15),(21,.bool (x15 != 0))],[(4,bk (eVb a1))]⟩ ?_)))))
  cases hb30:(x15 != 0)
  ·have h:=ite_f hb30 h
   refine a_cond_f rfl (a_skip (nj ⟨[(0,i6 a0),(2,i6 a2),(4,ow 4)],[(4,bk (eVb a1))]⟩ (sr (vl (eVb a1) rfl rfl rfl rfl rfl rfl ?_))))
   obtain ⟨r32,hr33,h⟩:=bind_some h
   refine ca (spec_l01Deg_ok a1 r32 hr33) (vq (i6 (IntKind.i64.wrap (Int.tdiv r32 2))) rfl (by decide) (vr (i6 (IntKind.i64.wrap (Int.tdiv r32 2))) (nk ⟨[(0,i6 a0),(2,i6 a2),(4,ow 4),(9,i6 (IntKind.i64.wrap (Int.tdiv r32 2)))],[(4,bk (eVb a1))]⟩ (sr (vq (.sl 1 true (([]).map (AV.int .i64))) rfl ⟨(Nat.le_of_ble_eq_true rfl),(Nat.le_of_ble_eq_true rfl),all_nil⟩ (vr (i6 a0) (vl (eVb a1) rfl rfl rfl rfl rfl rfl (vr (i6 (IntKind.i64.wrap (Int.tdiv r32 2))) (vr (i6 (IntKind.i64.wrap ((IntKind.i64.wrap (Int.tdiv r32 2)) + 1))) ?_)))))))))
   refine vr (i6 a2) ?_
   obtain ⟨x35,hx36,h⟩:=letp_some h
   refine a_val' (v:=(i6 (IntKind.i64.wrap ((IntKind.i64.wrap ((IntKind.i64.wrap (Int.tdiv r32 2)) + 1)) + a2)))) (v':=(i6 x35)) (u:=[]) (u':=[]) rfl (congrArg (fun z=>((i6 z):AV)) hx36) rfl trivial rfl ?_
   obtain ⟨r37,hr38,h⟩:=bind_some h
   refine ca (spec_l10Root_ok a0 a1 x35 r37 hr38) (vr (i6 (IntKind.i64.wrap (Int.tdiv r32 2))) (vr (i6 (IntKind.i64.wrap ((IntKind.i64.wrap (Int.tdiv r32 2)) + 1))) ?_))
   obtain ⟨hc39,h⟩:=ifp_some h
   refine vq (eSi64 ((r37.drop (IntKind.i64.wrap ((IntKind.i64.wrap (Int.tdiv r32 2)) + 1)).toNat))) (drop_run (f:=(AV.int .i64)) (l:=r37) (i:=⟨.int .i64,1,8,(.int .i64 0)⟩) rfl rfl rfl (fun _=>rfl)) ⟨hc39.1,lmap_le hc39.2,rfl⟩ ?_
   obtain ⟨hc40,h⟩:=ifp_some h
   refine vu (.osl 4700) [(4700,bk (.row 1 (((([]:List Int) ++ ((r37.drop (IntKind.i64.wrap ((IntKind.i64.wrap (Int.tdiv r32 2)) + 1)).toNat)))).map (AV.int .i64))))] (appt_run (i:=⟨.int .i64,1,8,(.int .i64 0)⟩) (f:=(AV.int .i64)) (l:=[]) (l2:=(r37.drop (IntKind.i64.wrap ((IntKind.i64.wrap (Int.tdiv r32 2)) + 1)).toNat)) rfl rfl rfl rfl (fun _=>rfl) rfl) (appt_c (f:=(AV.int .i64)) (s:=1) (sz:=1) (sz':=1) (by':=8) hc40 (.inl rfl) (.inl rfl) (.inr rfl) rfl rfl) rfl (vu (eSi64 ((([]:List Int) ++ ((r37.drop (IntKind.i64.wrap ((IntKind.i64.wrap (Int.tdiv r32 2)) + 1)).toNat))))) [(4700,bf (.row 1 (((([]:List Int) ++ ((r37.drop (IntKind.i64.wrap ((IntKind.i64.wrap (Int.tdiv r32 2)) + 1)).toNat)))).map (AV.int .i64))))] rfl trivial rfl (vr (i6 0) (nx _ rfl (a_ret ?_))))
   refine ⟨.inr rfl,?_⟩
   rw [Tryz.results13]
   cases h
   exact ⟨_,_,_,_,_,rfl,trivial,.inl ⟨rfl,.inl rfl⟩,rfl,⟨_,_,_,_,_,rfl,trivial,.inl ⟨rfl,.inl rfl⟩,rfl,rfl⟩⟩
  ·have h:=ite_t hb30 h
   refine a_cond_t rfl (sr (vr (i6 x15) (vr (eSi64 ([])) (vr (i6 x15) (nx _ rfl (a_ret (t_ret ?_)))))))
   refine ⟨.inr rfl,?_⟩
   rw [Tryz.results13]
   cases h
   exact ⟨_,_,_,_,_,rfl,trivial,.inl ⟨rfl,.inl rfl⟩,rfl,⟨_,_,_,_,_,rfl,trivial,.inl ⟨rfl,.inl rfl⟩,rfl,rfl⟩⟩
 ·have h:=hy17
  obtain ⟨y23,hy24,hk25⟩:=bind_some h
  clear h
  refine a_join (emb:=fun (s:Bool)=>⟨[(0,i6 a0),(2,i6 a2),(4,ow 4),(8,i6 r2),(19,.bool s)],[(4,bk (eVb a1))]⟩) (pre:=fun s=>s=y23) ?_ ?_
  ·rintro x22 rfl
   have h:=hk25
   refine ns ⟨[(0,i6 a0),(2,i6 a2),(4,ow 4),(8,i6 r2),(19,.bool x22)],[(4,bk (eVb a1))]⟩ ?_
   cases hb29:x22
   ·have h:=ite_f hb29 h
    refine a_cond_f rfl (a_skip ?_)
    exact jl r2 h
   ·have h:=ite_t hb29 h
    refine a_cond_t rfl (a_region (vr (i6 2) (a_nil ?_)))
    exact jl 2 h
  ·have h:=hy24
   refine a_region (vr (i6 r2) (vr (.bool (r2 == 0)) (vr (.bool (r2 == 0)) ?_)))
   cases hb26:(r2 == 0)
   ·have h:=ite_f hb26 h
    refine a_gskip rfl (a_gskip rfl (a_gskip rfl (vr (.bool false) (a_nil ?_))))
    exact jl false h
   ·have h:=ite_t hb26 h
    refine gp (i6 a2) rfl rfl ?_
    obtain ⟨r27,hr28,h⟩:=bind_some h
    refine a_gcall rfl (args:=[(i6 a2),(i6 0),(i6 40)]) (u:=[]) (r:=(.bool r27)) rfl rfl (spec_l01In_ok a2 0 40 r27 hr28) rfl (gp (.bool (!r27)) rfl rfl (vr (.bool (!r27)) (a_nil ?_)))
    exact jl (!r27) h
def laws_likeInts_L:Live:=[(0,[0,1]),(1,[0,1]),(2,[]),(3,[0,1]),(4,[0,1,5]),(5,[0,1,5]),(6,[0,1,5]),(7,[]),(8,[]),(100010,[0,1,10]),(100014,[0,1,5,14]),(100025,[0,1,5,25])]
noncomputable def laws_likeInts_l1 (a0:(List Int)) (a1:(List Int)) (x50:Int):Option (Int⊕(Unit⊕Bool)) :=
 (if (decide (x50 < (a0.length:Int))) then (ifp (0≤x50∧x50 < ((a0.length:Nat):Int)) ((ifp (0≤x50∧x50 < ((a1.length:Nat):Int)) ((if ((rd a0 x50.toNat) != (rd a1 x50.toNat)) then (some (.inr (.inr false))) else (some (.inl (IntKind.i64.wrap (x50 + 1))))))))) else (some (.inr (((.inl ()))))))
noncomputable def laws_likeInts (a0:(List Int)) (a1:(List Int)):Option Bool :=
 (if ((a0.length:Int) != (a1.length:Int)) then (some false) else (Option.bind (α:=(Unit⊕Bool)) ((loopM (fun s:Int=>laws_likeInts_l1 a0 a1 s) 0)) fun z=>match z with | .inl _=>(some true) | .inr r75=>(some r75)))
theorem laws_likeInts_ok (a0:(List Int)) (a1:(List Int)) (r:Bool) (h:laws_likeInts a0 a1=some r):Den Tryz.prog 14 [(eSi64 a0),(eSi64 a1)] { r:=(.bool r) }:=by
 refine dd (rs:=[(.bool r)]) (L:=laws_likeInts_L) good [] Tryz.func14 Tryz.ntmps14 ?_
 refine ns ⟨[(0,eSi64 a0),(1,eSi64 a1)],[]⟩ ?_
 refine sr (vr (.bool false) (nk ⟨[(0,eSi64 a0),(1,eSi64 a1)],[]⟩ (a_seq (sr (vr (eSi64 a0) (vq (i6 (a0.length:Int)) (len_run rfl rfl) trivial (vr (eSi64 a1) (vq (i6 (a1.length:Int)) (len_run rfl rfl) trivial (vr (.bool (((a0.length:Int) != (a1.length:Int)))) ?_)))))))))
 refine nk ⟨[(0,eSi64 a0),(1,eSi64 a1),(10,.bool (((a0.length:Int) != (a1.length:Int))))],[]⟩ ?_
 cases hb1:((a0.length:Int) != (a1.length:Int))
 ·have h:=ite_f hb1 h
  refine a_cond_f rfl (a_skip (nj ⟨[(0,eSi64 a0),(1,eSi64 a1)],[]⟩ ?_))
  obtain ⟨y37,hy38,hk39⟩:=bind_some h
  clear h
  refine a_join (emb:=fun (s:Unit)=>⟨[],[]⟩) (pre:=fun s=>(.inl s)=y37) ?_ ?_
  ·rintro _ rfl
   have h:=hk39
   refine ns ⟨[],[]⟩ (sr (vr (.bool true) (nx _ rfl (a_ret ?_))))
   refine ⟨.inr rfl,?_⟩
   rw [Tryz.results14]
   cases h
   exact ⟨_,_,_,_,_,rfl,trivial,.inl ⟨rfl,.inl rfl⟩,rfl,rfl⟩
  ·have h:=hy38
   refine sr (vr (i6 0) (nk ⟨[(0,eSi64 a0),(1,eSi64 a1),(5,i6 0)],[]⟩ (a_block ?_)))
   refine a_loop (emb:=fun (s:Int)=>⟨[(0,eSi64 a0),(1,eSi64 a1),(5,i6 s)],[]⟩) (body:=(fun s:Int=>laws_likeInts_l1 a0 a1 s)) (G:=fun q=>some q=some y37) h rfl ?_ (by kernel_rfl)
   rintro X61 x50 x62 h hX63
   have h:laws_likeInts_l1 a0 a1 x50=some x62:=h
   refine ns ⟨[(0,eSi64 a0),(1,eSi64 a1),(5,i6 x50)],[]⟩ (a_seq (sr (vr (i6 x50) (vr (eSi64 a0) (vq (i6 (a0.length:Int)) (len_run rfl rfl) trivial (vr (.bool ((decide (x50 < (a0.length:Int))))) (nk ⟨[(0,eSi64 a0),(1,eSi64 a1),(5,i6 x50),(14,.bool ((decide (x50 < (a0.length:Int)))))],[]⟩ ?_)))))))
   cases hb64:(decide (x50 < (a0.length:Int)))
   ·have h:=ite_f hb64 h
    refine a_cond_f rfl (a_exit (t_exit ?_))
    cases h
    have h:=hX63
    refine t_exit (b_exit ?_)
    exact jl () h
   ·have h:=ite_t hb64 h
    refine a_cond_t rfl (a_skip (nj ⟨[(0,eSi64 a0),(1,eSi64 a1),(5,i6 x50)],[]⟩ (a_seq (a_block (a_seq (a_draw [⟨[],[],[],[]⟩,⟨[],[],[],[]⟩,⟨[],[],[],[0,1]⟩,⟨[],[],[],[0,1,2]⟩,⟨[],[],[],[]⟩,⟨[],[],[],[]⟩,⟨[],[],[],[4,5]⟩,⟨[],[],[],[4,5,6]⟩,⟨[],[],[],[0,1,2,3,4,5,6,7]⟩] (by kernel_rfl) (dj (eSi64 a0) rfl (dj (i6 x50) rfl (d_cons ?_)))))))))
    obtain ⟨hc69,h⟩:=ifp_some h
    refine vq (.ref (.row 1 (a0.map (AV.int .i64))) [x50.toNat] [x50.toNat*1]) rfl (lmap hc69) (dn (d_cons ?_))
    have hl70:LdOk [x50.toNat] (.row 1 (a0.map (AV.int .i64))) [x50.toNat*1] 1 false (i6 (rd a0 x50.toNat)):=(.row (llt hc69) rfl (.nil rfl rfl rfl))
    refine vq (i6 (rd a0 x50.toNat)) (ld_ref (i:=⟨.int .i64,1,8,(.int .i64 0)⟩) rfl rfl hl70) hl70.c (dn (dj (eSi64 a1) rfl (dj (i6 x50) rfl (d_cons ?_))))
    obtain ⟨hc71,h⟩:=ifp_some h
    refine vq (.ref (.row 1 (a1.map (AV.int .i64))) [x50.toNat] [x50.toNat*1]) rfl (lmap hc71) (dn (d_cons ?_))
    have hl72:LdOk [x50.toNat] (.row 1 (a1.map (AV.int .i64))) [x50.toNat*1] 1 false (i6 (rd a1 x50.toNat)):=(.row (llt hc71) rfl (.nil rfl rfl rfl))
    refine vq (i6 (rd a1 x50.toNat)) (ld_ref (i:=⟨.int .i64,1,8,(.int .i64 0)⟩) rfl rfl hl72) hl72.c (dn (dj (.bool (((rd a0 x50.toNat) != (rd a1 x50.toNat)))) rfl (d_nil (nj ⟨[(0,eSi64 a0),(1,eSi64 a1),(5,i6 x50),(25,.bool (((rd a0 x50.toNat) != (rd a1 x50.toNat))))],[]⟩ ?_))))
    cases hb73:((rd a0 x50.toNat) != (rd a1 x50.toNat))
    ·have h:=ite_f hb73 h
     refine a_cond_f rfl (a_skip (b_norm (nj ⟨[(0,eSi64 a0),(1,eSi64 a1),(5,i6 x50)],[]⟩ (a_region (vr (i6 x50) (vr (i6 (IntKind.i64.wrap (x50 + 1))) (vr (i6 (IntKind.i64.wrap (x50 + 1))) (a_nil ?_))))))))
     cases h
     exact ag hX63
    ·have h:=ite_t hb73 h
     refine a_cond_t rfl (sr (vr (.bool false) (nx _ rfl (a_ret (b_ret (t_ret ?_))))))
     cases h
     have h:=hX63
     refine t_ret (b_ret (t_ret ?_))
     cases h
     have h:=hk39
     refine ⟨.inr rfl,?_⟩
     rw [Tryz.results14]
     cases h
     exact ⟨_,_,_,_,_,rfl,trivial,.inl ⟨rfl,.inl rfl⟩,rfl,rfl⟩
 ·have h:=ite_t hb1 h
  refine a_cond_t rfl (sr (vr (.bool false) (nx _ rfl (a_ret (t_ret ?_)))))
  refine ⟨.inr rfl,?_⟩
  rw [Tryz.results14]
  cases h
  exact ⟨_,_,_,_,_,rfl,trivial,.inl ⟨rfl,.inl rfl⟩,rfl,rfl⟩
noncomputable def spec_l01DrawPrime_of_src_c:ACode:=strip [(5,1)] (Tryz.f115.body.getD .skip)
def spec_l01DrawPrime_of_src_L:Live:=[(0,[0]),(1,[0])]
noncomputable def spec_l01DrawPrime_of_src (a0:((List Int)×Int×Int)):Option (Int×((List Int)×Int×Int)) :=
 (Option.bind (spec_l01Pick_of_src a0 ([2,2,3,3,5,7])) fun r1=>(some (r1.1,r1.2)))
theorem spec_l01DrawPrime_of_src_ok (a0:((List Int)×Int×Int)) (r:(Int×((List Int)×Int×Int))) (h:spec_l01DrawPrime_of_src a0=some r):Den Tryz.prog 115 [(.mutp (eT_Su8_i64_u64_Z a0))] { r:=(i6 r.1),ms:=[(eT_Su8_i64_u64_Z r.2)],fs:=[] }:=by
 refine den_ofX (rs:=[(i6 r.1)]) (ac:=spec_l01DrawPrime_of_src_c) (L:=spec_l01DrawPrime_of_src_L) (n:=6) (m:=[(5,1)]) (c:=Tryz.f115.body.getD .skip) good Tryz.func115 (by kernel_rfl) (by kernel_rfl) Tryz.ntmps115 rfl rfl (by kernel_rfl) rfl ?_
 refine ns ⟨[(0,ow 1000000)],[(1000000,bk (eT_Su8_i64_u64_Z a0))]⟩ ?_
 unfold spec_l01DrawPrime_of_src_c
 refine sr (vr (i6 0) (nk ⟨[(0,ow 1000000)],[(1000000,bk (eT_Su8_i64_u64_Z a0))]⟩ (sr (vr (ow 1000000) (vq (.sl 1 true (([2,2,3,3,5,7]).map (AV.int .i64))) rfl ⟨(Nat.le_of_ble_eq_true rfl),(Nat.le_of_ble_eq_true rfl),(all_cons ⟨(Nat.le_of_ble_eq_true rfl),rfl⟩ (all_cons ⟨(Nat.le_of_ble_eq_true rfl),rfl⟩ (all_cons ⟨(Nat.le_of_ble_eq_true rfl),rfl⟩ (all_cons ⟨(Nat.le_of_ble_eq_true rfl),rfl⟩ (all_cons ⟨(Nat.le_of_ble_eq_true rfl),rfl⟩ (all_cons ⟨(Nat.le_of_ble_eq_true rfl),rfl⟩ all_nil))))))⟩ ?_)))))
 obtain ⟨r1,hr2,h⟩:=bind_some h
 refine a_callM (args:=[(.mutp (eT_Su8_i64_u64_Z a0)),(.sl 1 true (([2,2,3,3,5,7]).map (AV.int .i64)))]) (i:=0) (id:=1000000) (r:=(i6 r1.1)) (c:=(eT_Su8_i64_u64_Z r1.2)) rfl rfl (Den.argsM (spec_l01Pick_of_src_ok a0 ([2,2,3,3,5,7]) r1 hr2) rfl rfl (.cons (.loose _) .nil)) rfl trivial (vr (i6 r1.1) (nx _ rfl (a_ret ?_)))
 refine ⟨.inr rfl,?_⟩
 rw [Tryz.results115]
 cases h
 exact ⟨[],⟨_,_,_,_,_,rfl,trivial,rfl,.inl ⟨rfl,.inl rfl,⟨rfl,rfl,rfl⟩⟩⟩,rfl,⟨_,_,rfl,rfl,rfl⟩⟩
noncomputable def spec_l01Bad_of_src_c:ACode:=strip [(8,1),(11,1),(15,1)] (Tryz.f116.body.getD .skip)
def spec_l01Bad_of_src_L:Live:=[(0,[0,1,2]),(1,[0,1,5,6]),(2,[0,1,5,6]),(3,[5,6]),(100009,[0,1,5,6,9])]
noncomputable def spec_l01Bad_of_src (a0:((List Int)×Int×Int)) (a1:Int) (a2:(Vec Int 64)):Option ((Vec Int 64)×((List Int)×Int×Int)) :=
 (Option.bind (α:=((Vec Int 64)×((List Int)×Int×Int))) ((Option.bind (spec_l01Next_of_src a0 40) fun r18=>(if (r18.1 == 0) then (Option.bind (spec_l01Next_of_src r18.2 64) fun r22=>(Option.bind (spec_l01Pick_of_src r22.2 ([a1,7,255,1])) fun r25=>(ifp (0≤r22.1∧r22.1 < ((64:Nat):Int)) ((some (((vset a2 r22.1.toNat (IntKind.u8.wrap r25.1)),r25.2))))))) else (some (a2,r18.2))))) fun ⟨x13,x14⟩=>(some (x13,x14)))
theorem spec_l01Bad_of_src_ok (a0:((List Int)×Int×Int)) (a1:Int) (a2:(Vec Int 64)) (r:((Vec Int 64)×((List Int)×Int×Int))) (h:spec_l01Bad_of_src a0 a1 a2=some r):Den Tryz.prog 116 [(.mutp (eT_Su8_i64_u64_Z a0)),(i6 a1),(eVb a2)] { r:=(eVb r.1),ms:=[(eT_Su8_i64_u64_Z r.2)],fs:=[] }:=by
 refine den_ofX (rs:=[(eVb r.1)]) (ac:=spec_l01Bad_of_src_c) (L:=spec_l01Bad_of_src_L) (n:=19) (m:=[(8,1),(11,1),(15,1)]) (c:=Tryz.f116.body.getD .skip) good Tryz.func116 (by kernel_rfl) (by kernel_rfl) Tryz.ntmps116 rfl rfl (by kernel_rfl) rfl ?_
 refine ns ⟨[(0,ow 1000000),(1,i6 a1),(2,eVb a2)],[(1000000,bk (eT_Su8_i64_u64_Z a0))]⟩ ?_
 unfold spec_l01Bad_of_src_c
 refine sr (vo 1500 (eVb a2) rfl rfl (vo 1600 (eV0) rfl rfl (nk ⟨[(0,ow 1000000),(1,i6 a1),(5,ow 5),(6,ow 6)],[(5,bk (eVb a2)),(6,bk (eV0)),(1000000,bk (eT_Su8_i64_u64_Z a0))]⟩ ?_)))
 obtain ⟨y15,hy16,hk17⟩:=bind_some h
 clear h
 refine a_join (emb:=fun (s:((Vec Int 64)×((List Int)×Int×Int)))=>⟨[(5,ow 5),(6,ow 6)],[(5,bk (eVb s.1)),(6,bk (eV0)),(1000000,bk (eT_Su8_i64_u64_Z s.2))]⟩) (pre:=fun s=>s=y15) ?_ ?_
 ·rintro ⟨x13,x14⟩ rfl
  have h:=hk17
  refine ns ⟨[(5,ow 5),(6,ow 6)],[(5,bk (eVb x13)),(6,bk (eV0)),(1000000,bk (eT_Su8_i64_u64_Z x14))]⟩ (sr (vl (eVb x13) rfl rfl rfl rfl rfl rfl (vs (eVb x13) rfl rfl (fun _=>rfl) rfl rfl rfl rfl rfl rfl (nx _ rfl (a_ret ?_)))))
  have hl32:LdOk [] (eVb x13) [] 64 true (eVb x13):=(.nil rfl rfl rfl)
  refine ⟨.inr rfl,?_⟩
  rw [Tryz.results116]
  cases h
  exact ⟨[],⟨_,_,_,_,_,ld_own (i:=⟨.arr 64 5,64,64,(eVb (vrep 64 (0:Int)))⟩) rfl rfl rfl hl32,hl32.c,rfl,.inl ⟨rfl,.inl rfl,⟨rfl,rfl,rfl⟩⟩⟩,rfl,⟨_,_,rfl,rfl,rfl⟩⟩
 ·have h:=hy16
  refine sr (vr (ow 1000000) ?_)
  obtain ⟨r18,hr19,h⟩:=bind_some h
  refine a_callM (args:=[(.mutp (eT_Su8_i64_u64_Z a0)),(i6 40)]) (i:=0) (id:=1000000) (r:=(i6 r18.1)) (c:=(eT_Su8_i64_u64_Z r18.2)) rfl rfl (spec_l01Next_of_src_ok a0 40 r18 hr19) rfl trivial (vr (.bool (r18.1 == 0)) (nk ⟨[(0,ow 1000000),(1,i6 a1),(5,ow 5),(6,ow 6),(9,.bool (r18.1 == 0))],[(5,bk (eVb a2)),(6,bk (eV0)),(1000000,bk (eT_Su8_i64_u64_Z r18.2))]⟩ ?_))
  cases hb21:(r18.1 == 0)
  ·have h:=ite_f hb21 h
   refine a_cond_f rfl (a_skip ?_)
   exact jl (a2,r18.2) h
  ·have h:=ite_t hb21 h
   refine a_cond_t rfl (a_region (vr (ow 1000000) ?_))
   obtain ⟨r22,hr23,h⟩:=bind_some h
   refine a_callM (args:=[(.mutp (eT_Su8_i64_u64_Z r18.2)),(i6 64)]) (i:=0) (id:=1000000) (r:=(i6 r22.1)) (c:=(eT_Su8_i64_u64_Z r22.2)) rfl rfl (spec_l01Next_of_src_ok r18.2 64 r22 hr23) rfl trivial (vr (ow 1000000) (vr (i6 a1) (vq (.sl 1 true (([a1,7,255,1]).map (AV.int .i64))) rfl ⟨(Nat.le_of_ble_eq_true rfl),(Nat.le_of_ble_eq_true rfl),(all_cons ⟨(Nat.le_of_ble_eq_true rfl),rfl⟩ (all_cons ⟨(Nat.le_of_ble_eq_true rfl),rfl⟩ (all_cons ⟨(Nat.le_of_ble_eq_true rfl),rfl⟩ (all_cons ⟨(Nat.le_of_ble_eq_true rfl),rfl⟩ all_nil))))⟩ ?_)))
   obtain ⟨r25,hr26,h⟩:=bind_some h
   refine a_callM (args:=[(.mutp (eT_Su8_i64_u64_Z r22.2)),(.sl 1 true (([a1,7,255,1]).map (AV.int .i64)))]) (i:=0) (id:=1000000) (r:=(i6 r25.1)) (c:=(eT_Su8_i64_u64_Z r25.2)) rfl rfl (Den.argsM (spec_l01Pick_of_src_ok r22.2 ([a1,7,255,1]) r25 hr26) rfl rfl (.cons (.loose _) .nil)) rfl trivial (vr (b8 (IntKind.u8.wrap r25.1)) ?_)
   obtain ⟨hc28,h⟩:=ifp_some h
   refine vq (.own 5 [r22.1.toNat] [r22.1.toNat*1]) rfl hc28 ?_
   have hs29:StOk [r22.1.toNat] (eVb a2) [r22.1.toNat*1] 1 (b8 (IntKind.u8.wrap r25.1)) (eVb ((vset a2 r22.1.toNat (IntKind.u8.wrap r25.1)))):=(.arr (y:=IntKind.u8.wrap r25.1) (vlt a2 hc28) rfl (.nil rfl rfl rfl rfl))
   refine vu .top [(5,bk (eVb ((vset a2 r22.1.toNat (IntKind.u8.wrap r25.1)))))] (st_own (i:=⟨.int .u8,1,1,(.int .u8 0)⟩) rfl rfl (fun _=>rfl) rfl hs29) (hs29.c rfl) rfl (a_nil ?_)
   exact jl (((vset a2 r22.1.toNat (IntKind.u8.wrap r25.1)),r25.2)) h
noncomputable def spec_l10Draw_of_src_c:ACode:=strip [(11,1),(15,1),(19,1),(25,1),(30,1),(34,1),(38,1)] (Tryz.f64.body.getD .skip)
def spec_l10Draw_of_src_L:Live:=[(0,[0,1]),(1,[0,1,5,6]),(2,[0,1,5,6,7]),(3,[0,5,6,7,8,9]),(4,[0,5,6,7,8,9]),(5,[0,5,6,7,8,9]),(6,[0,5,6,8,9]),(7,[0,5,6,7,8,9]),(100027,[0,5,6,7,8,9,27]),(100031,[0,5,6,7,8,9,31])]
noncomputable def spec_l10Draw_of_src (a0:((List Int)×Int×Int)) (a1:Int):Option (Int×(Vec Int 64)×(Vec Int 64)×((List Int)×Int×Int)) :=
 (Option.bind (spec_l01DrawPrime_of_src a0) fun r1=>(Option.bind (spec_l01Draw_of_src r1.2 r1.1 a1) fun r4=>(Option.bind (spec_l01Draw_of_src r4.2 r1.1 a1) fun r7=>(Option.bind (α:=((Vec Int 64)×((List Int)×Int×Int))) ((Option.bind (α:=(Bool×((List Int)×Int×Int))) ((if (decide (r7.1=((vrep 64 (0:Int))))) then (Option.bind (spec_l01Next_of_src r7.2 4) fun r46=>(some (((decide (r46.1 > 0)),r46.2)))) else (some (false,r7.2)))) fun ⟨x39,x40⟩=>(if x39 then (some (((vset (vrep 64 (0:Int)) 0 1),x40))) else (some (r7.1,x40))))) fun ⟨x29,x30⟩=>(Option.bind (α:=(Int×((List Int)×Int×Int))) ((Option.bind (spec_l01Next_of_src x30 40) fun r63=>(if (r63.1 == 0) then (Option.bind (spec_l01Pick_of_src r63.2 ([0,4,11])) fun r67=>(some (r67.1,r67.2))) else (some (r1.1,r63.2))))) fun ⟨x58,x59⟩=>(Option.bind (spec_l01Bad_of_src x59 3 r4.1) fun r78=>(some (x58,r78.1,x29,r78.2))))))))
theorem spec_l10Draw_of_src_ok (a0:((List Int)×Int×Int)) (a1:Int) (r:(Int×(Vec Int 64)×(Vec Int 64)×((List Int)×Int×Int))) (h:spec_l10Draw_of_src a0 a1=some r):Den Tryz.prog 64 [(.mutp (eT_Su8_i64_u64_Z a0)),(i6 a1)] { r:=(.tuple [(i6 r.1),(eVb r.2.1),(eVb r.2.2.1)]),ms:=[(eT_Su8_i64_u64_Z r.2.2.2)],fs:=[] }:=by
 refine den_ofX (rs:=[(i6 r.1),(eVb r.2.1),(eVb r.2.2.1)]) (ac:=spec_l10Draw_of_src_c) (L:=spec_l10Draw_of_src_L) (n:=40) (m:=[(11,1),(15,1),(19,1),(25,1),(30,1),(34,1),(38,1)]) (c:=Tryz.f64.body.getD .skip) good Tryz.func64 (by kernel_rfl) (by kernel_rfl) Tryz.ntmps64 rfl rfl (by kernel_rfl) rfl ?_
 refine ns ⟨[(0,ow 1000000),(1,i6 a1)],[(1000000,bk (eT_Su8_i64_u64_Z a0))]⟩ ?_
 unfold spec_l10Draw_of_src_c
 refine sr (vr (i6 0) (vo 1500 (eV0) rfl rfl (vo 1600 (eV0) rfl rfl (nk ⟨[(0,ow 1000000),(1,i6 a1),(5,ow 5),(6,ow 6)],[(5,bk (eV0)),(6,bk (eV0)),(1000000,bk (eT_Su8_i64_u64_Z a0))]⟩ (sr (vr (ow 1000000) ?_))))))
 obtain ⟨r1,hr2,h⟩:=bind_some h
 refine a_callM (args:=[(.mutp (eT_Su8_i64_u64_Z a0))]) (i:=0) (id:=1000000) (r:=(i6 r1.1)) (c:=(eT_Su8_i64_u64_Z r1.2)) rfl rfl (spec_l01DrawPrime_of_src_ok a0 r1 hr2) rfl trivial (vr (i6 r1.1) (nk ⟨[(0,ow 1000000),(1,i6 a1),(5,ow 5),(6,ow 6),(7,i6 r1.1)],[(5,bk (eV0)),(6,bk (eV0)),(1000000,bk (eT_Su8_i64_u64_Z r1.2))]⟩ (sr (vr (ow 1000000) (vr (i6 r1.1) (vr (i6 a1) ?_))))))
 obtain ⟨r4,hr5,h⟩:=bind_some h
 refine a_callM (args:=[(.mutp (eT_Su8_i64_u64_Z r1.2)),(i6 r1.1),(i6 a1)]) (i:=0) (id:=1000000) (r:=(eVb r4.1)) (c:=(eT_Su8_i64_u64_Z r4.2)) rfl rfl (spec_l01Draw_of_src_ok r1.2 r1.1 a1 r4 hr5) rfl trivial (vr (ow 1000000) (vr (i6 r1.1) (vr (i6 a1) ?_)))
 obtain ⟨r7,hr8,h⟩:=bind_some h
 refine a_callM (args:=[(.mutp (eT_Su8_i64_u64_Z r4.2)),(i6 r1.1),(i6 a1)]) (i:=0) (id:=1000000) (r:=(eVb r7.1)) (c:=(eT_Su8_i64_u64_Z r7.2)) rfl rfl (spec_l01Draw_of_src_ok r4.2 r1.1 a1 r7 hr8) rfl trivial (vo 1800 (eV0) rfl rfl (vo 1900 (eV0) rfl rfl (vs (eVb r4.1) rfl rfl (fun _=>rfl) rfl rfl rfl rfl rfl rfl (vs (eVb r7.1) rfl rfl (fun _=>rfl) rfl rfl rfl rfl rfl rfl (nk ⟨[(0,ow 1000000),(5,ow 5),(6,ow 6),(7,i6 r1.1),(8,ow 8),(9,ow 9)],[(5,bk (eV0)),(6,bk (eV0)),(8,bk (eVb r4.1)),(9,bk (eVb r7.1)),(1000000,bk (eT_Su8_i64_u64_Z r7.2))]⟩ ?_)))))
 obtain ⟨y31,hy32,hk33⟩:=bind_some h
 clear h
 refine a_join (emb:=fun (s:((Vec Int 64)×((List Int)×Int×Int)))=>⟨[(0,ow 1000000),(5,ow 5),(6,ow 6),(7,i6 r1.1),(8,ow 8),(9,ow 9)],[(5,bk (eV0)),(6,bk (eV0)),(8,bk (eVb r4.1)),(9,bk (eVb s.1)),(1000000,bk (eT_Su8_i64_u64_Z s.2))]⟩) (pre:=fun s=>s=y31) ?_ ?_
 ·rintro ⟨x29,x30⟩ rfl
  have h:=hk33
  refine ns ⟨[(0,ow 1000000),(5,ow 5),(6,ow 6),(7,i6 r1.1),(8,ow 8),(9,ow 9)],[(5,bk (eV0)),(6,bk (eV0)),(8,bk (eVb r4.1)),(9,bk (eVb x29)),(1000000,bk (eT_Su8_i64_u64_Z x30))]⟩ ?_
  obtain ⟨y60,hy61,hk62⟩:=bind_some h
  clear h
  refine a_join (emb:=fun (s:(Int×((List Int)×Int×Int)))=>⟨[(0,ow 1000000),(5,ow 5),(6,ow 6),(7,i6 s.1),(8,ow 8),(9,ow 9)],[(5,bk (eV0)),(6,bk (eV0)),(8,bk (eVb r4.1)),(9,bk (eVb x29)),(1000000,bk (eT_Su8_i64_u64_Z s.2))]⟩) (pre:=fun s=>s=y60) ?_ ?_
  ·rintro ⟨x58,x59⟩ rfl
   have h:=hk62
   refine ns ⟨[(0,ow 1000000),(5,ow 5),(6,ow 6),(7,i6 x58),(8,ow 8),(9,ow 9)],[(5,bk (eV0)),(6,bk (eV0)),(8,bk (eVb r4.1)),(9,bk (eVb x29)),(1000000,bk (eT_Su8_i64_u64_Z x59))]⟩ (a_seq (a_draw [⟨[],[],[],[]⟩,⟨[],[],[1000000],[]⟩,⟨[8],[],[],[]⟩,⟨[1000000],[1000000],[],[1,2]⟩,⟨[9],[],[],[]⟩,⟨[],[],[],[0,1,2,3]⟩,⟨[5],[5],[],[0,1,2,3,5]⟩,⟨[6],[6],[],[0,1,2,3,4,5,6]⟩] (by kernel_rfl) (dj (i6 x58) rfl (dj (ow 1000000) rfl (d_cons (vl (eVb r4.1) rfl rfl rfl rfl rfl rfl (dn (d_cons ?_))))))))
   obtain ⟨r78,hr79,h⟩:=bind_some h
   refine a_callM (args:=[(.mutp (eT_Su8_i64_u64_Z x59)),(i6 3),(eVb r4.1)]) (i:=0) (id:=1000000) (r:=(eVb r78.1)) (c:=(eT_Su8_i64_u64_Z r78.2)) rfl rfl (spec_l01Bad_of_src_ok x59 3 r4.1 r78 hr79) rfl trivial (dn (d_cons (vl (eVb x29) rfl rfl rfl rfl rfl rfl (dn (dj (i6 x58) rfl (d_cons (vs (eVb r78.1) rfl rfl (fun _=>rfl) rfl rfl rfl rfl rfl rfl (dn (d_cons ?_)))))))))
   refine vs (eVb x29) rfl rfl (fun _=>rfl) rfl rfl rfl rfl rfl rfl (dn (d_nil (a_next rfl (a_ret ?_))))
   have hl84:LdOk [] (eVb r78.1) [] 64 true (eVb r78.1):=(.nil rfl rfl rfl)
   have hl85:LdOk [] (eVb x29) [] 64 true (eVb x29):=(.nil rfl rfl rfl)
   refine ⟨.inr rfl,?_⟩
   rw [Tryz.results64]
   cases h
   exact ⟨[],⟨_,_,_,_,_,rfl,trivial,rfl,.inl ⟨rfl,.inl rfl,⟨_,_,_,_,_,ld_own (i:=⟨.arr 64 5,64,64,(eVb (vrep 64 (0:Int)))⟩) rfl rfl rfl hl84,hl84.c,rfl,.inl ⟨rfl,.inl rfl,⟨_,_,_,_,_,ld_own (i:=⟨.arr 64 5,64,64,(eVb (vrep 64 (0:Int)))⟩) rfl rfl rfl hl85,hl85.c,rfl,.inl ⟨rfl,.inl rfl,⟨rfl,rfl,rfl⟩⟩⟩⟩⟩⟩⟩,rfl,⟨_,_,rfl,rfl,rfl⟩⟩
  ·have h:=hy61
   refine sr (vr (ow 1000000) ?_)
   obtain ⟨r63,hr64,h⟩:=bind_some h
   refine a_callM (args:=[(.mutp (eT_Su8_i64_u64_Z x30)),(i6 40)]) (i:=0) (id:=1000000) (r:=(i6 r63.1)) (c:=(eT_Su8_i64_u64_Z r63.2)) rfl rfl (spec_l01Next_of_src_ok x30 40 r63 hr64) rfl trivial (vr (.bool (r63.1 == 0)) (nk ⟨[(0,ow 1000000),(5,ow 5),(6,ow 6),(7,i6 r1.1),(8,ow 8),(9,ow 9),(31,.bool (r63.1 == 0))],[(5,bk (eV0)),(6,bk (eV0)),(8,bk (eVb r4.1)),(9,bk (eVb x29)),(1000000,bk (eT_Su8_i64_u64_Z r63.2))]⟩ ?_))
   cases hb66:(r63.1 == 0)
   ·have h:=ite_f hb66 h
    refine a_cond_f rfl (a_skip ?_)
    exact jl (r1.1,r63.2) h
   ·have h:=ite_t hb66 h
    refine a_cond_t rfl (a_region (vr (ow 1000000) (vq (.sl 1 true (([0,4,11]).map (AV.int .i64))) rfl ⟨(Nat.le_of_ble_eq_true rfl),(Nat.le_of_ble_eq_true rfl),(all_cons ⟨(Nat.le_of_ble_eq_true rfl),rfl⟩ (all_cons ⟨(Nat.le_of_ble_eq_true rfl),rfl⟩ (all_cons ⟨(Nat.le_of_ble_eq_true rfl),rfl⟩ all_nil)))⟩ ?_)))
    obtain ⟨r67,hr68,h⟩:=bind_some h
    refine a_callM (args:=[(.mutp (eT_Su8_i64_u64_Z r63.2)),(.sl 1 true (([0,4,11]).map (AV.int .i64)))]) (i:=0) (id:=1000000) (r:=(i6 r67.1)) (c:=(eT_Su8_i64_u64_Z r67.2)) rfl rfl (Den.argsM (spec_l01Pick_of_src_ok r63.2 ([0,4,11]) r67 hr68) rfl rfl (.cons (.loose _) .nil)) rfl trivial (vr (i6 r67.1) (a_nil ?_))
    exact jl (r67.1,r67.2) h
 ·have h:=hy32
  obtain ⟨y41,hy42,hk43⟩:=bind_some h
  clear h
  refine a_join (emb:=fun (s:(Bool×((List Int)×Int×Int)))=>⟨[(0,ow 1000000),(5,ow 5),(6,ow 6),(7,i6 r1.1),(8,ow 8),(9,ow 9),(27,.bool s.1)],[(5,bk (eV0)),(6,bk (eV0)),(8,bk (eVb r4.1)),(9,bk (eVb r7.1)),(1000000,bk (eT_Su8_i64_u64_Z s.2))]⟩) (pre:=fun s=>s=y41) ?_ ?_
  ·rintro ⟨x39,x40⟩ rfl
   have h:=hk43
   refine ns ⟨[(0,ow 1000000),(5,ow 5),(6,ow 6),(7,i6 r1.1),(8,ow 8),(9,ow 9),(27,.bool x39)],[(5,bk (eV0)),(6,bk (eV0)),(8,bk (eVb r4.1)),(9,bk (eVb r7.1)),(1000000,bk (eT_Su8_i64_u64_Z x40))]⟩ ?_
   cases hb49:x39
   ·have h:=ite_f hb49 h
    refine a_cond_f rfl (a_skip ?_)
    exact jl (r7.1,x40) h
   ·have h:=ite_t hb49 h
    refine a_cond_t rfl (a_region (vq (eVb ((vset (vrep 64 (0:Int)) 0 1))) rfl ⟨⟨_,rfl,rfl⟩,(all_cons ⟨(Nat.le_of_ble_eq_true rfl),rfl⟩ all_nil)⟩ (vs (eVb ((vset (vrep 64 (0:Int)) 0 1))) rfl rfl (fun _=>rfl) rfl rfl rfl rfl rfl rfl (a_nil ?_))))
    exact jl (((vset (vrep 64 (0:Int)) 0 1),x40)) h
  ·have h:=hy42
   refine a_region (vl (eVb r7.1) rfl rfl rfl rfl rfl rfl (vq (eV0) rfl ⟨⟨_,rfl,rfl⟩,all_nil⟩ (vq (.bool ((decide (r7.1=((vrep 64 (0:Int))))))) (eqa_run (f:=(AV.int .u8)) (a:=r7.1.1) (b:=((vrep 64 (0:Int))).1) rfl rfl (eqb_vec (fun _ _=>eqb_int _ _) r7.1 ((vrep 64 (0:Int))))) (cmp_arr (g:=8) (f:=(AV.int .u8)) (x:=r7.1) (y:=((vrep 64 (0:Int)))) rfl rfl rfl (fun _ _=>rfl) (fun _ _=>cmp_int rfl)) (vr (.bool ((decide (r7.1=((vrep 64 (0:Int))))))) ?_))))
   cases hb45:(decide (r7.1=((vrep 64 (0:Int)))))
   ·have h:=ite_f hb45 h
    refine a_gskip rfl (a_gskip rfl (a_gskip rfl (vr (.bool false) (a_nil ?_))))
    exact jl (false,r7.2) h
   ·have h:=ite_t hb45 h
    refine gp (ow 1000000) rfl rfl ?_
    obtain ⟨r46,hr47,h⟩:=bind_some h
    refine a_gcallM rfl (args:=[(.mutp (eT_Su8_i64_u64_Z r7.2)),(i6 4)]) (i:=0) (id:=1000000) (r:=(i6 r46.1)) (c:=(eT_Su8_i64_u64_Z r46.2)) rfl rfl (spec_l01Next_of_src_ok r7.2 4 r46 hr47) rfl trivial (gp (.bool ((decide (r46.1 > 0)))) rfl rfl (vr (.bool ((decide (r46.1 > 0)))) (a_nil ?_)))
    exact jl (((decide (r46.1 > 0)),r46.2)) h
def spec_DrawExponentialUpTo_L:Live:=[(0,[0]),(1,[0,3,4]),(2,[3,4,6]),(3,[3,4,6,7,8,9])]
noncomputable def spec_DrawExponentialUpTo (a0:(List Int)):Option (Int×(Vec Int 64)×(Vec Int 64)×Int) :=
 (Option.bind (spec_l01From a0) fun r1=>(Option.bind (spec_l01Pick_of_src r1 ([1,2,3,8])) fun r3=>(Option.bind (spec_l10Draw_of_src r3.2 r3.1) fun r6=>(Option.bind (spec_l01Pick_of_src r6.2.2.2 ([1,2,2,3,3,4,5])) fun r20=>(some (r6.1,r6.2.1,r6.2.2.1,r20.1))))))
theorem spec_DrawExponentialUpTo_ok (a0:(List Int)) (r:(Int×(Vec Int 64)×(Vec Int 64)×Int)) (h:spec_DrawExponentialUpTo a0=some r):Den Tryz.prog 15 [(eSu8 a0)] { r:=(.tuple [(i6 r.1),(eVb r.2.1),(eVb r.2.2.1),(i6 r.2.2.2)]) }:=by
 refine dd (rs:=[(i6 r.1),(eVb r.2.1),(eVb r.2.2.1),(i6 r.2.2.2)]) (L:=spec_DrawExponentialUpTo_L) good [(16,1),(17,1),(26,1)] Tryz.func15 Tryz.ntmps15 ?_
 refine ns ⟨[(0,eSu8 a0)],[]⟩ ?_
 refine sr (vr (i6 0) (vo 1300 (eV0) rfl rfl (vo 1400 (eV0) rfl rfl (vr (i6 0) (nk ⟨[(0,eSu8 a0),(3,ow 3),(4,ow 4)],[(3,bk (eV0)),(4,bk (eV0))]⟩ (sr (vr (eSu8 a0) ?_)))))))
 obtain ⟨r1,hr2,h⟩:=bind_some h
 refine a_callF (args:=[(eSu8 a0)]) (u:=[]) (u2:=[]) (r:=(ow 2000000)) (fs:=[(0,[eT_Su8_i64_u64_Z r1])]) rfl rfl (spec_l01From_ok a0 r1 hr2) rfl rfl rfl (.inl rfl) rfl (vr (ow 2100) (nk ⟨[(3,ow 3),(4,ow 4),(6,ow 6)],[(3,bk (eV0)),(4,bk (eV0)),(6,bk (eT_Su8_i64_u64_Z r1))]⟩ (sr (vr (ow 6) (vr (ow 6) (vq (.sl 1 true (([1,2,3,8]).map (AV.int .i64))) rfl ⟨(Nat.le_of_ble_eq_true rfl),(Nat.le_of_ble_eq_true rfl),(all_cons ⟨(Nat.le_of_ble_eq_true rfl),rfl⟩ (all_cons ⟨(Nat.le_of_ble_eq_true rfl),rfl⟩ (all_cons ⟨(Nat.le_of_ble_eq_true rfl),rfl⟩ (all_cons ⟨(Nat.le_of_ble_eq_true rfl),rfl⟩ all_nil))))⟩ ?_))))))
 obtain ⟨r3,hr4,h⟩:=bind_some h
 refine a_callM (args:=[(.mutp (eT_Su8_i64_u64_Z r1)),(.sl 1 true (([1,2,3,8]).map (AV.int .i64)))]) (i:=0) (id:=6) (r:=(i6 r3.1)) (c:=(eT_Su8_i64_u64_Z r3.2)) rfl rfl (Den.argsM (spec_l01Pick_of_src_ok r1 ([1,2,3,8]) r3 hr4) rfl rfl (.cons (.loose _) .nil)) rfl trivial ?_
 obtain ⟨r6,hr7,h⟩:=bind_some h
 refine a_callM (args:=[(.mutp (eT_Su8_i64_u64_Z r3.2)),(i6 r3.1)]) (i:=0) (id:=6) (r:=(.tuple [(i6 r6.1),(eVb r6.2.1),(eVb r6.2.2.1)])) (c:=(eT_Su8_i64_u64_Z r6.2.2.2)) rfl rfl (spec_l10Draw_of_src_ok r3.2 r3.1 r6 hr7) rfl trivial (vr (.tuple [(i6 r6.1),(eVb r6.2.1),(eVb r6.2.2.1)]) (vb (i6 r6.1) rfl rfl (vb (eVb r6.2.1) rfl rfl (vb (eVb r6.2.2.1) rfl rfl (vo 1800 (eV0) rfl rfl (vo 1900 (eV0) rfl rfl (vr (i6 r6.1) (vs (eVb r6.2.1) rfl rfl (fun _=>rfl) rfl rfl rfl rfl rfl rfl (vs (eVb r6.2.2.1) rfl rfl (fun _=>rfl) rfl rfl rfl rfl rfl rfl ?_)))))))))
 refine nk ⟨[(3,ow 3),(4,ow 4),(6,ow 6),(7,i6 r6.1),(8,ow 8),(9,ow 9)],[(3,bk (eV0)),(4,bk (eV0)),(6,bk (eT_Su8_i64_u64_Z r6.2.2.2)),(8,bk (eVb r6.2.1)),(9,bk (eVb r6.2.2.1))]⟩ (a_seq (a_draw [⟨[],[],[],[]⟩,⟨[8],[],[],[]⟩,⟨[9],[],[],[]⟩,⟨[],[],[6],[]⟩,⟨[],[],[],[]⟩,⟨[6],[6],[],[3,4]⟩,⟨[],[],[],[0,3,4,5]⟩,⟨[3],[3],[],[0,1,3,4,5,6]⟩,⟨[4],[4],[],[0,1,2,3,4,5,6,7]⟩,⟨[],[],[],[0,1,2,3,4,5,6,7,8]⟩] (by kernel_rfl) (dj (i6 r6.1) rfl (d_cons (vl (eVb r6.2.1) rfl rfl rfl rfl rfl rfl (dn (d_cons (vl (eVb r6.2.2.1) rfl rfl rfl rfl rfl rfl (dn ?_)))))))))
 refine dj (ow 6) rfl (d_cons (vq (.sl 1 true (([1,2,2,3,3,4,5]).map (AV.int .i64))) rfl ⟨(Nat.le_of_ble_eq_true rfl),(Nat.le_of_ble_eq_true rfl),(all_cons ⟨(Nat.le_of_ble_eq_true rfl),rfl⟩ (all_cons ⟨(Nat.le_of_ble_eq_true rfl),rfl⟩ (all_cons ⟨(Nat.le_of_ble_eq_true rfl),rfl⟩ (all_cons ⟨(Nat.le_of_ble_eq_true rfl),rfl⟩ (all_cons ⟨(Nat.le_of_ble_eq_true rfl),rfl⟩ (all_cons ⟨(Nat.le_of_ble_eq_true rfl),rfl⟩ (all_cons ⟨(Nat.le_of_ble_eq_true rfl),rfl⟩ all_nil)))))))⟩ (dn (d_cons ?_))))
 obtain ⟨r20,hr21,h⟩:=bind_some h
 refine a_callM (args:=[(.mutp (eT_Su8_i64_u64_Z r6.2.2.2)),(.sl 1 true (([1,2,2,3,3,4,5]).map (AV.int .i64)))]) (i:=0) (id:=6) (r:=(i6 r20.1)) (c:=(eT_Su8_i64_u64_Z r20.2)) rfl rfl (Den.argsM (spec_l01Pick_of_src_ok r6.2.2.2 ([1,2,2,3,3,4,5]) r20 hr21) rfl rfl (.cons (.loose _) .nil)) rfl trivial (dn (dj (i6 r6.1) rfl (d_cons (vs (eVb r6.2.1) rfl rfl (fun _=>rfl) rfl rfl rfl rfl rfl rfl (dn (d_cons (vs (eVb r6.2.2.1) rfl rfl (fun _=>rfl) rfl rfl rfl rfl rfl rfl (dn (dj (i6 r20.1) rfl ?_)))))))))
 refine d_nil (a_next rfl (a_ret ?_))
 have hl25:LdOk [] (eVb r6.2.1) [] 64 true (eVb r6.2.1):=(.nil rfl rfl rfl)
 have hl26:LdOk [] (eVb r6.2.2.1) [] 64 true (eVb r6.2.2.1):=(.nil rfl rfl rfl)
 refine ⟨.inr rfl,?_⟩
 rw [Tryz.results15]
 cases h
 exact ⟨_,_,_,_,_,rfl,trivial,.inl ⟨rfl,.inl rfl⟩,rfl,⟨_,_,_,_,_,ld_own (i:=⟨.arr 64 5,64,64,(eVb (vrep 64 (0:Int)))⟩) rfl rfl rfl hl25,hl25.c,.inl ⟨rfl,.inl rfl⟩,rfl,⟨_,_,_,_,_,ld_own (i:=⟨.arr 64 5,64,64,(eVb (vrep 64 (0:Int)))⟩) rfl rfl rfl hl26,hl26.c,.inl ⟨rfl,.inl rfl⟩,rfl,⟨_,_,_,_,_,rfl,trivial,.inl ⟨rfl,.inl rfl⟩,rfl,rfl⟩⟩⟩⟩
def impl_quotientCode_L:Live:=[(0,[0,1,2,3]),(1,[0,3,5,6]),(2,[3,6,9]),(3,[9]),(4,[3,6]),(5,[]),(6,[6]),(7,[]),(8,[]),(100016,[3,6,9,16]),(100018,[6,18]),(100021,[21])]
noncomputable def impl_quotientCode (a0:Int) (a1:(Vec Int 64)) (a2:(Vec Int 64)) (a3:Bool):Option Int :=
 (Option.bind (impl_polysCode a0 ([a1,a2])) fun r3=>(if (r3 != 0) then (some r3) else (if (!a3) then (some 2) else (if (decide (a2=((vrep 64 (0:Int))))) then (some 5) else (some 0)))))
theorem impl_quotientCode_ok (a0:Int) (a1:(Vec Int 64)) (a2:(Vec Int 64)) (a3:Bool) (r:Int) (h:impl_quotientCode a0 a1 a2 a3=some r):Den Tryz.prog 66 [(i6 a0),(eVb a1),(eVb a2),(.bool a3)] { r:=(i6 r) }:=by
 refine dd (rs:=[(i6 r)]) (L:=impl_quotientCode_L) good [] Tryz.func66 Tryz.ntmps66 ?_
 refine ns ⟨[(0,i6 a0),(1,eVb a1),(2,eVb a2),(3,.bool a3)],[]⟩ ?_
 refine sr (vo 1500 (eVb a1) rfl rfl (vo 1600 (eVb a2) rfl rfl (vr (i6 0) (nk ⟨[(0,i6 a0),(3,.bool a3),(5,ow 5),(6,ow 6)],[(5,bk (eVb a1)),(6,bk (eVb a2))]⟩ (a_seq (sr (vr (i6 a0) (vl (eVb a1) rfl rfl rfl rfl rfl rfl (vl (eVb a2) rfl rfl rfl rfl rfl rfl ?_)))))))))
 refine vq (.sl 64 true (([a1,a2]).map eVb)) rfl ⟨(Nat.le_of_ble_eq_true rfl),(Nat.le_of_ble_eq_true rfl),(all_cons ⟨(Nat.le_of_ble_eq_true rfl),rfl⟩ (all_cons ⟨(Nat.le_of_ble_eq_true rfl),rfl⟩ all_nil))⟩ ?_
 obtain ⟨r3,hr4,h⟩:=bind_some h
 refine a_call (args:=[(i6 a0),(.sl 64 true (([a1,a2]).map eVb))]) (u:=[]) (r:=(i6 r3)) rfl rfl (Den.args (impl_polysCode_ok a0 ([a1,a2]) r3 hr4) rfl rfl (.cons (.refl _) (.cons (.loose _) .nil))) rfl (vr (i6 r3) (nk ⟨[(3,.bool a3),(6,ow 6),(9,i6 r3)],[(6,bk (eVb a2))]⟩ (sr (vr (i6 r3) (vr (.bool (r3 != 0)) (nk ⟨[(3,.bool a3),(6,ow 6),(9,i6 r3),(16,.bool (r3 != 0))],[(6,bk (eVb a2))]⟩ ?_))))))
 cases hb5:(r3 != 0)
 ·have h:=ite_f hb5 h
  refine a_cond_f rfl (a_skip (nj ⟨[(3,.bool a3),(6,ow 6)],[(6,bk (eVb a2))]⟩ (a_seq (a_block (sr (vr (.bool a3) (vr (.bool (!a3)) (vr (.bool (!a3)) (nk ⟨[(6,ow 6),(18,.bool (!a3))],[(6,bk (eVb a2))]⟩ ?_)))))))))
  cases hb6:(!a3)
  ·have h:=ite_f hb6 h
   refine a_cond_f rfl (sr (vl (eVb a2) rfl rfl rfl rfl rfl rfl (vq (eV0) rfl ⟨⟨_,rfl,rfl⟩,all_nil⟩ (vq (.bool ((decide (a2=((vrep 64 (0:Int))))))) (eqa_run (f:=(AV.int .u8)) (a:=a2.1) (b:=((vrep 64 (0:Int))).1) rfl rfl (eqb_vec (fun _ _=>eqb_int _ _) a2 ((vrep 64 (0:Int))))) (cmp_arr (g:=8) (f:=(AV.int .u8)) (x:=a2) (y:=((vrep 64 (0:Int)))) rfl rfl rfl (fun _ _=>rfl) (fun _ _=>cmp_int rfl)) (vr (.bool ((decide (a2=((vrep 64 (0:Int))))))) (nk ⟨[(21,.bool ((decide (a2=((vrep 64 (0:Int)))))))],[]⟩ ?_))))))
   cases hb8:(decide (a2=((vrep 64 (0:Int)))))
   ·have h:=ite_f hb8 h
    refine a_cond_f rfl (a_skip (b_norm (nj ⟨[],[]⟩ (sr (vr (i6 0) (nx _ rfl (a_ret ?_)))))))
    refine ⟨.inr rfl,?_⟩
    rw [Tryz.results66]
    cases h
    exact ⟨_,_,_,_,_,rfl,trivial,.inl ⟨rfl,.inl rfl⟩,rfl,rfl⟩
   ·have h:=ite_t hb8 h
    refine a_cond_t rfl (sr (vr (i6 5) (nx _ rfl (a_ret (b_ret (t_ret ?_))))))
    refine ⟨.inr rfl,?_⟩
    rw [Tryz.results66]
    cases h
    exact ⟨_,_,_,_,_,rfl,trivial,.inl ⟨rfl,.inl rfl⟩,rfl,rfl⟩
  ·have h:=ite_t hb6 h
   refine a_cond_t rfl (sr (vr (i6 2) (nx _ rfl (a_ret (b_ret (t_ret ?_))))))
   refine ⟨.inr rfl,?_⟩
   rw [Tryz.results66]
   cases h
   exact ⟨_,_,_,_,_,rfl,trivial,.inl ⟨rfl,.inl rfl⟩,rfl,rfl⟩
 ·have h:=ite_t hb5 h
  refine a_cond_t rfl (sr (vr (i6 r3) (vr (i6 r3) (nx _ rfl (a_ret (t_ret ?_))))))
  refine ⟨.inr rfl,?_⟩
  rw [Tryz.results66]
  cases h
  exact ⟨_,_,_,_,_,rfl,trivial,.inl ⟨rfl,.inl rfl⟩,rfl,rfl⟩
def impl_prime_norm_L:Live:=[(0,[0,1,2]),(1,[0,1,2]),(2,[0,1,2,7]),(3,[0,2,7,8,9]),(4,[0,2,7,8,9]),(5,[0,2,7,8,9]),(6,[0,2,7,8,9]),(7,[7]),(100010,[0,2,7,8,9,10]),(100013,[0,2,7,8,9,13])]
noncomputable def impl_prime_norm_l1 (a1:Int) (a2:Int) (a0:Int) (x19:Int) (x20:Int):Option ((Int×Int)⊕Int) :=
 (if (decide (x20 < a1)) then (if (decide (x19 > a2)) then (some (.inr x19)) else (some (.inl ((IntKind.i64.wrap (x19*a0),IntKind.i64.wrap (x20 + 1)))))) else (some (.inr x19)))
noncomputable def impl_prime_norm (a0:Int) (a1:Int) (a2:Int):Option Int :=
 (Option.bind (α:=Int) ((loopM (fun s:(Int×Int)=>impl_prime_norm_l1 a1 a2 a0 s.1 s.2) (1,0))) fun x13=>(some x13))
theorem impl_prime_norm_ok (a0:Int) (a1:Int) (a2:Int) (r:Int) (h:impl_prime_norm a0 a1 a2=some r):Den Tryz.prog 157 [(i6 a0),(i6 a1),(i6 a2)] { r:=(i6 r) }:=by
 refine dd (rs:=[(i6 r)]) (L:=impl_prime_norm_L) good [] Tryz.func157 Tryz.ntmps157 ?_
 refine ns ⟨[(0,i6 a0),(1,i6 a1),(2,i6 a2)],[]⟩ ?_
 refine sr (vr (i6 0) (nk ⟨[(0,i6 a0),(1,i6 a1),(2,i6 a2)],[]⟩ (sr (vr (i6 1) (nk ⟨[(0,i6 a0),(1,i6 a1),(2,i6 a2),(7,i6 1)],[]⟩ ?_)))))
 obtain ⟨y14,hy15,hk16⟩:=bind_some h
 clear h
 refine a_join (emb:=fun (s:Int)=>⟨[(7,i6 s)],[]⟩) (pre:=fun s=>s=y14) ?_ ?_
 ·rintro x13 rfl
  have h:=hk16
  refine ns ⟨[(7,i6 x13)],[]⟩ (sr (vr (i6 x13) (vr (i6 x13) (nx _ rfl (a_ret ?_)))))
  refine ⟨.inr rfl,?_⟩
  rw [Tryz.results157]
  cases h
  exact ⟨_,_,_,_,_,rfl,trivial,.inl ⟨rfl,.inl rfl⟩,rfl,rfl⟩
 ·have h:=hy15
  refine sr (vr (i6 a1) (vr (i6 0) (nk ⟨[(0,i6 a0),(2,i6 a2),(7,i6 1),(8,i6 a1),(9,i6 0)],[]⟩ (a_block ?_))))
  refine a_loop (emb:=fun (s:(Int×Int))=>⟨[(0,i6 a0),(2,i6 a2),(7,i6 s.1),(8,i6 a1),(9,i6 s.2)],[]⟩) (body:=(fun s:(Int×Int)=>impl_prime_norm_l1 a1 a2 a0 s.1 s.2)) (G:=fun q=>some q=some y14) h rfl ?_ (by kernel_rfl)
  rintro X23 ⟨x19,x20⟩ x24 h hX25
  have h:impl_prime_norm_l1 a1 a2 a0 x19 x20=some x24:=h
  refine ns ⟨[(0,i6 a0),(2,i6 a2),(7,i6 x19),(8,i6 a1),(9,i6 x20)],[]⟩ (sr (vr (.bool ((decide (x20 < a1)))) (nk ⟨[(0,i6 a0),(2,i6 a2),(7,i6 x19),(8,i6 a1),(9,i6 x20),(10,.bool ((decide (x20 < a1))))],[]⟩ (a_seq ?_))))
  cases hb26:(decide (x20 < a1))
  ·have h:=ite_f hb26 h
   refine a_cond_f rfl (a_exit (t_exit ?_))
   cases h
   have h:=hX25
   refine t_exit (b_exit ?_)
   exact jl x19 h
  ·have h:=ite_t hb26 h
   refine a_cond_t rfl (a_skip (nj ⟨[(0,i6 a0),(2,i6 a2),(7,i6 x19),(8,i6 a1),(9,i6 x20)],[]⟩ (a_seq (a_block (a_seq (sr (vr (i6 x19) (vr (i6 a2) (vr (.bool ((decide (x19 > a2)))) ?_)))))))))
   refine nk ⟨[(0,i6 a0),(2,i6 a2),(7,i6 x19),(8,i6 a1),(9,i6 x20),(13,.bool ((decide (x19 > a2))))],[]⟩ ?_
   cases hb27:(decide (x19 > a2))
   ·have h:=ite_f hb27 h
    refine a_cond_f rfl (a_skip (nj ⟨[(0,i6 a0),(2,i6 a2),(7,i6 x19),(8,i6 a1),(9,i6 x20)],[]⟩ (a_region (vr (i6 x19) (vr (i6 a0) (vr (i6 (IntKind.i64.wrap (x19*a0))) (vr (i6 (IntKind.i64.wrap (x19*a0))) (a_nil (b_norm ?_)))))))))
    refine nj ⟨[(0,i6 a0),(2,i6 a2),(7,i6 (IntKind.i64.wrap (x19*a0))),(8,i6 a1),(9,i6 x20)],[]⟩ (a_region (vr (i6 (IntKind.i64.wrap (x20 + 1))) (vr (i6 (IntKind.i64.wrap (x20 + 1))) (a_nil ?_))))
    cases h
    exact ag hX25
   ·have h:=ite_t hb27 h
    refine a_cond_t rfl (a_exit (t_exit (b_other rfl (t_exit ?_))))
    cases h
    have h:=hX25
    refine t_exit (b_exit ?_)
    exact jl x19 h
def impl_letter_L:Live:=[(0,[]),(1,[])]
noncomputable def impl_letter :Option (List Int) :=
 (some ([0,1]))
theorem impl_letter_ok  (r:(List Int)) (h:impl_letter=some r):Den Tryz.prog 156 [] { r:=(eSi64 r) }:=by
 refine dd (rs:=[(eSi64 r)]) (L:=impl_letter_L) good [(0,1)] Tryz.func156 Tryz.ntmps156 ?_
 refine ns ⟨[],[]⟩ ?_
 refine sr (vr (eSi64 ([])) (nk ⟨[],[]⟩ (sr (vq (.sl 1 true (([0,1]).map (AV.int .i64))) rfl ⟨(Nat.le_of_ble_eq_true rfl),(Nat.le_of_ble_eq_true rfl),(all_cons ⟨(Nat.le_of_ble_eq_true rfl),rfl⟩ (all_cons ⟨(Nat.le_of_ble_eq_true rfl),rfl⟩ all_nil))⟩ (vq (eSi64 ([0,1])) (asg_tight (i:=⟨.int .i64,1,8,(.int .i64 0)⟩) (f:=(AV.int .i64)) (l:=[0,1]) rfl rfl rfl) trivial (nx _ rfl (a_ret ?_)))))))
 refine ⟨.inr rfl,?_⟩
 rw [Tryz.results156]
 cases h
 exact ⟨_,_,_,_,_,rfl,trivial,.inl ⟨rfl,.inl rfl⟩,rfl,rfl⟩
def impl_prime_spread_L:Live:=[(0,[0,1,2]),(1,[0,1,2]),(2,[]),(3,[0,1,2]),(4,[1,7]),(5,[1,7,8]),(6,[7,8,23,24,25]),(7,[7,8,23,24,25]),(8,[7,8,9,10,23,24,25]),(9,[7,8,23,24,25]),(10,[8]),(100013,[0,1,2,13]),(100026,[7,8,23,24,25,26])]
noncomputable def impl_prime_spread_l1 (a1:(List Int)) (r2:Int) (x37:Int) (x38:(List Int)):Option ((Int×(List Int))⊕(List Int)) :=
 (if (decide (x37 < (a1.length:Int))) then (ifp (0≤x37∧x37 < ((a1.length:Nat):Int)) ((ifp (0≤IntKind.i64.wrap (x37*r2)∧IntKind.i64.wrap (x37*r2) < ((x38.length:Nat):Int)) ((some (.inl ((IntKind.i64.wrap (x37 + 1),(x38.set (IntKind.i64.wrap (x37*r2)).toNat (rd a1 x37.toNat)))))))))) else (some (.inr x38)))
noncomputable def impl_prime_spread (a0:Int) (a1:(List Int)) (a2:Int):Option (List Int) :=
 (if ((a1.length:Int) == 0) then (some ([])) else (Option.bind (impl_prime_norm a0 a2 1099511627776) fun r2=>(Option.bind (impl_row_degree a1) fun r4=>(ifp (0≤IntKind.i64.wrap ((IntKind.i64.wrap (r4*r2)) + 1)∧IntKind.i64.wrap ((IntKind.i64.wrap (r4*r2)) + 1)≤140737488355328∧8*IntKind.i64.wrap ((IntKind.i64.wrap (r4*r2)) + 1)≤140737488355328) ((Option.bind (α:=(List Int)) ((loopM (fun s:(Int×(List Int))=>impl_prime_spread_l1 a1 r2 s.1 s.2) (0,List.replicate (IntKind.i64.wrap ((IntKind.i64.wrap (r4*r2)) + 1)).toNat (0:Int)))) fun x28=>(some x28)))))))
theorem impl_prime_spread_ok (a0:Int) (a1:(List Int)) (a2:Int) (r:(List Int)) (h:impl_prime_spread a0 a1 a2=some r):Den Tryz.prog 155 [(i6 a0),(eSi64 a1),(i6 a2)] { r:=(eSi64 r) }:=by
 refine dd (rs:=[(eSi64 r)]) (L:=impl_prime_spread_L) good [(6,1),(8,2)] Tryz.func155 Tryz.ntmps155 ?_
 refine ns ⟨[(0,i6 a0),(1,eSi64 a1),(2,i6 a2)],[]⟩ ?_
 refine sr (vr (eSi64 ([])) (nk ⟨[(0,i6 a0),(1,eSi64 a1),(2,i6 a2)],[]⟩ (a_seq (sr (vr (eSi64 a1) (vq (i6 (a1.length:Int)) (len_run rfl rfl) trivial (vr (.bool (((a1.length:Int) == 0))) (nk ⟨[(0,i6 a0),(1,eSi64 a1),(2,i6 a2),(13,.bool (((a1.length:Int) == 0)))],[]⟩ ?_))))))))
 cases hb1:((a1.length:Int) == 0)
 ·have h:=ite_f hb1 h
  refine a_cond_f rfl (a_skip (nj ⟨[(0,i6 a0),(1,eSi64 a1),(2,i6 a2)],[]⟩ (sr (vr (i6 a0) (vr (i6 a2) ?_)))))
  obtain ⟨r2,hr3,h⟩:=bind_some h
  refine ca (impl_prime_norm_ok a0 a2 1099511627776 r2 hr3) (vr (i6 r2) (nk ⟨[(1,eSi64 a1),(7,i6 r2)],[]⟩ (sr (vr (eSi64 a1) ?_))))
  obtain ⟨r4,hr5,h⟩:=bind_some h
  refine ca (impl_row_degree_ok a1 r4 hr5) (vr (i6 r2) (vr (i6 (IntKind.i64.wrap (r4*r2))) (vr (i6 (IntKind.i64.wrap ((IntKind.i64.wrap (r4*r2)) + 1))) ?_)))
  obtain ⟨hc6,h⟩:=ifp_some h
  refine vu (.osl 3200) [(3200,bk (.row 1 ((List.replicate (IntKind.i64.wrap ((IntKind.i64.wrap (r4*r2)) + 1)).toNat (0:Int)).map (AV.int .i64))))] (mk_run (i:=⟨.int .i64,1,8,(.int .i64 0)⟩) (f:=(AV.int .i64)) (y:=(0:Int)) rfl rfl rfl rfl rfl rfl) ⟨rfl,hc6.1,hc6.2.1,hc6.2.2,(Nat.le_of_ble_eq_true rfl)⟩ rfl (vr (.osl 3200) (nk ⟨[(1,eSi64 a1),(7,i6 r2),(8,.osl 8)],[(8,bk (.row 1 ((List.replicate (IntKind.i64.wrap ((IntKind.i64.wrap (r4*r2)) + 1)).toNat (0:Int)).map (AV.int .i64))))]⟩ ?_))
  obtain ⟨y29,hy30,hk31⟩:=bind_some h
  clear h
  refine a_join (emb:=fun (s:(List Int))=>⟨[(8,.osl 8)],[(8,bk (.row 1 (s.map (AV.int .i64))))]⟩) (pre:=fun s=>s=y29) ?_ ?_
  ·rintro x28 rfl
   have h:=hk31
   refine ns ⟨[(8,.osl 8)],[(8,bk (.row 1 (x28.map (AV.int .i64))))]⟩ (sr (vr (.osl 8) (vu (eSi64 x28) [(8,bf (.row 1 (x28.map (AV.int .i64))))] rfl trivial rfl (nx _ rfl (a_ret ?_)))))
   refine ⟨.inr rfl,?_⟩
   rw [Tryz.results155]
   cases h
   exact ⟨_,_,_,_,_,rfl,trivial,.inl ⟨rfl,.inl rfl⟩,rfl,rfl⟩
  ·have h:=hy30
   refine sr (vr (eSi64 a1) (vq (i6 (a1.length:Int)) (len_run rfl rfl) trivial (vr (i6 0) (nk ⟨[(7,i6 r2),(8,.osl 8),(23,eSi64 a1),(24,i6 (a1.length:Int)),(25,i6 0)],[(8,bk (.row 1 ((List.replicate (IntKind.i64.wrap ((IntKind.i64.wrap (r4*r2)) + 1)).toNat (0:Int)).map (AV.int .i64))))]⟩ (a_block ?_)))))
   refine a_loop (emb:=fun (s:(Int×(List Int)))=>⟨[(7,i6 r2),(8,.osl 8),(23,eSi64 a1),(24,i6 (a1.length:Int)),(25,i6 s.1)],[(8,bk (.row 1 (s.2.map (AV.int .i64))))]⟩) (body:=(fun s:(Int×(List Int))=>impl_prime_spread_l1 a1 r2 s.1 s.2)) (G:=fun q=>some q=some y29) h rfl ?_ (by kernel_rfl)
   rintro X44 ⟨x37,x38⟩ x45 h hX46
   have h:impl_prime_spread_l1 a1 r2 x37 x38=some x45:=h
   refine ns ⟨[(7,i6 r2),(8,.osl 8),(23,eSi64 a1),(24,i6 (a1.length:Int)),(25,i6 x37)],[(8,bk (.row 1 (x38.map (AV.int .i64))))]⟩ (sr (vr (.bool ((decide (x37 < (a1.length:Int))))) (nk ⟨[(7,i6 r2),(8,.osl 8),(23,eSi64 a1),(24,i6 (a1.length:Int)),(25,i6 x37),(26,.bool ((decide (x37 < (a1.length:Int)))))],[(8,bk (.row 1 (x38.map (AV.int .i64))))]⟩ (a_seq ?_))))
   cases hb47:(decide (x37 < (a1.length:Int)))
   ·have h:=ite_f hb47 h
    refine a_cond_f rfl (a_exit (t_exit ?_))
    cases h
    have h:=hX46
    refine t_exit (b_exit ?_)
    exact jl x38 h
   ·have h:=ite_t hb47 h
    refine a_cond_t rfl (a_skip (nj ⟨[(7,i6 r2),(8,.osl 8),(23,eSi64 a1),(24,i6 (a1.length:Int)),(25,i6 x37)],[(8,bk (.row 1 (x38.map (AV.int .i64))))]⟩ (a_seq (a_block (sr (vr (i6 x37) ?_))))))
    obtain ⟨hc48,h⟩:=ifp_some h
    refine vq (.ref (.row 1 (a1.map (AV.int .i64))) [x37.toNat] [x37.toNat*1]) rfl (lmap hc48) ?_
    have hl49:LdOk [x37.toNat] (.row 1 (a1.map (AV.int .i64))) [x37.toNat*1] 1 false (i6 (rd a1 x37.toNat)):=(.row (llt hc48) rfl (.nil rfl rfl rfl))
    refine vq (i6 (rd a1 x37.toNat)) (ld_ref (i:=⟨.int .i64,1,8,(.int .i64 0)⟩) rfl rfl hl49) hl49.c (vr (i6 x37) (vr (i6 (rd a1 x37.toNat)) (nk ⟨[(7,i6 r2),(8,.osl 8),(9,i6 x37),(10,i6 (rd a1 x37.toNat)),(23,eSi64 a1),(24,i6 (a1.length:Int)),(25,i6 x37)],[(8,bk (.row 1 (x38.map (AV.int .i64))))]⟩ (a_region (vr (.osl 8) (vr (i6 x37) (vr (i6 r2) (vr (i6 (IntKind.i64.wrap (x37*r2))) (vr (i6 (rd a1 x37.toNat)) ?_)))))))))
    obtain ⟨hc50,h⟩:=ifp_some h
    refine vq (.own 8 [(IntKind.i64.wrap (x37*r2)).toNat] [(IntKind.i64.wrap (x37*r2)).toNat*1]) rfl (lmap hc50) ?_
    have hs51:StOk [(IntKind.i64.wrap (x37*r2)).toNat] (.row 1 (x38.map (AV.int .i64))) [(IntKind.i64.wrap (x37*r2)).toNat*1] 1 (i6 (rd a1 x37.toNat)) (.row 1 (((x38.set (IntKind.i64.wrap (x37*r2)).toNat (rd a1 x37.toNat))).map (AV.int .i64))):=(.row (y:=(rd a1 x37.toNat)) (llt hc50) rfl (.nil rfl rfl rfl rfl))
    refine vu .top [(8,bk (.row 1 (((x38.set (IntKind.i64.wrap (x37*r2)).toNat (rd a1 x37.toNat))).map (AV.int .i64))))] (st_own (i:=⟨.int .i64,1,8,(.int .i64 0)⟩) rfl rfl (fun _=>rfl) rfl hs51) (hs51.c rfl) rfl (a_nil (b_norm (nj ⟨[(7,i6 r2),(8,.osl 8),(23,eSi64 a1),(24,i6 (a1.length:Int)),(25,i6 x37)],[(8,bk (.row 1 (((x38.set (IntKind.i64.wrap (x37*r2)).toNat (rd a1 x37.toNat))).map (AV.int .i64))))]⟩ (a_region (vr (i6 (IntKind.i64.wrap (x37 + 1))) (vr (i6 (IntKind.i64.wrap (x37 + 1))) (a_nil ?_)))))))
    cases h
    exact ag hX46
 ·have h:=ite_t hb1 h
  refine a_cond_t rfl (sr (vr (eSi64 ([])) (nx _ rfl (a_ret (t_ret ?_)))))
  refine ⟨.inr rfl,?_⟩
  rw [Tryz.results155]
  cases h
  exact ⟨_,_,_,_,_,rfl,trivial,.inl ⟨rfl,.inl rfl⟩,rfl,rfl⟩
end Go.Proofs.YtkbnegemdlnncaaGreat
