/- Functions of the program: plain Lean functions, and that the program computes them. Printed by gen.py. -/
import Derived.Test.YtkbnegemdlnncaaGreatFnT
import Derived.Test.YtkbnegemdlnncaaGreatFn1
import Derived.Test.YtkbnegemdlnncaaGreatFn6
namespace Go.Proofs.YtkbnegemdlnncaaGreat
open Go.Abs Go.Proofs
set_option linter.unusedSimpArgs false
set_option linter.unusedVariables false
set_option maxHeartbeats 16000000
attribute [local irreducible] Abs.acode Abs.aops Abs.aopsT Abs.thenK Abs.blockK

def spec_l04Factorial_L:Live:=[(0,[0,1,2]),(1,[0,1,2,6]),(2,[0,1,2,6,8]),(3,[0,1,2,6,8,9]),(4,[0,1,2,6,8,9]),(5,[0,1,2,6,8,9]),(6,[0,1,2,6,8,9,10,11]),(7,[0,1,2,6,8,9,10]),(8,[0,1,2,6,8,9,10,11]),(9,[6]),(10,[0,1,2,6,8,9,10]),(11,[0,1,2,6,8,9,12,13]),(12,[6]),(13,[0,1,2,6,8,9,12]),(14,[6,8]),(100017,[0,1,2,6,8,9,17]),(100027,[0,1,2,6,8,9,10,11,27]),(100036,[0,1,2,6,8,9,10,36]),(100046,[0,1,2,6,8,9,12,46])]
noncomputable def spec_l04Factorial_l1 (a1:Int) (a0:Int) (x131:Bool) (x132:Int) (x133:(Vec Int 64)):Option ((Bool×Int×(Vec Int 64))⊕((Vec Int 64)⊕((Vec Int 64)×Bool))) :=
 (if (decide (x132 < a1)) then (Option.bind (spec_l04Bracket a0 a1 x132) fun r167=>(Option.bind (α:=(Bool×Bool×(Vec Int 64))) ((if x131 then (Option.bind (spec_l04Bracket a0 (IntKind.i64.wrap (x132 + 1)) 0) fun r181=>(some (true,r181.2,r181.1))) else (some (false,r167.2,r167.1)))) fun ⟨x174,x175,x176⟩=>(if (!x175) then (some (.inr ((.inr (((vrep 64 (0:Int)),false)))))) else (Option.bind (spec_l01Times a0 x133 x176) fun r187=>(if (!r187.2) then (some (.inr ((.inr (((vrep 64 (0:Int)),false)))))) else (some (.inl ((x174,IntKind.i64.wrap (x132 + 1),r187.1))))))))) else (some (.inr (.inl x133))))
noncomputable def spec_l04Factorial (a0:Int) (a1:Int) (a2:Bool):Option ((Vec Int 64)×Bool) :=
 (Option.bind (spec_l01One) fun r1=>(Option.bind (α:=((Vec Int 64)⊕((Vec Int 64)×Bool))) ((loopM (fun s:(Bool×Int×(Vec Int 64))=>spec_l04Factorial_l1 a1 a0 s.1 s.2.1 s.2.2) (a2,0,r1))) fun z=>match z with | .inl x98=>(some (x98,true)) | .inr r201=>(some r201)))
theorem spec_l04Factorial_ok (a0:Int) (a1:Int) (a2:Bool) (r:((Vec Int 64)×Bool)) (h:spec_l04Factorial a0 a1 a2=some r):Den Tryz.prog 123 [(i6 a0),(i6 a1),(.bool a2)] { r:=(.tuple [(eVb r.1),(.bool r.2)]) }:=by
 refine dd (rs:=[(eVb r.1),(.bool r.2)]) (L:=spec_l04Factorial_L) good [] Tryz.func123 Tryz.ntmps123 ?_
 refine ns ⟨[(0,i6 a0),(1,i6 a1),(2,.bool a2)],[]⟩ ?_
 refine sr (vo 1600 (eV0) rfl rfl (vr (.bool false) (nk ⟨[(0,i6 a0),(1,i6 a1),(2,.bool a2),(6,ow 6)],[(6,bk (eV0))]⟩ (sr ?_))))
 obtain ⟨r1,hr2,h⟩:=bind_some h
 refine ca (spec_l01One_ok r1 hr2) (vo 1800 (eV0) rfl rfl (vs (eVb r1) rfl rfl (fun _=>rfl) rfl rfl rfl rfl rfl rfl (nk ⟨[(0,i6 a0),(1,i6 a1),(2,.bool a2),(6,ow 6),(8,ow 8)],[(6,bk (eV0)),(8,bk (eVb r1))]⟩ ?_)))
 obtain ⟨y99,hy100,hk101⟩:=bind_some h
 clear h
 refine a_join (emb:=fun (s:(Vec Int 64))=>⟨[(6,ow 6),(8,ow 8)],[(6,bk (eV0)),(8,bk (eVb s))]⟩) (pre:=fun s=>(.inl s)=y99) ?_ ?_
 ·rintro x98 rfl
  have h:=hk101
  refine ns ⟨[(6,ow 6),(8,ow 8)],[(6,bk (eV0)),(8,bk (eVb x98))]⟩ (sr (vl (eVb x98) rfl rfl rfl rfl rfl rfl (vs (eVb x98) rfl rfl (fun _=>rfl) rfl rfl rfl rfl rfl rfl (vr (.bool true) (nx _ rfl (a_ret ?_))))))
  have hl200:LdOk [] (eVb x98) [] 64 true (eVb x98):=(.nil rfl rfl rfl)
  refine ⟨.inr rfl,?_⟩
  rw [Tryz.results123]
  cases h
  exact ⟨_,_,_,_,_,ld_own (i:=⟨.arr 64 5,64,64,(eVb (vrep 64 (0:Int)))⟩) rfl rfl rfl hl200,hl200.c,.inl ⟨rfl,.inl rfl⟩,rfl,⟨_,_,_,_,_,rfl,trivial,.inl ⟨rfl,.inl rfl⟩,rfl,rfl⟩⟩
 ·have h:=hy100
  refine sr (vr (i6 0) (nk ⟨[(0,i6 a0),(1,i6 a1),(2,.bool a2),(6,ow 6),(8,ow 8),(9,i6 0)],[(6,bk (eV0)),(8,bk (eVb r1))]⟩ (a_block ?_)))
  refine a_loop (emb:=fun (s:(Bool×Int×(Vec Int 64)))=>⟨[(0,i6 a0),(1,i6 a1),(2,.bool s.1),(6,ow 6),(8,ow 8),(9,i6 s.2.1)],[(6,bk (eV0)),(8,bk (eVb s.2.2))]⟩) (body:=(fun s:(Bool×Int×(Vec Int 64))=>spec_l04Factorial_l1 a1 a0 s.1 s.2.1 s.2.2)) (G:=fun q=>some q=some y99) h rfl ?_ (by kernel_rfl)
  rintro X163 ⟨x131,x132,x133⟩ x164 h hX165
  have h:spec_l04Factorial_l1 a1 a0 x131 x132 x133=some x164:=h
  refine ns ⟨[(0,i6 a0),(1,i6 a1),(2,.bool x131),(6,ow 6),(8,ow 8),(9,i6 x132)],[(6,bk (eV0)),(8,bk (eVb x133))]⟩ (a_seq (sr (vr (i6 x132) (vr (i6 a1) (vr (.bool ((decide (x132 < a1)))) (nk ⟨[(0,i6 a0),(1,i6 a1),(2,.bool x131),(6,ow 6),(8,ow 8),(9,i6 x132),(17,.bool ((decide (x132 < a1))))],[(6,bk (eV0)),(8,bk (eVb x133))]⟩ ?_))))))
  cases hb166:(decide (x132 < a1))
  ·have h:=ite_f hb166 h
   refine a_cond_f rfl (a_exit (t_exit ?_))
   cases h
   have h:=hX165
   refine t_exit (b_exit ?_)
   exact jl x133 h
  ·have h:=ite_t hb166 h
   refine a_cond_t rfl (a_skip (nj ⟨[(0,i6 a0),(1,i6 a1),(2,.bool x131),(6,ow 6),(8,ow 8),(9,i6 x132)],[(6,bk (eV0)),(8,bk (eVb x133))]⟩ (a_seq (a_block (sr (vr (i6 a0) (vr (i6 a1) (vr (i6 x132) ?_))))))))
   obtain ⟨r167,hr168,h⟩:=bind_some h
   refine ca (spec_l04Bracket_ok a0 a1 x132 r167 hr168) (vr (.tuple [(eVb r167.1),(.bool r167.2)]) (vb (eVb r167.1) rfl rfl (vb (.bool r167.2) rfl rfl (vo 2000 (eV0) rfl rfl (vs (eVb r167.1) rfl rfl (fun _=>rfl) rfl rfl rfl rfl rfl rfl (vr (.bool r167.2) (nk ⟨[(0,i6 a0),(1,i6 a1),(2,.bool x131),(6,ow 6),(8,ow 8),(9,i6 x132),(10,ow 10),(11,.bool r167.2)],[(6,bk (eV0)),(8,bk (eVb x133)),(10,bk (eVb r167.1))]⟩ ?_)))))))
   obtain ⟨y177,hy178,hk179⟩:=bind_some h
   clear h
   refine a_join (emb:=fun (s:(Bool×Bool×(Vec Int 64)))=>⟨[(0,i6 a0),(1,i6 a1),(2,.bool s.1),(6,ow 6),(8,ow 8),(9,i6 x132),(10,ow 10),(11,.bool s.2.1)],[(6,bk (eV0)),(8,bk (eVb x133)),(10,bk (eVb s.2.2))]⟩) (pre:=fun s=>s=y177) ?_ ?_
   ·rintro ⟨x174,x175,x176⟩ rfl
    have h:=hk179
    refine ns ⟨[(0,i6 a0),(1,i6 a1),(2,.bool x174),(6,ow 6),(8,ow 8),(9,i6 x132),(10,ow 10),(11,.bool x175)],[(6,bk (eV0)),(8,bk (eVb x133)),(10,bk (eVb x176))]⟩ (a_seq (sr (vr (.bool x175) (vr (.bool (!x175)) (nk ⟨[(0,i6 a0),(1,i6 a1),(2,.bool x174),(6,ow 6),(8,ow 8),(9,i6 x132),(10,ow 10),(36,.bool (!x175))],[(6,bk (eV0)),(8,bk (eVb x133)),(10,bk (eVb x176))]⟩ ?_)))))
    cases hb184:(!x175)
    ·have h:=ite_f hb184 h
     refine a_cond_f rfl (a_skip (nj ⟨[(0,i6 a0),(1,i6 a1),(2,.bool x174),(6,ow 6),(8,ow 8),(9,i6 x132),(10,ow 10)],[(6,bk (eV0)),(8,bk (eVb x133)),(10,bk (eVb x176))]⟩ (sr (vr (i6 a0) (vl (eVb x133) rfl rfl rfl rfl rfl rfl (vl (eVb x176) rfl rfl rfl rfl rfl rfl ?_))))))
     obtain ⟨r187,hr188,h⟩:=bind_some h
     refine ca (spec_l01Times_ok a0 x133 x176 r187 hr188) (vr (.tuple [(eVb r187.1),(.bool r187.2)]) (vb (eVb r187.1) rfl rfl (vb (.bool r187.2) rfl rfl (vo 2200 (eV0) rfl rfl (vs (eVb r187.1) rfl rfl (fun _=>rfl) rfl rfl rfl rfl rfl rfl (vr (.bool r187.2) (nk ⟨[(0,i6 a0),(1,i6 a1),(2,.bool x174),(6,ow 6),(8,ow 8),(9,i6 x132),(12,ow 12),(13,.bool r187.2)],[(6,bk (eV0)),(8,bk (eVb x133)),(12,bk (eVb r187.1))]⟩ (a_seq (sr ?_)))))))))
     refine vr (.bool r187.2) (vr (.bool (!r187.2)) (nk ⟨[(0,i6 a0),(1,i6 a1),(2,.bool x174),(6,ow 6),(8,ow 8),(9,i6 x132),(12,ow 12),(46,.bool (!r187.2))],[(6,bk (eV0)),(8,bk (eVb x133)),(12,bk (eVb r187.1))]⟩ ?_))
     cases hb190:(!r187.2)
     ·have h:=ite_f hb190 h
      refine a_cond_f rfl (a_skip (nj ⟨[(0,i6 a0),(1,i6 a1),(2,.bool x174),(6,ow 6),(8,ow 8),(9,i6 x132),(12,ow 12)],[(6,bk (eV0)),(8,bk (eVb x133)),(12,bk (eVb r187.1))]⟩ (a_region (vl (eVb r187.1) rfl rfl rfl rfl rfl rfl (vs (eVb r187.1) rfl rfl (fun _=>rfl) rfl rfl rfl rfl rfl rfl (a_nil (b_norm (nj ⟨[(0,i6 a0),(1,i6 a1),(2,.bool x174),(6,ow 6),(8,ow 8),(9,i6 x132)],[(6,bk (eV0)),(8,bk (eVb r187.1))]⟩ (a_region ?_)))))))))
      refine vr (i6 x132) (vr (i6 (IntKind.i64.wrap (x132 + 1))) (vr (i6 (IntKind.i64.wrap (x132 + 1))) (a_nil ?_)))
      cases h
      exact ag hX165
     ·have h:=ite_t hb190 h
      refine a_cond_t rfl (sr (vq (eV0) rfl ⟨⟨_,rfl,rfl⟩,all_nil⟩ (vs (eV0) rfl rfl (fun _=>rfl) rfl rfl rfl rfl rfl rfl (vr (.bool false) (nx _ rfl (a_ret (t_ret (b_ret (t_ret ?_)))))))))
      cases h
      have h:=hX165
      refine t_ret (b_ret (t_ret ?_))
      cases h
      have h:=hk101
      have hl194:LdOk [] (eV0) [] 64 true (eV0):=(.nil rfl rfl rfl)
      refine ⟨.inr rfl,?_⟩
      rw [Tryz.results123]
      cases h
      exact ⟨_,_,_,_,_,ld_own (i:=⟨.arr 64 5,64,64,(eVb (vrep 64 (0:Int)))⟩) rfl rfl rfl hl194,hl194.c,.inl ⟨rfl,.inl rfl⟩,rfl,⟨_,_,_,_,_,rfl,trivial,.inl ⟨rfl,.inl rfl⟩,rfl,rfl⟩⟩
    ·have h:=ite_t hb184 h
     refine a_cond_t rfl (sr (vq (eV0) rfl ⟨⟨_,rfl,rfl⟩,all_nil⟩ (vs (eV0) rfl rfl (fun _=>rfl) rfl rfl rfl rfl rfl rfl (vr (.bool false) (nx _ rfl (a_ret (t_ret (b_ret (t_ret ?_)))))))))
     cases h
     have h:=hX165
     refine t_ret (b_ret (t_ret ?_))
     cases h
     have h:=hk101
     have hl196:LdOk [] (eV0) [] 64 true (eV0):=(.nil rfl rfl rfl)
     refine ⟨.inr rfl,?_⟩
     rw [Tryz.results123]
     cases h
     exact ⟨_,_,_,_,_,ld_own (i:=⟨.arr 64 5,64,64,(eVb (vrep 64 (0:Int)))⟩) rfl rfl rfl hl196,hl196.c,.inl ⟨rfl,.inl rfl⟩,rfl,⟨_,_,_,_,_,rfl,trivial,.inl ⟨rfl,.inl rfl⟩,rfl,rfl⟩⟩
   ·have h:=hy178
    refine sr (vr (.bool x131) (nk ⟨[(0,i6 a0),(1,i6 a1),(2,.bool x131),(6,ow 6),(8,ow 8),(9,i6 x132),(10,ow 10),(11,.bool r167.2),(27,.bool x131)],[(6,bk (eV0)),(8,bk (eVb x133)),(10,bk (eVb r167.1))]⟩ ?_))
    cases hb180:x131
    ·have h:=ite_f hb180 h
     refine a_cond_f rfl (a_skip ?_)
     exact jl (false,r167.2,r167.1) h
    ·have h:=ite_t hb180 h
     refine a_cond_t rfl (a_region (vr (i6 a0) (vr (i6 x132) (vr (i6 (IntKind.i64.wrap (x132 + 1))) ?_))))
     obtain ⟨r181,hr182,h⟩:=bind_some h
     refine ca (spec_l04Bracket_ok a0 (IntKind.i64.wrap (x132 + 1)) 0 r181 hr182) (vr (.tuple [(eVb r181.1),(.bool r181.2)]) (vb (eVb r181.1) rfl rfl (vb (.bool r181.2) rfl rfl (vs (eVb r181.1) rfl rfl (fun _=>rfl) rfl rfl rfl rfl rfl rfl (vr (.bool r181.2) (a_nil ?_))))))
     exact jl (true,r181.2,r181.1) h
def spec_l10Raised_L:Live:=[(0,[0,1,2]),(1,[0,2,4,6]),(2,[6,7])]
noncomputable def spec_l10Raised (a0:Int) (a1:(Vec Int 64)) (a2:Int):Option (Vec Int 64) :=
 (Option.bind (spec_l04Raise a0 a1 a2) fun r2=>(some r2.1))
theorem spec_l10Raised_ok (a0:Int) (a1:(Vec Int 64)) (a2:Int) (r:(Vec Int 64)) (h:spec_l10Raised a0 a1 a2=some r):Den Tryz.prog 125 [(i6 a0),(eVb a1),(i6 a2)] { r:=(eVb r) }:=by
 refine dd (rs:=[(eVb r)]) (L:=spec_l10Raised_L) good [] Tryz.func125 Tryz.ntmps125 ?_
 refine ns ⟨[(0,i6 a0),(1,eVb a1),(2,i6 a2)],[]⟩ ?_
 refine sr (vo 1400 (eVb a1) rfl rfl (vo 1600 (eV0) rfl rfl (nk ⟨[(0,i6 a0),(2,i6 a2),(4,ow 4),(6,ow 6)],[(4,bk (eVb a1)),(6,bk (eV0))]⟩ (sr (vr (i6 a0) (vl (eVb a1) rfl rfl rfl rfl rfl rfl (vr (i6 a2) ?_)))))))
 obtain ⟨r2,hr3,h⟩:=bind_some h
 refine ca (spec_l04Raise_ok a0 a1 a2 r2 hr3) (vr (.tuple [(eVb r2.1),(.bool r2.2)]) (vb (eVb r2.1) rfl rfl (vb (.bool r2.2) rfl rfl (vo 1700 (eV0) rfl rfl (vs (eVb r2.1) rfl rfl (fun _=>rfl) rfl rfl rfl rfl rfl rfl (vr (.bool r2.2) (nk ⟨[(6,ow 6),(7,ow 7)],[(6,bk (eV0)),(7,bk (eVb r2.1))]⟩ (sr (vl (eVb r2.1) rfl rfl rfl rfl rfl rfl ?_)))))))))
 refine vs (eVb r2.1) rfl rfl (fun _=>rfl) rfl rfl rfl rfl rfl rfl (nx _ rfl (a_ret ?_))
 have hl7:LdOk [] (eVb r2.1) [] 64 true (eVb r2.1):=(.nil rfl rfl rfl)
 refine ⟨.inr rfl,?_⟩
 rw [Tryz.results125]
 cases h
 exact ⟨_,_,_,_,_,ld_own (i:=⟨.arr 64 5,64,64,(eVb (vrep 64 (0:Int)))⟩) rfl rfl rfl hl7,hl7.c,.inl ⟨rfl,.inl rfl⟩,rfl,rfl⟩
def spec_l01Inverse_L:Live:=[(0,[0,1]),(1,[0,1]),(2,[0,1,5]),(3,[0,1,5]),(4,[0,1,5]),(5,[5]),(6,[]),(100008,[0,1,5,8]),(100017,[0,1,5,17])]
noncomputable def spec_l01Inverse_l1 (a0:Int) (a1:Int) (x29:Int):Option (Int⊕(Unit⊕Int)) :=
 (if (decide (x29 < a0)) then (ifp (a0 ≠ 0) ((letp (((Int.tmod (IntKind.i64.wrap (x29*(IntKind.i64.wrap a1))) a0) == 1)) fun x40=>(if x40 then (some (.inr ((.inr (IntKind.u8.wrap x29))))) else (some (.inl (IntKind.i64.wrap (x29 + 1)))))))) else (some (.inr (((.inl ()))))))
noncomputable def spec_l01Inverse (a0:Int) (a1:Int):Option Int :=
 (Option.bind (α:=(Unit⊕Int)) ((loopM (fun s:Int=>spec_l01Inverse_l1 a0 a1 s) 1)) fun z=>match z with | .inl _=>(some 0) | .inr r44=>(some r44))
theorem spec_l01Inverse_ok (a0:Int) (a1:Int) (r:Int) (h:spec_l01Inverse a0 a1=some r):Den Tryz.prog 129 [(i6 a0),(b8 a1)] { r:=(b8 r) }:=by
 refine dd (rs:=[(b8 r)]) (L:=spec_l01Inverse_L) good [] Tryz.func129 Tryz.ntmps129 ?_
 refine ns ⟨[(0,i6 a0),(1,b8 a1)],[]⟩ ?_
 refine sr (vr (b8 0) (nk ⟨[(0,i6 a0),(1,b8 a1)],[]⟩ ?_))
 obtain ⟨y21,hy22,hk23⟩:=bind_some h
 clear h
 refine a_join (emb:=fun (s:Unit)=>⟨[],[]⟩) (pre:=fun s=>(.inl s)=y21) ?_ ?_
 ·rintro _ rfl
  have h:=hk23
  refine ns ⟨[],[]⟩ (sr (vr (b8 0) (nx _ rfl (a_ret ?_))))
  refine ⟨.inr rfl,?_⟩
  rw [Tryz.results129]
  cases h
  exact ⟨_,_,_,_,_,rfl,trivial,.inl ⟨rfl,.inl rfl⟩,rfl,rfl⟩
 ·have h:=hy22
  refine sr (vr (i6 1) (nk ⟨[(0,i6 a0),(1,b8 a1),(5,i6 1)],[]⟩ (a_block ?_)))
  refine a_loop (emb:=fun (s:Int)=>⟨[(0,i6 a0),(1,b8 a1),(5,i6 s)],[]⟩) (body:=(fun s:Int=>spec_l01Inverse_l1 a0 a1 s)) (G:=fun q=>some q=some y21) h rfl ?_ (by kernel_rfl)
  rintro X35 x29 x36 h hX37
  have h:spec_l01Inverse_l1 a0 a1 x29=some x36:=h
  refine ns ⟨[(0,i6 a0),(1,b8 a1),(5,i6 x29)],[]⟩ (a_seq (sr (vr (i6 x29) (vr (i6 a0) (vr (.bool ((decide (x29 < a0)))) (nk ⟨[(0,i6 a0),(1,b8 a1),(5,i6 x29),(8,.bool ((decide (x29 < a0))))],[]⟩ ?_))))))
  cases hb38:(decide (x29 < a0))
  ·have h:=ite_f hb38 h
   refine a_cond_f rfl (a_exit (t_exit ?_))
   cases h
   have h:=hX37
   refine t_exit (b_exit ?_)
   exact jl () h
  ·have h:=ite_t hb38 h
   refine a_cond_t rfl (a_skip (nj ⟨[(0,i6 a0),(1,b8 a1),(5,i6 x29)],[]⟩ (a_seq (a_block (sr (vr (i6 x29) (vr (b8 a1) (vr (i6 (IntKind.i64.wrap a1)) (vr (i6 (IntKind.i64.wrap (x29*(IntKind.i64.wrap a1)))) ?_)))))))))
   refine vr (i6 a0) ?_
   obtain ⟨hc39,h⟩:=ifp_some h
   refine vq (i6 (Int.tmod (IntKind.i64.wrap (x29*(IntKind.i64.wrap a1))) a0)) rfl hc39 ?_
   obtain ⟨x40,hx41,h⟩:=letp_some h
   refine a_val' (v:=(.bool (((Int.tmod (IntKind.i64.wrap (x29*(IntKind.i64.wrap a1))) a0) == 1)))) (v':=(.bool x40)) (u:=[]) (u':=[]) rfl (congrArg (fun z=>((.bool z):AV)) hx41) rfl trivial rfl (nk ⟨[(0,i6 a0),(1,b8 a1),(5,i6 x29),(17,.bool x40)],[]⟩ ?_)
   cases hb42:x40
   ·have h:=ite_f hb42 h
    refine a_cond_f rfl (a_skip (b_norm (nj ⟨[(0,i6 a0),(1,b8 a1),(5,i6 x29)],[]⟩ (a_region (vr (i6 x29) (vr (i6 (IntKind.i64.wrap (x29 + 1))) (vr (i6 (IntKind.i64.wrap (x29 + 1))) (a_nil ?_))))))))
    cases h
    exact ag hX37
   ·have h:=ite_t hb42 h
    refine a_cond_t rfl (sr (vr (i6 x29) (vr (b8 (IntKind.u8.wrap x29)) (vr (b8 (IntKind.u8.wrap x29)) (nx _ rfl (a_ret (b_ret (t_ret ?_))))))))
    cases h
    have h:=hX37
    refine t_ret (b_ret (t_ret ?_))
    cases h
    have h:=hk23
    refine ⟨.inr rfl,?_⟩
    rw [Tryz.results129]
    cases h
    exact ⟨_,_,_,_,_,rfl,trivial,.inl ⟨rfl,.inl rfl⟩,rfl,rfl⟩
def spec_l01Divide_L:Live:=[(0,[0,1,2]),(1,[0,4,5,6,7]),(2,[0,4,5,6,7,8,9]),(3,[0,4,5,6,7,8,9,10]),(4,[0,4,5,6,7,8,9,10,11]),(5,[0,4,5,6,7,8,9,10,11]),(6,[0,4,5,6,7,8,9,10,11]),(7,[0,4,5,6,7,8,9,10,11,12]),(8,[0,4,5,6,7,8,9,10,11,12]),(9,[0,4,5,6,7,8,9,10,11,12,13]),(10,[0,4,5,6,7,8,9,10,11,12,13]),(11,[0,4,5,6,7,8,9,10,11,12,13]),(12,[4,6,7,8]),(100027,[0,4,5,6,7,8,9,10,11,27]),(100050,[0,4,5,6,7,8,9,10,11,12,13,50])]
noncomputable def spec_l01Divide_l2 (r2:Int) (x1405:Int) (a0:Int) (x995:Int) (a2:(Vec Int 64)) (x997:(Vec Int 64)) (x1449:Int) (x1450:(Vec Int 64)):Option ((Int×(Vec Int 64))⊕((Vec Int 64)×(Vec Int 64))) :=
 (Option.bind (α:=Bool) ((if (decide (x1449≤r2)) then (some (((Int.tmod x1405 a0) != 0))) else (some false))) fun x1494=>(if x1494 then (ifp (0≤IntKind.i64.wrap ((IntKind.i64.wrap (x995 - r2)) + x1449)∧IntKind.i64.wrap ((IntKind.i64.wrap (x995 - r2)) + x1449) < ((64:Nat):Int)) ((letp ((rd x1450.1 (IntKind.i64.wrap ((IntKind.i64.wrap (x995 - r2)) + x1449)).toNat)) fun x1518=>(ifp (0≤x1449∧x1449 < ((64:Nat):Int)) ((letp (IntKind.i64.wrap ((Int.tmod x1405 a0)*(IntKind.i64.wrap (rd a2.1 x1449.toNat)))) fun x1522=>(ifp (a0 ≠ 0) ((letp (Int.tmod (IntKind.i64.wrap ((IntKind.i64.wrap x1518) - x1522)) a0) fun x1525=>(ifp (a0 ≠ 0) ((letp (IntKind.u8.wrap (Int.tmod (IntKind.i64.wrap (x1525 + a0)) a0)) fun x1528=>(ifp (0≤IntKind.i64.wrap ((IntKind.i64.wrap (x995 - r2)) + x1449)∧IntKind.i64.wrap ((IntKind.i64.wrap (x995 - r2)) + x1449) < ((64:Nat):Int)) ((some (.inl ((IntKind.i64.wrap (x1449 + 1),(vset x1450 (IntKind.i64.wrap ((IntKind.i64.wrap (x995 - r2)) + x1449)).toNat x1528))))))))))))))))))) else (some (.inr (((x1450,(vset x997 (IntKind.i64.wrap (x995 - r2)).toNat (IntKind.u8.wrap (Int.tmod x1405 a0))))))))))
noncomputable def spec_l01Divide_l1 (r2:Int) (r7:Int) (a0:Int) (a2:(Vec Int 64)) (x995:Int) (x996:(Vec Int 64)) (x997:(Vec Int 64)):Option ((Int×(Vec Int 64)×(Vec Int 64))⊕((Vec Int 64)×(Vec Int 64))) :=
 (if (decide (x995 ≥ r2)) then (Option.bind (α:=((Vec Int 64)×(Vec Int 64))) ((ifp (0≤x995∧x995 < ((64:Nat):Int)) ((letp (IntKind.i64.wrap ((IntKind.i64.wrap (rd x996.1 x995.toNat))*(IntKind.i64.wrap r7))) fun x1405=>(ifp (a0 ≠ 0) ((ifp (0≤IntKind.i64.wrap (x995 - r2)∧IntKind.i64.wrap (x995 - r2) < ((64:Nat):Int)) ((loopM (fun s:(Int×(Vec Int 64))=>spec_l01Divide_l2 r2 x1405 a0 x995 a2 x997 s.1 s.2) (0,x996)))))))))) fun ⟨x1398,x1399⟩=>(some (.inl ((IntKind.i64.wrap (x995 - 1),x1398,x1399))))) else (some (.inr (x996,x997))))
noncomputable def spec_l01Divide (a0:Int) (a1:(Vec Int 64)) (a2:(Vec Int 64)):Option ((Vec Int 64)×(Vec Int 64)) :=
 (Option.bind (spec_l01Deg a2) fun r2=>(ifp (0≤r2∧r2 < ((64:Nat):Int)) ((Option.bind (spec_l01Inverse a0 (rd a2.1 r2.toNat)) fun r7=>(Option.bind (α:=((Vec Int 64)×(Vec Int 64))) ((Option.bind (spec_l01Deg a1) fun r751=>(loopM (fun s:(Int×(Vec Int 64)×(Vec Int 64))=>spec_l01Divide_l1 r2 r7 a0 a2 s.1 s.2.1 s.2.2) (r751,a1,(vrep 64 (0:Int)))))) fun ⟨x745,x746⟩=>(some (x746,x745)))))))
theorem spec_l01Divide_ok (a0:Int) (a1:(Vec Int 64)) (a2:(Vec Int 64)) (r:((Vec Int 64)×(Vec Int 64))) (h:spec_l01Divide a0 a1 a2=some r):Den Tryz.prog 126 [(i6 a0),(eVb a1),(eVb a2)] { r:=(.tuple [(eVb r.1),(eVb r.2)]) }:=by
 refine dd (rs:=[(eVb r.1),(eVb r.2)]) (L:=spec_l01Divide_L) good [] Tryz.func126 Tryz.ntmps126 ?_
 refine ns ⟨[(0,i6 a0),(1,eVb a1),(2,eVb a2)],[]⟩ ?_
 refine sr (vo 1400 (eVb a1) rfl rfl (vo 1500 (eVb a2) rfl rfl (vo 1600 (eV0) rfl rfl (vo 1700 (eV0) rfl rfl (nk ⟨[(0,i6 a0),(4,ow 4),(5,ow 5),(6,ow 6),(7,ow 7)],[(4,bk (eVb a1)),(5,bk (eVb a2)),(6,bk (eV0)),(7,bk (eV0))]⟩ (sr (vq (eV0) rfl ⟨⟨_,rfl,rfl⟩,all_nil⟩ (vl (eVb a2) rfl rfl rfl rfl rfl rfl ?_))))))))
 obtain ⟨r2,hr3,h⟩:=bind_some h
 refine ca (spec_l01Deg_ok a2 r2 hr3) (vo 1800 (eV0) rfl rfl (vs (eV0) rfl rfl (fun _=>rfl) rfl rfl rfl rfl rfl rfl (vr (i6 r2) (nk ⟨[(0,i6 a0),(4,ow 4),(5,ow 5),(6,ow 6),(7,ow 7),(8,ow 8),(9,i6 r2)],[(4,bk (eVb a1)),(5,bk (eVb a2)),(6,bk (eV0)),(7,bk (eV0)),(8,bk (eV0))]⟩ (sr (vr (i6 a0) (vr (i6 r2) ?_)))))))
 obtain ⟨hc5,h⟩:=ifp_some h
 refine vq (.own 5 [r2.toNat] [r2.toNat*1]) rfl hc5 ?_
 have hl6:LdOk [r2.toNat] (eVb a2) [r2.toNat*1] 1 false (b8 (rd a2.1 r2.toNat)):=(.arr (vlt a2 hc5) rfl (.nil rfl rfl rfl))
 refine vq (b8 (rd a2.1 r2.toNat)) (ld_own (i:=⟨.int .u8,1,1,(.int .u8 0)⟩) rfl rfl rfl hl6) hl6.c ?_
 obtain ⟨r7,hr8,h⟩:=bind_some h
 refine ca (spec_l01Inverse_ok a0 (rd a2.1 r2.toNat) r7 hr8) (vr (i6 (IntKind.i64.wrap r7)) (vr (i6 (IntKind.i64.wrap r7)) (nk ⟨[(0,i6 a0),(4,ow 4),(5,ow 5),(6,ow 6),(7,ow 7),(8,ow 8),(9,i6 r2),(10,i6 (IntKind.i64.wrap r7))],[(4,bk (eVb a1)),(5,bk (eVb a2)),(6,bk (eV0)),(7,bk (eV0)),(8,bk (eV0))]⟩ ?_)))
 obtain ⟨y747,hy748,hk749⟩:=bind_some h
 clear h
 refine a_join (emb:=fun (s:((Vec Int 64)×(Vec Int 64)))=>⟨[(4,ow 4),(6,ow 6),(7,ow 7),(8,ow 8)],[(4,bk (eVb s.1)),(6,bk (eV0)),(7,bk (eV0)),(8,bk (eVb s.2))]⟩) (pre:=fun s=>s=y747) ?_ ?_
 ·rintro ⟨x745,x746⟩ rfl
  have h:=hk749
  refine ns ⟨[(4,ow 4),(6,ow 6),(7,ow 7),(8,ow 8)],[(4,bk (eVb x745)),(6,bk (eV0)),(7,bk (eV0)),(8,bk (eVb x746))]⟩ (a_seq (a_draw [⟨[8],[],[],[]⟩,⟨[4],[],[],[]⟩,⟨[6],[6],[],[0]⟩,⟨[7],[7],[],[0,1,2]⟩] (by kernel_rfl) (d_cons (vl (eVb x746) rfl rfl rfl rfl rfl rfl (dn (d_cons (vl (eVb x745) rfl rfl rfl rfl rfl rfl (dn (d_cons ?_)))))))))
  refine vs (eVb x746) rfl rfl (fun _=>rfl) rfl rfl rfl rfl rfl rfl (dn (d_cons (vs (eVb x745) rfl rfl (fun _=>rfl) rfl rfl rfl rfl rfl rfl (dn (d_nil (a_next rfl (a_ret ?_)))))))
  have hl1542:LdOk [] (eVb x746) [] 64 true (eVb x746):=(.nil rfl rfl rfl)
  have hl1543:LdOk [] (eVb x745) [] 64 true (eVb x745):=(.nil rfl rfl rfl)
  refine ⟨.inr rfl,?_⟩
  rw [Tryz.results126]
  cases h
  exact ⟨_,_,_,_,_,ld_own (i:=⟨.arr 64 5,64,64,(eVb (vrep 64 (0:Int)))⟩) rfl rfl rfl hl1542,hl1542.c,.inl ⟨rfl,.inl rfl⟩,rfl,⟨_,_,_,_,_,ld_own (i:=⟨.arr 64 5,64,64,(eVb (vrep 64 (0:Int)))⟩) rfl rfl rfl hl1543,hl1543.c,.inl ⟨rfl,.inl rfl⟩,rfl,rfl⟩⟩
 ·have h:=hy748
  refine sr (vl (eVb a1) rfl rfl rfl rfl rfl rfl ?_)
  obtain ⟨r751,hr752,h⟩:=bind_some h
  refine ca (spec_l01Deg_ok a1 r751 hr752) (vr (i6 r751) (nk ⟨[(0,i6 a0),(4,ow 4),(5,ow 5),(6,ow 6),(7,ow 7),(8,ow 8),(9,i6 r2),(10,i6 (IntKind.i64.wrap r7)),(11,i6 r751)],[(4,bk (eVb a1)),(5,bk (eVb a2)),(6,bk (eV0)),(7,bk (eV0)),(8,bk (eV0))]⟩ (a_block ?_)))
  refine a_loop (emb:=fun (s:(Int×(Vec Int 64)×(Vec Int 64)))=>⟨[(0,i6 a0),(4,ow 4),(5,ow 5),(6,ow 6),(7,ow 7),(8,ow 8),(9,i6 r2),(10,i6 (IntKind.i64.wrap r7)),(11,i6 s.1)],[(4,bk (eVb s.2.1)),(5,bk (eVb a2)),(6,bk (eV0)),(7,bk (eV0)),(8,bk (eVb s.2.2))]⟩) (body:=(fun s:(Int×(Vec Int 64)×(Vec Int 64))=>spec_l01Divide_l1 r2 r7 a0 a2 s.1 s.2.1 s.2.2)) (G:=fun q=>some q=some y747) h rfl ?_ (by kernel_rfl)
  rintro X1264 ⟨x995,x996,x997⟩ x1265 h hX1266
  have h:spec_l01Divide_l1 r2 r7 a0 a2 x995 x996 x997=some x1265:=h
  refine ns ⟨[(0,i6 a0),(4,ow 4),(5,ow 5),(6,ow 6),(7,ow 7),(8,ow 8),(9,i6 r2),(10,i6 (IntKind.i64.wrap r7)),(11,i6 x995)],[(4,bk (eVb x996)),(5,bk (eVb a2)),(6,bk (eV0)),(7,bk (eV0)),(8,bk (eVb x997))]⟩ (a_seq (sr (vr (i6 x995) (vr (i6 r2) (vr (.bool ((decide (x995 ≥ r2)))) (nk ⟨[(0,i6 a0),(4,ow 4),(5,ow 5),(6,ow 6),(7,ow 7),(8,ow 8),(9,i6 r2),(10,i6 (IntKind.i64.wrap r7)),(11,i6 x995),(27,.bool ((decide (x995 ≥ r2))))],[(4,bk (eVb x996)),(5,bk (eVb a2)),(6,bk (eV0)),(7,bk (eV0)),(8,bk (eVb x997))]⟩ ?_))))))
  cases hb1267:(decide (x995 ≥ r2))
  ·have h:=ite_f hb1267 h
   refine a_cond_f rfl (a_exit (t_exit ?_))
   cases h
   have h:=hX1266
   refine t_exit (b_exit ?_)
   exact jl (x996,x997) h
  ·have h:=ite_t hb1267 h
   refine a_cond_t rfl (a_skip (nj ⟨[(0,i6 a0),(4,ow 4),(5,ow 5),(6,ow 6),(7,ow 7),(8,ow 8),(9,i6 r2),(10,i6 (IntKind.i64.wrap r7)),(11,i6 x995)],[(4,bk (eVb x996)),(5,bk (eVb a2)),(6,bk (eV0)),(7,bk (eV0)),(8,bk (eVb x997))]⟩ ?_))
   obtain ⟨y1400,hy1401,hk1402⟩:=bind_some h
   clear h
   refine a_join (emb:=fun (s:((Vec Int 64)×(Vec Int 64)))=>⟨[(0,i6 a0),(4,ow 4),(5,ow 5),(6,ow 6),(7,ow 7),(8,ow 8),(9,i6 r2),(10,i6 (IntKind.i64.wrap r7)),(11,i6 x995)],[(4,bk (eVb s.1)),(5,bk (eVb a2)),(6,bk (eV0)),(7,bk (eV0)),(8,bk (eVb s.2))]⟩) (pre:=fun s=>s=y1400) ?_ ?_
   ·rintro ⟨x1398,x1399⟩ rfl
    have h:=hk1402
    refine ns ⟨[(0,i6 a0),(4,ow 4),(5,ow 5),(6,ow 6),(7,ow 7),(8,ow 8),(9,i6 r2),(10,i6 (IntKind.i64.wrap r7)),(11,i6 x995)],[(4,bk (eVb x1398)),(5,bk (eVb a2)),(6,bk (eV0)),(7,bk (eV0)),(8,bk (eVb x1399))]⟩ (a_region (vr (i6 x995) (vr (i6 (IntKind.i64.wrap (x995 - 1))) (vr (i6 (IntKind.i64.wrap (x995 - 1))) (a_nil ?_)))))
    cases h
    exact ag hX1266
   ·have h:=hy1401
    refine a_block (sr (vr (i6 x995) ?_))
    obtain ⟨hc1403,h⟩:=ifp_some h
    refine vq (.own 4 [x995.toNat] [x995.toNat*1]) rfl hc1403 ?_
    have hl1404:LdOk [x995.toNat] (eVb x996) [x995.toNat*1] 1 false (b8 (rd x996.1 x995.toNat)):=(.arr (vlt x996 hc1403) rfl (.nil rfl rfl rfl))
    refine vq (b8 (rd x996.1 x995.toNat)) (ld_own (i:=⟨.int .u8,1,1,(.int .u8 0)⟩) rfl rfl rfl hl1404) hl1404.c (vr (i6 (IntKind.i64.wrap (rd x996.1 x995.toNat))) (vr (i6 (IntKind.i64.wrap r7)) ?_))
    obtain ⟨x1405,hx1406,h⟩:=letp_some h
    refine a_val' (v:=(i6 (IntKind.i64.wrap ((IntKind.i64.wrap (rd x996.1 x995.toNat))*(IntKind.i64.wrap r7))))) (v':=(i6 x1405)) (u:=[]) (u':=[]) rfl (congrArg (fun z=>((i6 z):AV)) hx1406) rfl trivial rfl (vr (i6 a0) ?_)
    obtain ⟨hc1407,h⟩:=ifp_some h
    refine vq (i6 (Int.tmod x1405 a0)) rfl hc1407 (vr (i6 (Int.tmod x1405 a0)) (nk ⟨[(0,i6 a0),(4,ow 4),(5,ow 5),(6,ow 6),(7,ow 7),(8,ow 8),(9,i6 r2),(10,i6 (IntKind.i64.wrap r7)),(11,i6 x995),(12,i6 (Int.tmod x1405 a0))],[(4,bk (eVb x996)),(5,bk (eVb a2)),(6,bk (eV0)),(7,bk (eV0)),(8,bk (eVb x997))]⟩ (sr (vr (i6 x995) (vr (i6 r2) (vr (i6 (IntKind.i64.wrap (x995 - r2))) (vr (i6 (Int.tmod x1405 a0)) (vr (b8 (IntKind.u8.wrap (Int.tmod x1405 a0))) ?_))))))))
    obtain ⟨hc1408,h⟩:=ifp_some h
    refine vq (.own 8 [(IntKind.i64.wrap (x995 - r2)).toNat] [(IntKind.i64.wrap (x995 - r2)).toNat*1]) rfl hc1408 ?_
    have hs1409:StOk [(IntKind.i64.wrap (x995 - r2)).toNat] (eVb x997) [(IntKind.i64.wrap (x995 - r2)).toNat*1] 1 (b8 (IntKind.u8.wrap (Int.tmod x1405 a0))) (eVb ((vset x997 (IntKind.i64.wrap (x995 - r2)).toNat (IntKind.u8.wrap (Int.tmod x1405 a0))))):=(.arr (y:=IntKind.u8.wrap (Int.tmod x1405 a0)) (vlt x997 hc1408) rfl (.nil rfl rfl rfl rfl))
    refine vu .top [(8,bk (eVb ((vset x997 (IntKind.i64.wrap (x995 - r2)).toNat (IntKind.u8.wrap (Int.tmod x1405 a0))))))] (st_own (i:=⟨.int .u8,1,1,(.int .u8 0)⟩) rfl rfl (fun _=>rfl) rfl hs1409) (hs1409.c rfl) rfl (nk ⟨[(0,i6 a0),(4,ow 4),(5,ow 5),(6,ow 6),(7,ow 7),(8,ow 8),(9,i6 r2),(10,i6 (IntKind.i64.wrap r7)),(11,i6 x995),(12,i6 (Int.tmod x1405 a0))],[(4,bk (eVb x996)),(5,bk (eVb a2)),(6,bk (eV0)),(7,bk (eV0)),(8,bk (eVb ((vset x997 (IntKind.i64.wrap (x995 - r2)).toNat (IntKind.u8.wrap (Int.tmod x1405 a0))))))]⟩ (sr (vr (i6 0) (nk ⟨[(0,i6 a0),(4,ow 4),(5,ow 5),(6,ow 6),(7,ow 7),(8,ow 8),(9,i6 r2),(10,i6 (IntKind.i64.wrap r7)),(11,i6 x995),(12,i6 (Int.tmod x1405 a0)),(13,i6 0)],[(4,bk (eVb x996)),(5,bk (eVb a2)),(6,bk (eV0)),(7,bk (eV0)),(8,bk (eVb ((vset x997 (IntKind.i64.wrap (x995 - r2)).toNat (IntKind.u8.wrap (Int.tmod x1405 a0))))))]⟩ (a_block ?_)))))
    refine a_loop (emb:=fun (s:(Int×(Vec Int 64)))=>⟨[(0,i6 a0),(4,ow 4),(5,ow 5),(6,ow 6),(7,ow 7),(8,ow 8),(9,i6 r2),(10,i6 (IntKind.i64.wrap r7)),(11,i6 x995),(12,i6 (Int.tmod x1405 a0)),(13,i6 s.1)],[(4,bk (eVb s.2)),(5,bk (eVb a2)),(6,bk (eV0)),(7,bk (eV0)),(8,bk (eVb ((vset x997 (IntKind.i64.wrap (x995 - r2)).toNat (IntKind.u8.wrap (Int.tmod x1405 a0))))))]⟩) (body:=(fun s:(Int×(Vec Int 64))=>spec_l01Divide_l2 r2 x1405 a0 x995 a2 x997 s.1 s.2)) (G:=fun q=>some q=some y1400) h rfl ?_ (by kernel_rfl)
    rintro X1490 ⟨x1449,x1450⟩ x1491 h hX1492
    have h:spec_l01Divide_l2 r2 x1405 a0 x995 a2 x997 x1449 x1450=some x1491:=h
    refine ns ⟨[(0,i6 a0),(4,ow 4),(5,ow 5),(6,ow 6),(7,ow 7),(8,ow 8),(9,i6 r2),(10,i6 (IntKind.i64.wrap r7)),(11,i6 x995),(12,i6 (Int.tmod x1405 a0)),(13,i6 x1449)],[(4,bk (eVb x1450)),(5,bk (eVb a2)),(6,bk (eV0)),(7,bk (eV0)),(8,bk (eVb ((vset x997 (IntKind.i64.wrap (x995 - r2)).toNat (IntKind.u8.wrap (Int.tmod x1405 a0))))))]⟩ (a_seq ?_)
    obtain ⟨y1495,hy1496,hk1497⟩:=bind_some h
    clear h
    refine a_join (emb:=fun (s:Bool)=>⟨[(0,i6 a0),(4,ow 4),(5,ow 5),(6,ow 6),(7,ow 7),(8,ow 8),(9,i6 r2),(10,i6 (IntKind.i64.wrap r7)),(11,i6 x995),(12,i6 (Int.tmod x1405 a0)),(13,i6 x1449),(50,.bool s)],[(4,bk (eVb x1450)),(5,bk (eVb a2)),(6,bk (eV0)),(7,bk (eV0)),(8,bk (eVb ((vset x997 (IntKind.i64.wrap (x995 - r2)).toNat (IntKind.u8.wrap (Int.tmod x1405 a0))))))]⟩) (pre:=fun s=>s=y1495) ?_ ?_
    ·rintro x1494 rfl
     have h:=hk1497
     refine ns ⟨[(0,i6 a0),(4,ow 4),(5,ow 5),(6,ow 6),(7,ow 7),(8,ow 8),(9,i6 r2),(10,i6 (IntKind.i64.wrap r7)),(11,i6 x995),(12,i6 (Int.tmod x1405 a0)),(13,i6 x1449),(50,.bool x1494)],[(4,bk (eVb x1450)),(5,bk (eVb a2)),(6,bk (eV0)),(7,bk (eV0)),(8,bk (eVb ((vset x997 (IntKind.i64.wrap (x995 - r2)).toNat (IntKind.u8.wrap (Int.tmod x1405 a0))))))]⟩ ?_
     cases hb1499:x1494
     ·have h:=ite_f hb1499 h
      refine a_cond_f rfl (a_exit (t_exit ?_))
      cases h
      have h:=hX1492
      refine t_exit (b_exit (b_norm ?_))
      exact jl ((x1450,(vset x997 (IntKind.i64.wrap (x995 - r2)).toNat (IntKind.u8.wrap (Int.tmod x1405 a0))))) h
     ·have h:=ite_t hb1499 h
      refine a_cond_t rfl (a_skip (nj ⟨[(0,i6 a0),(4,ow 4),(5,ow 5),(6,ow 6),(7,ow 7),(8,ow 8),(9,i6 r2),(10,i6 (IntKind.i64.wrap r7)),(11,i6 x995),(12,i6 (Int.tmod x1405 a0)),(13,i6 x1449)],[(4,bk (eVb x1450)),(5,bk (eVb a2)),(6,bk (eV0)),(7,bk (eV0)),(8,bk (eVb ((vset x997 (IntKind.i64.wrap (x995 - r2)).toNat (IntKind.u8.wrap (Int.tmod x1405 a0))))))]⟩ (a_seq (a_block (a_draw [⟨[],[],[],[]⟩,⟨[],[],[],[]⟩,⟨[],[],[],[0,1]⟩,⟨[],[],[],[]⟩,⟨[],[],[],[0,1,2,3]⟩,⟨[],[],[],[]⟩,⟨[],[],[],[]⟩,⟨[],[],[],[5,6]⟩,⟨[],[],[],[]⟩,⟨[],[],[],[5,6,7,8]⟩,⟨[4],[],[4],[5,6,7,8,9]⟩,⟨[4],[],[],[5,6,7,8,9,10]⟩,⟨[],[],[],[5,6,7,8,9,10,11]⟩,⟨[],[],[],[]⟩,⟨[],[],[],[]⟩,⟨[5],[],[5],[14]⟩,⟨[5],[],[],[14,15]⟩,⟨[],[],[],[14,15,16]⟩,⟨[],[],[],[13,14,15,16,17]⟩,⟨[],[],[],[5,6,7,8,9,10,11,12,13,14,15,16,17,18]⟩,⟨[],[],[],[]⟩,⟨[],[],[],[5,6,7,8,9,10,11,12,13,14,15,16,17,18,19,20]⟩,⟨[],[],[],[]⟩,⟨[],[],[],[5,6,7,8,9,10,11,12,13,14,15,16,17,18,19,20,21,22]⟩,⟨[],[],[],[]⟩,⟨[],[],[],[5,6,7,8,9,10,11,12,13,14,15,16,17,18,19,20,21,22,23,24]⟩,⟨[],[],[],[5,6,7,8,9,10,11,12,13,14,15,16,17,18,19,20,21,22,23,24,25]⟩,⟨[4],[],[4],[0,1,2,3,4,5,6,7,8,9,10,11,12,13,14,15,16,17,18,19,20,21,22,23,24,25,26]⟩,⟨[4],[4],[],[0,1,2,3,4,5,6,7,8,9,10,11,12,13,14,15,16,17,18,19,20,21,22,23,24,25,26,27]⟩] (by kernel_rfl) (dj (i6 x995) rfl (dj (i6 r2) rfl (dj (i6 (IntKind.i64.wrap (x995 - r2))) rfl (dj (i6 x1449) rfl ?_)))))))))
      refine dj (i6 (IntKind.i64.wrap ((IntKind.i64.wrap (x995 - r2)) + x1449))) rfl (dj (i6 x995) rfl (dj (i6 r2) rfl (dj (i6 (IntKind.i64.wrap (x995 - r2))) rfl (dj (i6 x1449) rfl (dj (i6 (IntKind.i64.wrap ((IntKind.i64.wrap (x995 - r2)) + x1449))) rfl (d_cons ?_))))))
      obtain ⟨hc1516,h⟩:=ifp_some h
      refine vq (.own 4 [(IntKind.i64.wrap ((IntKind.i64.wrap (x995 - r2)) + x1449)).toNat] [(IntKind.i64.wrap ((IntKind.i64.wrap (x995 - r2)) + x1449)).toNat*1]) rfl hc1516 (dn (d_cons ?_))
      have hl1517:LdOk [(IntKind.i64.wrap ((IntKind.i64.wrap (x995 - r2)) + x1449)).toNat] (eVb x1450) [(IntKind.i64.wrap ((IntKind.i64.wrap (x995 - r2)) + x1449)).toNat*1] 1 false (b8 ((rd x1450.1 (IntKind.i64.wrap ((IntKind.i64.wrap (x995 - r2)) + x1449)).toNat))):=(.arr (vlt x1450 hc1516) rfl (.nil rfl rfl rfl))
      obtain ⟨x1518,hx1519,h⟩:=letp_some h
      refine a_val' (v:=(b8 ((rd x1450.1 (IntKind.i64.wrap ((IntKind.i64.wrap (x995 - r2)) + x1449)).toNat)))) (v':=(b8 x1518)) (u:=[]) (u':=[]) (ld_own (i:=⟨.int .u8,1,1,(.int .u8 0)⟩) rfl rfl rfl hl1517) (congrArg (fun z=>((b8 z):AV)) hx1519) rfl hl1517.c rfl (dn (dj (i6 (IntKind.i64.wrap x1518)) rfl (dj (i6 (Int.tmod x1405 a0)) rfl (dj (i6 x1449) rfl (d_cons ?_)))))
      obtain ⟨hc1520,h⟩:=ifp_some h
      refine vq (.own 5 [x1449.toNat] [x1449.toNat*1]) rfl hc1520 (dn (d_cons ?_))
      have hl1521:LdOk [x1449.toNat] (eVb a2) [x1449.toNat*1] 1 false (b8 (rd a2.1 x1449.toNat)):=(.arr (vlt a2 hc1520) rfl (.nil rfl rfl rfl))
      refine vq (b8 (rd a2.1 x1449.toNat)) (ld_own (i:=⟨.int .u8,1,1,(.int .u8 0)⟩) rfl rfl rfl hl1521) hl1521.c (dn (dj (i6 (IntKind.i64.wrap (rd a2.1 x1449.toNat))) rfl (d_cons ?_)))
      obtain ⟨x1522,hx1523,h⟩:=letp_some h
      refine a_val' (v:=(i6 (IntKind.i64.wrap ((Int.tmod x1405 a0)*(IntKind.i64.wrap (rd a2.1 x1449.toNat)))))) (v':=(i6 x1522)) (u:=[]) (u':=[]) rfl (congrArg (fun z=>((i6 z):AV)) hx1523) rfl trivial rfl (dn (dj (i6 (IntKind.i64.wrap ((IntKind.i64.wrap x1518) - x1522))) rfl (dj (i6 a0) rfl (d_cons ?_))))
      obtain ⟨hc1524,h⟩:=ifp_some h
      obtain ⟨x1525,hx1526,h⟩:=letp_some h
      refine a_val' (v:=(i6 (Int.tmod (IntKind.i64.wrap ((IntKind.i64.wrap x1518) - x1522)) a0))) (v':=(i6 x1525)) (u:=[]) (u':=[]) rfl (congrArg (fun z=>((i6 z):AV)) hx1526) rfl hc1524 rfl (dn (dj (i6 a0) rfl (dj (i6 (IntKind.i64.wrap (x1525 + a0))) rfl (dj (i6 a0) rfl (d_cons ?_)))))
      obtain ⟨hc1527,h⟩:=ifp_some h
      refine vq (i6 (Int.tmod (IntKind.i64.wrap (x1525 + a0)) a0)) rfl hc1527 (dn (d_cons ?_))
      obtain ⟨x1528,hx1529,h⟩:=letp_some h
      refine a_val' (v:=(b8 (IntKind.u8.wrap (Int.tmod (IntKind.i64.wrap (x1525 + a0)) a0)))) (v':=(b8 x1528)) (u:=[]) (u':=[]) rfl (congrArg (fun z=>((b8 z):AV)) hx1529) rfl trivial rfl (dn (d_cons ?_))
      obtain ⟨hc1530,h⟩:=ifp_some h
      refine vq (.own 4 [(IntKind.i64.wrap ((IntKind.i64.wrap (x995 - r2)) + x1449)).toNat] [(IntKind.i64.wrap ((IntKind.i64.wrap (x995 - r2)) + x1449)).toNat*1]) rfl hc1530 (dn (d_cons ?_))
      have hs1531:StOk [(IntKind.i64.wrap ((IntKind.i64.wrap (x995 - r2)) + x1449)).toNat] (eVb x1450) [(IntKind.i64.wrap ((IntKind.i64.wrap (x995 - r2)) + x1449)).toNat*1] 1 (b8 x1528) (eVb ((vset x1450 (IntKind.i64.wrap ((IntKind.i64.wrap (x995 - r2)) + x1449)).toNat x1528))):=(.arr (y:=x1528) (vlt x1450 hc1530) rfl (.nil rfl rfl rfl rfl))
      refine vu .top [(4,bk (eVb ((vset x1450 (IntKind.i64.wrap ((IntKind.i64.wrap (x995 - r2)) + x1449)).toNat x1528))))] (st_own (i:=⟨.int .u8,1,1,(.int .u8 0)⟩) rfl rfl (fun _=>rfl) rfl hs1531) (hs1531.c rfl) rfl (dn (d_nil (b_norm (nj ⟨[(0,i6 a0),(4,ow 4),(5,ow 5),(6,ow 6),(7,ow 7),(8,ow 8),(9,i6 r2),(10,i6 (IntKind.i64.wrap r7)),(11,i6 x995),(12,i6 (Int.tmod x1405 a0)),(13,i6 x1449)],[(4,bk (eVb ((vset x1450 (IntKind.i64.wrap ((IntKind.i64.wrap (x995 - r2)) + x1449)).toNat x1528)))),(5,bk (eVb a2)),(6,bk (eV0)),(7,bk (eV0)),(8,bk (eVb ((vset x997 (IntKind.i64.wrap (x995 - r2)).toNat (IntKind.u8.wrap (Int.tmod x1405 a0))))))]⟩ (a_region (vr (i6 x1449) (vr (i6 (IntKind.i64.wrap (x1449 + 1))) (vr (i6 (IntKind.i64.wrap (x1449 + 1))) (a_nil ?_)))))))))
      cases h
      exact ag hX1492
    ·have h:=hy1496
     refine a_region (vr (i6 x1449) (vr (i6 r2) (vr (.bool ((decide (x1449≤r2)))) (vr (.bool ((decide (x1449≤r2)))) ?_))))
     cases hb1498:(decide (x1449≤r2))
     ·have h:=ite_f hb1498 h
      refine a_gskip rfl (a_gskip rfl (vr (.bool false) (a_nil ?_)))
      exact jl false h
     ·have h:=ite_t hb1498 h
      refine gp (i6 (Int.tmod x1405 a0)) rfl rfl (gp (.bool (((Int.tmod x1405 a0) != 0))) rfl rfl (vr (.bool (((Int.tmod x1405 a0) != 0))) (a_nil ?_)))
      exact jl (((Int.tmod x1405 a0) != 0)) h
def spec_l01Bezout_L:Live:=[(0,[0,1,2]),(1,[0,4,5,6,7,8]),(2,[0,4,5,6,7,8,9,10,11,12]),(3,[0,4,5,6,7,8,9,10,11,12]),(4,[0,4,5,6,7,8,9,10,11,12,13,14]),(5,[0,4,5,6,7,8,9,10,11,12,13,14,15]),(6,[0,4,5,6,7,8,9,10,11,12,14,15,17]),(7,[0,4,5,6,7,8,9,10,11,12,14,19,20]),(8,[0,4,5,6,7,8,9,10,11,12,14,19,20]),(9,[0,4,5,6,7,8,9,10,11,12,19,20]),(10,[0,4,5,6,7,8,9,10,11,12,19,20]),(11,[0,4,5,6,7,8,9,10,11,12,19,20]),(12,[0,4,5,6,7,8,9,10,11,12,20]),(13,[0,4,6,7,8,9,11]),(14,[0,4,6,7,8,9,11,21]),(100028,[0,4,5,6,7,8,9,10,11,12,28])]
noncomputable def spec_l01Bezout_l1 (a0:Int) (x233:(Vec Int 64)) (x234:(Vec Int 64)) (x235:(Vec Int 64)) (x236:(Vec Int 64)) (x237:(Vec Int 64)) (x238:(Vec Int 64)):Option (((Vec Int 64)×(Vec Int 64)×(Vec Int 64)×(Vec Int 64)×(Vec Int 64)×(Vec Int 64))⊕((Vec Int 64)×(Vec Int 64)×(Vec Int 64))) :=
 (Option.bind (spec_l01Deg x234) fun r295=>(if (decide (r295 ≥ 0)) then (Option.bind (spec_l01Divide a0 x233 x234) fun r300=>(Option.bind (spec_l01Times a0 r300.1 x236) fun r306=>(Option.bind (spec_l01Times a0 r300.1 x238) fun r311=>(Option.bind (spec_l01Add a0 x235 r306.1 (-1)) fun r326=>(Option.bind (spec_l01Add a0 x237 r311.1 (-1)) fun r330=>(some (.inl (x234,r300.2,x236,r326,x238,r330)))))))) else (some (.inr (x233,x235,x237)))))
noncomputable def spec_l01Bezout (a0:Int) (a1:(Vec Int 64)) (a2:(Vec Int 64)):Option ((Vec Int 64)×(Vec Int 64)×(Vec Int 64)) :=
 (Option.bind (spec_l01One) fun r1=>(Option.bind (spec_l01One) fun r3=>(Option.bind (α:=((Vec Int 64)×(Vec Int 64)×(Vec Int 64))) ((loopM (fun s:((Vec Int 64)×(Vec Int 64)×(Vec Int 64)×(Vec Int 64)×(Vec Int 64)×(Vec Int 64))=>spec_l01Bezout_l1 a0 s.1 s.2.1 s.2.2.1 s.2.2.2.1 s.2.2.2.2.1 s.2.2.2.2.2) (a1,a2,r1,(vrep 64 (0:Int)),(vrep 64 (0:Int)),r3))) fun ⟨x175,x176,x177⟩=>(Option.bind (spec_l01Deg x175) fun r348=>(ifp (0≤r348∧r348 < ((64:Nat):Int)) ((Option.bind (spec_l01Inverse a0 (rd x175.1 r348.toNat)) fun r352=>(Option.bind (spec_l01Add a0 ((vrep 64 (0:Int))) x175 (IntKind.i64.wrap r352)) fun r367=>(Option.bind (spec_l01Add a0 ((vrep 64 (0:Int))) x176 (IntKind.i64.wrap r352)) fun r370=>(Option.bind (spec_l01Add a0 ((vrep 64 (0:Int))) x177 (IntKind.i64.wrap r352)) fun r373=>(some (r367,r370,r373))))))))))))
theorem spec_l01Bezout_ok (a0:Int) (a1:(Vec Int 64)) (a2:(Vec Int 64)) (r:((Vec Int 64)×(Vec Int 64)×(Vec Int 64))) (h:spec_l01Bezout a0 a1 a2=some r):Den Tryz.prog 135 [(i6 a0),(eVb a1),(eVb a2)] { r:=(.tuple [(eVb r.1),(eVb r.2.1),(eVb r.2.2)]) }:=by
 refine dd (rs:=[(eVb r.1),(eVb r.2.1),(eVb r.2.2)]) (L:=spec_l01Bezout_L) good [] Tryz.func135 Tryz.ntmps135 ?_
 refine ns ⟨[(0,i6 a0),(1,eVb a1),(2,eVb a2)],[]⟩ ?_
 refine sr (vo 1400 (eVb a1) rfl rfl (vo 1500 (eVb a2) rfl rfl (vo 1600 (eV0) rfl rfl (vo 1700 (eV0) rfl rfl (vo 1800 (eV0) rfl rfl (nk ⟨[(0,i6 a0),(4,ow 4),(5,ow 5),(6,ow 6),(7,ow 7),(8,ow 8)],[(4,bk (eVb a1)),(5,bk (eVb a2)),(6,bk (eV0)),(7,bk (eV0)),(8,bk (eV0))]⟩ (sr ?_)))))))
 obtain ⟨r1,hr2,h⟩:=bind_some h
 refine ca (spec_l01One_ok r1 hr2) (vq (eV0) rfl ⟨⟨_,rfl,rfl⟩,all_nil⟩ (vq (eV0) rfl ⟨⟨_,rfl,rfl⟩,all_nil⟩ ?_))
 obtain ⟨r3,hr4,h⟩:=bind_some h
 refine ca (spec_l01One_ok r3 hr4) (vo 1900 (eV0) rfl rfl (vo 2000 (eV0) rfl rfl (vo 2100 (eV0) rfl rfl (vo 2200 (eV0) rfl rfl (vs (eVb r1) rfl rfl (fun _=>rfl) rfl rfl rfl rfl rfl rfl (vs (eV0) rfl rfl (fun _=>rfl) rfl rfl rfl rfl rfl rfl (vs (eV0) rfl rfl (fun _=>rfl) rfl rfl rfl rfl rfl rfl (vs (eVb r3) rfl rfl (fun _=>rfl) rfl rfl rfl rfl rfl rfl (nk ⟨[(0,i6 a0),(4,ow 4),(5,ow 5),(6,ow 6),(7,ow 7),(8,ow 8),(9,ow 9),(10,ow 10),(11,ow 11),(12,ow 12)],[(4,bk (eVb a1)),(5,bk (eVb a2)),(6,bk (eV0)),(7,bk (eV0)),(8,bk (eV0)),(9,bk (eVb r1)),(10,bk (eV0)),(11,bk (eV0)),(12,bk (eVb r3))]⟩ ?_)))))))))
 obtain ⟨y178,hy179,hk180⟩:=bind_some h
 clear h
 refine a_join (emb:=fun (s:((Vec Int 64)×(Vec Int 64)×(Vec Int 64)))=>⟨[(0,i6 a0),(4,ow 4),(6,ow 6),(7,ow 7),(8,ow 8),(9,ow 9),(11,ow 11)],[(4,bk (eVb s.1)),(6,bk (eV0)),(7,bk (eV0)),(8,bk (eV0)),(9,bk (eVb s.2.1)),(11,bk (eVb s.2.2))]⟩) (pre:=fun s=>s=y178) ?_ ?_
 ·rintro ⟨x175,x176,x177⟩ rfl
  have h:=hk180
  refine ns ⟨[(0,i6 a0),(4,ow 4),(6,ow 6),(7,ow 7),(8,ow 8),(9,ow 9),(11,ow 11)],[(4,bk (eVb x175)),(6,bk (eV0)),(7,bk (eV0)),(8,bk (eV0)),(9,bk (eVb x176)),(11,bk (eVb x177))]⟩ (sr (vr (i6 a0) (vl (eVb x175) rfl rfl rfl rfl rfl rfl ?_)))
  obtain ⟨r348,hr349,h⟩:=bind_some h
  refine ca (spec_l01Deg_ok x175 r348 hr349) ?_
  obtain ⟨hc350,h⟩:=ifp_some h
  refine vq (.own 4 [r348.toNat] [r348.toNat*1]) rfl hc350 ?_
  have hl351:LdOk [r348.toNat] (eVb x175) [r348.toNat*1] 1 false (b8 (rd x175.1 r348.toNat)):=(.arr (vlt x175 hc350) rfl (.nil rfl rfl rfl))
  refine vq (b8 (rd x175.1 r348.toNat)) (ld_own (i:=⟨.int .u8,1,1,(.int .u8 0)⟩) rfl rfl rfl hl351) hl351.c ?_
  obtain ⟨r352,hr353,h⟩:=bind_some h
  refine ca (spec_l01Inverse_ok a0 (rd x175.1 r348.toNat) r352 hr353) (vr (i6 (IntKind.i64.wrap r352)) (vr (i6 (IntKind.i64.wrap r352)) (nk ⟨[(0,i6 a0),(4,ow 4),(6,ow 6),(7,ow 7),(8,ow 8),(9,ow 9),(11,ow 11),(21,i6 (IntKind.i64.wrap r352))],[(4,bk (eVb x175)),(6,bk (eV0)),(7,bk (eV0)),(8,bk (eV0)),(9,bk (eVb x176)),(11,bk (eVb x177))]⟩ (a_seq (a_draw [⟨[],[],[],[]⟩,⟨[],[],[],[]⟩,⟨[4],[],[],[]⟩,⟨[],[],[],[]⟩,⟨[],[],[],[0,1,2,3]⟩,⟨[],[],[],[]⟩,⟨[],[],[],[]⟩,⟨[9],[],[],[]⟩,⟨[],[],[],[]⟩,⟨[],[],[],[0,1,2,3,4,5,6,7,8]⟩,⟨[],[],[],[]⟩,⟨[],[],[],[]⟩,⟨[11],[],[],[]⟩,⟨[],[],[],[]⟩,⟨[],[],[],[0,1,2,3,4,5,6,7,8,9,10,11,12,13]⟩,⟨[6],[6],[],[0,1,2,3,4,5,6,7,8,9,10,11,12,13,14]⟩,⟨[7],[7],[],[0,1,2,3,4,5,6,7,8,9,10,11,12,13,14,15]⟩,⟨[8],[8],[],[0,1,2,3,4,5,6,7,8,9,10,11,12,13,14,15,16]⟩] (by kernel_rfl) (dj (i6 a0) rfl (d_cons (vq (eV0) rfl ⟨⟨_,rfl,rfl⟩,all_nil⟩ (dn ?_)))))))))
  refine d_cons (vl (eVb x175) rfl rfl rfl rfl rfl rfl (dn (dj (i6 (IntKind.i64.wrap r352)) rfl (d_cons ?_))))
  obtain ⟨r367,hr368,h⟩:=bind_some h
  refine ca (spec_l01Add_ok a0 ((vrep 64 (0:Int))) x175 (IntKind.i64.wrap r352) r367 hr368) (dn (dj (i6 a0) rfl (d_cons (vq (eV0) rfl ⟨⟨_,rfl,rfl⟩,all_nil⟩ (dn (d_cons (vl (eVb x176) rfl rfl rfl rfl rfl rfl (dn (dj (i6 (IntKind.i64.wrap r352)) rfl ?_)))))))))
  refine d_cons ?_
  obtain ⟨r370,hr371,h⟩:=bind_some h
  refine ca (spec_l01Add_ok a0 ((vrep 64 (0:Int))) x176 (IntKind.i64.wrap r352) r370 hr371) (dn (dj (i6 a0) rfl (d_cons (vq (eV0) rfl ⟨⟨_,rfl,rfl⟩,all_nil⟩ (dn (d_cons (vl (eVb x177) rfl rfl rfl rfl rfl rfl (dn (dj (i6 (IntKind.i64.wrap r352)) rfl ?_)))))))))
  refine d_cons ?_
  obtain ⟨r373,hr374,h⟩:=bind_some h
  refine ca (spec_l01Add_ok a0 ((vrep 64 (0:Int))) x177 (IntKind.i64.wrap r352) r373 hr374) (dn (d_cons (vs (eVb r367) rfl rfl (fun _=>rfl) rfl rfl rfl rfl rfl rfl (dn (d_cons (vs (eVb r370) rfl rfl (fun _=>rfl) rfl rfl rfl rfl rfl rfl (dn (d_cons (vs (eVb r373) rfl rfl (fun _=>rfl) rfl rfl rfl rfl rfl rfl ?_)))))))))
  refine dn (d_nil (a_next rfl (a_ret ?_)))
  have hl378:LdOk [] (eVb r367) [] 64 true (eVb r367):=(.nil rfl rfl rfl)
  have hl379:LdOk [] (eVb r370) [] 64 true (eVb r370):=(.nil rfl rfl rfl)
  have hl380:LdOk [] (eVb r373) [] 64 true (eVb r373):=(.nil rfl rfl rfl)
  refine ⟨.inr rfl,?_⟩
  rw [Tryz.results135]
  cases h
  exact ⟨_,_,_,_,_,ld_own (i:=⟨.arr 64 5,64,64,(eVb (vrep 64 (0:Int)))⟩) rfl rfl rfl hl378,hl378.c,.inl ⟨rfl,.inl rfl⟩,rfl,⟨_,_,_,_,_,ld_own (i:=⟨.arr 64 5,64,64,(eVb (vrep 64 (0:Int)))⟩) rfl rfl rfl hl379,hl379.c,.inl ⟨rfl,.inl rfl⟩,rfl,⟨_,_,_,_,_,ld_own (i:=⟨.arr 64 5,64,64,(eVb (vrep 64 (0:Int)))⟩) rfl rfl rfl hl380,hl380.c,.inl ⟨rfl,.inl rfl⟩,rfl,rfl⟩⟩⟩
 ·have h:=hy179
  refine a_block ?_
  refine a_loop (emb:=fun (s:((Vec Int 64)×(Vec Int 64)×(Vec Int 64)×(Vec Int 64)×(Vec Int 64)×(Vec Int 64)))=>⟨[(0,i6 a0),(4,ow 4),(5,ow 5),(6,ow 6),(7,ow 7),(8,ow 8),(9,ow 9),(10,ow 10),(11,ow 11),(12,ow 12)],[(4,bk (eVb s.1)),(5,bk (eVb s.2.1)),(6,bk (eV0)),(7,bk (eV0)),(8,bk (eV0)),(9,bk (eVb s.2.2.1)),(10,bk (eVb s.2.2.2.1)),(11,bk (eVb s.2.2.2.2.1)),(12,bk (eVb s.2.2.2.2.2))]⟩) (body:=(fun s:((Vec Int 64)×(Vec Int 64)×(Vec Int 64)×(Vec Int 64)×(Vec Int 64)×(Vec Int 64))=>spec_l01Bezout_l1 a0 s.1 s.2.1 s.2.2.1 s.2.2.2.1 s.2.2.2.2.1 s.2.2.2.2.2)) (G:=fun q=>some q=some y178) h rfl ?_ (by kernel_rfl)
  rintro X291 ⟨x233,x234,x235,x236,x237,x238⟩ x292 h hX293
  have h:spec_l01Bezout_l1 a0 x233 x234 x235 x236 x237 x238=some x292:=h
  refine ns ⟨[(0,i6 a0),(4,ow 4),(5,ow 5),(6,ow 6),(7,ow 7),(8,ow 8),(9,ow 9),(10,ow 10),(11,ow 11),(12,ow 12)],[(4,bk (eVb x233)),(5,bk (eVb x234)),(6,bk (eV0)),(7,bk (eV0)),(8,bk (eV0)),(9,bk (eVb x235)),(10,bk (eVb x236)),(11,bk (eVb x237)),(12,bk (eVb x238))]⟩ (a_seq (sr (vl (eVb x234) rfl rfl rfl rfl rfl rfl ?_)))
  obtain ⟨r295,hr296,h⟩:=bind_some h
  refine ca (spec_l01Deg_ok x234 r295 hr296) (vr (.bool ((decide (r295 ≥ 0)))) (nk ⟨[(0,i6 a0),(4,ow 4),(5,ow 5),(6,ow 6),(7,ow 7),(8,ow 8),(9,ow 9),(10,ow 10),(11,ow 11),(12,ow 12),(28,.bool ((decide (r295 ≥ 0))))],[(4,bk (eVb x233)),(5,bk (eVb x234)),(6,bk (eV0)),(7,bk (eV0)),(8,bk (eV0)),(9,bk (eVb x235)),(10,bk (eVb x236)),(11,bk (eVb x237)),(12,bk (eVb x238))]⟩ ?_))
  cases hb297:(decide (r295 ≥ 0))
  ·have h:=ite_f hb297 h
   refine a_cond_f rfl (a_exit (t_exit ?_))
   cases h
   have h:=hX293
   refine t_exit (b_exit ?_)
   exact jl (x233,x235,x237) h
  ·have h:=ite_t hb297 h
   refine a_cond_t rfl (a_skip (nj ⟨[(0,i6 a0),(4,ow 4),(5,ow 5),(6,ow 6),(7,ow 7),(8,ow 8),(9,ow 9),(10,ow 10),(11,ow 11),(12,ow 12)],[(4,bk (eVb x233)),(5,bk (eVb x234)),(6,bk (eV0)),(7,bk (eV0)),(8,bk (eV0)),(9,bk (eVb x235)),(10,bk (eVb x236)),(11,bk (eVb x237)),(12,bk (eVb x238))]⟩ (a_block (sr (vr (i6 a0) (vl (eVb x233) rfl rfl rfl rfl rfl rfl (vl (eVb x234) rfl rfl rfl rfl rfl rfl ?_)))))))
   obtain ⟨r300,hr301,h⟩:=bind_some h
   refine ca (spec_l01Divide_ok a0 x233 x234 r300 hr301) (vr (.tuple [(eVb r300.1),(eVb r300.2)]) (vb (eVb r300.1) rfl rfl (vb (eVb r300.2) rfl rfl (vo 2300 (eV0) rfl rfl (vo 2400 (eV0) rfl rfl (vs (eVb r300.1) rfl rfl (fun _=>rfl) rfl rfl rfl rfl rfl rfl (vs (eVb r300.2) rfl rfl (fun _=>rfl) rfl rfl rfl rfl rfl rfl (nk ⟨[(0,i6 a0),(4,ow 4),(5,ow 5),(6,ow 6),(7,ow 7),(8,ow 8),(9,ow 9),(10,ow 10),(11,ow 11),(12,ow 12),(13,ow 13),(14,ow 14)],[(4,bk (eVb x233)),(5,bk (eVb x234)),(6,bk (eV0)),(7,bk (eV0)),(8,bk (eV0)),(9,bk (eVb x235)),(10,bk (eVb x236)),(11,bk (eVb x237)),(12,bk (eVb x238)),(13,bk (eVb r300.1)),(14,bk (eVb r300.2))]⟩ (sr ?_)))))))))
   refine vr (i6 a0) (vl (eVb r300.1) rfl rfl rfl rfl rfl rfl (vl (eVb x236) rfl rfl rfl rfl rfl rfl ?_))
   obtain ⟨r306,hr307,h⟩:=bind_some h
   refine ca (spec_l01Times_ok a0 r300.1 x236 r306 hr307) (vr (.tuple [(eVb r306.1),(.bool r306.2)]) (vb (eVb r306.1) rfl rfl (vb (.bool r306.2) rfl rfl (vo 2500 (eV0) rfl rfl (vs (eVb r306.1) rfl rfl (fun _=>rfl) rfl rfl rfl rfl rfl rfl (vr (.bool r306.2) (nk ⟨[(0,i6 a0),(4,ow 4),(5,ow 5),(6,ow 6),(7,ow 7),(8,ow 8),(9,ow 9),(10,ow 10),(11,ow 11),(12,ow 12),(13,ow 13),(14,ow 14),(15,ow 15)],[(4,bk (eVb x233)),(5,bk (eVb x234)),(6,bk (eV0)),(7,bk (eV0)),(8,bk (eV0)),(9,bk (eVb x235)),(10,bk (eVb x236)),(11,bk (eVb x237)),(12,bk (eVb x238)),(13,bk (eVb r300.1)),(14,bk (eVb r300.2)),(15,bk (eVb r306.1))]⟩ (sr (vr (i6 a0) ?_)))))))))
   refine vl (eVb r300.1) rfl rfl rfl rfl rfl rfl (vl (eVb x238) rfl rfl rfl rfl rfl rfl ?_)
   obtain ⟨r311,hr312,h⟩:=bind_some h
   refine ca (spec_l01Times_ok a0 r300.1 x238 r311 hr312) (vr (.tuple [(eVb r311.1),(.bool r311.2)]) (vb (eVb r311.1) rfl rfl (vb (.bool r311.2) rfl rfl (vo 2700 (eV0) rfl rfl (vs (eVb r311.1) rfl rfl (fun _=>rfl) rfl rfl rfl rfl rfl rfl (vr (.bool r311.2) (nk ⟨[(0,i6 a0),(4,ow 4),(5,ow 5),(6,ow 6),(7,ow 7),(8,ow 8),(9,ow 9),(10,ow 10),(11,ow 11),(12,ow 12),(14,ow 14),(15,ow 15),(17,ow 17)],[(4,bk (eVb x233)),(5,bk (eVb x234)),(6,bk (eV0)),(7,bk (eV0)),(8,bk (eV0)),(9,bk (eVb x235)),(10,bk (eVb x236)),(11,bk (eVb x237)),(12,bk (eVb x238)),(14,bk (eVb r300.2)),(15,bk (eVb r306.1)),(17,bk (eVb r311.1))]⟩ (a_seq (a_draw [⟨[],[],[],[]⟩,⟨[9],[],[],[]⟩,⟨[15],[],[],[]⟩,⟨[],[],[],[0,1,2]⟩,⟨[],[],[],[]⟩,⟨[11],[],[],[]⟩,⟨[17],[],[],[]⟩,⟨[],[],[],[0,1,2,3,4,5,6]⟩,⟨[2900],[2900],[2900],[]⟩,⟨[3000],[3000],[3000],[]⟩,⟨[2900],[2900],[],[0,1,2,3,4,5,6,7,8,9]⟩,⟨[3000],[3000],[],[0,1,2,3,4,5,6,7,8,9,10]⟩] (by kernel_rfl) ?_)))))))))
   refine dj (i6 a0) rfl (d_cons (vl (eVb x235) rfl rfl rfl rfl rfl rfl (dn (d_cons (vl (eVb r306.1) rfl rfl rfl rfl rfl rfl (dn (d_cons ?_)))))))
   obtain ⟨r326,hr327,h⟩:=bind_some h
   refine ca (spec_l01Add_ok a0 x235 r306.1 (-1) r326 hr327) (dn (dj (i6 a0) rfl (d_cons (vl (eVb x237) rfl rfl rfl rfl rfl rfl (dn (d_cons (vl (eVb r311.1) rfl rfl rfl rfl rfl rfl (dn (d_cons ?_)))))))))
   obtain ⟨r330,hr331,h⟩:=bind_some h
   refine ca (spec_l01Add_ok a0 x237 r311.1 (-1) r330 hr331) (dn (d_cons (vo 2900 (eV0) rfl rfl (dn (d_cons (vo 3000 (eV0) rfl rfl (dn (d_cons (vs (eVb r326) rfl rfl (fun _=>rfl) rfl rfl rfl rfl rfl rfl ?_)))))))))
   refine dn (d_cons (vs (eVb r330) rfl rfl (fun _=>rfl) rfl rfl rfl rfl rfl rfl (dn (d_nil (nj ⟨[(0,i6 a0),(4,ow 4),(5,ow 5),(6,ow 6),(7,ow 7),(8,ow 8),(9,ow 9),(10,ow 10),(11,ow 11),(12,ow 12),(14,ow 14),(19,ow 19),(20,ow 20)],[(4,bk (eVb x233)),(5,bk (eVb x234)),(6,bk (eV0)),(7,bk (eV0)),(8,bk (eV0)),(9,bk (eVb x235)),(10,bk (eVb x236)),(11,bk (eVb x237)),(12,bk (eVb x238)),(14,bk (eVb r300.2)),(19,bk (eVb r326)),(20,bk (eVb r330))]⟩ (sr (vl (eVb x234) rfl rfl rfl rfl rfl rfl (vs (eVb x234) rfl rfl (fun _=>rfl) rfl rfl rfl rfl rfl rfl (nk ⟨[(0,i6 a0),(4,ow 4),(5,ow 5),(6,ow 6),(7,ow 7),(8,ow 8),(9,ow 9),(10,ow 10),(11,ow 11),(12,ow 12),(14,ow 14),(19,ow 19),(20,ow 20)],[(4,bk (eVb x234)),(5,bk (eVb x234)),(6,bk (eV0)),(7,bk (eV0)),(8,bk (eV0)),(9,bk (eVb x235)),(10,bk (eVb x236)),(11,bk (eVb x237)),(12,bk (eVb x238)),(14,bk (eVb r300.2)),(19,bk (eVb r326)),(20,bk (eVb r330))]⟩ ?_)))))))))
   refine sr (vl (eVb r300.2) rfl rfl rfl rfl rfl rfl (vs (eVb r300.2) rfl rfl (fun _=>rfl) rfl rfl rfl rfl rfl rfl (nk ⟨[(0,i6 a0),(4,ow 4),(5,ow 5),(6,ow 6),(7,ow 7),(8,ow 8),(9,ow 9),(10,ow 10),(11,ow 11),(12,ow 12),(19,ow 19),(20,ow 20)],[(4,bk (eVb x234)),(5,bk (eVb r300.2)),(6,bk (eV0)),(7,bk (eV0)),(8,bk (eV0)),(9,bk (eVb x235)),(10,bk (eVb x236)),(11,bk (eVb x237)),(12,bk (eVb x238)),(19,bk (eVb r326)),(20,bk (eVb r330))]⟩ (sr (vl (eVb x236) rfl rfl rfl rfl rfl rfl (vs (eVb x236) rfl rfl (fun _=>rfl) rfl rfl rfl rfl rfl rfl (nk ⟨[(0,i6 a0),(4,ow 4),(5,ow 5),(6,ow 6),(7,ow 7),(8,ow 8),(9,ow 9),(10,ow 10),(11,ow 11),(12,ow 12),(19,ow 19),(20,ow 20)],[(4,bk (eVb x234)),(5,bk (eVb r300.2)),(6,bk (eV0)),(7,bk (eV0)),(8,bk (eV0)),(9,bk (eVb x236)),(10,bk (eVb x236)),(11,bk (eVb x237)),(12,bk (eVb x238)),(19,bk (eVb r326)),(20,bk (eVb r330))]⟩ (sr (vl (eVb x238) rfl rfl rfl rfl rfl rfl ?_)))))))))
   refine vs (eVb x238) rfl rfl (fun _=>rfl) rfl rfl rfl rfl rfl rfl (nk ⟨[(0,i6 a0),(4,ow 4),(5,ow 5),(6,ow 6),(7,ow 7),(8,ow 8),(9,ow 9),(10,ow 10),(11,ow 11),(12,ow 12),(19,ow 19),(20,ow 20)],[(4,bk (eVb x234)),(5,bk (eVb r300.2)),(6,bk (eV0)),(7,bk (eV0)),(8,bk (eV0)),(9,bk (eVb x236)),(10,bk (eVb x236)),(11,bk (eVb x238)),(12,bk (eVb x238)),(19,bk (eVb r326)),(20,bk (eVb r330))]⟩ (sr (vl (eVb r326) rfl rfl rfl rfl rfl rfl (vs (eVb r326) rfl rfl (fun _=>rfl) rfl rfl rfl rfl rfl rfl (nk ⟨[(0,i6 a0),(4,ow 4),(5,ow 5),(6,ow 6),(7,ow 7),(8,ow 8),(9,ow 9),(10,ow 10),(11,ow 11),(12,ow 12),(20,ow 20)],[(4,bk (eVb x234)),(5,bk (eVb r300.2)),(6,bk (eV0)),(7,bk (eV0)),(8,bk (eV0)),(9,bk (eVb x236)),(10,bk (eVb r326)),(11,bk (eVb x238)),(12,bk (eVb x238)),(20,bk (eVb r330))]⟩ (a_region (vl (eVb r330) rfl rfl rfl rfl rfl rfl (vs (eVb r330) rfl rfl (fun _=>rfl) rfl rfl rfl rfl rfl rfl (a_nil ?_)))))))))
   refine b_norm ?_
   cases h
   exact ag hX293
def spec_l01Gcd_L:Live:=[(0,[0,1,2]),(1,[0,4,5,6]),(2,[6]),(3,[0,4,5,6]),(4,[6,7]),(100017,[0,4,5,6,17])]
noncomputable def spec_l01Gcd (a0:Int) (a1:(Vec Int 64)) (a2:(Vec Int 64)):Option (Vec Int 64) :=
 (Option.bind (α:=Bool) ((Option.bind (spec_l01Deg a1) fun r13=>(if (decide (r13 < 0)) then (Option.bind (spec_l01Deg a2) fun r17=>(some ((decide (r17 < 0))))) else (some false)))) fun x8=>(if x8 then (some ((vrep 64 (0:Int)))) else (Option.bind (spec_l01Bezout a0 a1 a2) fun r22=>(some r22.1))))
theorem spec_l01Gcd_ok (a0:Int) (a1:(Vec Int 64)) (a2:(Vec Int 64)) (r:(Vec Int 64)) (h:spec_l01Gcd a0 a1 a2=some r):Den Tryz.prog 128 [(i6 a0),(eVb a1),(eVb a2)] { r:=(eVb r) }:=by
 refine dd (rs:=[(eVb r)]) (L:=spec_l01Gcd_L) good [] Tryz.func128 Tryz.ntmps128 ?_
 refine ns ⟨[(0,i6 a0),(1,eVb a1),(2,eVb a2)],[]⟩ ?_
 refine sr (vo 1400 (eVb a1) rfl rfl (vo 1500 (eVb a2) rfl rfl (vo 1600 (eV0) rfl rfl (nk ⟨[(0,i6 a0),(4,ow 4),(5,ow 5),(6,ow 6)],[(4,bk (eVb a1)),(5,bk (eVb a2)),(6,bk (eV0))]⟩ (a_seq ?_)))))
 obtain ⟨y9,hy10,hk11⟩:=bind_some h
 clear h
 refine a_join (emb:=fun (s:Bool)=>⟨[(0,i6 a0),(4,ow 4),(5,ow 5),(6,ow 6),(17,.bool s)],[(4,bk (eVb a1)),(5,bk (eVb a2)),(6,bk (eV0))]⟩) (pre:=fun s=>s=y9) ?_ ?_
 ·rintro x8 rfl
  have h:=hk11
  refine ns ⟨[(0,i6 a0),(4,ow 4),(5,ow 5),(6,ow 6),(17,.bool x8)],[(4,bk (eVb a1)),(5,bk (eVb a2)),(6,bk (eV0))]⟩ ?_
  cases hb19:x8
  ·have h:=ite_f hb19 h
   refine a_cond_f rfl (a_skip (nj ⟨[(0,i6 a0),(4,ow 4),(5,ow 5),(6,ow 6)],[(4,bk (eVb a1)),(5,bk (eVb a2)),(6,bk (eV0))]⟩ (sr (vr (i6 a0) (vl (eVb a1) rfl rfl rfl rfl rfl rfl (vl (eVb a2) rfl rfl rfl rfl rfl rfl ?_))))))
   obtain ⟨r22,hr23,h⟩:=bind_some h
   refine ca (spec_l01Bezout_ok a0 a1 a2 r22 hr23) (vr (.tuple [(eVb r22.1),(eVb r22.2.1),(eVb r22.2.2)]) (vb (eVb r22.1) rfl rfl (vb (eVb r22.2.1) rfl rfl (vb (eVb r22.2.2) rfl rfl (vo 1700 (eV0) rfl rfl (vo 1800 (eV0) rfl rfl (vo 1900 (eV0) rfl rfl (vs (eVb r22.1) rfl rfl (fun _=>rfl) rfl rfl rfl rfl rfl rfl (vs (eVb r22.2.1) rfl rfl (fun _=>rfl) rfl rfl rfl rfl rfl rfl ?_)))))))))
   refine vs (eVb r22.2.2) rfl rfl (fun _=>rfl) rfl rfl rfl rfl rfl rfl (nk ⟨[(6,ow 6),(7,ow 7)],[(6,bk (eV0)),(7,bk (eVb r22.1))]⟩ (sr (vl (eVb r22.1) rfl rfl rfl rfl rfl rfl (vs (eVb r22.1) rfl rfl (fun _=>rfl) rfl rfl rfl rfl rfl rfl (nx _ rfl (a_ret ?_))))))
   have hl29:LdOk [] (eVb r22.1) [] 64 true (eVb r22.1):=(.nil rfl rfl rfl)
   refine ⟨.inr rfl,?_⟩
   rw [Tryz.results128]
   cases h
   exact ⟨_,_,_,_,_,ld_own (i:=⟨.arr 64 5,64,64,(eVb (vrep 64 (0:Int)))⟩) rfl rfl rfl hl29,hl29.c,.inl ⟨rfl,.inl rfl⟩,rfl,rfl⟩
  ·have h:=ite_t hb19 h
   refine a_cond_t rfl (sr (vq (eV0) rfl ⟨⟨_,rfl,rfl⟩,all_nil⟩ (vs (eV0) rfl rfl (fun _=>rfl) rfl rfl rfl rfl rfl rfl (nx _ rfl (a_ret (t_ret ?_))))))
   have hl31:LdOk [] (eV0) [] 64 true (eV0):=(.nil rfl rfl rfl)
   refine ⟨.inr rfl,?_⟩
   rw [Tryz.results128]
   cases h
   exact ⟨_,_,_,_,_,ld_own (i:=⟨.arr 64 5,64,64,(eVb (vrep 64 (0:Int)))⟩) rfl rfl rfl hl31,hl31.c,.inl ⟨rfl,.inl rfl⟩,rfl,rfl⟩
 ·have h:=hy10
  refine a_region (vl (eVb a1) rfl rfl rfl rfl rfl rfl ?_)
  obtain ⟨r13,hr14,h⟩:=bind_some h
  refine ca (spec_l01Deg_ok a1 r13 hr14) (vr (.bool ((decide (r13 < 0)))) (vr (.bool ((decide (r13 < 0)))) ?_))
  cases hb15:(decide (r13 < 0))
  ·have h:=ite_f hb15 h
   refine a_gskip rfl (a_gskip rfl (a_gskip rfl (vr (.bool false) (a_nil ?_))))
   exact jl false h
  ·have h:=ite_t hb15 h
   have hl16:LdOk [] (eVb a2) [] 64 true (eVb a2):=(.nil rfl rfl rfl)
   refine gq (eVb a2) rfl (ld_own (i:=⟨.arr 64 5,64,64,(eVb (vrep 64 (0:Int)))⟩) rfl rfl rfl hl16) hl16.c ?_
   obtain ⟨r17,hr18,h⟩:=bind_some h
   refine a_gcall rfl (args:=[(eVb a2)]) (u:=[]) (r:=(i6 r17)) rfl rfl (spec_l01Deg_ok a2 r17 hr18) rfl (gp (.bool ((decide (r17 < 0)))) rfl rfl (vr (.bool ((decide (r17 < 0)))) (a_nil ?_)))
   exact jl ((decide (r17 < 0))) h
end Go.Proofs.YtkbnegemdlnncaaGreat
