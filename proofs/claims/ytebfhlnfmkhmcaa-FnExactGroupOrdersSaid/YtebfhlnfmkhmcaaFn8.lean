/- Functions of the program: plain Lean functions, and that the program computes them. Printed by gen.py. -/
import Derived.Test.YtebfhlnfmkhmcaaFnT
import Derived.Test.YtebfhlnfmkhmcaaFn1
import Derived.Test.YtebfhlnfmkhmcaaFn3
import Derived.Test.YtebfhlnfmkhmcaaFn4
import Derived.Test.YtebfhlnfmkhmcaaFn7
namespace Go.Proofs.Ytebfhlnfmkhmcaa
open Go.Abs Go.Proofs
set_option linter.unusedSimpArgs false
set_option linter.unusedVariables false
set_option maxHeartbeats 16000000
attribute [local irreducible] Abs.acode Abs.aops Abs.aopsT Abs.thenK Abs.blockK

def laws_FnExactGroupOrders_L:Live:=[(0,[0,1]),(1,[0,3]),(2,[0,3,5,6]),(3,[0,3,5,6,7,8]),(4,[]),(5,[0,3,5,6,7]),(6,[0,3,5,6,7,9]),(7,[0,3,5,6,7,9]),(8,[0,3,5,6,7,9,10]),(9,[0,3,5,6,7,9,10]),(10,[]),(11,[0,3,5,6,7,9,10]),(12,[]),(13,[0,3,5,6,7,9]),(14,[5,6,7,9,11,12]),(15,[]),(16,[7,9]),(17,[7,9,10]),(18,[9,10]),(19,[]),(20,[9,10]),(21,[]),(22,[]),(100035,[0,3,5,6,7,35]),(100043,[0,3,5,6,7,9,10,43]),(100046,[0,3,5,6,7,9,46]),(100062,[7,9,62]),(100067,[9,10,67]),(100070,[70])]
noncomputable def laws_FnExactGroupOrders (a0:Int) (a1:(Vec Int 64)):Option Bool :=
 (Option.bind (laws_toPoly a1) fun r2=>(Option.bind (spec_GroupOrders a0 r2) fun r4=>(Option.bind (laws_toPoly a1) fun r7=>(Option.bind (impl_GroupOrders_fresh a0 r7) fun r9=>(Option.bind (α:=Bool) ((Option.bind (laws_eqInt64S r9.1 r4.1) fun r18=>(if (!r18) then (some true) else (some (r9.2 != r4.2))))) fun x14=>(if x14 then (some false) else (Option.bind (laws_markInt64S_of_mut r9.1 1) fun r22=>(ifp (r22.2.length=r9.1.length) ((Option.bind (laws_heldInt64S r22.2 1) fun r25=>(if (decide (r25 < 0)) then (some false) else (if (r25 != r22.1) then (some false) else (Option.bind (laws_toPoly a1) fun r30=>(Option.bind (impl_GroupOrders a0 r30) fun r32=>(Option.bind (α:=Bool) ((Option.bind (laws_eqInt64S r32.1 r4.1) fun r41=>(if (!r41) then (some true) else (some (r32.2 != r4.2))))) fun x37=>(if x37 then (some false) else (Option.bind (laws_heldInt64S r22.2 1) fun r45=>(if (decide (r45 < 0)) then (some false) else (if (r45 != r22.1) then (some false) else (some true))))))))))))))))))))
theorem laws_FnExactGroupOrders_ok (a0:Int) (a1:(Vec Int 64)) (r:Bool) (h:laws_FnExactGroupOrders a0 a1=some r):Den Try.prog 3 [(i6 a0),(eVb a1)] { r:=(.bool r) }:=by
 refine dd (rs:=[(.bool r)]) (L:=laws_FnExactGroupOrders_L) good [(5,1),(7,2),(11,1),(38,1)] Try.func3 Try.ntmps3 ?_
 refine ns ⟨[(0,i6 a0),(1,eVb a1)],[]⟩ ?_
 refine sr (vo 1300 (eVb a1) rfl rfl (vr (.bool false) (nk ⟨[(0,i6 a0),(3,ow 3)],[(3,bk (eVb a1))]⟩ (sr (vr (i6 a0) (vl (eVb a1) rfl rfl rfl rfl rfl rfl ?_))))))
 obtain ⟨r2,hr3,h⟩:=bind_some h
 refine ca (laws_toPoly_ok a1 r2 hr3) ?_
 obtain ⟨r4,hr5,h⟩:=bind_some h
 refine ca (spec_GroupOrders_ok a0 r2 r4 hr5) (vr (.tuple [(eSi64 r4.1),(i6 r4.2)]) (vb (eSi64 r4.1) rfl rfl (vb (i6 r4.2) rfl rfl (vr (eSi64 r4.1) (vr (i6 r4.2) (nk ⟨[(0,i6 a0),(3,ow 3),(5,eSi64 r4.1),(6,i6 r4.2)],[(3,bk (eVb a1))]⟩ (sr (vr (i6 a0) (vl (eVb a1) rfl rfl rfl rfl rfl rfl ?_)))))))))
 obtain ⟨r7,hr8,h⟩:=bind_some h
 refine ca (laws_toPoly_ok a1 r7 hr8) ?_
 obtain ⟨r9,hr10,h⟩:=bind_some h
 refine a_callF (args:=[(i6 a0),(eVb r7)]) (u:=[]) (u2:=[]) (r:=(.tuple [(.osl 2000000),(i6 r9.2)])) (fs:=[(1,r9.1.map (AV.int .i64))]) rfl rfl (impl_GroupOrders_fresh_ok a0 r7 r9 hr10) rfl rfl rfl (.inl rfl) rfl (vr (.tuple [(.osl 3400),(i6 r9.2)]) (vb (.osl 3400) rfl rfl (vb (i6 r9.2) rfl rfl (vr (.osl 3400) (vr (i6 r9.2) (nk ⟨[(0,i6 a0),(3,ow 3),(5,eSi64 r4.1),(6,i6 r4.2),(7,.osl 7),(8,i6 r9.2)],[(3,bk (eVb a1)),(7,bk (.row 1 (r9.1.map (AV.int .i64))))]⟩ (a_seq ?_)))))))
 obtain ⟨y15,hy16,hk17⟩:=bind_some h
 clear h
 refine a_join (emb:=fun (s:Bool)=>⟨[(0,i6 a0),(3,ow 3),(5,eSi64 r4.1),(6,i6 r4.2),(7,.osl 7),(35,.bool s)],[(3,bk (eVb a1)),(7,bk (.row 1 (r9.1.map (AV.int .i64))))]⟩) (pre:=fun s=>s=y15) ?_ ?_
 ·rintro x14 rfl
  have h:=hk17
  refine ns ⟨[(0,i6 a0),(3,ow 3),(5,eSi64 r4.1),(6,i6 r4.2),(7,.osl 7),(35,.bool x14)],[(3,bk (eVb a1)),(7,bk (.row 1 (r9.1.map (AV.int .i64))))]⟩ ?_
  cases hb21:x14
  ·have h:=ite_f hb21 h
   refine a_cond_f rfl (a_skip (nj ⟨[(0,i6 a0),(3,ow 3),(5,eSi64 r4.1),(6,i6 r4.2),(7,.osl 7)],[(3,bk (eVb a1)),(7,bk (.row 1 (r9.1.map (AV.int .i64))))]⟩ (sr (vr (i6 1) (nk ⟨[(0,i6 a0),(3,ow 3),(5,eSi64 r4.1),(6,i6 r4.2),(7,.osl 7),(9,i6 1)],[(3,bk (eVb a1)),(7,bk (.row 1 (r9.1.map (AV.int .i64))))]⟩ (sr (vr (.osl 7) (vr (i6 1) ?_))))))))
   obtain ⟨r22,hr23,h⟩:=bind_some h
   obtain ⟨hl24,h⟩:=ifp_some h
   refine a_callM (args:=[(.mutsl 1 (r9.1.map (AV.int .i64))),(i6 1)]) (i:=0) (id:=7) (r:=(i6 r22.1)) (c:=(.row 1 (r22.2.map (AV.int .i64)))) rfl rfl (laws_markInt64S_of_mut_ok r9.1 1 r22 hr23) rfl (shape_map hl24) (vr (i6 r22.1) (nk ⟨[(0,i6 a0),(3,ow 3),(5,eSi64 r4.1),(6,i6 r4.2),(7,.osl 7),(9,i6 r22.1)],[(3,bk (eVb a1)),(7,bk (.row 1 (r22.2.map (AV.int .i64))))]⟩ (sr (vr (i6 1) (nk ⟨[(0,i6 a0),(3,ow 3),(5,eSi64 r4.1),(6,i6 r4.2),(7,.osl 7),(9,i6 r22.1),(10,i6 1)],[(3,bk (eVb a1)),(7,bk (.row 1 (r22.2.map (AV.int .i64))))]⟩ (sr (vr (.osl 7) (vr (i6 1) ?_))))))))
   obtain ⟨r25,hr26,h⟩:=bind_some h
   refine a_callB (args:=[(eSi64 r22.2),(i6 1)]) (u:=[(7,bf (.row 1 (r22.2.map (AV.int .i64))))]) (r:=(i6 r25)) rfl rfl (laws_heldInt64S_ok r22.2 1 r25 hr26) rfl trivial (vr (i6 r25) (nk ⟨[(0,i6 a0),(3,ow 3),(5,eSi64 r4.1),(6,i6 r4.2),(7,.osl 7),(9,i6 r22.1),(10,i6 r25)],[(3,bk (eVb a1)),(7,bk (.row 1 (r22.2.map (AV.int .i64))))]⟩ (a_seq (sr (vr (i6 r25) (vr (.bool ((decide (r25 < 0)))) (nk ⟨[(0,i6 a0),(3,ow 3),(5,eSi64 r4.1),(6,i6 r4.2),(7,.osl 7),(9,i6 r22.1),(10,i6 r25),(43,.bool ((decide (r25 < 0))))],[(3,bk (eVb a1)),(7,bk (.row 1 (r22.2.map (AV.int .i64))))]⟩ ?_)))))))
   cases hb27:(decide (r25 < 0))
   ·have h:=ite_f hb27 h
    refine a_cond_f rfl (a_skip (nj ⟨[(0,i6 a0),(3,ow 3),(5,eSi64 r4.1),(6,i6 r4.2),(7,.osl 7),(9,i6 r22.1),(10,i6 r25)],[(3,bk (eVb a1)),(7,bk (.row 1 (r22.2.map (AV.int .i64))))]⟩ (a_seq (sr (vr (i6 r25) (vr (i6 r22.1) (vr (.bool (r25 != r22.1)) (nk ⟨[(0,i6 a0),(3,ow 3),(5,eSi64 r4.1),(6,i6 r4.2),(7,.osl 7),(9,i6 r22.1),(46,.bool (r25 != r22.1))],[(3,bk (eVb a1)),(7,bk (.row 1 (r22.2.map (AV.int .i64))))]⟩ ?_))))))))
    cases hb28:(r25 != r22.1)
    ·have h:=ite_f hb28 h
     refine a_cond_f rfl (a_skip (nj ⟨[(0,i6 a0),(3,ow 3),(5,eSi64 r4.1),(6,i6 r4.2),(7,.osl 7),(9,i6 r22.1)],[(3,bk (eVb a1)),(7,bk (.row 1 (r22.2.map (AV.int .i64))))]⟩ (sr (vr (i6 a0) (vl (eVb a1) rfl rfl rfl rfl rfl rfl ?_)))))
     obtain ⟨r30,hr31,h⟩:=bind_some h
     refine ca (laws_toPoly_ok a1 r30 hr31) ?_
     obtain ⟨r32,hr33,h⟩:=bind_some h
     refine ca (impl_GroupOrders_ok a0 r30 r32 hr33) (vr (.tuple [(eSi64 r32.1),(i6 r32.2)]) (vb (eSi64 r32.1) rfl rfl (vb (i6 r32.2) rfl rfl (vr (eSi64 r32.1) (vr (i6 r32.2) (nk ⟨[(5,eSi64 r4.1),(6,i6 r4.2),(7,.osl 7),(9,i6 r22.1),(11,eSi64 r32.1),(12,i6 r32.2)],[(7,bk (.row 1 (r22.2.map (AV.int .i64))))]⟩ (a_seq ?_)))))))
     obtain ⟨y38,hy39,hk40⟩:=bind_some h
     clear h
     refine a_join (emb:=fun (s:Bool)=>⟨[(7,.osl 7),(9,i6 r22.1),(62,.bool s)],[(7,bk (.row 1 (r22.2.map (AV.int .i64))))]⟩) (pre:=fun s=>s=y38) ?_ ?_
     ·rintro x37 rfl
      have h:=hk40
      refine ns ⟨[(7,.osl 7),(9,i6 r22.1),(62,.bool x37)],[(7,bk (.row 1 (r22.2.map (AV.int .i64))))]⟩ ?_
      cases hb44:x37
      ·have h:=ite_f hb44 h
       refine a_cond_f rfl (a_skip (nj ⟨[(7,.osl 7),(9,i6 r22.1)],[(7,bk (.row 1 (r22.2.map (AV.int .i64))))]⟩ (sr (vr (i6 1) (nk ⟨[(7,.osl 7),(9,i6 r22.1),(10,i6 1)],[(7,bk (.row 1 (r22.2.map (AV.int .i64))))]⟩ (sr (vr (.osl 7) (vr (i6 1) ?_))))))))
       obtain ⟨r45,hr46,h⟩:=bind_some h
       refine a_callB (args:=[(eSi64 r22.2),(i6 1)]) (u:=[(7,bf (.row 1 (r22.2.map (AV.int .i64))))]) (r:=(i6 r45)) rfl rfl (laws_heldInt64S_ok r22.2 1 r45 hr46) rfl trivial (vr (i6 r45) (nk ⟨[(9,i6 r22.1),(10,i6 r45)],[]⟩ (a_seq (sr (vr (i6 r45) (vr (.bool ((decide (r45 < 0)))) (nk ⟨[(9,i6 r22.1),(10,i6 r45),(67,.bool ((decide (r45 < 0))))],[]⟩ ?_)))))))
       cases hb47:(decide (r45 < 0))
       ·have h:=ite_f hb47 h
        refine a_cond_f rfl (a_skip (nj ⟨[(9,i6 r22.1),(10,i6 r45)],[]⟩ (a_seq (sr (vr (i6 r45) (vr (i6 r22.1) (vr (.bool (r45 != r22.1)) (nk ⟨[(70,.bool (r45 != r22.1))],[]⟩ ?_))))))))
        cases hb48:(r45 != r22.1)
        ·have h:=ite_f hb48 h
         refine a_cond_f rfl (a_skip (nj ⟨[],[]⟩ (sr (vr (.bool true) (nx _ rfl (a_ret ?_))))))
         refine ⟨.inr rfl,?_⟩
         rw [Try.results3]
         cases h
         exact ⟨_,_,_,_,_,rfl,trivial,.inl ⟨rfl,.inl rfl⟩,rfl,rfl⟩
        ·have h:=ite_t hb48 h
         refine a_cond_t rfl (sr (vr (.bool false) (nx _ rfl (a_ret (t_ret ?_)))))
         refine ⟨.inr rfl,?_⟩
         rw [Try.results3]
         cases h
         exact ⟨_,_,_,_,_,rfl,trivial,.inl ⟨rfl,.inl rfl⟩,rfl,rfl⟩
       ·have h:=ite_t hb47 h
        refine a_cond_t rfl (sr (vr (.bool false) (nx _ rfl (a_ret (t_ret ?_)))))
        refine ⟨.inr rfl,?_⟩
        rw [Try.results3]
        cases h
        exact ⟨_,_,_,_,_,rfl,trivial,.inl ⟨rfl,.inl rfl⟩,rfl,rfl⟩
      ·have h:=ite_t hb44 h
       refine a_cond_t rfl (sr (vr (.bool false) (nx _ rfl (a_ret (t_ret ?_)))))
       refine ⟨.inr rfl,?_⟩
       rw [Try.results3]
       cases h
       exact ⟨_,_,_,_,_,rfl,trivial,.inl ⟨rfl,.inl rfl⟩,rfl,rfl⟩
     ·have h:=hy39
      refine a_region (vr (eSi64 r32.1) (vr (eSi64 r4.1) ?_))
      obtain ⟨r41,hr42,h⟩:=bind_some h
      refine ca (laws_eqInt64S_ok r32.1 r4.1 r41 hr42) (vr (.bool (!r41)) (vr (.bool (!r41)) ?_))
      cases hb43:(!r41)
      ·have h:=ite_f hb43 h
       refine gp (i6 r32.2) rfl rfl (gp (i6 r4.2) rfl rfl (gp (.bool (r32.2 != r4.2)) rfl rfl (vr (.bool (r32.2 != r4.2)) (a_nil ?_))))
       exact jl (r32.2 != r4.2) h
      ·have h:=ite_t hb43 h
       refine a_gskip rfl (a_gskip rfl (a_gskip rfl (vr (.bool true) (a_nil ?_))))
       exact jl true h
    ·have h:=ite_t hb28 h
     refine a_cond_t rfl (sr (vr (.bool false) (nx _ rfl (a_ret (t_ret ?_)))))
     refine ⟨.inr rfl,?_⟩
     rw [Try.results3]
     cases h
     exact ⟨_,_,_,_,_,rfl,trivial,.inl ⟨rfl,.inl rfl⟩,rfl,rfl⟩
   ·have h:=ite_t hb27 h
    refine a_cond_t rfl (sr (vr (.bool false) (nx _ rfl (a_ret (t_ret ?_)))))
    refine ⟨.inr rfl,?_⟩
    rw [Try.results3]
    cases h
    exact ⟨_,_,_,_,_,rfl,trivial,.inl ⟨rfl,.inl rfl⟩,rfl,rfl⟩
  ·have h:=ite_t hb21 h
   refine a_cond_t rfl (sr (vr (.bool false) (nx _ rfl (a_ret (t_ret ?_)))))
   refine ⟨.inr rfl,?_⟩
   rw [Try.results3]
   cases h
   exact ⟨_,_,_,_,_,rfl,trivial,.inl ⟨rfl,.inl rfl⟩,rfl,rfl⟩
 ·have h:=hy16
  refine a_region (vr (.osl 7) (vr (eSi64 r4.1) ?_))
  obtain ⟨r18,hr19,h⟩:=bind_some h
  refine a_callB (args:=[(eSi64 r9.1),(eSi64 r4.1)]) (u:=[(7,bf (.row 1 (r9.1.map (AV.int .i64))))]) (r:=(.bool r18)) rfl rfl (laws_eqInt64S_ok r9.1 r4.1 r18 hr19) rfl trivial (vr (.bool (!r18)) (vr (.bool (!r18)) ?_))
  cases hb20:(!r18)
  ·have h:=ite_f hb20 h
   refine gp (i6 r9.2) rfl rfl (gp (i6 r4.2) rfl rfl (gp (.bool (r9.2 != r4.2)) rfl rfl (vr (.bool (r9.2 != r4.2)) (a_nil ?_))))
   exact jl (r9.2 != r4.2) h
  ·have h:=ite_t hb20 h
   refine a_gskip rfl (a_gskip rfl (a_gskip rfl (vr (.bool true) (a_nil ?_))))
   exact jl true h
def impl_row_poly_L:Live:=[(0,[0]),(1,[0,2]),(2,[0,2,3]),(3,[2,3,6,7,8]),(4,[2,3,6,7,8]),(5,[2,3,4,5,6,7,8]),(6,[2,3,6,7,8]),(7,[2,3]),(100009,[2,3,6,7,8,9])]
noncomputable def impl_row_poly_l1 (a0:(List Int)) (x31:Int) (x32:(Vec Int 64)):Option ((Int×(Vec Int 64))⊕(Vec Int 64)) :=
 (if (decide (x31 < (a0.length:Int))) then (ifp (0≤x31∧x31 < ((a0.length:Nat):Int)) ((ifp (0≤x31∧x31 < ((64:Nat):Int)) ((some (.inl ((IntKind.i64.wrap (x31 + 1),(vset x32 x31.toNat (IntKind.u8.wrap (rd a0 x31.toNat))))))))))) else (some (.inr x32)))
noncomputable def impl_row_poly (a0:(List Int)):Option (Vec Int 64) :=
 (Option.bind (α:=(Vec Int 64)) ((loopM (fun s:(Int×(Vec Int 64))=>impl_row_poly_l1 a0 s.1 s.2) (0,vrep 64 (0:Int)))) fun x22=>(some x22))
theorem impl_row_poly_ok (a0:(List Int)) (r:(Vec Int 64)) (h:impl_row_poly a0=some r):Den Try.prog 71 [(eSi64 a0)] { r:=(eVb r) }:=by
 refine dd (rs:=[(eVb r)]) (L:=impl_row_poly_L) good [] Try.func71 Try.ntmps71 ?_
 refine ns ⟨[(0,eSi64 a0)],[]⟩ ?_
 refine sr (vo 1200 (eV0) rfl rfl (nk ⟨[(0,eSi64 a0),(2,ow 2)],[(2,bk (eV0))]⟩ (sr (vo 1300 (eV0) rfl rfl (nk ⟨[(0,eSi64 a0),(2,ow 2),(3,ow 3)],[(2,bk (eV0)),(3,bk (eV0))]⟩ ?_)))))
 obtain ⟨y23,hy24,hk25⟩:=bind_some h
 clear h
 refine a_join (emb:=fun (s:(Vec Int 64))=>⟨[(2,ow 2),(3,ow 3)],[(2,bk (eV0)),(3,bk (eVb s))]⟩) (pre:=fun s=>s=y23) ?_ ?_
 ·rintro x22 rfl
  have h:=hk25
  refine ns ⟨[(2,ow 2),(3,ow 3)],[(2,bk (eV0)),(3,bk (eVb x22))]⟩ (sr (vl (eVb x22) rfl rfl rfl rfl rfl rfl (vs (eVb x22) rfl rfl (fun _=>rfl) rfl rfl rfl rfl rfl rfl (nx _ rfl (a_ret ?_)))))
  have hl49:LdOk [] (eVb x22) [] 64 true (eVb x22):=(.nil rfl rfl rfl)
  refine ⟨.inr rfl,?_⟩
  rw [Try.results71]
  cases h
  exact ⟨_,_,_,_,_,ld_own (i:=⟨.arr 64 5,64,64,(eVb (vrep 64 (0:Int)))⟩) rfl rfl rfl hl49,hl49.c,.inl ⟨rfl,.inl rfl⟩,rfl,rfl⟩
 ·have h:=hy24
  refine sr (vr (eSi64 a0) (vq (i6 (a0.length:Int)) (len_run rfl rfl) trivial (vr (i6 0) (nk ⟨[(2,ow 2),(3,ow 3),(6,eSi64 a0),(7,i6 (a0.length:Int)),(8,i6 0)],[(2,bk (eV0)),(3,bk (eV0))]⟩ (a_block ?_)))))
  refine a_loop (emb:=fun (s:(Int×(Vec Int 64)))=>⟨[(2,ow 2),(3,ow 3),(6,eSi64 a0),(7,i6 (a0.length:Int)),(8,i6 s.1)],[(2,bk (eV0)),(3,bk (eVb s.2))]⟩) (body:=(fun s:(Int×(Vec Int 64))=>impl_row_poly_l1 a0 s.1 s.2)) (G:=fun q=>some q=some y23) h rfl ?_ (by kernel_rfl)
  rintro X38 ⟨x31,x32⟩ x39 h hX40
  have h:impl_row_poly_l1 a0 x31 x32=some x39:=h
  refine ns ⟨[(2,ow 2),(3,ow 3),(6,eSi64 a0),(7,i6 (a0.length:Int)),(8,i6 x31)],[(2,bk (eV0)),(3,bk (eVb x32))]⟩ (sr (vr (.bool ((decide (x31 < (a0.length:Int))))) (nk ⟨[(2,ow 2),(3,ow 3),(6,eSi64 a0),(7,i6 (a0.length:Int)),(8,i6 x31),(9,.bool ((decide (x31 < (a0.length:Int)))))],[(2,bk (eV0)),(3,bk (eVb x32))]⟩ (a_seq ?_))))
  cases hb41:(decide (x31 < (a0.length:Int)))
  ·have h:=ite_f hb41 h
   refine a_cond_f rfl (a_exit (t_exit ?_))
   cases h
   have h:=hX40
   refine t_exit (b_exit ?_)
   exact jl x32 h
  ·have h:=ite_t hb41 h
   refine a_cond_t rfl (a_skip (nj ⟨[(2,ow 2),(3,ow 3),(6,eSi64 a0),(7,i6 (a0.length:Int)),(8,i6 x31)],[(2,bk (eV0)),(3,bk (eVb x32))]⟩ (a_seq (a_block (sr (vr (i6 x31) ?_))))))
   obtain ⟨hc42,h⟩:=ifp_some h
   refine vq (.ref (.row 1 (a0.map (AV.int .i64))) [x31.toNat] [x31.toNat*1]) rfl (lmap hc42) ?_
   have hl43:LdOk [x31.toNat] (.row 1 (a0.map (AV.int .i64))) [x31.toNat*1] 1 false (i6 (rd a0 x31.toNat)):=(.row (llt hc42) rfl (.nil rfl rfl rfl))
   refine vq (i6 (rd a0 x31.toNat)) (ld_ref (i:=⟨.int .i64,1,8,(.int .i64 0)⟩) rfl rfl hl43) hl43.c (vr (i6 x31) (vr (i6 (rd a0 x31.toNat)) (nk ⟨[(2,ow 2),(3,ow 3),(4,i6 x31),(5,i6 (rd a0 x31.toNat)),(6,eSi64 a0),(7,i6 (a0.length:Int)),(8,i6 x31)],[(2,bk (eV0)),(3,bk (eVb x32))]⟩ (a_region (vr (i6 x31) (vr (i6 (rd a0 x31.toNat)) (vr (b8 (IntKind.u8.wrap (rd a0 x31.toNat))) ?_)))))))
   obtain ⟨hc44,h⟩:=ifp_some h
   refine vq (.own 3 [x31.toNat] [x31.toNat*1]) rfl hc44 ?_
   have hs45:StOk [x31.toNat] (eVb x32) [x31.toNat*1] 1 (b8 (IntKind.u8.wrap (rd a0 x31.toNat))) (eVb ((vset x32 x31.toNat (IntKind.u8.wrap (rd a0 x31.toNat))))):=(.arr (y:=IntKind.u8.wrap (rd a0 x31.toNat)) (vlt x32 hc44) rfl (.nil rfl rfl rfl rfl))
   refine vu .top [(3,bk (eVb ((vset x32 x31.toNat (IntKind.u8.wrap (rd a0 x31.toNat))))))] (st_own (i:=⟨.int .u8,1,1,(.int .u8 0)⟩) rfl rfl (fun _=>rfl) rfl hs45) (hs45.c rfl) rfl (a_nil (b_norm (nj ⟨[(2,ow 2),(3,ow 3),(6,eSi64 a0),(7,i6 (a0.length:Int)),(8,i6 x31)],[(2,bk (eV0)),(3,bk (eVb ((vset x32 x31.toNat (IntKind.u8.wrap (rd a0 x31.toNat))))))]⟩ (a_region (vr (i6 (IntKind.i64.wrap (x31 + 1))) (vr (i6 (IntKind.i64.wrap (x31 + 1))) (a_nil ?_)))))))
   cases h
   exact ag hX40
def impl_row_fits_L:Live:=[(0,[0]),(1,[0])]
noncomputable def impl_row_fits (a0:(List Int)):Option Bool :=
 (Option.bind (impl_row_degree a0) fun r1=>(some ((decide (r1≤63)))))
theorem impl_row_fits_ok (a0:(List Int)) (r:Bool) (h:impl_row_fits a0=some r):Den Try.prog 70 [(eSi64 a0)] { r:=(.bool r) }:=by
 refine dd (rs:=[(.bool r)]) (L:=impl_row_fits_L) good [] Try.func70 Try.ntmps70 ?_
 refine ns ⟨[(0,eSi64 a0)],[]⟩ ?_
 refine sr (vr (.bool false) (nk ⟨[(0,eSi64 a0)],[]⟩ (sr (vr (eSi64 a0) ?_))))
 obtain ⟨r1,hr2,h⟩:=bind_some h
 refine ca (impl_row_degree_ok a0 r1 hr2) (vr (.bool ((decide (r1≤63)))) (vr (.bool ((decide (r1≤63)))) (nx _ rfl (a_ret ?_))))
 refine ⟨.inr rfl,?_⟩
 rw [Try.results70]
 cases h
 exact ⟨_,_,_,_,_,rfl,trivial,.inl ⟨rfl,.inl rfl⟩,rfl,rfl⟩
def impl_told_L:Live:=[(0,[0]),(1,[0,2]),(2,[2]),(3,[0,2]),(100006,[0,2,6])]
noncomputable def impl_told (a0:(List Int)):Option ((Vec Int 64)×Int) :=
 (Option.bind (impl_row_fits a0) fun r1=>(if (!r1) then (some (((vrep 64 (0:Int)),3))) else (Option.bind (impl_row_poly a0) fun r4=>(some (r4,0)))))
theorem impl_told_ok (a0:(List Int)) (r:((Vec Int 64)×Int)) (h:impl_told a0=some r):Den Try.prog 33 [(eSi64 a0)] { r:=(.tuple [(eVb r.1),(i6 r.2)]) }:=by
 refine dd (rs:=[(eVb r.1),(i6 r.2)]) (L:=impl_told_L) good [] Try.func33 Try.ntmps33 ?_
 refine ns ⟨[(0,eSi64 a0)],[]⟩ ?_
 refine sr (vo 1200 (eV0) rfl rfl (vr (i6 0) (nk ⟨[(0,eSi64 a0),(2,ow 2)],[(2,bk (eV0))]⟩ (a_seq (sr (vr (eSi64 a0) ?_))))))
 obtain ⟨r1,hr2,h⟩:=bind_some h
 refine ca (impl_row_fits_ok a0 r1 hr2) (vr (.bool (!r1)) (nk ⟨[(0,eSi64 a0),(2,ow 2),(6,.bool (!r1))],[(2,bk (eV0))]⟩ ?_))
 cases hb3:(!r1)
 ·have h:=ite_f hb3 h
  refine a_cond_f rfl (a_skip (nj ⟨[(0,eSi64 a0),(2,ow 2)],[(2,bk (eV0))]⟩ (sr (vr (eSi64 a0) ?_))))
  obtain ⟨r4,hr5,h⟩:=bind_some h
  refine ca (impl_row_poly_ok a0 r4 hr5) (vs (eVb r4) rfl rfl (fun _=>rfl) rfl rfl rfl rfl rfl rfl (vr (i6 0) (nx _ rfl (a_ret ?_))))
  have hl7:LdOk [] (eVb r4) [] 64 true (eVb r4):=(.nil rfl rfl rfl)
  refine ⟨.inr rfl,?_⟩
  rw [Try.results33]
  cases h
  exact ⟨_,_,_,_,_,ld_own (i:=⟨.arr 64 5,64,64,(eVb (vrep 64 (0:Int)))⟩) rfl rfl rfl hl7,hl7.c,.inl ⟨rfl,.inl rfl⟩,rfl,⟨_,_,_,_,_,rfl,trivial,.inl ⟨rfl,.inl rfl⟩,rfl,rfl⟩⟩
 ·have h:=ite_t hb3 h
  refine a_cond_t rfl (sr (vq (eV0) rfl ⟨⟨_,rfl,rfl⟩,all_nil⟩ (vs (eV0) rfl rfl (fun _=>rfl) rfl rfl rfl rfl rfl rfl (vr (i6 3) (nx _ rfl (a_ret (t_ret ?_)))))))
  have hl9:LdOk [] (eV0) [] 64 true (eV0):=(.nil rfl rfl rfl)
  refine ⟨.inr rfl,?_⟩
  rw [Try.results33]
  cases h
  exact ⟨_,_,_,_,_,ld_own (i:=⟨.arr 64 5,64,64,(eVb (vrep 64 (0:Int)))⟩) rfl rfl rfl hl9,hl9.c,.inl ⟨rfl,.inl rfl⟩,rfl,⟨_,_,_,_,_,rfl,trivial,.inl ⟨rfl,.inl rfl⟩,rfl,rfl⟩⟩
end Go.Proofs.Ytebfhlnfmkhmcaa
