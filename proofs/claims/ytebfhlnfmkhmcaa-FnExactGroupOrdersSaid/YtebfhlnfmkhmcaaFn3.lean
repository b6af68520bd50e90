/- Functions of the program: plain Lean functions, and that the program computes them. Printed by gen.py. -/
import Derived.Test.YtebfhlnfmkhmcaaFnT
import Derived.Test.YtebfhlnfmkhmcaaFn1
import Derived.Test.YtebfhlnfmkhmcaaFn2
namespace Go.Proofs.Ytebfhlnfmkhmcaa
open Go.Abs Go.Proofs
set_option linter.unusedSimpArgs false
set_option linter.unusedVariables false
set_option maxHeartbeats 16000000
attribute [local irreducible] Abs.acode Abs.aops Abs.aopsT Abs.thenK Abs.blockK

def spec_l07All_L:Live:=[(0,[0,1]),(1,[0,3]),(2,[0,3,5]),(3,[0,3,5,6]),(4,[0,3,5,6]),(5,[0,3,5,6]),(6,[0,3,5,6,7]),(7,[0,3,5,6,7]),(8,[0,3,5,6,7]),(9,[0,3,5,6,7,8]),(10,[0,3,5,6,7,8]),(11,[0,3,5,6,7,8,9]),(12,[0,3,5,6,7,8,9]),(13,[0,3,5,6,7,8,9]),(14,[0,3,5,6,7,8,9,10]),(15,[0,3,5,6,7,8,9,10]),(16,[5]),(100015,[0,3,5,6,15]),(100022,[0,3,5,6,7,22]),(100034,[0,3,5,6,7,8,9,34]),(100045,[0,3,5,6,7,8,9,10,45])]
noncomputable def spec_l07All_l3 (a0:Int) (x6115:Int) (a1:(Vec Int 64)) (r9049:(Vec Int 64)) (x9091:Int) (x9092:(List ((Vec Int 64)×(Vec Int 64)))):Option ((Int×(List ((Vec Int 64)×(Vec Int 64))))⊕(List ((Vec Int 64)×(Vec Int 64)))) :=
 (Option.bind (spec_l01Count a0 x6115) fun r9133=>(if (decide (x9091 < r9133)) then (Option.bind (α:=(List ((Vec Int 64)×(Vec Int 64)))) ((Option.bind (spec_l01Of a0 x9091) fun r9160=>(Option.bind (spec_l07Form a0 a1 (((vset r9049 x6115.toNat 1),r9160))) fun r9165=>(if r9165 then (ifp ((x9092.length + ([((vset r9049 x6115.toNat 1),r9160)]:List ((Vec Int 64)×(Vec Int 64))).length)*128≤140737488355328) ((some ((x9092 ++ ([((vset r9049 x6115.toNat 1),r9160)])))))) else (some x9092))))) fun x9151=>(some (.inl ((IntKind.i64.wrap (x9091 + 1),x9151))))) else (some (.inr x9092))))
noncomputable def spec_l07All_l2 (a0:Int) (x6115:Int) (a1:(Vec Int 64)) (x8664:Int) (x8665:(List ((Vec Int 64)×(Vec Int 64)))):Option ((Int×(List ((Vec Int 64)×(Vec Int 64))))⊕(List ((Vec Int 64)×(Vec Int 64)))) :=
 (Option.bind (spec_l01Count a0 x6115) fun r8920=>(if (decide (x8664 < r8920)) then (Option.bind (α:=(List ((Vec Int 64)×(Vec Int 64)))) ((Option.bind (spec_l01Of a0 x8664) fun r9049=>(ifp (0≤x6115∧x6115 < ((64:Nat):Int)) ((loopM (fun s:(Int×(List ((Vec Int 64)×(Vec Int 64))))=>spec_l07All_l3 a0 x6115 a1 r9049 s.1 s.2) (0,x8665)))))) fun x9045=>(some (.inl ((IntKind.i64.wrap (x8664 + 1),x9045))))) else (some (.inr x8665))))
noncomputable def spec_l07All_l1 (a1:(Vec Int 64)) (a0:Int) (x6115:Int) (x6116:(List ((Vec Int 64)×(Vec Int 64)))):Option ((Int×(List ((Vec Int 64)×(Vec Int 64))))⊕(List ((Vec Int 64)×(Vec Int 64)))) :=
 (Option.bind (spec_l07Genus a1) fun r7647=>(if (decide (x6115≤r7647)) then (Option.bind (α:=(List ((Vec Int 64)×(Vec Int 64)))) ((loopM (fun s:(Int×(List ((Vec Int 64)×(Vec Int 64))))=>spec_l07All_l2 a0 x6115 a1 s.1 s.2) (0,x6116))) fun x8409=>(some (.inl ((IntKind.i64.wrap (x6115 + 1),x8409))))) else (some (.inr x6116))))
noncomputable def spec_l07All (a0:Int) (a1:(Vec Int 64)):Option (List ((Vec Int 64)×(Vec Int 64))) :=
 (Option.bind (α:=(List ((Vec Int 64)×(Vec Int 64)))) ((loopM (fun s:(Int×(List ((Vec Int 64)×(Vec Int 64))))=>spec_l07All_l1 a1 a0 s.1 s.2) (0,[]))) fun x4585=>(some x4585))
theorem spec_l07All_ok (a0:Int) (a1:(Vec Int 64)) (r:(List ((Vec Int 64)×(Vec Int 64)))) (h:spec_l07All a0 a1=some r):Den Try.prog 18 [(i6 a0),(eVb a1)] { r:=(eST_A64u8_A64u8_Z r) }:=by
 refine dd (rs:=[(eST_A64u8_A64u8_Z r)]) (L:=spec_l07All_L) good [(4,1),(5,2),(11,2)] Try.func18 Try.ntmps18 ?_
 refine ns ⟨[(0,i6 a0),(1,eVb a1)],[]⟩ ?_
 refine sr (vo 1300 (eVb a1) rfl rfl (vr (eST_A64u8_A64u8_Z ([])) (nk ⟨[(0,i6 a0),(3,ow 3)],[(3,bk (eVb a1))]⟩ (sr (vu (.osl 2100) [(2100,bk (.row 128 (([]).map eT_A64u8_A64u8_Z)))] rfl ⟨(Nat.le_of_ble_eq_true rfl),(Nat.le_of_ble_eq_true rfl),all_nil⟩ rfl (vr (.osl 2100) (nk ⟨[(0,i6 a0),(3,ow 3),(5,.osl 5)],[(3,bk (eVb a1)),(5,bk (.row 128 (([]).map eT_A64u8_A64u8_Z)))]⟩ ?_)))))))
 obtain ⟨y4586,hy4587,hk4588⟩:=bind_some h
 clear h
 refine a_join (emb:=fun (s:(List ((Vec Int 64)×(Vec Int 64))))=>⟨[(5,.osl 5)],[(5,bk (.row 128 (s.map eT_A64u8_A64u8_Z)))]⟩) (pre:=fun s=>s=y4586) ?_ ?_
 ·rintro x4585 rfl
  have h:=hk4588
  refine ns ⟨[(5,.osl 5)],[(5,bk (.row 128 (x4585.map eT_A64u8_A64u8_Z)))]⟩ (sr (vr (.osl 5) (vu (eST_A64u8_A64u8_Z x4585) [(5,bf (.row 128 (x4585.map eT_A64u8_A64u8_Z)))] rfl trivial rfl (nx _ rfl (a_ret ?_)))))
  refine ⟨.inr rfl,?_⟩
  rw [Try.results18]
  cases h
  exact ⟨_,_,_,_,_,rfl,trivial,.inl ⟨rfl,.inl rfl⟩,rfl,rfl⟩
 ·have h:=hy4587
  refine sr (vr (i6 0) (nk ⟨[(0,i6 a0),(3,ow 3),(5,.osl 5),(6,i6 0)],[(3,bk (eVb a1)),(5,bk (.row 128 (([]).map eT_A64u8_A64u8_Z)))]⟩ (a_block ?_)))
  refine a_loop (emb:=fun (s:(Int×(List ((Vec Int 64)×(Vec Int 64)))))=>⟨[(0,i6 a0),(3,ow 3),(5,.osl 5),(6,i6 s.1)],[(3,bk (eVb a1)),(5,bk (.row 128 (s.2.map eT_A64u8_A64u8_Z)))]⟩) (body:=(fun s:(Int×(List ((Vec Int 64)×(Vec Int 64))))=>spec_l07All_l1 a1 a0 s.1 s.2)) (G:=fun q=>some q=some y4586) h rfl ?_ (by kernel_rfl)
  rintro X7643 ⟨x6115,x6116⟩ x7644 h hX7645
  have h:spec_l07All_l1 a1 a0 x6115 x6116=some x7644:=h
  refine ns ⟨[(0,i6 a0),(3,ow 3),(5,.osl 5),(6,i6 x6115)],[(3,bk (eVb a1)),(5,bk (.row 128 (x6116.map eT_A64u8_A64u8_Z)))]⟩ (a_seq (sr (vr (i6 x6115) (vl (eVb a1) rfl rfl rfl rfl rfl rfl ?_))))
  obtain ⟨r7647,hr7648,h⟩:=bind_some h
  refine ca (spec_l07Genus_ok a1 r7647 hr7648) (vr (.bool ((decide (x6115≤r7647)))) (nk ⟨[(0,i6 a0),(3,ow 3),(5,.osl 5),(6,i6 x6115),(15,.bool ((decide (x6115≤r7647))))],[(3,bk (eVb a1)),(5,bk (.row 128 (x6116.map eT_A64u8_A64u8_Z)))]⟩ ?_))
  cases hb7649:(decide (x6115≤r7647))
  ·have h:=ite_f hb7649 h
   refine a_cond_f rfl (a_exit (t_exit ?_))
   cases h
   have h:=hX7645
   refine t_exit (b_exit ?_)
   exact jl x6116 h
  ·have h:=ite_t hb7649 h
   refine a_cond_t rfl (a_skip (nj ⟨[(0,i6 a0),(3,ow 3),(5,.osl 5),(6,i6 x6115)],[(3,bk (eVb a1)),(5,bk (.row 128 (x6116.map eT_A64u8_A64u8_Z)))]⟩ ?_))
   obtain ⟨y8410,hy8411,hk8412⟩:=bind_some h
   clear h
   refine a_join (emb:=fun (s:(List ((Vec Int 64)×(Vec Int 64))))=>⟨[(0,i6 a0),(3,ow 3),(5,.osl 5),(6,i6 x6115)],[(3,bk (eVb a1)),(5,bk (.row 128 (s.map eT_A64u8_A64u8_Z)))]⟩) (pre:=fun s=>s=y8410) ?_ ?_
   ·rintro x8409 rfl
    have h:=hk8412
    refine ns ⟨[(0,i6 a0),(3,ow 3),(5,.osl 5),(6,i6 x6115)],[(3,bk (eVb a1)),(5,bk (.row 128 (x8409.map eT_A64u8_A64u8_Z)))]⟩ (a_region (vr (i6 x6115) (vr (i6 (IntKind.i64.wrap (x6115 + 1))) (vr (i6 (IntKind.i64.wrap (x6115 + 1))) (a_nil ?_)))))
    cases h
    exact ag hX7645
   ·have h:=hy8411
    refine a_block (sr (vr (i6 0) (nk ⟨[(0,i6 a0),(3,ow 3),(5,.osl 5),(6,i6 x6115),(7,i6 0)],[(3,bk (eVb a1)),(5,bk (.row 128 (x6116.map eT_A64u8_A64u8_Z)))]⟩ (a_block ?_))))
    refine a_loop (emb:=fun (s:(Int×(List ((Vec Int 64)×(Vec Int 64)))))=>⟨[(0,i6 a0),(3,ow 3),(5,.osl 5),(6,i6 x6115),(7,i6 s.1)],[(3,bk (eVb a1)),(5,bk (.row 128 (s.2.map eT_A64u8_A64u8_Z)))]⟩) (body:=(fun s:(Int×(List ((Vec Int 64)×(Vec Int 64))))=>spec_l07All_l2 a0 x6115 a1 s.1 s.2)) (G:=fun q=>some q=some y8410) h rfl ?_ (by kernel_rfl)
    rintro X8917 ⟨x8664,x8665⟩ x8918 h hX8919
    have h:spec_l07All_l2 a0 x6115 a1 x8664 x8665=some x8918:=h
    refine ns ⟨[(0,i6 a0),(3,ow 3),(5,.osl 5),(6,i6 x6115),(7,i6 x8664)],[(3,bk (eVb a1)),(5,bk (.row 128 (x8665.map eT_A64u8_A64u8_Z)))]⟩ (a_seq (sr (vr (i6 x8664) (vr (i6 a0) (vr (i6 x6115) ?_)))))
    obtain ⟨r8920,hr8921,h⟩:=bind_some h
    refine ca (spec_l01Count_ok a0 x6115 r8920 hr8921) (vr (.bool ((decide (x8664 < r8920)))) (nk ⟨[(0,i6 a0),(3,ow 3),(5,.osl 5),(6,i6 x6115),(7,i6 x8664),(22,.bool ((decide (x8664 < r8920))))],[(3,bk (eVb a1)),(5,bk (.row 128 (x8665.map eT_A64u8_A64u8_Z)))]⟩ ?_))
    cases hb8922:(decide (x8664 < r8920))
    ·have h:=ite_f hb8922 h
     refine a_cond_f rfl (a_exit (t_exit ?_))
     cases h
     have h:=hX8919
     refine t_exit (b_exit (b_norm ?_))
     exact jl x8665 h
    ·have h:=ite_t hb8922 h
     refine a_cond_t rfl (a_skip (nj ⟨[(0,i6 a0),(3,ow 3),(5,.osl 5),(6,i6 x6115),(7,i6 x8664)],[(3,bk (eVb a1)),(5,bk (.row 128 (x8665.map eT_A64u8_A64u8_Z)))]⟩ ?_))
     obtain ⟨y9046,hy9047,hk9048⟩:=bind_some h
     clear h
     refine a_join (emb:=fun (s:(List ((Vec Int 64)×(Vec Int 64))))=>⟨[(0,i6 a0),(3,ow 3),(5,.osl 5),(6,i6 x6115),(7,i6 x8664)],[(3,bk (eVb a1)),(5,bk (.row 128 (s.map eT_A64u8_A64u8_Z)))]⟩) (pre:=fun s=>s=y9046) ?_ ?_
     ·rintro x9045 rfl
      have h:=hk9048
      refine ns ⟨[(0,i6 a0),(3,ow 3),(5,.osl 5),(6,i6 x6115),(7,i6 x8664)],[(3,bk (eVb a1)),(5,bk (.row 128 (x9045.map eT_A64u8_A64u8_Z)))]⟩ (a_region (vr (i6 x8664) (vr (i6 (IntKind.i64.wrap (x8664 + 1))) (vr (i6 (IntKind.i64.wrap (x8664 + 1))) (a_nil ?_)))))
      cases h
      exact ag hX8919
     ·have h:=hy9047
      refine a_block (sr (vr (i6 a0) (vr (i6 x8664) ?_)))
      obtain ⟨r9049,hr9050,h⟩:=bind_some h
      refine ca (spec_l01Of_ok a0 x8664 r9049 hr9050) (vo 1800 (eV0) rfl rfl (vs (eVb r9049) rfl rfl (fun _=>rfl) rfl rfl rfl rfl rfl rfl (nk ⟨[(0,i6 a0),(3,ow 3),(5,.osl 5),(6,i6 x6115),(7,i6 x8664),(8,ow 8)],[(3,bk (eVb a1)),(5,bk (.row 128 (x8665.map eT_A64u8_A64u8_Z))),(8,bk (eVb r9049))]⟩ (sr (vr (i6 x6115) ?_)))))
      obtain ⟨hc9052,h⟩:=ifp_some h
      refine vq (.own 8 [x6115.toNat] [x6115.toNat*1]) rfl hc9052 ?_
      have hs9053:StOk [x6115.toNat] (eVb r9049) [x6115.toNat*1] 1 (b8 1) (eVb (vset r9049 x6115.toNat 1)):=(.arr (y:=1) (vlt r9049 hc9052) rfl (.nil rfl rfl rfl rfl))
      refine vu .top [(8,bk (eVb (vset r9049 x6115.toNat 1)))] (st_own (i:=⟨.int .u8,1,1,(.int .u8 0)⟩) rfl rfl (fun _=>rfl) rfl hs9053) (hs9053.c rfl) rfl (nk ⟨[(0,i6 a0),(3,ow 3),(5,.osl 5),(6,i6 x6115),(7,i6 x8664),(8,ow 8)],[(3,bk (eVb a1)),(5,bk (.row 128 (x8665.map eT_A64u8_A64u8_Z))),(8,bk (eVb (vset r9049 x6115.toNat 1)))]⟩ (sr (vr (i6 0) (nk ⟨[(0,i6 a0),(3,ow 3),(5,.osl 5),(6,i6 x6115),(7,i6 x8664),(8,ow 8),(9,i6 0)],[(3,bk (eVb a1)),(5,bk (.row 128 (x8665.map eT_A64u8_A64u8_Z))),(8,bk (eVb (vset r9049 x6115.toNat 1)))]⟩ (a_block ?_)))))
      refine a_loop (emb:=fun (s:(Int×(List ((Vec Int 64)×(Vec Int 64)))))=>⟨[(0,i6 a0),(3,ow 3),(5,.osl 5),(6,i6 x6115),(7,i6 x8664),(8,ow 8),(9,i6 s.1)],[(3,bk (eVb a1)),(5,bk (.row 128 (s.2.map eT_A64u8_A64u8_Z))),(8,bk (eVb (vset r9049 x6115.toNat 1)))]⟩) (body:=(fun s:(Int×(List ((Vec Int 64)×(Vec Int 64))))=>spec_l07All_l3 a0 x6115 a1 r9049 s.1 s.2)) (G:=fun q=>some q=some y9046) h rfl ?_ (by kernel_rfl)
      rintro X9130 ⟨x9091,x9092⟩ x9131 h hX9132
      have h:spec_l07All_l3 a0 x6115 a1 r9049 x9091 x9092=some x9131:=h
      refine ns ⟨[(0,i6 a0),(3,ow 3),(5,.osl 5),(6,i6 x6115),(7,i6 x8664),(8,ow 8),(9,i6 x9091)],[(3,bk (eVb a1)),(5,bk (.row 128 (x9092.map eT_A64u8_A64u8_Z))),(8,bk (eVb (vset r9049 x6115.toNat 1)))]⟩ (a_seq (sr (vr (i6 x9091) (vr (i6 a0) (vr (i6 x6115) ?_)))))
      obtain ⟨r9133,hr9134,h⟩:=bind_some h
      refine ca (spec_l01Count_ok a0 x6115 r9133 hr9134) (vr (.bool ((decide (x9091 < r9133)))) (nk ⟨[(0,i6 a0),(3,ow 3),(5,.osl 5),(6,i6 x6115),(7,i6 x8664),(8,ow 8),(9,i6 x9091),(34,.bool ((decide (x9091 < r9133))))],[(3,bk (eVb a1)),(5,bk (.row 128 (x9092.map eT_A64u8_A64u8_Z))),(8,bk (eVb (vset r9049 x6115.toNat 1)))]⟩ ?_))
      cases hb9135:(decide (x9091 < r9133))
      ·have h:=ite_f hb9135 h
       refine a_cond_f rfl (a_exit (t_exit ?_))
       cases h
       have h:=hX9132
       refine t_exit (b_exit (b_norm ?_))
       exact jl x9092 h
      ·have h:=ite_t hb9135 h
       refine a_cond_t rfl (a_skip (nj ⟨[(0,i6 a0),(3,ow 3),(5,.osl 5),(6,i6 x6115),(7,i6 x8664),(8,ow 8),(9,i6 x9091)],[(3,bk (eVb a1)),(5,bk (.row 128 (x9092.map eT_A64u8_A64u8_Z))),(8,bk (eVb (vset r9049 x6115.toNat 1)))]⟩ ?_))
       obtain ⟨y9152,hy9153,hk9154⟩:=bind_some h
       clear h
       refine a_join (emb:=fun (s:(List ((Vec Int 64)×(Vec Int 64))))=>⟨[(0,i6 a0),(3,ow 3),(5,.osl 5),(6,i6 x6115),(7,i6 x8664),(8,ow 8),(9,i6 x9091)],[(3,bk (eVb a1)),(5,bk (.row 128 (s.map eT_A64u8_A64u8_Z))),(8,bk (eVb (vset r9049 x6115.toNat 1)))]⟩) (pre:=fun s=>s=y9152) ?_ ?_
       ·rintro x9151 rfl
        have h:=hk9154
        refine ns ⟨[(0,i6 a0),(3,ow 3),(5,.osl 5),(6,i6 x6115),(7,i6 x8664),(8,ow 8),(9,i6 x9091)],[(3,bk (eVb a1)),(5,bk (.row 128 (x9151.map eT_A64u8_A64u8_Z))),(8,bk (eVb (vset r9049 x6115.toNat 1)))]⟩ (a_region (vr (i6 x9091) (vr (i6 (IntKind.i64.wrap (x9091 + 1))) (vr (i6 (IntKind.i64.wrap (x9091 + 1))) (a_nil ?_)))))
        cases h
        exact ag hX9132
       ·have h:=hy9153
        refine a_block (a_seq (a_draw [⟨[8],[],[],[]⟩,⟨[],[],[],[]⟩,⟨[],[],[],[]⟩,⟨[],[],[],[1,2]⟩,⟨[],[],[],[0,1,2,3]⟩,⟨[2000],[2000],[2000],[]⟩,⟨[2000],[2000],[],[0,1,2,3,4,5]⟩] (by kernel_rfl) (d_cons (vl (eVb (vset r9049 x6115.toNat 1)) rfl rfl rfl rfl rfl rfl (dn (dj (i6 a0) rfl (dj (i6 x9091) rfl (d_cons ?_))))))))
        obtain ⟨r9160,hr9161,h⟩:=bind_some h
        refine ca (spec_l01Of_ok a0 x9091 r9160 hr9161) (dn (d_cons (vq (eT_A64u8_A64u8_Z (((vset r9049 x6115.toNat 1),r9160))) rfl ⟨rfl,(all_cons ⟨(Nat.le_of_ble_eq_true rfl),rfl⟩ (all_cons ⟨(Nat.le_of_ble_eq_true rfl),rfl⟩ all_nil))⟩ (dn (d_cons (vo 2000 (eT_A64u8_A64u8_Z (((vrep 64 (0:Int)),(vrep 64 (0:Int))))) rfl rfl (dn (d_cons (vs (eT_A64u8_A64u8_Z (((vset r9049 x6115.toNat 1),r9160))) rfl rfl (fun _=>rfl) rfl rfl rfl rfl rfl rfl ?_)))))))))
        refine dn (d_nil (nj ⟨[(0,i6 a0),(3,ow 3),(5,.osl 5),(6,i6 x6115),(7,i6 x8664),(8,ow 8),(9,i6 x9091),(10,ow 10)],[(3,bk (eVb a1)),(5,bk (.row 128 (x9092.map eT_A64u8_A64u8_Z))),(8,bk (eVb (vset r9049 x6115.toNat 1))),(10,bk (eT_A64u8_A64u8_Z (((vset r9049 x6115.toNat 1),r9160))))]⟩ (sr (vr (i6 a0) (vl (eVb a1) rfl rfl rfl rfl rfl rfl (vl (eT_A64u8_A64u8_Z (((vset r9049 x6115.toNat 1),r9160))) rfl rfl rfl rfl rfl rfl ?_))))))
        obtain ⟨r9165,hr9166,h⟩:=bind_some h
        refine ca (spec_l07Form_ok a0 a1 (((vset r9049 x6115.toNat 1),r9160)) r9165 hr9166) (nk ⟨[(0,i6 a0),(3,ow 3),(5,.osl 5),(6,i6 x6115),(7,i6 x8664),(8,ow 8),(9,i6 x9091),(10,ow 10),(45,.bool r9165)],[(3,bk (eVb a1)),(5,bk (.row 128 (x9092.map eT_A64u8_A64u8_Z))),(8,bk (eVb (vset r9049 x6115.toNat 1))),(10,bk (eT_A64u8_A64u8_Z (((vset r9049 x6115.toNat 1),r9160))))]⟩ ?_)
        cases hb9167:r9165
        ·have h:=ite_f hb9167 h
         refine a_cond_f rfl (a_skip (b_norm ?_))
         exact jl x9092 h
        ·have h:=ite_t hb9167 h
         refine a_cond_t rfl (a_region (vr (.osl 5) (vl (eT_A64u8_A64u8_Z (((vset r9049 x6115.toNat 1),r9160))) rfl rfl rfl rfl rfl rfl (vq (.sl 128 true (([((vset r9049 x6115.toNat 1),r9160)]).map eT_A64u8_A64u8_Z)) rfl ⟨(Nat.le_of_ble_eq_true rfl),(Nat.le_of_ble_eq_true rfl),(all_cons ⟨(Nat.le_of_ble_eq_true rfl),rfl⟩ all_nil)⟩ ?_))))
         obtain ⟨hc9169,h⟩:=ifp_some h
         refine vu (.osl 5900) [(5900,bk (.row 128 (((x9092 ++ ([((vset r9049 x6115.toNat 1),r9160)]))).map eT_A64u8_A64u8_Z))),(5,none)] (app_run (i:=⟨.struct [(0,26),(64,26)],128,128,(eT_A64u8_A64u8_Z ((vrep 64 (0:Int)),(vrep 64 (0:Int))))⟩) (f:=eT_A64u8_A64u8_Z) (l:=x9092) (l2:=[((vset r9049 x6115.toNat 1),r9160)]) rfl rfl rfl rfl (fun _=>rfl) rfl rfl) (app_c (f:=eT_A64u8_A64u8_Z) (s:=128) (sz:=128) (by':=128) (u:=[]) (id:=5) hc9169 (.inr rfl) rfl rfl rfl) rfl (vr (.osl 5900) (a_nil (b_norm ?_)))
         exact jl ((x9092 ++ ([((vset r9049 x6115.toNat 1),r9160)]))) h
def spec_l07Unit_L:Live:=[(0,[]),(1,[0])]
noncomputable def spec_l07Unit :Option ((Vec Int 64)×(Vec Int 64)) :=
 (Option.bind (spec_l01One) fun r1=>(some ((r1,(vrep 64 (0:Int))))))
theorem spec_l07Unit_ok  (r:((Vec Int 64)×(Vec Int 64))) (h:spec_l07Unit=some r):Den Try.prog 43 [] { r:=(eT_A64u8_A64u8_Z r) }:=by
 refine dd (rs:=[(eT_A64u8_A64u8_Z r)]) (L:=spec_l07Unit_L) good [] Try.func43 Try.ntmps43 ?_
 refine ns ⟨[],[]⟩ ?_
 refine sr (vo 1000 (eT_A64u8_A64u8_Z (((vrep 64 (0:Int)),(vrep 64 (0:Int))))) rfl rfl (nk ⟨[(0,ow 0)],[(0,bk (eT_A64u8_A64u8_Z (((vrep 64 (0:Int)),(vrep 64 (0:Int))))))]⟩ (sr ?_)))
 obtain ⟨r1,hr2,h⟩:=bind_some h
 refine ca (spec_l01One_ok r1 hr2) (vq (eT_A64u8_A64u8_Z ((r1,(vrep 64 (0:Int))))) rfl ⟨rfl,(all_cons ⟨(Nat.le_of_ble_eq_true rfl),rfl⟩ all_nil)⟩ (vs (eT_A64u8_A64u8_Z ((r1,(vrep 64 (0:Int))))) rfl rfl (fun _=>rfl) rfl rfl rfl rfl rfl rfl (nx _ rfl (a_ret ?_))))
 have hl4:LdOk [] (eT_A64u8_A64u8_Z ((r1,(vrep 64 (0:Int))))) [] 128 true (eT_A64u8_A64u8_Z ((r1,(vrep 64 (0:Int))))):=(.nil rfl rfl rfl)
 refine ⟨.inr rfl,?_⟩
 rw [Try.results43]
 cases h
 exact ⟨_,_,_,_,_,ld_own (i:=⟨.struct [(0,26),(64,26)],128,128,(eT_A64u8_A64u8_Z ((vrep 64 (0:Int)),(vrep 64 (0:Int))))⟩) rfl rfl rfl hl4,hl4.c,.inl ⟨rfl,.inl rfl⟩,rfl,rfl⟩
def spec_l07Product_L:Live:=[(0,[0,1,2,3]),(1,[0,5,6,7,8]),(2,[0,7,8,9]),(3,[8,11])]
noncomputable def spec_l07Product (a0:Int) (a1:(Vec Int 64)) (a2:(Vec Int 64)) (a3:(Vec Int 64)):Option (Vec Int 64) :=
 (Option.bind (spec_l01Times a0 a1 a2) fun r3=>(Option.bind (spec_l01Times a0 r3.1 a3) fun r8=>(some r8.1)))
theorem spec_l07Product_ok (a0:Int) (a1:(Vec Int 64)) (a2:(Vec Int 64)) (a3:(Vec Int 64)) (r:(Vec Int 64)) (h:spec_l07Product a0 a1 a2 a3=some r):Den Try.prog 82 [(i6 a0),(eVb a1),(eVb a2),(eVb a3)] { r:=(eVb r) }:=by
 refine dd (rs:=[(eVb r)]) (L:=spec_l07Product_L) good [] Try.func82 Try.ntmps82 ?_
 refine ns ⟨[(0,i6 a0),(1,eVb a1),(2,eVb a2),(3,eVb a3)],[]⟩ ?_
 refine sr (vo 1500 (eVb a1) rfl rfl (vo 1600 (eVb a2) rfl rfl (vo 1700 (eVb a3) rfl rfl (vo 1800 (eV0) rfl rfl (nk ⟨[(0,i6 a0),(5,ow 5),(6,ow 6),(7,ow 7),(8,ow 8)],[(5,bk (eVb a1)),(6,bk (eVb a2)),(7,bk (eVb a3)),(8,bk (eV0))]⟩ (sr (vr (i6 a0) (vl (eVb a1) rfl rfl rfl rfl rfl rfl (vl (eVb a2) rfl rfl rfl rfl rfl rfl ?_)))))))))
 obtain ⟨r3,hr4,h⟩:=bind_some h
 refine ca (spec_l01Times_ok a0 a1 a2 r3 hr4) (vr (.tuple [(eVb r3.1),(.bool r3.2)]) (vb (eVb r3.1) rfl rfl (vb (.bool r3.2) rfl rfl (vo 1900 (eV0) rfl rfl (vs (eVb r3.1) rfl rfl (fun _=>rfl) rfl rfl rfl rfl rfl rfl (vr (.bool r3.2) (nk ⟨[(0,i6 a0),(7,ow 7),(8,ow 8),(9,ow 9)],[(7,bk (eVb a3)),(8,bk (eV0)),(9,bk (eVb r3.1))]⟩ (sr (vr (i6 a0) ?_)))))))))
 refine vl (eVb r3.1) rfl rfl rfl rfl rfl rfl (vl (eVb a3) rfl rfl rfl rfl rfl rfl ?_)
 obtain ⟨r8,hr9,h⟩:=bind_some h
 refine ca (spec_l01Times_ok a0 r3.1 a3 r8 hr9) (vr (.tuple [(eVb r8.1),(.bool r8.2)]) (vb (eVb r8.1) rfl rfl (vb (.bool r8.2) rfl rfl (vo 2100 (eV0) rfl rfl (vs (eVb r8.1) rfl rfl (fun _=>rfl) rfl rfl rfl rfl rfl rfl (vr (.bool r8.2) (nk ⟨[(8,ow 8),(11,ow 11)],[(8,bk (eV0)),(11,bk (eVb r8.1))]⟩ (sr (vl (eVb r8.1) rfl rfl rfl rfl rfl rfl ?_)))))))))
 refine vs (eVb r8.1) rfl rfl (fun _=>rfl) rfl rfl rfl rfl rfl rfl (nx _ rfl (a_ret ?_))
 have hl13:LdOk [] (eVb r8.1) [] 64 true (eVb r8.1):=(.nil rfl rfl rfl)
 refine ⟨.inr rfl,?_⟩
 rw [Try.results82]
 cases h
 exact ⟨_,_,_,_,_,ld_own (i:=⟨.arr 64 5,64,64,(eVb (vrep 64 (0:Int)))⟩) rfl rfl rfl hl13,hl13.c,.inl ⟨rfl,.inl rfl⟩,rfl,rfl⟩
def spec_l07Monic_L:Live:=[(0,[0,1]),(1,[0,3,4])]
noncomputable def spec_l07Monic (a0:Int) (a1:(Vec Int 64)):Option (Vec Int 64) :=
 (Option.bind (spec_l01Deg a1) fun r14=>(ifp (0≤r14∧r14 < ((64:Nat):Int)) ((Option.bind (spec_l01Inverse a0 (rd a1.1 r14.toNat)) fun r18=>(Option.bind (spec_l01Add a0 ((vrep 64 (0:Int))) a1 (IntKind.i64.wrap r18)) fun r20=>(some r20))))))
theorem spec_l07Monic_ok (a0:Int) (a1:(Vec Int 64)) (r:(Vec Int 64)) (h:spec_l07Monic a0 a1=some r):Den Try.prog 109 [(i6 a0),(eVb a1)] { r:=(eVb r) }:=by
 refine dd (rs:=[(eVb r)]) (L:=spec_l07Monic_L) good [] Try.func109 Try.ntmps109 ?_
 refine ns ⟨[(0,i6 a0),(1,eVb a1)],[]⟩ ?_
 refine sr (vo 1300 (eVb a1) rfl rfl (vo 1400 (eV0) rfl rfl (nk ⟨[(0,i6 a0),(3,ow 3),(4,ow 4)],[(3,bk (eVb a1)),(4,bk (eV0))]⟩ (a_seq (a_draw [⟨[],[],[],[]⟩,⟨[],[],[],[]⟩,⟨[3],[],[],[]⟩,⟨[],[],[],[]⟩,⟨[3],[],[],[]⟩,⟨[],[],[],[4]⟩,⟨[3],[],[3],[4,5]⟩,⟨[3],[],[],[4,5,6]⟩,⟨[],[],[],[3,4,5,6,7]⟩,⟨[],[],[],[3,4,5,6,7,8]⟩,⟨[],[],[],[0,1,2,3,4,5,6,7,8,9]⟩,⟨[4],[4],[],[0,1,2,3,4,5,6,7,8,9,10]⟩] (by kernel_rfl) (dj (i6 a0) rfl (d_cons (vq (eV0) rfl ⟨⟨_,rfl,rfl⟩,all_nil⟩ (dn ?_)))))))))
 refine d_cons (vl (eVb a1) rfl rfl rfl rfl rfl rfl (dn (dj (i6 a0) rfl (d_cons (vl (eVb a1) rfl rfl rfl rfl rfl rfl (dn (d_cons ?_)))))))
 obtain ⟨r14,hr15,h⟩:=bind_some h
 refine ca (spec_l01Deg_ok a1 r14 hr15) (dn (d_cons ?_))
 obtain ⟨hc16,h⟩:=ifp_some h
 refine vq (.own 3 [r14.toNat] [r14.toNat*1]) rfl hc16 (dn (d_cons ?_))
 have hl17:LdOk [r14.toNat] (eVb a1) [r14.toNat*1] 1 false (b8 (rd a1.1 r14.toNat)):=(.arr (vlt a1 hc16) rfl (.nil rfl rfl rfl))
 refine vq (b8 (rd a1.1 r14.toNat)) (ld_own (i:=⟨.int .u8,1,1,(.int .u8 0)⟩) rfl rfl rfl hl17) hl17.c (dn (d_cons ?_))
 obtain ⟨r18,hr19,h⟩:=bind_some h
 refine ca (spec_l01Inverse_ok a0 (rd a1.1 r14.toNat) r18 hr19) (dn (dj (i6 (IntKind.i64.wrap r18)) rfl (d_cons ?_)))
 obtain ⟨r20,hr21,h⟩:=bind_some h
 refine ca (spec_l01Add_ok a0 ((vrep 64 (0:Int))) a1 (IntKind.i64.wrap r18) r20 hr21) (dn (d_cons (vs (eVb r20) rfl rfl (fun _=>rfl) rfl rfl rfl rfl rfl rfl (dn (d_nil (a_next rfl (a_ret ?_)))))))
 have hl23:LdOk [] (eVb r20) [] 64 true (eVb r20):=(.nil rfl rfl rfl)
 refine ⟨.inr rfl,?_⟩
 rw [Try.results109]
 cases h
 exact ⟨_,_,_,_,_,ld_own (i:=⟨.arr 64 5,64,64,(eVb (vrep 64 (0:Int)))⟩) rfl rfl rfl hl23,hl23.c,.inl ⟨rfl,.inl rfl⟩,rfl,rfl⟩
def spec_l07Opposite_L:Live:=[(0,[0,1,2]),(1,[0,4,5,6])]
noncomputable def spec_l07Opposite (a0:Int) (a1:(Vec Int 64)) (a2:(Vec Int 64)):Option (Vec Int 64) :=
 (Option.bind (spec_l01Add a0 ((vrep 64 (0:Int))) a1 (-1)) fun r9=>(Option.bind (spec_l01Mod a0 r9 a2) fun r12=>(some r12)))
theorem spec_l07Opposite_ok (a0:Int) (a1:(Vec Int 64)) (a2:(Vec Int 64)) (r:(Vec Int 64)) (h:spec_l07Opposite a0 a1 a2=some r):Den Try.prog 110 [(i6 a0),(eVb a1),(eVb a2)] { r:=(eVb r) }:=by
 refine dd (rs:=[(eVb r)]) (L:=spec_l07Opposite_L) good [] Try.func110 Try.ntmps110 ?_
 refine ns ⟨[(0,i6 a0),(1,eVb a1),(2,eVb a2)],[]⟩ ?_
 refine sr (vo 1400 (eVb a1) rfl rfl (vo 1500 (eVb a2) rfl rfl (vo 1600 (eV0) rfl rfl (nk ⟨[(0,i6 a0),(4,ow 4),(5,ow 5),(6,ow 6)],[(4,bk (eVb a1)),(5,bk (eVb a2)),(6,bk (eV0))]⟩ (a_seq (a_draw [⟨[],[],[],[]⟩,⟨[],[],[],[]⟩,⟨[],[],[],[]⟩,⟨[4],[],[],[]⟩,⟨[],[],[],[1,2,3]⟩,⟨[5],[],[],[]⟩,⟨[],[],[],[0,1,2,3,4,5]⟩,⟨[6],[6],[],[0,1,2,3,4,5,6]⟩] (by kernel_rfl) (dj (i6 a0) rfl (dj (i6 a0) rfl (d_cons ?_)))))))))
 refine vq (eV0) rfl ⟨⟨_,rfl,rfl⟩,all_nil⟩ (dn (d_cons (vl (eVb a1) rfl rfl rfl rfl rfl rfl (dn (d_cons ?_)))))
 obtain ⟨r9,hr10,h⟩:=bind_some h
 refine ca (spec_l01Add_ok a0 ((vrep 64 (0:Int))) a1 (-1) r9 hr10) (dn (d_cons (vl (eVb a2) rfl rfl rfl rfl rfl rfl (dn (d_cons ?_)))))
 obtain ⟨r12,hr13,h⟩:=bind_some h
 refine ca (spec_l01Mod_ok a0 r9 a2 r12 hr13) (dn (d_cons (vs (eVb r12) rfl rfl (fun _=>rfl) rfl rfl rfl rfl rfl rfl (dn (d_nil (a_next rfl (a_ret ?_)))))))
 have hl15:LdOk [] (eVb r12) [] 64 true (eVb r12):=(.nil rfl rfl rfl)
 refine ⟨.inr rfl,?_⟩
 rw [Try.results110]
 cases h
 exact ⟨_,_,_,_,_,ld_own (i:=⟨.arr 64 5,64,64,(eVb (vrep 64 (0:Int)))⟩) rfl rfl rfl hl15,hl15.c,.inl ⟨rfl,.inl rfl⟩,rfl,rfl⟩
def spec_l07Reduce_L:Live:=[(0,[0,1,2]),(1,[0,4,5,6]),(2,[0,4,5,6]),(3,[0,4,5,6,7]),(4,[0,4,5,6]),(5,[5,6]),(100014,[0,4,5,6,14])]
noncomputable def spec_l07Reduce_l1 (a1:(Vec Int 64)) (a0:Int) (x170:((Vec Int 64)×(Vec Int 64))):Option (((Vec Int 64)×(Vec Int 64))⊕((Vec Int 64)×(Vec Int 64))) :=
 (Option.bind (spec_l01Deg x170.1) fun r221=>(Option.bind (spec_l07Genus a1) fun r224=>(if (decide (r221 > r224)) then (Option.bind (spec_l07Square a0 a1 x170.2) fun r238=>(Option.bind (spec_l01Divide a0 r238 x170.1) fun r241=>(Option.bind (spec_l07Monic a0 r241.1) fun r246=>(Option.bind (spec_l07Opposite a0 x170.2 r246) fun r251=>(some (.inl (r246,r251))))))) else (some (.inr x170)))))
noncomputable def spec_l07Reduce (a0:Int) (a1:(Vec Int 64)) (a2:((Vec Int 64)×(Vec Int 64))):Option ((Vec Int 64)×(Vec Int 64)) :=
 (Option.bind (α:=((Vec Int 64)×(Vec Int 64))) ((loopM (fun s:((Vec Int 64)×(Vec Int 64))=>spec_l07Reduce_l1 a1 a0 s) a2)) fun x126=>(some x126))
theorem spec_l07Reduce_ok (a0:Int) (a1:(Vec Int 64)) (a2:((Vec Int 64)×(Vec Int 64))) (r:((Vec Int 64)×(Vec Int 64))) (h:spec_l07Reduce a0 a1 a2=some r):Den Try.prog 83 [(i6 a0),(eVb a1),(eT_A64u8_A64u8_Z a2)] { r:=(eT_A64u8_A64u8_Z r) }:=by
 refine dd (rs:=[(eT_A64u8_A64u8_Z r)]) (L:=spec_l07Reduce_L) good [] Try.func83 Try.ntmps83 ?_
 refine ns ⟨[(0,i6 a0),(1,eVb a1),(2,eT_A64u8_A64u8_Z a2)],[]⟩ ?_
 refine sr (vo 1400 (eVb a1) rfl rfl (vo 1500 (eT_A64u8_A64u8_Z a2) rfl rfl (vo 1600 (eT_A64u8_A64u8_Z (((vrep 64 (0:Int)),(vrep 64 (0:Int))))) rfl rfl (nk ⟨[(0,i6 a0),(4,ow 4),(5,ow 5),(6,ow 6)],[(4,bk (eVb a1)),(5,bk (eT_A64u8_A64u8_Z a2)),(6,bk (eT_A64u8_A64u8_Z (((vrep 64 (0:Int)),(vrep 64 (0:Int))))))]⟩ ?_))))
 obtain ⟨y127,hy128,hk129⟩:=bind_some h
 clear h
 refine a_join (emb:=fun (s:((Vec Int 64)×(Vec Int 64)))=>⟨[(5,ow 5),(6,ow 6)],[(5,bk (eT_A64u8_A64u8_Z s)),(6,bk (eT_A64u8_A64u8_Z (((vrep 64 (0:Int)),(vrep 64 (0:Int))))))]⟩) (pre:=fun s=>s=y127) ?_ ?_
 ·rintro x126 rfl
  have h:=hk129
  refine ns ⟨[(5,ow 5),(6,ow 6)],[(5,bk (eT_A64u8_A64u8_Z x126)),(6,bk (eT_A64u8_A64u8_Z (((vrep 64 (0:Int)),(vrep 64 (0:Int))))))]⟩ (sr (vl (eT_A64u8_A64u8_Z x126) rfl rfl rfl rfl rfl rfl (vs (eT_A64u8_A64u8_Z x126) rfl rfl (fun _=>rfl) rfl rfl rfl rfl rfl rfl (nx _ rfl (a_ret ?_)))))
  have hl257:LdOk [] (eT_A64u8_A64u8_Z x126) [] 128 true (eT_A64u8_A64u8_Z x126):=(.nil rfl rfl rfl)
  refine ⟨.inr rfl,?_⟩
  rw [Try.results83]
  cases h
  exact ⟨_,_,_,_,_,ld_own (i:=⟨.struct [(0,26),(64,26)],128,128,(eT_A64u8_A64u8_Z ((vrep 64 (0:Int)),(vrep 64 (0:Int))))⟩) rfl rfl rfl hl257,hl257.c,.inl ⟨rfl,.inl rfl⟩,rfl,rfl⟩
 ·have h:=hy128
  refine a_block ?_
  refine a_loop (emb:=fun (s:((Vec Int 64)×(Vec Int 64)))=>⟨[(0,i6 a0),(4,ow 4),(5,ow 5),(6,ow 6)],[(4,bk (eVb a1)),(5,bk (eT_A64u8_A64u8_Z s)),(6,bk (eT_A64u8_A64u8_Z (((vrep 64 (0:Int)),(vrep 64 (0:Int))))))]⟩) (body:=(fun s:((Vec Int 64)×(Vec Int 64))=>spec_l07Reduce_l1 a1 a0 s)) (G:=fun q=>some q=some y127) h rfl ?_ (by kernel_rfl)
  rintro X211 x170 x212 h hX213
  have h:spec_l07Reduce_l1 a1 a0 x170=some x212:=h
  refine ns ⟨[(0,i6 a0),(4,ow 4),(5,ow 5),(6,ow 6)],[(4,bk (eVb a1)),(5,bk (eT_A64u8_A64u8_Z x170)),(6,bk (eT_A64u8_A64u8_Z (((vrep 64 (0:Int)),(vrep 64 (0:Int))))))]⟩ (a_seq (a_seq (a_draw [⟨[5],[],[5],[]⟩,⟨[5],[],[],[0]⟩,⟨[],[],[],[0,1]⟩,⟨[4],[],[],[]⟩,⟨[],[],[],[0,1,2,3]⟩,⟨[],[],[],[0,1,2,3,4]⟩] (by kernel_rfl) (d_cons (vb (.own 5 [0] [0]) rfl rfl (dn (d_cons ?_)))))))
  have hl220:LdOk [0] (eT_A64u8_A64u8_Z x170) [0] 64 true (eVb x170.1):=(.fld rfl rfl rfl rfl (.nil rfl rfl rfl))
  refine vq (eVb x170.1) (ld_own (i:=⟨.arr 64 5,64,64,(eVb (vrep 64 (0:Int)))⟩) rfl rfl rfl hl220) hl220.c (dn (d_cons ?_))
  obtain ⟨r221,hr222,h⟩:=bind_some h
  refine ca (spec_l01Deg_ok x170.1 r221 hr222) (dn (d_cons (vl (eVb a1) rfl rfl rfl rfl rfl rfl (dn (d_cons ?_)))))
  obtain ⟨r224,hr225,h⟩:=bind_some h
  refine ca (spec_l07Genus_ok a1 r224 hr225) (dn (dj (.bool ((decide (r221 > r224)))) rfl (d_nil (nj ⟨[(0,i6 a0),(4,ow 4),(5,ow 5),(6,ow 6),(14,.bool ((decide (r221 > r224))))],[(4,bk (eVb a1)),(5,bk (eT_A64u8_A64u8_Z x170)),(6,bk (eT_A64u8_A64u8_Z (((vrep 64 (0:Int)),(vrep 64 (0:Int))))))]⟩ ?_))))
  cases hb226:(decide (r221 > r224))
  ·have h:=ite_f hb226 h
   refine a_cond_f rfl (a_exit (t_exit ?_))
   cases h
   have h:=hX213
   refine t_exit (b_exit ?_)
   exact jl x170 h
  ·have h:=ite_t hb226 h
   refine a_cond_t rfl (a_skip (nj ⟨[(0,i6 a0),(4,ow 4),(5,ow 5),(6,ow 6)],[(4,bk (eVb a1)),(5,bk (eT_A64u8_A64u8_Z x170)),(6,bk (eT_A64u8_A64u8_Z (((vrep 64 (0:Int)),(vrep 64 (0:Int))))))]⟩ (a_block (a_seq (a_draw [⟨[],[],[],[]⟩,⟨[],[],[],[]⟩,⟨[4],[],[],[]⟩,⟨[5],[],[5],[]⟩,⟨[5],[],[],[3]⟩,⟨[],[],[],[1,2,3,4]⟩,⟨[5],[],[5],[]⟩,⟨[5],[],[],[6]⟩,⟨[],[],[],[0,1,2,3,4,5,6,7]⟩,⟨[],[],[],[0,1,2,3,4,5,6,7,8]⟩,⟨[],[],[],[0,1,2,3,4,5,6,7,8,9]⟩,⟨[],[],[],[0,1,2,3,4,5,6,7,8,9]⟩,⟨[1700],[1700],[1700],[]⟩,⟨[1800],[1800],[1800],[]⟩,⟨[1700],[1700],[],[0,1,2,3,4,5,6,7,8,9,10,12,13]⟩,⟨[1800],[1800],[],[0,1,2,3,4,5,6,7,8,9,10,11,12,13,14]⟩] (by kernel_rfl) (dj (i6 a0) rfl (dj (i6 a0) rfl (d_cons (vl (eVb a1) rfl rfl rfl rfl rfl rfl ?_)))))))))
   refine dn (d_cons (vb (.own 5 [1] [64]) rfl rfl (dn (d_cons ?_))))
   have hl237:LdOk [1] (eT_A64u8_A64u8_Z x170) [64] 64 true (eVb x170.2):=(.fld rfl rfl rfl rfl (.nil rfl rfl rfl))
   refine vq (eVb x170.2) (ld_own (i:=⟨.arr 64 5,64,64,(eVb (vrep 64 (0:Int)))⟩) rfl rfl rfl hl237) hl237.c (dn (d_cons ?_))
   obtain ⟨r238,hr239,h⟩:=bind_some h
   refine ca (spec_l07Square_ok a0 a1 x170.2 r238 hr239) (dn (d_cons (vb (.own 5 [0] [0]) rfl rfl (dn (d_cons ?_)))))
   have hl240:LdOk [0] (eT_A64u8_A64u8_Z x170) [0] 64 true (eVb x170.1):=(.fld rfl rfl rfl rfl (.nil rfl rfl rfl))
   refine vq (eVb x170.1) (ld_own (i:=⟨.arr 64 5,64,64,(eVb (vrep 64 (0:Int)))⟩) rfl rfl rfl hl240) hl240.c (dn (d_cons ?_))
   obtain ⟨r241,hr242,h⟩:=bind_some h
   refine ca (spec_l01Divide_ok a0 r238 x170.1 r241 hr242) (dn (dj (.tuple [(eVb r241.1),(eVb r241.2)]) rfl (d_cons (vb (eVb r241.1) rfl rfl (dn (d_cons (vb (eVb r241.2) rfl rfl (dn (d_cons ?_)))))))))
   refine vo 1700 (eV0) rfl rfl (dn (d_cons (vo 1800 (eV0) rfl rfl (dn (d_cons (vs (eVb r241.1) rfl rfl (fun _=>rfl) rfl rfl rfl rfl rfl rfl (dn (d_cons (vs (eVb r241.2) rfl rfl (fun _=>rfl) rfl rfl rfl rfl rfl rfl ?_)))))))))
   refine dn (d_nil (nj ⟨[(0,i6 a0),(4,ow 4),(5,ow 5),(6,ow 6),(7,ow 7)],[(4,bk (eVb a1)),(5,bk (eT_A64u8_A64u8_Z x170)),(6,bk (eT_A64u8_A64u8_Z (((vrep 64 (0:Int)),(vrep 64 (0:Int)))))),(7,bk (eVb r241.1))]⟩ (sr (vr (i6 a0) (vl (eVb r241.1) rfl rfl rfl rfl rfl rfl ?_)))))
   obtain ⟨r246,hr247,h⟩:=bind_some h
   refine ca (spec_l07Monic_ok a0 r241.1 r246 hr247) (vb (.own 5 [0] [0]) rfl rfl ?_)
   have hs248:StOk [0] (eT_A64u8_A64u8_Z x170) [0] 64 (eVb r246) (eT_A64u8_A64u8_Z (r246,x170.2)):=(.fld rfl rfl rfl rfl (.nil rfl rfl rfl rfl))
   refine vu .top [(5,bk (eT_A64u8_A64u8_Z (r246,x170.2)))] (st_own (i:=⟨.arr 64 5,64,64,(eVb (vrep 64 (0:Int)))⟩) rfl rfl (fun _=>rfl) rfl hs248) (hs248.c rfl) rfl (nk ⟨[(0,i6 a0),(4,ow 4),(5,ow 5),(6,ow 6)],[(4,bk (eVb a1)),(5,bk (eT_A64u8_A64u8_Z (r246,x170.2))),(6,bk (eT_A64u8_A64u8_Z (((vrep 64 (0:Int)),(vrep 64 (0:Int))))))]⟩ (a_region (vr (i6 a0) (vb (.own 5 [1] [64]) rfl rfl ?_))))
   have hl249:LdOk [1] (eT_A64u8_A64u8_Z (r246,x170.2)) [64] 64 true (eVb x170.2):=(.fld rfl rfl rfl rfl (.nil rfl rfl rfl))
   refine vq (eVb x170.2) (ld_own (i:=⟨.arr 64 5,64,64,(eVb (vrep 64 (0:Int)))⟩) rfl rfl rfl hl249) hl249.c (vb (.own 5 [0] [0]) rfl rfl ?_)
   have hl250:LdOk [0] (eT_A64u8_A64u8_Z (r246,x170.2)) [0] 64 true (eVb r246):=(.fld rfl rfl rfl rfl (.nil rfl rfl rfl))
   refine vq (eVb r246) (ld_own (i:=⟨.arr 64 5,64,64,(eVb (vrep 64 (0:Int)))⟩) rfl rfl rfl hl250) hl250.c ?_
   obtain ⟨r251,hr252,h⟩:=bind_some h
   refine ca (spec_l07Opposite_ok a0 x170.2 r246 r251 hr252) (vb (.own 5 [1] [64]) rfl rfl ?_)
   have hs253:StOk [1] (eT_A64u8_A64u8_Z (r246,x170.2)) [64] 64 (eVb r251) (eT_A64u8_A64u8_Z (r246,r251)):=(.fld rfl rfl rfl rfl (.nil rfl rfl rfl rfl))
   refine vu .top [(5,bk (eT_A64u8_A64u8_Z (r246,r251)))] (st_own (i:=⟨.arr 64 5,64,64,(eVb (vrep 64 (0:Int)))⟩) rfl rfl (fun _=>rfl) rfl hs253) (hs253.c rfl) rfl (a_nil (b_norm ?_))
   cases h
   exact ag hX213
def spec_l07Compose_L:Live:=[(0,[0,1,2,3]),(1,[0,5,6,7,8]),(2,[0,5,6,7,8,9]),(3,[0,5,6,7,8,9,10,11,12]),(4,[0,5,6,7,8,11,12,13,14,15]),(5,[0,5,6,7,8,12,13,14,15,16]),(6,[0,5,6,7,8,13,15,16,18]),(7,[0,5,6,7,8,13,15,16,18,20]),(8,[0,5,6,7,8,13,15,16,18,20,22]),(9,[0,5,6,7,8,13,15,16,18,24]),(10,[0,5,6,7,8,13,15,16,18,24,26]),(11,[0,5,8,13,15,24,26,28]),(12,[0,5,8,13,24,28,29]),(13,[0,5,8,24,31])]
noncomputable def spec_l07Compose (a0:Int) (a1:(Vec Int 64)) (a2:((Vec Int 64)×(Vec Int 64))) (a3:((Vec Int 64)×(Vec Int 64))):Option ((Vec Int 64)×(Vec Int 64)) :=
 (Option.bind (spec_l01Add a0 a2.2 a3.2 1) fun r3=>(Option.bind (spec_l01Bezout a0 a2.1 a3.1) fun r8=>(Option.bind (spec_l01Bezout a0 r8.1 r3) fun r15=>(Option.bind (spec_l01Times a0 r15.2.1 r8.2.1) fun r22=>(Option.bind (spec_l01Times a0 r15.2.1 r8.2.2) fun r27=>(Option.bind (spec_l01Times a0 r15.1 r15.1) fun r32=>(Option.bind (spec_l01Times a0 a2.1 a3.1) fun r37=>(Option.bind (spec_l01Divide a0 r37.1 r32.1) fun r42=>(Option.bind (spec_l01Times a0 a2.2 a3.2) fun r48=>(Option.bind (spec_l07Product a0 r22.1 a2.1 a3.2) fun r67=>(Option.bind (spec_l07Product a0 r27.1 a3.1 a2.2) fun r72=>(Option.bind (spec_l01Add a0 r67 r72 1) fun r74=>(Option.bind (spec_l01Add a0 r48.1 a1 1) fun r88=>(Option.bind (spec_l01Times a0 r15.2.2 r88) fun r90=>(Option.bind (spec_l01Add a0 r74 r90.1 1) fun r104=>(Option.bind (spec_l01Divide a0 r104 r15.1) fun r107=>(Option.bind (spec_l01Mod a0 r107.1 r42.1) fun r124=>(Option.bind (spec_l07Reduce a0 a1 (r42.1,r124)) fun r126=>(some r126)))))))))))))))))))
theorem spec_l07Compose_ok (a0:Int) (a1:(Vec Int 64)) (a2:((Vec Int 64)×(Vec Int 64))) (a3:((Vec Int 64)×(Vec Int 64))) (r:((Vec Int 64)×(Vec Int 64))) (h:spec_l07Compose a0 a1 a2 a3=some r):Den Try.prog 44 [(i6 a0),(eVb a1),(eT_A64u8_A64u8_Z a2),(eT_A64u8_A64u8_Z a3)] { r:=(eT_A64u8_A64u8_Z r) }:=by
 refine dd (rs:=[(eT_A64u8_A64u8_Z r)]) (L:=spec_l07Compose_L) good [] Try.func44 Try.ntmps44 ?_
 refine ns ⟨[(0,i6 a0),(1,eVb a1),(2,eT_A64u8_A64u8_Z a2),(3,eT_A64u8_A64u8_Z a3)],[]⟩ ?_
 refine sr (vo 1500 (eVb a1) rfl rfl (vo 1600 (eT_A64u8_A64u8_Z a2) rfl rfl (vo 1700 (eT_A64u8_A64u8_Z a3) rfl rfl (vo 1800 (eT_A64u8_A64u8_Z (((vrep 64 (0:Int)),(vrep 64 (0:Int))))) rfl rfl (nk ⟨[(0,i6 a0),(5,ow 5),(6,ow 6),(7,ow 7),(8,ow 8)],[(5,bk (eVb a1)),(6,bk (eT_A64u8_A64u8_Z a2)),(7,bk (eT_A64u8_A64u8_Z a3)),(8,bk (eT_A64u8_A64u8_Z (((vrep 64 (0:Int)),(vrep 64 (0:Int))))))]⟩ (sr (vr (i6 a0) (vb (.own 6 [1] [64]) rfl rfl ?_))))))))
 have hl1:LdOk [1] (eT_A64u8_A64u8_Z a2) [64] 64 true (eVb a2.2):=(.fld rfl rfl rfl rfl (.nil rfl rfl rfl))
 refine vq (eVb a2.2) (ld_own (i:=⟨.arr 64 5,64,64,(eVb (vrep 64 (0:Int)))⟩) rfl rfl rfl hl1) hl1.c (vb (.own 7 [1] [64]) rfl rfl ?_)
 have hl2:LdOk [1] (eT_A64u8_A64u8_Z a3) [64] 64 true (eVb a3.2):=(.fld rfl rfl rfl rfl (.nil rfl rfl rfl))
 refine vq (eVb a3.2) (ld_own (i:=⟨.arr 64 5,64,64,(eVb (vrep 64 (0:Int)))⟩) rfl rfl rfl hl2) hl2.c ?_
 obtain ⟨r3,hr4,h⟩:=bind_some h
 refine ca (spec_l01Add_ok a0 a2.2 a3.2 1 r3 hr4) (vo 1900 (eV0) rfl rfl (vs (eVb r3) rfl rfl (fun _=>rfl) rfl rfl rfl rfl rfl rfl (nk ⟨[(0,i6 a0),(5,ow 5),(6,ow 6),(7,ow 7),(8,ow 8),(9,ow 9)],[(5,bk (eVb a1)),(6,bk (eT_A64u8_A64u8_Z a2)),(7,bk (eT_A64u8_A64u8_Z a3)),(8,bk (eT_A64u8_A64u8_Z (((vrep 64 (0:Int)),(vrep 64 (0:Int)))))),(9,bk (eVb r3))]⟩ (sr (vr (i6 a0) (vb (.own 6 [0] [0]) rfl rfl ?_))))))
 have hl6:LdOk [0] (eT_A64u8_A64u8_Z a2) [0] 64 true (eVb a2.1):=(.fld rfl rfl rfl rfl (.nil rfl rfl rfl))
 refine vq (eVb a2.1) (ld_own (i:=⟨.arr 64 5,64,64,(eVb (vrep 64 (0:Int)))⟩) rfl rfl rfl hl6) hl6.c (vb (.own 7 [0] [0]) rfl rfl ?_)
 have hl7:LdOk [0] (eT_A64u8_A64u8_Z a3) [0] 64 true (eVb a3.1):=(.fld rfl rfl rfl rfl (.nil rfl rfl rfl))
 refine vq (eVb a3.1) (ld_own (i:=⟨.arr 64 5,64,64,(eVb (vrep 64 (0:Int)))⟩) rfl rfl rfl hl7) hl7.c ?_
 obtain ⟨r8,hr9,h⟩:=bind_some h
 refine ca (spec_l01Bezout_ok a0 a2.1 a3.1 r8 hr9) (vr (.tuple [(eVb r8.1),(eVb r8.2.1),(eVb r8.2.2)]) (vb (eVb r8.1) rfl rfl (vb (eVb r8.2.1) rfl rfl (vb (eVb r8.2.2) rfl rfl (vo 2000 (eV0) rfl rfl (vo 2100 (eV0) rfl rfl (vo 2200 (eV0) rfl rfl (vs (eVb r8.1) rfl rfl (fun _=>rfl) rfl rfl rfl rfl rfl rfl (vs (eVb r8.2.1) rfl rfl (fun _=>rfl) rfl rfl rfl rfl rfl rfl ?_)))))))))
 refine vs (eVb r8.2.2) rfl rfl (fun _=>rfl) rfl rfl rfl rfl rfl rfl (nk ⟨[(0,i6 a0),(5,ow 5),(6,ow 6),(7,ow 7),(8,ow 8),(9,ow 9),(10,ow 10),(11,ow 11),(12,ow 12)],[(5,bk (eVb a1)),(6,bk (eT_A64u8_A64u8_Z a2)),(7,bk (eT_A64u8_A64u8_Z a3)),(8,bk (eT_A64u8_A64u8_Z (((vrep 64 (0:Int)),(vrep 64 (0:Int)))))),(9,bk (eVb r3)),(10,bk (eVb r8.1)),(11,bk (eVb r8.2.1)),(12,bk (eVb r8.2.2))]⟩ (sr (vr (i6 a0) (vl (eVb r8.1) rfl rfl rfl rfl rfl rfl (vl (eVb r3) rfl rfl rfl rfl rfl rfl ?_)))))
 obtain ⟨r15,hr16,h⟩:=bind_some h
 refine ca (spec_l01Bezout_ok a0 r8.1 r3 r15 hr16) (vr (.tuple [(eVb r15.1),(eVb r15.2.1),(eVb r15.2.2)]) (vb (eVb r15.1) rfl rfl (vb (eVb r15.2.1) rfl rfl (vb (eVb r15.2.2) rfl rfl (vo 2300 (eV0) rfl rfl (vo 2400 (eV0) rfl rfl (vo 2500 (eV0) rfl rfl (vs (eVb r15.1) rfl rfl (fun _=>rfl) rfl rfl rfl rfl rfl rfl (vs (eVb r15.2.1) rfl rfl (fun _=>rfl) rfl rfl rfl rfl rfl rfl ?_)))))))))
 refine vs (eVb r15.2.2) rfl rfl (fun _=>rfl) rfl rfl rfl rfl rfl rfl (nk ⟨[(0,i6 a0),(5,ow 5),(6,ow 6),(7,ow 7),(8,ow 8),(11,ow 11),(12,ow 12),(13,ow 13),(14,ow 14),(15,ow 15)],[(5,bk (eVb a1)),(6,bk (eT_A64u8_A64u8_Z a2)),(7,bk (eT_A64u8_A64u8_Z a3)),(8,bk (eT_A64u8_A64u8_Z (((vrep 64 (0:Int)),(vrep 64 (0:Int)))))),(11,bk (eVb r8.2.1)),(12,bk (eVb r8.2.2)),(13,bk (eVb r15.1)),(14,bk (eVb r15.2.1)),(15,bk (eVb r15.2.2))]⟩ (sr (vr (i6 a0) (vl (eVb r15.2.1) rfl rfl rfl rfl rfl rfl (vl (eVb r8.2.1) rfl rfl rfl rfl rfl rfl ?_)))))
 obtain ⟨r22,hr23,h⟩:=bind_some h
 refine ca (spec_l01Times_ok a0 r15.2.1 r8.2.1 r22 hr23) (vr (.tuple [(eVb r22.1),(.bool r22.2)]) (vb (eVb r22.1) rfl rfl (vb (.bool r22.2) rfl rfl (vo 2600 (eV0) rfl rfl (vs (eVb r22.1) rfl rfl (fun _=>rfl) rfl rfl rfl rfl rfl rfl (vr (.bool r22.2) (nk ⟨[(0,i6 a0),(5,ow 5),(6,ow 6),(7,ow 7),(8,ow 8),(12,ow 12),(13,ow 13),(14,ow 14),(15,ow 15),(16,ow 16)],[(5,bk (eVb a1)),(6,bk (eT_A64u8_A64u8_Z a2)),(7,bk (eT_A64u8_A64u8_Z a3)),(8,bk (eT_A64u8_A64u8_Z (((vrep 64 (0:Int)),(vrep 64 (0:Int)))))),(12,bk (eVb r8.2.2)),(13,bk (eVb r15.1)),(14,bk (eVb r15.2.1)),(15,bk (eVb r15.2.2)),(16,bk (eVb r22.1))]⟩ (sr (vr (i6 a0) ?_)))))))))
 refine vl (eVb r15.2.1) rfl rfl rfl rfl rfl rfl (vl (eVb r8.2.2) rfl rfl rfl rfl rfl rfl ?_)
 obtain ⟨r27,hr28,h⟩:=bind_some h
 refine ca (spec_l01Times_ok a0 r15.2.1 r8.2.2 r27 hr28) (vr (.tuple [(eVb r27.1),(.bool r27.2)]) (vb (eVb r27.1) rfl rfl (vb (.bool r27.2) rfl rfl (vo 2800 (eV0) rfl rfl (vs (eVb r27.1) rfl rfl (fun _=>rfl) rfl rfl rfl rfl rfl rfl (vr (.bool r27.2) (nk ⟨[(0,i6 a0),(5,ow 5),(6,ow 6),(7,ow 7),(8,ow 8),(13,ow 13),(15,ow 15),(16,ow 16),(18,ow 18)],[(5,bk (eVb a1)),(6,bk (eT_A64u8_A64u8_Z a2)),(7,bk (eT_A64u8_A64u8_Z a3)),(8,bk (eT_A64u8_A64u8_Z (((vrep 64 (0:Int)),(vrep 64 (0:Int)))))),(13,bk (eVb r15.1)),(15,bk (eVb r15.2.2)),(16,bk (eVb r22.1)),(18,bk (eVb r27.1))]⟩ (sr (vr (i6 a0) ?_)))))))))
 refine vl (eVb r15.1) rfl rfl rfl rfl rfl rfl (vl (eVb r15.1) rfl rfl rfl rfl rfl rfl ?_)
 obtain ⟨r32,hr33,h⟩:=bind_some h
 refine ca (spec_l01Times_ok a0 r15.1 r15.1 r32 hr33) (vr (.tuple [(eVb r32.1),(.bool r32.2)]) (vb (eVb r32.1) rfl rfl (vb (.bool r32.2) rfl rfl (vo 3000 (eV0) rfl rfl (vs (eVb r32.1) rfl rfl (fun _=>rfl) rfl rfl rfl rfl rfl rfl (vr (.bool r32.2) (nk ⟨[(0,i6 a0),(5,ow 5),(6,ow 6),(7,ow 7),(8,ow 8),(13,ow 13),(15,ow 15),(16,ow 16),(18,ow 18),(20,ow 20)],[(5,bk (eVb a1)),(6,bk (eT_A64u8_A64u8_Z a2)),(7,bk (eT_A64u8_A64u8_Z a3)),(8,bk (eT_A64u8_A64u8_Z (((vrep 64 (0:Int)),(vrep 64 (0:Int)))))),(13,bk (eVb r15.1)),(15,bk (eVb r15.2.2)),(16,bk (eVb r22.1)),(18,bk (eVb r27.1)),(20,bk (eVb r32.1))]⟩ (sr (vr (i6 a0) ?_)))))))))
 refine vb (.own 6 [0] [0]) rfl rfl ?_
 have hl35:LdOk [0] (eT_A64u8_A64u8_Z a2) [0] 64 true (eVb a2.1):=(.fld rfl rfl rfl rfl (.nil rfl rfl rfl))
 refine vq (eVb a2.1) (ld_own (i:=⟨.arr 64 5,64,64,(eVb (vrep 64 (0:Int)))⟩) rfl rfl rfl hl35) hl35.c (vb (.own 7 [0] [0]) rfl rfl ?_)
 have hl36:LdOk [0] (eT_A64u8_A64u8_Z a3) [0] 64 true (eVb a3.1):=(.fld rfl rfl rfl rfl (.nil rfl rfl rfl))
 refine vq (eVb a3.1) (ld_own (i:=⟨.arr 64 5,64,64,(eVb (vrep 64 (0:Int)))⟩) rfl rfl rfl hl36) hl36.c ?_
 obtain ⟨r37,hr38,h⟩:=bind_some h
 refine ca (spec_l01Times_ok a0 a2.1 a3.1 r37 hr38) (vr (.tuple [(eVb r37.1),(.bool r37.2)]) (vb (eVb r37.1) rfl rfl (vb (.bool r37.2) rfl rfl (vo 3200 (eV0) rfl rfl (vs (eVb r37.1) rfl rfl (fun _=>rfl) rfl rfl rfl rfl rfl rfl (vr (.bool r37.2) (nk ⟨[(0,i6 a0),(5,ow 5),(6,ow 6),(7,ow 7),(8,ow 8),(13,ow 13),(15,ow 15),(16,ow 16),(18,ow 18),(20,ow 20),(22,ow 22)],[(5,bk (eVb a1)),(6,bk (eT_A64u8_A64u8_Z a2)),(7,bk (eT_A64u8_A64u8_Z a3)),(8,bk (eT_A64u8_A64u8_Z (((vrep 64 (0:Int)),(vrep 64 (0:Int)))))),(13,bk (eVb r15.1)),(15,bk (eVb r15.2.2)),(16,bk (eVb r22.1)),(18,bk (eVb r27.1)),(20,bk (eVb r32.1)),(22,bk (eVb r37.1))]⟩ (sr (vr (i6 a0) ?_)))))))))
 refine vl (eVb r37.1) rfl rfl rfl rfl rfl rfl (vl (eVb r32.1) rfl rfl rfl rfl rfl rfl ?_)
 obtain ⟨r42,hr43,h⟩:=bind_some h
 refine ca (spec_l01Divide_ok a0 r37.1 r32.1 r42 hr43) (vr (.tuple [(eVb r42.1),(eVb r42.2)]) (vb (eVb r42.1) rfl rfl (vb (eVb r42.2) rfl rfl (vo 3400 (eV0) rfl rfl (vo 3500 (eV0) rfl rfl (vs (eVb r42.1) rfl rfl (fun _=>rfl) rfl rfl rfl rfl rfl rfl (vs (eVb r42.2) rfl rfl (fun _=>rfl) rfl rfl rfl rfl rfl rfl (nk ⟨[(0,i6 a0),(5,ow 5),(6,ow 6),(7,ow 7),(8,ow 8),(13,ow 13),(15,ow 15),(16,ow 16),(18,ow 18),(24,ow 24)],[(5,bk (eVb a1)),(6,bk (eT_A64u8_A64u8_Z a2)),(7,bk (eT_A64u8_A64u8_Z a3)),(8,bk (eT_A64u8_A64u8_Z (((vrep 64 (0:Int)),(vrep 64 (0:Int)))))),(13,bk (eVb r15.1)),(15,bk (eVb r15.2.2)),(16,bk (eVb r22.1)),(18,bk (eVb r27.1)),(24,bk (eVb r42.1))]⟩ (sr ?_)))))))))
 refine vr (i6 a0) (vb (.own 6 [1] [64]) rfl rfl ?_)
 have hl46:LdOk [1] (eT_A64u8_A64u8_Z a2) [64] 64 true (eVb a2.2):=(.fld rfl rfl rfl rfl (.nil rfl rfl rfl))
 refine vq (eVb a2.2) (ld_own (i:=⟨.arr 64 5,64,64,(eVb (vrep 64 (0:Int)))⟩) rfl rfl rfl hl46) hl46.c (vb (.own 7 [1] [64]) rfl rfl ?_)
 have hl47:LdOk [1] (eT_A64u8_A64u8_Z a3) [64] 64 true (eVb a3.2):=(.fld rfl rfl rfl rfl (.nil rfl rfl rfl))
 refine vq (eVb a3.2) (ld_own (i:=⟨.arr 64 5,64,64,(eVb (vrep 64 (0:Int)))⟩) rfl rfl rfl hl47) hl47.c ?_
 obtain ⟨r48,hr49,h⟩:=bind_some h
 refine ca (spec_l01Times_ok a0 a2.2 a3.2 r48 hr49) (vr (.tuple [(eVb r48.1),(.bool r48.2)]) (vb (eVb r48.1) rfl rfl (vb (.bool r48.2) rfl rfl (vo 3600 (eV0) rfl rfl (vs (eVb r48.1) rfl rfl (fun _=>rfl) rfl rfl rfl rfl rfl rfl (vr (.bool r48.2) (nk ⟨[(0,i6 a0),(5,ow 5),(6,ow 6),(7,ow 7),(8,ow 8),(13,ow 13),(15,ow 15),(16,ow 16),(18,ow 18),(24,ow 24),(26,ow 26)],[(5,bk (eVb a1)),(6,bk (eT_A64u8_A64u8_Z a2)),(7,bk (eT_A64u8_A64u8_Z a3)),(8,bk (eT_A64u8_A64u8_Z (((vrep 64 (0:Int)),(vrep 64 (0:Int)))))),(13,bk (eVb r15.1)),(15,bk (eVb r15.2.2)),(16,bk (eVb r22.1)),(18,bk (eVb r27.1)),(24,bk (eVb r42.1)),(26,bk (eVb r48.1))]⟩ (a_seq (a_draw [⟨[],[],[],[]⟩,⟨[],[],[],[]⟩,⟨[16],[],[],[]⟩,⟨[6],[],[6],[]⟩,⟨[6],[],[],[3]⟩,⟨[7],[],[7],[]⟩,⟨[7],[],[],[5]⟩,⟨[],[],[],[1,2,3,4,5,6]⟩,⟨[],[],[],[]⟩,⟨[18],[],[],[]⟩,⟨[7],[],[7],[]⟩,⟨[7],[],[],[10]⟩,⟨[6],[],[6],[]⟩,⟨[6],[],[],[12]⟩,⟨[],[],[],[1,2,3,4,5,6,7,8,9,10,11,12,13]⟩,⟨[],[],[],[0,1,2,3,4,5,6,7,8,9,10,11,12,13,14]⟩,⟨[3800],[3800],[3800],[]⟩,⟨[3800],[3800],[],[0,1,2,3,4,5,6,7,8,9,10,11,12,13,14,15,16]⟩] (by kernel_rfl) ?_)))))))))
 refine dj (i6 a0) rfl (dj (i6 a0) rfl (d_cons (vl (eVb r22.1) rfl rfl rfl rfl rfl rfl (dn (d_cons (vb (.own 6 [0] [0]) rfl rfl (dn (d_cons ?_))))))))
 have hl65:LdOk [0] (eT_A64u8_A64u8_Z a2) [0] 64 true (eVb a2.1):=(.fld rfl rfl rfl rfl (.nil rfl rfl rfl))
 refine vq (eVb a2.1) (ld_own (i:=⟨.arr 64 5,64,64,(eVb (vrep 64 (0:Int)))⟩) rfl rfl rfl hl65) hl65.c (dn (d_cons (vb (.own 7 [1] [64]) rfl rfl (dn (d_cons ?_)))))
 have hl66:LdOk [1] (eT_A64u8_A64u8_Z a3) [64] 64 true (eVb a3.2):=(.fld rfl rfl rfl rfl (.nil rfl rfl rfl))
 refine vq (eVb a3.2) (ld_own (i:=⟨.arr 64 5,64,64,(eVb (vrep 64 (0:Int)))⟩) rfl rfl rfl hl66) hl66.c (dn (d_cons ?_))
 obtain ⟨r67,hr68,h⟩:=bind_some h
 refine ca (spec_l07Product_ok a0 r22.1 a2.1 a3.2 r67 hr68) (dn (dj (i6 a0) rfl (d_cons (vl (eVb r27.1) rfl rfl rfl rfl rfl rfl (dn (d_cons (vb (.own 7 [0] [0]) rfl rfl (dn (d_cons ?_)))))))))
 have hl70:LdOk [0] (eT_A64u8_A64u8_Z a3) [0] 64 true (eVb a3.1):=(.fld rfl rfl rfl rfl (.nil rfl rfl rfl))
 refine vq (eVb a3.1) (ld_own (i:=⟨.arr 64 5,64,64,(eVb (vrep 64 (0:Int)))⟩) rfl rfl rfl hl70) hl70.c (dn (d_cons (vb (.own 6 [1] [64]) rfl rfl (dn (d_cons ?_)))))
 have hl71:LdOk [1] (eT_A64u8_A64u8_Z a2) [64] 64 true (eVb a2.2):=(.fld rfl rfl rfl rfl (.nil rfl rfl rfl))
 refine vq (eVb a2.2) (ld_own (i:=⟨.arr 64 5,64,64,(eVb (vrep 64 (0:Int)))⟩) rfl rfl rfl hl71) hl71.c (dn (d_cons ?_))
 obtain ⟨r72,hr73,h⟩:=bind_some h
 refine ca (spec_l07Product_ok a0 r27.1 a3.1 a2.2 r72 hr73) (dn (d_cons ?_))
 obtain ⟨r74,hr75,h⟩:=bind_some h
 refine ca (spec_l01Add_ok a0 r67 r72 1 r74 hr75) (dn (d_cons (vo 3800 (eV0) rfl rfl (dn (d_cons (vs (eVb r74) rfl rfl (fun _=>rfl) rfl rfl rfl rfl rfl rfl (dn (d_nil (nj ⟨[(0,i6 a0),(5,ow 5),(8,ow 8),(13,ow 13),(15,ow 15),(24,ow 24),(26,ow 26),(28,ow 28)],[(5,bk (eVb a1)),(8,bk (eT_A64u8_A64u8_Z (((vrep 64 (0:Int)),(vrep 64 (0:Int)))))),(13,bk (eVb r15.1)),(15,bk (eVb r15.2.2)),(24,bk (eVb r42.1)),(26,bk (eVb r48.1)),(28,bk (eVb r74))]⟩ ?_)))))))))
 refine a_seq (a_draw [⟨[],[],[],[]⟩,⟨[15],[],[],[]⟩,⟨[],[],[],[]⟩,⟨[26],[],[],[]⟩,⟨[5],[],[],[]⟩,⟨[],[],[],[2,3,4]⟩,⟨[],[],[],[0,1,2,3,4,5]⟩,⟨[],[],[],[0,1,2,3,4,5,6]⟩,⟨[],[],[],[0,1,2,3,4,5,6,7]⟩,⟨[],[],[],[0,1,2,3,4,5,6,7]⟩,⟨[3900],[3900],[3900],[]⟩,⟨[3900],[3900],[],[0,1,2,3,4,5,6,7,8,10]⟩,⟨[],[],[],[0,1,2,3,4,5,6,7,8,9,10,11]⟩] (by kernel_rfl) (dj (i6 a0) rfl (d_cons (vl (eVb r15.2.2) rfl rfl rfl rfl rfl rfl (dn (dj (i6 a0) rfl (d_cons (vl (eVb r48.1) rfl rfl rfl rfl rfl rfl (dn ?_)))))))))
 refine d_cons (vl (eVb a1) rfl rfl rfl rfl rfl rfl (dn (d_cons ?_)))
 obtain ⟨r88,hr89,h⟩:=bind_some h
 refine ca (spec_l01Add_ok a0 r48.1 a1 1 r88 hr89) (dn (d_cons ?_))
 obtain ⟨r90,hr91,h⟩:=bind_some h
 refine ca (spec_l01Times_ok a0 r15.2.2 r88 r90 hr91) (dn (dj (.tuple [(eVb r90.1),(.bool r90.2)]) rfl (d_cons (vb (eVb r90.1) rfl rfl (dn (d_cons (vb (.bool r90.2) rfl rfl (dn (d_cons ?_)))))))))
 refine vo 3900 (eV0) rfl rfl (dn (d_cons (vs (eVb r90.1) rfl rfl (fun _=>rfl) rfl rfl rfl rfl rfl rfl (dn (dj (.bool r90.2) rfl (d_nil (nj ⟨[(0,i6 a0),(5,ow 5),(8,ow 8),(13,ow 13),(24,ow 24),(28,ow 28),(29,ow 29)],[(5,bk (eVb a1)),(8,bk (eT_A64u8_A64u8_Z (((vrep 64 (0:Int)),(vrep 64 (0:Int)))))),(13,bk (eVb r15.1)),(24,bk (eVb r42.1)),(28,bk (eVb r74)),(29,bk (eVb r90.1))]⟩ (a_seq (a_draw [⟨[],[],[],[]⟩,⟨[],[],[],[]⟩,⟨[28],[],[],[]⟩,⟨[29],[],[],[]⟩,⟨[],[],[],[1,2,3]⟩,⟨[13],[],[],[]⟩,⟨[],[],[],[0,1,2,3,4,5]⟩,⟨[],[],[],[0,1,2,3,4,5,6]⟩,⟨[],[],[],[0,1,2,3,4,5,6,7]⟩,⟨[],[],[],[0,1,2,3,4,5,6,7]⟩,⟨[4100],[4100],[4100],[]⟩,⟨[4200],[4200],[4200],[]⟩,⟨[4100],[4100],[],[0,1,2,3,4,5,6,7,8,10,11]⟩,⟨[4200],[4200],[],[0,1,2,3,4,5,6,7,8,9,10,11,12]⟩] (by kernel_rfl) ?_)))))))))
 refine dj (i6 a0) rfl (dj (i6 a0) rfl (d_cons (vl (eVb r74) rfl rfl rfl rfl rfl rfl (dn (d_cons (vl (eVb r90.1) rfl rfl rfl rfl rfl rfl (dn (d_cons ?_))))))))
 obtain ⟨r104,hr105,h⟩:=bind_some h
 refine ca (spec_l01Add_ok a0 r74 r90.1 1 r104 hr105) (dn (d_cons (vl (eVb r15.1) rfl rfl rfl rfl rfl rfl (dn (d_cons ?_)))))
 obtain ⟨r107,hr108,h⟩:=bind_some h
 refine ca (spec_l01Divide_ok a0 r104 r15.1 r107 hr108) (dn (dj (.tuple [(eVb r107.1),(eVb r107.2)]) rfl (d_cons (vb (eVb r107.1) rfl rfl (dn (d_cons (vb (eVb r107.2) rfl rfl (dn (d_cons ?_)))))))))
 refine vo 4100 (eV0) rfl rfl (dn (d_cons (vo 4200 (eV0) rfl rfl (dn (d_cons (vs (eVb r107.1) rfl rfl (fun _=>rfl) rfl rfl rfl rfl rfl rfl (dn (d_cons (vs (eVb r107.2) rfl rfl (fun _=>rfl) rfl rfl rfl rfl rfl rfl ?_)))))))))
 refine dn (d_nil (nj ⟨[(0,i6 a0),(5,ow 5),(8,ow 8),(24,ow 24),(31,ow 31)],[(5,bk (eVb a1)),(8,bk (eT_A64u8_A64u8_Z (((vrep 64 (0:Int)),(vrep 64 (0:Int)))))),(24,bk (eVb r42.1)),(31,bk (eVb r107.1))]⟩ (a_seq (a_draw [⟨[],[],[],[]⟩,⟨[5],[],[],[]⟩,⟨[24],[],[],[]⟩,⟨[],[],[],[]⟩,⟨[31],[],[],[]⟩,⟨[24],[],[],[]⟩,⟨[],[],[],[3,4,5]⟩,⟨[],[],[],[2,3,4,5,6]⟩,⟨[],[],[],[0,1,2,3,4,5,6,7]⟩,⟨[8],[8],[],[0,1,2,3,4,5,6,7,8]⟩] (by kernel_rfl) (dj (i6 a0) rfl (d_cons (vl (eVb a1) rfl rfl rfl rfl rfl rfl (dn (d_cons ?_)))))))))
 refine vl (eVb r42.1) rfl rfl rfl rfl rfl rfl (dn (dj (i6 a0) rfl (d_cons (vl (eVb r107.1) rfl rfl rfl rfl rfl rfl (dn (d_cons (vl (eVb r42.1) rfl rfl rfl rfl rfl rfl (dn (d_cons ?_)))))))))
 obtain ⟨r124,hr125,h⟩:=bind_some h
 refine ca (spec_l01Mod_ok a0 r107.1 r42.1 r124 hr125) (dn (d_cons (vq (eT_A64u8_A64u8_Z (r42.1,r124)) rfl ⟨rfl,(all_cons ⟨(Nat.le_of_ble_eq_true rfl),rfl⟩ (all_cons ⟨(Nat.le_of_ble_eq_true rfl),rfl⟩ all_nil))⟩ (dn (d_cons ?_)))))
 obtain ⟨r126,hr127,h⟩:=bind_some h
 refine ca (spec_l07Reduce_ok a0 a1 (r42.1,r124) r126 hr127) (dn (d_cons (vs (eT_A64u8_A64u8_Z r126) rfl rfl (fun _=>rfl) rfl rfl rfl rfl rfl rfl (dn (d_nil (a_next rfl (a_ret ?_)))))))
 have hl129:LdOk [] (eT_A64u8_A64u8_Z r126) [] 128 true (eT_A64u8_A64u8_Z r126):=(.nil rfl rfl rfl)
 refine ⟨.inr rfl,?_⟩
 rw [Try.results44]
 cases h
 exact ⟨_,_,_,_,_,ld_own (i:=⟨.struct [(0,26),(64,26)],128,128,(eT_A64u8_A64u8_Z ((vrep 64 (0:Int)),(vrep 64 (0:Int))))⟩) rfl rfl rfl hl129,hl129.c,.inl ⟨rfl,.inl rfl⟩,rfl,rfl⟩
def spec_l07Order_L:Live:=[(0,[0,1,2]),(1,[0,4,5]),(2,[0,4,5,7,8]),(3,[0,4,5,7,8]),(4,[0,4,5,7,8]),(5,[8]),(100012,[0,4,5,7,8,12])]
noncomputable def spec_l07Order_l1 (a0:Int) (a1:(Vec Int 64)) (a2:((Vec Int 64)×(Vec Int 64))) (x65:Int) (x66:((Vec Int 64)×(Vec Int 64))):Option ((Int×((Vec Int 64)×(Vec Int 64)))⊕Int) :=
 (Option.bind (spec_l07Unit) fun r87=>(if (!decide (x66=r87)) then (Option.bind (spec_l07Compose a0 a1 x66 a2) fun r93=>(some (.inl ((IntKind.i64.wrap (x65 + 1),r93))))) else (some (.inr x65))))
noncomputable def spec_l07Order (a0:Int) (a1:(Vec Int 64)) (a2:((Vec Int 64)×(Vec Int 64))):Option Int :=
 (Option.bind (α:=Int) ((loopM (fun s:(Int×((Vec Int 64)×(Vec Int 64)))=>spec_l07Order_l1 a0 a1 a2 s.1 s.2) (1,a2))) fun x48=>(some x48))
theorem spec_l07Order_ok (a0:Int) (a1:(Vec Int 64)) (a2:((Vec Int 64)×(Vec Int 64))) (r:Int) (h:spec_l07Order a0 a1 a2=some r):Den Try.prog 19 [(i6 a0),(eVb a1),(eT_A64u8_A64u8_Z a2)] { r:=(i6 r) }:=by
 refine dd (rs:=[(i6 r)]) (L:=spec_l07Order_L) good [] Try.func19 Try.ntmps19 ?_
 refine ns ⟨[(0,i6 a0),(1,eVb a1),(2,eT_A64u8_A64u8_Z a2)],[]⟩ ?_
 refine sr (vo 1400 (eVb a1) rfl rfl (vo 1500 (eT_A64u8_A64u8_Z a2) rfl rfl (vr (i6 0) (nk ⟨[(0,i6 a0),(4,ow 4),(5,ow 5)],[(4,bk (eVb a1)),(5,bk (eT_A64u8_A64u8_Z a2))]⟩ (sr (vl (eT_A64u8_A64u8_Z a2) rfl rfl rfl rfl rfl rfl (vo 1700 (eT_A64u8_A64u8_Z (((vrep 64 (0:Int)),(vrep 64 (0:Int))))) rfl rfl (vs (eT_A64u8_A64u8_Z a2) rfl rfl (fun _=>rfl) rfl rfl rfl rfl rfl rfl (vr (i6 1) ?_)))))))))
 refine nk ⟨[(0,i6 a0),(4,ow 4),(5,ow 5),(7,ow 7),(8,i6 1)],[(4,bk (eVb a1)),(5,bk (eT_A64u8_A64u8_Z a2)),(7,bk (eT_A64u8_A64u8_Z a2))]⟩ ?_
 obtain ⟨y49,hy50,hk51⟩:=bind_some h
 clear h
 refine a_join (emb:=fun (s:Int)=>⟨[(8,i6 s)],[]⟩) (pre:=fun s=>s=y49) ?_ ?_
 ·rintro x48 rfl
  have h:=hk51
  refine ns ⟨[(8,i6 x48)],[]⟩ (sr (vr (i6 x48) (vr (i6 x48) (nx _ rfl (a_ret ?_)))))
  refine ⟨.inr rfl,?_⟩
  rw [Try.results19]
  cases h
  exact ⟨_,_,_,_,_,rfl,trivial,.inl ⟨rfl,.inl rfl⟩,rfl,rfl⟩
 ·have h:=hy50
  refine a_block ?_
  refine a_loop (emb:=fun (s:(Int×((Vec Int 64)×(Vec Int 64))))=>⟨[(0,i6 a0),(4,ow 4),(5,ow 5),(7,ow 7),(8,i6 s.1)],[(4,bk (eVb a1)),(5,bk (eT_A64u8_A64u8_Z a2)),(7,bk (eT_A64u8_A64u8_Z s.2))]⟩) (body:=(fun s:(Int×((Vec Int 64)×(Vec Int 64)))=>spec_l07Order_l1 a0 a1 a2 s.1 s.2)) (G:=fun q=>some q=some y49) h rfl ?_ (by kernel_rfl)
  rintro X80 ⟨x65,x66⟩ x81 h hX82
  have h:spec_l07Order_l1 a0 a1 a2 x65 x66=some x81:=h
  refine ns ⟨[(0,i6 a0),(4,ow 4),(5,ow 5),(7,ow 7),(8,i6 x65)],[(4,bk (eVb a1)),(5,bk (eT_A64u8_A64u8_Z a2)),(7,bk (eT_A64u8_A64u8_Z x66))]⟩ (a_seq (a_seq (a_draw [⟨[7],[],[],[]⟩,⟨[],[],[],[]⟩,⟨[],[],[],[0,1]⟩] (by kernel_rfl) (d_cons (vl (eT_A64u8_A64u8_Z x66) rfl rfl rfl rfl rfl rfl (dn (d_cons ?_)))))))
  obtain ⟨r87,hr88,h⟩:=bind_some h
  refine ca (spec_l07Unit_ok r87 hr88) (dn (d_cons (vq (.bool ((!decide (x66=r87)))) (nes_run rfl rfl (eqbs_cons (f:=eVb) (a:=x66) (b:=r87) (fun a b=>eqb_arr (f:=(AV.int .u8)) (fun _ _=>eqb_int _ _) a b) (eqbs_one (f:=eVb) (fun a b=>eqb_arr (f:=(AV.int .u8)) (fun _ _=>eqb_int _ _) a b) x66.2 r87.2))) (cmp_struct (g:=8) rfl rfl rfl rfl (by kernel_rfl) ⟨(cmp_arr (g:=7) (f:=(AV.int .u8)) (x:=x66.1) (y:=r87.1) rfl rfl rfl (fun _ _=>rfl) (fun _ _=>(cmp_int rfl))),⟨(cmp_arr (g:=7) (f:=(AV.int .u8)) (x:=x66.2) (y:=r87.2) rfl rfl rfl (fun _ _=>rfl) (fun _ _=>(cmp_int rfl))),trivial⟩⟩) (dn (d_nil (nj ⟨[(0,i6 a0),(4,ow 4),(5,ow 5),(7,ow 7),(8,i6 x65),(12,.bool ((!decide (x66=r87))))],[(4,bk (eVb a1)),(5,bk (eT_A64u8_A64u8_Z a2)),(7,bk (eT_A64u8_A64u8_Z x66))]⟩ ?_))))))
  cases hb89:(!decide (x66=r87))
  ·have h:=ite_f hb89 h
   refine a_cond_f rfl (a_exit (t_exit ?_))
   cases h
   have h:=hX82
   refine t_exit (b_exit ?_)
   exact jl x65 h
  ·have h:=ite_t hb89 h
   refine a_cond_t rfl (a_skip (nj ⟨[(0,i6 a0),(4,ow 4),(5,ow 5),(7,ow 7),(8,i6 x65)],[(4,bk (eVb a1)),(5,bk (eT_A64u8_A64u8_Z a2)),(7,bk (eT_A64u8_A64u8_Z x66))]⟩ (a_block (sr (vr (i6 a0) (vl (eVb a1) rfl rfl rfl rfl rfl rfl (vl (eT_A64u8_A64u8_Z x66) rfl rfl rfl rfl rfl rfl (vl (eT_A64u8_A64u8_Z a2) rfl rfl rfl rfl rfl rfl ?_))))))))
   obtain ⟨r93,hr94,h⟩:=bind_some h
   refine ca (spec_l07Compose_ok a0 a1 x66 a2 r93 hr94) (vs (eT_A64u8_A64u8_Z r93) rfl rfl (fun _=>rfl) rfl rfl rfl rfl rfl rfl (nk ⟨[(0,i6 a0),(4,ow 4),(5,ow 5),(7,ow 7),(8,i6 x65)],[(4,bk (eVb a1)),(5,bk (eT_A64u8_A64u8_Z a2)),(7,bk (eT_A64u8_A64u8_Z r93))]⟩ (a_region (vr (i6 x65) (vr (i6 (IntKind.i64.wrap (x65 + 1))) (vr (i6 (IntKind.i64.wrap (x65 + 1))) (a_nil (b_norm ?_))))))))
   cases h
   exact ag hX82
def spec_GroupOrders_L:Live:=[(0,[0,1]),(1,[0,3]),(2,[]),(3,[0,3]),(4,[0,3,6,7]),(5,[0,3,6,7,8]),(6,[0,3,6,7,8]),(7,[0,3,6,7,8]),(8,[7]),(100012,[0,3,12]),(100020,[0,3,6,7,8,20])]
noncomputable def spec_GroupOrders_l1 (r6:(List ((Vec Int 64)×(Vec Int 64)))) (a0:Int) (a1:(Vec Int 64)) (x70:Int) (x71:(List Int)):Option ((Int×(List Int))⊕(List Int)) :=
 (if (decide (x70 < (r6.length:Int))) then (ifp (0≤x70∧x70 < ((r6.length:Nat):Int)) ((Option.bind (spec_l07Order a0 a1 (rd r6 x70.toNat)) fun r98=>(ifp ((x71.length + ([r98]:List Int).length)*8≤140737488355328) ((some (.inl ((IntKind.i64.wrap (x70 + 1),(x71 ++ ([r98]))))))))))) else (some (.inr x71)))
noncomputable def spec_GroupOrders (a0:Int) (a1:(Vec Int 64)):Option ((List Int)×Int) :=
 (Option.bind (spec_l07Is a0 a1) fun r2=>(if (!r2) then (some ([],1)) else (Option.bind (spec_l07All a0 a1) fun r6=>(Option.bind (α:=(List Int)) ((loopM (fun s:(Int×(List Int))=>spec_GroupOrders_l1 r6 a0 a1 s.1 s.2) (0,[]))) fun x53=>(some (x53,0))))))
theorem spec_GroupOrders_ok (a0:Int) (a1:(Vec Int 64)) (r:((List Int)×Int)) (h:spec_GroupOrders a0 a1=some r):Den Try.prog 6 [(i6 a0),(eVb a1)] { r:=(.tuple [(eSi64 r.1),(i6 r.2)]) }:=by
 refine dd (rs:=[(eSi64 r.1),(i6 r.2)]) (L:=spec_GroupOrders_L) good [(4,1),(6,1),(7,2),(16,2)] Try.func6 Try.ntmps6 ?_
 refine ns ⟨[(0,i6 a0),(1,eVb a1)],[]⟩ ?_
 refine sr (vo 1300 (eVb a1) rfl rfl (vr (eSi64 ([])) (vr (i6 0) (nk ⟨[(0,i6 a0),(3,ow 3)],[(3,bk (eVb a1))]⟩ (a_seq (sr (vr (i6 a0) (vl (eVb a1) rfl rfl rfl rfl rfl rfl ?_))))))))
 obtain ⟨r2,hr3,h⟩:=bind_some h
 refine ca (spec_l07Is_ok a0 a1 r2 hr3) (vr (.bool (!r2)) (nk ⟨[(0,i6 a0),(3,ow 3),(12,.bool (!r2))],[(3,bk (eVb a1))]⟩ ?_))
 cases hb4:(!r2)
 ·have h:=ite_f hb4 h
  refine a_cond_f rfl (a_skip (nj ⟨[(0,i6 a0),(3,ow 3)],[(3,bk (eVb a1))]⟩ (sr (vr (i6 a0) (vl (eVb a1) rfl rfl rfl rfl rfl rfl ?_)))))
  obtain ⟨r6,hr7,h⟩:=bind_some h
  refine ca (spec_l07All_ok a0 a1 r6 hr7) (vu (.osl 2600) [(2600,bk (.row 1 (([]).map (AV.int .i64))))] rfl ⟨(Nat.le_of_ble_eq_true rfl),(Nat.le_of_ble_eq_true rfl),all_nil⟩ rfl (vr (eST_A64u8_A64u8_Z r6) (vr (.osl 2600) (nk ⟨[(0,i6 a0),(3,ow 3),(6,eST_A64u8_A64u8_Z r6),(7,.osl 7)],[(3,bk (eVb a1)),(7,bk (.row 1 (([]).map (AV.int .i64))))]⟩ ?_))))
  obtain ⟨y54,hy55,hk56⟩:=bind_some h
  clear h
  refine a_join (emb:=fun (s:(List Int))=>⟨[(7,.osl 7)],[(7,bk (.row 1 (s.map (AV.int .i64))))]⟩) (pre:=fun s=>s=y54) ?_ ?_
  ·rintro x53 rfl
   have h:=hk56
   refine ns ⟨[(7,.osl 7)],[(7,bk (.row 1 (x53.map (AV.int .i64))))]⟩ (sr (vr (.osl 7) (vu (eSi64 x53) [(7,bf (.row 1 (x53.map (AV.int .i64))))] rfl trivial rfl (vr (i6 0) (nx _ rfl (a_ret ?_))))))
   refine ⟨.inr rfl,?_⟩
   rw [Try.results6]
   cases h
   exact ⟨_,_,_,_,_,rfl,trivial,.inl ⟨rfl,.inl rfl⟩,rfl,⟨_,_,_,_,_,rfl,trivial,.inl ⟨rfl,.inl rfl⟩,rfl,rfl⟩⟩
  ·have h:=hy55
   refine sr (vr (i6 0) (nk ⟨[(0,i6 a0),(3,ow 3),(6,eST_A64u8_A64u8_Z r6),(7,.osl 7),(8,i6 0)],[(3,bk (eVb a1)),(7,bk (.row 1 (([]).map (AV.int .i64))))]⟩ (a_block ?_)))
   refine a_loop (emb:=fun (s:(Int×(List Int)))=>⟨[(0,i6 a0),(3,ow 3),(6,eST_A64u8_A64u8_Z r6),(7,.osl 7),(8,i6 s.1)],[(3,bk (eVb a1)),(7,bk (.row 1 (s.2.map (AV.int .i64))))]⟩) (body:=(fun s:(Int×(List Int))=>spec_GroupOrders_l1 r6 a0 a1 s.1 s.2)) (G:=fun q=>some q=some y54) h rfl ?_ (by kernel_rfl)
   rintro X85 ⟨x70,x71⟩ x86 h hX87
   have h:spec_GroupOrders_l1 r6 a0 a1 x70 x71=some x86:=h
   refine ns ⟨[(0,i6 a0),(3,ow 3),(6,eST_A64u8_A64u8_Z r6),(7,.osl 7),(8,i6 x70)],[(3,bk (eVb a1)),(7,bk (.row 1 (x71.map (AV.int .i64))))]⟩ (a_seq (sr (vr (i6 x70) (vr (eST_A64u8_A64u8_Z r6) (vq (i6 (r6.length:Int)) (len_run rfl rfl) trivial (vr (.bool ((decide (x70 < (r6.length:Int))))) (nk ⟨[(0,i6 a0),(3,ow 3),(6,eST_A64u8_A64u8_Z r6),(7,.osl 7),(8,i6 x70),(20,.bool ((decide (x70 < (r6.length:Int)))))],[(3,bk (eVb a1)),(7,bk (.row 1 (x71.map (AV.int .i64))))]⟩ ?_)))))))
   cases hb88:(decide (x70 < (r6.length:Int)))
   ·have h:=ite_f hb88 h
    refine a_cond_f rfl (a_exit (t_exit ?_))
    cases h
    have h:=hX87
    refine t_exit (b_exit ?_)
    exact jl x71 h
   ·have h:=ite_t hb88 h
    refine a_cond_t rfl (a_skip (nj ⟨[(0,i6 a0),(3,ow 3),(6,eST_A64u8_A64u8_Z r6),(7,.osl 7),(8,i6 x70)],[(3,bk (eVb a1)),(7,bk (.row 1 (x71.map (AV.int .i64))))]⟩ (a_seq (a_block (a_draw [⟨[],[],[7],[]⟩,⟨[],[],[],[]⟩,⟨[3],[],[],[]⟩,⟨[],[],[],[]⟩,⟨[],[],[],[]⟩,⟨[],[],[],[3,4]⟩,⟨[],[],[],[3,4,5]⟩,⟨[],[],[],[1,2,3,4,5,6]⟩,⟨[],[],[],[1,2,3,4,5,6,7]⟩,⟨[7,4200],[7,4200],[4200],[0,1,2,3,4,5,6,7,8]⟩,⟨[4200],[],[4200],[0,1,2,3,4,5,6,7,8,9]⟩] (by kernel_rfl) (dj (.osl 7) rfl (dj (i6 a0) rfl (d_cons (vl (eVb a1) rfl rfl rfl rfl rfl rfl ?_)))))))))
    refine dn (dj (eST_A64u8_A64u8_Z r6) rfl (dj (i6 x70) rfl (d_cons ?_)))
    obtain ⟨hc96,h⟩:=ifp_some h
    refine vq (.ref (.row 128 (r6.map eT_A64u8_A64u8_Z)) [x70.toNat] [x70.toNat*128]) rfl (lmap hc96) (dn (d_cons ?_))
    have hl97:LdOk [x70.toNat] (.row 128 (r6.map eT_A64u8_A64u8_Z)) [x70.toNat*128] 128 true (eT_A64u8_A64u8_Z (rd r6 x70.toNat)):=(.row (llt hc96) rfl (.nil rfl rfl rfl))
    refine vq (eT_A64u8_A64u8_Z (rd r6 x70.toNat)) (ld_ref (i:=⟨.struct [(0,26),(64,26)],128,128,(eT_A64u8_A64u8_Z ((vrep 64 (0:Int)),(vrep 64 (0:Int))))⟩) rfl rfl hl97) hl97.c (dn (d_cons ?_))
    obtain ⟨r98,hr99,h⟩:=bind_some h
    refine ca (spec_l07Order_ok a0 a1 (rd r6 x70.toNat) r98 hr99) (dn (d_cons (vq (.sl 1 true (([r98]).map (AV.int .i64))) rfl ⟨(Nat.le_of_ble_eq_true rfl),(Nat.le_of_ble_eq_true rfl),(all_cons ⟨(Nat.le_of_ble_eq_true rfl),rfl⟩ all_nil)⟩ (dn (d_cons ?_)))))
    obtain ⟨hc100,h⟩:=ifp_some h
    refine vu (.osl 4200) [(4200,bk (.row 1 (((x71 ++ ([r98]))).map (AV.int .i64)))),(7,none)] (app_run (i:=⟨.int .i64,1,8,(.int .i64 0)⟩) (f:=(AV.int .i64)) (l:=x71) (l2:=[r98]) rfl rfl rfl rfl (fun _=>rfl) rfl rfl) (app_c (f:=(AV.int .i64)) (s:=1) (sz:=1) (by':=8) (u:=[]) (id:=7) hc100 (.inr rfl) rfl rfl rfl) rfl (dn (dj (.osl 4200) rfl (d_nil (b_norm (nj ⟨[(0,i6 a0),(3,ow 3),(6,eST_A64u8_A64u8_Z r6),(7,.osl 7),(8,i6 x70)],[(3,bk (eVb a1)),(7,bk (.row 1 (((x71 ++ ([r98]))).map (AV.int .i64))))]⟩ (a_region (vr (i6 x70) (vr (i6 (IntKind.i64.wrap (x70 + 1))) (vr (i6 (IntKind.i64.wrap (x70 + 1))) ?_)))))))))
    refine a_nil ?_
    cases h
    exact ag hX87
 ·have h:=ite_t hb4 h
  refine a_cond_t rfl (sr (vr (eSi64 ([])) (vr (i6 1) (nx _ rfl (a_ret (t_ret ?_))))))
  refine ⟨.inr rfl,?_⟩
  rw [Try.results6]
  cases h
  exact ⟨_,_,_,_,_,rfl,trivial,.inl ⟨rfl,.inl rfl⟩,rfl,⟨_,_,_,_,_,rfl,trivial,.inl ⟨rfl,.inl rfl⟩,rfl,rfl⟩⟩
def impl_row_trimmed_L:Live:=[(0,[0]),(1,[0]),(2,[0,3]),(3,[0,3]),(4,[0,3]),(100015,[0,3,15])]
noncomputable def impl_row_trimmed_l1 (a0:(List Int)) (x62:Int):Option (Int⊕Int) :=
 (Option.bind (α:=Bool) ((if (decide (x62 > 0)) then (ifp (0≤IntKind.i64.wrap (x62 - 1)∧IntKind.i64.wrap (x62 - 1) < ((a0.length:Nat):Int)) ((some ((((rd a0 (IntKind.i64.wrap (x62 - 1)).toNat)) == 0))))) else (some false))) fun x80=>(if x80 then (some (.inl (IntKind.i64.wrap (x62 - 1)))) else (some (.inr x62))))
noncomputable def impl_row_trimmed (a0:(List Int)):Option (List Int) :=
 (Option.bind (α:=Int) ((loopM (fun s:Int=>impl_row_trimmed_l1 a0 s) (a0.length:Int))) fun x43=>(ifp (0≤x43∧x43≤(a0.length:Int)) ((some (a0.take x43.toNat)))))
theorem impl_row_trimmed_ok (a0:(List Int)) (r:(List Int)) (h:impl_row_trimmed a0=some r):Den Try.prog 62 [(eSi64 a0)] { r:=(eSi64 r) }:=by
 refine dd (rs:=[(eSi64 r)]) (L:=impl_row_trimmed_L) good [(2,1)] Try.func62 Try.ntmps62 ?_
 refine ns ⟨[(0,eSi64 a0)],[]⟩ ?_
 refine sr (vr (eSi64 ([])) (nk ⟨[(0,eSi64 a0)],[]⟩ (sr (vr (eSi64 a0) (vq (i6 (a0.length:Int)) (len_run rfl rfl) trivial (vr (i6 (a0.length:Int)) (nk ⟨[(0,eSi64 a0),(3,i6 (a0.length:Int))],[]⟩ ?_)))))))
 obtain ⟨y44,hy45,hk46⟩:=bind_some h
 clear h
 refine a_join (emb:=fun (s:Int)=>⟨[(0,eSi64 a0),(3,i6 s)],[]⟩) (pre:=fun s=>s=y44) ?_ ?_
 ·rintro x43 rfl
  have h:=hk46
  refine ns ⟨[(0,eSi64 a0),(3,i6 x43)],[]⟩ (sr (vr (eSi64 a0) (vr (i6 x43) (vr (i6 x43) ?_))))
  obtain ⟨hc89,h⟩:=ifp_some h
  refine vq (.sl 1 true ((a0.take x43.toNat).map (AV.int .i64))) (take3_run (f:=(AV.int .i64)) (l:=a0) (i:=⟨.int .i64,1,8,(.int .i64 0)⟩) rfl rfl rfl rfl (fun _=>rfl)) ⟨hc89.1,lmap_le hc89.2,rfl⟩ (vq (eSi64 (a0.take x43.toNat)) (asg_tight (i:=⟨.int .i64,1,8,(.int .i64 0)⟩) (f:=(AV.int .i64)) (l:=(a0.take x43.toNat)) rfl rfl rfl) trivial (nx _ rfl (a_ret ?_)))
  refine ⟨.inr rfl,?_⟩
  rw [Try.results62]
  cases h
  exact ⟨_,_,_,_,_,rfl,trivial,.inl ⟨rfl,.inl rfl⟩,rfl,rfl⟩
 ·have h:=hy45
  refine a_block ?_
  refine a_loop (emb:=fun (s:Int)=>⟨[(0,eSi64 a0),(3,i6 s)],[]⟩) (body:=(fun s:Int=>impl_row_trimmed_l1 a0 s)) (G:=fun q=>some q=some y44) h rfl ?_ (by kernel_rfl)
  rintro X74 x62 x75 h hX76
  have h:impl_row_trimmed_l1 a0 x62=some x75:=h
  refine ns ⟨[(0,eSi64 a0),(3,i6 x62)],[]⟩ (a_seq ?_)
  obtain ⟨y81,hy82,hk83⟩:=bind_some h
  clear h
  refine a_join (emb:=fun (s:Bool)=>⟨[(0,eSi64 a0),(3,i6 x62),(15,.bool s)],[]⟩) (pre:=fun s=>s=y81) ?_ ?_
  ·rintro x80 rfl
   have h:=hk83
   refine ns ⟨[(0,eSi64 a0),(3,i6 x62),(15,.bool x80)],[]⟩ ?_
   cases hb87:x80
   ·have h:=ite_f hb87 h
    refine a_cond_f rfl (a_exit (t_exit ?_))
    cases h
    have h:=hX76
    refine t_exit (b_exit ?_)
    exact jl x62 h
   ·have h:=ite_t hb87 h
    refine a_cond_t rfl (a_skip (nj ⟨[(0,eSi64 a0),(3,i6 x62)],[]⟩ (a_block (a_region (vr (i6 x62) (vr (i6 (IntKind.i64.wrap (x62 - 1))) (vr (i6 (IntKind.i64.wrap (x62 - 1))) (a_nil (b_norm ?_)))))))))
    cases h
    exact ag hX76
  ·have h:=hy82
   refine a_region (vr (i6 x62) (vr (.bool ((decide (x62 > 0)))) (vr (.bool ((decide (x62 > 0)))) ?_)))
   cases hb84:(decide (x62 > 0))
   ·have h:=ite_f hb84 h
    refine a_gskip rfl (a_gskip rfl (a_gskip rfl (a_gskip rfl (a_gskip rfl (a_gskip rfl (vr (.bool false) (a_nil ?_)))))))
    exact jl false h
   ·have h:=ite_t hb84 h
    refine gp (eSi64 a0) rfl rfl (gp (i6 x62) rfl rfl (gp (i6 (IntKind.i64.wrap (x62 - 1))) rfl rfl ?_))
    obtain ⟨hc85,h⟩:=ifp_some h
    refine gq (.ref (.row 1 (a0.map (AV.int .i64))) [(IntKind.i64.wrap (x62 - 1)).toNat] [(IntKind.i64.wrap (x62 - 1)).toNat*1]) rfl rfl (lmap hc85) ?_
    have hl86:LdOk [(IntKind.i64.wrap (x62 - 1)).toNat] (.row 1 (a0.map (AV.int .i64))) [(IntKind.i64.wrap (x62 - 1)).toNat*1] 1 false (i6 ((rd a0 (IntKind.i64.wrap (x62 - 1)).toNat))):=(.row (llt hc85) rfl (.nil rfl rfl rfl))
    refine gq (i6 ((rd a0 (IntKind.i64.wrap (x62 - 1)).toNat))) rfl (ld_ref (i:=⟨.int .i64,1,8,(.int .i64 0)⟩) rfl rfl hl86) hl86.c (gp (.bool ((((rd a0 (IntKind.i64.wrap (x62 - 1)).toNat)) == 0))) rfl rfl (vr (.bool ((((rd a0 (IntKind.i64.wrap (x62 - 1)).toNat)) == 0))) (a_nil ?_)))
    exact jl ((((rd a0 (IntKind.i64.wrap (x62 - 1)).toNat)) == 0)) h
def impl_rowOf_L:Live:=[(0,[0]),(1,[1]),(2,[1,3]),(3,[3,6,7]),(4,[3,6,7]),(5,[3,5,6,7]),(6,[3,6,7]),(7,[3]),(100008,[3,6,7,8])]
noncomputable def impl_rowOf_l1 (a0:(Vec Int 64)) (x25:Int) (x26:(List Int)):Option ((Int×(List Int))⊕(List Int)) :=
 (if (decide (x25 < 64)) then (ifp (0≤x25∧x25 < ((64:Nat):Int)) ((ifp ((x26.length + ([IntKind.i64.wrap (rd a0.1 x25.toNat)]:List Int).length)*8≤140737488355328) ((some (.inl ((IntKind.i64.wrap (x25 + 1),(x26 ++ ([IntKind.i64.wrap (rd a0.1 x25.toNat)])))))))))) else (some (.inr x26)))
noncomputable def impl_rowOf (a0:(Vec Int 64)):Option (List Int) :=
 (Option.bind (α:=(List Int)) ((loopM (fun s:(Int×(List Int))=>impl_rowOf_l1 a0 s.1 s.2) (0,[]))) fun x17=>(Option.bind (impl_row_trimmed x17) fun r37=>(some r37)))
theorem impl_rowOf_ok (a0:(Vec Int 64)) (r:(List Int)) (h:impl_rowOf a0=some r):Den Try.prog 27 [(eVb a0)] { r:=(eSi64 r) }:=by
 refine dd (rs:=[(eSi64 r)]) (L:=impl_rowOf_L) good [(2,1),(3,2)] Try.func27 Try.ntmps27 ?_
 refine ns ⟨[(0,eVb a0)],[]⟩ ?_
 refine sr (vo 1100 (eVb a0) rfl rfl (vr (eSi64 ([])) (nk ⟨[(1,ow 1)],[(1,bk (eVb a0))]⟩ (sr (vu (.osl 1300) [(1300,bk (.row 1 (([]).map (AV.int .i64))))] rfl trivial rfl (nk ⟨[(1,ow 1),(3,.osl 3)],[(1,bk (eVb a0)),(3,bk (.row 1 (([]).map (AV.int .i64))))]⟩ ?_))))))
 obtain ⟨y18,hy19,hk20⟩:=bind_some h
 clear h
 refine a_join (emb:=fun (s:(List Int))=>⟨[(3,.osl 3)],[(3,bk (.row 1 (s.map (AV.int .i64))))]⟩) (pre:=fun s=>s=y18) ?_ ?_
 ·rintro x17 rfl
  have h:=hk20
  refine ns ⟨[(3,.osl 3)],[(3,bk (.row 1 (x17.map (AV.int .i64))))]⟩ (sr (vr (.osl 3) ?_))
  obtain ⟨r37,hr38,h⟩:=bind_some h
  refine a_call (args:=[(eSi64 x17)]) (u:=[(3,bf (.row 1 (x17.map (AV.int .i64))))]) (r:=(eSi64 r37)) rfl rfl (impl_row_trimmed_ok x17 r37 hr38) rfl (vr (eSi64 r37) (nx _ rfl (a_ret ?_)))
  refine ⟨.inr rfl,?_⟩
  rw [Try.results27]
  cases h
  exact ⟨_,_,_,_,_,rfl,trivial,.inl ⟨rfl,.inl rfl⟩,rfl,rfl⟩
 ·have h:=hy19
  refine sr (vl (eVb a0) rfl rfl rfl rfl rfl rfl (vr (i6 0) (nk ⟨[(3,.osl 3),(6,eVb a0),(7,i6 0)],[(3,bk (.row 1 (([]).map (AV.int .i64))))]⟩ (a_block ?_))))
  refine a_loop (emb:=fun (s:(Int×(List Int)))=>⟨[(3,.osl 3),(6,eVb a0),(7,i6 s.1)],[(3,bk (.row 1 (s.2.map (AV.int .i64))))]⟩) (body:=(fun s:(Int×(List Int))=>impl_rowOf_l1 a0 s.1 s.2)) (G:=fun q=>some q=some y18) h rfl ?_ (by kernel_rfl)
  rintro X30 ⟨x25,x26⟩ x31 h hX32
  have h:impl_rowOf_l1 a0 x25 x26=some x31:=h
  refine ns ⟨[(3,.osl 3),(6,eVb a0),(7,i6 x25)],[(3,bk (.row 1 (x26.map (AV.int .i64))))]⟩ (sr (vr (.bool ((decide (x25 < 64)))) (nk ⟨[(3,.osl 3),(6,eVb a0),(7,i6 x25),(8,.bool ((decide (x25 < 64))))],[(3,bk (.row 1 (x26.map (AV.int .i64))))]⟩ (a_seq ?_))))
  cases hb33:(decide (x25 < 64))
  ·have h:=ite_f hb33 h
   refine a_cond_f rfl (a_exit (t_exit ?_))
   cases h
   have h:=hX32
   refine t_exit (b_exit ?_)
   exact jl x26 h
  ·have h:=ite_t hb33 h
   refine a_cond_t rfl (a_skip (nj ⟨[(3,.osl 3),(6,eVb a0),(7,i6 x25)],[(3,bk (.row 1 (x26.map (AV.int .i64))))]⟩ (a_seq (a_block (sr ?_)))))
   obtain ⟨hc34,h⟩:=ifp_some h
   refine vq (b8 (rd a0.1 x25.toNat)) (ix_run (i:=⟨.int .u8,1,1,(.int .u8 0)⟩) (f:=(AV.int .u8)) rfl rfl rfl rfl (vlt a0 hc34)) ⟨hc34.1,hc34.2,rfl,rfl,rfl,rfl⟩ (vr (b8 (rd a0.1 x25.toNat)) (nk ⟨[(3,.osl 3),(5,b8 (rd a0.1 x25.toNat)),(6,eVb a0),(7,i6 x25)],[(3,bk (.row 1 (x26.map (AV.int .i64))))]⟩ (a_region (vr (.osl 3) (vr (b8 (rd a0.1 x25.toNat)) (vr (i6 (IntKind.i64.wrap (rd a0.1 x25.toNat))) (vq (.sl 1 true (([IntKind.i64.wrap (rd a0.1 x25.toNat)]).map (AV.int .i64))) rfl ⟨(Nat.le_of_ble_eq_true rfl),(Nat.le_of_ble_eq_true rfl),(all_cons ⟨(Nat.le_of_ble_eq_true rfl),rfl⟩ all_nil)⟩ ?_)))))))
   obtain ⟨hc35,h⟩:=ifp_some h
   refine vu (.osl 2400) [(2400,bk (.row 1 (((x26 ++ ([IntKind.i64.wrap (rd a0.1 x25.toNat)]))).map (AV.int .i64)))),(3,none)] (app_run (i:=⟨.int .i64,1,8,(.int .i64 0)⟩) (f:=(AV.int .i64)) (l:=x26) (l2:=[IntKind.i64.wrap (rd a0.1 x25.toNat)]) rfl rfl rfl rfl (fun _=>rfl) rfl rfl) (app_c (f:=(AV.int .i64)) (s:=1) (sz:=1) (by':=8) (u:=[]) (id:=3) hc35 (.inr rfl) rfl rfl rfl) rfl (vr (.osl 2400) (a_nil (b_norm (nj ⟨[(3,.osl 3),(6,eVb a0),(7,i6 x25)],[(3,bk (.row 1 (((x26 ++ ([IntKind.i64.wrap (rd a0.1 x25.toNat)]))).map (AV.int .i64))))]⟩ (a_region (vr (i6 (IntKind.i64.wrap (x25 + 1))) (vr (i6 (IntKind.i64.wrap (x25 + 1))) (a_nil ?_))))))))
   cases h
   exact ag hX32
end Go.Proofs.Ytebfhlnfmkhmcaa
