/- Functions of the program: plain Lean functions, and that the program computes them. Printed by gen.py. -/
import Derived.Test.YtebfhlnfmkhmcaaFnT
import Derived.Test.YtebfhlnfmkhmcaaFn3
import Derived.Test.YtebfhlnfmkhmcaaFn4
namespace Go.Proofs.Ytebfhlnfmkhmcaa
open Go.Abs Go.Proofs
set_option linter.unusedSimpArgs false
set_option linter.unusedVariables false
set_option maxHeartbeats 16000000
attribute [local irreducible] Abs.acode Abs.aops Abs.aopsT Abs.thenK Abs.blockK

def impl_prime_times_L:Live:=[(0,[0,1,2]),(1,[0,1,2]),(2,[]),(3,[0,1,2]),(4,[0,1,2,7]),(5,[0,2,7,29,30,31]),(6,[0,2,7,29,30,31]),(7,[0,2,7,8,9,29,30,31]),(8,[0,2,7,8,9,29,30,31,36,37,38]),(9,[0,2,7,8,9,29,30,31,36,37,38]),(10,[0,2,7,8,9,10,11,29,30,31,36,37,38]),(11,[0,2,7,8,9,29,30,31,36,37,38]),(12,[0,2,7,29,30,31]),(13,[0,7]),(14,[0,7,56,57,58]),(15,[0,7,56,57,58]),(16,[0,7,12,13,56,57,58]),(17,[0,7,56,57,58]),(18,[7]),(100021,[0,1,2,21]),(100032,[0,2,7,29,30,31,32]),(100039,[0,2,7,8,9,29,30,31,36,37,38,39]),(100059,[0,7,56,57,58,59])]
noncomputable def impl_prime_times_l2 (a2:(List Int)) (x353:Int) (a1:(List Int)) (x492:Int) (x493:(List Int)):Option ((Int×(List Int))⊕(List Int)) :=
 (if (decide (x492 < (a2.length:Int))) then (ifp (0≤x492∧x492 < ((a2.length:Nat):Int)) ((ifp (0≤IntKind.i64.wrap (x353 + x492)∧IntKind.i64.wrap (x353 + x492) < ((x493.length:Nat):Int)) ((letp (IntKind.i64.wrap (((rd x493 (IntKind.i64.wrap (x353 + x492)).toNat)) + (IntKind.i64.wrap ((rd a1 x353.toNat)*(rd a2 x492.toNat))))) fun x511=>(ifp (0≤IntKind.i64.wrap (x353 + x492)∧IntKind.i64.wrap (x353 + x492) < ((x493.length:Nat):Int)) ((some (.inl ((IntKind.i64.wrap (x492 + 1),(x493.set (IntKind.i64.wrap (x353 + x492)).toNat x511)))))))))))) else (some (.inr x493)))
noncomputable def impl_prime_times_l1 (a1:(List Int)) (a2:(List Int)) (x353:Int) (x354:(List Int)):Option ((Int×(List Int))⊕(List Int)) :=
 (if (decide (x353 < (a1.length:Int))) then (Option.bind (α:=(List Int)) ((ifp (0≤x353∧x353 < ((a1.length:Nat):Int)) ((loopM (fun s:(Int×(List Int))=>impl_prime_times_l2 a2 x353 a1 s.1 s.2) (0,x354))))) fun x475=>(some (.inl ((IntKind.i64.wrap (x353 + 1),x475))))) else (some (.inr x354)))
noncomputable def impl_prime_times_l3 (x262:(List Int)) (a0:Int) (x551:Int) (x552:(List Int)):Option ((Int×(List Int))⊕(List Int)) :=
 (if (decide (x551 < (x262.length:Int))) then (ifp (0≤x551∧x551 < ((x552.length:Nat):Int)) ((ifp (a0 ≠ 0) ((ifp (0≤x551∧x551 < ((x552.length:Nat):Int)) ((some (.inl ((IntKind.i64.wrap (x551 + 1),(x552.set x551.toNat (Int.tmod (rd x552 x551.toNat) a0)))))))))))) else (some (.inr x552)))
noncomputable def impl_prime_times (a0:Int) (a1:(List Int)) (a2:(List Int)):Option (List Int) :=
 (Option.bind (α:=Bool) ((if ((a1.length:Int) == 0) then (some true) else (some (((a2.length:Int) == 0))))) fun x2=>(if x2 then (some ([])) else (letp (IntKind.i64.wrap ((IntKind.i64.wrap ((a1.length:Int) + (a2.length:Int))) - 1)) fun x8=>(ifp (0≤x8∧x8≤140737488355328∧8*x8≤140737488355328) ((Option.bind (α:=(List Int)) ((loopM (fun s:(Int×(List Int))=>impl_prime_times_l1 a1 a2 s.1 s.2) (0,List.replicate x8.toNat (0:Int)))) fun x262=>(Option.bind (α:=(List Int)) ((loopM (fun s:(Int×(List Int))=>impl_prime_times_l3 x262 a0 s.1 s.2) (0,x262))) fun x541=>(Option.bind (impl_row_trimmed x541) fun r569=>(some r569)))))))))
theorem impl_prime_times_ok (a0:Int) (a1:(List Int)) (a2:(List Int)) (r:(List Int)) (h:impl_prime_times a0 a1 a2=some r):Den Try.prog 64 [(i6 a0),(eSi64 a1),(eSi64 a2)] { r:=(eSi64 r) }:=by
 refine dd (rs:=[(eSi64 r)]) (L:=impl_prime_times_L) good [(6,1),(7,2)] Try.func64 Try.ntmps64 ?_
 refine ns ⟨[(0,i6 a0),(1,eSi64 a1),(2,eSi64 a2)],[]⟩ ?_
 refine sr (vr (eSi64 ([])) (nk ⟨[(0,i6 a0),(1,eSi64 a1),(2,eSi64 a2)],[]⟩ (a_seq ?_)))
 obtain ⟨y3,hy4,hk5⟩:=bind_some h
 clear h
 refine a_join (emb:=fun (s:Bool)=>⟨[(0,i6 a0),(1,eSi64 a1),(2,eSi64 a2),(21,.bool s)],[]⟩) (pre:=fun s=>s=y3) ?_ ?_
 ·rintro x2 rfl
  have h:=hk5
  refine ns ⟨[(0,i6 a0),(1,eSi64 a1),(2,eSi64 a2),(21,.bool x2)],[]⟩ ?_
  cases hb7:x2
  ·have h:=ite_f hb7 h
   refine a_cond_f rfl (a_skip (nj ⟨[(0,i6 a0),(1,eSi64 a1),(2,eSi64 a2)],[]⟩ (sr (vr (eSi64 a1) (vq (i6 (a1.length:Int)) (len_run rfl rfl) trivial (vr (eSi64 a2) (vq (i6 (a2.length:Int)) (len_run rfl rfl) trivial (vr (i6 (IntKind.i64.wrap ((a1.length:Int) + (a2.length:Int)))) ?_))))))))
   obtain ⟨x8,hx9,h⟩:=letp_some h
   refine a_val' (v:=(i6 (IntKind.i64.wrap ((IntKind.i64.wrap ((a1.length:Int) + (a2.length:Int))) - 1)))) (v':=(i6 x8)) (u:=[]) (u':=[]) rfl (congrArg (fun z=>((i6 z):AV)) hx9) rfl trivial rfl ?_
   obtain ⟨hc10,h⟩:=ifp_some h
   refine vu (.osl 3800) [(3800,bk (.row 1 ((List.replicate x8.toNat (0:Int)).map (AV.int .i64))))] (mk_run (i:=⟨.int .i64,1,8,(.int .i64 0)⟩) (f:=(AV.int .i64)) (y:=(0:Int)) rfl rfl rfl rfl rfl rfl) ⟨rfl,hc10.1,hc10.2.1,hc10.2.2,(Nat.le_of_ble_eq_true rfl)⟩ rfl (vr (.osl 3800) (nk ⟨[(0,i6 a0),(1,eSi64 a1),(2,eSi64 a2),(7,.osl 7)],[(7,bk (.row 1 ((List.replicate x8.toNat (0:Int)).map (AV.int .i64))))]⟩ ?_))
   obtain ⟨y263,hy264,hk265⟩:=bind_some h
   clear h
   refine a_join (emb:=fun (s:(List Int))=>⟨[(0,i6 a0),(7,.osl 7)],[(7,bk (.row 1 (s.map (AV.int .i64))))]⟩) (pre:=fun s=>s=y263) ?_ ?_
   ·rintro x262 rfl
    have h:=hk265
    refine ns ⟨[(0,i6 a0),(7,.osl 7)],[(7,bk (.row 1 (x262.map (AV.int .i64))))]⟩ ?_
    obtain ⟨y542,hy543,hk544⟩:=bind_some h
    clear h
    refine a_join (emb:=fun (s:(List Int))=>⟨[(7,.osl 7)],[(7,bk (.row 1 (s.map (AV.int .i64))))]⟩) (pre:=fun s=>s=y542) ?_ ?_
    ·rintro x541 rfl
     have h:=hk544
     refine ns ⟨[(7,.osl 7)],[(7,bk (.row 1 (x541.map (AV.int .i64))))]⟩ (sr (vr (.osl 7) ?_))
     obtain ⟨r569,hr570,h⟩:=bind_some h
     refine a_call (args:=[(eSi64 x541)]) (u:=[(7,bf (.row 1 (x541.map (AV.int .i64))))]) (r:=(eSi64 r569)) rfl rfl (impl_row_trimmed_ok x541 r569 hr570) rfl (vr (eSi64 r569) (nx _ rfl (a_ret ?_)))
     refine ⟨.inr rfl,?_⟩
     rw [Try.results64]
     cases h
     exact ⟨_,_,_,_,_,rfl,trivial,.inl ⟨rfl,.inl rfl⟩,rfl,rfl⟩
    ·have h:=hy543
     refine sr (vr (.osl 7) (vq (i6 (x262.length:Int)) (leno_run rfl rfl rfl) trivial (vr (i6 0) (nk ⟨[(0,i6 a0),(7,.osl 7),(56,.osl 7),(57,i6 (x262.length:Int)),(58,i6 0)],[(7,bk (.row 1 (x262.map (AV.int .i64))))]⟩ (a_block ?_)))))
     refine a_loop (emb:=fun (s:(Int×(List Int)))=>⟨[(0,i6 a0),(7,.osl 7),(56,.osl 7),(57,i6 (x262.length:Int)),(58,i6 s.1)],[(7,bk (.row 1 (s.2.map (AV.int .i64))))]⟩) (body:=(fun s:(Int×(List Int))=>impl_prime_times_l3 x262 a0 s.1 s.2)) (G:=fun q=>some q=some y542) h rfl ?_ (by kernel_rfl)
     rintro X559 ⟨x551,x552⟩ x560 h hX561
     have h:impl_prime_times_l3 x262 a0 x551 x552=some x560:=h
     refine ns ⟨[(0,i6 a0),(7,.osl 7),(56,.osl 7),(57,i6 (x262.length:Int)),(58,i6 x551)],[(7,bk (.row 1 (x552.map (AV.int .i64))))]⟩ (sr (vr (.bool ((decide (x551 < (x262.length:Int))))) (nk ⟨[(0,i6 a0),(7,.osl 7),(56,.osl 7),(57,i6 (x262.length:Int)),(58,i6 x551),(59,.bool ((decide (x551 < (x262.length:Int)))))],[(7,bk (.row 1 (x552.map (AV.int .i64))))]⟩ (a_seq ?_))))
     cases hb562:(decide (x551 < (x262.length:Int)))
     ·have h:=ite_f hb562 h
      refine a_cond_f rfl (a_exit (t_exit ?_))
      cases h
      have h:=hX561
      refine t_exit (b_exit ?_)
      exact jl x552 h
     ·have h:=ite_t hb562 h
      refine a_cond_t rfl (a_skip (nj ⟨[(0,i6 a0),(7,.osl 7),(56,.osl 7),(57,i6 (x262.length:Int)),(58,i6 x551)],[(7,bk (.row 1 (x552.map (AV.int .i64))))]⟩ (a_seq (a_block (sr (vr (i6 x551) ?_))))))
      obtain ⟨hc563,h⟩:=ifp_some h
      refine vq (.own 7 [x551.toNat] [x551.toNat*1]) rfl (lmap hc563) ?_
      have hl564:LdOk [x551.toNat] (.row 1 (x552.map (AV.int .i64))) [x551.toNat*1] 1 false (i6 (rd x552 x551.toNat)):=(.row (llt hc563) rfl (.nil rfl rfl rfl))
      refine vq (i6 (rd x552 x551.toNat)) (ld_own (i:=⟨.int .i64,1,8,(.int .i64 0)⟩) rfl rfl rfl hl564) hl564.c (vr (i6 x551) (vr (i6 (rd x552 x551.toNat)) (nk ⟨[(0,i6 a0),(7,.osl 7),(12,i6 x551),(13,i6 (rd x552 x551.toNat)),(56,.osl 7),(57,i6 (x262.length:Int)),(58,i6 x551)],[(7,bk (.row 1 (x552.map (AV.int .i64))))]⟩ (a_region (vr (.osl 7) (vr (i6 x551) (vr (i6 (rd x552 x551.toNat)) (vr (i6 a0) ?_))))))))
      obtain ⟨hc565,h⟩:=ifp_some h
      refine vq (i6 (Int.tmod (rd x552 x551.toNat) a0)) rfl hc565 ?_
      obtain ⟨hc566,h⟩:=ifp_some h
      refine vq (.own 7 [x551.toNat] [x551.toNat*1]) rfl (lmap hc566) ?_
      have hs567:StOk [x551.toNat] (.row 1 (x552.map (AV.int .i64))) [x551.toNat*1] 1 (i6 (Int.tmod (rd x552 x551.toNat) a0)) (.row 1 (((x552.set x551.toNat (Int.tmod (rd x552 x551.toNat) a0))).map (AV.int .i64))):=(.row (y:=Int.tmod (rd x552 x551.toNat) a0) (llt hc566) rfl (.nil rfl rfl rfl rfl))
      refine vu .top [(7,bk (.row 1 (((x552.set x551.toNat (Int.tmod (rd x552 x551.toNat) a0))).map (AV.int .i64))))] (st_own (i:=⟨.int .i64,1,8,(.int .i64 0)⟩) rfl rfl (fun _=>rfl) rfl hs567) (hs567.c rfl) rfl (a_nil (b_norm (nj ⟨[(0,i6 a0),(7,.osl 7),(56,.osl 7),(57,i6 (x262.length:Int)),(58,i6 x551)],[(7,bk (.row 1 (((x552.set x551.toNat (Int.tmod (rd x552 x551.toNat) a0))).map (AV.int .i64))))]⟩ (a_region (vr (i6 (IntKind.i64.wrap (x551 + 1))) (vr (i6 (IntKind.i64.wrap (x551 + 1))) (a_nil ?_)))))))
      cases h
      exact ag hX561
   ·have h:=hy264
    refine sr (vr (eSi64 a1) (vq (i6 (a1.length:Int)) (len_run rfl rfl) trivial (vr (i6 0) (nk ⟨[(0,i6 a0),(2,eSi64 a2),(7,.osl 7),(29,eSi64 a1),(30,i6 (a1.length:Int)),(31,i6 0)],[(7,bk (.row 1 ((List.replicate x8.toNat (0:Int)).map (AV.int .i64))))]⟩ (a_block ?_)))))
    refine a_loop (emb:=fun (s:(Int×(List Int)))=>⟨[(0,i6 a0),(2,eSi64 a2),(7,.osl 7),(29,eSi64 a1),(30,i6 (a1.length:Int)),(31,i6 s.1)],[(7,bk (.row 1 (s.2.map (AV.int .i64))))]⟩) (body:=(fun s:(Int×(List Int))=>impl_prime_times_l1 a1 a2 s.1 s.2)) (G:=fun q=>some q=some y263) h rfl ?_ (by kernel_rfl)
    rintro X434 ⟨x353,x354⟩ x435 h hX436
    have h:impl_prime_times_l1 a1 a2 x353 x354=some x435:=h
    refine ns ⟨[(0,i6 a0),(2,eSi64 a2),(7,.osl 7),(29,eSi64 a1),(30,i6 (a1.length:Int)),(31,i6 x353)],[(7,bk (.row 1 (x354.map (AV.int .i64))))]⟩ (sr (vr (.bool ((decide (x353 < (a1.length:Int))))) (nk ⟨[(0,i6 a0),(2,eSi64 a2),(7,.osl 7),(29,eSi64 a1),(30,i6 (a1.length:Int)),(31,i6 x353),(32,.bool ((decide (x353 < (a1.length:Int)))))],[(7,bk (.row 1 (x354.map (AV.int .i64))))]⟩ (a_seq ?_))))
    cases hb437:(decide (x353 < (a1.length:Int)))
    ·have h:=ite_f hb437 h
     refine a_cond_f rfl (a_exit (t_exit ?_))
     cases h
     have h:=hX436
     refine t_exit (b_exit ?_)
     exact jl x354 h
    ·have h:=ite_t hb437 h
     refine a_cond_t rfl (a_skip (nj ⟨[(0,i6 a0),(2,eSi64 a2),(7,.osl 7),(29,eSi64 a1),(30,i6 (a1.length:Int)),(31,i6 x353)],[(7,bk (.row 1 (x354.map (AV.int .i64))))]⟩ ?_))
     obtain ⟨y476,hy477,hk478⟩:=bind_some h
     clear h
     refine a_join (emb:=fun (s:(List Int))=>⟨[(0,i6 a0),(2,eSi64 a2),(7,.osl 7),(29,eSi64 a1),(30,i6 (a1.length:Int)),(31,i6 x353)],[(7,bk (.row 1 (s.map (AV.int .i64))))]⟩) (pre:=fun s=>s=y476) ?_ ?_
     ·rintro x475 rfl
      have h:=hk478
      refine ns ⟨[(0,i6 a0),(2,eSi64 a2),(7,.osl 7),(29,eSi64 a1),(30,i6 (a1.length:Int)),(31,i6 x353)],[(7,bk (.row 1 (x475.map (AV.int .i64))))]⟩ (a_region (vr (i6 (IntKind.i64.wrap (x353 + 1))) (vr (i6 (IntKind.i64.wrap (x353 + 1))) (a_nil ?_))))
      cases h
      exact ag hX436
     ·have h:=hy477
      refine a_block (sr (vr (i6 x353) ?_))
      obtain ⟨hc479,h⟩:=ifp_some h
      refine vq (.ref (.row 1 (a1.map (AV.int .i64))) [x353.toNat] [x353.toNat*1]) rfl (lmap hc479) ?_
      have hl480:LdOk [x353.toNat] (.row 1 (a1.map (AV.int .i64))) [x353.toNat*1] 1 false (i6 (rd a1 x353.toNat)):=(.row (llt hc479) rfl (.nil rfl rfl rfl))
      refine vq (i6 (rd a1 x353.toNat)) (ld_ref (i:=⟨.int .i64,1,8,(.int .i64 0)⟩) rfl rfl hl480) hl480.c (vr (i6 x353) (vr (i6 (rd a1 x353.toNat)) (nk ⟨[(0,i6 a0),(2,eSi64 a2),(7,.osl 7),(8,i6 x353),(9,i6 (rd a1 x353.toNat)),(29,eSi64 a1),(30,i6 (a1.length:Int)),(31,i6 x353)],[(7,bk (.row 1 (x354.map (AV.int .i64))))]⟩ (sr (vr (eSi64 a2) (vq (i6 (a2.length:Int)) (len_run rfl rfl) trivial (vr (i6 0) (nk ⟨[(0,i6 a0),(2,eSi64 a2),(7,.osl 7),(8,i6 x353),(9,i6 (rd a1 x353.toNat)),(29,eSi64 a1),(30,i6 (a1.length:Int)),(31,i6 x353),(36,eSi64 a2),(37,i6 (a2.length:Int)),(38,i6 0)],[(7,bk (.row 1 (x354.map (AV.int .i64))))]⟩ (a_block ?_)))))))))
      refine a_loop (emb:=fun (s:(Int×(List Int)))=>⟨[(0,i6 a0),(2,eSi64 a2),(7,.osl 7),(8,i6 x353),(9,i6 (rd a1 x353.toNat)),(29,eSi64 a1),(30,i6 (a1.length:Int)),(31,i6 x353),(36,eSi64 a2),(37,i6 (a2.length:Int)),(38,i6 s.1)],[(7,bk (.row 1 (s.2.map (AV.int .i64))))]⟩) (body:=(fun s:(Int×(List Int))=>impl_prime_times_l2 a2 x353 a1 s.1 s.2)) (G:=fun q=>some q=some y476) h rfl ?_ (by kernel_rfl)
      rintro X503 ⟨x492,x493⟩ x504 h hX505
      have h:impl_prime_times_l2 a2 x353 a1 x492 x493=some x504:=h
      refine ns ⟨[(0,i6 a0),(2,eSi64 a2),(7,.osl 7),(8,i6 x353),(9,i6 (rd a1 x353.toNat)),(29,eSi64 a1),(30,i6 (a1.length:Int)),(31,i6 x353),(36,eSi64 a2),(37,i6 (a2.length:Int)),(38,i6 x492)],[(7,bk (.row 1 (x493.map (AV.int .i64))))]⟩ (sr (vr (.bool ((decide (x492 < (a2.length:Int))))) (nk ⟨[(0,i6 a0),(2,eSi64 a2),(7,.osl 7),(8,i6 x353),(9,i6 (rd a1 x353.toNat)),(29,eSi64 a1),(30,i6 (a1.length:Int)),(31,i6 x353),(36,eSi64 a2),(37,i6 (a2.length:Int)),(38,i6 x492),(39,.bool ((decide (x492 < (a2.length:Int)))))],[(7,bk (.row 1 (x493.map (AV.int .i64))))]⟩ (a_seq ?_))))
      cases hb506:(decide (x492 < (a2.length:Int)))
      ·have h:=ite_f hb506 h
       refine a_cond_f rfl (a_exit (t_exit ?_))
       cases h
       have h:=hX505
       refine t_exit (b_exit (b_norm ?_))
       exact jl x493 h
      ·have h:=ite_t hb506 h
       refine a_cond_t rfl (a_skip (nj ⟨[(0,i6 a0),(2,eSi64 a2),(7,.osl 7),(8,i6 x353),(9,i6 (rd a1 x353.toNat)),(29,eSi64 a1),(30,i6 (a1.length:Int)),(31,i6 x353),(36,eSi64 a2),(37,i6 (a2.length:Int)),(38,i6 x492)],[(7,bk (.row 1 (x493.map (AV.int .i64))))]⟩ (a_seq (a_block (sr (vr (i6 x492) ?_))))))
       obtain ⟨hc507,h⟩:=ifp_some h
       refine vq (.ref (.row 1 (a2.map (AV.int .i64))) [x492.toNat] [x492.toNat*1]) rfl (lmap hc507) ?_
       have hl508:LdOk [x492.toNat] (.row 1 (a2.map (AV.int .i64))) [x492.toNat*1] 1 false (i6 (rd a2 x492.toNat)):=(.row (llt hc507) rfl (.nil rfl rfl rfl))
       refine vq (i6 (rd a2 x492.toNat)) (ld_ref (i:=⟨.int .i64,1,8,(.int .i64 0)⟩) rfl rfl hl508) hl508.c (vr (i6 x492) (vr (i6 (rd a2 x492.toNat)) (nk ⟨[(0,i6 a0),(2,eSi64 a2),(7,.osl 7),(8,i6 x353),(9,i6 (rd a1 x353.toNat)),(10,i6 x492),(11,i6 (rd a2 x492.toNat)),(29,eSi64 a1),(30,i6 (a1.length:Int)),(31,i6 x353),(36,eSi64 a2),(37,i6 (a2.length:Int)),(38,i6 x492)],[(7,bk (.row 1 (x493.map (AV.int .i64))))]⟩ (a_region (vr (.osl 7) (vr (i6 x353) (vr (i6 x492) (vr (i6 (IntKind.i64.wrap (x353 + x492))) ?_))))))))
       obtain ⟨hc509,h⟩:=ifp_some h
       refine vq (.own 7 [(IntKind.i64.wrap (x353 + x492)).toNat] [(IntKind.i64.wrap (x353 + x492)).toNat*1]) rfl (lmap hc509) ?_
       have hl510:LdOk [(IntKind.i64.wrap (x353 + x492)).toNat] (.row 1 (x493.map (AV.int .i64))) [(IntKind.i64.wrap (x353 + x492)).toNat*1] 1 false (i6 ((rd x493 (IntKind.i64.wrap (x353 + x492)).toNat))):=(.row (llt hc509) rfl (.nil rfl rfl rfl))
       refine vq (i6 ((rd x493 (IntKind.i64.wrap (x353 + x492)).toNat))) (ld_own (i:=⟨.int .i64,1,8,(.int .i64 0)⟩) rfl rfl rfl hl510) hl510.c (vr (i6 (rd a1 x353.toNat)) (vr (i6 (rd a2 x492.toNat)) (vr (i6 (IntKind.i64.wrap ((rd a1 x353.toNat)*(rd a2 x492.toNat)))) ?_)))
       obtain ⟨x511,hx512,h⟩:=letp_some h
       refine a_val' (v:=(i6 (IntKind.i64.wrap (((rd x493 (IntKind.i64.wrap (x353 + x492)).toNat)) + (IntKind.i64.wrap ((rd a1 x353.toNat)*(rd a2 x492.toNat))))))) (v':=(i6 x511)) (u:=[]) (u':=[]) rfl (congrArg (fun z=>((i6 z):AV)) hx512) rfl trivial rfl ?_
       obtain ⟨hc513,h⟩:=ifp_some h
       refine vq (.own 7 [(IntKind.i64.wrap (x353 + x492)).toNat] [(IntKind.i64.wrap (x353 + x492)).toNat*1]) rfl (lmap hc513) ?_
       have hs514:StOk [(IntKind.i64.wrap (x353 + x492)).toNat] (.row 1 (x493.map (AV.int .i64))) [(IntKind.i64.wrap (x353 + x492)).toNat*1] 1 (i6 x511) (.row 1 (((x493.set (IntKind.i64.wrap (x353 + x492)).toNat x511)).map (AV.int .i64))):=(.row (y:=x511) (llt hc513) rfl (.nil rfl rfl rfl rfl))
       refine vu .top [(7,bk (.row 1 (((x493.set (IntKind.i64.wrap (x353 + x492)).toNat x511)).map (AV.int .i64))))] (st_own (i:=⟨.int .i64,1,8,(.int .i64 0)⟩) rfl rfl (fun _=>rfl) rfl hs514) (hs514.c rfl) rfl (a_nil (b_norm (nj ⟨[(0,i6 a0),(2,eSi64 a2),(7,.osl 7),(8,i6 x353),(9,i6 (rd a1 x353.toNat)),(29,eSi64 a1),(30,i6 (a1.length:Int)),(31,i6 x353),(36,eSi64 a2),(37,i6 (a2.length:Int)),(38,i6 x492)],[(7,bk (.row 1 (((x493.set (IntKind.i64.wrap (x353 + x492)).toNat x511)).map (AV.int .i64))))]⟩ (a_region (vr (i6 (IntKind.i64.wrap (x492 + 1))) (vr (i6 (IntKind.i64.wrap (x492 + 1))) (a_nil ?_)))))))
       cases h
       exact ag hX505
  ·have h:=ite_t hb7 h
   refine a_cond_t rfl (sr (vr (eSi64 ([])) (nx _ rfl (a_ret (t_ret ?_)))))
   refine ⟨.inr rfl,?_⟩
   rw [Try.results64]
   cases h
   exact ⟨_,_,_,_,_,rfl,trivial,.inl ⟨rfl,.inl rfl⟩,rfl,rfl⟩
 ·have h:=hy4
  refine a_region (vr (eSi64 a1) (vq (i6 (a1.length:Int)) (len_run rfl rfl) trivial (vr (.bool (((a1.length:Int) == 0))) (vr (.bool (((a1.length:Int) == 0))) ?_))))
  cases hb6:((a1.length:Int) == 0)
  ·have h:=ite_f hb6 h
   refine gp (eSi64 a2) rfl rfl (gq (i6 (a2.length:Int)) rfl (len_run rfl rfl) trivial (gp (.bool (((a2.length:Int) == 0))) rfl rfl (vr (.bool (((a2.length:Int) == 0))) (a_nil ?_))))
   exact jl (((a2.length:Int) == 0)) h
  ·have h:=ite_t hb6 h
   refine a_gskip rfl (a_gskip rfl (a_gskip rfl (vr (.bool true) (a_nil ?_))))
   exact jl true h
def impl_row_at_L:Live:=[(0,[0,1]),(1,[0,1]),(2,[0,1]),(3,[]),(100008,[0,1,8])]
noncomputable def impl_row_at (a0:(List Int)) (a1:Int):Option Int :=
 (if (decide (a1 < (a0.length:Int))) then (ifp (0≤a1∧a1 < ((a0.length:Nat):Int)) ((some (rd a0 a1.toNat)))) else (some 0))
theorem impl_row_at_ok (a0:(List Int)) (a1:Int) (r:Int) (h:impl_row_at a0 a1=some r):Den Try.prog 100 [(eSi64 a0),(i6 a1)] { r:=(i6 r) }:=by
 refine dd (rs:=[(i6 r)]) (L:=impl_row_at_L) good [] Try.func100 Try.ntmps100 ?_
 refine ns ⟨[(0,eSi64 a0),(1,i6 a1)],[]⟩ ?_
 refine sr (vr (i6 0) (nk ⟨[(0,eSi64 a0),(1,i6 a1)],[]⟩ (a_seq (sr (vr (i6 a1) (vr (eSi64 a0) (vq (i6 (a0.length:Int)) (len_run rfl rfl) trivial (vr (.bool ((decide (a1 < (a0.length:Int))))) (nk ⟨[(0,eSi64 a0),(1,i6 a1),(8,.bool ((decide (a1 < (a0.length:Int)))))],[]⟩ ?_)))))))))
 cases hb1:(decide (a1 < (a0.length:Int)))
 ·have h:=ite_f hb1 h
  refine a_cond_f rfl (a_skip (nj ⟨[],[]⟩ (sr (vr (i6 0) (nx _ rfl (a_ret ?_))))))
  refine ⟨.inr rfl,?_⟩
  rw [Try.results100]
  cases h
  exact ⟨_,_,_,_,_,rfl,trivial,.inl ⟨rfl,.inl rfl⟩,rfl,rfl⟩
 ·have h:=ite_t hb1 h
  refine a_cond_t rfl (sr (vr (eSi64 a0) (vr (i6 a1) ?_)))
  obtain ⟨hc2,h⟩:=ifp_some h
  refine vq (.ref (.row 1 (a0.map (AV.int .i64))) [a1.toNat] [a1.toNat*1]) rfl (lmap hc2) ?_
  have hl3:LdOk [a1.toNat] (.row 1 (a0.map (AV.int .i64))) [a1.toNat*1] 1 false (i6 (rd a0 a1.toNat)):=(.row (llt hc2) rfl (.nil rfl rfl rfl))
  refine vq (i6 (rd a0 a1.toNat)) (ld_ref (i:=⟨.int .i64,1,8,(.int .i64 0)⟩) rfl rfl hl3) hl3.c (vr (i6 (rd a0 a1.toNat)) (nx _ rfl (a_ret (t_ret ?_))))
  refine ⟨.inr rfl,?_⟩
  rw [Try.results100]
  cases h
  exact ⟨_,_,_,_,_,rfl,trivial,.inl ⟨rfl,.inl rfl⟩,rfl,rfl⟩
def impl_prime_combine_L:Live:=[(0,[0,1,2,3]),(1,[0,1,2,3]),(2,[0,1,2,3,9]),(3,[0,1,2,3,9,18,19]),(4,[0,1,2,3,9,18,19]),(5,[0,1,2,3,9,10,18,19]),(6,[0,1,2,3,9,18,19]),(7,[9]),(100020,[0,1,2,3,9,18,19,20])]
noncomputable def impl_prime_combine_l1 (x1:Int) (a1:(List Int)) (a2:(List Int)) (a0:Int) (a3:Int) (x58:Int) (x59:(List Int)):Option ((Int×(List Int))⊕(List Int)) :=
 (letp ((decide (x58 < (((List.replicate x1.toNat (0:Int)).length:Int))))) fun x74=>(if x74 then (Option.bind (impl_row_at a1 x58) fun r77=>(Option.bind (impl_row_at a2 x58) fun r79=>(Option.bind (impl_prime_reduce a0 (IntKind.i64.wrap (r77 + (IntKind.i64.wrap (a3*r79))))) fun r81=>(ifp (0≤x58∧x58 < ((x59.length:Nat):Int)) ((some (.inl ((IntKind.i64.wrap (x58 + 1),(x59.set x58.toNat r81)))))))))) else (some (.inr x59))))
noncomputable def impl_prime_combine (a0:Int) (a1:(List Int)) (a2:(List Int)) (a3:Int):Option (List Int) :=
 (letp ((if (a2.length:Int) > (a1.length:Int) then (a2.length:Int) else (a1.length:Int))) fun x1=>(ifp (0≤x1∧x1≤140737488355328∧8*x1≤140737488355328) ((Option.bind (α:=(List Int)) ((loopM (fun s:(Int×(List Int))=>impl_prime_combine_l1 x1 a1 a2 a0 a3 s.1 s.2) (0,List.replicate x1.toNat (0:Int)))) fun x43=>(Option.bind (impl_row_trimmed x43) fun r86=>(some r86))))))
theorem impl_prime_combine_ok (a0:Int) (a1:(List Int)) (a2:(List Int)) (a3:Int) (r:(List Int)) (h:impl_prime_combine a0 a1 a2 a3=some r):Den Try.prog 90 [(i6 a0),(eSi64 a1),(eSi64 a2),(i6 a3)] { r:=(eSi64 r) }:=by
 refine dd (rs:=[(eSi64 r)]) (L:=impl_prime_combine_L) good [(8,1),(9,2)] Try.func90 Try.ntmps90 ?_
 refine ns ⟨[(0,i6 a0),(1,eSi64 a1),(2,eSi64 a2),(3,i6 a3)],[]⟩ ?_
 refine sr (vr (eSi64 ([])) (nk ⟨[(0,i6 a0),(1,eSi64 a1),(2,eSi64 a2),(3,i6 a3)],[]⟩ (sr (vr (eSi64 a1) (vq (i6 (a1.length:Int)) (len_run rfl rfl) trivial (vr (eSi64 a2) (vq (i6 (a2.length:Int)) (len_run rfl rfl) trivial ?_)))))))
 obtain ⟨x1,hx2,h⟩:=letp_some h
 refine a_val' (v:=(i6 ((if (a2.length:Int) > (a1.length:Int) then (a2.length:Int) else (a1.length:Int))))) (v':=(i6 x1)) (u:=[]) (u':=[]) rfl (congrArg (fun z=>((i6 z):AV)) hx2) rfl trivial rfl ?_
 obtain ⟨hc3,h⟩:=ifp_some h
 refine vu (.osl 2600) [(2600,bk (.row 1 ((List.replicate x1.toNat (0:Int)).map (AV.int .i64))))] (mk_run (i:=⟨.int .i64,1,8,(.int .i64 0)⟩) (f:=(AV.int .i64)) (y:=(0:Int)) rfl rfl rfl rfl rfl rfl) ⟨rfl,hc3.1,hc3.2.1,hc3.2.2,(Nat.le_of_ble_eq_true rfl)⟩ rfl (vr (.osl 2600) (nk ⟨[(0,i6 a0),(1,eSi64 a1),(2,eSi64 a2),(3,i6 a3),(9,.osl 9)],[(9,bk (.row 1 ((List.replicate x1.toNat (0:Int)).map (AV.int .i64))))]⟩ ?_))
 obtain ⟨y44,hy45,hk46⟩:=bind_some h
 clear h
 refine a_join (emb:=fun (s:(List Int))=>⟨[(9,.osl 9)],[(9,bk (.row 1 (s.map (AV.int .i64))))]⟩) (pre:=fun s=>s=y44) ?_ ?_
 ·rintro x43 rfl
  have h:=hk46
  refine ns ⟨[(9,.osl 9)],[(9,bk (.row 1 (x43.map (AV.int .i64))))]⟩ (sr (vr (.osl 9) ?_))
  obtain ⟨r86,hr87,h⟩:=bind_some h
  refine a_call (args:=[(eSi64 x43)]) (u:=[(9,bf (.row 1 (x43.map (AV.int .i64))))]) (r:=(eSi64 r86)) rfl rfl (impl_row_trimmed_ok x43 r86 hr87) rfl (vr (eSi64 r86) (nx _ rfl (a_ret ?_)))
  refine ⟨.inr rfl,?_⟩
  rw [Try.results90]
  cases h
  exact ⟨_,_,_,_,_,rfl,trivial,.inl ⟨rfl,.inl rfl⟩,rfl,rfl⟩
 ·have h:=hy45
  refine sr (vr (.osl 9) (vq (i6 (((List.replicate x1.toNat (0:Int)).length:Int))) (leno_run rfl rfl rfl) trivial (vr (i6 0) (nk ⟨[(0,i6 a0),(1,eSi64 a1),(2,eSi64 a2),(3,i6 a3),(9,.osl 9),(18,i6 (((List.replicate x1.toNat (0:Int)).length:Int))),(19,i6 0)],[(9,bk (.row 1 ((List.replicate x1.toNat (0:Int)).map (AV.int .i64))))]⟩ (a_block ?_)))))
  refine a_loop (emb:=fun (s:(Int×(List Int)))=>⟨[(0,i6 a0),(1,eSi64 a1),(2,eSi64 a2),(3,i6 a3),(9,.osl 9),(18,i6 (((List.replicate x1.toNat (0:Int)).length:Int))),(19,i6 s.1)],[(9,bk (.row 1 (s.2.map (AV.int .i64))))]⟩) (body:=(fun s:(Int×(List Int))=>impl_prime_combine_l1 x1 a1 a2 a0 a3 s.1 s.2)) (G:=fun q=>some q=some y44) h rfl ?_ (by kernel_rfl)
  rintro X71 ⟨x58,x59⟩ x72 h hX73
  have h:impl_prime_combine_l1 x1 a1 a2 a0 a3 x58 x59=some x72:=h
  refine ns ⟨[(0,i6 a0),(1,eSi64 a1),(2,eSi64 a2),(3,i6 a3),(9,.osl 9),(18,i6 (((List.replicate x1.toNat (0:Int)).length:Int))),(19,i6 x58)],[(9,bk (.row 1 (x59.map (AV.int .i64))))]⟩ (sr ?_)
  obtain ⟨x74,hx75,h⟩:=letp_some h
  refine a_val' (v:=(.bool ((decide (x58 < (((List.replicate x1.toNat (0:Int)).length:Int))))))) (v':=(.bool x74)) (u:=[]) (u':=[]) rfl (congrArg (fun z=>((.bool z):AV)) hx75) rfl trivial rfl (nk ⟨[(0,i6 a0),(1,eSi64 a1),(2,eSi64 a2),(3,i6 a3),(9,.osl 9),(18,i6 (((List.replicate x1.toNat (0:Int)).length:Int))),(19,i6 x58),(20,.bool x74)],[(9,bk (.row 1 (x59.map (AV.int .i64))))]⟩ (a_seq ?_))
  cases hb76:x74
  ·have h:=ite_f hb76 h
   refine a_cond_f rfl (a_exit (t_exit ?_))
   cases h
   have h:=hX73
   refine t_exit (b_exit ?_)
   exact jl x59 h
  ·have h:=ite_t hb76 h
   refine a_cond_t rfl (a_skip (nj ⟨[(0,i6 a0),(1,eSi64 a1),(2,eSi64 a2),(3,i6 a3),(9,.osl 9),(18,i6 (((List.replicate x1.toNat (0:Int)).length:Int))),(19,i6 x58)],[(9,bk (.row 1 (x59.map (AV.int .i64))))]⟩ (a_seq (a_block (sr (vr (i6 x58) (vr (i6 x58) (nk ⟨[(0,i6 a0),(1,eSi64 a1),(2,eSi64 a2),(3,i6 a3),(9,.osl 9),(10,i6 x58),(18,i6 (((List.replicate x1.toNat (0:Int)).length:Int))),(19,i6 x58)],[(9,bk (.row 1 (x59.map (AV.int .i64))))]⟩ (a_region ?_)))))))))
   refine vr (.osl 9) (vr (i6 x58) (vr (i6 a0) (vr (eSi64 a1) (vr (i6 x58) ?_))))
   obtain ⟨r77,hr78,h⟩:=bind_some h
   refine ca (impl_row_at_ok a1 x58 r77 hr78) (vr (i6 a3) (vr (eSi64 a2) (vr (i6 x58) ?_)))
   obtain ⟨r79,hr80,h⟩:=bind_some h
   refine ca (impl_row_at_ok a2 x58 r79 hr80) (vr (i6 (IntKind.i64.wrap (a3*r79))) (vr (i6 (IntKind.i64.wrap (r77 + (IntKind.i64.wrap (a3*r79))))) ?_))
   obtain ⟨r81,hr82,h⟩:=bind_some h
   refine ca (impl_prime_reduce_ok a0 (IntKind.i64.wrap (r77 + (IntKind.i64.wrap (a3*r79)))) r81 hr82) ?_
   obtain ⟨hc83,h⟩:=ifp_some h
   refine vq (.own 9 [x58.toNat] [x58.toNat*1]) rfl (lmap hc83) ?_
   have hs84:StOk [x58.toNat] (.row 1 (x59.map (AV.int .i64))) [x58.toNat*1] 1 (i6 r81) (.row 1 ((x59.set x58.toNat r81).map (AV.int .i64))):=(.row (y:=r81) (llt hc83) rfl (.nil rfl rfl rfl rfl))
   refine vu .top [(9,bk (.row 1 ((x59.set x58.toNat r81).map (AV.int .i64))))] (st_own (i:=⟨.int .i64,1,8,(.int .i64 0)⟩) rfl rfl (fun _=>rfl) rfl hs84) (hs84.c rfl) rfl (a_nil (b_norm (nj ⟨[(0,i6 a0),(1,eSi64 a1),(2,eSi64 a2),(3,i6 a3),(9,.osl 9),(18,i6 (((List.replicate x1.toNat (0:Int)).length:Int))),(19,i6 x58)],[(9,bk (.row 1 ((x59.set x58.toNat r81).map (AV.int .i64))))]⟩ (a_region (vr (i6 (IntKind.i64.wrap (x58 + 1))) (vr (i6 (IntKind.i64.wrap (x58 + 1))) (a_nil ?_)))))))
   cases h
   exact ag hX73
def impl_prime_scale_L:Live:=[(0,[0,1,2]),(1,[0,1,2])]
noncomputable def impl_prime_scale (a0:Int) (a1:(List Int)) (a2:Int):Option (List Int) :=
 (Option.bind (impl_prime_combine a0 ([]) a1 a2) fun r1=>(some r1))
theorem impl_prime_scale_ok (a0:Int) (a1:(List Int)) (a2:Int) (r:(List Int)) (h:impl_prime_scale a0 a1 a2=some r):Den Try.prog 114 [(i6 a0),(eSi64 a1),(i6 a2)] { r:=(eSi64 r) }:=by
 refine dd (rs:=[(eSi64 r)]) (L:=impl_prime_scale_L) good [(6,1)] Try.func114 Try.ntmps114 ?_
 refine ns ⟨[(0,i6 a0),(1,eSi64 a1),(2,i6 a2)],[]⟩ ?_
 refine sr (vr (eSi64 ([])) (nk ⟨[(0,i6 a0),(1,eSi64 a1),(2,i6 a2)],[]⟩ (sr (vr (i6 a0) (vr (eSi64 a1) (vr (i6 a2) ?_))))))
 obtain ⟨r1,hr2,h⟩:=bind_some h
 refine a_call (args:=[(i6 a0),(.sl 0 true []),(eSi64 a1),(i6 a2)]) (u:=[]) (r:=(eSi64 r1)) rfl rfl (Den.args (impl_prime_combine_ok a0 ([]) a1 a2 r1 hr2) rfl rfl (.cons (.refl _) (.cons (.nil _ _ _ _ (fun _=>rfl)) (.cons (.refl _) (.cons (.refl _) .nil))))) rfl (vr (eSi64 r1) (nx _ rfl (a_ret ?_)))
 refine ⟨.inr rfl,?_⟩
 rw [Try.results114]
 cases h
 exact ⟨_,_,_,_,_,rfl,trivial,.inl ⟨rfl,.inl rfl⟩,rfl,rfl⟩
def impl_prime_bezout_L:Live:=[(0,[0,1,2]),(1,[0,1,2]),(2,[0,1,2,9,10]),(3,[0,1,2,9,10,11,12]),(4,[0,1,2,9,10,11,12]),(5,[0,2,9,10,11,12,13,14]),(6,[0,1,2,9,10,11,12,13]),(7,[0,1,2,9,10,11,12,13]),(8,[0,1,9,10]),(9,[0,1,9,10,15]),(100020,[0,1,2,9,10,11,12,20])]
noncomputable def impl_prime_bezout_l1 (a0:Int) (x61:(List Int)) (x62:(List Int)) (x63:(List Int)) (x64:(List Int)) (x65:(List Int)) (x66:(List Int)):Option (((List Int)×(List Int)×(List Int)×(List Int)×(List Int)×(List Int))⊕((List Int)×(List Int)×(List Int))) :=
 (if (decide ((x62.length:Int) > 0)) then (Option.bind (impl_prime_divide a0 x61 x62) fun r82=>(Option.bind (impl_prime_times a0 r82.1 x65) fun r84=>(Option.bind (impl_prime_combine a0 x63 r84 (-1)) fun r86=>(Option.bind (impl_prime_times a0 r82.1 x66) fun r88=>(Option.bind (impl_prime_combine a0 x64 r88 (-1)) fun r90=>(some (.inl (x62,r82.2,x65,x66,r86,r90)))))))) else (some (.inr (x61,x63,x64))))
noncomputable def impl_prime_bezout (a0:Int) (a1:(List Int)) (a2:(List Int)):Option ((List Int)×(List Int)×(List Int)) :=
 (Option.bind (α:=((List Int)×(List Int)×(List Int))) ((loopM (fun s:((List Int)×(List Int)×(List Int)×(List Int)×(List Int)×(List Int))=>impl_prime_bezout_l1 a0 s.1 s.2.1 s.2.2.1 s.2.2.2.1 s.2.2.2.2.1 s.2.2.2.2.2) (a1,a2,[1],[],[],[1]))) fun ⟨x44,x45,x46⟩=>(Option.bind (impl_row_lead x44) fun r93=>(Option.bind (impl_prime_inverse a0 r93) fun r95=>(Option.bind (impl_prime_scale a0 x44 r95) fun r97=>(Option.bind (impl_prime_scale a0 x45 r95) fun r99=>(Option.bind (impl_prime_scale a0 x46 r95) fun r101=>(some (r97,r99,r101))))))))
theorem impl_prime_bezout_ok (a0:Int) (a1:(List Int)) (a2:(List Int)) (r:((List Int)×(List Int)×(List Int))) (h:impl_prime_bezout a0 a1 a2=some r):Den Try.prog 91 [(i6 a0),(eSi64 a1),(eSi64 a2)] { r:=(.tuple [(eSi64 r.1),(eSi64 r.2.1),(eSi64 r.2.2)]) }:=by
 refine dd (rs:=[(eSi64 r.1),(eSi64 r.2.1),(eSi64 r.2.2)]) (L:=impl_prime_bezout_L) good [(1,1),(2,1),(6,1),(7,1),(8,1),(9,1),(10,1),(11,1),(12,1),(13,1),(14,1)] Try.func91 Try.ntmps91 ?_
 refine ns ⟨[(0,i6 a0),(1,eSi64 a1),(2,eSi64 a2)],[]⟩ ?_
 refine sr (vr (eSi64 ([])) (vr (eSi64 ([])) (vr (eSi64 ([])) (nk ⟨[(0,i6 a0),(1,eSi64 a1),(2,eSi64 a2)],[]⟩ (sr (vq (.sl 1 true (([1]).map (AV.int .i64))) rfl ⟨(Nat.le_of_ble_eq_true rfl),(Nat.le_of_ble_eq_true rfl),(all_cons ⟨(Nat.le_of_ble_eq_true rfl),rfl⟩ all_nil)⟩ (vq (eSi64 ([1])) (asg_tight (i:=⟨.int .i64,1,8,(.int .i64 0)⟩) (f:=(AV.int .i64)) (l:=[1]) rfl rfl rfl) trivial (vr (eSi64 ([])) (nk ⟨[(0,i6 a0),(1,eSi64 a1),(2,eSi64 a2),(9,eSi64 ([1])),(10,eSi64 ([]))],[]⟩ ?_)))))))))
 refine sr (vq (.sl 1 true (([1]).map (AV.int .i64))) rfl ⟨(Nat.le_of_ble_eq_true rfl),(Nat.le_of_ble_eq_true rfl),(all_cons ⟨(Nat.le_of_ble_eq_true rfl),rfl⟩ all_nil)⟩ (vr (eSi64 ([])) (vq (eSi64 ([1])) (asg_tight (i:=⟨.int .i64,1,8,(.int .i64 0)⟩) (f:=(AV.int .i64)) (l:=[1]) rfl rfl rfl) trivial (nk ⟨[(0,i6 a0),(1,eSi64 a1),(2,eSi64 a2),(9,eSi64 ([1])),(10,eSi64 ([])),(11,eSi64 ([])),(12,eSi64 ([1]))],[]⟩ ?_))))
 obtain ⟨y47,hy48,hk49⟩:=bind_some h
 clear h
 refine a_join (emb:=fun (s:((List Int)×(List Int)×(List Int)))=>⟨[(0,i6 a0),(1,eSi64 s.1),(9,eSi64 s.2.1),(10,eSi64 s.2.2)],[]⟩) (pre:=fun s=>s=y47) ?_ ?_
 ·rintro ⟨x44,x45,x46⟩ rfl
  have h:=hk49
  refine ns ⟨[(0,i6 a0),(1,eSi64 x44),(9,eSi64 x45),(10,eSi64 x46)],[]⟩ (sr (vr (i6 a0) (vr (eSi64 x44) ?_)))
  obtain ⟨r93,hr94,h⟩:=bind_some h
  refine ca (impl_row_lead_ok x44 r93 hr94) ?_
  obtain ⟨r95,hr96,h⟩:=bind_some h
  refine ca (impl_prime_inverse_ok a0 r93 r95 hr96) (vr (i6 r95) (nk ⟨[(0,i6 a0),(1,eSi64 x44),(9,eSi64 x45),(10,eSi64 x46),(15,i6 r95)],[]⟩ (sr (vr (i6 a0) (vr (eSi64 x44) (vr (i6 r95) ?_))))))
  obtain ⟨r97,hr98,h⟩:=bind_some h
  refine ca (impl_prime_scale_ok a0 x44 r95 r97 hr98) (vr (i6 a0) (vr (eSi64 x45) (vr (i6 r95) ?_)))
  obtain ⟨r99,hr100,h⟩:=bind_some h
  refine ca (impl_prime_scale_ok a0 x45 r95 r99 hr100) (vr (i6 a0) (vr (eSi64 x46) (vr (i6 r95) ?_)))
  obtain ⟨r101,hr102,h⟩:=bind_some h
  refine ca (impl_prime_scale_ok a0 x46 r95 r101 hr102) (vr (eSi64 r97) (vr (eSi64 r99) (vr (eSi64 r101) (nx _ rfl (a_ret ?_)))))
  refine ⟨.inr rfl,?_⟩
  rw [Try.results91]
  cases h
  exact ⟨_,_,_,_,_,rfl,trivial,.inl ⟨rfl,.inl rfl⟩,rfl,⟨_,_,_,_,_,rfl,trivial,.inl ⟨rfl,.inl rfl⟩,rfl,⟨_,_,_,_,_,rfl,trivial,.inl ⟨rfl,.inl rfl⟩,rfl,rfl⟩⟩⟩
 ·have h:=hy48
  refine a_block ?_
  refine a_loop (emb:=fun (s:((List Int)×(List Int)×(List Int)×(List Int)×(List Int)×(List Int)))=>⟨[(0,i6 a0),(1,eSi64 s.1),(2,eSi64 s.2.1),(9,eSi64 s.2.2.1),(10,eSi64 s.2.2.2.1),(11,eSi64 s.2.2.2.2.1),(12,eSi64 s.2.2.2.2.2)],[]⟩) (body:=(fun s:((List Int)×(List Int)×(List Int)×(List Int)×(List Int)×(List Int))=>impl_prime_bezout_l1 a0 s.1 s.2.1 s.2.2.1 s.2.2.2.1 s.2.2.2.2.1 s.2.2.2.2.2)) (G:=fun q=>some q=some y47) h rfl ?_ (by kernel_rfl)
  rintro X78 ⟨x61,x62,x63,x64,x65,x66⟩ x79 h hX80
  have h:impl_prime_bezout_l1 a0 x61 x62 x63 x64 x65 x66=some x79:=h
  refine ns ⟨[(0,i6 a0),(1,eSi64 x61),(2,eSi64 x62),(9,eSi64 x63),(10,eSi64 x64),(11,eSi64 x65),(12,eSi64 x66)],[]⟩ (a_seq (sr (vr (eSi64 x62) (vq (i6 (x62.length:Int)) (len_run rfl rfl) trivial (vr (.bool ((decide ((x62.length:Int) > 0)))) (nk ⟨[(0,i6 a0),(1,eSi64 x61),(2,eSi64 x62),(9,eSi64 x63),(10,eSi64 x64),(11,eSi64 x65),(12,eSi64 x66),(20,.bool ((decide ((x62.length:Int) > 0))))],[]⟩ ?_))))))
  cases hb81:(decide ((x62.length:Int) > 0))
  ·have h:=ite_f hb81 h
   refine a_cond_f rfl (a_exit (t_exit ?_))
   cases h
   have h:=hX80
   refine t_exit (b_exit ?_)
   exact jl (x61,x63,x64) h
  ·have h:=ite_t hb81 h
   refine a_cond_t rfl (a_skip (nj ⟨[(0,i6 a0),(1,eSi64 x61),(2,eSi64 x62),(9,eSi64 x63),(10,eSi64 x64),(11,eSi64 x65),(12,eSi64 x66)],[]⟩ (a_block (sr (vr (i6 a0) (vr (eSi64 x61) (vr (eSi64 x62) ?_)))))))
   obtain ⟨r82,hr83,h⟩:=bind_some h
   refine ca (impl_prime_divide_ok a0 x61 x62 r82 hr83) (vr (.tuple [(eSi64 r82.1),(eSi64 r82.2)]) (vb (eSi64 r82.1) rfl rfl (vb (eSi64 r82.2) rfl rfl (vr (eSi64 r82.1) (vr (eSi64 r82.2) (nk ⟨[(0,i6 a0),(2,eSi64 x62),(9,eSi64 x63),(10,eSi64 x64),(11,eSi64 x65),(12,eSi64 x66),(13,eSi64 r82.1),(14,eSi64 r82.2)],[]⟩ (sr (vr (eSi64 x62) (vr (eSi64 r82.2) ?_)))))))))
   refine vr (eSi64 x62) (vr (eSi64 r82.2) (nk ⟨[(0,i6 a0),(1,eSi64 x62),(2,eSi64 r82.2),(9,eSi64 x63),(10,eSi64 x64),(11,eSi64 x65),(12,eSi64 x66),(13,eSi64 r82.1)],[]⟩ (sr (vr (eSi64 x65) (vr (i6 a0) (vr (eSi64 x63) (vr (i6 a0) (vr (eSi64 r82.1) (vr (eSi64 x65) ?_)))))))))
   obtain ⟨r84,hr85,h⟩:=bind_some h
   refine ca (impl_prime_times_ok a0 r82.1 x65 r84 hr85) ?_
   obtain ⟨r86,hr87,h⟩:=bind_some h
   refine ca (impl_prime_combine_ok a0 x63 r84 (-1) r86 hr87) (vr (eSi64 x65) (vr (eSi64 r86) (nk ⟨[(0,i6 a0),(1,eSi64 x62),(2,eSi64 r82.2),(9,eSi64 x65),(10,eSi64 x64),(11,eSi64 r86),(12,eSi64 x66),(13,eSi64 r82.1)],[]⟩ (a_region (vr (eSi64 x66) (vr (i6 a0) (vr (eSi64 x64) (vr (i6 a0) (vr (eSi64 r82.1) ?_)))))))))
   refine vr (eSi64 x66) ?_
   obtain ⟨r88,hr89,h⟩:=bind_some h
   refine ca (impl_prime_times_ok a0 r82.1 x66 r88 hr89) ?_
   obtain ⟨r90,hr91,h⟩:=bind_some h
   refine ca (impl_prime_combine_ok a0 x64 r88 (-1) r90 hr91) (vr (eSi64 x66) (vr (eSi64 r90) (a_nil (b_norm ?_))))
   cases h
   exact ag hX80
def impl_prime_gcd_L:Live:=[(0,[0,1,2]),(1,[0,1,2]),(2,[7])]
noncomputable def impl_prime_gcd (a0:Int) (a1:(List Int)) (a2:(List Int)):Option (List Int) :=
 (Option.bind (impl_prime_bezout a0 a1 a2) fun r1=>(some r1.1))
theorem impl_prime_gcd_ok (a0:Int) (a1:(List Int)) (a2:(List Int)) (r:(List Int)) (h:impl_prime_gcd a0 a1 a2=some r):Den Try.prog 65 [(i6 a0),(eSi64 a1),(eSi64 a2)] { r:=(eSi64 r) }:=by
 refine dd (rs:=[(eSi64 r)]) (L:=impl_prime_gcd_L) good [(6,1),(7,1),(8,1),(9,1)] Try.func65 Try.ntmps65 ?_
 refine ns ⟨[(0,i6 a0),(1,eSi64 a1),(2,eSi64 a2)],[]⟩ ?_
 refine sr (vr (eSi64 ([])) (nk ⟨[(0,i6 a0),(1,eSi64 a1),(2,eSi64 a2)],[]⟩ (sr (vr (i6 a0) (vr (eSi64 a1) (vr (eSi64 a2) ?_))))))
 obtain ⟨r1,hr2,h⟩:=bind_some h
 refine ca (impl_prime_bezout_ok a0 a1 a2 r1 hr2) (vr (.tuple [(eSi64 r1.1),(eSi64 r1.2.1),(eSi64 r1.2.2)]) (vb (eSi64 r1.1) rfl rfl (vb (eSi64 r1.2.1) rfl rfl (vb (eSi64 r1.2.2) rfl rfl (vr (eSi64 r1.1) (vr (eSi64 r1.2.1) (vr (eSi64 r1.2.2) (nk ⟨[(7,eSi64 r1.1)],[]⟩ (sr ?_)))))))))
 refine vr (eSi64 r1.1) (vr (eSi64 r1.1) (nx _ rfl (a_ret ?_)))
 refine ⟨.inr rfl,?_⟩
 rw [Try.results65]
 cases h
 exact ⟨_,_,_,_,_,rfl,trivial,.inl ⟨rfl,.inl rfl⟩,rfl,rfl⟩
def impl_isOne_L:Live:=[(0,[0]),(1,[0])]
noncomputable def impl_isOne (a0:(List Int)):Option Bool :=
 (if ((a0.length:Int) == 1) then (ifp (0≤(0:Int)∧(0:Int) < ((a0.length:Nat):Int)) ((some ((((rd a0 (0:Int).toNat)) == 1))))) else (some false))
theorem impl_isOne_ok (a0:(List Int)) (r:Bool) (h:impl_isOne a0=some r):Den Try.prog 55 [(eSi64 a0)] { r:=(.bool r) }:=by
 refine dd (rs:=[(.bool r)]) (L:=impl_isOne_L) good [] Try.func55 Try.ntmps55 ?_
 refine ns ⟨[(0,eSi64 a0)],[]⟩ ?_
 refine sr (vr (.bool false) (nk ⟨[(0,eSi64 a0)],[]⟩ (sr (vr (eSi64 a0) (vq (i6 (a0.length:Int)) (len_run rfl rfl) trivial (vr (.bool (((a0.length:Int) == 1))) (vr (.bool (((a0.length:Int) == 1))) ?_)))))))
 cases hb1:((a0.length:Int) == 1)
 ·have h:=ite_f hb1 h
  refine a_gskip rfl (a_gskip rfl (a_gskip rfl (a_gskip rfl (vr (.bool false) (vr (.bool false) (nx _ rfl (a_ret ?_)))))))
  refine ⟨.inr rfl,?_⟩
  rw [Try.results55]
  cases h
  exact ⟨_,_,_,_,_,rfl,trivial,.inl ⟨rfl,.inl rfl⟩,rfl,rfl⟩
 ·have h:=ite_t hb1 h
  refine gp (eSi64 a0) rfl rfl ?_
  obtain ⟨hc2,h⟩:=ifp_some h
  refine gq (.ref (.row 1 (a0.map (AV.int .i64))) [(0:Int).toNat] [(0:Int).toNat*1]) rfl rfl (lmap hc2) ?_
  have hl3:LdOk [(0:Int).toNat] (.row 1 (a0.map (AV.int .i64))) [(0:Int).toNat*1] 1 false (i6 ((rd a0 (0:Int).toNat))):=(.row (llt hc2) rfl (.nil rfl rfl rfl))
  refine gq (i6 ((rd a0 (0:Int).toNat))) rfl (ld_ref (i:=⟨.int .i64,1,8,(.int .i64 0)⟩) rfl rfl hl3) hl3.c (gp (.bool ((((rd a0 (0:Int).toNat)) == 1))) rfl rfl (vr (.bool ((((rd a0 (0:Int).toNat)) == 1))) (vr (.bool ((((rd a0 (0:Int).toNat)) == 1))) (nx _ rfl (a_ret ?_)))))
  refine ⟨.inr rfl,?_⟩
  rw [Try.results55]
  cases h
  exact ⟨_,_,_,_,_,rfl,trivial,.inl ⟨rfl,.inl rfl⟩,rfl,rfl⟩
def impl_IsDiscriminant_L:Live:=[(0,[0,1]),(1,[0,3]),(2,[0,3,5]),(3,[]),(4,[0,3,5]),(5,[0,5,6]),(100032,[0,3,5,32])]
noncomputable def impl_IsDiscriminant (a0:Int) (a1:(Vec Int 64)):Option Bool :=
 (Option.bind (impl_rowOf a1) fun r2=>(Option.bind (α:=Bool) ((Option.bind (impl_IsPoly a0 a1) fun r22=>(if (!r22) then (some true) else (if (a0 == 2) then (some true) else (Option.bind (impl_row_degree r2) fun r26=>(if (r26 != 1) then (Option.bind (impl_row_degree r2) fun r29=>(if (r29 != 3) then (Option.bind (impl_row_degree r2) fun r32=>(some (r32 != 5))) else (some false))) else (some false))))))) fun x17=>(if x17 then (some false) else (Option.bind (impl_DerivativeOf a0 a1) fun r36=>(Option.bind (impl_rowOf r36.1) fun r40=>(Option.bind (impl_prime_gcd a0 r2 r40) fun r42=>(Option.bind (impl_isOne r42) fun r44=>(some r44))))))))
theorem impl_IsDiscriminant_ok (a0:Int) (a1:(Vec Int 64)) (r:Bool) (h:impl_IsDiscriminant a0 a1=some r):Den Try.prog 45 [(i6 a0),(eVb a1)] { r:=(.bool r) }:=by
 refine dd (rs:=[(.bool r)]) (L:=impl_IsDiscriminant_L) good [(5,1)] Try.func45 Try.ntmps45 ?_
 refine ns ⟨[(0,i6 a0),(1,eVb a1)],[]⟩ ?_
 refine sr (vo 1300 (eVb a1) rfl rfl (vr (.bool false) (nk ⟨[(0,i6 a0),(3,ow 3)],[(3,bk (eVb a1))]⟩ (sr (vl (eVb a1) rfl rfl rfl rfl rfl rfl ?_)))))
 obtain ⟨r2,hr3,h⟩:=bind_some h
 refine ca (impl_rowOf_ok a1 r2 hr3) (vr (eSi64 r2) (nk ⟨[(0,i6 a0),(3,ow 3),(5,eSi64 r2)],[(3,bk (eVb a1))]⟩ (a_seq ?_)))
 obtain ⟨y18,hy19,hk20⟩:=bind_some h
 clear h
 refine a_join (emb:=fun (s:Bool)=>⟨[(0,i6 a0),(3,ow 3),(5,eSi64 r2),(32,.bool s)],[(3,bk (eVb a1))]⟩) (pre:=fun s=>s=y18) ?_ ?_
 ·rintro x17 rfl
  have h:=hk20
  refine ns ⟨[(0,i6 a0),(3,ow 3),(5,eSi64 r2),(32,.bool x17)],[(3,bk (eVb a1))]⟩ ?_
  cases hb34:x17
  ·have h:=ite_f hb34 h
   refine a_cond_f rfl (a_skip (nj ⟨[(0,i6 a0),(3,ow 3),(5,eSi64 r2)],[(3,bk (eVb a1))]⟩ (sr (vr (i6 a0) (vl (eVb a1) rfl rfl rfl rfl rfl rfl ?_)))))
   obtain ⟨r36,hr37,h⟩:=bind_some h
   refine ca (impl_DerivativeOf_ok a0 a1 r36 hr37) (vr (.tuple [(eVb r36.1),(i6 r36.2)]) (vb (eVb r36.1) rfl rfl (vb (i6 r36.2) rfl rfl (vo 1600 (eV0) rfl rfl (vs (eVb r36.1) rfl rfl (fun _=>rfl) rfl rfl rfl rfl rfl rfl (vr (i6 r36.2) (nk ⟨[(0,i6 a0),(5,eSi64 r2),(6,ow 6)],[(6,bk (eVb r36.1))]⟩ (sr (vr (i6 a0) ?_)))))))))
   refine vr (eSi64 r2) (vl (eVb r36.1) rfl rfl rfl rfl rfl rfl ?_)
   obtain ⟨r40,hr41,h⟩:=bind_some h
   refine ca (impl_rowOf_ok r36.1 r40 hr41) ?_
   obtain ⟨r42,hr43,h⟩:=bind_some h
   refine ca (impl_prime_gcd_ok a0 r2 r40 r42 hr43) ?_
   obtain ⟨r44,hr45,h⟩:=bind_some h
   refine ca (impl_isOne_ok r42 r44 hr45) (vr (.bool r44) (nx _ rfl (a_ret ?_)))
   refine ⟨.inr rfl,?_⟩
   rw [Try.results45]
   cases h
   exact ⟨_,_,_,_,_,rfl,trivial,.inl ⟨rfl,.inl rfl⟩,rfl,rfl⟩
  ·have h:=ite_t hb34 h
   refine a_cond_t rfl (sr (vr (.bool false) (nx _ rfl (a_ret (t_ret ?_)))))
   refine ⟨.inr rfl,?_⟩
   rw [Try.results45]
   cases h
   exact ⟨_,_,_,_,_,rfl,trivial,.inl ⟨rfl,.inl rfl⟩,rfl,rfl⟩
 ·have h:=hy19
  refine a_region (vr (i6 a0) (vl (eVb a1) rfl rfl rfl rfl rfl rfl ?_))
  obtain ⟨r22,hr23,h⟩:=bind_some h
  refine ca (impl_IsPoly_ok a0 a1 r22 hr23) (vr (.bool (!r22)) (vr (.bool (!r22)) ?_))
  cases hb24:(!r22)
  ·have h:=ite_f hb24 h
   refine gp (i6 a0) rfl rfl (gp (.bool (a0 == 2)) rfl rfl (vr (.bool (a0 == 2)) (vr (.bool (a0 == 2)) ?_)))
   cases hb25:(a0 == 2)
   ·have h:=ite_f hb25 h
    refine gp (eSi64 r2) rfl rfl ?_
    obtain ⟨r26,hr27,h⟩:=bind_some h
    refine a_gcall rfl (args:=[(eSi64 r2)]) (u:=[]) (r:=(i6 r26)) rfl rfl (impl_row_degree_ok r2 r26 hr27) rfl (gp (.bool (r26 != 1)) rfl rfl (gp (.bool (r26 != 1)) rfl rfl ?_))
    cases hb28:(r26 != 1)
    ·have h:=ite_f hb28 h
     refine a_gskip rfl (a_gskip rfl (a_gskip rfl (gp (.bool false) rfl rfl (gp (.bool false) rfl rfl (a_gskip rfl (a_gskip rfl (a_gskip rfl (gp (.bool false) rfl rfl (vr (.bool false) ?_)))))))))
     refine a_nil ?_
     exact jl false h
    ·have h:=ite_t hb28 h
     refine gp (eSi64 r2) rfl rfl ?_
     obtain ⟨r29,hr30,h⟩:=bind_some h
     refine a_gcall rfl (args:=[(eSi64 r2)]) (u:=[]) (r:=(i6 r29)) rfl rfl (impl_row_degree_ok r2 r29 hr30) rfl (gp (.bool (r29 != 3)) rfl rfl (gp (.bool (r29 != 3)) rfl rfl (gp (.bool (r29 != 3)) rfl rfl ?_)))
     cases hb31:(r29 != 3)
     ·have h:=ite_f hb31 h
      refine a_gskip rfl (a_gskip rfl (a_gskip rfl (gp (.bool false) rfl rfl (vr (.bool false) (a_nil ?_)))))
      exact jl false h
     ·have h:=ite_t hb31 h
      refine gp (eSi64 r2) rfl rfl ?_
      obtain ⟨r32,hr33,h⟩:=bind_some h
      refine a_gcall rfl (args:=[(eSi64 r2)]) (u:=[]) (r:=(i6 r32)) rfl rfl (impl_row_degree_ok r2 r32 hr33) rfl (gp (.bool (r32 != 5)) rfl rfl (gp (.bool (r32 != 5)) rfl rfl (vr (.bool (r32 != 5)) (a_nil ?_))))
      exact jl (r32 != 5) h
   ·have h:=ite_t hb25 h
    refine a_gskip rfl (a_gskip rfl (a_gskip rfl (a_gskip rfl (a_gskip0 rfl (a_gskip0 rfl (a_gskip0 rfl (a_gskip rfl (a_gskip rfl (a_gskip0 rfl ?_)))))))))
    refine a_gskip0 rfl (a_gskip0 rfl (a_gskip rfl (vr (.bool true) (a_nil ?_))))
    exact jl true h
  ·have h:=ite_t hb24 h
   refine a_gskip rfl (a_gskip rfl (vr (.bool true) (vr (.bool true) (a_gskip rfl (a_gskip rfl (a_gskip rfl (a_gskip rfl (a_gskip0 rfl (a_gskip0 rfl ?_)))))))))
   refine a_gskip0 rfl (a_gskip rfl (a_gskip rfl (a_gskip0 rfl (a_gskip0 rfl (a_gskip0 rfl (a_gskip rfl (vr (.bool true) (a_nil ?_))))))))
   exact jl true h
def impl_curveOf_L:Live:=[(0,[0,1]),(1,[0,3,4])]
noncomputable def impl_curveOf (a0:Int) (a1:(Vec Int 64)):Option (Int×(List Int)) :=
 (Option.bind (impl_rowOf a1) fun r2=>(some (a0,r2)))
theorem impl_curveOf_ok (a0:Int) (a1:(Vec Int 64)) (r:(Int×(List Int))) (h:impl_curveOf a0 a1=some r):Den Try.prog 21 [(i6 a0),(eVb a1)] { r:=(eT_i64_Si64_Z r) }:=by
 refine dd (rs:=[(eT_i64_Si64_Z r)]) (L:=impl_curveOf_L) good [] Try.func21 Try.ntmps21 ?_
 refine ns ⟨[(0,i6 a0),(1,eVb a1)],[]⟩ ?_
 refine sr (vo 1300 (eVb a1) rfl rfl (vo 1400 (eT_i64_Si64_Z (((0:Int),[]))) rfl rfl (nk ⟨[(0,i6 a0),(3,ow 3),(4,ow 4)],[(3,bk (eVb a1)),(4,bk (eT_i64_Si64_Z (((0:Int),[]))))]⟩ (sr (vr (i6 a0) (vl (eVb a1) rfl rfl rfl rfl rfl rfl ?_))))))
 obtain ⟨r2,hr3,h⟩:=bind_some h
 refine ca (impl_rowOf_ok a1 r2 hr3) (vq (eT_i64_Si64_Z (a0,r2)) rfl ⟨rfl,(all_cons ⟨(Nat.le_of_ble_eq_true rfl),rfl⟩ (all_cons ⟨(Nat.le_of_ble_eq_true rfl),rfl⟩ all_nil))⟩ (vs (eT_i64_Si64_Z (a0,r2)) rfl rfl (fun _=>rfl) rfl rfl rfl rfl rfl rfl (nx _ rfl (a_ret ?_))))
 have hl5:LdOk [] (eT_i64_Si64_Z (a0,r2)) [] 2 true (eT_i64_Si64_Z (a0,r2)):=(.nil rfl rfl rfl)
 refine ⟨.inr rfl,?_⟩
 rw [Try.results21]
 cases h
 exact ⟨_,_,_,_,_,ld_own (i:=⟨.struct [(0,41),(1,42)],2,32,(eT_i64_Si64_Z ((0:Int),[]))⟩) rfl rfl rfl hl5,hl5.c,.inl ⟨rfl,.inl rfl⟩,rfl,rfl⟩
def impl_formOf_L:Live:=[(0,[0]),(1,[1,2])]
noncomputable def impl_formOf (a0:((Vec Int 64)×(Vec Int 64))):Option ((List Int)×(List Int)) :=
 (Option.bind (impl_rowOf a0.1) fun r9=>(Option.bind (impl_rowOf a0.2) fun r12=>(some (r9,r12))))
theorem impl_formOf_ok (a0:((Vec Int 64)×(Vec Int 64))) (r:((List Int)×(List Int))) (h:impl_formOf a0=some r):Den Try.prog 51 [(eT_A64u8_A64u8_Z a0)] { r:=(eT_Si64_Si64_Z r) }:=by
 refine dd (rs:=[(eT_Si64_Si64_Z r)]) (L:=impl_formOf_L) good [] Try.func51 Try.ntmps51 ?_
 refine ns ⟨[(0,eT_A64u8_A64u8_Z a0)],[]⟩ ?_
 refine sr (vo 1100 (eT_A64u8_A64u8_Z a0) rfl rfl (vo 1200 (eT_Si64_Si64_Z ([],[])) rfl rfl (nk ⟨[(1,ow 1),(2,ow 2)],[(1,bk (eT_A64u8_A64u8_Z a0)),(2,bk (eT_Si64_Si64_Z ([],[])))]⟩ (a_seq (a_draw [⟨[1],[],[1],[]⟩,⟨[1],[],[],[0]⟩,⟨[],[],[],[0,1]⟩,⟨[1],[],[1],[]⟩,⟨[1],[],[],[3]⟩,⟨[],[],[],[0,1,2,3,4]⟩,⟨[],[],[],[0,1,2,3,4,5]⟩,⟨[2],[2],[],[0,1,2,3,4,5,6]⟩] (by kernel_rfl) (d_cons (vb (.own 1 [0] [0]) rfl rfl (dn (d_cons ?_)))))))))
 have hl8:LdOk [0] (eT_A64u8_A64u8_Z a0) [0] 64 true (eVb a0.1):=(.fld rfl rfl rfl rfl (.nil rfl rfl rfl))
 refine vq (eVb a0.1) (ld_own (i:=⟨.arr 64 5,64,64,(eVb (vrep 64 (0:Int)))⟩) rfl rfl rfl hl8) hl8.c (dn (d_cons ?_))
 obtain ⟨r9,hr10,h⟩:=bind_some h
 refine ca (impl_rowOf_ok a0.1 r9 hr10) (dn (d_cons (vb (.own 1 [1] [64]) rfl rfl (dn (d_cons ?_)))))
 have hl11:LdOk [1] (eT_A64u8_A64u8_Z a0) [64] 64 true (eVb a0.2):=(.fld rfl rfl rfl rfl (.nil rfl rfl rfl))
 refine vq (eVb a0.2) (ld_own (i:=⟨.arr 64 5,64,64,(eVb (vrep 64 (0:Int)))⟩) rfl rfl rfl hl11) hl11.c (dn (d_cons ?_))
 obtain ⟨r12,hr13,h⟩:=bind_some h
 refine ca (impl_rowOf_ok a0.2 r12 hr13) (dn (d_cons (vq (eT_Si64_Si64_Z (r9,r12)) rfl ⟨rfl,(all_cons ⟨(Nat.le_of_ble_eq_true rfl),rfl⟩ (all_cons ⟨(Nat.le_of_ble_eq_true rfl),rfl⟩ all_nil))⟩ (dn (d_cons (vs (eT_Si64_Si64_Z (r9,r12)) rfl rfl (fun _=>rfl) rfl rfl rfl rfl rfl rfl (dn (d_nil (a_next rfl ?_)))))))))
 refine a_ret ?_
 have hl15:LdOk [] (eT_Si64_Si64_Z (r9,r12)) [] 2 true (eT_Si64_Si64_Z (r9,r12)):=(.nil rfl rfl rfl)
 refine ⟨.inr rfl,?_⟩
 rw [Try.results51]
 cases h
 exact ⟨_,_,_,_,_,ld_own (i:=⟨.struct [(0,42),(1,42)],2,48,(eT_Si64_Si64_Z ([],[]))⟩) rfl rfl rfl hl15,hl15.c,.inl ⟨rfl,.inl rfl⟩,rfl,rfl⟩
def impl_prime_rest_L:Live:=[(0,[0,1,2]),(1,[0,1,2]),(2,[8])]
noncomputable def impl_prime_rest (a0:Int) (a1:(List Int)) (a2:(List Int)):Option (List Int) :=
 (Option.bind (impl_prime_divide a0 a1 a2) fun r1=>(some r1.2))
theorem impl_prime_rest_ok (a0:Int) (a1:(List Int)) (a2:(List Int)) (r:(List Int)) (h:impl_prime_rest a0 a1 a2=some r):Den Try.prog 66 [(i6 a0),(eSi64 a1),(eSi64 a2)] { r:=(eSi64 r) }:=by
 refine dd (rs:=[(eSi64 r)]) (L:=impl_prime_rest_L) good [(6,1),(7,1),(8,1)] Try.func66 Try.ntmps66 ?_
 refine ns ⟨[(0,i6 a0),(1,eSi64 a1),(2,eSi64 a2)],[]⟩ ?_
 refine sr (vr (eSi64 ([])) (nk ⟨[(0,i6 a0),(1,eSi64 a1),(2,eSi64 a2)],[]⟩ (sr (vr (i6 a0) (vr (eSi64 a1) (vr (eSi64 a2) ?_))))))
 obtain ⟨r1,hr2,h⟩:=bind_some h
 refine ca (impl_prime_divide_ok a0 a1 a2 r1 hr2) (vr (.tuple [(eSi64 r1.1),(eSi64 r1.2)]) (vb (eSi64 r1.1) rfl rfl (vb (eSi64 r1.2) rfl rfl (vr (eSi64 r1.1) (vr (eSi64 r1.2) (nk ⟨[(8,eSi64 r1.2)],[]⟩ (sr (vr (eSi64 r1.2) (vr (eSi64 r1.2) ?_)))))))))
 refine nx _ rfl (a_ret ?_)
 refine ⟨.inr rfl,?_⟩
 rw [Try.results66]
 cases h
 exact ⟨_,_,_,_,_,rfl,trivial,.inl ⟨rfl,.inl rfl⟩,rfl,rfl⟩
def impl_curve_isForm_L:Live:=[(0,[0,1]),(1,[2,3])]
noncomputable def impl_curve_isForm (a0:(Int×(List Int))) (a1:((List Int)×(List Int))):Option Bool :=
 (Option.bind (impl_row_lead a1.1) fun r51=>(if (r51 == 1) then (Option.bind (impl_row_degree a1.1) fun r60=>(if (decide (r60≤12)) then (Option.bind (impl_row_degree a1.2) fun r69=>(Option.bind (impl_row_degree a1.1) fun r72=>(if (decide (r69 < r72)) then (Option.bind (impl_prime_times a0.1 a1.2 a1.2) fun r85=>(Option.bind (impl_prime_combine a0.1 r85 a0.2 (-1)) fun r88=>(Option.bind (impl_prime_rest a0.1 r88 a1.1) fun r91=>(if ((r91.length:Int) == 0) then (some true) else (Option.bind (impl_isOne a1.1) fun r95=>(if r95 then (some (((a1.2.length:Int) == 0))) else (some false))))))) else (Option.bind (impl_isOne a1.1) fun r76=>(if r76 then (some (((a1.2.length:Int) == 0))) else (some false)))))) else (Option.bind (impl_isOne a1.1) fun r64=>(if r64 then (some (((a1.2.length:Int) == 0))) else (some false))))) else (Option.bind (impl_isOne a1.1) fun r55=>(if r55 then (some (((a1.2.length:Int) == 0))) else (some false)))))
theorem impl_curve_isForm_ok (a0:(Int×(List Int))) (a1:((List Int)×(List Int))) (r:Bool) (h:impl_curve_isForm a0 a1=some r):Den Try.prog 54 [(eT_i64_Si64_Z a0),(eT_Si64_Si64_Z a1)] { r:=(.bool r) }:=by
 refine dd (rs:=[(.bool r)]) (L:=impl_curve_isForm_L) good [] Try.func54 Try.ntmps54 ?_
 refine ns ⟨[(0,eT_i64_Si64_Z a0),(1,eT_Si64_Si64_Z a1)],[]⟩ ?_
 refine sr (vo 1200 (eT_i64_Si64_Z a0) rfl rfl (vo 1300 (eT_Si64_Si64_Z a1) rfl rfl (vr (.bool false) (nk ⟨[(2,ow 2),(3,ow 3)],[(2,bk (eT_i64_Si64_Z a0)),(3,bk (eT_Si64_Si64_Z a1))]⟩ (a_seq (a_draw [⟨[3],[],[3],[]⟩,⟨[3],[],[],[0]⟩,⟨[],[],[],[0,1]⟩,⟨[],[],[],[0,1,2]⟩,⟨[],[],[],[0,1,2,3]⟩,⟨[3],[],[3],[0,1,2,3,4]⟩,⟨[3],[],[],[0,1,2,3,4,5]⟩,⟨[],[],[],[0,1,2,3,4,5,6]⟩,⟨[],[],[],[0,1,2,3,4,5,6,7]⟩,⟨[],[],[],[0,1,2,3,4,5,6,7,8]⟩,⟨[],[],[],[0,1,2,3,4,5,6,7,8,9]⟩,⟨[3],[],[3],[0,1,2,3,4,5,6,7,8,9,10]⟩,⟨[3],[],[],[0,1,2,3,4,5,6,7,8,9,10,11]⟩,⟨[],[],[],[0,1,2,3,4,5,6,7,8,9,10,11,12]⟩,⟨[3],[],[3],[0,1,2,3,4,5,6,7,8,9,10]⟩,⟨[3],[],[],[0,1,2,3,4,5,6,7,8,9,10,14]⟩,⟨[],[],[],[0,1,2,3,4,5,6,7,8,9,10,11,12,13,14,15]⟩,⟨[],[],[],[0,1,2,3,4,5,6,7,8,9,10,11,12,13,14,15,16]⟩,⟨[],[],[],[0,1,2,3,4,5,6,7,8,9,10,11,12,13,14,15,16,17]⟩,⟨[],[],[],[0,1,2,3,4,5,6,7,8,9,10,11,12,13,14,15,16,17,18]⟩,⟨[2],[],[2],[0,1,2,3,4,5,6,7,8,9,10,11,12,13,14,15,16,17,18,19]⟩,⟨[2],[],[],[0,1,2,3,4,5,6,7,8,9,10,11,12,13,14,15,16,17,18,19,20]⟩,⟨[2],[],[2],[0,1,2,3,4,5,6,7,8,9,10,11,12,13,14,15,16,17,18,19]⟩,⟨[2],[],[],[0,1,2,3,4,5,6,7,8,9,10,11,12,13,14,15,16,17,18,19,22]⟩,⟨[2],[],[2],[0,1,2,3,4,5,6,7,8,9,10,11,12,13,14,15,16,17,18,19]⟩,⟨[2],[],[],[0,1,2,3,4,5,6,7,8,9,10,11,12,13,14,15,16,17,18,19,24]⟩,⟨[3],[],[3],[0,1,2,3,4,5,6,7,8,9,10,11,12,13,14,15,16,17,18,19]⟩,⟨[3],[],[],[0,1,2,3,4,5,6,7,8,9,10,11,12,13,14,15,16,17,18,19,26]⟩,⟨[3],[],[3],[0,1,2,3,4,5,6,7,8,9,10,11,12,13,14,15,16,17,18,19]⟩,⟨[3],[],[],[0,1,2,3,4,5,6,7,8,9,10,11,12,13,14,15,16,17,18,19,28]⟩,⟨[],[],[],[0,1,2,3,4,5,6,7,8,9,10,11,12,13,14,15,16,17,18,19,24,25,26,27,28,29]⟩,⟨[2],[],[2],[0,1,2,3,4,5,6,7,8,9,10,11,12,13,14,15,16,17,18,19]⟩,⟨[2],[],[],[0,1,2,3,4,5,6,7,8,9,10,11,12,13,14,15,16,17,18,19,31]⟩,⟨[],[],[],[0,1,2,3,4,5,6,7,8,9,10,11,12,13,14,15,16,17,18,19,22,23,24,25,26,27,28,29,30,31,32]⟩,⟨[3],[],[3],[0,1,2,3,4,5,6,7,8,9,10,11,12,13,14,15,16,17,18,19]⟩,⟨[3],[],[],[0,1,2,3,4,5,6,7,8,9,10,11,12,13,14,15,16,17,18,19,34]⟩,⟨[],[],[],[0,1,2,3,4,5,6,7,8,9,10,11,12,13,14,15,16,17,18,19,20,21,22,23,24,25,26,27,28,29,30,31,32,33,34,35]⟩,⟨[],[],[],[0,1,2,3,4,5,6,7,8,9,10,11,12,13,14,15,16,17,18,19,20,21,22,23,24,25,26,27,28,29,30,31,32,33,34,35,36]⟩,⟨[],[],[],[0,1,2,3,4,5,6,7,8,9,10,11,12,13,14,15,16,17,18,19,20,21,22,23,24,25,26,27,28,29,30,31,32,33,34,35,36,37]⟩,⟨[],[],[],[0,1,2,3,4,5,6,7,8,9,10,11,12,13,14,15,16,17,18,19,20,21,22,23,24,25,26,27,28,29,30,31,32,33,34,35,36,37,38]⟩,⟨[],[],[],[0,1,2,3,4,5,6,7,8,9,10,11,12,13,14,15,16,17,18,19,20,21,22,23,24,25,26,27,28,29,30,31,32,33,34,35,36,37,38,39]⟩,⟨[3],[],[3],[0,1,2,3,4,5,6,7,8,9,10,11,12,13,14,15,16,17,18,19,20,21,22,23,24,25,26,27,28,29,30,31,32,33,34,35,36,37,38,39,40]⟩,⟨[3],[],[],[0,1,2,3,4,5,6,7,8,9,10,11,12,13,14,15,16,17,18,19,20,21,22,23,24,25,26,27,28,29,30,31,32,33,34,35,36,37,38,39,40,41]⟩,⟨[],[],[],[0,1,2,3,4,5,6,7,8,9,10,11,12,13,14,15,16,17,18,19,20,21,22,23,24,25,26,27,28,29,30,31,32,33,34,35,36,37,38,39,40,41,42]⟩,⟨[],[],[],[0,1,2,3,4,5,6,7,8,9,10,11,12,13,14,15,16,17,18,19,20,21,22,23,24,25,26,27,28,29,30,31,32,33,34,35,36,37,38,39,40,41,42,43]⟩,⟨[3],[],[3],[0,1,2,3,4,5,6,7,8,9,10,11,12,13,14,15,16,17,18,19,20,21,22,23,24,25,26,27,28,29,30,31,32,33,34,35,36,37,38,39,40,41,42,43,44]⟩,⟨[3],[],[],[0,1,2,3,4,5,6,7,8,9,10,11,12,13,14,15,16,17,18,19,20,21,22,23,24,25,26,27,28,29,30,31,32,33,34,35,36,37,38,39,40,41,42,43,44,45]⟩,⟨[],[],[],[0,1,2,3,4,5,6,7,8,9,10,11,12,13,14,15,16,17,18,19,20,21,22,23,24,25,26,27,28,29,30,31,32,33,34,35,36,37,38,39,40,41,42,43,44,45,46]⟩,⟨[],[],[],[0,1,2,3,4,5,6,7,8,9,10,11,12,13,14,15,16,17,18,19,20,21,22,23,24,25,26,27,28,29,30,31,32,33,34,35,36,37,38,39,40,41,42,43,44,45,46,47]⟩,⟨[],[],[],[0,1,2,3,4,5,6,7,8,9,10,11,12,13,14,15,16,17,18,19,20,21,22,23,24,25,26,27,28,29,30,31,32,33,34,35,36,37,38,39,40,41,42,43,44,45,46,47,48]⟩,⟨[],[],[],[0,1,2,3,4,5,6,7,8,9,10,11,12,13,14,15,16,17,18,19,20,21,22,23,24,25,26,27,28,29,30,31,32,33,34,35,36,37,38,39,40,41,42,43,44,45,46,47,48,49]⟩,⟨[],[],[],[0,1,2,3,4,5,6,7,8,9,10,11,12,13,14,15,16,17,18,19,20,21,22,23,24,25,26,27,28,29,30,31,32,33,34,35,36,37,38,39,40,41,42,43,44,45,46,47,48,49,50]⟩] (by kernel_rfl) (d_cons (vb (.own 3 [0] [0]) rfl rfl (dn ?_)))))))))
 refine d_cons ?_
 have hl50:LdOk [0] (eT_Si64_Si64_Z a1) [0] 1 false (eSi64 a1.1):=(.fld rfl rfl rfl rfl (.nil rfl rfl rfl))
 refine vq (eSi64 a1.1) (ld_own (i:=⟨.slice 2,1,24,(eSi64 [])⟩) rfl rfl rfl hl50) hl50.c (dn (d_cons ?_))
 obtain ⟨r51,hr52,h⟩:=bind_some h
 refine ca (impl_row_lead_ok a1.1 r51 hr52) (dn (dj (.bool (r51 == 1)) rfl (dj (.bool (r51 == 1)) rfl ?_)))
 cases hb53:(r51 == 1)
 ·have h:=ite_f hb53 h
  refine dk rfl (by kernel_rfl) (dk rfl (by kernel_rfl) (dk rfl (by kernel_rfl) (dk rfl (by kernel_rfl) (dj (.bool false) rfl (dj (.bool false) rfl (dk rfl (by kernel_rfl) (dk rfl (by kernel_rfl) (dk rfl (by kernel_rfl) (dk rfl (by kernel_rfl) ?_)))))))))
  refine dk rfl (by kernel_rfl) (dk rfl (by kernel_rfl) (dk rfl (by kernel_rfl) (dj (.bool false) rfl (dj (.bool false) rfl (dk rfl (by kernel_rfl) (dk rfl (by kernel_rfl) (dk rfl (by kernel_rfl) (dk rfl (by kernel_rfl) (dk rfl (by kernel_rfl) ?_)))))))))
  refine dk rfl (by kernel_rfl) (dk rfl (by kernel_rfl) (dk rfl (by kernel_rfl) (dk rfl (by kernel_rfl) (dk rfl (by kernel_rfl) (dk rfl (by kernel_rfl) (dk rfl (by kernel_rfl) (dk rfl (by kernel_rfl) (dk rfl (by kernel_rfl) (dk rfl (by kernel_rfl) ?_)))))))))
  refine dk rfl (by kernel_rfl) (dk rfl (by kernel_rfl) (dk rfl (by kernel_rfl) (dk rfl (by kernel_rfl) (dj (.bool false) rfl (dj (.bool false) rfl (d_cons (gq (.own 3 [0] [0]) rfl rfl (Nat.le_of_ble_eq_true rfl) (dn (d_cons ?_)))))))))
  have hl54:LdOk [0] (eT_Si64_Si64_Z a1) [0] 1 false (eSi64 a1.1):=(.fld rfl rfl rfl rfl (.nil rfl rfl rfl))
  refine gq (eSi64 a1.1) rfl (ld_own (i:=⟨.slice 2,1,24,(eSi64 [])⟩) rfl rfl rfl hl54) hl54.c (dn (d_cons ?_))
  obtain ⟨r55,hr56,h⟩:=bind_some h
  refine a_gcall rfl (args:=[(eSi64 a1.1)]) (u:=[]) (r:=(.bool r55)) rfl rfl (impl_isOne_ok a1.1 r55 hr56) rfl (dn (dg (.bool r55) rfl rfl (by kernel_rfl) ?_))
  cases hb57:r55
  ·have h:=ite_f hb57 h
   refine dk rfl (by kernel_rfl) (dk rfl (by kernel_rfl) (dk rfl (by kernel_rfl) (dk rfl (by kernel_rfl) (dg (.bool false) rfl rfl (by kernel_rfl) (dj (.bool false) rfl (dj (.bool false) rfl (d_nil (a_next rfl (a_ret ?_)))))))))
   refine ⟨.inr rfl,?_⟩
   rw [Try.results54]
   cases h
   exact ⟨_,_,_,_,_,rfl,trivial,.inl ⟨rfl,.inl rfl⟩,rfl,rfl⟩
  ·have h:=ite_t hb57 h
   refine d_cons (gq (.own 3 [1] [1]) rfl rfl (Nat.le_of_ble_eq_true rfl) (dn (d_cons ?_)))
   have hl58:LdOk [1] (eT_Si64_Si64_Z a1) [1] 1 false (eSi64 a1.2):=(.fld rfl rfl rfl rfl (.nil rfl rfl rfl))
   refine gq (eSi64 a1.2) rfl (ld_own (i:=⟨.slice 2,1,24,(eSi64 [])⟩) rfl rfl rfl hl58) hl58.c (dn (d_cons (gq (i6 (a1.2.length:Int)) rfl (len_run rfl rfl) trivial (dn (dg (.bool (((a1.2.length:Int) == 0))) rfl rfl (by kernel_rfl) (dg (.bool (((a1.2.length:Int) == 0))) rfl rfl (by kernel_rfl) (dj (.bool (((a1.2.length:Int) == 0))) rfl (dj (.bool (((a1.2.length:Int) == 0))) rfl (d_nil ?_)))))))))
   refine a_next rfl (a_ret ?_)
   refine ⟨.inr rfl,?_⟩
   rw [Try.results54]
   cases h
   exact ⟨_,_,_,_,_,rfl,trivial,.inl ⟨rfl,.inl rfl⟩,rfl,rfl⟩
 ·have h:=ite_t hb53 h
  refine d_cons (gq (.own 3 [0] [0]) rfl rfl (Nat.le_of_ble_eq_true rfl) (dn (d_cons ?_)))
  have hl59:LdOk [0] (eT_Si64_Si64_Z a1) [0] 1 false (eSi64 a1.1):=(.fld rfl rfl rfl rfl (.nil rfl rfl rfl))
  refine gq (eSi64 a1.1) rfl (ld_own (i:=⟨.slice 2,1,24,(eSi64 [])⟩) rfl rfl rfl hl59) hl59.c (dn (d_cons ?_))
  obtain ⟨r60,hr61,h⟩:=bind_some h
  refine a_gcall rfl (args:=[(eSi64 a1.1)]) (u:=[]) (r:=(i6 r60)) rfl rfl (impl_row_degree_ok a1.1 r60 hr61) rfl (dn (dg (.bool ((decide (r60≤12)))) rfl rfl (by kernel_rfl) (dj (.bool ((decide (r60≤12)))) rfl (dj (.bool ((decide (r60≤12)))) rfl ?_))))
  cases hb62:(decide (r60≤12))
  ·have h:=ite_f hb62 h
   refine dk rfl (by kernel_rfl) (dk rfl (by kernel_rfl) (dk rfl (by kernel_rfl) (dk rfl (by kernel_rfl) (dk rfl (by kernel_rfl) (dk rfl (by kernel_rfl) (dk rfl (by kernel_rfl) (dj (.bool false) rfl (dj (.bool false) rfl (dk rfl (by kernel_rfl) ?_)))))))))
   refine dk rfl (by kernel_rfl) (dk rfl (by kernel_rfl) (dk rfl (by kernel_rfl) (dk rfl (by kernel_rfl) (dk rfl (by kernel_rfl) (dk rfl (by kernel_rfl) (dk rfl (by kernel_rfl) (dk rfl (by kernel_rfl) (dk rfl (by kernel_rfl) (dk rfl (by kernel_rfl) ?_)))))))))
   refine dk rfl (by kernel_rfl) (dk rfl (by kernel_rfl) (dk rfl (by kernel_rfl) (dk rfl (by kernel_rfl) (dk rfl (by kernel_rfl) (dk rfl (by kernel_rfl) (dk rfl (by kernel_rfl) (dk rfl (by kernel_rfl) (dj (.bool false) rfl (dj (.bool false) rfl ?_)))))))))
   refine d_cons (gq (.own 3 [0] [0]) rfl rfl (Nat.le_of_ble_eq_true rfl) (dn (d_cons ?_)))
   have hl63:LdOk [0] (eT_Si64_Si64_Z a1) [0] 1 false (eSi64 a1.1):=(.fld rfl rfl rfl rfl (.nil rfl rfl rfl))
   refine gq (eSi64 a1.1) rfl (ld_own (i:=⟨.slice 2,1,24,(eSi64 [])⟩) rfl rfl rfl hl63) hl63.c (dn (d_cons ?_))
   obtain ⟨r64,hr65,h⟩:=bind_some h
   refine a_gcall rfl (args:=[(eSi64 a1.1)]) (u:=[]) (r:=(.bool r64)) rfl rfl (impl_isOne_ok a1.1 r64 hr65) rfl (dn (dg (.bool r64) rfl rfl (by kernel_rfl) ?_))
   cases hb66:r64
   ·have h:=ite_f hb66 h
    refine dk rfl (by kernel_rfl) (dk rfl (by kernel_rfl) (dk rfl (by kernel_rfl) (dk rfl (by kernel_rfl) (dg (.bool false) rfl rfl (by kernel_rfl) (dj (.bool false) rfl (dj (.bool false) rfl (d_nil (a_next rfl (a_ret ?_)))))))))
    refine ⟨.inr rfl,?_⟩
    rw [Try.results54]
    cases h
    exact ⟨_,_,_,_,_,rfl,trivial,.inl ⟨rfl,.inl rfl⟩,rfl,rfl⟩
   ·have h:=ite_t hb66 h
    refine d_cons (gq (.own 3 [1] [1]) rfl rfl (Nat.le_of_ble_eq_true rfl) (dn (d_cons ?_)))
    have hl67:LdOk [1] (eT_Si64_Si64_Z a1) [1] 1 false (eSi64 a1.2):=(.fld rfl rfl rfl rfl (.nil rfl rfl rfl))
    refine gq (eSi64 a1.2) rfl (ld_own (i:=⟨.slice 2,1,24,(eSi64 [])⟩) rfl rfl rfl hl67) hl67.c (dn (d_cons (gq (i6 (a1.2.length:Int)) rfl (len_run rfl rfl) trivial (dn (dg (.bool (((a1.2.length:Int) == 0))) rfl rfl (by kernel_rfl) (dg (.bool (((a1.2.length:Int) == 0))) rfl rfl (by kernel_rfl) (dj (.bool (((a1.2.length:Int) == 0))) rfl (dj (.bool (((a1.2.length:Int) == 0))) rfl (d_nil ?_)))))))))
    refine a_next rfl (a_ret ?_)
    refine ⟨.inr rfl,?_⟩
    rw [Try.results54]
    cases h
    exact ⟨_,_,_,_,_,rfl,trivial,.inl ⟨rfl,.inl rfl⟩,rfl,rfl⟩
  ·have h:=ite_t hb62 h
   refine d_cons (gq (.own 3 [1] [1]) rfl rfl (Nat.le_of_ble_eq_true rfl) (dn (d_cons ?_)))
   have hl68:LdOk [1] (eT_Si64_Si64_Z a1) [1] 1 false (eSi64 a1.2):=(.fld rfl rfl rfl rfl (.nil rfl rfl rfl))
   refine gq (eSi64 a1.2) rfl (ld_own (i:=⟨.slice 2,1,24,(eSi64 [])⟩) rfl rfl rfl hl68) hl68.c (dn (d_cons ?_))
   obtain ⟨r69,hr70,h⟩:=bind_some h
   refine a_gcall rfl (args:=[(eSi64 a1.2)]) (u:=[]) (r:=(i6 r69)) rfl rfl (impl_row_degree_ok a1.2 r69 hr70) rfl (dn (d_cons (gq (.own 3 [0] [0]) rfl rfl (Nat.le_of_ble_eq_true rfl) (dn (d_cons ?_)))))
   have hl71:LdOk [0] (eT_Si64_Si64_Z a1) [0] 1 false (eSi64 a1.1):=(.fld rfl rfl rfl rfl (.nil rfl rfl rfl))
   refine gq (eSi64 a1.1) rfl (ld_own (i:=⟨.slice 2,1,24,(eSi64 [])⟩) rfl rfl rfl hl71) hl71.c (dn (d_cons ?_))
   obtain ⟨r72,hr73,h⟩:=bind_some h
   refine a_gcall rfl (args:=[(eSi64 a1.1)]) (u:=[]) (r:=(i6 r72)) rfl rfl (impl_row_degree_ok a1.1 r72 hr73) rfl (dn (dg (.bool ((decide (r69 < r72)))) rfl rfl (by kernel_rfl) (dj (.bool ((decide (r69 < r72)))) rfl (dj (.bool ((decide (r69 < r72)))) rfl ?_))))
   cases hb74:(decide (r69 < r72))
   ·have h:=ite_f hb74 h
    refine dk rfl (by kernel_rfl) (dk rfl (by kernel_rfl) (dk rfl (by kernel_rfl) (dk rfl (by kernel_rfl) (dk rfl (by kernel_rfl) (dk rfl (by kernel_rfl) (dk rfl (by kernel_rfl) (dk rfl (by kernel_rfl) (dk rfl (by kernel_rfl) (dk rfl (by kernel_rfl) ?_)))))))))
    refine dk rfl (by kernel_rfl) (dk rfl (by kernel_rfl) (dk rfl (by kernel_rfl) (dk rfl (by kernel_rfl) (dk rfl (by kernel_rfl) (dk rfl (by kernel_rfl) (dk rfl (by kernel_rfl) (dk rfl (by kernel_rfl) (dk rfl (by kernel_rfl) (dj (.bool false) rfl ?_)))))))))
    refine dj (.bool false) rfl (d_cons (gq (.own 3 [0] [0]) rfl rfl (Nat.le_of_ble_eq_true rfl) (dn (d_cons ?_))))
    have hl75:LdOk [0] (eT_Si64_Si64_Z a1) [0] 1 false (eSi64 a1.1):=(.fld rfl rfl rfl rfl (.nil rfl rfl rfl))
    refine gq (eSi64 a1.1) rfl (ld_own (i:=⟨.slice 2,1,24,(eSi64 [])⟩) rfl rfl rfl hl75) hl75.c (dn (d_cons ?_))
    obtain ⟨r76,hr77,h⟩:=bind_some h
    refine a_gcall rfl (args:=[(eSi64 a1.1)]) (u:=[]) (r:=(.bool r76)) rfl rfl (impl_isOne_ok a1.1 r76 hr77) rfl (dn (dg (.bool r76) rfl rfl (by kernel_rfl) ?_))
    cases hb78:r76
    ·have h:=ite_f hb78 h
     refine dk rfl (by kernel_rfl) (dk rfl (by kernel_rfl) (dk rfl (by kernel_rfl) (dk rfl (by kernel_rfl) (dg (.bool false) rfl rfl (by kernel_rfl) (dj (.bool false) rfl (dj (.bool false) rfl (d_nil (a_next rfl (a_ret ?_)))))))))
     refine ⟨.inr rfl,?_⟩
     rw [Try.results54]
     cases h
     exact ⟨_,_,_,_,_,rfl,trivial,.inl ⟨rfl,.inl rfl⟩,rfl,rfl⟩
    ·have h:=ite_t hb78 h
     refine d_cons (gq (.own 3 [1] [1]) rfl rfl (Nat.le_of_ble_eq_true rfl) (dn (d_cons ?_)))
     have hl79:LdOk [1] (eT_Si64_Si64_Z a1) [1] 1 false (eSi64 a1.2):=(.fld rfl rfl rfl rfl (.nil rfl rfl rfl))
     refine gq (eSi64 a1.2) rfl (ld_own (i:=⟨.slice 2,1,24,(eSi64 [])⟩) rfl rfl rfl hl79) hl79.c (dn (d_cons (gq (i6 (a1.2.length:Int)) rfl (len_run rfl rfl) trivial (dn (dg (.bool (((a1.2.length:Int) == 0))) rfl rfl (by kernel_rfl) (dg (.bool (((a1.2.length:Int) == 0))) rfl rfl (by kernel_rfl) (dj (.bool (((a1.2.length:Int) == 0))) rfl (dj (.bool (((a1.2.length:Int) == 0))) rfl (d_nil ?_)))))))))
     refine a_next rfl (a_ret ?_)
     refine ⟨.inr rfl,?_⟩
     rw [Try.results54]
     cases h
     exact ⟨_,_,_,_,_,rfl,trivial,.inl ⟨rfl,.inl rfl⟩,rfl,rfl⟩
   ·have h:=ite_t hb74 h
    refine d_cons (gq (.own 2 [0] [0]) rfl rfl (Nat.le_of_ble_eq_true rfl) (dn (d_cons ?_)))
    have hl80:LdOk [0] (eT_i64_Si64_Z a0) [0] 1 false (i6 a0.1):=(.fld rfl rfl rfl rfl (.nil rfl rfl rfl))
    refine gq (i6 a0.1) rfl (ld_own (i:=⟨.int .i64,1,8,(.int .i64 0)⟩) rfl rfl rfl hl80) hl80.c (dn (d_cons (gq (.own 2 [0] [0]) rfl rfl (Nat.le_of_ble_eq_true rfl) (dn (d_cons ?_)))))
    have hl81:LdOk [0] (eT_i64_Si64_Z a0) [0] 1 false (i6 a0.1):=(.fld rfl rfl rfl rfl (.nil rfl rfl rfl))
    refine gq (i6 a0.1) rfl (ld_own (i:=⟨.int .i64,1,8,(.int .i64 0)⟩) rfl rfl rfl hl81) hl81.c (dn (d_cons (gq (.own 2 [0] [0]) rfl rfl (Nat.le_of_ble_eq_true rfl) (dn (d_cons ?_)))))
    have hl82:LdOk [0] (eT_i64_Si64_Z a0) [0] 1 false (i6 a0.1):=(.fld rfl rfl rfl rfl (.nil rfl rfl rfl))
    refine gq (i6 a0.1) rfl (ld_own (i:=⟨.int .i64,1,8,(.int .i64 0)⟩) rfl rfl rfl hl82) hl82.c (dn (d_cons (gq (.own 3 [1] [1]) rfl rfl (Nat.le_of_ble_eq_true rfl) (dn (d_cons ?_)))))
    have hl83:LdOk [1] (eT_Si64_Si64_Z a1) [1] 1 false (eSi64 a1.2):=(.fld rfl rfl rfl rfl (.nil rfl rfl rfl))
    refine gq (eSi64 a1.2) rfl (ld_own (i:=⟨.slice 2,1,24,(eSi64 [])⟩) rfl rfl rfl hl83) hl83.c (dn (d_cons (gq (.own 3 [1] [1]) rfl rfl (Nat.le_of_ble_eq_true rfl) (dn (d_cons ?_)))))
    have hl84:LdOk [1] (eT_Si64_Si64_Z a1) [1] 1 false (eSi64 a1.2):=(.fld rfl rfl rfl rfl (.nil rfl rfl rfl))
    refine gq (eSi64 a1.2) rfl (ld_own (i:=⟨.slice 2,1,24,(eSi64 [])⟩) rfl rfl rfl hl84) hl84.c (dn (d_cons ?_))
    obtain ⟨r85,hr86,h⟩:=bind_some h
    refine a_gcall rfl (args:=[(i6 a0.1),(eSi64 a1.2),(eSi64 a1.2)]) (u:=[]) (r:=(eSi64 r85)) rfl rfl (impl_prime_times_ok a0.1 a1.2 a1.2 r85 hr86) rfl (dn (d_cons (gq (.own 2 [1] [1]) rfl rfl (Nat.le_of_ble_eq_true rfl) (dn (d_cons ?_)))))
    have hl87:LdOk [1] (eT_i64_Si64_Z a0) [1] 1 false (eSi64 a0.2):=(.fld rfl rfl rfl rfl (.nil rfl rfl rfl))
    refine gq (eSi64 a0.2) rfl (ld_own (i:=⟨.slice 2,1,24,(eSi64 [])⟩) rfl rfl rfl hl87) hl87.c (dn (d_cons ?_))
    obtain ⟨r88,hr89,h⟩:=bind_some h
    refine a_gcall rfl (args:=[(i6 a0.1),(eSi64 r85),(eSi64 a0.2),(i6 (-1))]) (u:=[]) (r:=(eSi64 r88)) rfl rfl (impl_prime_combine_ok a0.1 r85 a0.2 (-1) r88 hr89) rfl (dn (d_cons (gq (.own 3 [0] [0]) rfl rfl (Nat.le_of_ble_eq_true rfl) (dn (d_cons ?_)))))
    have hl90:LdOk [0] (eT_Si64_Si64_Z a1) [0] 1 false (eSi64 a1.1):=(.fld rfl rfl rfl rfl (.nil rfl rfl rfl))
    refine gq (eSi64 a1.1) rfl (ld_own (i:=⟨.slice 2,1,24,(eSi64 [])⟩) rfl rfl rfl hl90) hl90.c (dn (d_cons ?_))
    obtain ⟨r91,hr92,h⟩:=bind_some h
    refine a_gcall rfl (args:=[(i6 a0.1),(eSi64 r88),(eSi64 a1.1)]) (u:=[]) (r:=(eSi64 r91)) rfl rfl (impl_prime_rest_ok a0.1 r88 a1.1 r91 hr92) rfl (dn (d_cons (gq (i6 (r91.length:Int)) rfl (len_run rfl rfl) trivial (dn (dg (.bool (((r91.length:Int) == 0))) rfl rfl (by kernel_rfl) (dj (.bool (((r91.length:Int) == 0))) rfl (dj (.bool (((r91.length:Int) == 0))) rfl ?_)))))))
    cases hb93:((r91.length:Int) == 0)
    ·have h:=ite_f hb93 h
     refine d_cons (gq (.own 3 [0] [0]) rfl rfl (Nat.le_of_ble_eq_true rfl) (dn (d_cons ?_)))
     have hl94:LdOk [0] (eT_Si64_Si64_Z a1) [0] 1 false (eSi64 a1.1):=(.fld rfl rfl rfl rfl (.nil rfl rfl rfl))
     refine gq (eSi64 a1.1) rfl (ld_own (i:=⟨.slice 2,1,24,(eSi64 [])⟩) rfl rfl rfl hl94) hl94.c (dn (d_cons ?_))
     obtain ⟨r95,hr96,h⟩:=bind_some h
     refine a_gcall rfl (args:=[(eSi64 a1.1)]) (u:=[]) (r:=(.bool r95)) rfl rfl (impl_isOne_ok a1.1 r95 hr96) rfl (dn (dg (.bool r95) rfl rfl (by kernel_rfl) ?_))
     cases hb97:r95
     ·have h:=ite_f hb97 h
      refine dk rfl (by kernel_rfl) (dk rfl (by kernel_rfl) (dk rfl (by kernel_rfl) (dk rfl (by kernel_rfl) (dg (.bool false) rfl rfl (by kernel_rfl) (dj (.bool false) rfl (dj (.bool false) rfl (d_nil (a_next rfl (a_ret ?_)))))))))
      refine ⟨.inr rfl,?_⟩
      rw [Try.results54]
      cases h
      exact ⟨_,_,_,_,_,rfl,trivial,.inl ⟨rfl,.inl rfl⟩,rfl,rfl⟩
     ·have h:=ite_t hb97 h
      refine d_cons (gq (.own 3 [1] [1]) rfl rfl (Nat.le_of_ble_eq_true rfl) (dn (d_cons ?_)))
      have hl98:LdOk [1] (eT_Si64_Si64_Z a1) [1] 1 false (eSi64 a1.2):=(.fld rfl rfl rfl rfl (.nil rfl rfl rfl))
      refine gq (eSi64 a1.2) rfl (ld_own (i:=⟨.slice 2,1,24,(eSi64 [])⟩) rfl rfl rfl hl98) hl98.c (dn (d_cons (gq (i6 (a1.2.length:Int)) rfl (len_run rfl rfl) trivial (dn (dg (.bool (((a1.2.length:Int) == 0))) rfl rfl (by kernel_rfl) (dg (.bool (((a1.2.length:Int) == 0))) rfl rfl (by kernel_rfl) (dj (.bool (((a1.2.length:Int) == 0))) rfl (dj (.bool (((a1.2.length:Int) == 0))) rfl (d_nil ?_)))))))))
      refine a_next rfl (a_ret ?_)
      refine ⟨.inr rfl,?_⟩
      rw [Try.results54]
      cases h
      exact ⟨_,_,_,_,_,rfl,trivial,.inl ⟨rfl,.inl rfl⟩,rfl,rfl⟩
    ·have h:=ite_t hb93 h
     refine dk rfl (by kernel_rfl) (dk rfl (by kernel_rfl) (dk rfl (by kernel_rfl) (dk rfl (by kernel_rfl) (d_cons (a_gskip0 rfl (dn (d_cons (a_gskip0 rfl (dn ?_)))))))))
     refine d_cons (a_gskip0 rfl (dn (d_cons (a_gskip0 rfl (dn (dk rfl (by kernel_rfl) (dj (.bool true) rfl (dj (.bool true) rfl (d_nil ?_)))))))))
     refine a_next rfl (a_ret ?_)
     refine ⟨.inr rfl,?_⟩
     rw [Try.results54]
     cases h
     exact ⟨_,_,_,_,_,rfl,trivial,.inl ⟨rfl,.inl rfl⟩,rfl,rfl⟩
end Go.Proofs.Ytebfhlnfmkhmcaa
