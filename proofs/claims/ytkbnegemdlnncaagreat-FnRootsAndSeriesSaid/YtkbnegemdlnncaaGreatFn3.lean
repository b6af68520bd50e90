/- Functions of the program: plain Lean functions, and that the program computes them. Printed by gen.py. -/
import Derived.Test.YtkbnegemdlnncaaGreatFnT
import Derived.Test.YtkbnegemdlnncaaGreatFn1
import Derived.Test.YtkbnegemdlnncaaGreatFn2
namespace Go.Proofs.YtkbnegemdlnncaaGreat
open Go.Abs Go.Proofs
set_option linter.unusedSimpArgs false
set_option linter.unusedVariables false
set_option maxHeartbeats 16000000
attribute [local irreducible] Abs.acode Abs.aops Abs.aopsT Abs.thenK Abs.blockK

def impl_prime_times_L:Live:=[(0,[0,1,2]),(1,[0,1,2]),(2,[]),(3,[0,1,2]),(4,[0,1,2,7]),(5,[0,2,7,29,30,31]),(6,[0,2,7,29,30,31]),(7,[0,2,7,8,9,29,30,31]),(8,[0,2,7,8,9,29,30,31,36,37,38]),(9,[0,2,7,8,9,29,30,31,36,37,38]),(10,[0,2,7,8,9,10,11,29,30,31,36,37,38]),(11,[0,2,7,8,9,29,30,31,36,37,38]),(12,[0,2,7,29,30,31]),(13,[0,7]),(14,[0,7,56,57,58]),(15,[0,7,56,57,58]),(16,[0,7,12,13,56,57,58]),(17,[0,7,56,57,58]),(18,[7]),(100021,[0,1,2,21]),(100032,[0,2,7,29,30,31,32]),(100039,[0,2,7,8,9,29,30,31,36,37,38,39]),(100059,[0,7,56,57,58,59])]
noncomputable def impl_prime_times_l2 (a2:(List Int)) (x353:Int) (a1:(List Int)) (x492:Int) (x493:(List Int)):Option ((Int×(List Int))⊕(List Int)) :=
 (if (decide (x492 < (a2.length:Int))) then (ifp (0≤x492∧x492 < ((a2.length:Nat):Int)) ((ifp (0≤IntKind.i64.wrap (x353 + x492)∧IntKind.i64.wrap (x353 + x492) < ((x493.length:Nat):Int)) ((letp (IntKind.i64.wrap (((rd x493 (IntKind.i64.wrap (x353 + x492)).toNat)) + (IntKind.i64.wrap ((rd a1 x353.toNat)*(rd a2 x492.toNat))))) fun x511=>(ifp (0≤IntKind.i64.wrap (x353 + x492)∧IntKind.i64.wrap (x353 + x492) < ((x493.length:Nat):Int)) ((some (.inl ((IntKind.i64.wrap (x492 + 1),(x493.set (IntKind.i64.wrap (x353 + x492)).toNat x511)))))))))))) else (some (.inr x493)))
noncomputable def impl_prime_times_l1 (a1:(List Int)) (a2:(List Int)) (x353:Int) (x354:(List Int)):Option ((Int×(List Int))⊕(List Int)) :=
 (if (decide (x353 < (a1.length:Int))) then (Option.bind (α:=(List Int)) ((ifp (0≤x353∧x353 < ((a1.length:Nat):Int)) ((loopM (fun s:(Int×(List Int))=>impl_prime_times_l2 a2 x353 a1 s.1 s.2) (0,x354))))) fun x475=>(some (.inl ((IntKind.i64.wrap (x353 + 1),x475))))) else (some (.inr x354)))
noncomputable def impl_prime_times_l3 (x262:(List Int)) (a0:Int) (x551:Int) (x552:(List Int)):Option ((Int×(List Int))⊕(List Int)) :=
 (if (decide (x551 < (x262.length:Int))) then (ifp (0≤x551∧x551 < ((x552.length:Nat):Int)) ((ifp (a0 ≠ 0) ((ifp (0≤x551∧x551 < ((x552.length:Nat):Int)) ((some (.inl ((IntKind.i64.wrap (x551 + 1),(x552.set x551.toNat (Int.tmod (rd x552 x551.toNat) a0)))))))))))) else (some (.inr x552)))
noncomputable def impl_prime_times (a0:Int) (a1:(List Int)) (a2:(List Int)):Option (List Int) :=
 (Option.bind (α:=Bool) ((if ((a1.length:Int) == 0) then (some true) else (some (((a2.length:Int) == 0))))) fun x2=>(if x2 then (some ([])) else (letp (IntKind.i64.wrap ((IntKind.i64.wrap ((a1.length:Int) + (a2.length:Int))) - 1)) fun x8=>(ifp (0≤x8∧x8≤140737488355328∧8*x8≤140737488355328) ((Option.bind (α:=(List Int)) ((loopM (fun s:(Int×(List Int))=>impl_prime_times_l1 a1 a2 s.1 s.2) (0,List.replicate x8.toNat (0:Int)))) fun x262=>(Option.bind (α:=(List Int)) ((loopM (fun s:(Int×(List Int))=>impl_prime_times_l3 x262 a0 s.1 s.2) (0,x262))) fun x541=>(Option.bind (impl_row_trimmed x541) fun r569=>(some r569)))))))))
theorem impl_prime_times_ok (a0:Int) (a1:(List Int)) (a2:(List Int)) (r:(List Int)) (h:impl_prime_times a0 a1 a2=some r):Den Tryz.prog 52 [(i6 a0),(eSi64 a1),(eSi64 a2)] { r:=(eSi64 r) }:=by
 refine dd (rs:=[(eSi64 r)]) (L:=impl_prime_times_L) good [(6,1),(7,2)] Tryz.func52 Tryz.ntmps52 ?_
 refine ns ⟨[(0,i6 a0),(1,eSi64 a1),(2,eSi64 a2)],[]⟩ ?_
 refine sr (vr (eSi64 ([])) (nk ⟨[(0,i6 a0),(1,eSi64 a1),(2,eSi64 a2)],[]⟩ (a_seq ?_)))
 obtain ⟨y3,hy4,hk5⟩:=bind_some h
 clear h
 refine a_join (emb:=fun (s:Bool)=>⟨[(0,i6 a0),(1,eSi64 a1),(2,eSi64 a2),(21,.bool s)],[]⟩) (pre:=fun s=>s=y3) ?_ ?_
 ·rintro x2 rfl
  have h:=hk5
  refine ns ⟨[(0,i6 a0),(1,eSi64 a1),(2,eSi64 a2),(21,.bool x2)],[]⟩ ?_
  cases hb7:x2
  ·have h:=ite_f hb7 h
   refine a_cond_f rfl (a_skip (nj ⟨[(0,i6 a0),(1,eSi64 a1),(2,eSi64 a2)],[]⟩ (sr (vr (eSi64 a1) (vq (i6 (a1.length:Int)) (len_run rfl rfl) trivial (vr (eSi64 a2) (vq (i6 (a2.length:Int)) (len_run rfl rfl) trivial (vr (i6 (IntKind.i64.wrap ((a1.length:Int) + (a2.length:Int)))) ?_))))))))
   obtain ⟨x8,hx9,h⟩:=letp_some h
   refine a_val' (v:=(i6 (IntKind.i64.wrap ((IntKind.i64.wrap ((a1.length:Int) + (a2.length:Int))) - 1)))) (v':=(i6 x8)) (u:=[]) (u':=[]) rfl (congrArg (fun z=>((i6 z):AV)) hx9) rfl trivial rfl ?_
   obtain ⟨hc10,h⟩:=ifp_some h
   refine vu (.osl 3800) [(3800,bk (.row 1 ((List.replicate x8.toNat (0:Int)).map (AV.int .i64))))] (mk_run (i:=⟨.int .i64,1,8,(.int .i64 0)⟩) (f:=(AV.int .i64)) (y:=(0:Int)) rfl rfl rfl rfl rfl rfl) ⟨rfl,hc10.1,hc10.2.1,hc10.2.2,(Nat.le_of_ble_eq_true rfl)⟩ rfl (vr (.osl 3800) (nk ⟨[(0,i6 a0),(1,eSi64 a1),(2,eSi64 a2),(7,.osl 7)],[(7,bk (.row 1 ((List.replicate x8.toNat (0:Int)).map (AV.int .i64))))]⟩ ?_))
   obtain ⟨y263,hy264,hk265⟩:=bind_some h
   clear h
   refine a_join (emb:=fun (s:(List Int))=>⟨[(0,i6 a0),(7,.osl 7)],[(7,bk (.row 1 (s.map (AV.int .i64))))]⟩) (pre:=fun s=>s=y263) ?_ ?_
   ·rintro x262 rfl
    have h:=hk265
    refine ns ⟨[(0,i6 a0),(7,.osl 7)],[(7,bk (.row 1 (x262.map (AV.int .i64))))]⟩ ?_
    obtain ⟨y542,hy543,hk544⟩:=bind_some h
    clear h
    refine a_join (emb:=fun (s:(List Int))=>⟨[(7,.osl 7)],[(7,bk (.row 1 (s.map (AV.int .i64))))]⟩) (pre:=fun s=>s=y542) ?_ ?_
    ·rintro x541 rfl
     have h:=hk544
     refine ns ⟨[(7,.osl 7)],[(7,bk (.row 1 (x541.map (AV.int .i64))))]⟩ (sr (vr (.osl 7) ?_))
     obtain ⟨r569,hr570,h⟩:=bind_some h
     refine a_call (args:=[(eSi64 x541)]) (u:=[(7,bf (.row 1 (x541.map (AV.int .i64))))]) (r:=(eSi64 r569)) rfl rfl (impl_row_trimmed_ok x541 r569 hr570) rfl (vr (eSi64 r569) (nx _ rfl (a_ret ?_)))
     refine ⟨.inr rfl,?_⟩
     rw [Tryz.results52]
     cases h
     exact ⟨_,_,_,_,_,rfl,trivial,.inl ⟨rfl,.inl rfl⟩,rfl,rfl⟩
    ·have h:=hy543
     refine sr (vr (.osl 7) (vq (i6 (x262.length:Int)) (leno_run rfl rfl rfl) trivial (vr (i6 0) (nk ⟨[(0,i6 a0),(7,.osl 7),(56,.osl 7),(57,i6 (x262.length:Int)),(58,i6 0)],[(7,bk (.row 1 (x262.map (AV.int .i64))))]⟩ (a_block ?_)))))
     refine a_loop (emb:=fun (s:(Int×(List Int)))=>⟨[(0,i6 a0),(7,.osl 7),(56,.osl 7),(57,i6 (x262.length:Int)),(58,i6 s.1)],[(7,bk (.row 1 (s.2.map (AV.int .i64))))]⟩) (body:=(fun s:(Int×(List Int))=>impl_prime_times_l3 x262 a0 s.1 s.2)) (G:=fun q=>some q=some y542) h rfl ?_ (by kernel_rfl)
     rintro X559 ⟨x551,x552⟩ x560 h hX561
     have h:impl_prime_times_l3 x262 a0 x551 x552=some x560:=h
     refine ns ⟨[(0,i6 a0),(7,.osl 7),(56,.osl 7),(57,i6 (x262.length:Int)),(58,i6 x551)],[(7,bk (.row 1 (x552.map (AV.int .i64))))]⟩ (sr (vr (.bool ((decide (x551 < (x262.length:Int))))) (nk ⟨[(0,i6 a0),(7,.osl 7),(56,.osl 7),(57,i6 (x262.length:Int)),(58,i6 x551),(59,.bool ((decide (x551 < (x262.length:Int)))))],[(7,bk (.row 1 (x552.map (AV.int .i64))))]⟩ (a_seq ?_))))
     cases hb562:(decide (x551 < (x262.length:Int)))
     ·have h:=ite_f hb562 h
      refine a_cond_f rfl (a_exit (t_exit ?_))
      cases h
      have h:=hX561
      refine t_exit (b_exit ?_)
      exact jl x552 h
     ·have h:=ite_t hb562 h
      refine a_cond_t rfl (a_skip (nj ⟨[(0,i6 a0),(7,.osl 7),(56,.osl 7),(57,i6 (x262.length:Int)),(58,i6 x551)],[(7,bk (.row 1 (x552.map (AV.int .i64))))]⟩ (a_seq (a_block (sr (vr (i6 x551) ?_))))))
      obtain ⟨hc563,h⟩:=ifp_some h
      refine vq (.own 7 [x551.toNat] [x551.toNat*1]) rfl (lmap hc563) ?_
      have hl564:LdOk [x551.toNat] (.row 1 (x552.map (AV.int .i64))) [x551.toNat*1] 1 false (i6 (rd x552 x551.toNat)):=(.row (llt hc563) rfl (.nil rfl rfl rfl))
      refine vq (i6 (rd x552 x551.toNat)) (ld_own (i:=⟨.int .i64,1,8,(.int .i64 0)⟩) rfl rfl rfl hl564) hl564.c (vr (i6 x551) (vr (i6 (rd x552 x551.toNat)) (nk ⟨[(0,i6 a0),(7,.osl 7),(12,i6 x551),(13,i6 (rd x552 x551.toNat)),(56,.osl 7),(57,i6 (x262.length:Int)),(58,i6 x551)],[(7,bk (.row 1 (x552.map (AV.int .i64))))]⟩ (a_region (vr (.osl 7) (vr (i6 x551) (vr (i6 (rd x552 x551.toNat)) (vr (i6 a0) ?_))))))))
      obtain ⟨hc565,h⟩:=ifp_some h
      refine vq (i6 (Int.tmod (rd x552 x551.toNat) a0)) rfl hc565 ?_
      obtain ⟨hc566,h⟩:=ifp_some h
      refine vq (.own 7 [x551.toNat] [x551.toNat*1]) rfl (lmap hc566) ?_
      have hs567:StOk [x551.toNat] (.row 1 (x552.map (AV.int .i64))) [x551.toNat*1] 1 (i6 (Int.tmod (rd x552 x551.toNat) a0)) (.row 1 (((x552.set x551.toNat (Int.tmod (rd x552 x551.toNat) a0))).map (AV.int .i64))):=(.row (y:=Int.tmod (rd x552 x551.toNat) a0) (llt hc566) rfl (.nil rfl rfl rfl rfl))
      refine vu .top [(7,bk (.row 1 (((x552.set x551.toNat (Int.tmod (rd x552 x551.toNat) a0))).map (AV.int .i64))))] (st_own (i:=⟨.int .i64,1,8,(.int .i64 0)⟩) rfl rfl (fun _=>rfl) rfl hs567) (hs567.c rfl) rfl (a_nil (b_norm (nj ⟨[(0,i6 a0),(7,.osl 7),(56,.osl 7),(57,i6 (x262.length:Int)),(58,i6 x551)],[(7,bk (.row 1 (((x552.set x551.toNat (Int.tmod (rd x552 x551.toNat) a0))).map (AV.int .i64))))]⟩ (a_region (vr (i6 (IntKind.i64.wrap (x551 + 1))) (vr (i6 (IntKind.i64.wrap (x551 + 1))) (a_nil ?_)))))))
      cases h
      exact ag hX561
   ·have h:=hy264
    refine sr (vr (eSi64 a1) (vq (i6 (a1.length:Int)) (len_run rfl rfl) trivial (vr (i6 0) (nk ⟨[(0,i6 a0),(2,eSi64 a2),(7,.osl 7),(29,eSi64 a1),(30,i6 (a1.length:Int)),(31,i6 0)],[(7,bk (.row 1 ((List.replicate x8.toNat (0:Int)).map (AV.int .i64))))]⟩ (a_block ?_)))))
    refine a_loop (emb:=fun (s:(Int×(List Int)))=>⟨[(0,i6 a0),(2,eSi64 a2),(7,.osl 7),(29,eSi64 a1),(30,i6 (a1.length:Int)),(31,i6 s.1)],[(7,bk (.row 1 (s.2.map (AV.int .i64))))]⟩) (body:=(fun s:(Int×(List Int))=>impl_prime_times_l1 a1 a2 s.1 s.2)) (G:=fun q=>some q=some y263) h rfl ?_ (by kernel_rfl)
    rintro X434 ⟨x353,x354⟩ x435 h hX436
    have h:impl_prime_times_l1 a1 a2 x353 x354=some x435:=h
    refine ns ⟨[(0,i6 a0),(2,eSi64 a2),(7,.osl 7),(29,eSi64 a1),(30,i6 (a1.length:Int)),(31,i6 x353)],[(7,bk (.row 1 (x354.map (AV.int .i64))))]⟩ (sr (vr (.bool ((decide (x353 < (a1.length:Int))))) (nk ⟨[(0,i6 a0),(2,eSi64 a2),(7,.osl 7),(29,eSi64 a1),(30,i6 (a1.length:Int)),(31,i6 x353),(32,.bool ((decide (x353 < (a1.length:Int)))))],[(7,bk (.row 1 (x354.map (AV.int .i64))))]⟩ (a_seq ?_))))
    cases hb437:(decide (x353 < (a1.length:Int)))
    ·have h:=ite_f hb437 h
     refine a_cond_f rfl (a_exit (t_exit ?_))
     cases h
     have h:=hX436
     refine t_exit (b_exit ?_)
     exact jl x354 h
    ·have h:=ite_t hb437 h
     refine a_cond_t rfl (a_skip (nj ⟨[(0,i6 a0),(2,eSi64 a2),(7,.osl 7),(29,eSi64 a1),(30,i6 (a1.length:Int)),(31,i6 x353)],[(7,bk (.row 1 (x354.map (AV.int .i64))))]⟩ ?_))
     obtain ⟨y476,hy477,hk478⟩:=bind_some h
     clear h
     refine a_join (emb:=fun (s:(List Int))=>⟨[(0,i6 a0),(2,eSi64 a2),(7,.osl 7),(29,eSi64 a1),(30,i6 (a1.length:Int)),(31,i6 x353)],[(7,bk (.row 1 (s.map (AV.int .i64))))]⟩) (pre:=fun s=>s=y476) ?_ ?_
     ·rintro x475 rfl
      have h:=hk478
      refine ns ⟨[(0,i6 a0),(2,eSi64 a2),(7,.osl 7),(29,eSi64 a1),(30,i6 (a1.length:Int)),(31,i6 x353)],[(7,bk (.row 1 (x475.map (AV.int .i64))))]⟩ (a_region (vr (i6 (IntKind.i64.wrap (x353 + 1))) (vr (i6 (IntKind.i64.wrap (x353 + 1))) (a_nil ?_))))
      cases h
      exact ag hX436
     ·have h:=hy477
      refine a_block (sr (vr (i6 x353) ?_))
      obtain ⟨hc479,h⟩:=ifp_some h
      refine vq (.ref (.row 1 (a1.map (AV.int .i64))) [x353.toNat] [x353.toNat*1]) rfl (lmap hc479) ?_
      have hl480:LdOk [x353.toNat] (.row 1 (a1.map (AV.int .i64))) [x353.toNat*1] 1 false (i6 (rd a1 x353.toNat)):=(.row (llt hc479) rfl (.nil rfl rfl rfl))
      refine vq (i6 (rd a1 x353.toNat)) (ld_ref (i:=⟨.int .i64,1,8,(.int .i64 0)⟩) rfl rfl hl480) hl480.c (vr (i6 x353) (vr (i6 (rd a1 x353.toNat)) (nk ⟨[(0,i6 a0),(2,eSi64 a2),(7,.osl 7),(8,i6 x353),(9,i6 (rd a1 x353.toNat)),(29,eSi64 a1),(30,i6 (a1.length:Int)),(31,i6 x353)],[(7,bk (.row 1 (x354.map (AV.int .i64))))]⟩ (sr (vr (eSi64 a2) (vq (i6 (a2.length:Int)) (len_run rfl rfl) trivial (vr (i6 0) (nk ⟨[(0,i6 a0),(2,eSi64 a2),(7,.osl 7),(8,i6 x353),(9,i6 (rd a1 x353.toNat)),(29,eSi64 a1),(30,i6 (a1.length:Int)),(31,i6 x353),(36,eSi64 a2),(37,i6 (a2.length:Int)),(38,i6 0)],[(7,bk (.row 1 (x354.map (AV.int .i64))))]⟩ (a_block ?_)))))))))
      refine a_loop (emb:=fun (s:(Int×(List Int)))=>⟨[(0,i6 a0),(2,eSi64 a2),(7,.osl 7),(8,i6 x353),(9,i6 (rd a1 x353.toNat)),(29,eSi64 a1),(30,i6 (a1.length:Int)),(31,i6 x353),(36,eSi64 a2),(37,i6 (a2.length:Int)),(38,i6 s.1)],[(7,bk (.row 1 (s.2.map (AV.int .i64))))]⟩) (body:=(fun s:(Int×(List Int))=>impl_prime_times_l2 a2 x353 a1 s.1 s.2)) (G:=fun q=>some q=some y476) h rfl ?_ (by kernel_rfl)
      rintro X503 ⟨x492,x493⟩ x504 h hX505
      have h:impl_prime_times_l2 a2 x353 a1 x492 x493=some x504:=h
      refine ns ⟨[(0,i6 a0),(2,eSi64 a2),(7,.osl 7),(8,i6 x353),(9,i6 (rd a1 x353.toNat)),(29,eSi64 a1),(30,i6 (a1.length:Int)),(31,i6 x353),(36,eSi64 a2),(37,i6 (a2.length:Int)),(38,i6 x492)],[(7,bk (.row 1 (x493.map (AV.int .i64))))]⟩ (sr (vr (.bool ((decide (x492 < (a2.length:Int))))) (nk ⟨[(0,i6 a0),(2,eSi64 a2),(7,.osl 7),(8,i6 x353),(9,i6 (rd a1 x353.toNat)),(29,eSi64 a1),(30,i6 (a1.length:Int)),(31,i6 x353),(36,eSi64 a2),(37,i6 (a2.length:Int)),(38,i6 x492),(39,.bool ((decide (x492 < (a2.length:Int)))))],[(7,bk (.row 1 (x493.map (AV.int .i64))))]⟩ (a_seq ?_))))
      cases hb506:(decide (x492 < (a2.length:Int)))
      ·have h:=ite_f hb506 h
       refine a_cond_f rfl (a_exit (t_exit ?_))
       cases h
       have h:=hX505
       refine t_exit (b_exit (b_norm ?_))
       exact jl x493 h
      ·have h:=ite_t hb506 h
       refine a_cond_t rfl (a_skip (nj ⟨[(0,i6 a0),(2,eSi64 a2),(7,.osl 7),(8,i6 x353),(9,i6 (rd a1 x353.toNat)),(29,eSi64 a1),(30,i6 (a1.length:Int)),(31,i6 x353),(36,eSi64 a2),(37,i6 (a2.length:Int)),(38,i6 x492)],[(7,bk (.row 1 (x493.map (AV.int .i64))))]⟩ (a_seq (a_block (sr (vr (i6 x492) ?_))))))
       obtain ⟨hc507,h⟩:=ifp_some h
       refine vq (.ref (.row 1 (a2.map (AV.int .i64))) [x492.toNat] [x492.toNat*1]) rfl (lmap hc507) ?_
       have hl508:LdOk [x492.toNat] (.row 1 (a2.map (AV.int .i64))) [x492.toNat*1] 1 false (i6 (rd a2 x492.toNat)):=(.row (llt hc507) rfl (.nil rfl rfl rfl))
       refine vq (i6 (rd a2 x492.toNat)) (ld_ref (i:=⟨.int .i64,1,8,(.int .i64 0)⟩) rfl rfl hl508) hl508.c (vr (i6 x492) (vr (i6 (rd a2 x492.toNat)) (nk ⟨[(0,i6 a0),(2,eSi64 a2),(7,.osl 7),(8,i6 x353),(9,i6 (rd a1 x353.toNat)),(10,i6 x492),(11,i6 (rd a2 x492.toNat)),(29,eSi64 a1),(30,i6 (a1.length:Int)),(31,i6 x353),(36,eSi64 a2),(37,i6 (a2.length:Int)),(38,i6 x492)],[(7,bk (.row 1 (x493.map (AV.int .i64))))]⟩ (a_region (vr (.osl 7) (vr (i6 x353) (vr (i6 x492) (vr (i6 (IntKind.i64.wrap (x353 + x492))) ?_))))))))
       obtain ⟨hc509,h⟩:=ifp_some h
       refine vq (.own 7 [(IntKind.i64.wrap (x353 + x492)).toNat] [(IntKind.i64.wrap (x353 + x492)).toNat*1]) rfl (lmap hc509) ?_
       have hl510:LdOk [(IntKind.i64.wrap (x353 + x492)).toNat] (.row 1 (x493.map (AV.int .i64))) [(IntKind.i64.wrap (x353 + x492)).toNat*1] 1 false (i6 ((rd x493 (IntKind.i64.wrap (x353 + x492)).toNat))):=(.row (llt hc509) rfl (.nil rfl rfl rfl))
       refine vq (i6 ((rd x493 (IntKind.i64.wrap (x353 + x492)).toNat))) (ld_own (i:=⟨.int .i64,1,8,(.int .i64 0)⟩) rfl rfl rfl hl510) hl510.c (vr (i6 (rd a1 x353.toNat)) (vr (i6 (rd a2 x492.toNat)) (vr (i6 (IntKind.i64.wrap ((rd a1 x353.toNat)*(rd a2 x492.toNat)))) ?_)))
       obtain ⟨x511,hx512,h⟩:=letp_some h
       refine a_val' (v:=(i6 (IntKind.i64.wrap (((rd x493 (IntKind.i64.wrap (x353 + x492)).toNat)) + (IntKind.i64.wrap ((rd a1 x353.toNat)*(rd a2 x492.toNat))))))) (v':=(i6 x511)) (u:=[]) (u':=[]) rfl (congrArg (fun z=>((i6 z):AV)) hx512) rfl trivial rfl ?_
       obtain ⟨hc513,h⟩:=ifp_some h
       refine vq (.own 7 [(IntKind.i64.wrap (x353 + x492)).toNat] [(IntKind.i64.wrap (x353 + x492)).toNat*1]) rfl (lmap hc513) ?_
       have hs514:StOk [(IntKind.i64.wrap (x353 + x492)).toNat] (.row 1 (x493.map (AV.int .i64))) [(IntKind.i64.wrap (x353 + x492)).toNat*1] 1 (i6 x511) (.row 1 (((x493.set (IntKind.i64.wrap (x353 + x492)).toNat x511)).map (AV.int .i64))):=(.row (y:=x511) (llt hc513) rfl (.nil rfl rfl rfl rfl))
       refine vu .top [(7,bk (.row 1 (((x493.set (IntKind.i64.wrap (x353 + x492)).toNat x511)).map (AV.int .i64))))] (st_own (i:=⟨.int .i64,1,8,(.int .i64 0)⟩) rfl rfl (fun _=>rfl) rfl hs514) (hs514.c rfl) rfl (a_nil (b_norm (nj ⟨[(0,i6 a0),(2,eSi64 a2),(7,.osl 7),(8,i6 x353),(9,i6 (rd a1 x353.toNat)),(29,eSi64 a1),(30,i6 (a1.length:Int)),(31,i6 x353),(36,eSi64 a2),(37,i6 (a2.length:Int)),(38,i6 x492)],[(7,bk (.row 1 (((x493.set (IntKind.i64.wrap (x353 + x492)).toNat x511)).map (AV.int .i64))))]⟩ (a_region (vr (i6 (IntKind.i64.wrap (x492 + 1))) (vr (i6 (IntKind.i64.wrap (x492 + 1))) (a_nil ?_)))))))
       cases h
       exact ag hX505
  ·have h:=ite_t hb7 h
   refine a_cond_t rfl (sr (vr (eSi64 ([])) (nx _ rfl (a_ret (t_ret ?_)))))
   refine ⟨.inr rfl,?_⟩
   rw [Tryz.results52]
   cases h
   exact ⟨_,_,_,_,_,rfl,trivial,.inl ⟨rfl,.inl rfl⟩,rfl,rfl⟩
 ·have h:=hy4
  refine a_region (vr (eSi64 a1) (vq (i6 (a1.length:Int)) (len_run rfl rfl) trivial (vr (.bool (((a1.length:Int) == 0))) (vr (.bool (((a1.length:Int) == 0))) ?_))))
  cases hb6:((a1.length:Int) == 0)
  ·have h:=ite_f hb6 h
   refine gp (eSi64 a2) rfl rfl (gq (i6 (a2.length:Int)) rfl (len_run rfl rfl) trivial (gp (.bool (((a2.length:Int) == 0))) rfl rfl (vr (.bool (((a2.length:Int) == 0))) (a_nil ?_))))
   exact jl (((a2.length:Int) == 0)) h
  ·have h:=ite_t hb6 h
   refine a_gskip rfl (a_gskip rfl (a_gskip rfl (vr (.bool true) (a_nil ?_))))
   exact jl true h
def slices_Equal_impl_row_int64_L:Live:=[(0,[0,1]),(1,[0,1]),(2,[]),(3,[0,1]),(4,[0,1,12,13]),(5,[0,1,12,13]),(6,[0,1,5,12,13]),(7,[]),(8,[0,1,12,13]),(9,[]),(100010,[0,1,10]),(100014,[0,1,12,13,14]),(100024,[0,1,12,13,24])]
noncomputable def slices_Equal_impl_row_int64_l1 (a0:(List Int)) (a1:(List Int)) (x50:Int):Option (Int⊕(Unit⊕Bool)) :=
 (if (decide (x50 < (a0.length:Int))) then (ifp (0≤x50∧x50 < ((a0.length:Nat):Int)) ((ifp (0≤x50∧x50 < ((a1.length:Nat):Int)) ((if ((rd a0 x50.toNat) != (rd a1 x50.toNat)) then (some (.inr (.inr false))) else (some (.inl (IntKind.i64.wrap (x50 + 1))))))))) else (some (.inr (((.inl ()))))))
noncomputable def slices_Equal_impl_row_int64 (a0:(List Int)) (a1:(List Int)):Option Bool :=
 (if ((a0.length:Int) != (a1.length:Int)) then (some false) else (Option.bind (α:=(Unit⊕Bool)) ((loopM (fun s:Int=>slices_Equal_impl_row_int64_l1 a0 a1 s) 0)) fun z=>match z with | .inl _=>(some true) | .inr r75=>(some r75)))
theorem slices_Equal_impl_row_int64_ok (a0:(List Int)) (a1:(List Int)) (r:Bool) (h:slices_Equal_impl_row_int64 a0 a1=some r):Den Tryz.prog 51 [(eSi64 a0),(eSi64 a1)] { r:=(.bool r) }:=by
 refine dd (rs:=[(.bool r)]) (L:=slices_Equal_impl_row_int64_L) good [] Tryz.func51 Tryz.ntmps51 ?_
 refine ns ⟨[(0,eSi64 a0),(1,eSi64 a1)],[]⟩ ?_
 refine sr (vr (.bool false) (nk ⟨[(0,eSi64 a0),(1,eSi64 a1)],[]⟩ (a_seq (sr (vr (eSi64 a0) (vq (i6 (a0.length:Int)) (len_run rfl rfl) trivial (vr (eSi64 a1) (vq (i6 (a1.length:Int)) (len_run rfl rfl) trivial (vr (.bool (((a0.length:Int) != (a1.length:Int)))) ?_)))))))))
 refine nk ⟨[(0,eSi64 a0),(1,eSi64 a1),(10,.bool (((a0.length:Int) != (a1.length:Int))))],[]⟩ ?_
 cases hb1:((a0.length:Int) != (a1.length:Int))
 ·have h:=ite_f hb1 h
  refine a_cond_f rfl (a_skip (nj ⟨[(0,eSi64 a0),(1,eSi64 a1)],[]⟩ ?_))
  obtain ⟨y37,hy38,hk39⟩:=bind_some h
  clear h
  refine a_join (emb:=fun (s:Unit)=>⟨[],[]⟩) (pre:=fun s=>(.inl s)=y37) ?_ ?_
  ·rintro _ rfl
   have h:=hk39
   refine ns ⟨[],[]⟩ (sr (vr (.bool true) (nx _ rfl (a_ret ?_))))
   refine ⟨.inr rfl,?_⟩
   rw [Tryz.results51]
   cases h
   exact ⟨_,_,_,_,_,rfl,trivial,.inl ⟨rfl,.inl rfl⟩,rfl,rfl⟩
  ·have h:=hy38
   refine sr (vr (eSi64 a0) (vq (i6 (a0.length:Int)) (len_run rfl rfl) trivial (vr (i6 0) (nk ⟨[(0,eSi64 a0),(1,eSi64 a1),(12,i6 (a0.length:Int)),(13,i6 0)],[]⟩ (a_block ?_)))))
   refine a_loop (emb:=fun (s:Int)=>⟨[(0,eSi64 a0),(1,eSi64 a1),(12,i6 (a0.length:Int)),(13,i6 s)],[]⟩) (body:=(fun s:Int=>slices_Equal_impl_row_int64_l1 a0 a1 s)) (G:=fun q=>some q=some y37) h rfl ?_ (by kernel_rfl)
   rintro X61 x50 x62 h hX63
   have h:slices_Equal_impl_row_int64_l1 a0 a1 x50=some x62:=h
   refine ns ⟨[(0,eSi64 a0),(1,eSi64 a1),(12,i6 (a0.length:Int)),(13,i6 x50)],[]⟩ (sr (vr (.bool ((decide (x50 < (a0.length:Int))))) (nk ⟨[(0,eSi64 a0),(1,eSi64 a1),(12,i6 (a0.length:Int)),(13,i6 x50),(14,.bool ((decide (x50 < (a0.length:Int)))))],[]⟩ (a_seq ?_))))
   cases hb64:(decide (x50 < (a0.length:Int)))
   ·have h:=ite_f hb64 h
    refine a_cond_f rfl (a_exit (t_exit ?_))
    cases h
    have h:=hX63
    refine t_exit (b_exit ?_)
    exact jl () h
   ·have h:=ite_t hb64 h
    refine a_cond_t rfl (a_skip (nj ⟨[(0,eSi64 a0),(1,eSi64 a1),(12,i6 (a0.length:Int)),(13,i6 x50)],[]⟩ (a_seq (a_block (sr (vr (i6 x50) (vr (i6 x50) (nk ⟨[(0,eSi64 a0),(1,eSi64 a1),(5,i6 x50),(12,i6 (a0.length:Int)),(13,i6 x50)],[]⟩ (a_seq ?_)))))))))
    refine a_draw [⟨[],[],[],[]⟩,⟨[],[],[],[]⟩,⟨[],[],[],[0,1]⟩,⟨[],[],[],[0,1,2]⟩,⟨[],[],[],[]⟩,⟨[],[],[],[]⟩,⟨[],[],[],[4,5]⟩,⟨[],[],[],[4,5,6]⟩,⟨[],[],[],[0,1,2,3,4,5,6,7]⟩] (by kernel_rfl) (dj (eSi64 a0) rfl (dj (i6 x50) rfl (d_cons ?_)))
    obtain ⟨hc69,h⟩:=ifp_some h
    refine vq (.ref (.row 1 (a0.map (AV.int .i64))) [x50.toNat] [x50.toNat*1]) rfl (lmap hc69) (dn (d_cons ?_))
    have hl70:LdOk [x50.toNat] (.row 1 (a0.map (AV.int .i64))) [x50.toNat*1] 1 false (i6 (rd a0 x50.toNat)):=(.row (llt hc69) rfl (.nil rfl rfl rfl))
    refine vq (i6 (rd a0 x50.toNat)) (ld_ref (i:=⟨.int .i64,1,8,(.int .i64 0)⟩) rfl rfl hl70) hl70.c (dn (dj (eSi64 a1) rfl (dj (i6 x50) rfl (d_cons ?_))))
    obtain ⟨hc71,h⟩:=ifp_some h
    refine vq (.ref (.row 1 (a1.map (AV.int .i64))) [x50.toNat] [x50.toNat*1]) rfl (lmap hc71) (dn (d_cons ?_))
    have hl72:LdOk [x50.toNat] (.row 1 (a1.map (AV.int .i64))) [x50.toNat*1] 1 false (i6 (rd a1 x50.toNat)):=(.row (llt hc71) rfl (.nil rfl rfl rfl))
    refine vq (i6 (rd a1 x50.toNat)) (ld_ref (i:=⟨.int .i64,1,8,(.int .i64 0)⟩) rfl rfl hl72) hl72.c (dn (dj (.bool (((rd a0 x50.toNat) != (rd a1 x50.toNat)))) rfl (d_nil (nj ⟨[(0,eSi64 a0),(1,eSi64 a1),(12,i6 (a0.length:Int)),(13,i6 x50),(24,.bool (((rd a0 x50.toNat) != (rd a1 x50.toNat))))],[]⟩ ?_))))
    cases hb73:((rd a0 x50.toNat) != (rd a1 x50.toNat))
    ·have h:=ite_f hb73 h
     refine a_cond_f rfl (a_skip (b_norm (nj ⟨[(0,eSi64 a0),(1,eSi64 a1),(12,i6 (a0.length:Int)),(13,i6 x50)],[]⟩ (a_region (vr (i6 (IntKind.i64.wrap (x50 + 1))) (vr (i6 (IntKind.i64.wrap (x50 + 1))) (a_nil ?_)))))))
     cases h
     exact ag hX63
    ·have h:=ite_t hb73 h
     refine a_cond_t rfl (sr (vr (.bool false) (nx _ rfl (a_ret (b_ret (t_ret ?_))))))
     cases h
     have h:=hX63
     refine t_ret (b_ret (t_ret ?_))
     cases h
     have h:=hk39
     refine ⟨.inr rfl,?_⟩
     rw [Tryz.results51]
     cases h
     exact ⟨_,_,_,_,_,rfl,trivial,.inl ⟨rfl,.inl rfl⟩,rfl,rfl⟩
 ·have h:=ite_t hb1 h
  refine a_cond_t rfl (sr (vr (.bool false) (nx _ rfl (a_ret (t_ret ?_)))))
  refine ⟨.inr rfl,?_⟩
  rw [Tryz.results51]
  cases h
  exact ⟨_,_,_,_,_,rfl,trivial,.inl ⟨rfl,.inl rfl⟩,rfl,rfl⟩
def impl_IsSquarePoly_L:Live:=[(0,[0,1]),(1,[0,3]),(2,[0,3,6]),(3,[6]),(4,[0,3]),(5,[0,3,7]),(100012,[0,3,6,12])]
noncomputable def impl_IsSquarePoly (a0:Int) (a1:(Vec Int 64)):Option (Bool×Int) :=
 (Option.bind (impl_squareCode a0 a1 true) fun r2=>(if (r2 != 0) then (some (false,r2)) else (Option.bind (impl_rowOf a1) fun r6=>(Option.bind (impl_prime_root a0 r6) fun r8=>(Option.bind (impl_prime_times a0 r8 r8) fun r17=>(Option.bind (impl_rowOf a1) fun r20=>(Option.bind (slices_Equal_impl_row_int64 r17 r20) fun r22=>(some (r22,0)))))))))
theorem impl_IsSquarePoly_ok (a0:Int) (a1:(Vec Int 64)) (r:(Bool×Int)) (h:impl_IsSquarePoly a0 a1=some r):Den Tryz.prog 7 [(i6 a0),(eVb a1)] { r:=(.tuple [(.bool r.1),(i6 r.2)]) }:=by
 refine dd (rs:=[(.bool r.1),(i6 r.2)]) (L:=impl_IsSquarePoly_L) good [(7,1)] Tryz.func7 Tryz.ntmps7 ?_
 refine ns ⟨[(0,i6 a0),(1,eVb a1)],[]⟩ ?_
 refine sr (vo 1300 (eVb a1) rfl rfl (vr (.bool false) (vr (i6 0) (nk ⟨[(0,i6 a0),(3,ow 3)],[(3,bk (eVb a1))]⟩ (a_seq (sr (vr (i6 a0) (vl (eVb a1) rfl rfl rfl rfl rfl rfl ?_))))))))
 obtain ⟨r2,hr3,h⟩:=bind_some h
 refine ca (impl_squareCode_ok a0 a1 true r2 hr3) (vr (i6 r2) (nk ⟨[(0,i6 a0),(3,ow 3),(6,i6 r2)],[(3,bk (eVb a1))]⟩ (sr (vr (i6 r2) (vr (.bool (r2 != 0)) (nk ⟨[(0,i6 a0),(3,ow 3),(6,i6 r2),(12,.bool (r2 != 0))],[(3,bk (eVb a1))]⟩ ?_))))))
 cases hb4:(r2 != 0)
 ·have h:=ite_f hb4 h
  refine a_cond_f rfl (a_skip (nj ⟨[(0,i6 a0),(3,ow 3)],[(3,bk (eVb a1))]⟩ (sr (vr (i6 a0) (vl (eVb a1) rfl rfl rfl rfl rfl rfl ?_)))))
  obtain ⟨r6,hr7,h⟩:=bind_some h
  refine ca (impl_rowOf_ok a1 r6 hr7) ?_
  obtain ⟨r8,hr9,h⟩:=bind_some h
  refine ca (impl_prime_root_ok a0 r6 r8 hr9) (vr (eSi64 r8) (nk ⟨[(0,i6 a0),(3,ow 3),(7,eSi64 r8)],[(3,bk (eVb a1))]⟩ (a_seq (a_draw [⟨[],[],[],[]⟩,⟨[],[],[],[]⟩,⟨[],[],[],[]⟩,⟨[],[],[],[0,1,2]⟩,⟨[3],[],[],[]⟩,⟨[],[],[],[0,1,2,3,4]⟩,⟨[],[],[],[0,1,2,3,4,5]⟩,⟨[],[],[],[0,1,2,3,4,5,6]⟩,⟨[],[],[],[0,1,2,3,4,5,6,7]⟩] (by kernel_rfl) (dj (i6 a0) rfl (dj (eSi64 r8) rfl (dj (eSi64 r8) rfl (d_cons ?_))))))))
  obtain ⟨r17,hr18,h⟩:=bind_some h
  refine ca (impl_prime_times_ok a0 r8 r8 r17 hr18) (dn (d_cons (vl (eVb a1) rfl rfl rfl rfl rfl rfl (dn (d_cons ?_)))))
  obtain ⟨r20,hr21,h⟩:=bind_some h
  refine ca (impl_rowOf_ok a1 r20 hr21) (dn (d_cons ?_))
  obtain ⟨r22,hr23,h⟩:=bind_some h
  refine ca (slices_Equal_impl_row_int64_ok r17 r20 r22 hr23) (dn (dj (.bool r22) rfl (dj (i6 0) rfl (d_nil (a_next rfl (a_ret ?_))))))
  refine ⟨.inr rfl,?_⟩
  rw [Tryz.results7]
  cases h
  exact ⟨_,_,_,_,_,rfl,trivial,.inl ⟨rfl,.inl rfl⟩,rfl,⟨_,_,_,_,_,rfl,trivial,.inl ⟨rfl,.inl rfl⟩,rfl,rfl⟩⟩
 ·have h:=ite_t hb4 h
  refine a_cond_t rfl (sr (vr (i6 r2) (vr (.bool false) (vr (i6 r2) (nx _ rfl (a_ret (t_ret ?_)))))))
  refine ⟨.inr rfl,?_⟩
  rw [Tryz.results7]
  cases h
  exact ⟨_,_,_,_,_,rfl,trivial,.inl ⟨rfl,.inl rfl⟩,rfl,⟨_,_,_,_,_,rfl,trivial,.inl ⟨rfl,.inl rfl⟩,rfl,rfl⟩⟩
def spec_l01Prime_L:Live:=[(0,[0]),(1,[0])]
noncomputable def spec_l01Prime (a0:Int):Option Bool :=
 (if (a0 == 2) then (some true) else (if (a0 == 3) then (some true) else (if (a0 == 5) then (some true) else (some (a0 == 7)))))
theorem spec_l01Prime_ok (a0:Int) (r:Bool) (h:spec_l01Prime a0=some r):Den Tryz.prog 99 [(i6 a0)] { r:=(.bool r) }:=by
 refine dd (rs:=[(.bool r)]) (L:=spec_l01Prime_L) good [] Tryz.func99 Tryz.ntmps99 ?_
 refine ns ⟨[(0,i6 a0)],[]⟩ ?_
 refine sr (vr (.bool false) (nk ⟨[(0,i6 a0)],[]⟩ (sr (vr (i6 a0) (vr (.bool (a0 == 2)) (vr (.bool (a0 == 2)) ?_))))))
 cases hb1:(a0 == 2)
 ·have h:=ite_f hb1 h
  refine gp (i6 a0) rfl rfl (gp (.bool (a0 == 3)) rfl rfl (vr (.bool (a0 == 3)) (vr (.bool (a0 == 3)) ?_)))
  cases hb2:(a0 == 3)
  ·have h:=ite_f hb2 h
   refine gp (i6 a0) rfl rfl (gp (.bool (a0 == 5)) rfl rfl (vr (.bool (a0 == 5)) (vr (.bool (a0 == 5)) ?_)))
   cases hb3:(a0 == 5)
   ·have h:=ite_f hb3 h
    refine gp (i6 a0) rfl rfl (gp (.bool (a0 == 7)) rfl rfl (vr (.bool (a0 == 7)) (vr (.bool (a0 == 7)) (nx _ rfl (a_ret ?_)))))
    refine ⟨.inr rfl,?_⟩
    rw [Tryz.results99]
    cases h
    exact ⟨_,_,_,_,_,rfl,trivial,.inl ⟨rfl,.inl rfl⟩,rfl,rfl⟩
   ·have h:=ite_t hb3 h
    refine a_gskip rfl (a_gskip rfl (vr (.bool true) (vr (.bool true) (nx _ rfl (a_ret ?_)))))
    refine ⟨.inr rfl,?_⟩
    rw [Tryz.results99]
    cases h
    exact ⟨_,_,_,_,_,rfl,trivial,.inl ⟨rfl,.inl rfl⟩,rfl,rfl⟩
  ·have h:=ite_t hb2 h
   refine a_gskip rfl (a_gskip rfl (vr (.bool true) (vr (.bool true) (a_gskip rfl (a_gskip rfl (vr (.bool true) (vr (.bool true) (nx _ rfl (a_ret ?_)))))))))
   refine ⟨.inr rfl,?_⟩
   rw [Tryz.results99]
   cases h
   exact ⟨_,_,_,_,_,rfl,trivial,.inl ⟨rfl,.inl rfl⟩,rfl,rfl⟩
 ·have h:=ite_t hb1 h
  refine a_gskip rfl (a_gskip rfl (vr (.bool true) (vr (.bool true) (a_gskip rfl (a_gskip rfl (vr (.bool true) (vr (.bool true) (a_gskip rfl (a_gskip rfl ?_)))))))))
  refine vr (.bool true) (vr (.bool true) (nx _ rfl (a_ret ?_)))
  refine ⟨.inr rfl,?_⟩
  rw [Tryz.results99]
  cases h
  exact ⟨_,_,_,_,_,rfl,trivial,.inl ⟨rfl,.inl rfl⟩,rfl,rfl⟩
def spec_l01Is_L:Live:=[(0,[0,1]),(1,[0,3]),(2,[0,3,5]),(3,[0,3,5]),(4,[0,3,5]),(5,[]),(6,[0]),(100007,[0,3,5,7]),(100015,[0,3,5,15])]
noncomputable def spec_l01Is_l1 (a1:(Vec Int 64)) (a0:Int) (x29:Int):Option (Int⊕(Unit⊕Bool)) :=
 (if (decide (x29 < 64)) then (ifp (0≤x29∧x29 < ((64:Nat):Int)) ((if (decide ((IntKind.i64.wrap (rd a1.1 x29.toNat)) ≥ a0)) then (some (.inr (.inr false))) else (some (.inl (IntKind.i64.wrap (x29 + 1))))))) else (some (.inr (((.inl ()))))))
noncomputable def spec_l01Is (a0:Int) (a1:(Vec Int 64)):Option Bool :=
 (Option.bind (α:=(Unit⊕Bool)) ((loopM (fun s:Int=>spec_l01Is_l1 a1 a0 s) 0)) fun z=>match z with | .inl _=>(Option.bind (spec_l01Prime a0) fun r42=>(some r42)) | .inr r44=>(some r44))
theorem spec_l01Is_ok (a0:Int) (a1:(Vec Int 64)) (r:Bool) (h:spec_l01Is a0 a1=some r):Den Tryz.prog 150 [(i6 a0),(eVb a1)] { r:=(.bool r) }:=by
 refine dd (rs:=[(.bool r)]) (L:=spec_l01Is_L) good [] Tryz.func150 Tryz.ntmps150 ?_
 refine ns ⟨[(0,i6 a0),(1,eVb a1)],[]⟩ ?_
 refine sr (vo 1300 (eVb a1) rfl rfl (vr (.bool false) (nk ⟨[(0,i6 a0),(3,ow 3)],[(3,bk (eVb a1))]⟩ ?_)))
 obtain ⟨y20,hy21,hk22⟩:=bind_some h
 clear h
 refine a_join (emb:=fun (s:Unit)=>⟨[(0,i6 a0)],[]⟩) (pre:=fun s=>(.inl s)=y20) ?_ ?_
 ·rintro _ rfl
  have h:=hk22
  refine ns ⟨[(0,i6 a0)],[]⟩ (sr (vr (i6 a0) ?_))
  obtain ⟨r42,hr43,h⟩:=bind_some h
  refine ca (spec_l01Prime_ok a0 r42 hr43) (vr (.bool r42) (nx _ rfl (a_ret ?_)))
  refine ⟨.inr rfl,?_⟩
  rw [Tryz.results150]
  cases h
  exact ⟨_,_,_,_,_,rfl,trivial,.inl ⟨rfl,.inl rfl⟩,rfl,rfl⟩
 ·have h:=hy21
  refine sr (vr (i6 0) (nk ⟨[(0,i6 a0),(3,ow 3),(5,i6 0)],[(3,bk (eVb a1))]⟩ (a_block ?_)))
  refine a_loop (emb:=fun (s:Int)=>⟨[(0,i6 a0),(3,ow 3),(5,i6 s)],[(3,bk (eVb a1))]⟩) (body:=(fun s:Int=>spec_l01Is_l1 a1 a0 s)) (G:=fun q=>some q=some y20) h rfl ?_ (by kernel_rfl)
  rintro X34 x29 x35 h hX36
  have h:spec_l01Is_l1 a1 a0 x29=some x35:=h
  refine ns ⟨[(0,i6 a0),(3,ow 3),(5,i6 x29)],[(3,bk (eVb a1))]⟩ (a_seq (sr (vr (i6 x29) (vr (.bool ((decide (x29 < 64)))) (nk ⟨[(0,i6 a0),(3,ow 3),(5,i6 x29),(7,.bool ((decide (x29 < 64))))],[(3,bk (eVb a1))]⟩ ?_)))))
  cases hb37:(decide (x29 < 64))
  ·have h:=ite_f hb37 h
   refine a_cond_f rfl (a_exit (t_exit ?_))
   cases h
   have h:=hX36
   refine t_exit (b_exit ?_)
   exact jl () h
  ·have h:=ite_t hb37 h
   refine a_cond_t rfl (a_skip (nj ⟨[(0,i6 a0),(3,ow 3),(5,i6 x29)],[(3,bk (eVb a1))]⟩ (a_seq (a_block (sr (vr (i6 x29) ?_))))))
   obtain ⟨hc38,h⟩:=ifp_some h
   refine vq (.own 3 [x29.toNat] [x29.toNat*1]) rfl hc38 ?_
   have hl39:LdOk [x29.toNat] (eVb a1) [x29.toNat*1] 1 false (b8 (rd a1.1 x29.toNat)):=(.arr (vlt a1 hc38) rfl (.nil rfl rfl rfl))
   refine vq (b8 (rd a1.1 x29.toNat)) (ld_own (i:=⟨.int .u8,1,1,(.int .u8 0)⟩) rfl rfl rfl hl39) hl39.c (vr (i6 (IntKind.i64.wrap (rd a1.1 x29.toNat))) (vr (i6 a0) (vr (.bool ((decide ((IntKind.i64.wrap (rd a1.1 x29.toNat)) ≥ a0)))) (nk ⟨[(0,i6 a0),(3,ow 3),(5,i6 x29),(15,.bool ((decide ((IntKind.i64.wrap (rd a1.1 x29.toNat)) ≥ a0))))],[(3,bk (eVb a1))]⟩ ?_))))
   cases hb40:(decide ((IntKind.i64.wrap (rd a1.1 x29.toNat)) ≥ a0))
   ·have h:=ite_f hb40 h
    refine a_cond_f rfl (a_skip (b_norm (nj ⟨[(0,i6 a0),(3,ow 3),(5,i6 x29)],[(3,bk (eVb a1))]⟩ (a_region (vr (i6 x29) (vr (i6 (IntKind.i64.wrap (x29 + 1))) (vr (i6 (IntKind.i64.wrap (x29 + 1))) (a_nil ?_))))))))
    cases h
    exact ag hX36
   ·have h:=ite_t hb40 h
    refine a_cond_t rfl (sr (vr (.bool false) (nx _ rfl (a_ret (b_ret (t_ret ?_))))))
    cases h
    have h:=hX36
    refine t_ret (b_ret (t_ret ?_))
    cases h
    have h:=hk22
    refine ⟨.inr rfl,?_⟩
    rw [Tryz.results150]
    cases h
    exact ⟨_,_,_,_,_,rfl,trivial,.inl ⟨rfl,.inl rfl⟩,rfl,rfl⟩
def spec_l01Code_L:Live:=[(0,[0,1]),(1,[0,1]),(2,[]),(3,[0,1]),(4,[0,1,5]),(5,[0,1,5]),(6,[0,1,5]),(7,[]),(8,[]),(100008,[0,1,8]),(100012,[0,1,5,12]),(100021,[0,1,5,21])]
noncomputable def spec_l01Code_l1 (a1:(List (Vec Int 64))) (a0:Int) (x36:Int):Option (Int⊕(Unit⊕Int)) :=
 (if (decide (x36 < (a1.length:Int))) then (ifp (0≤x36∧x36 < ((a1.length:Nat):Int)) ((Option.bind (spec_l01Is a0 (rd a1 x36.toNat)) fun r49=>(if (!r49) then (some (.inr (.inr 1))) else (some (.inl (IntKind.i64.wrap (x36 + 1)))))))) else (some (.inr (((.inl ()))))))
noncomputable def spec_l01Code (a0:Int) (a1:(List (Vec Int 64))):Option Int :=
 (Option.bind (spec_l01Prime a0) fun r1=>(if (!r1) then (some 1) else (Option.bind (α:=(Unit⊕Int)) ((loopM (fun s:Int=>spec_l01Code_l1 a1 a0 s) 0)) fun z=>match z with | .inl _=>(some 0) | .inr r53=>(some r53))))
theorem spec_l01Code_ok (a0:Int) (a1:(List (Vec Int 64))) (r:Int) (h:spec_l01Code a0 a1=some r):Den Tryz.prog 110 [(i6 a0),(eSA64u8 a1)] { r:=(i6 r) }:=by
 refine dd (rs:=[(i6 r)]) (L:=spec_l01Code_L) good [] Tryz.func110 Tryz.ntmps110 ?_
 refine ns ⟨[(0,i6 a0),(1,eSA64u8 a1)],[]⟩ ?_
 refine sr (vr (i6 0) (nk ⟨[(0,i6 a0),(1,eSA64u8 a1)],[]⟩ (a_seq (sr (vr (i6 a0) ?_)))))
 obtain ⟨r1,hr2,h⟩:=bind_some h
 refine ca (spec_l01Prime_ok a0 r1 hr2) (vr (.bool (!r1)) (nk ⟨[(0,i6 a0),(1,eSA64u8 a1),(8,.bool (!r1))],[]⟩ ?_))
 cases hb3:(!r1)
 ·have h:=ite_f hb3 h
  refine a_cond_f rfl (a_skip (nj ⟨[(0,i6 a0),(1,eSA64u8 a1)],[]⟩ ?_))
  obtain ⟨y27,hy28,hk29⟩:=bind_some h
  clear h
  refine a_join (emb:=fun (s:Unit)=>⟨[],[]⟩) (pre:=fun s=>(.inl s)=y27) ?_ ?_
  ·rintro _ rfl
   have h:=hk29
   refine ns ⟨[],[]⟩ (sr (vr (i6 0) (nx _ rfl (a_ret ?_))))
   refine ⟨.inr rfl,?_⟩
   rw [Tryz.results110]
   cases h
   exact ⟨_,_,_,_,_,rfl,trivial,.inl ⟨rfl,.inl rfl⟩,rfl,rfl⟩
  ·have h:=hy28
   refine sr (vr (i6 0) (nk ⟨[(0,i6 a0),(1,eSA64u8 a1),(5,i6 0)],[]⟩ (a_block ?_)))
   refine a_loop (emb:=fun (s:Int)=>⟨[(0,i6 a0),(1,eSA64u8 a1),(5,i6 s)],[]⟩) (body:=(fun s:Int=>spec_l01Code_l1 a1 a0 s)) (G:=fun q=>some q=some y27) h rfl ?_ (by kernel_rfl)
   rintro X43 x36 x44 h hX45
   have h:spec_l01Code_l1 a1 a0 x36=some x44:=h
   refine ns ⟨[(0,i6 a0),(1,eSA64u8 a1),(5,i6 x36)],[]⟩ (a_seq (sr (vr (i6 x36) (vr (eSA64u8 a1) (vq (i6 (a1.length:Int)) (len_run rfl rfl) trivial (vr (.bool ((decide (x36 < (a1.length:Int))))) (nk ⟨[(0,i6 a0),(1,eSA64u8 a1),(5,i6 x36),(12,.bool ((decide (x36 < (a1.length:Int)))))],[]⟩ ?_)))))))
   cases hb46:(decide (x36 < (a1.length:Int)))
   ·have h:=ite_f hb46 h
    refine a_cond_f rfl (a_exit (t_exit ?_))
    cases h
    have h:=hX45
    refine t_exit (b_exit ?_)
    exact jl () h
   ·have h:=ite_t hb46 h
    refine a_cond_t rfl (a_skip (nj ⟨[(0,i6 a0),(1,eSA64u8 a1),(5,i6 x36)],[]⟩ (a_seq (a_block (sr (vr (i6 a0) (vr (eSA64u8 a1) (vr (i6 x36) ?_))))))))
    obtain ⟨hc47,h⟩:=ifp_some h
    refine vq (.ref (.row 64 (a1.map eVb)) [x36.toNat] [x36.toNat*64]) rfl (lmap hc47) ?_
    have hl48:LdOk [x36.toNat] (.row 64 (a1.map eVb)) [x36.toNat*64] 64 true (eVb (rd a1 x36.toNat)):=(.row (llt hc47) rfl (.nil rfl rfl rfl))
    refine vq (eVb (rd a1 x36.toNat)) (ld_ref (i:=⟨.arr 64 5,64,64,(eVb (vrep 64 (0:Int)))⟩) rfl rfl hl48) hl48.c ?_
    obtain ⟨r49,hr50,h⟩:=bind_some h
    refine ca (spec_l01Is_ok a0 (rd a1 x36.toNat) r49 hr50) (vr (.bool (!r49)) (nk ⟨[(0,i6 a0),(1,eSA64u8 a1),(5,i6 x36),(21,.bool (!r49))],[]⟩ ?_))
    cases hb51:(!r49)
    ·have h:=ite_f hb51 h
     refine a_cond_f rfl (a_skip (b_norm (nj ⟨[(0,i6 a0),(1,eSA64u8 a1),(5,i6 x36)],[]⟩ (a_region (vr (i6 x36) (vr (i6 (IntKind.i64.wrap (x36 + 1))) (vr (i6 (IntKind.i64.wrap (x36 + 1))) (a_nil ?_))))))))
     cases h
     exact ag hX45
    ·have h:=ite_t hb51 h
     refine a_cond_t rfl (sr (vr (i6 1) (nx _ rfl (a_ret (b_ret (t_ret ?_))))))
     cases h
     have h:=hX45
     refine t_ret (b_ret (t_ret ?_))
     cases h
     have h:=hk29
     refine ⟨.inr rfl,?_⟩
     rw [Tryz.results110]
     cases h
     exact ⟨_,_,_,_,_,rfl,trivial,.inl ⟨rfl,.inl rfl⟩,rfl,rfl⟩
 ·have h:=ite_t hb3 h
  refine a_cond_t rfl (sr (vr (i6 1) (nx _ rfl (a_ret (t_ret ?_)))))
  refine ⟨.inr rfl,?_⟩
  rw [Tryz.results110]
  cases h
  exact ⟨_,_,_,_,_,rfl,trivial,.inl ⟨rfl,.inl rfl⟩,rfl,rfl⟩
def spec_l01Monic_L:Live:=[(0,[0]),(1,[1]),(2,[1,3])]
noncomputable def spec_l01Monic (a0:(Vec Int 64)):Option Bool :=
 (Option.bind (spec_l01Deg a0) fun r2=>(if (decide (r2 ≥ 0)) then (ifp (0≤r2∧r2 < ((64:Nat):Int)) ((some (((rd a0.1 r2.toNat) == 1))))) else (some false)))
theorem spec_l01Monic_ok (a0:(Vec Int 64)) (r:Bool) (h:spec_l01Monic a0=some r):Den Tryz.prog 111 [(eVb a0)] { r:=(.bool r) }:=by
 refine dd (rs:=[(.bool r)]) (L:=spec_l01Monic_L) good [] Tryz.func111 Tryz.ntmps111 ?_
 refine ns ⟨[(0,eVb a0)],[]⟩ ?_
 refine sr (vo 1100 (eVb a0) rfl rfl (vr (.bool false) (nk ⟨[(1,ow 1)],[(1,bk (eVb a0))]⟩ (sr (vl (eVb a0) rfl rfl rfl rfl rfl rfl ?_)))))
 obtain ⟨r2,hr3,h⟩:=bind_some h
 refine ca (spec_l01Deg_ok a0 r2 hr3) (vr (i6 r2) (nk ⟨[(1,ow 1),(3,i6 r2)],[(1,bk (eVb a0))]⟩ (sr (vr (i6 r2) (vr (.bool ((decide (r2 ≥ 0)))) (vr (.bool ((decide (r2 ≥ 0)))) ?_))))))
 cases hb4:(decide (r2 ≥ 0))
 ·have h:=ite_f hb4 h
  refine a_gskip rfl (a_gskip rfl (a_gskip rfl (a_gskip rfl (vr (.bool false) (vr (.bool false) (nx _ rfl (a_ret ?_)))))))
  refine ⟨.inr rfl,?_⟩
  rw [Tryz.results111]
  cases h
  exact ⟨_,_,_,_,_,rfl,trivial,.inl ⟨rfl,.inl rfl⟩,rfl,rfl⟩
 ·have h:=ite_t hb4 h
  refine gp (i6 r2) rfl rfl ?_
  obtain ⟨hc5,h⟩:=ifp_some h
  refine gq (.own 1 [r2.toNat] [r2.toNat*1]) rfl rfl hc5 ?_
  have hl6:LdOk [r2.toNat] (eVb a0) [r2.toNat*1] 1 false (b8 (rd a0.1 r2.toNat)):=(.arr (vlt a0 hc5) rfl (.nil rfl rfl rfl))
  refine gq (b8 (rd a0.1 r2.toNat)) rfl (ld_own (i:=⟨.int .u8,1,1,(.int .u8 0)⟩) rfl rfl rfl hl6) hl6.c (gp (.bool (((rd a0.1 r2.toNat) == 1))) rfl rfl (vr (.bool (((rd a0.1 r2.toNat) == 1))) (vr (.bool (((rd a0.1 r2.toNat) == 1))) (nx _ rfl (a_ret ?_)))))
  refine ⟨.inr rfl,?_⟩
  rw [Tryz.results111]
  cases h
  exact ⟨_,_,_,_,_,rfl,trivial,.inl ⟨rfl,.inl rfl⟩,rfl,rfl⟩
def spec_l10Case_L:Live:=[(0,[0,1]),(1,[0,3]),(2,[]),(3,[0,3]),(4,[]),(5,[]),(100005,[0,3,5]),(100011,[11])]
noncomputable def spec_l10Case (a0:Int) (a1:(Vec Int 64)):Option Int :=
 (Option.bind (spec_l01Code a0 ([a1])) fun r2=>(if (r2 != 0) then (some 1) else (Option.bind (α:=Bool) ((if (a0 == 2) then (some true) else (Option.bind (spec_l01Monic a1) fun r19=>(if (!r19) then (some true) else (Option.bind (spec_l01Deg a1) fun r23=>(some (((Int.tmod r23 2) != 0)))))))) fun x13=>(if x13 then (some 2) else (some 0)))))
theorem spec_l10Case_ok (a0:Int) (a1:(Vec Int 64)) (r:Int) (h:spec_l10Case a0 a1=some r):Den Tryz.prog 53 [(i6 a0),(eVb a1)] { r:=(i6 r) }:=by
 refine dd (rs:=[(i6 r)]) (L:=spec_l10Case_L) good [] Tryz.func53 Tryz.ntmps53 ?_
 refine ns ⟨[(0,i6 a0),(1,eVb a1)],[]⟩ ?_
 refine sr (vo 1300 (eVb a1) rfl rfl (vr (i6 0) (nk ⟨[(0,i6 a0),(3,ow 3)],[(3,bk (eVb a1))]⟩ (a_seq (a_block (sr (vr (i6 a0) (vl (eVb a1) rfl rfl rfl rfl rfl rfl (vq (.sl 64 true (([a1]).map eVb)) rfl ⟨(Nat.le_of_ble_eq_true rfl),(Nat.le_of_ble_eq_true rfl),(all_cons ⟨(Nat.le_of_ble_eq_true rfl),rfl⟩ all_nil)⟩ ?_)))))))))
 obtain ⟨r2,hr3,h⟩:=bind_some h
 refine a_call (args:=[(i6 a0),(.sl 64 true (([a1]).map eVb))]) (u:=[]) (r:=(i6 r2)) rfl rfl (Den.args (spec_l01Code_ok a0 ([a1]) r2 hr3) rfl rfl (.cons (.refl _) (.cons (.loose _) .nil))) rfl (vr (.bool (r2 != 0)) (vr (.bool (r2 != 0)) (nk ⟨[(0,i6 a0),(3,ow 3),(5,.bool (r2 != 0))],[(3,bk (eVb a1))]⟩ ?_)))
 cases hb4:(r2 != 0)
 ·have h:=ite_f hb4 h
  refine a_cond_f rfl ?_
  obtain ⟨y14,hy15,hk16⟩:=bind_some h
  clear h
  refine a_join (emb:=fun (s:Bool)=>⟨[(11,.bool s)],[]⟩) (pre:=fun s=>s=y14) ?_ ?_
  ·rintro x13 rfl
   have h:=hk16
   refine ns ⟨[(11,.bool x13)],[]⟩ ?_
   cases hb25:x13
   ·have h:=ite_f hb25 h
    refine a_cond_f rfl (a_skip (b_norm (nj ⟨[],[]⟩ (sr (vr (i6 0) (nx _ rfl (a_ret ?_)))))))
    refine ⟨.inr rfl,?_⟩
    rw [Tryz.results53]
    cases h
    exact ⟨_,_,_,_,_,rfl,trivial,.inl ⟨rfl,.inl rfl⟩,rfl,rfl⟩
   ·have h:=ite_t hb25 h
    refine a_cond_t rfl (sr (vr (i6 2) (nx _ rfl (a_ret (b_ret (t_ret ?_))))))
    refine ⟨.inr rfl,?_⟩
    rw [Tryz.results53]
    cases h
    exact ⟨_,_,_,_,_,rfl,trivial,.inl ⟨rfl,.inl rfl⟩,rfl,rfl⟩
  ·have h:=hy15
   refine a_region (vr (i6 a0) (vr (.bool (a0 == 2)) (vr (.bool (a0 == 2)) ?_)))
   cases hb17:(a0 == 2)
   ·have h:=ite_f hb17 h
    have hl18:LdOk [] (eVb a1) [] 64 true (eVb a1):=(.nil rfl rfl rfl)
    refine gq (eVb a1) rfl (ld_own (i:=⟨.arr 64 5,64,64,(eVb (vrep 64 (0:Int)))⟩) rfl rfl rfl hl18) hl18.c ?_
    obtain ⟨r19,hr20,h⟩:=bind_some h
    refine a_gcall rfl (args:=[(eVb a1)]) (u:=[]) (r:=(.bool r19)) rfl rfl (spec_l01Monic_ok a1 r19 hr20) rfl (gp (.bool (!r19)) rfl rfl (vr (.bool (!r19)) (vr (.bool (!r19)) ?_)))
    cases hb21:(!r19)
    ·have h:=ite_f hb21 h
     have hl22:LdOk [] (eVb a1) [] 64 true (eVb a1):=(.nil rfl rfl rfl)
     refine gq (eVb a1) rfl (ld_own (i:=⟨.arr 64 5,64,64,(eVb (vrep 64 (0:Int)))⟩) rfl rfl rfl hl22) hl22.c ?_
     obtain ⟨r23,hr24,h⟩:=bind_some h
     refine a_gcall rfl (args:=[(eVb a1)]) (u:=[]) (r:=(i6 r23)) rfl rfl (spec_l01Deg_ok a1 r23 hr24) rfl (gq (i6 (Int.tmod r23 2)) rfl rfl (by decide) (gp (.bool (((Int.tmod r23 2) != 0))) rfl rfl (vr (.bool (((Int.tmod r23 2) != 0))) (vr (.bool (((Int.tmod r23 2) != 0))) (a_nil ?_)))))
     exact jl (((Int.tmod r23 2) != 0)) h
    ·have h:=ite_t hb21 h
     refine a_gskip rfl (a_gskip rfl (a_gskip rfl (a_gskip rfl (vr (.bool true) (vr (.bool true) (a_nil ?_))))))
     exact jl true h
   ·have h:=ite_t hb17 h
    refine a_gskip rfl (a_gskip rfl (a_gskip rfl (vr (.bool true) (vr (.bool true) (a_gskip rfl (a_gskip rfl (a_gskip rfl (a_gskip rfl (vr (.bool true) ?_)))))))))
    refine vr (.bool true) (a_nil ?_)
    exact jl true h
 ·have h:=ite_t hb4 h
  refine a_cond_t rfl (sr (vr (i6 1) (nx _ rfl (a_ret (b_ret (t_ret ?_))))))
  refine ⟨.inr rfl,?_⟩
  rw [Tryz.results53]
  cases h
  exact ⟨_,_,_,_,_,rfl,trivial,.inl ⟨rfl,.inl rfl⟩,rfl,rfl⟩
def spec_l10Root_L:Live:=[(0,[0,1,2]),(1,[0,2,4]),(2,[0,2,4,7,8]),(3,[0,2,4,7,8,9]),(4,[0,2,4,7,8,9,10]),(5,[0,2,4,7,8,9,10]),(6,[0,2,4,7,8,9,10]),(7,[0,2,4,7,8,9,10,11]),(8,[0,2,4,7,8,9,10]),(9,[0,2,4,7,8,9,10,11]),(10,[0,2,4,7,8,9,10,11,12]),(11,[0,2,4,7,8,9,10,11,12]),(12,[0,2,4,7,8,9,10,11,12]),(13,[0,2,4,7,8,9,10,11]),(14,[7]),(100021,[0,2,4,7,8,9,10,21]),(100026,[0,2,4,7,8,9,10,11,26]),(100035,[0,2,4,7,8,9,10,11,12,35])]
noncomputable def spec_l10Root_l2 (x474:Int) (x475:(List Int)) (x671:Int) (x672:Int):Option ((Int×Int)⊕Int) :=
 (if (decide (x672 < x474)) then (ifp (0≤x672∧x672 < ((x475.length:Nat):Int)) ((ifp (0≤IntKind.i64.wrap (x474 - x672)∧IntKind.i64.wrap (x474 - x672) < ((x475.length:Nat):Int)) ((letp (IntKind.i64.wrap ((rd x475 x672.toNat)*((rd x475 (IntKind.i64.wrap (x474 - x672)).toNat)))) fun x700=>(some (.inl ((IntKind.i64.wrap (x671 - x700),IntKind.i64.wrap (x672 + 1)))))))))) else (some (.inr x671)))
noncomputable def spec_l10Root_l1 (a2:Int) (r2:Int) (a1:(Vec Int 64)) (a0:Int) (x474:Int) (x475:(List Int)):Option ((Int×(List Int))⊕(List Int)) :=
 (if (decide (x474 < a2)) then (Option.bind (α:=Int) ((if (decide (r2 ≥ x474)) then (ifp (0≤IntKind.i64.wrap (r2 - x474)∧IntKind.i64.wrap (r2 - x474) < ((64:Nat):Int)) ((letp (IntKind.i64.wrap ((rd a1.1 (IntKind.i64.wrap (r2 - x474)).toNat))) fun x607=>(some x607)))) else (some 0))) fun x600=>(Option.bind (α:=Int) ((loopM (fun s:(Int×Int)=>spec_l10Root_l2 x474 x475 s.1 s.2) (x600,1))) fun x654=>(ifp (a0 ≠ 0) ((ifp (a0 ≠ 0) ((letp (IntKind.i64.wrap ((Int.tmod (IntKind.i64.wrap ((Int.tmod x654 a0) + a0)) a0)*(IntKind.i64.wrap (Int.tdiv (IntKind.i64.wrap (a0 + 1)) 2)))) fun x705=>(ifp (a0 ≠ 0) ((ifp ((x475.length + ([Int.tmod x705 a0]:List Int).length)*8≤140737488355328) ((some (.inl ((IntKind.i64.wrap (x474 + 1),(x475 ++ ([Int.tmod x705 a0]))))))))))))))))) else (some (.inr x475)))
noncomputable def spec_l10Root (a0:Int) (a1:(Vec Int 64)) (a2:Int):Option (List Int) :=
 (Option.bind (spec_l01Deg a1) fun r2=>(Option.bind (α:=(List Int)) ((loopM (fun s:(Int×(List Int))=>spec_l10Root_l1 a2 r2 a1 a0 s.1 s.2) (1,[1]))) fun x355=>(some x355)))
theorem spec_l10Root_ok (a0:Int) (a1:(Vec Int 64)) (a2:Int) (r:(List Int)) (h:spec_l10Root a0 a1 a2=some r):Den Tryz.prog 63 [(i6 a0),(eVb a1),(i6 a2)] { r:=(eSi64 r) }:=by
 refine dd (rs:=[(eSi64 r)]) (L:=spec_l10Root_L) good [(6,1),(7,2),(13,2)] Tryz.func63 Tryz.ntmps63 ?_
 refine ns ⟨[(0,i6 a0),(1,eVb a1),(2,i6 a2)],[]⟩ ?_
 refine sr (vo 1400 (eVb a1) rfl rfl (vr (eSi64 ([])) (nk ⟨[(0,i6 a0),(2,i6 a2),(4,ow 4)],[(4,bk (eVb a1))]⟩ (sr (vu (.osl 2300) [(2300,bk (.row 1 (([1]).map (AV.int .i64))))] rfl ⟨(Nat.le_of_ble_eq_true rfl),(Nat.le_of_ble_eq_true rfl),(all_cons ⟨(Nat.le_of_ble_eq_true rfl),rfl⟩ all_nil)⟩ rfl (vl (eVb a1) rfl rfl rfl rfl rfl rfl ?_))))))
 obtain ⟨r2,hr3,h⟩:=bind_some h
 refine ca (spec_l01Deg_ok a1 r2 hr3) (vr (.osl 2300) (vr (i6 r2) (nk ⟨[(0,i6 a0),(2,i6 a2),(4,ow 4),(7,.osl 7),(8,i6 r2)],[(4,bk (eVb a1)),(7,bk (.row 1 (([1]).map (AV.int .i64))))]⟩ (sr (vr (i6 a0) (vr (i6 (IntKind.i64.wrap (a0 + 1))) (vq (i6 (IntKind.i64.wrap (Int.tdiv (IntKind.i64.wrap (a0 + 1)) 2))) rfl (by decide) (vr (i6 (IntKind.i64.wrap (Int.tdiv (IntKind.i64.wrap (a0 + 1)) 2))) (nk ⟨[(0,i6 a0),(2,i6 a2),(4,ow 4),(7,.osl 7),(8,i6 r2),(9,i6 (IntKind.i64.wrap (Int.tdiv (IntKind.i64.wrap (a0 + 1)) 2)))],[(4,bk (eVb a1)),(7,bk (.row 1 (([1]).map (AV.int .i64))))]⟩ ?_)))))))))
 obtain ⟨y356,hy357,hk358⟩:=bind_some h
 clear h
 refine a_join (emb:=fun (s:(List Int))=>⟨[(7,.osl 7)],[(7,bk (.row 1 (s.map (AV.int .i64))))]⟩) (pre:=fun s=>s=y356) ?_ ?_
 ·rintro x355 rfl
  have h:=hk358
  refine ns ⟨[(7,.osl 7)],[(7,bk (.row 1 (x355.map (AV.int .i64))))]⟩ (sr (vr (.osl 7) (vu (eSi64 x355) [(7,bf (.row 1 (x355.map (AV.int .i64))))] rfl trivial rfl (nx _ rfl (a_ret ?_)))))
  refine ⟨.inr rfl,?_⟩
  rw [Tryz.results63]
  cases h
  exact ⟨_,_,_,_,_,rfl,trivial,.inl ⟨rfl,.inl rfl⟩,rfl,rfl⟩
 ·have h:=hy357
  refine sr (vr (i6 1) (nk ⟨[(0,i6 a0),(2,i6 a2),(4,ow 4),(7,.osl 7),(8,i6 r2),(9,i6 (IntKind.i64.wrap (Int.tdiv (IntKind.i64.wrap (a0 + 1)) 2))),(10,i6 1)],[(4,bk (eVb a1)),(7,bk (.row 1 (([1]).map (AV.int .i64))))]⟩ (a_block ?_)))
  refine a_loop (emb:=fun (s:(Int×(List Int)))=>⟨[(0,i6 a0),(2,i6 a2),(4,ow 4),(7,.osl 7),(8,i6 r2),(9,i6 (IntKind.i64.wrap (Int.tdiv (IntKind.i64.wrap (a0 + 1)) 2))),(10,i6 s.1)],[(4,bk (eVb a1)),(7,bk (.row 1 (s.2.map (AV.int .i64))))]⟩) (body:=(fun s:(Int×(List Int))=>spec_l10Root_l1 a2 r2 a1 a0 s.1 s.2)) (G:=fun q=>some q=some y356) h rfl ?_ (by kernel_rfl)
  rintro X591 ⟨x474,x475⟩ x592 h hX593
  have h:spec_l10Root_l1 a2 r2 a1 a0 x474 x475=some x592:=h
  refine ns ⟨[(0,i6 a0),(2,i6 a2),(4,ow 4),(7,.osl 7),(8,i6 r2),(9,i6 (IntKind.i64.wrap (Int.tdiv (IntKind.i64.wrap (a0 + 1)) 2))),(10,i6 x474)],[(4,bk (eVb a1)),(7,bk (.row 1 (x475.map (AV.int .i64))))]⟩ (a_seq (sr (vr (i6 x474) (vr (i6 a2) (vr (.bool ((decide (x474 < a2)))) (nk ⟨[(0,i6 a0),(2,i6 a2),(4,ow 4),(7,.osl 7),(8,i6 r2),(9,i6 (IntKind.i64.wrap (Int.tdiv (IntKind.i64.wrap (a0 + 1)) 2))),(10,i6 x474),(21,.bool ((decide (x474 < a2))))],[(4,bk (eVb a1)),(7,bk (.row 1 (x475.map (AV.int .i64))))]⟩ ?_))))))
  cases hb594:(decide (x474 < a2))
  ·have h:=ite_f hb594 h
   refine a_cond_f rfl (a_exit (t_exit ?_))
   cases h
   have h:=hX593
   refine t_exit (b_exit ?_)
   exact jl x475 h
  ·have h:=ite_t hb594 h
   refine a_cond_t rfl (a_skip (nj ⟨[(0,i6 a0),(2,i6 a2),(4,ow 4),(7,.osl 7),(8,i6 r2),(9,i6 (IntKind.i64.wrap (Int.tdiv (IntKind.i64.wrap (a0 + 1)) 2))),(10,i6 x474)],[(4,bk (eVb a1)),(7,bk (.row 1 (x475.map (AV.int .i64))))]⟩ (a_seq (a_block (sr (vr (i6 0) (nk ⟨[(0,i6 a0),(2,i6 a2),(4,ow 4),(7,.osl 7),(8,i6 r2),(9,i6 (IntKind.i64.wrap (Int.tdiv (IntKind.i64.wrap (a0 + 1)) 2))),(10,i6 x474),(11,i6 0)],[(4,bk (eVb a1)),(7,bk (.row 1 (x475.map (AV.int .i64))))]⟩ ?_)))))))
   obtain ⟨y601,hy602,hk603⟩:=bind_some h
   clear h
   refine a_join (emb:=fun (s:Int)=>⟨[(0,i6 a0),(2,i6 a2),(4,ow 4),(7,.osl 7),(8,i6 r2),(9,i6 (IntKind.i64.wrap (Int.tdiv (IntKind.i64.wrap (a0 + 1)) 2))),(10,i6 x474),(11,i6 s)],[(4,bk (eVb a1)),(7,bk (.row 1 (x475.map (AV.int .i64))))]⟩) (pre:=fun s=>s=y601) ?_ ?_
   ·rintro x600 rfl
    have h:=hk603
    refine ns ⟨[(0,i6 a0),(2,i6 a2),(4,ow 4),(7,.osl 7),(8,i6 r2),(9,i6 (IntKind.i64.wrap (Int.tdiv (IntKind.i64.wrap (a0 + 1)) 2))),(10,i6 x474),(11,i6 x600)],[(4,bk (eVb a1)),(7,bk (.row 1 (x475.map (AV.int .i64))))]⟩ ?_
    obtain ⟨y655,hy656,hk657⟩:=bind_some h
    clear h
    refine a_join (emb:=fun (s:Int)=>⟨[(0,i6 a0),(2,i6 a2),(4,ow 4),(7,.osl 7),(8,i6 r2),(9,i6 (IntKind.i64.wrap (Int.tdiv (IntKind.i64.wrap (a0 + 1)) 2))),(10,i6 x474),(11,i6 s)],[(4,bk (eVb a1)),(7,bk (.row 1 (x475.map (AV.int .i64))))]⟩) (pre:=fun s=>s=y655) ?_ ?_
    ·rintro x654 rfl
     have h:=hk657
     refine ns ⟨[(0,i6 a0),(2,i6 a2),(4,ow 4),(7,.osl 7),(8,i6 r2),(9,i6 (IntKind.i64.wrap (Int.tdiv (IntKind.i64.wrap (a0 + 1)) 2))),(10,i6 x474),(11,i6 x654)],[(4,bk (eVb a1)),(7,bk (.row 1 (x475.map (AV.int .i64))))]⟩ (a_region (vr (.osl 7) (vr (i6 x654) (vr (i6 a0) ?_))))
     obtain ⟨hc703,h⟩:=ifp_some h
     refine vq (i6 (Int.tmod x654 a0)) rfl hc703 (vr (i6 a0) (vr (i6 (IntKind.i64.wrap ((Int.tmod x654 a0) + a0))) (vr (i6 a0) ?_)))
     obtain ⟨hc704,h⟩:=ifp_some h
     refine vq (i6 (Int.tmod (IntKind.i64.wrap ((Int.tmod x654 a0) + a0)) a0)) rfl hc704 (vr (i6 (IntKind.i64.wrap (Int.tdiv (IntKind.i64.wrap (a0 + 1)) 2))) ?_)
     obtain ⟨x705,hx706,h⟩:=letp_some h
     refine a_val' (v:=(i6 (IntKind.i64.wrap ((Int.tmod (IntKind.i64.wrap ((Int.tmod x654 a0) + a0)) a0)*(IntKind.i64.wrap (Int.tdiv (IntKind.i64.wrap (a0 + 1)) 2)))))) (v':=(i6 x705)) (u:=[]) (u':=[]) rfl (congrArg (fun z=>((i6 z):AV)) hx706) rfl trivial rfl (vr (i6 a0) ?_)
     obtain ⟨hc707,h⟩:=ifp_some h
     refine vq (i6 (Int.tmod x705 a0)) rfl hc707 (vq (.sl 1 true (([Int.tmod x705 a0]).map (AV.int .i64))) rfl ⟨(Nat.le_of_ble_eq_true rfl),(Nat.le_of_ble_eq_true rfl),(all_cons ⟨(Nat.le_of_ble_eq_true rfl),rfl⟩ all_nil)⟩ ?_)
     obtain ⟨hc708,h⟩:=ifp_some h
     refine vu (.osl 7400) [(7400,bk (.row 1 (((x475 ++ ([Int.tmod x705 a0]))).map (AV.int .i64)))),(7,none)] (app_run (i:=⟨.int .i64,1,8,(.int .i64 0)⟩) (f:=(AV.int .i64)) (l:=x475) (l2:=[Int.tmod x705 a0]) rfl rfl rfl rfl (fun _=>rfl) rfl rfl) (app_c (f:=(AV.int .i64)) (s:=1) (sz:=1) (by':=8) (u:=[]) (id:=7) hc708 (.inr rfl) rfl rfl rfl) rfl (vr (.osl 7400) (a_nil (b_norm (nj ⟨[(0,i6 a0),(2,i6 a2),(4,ow 4),(7,.osl 7),(8,i6 r2),(9,i6 (IntKind.i64.wrap (Int.tdiv (IntKind.i64.wrap (a0 + 1)) 2))),(10,i6 x474)],[(4,bk (eVb a1)),(7,bk (.row 1 (((x475 ++ ([Int.tmod x705 a0]))).map (AV.int .i64))))]⟩ (a_region (vr (i6 x474) (vr (i6 (IntKind.i64.wrap (x474 + 1))) (vr (i6 (IntKind.i64.wrap (x474 + 1))) (a_nil ?_)))))))))
     cases h
     exact ag hX593
    ·have h:=hy656
     refine sr (vr (i6 1) (nk ⟨[(0,i6 a0),(2,i6 a2),(4,ow 4),(7,.osl 7),(8,i6 r2),(9,i6 (IntKind.i64.wrap (Int.tdiv (IntKind.i64.wrap (a0 + 1)) 2))),(10,i6 x474),(11,i6 x600),(12,i6 1)],[(4,bk (eVb a1)),(7,bk (.row 1 (x475.map (AV.int .i64))))]⟩ (a_block ?_)))
     refine a_loop (emb:=fun (s:(Int×Int))=>⟨[(0,i6 a0),(2,i6 a2),(4,ow 4),(7,.osl 7),(8,i6 r2),(9,i6 (IntKind.i64.wrap (Int.tdiv (IntKind.i64.wrap (a0 + 1)) 2))),(10,i6 x474),(11,i6 s.1),(12,i6 s.2)],[(4,bk (eVb a1)),(7,bk (.row 1 (x475.map (AV.int .i64))))]⟩) (body:=(fun s:(Int×Int)=>spec_l10Root_l2 x474 x475 s.1 s.2)) (G:=fun q=>some q=some y655) h rfl ?_ (by kernel_rfl)
     rintro X686 ⟨x671,x672⟩ x687 h hX688
     have h:spec_l10Root_l2 x474 x475 x671 x672=some x687:=h
     refine ns ⟨[(0,i6 a0),(2,i6 a2),(4,ow 4),(7,.osl 7),(8,i6 r2),(9,i6 (IntKind.i64.wrap (Int.tdiv (IntKind.i64.wrap (a0 + 1)) 2))),(10,i6 x474),(11,i6 x671),(12,i6 x672)],[(4,bk (eVb a1)),(7,bk (.row 1 (x475.map (AV.int .i64))))]⟩ (a_seq (sr (vr (i6 x672) (vr (i6 x474) (vr (.bool ((decide (x672 < x474)))) (nk ⟨[(0,i6 a0),(2,i6 a2),(4,ow 4),(7,.osl 7),(8,i6 r2),(9,i6 (IntKind.i64.wrap (Int.tdiv (IntKind.i64.wrap (a0 + 1)) 2))),(10,i6 x474),(11,i6 x671),(12,i6 x672),(35,.bool ((decide (x672 < x474))))],[(4,bk (eVb a1)),(7,bk (.row 1 (x475.map (AV.int .i64))))]⟩ ?_))))))
     cases hb689:(decide (x672 < x474))
     ·have h:=ite_f hb689 h
      refine a_cond_f rfl (a_exit (t_exit ?_))
      cases h
      have h:=hX688
      refine t_exit (b_exit ?_)
      exact jl x671 h
     ·have h:=ite_t hb689 h
      refine a_cond_t rfl (a_skip (nj ⟨[(0,i6 a0),(2,i6 a2),(4,ow 4),(7,.osl 7),(8,i6 r2),(9,i6 (IntKind.i64.wrap (Int.tdiv (IntKind.i64.wrap (a0 + 1)) 2))),(10,i6 x474),(11,i6 x671),(12,i6 x672)],[(4,bk (eVb a1)),(7,bk (.row 1 (x475.map (AV.int .i64))))]⟩ (a_seq (a_block (a_draw [⟨[],[],[],[]⟩,⟨[],[],[7],[]⟩,⟨[],[],[],[]⟩,⟨[7],[],[7],[1,2]⟩,⟨[7],[],[],[1,2,3]⟩,⟨[],[],[7],[]⟩,⟨[],[],[],[]⟩,⟨[],[],[],[]⟩,⟨[],[],[],[6,7]⟩,⟨[7],[],[7],[5,6,7,8]⟩,⟨[7],[],[],[5,6,7,8,9]⟩,⟨[],[],[],[1,2,3,4,5,6,7,8,9,10]⟩,⟨[],[],[],[0,1,2,3,4,5,6,7,8,9,10,11]⟩,⟨[],[],[],[0,1,2,3,4,5,6,7,8,9,10,11,12]⟩] (by kernel_rfl) (dj (i6 x671) rfl (dj (.osl 7) rfl (dj (i6 x672) rfl (d_cons ?_)))))))))
      obtain ⟨hc696,h⟩:=ifp_some h
      refine vq (.own 7 [x672.toNat] [x672.toNat*1]) rfl (lmap hc696) (dn (d_cons ?_))
      have hl697:LdOk [x672.toNat] (.row 1 (x475.map (AV.int .i64))) [x672.toNat*1] 1 false (i6 (rd x475 x672.toNat)):=(.row (llt hc696) rfl (.nil rfl rfl rfl))
      refine vq (i6 (rd x475 x672.toNat)) (ld_own (i:=⟨.int .i64,1,8,(.int .i64 0)⟩) rfl rfl rfl hl697) hl697.c (dn (dj (.osl 7) rfl (dj (i6 x474) rfl (dj (i6 x672) rfl (dj (i6 (IntKind.i64.wrap (x474 - x672))) rfl (d_cons ?_))))))
      obtain ⟨hc698,h⟩:=ifp_some h
      refine vq (.own 7 [(IntKind.i64.wrap (x474 - x672)).toNat] [(IntKind.i64.wrap (x474 - x672)).toNat*1]) rfl (lmap hc698) (dn (d_cons ?_))
      have hl699:LdOk [(IntKind.i64.wrap (x474 - x672)).toNat] (.row 1 (x475.map (AV.int .i64))) [(IntKind.i64.wrap (x474 - x672)).toNat*1] 1 false (i6 ((rd x475 (IntKind.i64.wrap (x474 - x672)).toNat))):=(.row (llt hc698) rfl (.nil rfl rfl rfl))
      refine vq (i6 ((rd x475 (IntKind.i64.wrap (x474 - x672)).toNat))) (ld_own (i:=⟨.int .i64,1,8,(.int .i64 0)⟩) rfl rfl rfl hl699) hl699.c (dn (d_cons ?_))
      obtain ⟨x700,hx701,h⟩:=letp_some h
      refine a_val' (v:=(i6 (IntKind.i64.wrap ((rd x475 x672.toNat)*((rd x475 (IntKind.i64.wrap (x474 - x672)).toNat)))))) (v':=(i6 x700)) (u:=[]) (u':=[]) rfl (congrArg (fun z=>((i6 z):AV)) hx701) rfl trivial rfl (dn (dj (i6 (IntKind.i64.wrap (x671 - x700))) rfl (dj (i6 (IntKind.i64.wrap (x671 - x700))) rfl (d_nil (b_norm (nj ⟨[(0,i6 a0),(2,i6 a2),(4,ow 4),(7,.osl 7),(8,i6 r2),(9,i6 (IntKind.i64.wrap (Int.tdiv (IntKind.i64.wrap (a0 + 1)) 2))),(10,i6 x474),(11,i6 (IntKind.i64.wrap (x671 - x700))),(12,i6 x672)],[(4,bk (eVb a1)),(7,bk (.row 1 (x475.map (AV.int .i64))))]⟩ (a_region (vr (i6 x672) (vr (i6 (IntKind.i64.wrap (x672 + 1))) ?_)))))))))
      refine vr (i6 (IntKind.i64.wrap (x672 + 1))) (a_nil ?_)
      cases h
      exact ag hX688
   ·have h:=hy602
    refine sr (vr (i6 r2) (vr (i6 x474) (vr (.bool ((decide (r2 ≥ x474)))) (nk ⟨[(0,i6 a0),(2,i6 a2),(4,ow 4),(7,.osl 7),(8,i6 r2),(9,i6 (IntKind.i64.wrap (Int.tdiv (IntKind.i64.wrap (a0 + 1)) 2))),(10,i6 x474),(11,i6 0),(26,.bool ((decide (r2 ≥ x474))))],[(4,bk (eVb a1)),(7,bk (.row 1 (x475.map (AV.int .i64))))]⟩ ?_))))
    cases hb604:(decide (r2 ≥ x474))
    ·have h:=ite_f hb604 h
     refine a_cond_f rfl (a_skip ?_)
     exact jl 0 h
    ·have h:=ite_t hb604 h
     refine a_cond_t rfl (a_region (vr (i6 r2) (vr (i6 x474) (vr (i6 (IntKind.i64.wrap (r2 - x474))) ?_))))
     obtain ⟨hc605,h⟩:=ifp_some h
     refine vq (.own 4 [(IntKind.i64.wrap (r2 - x474)).toNat] [(IntKind.i64.wrap (r2 - x474)).toNat*1]) rfl hc605 ?_
     have hl606:LdOk [(IntKind.i64.wrap (r2 - x474)).toNat] (eVb a1) [(IntKind.i64.wrap (r2 - x474)).toNat*1] 1 false (b8 ((rd a1.1 (IntKind.i64.wrap (r2 - x474)).toNat))):=(.arr (vlt a1 hc605) rfl (.nil rfl rfl rfl))
     refine vq (b8 ((rd a1.1 (IntKind.i64.wrap (r2 - x474)).toNat))) (ld_own (i:=⟨.int .u8,1,1,(.int .u8 0)⟩) rfl rfl rfl hl606) hl606.c ?_
     obtain ⟨x607,hx608,h⟩:=letp_some h
     refine a_val' (v:=(i6 (IntKind.i64.wrap ((rd a1.1 (IntKind.i64.wrap (r2 - x474)).toNat))))) (v':=(i6 x607)) (u:=[]) (u':=[]) rfl (congrArg (fun z=>((i6 z):AV)) hx608) rfl trivial rfl (vr (i6 x607) (a_nil ?_))
     exact jl x607 h
def spec_l10Part_L:Live:=[(0,[0,1]),(1,[0,3,4]),(2,[0,3,4,5]),(3,[4,5,6,7]),(4,[4,5,6,7,8]),(5,[4,5,6,7,8]),(6,[4,5,6,7,8]),(7,[4,7]),(100020,[4,5,6,7,8,20])]
noncomputable def spec_l10Part_l1 (r2:Int) (r5:(List Int)) (x38:Int) (x39:(Vec Int 64)):Option ((Int×(Vec Int 64))⊕(Vec Int 64)) :=
 (if (decide (x38≤(IntKind.i64.wrap (Int.tdiv r2 2)))) then (ifp (0≤x38∧x38 < ((r5.length:Nat):Int)) ((ifp (0≤IntKind.i64.wrap ((IntKind.i64.wrap (Int.tdiv r2 2)) - x38)∧IntKind.i64.wrap ((IntKind.i64.wrap (Int.tdiv r2 2)) - x38) < ((64:Nat):Int)) ((some (.inl ((IntKind.i64.wrap (x38 + 1),(vset x39 (IntKind.i64.wrap ((IntKind.i64.wrap (Int.tdiv r2 2)) - x38)).toNat (IntKind.u8.wrap (rd r5 x38.toNat))))))))))) else (some (.inr x39)))
noncomputable def spec_l10Part (a0:Int) (a1:(Vec Int 64)):Option (Vec Int 64) :=
 (Option.bind (spec_l01Deg a1) fun r2=>(Option.bind (spec_l10Root a0 a1 (IntKind.i64.wrap ((IntKind.i64.wrap (Int.tdiv r2 2)) + 1))) fun r5=>(Option.bind (α:=(Vec Int 64)) ((loopM (fun s:(Int×(Vec Int 64))=>spec_l10Part_l1 r2 r5 s.1 s.2) (0,vrep 64 (0:Int)))) fun x29=>(some x29))))
theorem spec_l10Part_ok (a0:Int) (a1:(Vec Int 64)) (r:(Vec Int 64)) (h:spec_l10Part a0 a1=some r):Den Tryz.prog 54 [(i6 a0),(eVb a1)] { r:=(eVb r) }:=by
 refine dd (rs:=[(eVb r)]) (L:=spec_l10Part_L) good [(6,1)] Tryz.func54 Tryz.ntmps54 ?_
 refine ns ⟨[(0,i6 a0),(1,eVb a1)],[]⟩ ?_
 refine sr (vo 1300 (eVb a1) rfl rfl (vo 1400 (eV0) rfl rfl (nk ⟨[(0,i6 a0),(3,ow 3),(4,ow 4)],[(3,bk (eVb a1)),(4,bk (eV0))]⟩ (sr (vl (eVb a1) rfl rfl rfl rfl rfl rfl ?_)))))
 obtain ⟨r2,hr3,h⟩:=bind_some h
 refine ca (spec_l01Deg_ok a1 r2 hr3) (vq (i6 (IntKind.i64.wrap (Int.tdiv r2 2))) rfl (by decide) (vr (i6 (IntKind.i64.wrap (Int.tdiv r2 2))) (nk ⟨[(0,i6 a0),(3,ow 3),(4,ow 4),(5,i6 (IntKind.i64.wrap (Int.tdiv r2 2)))],[(3,bk (eVb a1)),(4,bk (eV0))]⟩ (sr (vr (i6 a0) (vl (eVb a1) rfl rfl rfl rfl rfl rfl (vr (i6 (IntKind.i64.wrap (Int.tdiv r2 2))) (vr (i6 (IntKind.i64.wrap ((IntKind.i64.wrap (Int.tdiv r2 2)) + 1))) ?_))))))))
 obtain ⟨r5,hr6,h⟩:=bind_some h
 refine ca (spec_l10Root_ok a0 a1 (IntKind.i64.wrap ((IntKind.i64.wrap (Int.tdiv r2 2)) + 1)) r5 hr6) (vq (eV0) rfl ⟨⟨_,rfl,rfl⟩,all_nil⟩ (vo 1700 (eV0) rfl rfl (vr (eSi64 r5) (vs (eV0) rfl rfl (fun _=>rfl) rfl rfl rfl rfl rfl rfl (nk ⟨[(4,ow 4),(5,i6 (IntKind.i64.wrap (Int.tdiv r2 2))),(6,eSi64 r5),(7,ow 7)],[(4,bk (eV0)),(7,bk (eV0))]⟩ ?_)))))
 obtain ⟨y30,hy31,hk32⟩:=bind_some h
 clear h
 refine a_join (emb:=fun (s:(Vec Int 64))=>⟨[(4,ow 4),(7,ow 7)],[(4,bk (eV0)),(7,bk (eVb s))]⟩) (pre:=fun s=>s=y30) ?_ ?_
 ·rintro x29 rfl
  have h:=hk32
  refine ns ⟨[(4,ow 4),(7,ow 7)],[(4,bk (eV0)),(7,bk (eVb x29))]⟩ (sr (vl (eVb x29) rfl rfl rfl rfl rfl rfl (vs (eVb x29) rfl rfl (fun _=>rfl) rfl rfl rfl rfl rfl rfl (nx _ rfl (a_ret ?_)))))
  have hl56:LdOk [] (eVb x29) [] 64 true (eVb x29):=(.nil rfl rfl rfl)
  refine ⟨.inr rfl,?_⟩
  rw [Tryz.results54]
  cases h
  exact ⟨_,_,_,_,_,ld_own (i:=⟨.arr 64 5,64,64,(eVb (vrep 64 (0:Int)))⟩) rfl rfl rfl hl56,hl56.c,.inl ⟨rfl,.inl rfl⟩,rfl,rfl⟩
 ·have h:=hy31
  refine sr (vr (i6 0) (nk ⟨[(4,ow 4),(5,i6 (IntKind.i64.wrap (Int.tdiv r2 2))),(6,eSi64 r5),(7,ow 7),(8,i6 0)],[(4,bk (eV0)),(7,bk (eV0))]⟩ (a_block ?_)))
  refine a_loop (emb:=fun (s:(Int×(Vec Int 64)))=>⟨[(4,ow 4),(5,i6 (IntKind.i64.wrap (Int.tdiv r2 2))),(6,eSi64 r5),(7,ow 7),(8,i6 s.1)],[(4,bk (eV0)),(7,bk (eVb s.2))]⟩) (body:=(fun s:(Int×(Vec Int 64))=>spec_l10Part_l1 r2 r5 s.1 s.2)) (G:=fun q=>some q=some y30) h rfl ?_ (by kernel_rfl)
  rintro X45 ⟨x38,x39⟩ x46 h hX47
  have h:spec_l10Part_l1 r2 r5 x38 x39=some x46:=h
  refine ns ⟨[(4,ow 4),(5,i6 (IntKind.i64.wrap (Int.tdiv r2 2))),(6,eSi64 r5),(7,ow 7),(8,i6 x38)],[(4,bk (eV0)),(7,bk (eVb x39))]⟩ (a_seq (sr (vr (i6 x38) (vr (i6 (IntKind.i64.wrap (Int.tdiv r2 2))) (vr (.bool ((decide (x38≤(IntKind.i64.wrap (Int.tdiv r2 2)))))) (nk ⟨[(4,ow 4),(5,i6 (IntKind.i64.wrap (Int.tdiv r2 2))),(6,eSi64 r5),(7,ow 7),(8,i6 x38),(20,.bool ((decide (x38≤(IntKind.i64.wrap (Int.tdiv r2 2))))))],[(4,bk (eV0)),(7,bk (eVb x39))]⟩ ?_))))))
  cases hb48:(decide (x38≤(IntKind.i64.wrap (Int.tdiv r2 2))))
  ·have h:=ite_f hb48 h
   refine a_cond_f rfl (a_exit (t_exit ?_))
   cases h
   have h:=hX47
   refine t_exit (b_exit ?_)
   exact jl x39 h
  ·have h:=ite_t hb48 h
   refine a_cond_t rfl (a_skip (nj ⟨[(4,ow 4),(5,i6 (IntKind.i64.wrap (Int.tdiv r2 2))),(6,eSi64 r5),(7,ow 7),(8,i6 x38)],[(4,bk (eV0)),(7,bk (eVb x39))]⟩ (a_seq (a_block (a_region (vr (i6 (IntKind.i64.wrap (Int.tdiv r2 2))) (vr (i6 x38) (vr (i6 (IntKind.i64.wrap ((IntKind.i64.wrap (Int.tdiv r2 2)) - x38))) (vr (eSi64 r5) ?_)))))))))
   refine vr (i6 x38) ?_
   obtain ⟨hc49,h⟩:=ifp_some h
   refine vq (.ref (.row 1 (r5.map (AV.int .i64))) [x38.toNat] [x38.toNat*1]) rfl (lmap hc49) ?_
   have hl50:LdOk [x38.toNat] (.row 1 (r5.map (AV.int .i64))) [x38.toNat*1] 1 false (i6 (rd r5 x38.toNat)):=(.row (llt hc49) rfl (.nil rfl rfl rfl))
   refine vq (i6 (rd r5 x38.toNat)) (ld_ref (i:=⟨.int .i64,1,8,(.int .i64 0)⟩) rfl rfl hl50) hl50.c (vr (b8 (IntKind.u8.wrap (rd r5 x38.toNat))) ?_)
   obtain ⟨hc51,h⟩:=ifp_some h
   refine vq (.own 7 [(IntKind.i64.wrap ((IntKind.i64.wrap (Int.tdiv r2 2)) - x38)).toNat] [(IntKind.i64.wrap ((IntKind.i64.wrap (Int.tdiv r2 2)) - x38)).toNat*1]) rfl hc51 ?_
   have hs52:StOk [(IntKind.i64.wrap ((IntKind.i64.wrap (Int.tdiv r2 2)) - x38)).toNat] (eVb x39) [(IntKind.i64.wrap ((IntKind.i64.wrap (Int.tdiv r2 2)) - x38)).toNat*1] 1 (b8 (IntKind.u8.wrap (rd r5 x38.toNat))) (eVb ((vset x39 (IntKind.i64.wrap ((IntKind.i64.wrap (Int.tdiv r2 2)) - x38)).toNat (IntKind.u8.wrap (rd r5 x38.toNat))))):=(.arr (y:=IntKind.u8.wrap (rd r5 x38.toNat)) (vlt x39 hc51) rfl (.nil rfl rfl rfl rfl))
   refine vu .top [(7,bk (eVb ((vset x39 (IntKind.i64.wrap ((IntKind.i64.wrap (Int.tdiv r2 2)) - x38)).toNat (IntKind.u8.wrap (rd r5 x38.toNat))))))] (st_own (i:=⟨.int .u8,1,1,(.int .u8 0)⟩) rfl rfl (fun _=>rfl) rfl hs52) (hs52.c rfl) rfl (a_nil (b_norm (nj ⟨[(4,ow 4),(5,i6 (IntKind.i64.wrap (Int.tdiv r2 2))),(6,eSi64 r5),(7,ow 7),(8,i6 x38)],[(4,bk (eV0)),(7,bk (eVb ((vset x39 (IntKind.i64.wrap ((IntKind.i64.wrap (Int.tdiv r2 2)) - x38)).toNat (IntKind.u8.wrap (rd r5 x38.toNat))))))]⟩ (a_region (vr (i6 x38) (vr (i6 (IntKind.i64.wrap (x38 + 1))) (vr (i6 (IntKind.i64.wrap (x38 + 1))) (a_nil ?_))))))))
   cases h
   exact ag hX47
def spec_IsSquarePoly_L:Live:=[(0,[0,1]),(1,[0,3]),(2,[0,3,6]),(3,[6]),(4,[0,3]),(5,[0,3,7]),(6,[3,8]),(100014,[0,3,6,14])]
noncomputable def spec_IsSquarePoly (a0:Int) (a1:(Vec Int 64)):Option (Bool×Int) :=
 (Option.bind (spec_l10Case a0 a1) fun r2=>(if (r2 != 0) then (some (false,r2)) else (Option.bind (spec_l10Part a0 a1) fun r6=>(Option.bind (spec_l01Times a0 r6 r6) fun r11=>(some (((decide (r11.1=a1)),0)))))))
theorem spec_IsSquarePoly_ok (a0:Int) (a1:(Vec Int 64)) (r:(Bool×Int)) (h:spec_IsSquarePoly a0 a1=some r):Den Tryz.prog 8 [(i6 a0),(eVb a1)] { r:=(.tuple [(.bool r.1),(i6 r.2)]) }:=by
 refine dd (rs:=[(.bool r.1),(i6 r.2)]) (L:=spec_IsSquarePoly_L) good [] Tryz.func8 Tryz.ntmps8 ?_
 refine ns ⟨[(0,i6 a0),(1,eVb a1)],[]⟩ ?_
 refine sr (vo 1300 (eVb a1) rfl rfl (vr (.bool false) (vr (i6 0) (nk ⟨[(0,i6 a0),(3,ow 3)],[(3,bk (eVb a1))]⟩ (a_seq (sr (vr (i6 a0) (vl (eVb a1) rfl rfl rfl rfl rfl rfl ?_))))))))
 obtain ⟨r2,hr3,h⟩:=bind_some h
 refine ca (spec_l10Case_ok a0 a1 r2 hr3) (vr (i6 r2) (nk ⟨[(0,i6 a0),(3,ow 3),(6,i6 r2)],[(3,bk (eVb a1))]⟩ (sr (vr (i6 r2) (vr (.bool (r2 != 0)) (nk ⟨[(0,i6 a0),(3,ow 3),(6,i6 r2),(14,.bool (r2 != 0))],[(3,bk (eVb a1))]⟩ ?_))))))
 cases hb4:(r2 != 0)
 ·have h:=ite_f hb4 h
  refine a_cond_f rfl (a_skip (nj ⟨[(0,i6 a0),(3,ow 3)],[(3,bk (eVb a1))]⟩ (sr (vr (i6 a0) (vl (eVb a1) rfl rfl rfl rfl rfl rfl ?_)))))
  obtain ⟨r6,hr7,h⟩:=bind_some h
  refine ca (spec_l10Part_ok a0 a1 r6 hr7) (vo 1700 (eV0) rfl rfl (vs (eVb r6) rfl rfl (fun _=>rfl) rfl rfl rfl rfl rfl rfl (nk ⟨[(0,i6 a0),(3,ow 3),(7,ow 7)],[(3,bk (eVb a1)),(7,bk (eVb r6))]⟩ (sr (vr (i6 a0) (vl (eVb r6) rfl rfl rfl rfl rfl rfl (vl (eVb r6) rfl rfl rfl rfl rfl rfl ?_)))))))
  obtain ⟨r11,hr12,h⟩:=bind_some h
  refine ca (spec_l01Times_ok a0 r6 r6 r11 hr12) (vr (.tuple [(eVb r11.1),(.bool r11.2)]) (vb (eVb r11.1) rfl rfl (vb (.bool r11.2) rfl rfl (vo 1800 (eV0) rfl rfl (vs (eVb r11.1) rfl rfl (fun _=>rfl) rfl rfl rfl rfl rfl rfl (vr (.bool r11.2) (nk ⟨[(3,ow 3),(8,ow 8)],[(3,bk (eVb a1)),(8,bk (eVb r11.1))]⟩ (sr (vl (eVb r11.1) rfl rfl rfl rfl rfl rfl ?_)))))))))
  refine vl (eVb a1) rfl rfl rfl rfl rfl rfl (vq (.bool ((decide (r11.1=a1)))) (eqa_run (f:=(AV.int .u8)) (a:=r11.1.1) (b:=a1.1) rfl rfl (eqb_vec (fun _ _=>eqb_int _ _) r11.1 a1)) (cmp_arr (g:=8) (f:=(AV.int .u8)) (x:=r11.1) (y:=a1) rfl rfl rfl (fun _ _=>rfl) (fun _ _=>cmp_int rfl)) (vr (.bool ((decide (r11.1=a1)))) (vr (i6 0) (nx _ rfl (a_ret ?_)))))
  refine ⟨.inr rfl,?_⟩
  rw [Tryz.results8]
  cases h
  exact ⟨_,_,_,_,_,rfl,trivial,.inl ⟨rfl,.inl rfl⟩,rfl,⟨_,_,_,_,_,rfl,trivial,.inl ⟨rfl,.inl rfl⟩,rfl,rfl⟩⟩
 ·have h:=ite_t hb4 h
  refine a_cond_t rfl (sr (vr (i6 r2) (vr (.bool false) (vr (i6 r2) (nx _ rfl (a_ret (t_ret ?_)))))))
  refine ⟨.inr rfl,?_⟩
  rw [Tryz.results8]
  cases h
  exact ⟨_,_,_,_,_,rfl,trivial,.inl ⟨rfl,.inl rfl⟩,rfl,⟨_,_,_,_,_,rfl,trivial,.inl ⟨rfl,.inl rfl⟩,rfl,rfl⟩⟩
def impl_row_fits_L:Live:=[(0,[0]),(1,[0])]
noncomputable def impl_row_fits (a0:(List Int)):Option Bool :=
 (Option.bind (impl_row_degree a0) fun r1=>(some ((decide (r1≤63)))))
theorem impl_row_fits_ok (a0:(List Int)) (r:Bool) (h:impl_row_fits a0=some r):Den Tryz.prog 112 [(eSi64 a0)] { r:=(.bool r) }:=by
 refine dd (rs:=[(.bool r)]) (L:=impl_row_fits_L) good [] Tryz.func112 Tryz.ntmps112 ?_
 refine ns ⟨[(0,eSi64 a0)],[]⟩ ?_
 refine sr (vr (.bool false) (nk ⟨[(0,eSi64 a0)],[]⟩ (sr (vr (eSi64 a0) ?_))))
 obtain ⟨r1,hr2,h⟩:=bind_some h
 refine ca (impl_row_degree_ok a0 r1 hr2) (vr (.bool ((decide (r1≤63)))) (vr (.bool ((decide (r1≤63)))) (nx _ rfl (a_ret ?_))))
 refine ⟨.inr rfl,?_⟩
 rw [Tryz.results112]
 cases h
 exact ⟨_,_,_,_,_,rfl,trivial,.inl ⟨rfl,.inl rfl⟩,rfl,rfl⟩
def impl_row_poly_L:Live:=[(0,[0]),(1,[0,2]),(2,[0,2,3]),(3,[2,3,6,7,8]),(4,[2,3,6,7,8]),(5,[2,3,4,5,6,7,8]),(6,[2,3,6,7,8]),(7,[2,3]),(100009,[2,3,6,7,8,9])]
noncomputable def impl_row_poly_l1 (a0:(List Int)) (x31:Int) (x32:(Vec Int 64)):Option ((Int×(Vec Int 64))⊕(Vec Int 64)) :=
 (if (decide (x31 < (a0.length:Int))) then (ifp (0≤x31∧x31 < ((a0.length:Nat):Int)) ((ifp (0≤x31∧x31 < ((64:Nat):Int)) ((some (.inl ((IntKind.i64.wrap (x31 + 1),(vset x32 x31.toNat (IntKind.u8.wrap (rd a0 x31.toNat))))))))))) else (some (.inr x32)))
noncomputable def impl_row_poly (a0:(List Int)):Option (Vec Int 64) :=
 (Option.bind (α:=(Vec Int 64)) ((loopM (fun s:(Int×(Vec Int 64))=>impl_row_poly_l1 a0 s.1 s.2) (0,vrep 64 (0:Int)))) fun x22=>(some x22))
theorem impl_row_poly_ok (a0:(List Int)) (r:(Vec Int 64)) (h:impl_row_poly a0=some r):Den Tryz.prog 113 [(eSi64 a0)] { r:=(eVb r) }:=by
 refine dd (rs:=[(eVb r)]) (L:=impl_row_poly_L) good [] Tryz.func113 Tryz.ntmps113 ?_
 refine ns ⟨[(0,eSi64 a0)],[]⟩ ?_
 refine sr (vo 1200 (eV0) rfl rfl (nk ⟨[(0,eSi64 a0),(2,ow 2)],[(2,bk (eV0))]⟩ (sr (vo 1300 (eV0) rfl rfl (nk ⟨[(0,eSi64 a0),(2,ow 2),(3,ow 3)],[(2,bk (eV0)),(3,bk (eV0))]⟩ ?_)))))
 obtain ⟨y23,hy24,hk25⟩:=bind_some h
 clear h
 refine a_join (emb:=fun (s:(Vec Int 64))=>⟨[(2,ow 2),(3,ow 3)],[(2,bk (eV0)),(3,bk (eVb s))]⟩) (pre:=fun s=>s=y23) ?_ ?_
 ·rintro x22 rfl
  have h:=hk25
  refine ns ⟨[(2,ow 2),(3,ow 3)],[(2,bk (eV0)),(3,bk (eVb x22))]⟩ (sr (vl (eVb x22) rfl rfl rfl rfl rfl rfl (vs (eVb x22) rfl rfl (fun _=>rfl) rfl rfl rfl rfl rfl rfl (nx _ rfl (a_ret ?_)))))
  have hl49:LdOk [] (eVb x22) [] 64 true (eVb x22):=(.nil rfl rfl rfl)
  refine ⟨.inr rfl,?_⟩
  rw [Tryz.results113]
  cases h
  exact ⟨_,_,_,_,_,ld_own (i:=⟨.arr 64 5,64,64,(eVb (vrep 64 (0:Int)))⟩) rfl rfl rfl hl49,hl49.c,.inl ⟨rfl,.inl rfl⟩,rfl,rfl⟩
 ·have h:=hy24
  refine sr (vr (eSi64 a0) (vq (i6 (a0.length:Int)) (len_run rfl rfl) trivial (vr (i6 0) (nk ⟨[(2,ow 2),(3,ow 3),(6,eSi64 a0),(7,i6 (a0.length:Int)),(8,i6 0)],[(2,bk (eV0)),(3,bk (eV0))]⟩ (a_block ?_)))))
  refine a_loop (emb:=fun (s:(Int×(Vec Int 64)))=>⟨[(2,ow 2),(3,ow 3),(6,eSi64 a0),(7,i6 (a0.length:Int)),(8,i6 s.1)],[(2,bk (eV0)),(3,bk (eVb s.2))]⟩) (body:=(fun s:(Int×(Vec Int 64))=>impl_row_poly_l1 a0 s.1 s.2)) (G:=fun q=>some q=some y23) h rfl ?_ (by kernel_rfl)
  rintro X38 ⟨x31,x32⟩ x39 h hX40
  have h:impl_row_poly_l1 a0 x31 x32=some x39:=h
  refine ns ⟨[(2,ow 2),(3,ow 3),(6,eSi64 a0),(7,i6 (a0.length:Int)),(8,i6 x31)],[(2,bk (eV0)),(3,bk (eVb x32))]⟩ (sr (vr (.bool ((decide (x31 < (a0.length:Int))))) (nk ⟨[(2,ow 2),(3,ow 3),(6,eSi64 a0),(7,i6 (a0.length:Int)),(8,i6 x31),(9,.bool ((decide (x31 < (a0.length:Int)))))],[(2,bk (eV0)),(3,bk (eVb x32))]⟩ (a_seq ?_))))
  cases hb41:(decide (x31 < (a0.length:Int)))
  ·have h:=ite_f hb41 h
   refine a_cond_f rfl (a_exit (t_exit ?_))
   cases h
   have h:=hX40
   refine t_exit (b_exit ?_)
   exact jl x32 h
  ·have h:=ite_t hb41 h
   refine a_cond_t rfl (a_skip (nj ⟨[(2,ow 2),(3,ow 3),(6,eSi64 a0),(7,i6 (a0.length:Int)),(8,i6 x31)],[(2,bk (eV0)),(3,bk (eVb x32))]⟩ (a_seq (a_block (sr (vr (i6 x31) ?_))))))
   obtain ⟨hc42,h⟩:=ifp_some h
   refine vq (.ref (.row 1 (a0.map (AV.int .i64))) [x31.toNat] [x31.toNat*1]) rfl (lmap hc42) ?_
   have hl43:LdOk [x31.toNat] (.row 1 (a0.map (AV.int .i64))) [x31.toNat*1] 1 false (i6 (rd a0 x31.toNat)):=(.row (llt hc42) rfl (.nil rfl rfl rfl))
   refine vq (i6 (rd a0 x31.toNat)) (ld_ref (i:=⟨.int .i64,1,8,(.int .i64 0)⟩) rfl rfl hl43) hl43.c (vr (i6 x31) (vr (i6 (rd a0 x31.toNat)) (nk ⟨[(2,ow 2),(3,ow 3),(4,i6 x31),(5,i6 (rd a0 x31.toNat)),(6,eSi64 a0),(7,i6 (a0.length:Int)),(8,i6 x31)],[(2,bk (eV0)),(3,bk (eVb x32))]⟩ (a_region (vr (i6 x31) (vr (i6 (rd a0 x31.toNat)) (vr (b8 (IntKind.u8.wrap (rd a0 x31.toNat))) ?_)))))))
   obtain ⟨hc44,h⟩:=ifp_some h
   refine vq (.own 3 [x31.toNat] [x31.toNat*1]) rfl hc44 ?_
   have hs45:StOk [x31.toNat] (eVb x32) [x31.toNat*1] 1 (b8 (IntKind.u8.wrap (rd a0 x31.toNat))) (eVb ((vset x32 x31.toNat (IntKind.u8.wrap (rd a0 x31.toNat))))):=(.arr (y:=IntKind.u8.wrap (rd a0 x31.toNat)) (vlt x32 hc44) rfl (.nil rfl rfl rfl rfl))
   refine vu .top [(3,bk (eVb ((vset x32 x31.toNat (IntKind.u8.wrap (rd a0 x31.toNat))))))] (st_own (i:=⟨.int .u8,1,1,(.int .u8 0)⟩) rfl rfl (fun _=>rfl) rfl hs45) (hs45.c rfl) rfl (a_nil (b_norm (nj ⟨[(2,ow 2),(3,ow 3),(6,eSi64 a0),(7,i6 (a0.length:Int)),(8,i6 x31)],[(2,bk (eV0)),(3,bk (eVb ((vset x32 x31.toNat (IntKind.u8.wrap (rd a0 x31.toNat))))))]⟩ (a_region (vr (i6 (IntKind.i64.wrap (x31 + 1))) (vr (i6 (IntKind.i64.wrap (x31 + 1))) (a_nil ?_)))))))
   cases h
   exact ag hX40
end Go.Proofs.YtkbnegemdlnncaaGreat
