/- Functions of the program: plain Lean functions, and that the program computes them. Printed by gen.py. -/
import Derived.Test.YtebfhlnfmkhmcaaFnT
namespace Go.Proofs.Ytebfhlnfmkhmcaa
open Go.Abs Go.Proofs
set_option linter.unusedSimpArgs false
set_option linter.unusedVariables false
set_option maxHeartbeats 16000000
attribute [local irreducible] Abs.acode Abs.aops Abs.aopsT Abs.thenK Abs.blockK

def laws_toPoly_L:Live:=[(0,[0]),(1,[1,2]),(2,[1,2,3]),(3,[1,2,3,4]),(4,[1,2,3,4]),(5,[1,2,3,4]),(6,[2,3]),(100006,[1,2,3,4,6])]
noncomputable def laws_toPoly_l1 (a0:(Vec Int 64)) (x31:Int) (x32:(Vec Int 64)):Option ((Int×(Vec Int 64))⊕(Vec Int 64)) :=
 (if (decide (x31 < 64)) then (ifp (0≤x31∧x31 < ((64:Nat):Int)) ((ifp (0≤x31∧x31 < ((64:Nat):Int)) ((some (.inl ((IntKind.i64.wrap (x31 + 1),(vset x32 x31.toNat (rd a0.1 x31.toNat)))))))))) else (some (.inr x32)))
noncomputable def laws_toPoly (a0:(Vec Int 64)):Option (Vec Int 64) :=
 (Option.bind (α:=(Vec Int 64)) ((loopM (fun s:(Int×(Vec Int 64))=>laws_toPoly_l1 a0 s.1 s.2) (0,vrep 64 (0:Int)))) fun x22=>(some x22))
theorem laws_toPoly_ok (a0:(Vec Int 64)) (r:(Vec Int 64)) (h:laws_toPoly a0=some r):Den Try.prog 7 [(eVb a0)] { r:=(eVb r) }:=by
 refine dd (rs:=[(eVb r)]) (L:=laws_toPoly_L) good [] Try.func7 Try.ntmps7 ?_
 refine ns ⟨[(0,eVb a0)],[]⟩ ?_
 refine sr (vo 1100 (eVb a0) rfl rfl (vo 1200 (eV0) rfl rfl (nk ⟨[(1,ow 1),(2,ow 2)],[(1,bk (eVb a0)),(2,bk (eV0))]⟩ (sr (vo 1300 (eV0) rfl rfl (nk ⟨[(1,ow 1),(2,ow 2),(3,ow 3)],[(1,bk (eVb a0)),(2,bk (eV0)),(3,bk (eV0))]⟩ ?_))))))
 obtain ⟨y23,hy24,hk25⟩:=bind_some h
 clear h
 refine a_join (emb:=fun (s:(Vec Int 64))=>⟨[(2,ow 2),(3,ow 3)],[(2,bk (eV0)),(3,bk (eVb s))]⟩) (pre:=fun s=>s=y23) ?_ ?_
 ·rintro x22 rfl
  have h:=hk25
  refine ns ⟨[(2,ow 2),(3,ow 3)],[(2,bk (eV0)),(3,bk (eVb x22))]⟩ (sr (vl (eVb x22) rfl rfl rfl rfl rfl rfl (vs (eVb x22) rfl rfl (fun _=>rfl) rfl rfl rfl rfl rfl rfl (nx _ rfl (a_ret ?_)))))
  have hl49:LdOk [] (eVb x22) [] 64 true (eVb x22):=(.nil rfl rfl rfl)
  refine ⟨.inr rfl,?_⟩
  rw [Try.results7]
  cases h
  exact ⟨_,_,_,_,_,ld_own (i:=⟨.arr 64 5,64,64,(eVb (vrep 64 (0:Int)))⟩) rfl rfl rfl hl49,hl49.c,.inl ⟨rfl,.inl rfl⟩,rfl,rfl⟩
 ·have h:=hy24
  refine sr (vr (i6 0) (nk ⟨[(1,ow 1),(2,ow 2),(3,ow 3),(4,i6 0)],[(1,bk (eVb a0)),(2,bk (eV0)),(3,bk (eV0))]⟩ (a_block ?_)))
  refine a_loop (emb:=fun (s:(Int×(Vec Int 64)))=>⟨[(1,ow 1),(2,ow 2),(3,ow 3),(4,i6 s.1)],[(1,bk (eVb a0)),(2,bk (eV0)),(3,bk (eVb s.2))]⟩) (body:=(fun s:(Int×(Vec Int 64))=>laws_toPoly_l1 a0 s.1 s.2)) (G:=fun q=>some q=some y23) h rfl ?_ (by kernel_rfl)
  rintro X38 ⟨x31,x32⟩ x39 h hX40
  have h:laws_toPoly_l1 a0 x31 x32=some x39:=h
  refine ns ⟨[(1,ow 1),(2,ow 2),(3,ow 3),(4,i6 x31)],[(1,bk (eVb a0)),(2,bk (eV0)),(3,bk (eVb x32))]⟩ (a_seq (sr (vr (i6 x31) (vr (.bool ((decide (x31 < 64)))) (nk ⟨[(1,ow 1),(2,ow 2),(3,ow 3),(4,i6 x31),(6,.bool ((decide (x31 < 64))))],[(1,bk (eVb a0)),(2,bk (eV0)),(3,bk (eVb x32))]⟩ ?_)))))
  cases hb41:(decide (x31 < 64))
  ·have h:=ite_f hb41 h
   refine a_cond_f rfl (a_exit (t_exit ?_))
   cases h
   have h:=hX40
   refine t_exit (b_exit ?_)
   exact jl x32 h
  ·have h:=ite_t hb41 h
   refine a_cond_t rfl (a_skip (nj ⟨[(1,ow 1),(2,ow 2),(3,ow 3),(4,i6 x31)],[(1,bk (eVb a0)),(2,bk (eV0)),(3,bk (eVb x32))]⟩ (a_seq (a_block (a_region (vr (i6 x31) (vr (i6 x31) ?_)))))))
   obtain ⟨hc42,h⟩:=ifp_some h
   refine vq (.own 1 [x31.toNat] [x31.toNat*1]) rfl hc42 ?_
   have hl43:LdOk [x31.toNat] (eVb a0) [x31.toNat*1] 1 false (b8 (rd a0.1 x31.toNat)):=(.arr (vlt a0 hc42) rfl (.nil rfl rfl rfl))
   refine vq (b8 (rd a0.1 x31.toNat)) (ld_own (i:=⟨.int .u8,1,1,(.int .u8 0)⟩) rfl rfl rfl hl43) hl43.c ?_
   obtain ⟨hc44,h⟩:=ifp_some h
   refine vq (.own 3 [x31.toNat] [x31.toNat*1]) rfl hc44 ?_
   have hs45:StOk [x31.toNat] (eVb x32) [x31.toNat*1] 1 (b8 (rd a0.1 x31.toNat)) (eVb ((vset x32 x31.toNat (rd a0.1 x31.toNat)))):=(.arr (y:=(rd a0.1 x31.toNat)) (vlt x32 hc44) rfl (.nil rfl rfl rfl rfl))
   refine vu .top [(3,bk (eVb ((vset x32 x31.toNat (rd a0.1 x31.toNat)))))] (st_own (i:=⟨.int .u8,1,1,(.int .u8 0)⟩) rfl rfl (fun _=>rfl) rfl hs45) (hs45.c rfl) rfl (a_nil (b_norm (nj ⟨[(1,ow 1),(2,ow 2),(3,ow 3),(4,i6 x31)],[(1,bk (eVb a0)),(2,bk (eV0)),(3,bk (eVb ((vset x32 x31.toNat (rd a0.1 x31.toNat)))))]⟩ (a_region (vr (i6 x31) (vr (i6 (IntKind.i64.wrap (x31 + 1))) (vr (i6 (IntKind.i64.wrap (x31 + 1))) (a_nil ?_))))))))
   cases h
   exact ag hX40
def spec_l01Prime_L:Live:=[(0,[0]),(1,[0])]
noncomputable def spec_l01Prime (a0:Int):Option Bool :=
 (if (a0 == 2) then (some true) else (if (a0 == 3) then (some true) else (if (a0 == 5) then (some true) else (some (a0 == 7)))))
theorem spec_l01Prime_ok (a0:Int) (r:Bool) (h:spec_l01Prime a0=some r):Den Try.prog 75 [(i6 a0)] { r:=(.bool r) }:=by
 refine dd (rs:=[(.bool r)]) (L:=spec_l01Prime_L) good [] Try.func75 Try.ntmps75 ?_
 refine ns ⟨[(0,i6 a0)],[]⟩ ?_
 refine sr (vr (.bool false) (nk ⟨[(0,i6 a0)],[]⟩ (sr (vr (i6 a0) (vr (.bool (a0 == 2)) (vr (.bool (a0 == 2)) ?_))))))
 cases hb1:(a0 == 2)
 ·have h:=ite_f hb1 h
  refine gp (i6 a0) rfl rfl (gp (.bool (a0 == 3)) rfl rfl (vr (.bool (a0 == 3)) (vr (.bool (a0 == 3)) ?_)))
  cases hb2:(a0 == 3)
  ·have h:=ite_f hb2 h
   refine gp (i6 a0) rfl rfl (gp (.bool (a0 == 5)) rfl rfl (vr (.bool (a0 == 5)) (vr (.bool (a0 == 5)) ?_)))
   cases hb3:(a0 == 5)
   ·have h:=ite_f hb3 h
    refine gp (i6 a0) rfl rfl (gp (.bool (a0 == 7)) rfl rfl (vr (.bool (a0 == 7)) (vr (.bool (a0 == 7)) (nx _ rfl (a_ret ?_)))))
    refine ⟨.inr rfl,?_⟩
    rw [Try.results75]
    cases h
    exact ⟨_,_,_,_,_,rfl,trivial,.inl ⟨rfl,.inl rfl⟩,rfl,rfl⟩
   ·have h:=ite_t hb3 h
    refine a_gskip rfl (a_gskip rfl (vr (.bool true) (vr (.bool true) (nx _ rfl (a_ret ?_)))))
    refine ⟨.inr rfl,?_⟩
    rw [Try.results75]
    cases h
    exact ⟨_,_,_,_,_,rfl,trivial,.inl ⟨rfl,.inl rfl⟩,rfl,rfl⟩
  ·have h:=ite_t hb2 h
   refine a_gskip rfl (a_gskip rfl (vr (.bool true) (vr (.bool true) (a_gskip rfl (a_gskip rfl (vr (.bool true) (vr (.bool true) (nx _ rfl (a_ret ?_)))))))))
   refine ⟨.inr rfl,?_⟩
   rw [Try.results75]
   cases h
   exact ⟨_,_,_,_,_,rfl,trivial,.inl ⟨rfl,.inl rfl⟩,rfl,rfl⟩
 ·have h:=ite_t hb1 h
  refine a_gskip rfl (a_gskip rfl (vr (.bool true) (vr (.bool true) (a_gskip rfl (a_gskip rfl (vr (.bool true) (vr (.bool true) (a_gskip rfl (a_gskip rfl ?_)))))))))
  refine vr (.bool true) (vr (.bool true) (nx _ rfl (a_ret ?_)))
  refine ⟨.inr rfl,?_⟩
  rw [Try.results75]
  cases h
  exact ⟨_,_,_,_,_,rfl,trivial,.inl ⟨rfl,.inl rfl⟩,rfl,rfl⟩
def spec_l01Is_L:Live:=[(0,[0,1]),(1,[0,3]),(2,[0,3,5]),(3,[0,3,5]),(4,[0,3,5]),(5,[]),(6,[0]),(100007,[0,3,5,7]),(100015,[0,3,5,15])]
noncomputable def spec_l01Is_l1 (a1:(Vec Int 64)) (a0:Int) (x29:Int):Option (Int⊕(Unit⊕Bool)) :=
 (if (decide (x29 < 64)) then (ifp (0≤x29∧x29 < ((64:Nat):Int)) ((if (decide ((IntKind.i64.wrap (rd a1.1 x29.toNat)) ≥ a0)) then (some (.inr (.inr false))) else (some (.inl (IntKind.i64.wrap (x29 + 1))))))) else (some (.inr (((.inl ()))))))
noncomputable def spec_l01Is (a0:Int) (a1:(Vec Int 64)):Option Bool :=
 (Option.bind (α:=(Unit⊕Bool)) ((loopM (fun s:Int=>spec_l01Is_l1 a1 a0 s) 0)) fun z=>match z with | .inl _=>(Option.bind (spec_l01Prime a0) fun r42=>(some r42)) | .inr r44=>(some r44))
theorem spec_l01Is_ok (a0:Int) (a1:(Vec Int 64)) (r:Bool) (h:spec_l01Is a0 a1=some r):Den Try.prog 37 [(i6 a0),(eVb a1)] { r:=(.bool r) }:=by
 refine dd (rs:=[(.bool r)]) (L:=spec_l01Is_L) good [] Try.func37 Try.ntmps37 ?_
 refine ns ⟨[(0,i6 a0),(1,eVb a1)],[]⟩ ?_
 refine sr (vo 1300 (eVb a1) rfl rfl (vr (.bool false) (nk ⟨[(0,i6 a0),(3,ow 3)],[(3,bk (eVb a1))]⟩ ?_)))
 obtain ⟨y20,hy21,hk22⟩:=bind_some h
 clear h
 refine a_join (emb:=fun (s:Unit)=>⟨[(0,i6 a0)],[]⟩) (pre:=fun s=>(.inl s)=y20) ?_ ?_
 ·rintro _ rfl
  have h:=hk22
  refine ns ⟨[(0,i6 a0)],[]⟩ (sr (vr (i6 a0) ?_))
  obtain ⟨r42,hr43,h⟩:=bind_some h
  refine ca (spec_l01Prime_ok a0 r42 hr43) (vr (.bool r42) (nx _ rfl (a_ret ?_)))
  refine ⟨.inr rfl,?_⟩
  rw [Try.results37]
  cases h
  exact ⟨_,_,_,_,_,rfl,trivial,.inl ⟨rfl,.inl rfl⟩,rfl,rfl⟩
 ·have h:=hy21
  refine sr (vr (i6 0) (nk ⟨[(0,i6 a0),(3,ow 3),(5,i6 0)],[(3,bk (eVb a1))]⟩ (a_block ?_)))
  refine a_loop (emb:=fun (s:Int)=>⟨[(0,i6 a0),(3,ow 3),(5,i6 s)],[(3,bk (eVb a1))]⟩) (body:=(fun s:Int=>spec_l01Is_l1 a1 a0 s)) (G:=fun q=>some q=some y20) h rfl ?_ (by kernel_rfl)
  rintro X34 x29 x35 h hX36
  have h:spec_l01Is_l1 a1 a0 x29=some x35:=h
  refine ns ⟨[(0,i6 a0),(3,ow 3),(5,i6 x29)],[(3,bk (eVb a1))]⟩ (a_seq (sr (vr (i6 x29) (vr (.bool ((decide (x29 < 64)))) (nk ⟨[(0,i6 a0),(3,ow 3),(5,i6 x29),(7,.bool ((decide (x29 < 64))))],[(3,bk (eVb a1))]⟩ ?_)))))
  cases hb37:(decide (x29 < 64))
  ·have h:=ite_f hb37 h
   refine a_cond_f rfl (a_exit (t_exit ?_))
   cases h
   have h:=hX36
   refine t_exit (b_exit ?_)
   exact jl () h
  ·have h:=ite_t hb37 h
   refine a_cond_t rfl (a_skip (nj ⟨[(0,i6 a0),(3,ow 3),(5,i6 x29)],[(3,bk (eVb a1))]⟩ (a_seq (a_block (sr (vr (i6 x29) ?_))))))
   obtain ⟨hc38,h⟩:=ifp_some h
   refine vq (.own 3 [x29.toNat] [x29.toNat*1]) rfl hc38 ?_
   have hl39:LdOk [x29.toNat] (eVb a1) [x29.toNat*1] 1 false (b8 (rd a1.1 x29.toNat)):=(.arr (vlt a1 hc38) rfl (.nil rfl rfl rfl))
   refine vq (b8 (rd a1.1 x29.toNat)) (ld_own (i:=⟨.int .u8,1,1,(.int .u8 0)⟩) rfl rfl rfl hl39) hl39.c (vr (i6 (IntKind.i64.wrap (rd a1.1 x29.toNat))) (vr (i6 a0) (vr (.bool ((decide ((IntKind.i64.wrap (rd a1.1 x29.toNat)) ≥ a0)))) (nk ⟨[(0,i6 a0),(3,ow 3),(5,i6 x29),(15,.bool ((decide ((IntKind.i64.wrap (rd a1.1 x29.toNat)) ≥ a0))))],[(3,bk (eVb a1))]⟩ ?_))))
   cases hb40:(decide ((IntKind.i64.wrap (rd a1.1 x29.toNat)) ≥ a0))
   ·have h:=ite_f hb40 h
    refine a_cond_f rfl (a_skip (b_norm (nj ⟨[(0,i6 a0),(3,ow 3),(5,i6 x29)],[(3,bk (eVb a1))]⟩ (a_region (vr (i6 x29) (vr (i6 (IntKind.i64.wrap (x29 + 1))) (vr (i6 (IntKind.i64.wrap (x29 + 1))) (a_nil ?_))))))))
    cases h
    exact ag hX36
   ·have h:=ite_t hb40 h
    refine a_cond_t rfl (sr (vr (.bool false) (nx _ rfl (a_ret (b_ret (t_ret ?_))))))
    cases h
    have h:=hX36
    refine t_ret (b_ret (t_ret ?_))
    cases h
    have h:=hk22
    refine ⟨.inr rfl,?_⟩
    rw [Try.results37]
    cases h
    exact ⟨_,_,_,_,_,rfl,trivial,.inl ⟨rfl,.inl rfl⟩,rfl,rfl⟩
def spec_l01Deg_L:Live:=[(0,[0]),(1,[1]),(2,[1,3]),(3,[1,3]),(4,[3]),(100011,[1,3,11])]
noncomputable def spec_l01Deg_l1 (a0:(Vec Int 64)) (x54:Int):Option (Int⊕Int) :=
 (Option.bind (α:=Bool) ((if (decide (x54 ≥ 0)) then (ifp (0≤x54∧x54 < ((64:Nat):Int)) ((some (((rd a0.1 x54.toNat) == 0))))) else (some false))) fun x72=>(if x72 then (some (.inl (IntKind.i64.wrap (x54 - 1)))) else (some (.inr x54))))
noncomputable def spec_l01Deg (a0:(Vec Int 64)):Option Int :=
 (Option.bind (α:=Int) ((loopM (fun s:Int=>spec_l01Deg_l1 a0 s) 63)) fun x39=>(some x39))
theorem spec_l01Deg_ok (a0:(Vec Int 64)) (r:Int) (h:spec_l01Deg a0=some r):Den Try.prog 34 [(eVb a0)] { r:=(i6 r) }:=by
 refine dd (rs:=[(i6 r)]) (L:=spec_l01Deg_L) good [] Try.func34 Try.ntmps34 ?_
 refine ns ⟨[(0,eVb a0)],[]⟩ ?_
 refine sr (vo 1100 (eVb a0) rfl rfl (vr (i6 0) (nk ⟨[(1,ow 1)],[(1,bk (eVb a0))]⟩ (sr (vr (i6 63) (nk ⟨[(1,ow 1),(3,i6 63)],[(1,bk (eVb a0))]⟩ ?_))))))
 obtain ⟨y40,hy41,hk42⟩:=bind_some h
 clear h
 refine a_join (emb:=fun (s:Int)=>⟨[(3,i6 s)],[]⟩) (pre:=fun s=>s=y40) ?_ ?_
 ·rintro x39 rfl
  have h:=hk42
  refine ns ⟨[(3,i6 x39)],[]⟩ (sr (vr (i6 x39) (vr (i6 x39) (nx _ rfl (a_ret ?_)))))
  refine ⟨.inr rfl,?_⟩
  rw [Try.results34]
  cases h
  exact ⟨_,_,_,_,_,rfl,trivial,.inl ⟨rfl,.inl rfl⟩,rfl,rfl⟩
 ·have h:=hy41
  refine a_block ?_
  refine a_loop (emb:=fun (s:Int)=>⟨[(1,ow 1),(3,i6 s)],[(1,bk (eVb a0))]⟩) (body:=(fun s:Int=>spec_l01Deg_l1 a0 s)) (G:=fun q=>some q=some y40) h rfl ?_ (by kernel_rfl)
  rintro X66 x54 x67 h hX68
  have h:spec_l01Deg_l1 a0 x54=some x67:=h
  refine ns ⟨[(1,ow 1),(3,i6 x54)],[(1,bk (eVb a0))]⟩ (a_seq ?_)
  obtain ⟨y73,hy74,hk75⟩:=bind_some h
  clear h
  refine a_join (emb:=fun (s:Bool)=>⟨[(1,ow 1),(3,i6 x54),(11,.bool s)],[(1,bk (eVb a0))]⟩) (pre:=fun s=>s=y73) ?_ ?_
  ·rintro x72 rfl
   have h:=hk75
   refine ns ⟨[(1,ow 1),(3,i6 x54),(11,.bool x72)],[(1,bk (eVb a0))]⟩ ?_
   cases hb79:x72
   ·have h:=ite_f hb79 h
    refine a_cond_f rfl (a_exit (t_exit ?_))
    cases h
    have h:=hX68
    refine t_exit (b_exit ?_)
    exact jl x54 h
   ·have h:=ite_t hb79 h
    refine a_cond_t rfl (a_skip (nj ⟨[(1,ow 1),(3,i6 x54)],[(1,bk (eVb a0))]⟩ (a_block (a_region (vr (i6 x54) (vr (i6 (IntKind.i64.wrap (x54 - 1))) (vr (i6 (IntKind.i64.wrap (x54 - 1))) (a_nil (b_norm ?_)))))))))
    cases h
    exact ag hX68
  ·have h:=hy74
   refine a_region (vr (i6 x54) (vr (.bool ((decide (x54 ≥ 0)))) (vr (.bool ((decide (x54 ≥ 0)))) ?_)))
   cases hb76:(decide (x54 ≥ 0))
   ·have h:=ite_f hb76 h
    refine a_gskip rfl (a_gskip rfl (a_gskip rfl (a_gskip rfl (vr (.bool false) (a_nil ?_)))))
    exact jl false h
   ·have h:=ite_t hb76 h
    refine gp (i6 x54) rfl rfl ?_
    obtain ⟨hc77,h⟩:=ifp_some h
    refine gq (.own 1 [x54.toNat] [x54.toNat*1]) rfl rfl hc77 ?_
    have hl78:LdOk [x54.toNat] (eVb a0) [x54.toNat*1] 1 false (b8 (rd a0.1 x54.toNat)):=(.arr (vlt a0 hc77) rfl (.nil rfl rfl rfl))
    refine gq (b8 (rd a0.1 x54.toNat)) rfl (ld_own (i:=⟨.int .u8,1,1,(.int .u8 0)⟩) rfl rfl rfl hl78) hl78.c (gp (.bool (((rd a0.1 x54.toNat) == 0))) rfl rfl (vr (.bool (((rd a0.1 x54.toNat) == 0))) (a_nil ?_)))
    exact jl (((rd a0.1 x54.toNat) == 0)) h
def spec_l01Code_L:Live:=[(0,[0,1]),(1,[0,1]),(2,[]),(3,[0,1]),(4,[0,1,5]),(5,[0,1,5]),(6,[0,1,5]),(7,[]),(8,[]),(100008,[0,1,8]),(100012,[0,1,5,12]),(100021,[0,1,5,21])]
noncomputable def spec_l01Code_l1 (a1:(List (Vec Int 64))) (a0:Int) (x36:Int):Option (Int⊕(Unit⊕Int)) :=
 (if (decide (x36 < (a1.length:Int))) then (ifp (0≤x36∧x36 < ((a1.length:Nat):Int)) ((Option.bind (spec_l01Is a0 (rd a1 x36.toNat)) fun r49=>(if (!r49) then (some (.inr (.inr 1))) else (some (.inl (IntKind.i64.wrap (x36 + 1)))))))) else (some (.inr (((.inl ()))))))
noncomputable def spec_l01Code (a0:Int) (a1:(List (Vec Int 64))):Option Int :=
 (Option.bind (spec_l01Prime a0) fun r1=>(if (!r1) then (some 1) else (Option.bind (α:=(Unit⊕Int)) ((loopM (fun s:Int=>spec_l01Code_l1 a1 a0 s) 0)) fun z=>match z with | .inl _=>(some 0) | .inr r53=>(some r53))))
theorem spec_l01Code_ok (a0:Int) (a1:(List (Vec Int 64))) (r:Int) (h:spec_l01Code a0 a1=some r):Den Try.prog 57 [(i6 a0),(eSA64u8 a1)] { r:=(i6 r) }:=by
 refine dd (rs:=[(i6 r)]) (L:=spec_l01Code_L) good [] Try.func57 Try.ntmps57 ?_
 refine ns ⟨[(0,i6 a0),(1,eSA64u8 a1)],[]⟩ ?_
 refine sr (vr (i6 0) (nk ⟨[(0,i6 a0),(1,eSA64u8 a1)],[]⟩ (a_seq (sr (vr (i6 a0) ?_)))))
 obtain ⟨r1,hr2,h⟩:=bind_some h
 refine ca (spec_l01Prime_ok a0 r1 hr2) (vr (.bool (!r1)) (nk ⟨[(0,i6 a0),(1,eSA64u8 a1),(8,.bool (!r1))],[]⟩ ?_))
 cases hb3:(!r1)
 ·have h:=ite_f hb3 h
  refine a_cond_f rfl (a_skip (nj ⟨[(0,i6 a0),(1,eSA64u8 a1)],[]⟩ ?_))
  obtain ⟨y27,hy28,hk29⟩:=bind_some h
  clear h
  refine a_join (emb:=fun (s:Unit)=>⟨[],[]⟩) (pre:=fun s=>(.inl s)=y27) ?_ ?_
  ·rintro _ rfl
   have h:=hk29
   refine ns ⟨[],[]⟩ (sr (vr (i6 0) (nx _ rfl (a_ret ?_))))
   refine ⟨.inr rfl,?_⟩
   rw [Try.results57]
   cases h
   exact ⟨_,_,_,_,_,rfl,trivial,.inl ⟨rfl,.inl rfl⟩,rfl,rfl⟩
  ·have h:=hy28
   refine sr (vr (i6 0) (nk ⟨[(0,i6 a0),(1,eSA64u8 a1),(5,i6 0)],[]⟩ (a_block ?_)))
   refine a_loop (emb:=fun (s:Int)=>⟨[(0,i6 a0),(1,eSA64u8 a1),(5,i6 s)],[]⟩) (body:=(fun s:Int=>spec_l01Code_l1 a1 a0 s)) (G:=fun q=>some q=some y27) h rfl ?_ (by kernel_rfl)
   rintro X43 x36 x44 h hX45
   have h:spec_l01Code_l1 a1 a0 x36=some x44:=h
   refine ns ⟨[(0,i6 a0),(1,eSA64u8 a1),(5,i6 x36)],[]⟩ (a_seq (sr (vr (i6 x36) (vr (eSA64u8 a1) (vq (i6 (a1.length:Int)) (len_run rfl rfl) trivial (vr (.bool ((decide (x36 < (a1.length:Int))))) (nk ⟨[(0,i6 a0),(1,eSA64u8 a1),(5,i6 x36),(12,.bool ((decide (x36 < (a1.length:Int)))))],[]⟩ ?_)))))))
   cases hb46:(decide (x36 < (a1.length:Int)))
   ·have h:=ite_f hb46 h
    refine a_cond_f rfl (a_exit (t_exit ?_))
    cases h
    have h:=hX45
    refine t_exit (b_exit ?_)
    exact jl () h
   ·have h:=ite_t hb46 h
    refine a_cond_t rfl (a_skip (nj ⟨[(0,i6 a0),(1,eSA64u8 a1),(5,i6 x36)],[]⟩ (a_seq (a_block (sr (vr (i6 a0) (vr (eSA64u8 a1) (vr (i6 x36) ?_))))))))
    obtain ⟨hc47,h⟩:=ifp_some h
    refine vq (.ref (.row 64 (a1.map eVb)) [x36.toNat] [x36.toNat*64]) rfl (lmap hc47) ?_
    have hl48:LdOk [x36.toNat] (.row 64 (a1.map eVb)) [x36.toNat*64] 64 true (eVb (rd a1 x36.toNat)):=(.row (llt hc47) rfl (.nil rfl rfl rfl))
    refine vq (eVb (rd a1 x36.toNat)) (ld_ref (i:=⟨.arr 64 5,64,64,(eVb (vrep 64 (0:Int)))⟩) rfl rfl hl48) hl48.c ?_
    obtain ⟨r49,hr50,h⟩:=bind_some h
    refine ca (spec_l01Is_ok a0 (rd a1 x36.toNat) r49 hr50) (vr (.bool (!r49)) (nk ⟨[(0,i6 a0),(1,eSA64u8 a1),(5,i6 x36),(21,.bool (!r49))],[]⟩ ?_))
    cases hb51:(!r49)
    ·have h:=ite_f hb51 h
     refine a_cond_f rfl (a_skip (b_norm (nj ⟨[(0,i6 a0),(1,eSA64u8 a1),(5,i6 x36)],[]⟩ (a_region (vr (i6 x36) (vr (i6 (IntKind.i64.wrap (x36 + 1))) (vr (i6 (IntKind.i64.wrap (x36 + 1))) (a_nil ?_))))))))
     cases h
     exact ag hX45
    ·have h:=ite_t hb51 h
     refine a_cond_t rfl (sr (vr (i6 1) (nx _ rfl (a_ret (b_ret (t_ret ?_))))))
     cases h
     have h:=hX45
     refine t_ret (b_ret (t_ret ?_))
     cases h
     have h:=hk29
     refine ⟨.inr rfl,?_⟩
     rw [Try.results57]
     cases h
     exact ⟨_,_,_,_,_,rfl,trivial,.inl ⟨rfl,.inl rfl⟩,rfl,rfl⟩
 ·have h:=ite_t hb3 h
  refine a_cond_t rfl (sr (vr (i6 1) (nx _ rfl (a_ret (t_ret ?_)))))
  refine ⟨.inr rfl,?_⟩
  rw [Try.results57]
  cases h
  exact ⟨_,_,_,_,_,rfl,trivial,.inl ⟨rfl,.inl rfl⟩,rfl,rfl⟩
def spec_DerivativeOf_L:Live:=[(0,[0,1]),(1,[0,3,4]),(2,[0,3,4,6]),(3,[4,6]),(4,[0,3,4]),(5,[0,3,4,7]),(6,[0,3,4,7,8]),(7,[0,3,4,7,8]),(8,[0,3,4,7,8]),(9,[4,7]),(100014,[0,3,4,6,14]),(100019,[0,3,4,7,8,19])]
noncomputable def spec_DerivativeOf_l1 (a0:Int) (a1:(Vec Int 64)) (x84:Int) (x85:(Vec Int 64)):Option ((Int×(Vec Int 64))⊕(Vec Int 64)) :=
 (if (decide (x84 < 64)) then (ifp (a0 ≠ 0) ((ifp (0≤x84∧x84 < ((64:Nat):Int)) ((letp (IntKind.i64.wrap ((Int.tmod x84 a0)*(IntKind.i64.wrap (rd a1.1 x84.toNat)))) fun x118=>(ifp (a0 ≠ 0) ((ifp (0≤IntKind.i64.wrap (x84 - 1)∧IntKind.i64.wrap (x84 - 1) < ((64:Nat):Int)) ((some (.inl ((IntKind.i64.wrap (x84 + 1),(vset x85 (IntKind.i64.wrap (x84 - 1)).toNat (IntKind.u8.wrap (Int.tmod x118 a0)))))))))))))))) else (some (.inr x85)))
noncomputable def spec_DerivativeOf (a0:Int) (a1:(Vec Int 64)):Option ((Vec Int 64)×Int) :=
 (Option.bind (spec_l01Code a0 ([a1])) fun r2=>(if (r2 != 0) then (some (((vrep 64 (0:Int)),r2))) else (Option.bind (α:=(Vec Int 64)) ((loopM (fun s:(Int×(Vec Int 64))=>spec_DerivativeOf_l1 a0 a1 s.1 s.2) (1,vrep 64 (0:Int)))) fun x63=>(some (x63,0)))))
theorem spec_DerivativeOf_ok (a0:Int) (a1:(Vec Int 64)) (r:((Vec Int 64)×Int)) (h:spec_DerivativeOf a0 a1=some r):Den Try.prog 38 [(i6 a0),(eVb a1)] { r:=(.tuple [(eVb r.1),(i6 r.2)]) }:=by
 refine dd (rs:=[(eVb r.1),(i6 r.2)]) (L:=spec_DerivativeOf_L) good [] Try.func38 Try.ntmps38 ?_
 refine ns ⟨[(0,i6 a0),(1,eVb a1)],[]⟩ ?_
 refine sr (vo 1300 (eVb a1) rfl rfl (vo 1400 (eV0) rfl rfl (vr (i6 0) (nk ⟨[(0,i6 a0),(3,ow 3),(4,ow 4)],[(3,bk (eVb a1)),(4,bk (eV0))]⟩ (a_seq (sr (vr (i6 a0) (vl (eVb a1) rfl rfl rfl rfl rfl rfl (vq (.sl 64 true (([a1]).map eVb)) rfl ⟨(Nat.le_of_ble_eq_true rfl),(Nat.le_of_ble_eq_true rfl),(all_cons ⟨(Nat.le_of_ble_eq_true rfl),rfl⟩ all_nil)⟩ ?_)))))))))
 obtain ⟨r2,hr3,h⟩:=bind_some h
 refine a_call (args:=[(i6 a0),(.sl 64 true (([a1]).map eVb))]) (u:=[]) (r:=(i6 r2)) rfl rfl (Den.args (spec_l01Code_ok a0 ([a1]) r2 hr3) rfl rfl (.cons (.refl _) (.cons (.loose _) .nil))) rfl (vr (i6 r2) (nk ⟨[(0,i6 a0),(3,ow 3),(4,ow 4),(6,i6 r2)],[(3,bk (eVb a1)),(4,bk (eV0))]⟩ (sr (vr (i6 r2) (vr (.bool (r2 != 0)) (nk ⟨[(0,i6 a0),(3,ow 3),(4,ow 4),(6,i6 r2),(14,.bool (r2 != 0))],[(3,bk (eVb a1)),(4,bk (eV0))]⟩ ?_))))))
 cases hb4:(r2 != 0)
 ·have h:=ite_f hb4 h
  refine a_cond_f rfl (a_skip (nj ⟨[(0,i6 a0),(3,ow 3),(4,ow 4)],[(3,bk (eVb a1)),(4,bk (eV0))]⟩ (sr (vq (eV0) rfl ⟨⟨_,rfl,rfl⟩,all_nil⟩ (vo 1700 (eV0) rfl rfl (vs (eV0) rfl rfl (fun _=>rfl) rfl rfl rfl rfl rfl rfl (nk ⟨[(0,i6 a0),(3,ow 3),(4,ow 4),(7,ow 7)],[(3,bk (eVb a1)),(4,bk (eV0)),(7,bk (eV0))]⟩ ?_)))))))
  obtain ⟨y64,hy65,hk66⟩:=bind_some h
  clear h
  refine a_join (emb:=fun (s:(Vec Int 64))=>⟨[(4,ow 4),(7,ow 7)],[(4,bk (eV0)),(7,bk (eVb s))]⟩) (pre:=fun s=>s=y64) ?_ ?_
  ·rintro x63 rfl
   have h:=hk66
   refine ns ⟨[(4,ow 4),(7,ow 7)],[(4,bk (eV0)),(7,bk (eVb x63))]⟩ (sr (vl (eVb x63) rfl rfl rfl rfl rfl rfl (vs (eVb x63) rfl rfl (fun _=>rfl) rfl rfl rfl rfl rfl rfl (vr (i6 0) (nx _ rfl (a_ret ?_))))))
   have hl126:LdOk [] (eVb x63) [] 64 true (eVb x63):=(.nil rfl rfl rfl)
   refine ⟨.inr rfl,?_⟩
   rw [Try.results38]
   cases h
   exact ⟨_,_,_,_,_,ld_own (i:=⟨.arr 64 5,64,64,(eVb (vrep 64 (0:Int)))⟩) rfl rfl rfl hl126,hl126.c,.inl ⟨rfl,.inl rfl⟩,rfl,⟨_,_,_,_,_,rfl,trivial,.inl ⟨rfl,.inl rfl⟩,rfl,rfl⟩⟩
  ·have h:=hy65
   refine sr (vr (i6 1) (nk ⟨[(0,i6 a0),(3,ow 3),(4,ow 4),(7,ow 7),(8,i6 1)],[(3,bk (eVb a1)),(4,bk (eV0)),(7,bk (eV0))]⟩ (a_block ?_)))
   refine a_loop (emb:=fun (s:(Int×(Vec Int 64)))=>⟨[(0,i6 a0),(3,ow 3),(4,ow 4),(7,ow 7),(8,i6 s.1)],[(3,bk (eVb a1)),(4,bk (eV0)),(7,bk (eVb s.2))]⟩) (body:=(fun s:(Int×(Vec Int 64))=>spec_DerivativeOf_l1 a0 a1 s.1 s.2)) (G:=fun q=>some q=some y64) h rfl ?_ (by kernel_rfl)
   rintro X103 ⟨x84,x85⟩ x104 h hX105
   have h:spec_DerivativeOf_l1 a0 a1 x84 x85=some x104:=h
   refine ns ⟨[(0,i6 a0),(3,ow 3),(4,ow 4),(7,ow 7),(8,i6 x84)],[(3,bk (eVb a1)),(4,bk (eV0)),(7,bk (eVb x85))]⟩ (a_seq (sr (vr (i6 x84) (vr (.bool ((decide (x84 < 64)))) (nk ⟨[(0,i6 a0),(3,ow 3),(4,ow 4),(7,ow 7),(8,i6 x84),(19,.bool ((decide (x84 < 64))))],[(3,bk (eVb a1)),(4,bk (eV0)),(7,bk (eVb x85))]⟩ ?_)))))
   cases hb106:(decide (x84 < 64))
   ·have h:=ite_f hb106 h
    refine a_cond_f rfl (a_exit (t_exit ?_))
    cases h
    have h:=hX105
    refine t_exit (b_exit ?_)
    exact jl x85 h
   ·have h:=ite_t hb106 h
    refine a_cond_t rfl (a_skip (nj ⟨[(0,i6 a0),(3,ow 3),(4,ow 4),(7,ow 7),(8,i6 x84)],[(3,bk (eVb a1)),(4,bk (eV0)),(7,bk (eVb x85))]⟩ (a_seq (a_block (a_draw [⟨[],[],[],[]⟩,⟨[],[],[],[0]⟩,⟨[],[],[],[]⟩,⟨[],[],[],[]⟩,⟨[],[],[],[2,3]⟩,⟨[],[],[],[]⟩,⟨[3],[],[3],[5]⟩,⟨[3],[],[],[5,6]⟩,⟨[],[],[],[5,6,7]⟩,⟨[],[],[],[2,3,4,5,6,7,8]⟩,⟨[],[],[],[]⟩,⟨[],[],[],[2,3,4,5,6,7,8,9,10]⟩,⟨[],[],[],[2,3,4,5,6,7,8,9,10,11]⟩,⟨[7],[],[7],[0,1,2,3,4,5,6,7,8,9,10,11,12]⟩,⟨[7],[7],[],[0,1,2,3,4,5,6,7,8,9,10,11,12,13]⟩] (by kernel_rfl) (dj (i6 x84) rfl (dj (i6 (IntKind.i64.wrap (x84 - 1))) rfl (dj (i6 x84) rfl (dj (i6 a0) rfl ?_)))))))))
    refine d_cons ?_
    obtain ⟨hc115,h⟩:=ifp_some h
    refine vq (i6 (Int.tmod x84 a0)) rfl hc115 (dn (dj (i6 x84) rfl (d_cons ?_)))
    obtain ⟨hc116,h⟩:=ifp_some h
    refine vq (.own 3 [x84.toNat] [x84.toNat*1]) rfl hc116 (dn (d_cons ?_))
    have hl117:LdOk [x84.toNat] (eVb a1) [x84.toNat*1] 1 false (b8 (rd a1.1 x84.toNat)):=(.arr (vlt a1 hc116) rfl (.nil rfl rfl rfl))
    refine vq (b8 (rd a1.1 x84.toNat)) (ld_own (i:=⟨.int .u8,1,1,(.int .u8 0)⟩) rfl rfl rfl hl117) hl117.c (dn (dj (i6 (IntKind.i64.wrap (rd a1.1 x84.toNat))) rfl (d_cons ?_)))
    obtain ⟨x118,hx119,h⟩:=letp_some h
    refine a_val' (v:=(i6 (IntKind.i64.wrap ((Int.tmod x84 a0)*(IntKind.i64.wrap (rd a1.1 x84.toNat)))))) (v':=(i6 x118)) (u:=[]) (u':=[]) rfl (congrArg (fun z=>((i6 z):AV)) hx119) rfl trivial rfl (dn (dj (i6 a0) rfl (d_cons ?_)))
    obtain ⟨hc120,h⟩:=ifp_some h
    refine vq (i6 (Int.tmod x118 a0)) rfl hc120 (dn (dj (b8 (IntKind.u8.wrap (Int.tmod x118 a0))) rfl (d_cons ?_)))
    obtain ⟨hc121,h⟩:=ifp_some h
    refine vq (.own 7 [(IntKind.i64.wrap (x84 - 1)).toNat] [(IntKind.i64.wrap (x84 - 1)).toNat*1]) rfl hc121 (dn (d_cons ?_))
    have hs122:StOk [(IntKind.i64.wrap (x84 - 1)).toNat] (eVb x85) [(IntKind.i64.wrap (x84 - 1)).toNat*1] 1 (b8 (IntKind.u8.wrap (Int.tmod x118 a0))) (eVb ((vset x85 (IntKind.i64.wrap (x84 - 1)).toNat (IntKind.u8.wrap (Int.tmod x118 a0))))):=(.arr (y:=IntKind.u8.wrap (Int.tmod x118 a0)) (vlt x85 hc121) rfl (.nil rfl rfl rfl rfl))
    refine vu .top [(7,bk (eVb ((vset x85 (IntKind.i64.wrap (x84 - 1)).toNat (IntKind.u8.wrap (Int.tmod x118 a0))))))] (st_own (i:=⟨.int .u8,1,1,(.int .u8 0)⟩) rfl rfl (fun _=>rfl) rfl hs122) (hs122.c rfl) rfl (dn (d_nil (b_norm (nj ⟨[(0,i6 a0),(3,ow 3),(4,ow 4),(7,ow 7),(8,i6 x84)],[(3,bk (eVb a1)),(4,bk (eV0)),(7,bk (eVb ((vset x85 (IntKind.i64.wrap (x84 - 1)).toNat (IntKind.u8.wrap (Int.tmod x118 a0))))))]⟩ (a_region (vr (i6 x84) (vr (i6 (IntKind.i64.wrap (x84 + 1))) (vr (i6 (IntKind.i64.wrap (x84 + 1))) (a_nil ?_)))))))))
    cases h
    exact ag hX105
 ·have h:=ite_t hb4 h
  refine a_cond_t rfl (sr (vq (eV0) rfl ⟨⟨_,rfl,rfl⟩,all_nil⟩ (vr (i6 r2) (vs (eV0) rfl rfl (fun _=>rfl) rfl rfl rfl rfl rfl rfl (vr (i6 r2) (nx _ rfl (a_ret (t_ret ?_))))))))
  have hl128:LdOk [] (eV0) [] 64 true (eV0):=(.nil rfl rfl rfl)
  refine ⟨.inr rfl,?_⟩
  rw [Try.results38]
  cases h
  exact ⟨_,_,_,_,_,ld_own (i:=⟨.arr 64 5,64,64,(eVb (vrep 64 (0:Int)))⟩) rfl rfl rfl hl128,hl128.c,.inl ⟨rfl,.inl rfl⟩,rfl,⟨_,_,_,_,_,rfl,trivial,.inl ⟨rfl,.inl rfl⟩,rfl,rfl⟩⟩
def spec_l01One_L:Live:=[(0,[]),(1,[0])]
noncomputable def spec_l01One :Option (Vec Int 64) :=
 (some ((vset (vrep 64 (0:Int)) 0 1)))
theorem spec_l01One_ok  (r:(Vec Int 64)) (h:spec_l01One=some r):Den Try.prog 79 [] { r:=(eVb r) }:=by
 refine dd (rs:=[(eVb r)]) (L:=spec_l01One_L) good [] Try.func79 Try.ntmps79 ?_
 refine ns ⟨[],[]⟩ ?_
 refine sr (vo 1000 (eV0) rfl rfl (nk ⟨[(0,ow 0)],[(0,bk (eV0))]⟩ (sr (vq (eVb ((vset (vrep 64 (0:Int)) 0 1))) rfl ⟨⟨_,rfl,rfl⟩,(all_cons ⟨(Nat.le_of_ble_eq_true rfl),rfl⟩ all_nil)⟩ (vs (eVb ((vset (vrep 64 (0:Int)) 0 1))) rfl rfl (fun _=>rfl) rfl rfl rfl rfl rfl rfl (nx _ rfl (a_ret ?_)))))))
 have hl2:LdOk [] (eVb ((vset (vrep 64 (0:Int)) 0 1))) [] 64 true (eVb ((vset (vrep 64 (0:Int)) 0 1))):=(.nil rfl rfl rfl)
 refine ⟨.inr rfl,?_⟩
 rw [Try.results79]
 cases h
 exact ⟨_,_,_,_,_,ld_own (i:=⟨.arr 64 5,64,64,(eVb (vrep 64 (0:Int)))⟩) rfl rfl rfl hl2,hl2.c,.inl ⟨rfl,.inl rfl⟩,rfl,rfl⟩
def spec_l01Inverse_L:Live:=[(0,[0,1]),(1,[0,1]),(2,[0,1,5]),(3,[0,1,5]),(4,[0,1,5]),(5,[5]),(6,[]),(100008,[0,1,5,8]),(100017,[0,1,5,17])]
noncomputable def spec_l01Inverse_l1 (a0:Int) (a1:Int) (x29:Int):Option (Int⊕(Unit⊕Int)) :=
 (if (decide (x29 < a0)) then (ifp (a0 ≠ 0) ((letp (((Int.tmod (IntKind.i64.wrap (x29*(IntKind.i64.wrap a1))) a0) == 1)) fun x40=>(if x40 then (some (.inr ((.inr (IntKind.u8.wrap x29))))) else (some (.inl (IntKind.i64.wrap (x29 + 1)))))))) else (some (.inr (((.inl ()))))))
noncomputable def spec_l01Inverse (a0:Int) (a1:Int):Option Int :=
 (Option.bind (α:=(Unit⊕Int)) ((loopM (fun s:Int=>spec_l01Inverse_l1 a0 a1 s) 1)) fun z=>match z with | .inl _=>(some 0) | .inr r44=>(some r44))
theorem spec_l01Inverse_ok (a0:Int) (a1:Int) (r:Int) (h:spec_l01Inverse a0 a1=some r):Den Try.prog 74 [(i6 a0),(b8 a1)] { r:=(b8 r) }:=by
 refine dd (rs:=[(b8 r)]) (L:=spec_l01Inverse_L) good [] Try.func74 Try.ntmps74 ?_
 refine ns ⟨[(0,i6 a0),(1,b8 a1)],[]⟩ ?_
 refine sr (vr (b8 0) (nk ⟨[(0,i6 a0),(1,b8 a1)],[]⟩ ?_))
 obtain ⟨y21,hy22,hk23⟩:=bind_some h
 clear h
 refine a_join (emb:=fun (s:Unit)=>⟨[],[]⟩) (pre:=fun s=>(.inl s)=y21) ?_ ?_
 ·rintro _ rfl
  have h:=hk23
  refine ns ⟨[],[]⟩ (sr (vr (b8 0) (nx _ rfl (a_ret ?_))))
  refine ⟨.inr rfl,?_⟩
  rw [Try.results74]
  cases h
  exact ⟨_,_,_,_,_,rfl,trivial,.inl ⟨rfl,.inl rfl⟩,rfl,rfl⟩
 ·have h:=hy22
  refine sr (vr (i6 1) (nk ⟨[(0,i6 a0),(1,b8 a1),(5,i6 1)],[]⟩ (a_block ?_)))
  refine a_loop (emb:=fun (s:Int)=>⟨[(0,i6 a0),(1,b8 a1),(5,i6 s)],[]⟩) (body:=(fun s:Int=>spec_l01Inverse_l1 a0 a1 s)) (G:=fun q=>some q=some y21) h rfl ?_ (by kernel_rfl)
  rintro X35 x29 x36 h hX37
  have h:spec_l01Inverse_l1 a0 a1 x29=some x36:=h
  refine ns ⟨[(0,i6 a0),(1,b8 a1),(5,i6 x29)],[]⟩ (a_seq (sr (vr (i6 x29) (vr (i6 a0) (vr (.bool ((decide (x29 < a0)))) (nk ⟨[(0,i6 a0),(1,b8 a1),(5,i6 x29),(8,.bool ((decide (x29 < a0))))],[]⟩ ?_))))))
  cases hb38:(decide (x29 < a0))
  ·have h:=ite_f hb38 h
   refine a_cond_f rfl (a_exit (t_exit ?_))
   cases h
   have h:=hX37
   refine t_exit (b_exit ?_)
   exact jl () h
  ·have h:=ite_t hb38 h
   refine a_cond_t rfl (a_skip (nj ⟨[(0,i6 a0),(1,b8 a1),(5,i6 x29)],[]⟩ (a_seq (a_block (sr (vr (i6 x29) (vr (b8 a1) (vr (i6 (IntKind.i64.wrap a1)) (vr (i6 (IntKind.i64.wrap (x29*(IntKind.i64.wrap a1)))) ?_)))))))))
   refine vr (i6 a0) ?_
   obtain ⟨hc39,h⟩:=ifp_some h
   refine vq (i6 (Int.tmod (IntKind.i64.wrap (x29*(IntKind.i64.wrap a1))) a0)) rfl hc39 ?_
   obtain ⟨x40,hx41,h⟩:=letp_some h
   refine a_val' (v:=(.bool (((Int.tmod (IntKind.i64.wrap (x29*(IntKind.i64.wrap a1))) a0) == 1)))) (v':=(.bool x40)) (u:=[]) (u':=[]) rfl (congrArg (fun z=>((.bool z):AV)) hx41) rfl trivial rfl (nk ⟨[(0,i6 a0),(1,b8 a1),(5,i6 x29),(17,.bool x40)],[]⟩ ?_)
   cases hb42:x40
   ·have h:=ite_f hb42 h
    refine a_cond_f rfl (a_skip (b_norm (nj ⟨[(0,i6 a0),(1,b8 a1),(5,i6 x29)],[]⟩ (a_region (vr (i6 x29) (vr (i6 (IntKind.i64.wrap (x29 + 1))) (vr (i6 (IntKind.i64.wrap (x29 + 1))) (a_nil ?_))))))))
    cases h
    exact ag hX37
   ·have h:=ite_t hb42 h
    refine a_cond_t rfl (sr (vr (i6 x29) (vr (b8 (IntKind.u8.wrap x29)) (vr (b8 (IntKind.u8.wrap x29)) (nx _ rfl (a_ret (b_ret (t_ret ?_))))))))
    cases h
    have h:=hX37
    refine t_ret (b_ret (t_ret ?_))
    cases h
    have h:=hk23
    refine ⟨.inr rfl,?_⟩
    rw [Try.results74]
    cases h
    exact ⟨_,_,_,_,_,rfl,trivial,.inl ⟨rfl,.inl rfl⟩,rfl,rfl⟩
def spec_l01Divide_L:Live:=[(0,[0,1,2]),(1,[0,4,5,6,7]),(2,[0,4,5,6,7,8,9]),(3,[0,4,5,6,7,8,9,10]),(4,[0,4,5,6,7,8,9,10,11]),(5,[0,4,5,6,7,8,9,10,11]),(6,[0,4,5,6,7,8,9,10,11]),(7,[0,4,5,6,7,8,9,10,11,12]),(8,[0,4,5,6,7,8,9,10,11,12]),(9,[0,4,5,6,7,8,9,10,11,12,13]),(10,[0,4,5,6,7,8,9,10,11,12,13]),(11,[0,4,5,6,7,8,9,10,11,12,13]),(12,[4,6,7,8]),(100027,[0,4,5,6,7,8,9,10,11,27]),(100050,[0,4,5,6,7,8,9,10,11,12,13,50])]
noncomputable def spec_l01Divide_l2 (r2:Int) (x1405:Int) (a0:Int) (x995:Int) (a2:(Vec Int 64)) (x997:(Vec Int 64)) (x1449:Int) (x1450:(Vec Int 64)):Option ((Int×(Vec Int 64))⊕((Vec Int 64)×(Vec Int 64))) :=
 (Option.bind (α:=Bool) ((if (decide (x1449≤r2)) then (some (((Int.tmod x1405 a0) != 0))) else (some false))) fun x1494=>(if x1494 then (ifp (0≤IntKind.i64.wrap ((IntKind.i64.wrap (x995 - r2)) + x1449)∧IntKind.i64.wrap ((IntKind.i64.wrap (x995 - r2)) + x1449) < ((64:Nat):Int)) ((letp ((rd x1450.1 (IntKind.i64.wrap ((IntKind.i64.wrap (x995 - r2)) + x1449)).toNat)) fun x1518=>(ifp (0≤x1449∧x1449 < ((64:Nat):Int)) ((letp (IntKind.i64.wrap ((Int.tmod x1405 a0)*(IntKind.i64.wrap (rd a2.1 x1449.toNat)))) fun x1522=>(ifp (a0 ≠ 0) ((letp (Int.tmod (IntKind.i64.wrap ((IntKind.i64.wrap x1518) - x1522)) a0) fun x1525=>(ifp (a0 ≠ 0) ((letp (IntKind.u8.wrap (Int.tmod (IntKind.i64.wrap (x1525 + a0)) a0)) fun x1528=>(ifp (0≤IntKind.i64.wrap ((IntKind.i64.wrap (x995 - r2)) + x1449)∧IntKind.i64.wrap ((IntKind.i64.wrap (x995 - r2)) + x1449) < ((64:Nat):Int)) ((some (.inl ((IntKind.i64.wrap (x1449 + 1),(vset x1450 (IntKind.i64.wrap ((IntKind.i64.wrap (x995 - r2)) + x1449)).toNat x1528))))))))))))))))))) else (some (.inr (((x1450,(vset x997 (IntKind.i64.wrap (x995 - r2)).toNat (IntKind.u8.wrap (Int.tmod x1405 a0))))))))))
noncomputable def spec_l01Divide_l1 (r2:Int) (r7:Int) (a0:Int) (a2:(Vec Int 64)) (x995:Int) (x996:(Vec Int 64)) (x997:(Vec Int 64)):Option ((Int×(Vec Int 64)×(Vec Int 64))⊕((Vec Int 64)×(Vec Int 64))) :=
 (if (decide (x995 ≥ r2)) then (Option.bind (α:=((Vec Int 64)×(Vec Int 64))) ((ifp (0≤x995∧x995 < ((64:Nat):Int)) ((letp (IntKind.i64.wrap ((IntKind.i64.wrap (rd x996.1 x995.toNat))*(IntKind.i64.wrap r7))) fun x1405=>(ifp (a0 ≠ 0) ((ifp (0≤IntKind.i64.wrap (x995 - r2)∧IntKind.i64.wrap (x995 - r2) < ((64:Nat):Int)) ((loopM (fun s:(Int×(Vec Int 64))=>spec_l01Divide_l2 r2 x1405 a0 x995 a2 x997 s.1 s.2) (0,x996)))))))))) fun ⟨x1398,x1399⟩=>(some (.inl ((IntKind.i64.wrap (x995 - 1),x1398,x1399))))) else (some (.inr (x996,x997))))
noncomputable def spec_l01Divide (a0:Int) (a1:(Vec Int 64)) (a2:(Vec Int 64)):Option ((Vec Int 64)×(Vec Int 64)) :=
 (Option.bind (spec_l01Deg a2) fun r2=>(ifp (0≤r2∧r2 < ((64:Nat):Int)) ((Option.bind (spec_l01Inverse a0 (rd a2.1 r2.toNat)) fun r7=>(Option.bind (α:=((Vec Int 64)×(Vec Int 64))) ((Option.bind (spec_l01Deg a1) fun r751=>(loopM (fun s:(Int×(Vec Int 64)×(Vec Int 64))=>spec_l01Divide_l1 r2 r7 a0 a2 s.1 s.2.1 s.2.2) (r751,a1,(vrep 64 (0:Int)))))) fun ⟨x745,x746⟩=>(some (x746,x745)))))))
theorem spec_l01Divide_ok (a0:Int) (a1:(Vec Int 64)) (a2:(Vec Int 64)) (r:((Vec Int 64)×(Vec Int 64))) (h:spec_l01Divide a0 a1 a2=some r):Den Try.prog 81 [(i6 a0),(eVb a1),(eVb a2)] { r:=(.tuple [(eVb r.1),(eVb r.2)]) }:=by
 refine dd (rs:=[(eVb r.1),(eVb r.2)]) (L:=spec_l01Divide_L) good [] Try.func81 Try.ntmps81 ?_
 refine ns ⟨[(0,i6 a0),(1,eVb a1),(2,eVb a2)],[]⟩ ?_
 refine sr (vo 1400 (eVb a1) rfl rfl (vo 1500 (eVb a2) rfl rfl (vo 1600 (eV0) rfl rfl (vo 1700 (eV0) rfl rfl (nk ⟨[(0,i6 a0),(4,ow 4),(5,ow 5),(6,ow 6),(7,ow 7)],[(4,bk (eVb a1)),(5,bk (eVb a2)),(6,bk (eV0)),(7,bk (eV0))]⟩ (sr (vq (eV0) rfl ⟨⟨_,rfl,rfl⟩,all_nil⟩ (vl (eVb a2) rfl rfl rfl rfl rfl rfl ?_))))))))
 obtain ⟨r2,hr3,h⟩:=bind_some h
 refine ca (spec_l01Deg_ok a2 r2 hr3) (vo 1800 (eV0) rfl rfl (vs (eV0) rfl rfl (fun _=>rfl) rfl rfl rfl rfl rfl rfl (vr (i6 r2) (nk ⟨[(0,i6 a0),(4,ow 4),(5,ow 5),(6,ow 6),(7,ow 7),(8,ow 8),(9,i6 r2)],[(4,bk (eVb a1)),(5,bk (eVb a2)),(6,bk (eV0)),(7,bk (eV0)),(8,bk (eV0))]⟩ (sr (vr (i6 a0) (vr (i6 r2) ?_)))))))
 obtain ⟨hc5,h⟩:=ifp_some h
 refine vq (.own 5 [r2.toNat] [r2.toNat*1]) rfl hc5 ?_
 have hl6:LdOk [r2.toNat] (eVb a2) [r2.toNat*1] 1 false (b8 (rd a2.1 r2.toNat)):=(.arr (vlt a2 hc5) rfl (.nil rfl rfl rfl))
 refine vq (b8 (rd a2.1 r2.toNat)) (ld_own (i:=⟨.int .u8,1,1,(.int .u8 0)⟩) rfl rfl rfl hl6) hl6.c ?_
 obtain ⟨r7,hr8,h⟩:=bind_some h
 refine ca (spec_l01Inverse_ok a0 (rd a2.1 r2.toNat) r7 hr8) (vr (i6 (IntKind.i64.wrap r7)) (vr (i6 (IntKind.i64.wrap r7)) (nk ⟨[(0,i6 a0),(4,ow 4),(5,ow 5),(6,ow 6),(7,ow 7),(8,ow 8),(9,i6 r2),(10,i6 (IntKind.i64.wrap r7))],[(4,bk (eVb a1)),(5,bk (eVb a2)),(6,bk (eV0)),(7,bk (eV0)),(8,bk (eV0))]⟩ ?_)))
 obtain ⟨y747,hy748,hk749⟩:=bind_some h
 clear h
 refine a_join (emb:=fun (s:((Vec Int 64)×(Vec Int 64)))=>⟨[(4,ow 4),(6,ow 6),(7,ow 7),(8,ow 8)],[(4,bk (eVb s.1)),(6,bk (eV0)),(7,bk (eV0)),(8,bk (eVb s.2))]⟩) (pre:=fun s=>s=y747) ?_ ?_
 ·rintro ⟨x745,x746⟩ rfl
  have h:=hk749
  refine ns ⟨[(4,ow 4),(6,ow 6),(7,ow 7),(8,ow 8)],[(4,bk (eVb x745)),(6,bk (eV0)),(7,bk (eV0)),(8,bk (eVb x746))]⟩ (a_seq (a_draw [⟨[8],[],[],[]⟩,⟨[4],[],[],[]⟩,⟨[6],[6],[],[0]⟩,⟨[7],[7],[],[0,1,2]⟩] (by kernel_rfl) (d_cons (vl (eVb x746) rfl rfl rfl rfl rfl rfl (dn (d_cons (vl (eVb x745) rfl rfl rfl rfl rfl rfl (dn (d_cons ?_)))))))))
  refine vs (eVb x746) rfl rfl (fun _=>rfl) rfl rfl rfl rfl rfl rfl (dn (d_cons (vs (eVb x745) rfl rfl (fun _=>rfl) rfl rfl rfl rfl rfl rfl (dn (d_nil (a_next rfl (a_ret ?_)))))))
  have hl1542:LdOk [] (eVb x746) [] 64 true (eVb x746):=(.nil rfl rfl rfl)
  have hl1543:LdOk [] (eVb x745) [] 64 true (eVb x745):=(.nil rfl rfl rfl)
  refine ⟨.inr rfl,?_⟩
  rw [Try.results81]
  cases h
  exact ⟨_,_,_,_,_,ld_own (i:=⟨.arr 64 5,64,64,(eVb (vrep 64 (0:Int)))⟩) rfl rfl rfl hl1542,hl1542.c,.inl ⟨rfl,.inl rfl⟩,rfl,⟨_,_,_,_,_,ld_own (i:=⟨.arr 64 5,64,64,(eVb (vrep 64 (0:Int)))⟩) rfl rfl rfl hl1543,hl1543.c,.inl ⟨rfl,.inl rfl⟩,rfl,rfl⟩⟩
 ·have h:=hy748
  refine sr (vl (eVb a1) rfl rfl rfl rfl rfl rfl ?_)
  obtain ⟨r751,hr752,h⟩:=bind_some h
  refine ca (spec_l01Deg_ok a1 r751 hr752) (vr (i6 r751) (nk ⟨[(0,i6 a0),(4,ow 4),(5,ow 5),(6,ow 6),(7,ow 7),(8,ow 8),(9,i6 r2),(10,i6 (IntKind.i64.wrap r7)),(11,i6 r751)],[(4,bk (eVb a1)),(5,bk (eVb a2)),(6,bk (eV0)),(7,bk (eV0)),(8,bk (eV0))]⟩ (a_block ?_)))
  refine a_loop (emb:=fun (s:(Int×(Vec Int 64)×(Vec Int 64)))=>⟨[(0,i6 a0),(4,ow 4),(5,ow 5),(6,ow 6),(7,ow 7),(8,ow 8),(9,i6 r2),(10,i6 (IntKind.i64.wrap r7)),(11,i6 s.1)],[(4,bk (eVb s.2.1)),(5,bk (eVb a2)),(6,bk (eV0)),(7,bk (eV0)),(8,bk (eVb s.2.2))]⟩) (body:=(fun s:(Int×(Vec Int 64)×(Vec Int 64))=>spec_l01Divide_l1 r2 r7 a0 a2 s.1 s.2.1 s.2.2)) (G:=fun q=>some q=some y747) h rfl ?_ (by kernel_rfl)
  rintro X1264 ⟨x995,x996,x997⟩ x1265 h hX1266
  have h:spec_l01Divide_l1 r2 r7 a0 a2 x995 x996 x997=some x1265:=h
  refine ns ⟨[(0,i6 a0),(4,ow 4),(5,ow 5),(6,ow 6),(7,ow 7),(8,ow 8),(9,i6 r2),(10,i6 (IntKind.i64.wrap r7)),(11,i6 x995)],[(4,bk (eVb x996)),(5,bk (eVb a2)),(6,bk (eV0)),(7,bk (eV0)),(8,bk (eVb x997))]⟩ (a_seq (sr (vr (i6 x995) (vr (i6 r2) (vr (.bool ((decide (x995 ≥ r2)))) (nk ⟨[(0,i6 a0),(4,ow 4),(5,ow 5),(6,ow 6),(7,ow 7),(8,ow 8),(9,i6 r2),(10,i6 (IntKind.i64.wrap r7)),(11,i6 x995),(27,.bool ((decide (x995 ≥ r2))))],[(4,bk (eVb x996)),(5,bk (eVb a2)),(6,bk (eV0)),(7,bk (eV0)),(8,bk (eVb x997))]⟩ ?_))))))
  cases hb1267:(decide (x995 ≥ r2))
  ·have h:=ite_f hb1267 h
   refine a_cond_f rfl (a_exit (t_exit ?_))
   cases h
   have h:=hX1266
   refine t_exit (b_exit ?_)
   exact jl (x996,x997) h
  ·have h:=ite_t hb1267 h
   refine a_cond_t rfl (a_skip (nj ⟨[(0,i6 a0),(4,ow 4),(5,ow 5),(6,ow 6),(7,ow 7),(8,ow 8),(9,i6 r2),(10,i6 (IntKind.i64.wrap r7)),(11,i6 x995)],[(4,bk (eVb x996)),(5,bk (eVb a2)),(6,bk (eV0)),(7,bk (eV0)),(8,bk (eVb x997))]⟩ ?_))
   obtain ⟨y1400,hy1401,hk1402⟩:=bind_some h
   clear h
   refine a_join (emb:=fun (s:((Vec Int 64)×(Vec Int 64)))=>⟨[(0,i6 a0),(4,ow 4),(5,ow 5),(6,ow 6),(7,ow 7),(8,ow 8),(9,i6 r2),(10,i6 (IntKind.i64.wrap r7)),(11,i6 x995)],[(4,bk (eVb s.1)),(5,bk (eVb a2)),(6,bk (eV0)),(7,bk (eV0)),(8,bk (eVb s.2))]⟩) (pre:=fun s=>s=y1400) ?_ ?_
   ·rintro ⟨x1398,x1399⟩ rfl
    have h:=hk1402
    refine ns ⟨[(0,i6 a0),(4,ow 4),(5,ow 5),(6,ow 6),(7,ow 7),(8,ow 8),(9,i6 r2),(10,i6 (IntKind.i64.wrap r7)),(11,i6 x995)],[(4,bk (eVb x1398)),(5,bk (eVb a2)),(6,bk (eV0)),(7,bk (eV0)),(8,bk (eVb x1399))]⟩ (a_region (vr (i6 x995) (vr (i6 (IntKind.i64.wrap (x995 - 1))) (vr (i6 (IntKind.i64.wrap (x995 - 1))) (a_nil ?_)))))
    cases h
    exact ag hX1266
   ·have h:=hy1401
    refine a_block (sr (vr (i6 x995) ?_))
    obtain ⟨hc1403,h⟩:=ifp_some h
    refine vq (.own 4 [x995.toNat] [x995.toNat*1]) rfl hc1403 ?_
    have hl1404:LdOk [x995.toNat] (eVb x996) [x995.toNat*1] 1 false (b8 (rd x996.1 x995.toNat)):=(.arr (vlt x996 hc1403) rfl (.nil rfl rfl rfl))
    refine vq (b8 (rd x996.1 x995.toNat)) (ld_own (i:=⟨.int .u8,1,1,(.int .u8 0)⟩) rfl rfl rfl hl1404) hl1404.c (vr (i6 (IntKind.i64.wrap (rd x996.1 x995.toNat))) (vr (i6 (IntKind.i64.wrap r7)) ?_))
    obtain ⟨x1405,hx1406,h⟩:=letp_some h
    refine a_val' (v:=(i6 (IntKind.i64.wrap ((IntKind.i64.wrap (rd x996.1 x995.toNat))*(IntKind.i64.wrap r7))))) (v':=(i6 x1405)) (u:=[]) (u':=[]) rfl (congrArg (fun z=>((i6 z):AV)) hx1406) rfl trivial rfl (vr (i6 a0) ?_)
    obtain ⟨hc1407,h⟩:=ifp_some h
    refine vq (i6 (Int.tmod x1405 a0)) rfl hc1407 (vr (i6 (Int.tmod x1405 a0)) (nk ⟨[(0,i6 a0),(4,ow 4),(5,ow 5),(6,ow 6),(7,ow 7),(8,ow 8),(9,i6 r2),(10,i6 (IntKind.i64.wrap r7)),(11,i6 x995),(12,i6 (Int.tmod x1405 a0))],[(4,bk (eVb x996)),(5,bk (eVb a2)),(6,bk (eV0)),(7,bk (eV0)),(8,bk (eVb x997))]⟩ (sr (vr (i6 x995) (vr (i6 r2) (vr (i6 (IntKind.i64.wrap (x995 - r2))) (vr (i6 (Int.tmod x1405 a0)) (vr (b8 (IntKind.u8.wrap (Int.tmod x1405 a0))) ?_))))))))
    obtain ⟨hc1408,h⟩:=ifp_some h
    refine vq (.own 8 [(IntKind.i64.wrap (x995 - r2)).toNat] [(IntKind.i64.wrap (x995 - r2)).toNat*1]) rfl hc1408 ?_
    have hs1409:StOk [(IntKind.i64.wrap (x995 - r2)).toNat] (eVb x997) [(IntKind.i64.wrap (x995 - r2)).toNat*1] 1 (b8 (IntKind.u8.wrap (Int.tmod x1405 a0))) (eVb ((vset x997 (IntKind.i64.wrap (x995 - r2)).toNat (IntKind.u8.wrap (Int.tmod x1405 a0))))):=(.arr (y:=IntKind.u8.wrap (Int.tmod x1405 a0)) (vlt x997 hc1408) rfl (.nil rfl rfl rfl rfl))
    refine vu .top [(8,bk (eVb ((vset x997 (IntKind.i64.wrap (x995 - r2)).toNat (IntKind.u8.wrap (Int.tmod x1405 a0))))))] (st_own (i:=⟨.int .u8,1,1,(.int .u8 0)⟩) rfl rfl (fun _=>rfl) rfl hs1409) (hs1409.c rfl) rfl (nk ⟨[(0,i6 a0),(4,ow 4),(5,ow 5),(6,ow 6),(7,ow 7),(8,ow 8),(9,i6 r2),(10,i6 (IntKind.i64.wrap r7)),(11,i6 x995),(12,i6 (Int.tmod x1405 a0))],[(4,bk (eVb x996)),(5,bk (eVb a2)),(6,bk (eV0)),(7,bk (eV0)),(8,bk (eVb ((vset x997 (IntKind.i64.wrap (x995 - r2)).toNat (IntKind.u8.wrap (Int.tmod x1405 a0))))))]⟩ (sr (vr (i6 0) (nk ⟨[(0,i6 a0),(4,ow 4),(5,ow 5),(6,ow 6),(7,ow 7),(8,ow 8),(9,i6 r2),(10,i6 (IntKind.i64.wrap r7)),(11,i6 x995),(12,i6 (Int.tmod x1405 a0)),(13,i6 0)],[(4,bk (eVb x996)),(5,bk (eVb a2)),(6,bk (eV0)),(7,bk (eV0)),(8,bk (eVb ((vset x997 (IntKind.i64.wrap (x995 - r2)).toNat (IntKind.u8.wrap (Int.tmod x1405 a0))))))]⟩ (a_block ?_)))))
    refine a_loop (emb:=fun (s:(Int×(Vec Int 64)))=>⟨[(0,i6 a0),(4,ow 4),(5,ow 5),(6,ow 6),(7,ow 7),(8,ow 8),(9,i6 r2),(10,i6 (IntKind.i64.wrap r7)),(11,i6 x995),(12,i6 (Int.tmod x1405 a0)),(13,i6 s.1)],[(4,bk (eVb s.2)),(5,bk (eVb a2)),(6,bk (eV0)),(7,bk (eV0)),(8,bk (eVb ((vset x997 (IntKind.i64.wrap (x995 - r2)).toNat (IntKind.u8.wrap (Int.tmod x1405 a0))))))]⟩) (body:=(fun s:(Int×(Vec Int 64))=>spec_l01Divide_l2 r2 x1405 a0 x995 a2 x997 s.1 s.2)) (G:=fun q=>some q=some y1400) h rfl ?_ (by kernel_rfl)
    rintro X1490 ⟨x1449,x1450⟩ x1491 h hX1492
    have h:spec_l01Divide_l2 r2 x1405 a0 x995 a2 x997 x1449 x1450=some x1491:=h
    refine ns ⟨[(0,i6 a0),(4,ow 4),(5,ow 5),(6,ow 6),(7,ow 7),(8,ow 8),(9,i6 r2),(10,i6 (IntKind.i64.wrap r7)),(11,i6 x995),(12,i6 (Int.tmod x1405 a0)),(13,i6 x1449)],[(4,bk (eVb x1450)),(5,bk (eVb a2)),(6,bk (eV0)),(7,bk (eV0)),(8,bk (eVb ((vset x997 (IntKind.i64.wrap (x995 - r2)).toNat (IntKind.u8.wrap (Int.tmod x1405 a0))))))]⟩ (a_seq ?_)
    obtain ⟨y1495,hy1496,hk1497⟩:=bind_some h
    clear h
    refine a_join (emb:=fun (s:Bool)=>⟨[(0,i6 a0),(4,ow 4),(5,ow 5),(6,ow 6),(7,ow 7),(8,ow 8),(9,i6 r2),(10,i6 (IntKind.i64.wrap r7)),(11,i6 x995),(12,i6 (Int.tmod x1405 a0)),(13,i6 x1449),(50,.bool s)],[(4,bk (eVb x1450)),(5,bk (eVb a2)),(6,bk (eV0)),(7,bk (eV0)),(8,bk (eVb ((vset x997 (IntKind.i64.wrap (x995 - r2)).toNat (IntKind.u8.wrap (Int.tmod x1405 a0))))))]⟩) (pre:=fun s=>s=y1495) ?_ ?_
    ·rintro x1494 rfl
     have h:=hk1497
     refine ns ⟨[(0,i6 a0),(4,ow 4),(5,ow 5),(6,ow 6),(7,ow 7),(8,ow 8),(9,i6 r2),(10,i6 (IntKind.i64.wrap r7)),(11,i6 x995),(12,i6 (Int.tmod x1405 a0)),(13,i6 x1449),(50,.bool x1494)],[(4,bk (eVb x1450)),(5,bk (eVb a2)),(6,bk (eV0)),(7,bk (eV0)),(8,bk (eVb ((vset x997 (IntKind.i64.wrap (x995 - r2)).toNat (IntKind.u8.wrap (Int.tmod x1405 a0))))))]⟩ ?_
     cases hb1499:x1494
     ·have h:=ite_f hb1499 h
      refine a_cond_f rfl (a_exit (t_exit ?_))
      cases h
      have h:=hX1492
      refine t_exit (b_exit (b_norm ?_))
      exact jl ((x1450,(vset x997 (IntKind.i64.wrap (x995 - r2)).toNat (IntKind.u8.wrap (Int.tmod x1405 a0))))) h
     ·have h:=ite_t hb1499 h
      refine a_cond_t rfl (a_skip (nj ⟨[(0,i6 a0),(4,ow 4),(5,ow 5),(6,ow 6),(7,ow 7),(8,ow 8),(9,i6 r2),(10,i6 (IntKind.i64.wrap r7)),(11,i6 x995),(12,i6 (Int.tmod x1405 a0)),(13,i6 x1449)],[(4,bk (eVb x1450)),(5,bk (eVb a2)),(6,bk (eV0)),(7,bk (eV0)),(8,bk (eVb ((vset x997 (IntKind.i64.wrap (x995 - r2)).toNat (IntKind.u8.wrap (Int.tmod x1405 a0))))))]⟩ (a_seq (a_block (a_draw [⟨[],[],[],[]⟩,⟨[],[],[],[]⟩,⟨[],[],[],[0,1]⟩,⟨[],[],[],[]⟩,⟨[],[],[],[0,1,2,3]⟩,⟨[],[],[],[]⟩,⟨[],[],[],[]⟩,⟨[],[],[],[5,6]⟩,⟨[],[],[],[]⟩,⟨[],[],[],[5,6,7,8]⟩,⟨[4],[],[4],[5,6,7,8,9]⟩,⟨[4],[],[],[5,6,7,8,9,10]⟩,⟨[],[],[],[5,6,7,8,9,10,11]⟩,⟨[],[],[],[]⟩,⟨[],[],[],[]⟩,⟨[5],[],[5],[14]⟩,⟨[5],[],[],[14,15]⟩,⟨[],[],[],[14,15,16]⟩,⟨[],[],[],[13,14,15,16,17]⟩,⟨[],[],[],[5,6,7,8,9,10,11,12,13,14,15,16,17,18]⟩,⟨[],[],[],[]⟩,⟨[],[],[],[5,6,7,8,9,10,11,12,13,14,15,16,17,18,19,20]⟩,⟨[],[],[],[]⟩,⟨[],[],[],[5,6,7,8,9,10,11,12,13,14,15,16,17,18,19,20,21,22]⟩,⟨[],[],[],[]⟩,⟨[],[],[],[5,6,7,8,9,10,11,12,13,14,15,16,17,18,19,20,21,22,23,24]⟩,⟨[],[],[],[5,6,7,8,9,10,11,12,13,14,15,16,17,18,19,20,21,22,23,24,25]⟩,⟨[4],[],[4],[0,1,2,3,4,5,6,7,8,9,10,11,12,13,14,15,16,17,18,19,20,21,22,23,24,25,26]⟩,⟨[4],[4],[],[0,1,2,3,4,5,6,7,8,9,10,11,12,13,14,15,16,17,18,19,20,21,22,23,24,25,26,27]⟩] (by kernel_rfl) (dj (i6 x995) rfl (dj (i6 r2) rfl (dj (i6 (IntKind.i64.wrap (x995 - r2))) rfl (dj (i6 x1449) rfl ?_)))))))))
      refine dj (i6 (IntKind.i64.wrap ((IntKind.i64.wrap (x995 - r2)) + x1449))) rfl (dj (i6 x995) rfl (dj (i6 r2) rfl (dj (i6 (IntKind.i64.wrap (x995 - r2))) rfl (dj (i6 x1449) rfl (dj (i6 (IntKind.i64.wrap ((IntKind.i64.wrap (x995 - r2)) + x1449))) rfl (d_cons ?_))))))
      obtain ⟨hc1516,h⟩:=ifp_some h
      refine vq (.own 4 [(IntKind.i64.wrap ((IntKind.i64.wrap (x995 - r2)) + x1449)).toNat] [(IntKind.i64.wrap ((IntKind.i64.wrap (x995 - r2)) + x1449)).toNat*1]) rfl hc1516 (dn (d_cons ?_))
      have hl1517:LdOk [(IntKind.i64.wrap ((IntKind.i64.wrap (x995 - r2)) + x1449)).toNat] (eVb x1450) [(IntKind.i64.wrap ((IntKind.i64.wrap (x995 - r2)) + x1449)).toNat*1] 1 false (b8 ((rd x1450.1 (IntKind.i64.wrap ((IntKind.i64.wrap (x995 - r2)) + x1449)).toNat))):=(.arr (vlt x1450 hc1516) rfl (.nil rfl rfl rfl))
      obtain ⟨x1518,hx1519,h⟩:=letp_some h
      refine a_val' (v:=(b8 ((rd x1450.1 (IntKind.i64.wrap ((IntKind.i64.wrap (x995 - r2)) + x1449)).toNat)))) (v':=(b8 x1518)) (u:=[]) (u':=[]) (ld_own (i:=⟨.int .u8,1,1,(.int .u8 0)⟩) rfl rfl rfl hl1517) (congrArg (fun z=>((b8 z):AV)) hx1519) rfl hl1517.c rfl (dn (dj (i6 (IntKind.i64.wrap x1518)) rfl (dj (i6 (Int.tmod x1405 a0)) rfl (dj (i6 x1449) rfl (d_cons ?_)))))
      obtain ⟨hc1520,h⟩:=ifp_some h
      refine vq (.own 5 [x1449.toNat] [x1449.toNat*1]) rfl hc1520 (dn (d_cons ?_))
      have hl1521:LdOk [x1449.toNat] (eVb a2) [x1449.toNat*1] 1 false (b8 (rd a2.1 x1449.toNat)):=(.arr (vlt a2 hc1520) rfl (.nil rfl rfl rfl))
      refine vq (b8 (rd a2.1 x1449.toNat)) (ld_own (i:=⟨.int .u8,1,1,(.int .u8 0)⟩) rfl rfl rfl hl1521) hl1521.c (dn (dj (i6 (IntKind.i64.wrap (rd a2.1 x1449.toNat))) rfl (d_cons ?_)))
      obtain ⟨x1522,hx1523,h⟩:=letp_some h
      refine a_val' (v:=(i6 (IntKind.i64.wrap ((Int.tmod x1405 a0)*(IntKind.i64.wrap (rd a2.1 x1449.toNat)))))) (v':=(i6 x1522)) (u:=[]) (u':=[]) rfl (congrArg (fun z=>((i6 z):AV)) hx1523) rfl trivial rfl (dn (dj (i6 (IntKind.i64.wrap ((IntKind.i64.wrap x1518) - x1522))) rfl (dj (i6 a0) rfl (d_cons ?_))))
      obtain ⟨hc1524,h⟩:=ifp_some h
      obtain ⟨x1525,hx1526,h⟩:=letp_some h
      refine a_val' (v:=(i6 (Int.tmod (IntKind.i64.wrap ((IntKind.i64.wrap x1518) - x1522)) a0))) (v':=(i6 x1525)) (u:=[]) (u':=[]) rfl (congrArg (fun z=>((i6 z):AV)) hx1526) rfl hc1524 rfl (dn (dj (i6 a0) rfl (dj (i6 (IntKind.i64.wrap (x1525 + a0))) rfl (dj (i6 a0) rfl (d_cons ?_)))))
      obtain ⟨hc1527,h⟩:=ifp_some h
      refine vq (i6 (Int.tmod (IntKind.i64.wrap (x1525 + a0)) a0)) rfl hc1527 (dn (d_cons ?_))
      obtain ⟨x1528,hx1529,h⟩:=letp_some h
      refine a_val' (v:=(b8 (IntKind.u8.wrap (Int.tmod (IntKind.i64.wrap (x1525 + a0)) a0)))) (v':=(b8 x1528)) (u:=[]) (u':=[]) rfl (congrArg (fun z=>((b8 z):AV)) hx1529) rfl trivial rfl (dn (d_cons ?_))
      obtain ⟨hc1530,h⟩:=ifp_some h
      refine vq (.own 4 [(IntKind.i64.wrap ((IntKind.i64.wrap (x995 - r2)) + x1449)).toNat] [(IntKind.i64.wrap ((IntKind.i64.wrap (x995 - r2)) + x1449)).toNat*1]) rfl hc1530 (dn (d_cons ?_))
      have hs1531:StOk [(IntKind.i64.wrap ((IntKind.i64.wrap (x995 - r2)) + x1449)).toNat] (eVb x1450) [(IntKind.i64.wrap ((IntKind.i64.wrap (x995 - r2)) + x1449)).toNat*1] 1 (b8 x1528) (eVb ((vset x1450 (IntKind.i64.wrap ((IntKind.i64.wrap (x995 - r2)) + x1449)).toNat x1528))):=(.arr (y:=x1528) (vlt x1450 hc1530) rfl (.nil rfl rfl rfl rfl))
      refine vu .top [(4,bk (eVb ((vset x1450 (IntKind.i64.wrap ((IntKind.i64.wrap (x995 - r2)) + x1449)).toNat x1528))))] (st_own (i:=⟨.int .u8,1,1,(.int .u8 0)⟩) rfl rfl (fun _=>rfl) rfl hs1531) (hs1531.c rfl) rfl (dn (d_nil (b_norm (nj ⟨[(0,i6 a0),(4,ow 4),(5,ow 5),(6,ow 6),(7,ow 7),(8,ow 8),(9,i6 r2),(10,i6 (IntKind.i64.wrap r7)),(11,i6 x995),(12,i6 (Int.tmod x1405 a0)),(13,i6 x1449)],[(4,bk (eVb ((vset x1450 (IntKind.i64.wrap ((IntKind.i64.wrap (x995 - r2)) + x1449)).toNat x1528)))),(5,bk (eVb a2)),(6,bk (eV0)),(7,bk (eV0)),(8,bk (eVb ((vset x997 (IntKind.i64.wrap (x995 - r2)).toNat (IntKind.u8.wrap (Int.tmod x1405 a0))))))]⟩ (a_region (vr (i6 x1449) (vr (i6 (IntKind.i64.wrap (x1449 + 1))) (vr (i6 (IntKind.i64.wrap (x1449 + 1))) (a_nil ?_)))))))))
      cases h
      exact ag hX1492
    ·have h:=hy1496
     refine a_region (vr (i6 x1449) (vr (i6 r2) (vr (.bool ((decide (x1449≤r2)))) (vr (.bool ((decide (x1449≤r2)))) ?_))))
     cases hb1498:(decide (x1449≤r2))
     ·have h:=ite_f hb1498 h
      refine a_gskip rfl (a_gskip rfl (vr (.bool false) (a_nil ?_)))
      exact jl false h
     ·have h:=ite_t hb1498 h
      refine gp (i6 (Int.tmod x1405 a0)) rfl rfl (gp (.bool (((Int.tmod x1405 a0) != 0))) rfl rfl (vr (.bool (((Int.tmod x1405 a0) != 0))) (a_nil ?_)))
      exact jl (((Int.tmod x1405 a0) != 0)) h
def spec_l01Times_L:Live:=[(0,[0,1,2]),(1,[0,4,5,6]),(2,[0,4,5,6,8,9,10]),(3,[6,10]),(4,[0,4,5,6,8,9,10]),(5,[6,10]),(6,[0,4,5,6,8,9,10]),(7,[0,4,5,6,8,9,10,11]),(8,[0,4,5,6,8,9,10,11]),(9,[0,4,5,6,8,9,10,11]),(10,[0,4,5,6,8,9,10,11,12]),(11,[0,4,5,6,8,9,10,11,12]),(12,[0,4,5,6,8,9,10,11,12]),(13,[6,10]),(100023,[0,4,5,6,8,9,10,23]),(100028,[0,4,5,6,8,9,10,28]),(100032,[0,4,5,6,8,9,10,11,32]),(100043,[0,4,5,6,8,9,10,11,12,43])]
noncomputable def spec_l01Times_l2 (r12:Int) (x1081:Int) (a1:(Vec Int 64)) (a2:(Vec Int 64)) (a0:Int) (x1524:Int) (x1525:(Vec Int 64)):Option ((Int×(Vec Int 64))⊕(Vec Int 64)) :=
 (Option.bind (α:=Bool) ((if (decide (x1524≤r12)) then (ifp (0≤x1081∧x1081 < ((64:Nat):Int)) ((some (((rd a1.1 x1081.toNat) != 0))))) else (some false))) fun x1573=>(if x1573 then (ifp (0≤IntKind.i64.wrap (x1081 + x1524)∧IntKind.i64.wrap (x1081 + x1524) < ((64:Nat):Int)) ((letp (IntKind.i64.wrap ((rd x1525.1 (IntKind.i64.wrap (x1081 + x1524)).toNat))) fun x1598=>(ifp (0≤x1081∧x1081 < ((64:Nat):Int)) ((ifp (0≤x1524∧x1524 < ((64:Nat):Int)) ((letp (IntKind.i64.wrap ((IntKind.i64.wrap (rd a1.1 x1081.toNat))*(IntKind.i64.wrap (rd a2.1 x1524.toNat)))) fun x1604=>(ifp (a0 ≠ 0) ((letp (IntKind.u8.wrap (Int.tmod (IntKind.i64.wrap (x1598 + x1604)) a0)) fun x1607=>(ifp (0≤IntKind.i64.wrap (x1081 + x1524)∧IntKind.i64.wrap (x1081 + x1524) < ((64:Nat):Int)) ((some (.inl ((IntKind.i64.wrap (x1524 + 1),(vset x1525 (IntKind.i64.wrap (x1081 + x1524)).toNat x1607)))))))))))))))))) else (some (.inr x1525))))
noncomputable def spec_l01Times_l1 (r9:Int) (r12:Int) (a1:(Vec Int 64)) (a2:(Vec Int 64)) (a0:Int) (x1081:Int) (x1082:(Vec Int 64)):Option ((Int×(Vec Int 64))⊕(Vec Int 64)) :=
 (if (decide (x1081≤r9)) then (Option.bind (α:=(Vec Int 64)) ((loopM (fun s:(Int×(Vec Int 64))=>spec_l01Times_l2 r12 x1081 a1 a2 a0 s.1 s.2) (0,x1082))) fun x1479=>(some (.inl ((IntKind.i64.wrap (x1081 + 1),x1479))))) else (some (.inr x1082)))
noncomputable def spec_l01Times (a0:Int) (a1:(Vec Int 64)) (a2:(Vec Int 64)):Option ((Vec Int 64)×Bool) :=
 (Option.bind (spec_l01Deg a1) fun r9=>(Option.bind (spec_l01Deg a2) fun r12=>(Option.bind (α:=Bool) ((if (decide (r9 < 0)) then (some true) else (some ((decide (r12 < 0)))))) fun x16=>(if x16 then (some (((vrep 64 (0:Int)),true))) else (if (decide ((IntKind.i64.wrap (r9 + r12)) > 63)) then (some (((vrep 64 (0:Int)),false))) else (Option.bind (α:=(Vec Int 64)) ((loopM (fun s:(Int×(Vec Int 64))=>spec_l01Times_l1 r9 r12 a1 a2 a0 s.1 s.2) (0,vrep 64 (0:Int)))) fun x814=>(some (x814,true))))))))
theorem spec_l01Times_ok (a0:Int) (a1:(Vec Int 64)) (a2:(Vec Int 64)) (r:((Vec Int 64)×Bool)) (h:spec_l01Times a0 a1 a2=some r):Den Try.prog 80 [(i6 a0),(eVb a1),(eVb a2)] { r:=(.tuple [(eVb r.1),(.bool r.2)]) }:=by
 refine dd (rs:=[(eVb r.1),(.bool r.2)]) (L:=spec_l01Times_L) good [] Try.func80 Try.ntmps80 ?_
 refine ns ⟨[(0,i6 a0),(1,eVb a1),(2,eVb a2)],[]⟩ ?_
 refine sr (vo 1400 (eVb a1) rfl rfl (vo 1500 (eVb a2) rfl rfl (vo 1600 (eV0) rfl rfl (vr (.bool false) (nk ⟨[(0,i6 a0),(4,ow 4),(5,ow 5),(6,ow 6)],[(4,bk (eVb a1)),(5,bk (eVb a2)),(6,bk (eV0))]⟩ (a_seq (a_draw [⟨[4],[],[],[]⟩,⟨[],[],[],[0]⟩,⟨[5],[],[],[]⟩,⟨[],[],[],[0,1,2]⟩,⟨[],[],[],[]⟩,⟨[2000],[2000],[2000],[]⟩,⟨[],[],[],[0,1,2,3,5]⟩,⟨[],[],[],[0,1,2,3,5,6]⟩,⟨[2000],[2000],[],[0,1,2,3,4,5,6,7]⟩] (by kernel_rfl) (d_cons (vl (eVb a1) rfl rfl rfl rfl rfl rfl ?_)))))))))
 refine dn (d_cons ?_)
 obtain ⟨r9,hr10,h⟩:=bind_some h
 refine ca (spec_l01Deg_ok a1 r9 hr10) (dn (d_cons (vl (eVb a2) rfl rfl rfl rfl rfl rfl (dn (d_cons ?_)))))
 obtain ⟨r12,hr13,h⟩:=bind_some h
 refine ca (spec_l01Deg_ok a2 r12 hr13) (dn (d_cons (vq (eV0) rfl ⟨⟨_,rfl,rfl⟩,all_nil⟩ (dn (d_cons (vo 2000 (eV0) rfl rfl (dn (dj (i6 r9) rfl (dj (i6 r12) rfl ?_)))))))))
 refine d_cons (vs (eV0) rfl rfl (fun _=>rfl) rfl rfl rfl rfl rfl rfl (dn (d_nil (nj ⟨[(0,i6 a0),(4,ow 4),(5,ow 5),(6,ow 6),(8,i6 r9),(9,i6 r12),(10,ow 10)],[(4,bk (eVb a1)),(5,bk (eVb a2)),(6,bk (eV0)),(10,bk (eV0))]⟩ (a_seq ?_)))))
 obtain ⟨y17,hy18,hk19⟩:=bind_some h
 clear h
 refine a_join (emb:=fun (s:Bool)=>⟨[(0,i6 a0),(4,ow 4),(5,ow 5),(6,ow 6),(8,i6 r9),(9,i6 r12),(10,ow 10),(23,.bool s)],[(4,bk (eVb a1)),(5,bk (eVb a2)),(6,bk (eV0)),(10,bk (eV0))]⟩) (pre:=fun s=>s=y17) ?_ ?_
 ·rintro x16 rfl
  have h:=hk19
  refine ns ⟨[(0,i6 a0),(4,ow 4),(5,ow 5),(6,ow 6),(8,i6 r9),(9,i6 r12),(10,ow 10),(23,.bool x16)],[(4,bk (eVb a1)),(5,bk (eVb a2)),(6,bk (eV0)),(10,bk (eV0))]⟩ ?_
  cases hb21:x16
  ·have h:=ite_f hb21 h
   refine a_cond_f rfl (a_skip (nj ⟨[(0,i6 a0),(4,ow 4),(5,ow 5),(6,ow 6),(8,i6 r9),(9,i6 r12),(10,ow 10)],[(4,bk (eVb a1)),(5,bk (eVb a2)),(6,bk (eV0)),(10,bk (eV0))]⟩ (a_seq (sr (vr (i6 r9) (vr (i6 r12) (vr (i6 (IntKind.i64.wrap (r9 + r12))) (vr (.bool ((decide ((IntKind.i64.wrap (r9 + r12)) > 63)))) (nk ⟨[(0,i6 a0),(4,ow 4),(5,ow 5),(6,ow 6),(8,i6 r9),(9,i6 r12),(10,ow 10),(28,.bool ((decide ((IntKind.i64.wrap (r9 + r12)) > 63))))],[(4,bk (eVb a1)),(5,bk (eVb a2)),(6,bk (eV0)),(10,bk (eV0))]⟩ ?_)))))))))
   cases hb22:(decide ((IntKind.i64.wrap (r9 + r12)) > 63))
   ·have h:=ite_f hb22 h
    refine a_cond_f rfl (a_skip (nj ⟨[(0,i6 a0),(4,ow 4),(5,ow 5),(6,ow 6),(8,i6 r9),(9,i6 r12),(10,ow 10)],[(4,bk (eVb a1)),(5,bk (eVb a2)),(6,bk (eV0)),(10,bk (eV0))]⟩ ?_))
    obtain ⟨y815,hy816,hk817⟩:=bind_some h
    clear h
    refine a_join (emb:=fun (s:(Vec Int 64))=>⟨[(6,ow 6),(10,ow 10)],[(6,bk (eV0)),(10,bk (eVb s))]⟩) (pre:=fun s=>s=y815) ?_ ?_
    ·rintro x814 rfl
     have h:=hk817
     refine ns ⟨[(6,ow 6),(10,ow 10)],[(6,bk (eV0)),(10,bk (eVb x814))]⟩ (sr (vl (eVb x814) rfl rfl rfl rfl rfl rfl (vs (eVb x814) rfl rfl (fun _=>rfl) rfl rfl rfl rfl rfl rfl (vr (.bool true) (nx _ rfl (a_ret ?_))))))
     have hl1615:LdOk [] (eVb x814) [] 64 true (eVb x814):=(.nil rfl rfl rfl)
     refine ⟨.inr rfl,?_⟩
     rw [Try.results80]
     cases h
     exact ⟨_,_,_,_,_,ld_own (i:=⟨.arr 64 5,64,64,(eVb (vrep 64 (0:Int)))⟩) rfl rfl rfl hl1615,hl1615.c,.inl ⟨rfl,.inl rfl⟩,rfl,⟨_,_,_,_,_,rfl,trivial,.inl ⟨rfl,.inl rfl⟩,rfl,rfl⟩⟩
    ·have h:=hy816
     refine sr (vr (i6 0) (nk ⟨[(0,i6 a0),(4,ow 4),(5,ow 5),(6,ow 6),(8,i6 r9),(9,i6 r12),(10,ow 10),(11,i6 0)],[(4,bk (eVb a1)),(5,bk (eVb a2)),(6,bk (eV0)),(10,bk (eV0))]⟩ (a_block ?_)))
     refine a_loop (emb:=fun (s:(Int×(Vec Int 64)))=>⟨[(0,i6 a0),(4,ow 4),(5,ow 5),(6,ow 6),(8,i6 r9),(9,i6 r12),(10,ow 10),(11,i6 s.1)],[(4,bk (eVb a1)),(5,bk (eVb a2)),(6,bk (eV0)),(10,bk (eVb s.2))]⟩) (body:=(fun s:(Int×(Vec Int 64))=>spec_l01Times_l1 r9 r12 a1 a2 a0 s.1 s.2)) (G:=fun q=>some q=some y815) h rfl ?_ (by kernel_rfl)
     rintro X1346 ⟨x1081,x1082⟩ x1347 h hX1348
     have h:spec_l01Times_l1 r9 r12 a1 a2 a0 x1081 x1082=some x1347:=h
     refine ns ⟨[(0,i6 a0),(4,ow 4),(5,ow 5),(6,ow 6),(8,i6 r9),(9,i6 r12),(10,ow 10),(11,i6 x1081)],[(4,bk (eVb a1)),(5,bk (eVb a2)),(6,bk (eV0)),(10,bk (eVb x1082))]⟩ (a_seq (sr (vr (i6 x1081) (vr (i6 r9) (vr (.bool ((decide (x1081≤r9)))) (nk ⟨[(0,i6 a0),(4,ow 4),(5,ow 5),(6,ow 6),(8,i6 r9),(9,i6 r12),(10,ow 10),(11,i6 x1081),(32,.bool ((decide (x1081≤r9))))],[(4,bk (eVb a1)),(5,bk (eVb a2)),(6,bk (eV0)),(10,bk (eVb x1082))]⟩ ?_))))))
     cases hb1349:(decide (x1081≤r9))
     ·have h:=ite_f hb1349 h
      refine a_cond_f rfl (a_exit (t_exit ?_))
      cases h
      have h:=hX1348
      refine t_exit (b_exit ?_)
      exact jl x1082 h
     ·have h:=ite_t hb1349 h
      refine a_cond_t rfl (a_skip (nj ⟨[(0,i6 a0),(4,ow 4),(5,ow 5),(6,ow 6),(8,i6 r9),(9,i6 r12),(10,ow 10),(11,i6 x1081)],[(4,bk (eVb a1)),(5,bk (eVb a2)),(6,bk (eV0)),(10,bk (eVb x1082))]⟩ ?_))
      obtain ⟨y1480,hy1481,hk1482⟩:=bind_some h
      clear h
      refine a_join (emb:=fun (s:(Vec Int 64))=>⟨[(0,i6 a0),(4,ow 4),(5,ow 5),(6,ow 6),(8,i6 r9),(9,i6 r12),(10,ow 10),(11,i6 x1081)],[(4,bk (eVb a1)),(5,bk (eVb a2)),(6,bk (eV0)),(10,bk (eVb s))]⟩) (pre:=fun s=>s=y1480) ?_ ?_
      ·rintro x1479 rfl
       have h:=hk1482
       refine ns ⟨[(0,i6 a0),(4,ow 4),(5,ow 5),(6,ow 6),(8,i6 r9),(9,i6 r12),(10,ow 10),(11,i6 x1081)],[(4,bk (eVb a1)),(5,bk (eVb a2)),(6,bk (eV0)),(10,bk (eVb x1479))]⟩ (a_region (vr (i6 x1081) (vr (i6 (IntKind.i64.wrap (x1081 + 1))) (vr (i6 (IntKind.i64.wrap (x1081 + 1))) (a_nil ?_)))))
       cases h
       exact ag hX1348
      ·have h:=hy1481
       refine a_block (sr (vr (i6 0) (nk ⟨[(0,i6 a0),(4,ow 4),(5,ow 5),(6,ow 6),(8,i6 r9),(9,i6 r12),(10,ow 10),(11,i6 x1081),(12,i6 0)],[(4,bk (eVb a1)),(5,bk (eVb a2)),(6,bk (eV0)),(10,bk (eVb x1082))]⟩ (a_block ?_))))
       refine a_loop (emb:=fun (s:(Int×(Vec Int 64)))=>⟨[(0,i6 a0),(4,ow 4),(5,ow 5),(6,ow 6),(8,i6 r9),(9,i6 r12),(10,ow 10),(11,i6 x1081),(12,i6 s.1)],[(4,bk (eVb a1)),(5,bk (eVb a2)),(6,bk (eV0)),(10,bk (eVb s.2))]⟩) (body:=(fun s:(Int×(Vec Int 64))=>spec_l01Times_l2 r12 x1081 a1 a2 a0 s.1 s.2)) (G:=fun q=>some q=some y1480) h rfl ?_ (by kernel_rfl)
       rintro X1567 ⟨x1524,x1525⟩ x1568 h hX1569
       have h:spec_l01Times_l2 r12 x1081 a1 a2 a0 x1524 x1525=some x1568:=h
       refine ns ⟨[(0,i6 a0),(4,ow 4),(5,ow 5),(6,ow 6),(8,i6 r9),(9,i6 r12),(10,ow 10),(11,i6 x1081),(12,i6 x1524)],[(4,bk (eVb a1)),(5,bk (eVb a2)),(6,bk (eV0)),(10,bk (eVb x1525))]⟩ (a_seq ?_)
       obtain ⟨y1574,hy1575,hk1576⟩:=bind_some h
       clear h
       refine a_join (emb:=fun (s:Bool)=>⟨[(0,i6 a0),(4,ow 4),(5,ow 5),(6,ow 6),(8,i6 r9),(9,i6 r12),(10,ow 10),(11,i6 x1081),(12,i6 x1524),(43,.bool s)],[(4,bk (eVb a1)),(5,bk (eVb a2)),(6,bk (eV0)),(10,bk (eVb x1525))]⟩) (pre:=fun s=>s=y1574) ?_ ?_
       ·rintro x1573 rfl
        have h:=hk1576
        refine ns ⟨[(0,i6 a0),(4,ow 4),(5,ow 5),(6,ow 6),(8,i6 r9),(9,i6 r12),(10,ow 10),(11,i6 x1081),(12,i6 x1524),(43,.bool x1573)],[(4,bk (eVb a1)),(5,bk (eVb a2)),(6,bk (eV0)),(10,bk (eVb x1525))]⟩ ?_
        cases hb1580:x1573
        ·have h:=ite_f hb1580 h
         refine a_cond_f rfl (a_exit (t_exit ?_))
         cases h
         have h:=hX1569
         refine t_exit (b_exit (b_norm ?_))
         exact jl x1525 h
        ·have h:=ite_t hb1580 h
         refine a_cond_t rfl (a_skip (nj ⟨[(0,i6 a0),(4,ow 4),(5,ow 5),(6,ow 6),(8,i6 r9),(9,i6 r12),(10,ow 10),(11,i6 x1081),(12,i6 x1524)],[(4,bk (eVb a1)),(5,bk (eVb a2)),(6,bk (eV0)),(10,bk (eVb x1525))]⟩ (a_seq (a_block (a_draw [⟨[],[],[],[]⟩,⟨[],[],[],[]⟩,⟨[],[],[],[0,1]⟩,⟨[],[],[],[]⟩,⟨[],[],[],[]⟩,⟨[],[],[],[3,4]⟩,⟨[10],[],[10],[3,4,5]⟩,⟨[10],[],[],[3,4,5,6]⟩,⟨[],[],[],[3,4,5,6,7]⟩,⟨[],[],[],[]⟩,⟨[4],[],[4],[9]⟩,⟨[4],[],[],[9,10]⟩,⟨[],[],[],[9,10,11]⟩,⟨[],[],[],[]⟩,⟨[5],[],[5],[13]⟩,⟨[5],[],[],[13,14]⟩,⟨[],[],[],[13,14,15]⟩,⟨[],[],[],[9,10,11,12,13,14,15,16]⟩,⟨[],[],[],[3,4,5,6,7,8,9,10,11,12,13,14,15,16,17]⟩,⟨[],[],[],[]⟩,⟨[],[],[],[3,4,5,6,7,8,9,10,11,12,13,14,15,16,17,18,19]⟩,⟨[],[],[],[3,4,5,6,7,8,9,10,11,12,13,14,15,16,17,18,19,20]⟩,⟨[10],[],[10],[0,1,2,3,4,5,6,7,8,9,10,11,12,13,14,15,16,17,18,19,20,21]⟩,⟨[10],[10],[],[0,1,2,3,4,5,6,7,8,9,10,11,12,13,14,15,16,17,18,19,20,21,22]⟩] (by kernel_rfl) (dj (i6 x1081) rfl (dj (i6 x1524) rfl (dj (i6 (IntKind.i64.wrap (x1081 + x1524))) rfl (dj (i6 x1081) rfl ?_)))))))))
         refine dj (i6 x1524) rfl (dj (i6 (IntKind.i64.wrap (x1081 + x1524))) rfl (d_cons ?_))
         obtain ⟨hc1596,h⟩:=ifp_some h
         refine vq (.own 10 [(IntKind.i64.wrap (x1081 + x1524)).toNat] [(IntKind.i64.wrap (x1081 + x1524)).toNat*1]) rfl hc1596 (dn (d_cons ?_))
         have hl1597:LdOk [(IntKind.i64.wrap (x1081 + x1524)).toNat] (eVb x1525) [(IntKind.i64.wrap (x1081 + x1524)).toNat*1] 1 false (b8 ((rd x1525.1 (IntKind.i64.wrap (x1081 + x1524)).toNat))):=(.arr (vlt x1525 hc1596) rfl (.nil rfl rfl rfl))
         refine vq (b8 ((rd x1525.1 (IntKind.i64.wrap (x1081 + x1524)).toNat))) (ld_own (i:=⟨.int .u8,1,1,(.int .u8 0)⟩) rfl rfl rfl hl1597) hl1597.c (dn (d_cons ?_))
         obtain ⟨x1598,hx1599,h⟩:=letp_some h
         refine a_val' (v:=(i6 (IntKind.i64.wrap ((rd x1525.1 (IntKind.i64.wrap (x1081 + x1524)).toNat))))) (v':=(i6 x1598)) (u:=[]) (u':=[]) rfl (congrArg (fun z=>((i6 z):AV)) hx1599) rfl trivial rfl (dn (dj (i6 x1081) rfl (d_cons ?_)))
         obtain ⟨hc1600,h⟩:=ifp_some h
         refine vq (.own 4 [x1081.toNat] [x1081.toNat*1]) rfl hc1600 (dn (d_cons ?_))
         have hl1601:LdOk [x1081.toNat] (eVb a1) [x1081.toNat*1] 1 false (b8 (rd a1.1 x1081.toNat)):=(.arr (vlt a1 hc1600) rfl (.nil rfl rfl rfl))
         refine vq (b8 (rd a1.1 x1081.toNat)) (ld_own (i:=⟨.int .u8,1,1,(.int .u8 0)⟩) rfl rfl rfl hl1601) hl1601.c (dn (dj (i6 (IntKind.i64.wrap (rd a1.1 x1081.toNat))) rfl (dj (i6 x1524) rfl (d_cons ?_))))
         obtain ⟨hc1602,h⟩:=ifp_some h
         refine vq (.own 5 [x1524.toNat] [x1524.toNat*1]) rfl hc1602 (dn (d_cons ?_))
         have hl1603:LdOk [x1524.toNat] (eVb a2) [x1524.toNat*1] 1 false (b8 (rd a2.1 x1524.toNat)):=(.arr (vlt a2 hc1602) rfl (.nil rfl rfl rfl))
         refine vq (b8 (rd a2.1 x1524.toNat)) (ld_own (i:=⟨.int .u8,1,1,(.int .u8 0)⟩) rfl rfl rfl hl1603) hl1603.c (dn (dj (i6 (IntKind.i64.wrap (rd a2.1 x1524.toNat))) rfl (d_cons ?_)))
         obtain ⟨x1604,hx1605,h⟩:=letp_some h
         refine a_val' (v:=(i6 (IntKind.i64.wrap ((IntKind.i64.wrap (rd a1.1 x1081.toNat))*(IntKind.i64.wrap (rd a2.1 x1524.toNat)))))) (v':=(i6 x1604)) (u:=[]) (u':=[]) rfl (congrArg (fun z=>((i6 z):AV)) hx1605) rfl trivial rfl (dn (dj (i6 (IntKind.i64.wrap (x1598 + x1604))) rfl (dj (i6 a0) rfl (d_cons ?_))))
         obtain ⟨hc1606,h⟩:=ifp_some h
         refine vq (i6 (Int.tmod (IntKind.i64.wrap (x1598 + x1604)) a0)) rfl hc1606 (dn (d_cons ?_))
         obtain ⟨x1607,hx1608,h⟩:=letp_some h
         refine a_val' (v:=(b8 (IntKind.u8.wrap (Int.tmod (IntKind.i64.wrap (x1598 + x1604)) a0)))) (v':=(b8 x1607)) (u:=[]) (u':=[]) rfl (congrArg (fun z=>((b8 z):AV)) hx1608) rfl trivial rfl (dn (d_cons ?_))
         obtain ⟨hc1609,h⟩:=ifp_some h
         refine vq (.own 10 [(IntKind.i64.wrap (x1081 + x1524)).toNat] [(IntKind.i64.wrap (x1081 + x1524)).toNat*1]) rfl hc1609 (dn (d_cons ?_))
         have hs1610:StOk [(IntKind.i64.wrap (x1081 + x1524)).toNat] (eVb x1525) [(IntKind.i64.wrap (x1081 + x1524)).toNat*1] 1 (b8 x1607) (eVb ((vset x1525 (IntKind.i64.wrap (x1081 + x1524)).toNat x1607))):=(.arr (y:=x1607) (vlt x1525 hc1609) rfl (.nil rfl rfl rfl rfl))
         refine vu .top [(10,bk (eVb ((vset x1525 (IntKind.i64.wrap (x1081 + x1524)).toNat x1607))))] (st_own (i:=⟨.int .u8,1,1,(.int .u8 0)⟩) rfl rfl (fun _=>rfl) rfl hs1610) (hs1610.c rfl) rfl (dn (d_nil (b_norm (nj ⟨[(0,i6 a0),(4,ow 4),(5,ow 5),(6,ow 6),(8,i6 r9),(9,i6 r12),(10,ow 10),(11,i6 x1081),(12,i6 x1524)],[(4,bk (eVb a1)),(5,bk (eVb a2)),(6,bk (eV0)),(10,bk (eVb ((vset x1525 (IntKind.i64.wrap (x1081 + x1524)).toNat x1607))))]⟩ (a_region (vr (i6 x1524) (vr (i6 (IntKind.i64.wrap (x1524 + 1))) (vr (i6 (IntKind.i64.wrap (x1524 + 1))) (a_nil ?_)))))))))
         cases h
         exact ag hX1569
       ·have h:=hy1575
        refine a_region (vr (i6 x1524) (vr (i6 r12) (vr (.bool ((decide (x1524≤r12)))) (vr (.bool ((decide (x1524≤r12)))) ?_))))
        cases hb1577:(decide (x1524≤r12))
        ·have h:=ite_f hb1577 h
         refine a_gskip rfl (a_gskip rfl (a_gskip rfl (a_gskip rfl (vr (.bool false) (a_nil ?_)))))
         exact jl false h
        ·have h:=ite_t hb1577 h
         refine gp (i6 x1081) rfl rfl ?_
         obtain ⟨hc1578,h⟩:=ifp_some h
         refine gq (.own 4 [x1081.toNat] [x1081.toNat*1]) rfl rfl hc1578 ?_
         have hl1579:LdOk [x1081.toNat] (eVb a1) [x1081.toNat*1] 1 false (b8 (rd a1.1 x1081.toNat)):=(.arr (vlt a1 hc1578) rfl (.nil rfl rfl rfl))
         refine gq (b8 (rd a1.1 x1081.toNat)) rfl (ld_own (i:=⟨.int .u8,1,1,(.int .u8 0)⟩) rfl rfl rfl hl1579) hl1579.c (gp (.bool (((rd a1.1 x1081.toNat) != 0))) rfl rfl (vr (.bool (((rd a1.1 x1081.toNat) != 0))) (a_nil ?_)))
         exact jl (((rd a1.1 x1081.toNat) != 0)) h
   ·have h:=ite_t hb22 h
    refine a_cond_t rfl (sr (vl (eV0) rfl rfl rfl rfl rfl rfl (vs (eV0) rfl rfl (fun _=>rfl) rfl rfl rfl rfl rfl rfl (vr (.bool false) (nx _ rfl (a_ret (t_ret ?_)))))))
    have hl1618:LdOk [] (eV0) [] 64 true (eV0):=(.nil rfl rfl rfl)
    refine ⟨.inr rfl,?_⟩
    rw [Try.results80]
    cases h
    exact ⟨_,_,_,_,_,ld_own (i:=⟨.arr 64 5,64,64,(eVb (vrep 64 (0:Int)))⟩) rfl rfl rfl hl1618,hl1618.c,.inl ⟨rfl,.inl rfl⟩,rfl,⟨_,_,_,_,_,rfl,trivial,.inl ⟨rfl,.inl rfl⟩,rfl,rfl⟩⟩
  ·have h:=ite_t hb21 h
   refine a_cond_t rfl (sr (vl (eV0) rfl rfl rfl rfl rfl rfl (vs (eV0) rfl rfl (fun _=>rfl) rfl rfl rfl rfl rfl rfl (vr (.bool true) (nx _ rfl (a_ret (t_ret ?_)))))))
   have hl1621:LdOk [] (eV0) [] 64 true (eV0):=(.nil rfl rfl rfl)
   refine ⟨.inr rfl,?_⟩
   rw [Try.results80]
   cases h
   exact ⟨_,_,_,_,_,ld_own (i:=⟨.arr 64 5,64,64,(eVb (vrep 64 (0:Int)))⟩) rfl rfl rfl hl1621,hl1621.c,.inl ⟨rfl,.inl rfl⟩,rfl,⟨_,_,_,_,_,rfl,trivial,.inl ⟨rfl,.inl rfl⟩,rfl,rfl⟩⟩
 ·have h:=hy18
  refine a_region (vr (i6 r9) (vr (.bool ((decide (r9 < 0)))) (vr (.bool ((decide (r9 < 0)))) ?_)))
  cases hb20:(decide (r9 < 0))
  ·have h:=ite_f hb20 h
   refine gp (i6 r12) rfl rfl (gp (.bool ((decide (r12 < 0)))) rfl rfl (vr (.bool ((decide (r12 < 0)))) (a_nil ?_)))
   exact jl ((decide (r12 < 0))) h
  ·have h:=ite_t hb20 h
   refine a_gskip rfl (a_gskip rfl (vr (.bool true) (a_nil ?_)))
   exact jl true h
end Go.Proofs.Ytebfhlnfmkhmcaa
