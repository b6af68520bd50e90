/- Functions of the program: plain Lean functions, and that the program computes them. Printed by gen.py. -/
import Derived.Test.YtkbnegemdlnncaaGreatFnT
import Derived.Test.YtkbnegemdlnncaaGreatFn2
import Derived.Test.YtkbnegemdlnncaaGreatFn3
import Derived.Test.YtkbnegemdlnncaaGreatFn4
namespace Go.Proofs.YtkbnegemdlnncaaGreat
open Go.Abs Go.Proofs
set_option linter.unusedSimpArgs false
set_option linter.unusedVariables false
set_option maxHeartbeats 16000000
attribute [local irreducible] Abs.acode Abs.aops Abs.aopsT Abs.thenK Abs.blockK

def impl_row_at_L:Live:=[(0,[0,1]),(1,[0,1]),(2,[0,1]),(3,[]),(100008,[0,1,8])]
noncomputable def impl_row_at (a0:(List Int)) (a1:Int):Option Int :=
 (if (decide (a1 < (a0.length:Int))) then (ifp (0≤a1∧a1 < ((a0.length:Nat):Int)) ((some (rd a0 a1.toNat)))) else (some 0))
theorem impl_row_at_ok (a0:(List Int)) (a1:Int) (r:Int) (h:impl_row_at a0 a1=some r):Den Tryz.prog 133 [(eSi64 a0),(i6 a1)] { r:=(i6 r) }:=by
 refine dd (rs:=[(i6 r)]) (L:=impl_row_at_L) good [] Tryz.func133 Tryz.ntmps133 ?_
 refine ns ⟨[(0,eSi64 a0),(1,i6 a1)],[]⟩ ?_
 refine sr (vr (i6 0) (nk ⟨[(0,eSi64 a0),(1,i6 a1)],[]⟩ (a_seq (sr (vr (i6 a1) (vr (eSi64 a0) (vq (i6 (a0.length:Int)) (len_run rfl rfl) trivial (vr (.bool ((decide (a1 < (a0.length:Int))))) (nk ⟨[(0,eSi64 a0),(1,i6 a1),(8,.bool ((decide (a1 < (a0.length:Int)))))],[]⟩ ?_)))))))))
 cases hb1:(decide (a1 < (a0.length:Int)))
 ·have h:=ite_f hb1 h
  refine a_cond_f rfl (a_skip (nj ⟨[],[]⟩ (sr (vr (i6 0) (nx _ rfl (a_ret ?_))))))
  refine ⟨.inr rfl,?_⟩
  rw [Tryz.results133]
  cases h
  exact ⟨_,_,_,_,_,rfl,trivial,.inl ⟨rfl,.inl rfl⟩,rfl,rfl⟩
 ·have h:=ite_t hb1 h
  refine a_cond_t rfl (sr (vr (eSi64 a0) (vr (i6 a1) ?_)))
  obtain ⟨hc2,h⟩:=ifp_some h
  refine vq (.ref (.row 1 (a0.map (AV.int .i64))) [a1.toNat] [a1.toNat*1]) rfl (lmap hc2) ?_
  have hl3:LdOk [a1.toNat] (.row 1 (a0.map (AV.int .i64))) [a1.toNat*1] 1 false (i6 (rd a0 a1.toNat)):=(.row (llt hc2) rfl (.nil rfl rfl rfl))
  refine vq (i6 (rd a0 a1.toNat)) (ld_ref (i:=⟨.int .i64,1,8,(.int .i64 0)⟩) rfl rfl hl3) hl3.c (vr (i6 (rd a0 a1.toNat)) (nx _ rfl (a_ret (t_ret ?_))))
  refine ⟨.inr rfl,?_⟩
  rw [Tryz.results133]
  cases h
  exact ⟨_,_,_,_,_,rfl,trivial,.inl ⟨rfl,.inl rfl⟩,rfl,rfl⟩
def impl_prime_combine_L:Live:=[(0,[0,1,2,3]),(1,[0,1,2,3]),(2,[0,1,2,3,9]),(3,[0,1,2,3,9,18,19]),(4,[0,1,2,3,9,18,19]),(5,[0,1,2,3,9,10,18,19]),(6,[0,1,2,3,9,18,19]),(7,[9]),(100020,[0,1,2,3,9,18,19,20])]
noncomputable def impl_prime_combine_l1 (x1:Int) (a1:(List Int)) (a2:(List Int)) (a0:Int) (a3:Int) (x58:Int) (x59:(List Int)):Option ((Int×(List Int))⊕(List Int)) :=
 (letp ((decide (x58 < (((List.replicate x1.toNat (0:Int)).length:Int))))) fun x74=>(if x74 then (Option.bind (impl_row_at a1 x58) fun r77=>(Option.bind (impl_row_at a2 x58) fun r79=>(Option.bind (impl_prime_reduce a0 (IntKind.i64.wrap (r77 + (IntKind.i64.wrap (a3*r79))))) fun r81=>(ifp (0≤x58∧x58 < ((x59.length:Nat):Int)) ((some (.inl ((IntKind.i64.wrap (x58 + 1),(x59.set x58.toNat r81)))))))))) else (some (.inr x59))))
noncomputable def impl_prime_combine (a0:Int) (a1:(List Int)) (a2:(List Int)) (a3:Int):Option (List Int) :=
 (letp ((if (a2.length:Int) > (a1.length:Int) then (a2.length:Int) else (a1.length:Int))) fun x1=>(ifp (0≤x1∧x1≤140737488355328∧8*x1≤140737488355328) ((Option.bind (α:=(List Int)) ((loopM (fun s:(Int×(List Int))=>impl_prime_combine_l1 x1 a1 a2 a0 a3 s.1 s.2) (0,List.replicate x1.toNat (0:Int)))) fun x43=>(Option.bind (impl_row_trimmed x43) fun r86=>(some r86))))))
theorem impl_prime_combine_ok (a0:Int) (a1:(List Int)) (a2:(List Int)) (a3:Int) (r:(List Int)) (h:impl_prime_combine a0 a1 a2 a3=some r):Den Tryz.prog 74 [(i6 a0),(eSi64 a1),(eSi64 a2),(i6 a3)] { r:=(eSi64 r) }:=by
 refine dd (rs:=[(eSi64 r)]) (L:=impl_prime_combine_L) good [(8,1),(9,2)] Tryz.func74 Tryz.ntmps74 ?_
 refine ns ⟨[(0,i6 a0),(1,eSi64 a1),(2,eSi64 a2),(3,i6 a3)],[]⟩ ?_
 refine sr (vr (eSi64 ([])) (nk ⟨[(0,i6 a0),(1,eSi64 a1),(2,eSi64 a2),(3,i6 a3)],[]⟩ (sr (vr (eSi64 a1) (vq (i6 (a1.length:Int)) (len_run rfl rfl) trivial (vr (eSi64 a2) (vq (i6 (a2.length:Int)) (len_run rfl rfl) trivial ?_)))))))
 obtain ⟨x1,hx2,h⟩:=letp_some h
 refine a_val' (v:=(i6 ((if (a2.length:Int) > (a1.length:Int) then (a2.length:Int) else (a1.length:Int))))) (v':=(i6 x1)) (u:=[]) (u':=[]) rfl (congrArg (fun z=>((i6 z):AV)) hx2) rfl trivial rfl ?_
 obtain ⟨hc3,h⟩:=ifp_some h
 refine vu (.osl 2600) [(2600,bk (.row 1 ((List.replicate x1.toNat (0:Int)).map (AV.int .i64))))] (mk_run (i:=⟨.int .i64,1,8,(.int .i64 0)⟩) (f:=(AV.int .i64)) (y:=(0:Int)) rfl rfl rfl rfl rfl rfl) ⟨rfl,hc3.1,hc3.2.1,hc3.2.2,(Nat.le_of_ble_eq_true rfl)⟩ rfl (vr (.osl 2600) (nk ⟨[(0,i6 a0),(1,eSi64 a1),(2,eSi64 a2),(3,i6 a3),(9,.osl 9)],[(9,bk (.row 1 ((List.replicate x1.toNat (0:Int)).map (AV.int .i64))))]⟩ ?_))
 obtain ⟨y44,hy45,hk46⟩:=bind_some h
 clear h
 refine a_join (emb:=fun (s:(List Int))=>⟨[(9,.osl 9)],[(9,bk (.row 1 (s.map (AV.int .i64))))]⟩) (pre:=fun s=>s=y44) ?_ ?_
 ·rintro x43 rfl
  have h:=hk46
  refine ns ⟨[(9,.osl 9)],[(9,bk (.row 1 (x43.map (AV.int .i64))))]⟩ (sr (vr (.osl 9) ?_))
  obtain ⟨r86,hr87,h⟩:=bind_some h
  refine a_call (args:=[(eSi64 x43)]) (u:=[(9,bf (.row 1 (x43.map (AV.int .i64))))]) (r:=(eSi64 r86)) rfl rfl (impl_row_trimmed_ok x43 r86 hr87) rfl (vr (eSi64 r86) (nx _ rfl (a_ret ?_)))
  refine ⟨.inr rfl,?_⟩
  rw [Tryz.results74]
  cases h
  exact ⟨_,_,_,_,_,rfl,trivial,.inl ⟨rfl,.inl rfl⟩,rfl,rfl⟩
 ·have h:=hy45
  refine sr (vr (.osl 9) (vq (i6 (((List.replicate x1.toNat (0:Int)).length:Int))) (leno_run rfl rfl rfl) trivial (vr (i6 0) (nk ⟨[(0,i6 a0),(1,eSi64 a1),(2,eSi64 a2),(3,i6 a3),(9,.osl 9),(18,i6 (((List.replicate x1.toNat (0:Int)).length:Int))),(19,i6 0)],[(9,bk (.row 1 ((List.replicate x1.toNat (0:Int)).map (AV.int .i64))))]⟩ (a_block ?_)))))
  refine a_loop (emb:=fun (s:(Int×(List Int)))=>⟨[(0,i6 a0),(1,eSi64 a1),(2,eSi64 a2),(3,i6 a3),(9,.osl 9),(18,i6 (((List.replicate x1.toNat (0:Int)).length:Int))),(19,i6 s.1)],[(9,bk (.row 1 (s.2.map (AV.int .i64))))]⟩) (body:=(fun s:(Int×(List Int))=>impl_prime_combine_l1 x1 a1 a2 a0 a3 s.1 s.2)) (G:=fun q=>some q=some y44) h rfl ?_ (by kernel_rfl)
  rintro X71 ⟨x58,x59⟩ x72 h hX73
  have h:impl_prime_combine_l1 x1 a1 a2 a0 a3 x58 x59=some x72:=h
  refine ns ⟨[(0,i6 a0),(1,eSi64 a1),(2,eSi64 a2),(3,i6 a3),(9,.osl 9),(18,i6 (((List.replicate x1.toNat (0:Int)).length:Int))),(19,i6 x58)],[(9,bk (.row 1 (x59.map (AV.int .i64))))]⟩ (sr ?_)
  obtain ⟨x74,hx75,h⟩:=letp_some h
  refine a_val' (v:=(.bool ((decide (x58 < (((List.replicate x1.toNat (0:Int)).length:Int))))))) (v':=(.bool x74)) (u:=[]) (u':=[]) rfl (congrArg (fun z=>((.bool z):AV)) hx75) rfl trivial rfl (nk ⟨[(0,i6 a0),(1,eSi64 a1),(2,eSi64 a2),(3,i6 a3),(9,.osl 9),(18,i6 (((List.replicate x1.toNat (0:Int)).length:Int))),(19,i6 x58),(20,.bool x74)],[(9,bk (.row 1 (x59.map (AV.int .i64))))]⟩ (a_seq ?_))
  cases hb76:x74
  ·have h:=ite_f hb76 h
   refine a_cond_f rfl (a_exit (t_exit ?_))
   cases h
   have h:=hX73
   refine t_exit (b_exit ?_)
   exact jl x59 h
  ·have h:=ite_t hb76 h
   refine a_cond_t rfl (a_skip (nj ⟨[(0,i6 a0),(1,eSi64 a1),(2,eSi64 a2),(3,i6 a3),(9,.osl 9),(18,i6 (((List.replicate x1.toNat (0:Int)).length:Int))),(19,i6 x58)],[(9,bk (.row 1 (x59.map (AV.int .i64))))]⟩ (a_seq (a_block (sr (vr (i6 x58) (vr (i6 x58) (nk ⟨[(0,i6 a0),(1,eSi64 a1),(2,eSi64 a2),(3,i6 a3),(9,.osl 9),(10,i6 x58),(18,i6 (((List.replicate x1.toNat (0:Int)).length:Int))),(19,i6 x58)],[(9,bk (.row 1 (x59.map (AV.int .i64))))]⟩ (a_region ?_)))))))))
   refine vr (.osl 9) (vr (i6 x58) (vr (i6 a0) (vr (eSi64 a1) (vr (i6 x58) ?_))))
   obtain ⟨r77,hr78,h⟩:=bind_some h
   refine ca (impl_row_at_ok a1 x58 r77 hr78) (vr (i6 a3) (vr (eSi64 a2) (vr (i6 x58) ?_)))
   obtain ⟨r79,hr80,h⟩:=bind_some h
   refine ca (impl_row_at_ok a2 x58 r79 hr80) (vr (i6 (IntKind.i64.wrap (a3*r79))) (vr (i6 (IntKind.i64.wrap (r77 + (IntKind.i64.wrap (a3*r79))))) ?_))
   obtain ⟨r81,hr82,h⟩:=bind_some h
   refine ca (impl_prime_reduce_ok a0 (IntKind.i64.wrap (r77 + (IntKind.i64.wrap (a3*r79)))) r81 hr82) ?_
   obtain ⟨hc83,h⟩:=ifp_some h
   refine vq (.own 9 [x58.toNat] [x58.toNat*1]) rfl (lmap hc83) ?_
   have hs84:StOk [x58.toNat] (.row 1 (x59.map (AV.int .i64))) [x58.toNat*1] 1 (i6 r81) (.row 1 ((x59.set x58.toNat r81).map (AV.int .i64))):=(.row (y:=r81) (llt hc83) rfl (.nil rfl rfl rfl rfl))
   refine vu .top [(9,bk (.row 1 ((x59.set x58.toNat r81).map (AV.int .i64))))] (st_own (i:=⟨.int .i64,1,8,(.int .i64 0)⟩) rfl rfl (fun _=>rfl) rfl hs84) (hs84.c rfl) rfl (a_nil (b_norm (nj ⟨[(0,i6 a0),(1,eSi64 a1),(2,eSi64 a2),(3,i6 a3),(9,.osl 9),(18,i6 (((List.replicate x1.toNat (0:Int)).length:Int))),(19,i6 x58)],[(9,bk (.row 1 ((x59.set x58.toNat r81).map (AV.int .i64))))]⟩ (a_region (vr (i6 (IntKind.i64.wrap (x58 + 1))) (vr (i6 (IntKind.i64.wrap (x58 + 1))) (a_nil ?_)))))))
   cases h
   exact ag hX73
def impl_prime_bracket_L:Live:=[(0,[0,1,2]),(1,[0,1,2])]
noncomputable def impl_prime_bracket (a0:Int) (a1:Int) (a2:Int):Option (List Int) :=
 (Option.bind (impl_letter) fun r1=>(Option.bind (impl_prime_spread a0 r1 a1) fun r3=>(Option.bind (impl_letter) fun r5=>(Option.bind (impl_prime_spread a0 r5 a2) fun r7=>(Option.bind (impl_prime_combine a0 r3 r7 (-1)) fun r9=>(some r9))))))
theorem impl_prime_bracket_ok (a0:Int) (a1:Int) (a2:Int) (r:(List Int)) (h:impl_prime_bracket a0 a1 a2=some r):Den Tryz.prog 117 [(i6 a0),(i6 a1),(i6 a2)] { r:=(eSi64 r) }:=by
 refine dd (rs:=[(eSi64 r)]) (L:=impl_prime_bracket_L) good [(6,1)] Tryz.func117 Tryz.ntmps117 ?_
 refine ns ⟨[(0,i6 a0),(1,i6 a1),(2,i6 a2)],[]⟩ ?_
 refine sr (vr (eSi64 ([])) (nk ⟨[(0,i6 a0),(1,i6 a1),(2,i6 a2)],[]⟩ (sr (vr (i6 a0) (vr (i6 a0) ?_)))))
 obtain ⟨r1,hr2,h⟩:=bind_some h
 refine ca (impl_letter_ok r1 hr2) (vr (i6 a1) ?_)
 obtain ⟨r3,hr4,h⟩:=bind_some h
 refine ca (impl_prime_spread_ok a0 r1 a1 r3 hr4) (vr (i6 a0) ?_)
 obtain ⟨r5,hr6,h⟩:=bind_some h
 refine ca (impl_letter_ok r5 hr6) (vr (i6 a2) ?_)
 obtain ⟨r7,hr8,h⟩:=bind_some h
 refine ca (impl_prime_spread_ok a0 r5 a2 r7 hr8) ?_
 obtain ⟨r9,hr10,h⟩:=bind_some h
 refine ca (impl_prime_combine_ok a0 r3 r7 (-1) r9 hr10) (vr (eSi64 r9) (nx _ rfl (a_ret ?_)))
 refine ⟨.inr rfl,?_⟩
 rw [Tryz.results117]
 cases h
 exact ⟨_,_,_,_,_,rfl,trivial,.inl ⟨rfl,.inl rfl⟩,rfl,rfl⟩
def impl_prime_first_L:Live:=[(0,[0,1]),(1,[0,1]),(2,[0,1,5]),(3,[0,1,5,7,8]),(4,[0,1,5,7,8]),(5,[0,1,5,6,7,8]),(6,[0,1,5,7,8]),(7,[5]),(100009,[0,1,5,7,8,9])]
noncomputable def impl_prime_first_l1 (a1:Int) (a0:Int) (x27:Int) (x28:(List (List Int))):Option ((Int×(List (List Int)))⊕(List (List Int))) :=
 (if (decide (x27 < a1)) then (Option.bind (impl_prime_bracket a0 a1 x27) fun r37=>(ifp ((x28.length + ([r37]:List (List Int)).length)*24≤140737488355328) ((some (.inl ((IntKind.i64.wrap (x27 + 1),(x28 ++ ([r37]))))))))) else (some (.inr x28)))
noncomputable def impl_prime_first (a0:Int) (a1:Int):Option (List (List Int)) :=
 (Option.bind (α:=(List (List Int))) ((loopM (fun s:(Int×(List (List Int)))=>impl_prime_first_l1 a1 a0 s.1 s.2) (0,[]))) fun x19=>(some x19))
theorem impl_prime_first_ok (a0:Int) (a1:Int) (r:(List (List Int))) (h:impl_prime_first a0 a1=some r):Den Tryz.prog 68 [(i6 a0),(i6 a1)] { r:=(eSSi64 r) }:=by
 refine dd (rs:=[(eSSi64 r)]) (L:=impl_prime_first_L) good [(4,1),(5,2)] Tryz.func68 Tryz.ntmps68 ?_
 refine ns ⟨[(0,i6 a0),(1,i6 a1)],[]⟩ ?_
 refine sr (vr (eSSi64 ([])) (nk ⟨[(0,i6 a0),(1,i6 a1)],[]⟩ (sr (vu (.osl 1500) [(1500,bk (.row 1 (([]).map eSi64)))] rfl trivial rfl (nk ⟨[(0,i6 a0),(1,i6 a1),(5,.osl 5)],[(5,bk (.row 1 (([]).map eSi64)))]⟩ ?_)))))
 obtain ⟨y20,hy21,hk22⟩:=bind_some h
 clear h
 refine a_join (emb:=fun (s:(List (List Int)))=>⟨[(5,.osl 5)],[(5,bk (.row 1 (s.map eSi64)))]⟩) (pre:=fun s=>s=y20) ?_ ?_
 ·rintro x19 rfl
  have h:=hk22
  refine ns ⟨[(5,.osl 5)],[(5,bk (.row 1 (x19.map eSi64)))]⟩ (sr (vr (.osl 5) (vu (eSSi64 x19) [(5,bf (.row 1 (x19.map eSi64)))] rfl trivial rfl (nx _ rfl (a_ret ?_)))))
  refine ⟨.inr rfl,?_⟩
  rw [Tryz.results68]
  cases h
  exact ⟨_,_,_,_,_,rfl,trivial,.inl ⟨rfl,.inl rfl⟩,rfl,rfl⟩
 ·have h:=hy21
  refine sr (vr (i6 a1) (vr (i6 0) (nk ⟨[(0,i6 a0),(1,i6 a1),(5,.osl 5),(7,i6 a1),(8,i6 0)],[(5,bk (.row 1 (([]).map eSi64)))]⟩ (a_block ?_))))
  refine a_loop (emb:=fun (s:(Int×(List (List Int))))=>⟨[(0,i6 a0),(1,i6 a1),(5,.osl 5),(7,i6 a1),(8,i6 s.1)],[(5,bk (.row 1 (s.2.map eSi64)))]⟩) (body:=(fun s:(Int×(List (List Int)))=>impl_prime_first_l1 a1 a0 s.1 s.2)) (G:=fun q=>some q=some y20) h rfl ?_ (by kernel_rfl)
  rintro X33 ⟨x27,x28⟩ x34 h hX35
  have h:impl_prime_first_l1 a1 a0 x27 x28=some x34:=h
  refine ns ⟨[(0,i6 a0),(1,i6 a1),(5,.osl 5),(7,i6 a1),(8,i6 x27)],[(5,bk (.row 1 (x28.map eSi64)))]⟩ (sr (vr (.bool ((decide (x27 < a1)))) (nk ⟨[(0,i6 a0),(1,i6 a1),(5,.osl 5),(7,i6 a1),(8,i6 x27),(9,.bool ((decide (x27 < a1))))],[(5,bk (.row 1 (x28.map eSi64)))]⟩ (a_seq ?_))))
  cases hb36:(decide (x27 < a1))
  ·have h:=ite_f hb36 h
   refine a_cond_f rfl (a_exit (t_exit ?_))
   cases h
   have h:=hX35
   refine t_exit (b_exit ?_)
   exact jl x28 h
  ·have h:=ite_t hb36 h
   refine a_cond_t rfl (a_skip (nj ⟨[(0,i6 a0),(1,i6 a1),(5,.osl 5),(7,i6 a1),(8,i6 x27)],[(5,bk (.row 1 (x28.map eSi64)))]⟩ (a_seq (a_block (sr (vr (i6 x27) (vr (i6 x27) (nk ⟨[(0,i6 a0),(1,i6 a1),(5,.osl 5),(6,i6 x27),(7,i6 a1),(8,i6 x27)],[(5,bk (.row 1 (x28.map eSi64)))]⟩ (a_region ?_)))))))))
   refine vr (.osl 5) (vr (i6 a0) (vr (i6 a1) (vr (i6 x27) ?_)))
   obtain ⟨r37,hr38,h⟩:=bind_some h
   refine ca (impl_prime_bracket_ok a0 a1 x27 r37 hr38) (vq (.sl 1 true (([r37]).map eSi64)) rfl ⟨(Nat.le_of_ble_eq_true rfl),(Nat.le_of_ble_eq_true rfl),(all_cons ⟨(Nat.le_of_ble_eq_true rfl),rfl⟩ all_nil)⟩ ?_)
   obtain ⟨hc39,h⟩:=ifp_some h
   refine vu (.osl 2700) [(2700,bk (.row 1 (((x28 ++ ([r37]))).map eSi64))),(5,none)] (app_run (i:=⟨.slice 2,1,24,(eSi64 [])⟩) (f:=eSi64) (l:=x28) (l2:=[r37]) rfl rfl rfl rfl (fun _=>rfl) rfl rfl) (app_c (f:=eSi64) (s:=1) (sz:=1) (by':=24) (u:=[]) (id:=5) hc39 (.inr rfl) rfl rfl rfl) rfl (vr (.osl 2700) (a_nil (b_norm (nj ⟨[(0,i6 a0),(1,i6 a1),(5,.osl 5),(7,i6 a1),(8,i6 x27)],[(5,bk (.row 1 (((x28 ++ ([r37]))).map eSi64)))]⟩ (a_region (vr (i6 (IntKind.i64.wrap (x27 + 1))) (vr (i6 (IntKind.i64.wrap (x27 + 1))) (a_nil ?_))))))))
   cases h
   exact ag hX35
def impl_prime_productRow_L:Live:=[(0,[0,1]),(1,[0,1]),(2,[0,1,5]),(3,[0,5,9,10,11]),(4,[0,5,9,10,11]),(5,[0,5,7,9,10,11]),(6,[0,5,9,10,11]),(7,[5]),(100012,[0,5,9,10,11,12])]
noncomputable def impl_prime_productRow_l1 (a1:(List (List Int))) (a0:Int) (x31:(List Int)) (x32:Int):Option (((List Int)×Int)⊕(List Int)) :=
 (if (decide (x32 < (a1.length:Int))) then (ifp (0≤x32∧x32 < ((a1.length:Nat):Int)) ((Option.bind (impl_prime_times a0 x31 (rd a1 x32.toNat)) fun r44=>(some (.inl ((r44,IntKind.i64.wrap (x32 + 1)))))))) else (some (.inr x31)))
noncomputable def impl_prime_productRow (a0:Int) (a1:(List (List Int))):Option (List Int) :=
 (Option.bind (α:=(List Int)) ((loopM (fun s:((List Int)×Int)=>impl_prime_productRow_l1 a1 a0 s.1 s.2) ([1],0))) fun x22=>(some x22))
theorem impl_prime_productRow_ok (a0:Int) (a1:(List (List Int))) (r:(List Int)) (h:impl_prime_productRow a0 a1=some r):Den Tryz.prog 158 [(i6 a0),(eSSi64 a1)] { r:=(eSi64 r) }:=by
 refine dd (rs:=[(eSi64 r)]) (L:=impl_prime_productRow_L) good [(4,1),(5,1),(7,1)] Tryz.func158 Tryz.ntmps158 ?_
 refine ns ⟨[(0,i6 a0),(1,eSSi64 a1)],[]⟩ ?_
 refine sr (vr (eSi64 ([])) (nk ⟨[(0,i6 a0),(1,eSSi64 a1)],[]⟩ (sr (vq (.sl 1 true (([1]).map (AV.int .i64))) rfl ⟨(Nat.le_of_ble_eq_true rfl),(Nat.le_of_ble_eq_true rfl),(all_cons ⟨(Nat.le_of_ble_eq_true rfl),rfl⟩ all_nil)⟩ (vq (eSi64 ([1])) (asg_tight (i:=⟨.int .i64,1,8,(.int .i64 0)⟩) (f:=(AV.int .i64)) (l:=[1]) rfl rfl rfl) trivial (nk ⟨[(0,i6 a0),(1,eSSi64 a1),(5,eSi64 ([1]))],[]⟩ ?_))))))
 obtain ⟨y23,hy24,hk25⟩:=bind_some h
 clear h
 refine a_join (emb:=fun (s:(List Int))=>⟨[(5,eSi64 s)],[]⟩) (pre:=fun s=>s=y23) ?_ ?_
 ·rintro x22 rfl
  have h:=hk25
  refine ns ⟨[(5,eSi64 x22)],[]⟩ (sr (vr (eSi64 x22) (vr (eSi64 x22) (nx _ rfl (a_ret ?_)))))
  refine ⟨.inr rfl,?_⟩
  rw [Tryz.results158]
  cases h
  exact ⟨_,_,_,_,_,rfl,trivial,.inl ⟨rfl,.inl rfl⟩,rfl,rfl⟩
 ·have h:=hy24
  refine sr (vr (eSSi64 a1) (vq (i6 (a1.length:Int)) (len_run rfl rfl) trivial (vr (i6 0) (nk ⟨[(0,i6 a0),(5,eSi64 ([1])),(9,eSSi64 a1),(10,i6 (a1.length:Int)),(11,i6 0)],[]⟩ (a_block ?_)))))
  refine a_loop (emb:=fun (s:((List Int)×Int))=>⟨[(0,i6 a0),(5,eSi64 s.1),(9,eSSi64 a1),(10,i6 (a1.length:Int)),(11,i6 s.2)],[]⟩) (body:=(fun s:((List Int)×Int)=>impl_prime_productRow_l1 a1 a0 s.1 s.2)) (G:=fun q=>some q=some y23) h rfl ?_ (by kernel_rfl)
  rintro X38 ⟨x31,x32⟩ x39 h hX40
  have h:impl_prime_productRow_l1 a1 a0 x31 x32=some x39:=h
  refine ns ⟨[(0,i6 a0),(5,eSi64 x31),(9,eSSi64 a1),(10,i6 (a1.length:Int)),(11,i6 x32)],[]⟩ (sr (vr (.bool ((decide (x32 < (a1.length:Int))))) (nk ⟨[(0,i6 a0),(5,eSi64 x31),(9,eSSi64 a1),(10,i6 (a1.length:Int)),(11,i6 x32),(12,.bool ((decide (x32 < (a1.length:Int)))))],[]⟩ (a_seq ?_))))
  cases hb41:(decide (x32 < (a1.length:Int)))
  ·have h:=ite_f hb41 h
   refine a_cond_f rfl (a_exit (t_exit ?_))
   cases h
   have h:=hX40
   refine t_exit (b_exit ?_)
   exact jl x31 h
  ·have h:=ite_t hb41 h
   refine a_cond_t rfl (a_skip (nj ⟨[(0,i6 a0),(5,eSi64 x31),(9,eSSi64 a1),(10,i6 (a1.length:Int)),(11,i6 x32)],[]⟩ (a_seq (a_block (sr ?_)))))
   obtain ⟨hc42,h⟩:=ifp_some h
   refine vq (.ref (.row 1 (a1.map eSi64)) [x32.toNat] [x32.toNat*1]) rfl (lmap hc42) ?_
   have hl43:LdOk [x32.toNat] (.row 1 (a1.map eSi64)) [x32.toNat*1] 1 false (eSi64 (rd a1 x32.toNat)):=(.row (llt hc42) rfl (.nil rfl rfl rfl))
   refine vq (eSi64 (rd a1 x32.toNat)) (ld_ref (i:=⟨.slice 2,1,24,(eSi64 [])⟩) rfl rfl hl43) hl43.c (vr (eSi64 (rd a1 x32.toNat)) (nk ⟨[(0,i6 a0),(5,eSi64 x31),(7,eSi64 (rd a1 x32.toNat)),(9,eSSi64 a1),(10,i6 (a1.length:Int)),(11,i6 x32)],[]⟩ (a_region (vr (i6 a0) (vr (eSi64 x31) (vr (eSi64 (rd a1 x32.toNat)) ?_))))))
   obtain ⟨r44,hr45,h⟩:=bind_some h
   refine ca (impl_prime_times_ok a0 x31 (rd a1 x32.toNat) r44 hr45) (vr (eSi64 r44) (a_nil (b_norm (nj ⟨[(0,i6 a0),(5,eSi64 r44),(9,eSSi64 a1),(10,i6 (a1.length:Int)),(11,i6 x32)],[]⟩ (a_region (vr (i6 (IntKind.i64.wrap (x32 + 1))) (vr (i6 (IntKind.i64.wrap (x32 + 1))) (a_nil ?_))))))))
   cases h
   exact ag hX40
def impl_cut_bottom_of_s_impl_prime_first_L:Live:=[(0,[0]),(1,[1]),(2,[1,4]),(3,[1,4,22,23,24]),(4,[1,4,22,23,24]),(5,[1,4,6,22,23,24]),(6,[1,4,22,23,24]),(7,[1,4]),(8,[]),(9,[1]),(100025,[1,4,22,23,24,25]),(100034,[1,34])]
noncomputable def impl_cut_bottom_of_s_impl_prime_first_l1 (r46:(List (List Int))) (x53:Int) (x54:Int):Option ((Int×Int)⊕Int) :=
 (if (decide (x54 < (r46.length:Int))) then (ifp (0≤x54∧x54 < ((r46.length:Nat):Int)) ((Option.bind (impl_row_degree (rd r46 x54.toNat)) fun r66=>(some (.inl ((IntKind.i64.wrap (x53 + r66),IntKind.i64.wrap (x54 + 1)))))))) else (some (.inr x53)))
noncomputable def impl_cut_bottom_of_s_impl_prime_first (a0s0:Int) (a0s1:(List Int)) (a0s2:(List Int)) (a0s3:Int) (a0s4f0:Int):Option ((List Int)×Bool) :=
 (Option.bind (impl_row_degree a0s2) fun r9=>(Option.bind (impl_prime_norm a0s0 (IntKind.i64.wrap (a0s3 - 1)) 1099511627776) fun r13=>(Option.bind (α:=Int) ((Option.bind (impl_prime_first a0s4f0 (IntKind.i64.wrap (a0s3 - 1))) fun r46=>(loopM (fun s:(Int×Int)=>impl_cut_bottom_of_s_impl_prime_first_l1 r46 s.1 s.2) (IntKind.i64.wrap (r9*r13),0)))) fun x40=>(if (decide (x40 > 63)) then (some ([],false)) else (Option.bind (impl_prime_spread a0s0 a0s2 (IntKind.i64.wrap (a0s3 - 1))) fun r89=>(Option.bind (impl_prime_first a0s4f0 (IntKind.i64.wrap (a0s3 - 1))) fun r94=>(Option.bind (impl_prime_productRow a0s0 r94) fun r96=>(Option.bind (impl_prime_times a0s0 r89 r96) fun r98=>(some (r98,true))))))))))
theorem impl_cut_bottom_of_s_impl_prime_first_ok (a0s0:Int) (a0s1:(List Int)) (a0s2:(List Int)) (a0s3:Int) (a0s4f0:Int) (r:((List Int)×Bool)) (h:impl_cut_bottom_of_s_impl_prime_first a0s0 a0s1 a0s2 a0s3 a0s4f0=some r):Den Tryz.prog 118 [(.struct [1,1,1,1,1] [(i6 a0s0),(eSi64 a0s1),(eSi64 a0s2),(i6 a0s3),(.clo 68 [(i6 a0s4f0)] [])])] { r:=(.tuple [(eSi64 r.1),(.bool r.2)]) }:=by
 refine dd (rs:=[(eSi64 r.1),(.bool r.2)]) (L:=impl_cut_bottom_of_s_impl_prime_first_L) good [(2,1),(6,1)] Tryz.func118 Tryz.ntmps118 ?_
 refine ns ⟨[(0,.struct [1,1,1,1,1] [(i6 a0s0),(eSi64 a0s1),(eSi64 a0s2),(i6 a0s3),(.clo 68 [(i6 a0s4f0)] [])])],[]⟩ ?_
 refine sr (vo 1100 (.struct [1,1,1,1,1] [(i6 a0s0),(eSi64 a0s1),(eSi64 a0s2),(i6 a0s3),(.clo 68 [(i6 a0s4f0)] [])]) rfl rfl (vr (eSi64 ([])) (vr (.bool false) (nk ⟨[(1,ow 1)],[(1,bk (.struct [1,1,1,1,1] [(i6 a0s0),(eSi64 a0s1),(eSi64 a0s2),(i6 a0s3),(.clo 68 [(i6 a0s4f0)] [])]))]⟩ (a_seq (a_draw [⟨[1],[],[1],[]⟩,⟨[1],[],[],[0]⟩,⟨[],[],[],[0,1]⟩,⟨[1],[],[1],[]⟩,⟨[1],[],[],[3]⟩,⟨[1],[],[1],[]⟩,⟨[1],[],[],[5]⟩,⟨[],[],[],[5,6]⟩,⟨[],[],[],[0,1,2,3,4,5,6,7]⟩,⟨[],[],[],[0,1,2,3,4,5,6,7,8]⟩,⟨[],[],[],[0,1,2,3,4,5,6,7,8,9]⟩] (by kernel_rfl) (d_cons (vb (.own 1 [2] [2]) rfl rfl (dn ?_)))))))))
 refine d_cons ?_
 have hl8:LdOk [2] (.struct [1,1,1,1,1] [(i6 a0s0),(eSi64 a0s1),(eSi64 a0s2),(i6 a0s3),(.clo 68 [(i6 a0s4f0)] [])]) [2] 1 false (eSi64 a0s2):=(.fld rfl rfl rfl rfl (.nil rfl rfl rfl))
 refine vq (eSi64 a0s2) (ld_own (i:=⟨.slice 2,1,24,(eSi64 [])⟩) rfl rfl rfl hl8) hl8.c (dn (d_cons ?_))
 obtain ⟨r9,hr10,h⟩:=bind_some h
 refine ca (impl_row_degree_ok a0s2 r9 hr10) (dn (d_cons (vb (.own 1 [0] [0]) rfl rfl (dn (d_cons ?_)))))
 have hl11:LdOk [0] (.struct [1,1,1,1,1] [(i6 a0s0),(eSi64 a0s1),(eSi64 a0s2),(i6 a0s3),(.clo 68 [(i6 a0s4f0)] [])]) [0] 1 false (i6 a0s0):=(.fld rfl rfl rfl rfl (.nil rfl rfl rfl))
 refine vq (i6 a0s0) (ld_own (i:=⟨.int .i64,1,8,(.int .i64 0)⟩) rfl rfl rfl hl11) hl11.c (dn (d_cons (vb (.own 1 [3] [3]) rfl rfl (dn (d_cons ?_)))))
 have hl12:LdOk [3] (.struct [1,1,1,1,1] [(i6 a0s0),(eSi64 a0s1),(eSi64 a0s2),(i6 a0s3),(.clo 68 [(i6 a0s4f0)] [])]) [3] 1 false (i6 a0s3):=(.fld rfl rfl rfl rfl (.nil rfl rfl rfl))
 refine vq (i6 a0s3) (ld_own (i:=⟨.int .i64,1,8,(.int .i64 0)⟩) rfl rfl rfl hl12) hl12.c (dn (dj (i6 (IntKind.i64.wrap (a0s3 - 1))) rfl (d_cons ?_)))
 obtain ⟨r13,hr14,h⟩:=bind_some h
 refine ca (impl_prime_norm_ok a0s0 (IntKind.i64.wrap (a0s3 - 1)) 1099511627776 r13 hr14) (dn (dj (i6 (IntKind.i64.wrap (r9*r13))) rfl (dj (i6 (IntKind.i64.wrap (r9*r13))) rfl (d_nil (nj ⟨[(1,ow 1),(4,i6 (IntKind.i64.wrap (r9*r13)))],[(1,bk (.struct [1,1,1,1,1] [(i6 a0s0),(eSi64 a0s1),(eSi64 a0s2),(i6 a0s3),(.clo 68 [(i6 a0s4f0)] [])]))]⟩ ?_)))))
 obtain ⟨y41,hy42,hk43⟩:=bind_some h
 clear h
 refine a_join (emb:=fun (s:Int)=>⟨[(1,ow 1),(4,i6 s)],[(1,bk (.struct [1,1,1,1,1] [(i6 a0s0),(eSi64 a0s1),(eSi64 a0s2),(i6 a0s3),(.clo 68 [(i6 a0s4f0)] [])]))]⟩) (pre:=fun s=>s=y41) ?_ ?_
 ·rintro x40 rfl
  have h:=hk43
  refine ns ⟨[(1,ow 1),(4,i6 x40)],[(1,bk (.struct [1,1,1,1,1] [(i6 a0s0),(eSi64 a0s1),(eSi64 a0s2),(i6 a0s3),(.clo 68 [(i6 a0s4f0)] [])]))]⟩ (a_seq (sr (vr (i6 x40) (vr (.bool ((decide (x40 > 63)))) (nk ⟨[(1,ow 1),(34,.bool ((decide (x40 > 63))))],[(1,bk (.struct [1,1,1,1,1] [(i6 a0s0),(eSi64 a0s1),(eSi64 a0s2),(i6 a0s3),(.clo 68 [(i6 a0s4f0)] [])]))]⟩ ?_)))))
  cases hb69:(decide (x40 > 63))
  ·have h:=ite_f hb69 h
   refine a_cond_f rfl (a_skip (nj ⟨[(1,ow 1)],[(1,bk (.struct [1,1,1,1,1] [(i6 a0s0),(eSi64 a0s1),(eSi64 a0s2),(i6 a0s3),(.clo 68 [(i6 a0s4f0)] [])]))]⟩ (a_seq (a_draw [⟨[1],[],[1],[]⟩,⟨[1],[],[],[0]⟩,⟨[1],[],[1],[]⟩,⟨[1],[],[],[2]⟩,⟨[1],[],[1],[]⟩,⟨[1],[],[],[4]⟩,⟨[1],[],[1],[]⟩,⟨[1],[],[],[6]⟩,⟨[],[],[],[6,7]⟩,⟨[],[],[],[2,3,4,5,6,7,8]⟩,⟨[1],[],[1],[]⟩,⟨[1],[],[],[10]⟩,⟨[1],[],[1],[]⟩,⟨[1],[],[],[12]⟩,⟨[1],[],[1],[]⟩,⟨[1],[],[],[14]⟩,⟨[],[],[],[14,15]⟩,⟨[],[],[],[2,3,4,5,6,7,8,9,12,13,14,15,16]⟩,⟨[],[],[],[2,3,4,5,6,7,8,9,10,11,12,13,14,15,16,17]⟩,⟨[],[],[],[0,1,2,3,4,5,6,7,8,9,10,11,12,13,14,15,16,17,18]⟩,⟨[],[],[],[0,1,2,3,4,5,6,7,8,9,10,11,12,13,14,15,16,17,18,19]⟩,⟨[],[],[],[0,1,2,3,4,5,6,7,8,9,10,11,12,13,14,15,16,17,18,19,20]⟩] (by kernel_rfl) (d_cons (vb (.own 1 [0] [0]) rfl rfl (dn (d_cons ?_))))))))
   have hl85:LdOk [0] (.struct [1,1,1,1,1] [(i6 a0s0),(eSi64 a0s1),(eSi64 a0s2),(i6 a0s3),(.clo 68 [(i6 a0s4f0)] [])]) [0] 1 false (i6 a0s0):=(.fld rfl rfl rfl rfl (.nil rfl rfl rfl))
   refine vq (i6 a0s0) (ld_own (i:=⟨.int .i64,1,8,(.int .i64 0)⟩) rfl rfl rfl hl85) hl85.c (dn (d_cons (vb (.own 1 [0] [0]) rfl rfl (dn (d_cons ?_)))))
   have hl86:LdOk [0] (.struct [1,1,1,1,1] [(i6 a0s0),(eSi64 a0s1),(eSi64 a0s2),(i6 a0s3),(.clo 68 [(i6 a0s4f0)] [])]) [0] 1 false (i6 a0s0):=(.fld rfl rfl rfl rfl (.nil rfl rfl rfl))
   refine vq (i6 a0s0) (ld_own (i:=⟨.int .i64,1,8,(.int .i64 0)⟩) rfl rfl rfl hl86) hl86.c (dn (d_cons (vb (.own 1 [2] [2]) rfl rfl (dn (d_cons ?_)))))
   have hl87:LdOk [2] (.struct [1,1,1,1,1] [(i6 a0s0),(eSi64 a0s1),(eSi64 a0s2),(i6 a0s3),(.clo 68 [(i6 a0s4f0)] [])]) [2] 1 false (eSi64 a0s2):=(.fld rfl rfl rfl rfl (.nil rfl rfl rfl))
   refine vq (eSi64 a0s2) (ld_own (i:=⟨.slice 2,1,24,(eSi64 [])⟩) rfl rfl rfl hl87) hl87.c (dn (d_cons (vb (.own 1 [3] [3]) rfl rfl (dn (d_cons ?_)))))
   have hl88:LdOk [3] (.struct [1,1,1,1,1] [(i6 a0s0),(eSi64 a0s1),(eSi64 a0s2),(i6 a0s3),(.clo 68 [(i6 a0s4f0)] [])]) [3] 1 false (i6 a0s3):=(.fld rfl rfl rfl rfl (.nil rfl rfl rfl))
   refine vq (i6 a0s3) (ld_own (i:=⟨.int .i64,1,8,(.int .i64 0)⟩) rfl rfl rfl hl88) hl88.c (dn (dj (i6 (IntKind.i64.wrap (a0s3 - 1))) rfl (d_cons ?_)))
   obtain ⟨r89,hr90,h⟩:=bind_some h
   refine ca (impl_prime_spread_ok a0s0 a0s2 (IntKind.i64.wrap (a0s3 - 1)) r89 hr90) (dn (d_cons (vb (.own 1 [0] [0]) rfl rfl (dn (d_cons ?_)))))
   have hl91:LdOk [0] (.struct [1,1,1,1,1] [(i6 a0s0),(eSi64 a0s1),(eSi64 a0s2),(i6 a0s3),(.clo 68 [(i6 a0s4f0)] [])]) [0] 1 false (i6 a0s0):=(.fld rfl rfl rfl rfl (.nil rfl rfl rfl))
   refine vq (i6 a0s0) (ld_own (i:=⟨.int .i64,1,8,(.int .i64 0)⟩) rfl rfl rfl hl91) hl91.c (dn (d_cons (vb (.own 1 [4] [4]) rfl rfl (dn (d_cons ?_)))))
   have hl92:LdOk [4] (.struct [1,1,1,1,1] [(i6 a0s0),(eSi64 a0s1),(eSi64 a0s2),(i6 a0s3),(.clo 68 [(i6 a0s4f0)] [])]) [4] 1 false (.clo 68 [(i6 a0s4f0)] []):=(.fld rfl rfl rfl rfl (.nil rfl rfl rfl))
   refine vq (.clo 68 [(i6 a0s4f0)] []) (ld_own (i:=⟨.other,1,8,(.raw .nilFunc)⟩) rfl rfl rfl hl92) hl92.c (dn (d_cons (vb (.own 1 [3] [3]) rfl rfl (dn (d_cons ?_)))))
   have hl93:LdOk [3] (.struct [1,1,1,1,1] [(i6 a0s0),(eSi64 a0s1),(eSi64 a0s2),(i6 a0s3),(.clo 68 [(i6 a0s4f0)] [])]) [3] 1 false (i6 a0s3):=(.fld rfl rfl rfl rfl (.nil rfl rfl rfl))
   refine vq (i6 a0s3) (ld_own (i:=⟨.int .i64,1,8,(.int .i64 0)⟩) rfl rfl rfl hl93) hl93.c (dn (dj (i6 (IntKind.i64.wrap (a0s3 - 1))) rfl (d_cons ?_)))
   obtain ⟨r94,hr95,h⟩:=bind_some h
   refine ca (impl_prime_first_ok a0s4f0 (IntKind.i64.wrap (a0s3 - 1)) r94 hr95) (dn (d_cons ?_))
   obtain ⟨r96,hr97,h⟩:=bind_some h
   refine ca (impl_prime_productRow_ok a0s0 r94 r96 hr97) (dn (d_cons ?_))
   obtain ⟨r98,hr99,h⟩:=bind_some h
   refine ca (impl_prime_times_ok a0s0 r89 r96 r98 hr99) (dn (dj (eSi64 r98) rfl (dj (.bool true) rfl (d_nil (a_next rfl (a_ret ?_))))))
   refine ⟨.inr rfl,?_⟩
   rw [Tryz.results118]
   cases h
   exact ⟨_,_,_,_,_,rfl,trivial,.inl ⟨rfl,.inl rfl⟩,rfl,⟨_,_,_,_,_,rfl,trivial,.inl ⟨rfl,.inl rfl⟩,rfl,rfl⟩⟩
  ·have h:=ite_t hb69 h
   refine a_cond_t rfl (sr (vr (eSi64 ([])) (vr (.bool false) (nx _ rfl (a_ret (t_ret ?_))))))
   refine ⟨.inr rfl,?_⟩
   rw [Tryz.results118]
   cases h
   exact ⟨_,_,_,_,_,rfl,trivial,.inl ⟨rfl,.inl rfl⟩,rfl,⟨_,_,_,_,_,rfl,trivial,.inl ⟨rfl,.inl rfl⟩,rfl,rfl⟩⟩
 ·have h:=hy42
  refine sr (vb (.own 1 [4] [4]) rfl rfl ?_)
  have hl44:LdOk [4] (.struct [1,1,1,1,1] [(i6 a0s0),(eSi64 a0s1),(eSi64 a0s2),(i6 a0s3),(.clo 68 [(i6 a0s4f0)] [])]) [4] 1 false (.clo 68 [(i6 a0s4f0)] []):=(.fld rfl rfl rfl rfl (.nil rfl rfl rfl))
  refine vq (.clo 68 [(i6 a0s4f0)] []) (ld_own (i:=⟨.other,1,8,(.raw .nilFunc)⟩) rfl rfl rfl hl44) hl44.c (vb (.own 1 [3] [3]) rfl rfl ?_)
  have hl45:LdOk [3] (.struct [1,1,1,1,1] [(i6 a0s0),(eSi64 a0s1),(eSi64 a0s2),(i6 a0s3),(.clo 68 [(i6 a0s4f0)] [])]) [3] 1 false (i6 a0s3):=(.fld rfl rfl rfl rfl (.nil rfl rfl rfl))
  refine vq (i6 a0s3) (ld_own (i:=⟨.int .i64,1,8,(.int .i64 0)⟩) rfl rfl rfl hl45) hl45.c (vr (i6 (IntKind.i64.wrap (a0s3 - 1))) ?_)
  obtain ⟨r46,hr47,h⟩:=bind_some h
  refine ca (impl_prime_first_ok a0s4f0 (IntKind.i64.wrap (a0s3 - 1)) r46 hr47) (vq (i6 (r46.length:Int)) (len_run rfl rfl) trivial (vr (i6 0) (nk ⟨[(1,ow 1),(4,i6 (IntKind.i64.wrap (r9*r13))),(22,eSSi64 r46),(23,i6 (r46.length:Int)),(24,i6 0)],[(1,bk (.struct [1,1,1,1,1] [(i6 a0s0),(eSi64 a0s1),(eSi64 a0s2),(i6 a0s3),(.clo 68 [(i6 a0s4f0)] [])]))]⟩ (a_block ?_))))
  refine a_loop (emb:=fun (s:(Int×Int))=>⟨[(1,ow 1),(4,i6 s.1),(22,eSSi64 r46),(23,i6 (r46.length:Int)),(24,i6 s.2)],[(1,bk (.struct [1,1,1,1,1] [(i6 a0s0),(eSi64 a0s1),(eSi64 a0s2),(i6 a0s3),(.clo 68 [(i6 a0s4f0)] [])]))]⟩) (body:=(fun s:(Int×Int)=>impl_cut_bottom_of_s_impl_prime_first_l1 r46 s.1 s.2)) (G:=fun q=>some q=some y41) h rfl ?_ (by kernel_rfl)
  rintro X60 ⟨x53,x54⟩ x61 h hX62
  have h:impl_cut_bottom_of_s_impl_prime_first_l1 r46 x53 x54=some x61:=h
  refine ns ⟨[(1,ow 1),(4,i6 x53),(22,eSSi64 r46),(23,i6 (r46.length:Int)),(24,i6 x54)],[(1,bk (.struct [1,1,1,1,1] [(i6 a0s0),(eSi64 a0s1),(eSi64 a0s2),(i6 a0s3),(.clo 68 [(i6 a0s4f0)] [])]))]⟩ (sr (vr (.bool ((decide (x54 < (r46.length:Int))))) (nk ⟨[(1,ow 1),(4,i6 x53),(22,eSSi64 r46),(23,i6 (r46.length:Int)),(24,i6 x54),(25,.bool ((decide (x54 < (r46.length:Int)))))],[(1,bk (.struct [1,1,1,1,1] [(i6 a0s0),(eSi64 a0s1),(eSi64 a0s2),(i6 a0s3),(.clo 68 [(i6 a0s4f0)] [])]))]⟩ (a_seq ?_))))
  cases hb63:(decide (x54 < (r46.length:Int)))
  ·have h:=ite_f hb63 h
   refine a_cond_f rfl (a_exit (t_exit ?_))
   cases h
   have h:=hX62
   refine t_exit (b_exit ?_)
   exact jl x53 h
  ·have h:=ite_t hb63 h
   refine a_cond_t rfl (a_skip (nj ⟨[(1,ow 1),(4,i6 x53),(22,eSSi64 r46),(23,i6 (r46.length:Int)),(24,i6 x54)],[(1,bk (.struct [1,1,1,1,1] [(i6 a0s0),(eSi64 a0s1),(eSi64 a0s2),(i6 a0s3),(.clo 68 [(i6 a0s4f0)] [])]))]⟩ (a_seq (a_block (sr ?_)))))
   obtain ⟨hc64,h⟩:=ifp_some h
   refine vq (.ref (.row 1 (r46.map eSi64)) [x54.toNat] [x54.toNat*1]) rfl (lmap hc64) ?_
   have hl65:LdOk [x54.toNat] (.row 1 (r46.map eSi64)) [x54.toNat*1] 1 false (eSi64 (rd r46 x54.toNat)):=(.row (llt hc64) rfl (.nil rfl rfl rfl))
   refine vq (eSi64 (rd r46 x54.toNat)) (ld_ref (i:=⟨.slice 2,1,24,(eSi64 [])⟩) rfl rfl hl65) hl65.c (vr (eSi64 (rd r46 x54.toNat)) (nk ⟨[(1,ow 1),(4,i6 x53),(6,eSi64 (rd r46 x54.toNat)),(22,eSSi64 r46),(23,i6 (r46.length:Int)),(24,i6 x54)],[(1,bk (.struct [1,1,1,1,1] [(i6 a0s0),(eSi64 a0s1),(eSi64 a0s2),(i6 a0s3),(.clo 68 [(i6 a0s4f0)] [])]))]⟩ (a_region (vr (i6 x53) (vr (eSi64 (rd r46 x54.toNat)) ?_)))))
   obtain ⟨r66,hr67,h⟩:=bind_some h
   refine ca (impl_row_degree_ok (rd r46 x54.toNat) r66 hr67) (vr (i6 (IntKind.i64.wrap (x53 + r66))) (vr (i6 (IntKind.i64.wrap (x53 + r66))) (a_nil (b_norm (nj ⟨[(1,ow 1),(4,i6 (IntKind.i64.wrap (x53 + r66))),(22,eSSi64 r46),(23,i6 (r46.length:Int)),(24,i6 x54)],[(1,bk (.struct [1,1,1,1,1] [(i6 a0s0),(eSi64 a0s1),(eSi64 a0s2),(i6 a0s3),(.clo 68 [(i6 a0s4f0)] [])]))]⟩ (a_region (vr (i6 (IntKind.i64.wrap (x54 + 1))) (vr (i6 (IntKind.i64.wrap (x54 + 1))) (a_nil ?_)))))))))
   cases h
   exact ag hX62
noncomputable def slices_Clone_impl_row_int64_fresh_c:ACode:=strip [(2,2)] (Tryz.f160.body.getD .skip)
def slices_Clone_impl_row_int64_fresh_L:Live:=[(0,[0]),(1,[0]),(2,[]),(3,[0]),(100004,[0,4])]
noncomputable def slices_Clone_impl_row_int64_fresh (a0:(List Int)):Option (List Int) :=
 (ifc (a0=[]→((some ([])))=((ifp ((([]:List Int).length + a0.length)*8≤140737488355328) ((some ((([]:List Int) ++ a0))))))) ((ifp ((([]:List Int).length + a0.length)*8≤140737488355328) ((some ((([]:List Int) ++ a0)))))))
theorem slices_Clone_impl_row_int64_fresh_ok (a0:(List Int)) (r:(List Int)) (h:slices_Clone_impl_row_int64_fresh a0=some r):Den Tryz.prog 160 [(eSi64 a0)] { r:=(.osl 2000000),ms:=[],fs:=[(1,r.map (AV.int .i64))] }:=by
 refine den_ofX (rs:=[(.osl 2000000)]) (ac:=slices_Clone_impl_row_int64_fresh_c) (L:=slices_Clone_impl_row_int64_fresh_L) (n:=8) (m:=[(2,2)]) (c:=Tryz.f160.body.getD .skip) good Tryz.func160 (by kernel_rfl) (by kernel_rfl) Tryz.ntmps160 rfl rfl (by kernel_rfl) rfl ?_
 refine ns ⟨[(0,eSi64 a0)],[]⟩ ?_
 unfold slices_Clone_impl_row_int64_fresh_c
 refine sr (vu (.osl 1200) [(1200,bk (.row 1 (([]).map (AV.int .i64))))] rfl trivial rfl (nk ⟨[(0,eSi64 a0)],[]⟩ (a_seq (sr (vr (eSi64 a0) ?_)))))
 obtain ⟨hq2,h⟩:=ifc_some h
 refine a_split (v:=.bool true) (v':=.bool false) rfl rfl (fun hn3=>?_) ?_
 ·have h:=(hq2 (List.map_eq_nil_iff.1 hn3)).trans h
  refine nk ⟨[(0,eSi64 a0),(4,.bool true)],[]⟩ (a_cond_t rfl (sr (vu (.osl 1200) [(1200,bk (.row 1 (([]).map (AV.int .i64))))] rfl trivial rfl (nx _ rfl (a_ret (t_ret ?_))))))
  refine ⟨.inr rfl,?_⟩
  rw [Tryz.results160]
  cases h
  exact ⟨[some 1200],⟨_,_,_,_,_,rfl,trivial,rfl,.inr (.inl ⟨_,_,_,_,_,rfl,rfl,rfl,rfl,rfl,rfl,⟨rfl,rfl,rfl⟩⟩)⟩,rfl,rfl⟩
 ·skip
  refine nk ⟨[(0,eSi64 a0),(4,.bool false)],[]⟩ (a_cond_f rfl (a_skip (nj ⟨[(0,eSi64 a0)],[]⟩ (sr (vq (.sl 1 true (([]).map (AV.int .i64))) rfl ⟨(Nat.le_of_ble_eq_true rfl),(Nat.le_of_ble_eq_true rfl),all_nil⟩ (vr (eSi64 a0) ?_))))))
  obtain ⟨hc1,h⟩:=ifp_some h
  refine vu (.osl 1700) [(1700,bk (.row 1 (((([]:List Int) ++ a0)).map (AV.int .i64))))] (appt_run (i:=⟨.int .i64,1,8,(.int .i64 0)⟩) (f:=(AV.int .i64)) (l:=[]) (l2:=a0) rfl rfl rfl rfl (fun _=>rfl) rfl) (appt_c (f:=(AV.int .i64)) (s:=1) (sz:=1) (sz':=1) (by':=8) hc1 (.inl rfl) (.inl rfl) (.inr rfl) rfl rfl) rfl (vr (.osl 1700) (nx _ rfl (a_ret ?_)))
  refine ⟨.inr rfl,?_⟩
  rw [Tryz.results160]
  cases h
  exact ⟨[some 1700],⟨_,_,_,_,_,rfl,trivial,rfl,.inr (.inl ⟨_,_,_,_,_,rfl,rfl,rfl,rfl,rfl,rfl,⟨rfl,rfl,rfl⟩⟩)⟩,rfl,rfl⟩
def impl_prime_divide_L:Live:=[(0,[0,1,2]),(1,[0,1,2]),(2,[0,1,2,8]),(3,[8]),(4,[0,1,2,8]),(5,[0,2,8,9]),(6,[0,2,8,9,10]),(7,[0,2,8,9,10,11]),(8,[0,2,8,9,10,11]),(9,[0,2,8,9,10,11]),(10,[0,2,8,9,10,11,12]),(11,[0,2,8,9,10,11,12]),(12,[0,2,8,9,10,11,12,57,58,59]),(13,[0,2,8,9,10,11,12,57,58,59]),(14,[0,2,8,9,10,11,12,13,14,57,58,59]),(15,[0,2,8,9,10,11,12,57,58,59]),(16,[8,9]),(100021,[0,1,2,8,21]),(100038,[0,2,8,9,10,11,38]),(100060,[0,2,8,9,10,11,12,57,58,59,60])]
noncomputable def impl_prime_divide_l2 (a2:(List Int)) (x467:Int) (x468:(List Int)) (x641:Int) (r9:Int) (a0:Int) (x469:(List Int)) (x661:Int) (x662:(List Int)):Option ((Int×(List Int))⊕((List Int)×(List Int))) :=
 (if (decide (x661 < (a2.length:Int))) then (ifp (0≤x661∧x661 < ((a2.length:Nat):Int)) ((ifp (0≤IntKind.i64.wrap (x467 + x661)∧IntKind.i64.wrap (x467 + x661) < ((x662.length:Nat):Int)) ((letp (IntKind.i64.wrap ((Int.tmod (IntKind.i64.wrap ((rd x468 x641.toNat)*r9)) a0)*(rd a2 x661.toNat))) fun x684=>(letp (IntKind.i64.wrap (((rd x662 (IntKind.i64.wrap (x467 + x661)).toNat)) - x684)) fun x686=>(Option.bind (impl_prime_reduce a0 x686) fun r688=>(ifp (0≤IntKind.i64.wrap (x467 + x661)∧IntKind.i64.wrap (x467 + x661) < ((x662.length:Nat):Int)) ((some (.inl ((IntKind.i64.wrap (x661 + 1),(x662.set (IntKind.i64.wrap (x467 + x661)).toNat r688)))))))))))))) else (some (.inr (((x662,(x469.set x467.toNat (Int.tmod (IntKind.i64.wrap ((rd x468 x641.toNat)*r9)) a0))))))))
noncomputable def impl_prime_divide_l1 (a2:(List Int)) (a0:Int) (r9:Int) (x467:Int) (x468:(List Int)) (x469:(List Int)):Option ((Int×(List Int)×(List Int))⊕((List Int)×(List Int))) :=
 (if (decide (x467 ≥ 0)) then (Option.bind (α:=((List Int)×(List Int))) ((letp (IntKind.i64.wrap ((IntKind.i64.wrap (x467 + (a2.length:Int))) - 1)) fun x641=>(ifp (0≤x641∧x641 < ((x468.length:Nat):Int)) ((ifp (a0 ≠ 0) ((ifp (0≤x467∧x467 < ((x469.length:Nat):Int)) ((loopM (fun s:(Int×(List Int))=>impl_prime_divide_l2 a2 x467 x468 x641 r9 a0 x469 s.1 s.2) (0,x468)))))))))) fun ⟨x636,x637⟩=>(some (.inl ((IntKind.i64.wrap (x467 - 1),x636,x637))))) else (some (.inr (x468,x469))))
noncomputable def impl_prime_divide (a0:Int) (a1:(List Int)) (a2:(List Int)):Option ((List Int)×(List Int)) :=
 (Option.bind (slices_Clone_impl_row_int64_fresh a1) fun r1=>(if (decide ((a1.length:Int) < (a2.length:Int))) then (some ([],r1)) else (letp (IntKind.i64.wrap ((IntKind.i64.wrap ((a1.length:Int) - (a2.length:Int))) + 1)) fun x4=>(ifp (0≤x4∧x4≤140737488355328∧8*x4≤140737488355328) ((Option.bind (impl_row_lead a2) fun r7=>(Option.bind (impl_prime_inverse a0 r7) fun r9=>(Option.bind (α:=((List Int)×(List Int))) ((letp (IntKind.i64.wrap ((((List.replicate x4.toNat (0:Int)).length:Int)) - 1)) fun x355=>(loopM (fun s:(Int×(List Int)×(List Int))=>impl_prime_divide_l1 a2 a0 r9 s.1 s.2.1 s.2.2) (x355,r1,List.replicate x4.toNat (0:Int))))) fun ⟨x350,x351⟩=>(Option.bind (impl_row_trimmed x351) fun r694=>(Option.bind (impl_row_trimmed x350) fun r696=>(some (r694,r696))))))))))))
theorem impl_prime_divide_ok (a0:Int) (a1:(List Int)) (a2:(List Int)) (r:((List Int)×(List Int))) (h:impl_prime_divide a0 a1 a2=some r):Den Tryz.prog 120 [(i6 a0),(eSi64 a1),(eSi64 a2)] { r:=(.tuple [(eSi64 r.1),(eSi64 r.2)]) }:=by
 refine dd (rs:=[(eSi64 r.1),(eSi64 r.2)]) (L:=impl_prime_divide_L) good [(6,1),(7,1),(8,2),(9,2)] Tryz.func120 Tryz.ntmps120 ?_
 refine ns ⟨[(0,i6 a0),(1,eSi64 a1),(2,eSi64 a2)],[]⟩ ?_
 refine sr (vr (eSi64 ([])) (vr (eSi64 ([])) (nk ⟨[(0,i6 a0),(1,eSi64 a1),(2,eSi64 a2)],[]⟩ (sr (vr (eSi64 a1) ?_)))))
 obtain ⟨r1,hr2,h⟩:=bind_some h
 refine a_callF (args:=[(eSi64 a1)]) (u:=[]) (u2:=[]) (r:=(.osl 2000000)) (fs:=[(1,r1.map (AV.int .i64))]) rfl rfl (slices_Clone_impl_row_int64_fresh_ok a1 r1 hr2) rfl rfl rfl (.inl rfl) rfl (vr (.osl 2600) (nk ⟨[(0,i6 a0),(1,eSi64 a1),(2,eSi64 a2),(8,.osl 8)],[(8,bk (.row 1 (r1.map (AV.int .i64))))]⟩ (a_seq (sr (vr (eSi64 a1) (vq (i6 (a1.length:Int)) (len_run rfl rfl) trivial (vr (eSi64 a2) (vq (i6 (a2.length:Int)) (len_run rfl rfl) trivial (vr (.bool ((decide ((a1.length:Int) < (a2.length:Int))))) ?_)))))))))
 refine nk ⟨[(0,i6 a0),(1,eSi64 a1),(2,eSi64 a2),(8,.osl 8),(21,.bool ((decide ((a1.length:Int) < (a2.length:Int)))))],[(8,bk (.row 1 (r1.map (AV.int .i64))))]⟩ ?_
 cases hb3:(decide ((a1.length:Int) < (a2.length:Int)))
 ·have h:=ite_f hb3 h
  refine a_cond_f rfl (a_skip (nj ⟨[(0,i6 a0),(1,eSi64 a1),(2,eSi64 a2),(8,.osl 8)],[(8,bk (.row 1 (r1.map (AV.int .i64))))]⟩ (sr (vr (eSi64 a1) (vq (i6 (a1.length:Int)) (len_run rfl rfl) trivial (vr (eSi64 a2) (vq (i6 (a2.length:Int)) (len_run rfl rfl) trivial (vr (i6 (IntKind.i64.wrap ((a1.length:Int) - (a2.length:Int)))) ?_))))))))
  obtain ⟨x4,hx5,h⟩:=letp_some h
  refine a_val' (v:=(i6 (IntKind.i64.wrap ((IntKind.i64.wrap ((a1.length:Int) - (a2.length:Int))) + 1)))) (v':=(i6 x4)) (u:=[]) (u':=[]) rfl (congrArg (fun z=>((i6 z):AV)) hx5) rfl trivial rfl ?_
  obtain ⟨hc6,h⟩:=ifp_some h
  refine vu (.osl 3900) [(3900,bk (.row 1 ((List.replicate x4.toNat (0:Int)).map (AV.int .i64))))] (mk_run (i:=⟨.int .i64,1,8,(.int .i64 0)⟩) (f:=(AV.int .i64)) (y:=(0:Int)) rfl rfl rfl rfl rfl rfl) ⟨rfl,hc6.1,hc6.2.1,hc6.2.2,(Nat.le_of_ble_eq_true rfl)⟩ rfl (vr (.osl 3900) (nk ⟨[(0,i6 a0),(2,eSi64 a2),(8,.osl 8),(9,.osl 9)],[(8,bk (.row 1 (r1.map (AV.int .i64)))),(9,bk (.row 1 ((List.replicate x4.toNat (0:Int)).map (AV.int .i64))))]⟩ (sr (vr (i6 a0) (vr (eSi64 a2) ?_)))))
  obtain ⟨r7,hr8,h⟩:=bind_some h
  refine ca (impl_row_lead_ok a2 r7 hr8) ?_
  obtain ⟨r9,hr10,h⟩:=bind_some h
  refine ca (impl_prime_inverse_ok a0 r7 r9 hr10) (vr (i6 r9) (nk ⟨[(0,i6 a0),(2,eSi64 a2),(8,.osl 8),(9,.osl 9),(10,i6 r9)],[(8,bk (.row 1 (r1.map (AV.int .i64)))),(9,bk (.row 1 ((List.replicate x4.toNat (0:Int)).map (AV.int .i64))))]⟩ ?_))
  obtain ⟨y352,hy353,hk354⟩:=bind_some h
  clear h
  refine a_join (emb:=fun (s:((List Int)×(List Int)))=>⟨[(8,.osl 8),(9,.osl 9)],[(8,bk (.row 1 (s.1.map (AV.int .i64)))),(9,bk (.row 1 (s.2.map (AV.int .i64))))]⟩) (pre:=fun s=>s=y352) ?_ ?_
  ·rintro ⟨x350,x351⟩ rfl
   have h:=hk354
   refine ns ⟨[(8,.osl 8),(9,.osl 9)],[(8,bk (.row 1 (x350.map (AV.int .i64)))),(9,bk (.row 1 (x351.map (AV.int .i64))))]⟩ (sr (vr (.osl 9) ?_))
   obtain ⟨r694,hr695,h⟩:=bind_some h
   refine a_call (args:=[(eSi64 x351)]) (u:=[(9,bf (.row 1 (x351.map (AV.int .i64))))]) (r:=(eSi64 r694)) rfl rfl (impl_row_trimmed_ok x351 r694 hr695) rfl (vr (.osl 8) ?_)
   obtain ⟨r696,hr697,h⟩:=bind_some h
   refine a_call (args:=[(eSi64 x350)]) (u:=[(8,bf (.row 1 (x350.map (AV.int .i64))))]) (r:=(eSi64 r696)) rfl rfl (impl_row_trimmed_ok x350 r696 hr697) rfl (vr (eSi64 r694) (vr (eSi64 r696) (nx _ rfl (a_ret ?_))))
   refine ⟨.inr rfl,?_⟩
   rw [Tryz.results120]
   cases h
   exact ⟨_,_,_,_,_,rfl,trivial,.inl ⟨rfl,.inl rfl⟩,rfl,⟨_,_,_,_,_,rfl,trivial,.inl ⟨rfl,.inl rfl⟩,rfl,rfl⟩⟩
  ·have h:=hy353
   refine sr (vr (.osl 9) (vq (i6 (((List.replicate x4.toNat (0:Int)).length:Int))) (leno_run rfl rfl rfl) trivial ?_))
   obtain ⟨x355,hx356,h⟩:=letp_some h
   refine a_val' (v:=(i6 (IntKind.i64.wrap ((((List.replicate x4.toNat (0:Int)).length:Int)) - 1)))) (v':=(i6 x355)) (u:=[]) (u':=[]) rfl (congrArg (fun z=>((i6 z):AV)) hx356) rfl trivial rfl (vr (i6 x355) (nk ⟨[(0,i6 a0),(2,eSi64 a2),(8,.osl 8),(9,.osl 9),(10,i6 r9),(11,i6 x355)],[(8,bk (.row 1 (r1.map (AV.int .i64)))),(9,bk (.row 1 ((List.replicate x4.toNat (0:Int)).map (AV.int .i64))))]⟩ (a_block ?_)))
   refine a_loop (emb:=fun (s:(Int×(List Int)×(List Int)))=>⟨[(0,i6 a0),(2,eSi64 a2),(8,.osl 8),(9,.osl 9),(10,i6 r9),(11,i6 s.1)],[(8,bk (.row 1 (s.2.1.map (AV.int .i64)))),(9,bk (.row 1 (s.2.2.map (AV.int .i64))))]⟩) (body:=(fun s:(Int×(List Int)×(List Int))=>impl_prime_divide_l1 a2 a0 r9 s.1 s.2.1 s.2.2)) (G:=fun q=>some q=some y352) h rfl ?_ (by kernel_rfl)
   rintro X580 ⟨x467,x468,x469⟩ x581 h hX582
   have h:impl_prime_divide_l1 a2 a0 r9 x467 x468 x469=some x581:=h
   refine ns ⟨[(0,i6 a0),(2,eSi64 a2),(8,.osl 8),(9,.osl 9),(10,i6 r9),(11,i6 x467)],[(8,bk (.row 1 (x468.map (AV.int .i64)))),(9,bk (.row 1 (x469.map (AV.int .i64))))]⟩ (a_seq (sr (vr (i6 x467) (vr (.bool ((decide (x467 ≥ 0)))) (nk ⟨[(0,i6 a0),(2,eSi64 a2),(8,.osl 8),(9,.osl 9),(10,i6 r9),(11,i6 x467),(38,.bool ((decide (x467 ≥ 0))))],[(8,bk (.row 1 (x468.map (AV.int .i64)))),(9,bk (.row 1 (x469.map (AV.int .i64))))]⟩ ?_)))))
   cases hb583:(decide (x467 ≥ 0))
   ·have h:=ite_f hb583 h
    refine a_cond_f rfl (a_exit (t_exit ?_))
    cases h
    have h:=hX582
    refine t_exit (b_exit ?_)
    exact jl (x468,x469) h
   ·have h:=ite_t hb583 h
    refine a_cond_t rfl (a_skip (nj ⟨[(0,i6 a0),(2,eSi64 a2),(8,.osl 8),(9,.osl 9),(10,i6 r9),(11,i6 x467)],[(8,bk (.row 1 (x468.map (AV.int .i64)))),(9,bk (.row 1 (x469.map (AV.int .i64))))]⟩ ?_))
    obtain ⟨y638,hy639,hk640⟩:=bind_some h
    clear h
    refine a_join (emb:=fun (s:((List Int)×(List Int)))=>⟨[(0,i6 a0),(2,eSi64 a2),(8,.osl 8),(9,.osl 9),(10,i6 r9),(11,i6 x467)],[(8,bk (.row 1 (s.1.map (AV.int .i64)))),(9,bk (.row 1 (s.2.map (AV.int .i64))))]⟩) (pre:=fun s=>s=y638) ?_ ?_
    ·rintro ⟨x636,x637⟩ rfl
     have h:=hk640
     refine ns ⟨[(0,i6 a0),(2,eSi64 a2),(8,.osl 8),(9,.osl 9),(10,i6 r9),(11,i6 x467)],[(8,bk (.row 1 (x636.map (AV.int .i64)))),(9,bk (.row 1 (x637.map (AV.int .i64))))]⟩ (a_region (vr (i6 x467) (vr (i6 (IntKind.i64.wrap (x467 - 1))) (vr (i6 (IntKind.i64.wrap (x467 - 1))) (a_nil ?_)))))
     cases h
     exact ag hX582
    ·have h:=hy639
     refine a_block (sr (vr (.osl 8) (vr (i6 x467) (vr (eSi64 a2) (vq (i6 (a2.length:Int)) (len_run rfl rfl) trivial (vr (i6 (IntKind.i64.wrap (x467 + (a2.length:Int)))) ?_))))))
     obtain ⟨x641,hx642,h⟩:=letp_some h
     refine a_val' (v:=(i6 (IntKind.i64.wrap ((IntKind.i64.wrap (x467 + (a2.length:Int))) - 1)))) (v':=(i6 x641)) (u:=[]) (u':=[]) rfl (congrArg (fun z=>((i6 z):AV)) hx642) rfl trivial rfl ?_
     obtain ⟨hc643,h⟩:=ifp_some h
     refine vq (.own 8 [x641.toNat] [x641.toNat*1]) rfl (lmap hc643) ?_
     have hl644:LdOk [x641.toNat] (.row 1 (x468.map (AV.int .i64))) [x641.toNat*1] 1 false (i6 (rd x468 x641.toNat)):=(.row (llt hc643) rfl (.nil rfl rfl rfl))
     refine vq (i6 (rd x468 x641.toNat)) (ld_own (i:=⟨.int .i64,1,8,(.int .i64 0)⟩) rfl rfl rfl hl644) hl644.c (vr (i6 r9) (vr (i6 (IntKind.i64.wrap ((rd x468 x641.toNat)*r9))) (vr (i6 a0) ?_)))
     obtain ⟨hc645,h⟩:=ifp_some h
     refine vq (i6 (Int.tmod (IntKind.i64.wrap ((rd x468 x641.toNat)*r9)) a0)) rfl hc645 (vr (i6 (Int.tmod (IntKind.i64.wrap ((rd x468 x641.toNat)*r9)) a0)) (nk ⟨[(0,i6 a0),(2,eSi64 a2),(8,.osl 8),(9,.osl 9),(10,i6 r9),(11,i6 x467),(12,i6 (Int.tmod (IntKind.i64.wrap ((rd x468 x641.toNat)*r9)) a0))],[(8,bk (.row 1 (x468.map (AV.int .i64)))),(9,bk (.row 1 (x469.map (AV.int .i64))))]⟩ (sr (vr (.osl 9) (vr (i6 x467) (vr (i6 (Int.tmod (IntKind.i64.wrap ((rd x468 x641.toNat)*r9)) a0)) ?_))))))
     obtain ⟨hc646,h⟩:=ifp_some h
     refine vq (.own 9 [x467.toNat] [x467.toNat*1]) rfl (lmap hc646) ?_
     have hs647:StOk [x467.toNat] (.row 1 (x469.map (AV.int .i64))) [x467.toNat*1] 1 (i6 (Int.tmod (IntKind.i64.wrap ((rd x468 x641.toNat)*r9)) a0)) (.row 1 (((x469.set x467.toNat (Int.tmod (IntKind.i64.wrap ((rd x468 x641.toNat)*r9)) a0))).map (AV.int .i64))):=(.row (y:=Int.tmod (IntKind.i64.wrap ((rd x468 x641.toNat)*r9)) a0) (llt hc646) rfl (.nil rfl rfl rfl rfl))
     refine vu .top [(9,bk (.row 1 (((x469.set x467.toNat (Int.tmod (IntKind.i64.wrap ((rd x468 x641.toNat)*r9)) a0))).map (AV.int .i64))))] (st_own (i:=⟨.int .i64,1,8,(.int .i64 0)⟩) rfl rfl (fun _=>rfl) rfl hs647) (hs647.c rfl) rfl (nk ⟨[(0,i6 a0),(2,eSi64 a2),(8,.osl 8),(9,.osl 9),(10,i6 r9),(11,i6 x467),(12,i6 (Int.tmod (IntKind.i64.wrap ((rd x468 x641.toNat)*r9)) a0))],[(8,bk (.row 1 (x468.map (AV.int .i64)))),(9,bk (.row 1 (((x469.set x467.toNat (Int.tmod (IntKind.i64.wrap ((rd x468 x641.toNat)*r9)) a0))).map (AV.int .i64))))]⟩ (sr (vr (eSi64 a2) (vq (i6 (a2.length:Int)) (len_run rfl rfl) trivial (vr (i6 0) (nk ⟨[(0,i6 a0),(2,eSi64 a2),(8,.osl 8),(9,.osl 9),(10,i6 r9),(11,i6 x467),(12,i6 (Int.tmod (IntKind.i64.wrap ((rd x468 x641.toNat)*r9)) a0)),(57,eSi64 a2),(58,i6 (a2.length:Int)),(59,i6 0)],[(8,bk (.row 1 (x468.map (AV.int .i64)))),(9,bk (.row 1 (((x469.set x467.toNat (Int.tmod (IntKind.i64.wrap ((rd x468 x641.toNat)*r9)) a0))).map (AV.int .i64))))]⟩ (a_block ?_)))))))
     refine a_loop (emb:=fun (s:(Int×(List Int)))=>⟨[(0,i6 a0),(2,eSi64 a2),(8,.osl 8),(9,.osl 9),(10,i6 r9),(11,i6 x467),(12,i6 (Int.tmod (IntKind.i64.wrap ((rd x468 x641.toNat)*r9)) a0)),(57,eSi64 a2),(58,i6 (a2.length:Int)),(59,i6 s.1)],[(8,bk (.row 1 (s.2.map (AV.int .i64)))),(9,bk (.row 1 (((x469.set x467.toNat (Int.tmod (IntKind.i64.wrap ((rd x468 x641.toNat)*r9)) a0))).map (AV.int .i64))))]⟩) (body:=(fun s:(Int×(List Int))=>impl_prime_divide_l2 a2 x467 x468 x641 r9 a0 x469 s.1 s.2)) (G:=fun q=>some q=some y638) h rfl ?_ (by kernel_rfl)
     rintro X676 ⟨x661,x662⟩ x677 h hX678
     have h:impl_prime_divide_l2 a2 x467 x468 x641 r9 a0 x469 x661 x662=some x677:=h
     refine ns ⟨[(0,i6 a0),(2,eSi64 a2),(8,.osl 8),(9,.osl 9),(10,i6 r9),(11,i6 x467),(12,i6 (Int.tmod (IntKind.i64.wrap ((rd x468 x641.toNat)*r9)) a0)),(57,eSi64 a2),(58,i6 (a2.length:Int)),(59,i6 x661)],[(8,bk (.row 1 (x662.map (AV.int .i64)))),(9,bk (.row 1 (((x469.set x467.toNat (Int.tmod (IntKind.i64.wrap ((rd x468 x641.toNat)*r9)) a0))).map (AV.int .i64))))]⟩ (sr (vr (.bool ((decide (x661 < (a2.length:Int))))) (nk ⟨[(0,i6 a0),(2,eSi64 a2),(8,.osl 8),(9,.osl 9),(10,i6 r9),(11,i6 x467),(12,i6 (Int.tmod (IntKind.i64.wrap ((rd x468 x641.toNat)*r9)) a0)),(57,eSi64 a2),(58,i6 (a2.length:Int)),(59,i6 x661),(60,.bool ((decide (x661 < (a2.length:Int)))))],[(8,bk (.row 1 (x662.map (AV.int .i64)))),(9,bk (.row 1 (((x469.set x467.toNat (Int.tmod (IntKind.i64.wrap ((rd x468 x641.toNat)*r9)) a0))).map (AV.int .i64))))]⟩ (a_seq ?_))))
     cases hb679:(decide (x661 < (a2.length:Int)))
     ·have h:=ite_f hb679 h
      refine a_cond_f rfl (a_exit (t_exit ?_))
      cases h
      have h:=hX678
      refine t_exit (b_exit (b_norm ?_))
      exact jl ((x662,(x469.set x467.toNat (Int.tmod (IntKind.i64.wrap ((rd x468 x641.toNat)*r9)) a0)))) h
     ·have h:=ite_t hb679 h
      refine a_cond_t rfl (a_skip (nj ⟨[(0,i6 a0),(2,eSi64 a2),(8,.osl 8),(9,.osl 9),(10,i6 r9),(11,i6 x467),(12,i6 (Int.tmod (IntKind.i64.wrap ((rd x468 x641.toNat)*r9)) a0)),(57,eSi64 a2),(58,i6 (a2.length:Int)),(59,i6 x661)],[(8,bk (.row 1 (x662.map (AV.int .i64)))),(9,bk (.row 1 (((x469.set x467.toNat (Int.tmod (IntKind.i64.wrap ((rd x468 x641.toNat)*r9)) a0))).map (AV.int .i64))))]⟩ (a_seq (a_block (sr (vr (i6 x661) ?_))))))
      obtain ⟨hc680,h⟩:=ifp_some h
      refine vq (.ref (.row 1 (a2.map (AV.int .i64))) [x661.toNat] [x661.toNat*1]) rfl (lmap hc680) ?_
      have hl681:LdOk [x661.toNat] (.row 1 (a2.map (AV.int .i64))) [x661.toNat*1] 1 false (i6 (rd a2 x661.toNat)):=(.row (llt hc680) rfl (.nil rfl rfl rfl))
      refine vq (i6 (rd a2 x661.toNat)) (ld_ref (i:=⟨.int .i64,1,8,(.int .i64 0)⟩) rfl rfl hl681) hl681.c (vr (i6 x661) (vr (i6 (rd a2 x661.toNat)) (nk ⟨[(0,i6 a0),(2,eSi64 a2),(8,.osl 8),(9,.osl 9),(10,i6 r9),(11,i6 x467),(12,i6 (Int.tmod (IntKind.i64.wrap ((rd x468 x641.toNat)*r9)) a0)),(13,i6 x661),(14,i6 (rd a2 x661.toNat)),(57,eSi64 a2),(58,i6 (a2.length:Int)),(59,i6 x661)],[(8,bk (.row 1 (x662.map (AV.int .i64)))),(9,bk (.row 1 (((x469.set x467.toNat (Int.tmod (IntKind.i64.wrap ((rd x468 x641.toNat)*r9)) a0))).map (AV.int .i64))))]⟩ (a_region (vr (.osl 8) (vr (i6 x467) (vr (i6 x661) (vr (i6 (IntKind.i64.wrap (x467 + x661))) (vr (i6 a0) ?_)))))))))
      refine vr (.osl 8) (vr (i6 x467) (vr (i6 x661) (vr (i6 (IntKind.i64.wrap (x467 + x661))) ?_)))
      obtain ⟨hc682,h⟩:=ifp_some h
      refine vq (.own 8 [(IntKind.i64.wrap (x467 + x661)).toNat] [(IntKind.i64.wrap (x467 + x661)).toNat*1]) rfl (lmap hc682) ?_
      have hl683:LdOk [(IntKind.i64.wrap (x467 + x661)).toNat] (.row 1 (x662.map (AV.int .i64))) [(IntKind.i64.wrap (x467 + x661)).toNat*1] 1 false (i6 ((rd x662 (IntKind.i64.wrap (x467 + x661)).toNat))):=(.row (llt hc682) rfl (.nil rfl rfl rfl))
      refine vq (i6 ((rd x662 (IntKind.i64.wrap (x467 + x661)).toNat))) (ld_own (i:=⟨.int .i64,1,8,(.int .i64 0)⟩) rfl rfl rfl hl683) hl683.c (vr (i6 (Int.tmod (IntKind.i64.wrap ((rd x468 x641.toNat)*r9)) a0)) (vr (i6 (rd a2 x661.toNat)) ?_))
      obtain ⟨x684,hx685,h⟩:=letp_some h
      refine a_val' (v:=(i6 (IntKind.i64.wrap ((Int.tmod (IntKind.i64.wrap ((rd x468 x641.toNat)*r9)) a0)*(rd a2 x661.toNat))))) (v':=(i6 x684)) (u:=[]) (u':=[]) rfl (congrArg (fun z=>((i6 z):AV)) hx685) rfl trivial rfl ?_
      obtain ⟨x686,hx687,h⟩:=letp_some h
      refine a_val' (v:=(i6 (IntKind.i64.wrap (((rd x662 (IntKind.i64.wrap (x467 + x661)).toNat)) - x684)))) (v':=(i6 x686)) (u:=[]) (u':=[]) rfl (congrArg (fun z=>((i6 z):AV)) hx687) rfl trivial rfl ?_
      obtain ⟨r688,hr689,h⟩:=bind_some h
      refine ca (impl_prime_reduce_ok a0 x686 r688 hr689) ?_
      obtain ⟨hc690,h⟩:=ifp_some h
      refine vq (.own 8 [(IntKind.i64.wrap (x467 + x661)).toNat] [(IntKind.i64.wrap (x467 + x661)).toNat*1]) rfl (lmap hc690) ?_
      have hs691:StOk [(IntKind.i64.wrap (x467 + x661)).toNat] (.row 1 (x662.map (AV.int .i64))) [(IntKind.i64.wrap (x467 + x661)).toNat*1] 1 (i6 r688) (.row 1 (((x662.set (IntKind.i64.wrap (x467 + x661)).toNat r688)).map (AV.int .i64))):=(.row (y:=r688) (llt hc690) rfl (.nil rfl rfl rfl rfl))
      refine vu .top [(8,bk (.row 1 (((x662.set (IntKind.i64.wrap (x467 + x661)).toNat r688)).map (AV.int .i64))))] (st_own (i:=⟨.int .i64,1,8,(.int .i64 0)⟩) rfl rfl (fun _=>rfl) rfl hs691) (hs691.c rfl) rfl (a_nil (b_norm (nj ⟨[(0,i6 a0),(2,eSi64 a2),(8,.osl 8),(9,.osl 9),(10,i6 r9),(11,i6 x467),(12,i6 (Int.tmod (IntKind.i64.wrap ((rd x468 x641.toNat)*r9)) a0)),(57,eSi64 a2),(58,i6 (a2.length:Int)),(59,i6 x661)],[(8,bk (.row 1 (((x662.set (IntKind.i64.wrap (x467 + x661)).toNat r688)).map (AV.int .i64)))),(9,bk (.row 1 (((x469.set x467.toNat (Int.tmod (IntKind.i64.wrap ((rd x468 x641.toNat)*r9)) a0))).map (AV.int .i64))))]⟩ (a_region (vr (i6 (IntKind.i64.wrap (x661 + 1))) (vr (i6 (IntKind.i64.wrap (x661 + 1))) (a_nil ?_)))))))
      cases h
      exact ag hX678
 ·have h:=ite_t hb3 h
  refine a_cond_t rfl (sr (vr (.osl 8) (vr (eSi64 ([])) (vu (eSi64 r1) [(8,bf (.row 1 (r1.map (AV.int .i64))))] rfl trivial rfl (nx _ rfl (a_ret (t_ret ?_)))))))
  refine ⟨.inr rfl,?_⟩
  rw [Tryz.results120]
  cases h
  exact ⟨_,_,_,_,_,rfl,trivial,.inl ⟨rfl,.inl rfl⟩,rfl,⟨_,_,_,_,_,rfl,trivial,.inl ⟨rfl,.inl rfl⟩,rfl,rfl⟩⟩
def impl_prime_raised_L:Live:=[(0,[0,1,2]),(1,[0,1,2]),(2,[0,1,2,7]),(3,[0,1,7,9,10]),(4,[0,1,7,9,10]),(5,[0,1,7,9,10]),(6,[7]),(100011,[0,1,7,9,10,11])]
noncomputable def impl_prime_raised_l1 (a2:Int) (a0:Int) (a1:(List Int)) (x23:(List Int)) (x24:Int):Option (((List Int)×Int)⊕(List Int)) :=
 (if (decide (x24 < a2)) then (Option.bind (impl_prime_times a0 x23 a1) fun r32=>(some (.inl ((r32,IntKind.i64.wrap (x24 + 1)))))) else (some (.inr x23)))
noncomputable def impl_prime_raised (a0:Int) (a1:(List Int)) (a2:Int):Option (List Int) :=
 (Option.bind (α:=(List Int)) ((loopM (fun s:((List Int)×Int)=>impl_prime_raised_l1 a2 a0 a1 s.1 s.2) ([1],0))) fun x16=>(some x16))
theorem impl_prime_raised_ok (a0:Int) (a1:(List Int)) (a2:Int) (r:(List Int)) (h:impl_prime_raised a0 a1 a2=some r):Den Tryz.prog 159 [(i6 a0),(eSi64 a1),(i6 a2)] { r:=(eSi64 r) }:=by
 refine dd (rs:=[(eSi64 r)]) (L:=impl_prime_raised_L) good [(6,1),(7,1)] Tryz.func159 Tryz.ntmps159 ?_
 refine ns ⟨[(0,i6 a0),(1,eSi64 a1),(2,i6 a2)],[]⟩ ?_
 refine sr (vr (eSi64 ([])) (nk ⟨[(0,i6 a0),(1,eSi64 a1),(2,i6 a2)],[]⟩ (sr (vq (.sl 1 true (([1]).map (AV.int .i64))) rfl ⟨(Nat.le_of_ble_eq_true rfl),(Nat.le_of_ble_eq_true rfl),(all_cons ⟨(Nat.le_of_ble_eq_true rfl),rfl⟩ all_nil)⟩ (vq (eSi64 ([1])) (asg_tight (i:=⟨.int .i64,1,8,(.int .i64 0)⟩) (f:=(AV.int .i64)) (l:=[1]) rfl rfl rfl) trivial (nk ⟨[(0,i6 a0),(1,eSi64 a1),(2,i6 a2),(7,eSi64 ([1]))],[]⟩ ?_))))))
 obtain ⟨y17,hy18,hk19⟩:=bind_some h
 clear h
 refine a_join (emb:=fun (s:(List Int))=>⟨[(7,eSi64 s)],[]⟩) (pre:=fun s=>s=y17) ?_ ?_
 ·rintro x16 rfl
  have h:=hk19
  refine ns ⟨[(7,eSi64 x16)],[]⟩ (sr (vr (eSi64 x16) (vr (eSi64 x16) (nx _ rfl (a_ret ?_)))))
  refine ⟨.inr rfl,?_⟩
  rw [Tryz.results159]
  cases h
  exact ⟨_,_,_,_,_,rfl,trivial,.inl ⟨rfl,.inl rfl⟩,rfl,rfl⟩
 ·have h:=hy18
  refine sr (vr (i6 a2) (vr (i6 0) (nk ⟨[(0,i6 a0),(1,eSi64 a1),(7,eSi64 ([1])),(9,i6 a2),(10,i6 0)],[]⟩ (a_block ?_))))
  refine a_loop (emb:=fun (s:((List Int)×Int))=>⟨[(0,i6 a0),(1,eSi64 a1),(7,eSi64 s.1),(9,i6 a2),(10,i6 s.2)],[]⟩) (body:=(fun s:((List Int)×Int)=>impl_prime_raised_l1 a2 a0 a1 s.1 s.2)) (G:=fun q=>some q=some y17) h rfl ?_ (by kernel_rfl)
  rintro X28 ⟨x23,x24⟩ x29 h hX30
  have h:impl_prime_raised_l1 a2 a0 a1 x23 x24=some x29:=h
  refine ns ⟨[(0,i6 a0),(1,eSi64 a1),(7,eSi64 x23),(9,i6 a2),(10,i6 x24)],[]⟩ (sr (vr (.bool ((decide (x24 < a2)))) (nk ⟨[(0,i6 a0),(1,eSi64 a1),(7,eSi64 x23),(9,i6 a2),(10,i6 x24),(11,.bool ((decide (x24 < a2))))],[]⟩ (a_seq ?_))))
  cases hb31:(decide (x24 < a2))
  ·have h:=ite_f hb31 h
   refine a_cond_f rfl (a_exit (t_exit ?_))
   cases h
   have h:=hX30
   refine t_exit (b_exit ?_)
   exact jl x23 h
  ·have h:=ite_t hb31 h
   refine a_cond_t rfl (a_skip (nj ⟨[(0,i6 a0),(1,eSi64 a1),(7,eSi64 x23),(9,i6 a2),(10,i6 x24)],[]⟩ (a_seq (a_block (a_region (vr (i6 a0) (vr (eSi64 x23) (vr (eSi64 a1) ?_))))))))
   obtain ⟨r32,hr33,h⟩:=bind_some h
   refine ca (impl_prime_times_ok a0 x23 a1 r32 hr33) (vr (eSi64 r32) (a_nil (b_norm (nj ⟨[(0,i6 a0),(1,eSi64 a1),(7,eSi64 r32),(9,i6 a2),(10,i6 x24)],[]⟩ (a_region (vr (i6 (IntKind.i64.wrap (x24 + 1))) (vr (i6 (IntKind.i64.wrap (x24 + 1))) (a_nil ?_))))))))
   cases h
   exact ag hX30
def impl_cut_summand_of_s_impl_prime_first_L:Live:=[(0,[0,1]),(1,[1,2]),(2,[]),(3,[1,2]),(4,[1,2,6,7]),(5,[1,2,6,7,8]),(6,[]),(7,[1,2,6,7,8]),(8,[2,6,7,10]),(100014,[1,2,14]),(100063,[1,2,6,7,8,63])]
noncomputable def impl_cut_summand_of_s_impl_prime_first (a0s0:Int) (a0s1:(List Int)) (a0s2:(List Int)) (a0s3:Int) (a0s4f0:Int) (a1:Int):Option ((List Int)×Bool) :=
 (if ((a0s1.length:Int) == 0) then (some ([],true)) else (Option.bind (impl_prime_norm a0s0 a1 1099511627776) fun r11=>(Option.bind (impl_prime_norm a0s0 (IntKind.i64.wrap (a0s3 - 1)) 1099511627776) fun r15=>(Option.bind (impl_prime_first a0s4f0 (IntKind.i64.wrap (a0s3 - 1))) fun r37=>(Option.bind (impl_prime_productRow a0s0 r37) fun r39=>(Option.bind (impl_prime_first a0s4f0 a1) fun r43=>(Option.bind (impl_prime_productRow a0s0 r43) fun r45=>(Option.bind (impl_prime_divide a0s0 r39 r45) fun r47=>(Option.bind (impl_row_degree a0s1) fun r60=>(Option.bind (impl_row_degree a0s2) fun r63=>(letp (IntKind.i64.wrap ((IntKind.i64.wrap (r60*r11)) + (IntKind.i64.wrap (r63*(IntKind.i64.wrap (r15 - r11)))))) fun x65=>(Option.bind (impl_row_degree r47.1) fun r67=>(if (decide ((IntKind.i64.wrap (x65 + r67)) > 63)) then (some ([],false)) else (Option.bind (impl_prime_spread a0s0 a0s1 a1) fun r80=>(Option.bind (impl_prime_times a0s0 r80 r47.1) fun r82=>(Option.bind (impl_prime_raised a0s0 a0s2 (IntKind.i64.wrap (r15 - r11))) fun r94=>(Option.bind (impl_prime_times a0s0 r82 r94) fun r96=>(some (r96,true)))))))))))))))))))
theorem impl_cut_summand_of_s_impl_prime_first_ok (a0s0:Int) (a0s1:(List Int)) (a0s2:(List Int)) (a0s3:Int) (a0s4f0:Int) (a1:Int) (r:((List Int)×Bool)) (h:impl_cut_summand_of_s_impl_prime_first a0s0 a0s1 a0s2 a0s3 a0s4f0 a1=some r):Den Tryz.prog 119 [(.struct [1,1,1,1,1] [(i6 a0s0),(eSi64 a0s1),(eSi64 a0s2),(i6 a0s3),(.clo 68 [(i6 a0s4f0)] [])]),(i6 a1)] { r:=(.tuple [(eSi64 r.1),(.bool r.2)]) }:=by
 refine dd (rs:=[(eSi64 r.1),(.bool r.2)]) (L:=impl_cut_summand_of_s_impl_prime_first_L) good [(4,1),(8,1),(9,1),(10,1)] Tryz.func119 Tryz.ntmps119 ?_
 refine ns ⟨[(0,.struct [1,1,1,1,1] [(i6 a0s0),(eSi64 a0s1),(eSi64 a0s2),(i6 a0s3),(.clo 68 [(i6 a0s4f0)] [])]),(1,i6 a1)],[]⟩ ?_
 refine sr (vo 1200 (.struct [1,1,1,1,1] [(i6 a0s0),(eSi64 a0s1),(eSi64 a0s2),(i6 a0s3),(.clo 68 [(i6 a0s4f0)] [])]) rfl rfl (vr (eSi64 ([])) (vr (.bool false) (nk ⟨[(1,i6 a1),(2,ow 2)],[(2,bk (.struct [1,1,1,1,1] [(i6 a0s0),(eSi64 a0s1),(eSi64 a0s2),(i6 a0s3),(.clo 68 [(i6 a0s4f0)] [])]))]⟩ (a_seq (sr (vb (.own 2 [1] [1]) rfl rfl ?_)))))))
 have hl1:LdOk [1] (.struct [1,1,1,1,1] [(i6 a0s0),(eSi64 a0s1),(eSi64 a0s2),(i6 a0s3),(.clo 68 [(i6 a0s4f0)] [])]) [1] 1 false (eSi64 a0s1):=(.fld rfl rfl rfl rfl (.nil rfl rfl rfl))
 refine vq (eSi64 a0s1) (ld_own (i:=⟨.slice 2,1,24,(eSi64 [])⟩) rfl rfl rfl hl1) hl1.c (vq (i6 (a0s1.length:Int)) (len_run rfl rfl) trivial (vr (.bool (((a0s1.length:Int) == 0))) (nk ⟨[(1,i6 a1),(2,ow 2),(14,.bool (((a0s1.length:Int) == 0)))],[(2,bk (.struct [1,1,1,1,1] [(i6 a0s0),(eSi64 a0s1),(eSi64 a0s2),(i6 a0s3),(.clo 68 [(i6 a0s4f0)] [])]))]⟩ ?_)))
 cases hb2:((a0s1.length:Int) == 0)
 ·have h:=ite_f hb2 h
  refine a_cond_f rfl (a_skip (nj ⟨[(1,i6 a1),(2,ow 2)],[(2,bk (.struct [1,1,1,1,1] [(i6 a0s0),(eSi64 a0s1),(eSi64 a0s2),(i6 a0s3),(.clo 68 [(i6 a0s4f0)] [])]))]⟩ (a_seq (a_draw [⟨[2],[],[2],[]⟩,⟨[2],[],[],[0]⟩,⟨[],[],[],[]⟩,⟨[],[],[],[0,1,2]⟩,⟨[2],[],[2],[]⟩,⟨[2],[],[],[4]⟩,⟨[2],[],[2],[]⟩,⟨[2],[],[],[6]⟩,⟨[],[],[],[6,7]⟩,⟨[],[],[],[0,1,2,3,4,5,6,7,8]⟩,⟨[],[],[],[0,1,2,3,4,5,6,7,8,9]⟩,⟨[],[],[],[0,1,2,3,4,5,6,7,8,9,10]⟩] (by kernel_rfl) (d_cons (vb (.own 2 [0] [0]) rfl rfl (dn (d_cons ?_))))))))
  have hl10:LdOk [0] (.struct [1,1,1,1,1] [(i6 a0s0),(eSi64 a0s1),(eSi64 a0s2),(i6 a0s3),(.clo 68 [(i6 a0s4f0)] [])]) [0] 1 false (i6 a0s0):=(.fld rfl rfl rfl rfl (.nil rfl rfl rfl))
  refine vq (i6 a0s0) (ld_own (i:=⟨.int .i64,1,8,(.int .i64 0)⟩) rfl rfl rfl hl10) hl10.c (dn (dj (i6 a1) rfl (d_cons ?_)))
  obtain ⟨r11,hr12,h⟩:=bind_some h
  refine ca (impl_prime_norm_ok a0s0 a1 1099511627776 r11 hr12) (dn (d_cons (vb (.own 2 [0] [0]) rfl rfl (dn (d_cons ?_)))))
  have hl13:LdOk [0] (.struct [1,1,1,1,1] [(i6 a0s0),(eSi64 a0s1),(eSi64 a0s2),(i6 a0s3),(.clo 68 [(i6 a0s4f0)] [])]) [0] 1 false (i6 a0s0):=(.fld rfl rfl rfl rfl (.nil rfl rfl rfl))
  refine vq (i6 a0s0) (ld_own (i:=⟨.int .i64,1,8,(.int .i64 0)⟩) rfl rfl rfl hl13) hl13.c (dn (d_cons (vb (.own 2 [3] [3]) rfl rfl (dn (d_cons ?_)))))
  have hl14:LdOk [3] (.struct [1,1,1,1,1] [(i6 a0s0),(eSi64 a0s1),(eSi64 a0s2),(i6 a0s3),(.clo 68 [(i6 a0s4f0)] [])]) [3] 1 false (i6 a0s3):=(.fld rfl rfl rfl rfl (.nil rfl rfl rfl))
  refine vq (i6 a0s3) (ld_own (i:=⟨.int .i64,1,8,(.int .i64 0)⟩) rfl rfl rfl hl14) hl14.c (dn (dj (i6 (IntKind.i64.wrap (a0s3 - 1))) rfl (d_cons ?_)))
  obtain ⟨r15,hr16,h⟩:=bind_some h
  refine ca (impl_prime_norm_ok a0s0 (IntKind.i64.wrap (a0s3 - 1)) 1099511627776 r15 hr16) (dn (dj (i6 r11) rfl (dj (i6 r15) rfl (d_nil (nj ⟨[(1,i6 a1),(2,ow 2),(6,i6 r11),(7,i6 r15)],[(2,bk (.struct [1,1,1,1,1] [(i6 a0s0),(eSi64 a0s1),(eSi64 a0s2),(i6 a0s3),(.clo 68 [(i6 a0s4f0)] [])]))]⟩ (a_seq (a_draw [⟨[2],[],[2],[]⟩,⟨[2],[],[],[0]⟩,⟨[2],[],[2],[]⟩,⟨[2],[],[],[2]⟩,⟨[2],[],[2],[]⟩,⟨[2],[],[],[4]⟩,⟨[2],[],[2],[]⟩,⟨[2],[],[],[6]⟩,⟨[],[],[],[6,7]⟩,⟨[],[],[],[4,5,6,7,8]⟩,⟨[],[],[],[2,3,4,5,6,7,8,9]⟩,⟨[2],[],[2],[]⟩,⟨[2],[],[],[11]⟩,⟨[2],[],[2],[]⟩,⟨[2],[],[],[13]⟩,⟨[],[],[],[]⟩,⟨[],[],[],[2,3,4,5,6,7,8,9,10,13,14,15]⟩,⟨[],[],[],[2,3,4,5,6,7,8,9,10,11,12,13,14,15,16]⟩,⟨[],[],[],[0,1,2,3,4,5,6,7,8,9,10,11,12,13,14,15,16,17]⟩,⟨[],[],[],[0,1,2,3,4,5,6,7,8,9,10,11,12,13,14,15,16,17,18]⟩,⟨[],[],[],[0,1,2,3,4,5,6,7,8,9,10,11,12,13,14,15,16,17,18,19]⟩,⟨[],[],[],[0,1,2,3,4,5,6,7,8,9,10,11,12,13,14,15,16,17,18,19]⟩,⟨[],[],[],[0,1,2,3,4,5,6,7,8,9,10,11,12,13,14,15,16,17,18,19,20]⟩,⟨[],[],[],[0,1,2,3,4,5,6,7,8,9,10,11,12,13,14,15,16,17,18,19,20,21,22]⟩] (by kernel_rfl) (d_cons (vb (.own 2 [0] [0]) rfl rfl ?_)))))))))
  refine dn (d_cons ?_)
  have hl33:LdOk [0] (.struct [1,1,1,1,1] [(i6 a0s0),(eSi64 a0s1),(eSi64 a0s2),(i6 a0s3),(.clo 68 [(i6 a0s4f0)] [])]) [0] 1 false (i6 a0s0):=(.fld rfl rfl rfl rfl (.nil rfl rfl rfl))
  refine vq (i6 a0s0) (ld_own (i:=⟨.int .i64,1,8,(.int .i64 0)⟩) rfl rfl rfl hl33) hl33.c (dn (d_cons (vb (.own 2 [0] [0]) rfl rfl (dn (d_cons ?_)))))
  have hl34:LdOk [0] (.struct [1,1,1,1,1] [(i6 a0s0),(eSi64 a0s1),(eSi64 a0s2),(i6 a0s3),(.clo 68 [(i6 a0s4f0)] [])]) [0] 1 false (i6 a0s0):=(.fld rfl rfl rfl rfl (.nil rfl rfl rfl))
  refine vq (i6 a0s0) (ld_own (i:=⟨.int .i64,1,8,(.int .i64 0)⟩) rfl rfl rfl hl34) hl34.c (dn (d_cons (vb (.own 2 [4] [4]) rfl rfl (dn (d_cons ?_)))))
  have hl35:LdOk [4] (.struct [1,1,1,1,1] [(i6 a0s0),(eSi64 a0s1),(eSi64 a0s2),(i6 a0s3),(.clo 68 [(i6 a0s4f0)] [])]) [4] 1 false (.clo 68 [(i6 a0s4f0)] []):=(.fld rfl rfl rfl rfl (.nil rfl rfl rfl))
  refine vq (.clo 68 [(i6 a0s4f0)] []) (ld_own (i:=⟨.other,1,8,(.raw .nilFunc)⟩) rfl rfl rfl hl35) hl35.c (dn (d_cons (vb (.own 2 [3] [3]) rfl rfl (dn (d_cons ?_)))))
  have hl36:LdOk [3] (.struct [1,1,1,1,1] [(i6 a0s0),(eSi64 a0s1),(eSi64 a0s2),(i6 a0s3),(.clo 68 [(i6 a0s4f0)] [])]) [3] 1 false (i6 a0s3):=(.fld rfl rfl rfl rfl (.nil rfl rfl rfl))
  refine vq (i6 a0s3) (ld_own (i:=⟨.int .i64,1,8,(.int .i64 0)⟩) rfl rfl rfl hl36) hl36.c (dn (dj (i6 (IntKind.i64.wrap (a0s3 - 1))) rfl (d_cons ?_)))
  obtain ⟨r37,hr38,h⟩:=bind_some h
  refine ca (impl_prime_first_ok a0s4f0 (IntKind.i64.wrap (a0s3 - 1)) r37 hr38) (dn (d_cons ?_))
  obtain ⟨r39,hr40,h⟩:=bind_some h
  refine ca (impl_prime_productRow_ok a0s0 r37 r39 hr40) (dn (d_cons (vb (.own 2 [0] [0]) rfl rfl (dn (d_cons ?_)))))
  have hl41:LdOk [0] (.struct [1,1,1,1,1] [(i6 a0s0),(eSi64 a0s1),(eSi64 a0s2),(i6 a0s3),(.clo 68 [(i6 a0s4f0)] [])]) [0] 1 false (i6 a0s0):=(.fld rfl rfl rfl rfl (.nil rfl rfl rfl))
  refine vq (i6 a0s0) (ld_own (i:=⟨.int .i64,1,8,(.int .i64 0)⟩) rfl rfl rfl hl41) hl41.c (dn (d_cons (vb (.own 2 [4] [4]) rfl rfl (dn (d_cons ?_)))))
  have hl42:LdOk [4] (.struct [1,1,1,1,1] [(i6 a0s0),(eSi64 a0s1),(eSi64 a0s2),(i6 a0s3),(.clo 68 [(i6 a0s4f0)] [])]) [4] 1 false (.clo 68 [(i6 a0s4f0)] []):=(.fld rfl rfl rfl rfl (.nil rfl rfl rfl))
  refine vq (.clo 68 [(i6 a0s4f0)] []) (ld_own (i:=⟨.other,1,8,(.raw .nilFunc)⟩) rfl rfl rfl hl42) hl42.c (dn (dj (i6 a1) rfl (d_cons ?_)))
  obtain ⟨r43,hr44,h⟩:=bind_some h
  refine ca (impl_prime_first_ok a0s4f0 a1 r43 hr44) (dn (d_cons ?_))
  obtain ⟨r45,hr46,h⟩:=bind_some h
  refine ca (impl_prime_productRow_ok a0s0 r43 r45 hr46) (dn (d_cons ?_))
  obtain ⟨r47,hr48,h⟩:=bind_some h
  refine ca (impl_prime_divide_ok a0s0 r39 r45 r47 hr48) (dn (dj (.tuple [(eSi64 r47.1),(eSi64 r47.2)]) rfl (d_cons (vb (eSi64 r47.1) rfl rfl (dn (d_cons (vb (eSi64 r47.2) rfl rfl (dn (dj (eSi64 r47.1) rfl ?_)))))))))
  refine dj (eSi64 r47.2) rfl (d_nil (nj ⟨[(1,i6 a1),(2,ow 2),(6,i6 r11),(7,i6 r15),(8,eSi64 r47.1)],[(2,bk (.struct [1,1,1,1,1] [(i6 a0s0),(eSi64 a0s1),(eSi64 a0s2),(i6 a0s3),(.clo 68 [(i6 a0s4f0)] [])]))]⟩ (a_seq (a_seq (a_draw [⟨[2],[],[2],[]⟩,⟨[2],[],[],[0]⟩,⟨[],[],[],[0,1]⟩,⟨[],[],[],[]⟩,⟨[],[],[],[0,1,2,3]⟩,⟨[2],[],[2],[]⟩,⟨[2],[],[],[5]⟩,⟨[],[],[],[0,1,2,5,6]⟩,⟨[],[],[],[]⟩,⟨[],[],[],[]⟩,⟨[],[],[],[8,9]⟩,⟨[],[],[],[0,1,2,5,6,7,8,9,10]⟩,⟨[],[],[],[0,1,2,3,4,5,6,7,8,9,10,11]⟩,⟨[],[],[],[]⟩,⟨[],[],[],[0,1,2,5,6,7,13]⟩,⟨[],[],[],[0,1,2,3,4,5,6,7,8,9,10,11,12,13,14]⟩,⟨[],[],[],[0,1,2,3,4,5,6,7,8,9,10,11,12,13,14,15]⟩] (by kernel_rfl) (d_cons (vb (.own 2 [1] [1]) rfl rfl (dn (d_cons ?_)))))))))
  have hl59:LdOk [1] (.struct [1,1,1,1,1] [(i6 a0s0),(eSi64 a0s1),(eSi64 a0s2),(i6 a0s3),(.clo 68 [(i6 a0s4f0)] [])]) [1] 1 false (eSi64 a0s1):=(.fld rfl rfl rfl rfl (.nil rfl rfl rfl))
  refine vq (eSi64 a0s1) (ld_own (i:=⟨.slice 2,1,24,(eSi64 [])⟩) rfl rfl rfl hl59) hl59.c (dn (d_cons ?_))
  obtain ⟨r60,hr61,h⟩:=bind_some h
  refine ca (impl_row_degree_ok a0s1 r60 hr61) (dn (dj (i6 r11) rfl (dj (i6 (IntKind.i64.wrap (r60*r11))) rfl (d_cons (vb (.own 2 [2] [2]) rfl rfl (dn (d_cons ?_)))))))
  have hl62:LdOk [2] (.struct [1,1,1,1,1] [(i6 a0s0),(eSi64 a0s1),(eSi64 a0s2),(i6 a0s3),(.clo 68 [(i6 a0s4f0)] [])]) [2] 1 false (eSi64 a0s2):=(.fld rfl rfl rfl rfl (.nil rfl rfl rfl))
  refine vq (eSi64 a0s2) (ld_own (i:=⟨.slice 2,1,24,(eSi64 [])⟩) rfl rfl rfl hl62) hl62.c (dn (d_cons ?_))
  obtain ⟨r63,hr64,h⟩:=bind_some h
  refine ca (impl_row_degree_ok a0s2 r63 hr64) (dn (dj (i6 r15) rfl (dj (i6 r11) rfl (dj (i6 (IntKind.i64.wrap (r15 - r11))) rfl (dj (i6 (IntKind.i64.wrap (r63*(IntKind.i64.wrap (r15 - r11))))) rfl (d_cons ?_))))))
  obtain ⟨x65,hx66,h⟩:=letp_some h
  refine a_val' (v:=(i6 (IntKind.i64.wrap ((IntKind.i64.wrap (r60*r11)) + (IntKind.i64.wrap (r63*(IntKind.i64.wrap (r15 - r11)))))))) (v':=(i6 x65)) (u:=[]) (u':=[]) rfl (congrArg (fun z=>((i6 z):AV)) hx66) rfl trivial rfl (dn (dj (eSi64 r47.1) rfl (d_cons ?_)))
  obtain ⟨r67,hr68,h⟩:=bind_some h
  refine ca (impl_row_degree_ok r47.1 r67 hr68) (dn (dj (i6 (IntKind.i64.wrap (x65 + r67))) rfl (dj (.bool ((decide ((IntKind.i64.wrap (x65 + r67)) > 63)))) rfl (d_nil (nj ⟨[(1,i6 a1),(2,ow 2),(6,i6 r11),(7,i6 r15),(8,eSi64 r47.1),(63,.bool ((decide ((IntKind.i64.wrap (x65 + r67)) > 63))))],[(2,bk (.struct [1,1,1,1,1] [(i6 a0s0),(eSi64 a0s1),(eSi64 a0s2),(i6 a0s3),(.clo 68 [(i6 a0s4f0)] [])]))]⟩ ?_)))))
  cases hb69:(decide ((IntKind.i64.wrap (x65 + r67)) > 63))
  ·have h:=ite_f hb69 h
   refine a_cond_f rfl (a_skip (nj ⟨[(1,i6 a1),(2,ow 2),(6,i6 r11),(7,i6 r15),(8,eSi64 r47.1)],[(2,bk (.struct [1,1,1,1,1] [(i6 a0s0),(eSi64 a0s1),(eSi64 a0s2),(i6 a0s3),(.clo 68 [(i6 a0s4f0)] [])]))]⟩ (a_seq (a_draw [⟨[2],[],[2],[]⟩,⟨[2],[],[],[0]⟩,⟨[2],[],[2],[]⟩,⟨[2],[],[],[2]⟩,⟨[2],[],[2],[]⟩,⟨[2],[],[],[4]⟩,⟨[],[],[],[]⟩,⟨[],[],[],[2,3,4,5,6]⟩,⟨[],[],[],[]⟩,⟨[],[],[],[0,1,2,3,4,5,6,7,8]⟩,⟨[],[],[],[0,1,2,3,4,5,6,7,8,9]⟩] (by kernel_rfl) (d_cons (vb (.own 2 [0] [0]) rfl rfl (dn (d_cons ?_))))))))
   have hl77:LdOk [0] (.struct [1,1,1,1,1] [(i6 a0s0),(eSi64 a0s1),(eSi64 a0s2),(i6 a0s3),(.clo 68 [(i6 a0s4f0)] [])]) [0] 1 false (i6 a0s0):=(.fld rfl rfl rfl rfl (.nil rfl rfl rfl))
   refine vq (i6 a0s0) (ld_own (i:=⟨.int .i64,1,8,(.int .i64 0)⟩) rfl rfl rfl hl77) hl77.c (dn (d_cons (vb (.own 2 [0] [0]) rfl rfl (dn (d_cons ?_)))))
   have hl78:LdOk [0] (.struct [1,1,1,1,1] [(i6 a0s0),(eSi64 a0s1),(eSi64 a0s2),(i6 a0s3),(.clo 68 [(i6 a0s4f0)] [])]) [0] 1 false (i6 a0s0):=(.fld rfl rfl rfl rfl (.nil rfl rfl rfl))
   refine vq (i6 a0s0) (ld_own (i:=⟨.int .i64,1,8,(.int .i64 0)⟩) rfl rfl rfl hl78) hl78.c (dn (d_cons (vb (.own 2 [1] [1]) rfl rfl (dn (d_cons ?_)))))
   have hl79:LdOk [1] (.struct [1,1,1,1,1] [(i6 a0s0),(eSi64 a0s1),(eSi64 a0s2),(i6 a0s3),(.clo 68 [(i6 a0s4f0)] [])]) [1] 1 false (eSi64 a0s1):=(.fld rfl rfl rfl rfl (.nil rfl rfl rfl))
   refine vq (eSi64 a0s1) (ld_own (i:=⟨.slice 2,1,24,(eSi64 [])⟩) rfl rfl rfl hl79) hl79.c (dn (dj (i6 a1) rfl (d_cons ?_)))
   obtain ⟨r80,hr81,h⟩:=bind_some h
   refine ca (impl_prime_spread_ok a0s0 a0s1 a1 r80 hr81) (dn (dj (eSi64 r47.1) rfl (d_cons ?_)))
   obtain ⟨r82,hr83,h⟩:=bind_some h
   refine ca (impl_prime_times_ok a0s0 r80 r47.1 r82 hr83) (dn (dj (eSi64 r82) rfl (d_nil (nj ⟨[(2,ow 2),(6,i6 r11),(7,i6 r15),(10,eSi64 r82)],[(2,bk (.struct [1,1,1,1,1] [(i6 a0s0),(eSi64 a0s1),(eSi64 a0s2),(i6 a0s3),(.clo 68 [(i6 a0s4f0)] [])]))]⟩ (a_seq (a_draw [⟨[2],[],[2],[]⟩,⟨[2],[],[],[0]⟩,⟨[],[],[],[]⟩,⟨[2],[],[2],[]⟩,⟨[2],[],[],[3]⟩,⟨[2],[],[2],[]⟩,⟨[2],[],[],[5]⟩,⟨[],[],[],[]⟩,⟨[],[],[],[]⟩,⟨[],[],[],[7,8]⟩,⟨[],[],[],[3,4,5,6,7,8,9]⟩,⟨[],[],[],[0,1,2,3,4,5,6,7,8,9,10]⟩,⟨[],[],[],[0,1,2,3,4,5,6,7,8,9,10,11]⟩,⟨[],[],[],[0,1,2,3,4,5,6,7,8,9,10,11,12]⟩] (by kernel_rfl) (d_cons (vb (.own 2 [0] [0]) rfl rfl (dn ?_)))))))))
   refine d_cons ?_
   have hl91:LdOk [0] (.struct [1,1,1,1,1] [(i6 a0s0),(eSi64 a0s1),(eSi64 a0s2),(i6 a0s3),(.clo 68 [(i6 a0s4f0)] [])]) [0] 1 false (i6 a0s0):=(.fld rfl rfl rfl rfl (.nil rfl rfl rfl))
   refine vq (i6 a0s0) (ld_own (i:=⟨.int .i64,1,8,(.int .i64 0)⟩) rfl rfl rfl hl91) hl91.c (dn (dj (eSi64 r82) rfl (d_cons (vb (.own 2 [0] [0]) rfl rfl (dn (d_cons ?_))))))
   have hl92:LdOk [0] (.struct [1,1,1,1,1] [(i6 a0s0),(eSi64 a0s1),(eSi64 a0s2),(i6 a0s3),(.clo 68 [(i6 a0s4f0)] [])]) [0] 1 false (i6 a0s0):=(.fld rfl rfl rfl rfl (.nil rfl rfl rfl))
   refine vq (i6 a0s0) (ld_own (i:=⟨.int .i64,1,8,(.int .i64 0)⟩) rfl rfl rfl hl92) hl92.c (dn (d_cons (vb (.own 2 [2] [2]) rfl rfl (dn (d_cons ?_)))))
   have hl93:LdOk [2] (.struct [1,1,1,1,1] [(i6 a0s0),(eSi64 a0s1),(eSi64 a0s2),(i6 a0s3),(.clo 68 [(i6 a0s4f0)] [])]) [2] 1 false (eSi64 a0s2):=(.fld rfl rfl rfl rfl (.nil rfl rfl rfl))
   refine vq (eSi64 a0s2) (ld_own (i:=⟨.slice 2,1,24,(eSi64 [])⟩) rfl rfl rfl hl93) hl93.c (dn (dj (i6 r15) rfl (dj (i6 r11) rfl (dj (i6 (IntKind.i64.wrap (r15 - r11))) rfl (d_cons ?_)))))
   obtain ⟨r94,hr95,h⟩:=bind_some h
   refine ca (impl_prime_raised_ok a0s0 a0s2 (IntKind.i64.wrap (r15 - r11)) r94 hr95) (dn (d_cons ?_))
   obtain ⟨r96,hr97,h⟩:=bind_some h
   refine ca (impl_prime_times_ok a0s0 r82 r94 r96 hr97) (dn (dj (eSi64 r96) rfl (dj (.bool true) rfl (d_nil (a_next rfl (a_ret ?_))))))
   refine ⟨.inr rfl,?_⟩
   rw [Tryz.results119]
   cases h
   exact ⟨_,_,_,_,_,rfl,trivial,.inl ⟨rfl,.inl rfl⟩,rfl,⟨_,_,_,_,_,rfl,trivial,.inl ⟨rfl,.inl rfl⟩,rfl,rfl⟩⟩
  ·have h:=ite_t hb69 h
   refine a_cond_t rfl (sr (vr (eSi64 ([])) (vr (.bool false) (nx _ rfl (a_ret (t_ret ?_))))))
   refine ⟨.inr rfl,?_⟩
   rw [Tryz.results119]
   cases h
   exact ⟨_,_,_,_,_,rfl,trivial,.inl ⟨rfl,.inl rfl⟩,rfl,⟨_,_,_,_,_,rfl,trivial,.inl ⟨rfl,.inl rfl⟩,rfl,rfl⟩⟩
 ·have h:=ite_t hb2 h
  refine a_cond_t rfl (sr (vr (eSi64 ([])) (vr (.bool true) (nx _ rfl (a_ret (t_ret ?_))))))
  refine ⟨.inr rfl,?_⟩
  rw [Tryz.results119]
  cases h
  exact ⟨_,_,_,_,_,rfl,trivial,.inl ⟨rfl,.inl rfl⟩,rfl,⟨_,_,_,_,_,rfl,trivial,.inl ⟨rfl,.inl rfl⟩,rfl,rfl⟩⟩
def impl_prime_scale_L:Live:=[(0,[0,1,2]),(1,[0,1,2])]
noncomputable def impl_prime_scale (a0:Int) (a1:(List Int)) (a2:Int):Option (List Int) :=
 (Option.bind (impl_prime_combine a0 ([]) a1 a2) fun r1=>(some r1))
theorem impl_prime_scale_ok (a0:Int) (a1:(List Int)) (a2:Int) (r:(List Int)) (h:impl_prime_scale a0 a1 a2=some r):Den Tryz.prog 121 [(i6 a0),(eSi64 a1),(i6 a2)] { r:=(eSi64 r) }:=by
 refine dd (rs:=[(eSi64 r)]) (L:=impl_prime_scale_L) good [(6,1)] Tryz.func121 Tryz.ntmps121 ?_
 refine ns ⟨[(0,i6 a0),(1,eSi64 a1),(2,i6 a2)],[]⟩ ?_
 refine sr (vr (eSi64 ([])) (nk ⟨[(0,i6 a0),(1,eSi64 a1),(2,i6 a2)],[]⟩ (sr (vr (i6 a0) (vr (eSi64 a1) (vr (i6 a2) ?_))))))
 obtain ⟨r1,hr2,h⟩:=bind_some h
 refine a_call (args:=[(i6 a0),(.sl 0 true []),(eSi64 a1),(i6 a2)]) (u:=[]) (r:=(eSi64 r1)) rfl rfl (Den.args (impl_prime_combine_ok a0 ([]) a1 a2 r1 hr2) rfl rfl (.cons (.refl _) (.cons (.nil _ _ _ _ (fun _=>rfl)) (.cons (.refl _) (.cons (.refl _) .nil))))) rfl (vr (eSi64 r1) (nx _ rfl (a_ret ?_)))
 refine ⟨.inr rfl,?_⟩
 rw [Tryz.results121]
 cases h
 exact ⟨_,_,_,_,_,rfl,trivial,.inl ⟨rfl,.inl rfl⟩,rfl,rfl⟩
end Go.Proofs.YtkbnegemdlnncaaGreat
