/- Own texts, put together. -/
import Derived.Test.YtebfhlnfmkhmcaaGreatAbs1
set_option linter.unusedSimpArgs false
set_option linter.unusedVariables false
/- Regions whose order is drawn: all orders that the edges allow come to one end. For every program. -/
namespace Go.Abs
section
variable {P:Program} {T:Tys} {fr:Fr} {σ σ':St} {a:Act} {w:World}

theorem ze4 {α β:Type} {f g:α→β} {l:List α} (h:∀ x∈l,f x=g x):l.map f=l.map g:=List.map_congr_left h

theorem zzx {d:Nat} {e e':Operand→AV} (op:AO) (h:∀ x∈op.opds,e x=e' x):qL T d e op=qL T d e' op:=by
 cases op with
 | build t ps =>
  have:ps.map (fun p=>e p.2)=ps.map (fun p=>e' p.2):=ze4 fun p hp=>h _ (by simp only [AO.opds,List.mem_map]; exact ⟨p,hp,rfl⟩)
  simp only [qL,this]
 | bslice m t n ps =>
  have:ps.map (fun p=>e p.2)=ps.map (fun p=>e' p.2):=ze4 fun p hp=>h _ (by simp only [AO.opds,List.mem_map]; exact ⟨p,hp,rfl⟩)
  simp only [qL,this]
 | mkfn f x y =>
  have h1:x.map e=x.map e':=ze4 fun p hp=>h _ (by simp [AO.opds,hp])
  have h2:y.map e=y.map e':=ze4 fun p hp=>h _ (by simp [AO.opds,hp])
  simp only [qL,h1,h2]
 | call m f args =>
  have h1:args.map e=args.map e':=ze4 fun p hp=>h _ (by simp [AO.opds,hp])
  simp only [qL,h1,h f (by simp [AO.opds])]
 | blt m b args ts =>
  have h1:args.map e=args.map e':=ze4 fun p hp=>h _ (by simpa [AO.opds] using hp)
  simp only [qL,h1]
 | slice t x lo hi mx =>
  have h0:=h x (by simp [AO.opds])
  have h1:lo.map e=lo.map e':=by cases lo <;> simp [AO.opds] at h ⊢; exact h.2.1
  have h2:hi.map e=hi.map e':=by cases hi <;> simp [AO.opds] at h ⊢; exact h.2 _ (by simp)
  have h3:mx.map e=mx.map e':=by cases mx <;> simp [AO.opds] at h ⊢; exact h.2 _ (by simp)
  simp only [qL,h0,h1,h2,h3]
 | _=>simp [AO.opds] at h <;> simp only [qL,h]

theorem zxc {e e':Nat→AV} {xs:List Operand} (h:∀ t∈zoc xs,e t=e' t):∀ x∈xs,jD e x=jD e' x:=by
 induction xs with
 | nil=>simp
 | cons y ys ih =>
  intro x hx
  rcases List.mem_cons.1 hx with rfl | hx
  ·cases x <;> first | rfl | exact h _ (by simp [zoc])
  ·exact ih (fun t ht=>h t (by cases y <;> simp [zoc,ht])) x hx


theorem zbj {x:Nat} {l:List Nat}:zmf x l=true ↔ x∈l:=by
 simp only [zmf,List.any_eq_true]
 constructor
 ·rintro ⟨y,hy,e⟩; rw [Nat.eq_of_beq_eq_true e]; exact hy
 ·intro h; exact ⟨x,h,Nat.beq_refl x⟩
theorem zvm {a b:List Nat}:z3i a b=true ↔ ∀ x∈a,x ∉ b:=by
 simp only [z3i,List.all_eq_true,Bool.not_eq_true']
 constructor
 ·intro h x hx hb; have:=h x hx; rw [zbj.2 hb] at this; cases this
 ·intro h x hx; cases hb:zmf x b with
  | false=>rfl
  | true=>exact absurd (zbj.1 hb) (h x hx)
mutual
theorem zru {id:Nat}:∀ (v:AV),v.names id=true→id∈zin v
 | .own i _ _,h=>by simp only [AV.names,beq_iff_eq] at h; simp [zin,h]
 | .osl i,h=>by simp only [AV.names,beq_iff_eq] at h; simp [zin,h]
 | .tuple xs,h=>by simp only [AV.names] at h; simp only [zin]; exact zr1 xs h
 | .top,h=>by simp [AV.names] at h
 | .int ..,h=>by simp [AV.names] at h
 | .bool _,h=>by simp [AV.names] at h
 | .str _,h=>by simp [AV.names] at h
 | .arr ..,h=>by simp [AV.names] at h
 | .struct ..,h=>by simp [AV.names] at h
 | .row ..,h=>by simp [AV.names] at h
 | .sl ..,h=>by simp [AV.names] at h
 | .clo ..,h=>by simp [AV.names] at h
 | .ref ..,h=>by simp [AV.names] at h
 | .mutsl ..,h=>by simp [AV.names] at h
 | .mutp _,h=>by simp [AV.names] at h
 | .fr i _,h=>by simp only [AV.names,beq_iff_eq] at h; simp [zin,h]
 | .raw _,h=>by simp [AV.names] at h
theorem zr1 {id:Nat}:∀ (xs:List AV),AV.names.namesAny id xs=true→id∈zin.all xs
 | [],h=>by simp [AV.names.namesAny] at h
 | x :: xs,h=>by
  simp only [AV.names.namesAny,Bool.or_eq_true] at h
  simp only [zin.all,List.mem_append]
  rcases h with h | h
  ·exact .inl (zru x h)
  ·exact .inr (zr1 xs h)
end

theorem zvc {H H':Hp}:∀ (a:Ask),(∀ id∈a.asks H,H id=H' id)→a.run H'=a.run H
 | .ret _,_=>rfl
 | .get id k,h=>by
  simp only [Ask.asks,List.mem_cons,forall_eq_or_imp] at h
  simp only [Ask.run]
  rw [← h.1]
  exact zvc (k (H id)) h.2

def EvU (P:Program) (H:Hp) (o:AOper) (N:Upd→Prop):Ev→AV→Upd→Prop
 | .bad,_,_=>False
 | .split ..,_,_=>False
 | .val v' u' C,v,u=>C∧N u'∧u'=u∧v'=v
 | .call f args u' ms C,v,u=>C∧zn9 o.op=true∧((ms=[]∧jJ 0 args=[]∧∃ r,Den P f args r∧r.ms=[]∧zew r.fs.length r.r=true∧Nat.ble r.fs.length 100=true ∧
   N (fsU (o.dst.getD 0) 0 r.fs)∧(∀ q∈fsU (o.dst.getD 0) 0 r.fs,(H q.1).isNone=true)∧u=fsU (o.dst.getD 0) 0 r.fs ++ u'∧v=ren (o.dst.getD 0) r.r) ∨
   (∃ i id c,ms=[(i,id)]∧u'=[]∧jJ 0 args=[i]∧Den P f args { r:=v,ms:=[c] }∧zew 0 v=true∧zfz (nth args i) c∧u=[(id,some ⟨c,false⟩)]))

/-- One operation gives v and changes the blocks as u says. -/
def RunU (P:Program) (T:Tys) (N:Upd→Prop) (e:Nat→AV) (H:Hp) (o:AOper) (v:AV) (u:Upd):Prop :=
 match o.guard with
 | none=>EvU P H o N ((qL T (o.dst.getD 0) (jD e) o.op).run H) v u
 | some (g,want)=>(∃ b,e g=.bool b∧(b=want→EvU P H o N ((qL T (o.dst.getD 0) (jD e) o.op).run H) v u)∧(b ≠ want→v=.tuple []∧u=[]))∨(e g=.tuple []∧v=.tuple []∧u=[])

theorem EvU.imp {N N':Upd→Prop} {H H':Hp} {o:AOper} {E:Ev} {v:AV} {u:Upd} (hN:∀ u0:Upd,(∀ q∈u0,q∈u)→N u0→N' u0) (hH:∀ q∈u,H q.1=H' q.1) (h:EvU P H o N E v u):EvU P H' o N' E v u:=by
 cases E with
 | bad=>exact h
 | split=>exact h
 | val v' u' C=>obtain ⟨a,b,rfl,rfl⟩:=h; exact ⟨a,hN _ (fun _ h=>h) b,rfl,rfl⟩
 | call f args u' ms C =>
  rcases h with ⟨h1,h2,⟨h3,h4,r,h5,h6,h7,h8,h9,h10,rfl,h12⟩ | h3⟩
  ·exact ⟨h1,h2,.inl ⟨h3,h4,r,h5,h6,h7,h8,hN _ (fun q hq=>List.mem_append_left _ hq) h9,fun q hq=>by rw [← hH q (List.mem_append_left _ hq)]; exact h10 q hq,rfl,h12⟩⟩
  ·exact ⟨h1,h2,.inr h3⟩
theorem RunU.congr {N N':Upd→Prop} {e e':Nat→AV} {H H':Hp} {o:AOper} {v:AV} {u:Upd} (h:RunU P T N e H o v u) (he:∀ t∈o.reads,e t=e' t) (hH:∀ id∈(qL T (o.dst.getD 0) (jD e) o.op).asks H,H id=H' id) (hU:∀ q∈u,H q.1=H' q.1) (hN:∀ u0:Upd,(∀ q∈u0,q∈u)→N u0→N' u0):RunU P T N' e' H' o v u:=by
 have h1:qL T (o.dst.getD 0) (jD e) o.op=qL T (o.dst.getD 0) (jD e') o.op :=
  zzx o.op (zxc fun t ht=>he t (by simp [AOper.reads,ht]))
 unfold RunU at *
 rw [← h1,zvc _ hH]
 split at h
 ·exact h.imp hN hU
 ·rename_i g want hg
  rcases h with ⟨b,hb,h2,h3⟩ | ⟨h1,h2⟩
  ·exact .inl ⟨b,by rw [← he g (by simp [AOper.reads,hg])]; exact hb,fun hw=>(h2 hw).imp hN hU,h3⟩
  ·exact .inr ⟨by rw [← he g (by simp [AOper.reads,hg])]; exact h1,h2⟩

theorem zss {n d:Nat} {v:AV} (hn:n=0) (h:zja n v=true):ztk d v=v:=by
 cases v
 case osl id =>
  simp only [zja,Bool.and_eq_true] at h
  have h1:=Nat.le_of_ble_eq_true h.1
  have h2:=Nat.le_of_ble_eq_true h.2
  omega
 case own id p oo =>
  simp only [zja,Bool.and_eq_true] at h
  have h1:=Nat.le_of_ble_eq_true h.2.1
  have h2:=Nat.le_of_ble_eq_true h.2.2
  omega
 all_goals rfl
theorem zud {d:Nat}:∀ (xs:List AV),xs.all (zja 0)=true→xs.map (ztk d)=xs
 | [],_=>rfl
 | x :: xs,h=>by
  simp only [List.all_cons,Bool.and_eq_true] at h
  rw [List.map_cons,zss (n:=0) rfl h.1,zud xs h.2]
theorem zql {d:Nat} {v:AV} (h:zew 0 v=true):ren d v=v:=by
 cases v
 case osl id =>
  have h':zja 0 (.osl id)=true:=h
  exact zss rfl h'
 case own id p oo =>
  have h':zja 0 (.own id p oo)=true:=h
  exact zss rfl h'
 case tuple xs=>exact congrArg AV.tuple (zud xs h)
 all_goals rfl
theorem zvd (d:Nat):∀ (fs:List (Nat×List AV)) (j:Nat),∀ q∈fsU d j fs,q.2.isNone=false
 | [],_=>by simp [fsU]
 | (sz,xs) :: fs,j=>by
  intro q hq
  simp only [fsU,List.mem_cons] at hq
  rcases hq with rfl | hq
  ·rfl
  ·exact zvd d fs (j + 1) q hq
theorem EvU.ev {o:AOper} {E:Ev} {v:AV} {u:Upd} (h:EvU P σ.h o (fun u=>zg9 σ u=true) E v u) {K:St→Prop} (hK:K ((σ.upd u).put o.dst v)):ev P σ o K E:=by
 cases E with
 | bad=>exact h.elim
 | split=>exact h.elim
 | val v' u' C=>obtain ⟨hC,hn,rfl,rfl⟩:=h; exact ⟨hC,hn,hK⟩
 | call f args u' ms C =>
  rcases h with ⟨hC,h1,⟨rfl,h2,r,h3,h4,h5,h6,h7,h8,rfl,rfl⟩ | ⟨i,id,c,rfl,rfl,h2,h3,h4,h5,rfl⟩⟩
  rotate_left
  ·refine ⟨hC,h1,{ r:=v,ms:=[c] },[],h3,⟨h4,rfl,rfl,.inr (.inl ⟨i,id,c,rfl,rfl,rfl,h2,rfl,rfl,h5⟩)⟩,?_⟩
   rw [zql h4]
   exact hK
  refine ⟨hC,h1,r,u',h3,⟨h5,h6,?_,.inl ⟨rfl,h2,h4,.inl rfl⟩⟩,?_⟩
  ·refine List.all_eq_true.2 fun q hq=>?_
   have g1:=List.all_eq_true.1 h7 q hq
   have g2:=h8 q hq
   have g3:=zvd _ _ _ q hq
   have g4:(σ.h q.1).isSome=false:=by cases e:σ.h q.1 <;> simp [e] at g2 ⊢
   simp only [g3,g4,Bool.false_or,Bool.and_eq_true] at g1
   simp only [g2,Bool.true_and,Bool.and_eq_true]
   exact g1
  ·simpa [zgy,msU] using hK
theorem RunU.astep {o:AOper} {v:AV} {u:Upd} (h:RunU P T (fun u=>zg9 σ u=true) σ.e σ.h o v u) {K:St→Prop} (hK:K ((σ.upd u).put o.dst v)):astep P T o σ K:=by
 unfold RunU at h
 unfold Abs.astep
 split at h
 ·rename_i hg; rw [hg]; exact h.ev hK
 ·rename_i g want hg
  rw [hg]
  rcases h with ⟨b,hb,h1,h2⟩ | ⟨hb,h3,h4⟩
  ·simp only [hb]
   split
   ·rename_i e; exact (h1 e).ev hK
   ·rename_i e
    obtain ⟨h3,h4⟩:=h2 e
    rw [h3,h4] at hK; exact hK
  ·simp only [hb]
   rw [h3,h4] at hK; exact hK

theorem z0u {o:AOper} {E:Ev} {K:St→Prop} (h:ev P σ o K E):∃ v u,K ((σ.upd u).put o.dst v)∧(E.simple u=true→EvU P σ.h o (fun u=>zg9 σ u=true) E v u):=by
 cases E with
 | bad=>exact h.elim
 | split c v v'=>exact ⟨v',[],h.2.2,fun e=>(nomatch e)⟩
 | val v u C=>exact ⟨v,u,h.2.2,fun _=>⟨h.1,h.2.1,rfl,rfl⟩⟩
 | call f args u ms C =>
  obtain ⟨hC,h1,r,u2,h4,⟨h5,hle,hfr,h6⟩,h8⟩:=h
  refine ⟨_,_,h8,fun hs=>?_⟩
  simp only [Ev.simple,Bool.and_eq_true] at hs
  obtain ⟨hs,hms⟩:=hs
  rcases h6 with ⟨rfl,g1,g2,g3⟩ | ⟨i,id,c,rfl,rfl,rfl,g1,g2,g3,g4⟩ | ⟨i,id,rfl,rfl,rfl,g1,g2,g3⟩
  ·have hu2:u2=u:=by
    rcases g3 with rfl | ⟨rfl,g3,_⟩
    ·rfl
    ·cases u with
     | nil=>rfl
     | cons q u =>
      have g4:=List.all_eq_true.1 hs q (by simp)
      have g5:=List.all_eq_true.1 g3 q (by simp)
      rw [List.any_eq_true] at g4
      obtain ⟨q',hq',e⟩:=g4
      have hq'':q'∈fsU (o.dst.getD 0) 0 r.fs:=by
       simpa [zgy,msU,g2] using hq'
      have:=List.all_eq_true.1 g5 q' hq''
      rw [e] at this; cases this
   subst hu2
   refine ⟨hC,h1,.inl ⟨rfl,g1,r,h4,g2,h5,hle,?_,fun q hq=>?_,by simp [zgy,msU,g2],rfl⟩⟩
   ·refine List.all_eq_true.2 fun q hq=>?_
    have g4:=List.all_eq_true.1 hfr q hq
    simp only [Bool.and_eq_true] at g4
    simp only [Bool.or_eq_true,Bool.and_eq_true]
    exact .inr ⟨g4.1.2,g4.2⟩
   ·have g4:=List.all_eq_true.1 hfr q hq
    simp only [Bool.and_eq_true] at g4
    exact g4.1.1
  ·obtain ⟨rr,rms,rfs⟩:=r
   simp only at g2 g3
   subst g2; subst g3
   have e:ren (o.dst.getD 0) rr=rr:=zql h5
   show EvU P σ.h o _ _ (ren (o.dst.getD 0) rr) _
   rw [e]
   exact ⟨hC,h1,.inr ⟨i,id,c,rfl,rfl,g1,h4,h5,g4,rfl⟩⟩
  ·exfalso
   simp [zgy,msU,fsU,g2,g3] at hms
theorem zy0 {o:AOper} {K:St→Prop} (h:astep P T o σ K):∃ v u,K ((σ.upd u).put o.dst v)∧(((qL T (o.dst.getD 0) (jD σ.e) o.op).run σ.h).simple u=true→RunU P T (fun u=>zg9 σ u=true) σ.e σ.h o v u):=by
 unfold Abs.astep at h
 split at h
 ·rename_i hg
  obtain ⟨v,u,h1,h2⟩:=z0u h
  exact ⟨v,u,h1,fun hs=>by unfold RunU; rw [hg]; exact h2 hs⟩
 ·rename_i g want hg
  split at h
  ·rename_i b hb
   split at h
   ·rename_i e
    obtain ⟨v,u,h1,h2⟩:=z0u h
    exact ⟨v,u,h1,fun hs=>by unfold RunU; rw [hg]; exact .inl ⟨b,hb,fun _=>h2 hs,fun hne=>absurd e hne⟩⟩
   ·rename_i e
    exact ⟨.tuple [],[],h,fun _=>by unfold RunU; rw [hg]; exact .inl ⟨b,hb,fun hbw=>absurd hbw e,fun _=>⟨rfl,rfl⟩⟩⟩
  ·rename_i hb
   exact ⟨.tuple [],[],h,fun _=>by unfold RunU; rw [hg]; exact .inr ⟨hb,rfl,rfl⟩⟩
  ·exact h.elim

theorem z35 (σ:St) (d:Option Nat) (v:AV):(σ.put d v).H=σ.H:=by cases d <;> rfl
theorem zth (σ:St) (d:Option Nat) (v:AV) (x:Nat×AV):x∈(σ.put d v).env ↔ (x∈σ.env∨(d=some x.1∧x.2=v)):=by
 cases d with
 | none=>simp [St.put]
 | some d =>
  simp only [St.put,List.mem_cons,Option.some.injEq]
  constructor
  ·rintro (h | h)
   ·subst h; exact .inr ⟨rfl,rfl⟩
   ·exact .inl h
  ·rintro (h | ⟨h1,h2⟩)
   ·exact .inr h
   ·left; cases x; simp only at h1 h2; subst h1; subst h2; rfl

abbrev VU:=AV×Upd
def OChain (P:Program) (T:Tys):List AOper→List Tk→List VU→St→St→Prop
 | [],[],[],σ,σF=>σF=σ
 | o :: os,t :: ts,x :: xs,σ,σF=>RunU P T (fun u=>zg9 σ u=true) σ.e σ.h o x.1 x.2∧(∀ id∈(qL T (o.dst.getD 0) (jD σ.e) o.op).asks σ.h,id∈t.R)∧(∀ q∈x.2,q.1∈t.W∧(q.2.isNone=true∨(σ.h q.1).isSome=true∨1000≤q.1))∧(∀ d,o.dst=some d→∀ id,x.1.names id=true→id∈t.N)∧OChain P T os ts xs ((σ.upd x.2).put o.dst x.1) σF
 | _,_,_,_,_=>False

theorem zvl:∀ (os:List AOper) (ts:List Tk) (σ:St) (K:St→Prop),aopsT P T os ts σ K→∃ xs σF,K σF∧xs.length=os.length∧OChain P T os ts xs σ σF
 | [],[],σ,K,h=>⟨[],σ,h,rfl,rfl⟩
 | o :: os,t :: ts,σ,K,h=>by
  obtain ⟨v,u,⟨h1,h3⟩,h2⟩:=zy0 (K:=fun σ'=>tok T o σ σ' t=true∧aopsT P T os ts σ' K) h
  obtain ⟨xs,σF,h4,h5,h6⟩:=zvl os ts _ K h3
  simp only [tok,Bool.and_eq_true,List.all_eq_true] at h1
  obtain ⟨⟨⟨k0,k1⟩,k2⟩,k3⟩:=h1
  refine ⟨(v,u) :: xs,σF,h4,by simp [h5],h2 (by rw [z35] at k0; simpa [St.upd] using k0),fun id hid=>zbj.1 (k1 id hid),fun q hq=>?_,fun d hd id hn=>?_,h6⟩
  ·have k4:=k2 q (by rw [z35]; simp [St.upd]; exact hq)
   simp only [Bool.and_eq_true,Bool.or_eq_true] at k4
   refine ⟨zbj.1 k4.1,?_⟩
   rcases k4.2 with (h | h) | h
   ·exact .inl h
   ·exact .inr (.inl h)
   ·exact .inr (.inr (Nat.le_of_ble_eq_true h))
  ·rw [hd] at k3
   simp only [List.all_eq_true] at k3
   have:=k3 id (by rw [zvq,if_pos rfl]; exact zru v hn)
   exact zbj.1 this
 | [],_ :: _,_,_,h=>h.elim
 | _ :: _,[],_,_,h=>h.elim

def zc6 (xs:List VU) (j id:Nat):Prop:=∃ x,xs[j]?=some x∧∃ b,look x.2 id=some b

/-- The state when the operations of S have run. -/
structure Agrees (os:List AOper) (xs:List VU) (S:Nat→Prop) (σ σ':St):Prop where
 out:∀ t,(∀ j o,S j→os[j]?=some o→o.dst ≠ some t)→σ'.e t=σ.e t
 ins:∀ j o x t,S j→os[j]?=some o→xs[j]?=some x→o.dst=some t→σ'.e t=x.1
 hout:∀ id,(∀ j,S j→¬ zc6 xs j id)→σ'.h id=σ.h id
 hins:∀ j x id b,S j→xs[j]?=some x→look x.2 id=some b→(∀ k,S k→j < k→¬ zc6 xs k id)→σ'.h id=b
 env:∀ q∈σ'.env,q∈σ.env∨∃ j o x,S j∧os[j]?=some o∧xs[j]?=some x∧o.dst=some q.1∧q.2=x.1

theorem Agrees.none {os:List AOper} {xs:List VU} (σ:St):Agrees os xs (fun _=>False) σ σ :=
 ⟨fun _ _=>rfl,fun _ _ _ _ h=>h.elim,fun _ _=>rfl,fun _ _ _ _ h=>h.elim,fun _ h=>.inl h⟩
theorem Agrees.put {os:List AOper} {xs:List VU} {S S':Nat→Prop} {σ σ':St} (h:Agrees os xs S σ σ') {i:Nat} {o:AOper} {x:VU} (ho:os[i]?=some o) (hx:xs[i]?=some x) (hS:∀ j,S' j ↔ S j∨j=i)
  (hd:∀ j o',S j→j ≠ i→os[j]?=some o'→∀ t,o.dst=some t→o'.dst ≠ some t) (hw:∀ j id,S j→i < j→zc6 xs j id→zc6 xs i id→False):Agrees os xs S' σ ((σ'.upd x.2).put o.dst x.1):=by
 refine ⟨fun t ht=>?_,fun j o' v' t hj ho' hv' hd'=>?_,fun id hid=>?_,fun j x' id b hj hx' hb hlast=>?_,fun q hq=>?_⟩
 ·rw [zvq,if_neg (ht i o ((hS i).2 (.inr rfl)) ho),z0b]
  exact h.out t fun j o' hj=>ht j o' ((hS j).2 (.inl hj))
 ·rw [zvq]
  by_cases hji:j=i
  ·subst hji
   rw [ho] at ho'; cases ho'
   rw [hx] at hv'; cases hv'
   rw [if_pos hd']
  ·have hSj:S j:=by
    rcases (hS j).1 hj with h | h
    ·exact h
    ·exact absurd h hji
   rw [if_neg (fun e=>hd j o' hSj hji ho' t e hd'),z0b]
   exact h.ins j o' v' t hSj ho' hv' hd'
 ·rw [zor,zry]
  have h1:look x.2 id=Option.none:=by
   cases hl:look x.2 id with
   | none=>rfl
   | some b=>exact absurd ⟨x,hx,b,hl⟩ (hid i ((hS i).2 (.inr rfl)))
  simp only [xZ,h1]
  exact h.hout id fun j hj=>hid j ((hS j).2 (.inl hj))
 ·rw [zor,zry]
  by_cases hji:j=i
  ·subst hji
   rw [hx] at hx'; cases hx'
   simp only [xZ,hb]
  ·have hSj:S j:=by
    rcases (hS j).1 hj with h | h
    ·exact h
    ·exact absurd h hji
   have h1:look x.2 id=Option.none:=by
    cases hl:look x.2 id with
    | none=>rfl
    | some b' =>
     exfalso
     rcases Nat.lt_trichotomy j i with hlt | he | hlt
     ·exact hlast i ((hS i).2 (.inr rfl)) hlt ⟨x,hx,b',hl⟩
     ·exact hji he
     ·exact hw j id hSj hlt ⟨x',hx',b,hb⟩ ⟨x,hx,b',hl⟩
   simp only [xZ,h1]
   exact h.hins j x' id b hSj hx' hb fun k hk hlt=>hlast k ((hS k).2 (.inl hk)) hlt
 ·rcases (zth _ _ _ _).1 hq with hq | ⟨hq1,hq2⟩
  ·rcases h.env q hq with h1 | ⟨j,o',x',h1,h2⟩
   ·exact .inl h1
   ·exact .inr ⟨j,o',x',(hS j).2 (.inl h1),h2⟩
  ·exact .inr ⟨i,o,x,(hS i).2 (.inr rfl),ho,hx,hq1,hq2⟩

structure Spec (os:List AOper) (ts:List Tk):Prop where
 len:os.length=ts.length
 edge:∀ (i:Nat) (o:AOper),os[i]?=some o→∀ e∈o.after,e < i
 sub:∀ (i:Nat) (t:Tk),ts[i]?=some t→∀ x∈t.W,x∈t.R
 anc:∀ (i:Nat) (o:AOper) (t:Tk),os[i]?=some o→ts[i]?=some t→∀ x∈t.A,x∈o.after∨∃ j∈o.after,∃ t',ts[j]?=some t'∧x∈t'.A
 dst:∀ (i j:Nat) (o o':AOper),i ≠ j→os[i]?=some o→os[j]?=some o'→∀ d,o.dst=some d→o'.dst ≠ some d
 /-- i looks at what j zc6 -/
 ord:∀ (i j:Nat) (o o':AOper) (t t':Tk),i ≠ j→os[i]?=some o→ts[i]?=some t→os[j]?=some o'→ts[j]?=some t'→(j < i∧j∈t.A)∨(i < j∧i∈t'.A)∨((∀ d,o'.dst=some d→d ∉ o.reads)∧∀ x∈t'.W,x ∉ t.R)
 nam:∀ (i j:Nat) (o o':AOper) (t t':Tk),i < j→os[i]?=some o→ts[i]?=some t→os[j]?=some o'→ts[j]?=some t'→i∈t'.A∨∀ x∈t.W,1000≤x→x ∉ t'.N

theorem zu1 {os:List AOper} {ts:List Tk} (h:zpy os ts=true):Spec os ts:=by
 simp only [zpy,Bool.and_eq_true] at h
 have hlen:os.length=ts.length:=Nat.eq_of_beq_eq_true h.1
 have one:∀ (i:Nat) (o:AOper) (t:Tk),os[i]?=some o→ts[i]?=some t→(∀ e∈o.after,e < i)∧(∀ x∈t.W,x∈t.R)∧(∀ x∈t.A,x∈o.after∨∃ j∈o.after,x∈(ts.getD j default).A)∧∀ (j:Nat) (o':AOper) (t':Tk),os[j]?=some o'→ts[j]?=some t'→zwq i o t j o' t'=true:=by
  intro i o t ho ht
  have h1:=List.all_eq_true.1 h.2 i (List.mem_range.2 (List.getElem?_eq_some_iff.1 ho).1)
  rw [ho,ht] at h1
  simp only [Bool.and_eq_true,List.all_eq_true] at h1
  obtain ⟨⟨⟨h2,h3⟩,h4⟩,h5⟩:=h1
  refine ⟨fun e he=>Nat.le_of_ble_eq_true (h2 e he),fun x hx=>zbj.1 (h3 x hx),fun x hx=>?_,fun j o' t' ho' ht'=>?_⟩
  ·have:=h4 x hx
   simp only [Bool.or_eq_true,List.any_eq_true] at this
   rcases this with h | ⟨j,hj,hm⟩
   ·exact .inl (zbj.1 h)
   ·exact .inr ⟨j,hj,zbj.1 hm⟩
  ·have:=h5 j (List.mem_range.2 (List.getElem?_eq_some_iff.1 ho').1)
   rw [ho',ht'] at this
   exact this
 have tk:∀ (i:Nat) (o:AOper),os[i]?=some o→∃ t,ts[i]?=some t:=fun i o ho =>
  ⟨_,List.getElem?_eq_getElem (by have:=(List.getElem?_eq_some_iff.1 ho).1; omega)⟩
 have op:∀ (i:Nat) (t:Tk),ts[i]?=some t→∃ o,os[i]?=some o:=fun i o ho =>
  ⟨_,List.getElem?_eq_getElem (by have:=(List.getElem?_eq_some_iff.1 ho).1; omega)⟩
 have pair:∀ (i j:Nat) (o o':AOper) (t t':Tk),i ≠ j→os[i]?=some o→ts[i]?=some t→os[j]?=some o'→ts[j]?=some t' →
   (∀ d,o.dst=some d→o'.dst ≠ some d)∧((j < i∧j∈t.A)∨(i < j∧i∈t'.A)∨((∀ d,o'.dst=some d→d ∉ o.reads)∧∀ x∈t'.W,x ∉ t.R))∧(i < j→i∈t'.A∨∀ x∈t.W,1000≤x→x ∉ t'.N):=by
  intro i j o o' t t' hne ho ht ho' ht'
  have h1:=(one i o t ho ht).2.2.2 j o' t' ho' ht'
  have hb:Nat.beq i j=false:=by rw [← Bool.not_eq_true,Nat.beq_eq]; exact hne
  simp only [zwq,hb,Bool.false_or,Bool.and_eq_true,Bool.or_eq_true] at h1
  obtain ⟨⟨h2,h3⟩,h4⟩:=h1
  refine ⟨fun d hd hd'=>?_,?_,fun hlt=>?_⟩
  ·rw [hd,hd'] at h2; simp [Nat.beq_refl] at h2
  ·rcases h3 with h3 | ⟨h5,h6⟩
   ·cases hb:Nat.blt j i with
    | true=>rw [hb] at h3; exact .inl ⟨Nat.le_of_ble_eq_true hb,zbj.1 h3⟩
    | false =>
     rw [hb] at h3
     refine .inr (.inl ⟨?_,zbj.1 h3⟩)
     rcases Nat.lt_trichotomy i j with h | h | h
     ·exact h
     ·exact absurd h hne
     ·have:Nat.blt j i=true:=Nat.ble_eq_true_of_le h
      rw [this] at hb; cases hb
   ·refine .inr (.inr ⟨fun d hd hm=>?_,zvm.1 h6⟩)
    rw [hd] at h5
    simp only [zbj.2 hm,Bool.not_true,Bool.false_eq_true] at h5
  ·rcases h4 with (h4 | h4) | h4
   ·have:Nat.blt i j=true:=Nat.ble_eq_true_of_le hlt
    rw [this] at h4; simp at h4
   ·exact .inl (zbj.1 h4)
   ·exact .inr fun x hx h1000=>zvm.1 h4 x (List.mem_filter.2 ⟨hx,Nat.ble_eq_true_of_le h1000⟩)
 refine ⟨hlen,fun i o ho=>?_,fun i t ht=>?_,fun i o t ho ht x hx=>?_,fun i j o o' hne ho ho'=>?_,fun i j o o' t t' hne ho ht ho' ht'=>(pair i j o o' t t' hne ho ht ho' ht').2.1,fun i j o o' t t' hlt ho ht ho' ht'=>(pair i j o o' t t' (Nat.ne_of_lt hlt) ho ht ho' ht').2.2 hlt⟩
 ·obtain ⟨t,ht⟩:=tk i o ho
  exact (one i o t ho ht).1
 ·obtain ⟨o,ho⟩:=op i t ht
  exact (one i o t ho ht).2.1
 ·rcases (one i o t ho ht).2.2.1 x hx with h | ⟨j,hj,hm⟩
  ·exact .inl h
  ·refine .inr ⟨j,hj,?_⟩
   have hjlt:=(one i o t ho ht).1 j hj
   have hjl:j < ts.length:=by have:=(List.getElem?_eq_some_iff.1 ht).1; omega
   refine ⟨_,List.getElem?_eq_getElem hjl,?_⟩
   rw [List.getD_eq_getElem?_getD,List.getElem?_eq_getElem hjl] at hm
   exact hm
 ·obtain ⟨t,ht⟩:=tk i o ho
  obtain ⟨t',ht'⟩:=tk j o' ho'
  exact (pair i j o o' t t' hne ho ht ho' ht').1

/-- What stands behind has run. -/
theorem Spec.anc_mem {os:List AOper} {ts:List Tk} (sp:Spec os ts) {S:Nat→Prop} (hcl:∀ (i:Nat) (o:AOper),os[i]?=some o→S i→∀ e∈o.after,S e):∀ (i:Nat) (t:Tk),ts[i]?=some t→(∀ (e:Nat) (o:AOper),os[i]?=some o→e∈o.after→S e)→∀ x∈t.A,S x:=by
 intro i
 induction i using Nat.strongRecOn with
 | ind i ih =>
  intro t ht hS x hx
  have hil:i < os.length:=by rw [sp.len]; exact (List.getElem?_eq_some_iff.1 ht).1
  have ho:=List.getElem?_eq_getElem hil
  rcases sp.anc i _ t ho ht x hx with h | ⟨j,hj,t',ht',hm⟩
  ·exact hS x _ ho h
  ·have hjS:=hS j _ ho hj
   exact ih j (sp.edge i _ ho j hj) t' ht' (fun e o hoj he=>hcl j o hoj hjS e he) x hm

theorem zjs {os:List AOper} {ts:List Tk} {xs:List VU} {σ σF:St} (sp:Spec os ts) (hl:xs.length=os.length) (h:OChain P T os ts xs σ σF):∀ i,i≤os.length→∃ σi,OChain P T (os.drop i) (ts.drop i) (xs.drop i) σi σF∧Agrees os xs (· < i) σ σi∧(∀ q∈σ.env,q∈σi.env)∧(∀ (j:Nat) (o:AOper) (x:VU) (d:Nat),j < i→os[j]?=some o→xs[j]?=some x→o.dst=some d→(d,x.1)∈σi.env)
 | 0,_=>⟨σ,by simpa using h,⟨fun _ _=>rfl,fun _ _ _ _ h=>absurd h (Nat.not_lt_zero _),fun _ _=>rfl,fun _ _ _ _ h=>absurd h (Nat.not_lt_zero _),fun _ h=>.inl h⟩,fun _ h=>h,fun _ _ _ _ h=>absurd h (Nat.not_lt_zero _)⟩
 | i + 1,hi=>by
  obtain ⟨σi,h1,h2,h3,h4⟩:=zjs sp hl h i (by omega)
  have e1:os.drop i=os[i] :: os.drop (i + 1):=List.drop_eq_getElem_cons (by omega)
  have e2:xs.drop i=xs[i] :: xs.drop (i + 1):=List.drop_eq_getElem_cons (by omega)
  have e3:ts.drop i=ts[i]'(by rw [← sp.len]; omega) :: ts.drop (i + 1):=List.drop_eq_getElem_cons (by rw [← sp.len]; omega)
  rw [e1,e2,e3] at h1
  have hx:xs[i]?=some xs[i]:=List.getElem?_eq_getElem _
  refine ⟨_,h1.2.2.2.2,h2.put (i:=i) (o:=os[i]) (x:=xs[i]) (by simp) hx (fun j=>by omega) (fun j o' hj hne ho' t ht=>sp.dst i j _ o' (Ne.symm hne) (by simp) ho' t ht) (fun j id hj hij=>by omega),fun q hq=>(zth _ _ _ _).2 (.inl (h3 q hq)),fun j o x d hj ho hxj hd=>?_⟩
  refine (zth _ _ _ _).2 ?_
  by_cases hji:j=i
  ·subst hji
   rw [hx] at hxj; cases hxj
   have:os[j]?=some os[j]:=by simp
   rw [this] at ho; cases ho
   exact .inr ⟨hd,rfl⟩
  ·exact .inl (h4 j o x d (by omega) ho hxj hd)

theorem zps {p:Nat→Prop}:∀ (n:Nat),(∃ j,j < n∧p j)→∃ m,m < n∧p m∧∀ k,m < k→k < n→¬ p k
 | 0,⟨j,h,_⟩=>absurd h (Nat.not_lt_zero _)
 | n + 1,⟨j,h,hp⟩=>by
  by_cases hn:p n
  ·exact ⟨n,by omega,hn,fun k h1 h2=>by omega⟩
  ·have hjn:j ≠ n:=fun e=>hn (e ▸ hp)
   obtain ⟨m,h1,h2,h3⟩:=zps n ⟨j,by omega,hp⟩
   refine ⟨m,by omega,h2,fun k h4 h5=>?_⟩
   by_cases hk:k=n
   ·subst hk; exact hn
   ·exact h3 k h4 (by omega)

/-- Two states that agree on who has written a block hold the same in it. -/
theorem Agrees.heap_eq {os:List AOper} {xs:List VU} {S S':Nat→Prop} {σ σ1 σ2:St} (h1:Agrees os xs S σ σ1) (h2:Agrees os xs S' σ σ2) {id n:Nat} (hn:∀ j,zc6 xs j id→j < n) (h:∀ j,zc6 xs j id→(S j ↔ S' j)):σ1.h id=σ2.h id:=by
 by_cases hx:∃ j,S j∧zc6 xs j id
 ·obtain ⟨j,hj,hw⟩:=hx
  obtain ⟨m,_,⟨hm1,hm2⟩,hm3⟩:=zps (p:=fun j=>S j∧zc6 xs j id) n ⟨j,hn j hw,hj,hw⟩
  obtain ⟨x,hxm,b,hb⟩:=hm2
  rw [h1.hins m x id b hm1 hxm hb fun k hk hlt hwk=>hm3 k hlt (hn k hwk) ⟨hk,hwk⟩,
   h2.hins m x id b ((h m ⟨x,hxm,b,hb⟩).1 hm1) hxm hb fun k hk hlt hwk=>hm3 k hlt (hn k hwk) ⟨(h k hwk).2 hk,hwk⟩]
 ·rw [h1.hout id fun j hj hw=>hx ⟨j,hj,hw⟩,h2.hout id fun j hj hw=>hx ⟨j,(h j hw).2 hj,hw⟩]

theorem RelF.congr (h1:∀ t,σ.e t=σ'.e t) (h2:σ.h=σ'.h) (hr:RelF fr σ a w):RelF fr σ' a w:=by
 obtain ⟨⟨ρ,r1,r2,r3⟩,d,s,o⟩:=hr
 refine ⟨⟨ρ,?_,fun t=>?_,?_⟩,d,s,o⟩
 ·rw [← h2]; exact r1
 ·rw [← h2,← h1 t]; exact r2 t
 ·rw [← h2]; exact r3

/-- How many are not yet listed. -/
def unl (listed:Array Bool):Nat:=listed.toList.count false
theorem zx4 {listed:Array Bool} {i:Nat} (h:listed.getD i true=false):unl (listed.setIfInBounds i true) + 1=unl listed:=by
 have hi:i < listed.size:=by
  rcases Nat.lt_or_ge i listed.size with h' | h'
  ·exact h'
  ·simp [Array.getElem?_eq_none h'] at h
 have hv:listed.toList[i]'(by simpa using hi)=false:=by
  simpa [Array.getD_eq_getD_getElem?,hi] using h
 unfold unl
 rw [Array.toList_setIfInBounds,List.count_set (by simpa using hi),hv]
 have:0 < listed.toList.count false:=List.count_pos_iff.2 (by rw [← hv]; exact List.getElem_mem _)
 have e1:(false == false)=true:=rfl
 have e2:¬ (true == false)=true:=by decide
 rw [if_pos e1,if_neg e2]
 omega

theorem zoq {m:List (Nat×Nat)} {ops:Array Oper} {o:Oper} {x:Nat} (h:x∈(wW m true ops o).after):∃ e∈o.after,Region.binds .any e=true∧e.on=x:=by
 simp only [wW,if_true,List.mem_map,List.mem_filter] at h
 obtain ⟨e,⟨h1,h2⟩,h3⟩:=h
 exact ⟨e,by simpa using h1,h2,h3⟩
theorem zvf {m:List (Nat×Nat)} {ops:Array Oper} {o:Oper} {e:Edge} (h:e∈o.after) (hb:Region.binds .any e=true):e.on∈(wW m true ops o).after:=by
 simp only [wW,if_true,List.mem_map,List.mem_filter]
 exact ⟨e,⟨by simpa using h,hb⟩,rfl⟩


theorem zzr (g:Good P T) (hn:fr.n≤999999) (hN:∀ k,fr.w0.heap.size≤k→fr.N k) {m:List (Nat×Nat)} {ops:Array Oper} {Q:Exit→Act→World→Prop} {os:List AOper} {ts:List Tk} (hos:os=ops.toList.map (wW m true ops)) {xs:List VU} {σF:St} (hl:xs.length=os.length) (hok:zpy os ts=true)
  (hch:OChain P T os ts xs σ σF) (hd:os.all (zuv fr.n)=true) (hQ:∀ a w,RelF fr σF a w→Q .normal a w) :
  ∀ (fuel:Nat) (listed:Array Bool) (σ':St) (a:Act) (w:World),listed.size=ops.size→unl listed≤fuel→(∀ (i:Nat) (o:AOper),os[i]?=some o→listed.getD i false=true→∀ e∈o.after,listed.getD e false=true) →
   Agrees os xs (fun i=>listed.getD i false=true) σ σ'→RelF fr σ' a w→wpAny P .any ops Q fuel listed a w:=by
 have sp:=zu1 hok
 have hsz:os.length=ops.size:=by rw [hos]; simp
 have hget:∀ (i:Nat) (o:Oper),ops[i]?=some o→os[i]?=some (wW m true ops o):=by
  intro i o ho
  rw [hos,List.getElem?_map,Array.getElem?_toList,ho]; rfl
 have hwlt:∀ j id,zc6 xs j id→j < os.length:=by
  rintro j id ⟨x,hx,_⟩
  have:=(List.getElem?_eq_some_iff.1 hx).1
  omega
 -- what an operation zc6,it is told to write
 have hwW:∀ (j:Nat) (id:Nat) (t:Tk),zc6 xs j id→ts[j]?=some t→id∈t.W:=by
  rintro j id t ⟨x,hx,b,hb⟩ ht
  have hj:=(List.getElem?_eq_some_iff.1 hx).1
  obtain ⟨σj,h1,_⟩:=zjs sp hl hch j (by omega)
  have e1:os.drop j=os[j]'(by omega) :: os.drop (j + 1):=List.drop_eq_getElem_cons (by omega)
  have e2:xs.drop j=xs[j] :: xs.drop (j + 1):=List.drop_eq_getElem_cons (by omega)
  have e3:ts.drop j=ts[j]'(by rw [← sp.len]; omega) :: ts.drop (j + 1):=List.drop_eq_getElem_cons (by rw [← sp.len]; omega)
  rw [e1,e2,e3] at h1
  have ex:xs[j]=x:=by rw [List.getElem?_eq_getElem hj] at hx; exact Option.some.inj hx
  have et:ts[j]'(by rw [← sp.len]; omega)=t:=by rw [List.getElem?_eq_getElem (by rw [← sp.len]; omega)] at ht; exact Option.some.inj ht
  have h2:=(h1.2.2.1 (id,b) (by rw [ex]; exact zce _ _ _ hb)).1
  rw [et] at h2; exact h2
 -- all is listed,so this is the end
 have fin:∀ (listed:Array Bool) (σ':St) (a:Act) (w:World),listed.size=ops.size→(∀ i,i < ops.size→listed.getD i false=true)→Agrees os xs (fun i=>listed.getD i false=true) σ σ'→RelF fr σ' a w→Q .normal a w:=by
  intro listed σ' a w hs hall hag hr
  obtain ⟨σe,h1,h2,_⟩:=zjs sp hl hch os.length (Nat.le_refl _)
  have h3:OChain P T [] [] [] σe σF:=by
   rw [List.drop_of_length_le (Nat.le_of_eq hl),List.drop_of_length_le (Nat.le_refl _),List.drop_of_length_le (Nat.le_of_eq sp.len.symm)] at h1
   exact h1
  have h4:σF=σe:=h3
  subst h4
  refine hQ a w (hr.congr (fun t=>?_) ?_)
  ·by_cases hx:∃ (j:Nat) (o:AOper),os[j]?=some o∧o.dst=some t
   ·obtain ⟨j,o,ho,hdst⟩:=hx
    have hj:j < os.length:=(List.getElem?_eq_some_iff.1 ho).1
    have hv:xs[j]?=some (xs[j]'(by omega)):=List.getElem?_eq_getElem (by omega)
    rw [hag.ins j o _ t (hall j (by omega)) ho hv hdst,h2.ins j o _ t hj ho hv hdst]
   ·have hno:∀ (j:Nat) (o:AOper),os[j]?=some o→o.dst ≠ some t:=fun j o ho hdst=>hx ⟨j,o,ho,hdst⟩
    rw [hag.out t fun j o _ ho=>hno j o ho,h2.out t fun j o _ ho=>hno j o ho]
  ·funext id
   refine hag.heap_eq h2 (n:=os.length) (fun j hw=>hwlt j id hw) fun j hw=>?_
   have:=hwlt j id hw
   exact ⟨fun _=>this,fun _=>hall j (by omega)⟩
 -- if none is ready,all is listed
 have prog:∀ (listed:Array Bool),listed.size=ops.size→Region.ready .any ops listed=[]→∀ i,i < ops.size→listed.getD i false=true:=by
  intro listed hs hr i
  induction i using Nat.strongRecOn with
  | ind i ih =>
   intro hi
   cases hb:listed.getD i false with
   | true=>rfl
   | false =>
    exfalso
    have:i∈Region.ready .any ops listed:=by
     rw [mem_ready]
     refine ⟨?_,ops[i],by simp,fun e he hbd=>?_⟩
     ·have hil:i < listed.size:=by omega
      simpa [Array.getD_eq_getD_getElem?,hil] using hb
     ·have h1:=sp.edge i _ (hget i ops[i] (by simp)) _ (zvf he hbd)
      exact ih _ h1 (by omega)
    rw [hr] at this; cases this
 intro fuel
 induction fuel with
 | zero =>
  intro listed σ' a w hs hu hcl hag hr
  have hall:∀ i,i < ops.size→listed.getD i false=true:=by
   intro i hi
   cases hb:listed.getD i false with
   | true=>rfl
   | false =>
    exfalso
    have hil:i < listed.size:=by omega
    have:listed.getD i true=false:=by
     simpa [Array.getD_eq_getD_getElem?,hil] using hb
    have:=zx4 this
    omega
  refine ⟨?_,fin listed σ' a w hs hall hag hr⟩
  cases hrd:Region.ready .any ops listed with
  | nil=>rfl
  | cons x xs =>
   exfalso
   have hx:x∈Region.ready .any ops listed:=by rw [hrd]; simp
   obtain ⟨h0,o,ho,_⟩:=mem_ready.1 hx
   have hxl:=(Array.getElem?_eq_some_iff.1 ho).1
   have:=hall x hxl
   simp [Array.getD_eq_getD_getElem?,show x < listed.size by omega] at this h0
   rw [this] at h0; cases h0
 | succ fuel ih =>
  intro listed σ' a w hs hu hcl hag hr
  refine ⟨fun hrd=>fin listed σ' a w hs (prog listed hs hrd) hag hr,fun i hi=>?_⟩
  obtain ⟨h0,o,ho,hall⟩:=mem_ready.1 hi
  have hio:=hget i o ho
  have hil:i < os.length:=(List.getElem?_eq_some_iff.1 hio).1
  have hit:i < ts.length:=by rw [← sp.len]; exact hil
  have hti:ts[i]?=some (ts[i]'hit):=List.getElem?_eq_getElem hit
  have hvi:xs[i]?=some (xs[i]'(by omega)):=List.getElem?_eq_getElem (by omega)
  obtain ⟨σi,h1,h2,hsub,hold⟩:=zjs sp hl hch i (by omega)
  have e1:os.drop i=os[i] :: os.drop (i + 1):=List.drop_eq_getElem_cons (by omega)
  have e2:xs.drop i=xs[i] :: xs.drop (i + 1):=List.drop_eq_getElem_cons (by omega)
  have e3:ts.drop i=ts[i]'hit :: ts.drop (i + 1):=List.drop_eq_getElem_cons hit
  rw [e1,e2,e3] at h1
  have eo:os[i]=wW m true ops o:=by
   have:=List.getElem?_eq_getElem hil
   rw [hio] at this; exact (Option.some.inj this).symm
  have hnl:¬ listed.getD i false=true:=by
   have hb:i < listed.size:=by omega
   simp [Array.getD_eq_getD_getElem?,hb] at h0 ⊢
   exact h0
  -- what stands behind i has run; and i has not run,so nothing that stands before has
  have hanc:∀ x∈(ts[i]'hit).A,listed.getD x false=true :=
   sp.anc_mem (S:=fun i=>listed.getD i false=true) hcl i _ hti fun e oe hoe he=>by
    rw [hio] at hoe; cases hoe
    obtain ⟨e',he',hb,rfl⟩:=zoq he
    exact hall e' he' hb
  have hnanc:∀ (j:Nat) (t:Tk),ts[j]?=some t→i∈t.A→¬ listed.getD j false=true:=by
   intro j t ht hm hlj
   have hj:j < os.length:=by rw [sp.len]; exact (List.getElem?_eq_some_iff.1 ht).1
   exact hnl (sp.anc_mem (S:=fun i=>listed.getD i false=true) hcl j t ht (fun e oe hoe he=>hcl j oe hoe hlj e he) i hm)
  -- who has written a block that i looks at
  have heap:∀ id∈(ts[i]'hit).R,σi.h id=σ'.h id:=by
   intro id hid
   refine h2.heap_eq hag (n:=os.length) (fun j hw=>hwlt j id hw) fun j hw=>?_
   have hj:=hwlt j id hw
   by_cases hji:j=i
   ·subst hji; exact ⟨fun h=>absurd h (Nat.lt_irrefl _),fun h=>absurd h hnl⟩
   ·have htj:ts[j]?=some (ts[j]'(by rw [← sp.len]; exact hj)):=List.getElem?_eq_getElem _
    rcases sp.ord i j _ _ _ _ (Ne.symm hji) hio hti (List.getElem?_eq_getElem hj) htj with ⟨hlt,hm⟩ | ⟨hlt,hm⟩ | ⟨_,hm⟩
    ·exact ⟨fun _=>hanc j hm,fun _=>hlt⟩
    ·exact ⟨fun h=>absurd h (by omega),fun h=>absurd h (hnanc j _ htj hm)⟩
    ·exact absurd hid (hm id (hwW j id _ hw htj))
  have hrun:RunU P T (fun u=>zg9 σ' u=true) σ'.e σ'.h (wW m true ops o) (xs[i]'(by omega)).1 (xs[i]'(by omega)).2:=by
   rw [← eo]
   refine h1.1.congr (fun t ht=>?_) (fun id hid=>heap id (h1.2.1 id hid)) (fun q hq=>heap q.1 (sp.sub i _ hti _ (h1.2.2.1 q hq).1)) fun u0 hsub0 hnew=>?_
   ·rw [eo] at ht
    by_cases hx:∃ (j:Nat) (o':AOper),j ≠ i∧os[j]?=some o'∧o'.dst=some t
    ·obtain ⟨j,o',hji,ho',hdst⟩:=hx
     have hjl:j < os.length:=(List.getElem?_eq_some_iff.1 ho').1
     have htj:ts[j]?=some (ts[j]'(by rw [← sp.len]; exact hjl)):=List.getElem?_eq_getElem _
     have hvj:xs[j]?=some (xs[j]'(by omega)):=List.getElem?_eq_getElem (by omega)
     rcases sp.ord i j _ _ _ _ (Ne.symm hji) hio hti ho' htj with ⟨hlt,hm⟩ | ⟨hlt,hm⟩ | ⟨hm,_⟩
     ·rw [h2.ins j o' _ t hlt ho' hvj hdst,hag.ins j o' _ t (hanc j hm) ho' hvj hdst]
     ·have hlj:¬ listed.getD j false=true:=hnanc j _ htj hm
      have huniq:∀ (k:Nat) (ok:AOper),k ≠ j→os[k]?=some ok→ok.dst ≠ some t:=fun k ok hkj hok' hdk =>
       sp.dst k j _ _ hkj hok' ho' t hdk hdst
      rw [h2.out t fun k ok hk hok' hdk=>?_,hag.out t fun k ok hk hok' hdk=>?_]
      ·by_cases hkj:k=j
       ·subst hkj; exact hlj hk
       ·exact huniq k ok hkj hok' hdk
      ·by_cases hkj:k=j
       ·omega
       ·exact huniq k ok hkj hok' hdk
     ·exact absurd ht (hm t hdst)
    ·have hno:∀ (k:Nat) (ok:AOper),k ≠ i→os[k]?=some ok→ok.dst ≠ some t:=fun k ok hk hok' hdk=>hx ⟨k,ok,hk,hok',hdk⟩
     rw [h2.out t fun k ok hk hok'=>hno k ok (by omega) hok',hag.out t fun k ok hk hok'=>hno k ok (fun e=>hnl (e ▸ hk)) hok']
   ·refine List.all_eq_true.2 fun q hq=>?_
    have hq1:=List.all_eq_true.1 hnew q hq
    have hqR:q.1∈(ts[i]'hit).R:=sp.sub i _ hti _ (h1.2.2.1 q (hsub0 q hq)).1
    simp only [Bool.or_eq_true,Bool.and_eq_true] at hq1 ⊢
    rcases hq1 with (h | h) | ⟨h3,h4⟩
    ·exact .inl (.inl h)
    ·rw [heap q.1 hqR] at h; exact .inl (.inr h)
    ·rcases (h1.2.2.1 q (hsub0 q hq)).2 with h | h | h1000
     ·exact .inl (.inl h)
     ·rw [heap q.1 hqR] at h; exact .inl (.inr h)
     refine .inr ⟨h3,List.all_eq_true.2 fun y hy=>?_⟩
     rw [List.all_eq_true] at h4
     rcases hag.env y hy with h | ⟨j,o',x',hlj,ho',hx',hd',hy'⟩
     ·exact h4 y (hsub y h)
     ·have hjl:j < os.length:=(List.getElem?_eq_some_iff.1 ho').1
      have htj:ts[j]?=some (ts[j]'(by rw [← sp.len]; exact hjl)):=List.getElem?_eq_getElem _
      rcases Nat.lt_trichotomy j i with hlt | he | hlt
      ·have:=h4 _ (hold j o' x' _ hlt ho' hx' hd')
       rw [hy']; exact this
      ·exact absurd (he ▸ hlj) hnl
      ·rcases sp.nam i j _ _ _ _ hlt hio hti ho' htj with hm | hm
       ·exact absurd hlj (hnanc j _ htj hm)
       ·rw [hy']
        cases hnm:x'.1.names q.1 with
        | false=>rfl
        | true =>
         exfalso
         obtain ⟨σj,k1,_⟩:=zjs sp hl hch j (by omega)
         have hjx:j < xs.length:=by omega
         have f1:os.drop j=os[j] :: os.drop (j + 1):=List.drop_eq_getElem_cons (by omega)
         have f2:xs.drop j=xs[j] :: xs.drop (j + 1):=List.drop_eq_getElem_cons (by omega)
         have f3:ts.drop j=ts[j]'(by rw [← sp.len]; exact hjl) :: ts.drop (j + 1):=List.drop_eq_getElem_cons (by rw [← sp.len]; exact hjl)
         rw [f1,f2,f3] at k1
         have ex:xs[j]=x':=by rw [List.getElem?_eq_getElem hjx] at hx'; exact Option.some.inj hx'
         have eoj:os[j]=o':=by rw [List.getElem?_eq_getElem hjl] at ho'; exact Option.some.inj ho'
         exact hm q.1 (h1.2.2.1 q (hsub0 q hq)).1 h1000 (k1.2.2.2.1 y.1 (by rw [eoj]; exact hd') q.1 (by rw [ex]; exact hnm))
  unfold wpOp
  rw [ho]
  simp only
  refine zqd (K:=fun σ''=>σ''=(σ'.upd (xs[i]'(by omega)).2).put o.dst (xs[i]'(by omega)).1) g hn hN hr (RunU.astep hrun rfl) (fun d hdd=>?_) fun σ'' a' w' hσ hr'=>?_
  ·have:=List.all_eq_true.1 hd _ (List.mem_of_getElem? hio)
   simp only [zuv,wW,hdd] at this
   exact Nat.le_of_ble_eq_true this
  ·subst hσ
   have hset:∀ j,(listed.setIfInBounds i true).getD j false=true ↔ listed.getD j false=true∨j=i:=by
    intro j
    by_cases hji:j=i
    ·subst hji
     have hb:j < listed.size:=by omega
     simp [hb]
    ·rw [getD_set_ne false (Ne.symm hji)]; simp [hji]
   refine ih _ _ a' w' (by simpa using hs) ?_ ?_ (hag.put (i:=i) (o:=wW m true ops o) hio hvi hset ?_ ?_) hr'
   ·have:=zx4 h0
    omega
   ·intro j oj hoj hlj e he
    rw [hset]
    rcases (hset j).1 hlj with h | h
    ·exact .inl (hcl j oj hoj h e he)
    ·subst h
     rw [hio] at hoj; cases hoj
     obtain ⟨e',he',hb,rfl⟩:=zoq he
     exact .inl (hall e' he' hb)
   ·intro j o' hj hne ho' t ht
    exact sp.dst i j _ o' (Ne.symm hne) hio ho' t ht
   ·intro j id hlj hlt hwj hwi
    have hj:=hwlt j id hwj
    have htj:ts[j]?=some (ts[j]'(by rw [← sp.len]; exact hj)):=List.getElem?_eq_getElem _
    rcases sp.ord i j _ _ _ _ (Nat.ne_of_lt hlt) hio hti (List.getElem?_eq_getElem hj) htj with ⟨h,_⟩ | ⟨_,hm⟩ | ⟨_,hm⟩
    ·omega
    ·exact hnanc j _ htj hm hlj
    ·exact hm id (hwW j id _ hwj htj) (sp.sub i _ hti _ (hwW i id _ hwi hti))

theorem RelF.drawn (g:Good P T) (hN:∀ k,fr.w0.heap.size≤k→fr.N k) (hr:RelF fr σ a w):RelF fr σ a { w with drawn:=w.drawn + 1 }:=by
 obtain ⟨ρ,cx,hslots,hpid⟩:=hr.cx g hN
 have ho:Only No w { w with drawn:=w.drawn + 1 }:=⟨rfl,rfl,rfl,Nat.le_refl _,fun _ _ _=>rfl,fun _=>rfl,fun _ arr _ _ h=>⟨arr,h,rfl⟩⟩
 have:=hr.step hpid hslots (u:=[]) (v:=.top) (c:=undef) (dst:=none) (F:=No) (by rw [show xZ σ.h []=σ.h from (zry σ []).symm]; exact Step.grown cx.hr ho) (fun id hid=>hid.elim) (fun _ h=>h) trivial (fun _ h=>nomatch h)
 exact this

theorem ze5 {K K':St→Prop} (h:∀ σ,K σ→K' σ):∀ (os:List AOper) (σ:St),aops P T os σ K→aops P T os σ K'
 | [],σ,x=>h σ x
 | o :: os,σ,x=>by
  have hev:∀ E,ev P σ o (fun σ'=>aops P T os σ' K) E→ev P σ o (fun σ'=>aops P T os σ' K') E:=by
   intro E hE
   cases E with
   | bad=>exact hE
   | split c v v'=>exact ⟨hE.1,fun hc=>ze5 h os _ (hE.2.1 hc),ze5 h os _ hE.2.2⟩
   | val v u C=>exact ⟨hE.1,hE.2.1,ze5 h os _ hE.2.2⟩
   | call f args u ms C =>
    obtain ⟨h1,h2,r,u2,h5,h6,h9⟩:=hE
    exact ⟨h1,h2,r,u2,h5,h6,ze5 h os _ h9⟩
  simp only [aops,astep] at x ⊢
  split at x
  ·exact hev _ x
  ·split at x
   ·split at x
    ·rename_i hb; rw [if_pos hb]; exact hev _ x
    ·rename_i hb; rw [if_neg hb]; exact ze5 h os _ x
   ·exact ze5 h os _ x
   ·exact x
end
end Go.Abs
/- Forgetting dead slots, renaming blocks, and runs of code: sound for every program and world. -/
namespace Go.Abs
section
variable {P:Program} {T:Tys} {fr:Fr} {σ:St} {a:Act} {w:World}

theorem zp6 {α β:Type} (f:α→β):∀ (l:List (Nat×α)) (k:Nat),look (l.map fun q=>(q.1,f q.2)) k=(look l k).map f
 | [],_=>rfl
 | (j,a) :: l,k=>by
  simp only [List.map_cons,look]
  cases Nat.beq j k
  ·exact zp6 f l k
  ·rfl

theorem zs6 (L:List Nat) (t:Nat) (v:AV) (h:look (zb0 σ L) t=some v):look σ.env t=some v:=by
 induction L with
 | nil=>simp [zb0,look] at h
 | cons t0 L ih =>
  simp only [zb0] at h
  split at h
  ·rename_i v0 e0
   split at h
   ·simp only [look] at h
    split at h
    ·rename_i e; have:=Nat.eq_of_beq_eq_true e; subst this; rw [e0]; exact h
    ·exact ih h
   ·exact ih h
  ·exact ih h
theorem zvg (L:List Nat):∀ q∈zb0 σ L,look σ.env q.1=some q.2:=by
 induction L with
 | nil=>simp [zb0]
 | cons t0 L ih =>
  simp only [zb0]
  split
  ·rename_i v0 e0
   split
   ·intro q hq
    rcases List.mem_cons.1 hq with rfl | hq
    ·exact e0
    ·exact ih q hq
   ·exact ih
  ·exact ih

structure Names (σ:St) (m:List (Nat×Nat)):Prop where
 lt:∀ q∈m,q.1 < 1000000∧q.2 < 1000000
 env:∀ q∈m,∃ v,look σ.env q.1=some v∧z0q v=some q.2
 inj:∀ p∈m,∀ q∈m,p.2=q.2→p.1=q.1

theorem Names.first {m:List (Nat×Nat)} (h:Names σ m) {t:Nat} {v:AV} (ht:look σ.env t=some v):Names σ (zn0 t m v):=by
 unfold zn0
 split
 ·rename_i id hid
  split
  ·exact h
  ·rename_i hc
   simp only [Bool.or_eq_true,not_or,Bool.not_eq_true] at hc
   obtain ⟨⟨h1,h2⟩,h3⟩:=hc
   have g1:id < 1000000:=by
    have:¬ Nat.ble 1000000 id=true:=by rw [h1]; simp
    rw [Nat.ble_eq] at this; omega
   have g2:t < 1000000:=by
    have:¬ Nat.ble 1000000 t=true:=by rw [h2]; simp
    rw [Nat.ble_eq] at this; omega
   have g3:∀ q∈m,q.2 ≠ id:=by
    intro q hq e
    have:=List.any_eq_false.1 h3 q hq
    rw [e] at this; simp at this
   refine ⟨fun q hq=>?_,fun q hq=>?_,fun p hp q hq e=>?_⟩
   ·rcases List.mem_append.1 hq with hq | hq
    ·exact h.lt q hq
    ·simp at hq; subst hq; exact ⟨g2,g1⟩
   ·rcases List.mem_append.1 hq with hq | hq
    ·exact h.env q hq
    ·simp at hq; subst hq; exact ⟨v,ht,hid⟩
   ·rcases List.mem_append.1 hp with hp | hp <;> rcases List.mem_append.1 hq with hq | hq
    ·exact h.inj p hp q hq e
    ·simp at hq; subst hq; exact (g3 p hp e).elim
    ·simp at hp; subst hp; exact (g3 q hq e.symm).elim
    ·simp at hp hq; rw [hp,hq]
 ·exact h

theorem Names.all:∀ (env:List (Nat×AV)) (m:List (Nat×Nat)),Names σ m→(∀ q∈env,look σ.env q.1=some q.2)→Names σ (zid m env)
 | [],m,h,_=>h
 | (t,v) :: env,m,h,he=>Names.all env _ (h.first (he (t,v) (by simp))) fun q hq=>he q (by simp [hq])

theorem zs3 {m:List (Nat×Nat)}:∀ {id n:Nat},zi7 m id=some n→(n,id)∈m∨(n=id∧1000000≤id):=by
 induction m with
 | nil =>
  intro id n h
  simp only [zi7] at h
  split at h
  ·rename_i hb; simp at h; exact .inr ⟨h.symm,Nat.le_of_ble_eq_true hb⟩
  ·cases h
 | cons q m ih =>
  obtain ⟨j,o⟩:=q
  intro id n h
  simp only [zi7] at h
  split at h
  ·rename_i e
   have:=Nat.eq_of_beq_eq_true e
   simp at h; subst h; subst this; simp
  ·rcases ih h with h | h
   ·exact .inl (List.mem_cons_of_mem _ h)
   ·exact .inr h

theorem zhk:∀ (H:List (Nat×Option Blk)) (seen:List Nat) (id:Nat) (x:Option Blk),look (zf6 σ H seen) id=some x→x=σ.h id∧1000000≤id
 | [],_,_,_,h=>by simp [zf6,look] at h
 | (j,y) :: H,seen,id,x,h=>by
  simp only [zf6] at h
  split at h
  ·rename_i hc
   simp only [Bool.and_eq_true] at hc
   simp only [look] at h
   split at h
   ·rename_i e
    have:=Nat.eq_of_beq_eq_true e
    subst this
    simp at h; exact ⟨h.symm,Nat.le_of_ble_eq_true hc.1⟩
   ·exact zhk H _ id x h
  ·exact zhk H _ id x h

theorem znd {m:List (Nat×Nat)} (hn:Names σ m) {n o:Nat} (h:(n,o)∈m):look m n=some o:=by
 have key:∀ (l:List (Nat×Nat)),(∀ q∈l,q∈m)→(n,o)∈l→look l n=some o:=by
  intro l
  induction l with
  | nil=>intro _ h; simp at h
  | cons q l ih =>
   obtain ⟨j,y⟩:=q
   intro hl h
   simp only [look]
   split
   ·rename_i e
    have hj:=Nat.eq_of_beq_eq_true e
    subst hj
    obtain ⟨v,h1,h2⟩:=hn.env _ (hl (j,y) (by simp))
    have hno:(j,o)∈m:=hl _ h
    obtain ⟨v',h3,h4⟩:=hn.env _ hno
    simp only at h1 h3
    rw [h1] at h3; cases h3
    simp only at h2 h4
    rw [h2] at h4; simpa using h4
   ·rename_i e
    rcases List.mem_cons.1 h with h | h
    ·cases h
     have:Nat.beq n n=true:=Nat.beq_refl n
     rw [this] at e; cases e
    ·exact ih (fun q hq=>hl q (by simp [hq])) h
 exact key m (fun _ h=>h) h

theorem RelF.keep (L:List Nat) (hr:RelF fr σ a w):RelF fr (σ.keep L) a w:=by
 obtain ⟨⟨ρ,h1,h2,h3⟩,h4,h5,h6⟩:=hr
 have hN:Names σ (zid [] (zb0 σ L)):=Names.all _ _ ⟨by simp,by simp,by simp⟩ (zvg L)
 generalize hm:zid [] (zb0 σ L)=m at hN
 let ρ':Nat→Option Nat:=fun id=>match look m id with
  | some o=>ρ o
  | none=>ρ id
 have hH:∀ id b,(σ.keep L).h id=some b→(∃ o,(id,o)∈m∧look m id=some o∧σ.h o=some b)∨(look m id=none∧1000000≤id∧σ.h id=some b):=by
  intro id b hb
  simp only [St.keep,St.h,hm] at hb
  rw [zcl] at hb
  have e1:look (m.map fun q=>(q.1,σ.h q.2)) id=(look m id).map σ.h:=zp6 σ.h m id
  change ((look (m.map fun q=>(q.1,σ.h q.2)) id).or _).getD none=some b at hb
  rw [e1] at hb
  cases hl:look m id with
  | some o=>rw [hl] at hb; simp at hb; exact .inl ⟨o,zce _ _ _ hl,rfl,hb⟩
  | none =>
   rw [hl] at hb
   simp only [Option.map_none,Option.none_or] at hb
   cases hk:look (zf6 σ σ.H []) id with
   | none=>rw [hk] at hb; simp at hb
   | some x =>
    rw [hk] at hb; simp at hb
    obtain ⟨e2,e3⟩:=zhk _ _ _ _ hk
    exact .inr ⟨rfl,e3,by rw [← e2]; exact hb⟩
 have hold:∀ id b,(σ.keep L).h id=some b→∃ o,σ.h o=some b∧ρ' id=ρ o:=by
  intro id b hb
  rcases hH id b hb with ⟨o,_,hl,ho⟩ | ⟨hl,_,ho⟩
  ·exact ⟨o,ho,by simp only [ρ',hl]⟩
  ·exact ⟨id,ho,by simp only [ρ',hl]⟩
 have hS:∀ k,Sof ρ σ.h (fun k=>fr.B0 k∨(fr.w0.heap.size≤k∧k < w.heap.size)) k→Sof ρ' (σ.keep L).h (fun k=>fr.B0 k∨(fr.w0.heap.size≤k∧k < w.heap.size)) k:=by
  intro k hk
  refine ⟨hk.1,fun id b hb hf=>?_⟩
  obtain ⟨o,ho,e⟩:=hold id b hb
  rw [e]; exact hk.2 o b ho hf
 have hK:Keeps (Sof ρ σ.h (fun k=>fr.B0 k∨(fr.w0.heap.size≤k∧k < w.heap.size))) w w:=fun _ _ _=>rfl
 refine ⟨⟨ρ',⟨fun id b hb=>?_,fun i j bi bj k hi hj e1 e2=>?_,h1.bound⟩,fun t=>?_,fun i b hb=>?_⟩,h4,h5,h6⟩
 ·obtain ⟨o,ho,e⟩:=hold id b hb
  rcases h1.at_ o b ho with ⟨sz,g1,g2⟩ | ⟨k,arr,Ty,cs,ext,g1,g2,g3,g4,g5,g6⟩
  ·exact .inl ⟨sz,g1,by rw [e]; exact g2⟩
  ·exact .inr ⟨k,arr,Ty,cs,ext,by rw [e]; exact g1,g2,g3,g4,g5,VRel.keep hS hK _ _ g6⟩
 ·rcases hH i bi hi with ⟨o,hmo,hl,ho⟩ | ⟨hl,hp,ho⟩ <;> rcases hH j bj hj with ⟨o',hmo',hl',ho'⟩ | ⟨hl',hp',ho'⟩
  ·simp only [ρ',hl,hl'] at e1 e2
   have:=h1.inj o o' bi bj k ho ho' e1 e2
   exact hN.inj _ hmo _ hmo' this
  ·simp only [ρ',hl,hl'] at e1 e2
   have:=h1.inj o j bi bj k ho ho' e1 e2
   have:=(hN.lt _ hmo).2
   simp only at this; omega
  ·simp only [ρ',hl,hl'] at e1 e2
   have:=h1.inj i o' bi bj k ho ho' e1 e2
   have:=(hN.lt _ hmo').2
   simp only at this; omega
  ·simp only [ρ',hl,hl'] at e1 e2
   exact h1.inj i j bi bj k ho ho' e1 e2
 ·have he:(σ.keep L).e t=((look (zb0 σ L) t).map (zw2 m)).getD .top:=by
   simp only [St.keep,St.e,hm]
   rw [zp6]
  rw [he]
  cases hl:look (zb0 σ L) t with
  | none=>simp [SlotRel]
  | some v =>
   have hv:=zs6 L t v hl
   have hrel:=h2 t
   have:σ.e t=v:=by simp [St.e,hv]
   rw [this] at hrel
   simp only [Option.map_some,Option.getD_some]
   -- a name that is kept
   have hname:∀ id n,zi7 m id=some n→ρ' n=ρ id∧∀ b,(σ.keep L).h n=some b→σ.h id=some b:=by
    intro id n hn
    rcases zs3 hn with hmem | ⟨rfl,hge⟩
    ·have hln:=znd hN hmem
     refine ⟨by simp only [ρ',hln],fun b hb=>?_⟩
     rcases hH n b hb with ⟨o,_,hl,ho⟩ | ⟨hl,_,ho⟩
     ·rw [hln] at hl; cases hl; exact ho
     ·rw [hln] at hl; cases hl
    ·have hno:look m n=none:=by
      cases hl:look m n with
      | none=>rfl
      | some o =>
       have:=(hN.lt _ (zce _ _ _ hl)).1
       simp only at this; omega
     refine ⟨by simp only [ρ',hno],fun b hb=>?_⟩
     rcases hH n b hb with ⟨o,_,hl,ho⟩ | ⟨hl,_,ho⟩
     ·rw [hno] at hl; cases hl
     ·exact ho
   cases v <;> simp only [zw2] <;> try (first | exact ze3 hrel rfl hS | exact hrel.elim | trivial)
   case own id p o =>
    split
    ·rename_i n hn
     obtain ⟨e1,e2⟩:=hname id n hn
     intro b hb
     rw [e1]; exact hrel b (e2 b hb)
    ·simp only [SlotRel]
   case osl id =>
    split
    ·rename_i n hn
     obtain ⟨e1,e2⟩:=hname id n hn
     intro b hb
     rw [e1]; exact hrel b (e2 b hb)
    ·simp only [SlotRel]
 ·rcases hH _ b hb with ⟨o,hmo,hl,ho⟩ | ⟨hl,_,ho⟩
  ·have:=(hN.lt _ hmo).1
   simp only [pid] at this; omega
  ·simp only [ρ',hl]; exact h3 i b ho

theorem RelF.keepFor (L:Live) (c:ACode) (hr:RelF fr σ a w):RelF fr (keepFor L c σ) a w:=by
 unfold Abs.keepFor
 split
 ·split
  ·exact hr.keep _
  ·exact hr
 ·exact hr

def Xr:Exit→AEx→Prop
 | .normal,.normal=>True
 | .exit i,.exit j=>i=j
 | .ret,.ret=>True
 | _,_=>False

def Post (fr:Fr) (Q:AEx→St→Prop) (ex:Exit) (a:Act) (w:World):Prop:=∃ ex' σ',Xr ex ex'∧Q ex' σ'∧RelF fr σ' a w

theorem zoj (g:Good P T) (hn:fr.n≤999999) (hN:∀ k,fr.w0.heap.size≤k→fr.N k) (m:List (Nat×Nat)) (L:Live):∀ (c:Code) (σ:St) (Q:AEx→St→Prop) (a:Act) (w:World),
  acode P T L (mO m c) σ Q→(mO m c).dstOk fr.n=true→RelF fr σ a w→c.wp P (Post fr Q) a w:=by
 intro c
 induction c with
 | skip=>intro σ Q a w h _ hr; exact wp_skip ⟨.normal,σ,trivial,h,hr⟩
 | region id ops draw =>
  intro σ Q a w h hd hr
  cases draw with
  | true =>
   obtain ⟨ts,h1,h2⟩:=h
   obtain ⟨xs,σF,h3,hl,hch⟩:=zvl _ _ _ _ h2
   refine wp_region_any g.mixed (zzr g hn hN (m:=m) rfl hl h1 hch ?_ (fun a w hr=>⟨.normal,σF,trivial,h3,hr⟩) _ _ σ a _ (by simp) ?_ ?_ ?_ (hr.drawn g hN))
   ·simpa [mO,ACode.dstOk] using hd
   ·refine Nat.le_trans (List.count_le_length) ?_
    simp
   ·intro i o _ hli
    exfalso
    simp only [Array.getD_eq_getD_getElem?,Array.getElem?_replicate] at hli
    split at hli <;> simp at hli
   ·have:(fun i=>(Array.replicate ops.size false).getD i false=true)=fun _=>False:=by
     funext i
     apply propext
     simp only [Array.getD_eq_getD_getElem?,Array.getElem?_replicate]
     split <;> simp
    rw [this]; exact Agrees.none σ
  | false =>
   refine wp_region ?_
   rw [List.range_eq_range']
   have h2:aops P T (ops.toList.map (wW m false ops)) σ (Q .normal):=h
   refine zr5 g hn hN (K:=Q .normal) (m:=m) (draw:=false) (fun σ a w hq hr=>⟨.normal,σ,trivial,hq,hr⟩) ops.size 0 σ a w (by omega) (by simpa using h2) ?_ hr
   simpa [mO,ACode.dstOk] using hd
 | seq x y ihx ihy =>
  intro σ Q a w h hd hr
  simp only [mO,ACode.dstOk,Bool.and_eq_true] at hd
  refine wp_seq (wp_mono (ihx σ _ a w h hd.1 hr) ?_)
  rintro ex a' w' ⟨ex',σ',hx,hq,hr'⟩
  cases ex <;> cases ex' <;> simp only [Xr] at hx <;> try exact hx.elim
  ·exact ihy _ Q a' w' hq hd.2 (hr'.keepFor L _)
  ·exact ⟨.exit _,σ',hx,hq,hr'⟩
  ·exact ⟨.ret,σ',trivial,hq,hr'⟩
 | cond c x y ihx ihy =>
  intro σ Q a w h hd hr
  simp only [mO,ACode.dstOk,Bool.and_eq_true] at hd
  simp only [mO,acode] at h
  obtain ⟨ρ,cx,_,_⟩:=hr.cx g hN
  have hc:=cx.rel c
  split at h
  ·rename_i e; rw [e] at hc; exact wp_cond_true hc (ihx σ Q a w h hd.1 hr)
  ·rename_i e; rw [e] at hc; exact wp_cond_false hc (ihy σ Q a w h hd.2 hr)
  ·exact h.elim
 | block id x ih =>
  intro σ Q a w h hd hr
  refine wp_block (wp_mono (ih σ _ a w h hd hr) ?_)
  rintro ex a' w' ⟨ex',σ',hx,hq,hr'⟩
  cases ex <;> cases ex' <;> simp only [Xr] at hx <;> try exact hx.elim
  ·exact ⟨.normal,σ',trivial,hq,hr'⟩
  ·subst hx
   simp only [blockK] at hq
   simp only [Exit.inBlock]
   split at hq
   ·rename_i e; rw [if_pos e]; exact ⟨.normal,σ',trivial,hq,hr'⟩
   ·rename_i e; rw [if_neg e]; exact ⟨.exit _,σ',rfl,hq,hr'⟩
  ·exact ⟨.ret,σ',trivial,hq,hr'⟩
 | loop x ih =>
  intro σ Q a w h hd hr
  simp only [mO,acode] at h
  have key:=h (fun σ'=>∀ a w,RelF fr σ' a w→∀ (b:Frame) (k:List Item) (cs:List Frame),∃ e a' w',Post fr Q e a' w'∧Arrives P (lone (b.at a (.code x :: .inLoop x :: k)) cs w) b k cs e a' w') ?_
  ·intro b k cs
   obtain ⟨e,a',w',hq,harr⟩:=key a w (hr.keepFor L _) b k cs
   exact ⟨e,a',w',hq,.of_steps (.one step_loop) harr⟩
  ·intro σ' hb a w hr' b k cs
   obtain ⟨e,a₁,w₁,⟨ex',σ'',hx,hq,hr''⟩,harr⟩:=ih σ' _ a w hb hd hr' b (.inLoop x :: k) cs
   cases e <;> cases ex' <;> simp only [Xr] at hx <;> try exact hx.elim
   ·obtain ⟨e₂,a₂,w₂,hq₂,harr₂⟩:=hq a₁ w₁ (hr''.keepFor L _) b k cs
    exact ⟨e₂,a₂,w₂,hq₂,.of_steps (Steps.trans harr (.one step_inLoop)) harr₂⟩
   ·exact ⟨.exit _,a₁,w₁,⟨.exit _,σ'',hx,hq,hr''⟩,.pass (x:=.inLoop x) rfl (fun _ _=>.inl (by simp)) harr⟩
   ·exact ⟨.ret,a₁,w₁,⟨.ret,σ'',trivial,hq,hr''⟩,.pass (x:=.inLoop x) rfl (fun _ _=>.inl (by simp)) harr⟩
 | exit id=>intro σ Q a w h _ hr; exact wp_exit ⟨.exit id,σ,rfl,h,hr⟩
 | ret=>intro σ Q a w h _ hr; exact wp_ret ⟨.ret,σ,trivial,h,hr⟩
 | _=>intro σ Q a w h; exact h.elim

end
end Go.Abs
/- A function's abstract run gives its contract: for every program and world. -/
namespace Go.Abs
section
variable {P:Program} {T:Tys} {fr:Fr} {σ:St} {a:Act} {w:World}

theorem zue {ρ:Nat→Option Nat} {H:Hp} {B N:Nat→Prop} {e:Operand→AV} {cv:Operand→Value} (cx:Cx P T ρ H B N w e cv) {d t:Nat} {x:Operand} {v:AV} {u:Upd} {C:Prop} (h:(qL T d e (.load t x)).run H=.val v u C) (hC:C) :
  ∃ ad c,cv x=.pointer (some ad)∧(loadVar t ad).run P w=.ok c w∧SlotRel ρ H (Sof ρ H B) w v c:=by
 have hx:=cx.rel x
 simp only [qL] at h
 split at h
 ·simp [Ask.run] at h
 ·rename_i i hi
  split at h
  ·rename_i id p o' e0
   simp only [Ask.run] at h
   split at h
   ·rename_i c f hb
    simp only [Ask.run,Ev.val.injEq] at h
    obtain ⟨rfl,rfl,rfl⟩:=h
    obtain ⟨c1,c2,c3,c4,c5⟩:=hC
    rw [e0] at hx
    obtain ⟨k,hk,hcv⟩:=hx _ hb
    rcases cx.hr.at_ id _ hb with ⟨sz,_,h2⟩ | ⟨q,arr,Ty,cs,ext,g1,g2,g3,g4,g5,g6⟩
    ·rw [h2] at hk; cases hk
    ·rw [hk] at g1; cases g1
     obtain ⟨cv',r1,r2⟩:=zkk (P:=P) (cx.ty _ _ hi) g6 (zax g4 g5) c1 c2 c3 c4 c5
     rw [Nat.zero_add] at r1
     exact ⟨_,_,hcv,r1,r2 ρ H⟩
   ·simp [Ask.run] at h
  ·rename_i c p o' e0
   simp only [Ask.run,Ev.val.injEq] at h
   obtain ⟨rfl,rfl,rfl⟩:=h
   obtain ⟨c1,c2,c3,c4,c5⟩:=hC
   rw [e0] at hx
   obtain ⟨k,off,vs,hcv,hS,hv,hrd⟩:=hx
   simp at hcv
   obtain ⟨cv',r1,r2⟩:=zkk (P:=P) (cx.ty _ _ hi) hv hrd c1 c2 c3 c4 c5
   rw [← c2] at r1
   subst c2
   exact ⟨_,_,hcv,r1,r2 ρ H⟩
  ·simp [Ask.run] at h

/-! ## Results -/
def zx2 (T:Tys) (σ:St):ResultVar→Ev
 | .tmp t=>.val (σ.e t) [] True
 | .cell x t=>(qL T 0 (jD σ.e) (.load t (.tmp x))).run σ.h

/-- What is handed back of what a slot holds. -/
def RetRel (σ:St) (c r:AV):Prop :=
 (c.plain=true∧(r=c∨r=loose c))∨(∃ id sz xs f,c=.osl id∧σ.h id=some ⟨.row sz xs,f⟩∧r=.sl sz false xs)

def Rets (T:Tys) (σ:St):List ResultVar→List AV→Prop
 | [],rs=>rs=[]
 | x :: xs,rs=>∃ c u C r rest,zx2 T σ x=.val c u C∧C∧RetRel σ c r∧rs=r :: rest∧Rets T σ xs rest

def zdg:List AV→AV
 | [r]=>r
 | rs=>.tuple rs

theorem z3r {ρ:Nat→Option Nat} {H:Hp} {B N:Nat→Prop} (hr:HRel ρ H B N w) {σ:St} (hH:H=σ.h) {c r:AV} {v:Value} (h:RetRel σ c r) (hs:SlotRel ρ H (Sof ρ H B) w c v) (ρ':Nat→Option Nat) (H':Hp):SlotRel ρ' H' B w r v:=by
 subst hH
 rcases h with ⟨hp,hr'⟩ | ⟨id,sz,xs,f,rfl,hb,rfl⟩
 ·have h1:SlotRel ρ' H' B w c v:=ze3 hs hp fun k hk=>hk.1
  rcases hr' with rfl | rfl
  ·exact h1
  ·exact zii h1
 ·obtain ⟨sz',xs',e,hh⟩:=hs _ hb
  cases e
  simp only [SlotRel,VRel]
  rcases hh with ⟨hx,hρ,a,ha⟩ | ⟨q,cap,arr,Ty,hρ,hv,hle,hw,hcap⟩
  ·subst hx; subst ha
   exact ⟨a,0,rfl,by simp,by simp,.inl rfl⟩
  ·subst hv
   refine ⟨_,cap,rfl,hle,by simp,?_⟩
   rcases hr.at_ id _ hb with ⟨sz2,e2,h2⟩ | ⟨q',arr',T',cs,ext,h1,h2,h3,h4,h5,h6⟩
   ·rw [h2] at hρ; cases hρ
   ·rw [hρ] at h1; cases h1
    simp only [VRel] at h6
    exact .inr ⟨q,0,cs,rfl,h2,VAll.keep (fun k hk=>hk.1) (fun _ _ _=>rfl) _ _ _ _ h6,zax h4 h5⟩

theorem zu8 {ρ:Nat→Option Nat} {B N:Nat→Prop} (cx:Cx P T ρ σ.h B N w (jD σ.e) a.eval) (hs:∀ t,SlotRel ρ σ.h (Sof ρ σ.h B) w (σ.e t) (a.tmps.getD t undef)) (ρ':Nat→Option Nat) (H':Hp) {f:ResultVar→Sem Value} (hf1:∀ t,f (.tmp t)=pure (a.tmps.getD t undef))
  (hf2:∀ x t,f (.cell x t)=do loadVar t (← asAddr (a.tmps.getD x undef))):∀ (xs:List ResultVar) (rs:List AV),Rets T σ xs rs→∃ vs:List Value,(xs.mapM f).run P w=.ok vs w∧SlotsRel ρ' H' B w rs vs
 | [],rs,h=>⟨[],by simp,by simp only [Rets] at h; subst h; simp [SlotsRel]⟩
 | x :: xs,rs,h=>by
  obtain ⟨c,u,C,r,rest,h1,hC,hrel,rfl,h2⟩:=h
  obtain ⟨vs,g1,g2⟩:=zu8 cx hs ρ' H' hf1 hf2 xs rest h2
  have hone:∃ v,(f x).run P w=.ok v w∧SlotRel ρ σ.h (Sof ρ σ.h B) w c v:=by
   cases x with
   | tmp t =>
    simp only [zx2,Ev.val.injEq] at h1
    obtain ⟨rfl,_,_⟩:=h1
    exact ⟨_,by rw [hf1]; rfl,hs t⟩
   | cell x t =>
    obtain ⟨ad,cc,k1,k2,k3⟩:=zue cx h1 hC
    have k1':a.tmps.getD x undef=.pointer (some ad):=k1
    exact ⟨cc,by rw [hf2]; simp [k1',asAddr,k2],k3⟩
  obtain ⟨v,k1,k2⟩:=hone
  refine ⟨v :: vs,?_,v,vs,rfl,z3r cx.hr rfl hrel k2 ρ' H',g2⟩
  simp only [List.mapM_cons,Sem.run_bind]
  rw [k1]
  simp only [Result.andThen_ok,g1,Sem.run_pure]

theorem zt8 {fn:Func} {ρ:Nat→Option Nat} {B N:Nat→Prop} (cx:Cx P T ρ σ.h B N w (jD σ.e) a.eval) (hs:∀ t,SlotRel ρ σ.h (Sof ρ σ.h B) w (σ.e t) (a.tmps.getD t undef)) (ρ':Nat→Option Nat) (H':Hp) {rs:List AV} (h:Rets T σ fn.results.toList rs) :
  ∃ v,(results fn a.tmps).run P w=.ok v w∧SlotRel ρ' H' B w (zdg rs) v:=by
 obtain ⟨vs,h1,h2⟩:=zu8 cx hs ρ' H' (f:=fun
  | .tmp t=>pure (a.tmps.getD t undef)
  | .cell x t=>do loadVar t (← asAddr (a.tmps.getD x undef))) (fun _=>rfl) (fun _ _=>rfl) _ _ h
 refine ⟨if h:vs.toArray.size=1 then vs.toArray[0] else .tuple vs.toArray,?_,?_⟩
 ·simp only [results,Sem.run_bind]
  rw [Array.mapM_eq_mapM_toList,Sem.run_map]
  exact (congrArg (fun r=>(Result.andThen r fun a w'=>Result.ok a.toArray w').andThen _) h1)
 ·match rs,h2 with
  | [],h2=>simp only [SlotsRel] at h2; subst h2; exact ⟨[],rfl,rfl⟩
  | [r],⟨v,rest,e1,k1,k2⟩=>simp only [SlotsRel] at k2; subst k2; subst e1; exact k1
  | r :: r' :: rs,h2 =>
   have:vs.length=(r :: r' :: rs).length:=by
    have:∀ (l:List AV) (cs:List Value),SlotsRel ρ' H' B w l cs→cs.length=l.length:=by
     intro l
     induction l with
     | nil=>intro cs h; simp only [SlotsRel] at h; simp [h]
     | cons x l ih=>rintro cs ⟨c,rest,rfl,_,h⟩; simp [ih _ h]
    exact this _ _ h2
   rw [dif_neg (by simp at this ⊢; omega)]
   exact ⟨vs,rfl,h2⟩

theorem zom {f : FuncId} {fn : Func} {c : Code} (hf : P.funcs[f]? = some fn) (hb : fn.body = some c) (hn : (fn.name == "runtime.NumGoroutine") = false) : Callable P f := by
 intro args w
 have hn' : ¬ fn.name = "runtime.NumGoroutine" := by simpa using hn
 simp [callFunc,hf,hb,hn']

theorem zjz {ρ:Nat→Option Nat} {H:Hp} {S:Nat→Prop}:∀ (i:Nat) (args:List AV) (cargs:List Value),SlotsRel ρ H S w ((uV i args).map (·.2)) cargs→cargs.length=args.length∧∀ t,∃ x,(look (uV i args) t).getD .top=x∧(i≤t→SlotRel ρ H S w x (cargs.getD (t - i) undef))∧(t < i→x=.top)
 | i,[],cargs,h=>by
  simp only [uV,List.map_nil,SlotsRel] at h
  subst h
  exact ⟨rfl,fun t=>⟨.top,rfl,fun _=>trivial,fun _=>rfl⟩⟩
 | i,v :: vs,cargs,h=>by
  obtain ⟨c,rest,rfl,h1,h2⟩:=h
  obtain ⟨hl,hh⟩:=zjz (i + 1) vs rest h2
  refine ⟨by simp [hl],fun t=>?_⟩
  obtain ⟨x,e1,e2,e3⟩:=hh t
  simp only [uV,look]
  by_cases e:i=t
  ·subst e
   simp only [Nat.beq_refl]
   exact ⟨_,rfl,fun _=>by simpa using h1,fun hlt=>by omega⟩
  ·have hb:Nat.beq i t=false:=by rw [← Bool.not_eq_true,Nat.beq_eq]; exact e
   rw [hb]
   refine ⟨x,e1,fun hle=>?_,fun hlt=>e3 (by omega)⟩
   have:=e2 (by omega)
   rw [show t - i=(t - (i + 1)) + 1 by omega]
   simpa using this

/-- THE CONTRACT: the abstract run of the body ends with these results. -/
theorem z4n (g : Good P T) {f : FuncId} {fn : Func} {c : Code} {ac : ACode} {m : List (Nat × Nat)} {L : Live} {n : Nat} {args rs : List AV} (hf : P.funcs[f]? = some fn) (hb : fn.body = some c) (hname : (fn.name == "runtime.NumGoroutine") = false)
  (hn:fn.ntmps=n) (hn2:Nat.ble n 999999=true) (hl:Nat.ble args.length n=true) (hstrip:mO m c=ac) (hdst:ac.dstOk n=true) (hmut:jJ 0 args=[])
  (hrun:acode P T L ac (jI args) fun ex σ=>(ex=.normal∨ex=.ret)∧Rets T σ fn.results.toList rs):Den P f args { r:=zdg rs }:=by
 refine ⟨zom hf hb hname,fun ρ0 B0 w cargs hent=>?_⟩
 have hnoB:=zd0 0 _ hmut
 have hH0:(jI args).h=fun _=>none:=by
  funext id
  show (look (kD 0 args) id).getD none=none
  rw [za3 0 _ hnoB]; rfl
 subst hstrip
 let fr:Fr:=⟨w,B0,fun k=>(∃ id b,(jI args).h id=some b∧ρ0 id=some k)∨w.heap.size≤k,ρ0,n⟩
 obtain ⟨hlen,hsl⟩:=zjz 0 args cargs hent.slots
 have hle:=Nat.le_of_ble_eq_true hl
 have hr:RelF fr (jI args) { tmps:=cargs.toArray ++ Array.replicate (fn.ntmps - cargs.toArray.size) undef,defers:=[] } w:=by
  refine ⟨⟨ρ0,?_,fun t=>?_,fun _ _ _=>rfl⟩,rfl,?_,Only.refl _ _⟩
  ·show HRel ρ0 (jI args).h (fun k=>B0 k∨(w.heap.size≤k∧k < w.heap.size)) _ w
   rw [Bself]; exact hent.heap
  ·show SlotRel ρ0 (jI args).h (Sof ρ0 (jI args).h (fun k=>B0 k∨(w.heap.size≤k∧k < w.heap.size))) w _ _
   rw [Bself]
   obtain ⟨x,e1,e2,_⟩:=hsl t
   have e3:(jI args).e t=x:=e1
   rw [e3]
   have:=e2 (Nat.zero_le _)
   rw [Nat.sub_zero] at this
   have e4:(cargs.toArray ++ Array.replicate (fn.ntmps - cargs.toArray.size) undef).getD t undef=cargs.getD t undef:=by
    rw [Array.getD_eq_getD_getElem?,Array.getElem?_append]
    by_cases ht:t < cargs.length
    ·simp [ht]
    ·simp only [List.size_toArray,ht,if_false]
     rw [List.getD_eq_getElem?_getD,List.getElem?_eq_none (by omega)]
     rw [Array.getElem?_replicate]
     split <;> rfl
   rw [e4]; exact this
  ·simp only [Array.size_append,List.size_toArray,Array.size_replicate]
   show cargs.length + (fn.ntmps - cargs.length)=n
   rw [hn,hlen]; omega
 refine calls_of_wp hf hb (wp_mono (zoj g (Nat.le_of_ble_eq_true hn2) (fun k hk=>Or.inr hk) m L c _ _ _ _ hrun hdst hr) ?_)
 rintro ex a' w' ⟨ex',σ',hx,⟨hex,hrets⟩,hr'⟩
 have fin:a'.defers=[]∧∃ v,(results fn a'.tmps).run P w'=.ok v w'∧∃ v' ρ',Ending.returned v=.returned v'∧Out ρ0 B0 w args { r:=zdg rs } ρ' w' v':=by
  refine ⟨hr'.defers,?_⟩
  obtain ⟨ρ,cx,hs,_⟩:=hr'.cx g (fun k hk=>Or.inr hk)
  obtain ⟨v,h1,h2⟩:=zt8 cx hs (fun _=>none) (fun _=>none) hrets
  refine ⟨v,h1,v,fun _=>none,rfl,?_⟩
  have hRH:RV.H { r:=zdg rs } args=fun _=>none:=by
   funext id
   simp only [RV.H,fsH]
   rw [hmut]; rfl
  refine ⟨?_,?_,hr'.only,fun i b hb=>by rw [hH0] at hb; cases hb⟩
  ·rw [hRH]
   exact ⟨fun _ _ h=>(nomatch h),fun _ _ _ _ _ h=>(nomatch h),fun k hk=>cx.hr.bound k hk⟩
  ·rw [hRH]
   have hS:∀ k,(fun k=>B0 k∨(w.heap.size≤k∧k < w'.heap.size)) k→Sof (fun _=>none) (fun _=>none) (fun k=>B0 k∨(w.heap.size≤k∧k < w'.heap.size)) k:=fun k hk=>⟨hk,fun _ _ h=>(nomatch h)⟩
   have hSeq:Sof (fun _=>none) (fun _=>none) (fun k=>B0 k∨(w.heap.size≤k∧k < w'.heap.size))=fun k=>B0 k∨(w.heap.size≤k∧k < w'.heap.size):=by
    funext k; exact propext ⟨fun h=>h.1,hS k⟩
   rw [hSeq]
   exact h2
 rcases hex with rfl | rfl <;> cases ex <;> simp only [Xr] at hx <;> try exact hx.elim
 ·exact fin
 ·exact fin

/-! ## Results in new memory, and arguments that are written -/
/-- Results some of which are slices in new memory: ids tells their names here (none: nil). -/
def RetsX (T:Tys) (σ:St):Nat→List ResultVar→List AV→List (Option Nat)→List (Nat×List AV)→Prop
 | _,[],rs,ids,fs=>rs=[]∧ids=[]∧fs=[]
 | j,x :: xs,rs,ids,fs=>∃ c u C r rest,zx2 T σ x=.val c u C∧C∧rs=r :: rest ∧
   ((c.plain=true∧(r=c∨r=loose c)∧RetsX T σ j xs rest ids fs) ∨
   (∃ id sz ys ids' fs',c=.osl id∧σ.h id=some ⟨.row sz ys,false⟩∧r=.osl (fid j)∧ids=some id :: ids'∧fs=(sz,ys) :: fs'∧zfn (sz,ys)=.row sz ys∧RetsX T σ (j + 1) xs rest ids' fs') ∨
   (∃ id cc ids' fs',c=.own id [] []∧σ.h id=some ⟨cc,false⟩∧r=.own (fid j) [] []∧ids=some id :: ids'∧fs=(0,[cc]) :: fs'∧RetsX T σ (j + 1) xs rest ids' fs') ∨
   (∃ sz ids' fs',c=.sl sz true []∧r=.osl (fid j)∧ids=none :: ids'∧fs=(sz,[]) :: fs'∧RetsX T σ (j + 1) xs rest ids' fs'))
def z38 (ids:List (Option Nat)):Bool:=zhu (ids.filterMap id) && (ids.filterMap id).all (Nat.blt · 1000000)
def MsX (σ:St):List Nat→List AV→Prop
 | [],ms=>ms=[]
 | i :: is,ms=>∃ c cs,ms=c :: cs∧σ.h (pid i)=some ⟨c,false⟩∧MsX σ is cs
def IdsOk (σ:St):List (Option Nat)→List (Nat×List AV)→Prop
 | [],fs=>fs=[]
 | some id :: ids,fs=>∃ q fs',fs=q :: fs'∧σ.h id=some ⟨zfn q,false⟩∧IdsOk σ ids fs'
 | none :: ids,fs=>∃ sz fs',fs=(sz,[]) :: fs'∧IdsOk σ ids fs'
theorem zsc (sz:Nat):zfn (sz,[])=.row sz []:=by
 unfold zfn
 split
 ·rename_i h; cases h
 ·rename_i h; cases h; rfl
theorem RetsX.ids {σ:St}:∀ (xs:List ResultVar) (j:Nat) (rs:List AV) (ids:List (Option Nat)) (fs:List (Nat×List AV)),RetsX T σ j xs rs ids fs→IdsOk σ ids fs
 | [],j,rs,ids,fs,h=>by obtain ⟨_,rfl,rfl⟩:=h; rfl
 | x :: xs,j,rs,ids,fs,h=>by
  obtain ⟨c,u,C,r,rest,_,_,_,h | ⟨id,sz,ys,ids',fs',_,hb,_,rfl,rfl,hbl,h⟩ | ⟨id,cc,ids',fs',_,hb,_,rfl,rfl,h⟩ | ⟨sz,ids',fs',_,_,rfl,rfl,h⟩⟩:=h
  ·exact RetsX.ids xs j rest ids fs h.2.2
  ·exact ⟨_,_,rfl,by rw [hbl]; exact hb,RetsX.ids xs (j + 1) rest ids' fs' h⟩
  ·exact ⟨_,_,rfl,hb,RetsX.ids xs (j + 1) rest ids' fs' h⟩
  ·exact ⟨_,_,rfl,RetsX.ids xs (j + 1) rest ids' fs' h⟩
theorem IdsOk.at_ {σ:St}:∀ (ids:List (Option Nat)) (fs:List (Nat×List AV)),IdsOk σ ids fs→∀ (j i:Nat) (b:Option Blk),look (fsH j fs) (fid (j + i))=some b →
  (∃ (id:Nat) (q:Nat×List AV),ids[i]?=some (some id)∧b=some ⟨zfn q,false⟩∧σ.h id=some ⟨zfn q,false⟩)∨(∃ sz,ids[i]?=some none∧b=some ⟨.row sz [],false⟩)
 | [],fs,h,j,i,b,hl=>by simp only [IdsOk] at h; subst h; simp [fsH,look] at hl
 | o :: ids,fs,h,j,i,b,hl=>by
  have nx:∀ q fs',fs=q :: fs'→IdsOk σ ids fs'→i ≠ 0→(∃ (id:Nat) (q:Nat×List AV),(o :: ids)[i]?=some (some id)∧b=some ⟨zfn q,false⟩∧σ.h id=some ⟨zfn q,false⟩)∨(∃ sz,(o :: ids)[i]?=some none∧b=some ⟨.row sz [],false⟩):=by
   rintro ⟨sz,ys⟩ fs' rfl h' hi
   obtain ⟨i,rfl⟩:∃ k,i=k + 1:=⟨i - 1,by omega⟩
   simp only [fsH,look] at hl
   have hb:Nat.beq (fid j) (fid (j + (i + 1)))=false:=by rw [← Bool.not_eq_true,Nat.beq_eq]; unfold fid; omega
   rw [hb] at hl
   simp only [List.getElem?_cons_succ]
   refine IdsOk.at_ ids fs' h' (j + 1) i b ?_
   rw [show j + 1 + i=j + (i + 1) by omega]; exact hl
  cases o with
  | some id =>
   obtain ⟨q,fs',rfl,hb,h'⟩:=h
   by_cases hi:i=0
   ·subst hi
    obtain ⟨sz,ys⟩:=q
    simp only [fsH,look,Nat.add_zero,Nat.beq_refl,Option.some.injEq] at hl
    subst hl
    exact .inl ⟨id,(sz,ys),rfl,rfl,hb⟩
   ·exact nx q fs' rfl h' hi
  | none =>
   obtain ⟨sz,fs',rfl,h'⟩:=h
   by_cases hi:i=0
   ·subst hi
    simp only [fsH,look,Nat.add_zero,Nat.beq_refl,Option.some.injEq,zsc] at hl
    subst hl
    exact .inr ⟨sz,rfl,rfl⟩
   ·exact nx (sz,[]) fs' rfl h' hi

theorem HRel.pick {ρ:Nat→Option Nat} {H Hc:Hp} {B N:Nat→Prop} (hr:HRel ρ H B N w) {ψ:Nat→Option Nat} (hinj:∀ x y id,ψ x=some id→ψ y=some id→x=y)
  (h:∀ x b,Hc x=some b→(∃ id,ψ x=some id∧H id=some ⟨b.c,false⟩)∨(ψ x=none∧∃ sz,b.c=.row sz [])) :
  HRel (fun x=>(ψ x).bind ρ) Hc B N w∧∀ k,Sof ρ H B k→Sof (fun x=>(ψ x).bind ρ) Hc B k:=by
 have hS:∀ k,Sof ρ H B k→Sof (fun x=>(ψ x).bind ρ) Hc B k:=by
  intro k hk
  refine ⟨hk.1,fun x b hx hf e=>?_⟩
  rcases h x b hx with ⟨id,h1,h2⟩ | ⟨h1,_⟩
  ·simp only [h1,Option.bind_some] at e
   exact hk.2 id _ h2 rfl e
  ·simp [h1] at e
 refine ⟨⟨fun x b hx=>?_,fun x y bx by_ k hx hy e1 e2=>?_,hr.bound⟩,hS⟩
 ·rcases h x b hx with ⟨id,h1,h2⟩ | ⟨h1,sz,h2⟩
  ·rcases hr.at_ id _ h2 with ⟨sz,g1,g2⟩ | ⟨q,arr,T,cs,ext,g1,g2,g3,g4,g5,g6⟩
   ·exact .inl ⟨sz,g1,by simp [h1,g2]⟩
   ·exact .inr ⟨q,arr,T,cs,ext,by simp [h1,g1],g2,g3,g4,g5,VRel.keep hS (fun _ _ _=>rfl) _ _ g6⟩
  ·exact .inl ⟨sz,h2,by simp [h1]⟩
 ·rcases h x bx hx with ⟨i,h1,h2⟩ | ⟨h1,_⟩
  ·rcases h y by_ hy with ⟨j,h3,h4⟩ | ⟨h3,_⟩
   ·simp only [h1,h3,Option.bind_some] at e1 e2
    have:=hr.inj i j _ _ k h2 h4 e1 e2
    subst this
    exact hinj x y i h1 h3
   ·simp [h3] at e2
  ·simp [h1] at e1

theorem zh0 {ρ:Nat→Option Nat} {B N:Nat→Prop} (cx:Cx P T ρ σ.h B N w (jD σ.e) a.eval) (hs:∀ t,SlotRel ρ σ.h (Sof ρ σ.h B) w (σ.e t) (a.tmps.getD t undef)) {ρ':Nat→Option Nat} {Hc:Hp} {S':Nat→Prop} (hS:∀ k,Sof ρ σ.h B k→S' k) {f:ResultVar→Sem Value} (hf1:∀ t,f (.tmp t)=pure (a.tmps.getD t undef))
  (hf2:∀ x t,f (.cell x t)=do loadVar t (← asAddr (a.tmps.getD x undef))):∀ (xs:List ResultVar) (j:Nat) (rs:List AV) (ids:List (Option Nat)) (fs:List (Nat×List AV)),RetsX T σ j xs rs ids fs →
  (∀ (i:Nat) (o:Option Nat) (q:Nat×List AV),ids[i]?=some o→fs[i]?=some q→Hc (fid (j + i))=some ⟨zfn q,false⟩∧ρ' (fid (j + i))=o.bind ρ)→∃ vs:List Value,(xs.mapM f).run P w=.ok vs w∧SlotsRel ρ' Hc S' w rs vs
 | [],j,rs,ids,fs,h,_=>⟨[],by simp,by obtain ⟨rfl,_⟩:=h; simp [SlotsRel]⟩
 | x :: xs,j,rs,ids,fs,h,hl=>by
  obtain ⟨c,u,C,r,rest,h1,hC,rfl,h⟩:=h
  have hone:∃ v,(f x).run P w=.ok v w∧SlotRel ρ σ.h (Sof ρ σ.h B) w c v:=by
   cases x with
   | tmp t =>
    simp only [zx2,Ev.val.injEq] at h1
    obtain ⟨rfl,_,_⟩:=h1
    exact ⟨_,by rw [hf1]; rfl,hs t⟩
   | cell x t =>
    obtain ⟨ad,cc,k1,k2,k3⟩:=zue cx h1 hC
    have k1':a.tmps.getD x undef=.pointer (some ad):=k1
    exact ⟨cc,by rw [hf2]; simp [k1',asAddr,k2],k3⟩
  obtain ⟨v,k1,k2⟩:=hone
  have hrest:∃ vs:List Value,(xs.mapM f).run P w=.ok vs w∧SlotsRel ρ' Hc S' w rest vs∧SlotRel ρ' Hc S' w r v:=by
   have sub:∀ (o:Option Nat) (q:Nat×List AV) ids' fs',ids=o :: ids'→fs=q :: fs'→∀ (i:Nat) (o:Option Nat) (q:Nat×List AV),ids'[i]?=some o→fs'[i]?=some q→Hc (fid (j + 1 + i))=some ⟨zfn q,false⟩∧ρ' (fid (j + 1 + i))=o.bind ρ:=by
    rintro o q ids' fs' rfl rfl i o' q' h3 h4
    have:=hl (i + 1) o' q' (by simpa using h3) (by simpa using h4)
    rwa [show j + (i + 1)=j + 1 + i by omega] at this
   rcases h with ⟨hp,hr,h⟩ | ⟨id,sz,ys,ids',fs',rfl,hb,rfl,rfl,rfl,hbl,h⟩ | ⟨id,cc,ids',fs',rfl,hb,rfl,rfl,rfl,h⟩ | ⟨sz,ids',fs',rfl,rfl,rfl,rfl,h⟩
   ·obtain ⟨vs,g1,g2⟩:=zh0 cx hs hS hf1 hf2 xs j rest ids fs h hl
    refine ⟨vs,g1,g2,?_⟩
    have h3:SlotRel ρ' Hc S' w c v:=ze3 k2 hp hS
    rcases hr with rfl | rfl
    ·exact h3
    ·exact zii h3
   ·obtain ⟨vs,g1,g2⟩:=zh0 cx hs hS hf1 hf2 xs (j + 1) rest ids' fs' h (sub _ _ _ _ rfl rfl)
    refine ⟨vs,g1,g2,fun b hb'=>?_⟩
    obtain ⟨e1,e2⟩:=hl 0 (some id) (sz,ys) rfl rfl
    simp only [Nat.add_zero,Option.bind_some] at e1 e2
    rw [e1,hbl] at hb'
    simp only [Option.some.injEq] at hb'
    subst hb'
    rw [e2]
    exact k2 _ hb
   ·obtain ⟨vs,g1,g2⟩:=zh0 cx hs hS hf1 hf2 xs (j + 1) rest ids' fs' h (sub _ _ _ _ rfl rfl)
    refine ⟨vs,g1,g2,fun b hb'=>?_⟩
    obtain ⟨e1,e2⟩:=hl 0 (some id) (0,[cc]) rfl rfl
    simp only [Nat.add_zero,Option.bind_some] at e1 e2
    rw [e1] at hb'
    simp only [Option.some.injEq] at hb'
    subst hb'
    rw [e2]
    exact k2 _ hb
   ·obtain ⟨vs,g1,g2⟩:=zh0 cx hs hS hf1 hf2 xs (j + 1) rest ids' fs' h (sub _ _ _ _ rfl rfl)
    refine ⟨vs,g1,g2,fun b hb'=>?_⟩
    obtain ⟨e1,e2⟩:=hl 0 none (sz,[]) rfl rfl
    simp only [Nat.add_zero,Option.bind_none] at e1 e2
    rw [e1,zsc] at hb'
    simp only [Option.some.injEq] at hb'
    subst hb'
    obtain ⟨ad,cap,e,_,hcap,_⟩:=k2
    simp only [List.cons.injEq,and_true] at e
    have:=hcap rfl
    simp only [List.length_nil] at this
    subst this
    exact ⟨sz,[],rfl,.inl ⟨rfl,e2,ad,e⟩⟩
  obtain ⟨vs,g1,g2,g3⟩:=hrest
  refine ⟨v :: vs,?_,v,vs,rfl,g3,g2⟩
  simp only [List.mapM_cons,Sem.run_bind]
  rw [k1]
  simp only [Result.andThen_ok,g1,Sem.run_pure]

def z07 (a:Act):ResultVar→Sem Value
  | .tmp t=>pure (a.tmps.getD t undef)
  | .cell x t=>do loadVar t (← asAddr (a.tmps.getD x undef))
theorem zzi {fn:Func} {ρ':Nat→Option Nat} {H':Hp} {S:Nat→Prop} {rs:List AV} {vs:List Value} (h1:(fn.results.toList.mapM (z07 a)).run P w=.ok vs w) (h2:SlotsRel ρ' H' S w rs vs) :
  ∃ v,(results fn a.tmps).run P w=.ok v w∧SlotRel ρ' H' S w (zdg rs) v:=by
 refine ⟨if h:vs.toArray.size=1 then vs.toArray[0] else .tuple vs.toArray,?_,?_⟩
 ·simp only [results,Sem.run_bind]
  rw [Array.mapM_eq_mapM_toList,Sem.run_map]
  exact (congrArg (fun r=>(Result.andThen r fun a w'=>Result.ok a.toArray w').andThen _) h1)
 ·match rs,h2 with
  | [],h2=>simp only [SlotsRel] at h2; subst h2; exact ⟨[],rfl,rfl⟩
  | [r],⟨v,rest,e1,k1,k2⟩=>simp only [SlotsRel] at k2; subst k2; subst e1; exact k1
  | r :: r' :: rs,h2 =>
   have:vs.length=(r :: r' :: rs).length:=by
    have:∀ (l:List AV) (cs:List Value),SlotsRel ρ' H' S w l cs→cs.length=l.length:=by
     intro l
     induction l with
     | nil=>intro cs h; simp only [SlotsRel] at h; simp [h]
     | cons x l ih=>rintro cs ⟨c,rest,rfl,_,h⟩; simp [ih _ h]
    exact this _ _ h2
   rw [dif_neg (by simp at this ⊢; omega)]
   exact ⟨vs,rfl,h2⟩

theorem zm3:∀ (i:Nat) (vs:List AV),∀ j∈jJ i vs,i≤j∧j < i + vs.length
 | _,[]=>by simp [jJ]
 | i,v :: vs=>by
  intro j hj
  simp only [jJ] at hj
  split at hj
  ·rcases List.mem_cons.1 hj with rfl | hj
   ·simp
   ·have:=zm3 (i + 1) vs j hj; simp; omega
  ·have:=zm3 (i + 1) vs j hj; simp; omega
theorem zlw:∀ (i:Nat) (vs:List AV) (x:Nat) (b:Option Blk),look (kD i vs) x=some b→∃ j∈jJ i vs,x=pid j
 | _,[],_,_,h=>by simp [kD,look] at h
 | i,v :: vs,x,b,h=>by
  simp only [kD] at h
  simp only [jJ]
  cases e:zf5 v with
  | none =>
   rw [e] at h
   exact zlw (i + 1) vs x b h
  | some bb =>
   rw [e] at h
   simp only [look] at h
   by_cases hx:pid i=x
   ·exact ⟨i,by simp,hx.symm⟩
   ·have hb:Nat.beq (pid i) x=false:=by rw [← Bool.not_eq_true,Nat.beq_eq]; exact hx
    rw [hb] at h
    obtain ⟨j,h1,h2⟩:=zlw (i + 1) vs x b h
    exact ⟨j,by simp [h1],h2⟩
theorem zwz {σ:St}:∀ (is:List Nat) (ms:List AV),MsX σ is ms→∀ x b,look (msH is ms) x=some b→∃ i∈is,x=pid i∧σ.h x=b
 | [],ms,h,x,b,hl=>by simp only [MsX] at h; subst h; simp [msH,look] at hl
 | i :: is,ms,⟨c,cs,e,h1,h2⟩,x,b,hl=>by
  subst e
  simp only [msH,look] at hl
  by_cases hx:pid i=x
  ·subst hx
   rw [Nat.beq_refl] at hl
   simp only [Option.some.injEq] at hl
   exact ⟨i,by simp,rfl,by rw [h1,hl]⟩
  ·have hb:Nat.beq (pid i) x=false:=by rw [← Bool.not_eq_true,Nat.beq_eq]; exact hx
   rw [hb] at hl
   obtain ⟨j,g1,g2,g3⟩:=zwz is cs h2 x b hl
   exact ⟨j,by simp [g1],g2,g3⟩
theorem MsX.has {σ:St}:∀ (is:List Nat) (ms:List AV),MsX σ is ms→∀ i∈is,∃ b,σ.h (pid i)=some b
 | [],_,_,i,hi=>by simp at hi
 | j :: is,ms,⟨c,cs,_,h1,h2⟩,i,hi=>by
  rcases List.mem_cons.1 hi with rfl | hi
  ·exact ⟨_,h1⟩
  ·exact MsX.has is cs h2 i hi

theorem zon:∀ (ids:List (Option Nat)),zhu (ids.filterMap id)=true→∀ i j x:Nat,ids[i]?=some (some x)→ids[j]?=some (some x)→i=j
 | [],_,i,j,x,h,_=>by simp at h
 | o :: ids,hd,i,j,x,hi,hj=>by
  have tl:zhu (ids.filterMap id)=true:=by
   cases o with
   | none=>simpa using hd
   | some y=>simp only [List.filterMap_cons,id_eq,zhu,Bool.and_eq_true] at hd; exact hd.2
  have hd0:∀ y,o=some y→∀ k:Nat,ids[k]?=some (some y)→False:=by
   rintro y rfl k hk
   simp only [List.filterMap_cons,id_eq,zhu,Bool.and_eq_true,Bool.not_eq_true'] at hd
   have:(ids.filterMap id).any (Nat.beq y)=true:=by
    rw [List.any_eq_true]
    exact ⟨y,List.mem_filterMap.2 ⟨some y,List.mem_of_getElem? hk,rfl⟩,Nat.beq_refl y⟩
   rw [this] at hd; simp at hd
  cases i with
  | zero =>
   cases j with
   | zero=>rfl
   | succ j =>
    simp only [List.getElem?_cons_zero,Option.some.injEq] at hi
    simp only [List.getElem?_cons_succ] at hj
    exact (hd0 x hi j hj).elim
  | succ i =>
   cases j with
   | zero =>
    simp only [List.getElem?_cons_zero,Option.some.injEq] at hj
    simp only [List.getElem?_cons_succ] at hi
    exact (hd0 x hj i hi).elim
   | succ j =>
    simp only [List.getElem?_cons_succ] at hi hj
    exact congrArg (· + 1) (zon ids tl i j x hi hj)

theorem IdsOk.len {σ:St}:∀ (ids:List (Option Nat)) (fs:List (Nat×List AV)),IdsOk σ ids fs→fs.length=ids.length
 | [],_,h=>by simp only [IdsOk] at h; subst h; rfl
 | some _ :: ids,_,⟨q,fs',e,_,h⟩=>by subst e; simp [IdsOk.len ids fs' h]
 | none :: ids,_,⟨sz,fs',e,h⟩=>by subst e; simp [IdsOk.len ids fs' h]
theorem z0g:∀ (fs:List (Nat×List AV)) (j i:Nat) (q:Nat×List AV),fs[i]?=some q→look (fsH j fs) (fid (j + i))=some (some ⟨zfn q,false⟩)
 | [],j,i,q,h=>by simp at h
 | (sz,ys) :: fs,j,i,q,h=>by
  simp only [fsH,look]
  cases i with
  | zero =>
   simp only [List.getElem?_cons_zero,Option.some.injEq] at h
   subst h
   simp
  | succ i =>
   have hb:Nat.beq (fid j) (fid (j + (i + 1)))=false:=by rw [← Bool.not_eq_true,Nat.beq_eq]; unfold fid; omega
   rw [hb]
   have:=z0g fs (j + 1) i q (by simpa using h)
   rwa [show j + 1 + i=j + (i + 1) by omega] at this
theorem zu2:∀ (fs:List (Nat×List AV)) (j x:Nat),x < fid 0→look (fsH j fs) x=none
 | [],_,_,_=>rfl
 | (sz,ys) :: fs,j,x,h=>by
  simp only [fsH,look]
  have hb:Nat.beq (fid j) x=false:=by rw [← Bool.not_eq_true,Nat.beq_eq]; unfold fid at h ⊢; omega
  rw [hb]
  exact zu2 fs (j + 1) x h

theorem zed (g : Good P T) {f : FuncId} {fn : Func} {c : Code} {ac : ACode} {m : List (Nat × Nat)} {L : Live} {n : Nat} {args rs ms : List AV} {fs : List (Nat × List AV)} (hf : P.funcs[f]? = some fn) (hb : fn.body = some c) (hname : (fn.name == "runtime.NumGoroutine") = false)
  (hn:fn.ntmps=n) (hn2:Nat.ble n 999999=true) (hl:Nat.ble args.length n=true) (hstrip:mO m c=ac) (hdst:ac.dstOk n=true)
  (hrun:acode P T L ac (jI args) fun ex σ=>(ex=.normal∨ex=.ret)∧∃ ids,RetsX T σ 0 fn.results.toList rs ids fs∧z38 ids=true∧MsX σ (jJ 0 args) ms):Den P f args { r:=zdg rs,ms:=ms,fs:=fs }:=by
 refine ⟨zom hf hb hname,fun ρ0 B0 w cargs hent=>?_⟩
 subst hstrip
 let fr:Fr:=⟨w,B0,fun k=>(∃ id b,(jI args).h id=some b∧ρ0 id=some k)∨w.heap.size≤k,ρ0,n⟩
 obtain ⟨hlen,hsl⟩:=zjz 0 args cargs hent.slots
 have hle:=Nat.le_of_ble_eq_true hl
 have hn9:=Nat.le_of_ble_eq_true hn2
 have hr:RelF fr (jI args) { tmps:=cargs.toArray ++ Array.replicate (fn.ntmps - cargs.toArray.size) undef,defers:=[] } w:=by
  refine ⟨⟨ρ0,?_,fun t=>?_,fun _ _ _=>rfl⟩,rfl,?_,Only.refl _ _⟩
  ·show HRel ρ0 (jI args).h (fun k=>B0 k∨(w.heap.size≤k∧k < w.heap.size)) _ w
   rw [Bself]; exact hent.heap
  ·show SlotRel ρ0 (jI args).h (Sof ρ0 (jI args).h (fun k=>B0 k∨(w.heap.size≤k∧k < w.heap.size))) w _ _
   rw [Bself]
   obtain ⟨x,e1,e2,_⟩:=hsl t
   have e3:(jI args).e t=x:=e1
   rw [e3]
   have:=e2 (Nat.zero_le _)
   rw [Nat.sub_zero] at this
   have e4:(cargs.toArray ++ Array.replicate (fn.ntmps - cargs.toArray.size) undef).getD t undef=cargs.getD t undef:=by
    rw [Array.getD_eq_getD_getElem?,Array.getElem?_append]
    by_cases ht:t < cargs.length
    ·simp [ht]
    ·simp only [List.size_toArray,ht,if_false]
     rw [List.getD_eq_getElem?_getD,List.getElem?_eq_none (by omega)]
     rw [Array.getElem?_replicate]
     split <;> rfl
   rw [e4]; exact this
  ·simp only [Array.size_append,List.size_toArray,Array.size_replicate]
   show cargs.length + (fn.ntmps - cargs.length)=n
   rw [hn,hlen]; omega
 refine calls_of_wp hf hb (wp_mono (zoj g hn9 (fun k hk=>Or.inr hk) m L c _ _ _ _ hrun hdst hr) ?_)
 rintro ex a' w' ⟨ex',σ',hx,⟨hex,ids,hrets,hids,hms⟩,hr'⟩
 have fin:a'.defers=[]∧∃ v,(results fn a'.tmps).run P w'=.ok v w'∧∃ v' ρ',Ending.returned v=.returned v'∧Out ρ0 B0 w args { r:=zdg rs,ms:=ms,fs:=fs } ρ' w' v':=by
  refine ⟨hr'.defers,?_⟩
  obtain ⟨ρ,cx,hs,hpid⟩:=hr'.cx g (fun k hk=>Or.inr hk)
  have hok:=hrets.ids
  have hil:=hok.len
  simp only [z38,Bool.and_eq_true] at hids
  have hidlt:∀ i x:Nat,ids[i]?=some (some x)→x < 1000000:=by
   intro i x hi
   have:=List.all_eq_true.1 hids.2 x (List.mem_filterMap.2 ⟨some x,List.mem_of_getElem? hi,rfl⟩)
   have:=Nat.le_of_ble_eq_true this
   omega
  let ψ:Nat→Option Nat:=fun x=>if fid 0≤x then (ids[x - fid 0]?).join else if pid 0≤x then some x else none
  have ψf:∀ i,ψ (fid i)=(ids[i]?).join:=by
   intro i
   simp only [ψ]
   rw [if_pos (by unfold fid; omega),show fid i - fid 0=i by unfold fid; omega]
  have ψp:∀ i∈jJ 0 args,ψ (pid i)=some (pid i):=by
   intro i hi
   have:=zm3 0 args i hi
   simp only [ψ]
   rw [if_neg (by unfold pid fid; omega),if_pos (by unfold pid; omega)]
  have hinj:∀ x y id,ψ x=some id→ψ y=some id→x=y:=by
   intro x y id hx hy
   have h1:∀ z,ψ z=some id→(fid 0≤z∧ids[z - fid 0]?=some (some id))∨(z=id∧pid 0≤id∧z < fid 0):=by
    intro z hz
    simp only [ψ] at hz
    split at hz
    ·rename_i h0
     refine .inl ⟨h0,?_⟩
     cases e:ids[z - fid 0]? with
     | none=>rw [e] at hz; cases hz
     | some o=>rw [e] at hz; simp at hz; rw [hz]
    ·rename_i h0
     split at hz
     ·simp at hz; subst hz; exact .inr ⟨rfl,by assumption,by omega⟩
     ·cases hz
   rcases h1 x hx with ⟨a1,a2⟩ | ⟨a1,a2,a3⟩ <;> rcases h1 y hy with ⟨b1,b2⟩ | ⟨b1,b2,b3⟩
   ·have:=zon ids hids.1 _ _ _ a2 b2
    omega
   ·have:=hidlt _ _ a2; unfold pid at b2; omega
   ·have:=hidlt _ _ b2; unfold pid at a2; omega
   ·omega
  have hpick:∀ x b,(RV.H { r:=zdg rs,ms:=ms,fs:=fs } args) x=some b→(∃ id,ψ x=some id∧σ'.h id=some ⟨b.c,false⟩)∨(ψ x=none∧∃ sz,b.c=.row sz []):=by
   intro x b hx
   simp only [RV.H,zcl] at hx
   cases e:look (msH (jJ 0 args) ms) x with
   | some b0 =>
    rw [e] at hx
    simp at hx
    subst hx
    obtain ⟨i,h1,rfl,h3⟩:=zwz _ _ hms x _ e
    obtain ⟨c0,hc0⟩:∃ c,b=⟨c,false⟩:=by
     have:∀ (is:List Nat) (ms:List AV),look (msH is ms) (pid i)=some (some b)→∃ c,b=⟨c,false⟩:=by
      intro is
      induction is with
      | nil=>intro ms h; simp [msH,look] at h
      | cons i0 is ih =>
       intro ms h
       cases ms with
       | nil=>simp [msH,look] at h
       | cons c cs =>
        simp only [msH,look] at h
        split at h
        ·simp at h; exact ⟨c,h.symm⟩
        ·exact ih cs h
     exact this _ _ e
    exact .inl ⟨pid i,ψp i h1,by rw [h3,hc0]⟩
   | none =>
    rw [e] at hx
    simp only [Option.none_or] at hx
    cases e2:look (fsH 0 fs) x with
    | none=>rw [e2] at hx; cases hx
    | some b0 =>
     rw [e2] at hx
     simp only [Option.getD_some] at hx
     subst hx
     have hxf:fid 0≤x:=by
      rcases Nat.lt_or_ge x (fid 0) with h | h
      ·rw [zu2 _ _ _ h] at e2; cases e2
      ·exact h
     obtain ⟨i,rfl⟩:∃ i,x=fid i:=⟨x - 2000000,by unfold fid at hxf ⊢; omega⟩
     rcases IdsOk.at_ ids fs hok 0 i (some b) (by rw [Nat.zero_add]; exact e2) with ⟨id,q,h1,h2,h3⟩ | ⟨sz,h1,h2⟩
     ·simp only [Option.some.injEq] at h2
      subst h2
      exact .inl ⟨id,by rw [ψf,h1]; rfl,h3⟩
     ·simp only [Option.some.injEq] at h2
      subst h2
      exact .inr ⟨by rw [ψf,h1]; rfl,sz,rfl⟩
  obtain ⟨hheap,hS⟩:=HRel.pick cx.hr hinj hpick
  obtain ⟨vs,h1,h2⟩:=zh0 cx hs (ρ':=fun x=>(ψ x).bind ρ) (Hc:=RV.H { r:=zdg rs,ms:=ms,fs:=fs } args) hS (f:=z07 a') (fun _=>rfl) (fun _ _=>rfl) _ 0 rs ids fs hrets fun i o q ho hq=>by
    rw [Nat.zero_add]
    refine ⟨?_,by rw [ψf,ho]; rfl⟩
    simp only [RV.H,zcl]
    have hnone:look (msH (jJ 0 args) ms) (fid i)=none:=by
     cases e:look (msH (jJ 0 args) ms) (fid i) with
     | none=>rfl
     | some b0 =>
      obtain ⟨j,g1,g2,_⟩:=zwz _ _ hms _ _ e
      have:=zm3 0 args j g1
      unfold fid pid at g2; omega
    have h3:=z0g fs 0 i q hq
    rw [Nat.zero_add] at h3
    rw [hnone,h3]; rfl
  obtain ⟨v,h3,h4⟩:=zzi (fn:=fn) h1 h2
  refine ⟨v,h3,v,_,rfl,hheap,h4,hr'.only,fun i b hb=>?_⟩
  have hmem:∃ j∈jJ 0 args,pid i=pid j:=by
   have hb':(look (kD 0 args) (pid i)).getD none=some b:=hb
   cases e:look (kD 0 args) (pid i) with
   | none=>rw [e] at hb'; cases hb'
   | some x=>exact zlw 0 args _ _ e
  obtain ⟨j,hj,hij⟩:=hmem
  obtain ⟨b',hb'⟩:=hms.has _ _ j hj
  rw [hij]
  simp only [ψp j hj,Option.bind_some]
  exact hpid j b' hb'
 rcases hex with rfl | rfl <;> cases ex <;> simp only [Xr] at hx <;> try exact hx.elim
 ·exact fin
 ·exact fin

end
end Go.Abs
/- Rules for abstract runs, and typed data: for every program. -/
namespace Go.Abs
section
variable {P:Program} {T:Tys} {L:Live} {σ σ':St} {Q:AEx→St→Prop} {K:St→Prop}

/-! ## Rules -/
theorem yC {a b:ACode} (h:acode P T L a σ (thenK (fun σ'=>acode P T L b (keepFor L b σ') Q) Q)):acode P T L (.seq a b) σ Q:=h
theorem zR {id:Nat} {ops:List AOper} (h:aops P T ops σ (Q .normal)):acode P T L (.region id ops false) σ Q:=h
theorem xH {id:Nat} {ops:List AOper} (ts:List Tk) (hd:zpy ops ts=true) (h:aopsT P T ops ts σ (Q .normal)):acode P T L (.region id ops true) σ Q:=⟨ts,hd,h⟩
theorem xE (h:K σ):aopsT P T [] [] σ K:=h
/-- One operation of a region whose order is drawn. -/
theorem zH {o:AOper} {os:List AOper} {t:Tk} {ts:List Tk} (h:aops P T [o] σ (fun σ'=>tok T o σ σ' t=true∧aopsT P T os ts σ' K)):aopsT P T (o :: os) (t :: ts) σ K:=h
theorem zs7 {o:AOper} {os:List AOper} {t:Tk} {ts:List Tk} {σ0:St} (e:tok T o σ0 σ t=true) (h:aopsT P T os ts σ K):aops P T [] σ (fun σ'=>tok T o σ0 σ' t=true∧aopsT P T os ts σ' K):=⟨e,h⟩
theorem yB {id:Nat} {a:ACode} (h:acode P T L a σ (blockK id Q)):acode P T L (.block id a) σ Q:=h
theorem yG (h:Q .normal σ):acode P T L .skip σ Q:=h
theorem zU (h:Q .ret σ):acode P T L .ret σ Q:=h
theorem xR {id:Nat} (h:Q (.exit id) σ):acode P T L (.exit id) σ Q:=h
theorem yJ (h:K σ):aops P T [] σ K:=h
/-- On to the second part, in a state told anew. -/
theorem wC {b:ACode} (e:keepFor L b σ=σ') (h:acode P T L b σ' Q):thenK (fun σ'=>acode P T L b (keepFor L b σ') Q) Q .normal σ:=by
 show acode P T L b (keepFor L b σ) Q
 rw [e]; exact h
theorem zO {c:Operand} {x y:ACode} (hc:jD σ.e c=.bool true) (ht:acode P T L x σ Q):acode P T L (.cond c x y) σ Q:=by
 simp only [acode,hc]; exact ht
theorem zP {c:Operand} {x y:ACode} (hc:jD σ.e c=.bool false) (ht:acode P T L y σ Q):acode P T L (.cond c x y) σ Q:=by
 simp only [acode,hc]; exact ht

theorem zrw {d:Option Nat} {op:AO} {af:List Nat} {os:List AOper} {v:AV} {u:Upd} {C:Prop} (h:(qL T (d.getD 0) (jD σ.e) op).run σ.h=.val v u C) (hC:C) (hk:zg9 σ u=true) (k:aops P T os ((σ.upd u).put d v) K) :
  aops P T (⟨d,op,none,af⟩ :: os) σ K:=by
 simp only [aops,astep]
 rw [h]; exact ⟨hC,hk,k⟩
/-- A value told in another spelling. -/
theorem qI {d:Option Nat} {op:AO} {af:List Nat} {os:List AOper} {v v':AV} {u u':Upd} {C:Prop} (h:(qL T (d.getD 0) (jD σ.e) op).run σ.h=.val v u C) (hv:v=v') (hu:u=u') (hC:C) (hk:zg9 σ u'=true) (k:aops P T os ((σ.upd u').put d v') K) :
  aops P T (⟨d,op,none,af⟩ :: os) σ K:=by
 subst hv; subst hu; exact zrw h hC hk k
theorem zte {d:Option Nat} {op:AO} {g:Nat} {b:Bool} {af:List Nat} {os:List AOper} {v:AV} {u:Upd} {C:Prop} (hg:σ.e g=.bool b) (h:(qL T (d.getD 0) (jD σ.e) op).run σ.h=.val v u C) (hC:C) (hk:zg9 σ u=true) (k:aops P T os ((σ.upd u).put d v) K) :
  aops P T (⟨d,op,some (g,b),af⟩ :: os) σ K:=by
 simp only [aops,astep,hg,if_true]
 rw [h]; exact ⟨hC,hk,k⟩
theorem zD {d:Option Nat} {op:AO} {g:Nat} {b:Bool} {af:List Nat} {os:List AOper} (hg:σ.e g=.bool (!b)) (k:aops P T os (σ.put d (.tuple [])) K):aops P T (⟨d,op,some (g,b),af⟩ :: os) σ K:=by
 simp only [aops,astep,hg]
 cases b
 ·exact k
 ·exact k
theorem nN {d:Option Nat} {op:AO} {g:Nat} {b:Bool} {af:List Nat} {os:List AOper} (hg:σ.e g=.tuple []) (k:aops P T os (σ.put d (.tuple [])) K):aops P T (⟨d,op,some (g,b),af⟩ :: os) σ K:=by
 simp only [aops,astep,hg]
 exact k
theorem zuz {o:AOper} {f:FuncId} {args:List AV} {u:Upd} {r:AV} (hc:zn9 o.op=true) (hm:jJ 0 args=[]) (den:Den P f args { r:=r }) (hr:zew 0 r=true) (k:K ((σ.upd u).put o.dst r)):ev P σ o K (.call f args u [] True):=by
 refine ⟨trivial,hc,{ r:=r },u,den,⟨hr,rfl,rfl,.inl ⟨rfl,hm,rfl,.inl rfl⟩⟩,?_⟩
 rw [zql hr]
 exact k
theorem zaa {d:Option Nat} {m:Nat} {fo:Operand} {xs:List Operand} {af:List Nat} {os:List AOper} {f:FuncId} {args:List AV} {u:Upd} {r:AV} (h:(qL T (d.getD 0) (jD σ.e) (.call m fo xs)).run σ.h=.call f args u [] True)
  (hm:jJ 0 args=[]) (den:Den P f args { r:=r }) (hr:zew 0 r=true) (k:aops P T os ((σ.upd u).put d r) K):aops P T (⟨d,.call m fo xs,none,af⟩ :: os) σ K:=by
 simp only [aops,astep]
 rw [h]; exact zuz rfl hm den hr k
theorem wQ {d:Option Nat} {m g:Nat} {b:Bool} {fo:Operand} {xs:List Operand} {af:List Nat} {os:List AOper} {f:FuncId} {args:List AV} {u:Upd} {r:AV} (hg:σ.e g=.bool b) (h:(qL T (d.getD 0) (jD σ.e) (.call m fo xs)).run σ.h=.call f args u [] True)
  (hm:jJ 0 args=[]) (den:Den P f args { r:=r }) (hr:zew 0 r=true) (k:aops P T os ((σ.upd u).put d r) K):aops P T (⟨d,.call m fo xs,some (g,b),af⟩ :: os) σ K:=by
 simp only [aops,astep,hg,if_true]
 rw [h]; exact zuz rfl hm den hr k
/-- A call that hands back slices in new memory, and lends what it is handed (u2 = []) or keeps it. -/
theorem zg4 {d:Option Nat} {m:Nat} {fo:Operand} {xs:List Operand} {af:List Nat} {os:List AOper} {f:FuncId} {args:List AV} {u u2:Upd} {r r':AV} {fs:List (Nat×List AV)} (h:(qL T (d.getD 0) (jD σ.e) (.call m fo xs)).run σ.h=.call f args u [] True)
  (hm:jJ 0 args=[]) (den:Den P f args { r:=r,fs:=fs }) (hr:zew fs.length r=true) (hl:Nat.ble fs.length 100=true) (hf:zyj σ (fsU (d.getD 0) 0 fs)=true) (h2:u2=u∨(u2=[]∧(u.all fun q=>(fsU (d.getD 0) 0 fs).all fun q'=>!(Nat.beq q.1 q'.1))=true∧NoRef r∧∀ q∈fs,NoRefs q.2)) (hr':ren (d.getD 0) r=r')
  (k:aops P T os ((σ.upd (fsU (d.getD 0) 0 fs ++ u2)).put d r') K):aops P T (⟨d,.call m fo xs,none,af⟩ :: os) σ K:=by
 simp only [aops,astep]
 rw [h]
 subst hr'
 exact ⟨trivial,rfl,{ r:=r,fs:=fs },u2,den,⟨hr,hl,hf,.inl ⟨rfl,hm,rfl,h2⟩⟩,k⟩
/-- A call that zc6 one of the blocks. -/
theorem xD {d:Option Nat} {m:Nat} {fo:Operand} {xs:List Operand} {af:List Nat} {os:List AOper} {f:FuncId} {args:List AV} {i id:Nat} {r c:AV} (h:(qL T (d.getD 0) (jD σ.e) (.call m fo xs)).run σ.h=.call f args [] [(i,id)] True)
  (hm:jJ 0 args=[i]) (den:Den P f args { r:=r,ms:=[c] }) (hr:zew 0 r=true) (hs:zfz (nth args i) c) (k:aops P T os ((σ.upd [(id,some ⟨c,false⟩)]).put d r) K):aops P T (⟨d,.call m fo xs,none,af⟩ :: os) σ K:=by
 simp only [aops,astep]
 rw [h]
 refine ⟨trivial,rfl,{ r:=r,ms:=[c] },[],den,⟨hr,rfl,rfl,.inr (.inl ⟨i,id,c,rfl,rfl,rfl,hm,rfl,rfl,hs⟩)⟩,?_⟩
 rw [zql hr]
 exact k
theorem zva {d:Option Nat} {m g:Nat} {bb:Bool} {fo:Operand} {xs:List Operand} {af:List Nat} {os:List AOper} {f:FuncId} {args:List AV} {i id:Nat} {r c:AV} (hg:σ.e g=.bool bb) (h:(qL T (d.getD 0) (jD σ.e) (.call m fo xs)).run σ.h=.call f args [] [(i,id)] True)
  (hm:jJ 0 args=[i]) (den:Den P f args { r:=r,ms:=[c] }) (hr:zew 0 r=true) (hs:zfz (nth args i) c) (k:aops P T os ((σ.upd [(id,some ⟨c,false⟩)]).put d r) K):aops P T (⟨d,.call m fo xs,some (g,bb),af⟩ :: os) σ K:=by
 simp only [aops,astep,hg,if_true]
 rw [h]
 refine ⟨trivial,rfl,{ r:=r,ms:=[c] },[],den,⟨hr,rfl,rfl,.inr (.inl ⟨i,id,c,rfl,rfl,rfl,hm,rfl,rfl,hs⟩)⟩,?_⟩
 rw [zql hr]
 exact k

/-- Nobody can tell which: both ways. -/
theorem z29 {d:Option Nat} {op:AO} {af:List Nat} {os:List AOper} {v v':AV} {c:Prop} (h:(qL T (d.getD 0) (jD σ.e) op).run σ.h=.split c v v') (hb:zxy op=true) (k:c→aops P T os (σ.put d v) K) (k':aops P T os (σ.put d v') K):aops P T (⟨d,op,none,af⟩ :: os) σ K:=by
 simp only [aops,astep]
 rw [h]; exact ⟨hb,k,k'⟩
/-- What changes no memory. -/
theorem z1y {d:Option Nat} {op:AO} {af:List Nat} {os:List AOper} {v:AV} (h:(qL T (d.getD 0) (jD σ.e) op).run σ.h=.val v [] True) (k:aops P T os (σ.put d v) K):aops P T (⟨d,op,none,af⟩ :: os) σ K :=
 zrw h trivial rfl k
theorem ztc {d:Option Nat} {op:AO} {af:List Nat} {os:List AOper} {v:AV} {C:Prop} (h:(qL T (d.getD 0) (jD σ.e) op).run σ.h=.val v [] C) (hC:C) (k:aops P T os (σ.put d v) K):aops P T (⟨d,op,none,af⟩ :: os) σ K :=
 zrw h hC rfl k
theorem ztm {d:Option Nat} {op:AO} {g:Nat} {b:Bool} {af:List Nat} {os:List AOper} {v:AV} {C:Prop} (hg:σ.e g=.bool b) (h:(qL T (d.getD 0) (jD σ.e) op).run σ.h=.val v [] C) (hC:C) (k:aops P T os (σ.put d v) K) :
  aops P T (⟨d,op,some (g,b),af⟩ :: os) σ K :=
 zte hg h hC rfl k
theorem z7y {c:ACode} (e:σ=σ') (h:acode P T L c σ' Q):acode P T L c σ Q:=by rw [e]; exact h

theorem zyw {K K':St→Prop} (h:∀ σ,K σ→K' σ) {o:AOper} {σ:St} {E:Ev} (hE:ev P σ o K E):ev P σ o K' E:=by
 cases E with
 | bad=>exact hE
 | split c v v'=>exact ⟨hE.1,fun hc=>h _ (hE.2.1 hc),h _ hE.2.2⟩
 | val v u C=>exact ⟨hE.1,hE.2.1,h _ hE.2.2⟩
 | call f args u ms C =>
  obtain ⟨h1,h2,r,u2,h5,h6,h9⟩:=hE
  exact ⟨h1,h2,r,u2,h5,h6,h _ h9⟩
theorem zwt {K K':St→Prop} (h:∀ σ,K σ→K' σ) {o:AOper} {σ:St} (x:astep P T o σ K):astep P T o σ K':=by
 unfold astep at x ⊢
 split at x
 ·exact zyw h x
 ·split at x
  ·split at x
   ·rename_i hb; rw [if_pos hb]; exact zyw h x
   ·rename_i hb; rw [if_neg hb]; exact h _ x
  ·exact h _ x
  ·exact x
theorem zpv {K K':St→Prop} (h:∀ σ,K σ→K' σ):∀ (os:List AOper) (ts:List Tk) (σ:St),aopsT P T os ts σ K→aopsT P T os ts σ K'
 | [],[],σ,x=>h σ x
 | o :: os,t :: ts,σ,x=>zwt (K:=fun σ'=>tok T o σ σ' t=true∧aopsT P T os ts σ' K) (fun σ' y=>⟨y.1,zpv h os ts σ' y.2⟩) x
 | [],_ :: _,_,x=>x.elim
 | _ :: _,[],_,x=>x.elim
theorem zdo:∀ (c:ACode) (σ:St) {Q Q':AEx→St→Prop},(∀ ex σ,Q ex σ→Q' ex σ)→acode P T L c σ Q→acode P T L c σ Q'
 | .skip,σ,_,_,h,x=>h _ _ x
 | .region _ ops false,σ,_,_,h,x=>ze5 (fun σ' y=>h .normal _ y) _ _ x
 | .region _ ops true,σ,_,_,h,⟨ts,hd,x⟩=>⟨ts,hd,zpv (fun σ' y=>h .normal _ y) _ _ _ x⟩
 | .seq a b,σ,Q,Q',h,x=>zdo a σ (fun ex σ' hx=>by
   cases ex
   ·exact zdo b _ h hx
   ·exact h _ _ hx
   ·exact h _ _ hx) x
 | .cond c a b,σ,_,_,h,x=>by
  simp only [acode] at x ⊢
  split at x
  ·exact zdo a σ h x
  ·exact zdo b σ h x
  ·exact x
 | .block id a,σ,Q,Q',h,x=>zdo a σ (fun ex σ' hx=>by
   cases ex
   ·exact h _ _ hx
   ·simp only [blockK] at hx ⊢
    split at hx
    ·rename_i hb; rw [if_pos hb]; exact h _ _ hx
    ·rename_i hb; rw [if_neg hb]; exact h _ _ hx
   ·exact h _ _ hx) x
 | .loop a,σ,Q,Q',h,x=>fun X hX=>x X fun σ' hb=>hX σ' (zdo a σ' (fun ex σ'' hx=>by
   cases ex
   ·exact hx
   ·exact h _ _ hx
   ·exact h _ _ hx) hb)
 | .exit _,σ,_,_,h,x=>h _ _ x
 | .ret,σ,_,_,h,x=>h _ _ x
 | .other,_,_,_,_,x=>x

/-- Ways that meet again. -/
theorem yN {ι:Type} {a b:ACode} (emb:ι→St) (kG:ι→Prop) (hb:∀ x,kG x→acode P T L b (emb x) Q) (ha:acode P T L a σ (thenK (fun σ'=>∃ x,kG x∧keepFor L b σ'=emb x) Q)):acode P T L (.seq a b) σ Q:=by
 refine zdo a σ (fun ex σ' hx=>?_) ha
 cases ex
 ·obtain ⟨x,hp,e⟩:=hx
  show acode P T L b (keepFor L b σ') Q
  rw [e]; exact hb x hp
 ·exact hx
 ·exact hx

/-! ## Loops -/
/-- The z1m function that goes round and round. -/
inductive Goes {α β:Type} (body:α→Option (α⊕β)):α→β→Prop
 | stop {s:α} {r:β}:body s=some (.inr r)→Goes body s r
 | round {s s':α} {r:β}:body s=some (.inl s')→Goes body s' r→Goes body s r

open Classical in
noncomputable def yK {α β:Type} (body:α→Option (α⊕β)) (s:α):Option β :=
 if h:∃ r,Goes body s r then some (Classical.choose h) else none

theorem Goes.unique {α β:Type} {body:α→Option (α⊕β)} {s:α} {r r':β} (h:Goes body s r) (h':Goes body s r'):r=r':=by
 induction h with
 | stop h =>
  cases h' with
  | stop h2=>rw [h] at h2; cases h2; rfl
  | round h2 _=>rw [h] at h2; cases h2
 | round h _ ih =>
  cases h' with
  | stop h2=>rw [h] at h2; cases h2
  | round h2 g2=>rw [h] at h2; cases h2; exact ih g2

theorem zks {α β:Type} {body:α→Option (α⊕β)} {s:α} {r:β}:yK body s=some r ↔ Goes body s r:=by
 unfold yK
 constructor
 ·intro h
  split at h
  ·rename_i hx
   simp only [Option.some.injEq] at h
   rw [← h]; exact Classical.choose_spec hx
  ·cases h
 ·intro h
  have hx:∃ r,Goes body s r:=⟨r,h⟩
  rw [dif_pos hx]
  exact congrArg some ((Classical.choose_spec hx).unique h)

/-- One round. -/
theorem yR {α β:Type} (body:α→Option (α⊕β)) (s:α):yK body s=(body s).bind fun x=>match x with
  | .inl s'=>yK body s'
  | .inr r=>some r:=by
 apply Option.ext
 intro r
 rw [zks]
 constructor
 ·intro h
  cases h with
  | stop h=>simp [h]
  | round h g=>simp [h,zks.2 g]
 ·intro h
  cases hb:body s with
  | none=>rw [hb] at h; simp at h
  | some x =>
   rw [hb] at h
   cases x with
   | inl s'=>simp only [Option.bind_some] at h; exact .round hb (zks.1 h)
   | inr r'=>simp only [Option.bind_some,Option.some.injEq] at h; subst h; exact .stop hb

/-- A loop in the program against a loop of plain data. -/
theorem xU {α β:Type} {a:ACode} {emb:α→St} {body:α→Option (α⊕β)} {s:α} {r:β} {G:β→Prop} (h:yK body s=some r) (hG:G r)
  (hstep:∀ (X:St→Prop) (s:α) (x:α⊕β),body s=some x→(match x with | .inl s'=>X (emb s') | .inr r=>G r)→acode P T L a (emb s) (thenK (fun σ=>X (keepFor L a σ)) Q)) (hs:keepFor L a σ=emb s):acode P T L (.loop a) σ Q:=by
 intro X hX
 rw [hs]
 rw [zks] at h
 clear hs
 induction h with
 | stop h=>exact hX _ (hstep X _ _ h hG)
 | round h _ ih=>exact hX _ (hstep X _ _ h (ih hG))
theorem z3j {a:ACode} {X:St→Prop} {Q:AEx→St→Prop} (e:keepFor L a σ=σ') (h:X σ'):thenK (fun σ=>X (keepFor L a σ)) Q .normal σ:=by
 show X (keepFor L a σ)
 rw [e]; exact h

/-! ## Plain programs -/
def jA {α:Type} (c:Prop) [Decidable c] (x:Option α):Option α:=if c then x else none
theorem zT {α:Type} {c:Prop} [Decidable c] {x:Option α} {r:α} (h:jA c x=some r):c∧x=some r:=by
 unfold jA at h
 split at h
 ·rename_i hc; exact ⟨hc,h⟩
 ·cases h
theorem zY {α:Type} {c:Prop} [Decidable c] (hc:c) (x:Option α):jA c x=x:=if_pos hc
open Classical in
noncomputable def ifc {α:Type} (c:Prop) (x:Option α):Option α:=if c then x else none
theorem z1k {α:Type} {c:Prop} {x:Option α} {r:α} (h:ifc c x=some r):c∧x=some r:=by
 unfold ifc at h
 split at h
 ·rename_i hc; exact ⟨hc,h⟩
 ·cases h
theorem z30 {α:Type} {c:Prop} (hc:c) (x:Option α):ifc c x=x:=if_pos hc
theorem bind_some {α β:Type} {x:Option α} {f:α→Option β} {r:β} (h:x.bind f=some r):∃ a,x=some a∧f a=some r:=by
 cases x with
 | none=>cases h
 | some a=>exact ⟨a,rfl,h⟩
theorem map_some {α β:Type} {x:Option α} {f:α→β} {r:β} (h:x.map f=some r):∃ a,x=some a∧f a=r:=by
 cases x with
 | none=>cases h
 | some a=>exact ⟨a,rfl,by simpa using h⟩
theorem zV {α:Type} {b:Bool} {x y z:α} (hb:b=true) (h:(if b then x else y)=z):x=z:=by subst hb; exact h
theorem zW {α:Type} {b:Bool} {x y z:α} (hb:b=false) (h:(if b then x else y)=z):y=z:=by subst hb; exact h

abbrev Vec (α:Type) (n:Nat):={ l:List α // l.length=n }
def yO {α:Type} {n:Nat} (v:Vec α n) (j:Nat) (x:α):Vec α n:=⟨v.1.set j x,by simp [v.2]⟩
def rd {α:Type} [Inhabited α] (l:List α) (j:Nat):α:=l.getD j default
instance {α:Type} [Inhabited α] {n:Nat}:Inhabited (Vec α n):=⟨⟨List.replicate n default,by simp⟩⟩

theorem zik {α:Type} [Inhabited α] (f:α→AV) (l:List α) (j:Nat) (h:j < l.length):nth (l.map f) j=f (rd l j):=by
 simp [nth,rd,h]

end
end Go.Abs
/- Helps for printed proofs: loads and stores along paths in typed data, ends of code, arguments. For every program. -/
namespace Go.Abs
section
variable {P:Program} {T:Tys} {L:Live} {σ σ':St} {Q:AEx→St→Prop} {K:St→Prop}

/-! ## Arguments -/
inductive ArgLe:AV→AV→Prop
 | refl (a:AV):ArgLe a a
 | loose (a:AV):ArgLe a (Abs.loose a)
 | nil (s s':Nat) (t t':Bool) (h:t'=true→t=true):ArgLe (.sl s t []) (.sl s' t' [])
inductive ArgsLe:List AV→List AV→Prop
 | nil:ArgsLe [] []
 | cons {a b:AV} {as bs:List AV} (h:ArgLe a b) (t:ArgsLe as bs):ArgsLe (a :: as) (b :: bs)

theorem ArgLe.slot {ρ:Nat→Option Nat} {H:Hp} {S:Nat→Prop} {w:World} {a b:AV} (h:ArgLe a b) {v:Value} (hs:SlotRel ρ H S w a v):SlotRel ρ H S w b v:=by
 cases h with
 | refl=>exact hs
 | loose=>exact zii hs
 | nil s s' t t' h =>
  obtain ⟨a,cap,e,l,t,r⟩:=hs
  exact ⟨a,cap,e,l,fun q=>t (h q),.inl rfl⟩
theorem ArgsLe.slots {ρ:Nat→Option Nat} {H:Hp} {S:Nat→Prop} {w:World} {as bs:List AV} (h:ArgsLe as bs):∀ {vs:List Value},SlotsRel ρ H S w as vs→SlotsRel ρ H S w bs vs:=by
 induction h with
 | nil=>intro vs hs; exact hs
 | cons h _ ih=>rintro vs ⟨v,rest,e,h1,h2⟩; exact ⟨v,rest,e,h.slot h1,ih h2⟩

theorem Den.args {f:FuncId} {args args':List AV} {r:RV} (h:Den P f args' r) (m:jJ 0 args=[]) (m':jJ 0 args'=[]) (l:ArgsLe args args'):Den P f args r:=by
 have n1:=zd0 0 _ m
 have n2:=zd0 0 _ m'
 have e1:(jI args).h=fun _=>none:=by
  funext id
  show (look (kD 0 args) id).getD none=none
  rw [za3 0 _ n1]; rfl
 have e2:(jI args').h=fun _=>none:=by
  funext id
  show (look (kD 0 args') id).getD none=none
  rw [za3 0 _ n2]; rfl
 have e3:r.H args=r.H args':=by
  funext id
  simp only [RV.H,m,m']
 refine ⟨h.1,fun ρ0 B0 w cargs hent=>?_⟩
 have hent':Entry ρ0 B0 w args' cargs:=by
  obtain ⟨a,b⟩:=hent
  rw [kT 0 _ n1] at b
  rw [e1] at a b
  refine ⟨by rw [e2]; exact a,?_⟩
  rw [kT 0 _ n2,e2]
  exact l.slots b
 have:=h.2 ρ0 B0 w cargs hent'
 refine this.mono ?_
 rintro e w' ⟨v,ρ',rfl,a,b,c,d⟩
 rw [e2] at a c d
 rw [← e3] at a b
 exact ⟨v,ρ',rfl,by rw [e1]; exact a,b,by rw [e1]; exact c,by rw [e1]; exact d⟩

/-- The same, when the first argument is handed on to be written. -/
theorem Den.argsM {f:FuncId} {x:AV} {as as':List AV} {r:RV} (h:Den P f (x :: as') r) (m:jJ 1 as=[]) (m':jJ 1 as'=[]) (l:ArgsLe as as'):Den P f (x :: as) r:=by
 have n1:=zd0 1 _ m
 have n2:=zd0 1 _ m'
 have e0:(jI (x :: as)).h=(jI (x :: as')).h:=by
  funext id
  show (look (kD 0 (x :: as)) id).getD none=(look (kD 0 (x :: as')) id).getD none
  simp only [kD,Nat.zero_add,za3 1 _ n1,za3 1 _ n2]
 have e3:r.H (x :: as)=r.H (x :: as'):=by
  funext id
  simp only [RV.H,jJ,Nat.zero_add,m,m']
 refine ⟨h.1,fun ρ0 B0 w cargs hent=>?_⟩
 have hent':Entry ρ0 B0 w (x :: as') cargs:=by
  obtain ⟨a,b⟩:=hent
  rw [e0] at a b
  refine ⟨a,?_⟩
  simp only [uV,List.map_cons,Nat.zero_add,kT 1 _ n1] at b
  simp only [uV,List.map_cons,Nat.zero_add,kT 1 _ n2]
  obtain ⟨v,rest,e,h1,h2⟩:=b
  exact ⟨v,rest,e,h1,l.slots h2⟩
 have:=h.2 ρ0 B0 w cargs hent'
 refine this.mono ?_
 rintro e w' ⟨v,ρ',rfl,a,b,c,d⟩
 rw [← e0] at a c d
 rw [← e3] at a b
 exact ⟨v,ρ',rfl,a,b,c,d⟩

/-! ## Ends -/
theorem yI {id:Nat} {nb:St→Prop} (h:Q (.exit id) σ):thenK nb Q (.exit id) σ:=h
theorem xV {nb:St→Prop} (h:Q .ret σ):thenK nb Q .ret σ:=h
theorem xI {id:Nat} (h:Q .normal σ):blockK id Q .normal σ:=h
theorem zaz {id:Nat} (h:Q .ret σ):blockK id Q .ret σ:=h
theorem xQ {id:Nat} (h:Q .normal σ):blockK id Q (.exit id) σ:=by simp only [blockK,if_true]; exact h
theorem zx8 {id id':Nat} (hne:(Nat.beq id' id)=false) (h:Q (.exit id') σ):blockK id Q (.exit id') σ:=by
 have:¬ id'=id:=by intro e; subst e; simp [Nat.beq_refl] at hne
 simp only [blockK,if_neg this]; exact h
theorem z5d {ι:Type} {b:ACode} {emb:ι→St} {kG:ι→Prop} (x:ι) (hp:kG x) (e:keepFor L b σ=emb x):thenK (fun σ'=>∃ x,kG x∧keepFor L b σ'=emb x) Q .normal σ:=⟨x,hp,e⟩

/-! ## Names -/
def kR {α β:Type} (e:α) (f:α→β):β:=f e
theorem xP {α β:Type} {e:α} {f:α→Option β} {r:β} (h:kR e f=some r):∃ x,e=x∧f x=some r:=⟨e,rfl,h⟩

/-! ## Loads and stores along paths -/
structure LdOk (p:List Nat) (c:AV) (o:List Nat) (sz:Nat) (agg:Bool) (v:AV):Prop where
 has:zna p c
 off:zil p c=o
 size:zfg p c=sz
 agg':(atP p c).isAgg=agg
 plain:(atP p c).plain=true
 eq:atP p c=v
theorem LdOk.c {p:List Nat} {c:AV} {o:List Nat} {sz:Nat} {agg:Bool} {v:AV} (h:LdOk p c o sz agg v):zna p c∧zil p c=o∧zfg p c=sz∧(atP p c).isAgg=agg∧(atP p c).plain=true:=⟨h.has,h.off,h.size,h.agg',h.plain⟩
theorem LdOk.nil {c:AV} {sz:Nat} {agg:Bool} (h1:c.size=sz) (h2:c.isAgg=agg) (h3:c.plain=true):LdOk [] c [] sz agg c:=⟨trivial,rfl,h1,h2,h3,rfl⟩

theorem zrn {j:Nat} {p:List Nat} (c:AV) (h:zfg p (nth (zev c) j)=zp0 c j∨p ≠ []):zfg (j :: p) c=zfg p (nth (zev c) j):=by
 cases p with
 | nil =>
  rcases h with h | h
  ·simp only [zfg]; exact h.symm
  ·exact absurd rfl h
 | cons q p=>rfl

/-- One step down. The part has the size that its place has. -/
theorem LdOk.step {j:Nat} {p:List Nat} {c k:AV} {o:List Nat} {of sz:Nat} {agg:Bool} {v:AV} (hk:j < (zev c).length) (e:nth (zev c) j=k) (ho:zqq c j=of) (hs:zp0 c j=k.size) (h:LdOk p k o sz agg v):LdOk (j :: p) c (of :: o) sz agg v:=by
 subst e
 refine ⟨⟨hk,h.has⟩,by simp only [zil,ho,h.off],?_,h.agg',h.plain,h.eq⟩
 rw [zrn]
 ·exact h.size
 ·cases p with
  | nil=>left; simp only [zfg]; exact hs.symm
  | cons=>right; simp

theorem vlt {α:Type} {n:Nat} (x:Vec α n) {j:Int} (h:0≤j∧j < (n:Int)):j.toNat < x.1.length:=by rw [x.2]; omega
theorem llt {α:Type} {x:List α} {j:Int} (h:0≤j∧j < (x.length:Int)):j.toNat < x.length:=by omega
theorem zdp {α:Type} {x:List α} {f:α→AV} {j:Int} (h:0≤j∧j < (x.length:Int)):0≤j∧j < ((x.map f).length:Int):=by rw [List.length_map]; exact h

/-- A part of an array, or of a slice's row. -/
theorem LdOk.arr {α:Type} [Inhabited α] {f:α→AV} {l:List α} {s n j:Nat} {p o:List Nat} {sz:Nat} {agg:Bool} {v:AV} (hj:j < l.length) (hs:(f (rd l j)).size=s) (h:LdOk p (f (rd l j)) o sz agg v):LdOk (j :: p) (.arr s n (l.map f)) (j*s :: o) sz agg v :=
 LdOk.step (by simpa [zev] using hj) (zik f l j hj) rfl hs.symm h
theorem LdOk.row {α:Type} [Inhabited α] {f:α→AV} {l:List α} {s j:Nat} {p o:List Nat} {sz:Nat} {agg:Bool} {v:AV} (hj:j < l.length) (hs:(f (rd l j)).size=s) (h:LdOk p (f (rd l j)) o sz agg v):LdOk (j :: p) (.row s (l.map f)) (j*s :: o) sz agg v :=
 LdOk.step (by simpa [zev] using hj) (zik f l j hj) rfl hs.symm h
theorem LdOk.fld {szs:List Nat} {xs:List AV} {j:Nat} {p o:List Nat} {of sz:Nat} {agg:Bool} {v k:AV} (hj:Nat.blt j xs.length=true) (e:nth xs j=k) (ho:(szs.take j).sum=of) (hs:szs.getD j 0=k.size) (h:LdOk p k o sz agg v):LdOk (j :: p) (.struct szs xs) (of :: o) sz agg v :=
 LdOk.step (show j < xs.length from Nat.le_of_ble_eq_true hj) e ho hs h

structure StOk (p:List Nat) (c:AV) (o:List Nat) (sz:Nat) (v c':AV):Prop where
 has:zna p c
 off:zil p c=o
 size:zfg p c=sz
 vsize:v.size=sz
 ok:(!p.isEmpty || c.plain)=true
 eq:zp7 p c (loose v)=c'
 pl:c.plain=true∨p ≠ []
theorem StOk.nil {c v v':AV} {sz:Nat} (h1:c.size=sz) (h2:v.size=sz) (h3:c.plain=true) (h4:loose v=v'):StOk [] c [] sz v v':=⟨trivial,rfl,h1,h2,h3,h4,.inl h3⟩
theorem StOk.step {j:Nat} {p:List Nat} {c k k' c':AV} {o:List Nat} {of sz:Nat} {v:AV} (hk:j < (zev c).length) (e:nth (zev c) j=k) (ho:zqq c j=of) (hs:zp0 c j=k.size) (h:StOk p k o sz v k') (he:zh8 c ((zev c).set j k')=c'):StOk (j :: p) c (of :: o) sz v c':=by
 subst e
 refine ⟨⟨hk,h.has⟩,by simp only [zil,ho,h.off],?_,h.vsize,rfl,by simp only [zp7,h.eq]; exact he,.inr (by simp)⟩
 rw [zrn]
 ·exact h.size
 ·cases p with
  | nil=>left; simp only [zfg]; exact hs.symm
  | cons=>right; simp
theorem StOk.arr {α:Type} [Inhabited α] {f:α→AV} {l:List α} {s n j:Nat} {p o:List Nat} {sz:Nat} {v:AV} {y:α} (hj:j < l.length) (hs:(f (rd l j)).size=s) (h:StOk p (f (rd l j)) o sz v (f y)):StOk (j :: p) (.arr s n (l.map f)) (j*s :: o) sz v (.arr s n ((l.set j y).map f)) :=
 StOk.step (by simpa [zev] using hj) (zik f l j hj) rfl hs.symm h (by simp [zh8,zev,List.map_set])
theorem StOk.row {α:Type} [Inhabited α] {f:α→AV} {l:List α} {s j:Nat} {p o:List Nat} {sz:Nat} {v:AV} {y:α} (hj:j < l.length) (hs:(f (rd l j)).size=s) (h:StOk p (f (rd l j)) o sz v (f y)):StOk (j :: p) (.row s (l.map f)) (j*s :: o) sz v (.row s ((l.set j y).map f)) :=
 StOk.step (by simpa [zev] using hj) (zik f l j hj) rfl hs.symm h (by simp [zh8,zev,List.map_set])
theorem StOk.fld {szs:List Nat} {xs:List AV} {j:Nat} {p o:List Nat} {of sz:Nat} {v k k':AV} (hj:Nat.blt j xs.length=true) (e:nth xs j=k) (ho:(szs.take j).sum=of) (hs:szs.getD j 0=k.size) (h:StOk p k o sz v k'):StOk (j :: p) (.struct szs xs) (of :: o) sz v (.struct szs (xs.set j k')) :=
 StOk.step (show j < xs.length from Nat.le_of_ble_eq_true hj) e ho hs h rfl

theorem zM {t d id:Nat} {a:Operand} {e:Operand→AV} {H:Hp} {p o:List Nat} {c v:AV} {f:Bool} {i:TyA} (hi:look T t=some i) (ha:e a=.own id p o) (hb:H id=some ⟨c,f⟩) (h:LdOk p c o i.size i.agg v) :
  (qL T d e (.load t a)).run H=.val v [] (zna p c∧zil p c=o∧zfg p c=i.size∧(atP p c).isAgg=i.agg∧(atP p c).plain=true):=by
 simp only [qL,hi,ha,Ask.run,hb,h.eq]
theorem kC {t d:Nat} {a:Operand} {e:Operand→AV} {H:Hp} {p o:List Nat} {c v:AV} {i:TyA} (hi:look T t=some i) (ha:e a=.ref c p o) (h:LdOk p c o i.size i.agg v) :
  (qL T d e (.load t a)).run H=.val v [] (zna p c∧zil p c=o∧zfg p c=i.size∧(atP p c).isAgg=i.agg∧(atP p c).plain=true):=by
 simp only [qL,hi,ha,Ask.run,h.eq]
theorem qG {t d id:Nat} {a x:Operand} {e:Operand→AV} {H:Hp} {p o:List Nat} {c v c':AV} {u:Upd} {i:TyA} (hi:look T t=some i) (ha:e a=.own id p o) (hx:∀ k,(frz (e x) k).run H=(k v u).run H) (hb:H id=some ⟨c,false⟩) (h:StOk p c o i.size v c') :
  (qL T d e (.store t a x)).run H=.val .top ((id,some ⟨c',false⟩) :: u) (zna p c∧zil p c=o∧zfg p c=i.size∧v.size=i.size∧u.all (fun q=>q.1 != id)=true∧(!p.isEmpty || c.plain)=true):=by
 simp only [qL,hi,ha,hx,Ask.run,hb,h.eq]
theorem StOk.c {p:List Nat} {c:AV} {o:List Nat} {sz:Nat} {v c':AV} (h:StOk p c o sz v c') {u:Upd} {id:Nat} (hu:u.all (fun q=>q.1 != id)=true):zna p c∧zil p c=o∧zfg p c=sz∧v.size=sz∧u.all (fun q=>q.1 != id)=true∧(!p.isEmpty || c.plain)=true:=⟨h.has,h.off,h.size,h.vsize,hu,h.ok⟩

/-- An element of an array that is a value. -/
theorem z42 {α:Type} [Inhabited α] {f:α→AV} {l:List α} {t d s n el:Nat} {b:Nat} {z:AV} {sz:Nat} {a x:Operand} {e:Operand→AV} {H:Hp} {i:TyA} {k:IntKind} {j:Int} (hi:look T t=some ⟨.arr n el,s,b,z⟩) (he:look T el=some i) (ha:e a=.arr sz n (l.map f)) (hx:e x=.int k j) (hj:j.toNat < l.length) :
  (qL T d e (.index t a x)).run H=.val (f (rd l j.toNat)) [] (0≤j∧j < n∧n=n∧sz=i.size∧(f (rd l j.toNat)).isAgg=i.agg∧(f (rd l j.toNat)).plain=true):=by
 simp only [qL,hi,he,ha,hx,Ask.run,zik f l _ hj]

theorem all_nil {α:Type} {p:α→Prop}:∀ x∈([]:List α),p x:=by simp
theorem all_cons {α:Type} {p:α→Prop} {a:α} {l:List α} (h:p a) (t:∀ x∈l,p x):∀ x∈a :: l,p x:=by
 intro x hx
 rcases List.mem_cons.1 hx with rfl | hx
 ·exact h
 ·exact t x hx

theorem zyg {α:Type} [DecidableEq α] {f:α→AV} (hf:∀ a b,eqb (f a) (f b)=decide (a=b)):∀ (x y:List α),zgr (x.map f) (y.map f)=decide (x=y)
 | [],[]=>by simp [zgr]
 | [],_ :: _=>by simp [zgr]
 | _ :: _,[]=>by simp [zgr]
 | a :: x,b :: y=>by
  simp only [List.map_cons,zgr,hf,zyg hf x y,List.cons.injEq]
  rw [Bool.eq_iff_iff]; simp

end
end Go.Abs
/- Operations on typed data: for every program. -/
namespace Go.Abs
section
variable {T:Tys} {H:Hp} {e:Operand→AV} {α:Type}

def yH {α:Type} (n:Nat) (z:α):Vec α n:=⟨List.replicate n z,by simp⟩

theorem xX {d m t el s b sz:Nat} {z:AV} {tt:Bool} {x:Operand} {f:α→AV} {l:List α} (ht:look T t=some ⟨.slice el,s,b,z⟩) (hx:e x=.sl sz tt (l.map f)) :
  (qL T d e (.blt m .len [x] [t])).run H=.val (.int .i64 (l.length:Int)) [] True:=by
 simp only [qL,List.map_cons,List.map_nil,ht,hx,Ask.run,List.length_map]
theorem zqy {d m t el s b sz id:Nat} {z:AV} {ff:Bool} {x:Operand} {f:α→AV} {l:List α} (ht:look T t=some ⟨.slice el,s,b,z⟩) (hx:e x=.osl id) (hb:H id=some ⟨.row sz (l.map f),ff⟩) :
  (qL T d e (.blt m .len [x] [t])).run H=.val (.int .i64 (l.length:Int)) [] True:=by
 simp only [qL,List.map_cons,List.map_nil,ht,hx,Ask.run,hb,List.length_map]

theorem zw4 {d t el s b:Nat} {z:AV} {l c:Operand} {k k':IntKind} {f:α→AV} {y:α} {i:TyA} {a a':Int} (ht:look T t=some ⟨.slice el,s,b,z⟩) (he:look T el=some i) (hz:i.zero=f y) (hl:e l=.int k a) (hc:e c=.int k' a') (hn:H (jZ d 0)=none) :
  (qL T d e (.mkslice t l c)).run H=.val (.osl (jZ d 0)) [(jZ d 0,some ⟨.row i.size ((List.replicate a.toNat y).map f),false⟩)] (a'=a∧0≤a∧a≤140737488355328∧i.bytes*a≤140737488355328∧0 < i.size):=by
 simp only [qL,ht,he,hl,hc,zem,Ask.run,hn,hz,List.map_replicate]

/-- To a slice of the call's own. -/
theorem zki {d m t t2 el el2 s b s2 b2 sz id:Nat} {z z2:AV} {a x:Operand} {tt:Bool} {f:α→AV} {l l2:List α} {i:TyA} {u:Upd} (ht:look T t=some ⟨.slice el,s,b,z⟩) (ht2:look T t2=some ⟨.slice el2,s2,b2,z2⟩) (he:look T el=some i) (ha:e a=.osl id)
  (hx:∀ k,(frz (e x) k).run H=(k (.sl sz tt (l2.map f)) u).run H) (hb:H id=some ⟨.row i.size (l.map f),false⟩) (hn:H (jZ d 0)=none) :
  (qL T d e (.blt m .append [a,x] [t,t2])).run H=.val (.osl (jZ d 0)) ((jZ d 0,some ⟨.row i.size ((l ++ l2).map f),false⟩) :: (id,none) :: u)
   (i.size=i.size∧(l2.map f=[]∨sz=i.size)∧((l.map f).length + (l2.map f).length)*i.bytes≤140737488355328∧0 < i.bytes∧0 < i.size∧u.all (fun q=>q.1 != id)=true):=by
 simp only [qL,List.map_cons,List.map_nil,ht,ht2,he,hx,ha,zem,Ask.run,hb,hn,List.map_append]
theorem zsi {f:α→AV} {l l2:List α} {s sz by' id:Nat} {u:Upd} (h:(l.length + l2.length)*by'≤140737488355328) (hs:l2.map f=[]∨sz=s) (hb:Nat.blt 0 by'=true) (hz:Nat.blt 0 s=true) (hu:u.all (fun q=>q.1 != id)=true) :
  s=s∧(l2.map f=[]∨sz=s)∧((l.map f).length + (l2.map f).length)*by'≤140737488355328∧0 < by'∧0 < s∧u.all (fun q=>q.1 != id)=true:=by
 refine ⟨rfl,hs,by rw [List.length_map,List.length_map]; exact h,Nat.le_of_ble_eq_true hb,Nat.le_of_ble_eq_true hz,hu⟩
/-- To a slice with no room left: into new memory. -/
theorem z0m {d t t2 el el2 s b s2 b2 sz sz':Nat} {z z2:AV} {a x:Operand} {tt:Bool} {f:α→AV} {l l2:List α} {i:TyA} {u:Upd} (ht:look T t=some ⟨.slice el,s,b,z⟩) (ht2:look T t2=some ⟨.slice el2,s2,b2,z2⟩) (he:look T el=some i) (ha:e a=.sl sz' true (l.map f))
  (hx:∀ k,(frz (e x) k).run H=(k (.sl sz tt (l2.map f)) u).run H) (hn:H (jZ d 0)=none) :
  (qL T d e (.blt 0 .append [a,x] [t,t2])).run H=.val (.osl (jZ d 0)) ((jZ d 0,some ⟨.row i.size ((l ++ l2).map f),false⟩) :: u)
   ((l.map f=[]∨l2.map f ≠ [])∧(l.map f=[]∨sz'=i.size)∧(l2.map f=[]∨sz=i.size)∧((l.map f).length + (l2.map f).length)*i.bytes≤140737488355328∧0 < i.bytes∧0 < i.size):=by
 simp only [qL,List.map_cons,List.map_nil,ht,ht2,he,hx,ha,zem,Ask.run,hn,List.map_append]
theorem z5w {f:α→AV} {l l2:List α} {s sz sz' by':Nat} (h:(l.length + l2.length)*by'≤140737488355328) (hk:l.map f=[]∨l2.map f ≠ []) (hs':l.map f=[]∨sz'=s) (hs:l2.map f=[]∨sz=s) (hb:Nat.blt 0 by'=true) (hz:Nat.blt 0 s=true) :
  (l.map f=[]∨l2.map f ≠ [])∧(l.map f=[]∨sz'=s)∧(l2.map f=[]∨sz=s)∧((l.map f).length + (l2.map f).length)*by'≤140737488355328∧0 < by'∧0 < s:=by
 refine ⟨hk,hs',hs,by rw [List.length_map,List.length_map]; exact h,Nat.le_of_ble_eq_true hb,Nat.le_of_ble_eq_true hz⟩

/-! Equality of arrays. -/
theorem z2t [DecidableEq α] {n:Nat} {f:α→AV} (hf:∀ a b,eqb (f a) (f b)=decide (a=b)) (x y:Vec α n):zgr (x.1.map f) (y.1.map f)=decide (x=y):=by
 rw [zyg hf,Bool.eq_iff_iff]
 simp [Subtype.ext_iff]
theorem mA {k:IntKind} (a b:Int):eqb (.int k a) (.int k b)=decide (a=b):=by
 simp only [eqb]; rw [Bool.eq_iff_iff]; simp
theorem mD [DecidableEq α] {n s m:Nat} {f:α→AV} (hf:∀ a b,eqb (f a) (f b)=decide (a=b)) (x y:Vec α n):eqb (.arr s m (x.1.map f)) (.arr s m (y.1.map f))=decide (x=y):=by
 simp only [eqb]; exact z2t hf x y
theorem mB [Inhabited α] {t el sz n g:Nat} {s b:Nat} {z:AV} {f:α→AV} {x y:Vec α n} {j:TyA} (ht:look T t=some ⟨.arr n el,s,b,z⟩) (he:look T el=some j) (hj:j.size=sz) (ha:∀ a b:α,(f a).isAgg=(f b).isAgg) (h:∀ a b:α,Cmp T g el (f a) (f b)) :
  Cmp T (g + 1) t (.arr sz n (x.1.map f)) (.arr sz n (y.1.map f)):=by
 simp only [Cmp,ht]
 refine ⟨trivial,trivial,trivial,⟨j,he,hj⟩,fun q hq=>?_⟩
 rw [zik f _ _ (by rw [x.2]; exact hq),zik f _ _ (by rw [y.2]; exact hq)]
 exact ⟨ha _ _,h _ _⟩
theorem mE {t g:Nat} {s b:Nat} {z:AV} {k k':IntKind} {a c:Int} (ht:look T t=some ⟨.int k',s,b,z⟩):Cmp T (g + 1) t (.int k a) (.int k c):=by
 simp only [Cmp,ht]

/-! Equality of structs. -/
theorem zs4 {d t:Nat} {x y:Operand} {szs szs':List Nat} {xs ys:List AV} {r:Bool} (hx:e x=.struct szs xs) (hy:e y=.struct szs' ys) (h:zgr xs ys=r) :
  (qL T d e (.bin .eql t x y)).run H=.val (.bool r) [] (Cmp T 9 t (.struct szs xs) (.struct szs' ys)):=by
 subst h
 simp only [qL,hx,hy,eqb]
 cases zpb y <;> rfl
theorem zkn {d t:Nat} {x y:Operand} {szs szs':List Nat} {xs ys:List AV} {r:Bool} (hx:e x=.struct szs xs) (hy:e y=.struct szs' ys) (h:zgr xs ys=r) :
  (qL T d e (.bin .neq t x y)).run H=.val (.bool (!r)) [] (Cmp T 9 t (.struct szs xs) (.struct szs' ys)):=by
 subst h
 simp only [qL,hx,hy,eqb]
 cases zpb y <;> rfl
theorem zd5 [DecidableEq α] {f:α→AV} (hf:∀ a b,eqb (f a) (f b)=decide (a=b)) (a b:α):zgr [f a] [f b]=decide (a=b):=by
 simp only [zgr,hf,Bool.and_true]
theorem zct {β:Type} [DecidableEq α] [DecidableEq β] {f:α→AV} {xs ys:List AV} {a b:α×β} (hf:∀ a b,eqb (f a) (f b)=decide (a=b)) (h:zgr xs ys=decide (a.2=b.2)):zgr (f a.1 :: xs) (f b.1 :: ys)=decide (a=b):=by
 simp only [zgr,hf,h]
 rw [Bool.eq_iff_iff]
 simp [Prod.ext_iff]
def CmpL (T:Tys) (g:Nat):List (Nat×Nat)→List AV→List AV→Prop
 | f :: fs,x :: xs,y :: ys=>Cmp T g f.2 x y∧CmpL T g fs xs ys
 | _,_,_=>True
theorem zyt {g:Nat}:∀ (fs:List (Nat×Nat)) (xs ys:List AV),CmpL T g fs xs ys→∀ q,q < fs.length→q < xs.length→q < ys.length→Cmp T g (fs.getD q (0,0)).2 (nth xs q) (nth ys q)
 | [],_,_,_,_,h,_,_=>by simp at h
 | _ :: _,[],_,_,_,_,h,_=>by simp at h
 | _ :: _,_ :: _,[],_,_,_,_,h=>by simp at h
 | f :: fs,x :: xs,y :: ys,h,0,_,_,_=>h.1
 | f :: fs,x :: xs,y :: ys,h,q + 1,h1,h2,h3=>by
  have:=zyt fs xs ys h.2 q (by simpa using h1) (by simpa using h2) (by simpa using h3)
  exact this
theorem za4 {t g:Nat} {fs:List (Nat×Nat)} {szs:List Nat} {xs ys:List AV} {s b:Nat} {z:AV} (ht:look T t=some ⟨.struct fs,s,b,z⟩) (h1:xs.length=szs.length) (h2:ys.length=szs.length) (h3:fs.length=szs.length) (h4:zd9 T 0 fs szs=true) (h:CmpL T g fs xs ys) :
  Cmp T (g + 1) t (.struct szs xs) (.struct szs ys):=by
 simp only [Cmp,ht]
 exact ⟨trivial,h1,h2,h4,fun q hq=>zyt fs xs ys h q (by omega) (by omega) (by omega)⟩
/-- A slice with no room left, kept in a variable. -/
theorem zn2 {d t el s b:Nat} {z:AV} {x:Operand} {tt:Bool} {f:α→AV} {l:List α} {i:TyA} (ht:look T t=some ⟨.slice el,s,b,z⟩) (he:look T el=some i) (hx:e x=.sl i.size tt (l.map f)) :
  (qL T d e (.asg 1 x t)).run H=.val (.sl i.size false (l.map f)) [] True:=by
 cases l <;> cases tt <;> simp [qL,ht,he,hx,Ask.run,frz,AV.plain,loose]

/-! Parts of slices. -/
/-- What is left of a row whose end has been cleared. -/
def z7k (sz:Nat) (xs:List AV) (n:Nat) (z:AV):AV:=.row sz (xs.take n ++ List.replicate (xs.length - n) z)
theorem zzu {d t el s b:Nat} {z:AV} {x hi mx:Operand} {sz:Nat} {tt:Bool} {f:α→AV} {l:List α} {i:TyA} {k k':IntKind} {a a':Int} {u:Upd} (ht:look T t=some ⟨.slice el,s,b,z⟩) (he:look T el=some i) (hl:e hi=.int k a) (hm:e mx=.int k' a') (hx:∀ k,(frz (e x) k).run H=(k (.sl sz tt (l.map f)) u).run H) :
  (qL T d e (.slice t x none (some hi) (some mx))).run H=.val (.sl sz true ((l.take a.toNat).map f)) u (0≤a∧a≤((l.map f).length:Int)∧a'=a):=by
 simp only [qL,ht,he,hx,Option.map_some,Option.map_none,hl,hm,Ask.run,List.map_take]
theorem z2z {x:List α} {f:α→AV} {j:Int} (h:j≤(x.length:Int)):j≤((x.map f).length:Int):=by rw [List.length_map]; exact h

end
end Go.Abs
