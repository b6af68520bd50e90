/- Own texts, put together. -/
import Derived.Test.YtebfhlnfmkhmcaaGreatPlain1
import Derived.Test.YtebfhlnfmkhmcaaGreatFn1
import Derived.Test.YtebfhlnfmkhmcaaGreatFn2
import Derived.Test.YtebfhlnfmkhmcaaGreatFn3
import Derived.Test.YtebfhlnfmkhmcaaGreatFn4
import Derived.Test.YtebfhlnfmkhmcaaGreatFn5
import Derived.Test.YtebfhlnfmkhmcaaGreatFn6
import Derived.Test.YtebfhlnfmkhmcaaGreatFn7
import Derived.Test.YtebfhlnfmkhmcaaGreatFn8
import Derived.Test.YtebfhlnfmkhmcaaGreatFn9
import Derived.Test.YtebfhlnfmkhmcaaGreatFn10
import Derived.Test.YtebfhlnfmkhmcaaGreatFn11
import Derived.Test.YtebfhlnfmkhmcaaGreatFn12
set_option linter.unusedSimpArgs false
set_option linter.unusedVariables false
/- A discriminant has no square factors. -/
namespace Go.Proofs.YtebfhlnfmkhmcaaGreat
open Go.Abs
variable {P:Pri}
def ddc (a:Nat→Int) (i:Nat):Int:=((i + 1:Nat):Int)*a (i + 1)
theorem z0j (a b:Nat→Int) (k:Nat):((k + 1:Nat):Int)*conv a b (k + 1)=conv (ddc a) b k + conv a (ddc b) k:=by
 have h1:((k + 1:Nat):Int)*conv a b (k + 1)=vE (k + 2) (fun i=>(i:Int)*a i*b (k + 1 - i)) + vE (k + 2) (fun i=>a i*(((k + 1 - i:Nat):Int)*b (k + 1 - i))):=by
  unfold conv cv
  rw [← zh7,← zkq]
  refine qW _ fun i hi=>?_
  rw [if_pos (by omega)]
  have e:((k + 1:Nat):Int)=(i:Int) + ((k + 1 - i:Nat):Int):=by omega
  rw [e,Int.add_mul,Int.mul_assoc,Int.mul_left_comm (a i)]
 have h2:vE (k + 2) (fun i=>(i:Int)*a i*b (k + 1 - i))=conv (ddc a) b k:=by
  rw [zha]
  unfold conv cv
  rw [show ((0:Nat):Int)*a 0*b (k + 1 - 0)=0 by simp,Int.zero_add]
  refine qW _ fun i hi=>?_
  rw [if_pos (by omega),show k + 1 - (i + 1)=k - i by omega]
  rfl
 have h3:vE (k + 2) (fun i=>a i*(((k + 1 - i:Nat):Int)*b (k + 1 - i)))=conv a (ddc b) k:=by
  simp only [vE]
  unfold conv cv
  simp only [vE]
  rw [show k + 1 - (k + 1)=0 by omega]
  have e:a (k + 1)*(((0:Nat):Int)*b 0)=0:=by simp
  rw [e,Int.add_zero]
  congr 1
  ·refine qW _ fun i hi=>?_
   rw [if_pos (by omega),show k + 1 - i=k - i + 1 by omega]
   rfl
  ·rw [if_pos (by omega),show k + 1 - k=k - k + 1 by omega]
   rfl
 rw [h1,h2,h3]
/-- The derivative. -/
def dx (a:PP P):PP P:=⟨ofF a.len fun i=>ddc a.c i % P.p,zkp fun _ _=>⟨Int.emod_nonneg _ (by have:=P.pos; omega),Int.emod_lt_of_pos _ P.pos⟩⟩
theorem z3m (a:PP P) (i:Nat):(dx a).c i=ddc a.c i % P.p:=by
 show rd (ofF a.len fun i=>ddc a.c i % P.p) i=_
 rw [znu]
 intro j hj
 have:a.c (j + 1)=0:=vS (by have:a.1.length≤j:=hj; omega)
 unfold ddc
 rw [this,Int.mul_zero]
 rfl
theorem z5v (x y:PP P):dx (x*y)=dx x*y + x*dx y:=ze1 fun k=>by
 rw [z3m,zf3,zm9,zm9]
 have h1:conv (dx x).c y.c k % P.p=conv (ddc x.c) y.c k % P.p:=zj6 (fun i=>by rw [z3m,Int.emod_emod]) (fun _=>rfl) k
 have h2:conv x.c (dx y).c k % P.p=conv x.c (ddc y.c) k % P.p:=zj6 (fun _=>rfl) (fun i=>by rw [z3m,Int.emod_emod]) k
 rw [h1,h2,← Int.add_emod,← z0j]
 unfold ddc
 rw [zm9,Int.mul_emod,Int.emod_emod,← Int.mul_emod]
theorem zxe (p:Int) (a:V64):∀ i,i≤63→∀ j,j < 64→rd (dvl p a i).1 j=if j < i then ((j + 1:Nat):Int)*rd a.1 (j + 1) % p else 0
 | 0,_,j,hj=>by rw [if_neg (by omega),dvl,zgw _ hj]
 | i + 1,h,j,hj=>by
  rw [dvl,zbc _ _ _ _ (by omega),zxe p a i (by omega) j hj]
  by_cases h1:j=i
  ·rw [if_pos h1,if_pos (by omega),h1]
  ·rw [if_neg h1]
   by_cases h2:j < i
   ·rw [if_pos h2,if_pos (by omega)]
   ·rw [if_neg h2,if_neg (by omega)]
theorem z0z {d:V64} (hb:IsB d) (h:mX P.p d=true):∃ (D:PP P) (G:Nat),row d=D.1∧Dsc D G∧G≤2:=by
 simp only [mX,Bool.and_eq_true,decide_eq_true_eq] at h
 obtain ⟨⟨⟨⟨_,hs⟩,h2⟩,h3⟩,h4⟩:=h
 have hr:=vZ hb hs
 have hrr:=zak hr
 have hv:=zak (zso P.two.1 d)
 let D:PP P:=⟨row d,hrr⟩
 let E:PP P:=⟨row (dv P.p d),hv⟩
 have hD0:D ≠ 0:=fun e=>by
  have:D.1.length=0:=by rw [e]; rfl
  have:(row d).length=0:=this
  omega
 obtain ⟨g,hg,_,_,hdv⟩:=z2a (a:=D) (b:=E) (jK d) (jK _) (.inl hD0)
 have hg1:g.1.length=1:=by rw [← hg]; exact h4
 have hE:E=dx D:=ze1 fun i=>by
  rw [z3m]
  show rd (row (dv P.p d)) i=((i + 1:Nat):Int)*rd (row d) (i + 1) % P.p
  by_cases hi:i < 63
  ·rw [zpx _ (by omega),zpx _ (by omega)]
   unfold dv
   rw [zxe _ _ 63 (Nat.le_refl _) i (by omega),if_pos hi]
  ·have e0:rd (row d) (i + 1)=0:=vS (by have:=jK d; omega)
   rw [e0,Int.mul_zero,Int.zero_emod]
   by_cases hi':i=63
   ·rw [zpx _ (by omega)]
    unfold dv
    rw [zxe _ _ 63 (Nat.le_refl _) i (by omega),if_neg hi]
   ·exact vS (by have:=jK (dv P.p d); omega)
 refine ⟨D,((row d).length - 2) / 2,rfl,⟨?_,?_,?_⟩,by omega⟩
 ·show (row d).length=_
  omega
 ·intro π hπ hd
  obtain ⟨w,hw⟩:=hd
  rw [← zN.mul_assoc] at hw
  have k1:Dv π D:=⟨w*π,hw⟩
  have k2:Dv π E:=by
   rw [hE,hw,z5v]
   exact zN.dv_add (zN.dv_mul (zN.dv_refl π) _) (zN.dv_mul' (zN.dv_mul (zN.dv_refl π) w) _)
  have k3:=zds ((hdv π).2 ⟨k1,k2⟩) (fun e=>by
   rw [e] at hg1
   have:(0:PP P).1.length=0:=rfl
   omega)
  have k4:g.len=1:=hg1
  have:=hπ.1
  omega
 ·intro e
  apply h2
  show (P.n:Int)=2
  rw [e]
  rfl
end Go.Proofs.YtebfhlnfmkhmcaaGreat
/- Loops that look for an element. -/
namespace Go.Abs
theorem znb {α β:Type} [Inhabited α] {l:List α} (b:α→Bool) (v:Nat→β) {body:Int→Option (Int⊕(Unit⊕β))} (h1:∀ i:Nat,i < l.length→body (i:Int)=some (if b (rd l i) then .inr (.inr (v i)) else .inl ((i + 1:Nat):Int))) (h2:body (l.length:Int)=some (.inr (.inl ()))) :
  ∃ r,yK body 0=some r∧((r=.inl ()∧l.any b=false)∨(∃ i,r=.inr (v i)∧l.any b=true)):=by
 have key:∀ (m i:Nat),i + m=l.length→(l.take i).any b=false→∃ r,yK body (i:Int)=some r∧((r=.inl ()∧l.any b=false)∨(∃ i,r=.inr (v i)∧l.any b=true)):=by
  intro m
  induction m with
  | zero =>
   intro i hi ha
   have:i=l.length:=by omega
   subst this
   rw [List.take_length] at ha
   exact ⟨.inl (),by rw [yR,h2]; rfl,.inl ⟨rfl,ha⟩⟩
  | succ m ih =>
   intro i hi ha
   have hil:i < l.length:=by omega
   have er:rd l i=l[i]:=by simp [rd,hil]
   cases e:b (rd l i) with
   | true =>
    refine ⟨.inr (v i),by rw [yR,h1 i hil,e]; rfl,.inr ⟨i,rfl,?_⟩⟩
    rw [List.any_eq_true]
    exact ⟨l[i],List.getElem_mem _,by rw [← er]; exact e⟩
   | false =>
    obtain ⟨r,k1,k2⟩:=ih (i + 1) (by omega) (by rw [List.take_succ_eq_append_getElem hil,List.any_append,ha,← er]; simp [e])
    refine ⟨r,?_,k2⟩
    rw [yR,h1 i hil,e]
    exact k1
 exact key l.length 0 (by omega) (by simp)
theorem zpg {α:Type} (l:List α) (b:α→Bool):l.all b=!(l.any fun x=>!b x):=by
 induction l with
 | nil=>rfl
 | cons x l ih=>simp only [List.all_cons,List.any_cons,ih,Bool.not_or,Bool.not_not]
theorem z2j {α:Type} [Inhabited α] {l:List α} {i:Nat} (h:i < l.length):rd l i∈l:=by
 have:rd l i=l[i]:=by simp [rd,h]
 rw [this]; exact List.getElem_mem _
end Go.Abs
/- Forms and codes on both sides. -/
namespace Go.Proofs.YtebfhlnfmkhmcaaGreat
open Go.Abs
def IsBF (f:V64×V64):Prop:=IsB f.1∧IsB f.2
/-- Is f a form? -/
noncomputable def jV (p:Int) (d:V64) (f:V64×V64):Bool :=
 uM p f.1 && (uM p f.2 && (decide (wG (row f.1)=1) && (decide ((row f.1).length≤13) && (decide ((row f.2).length < (row f.1).length) && isF p (row d) (row f.1) (row f.2)))))
/-- Is it reduced? -/
def rdB (d:V64) (f:V64×V64):Bool:=decide ((row f.1).length≤(row d).length / 2)
noncomputable def zae (p:Int) (d:V64) (rng rd:Bool) (l:List (V64×V64)):Int :=
 if (mX p d && l.all (jV p d))=true then (if rng=true then (if (rd && !l.all (rdB d))=true then 5 else 0) else 2) else 1
theorem zp1 {p:Int} (hp:isP p=true) {d:V64} (hd:Res p d) (ld:(row d).length≤6) {f:V64×V64} (hf:IsBF f):wZ p d f=some (jV p d f):=by
 obtain ⟨a,b⟩:=f
 obtain ⟨ha,hb⟩:=hf
 have ha':IsB a:=ha
 have hb':IsB b:=hb
 by_cases h1:uM p a=true
 ·by_cases h2:uM p b=true
  ·by_cases h3:wG (row a)=1
   ·by_cases h4:(row a).length≤13
    ·by_cases h5:(row b).length < (row a).length
     ·have hA:=zak (vZ ha' h1)
      have hB:=zak (vZ hb' h2)
      have h6:=zvu hp hd ld hA hB h3 h4 h5
      rw [zfx,zfx] at h6
      rw [h6]
      simp only [jV,h1,h2,decide_eq_true h3,decide_eq_true h4,decide_eq_true h5,Bool.true_and]
     ·have e:decide ((row a).length≤13)=true:=decide_eq_true h4
      have e1:decide ((((row a).length:Int) - 1) > 12)=false:=decide_eq_false (by omega)
      have e2:decide ((((row b).length:Int) - 1) ≥ ((row a).length:Int) - 1)=true:=decide_eq_true (by omega)
      simp only [wZ,zjb ha',zjb hb',zkm,zex,h1,h2,hp,decide_eq_true h3,e1,e2,Option.bind_some,Bool.and_self,Bool.not_true,Bool.false_eq_true,if_false,if_true,jV,decide_eq_true h4,decide_eq_false h5,Bool.false_and,Bool.and_false,Bool.true_and]
    ·have e1:decide ((((row a).length:Int) - 1) > 12)=true:=decide_eq_true (by omega)
     simp only [wZ,zjb ha',zjb hb',zkm,zex,h1,h2,hp,decide_eq_true h3,e1,Option.bind_some,Bool.and_self,Bool.not_true,Bool.false_eq_true,if_false,if_true,jV,decide_eq_false h4,Bool.false_and,Bool.and_false,Bool.true_and]
   ·simp only [wZ,zjb ha',zjb hb',zkm,h1,h2,hp,decide_eq_false h3,Option.bind_some,Bool.and_self,Bool.not_true,Bool.not_false,Bool.false_eq_true,if_false,if_true,jV,Bool.false_and,Bool.and_false,Bool.true_and]
  ·have h2':uM p b=false:=by simpa using h2
   simp only [wZ,zjb ha',zjb hb',h1,h2',hp,Option.bind_some,Bool.and_self,Bool.not_true,Bool.not_false,Bool.false_eq_true,if_false,if_true,jV,Bool.false_and,Bool.and_false,Bool.true_and]
 ·have h1':uM p a=false:=by simpa using h1
  simp only [wZ,zjb ha',h1',hp,Option.bind_some,Bool.not_true,Bool.not_false,Bool.false_eq_true,if_false,if_true,jV,Bool.false_and]
theorem z5j {p:Int} (hp:isP p=true) {D A B:List Int} (hD:Row p D) (ld:D.length≤6) (hA:Row p A) (hB:Row p B) (lA:A.length≤64) (lB:B.length≤64) :
  uQ (p,D) (A,B)=some (decide (wG A=1) && (decide (A.length≤13) && (decide (B.length < A.length) && isF p D A B))):=by
 have hla:=zvs (show A.length≤1000000 by omega)
 have dg:∀ l:List Int,l.length≤1000→xF l=some ((l.length:Int) - 1):=fun l hl=>by
  simp only [xF]
  rw [zX (by omega) (by omega)]
 by_cases h3:wG A=1
 ·by_cases h4:A.length≤13
  ·by_cases h5:B.length < A.length
   ·rw [zvk hp hD ld hA hB h3 h4 h5,decide_eq_true h3,decide_eq_true h4,decide_eq_true h5,Bool.true_and,Bool.true_and,Bool.true_and]
   ·have e1:decide (((A.length:Int) - 1)≤12)=true:=decide_eq_true (by omega)
    have e2:decide (((B.length:Int) - 1) < (A.length:Int) - 1)=false:=decide_eq_false (by omega)
    simp only [uQ,hla,h3,dg A (by omega),dg B (by omega),e1,e2,zgg,Option.bind_some,beq_self_eq_true,if_true,Bool.false_eq_true,if_false,decide_eq_true,decide_eq_false h5,Bool.false_and,Bool.and_false]
    by_cases h6:A.length=1∧rd A 0=1
    ·rw [if_pos (decide_eq_true h6)]
     congr 1
     have:¬ (B.length:Int)=0:=by omega
     simpa using this
    ·rw [if_neg (by simpa using h6)]
  ·have e1:decide (((A.length:Int) - 1)≤12)=false:=decide_eq_false (by omega)
   have e3:decide (A.length=1∧rd A 0=1)=false:=decide_eq_false fun h=>by omega
   simp only [uQ,hla,h3,dg A (by omega),e1,e3,zgg,Option.bind_some,beq_self_eq_true,if_true,Bool.false_eq_true,if_false,decide_eq_false h4,Bool.false_and,Bool.and_false]
 ·have e3:decide (A.length=1∧rd A 0=1)=false:=decide_eq_false fun h=>h3 (by unfold wG; rw [h.1]; exact h.2)
  have e0:(wG A == 1)=false:=by simpa using h3
  simp only [uQ,hla,e0,e3,zgg,Option.bind_some,Bool.false_eq_true,if_false,decide_eq_false h3,Bool.false_and]
theorem zsp {p:Int} {d:V64} (hd:IsB d) {f:V64×V64} (hf:IsBF f):zd2 p d f=some (mX p d && jV p d f):=by
 obtain ⟨a,b⟩:=f
 obtain ⟨ha,hb⟩:=hf
 have ha':IsB a:=ha
 have hb':IsB b:=hb
 simp only [zd2,zmk hd,zkh ha',zkh hb',Option.bind_some]
 cases hD:mX p d with
 | false=>rfl
 | true =>
  obtain ⟨hp,hs,G,hG,hG2⟩:=zdt hD
  by_cases h1:uM p a=true
  ·by_cases h2:uM p b=true
   ·have hA:=zak (vZ ha' h1)
    have hB:=zak (vZ hb' h2)
    have h6:=z5j hp (zak (vZ hd hs)) (by omega) hA hB (jK a) (jK b)
    simp only [uT,vP,zhm hd,zhm ha',zhm hb',Option.bind_some,h1,h2,if_true,h6,jV,Bool.true_and]
   ·have h2':uM p b=false:=by simpa using h2
    simp only [h1,h2',if_true,Bool.false_eq_true,if_false,jV,Bool.false_and,Bool.and_false]
  ·have h1':uM p a=false:=by simpa using h1
   simp only [h1',if_true,Bool.false_eq_true,if_false,jV,Bool.false_and,Bool.and_false]
theorem z3q {p:Int} {d:V64} (hd:IsB d) {f:V64×V64} (hf:IsBF f):zgx p d f=some (mX p d && jV p d f):=by
 simp only [zgx,zck hd,Option.bind_some]
 cases hD:mX p d with
 | false=>rfl
 | true =>
  obtain ⟨hp,hs,G,hG,hG2⟩:=zdt hD
  rw [if_pos rfl,zp1 hp (vZ hd hs) (by omega) hf]
  rfl
section
variable {p:Int} {d:V64} (hd:IsB d) {l:List (V64×V64)} (hl:∀ f∈l,IsBF f) (hn:l.length≤1000)
include hd hl hn
theorem z67:yY l p d=some (l.all fun f=>mX p d && jV p d f):=by
 obtain ⟨r,h1,h2⟩:=znb (l:=l) (fun f=>!(mX p d && jV p d f)) (fun i=>(i:Int)) (body:=fun s=>zQ l p d s)
  (fun i hi=>by
   have hf:=zsp (p:=p) hd (hl _ (z2j hi))
   simp only [zQ,vW,zar,Int.toNat_natCast,hf,Option.bind_some]
   rw [if_pos (decide_eq_true (by omega)),zY (by omega),zX (by omega) (by omega)]
   cases (!(mX p d && jV p d (rd l i))) <;> rfl) (by
   simp only [zQ]
   rw [if_neg (by rw [decide_eq_true_eq]; omega)])
 simp only [yY,yM,yQ,h1,Option.bind_some,zpg]
 rcases h2 with ⟨rfl,e⟩ | ⟨i,rfl,e⟩
 ·rw [e]; rfl
 ·have:decide ((i:Int) ≥ 0)=true:=decide_eq_true (by omega)
  simp only [Option.bind_some,this,e]
theorem z7w (hD:mX p d=true):wD l p d=some (l.all (rdB d)):=by
 obtain ⟨hp,hs,G,hG,hG2⟩:=zdt hD
 have hdd:(row d).length / 2=G + 1:=by omega
 have hgen:qE (p,row d)=some (G:Int):=by
  simp only [qE,xF,Option.bind_some]
  rw [zX (n:=((row d).length:Int) - 1) (by omega) (by omega),zkv hG hG2]
 obtain ⟨r,h1,h2⟩:=znb (l:=l) (fun f=>!(rdB d f)) (fun i=>(i:Int)) (body:=fun s=>yD l p d s)
  (fun i hi=>by
   have hf:=hl _ (z2j hi)
   have la:=jK (rd l i).1
   have hr:qC (p,row d) (row (rd l i).1,row (rd l i).2)=some (rdB d (rd l i)):=by
    simp only [qC,xF,hgen,Option.bind_some,rdB]
    rw [zX (by omega) (by omega),hdd]
    congr 1
    rw [Bool.eq_iff_iff,decide_eq_true_eq,decide_eq_true_eq]
    omega
   simp only [yD,vX,zam,uT,vP,Int.toNat_natCast,zhm hd,zhm hf.1,zhm hf.2,hr,Option.bind_some]
   rw [if_pos (decide_eq_true (by omega)),zY (by omega),zX (by omega) (by omega)]
   cases (!rdB d (rd l i)) <;> rfl) (by
   simp only [yD]
   rw [if_neg (by rw [decide_eq_true_eq]; omega)])
 simp only [wD,yU,yV,h1,Option.bind_some,zpg]
 rcases h2 with ⟨rfl,e⟩ | ⟨i,rfl,e⟩
 ·rw [e]; rfl
 ·have:decide ((i:Int) ≥ 0)=true:=decide_eq_true (by omega)
  simp only [Option.bind_some,this,e]
theorem zrs (rng red:Bool):vF p d rng red l=some (zae p d rng red l):=by
 simp only [vF,zmk hd,z67 hd hl hn,Option.bind_some,zae]
 cases hD:mX p d with
 | false=>simp
 | true =>
  simp only [Bool.true_and,z7w hd hl hn hD,Option.bind_some,Bool.not_true,Bool.false_eq_true,if_false]
  cases l.all fun f=>jV p d f with
  | false=>rfl
  | true =>
   cases rng with
   | false=>rfl
   | true =>
    cases red with
    | false=>rfl
    | true=>cases l.all (rdB d) <;> rfl
theorem zrx (red:Bool):kH p d red l=some (zae p d true red l):=by
 simp only [kH,zck hd,Option.bind_some,zae]
 cases hD:mX p d with
 | false=>simp
 | true =>
  obtain ⟨hp,hs,G,hG,hG2⟩:=zdt hD
  have hdd:(row d).length / 2=G + 1:=by omega
  have hgen:kS d=some (G:Int):=by simp only [kS,zex,Option.bind_some,zkv hG hG2]
  obtain ⟨r,h1,h2⟩:=znb (l:=l) (fun f=>!(jV p d f)) (fun _=>(1:Int)) (body:=fun s=>mI l p d s)
   (fun i hi=>by
    have hf:=zp1 hp (vZ hd hs) (by omega) (hl _ (z2j hi))
    simp only [mI,Int.toNat_natCast,hf,Option.bind_some]
    rw [if_pos (decide_eq_true (by omega)),zY (by omega),zX (by omega) (by omega)]
    cases (!jV p d (rd l i)) <;> rfl) (by
    simp only [mI]
    rw [if_neg (by rw [decide_eq_true_eq]; omega)])
  simp only [h1,Option.bind_some,Bool.not_true,Bool.false_eq_true,if_false,Bool.true_and,zpg l (jV p d),zpg l (rdB d)]
  rcases h2 with ⟨rfl,e⟩ | ⟨i,rfl,e⟩
  ·simp only [e]
   cases red with
   | false =>
    have h3:yK (fun s=>kJ l false d s) 0=some (.inl ()):=by
     rw [yR]
     have:kJ l false d 0=some (.inr (.inl ())):=by
      simp only [kJ]
      cases decide ((0:Int) < (l.length:Int)) <;> rfl
     rw [this]
     rfl
    simp only [h3,Option.bind_some]
    rfl
   | true =>
    obtain ⟨r,h1,h2⟩:=znb (l:=l) (fun f=>!(rdB d f)) (fun _=>(5:Int)) (body:=fun s=>kJ l true d s)
     (fun i hi=>by
      have la:=jK (rd l i).1
      simp only [kJ,Int.toNat_natCast,zex,hgen,Option.bind_some]
      rw [if_pos (decide_eq_true (by omega))]
      simp only [Option.bind_some,if_true]
      rw [zY (by omega),zX (by omega) (by omega)]
      have e:decide ((((row (rd l i).1).length:Int) - 1) > (G:Int))=!rdB d (rd l i):=by
       unfold rdB
       rw [hdd,Bool.eq_iff_iff,decide_eq_true_eq,Bool.not_eq_true',decide_eq_false_iff_not]
       omega
      rw [e]
      cases (!rdB d (rd l i)) <;> rfl) (by
      simp only [kJ]
      rw [if_neg (by rw [decide_eq_true_eq]; omega)]
      rfl)
    simp only [h1,Option.bind_some]
    rcases h2 with ⟨rfl,e2⟩ | ⟨i,rfl,e2⟩
    ·simp only [e2]
     rfl
    ·simp only [e2]
     rfl
  ·simp only [e]
   rfl
end
/-- What the codes tell. -/
theorem zmw {p:Int} {d:V64} {rng red:Bool} {l:List (V64×V64)} (h:zae p d rng red l=0):mX p d=true∧(∀ f∈l,jV p d f=true)∧rng=true∧(red=true→∀ f∈l,rdB d f=true):=by
 unfold zae at h
 by_cases h1:(mX p d && l.all (jV p d))=true
 ·rw [if_pos h1] at h
  by_cases h2:rng=true
  ·rw [if_pos h2] at h
   by_cases h3:(red && !l.all (rdB d))=true
   ·rw [if_pos h3] at h; exact absurd h (by decide)
   ·obtain ⟨h4,h5⟩:=Bool.and_eq_true_iff.1 h1
    refine ⟨h4,List.all_eq_true.1 h5,h2,fun hr=>?_⟩
    rw [hr,Bool.true_and] at h3
    have h6:l.all (rdB d)=true:=by simpa using h3
    exact List.all_eq_true.1 h6
  ·rw [if_neg h2] at h; exact absurd h (by decide)
 ·rw [if_neg h1] at h; exact absurd h (by decide)
theorem z0i {p:Int} {d:V64} {red:Bool} {l:List (V64×V64)} (h1:mX p d=true) (h2:∀ f∈l,jV p d f=true) (h3:red=true→∀ f∈l,rdB d f=true):zae p d true red l=0:=by
 unfold zae
 rw [h1,Bool.true_and,if_pos (List.all_eq_true.2 h2),if_pos rfl]
 cases red with
 | false=>rfl
 | true =>
  have e:l.all (rdB d)=true:=List.all_eq_true.2 (h3 rfl)
  rw [e]
  rfl
variable {P:Pri}
theorem zhw {p:Int} {d:V64} (hb:IsB d) (h:mX p d=true):∃ (P:Pri) (D:PP P) (G:Nat),p=P.p∧d=yP D.1∧Dsc D G∧G≤2:=by
 obtain ⟨hp,hs,_⟩:=zdt h
 have hp2:=wU hp
 obtain ⟨n,rfl⟩:∃ n:Nat,p=n:=⟨p.toNat,by omega⟩
 obtain ⟨D,G,e,hD,hG⟩:=z0z (P:=⟨n,hp⟩) hb h
 exact ⟨⟨n,hp⟩,D,G,rfl,by rw [← e,zfx],hD,hG⟩
section
variable {D:PP P} {G:Nat} (hD:Dsc D G) (hG:G≤2)
include hD hG
theorem zw7:row (yP D.1)=D.1:=ze8 D.2 (by have:=hD.len; show D.len≤64; omega)
theorem ztz {f:V64×V64} (hf:IsBF f) (h:jV P.p (yP D.1) f=true):∃ a b:PP P,f=(yP a.1,yP b.1)∧Fm D a b∧a.len≤13:=by
 simp only [jV,Bool.and_eq_true,decide_eq_true_eq] at h
 obtain ⟨h1,h2,h3,h4,h5,h6⟩:=h
 let a:PP P:=⟨row f.1,zak (vZ hf.1 h1)⟩
 let b:PP P:=⟨row f.2,zak (vZ hf.2 h2)⟩
 have hm:Mo a:=h3
 rw [zw7 hD hG] at h6
 have h6':isF P.n D.1 a.1 b.1=true:=h6
 exact ⟨a,b,by rw [show yP a.1=f.1 from zfx _,show yP b.1=f.2 from zfx _],⟨hm,h5,(zpe hm.ne).1 h6'⟩,h4⟩
theorem z22 {a b:PP P} (h:Fm D a b) (l:a.len≤13):jV P.p (yP D.1) (yP a.1,yP b.1)=true:=by
 have lb:=h.len
 have ra:row (yP a.1)=a.1:=ze8 a.2 (by show a.len≤64; omega)
 have rb:row (yP b.1)=b.1:=ze8 b.2 (by show b.len≤64; omega)
 have hF:isF P.n D.1 a.1 b.1=true:=(zpe h.mo.ne).2 h.dv
 simp only [jV,Bool.and_eq_true,decide_eq_true_eq,ra,rb,zw7 hD hG]
 exact ⟨zn7 (za5 a.2 P.pos),zn7 (za5 b.2 P.pos),h.mo,l,lb,hF⟩
theorem zyu (a b:PP P):IsBF (yP a.1,yP b.1) :=
 have _:=hD
 have _:=hG
 ⟨zkr (zc4 P).2 (za5 a.2 P.pos),zkr (zc4 P).2 (za5 b.2 P.pos)⟩
theorem zpk (x:Rf D G):jV P.p (yP D.1) x.s=true∧rdB (yP D.1) x.s=true∧IsBF x.s:=by
 have h1:=x.sm
 have hl:=hD.len
 refine ⟨z22 hD hG x.fm (by omega),?_,zyu hD hG _ _⟩
 have ra:row (yP x.a.1)=x.a.1:=ze8 x.a.2 (by show x.a.len≤64; omega)
 unfold rdB
 show decide ((row (yP x.a.1)).length≤(row (yP D.1)).length / 2)=true
 rw [ra,zw7 hD hG,decide_eq_true_eq]
 show x.a.len≤D.len / 2
 omega
theorem zph {f:V64×V64} (hf:IsBF f) (h:jV P.p (yP D.1) f=true) (hr:rdB (yP D.1) f=true):∃ x:Rf D G,f=x.s:=by
 obtain ⟨a,b,rfl,hm,la⟩:=ztz hD hG hf h
 have ra:row (yP a.1)=a.1:=ze8 a.2 (by show a.len≤64; omega)
 have hl:=hD.len
 have hr':(row (yP a.1)).length≤(row (yP D.1)).length / 2:=by
  unfold rdB at hr
  exact of_decide_eq_true hr
 rw [ra,zw7 hD hG] at hr'
 have hr2:a.len≤D.len / 2:=hr'
 exact ⟨⟨a,b,hm,by omega⟩,rfl⟩
end
end Go.Proofs.YtebfhlnfmkhmcaaGreat
/- The list of reduced forms on both sides. -/
namespace Go.Proofs.YtebfhlnfmkhmcaaGreat
open Go.Abs

theorem z6r {p:Int} (hp:p≤256) {L:List (List Int×List Int)} (hL:∀ q∈L,Fine p q) (hl:L.length≤1000000):yK (fun s:Int×List (V64×V64)=>vQ L s.1 s.2) (0,[])=some (L.map pp):=by
 obtain ⟨s,g1,g2⟩:=wR (body:=fun s:Int×List (V64×V64)=>vQ L s.1 s.2) (fun i s=>((i:Int),s)) (fun s=>s) L.length
  (fun i s=>s=(L.take i).map pp) (fun i s hi hI=>by
   subst hI
   refine ⟨_,?_,rfl⟩
   have hrd:rd L i=L[i]:=by simp [rd,hi]
   obtain ⟨⟨q1,q2⟩,q3,q4⟩:=hL L[i] (List.getElem_mem _)
   have ht:uF L[i]=some (pp L[i]):=by
    simp only [uF,ztw (q1.bytes hp) q2,ztw (q3.bytes hp) q4,Option.bind_some]
    rfl
   simp only [vQ,Int.toNat_natCast,hrd,ht,Option.bind_some]
   rw [if_pos (decide_eq_true (by omega)),zY (by omega),zY (by simp; omega),zX (by omega) (by omega),← List.take_append_getElem hi,List.map_append]
   rfl) (fun s hI=>by
   simp only [vQ]
   rw [if_neg (by rw [decide_eq_true_eq]; omega)]) L.length 0 [] (by omega) rfl
 have g1':yK (fun s:Int×List (V64×V64)=>vQ L s.1 s.2) (0,[])=some s:=g1
 rw [g1',g2,List.take_length]
theorem zw5 {p:Int} {d:V64} (hb:IsB d):∃ L:List (V64×V64),zbz p d=some (if mX p d then (L,0) else ([],1))∧(mX p d=true→zdw p d=some L)∧L.length≤1000000:=by
 simp only [zbz,vF,zmk hb,z3h,Option.bind_some]
 cases hD:mX p d with
 | false=>exact ⟨[],by simp,by simp,by simp⟩
 | true =>
  obtain ⟨hp,hs,G,hG,hG2⟩:=zdt hD
  have hp2:=wU hp
  obtain ⟨q,rfl⟩:∃ q:Nat,p=q:=⟨p.toNat,by omega⟩
  have hr:=vZ hb hs
  have h1:=z47 hp (zak hr) hG hG2
  have h2:=zxr (p:=q) (by omega) (D:=row d) (G + 1) (by omega)
  have h3:=zp3 (p:=q) (row d) (G + 1) fun j hj=>zwx (by omega) (by omega)
  have h4:=z6r (p:=q) (by omega) h2 (by omega)
  refine ⟨(f1 q (row d) (G + 1)).map pp,?_,fun _=>z5n hp hr hG hG2,by rw [List.length_map]; omega⟩
  simp only [uT,zhm hb,Option.bind_some,Bool.not_true,Bool.false_eq_true,if_false,bne_self_eq_false,h1,h4,if_true]
end Go.Proofs.YtebfhlnfmkhmcaaGreat
/- The operations on forms, on both sides. -/
namespace Go.Proofs.YtebfhlnfmkhmcaaGreat
open Go.Abs
variable {P:Pri}
theorem z1s {k:Nat} (h:k < 4611686018427387904):IntKind.i64.wrap (BitVec.ofInt IntKind.i64.bits k &&& BitVec.ofInt IntKind.i64.bits 1).toNat=((k % 2:Nat):Int):=by
 have e:(BitVec.ofInt IntKind.i64.bits (k:Int) &&& BitVec.ofInt IntKind.i64.bits 1).toNat=k % 2:=by
  show (BitVec.ofInt 64 (k:Int) &&& BitVec.ofInt 64 1).toNat=k % 2
  rw [BitVec.toNat_and,show (BitVec.ofInt 64 1).toNat=1 from rfl,Nat.and_one_is_mod,BitVec.toNat_ofInt]
  omega
 rw [e,zX (by omega) (by omega)]
theorem z09 (k:Nat):Int.fdiv (k:Int) (2 ^ (min (1:Int).toNat IntKind.i64.bits))=((k / 2:Nat):Int):=by
 have e:(2:Int) ^ (min (1:Int).toNat IntKind.i64.bits)=2:=by decide
 rw [e,Int.fdiv_eq_ediv_of_nonneg _ (by omega)]
 omega
theorem zxd {a:PP P} (la:a.len≤64):mZ (yP a.1)=some a.1:=by
 rw [zhm (zkr (zc4 P).2 (za5 a.2 P.pos)),ze8 a.2 la]
theorem zxl {a:PP P} (la:a.len≤64):zbw a.1=some (yP a.1):=ztw (a.2.bytes (zc4 P).2) la
section
variable {D:PP P} {G:Nat} (hD:Dsc D G) (hG:G≤2)
include hD hG
theorem zlo:uT P.p (yP D.1)=some (P.p,D.1):=by
 have:=hD.len
 simp only [uT,zxd (a:=D) (by omega),Option.bind_some]
theorem Rf.lens (x:Rf D G):x.a.len≤64∧x.b.len≤64:=by
 have _:=hD
 have:=x.sm
 have:=x.fm.len
 omega
theorem zt6 (x:Rf D G):vP x.s=some x.i:=by
 obtain ⟨h1,h2⟩:=x.lens hD hG
 simp only [vP,Rf.s,zxd h1,zxd h2,Option.bind_some]
 rfl
theorem zve (x:Rf D G):uF x.i=some x.s:=by
 obtain ⟨h1,h2⟩:=x.lens hD hG
 simp only [uF,Rf.i,zxl h1,zxl h2,Option.bind_some]
 rfl
variable (hB:IsB (yP D.1)) (hdis:mX P.p (yP D.1)=true)
include hB hdis
theorem zsy (red:Bool) (l:List (Rf D G)) (hn:l.length≤1000):vF P.p (yP D.1) true red (l.map Rf.s)=some 0∧kH P.p (yP D.1) red (l.map Rf.s)=some 0:=by
 have hl:∀ f∈l.map Rf.s,IsBF f∧jV P.p (yP D.1) f=true∧rdB (yP D.1) f=true:=fun f hf=>by
  obtain ⟨x,_,rfl⟩:=List.mem_map.1 hf
  obtain ⟨h1,h2,h3⟩:=zpk hD hG x
  exact ⟨h3,h1,h2⟩
 have h0:=z0i (red:=red) hdis (fun f hf=>(hl f hf).2.1) (fun _ f hf=>(hl f hf).2.2)
 rw [zrs hB (fun f hf=>(hl f hf).1) (by rw [List.length_map]; exact hn),zrx hB (fun f hf=>(hl f hf).1) (by rw [List.length_map]; exact hn),h0]
 exact ⟨rfl,rfl⟩
theorem zht (x y:Rf D G):vB P.p (yP D.1) x.s y.s=some ((rop hD x y).s,0)∧jY P.p (yP D.1) x.s y.s=some ((rop hD x y).s,0):=by
 obtain ⟨c1,c2⟩:=zsy hD hG hB hdis true [x,y] (by simp)
 obtain ⟨k1,k2⟩:=zf2 hD hG x y
 have c1':vF P.p (yP D.1) true true [x.s,y.s]=some 0:=c1
 have c2':kH P.p (yP D.1) true [x.s,y.s]=some 0:=c2
 constructor
 ·simp only [vB,c1',zlo hD hG,zt6 hD hG,k1,zve hD hG,Option.bind_some,bne_self_eq_false,Bool.false_eq_true,if_false]
 ·simp only [jY,c2',k2,Option.bind_some,bne_self_eq_false,Bool.false_eq_true,if_false]
theorem zy8 (x:Rf D G):kO P.p (yP D.1) x.s=some ((zpq x).s,0):=by
 obtain ⟨c1,c2⟩:=zsy hD hG hB hdis false [x] (by simp)
 obtain ⟨h1,h2⟩:=x.lens hD hG
 have c1':vF P.p (yP D.1) true false [x.s]=some 0:=c1
 have n:=zb4 x.b
 have k:uL (P.p,D.1) x.i=some (zpq x).i:=by
  simp only [uL,Rf.i,z2y x.b (by omega),z06 (-x.b) x.fm.mo.ne (by omega) (by omega),Option.bind_some]
  rfl
 simp only [kO,c1',zlo hD hG,zt6 hD hG,k,zve hD hG,Option.bind_some,bne_self_eq_false,Bool.false_eq_true,if_false]
theorem zxp (x:Rf D G) {k:Nat} (h1:1≤k) (hk:k≤1000000) (h2:(xY hD).pw x k=zaw) (h3:∀ j,1≤j→j < k→(xY hD).pw x j ≠ zaw):jH P.p (yP D.1) x.s=some ((k:Int),0)∧nQ P.p (yP D.1) x.s=some ((k:Int),0):=by
 obtain ⟨c1,c2⟩:=zsy hD hG hB hdis true [x] (by simp)
 obtain ⟨k1,k2⟩:=z0o hD hG x h1 hk h2 h3
 have c1':vF P.p (yP D.1) true true [x.s]=some 0:=c1
 have c2':kH P.p (yP D.1) true [x.s]=some 0:=c2
 constructor
 ·simp only [jH,c1',zlo hD hG,zt6 hD hG,k1,Option.bind_some,bne_self_eq_false,Bool.false_eq_true,if_false]
 ·simp only [nQ,c2',k2,Option.bind_some,bne_self_eq_false,Bool.false_eq_true,if_false]
omit hB in
theorem z01 (hB':IsB (yP D.1)):zcz P.p (yP D.1)=some (((f1 P.n D.1 (G + 1)).length:Int),0):=by
 obtain ⟨L,h1,h2,_⟩:=zw5 (p:=P.p) hB'
 have hr:Res P.p (yP D.1):=za5 D.2 P.pos
 have hrd:=zw7 hD hG
 have h3:=z5n P.ok hr (by rw [hrd]; exact hD.len) hG
 rw [hrd] at h3
 have h4:some L=some ((f1 P.n D.1 (G + 1)).map pp):=(h2 hdis).symm.trans h3
 rw [hdis] at h1
 simp only [zcz,h1,if_true,Option.bind_some]
 rw [Option.some.inj h4,List.length_map]
omit hB hdis
theorem zzb:∀ (n k:Nat) (b o:Rf D G),k≤n→k≤4611686018427387903→yK (fun s:Int×(List Int×List Int)×(List Int×List Int)=>wK (P.p,D.1) s.1 s.2.1 s.2.2) ((k:Int),b.i,o.i)=some (rop hD o ((xY hD).pw b k)).i:=by
 have stop:∀ b o:Rf D G,yK (fun s:Int×(List Int×List Int)×(List Int×List Int)=>wK (P.p,D.1) s.1 s.2.1 s.2.2) (((0:Nat):Int),b.i,o.i)=some (rop hD o ((xY hD).pw b 0)).i:=fun b o=>by
  have e:rop hD o ((xY hD).pw b 0)=o:=(xY hD).one' o
  have st:wK (P.p,D.1) ((0:Nat):Int) b.i o.i=some (.inr o.i):=rfl
  rw [yR,e]
  simp only [st,Option.bind_some]
 intro n
 induction n with
 | zero =>
  intro k b o hk _
  have:k=0:=by omega
  subst this
  exact stop b o
 | succ n ih =>
  intro k b o hk h2
  by_cases h0:k=0
  ·subst h0; exact stop b o
  ·have hbb:=(zf2 hD hG b b).1
   have hob:=(zf2 hD hG o b).1
   have e2:(xY hD).pw (rop hD b b) (k / 2)=(xY hD).pw b (2*(k / 2)):=by
    rw [(xY hD).pw_mul b 2 (k / 2)]
    congr 1
    show rop hD b b=rop hD (rop hD zaw b) b
    have:rop hD zaw b=b:=(xY hD).one b
    rw [this]
   by_cases h1:k % 2=1
   ·have st:wK (P.p,D.1) (k:Int) b.i o.i=some (.inl (((k / 2:Nat):Int),(rop hD b b).i,(rop hD o b).i)):=by
     simp only [wK,z1s (show k < 4611686018427387904 by omega),kR,z09,hbb,hob,h1,Option.bind_some]
     rw [if_pos (decide_eq_true (by omega))]
     rfl
    rw [yR]
    simp only [st,Option.bind_some]
    rw [ih (k / 2) _ _ (by omega) (by omega),e2]
    congr 2
    have hk2:k=1 + 2*(k / 2):=by omega
    have e3:(xY hD).pw b k=rop hD b ((xY hD).pw b (2*(k / 2))):=by
     have:=(xY hD).pw_add b 1 (2*(k / 2))
     rw [← hk2,(xY hD).pw_one] at this
     exact this
    rw [e3]
    exact (xY hD).assoc o b _
   ·have h1':k % 2=0:=by omega
    have st:wK (P.p,D.1) (k:Int) b.i o.i=some (.inl (((k / 2:Nat):Int),(rop hD b b).i,o.i)):=by
     simp only [wK,z1s (show k < 4611686018427387904 by omega),kR,z09,hbb,h1',Option.bind_some]
     rw [if_pos (decide_eq_true (by omega))]
     rfl
    rw [yR]
    simp only [st,Option.bind_some]
    rw [ih (k / 2) _ _ (by omega) (by omega),e2,show 2*(k / 2)=k by omega]
theorem zy7:∀ (n k:Nat) (b o:Rf D G),k≤n→k≤4611686018427387903→yK (fun s:Int×(V64×V64)×(V64×V64)=>wJ P.p (yP D.1) s.1 s.2.1 s.2.2) ((k:Int),b.s,o.s)=some (rop hD o ((xY hD).pw b k)).s:=by
 have stop:∀ b o:Rf D G,yK (fun s:Int×(V64×V64)×(V64×V64)=>wJ P.p (yP D.1) s.1 s.2.1 s.2.2) (((0:Nat):Int),b.s,o.s)=some (rop hD o ((xY hD).pw b 0)).s:=fun b o=>by
  have e:rop hD o ((xY hD).pw b 0)=o:=(xY hD).one' o
  have st:wJ P.p (yP D.1) ((0:Nat):Int) b.s o.s=some (.inr o.s):=rfl
  rw [yR,e]
  simp only [st,Option.bind_some]
 intro n
 induction n with
 | zero =>
  intro k b o hk _
  have:k=0:=by omega
  subst this
  exact stop b o
 | succ n ih =>
  intro k b o hk h2
  by_cases h0:k=0
  ·subst h0; exact stop b o
  ·have hbb:=(zf2 hD hG b b).2
   have hob:=(zf2 hD hG o b).2
   have e2:(xY hD).pw (rop hD b b) (k / 2)=(xY hD).pw b (2*(k / 2)):=by
    rw [(xY hD).pw_mul b 2 (k / 2)]
    congr 1
    show rop hD b b=rop hD (rop hD zaw b) b
    have:rop hD zaw b=b:=(xY hD).one b
    rw [this]
   have em:Int.tmod (k:Int) 2=((k % 2:Nat):Int):=by rw [Int.tmod_eq_emod_of_nonneg (by omega)]; omega
   have ed:IntKind.i64.wrap (Int.tdiv (k:Int) 2)=((k / 2:Nat):Int):=by
    rw [Int.tdiv_eq_ediv_of_nonneg (by omega),zX (by omega) (by omega)]; omega
   by_cases h1:k % 2=1
   ·have st:wJ P.p (yP D.1) (k:Int) b.s o.s=some (.inl (((k / 2:Nat):Int),(rop hD b b).s,(rop hD o b).s)):=by
     simp only [wJ,em,ed,hbb,hob,h1,Option.bind_some]
     rw [if_pos (decide_eq_true (by omega))]
     rfl
    rw [yR]
    simp only [st,Option.bind_some]
    rw [ih (k / 2) _ _ (by omega) (by omega),e2]
    congr 2
    have hk2:k=1 + 2*(k / 2):=by omega
    have e3:(xY hD).pw b k=rop hD b ((xY hD).pw b (2*(k / 2))):=by
     have:=(xY hD).pw_add b 1 (2*(k / 2))
     rw [← hk2,(xY hD).pw_one] at this
     exact this
    rw [e3]
    exact (xY hD).assoc o b _
   ·have h1':k % 2=0:=by omega
    have st:wJ P.p (yP D.1) (k:Int) b.s o.s=some (.inl (((k / 2:Nat):Int),(rop hD b b).s,o.s)):=by
     simp only [wJ,em,ed,hbb,h1',Option.bind_some]
     rw [if_pos (decide_eq_true (by omega))]
     rfl
    rw [yR]
    simp only [st,Option.bind_some]
    rw [ih (k / 2) _ _ (by omega) (by omega),e2,show 2*(k / 2)=k by omega]
theorem z60:jL=some (zaw (D:=D) (G:=G)).s:=by
 have _:=hD
 have _:=hG
 simp only [jL,znz,Option.bind_some,Rf.s,zaw]
 rw [← zb7]
 rfl
omit hG in
theorem z1o (x:Rf D G):rop hD zaw x=x:=(xY hD).one x
/-- The loops of the powers. -/
theorem zr9 (x:Rf D G) (k:Nat) (hk:k≤4611686018427387903):yK (fun s:Int×(List Int×List Int)×(List Int×List Int)=>wK (P.p,D.1) s.1 s.2.1 s.2.2) ((k:Int),x.i,([1],[]))=some ((xY hD).pw x k).i ∧
  yK (fun s:Int×(V64×V64)×(V64×V64)=>wJ P.p (yP D.1) s.1 s.2.1 s.2.2) ((k:Int),x.s,(zaw (D:=D) (G:=G)).s)=some ((xY hD).pw x k).s:=by
 have h1:=zzb hD hG k k x zaw (Nat.le_refl _) hk
 have h2:=zy7 hD hG k k x zaw (Nat.le_refl _) hk
 rw [z1o hD] at h1 h2
 exact ⟨h1,h2⟩
include hB hdis
theorem zxw (x:Rf D G) {n:Int} (hn:-1000000000000≤n∧n≤1000000000000):∃ y:Rf D G,vI P.p (yP D.1) x.s n=some (y.s,0)∧uI P.p (yP D.1) x.s n=some (y.s,0)∧(0≤n→y=(xY hD).pw x n.toNat):=by
 obtain ⟨c1,c2⟩:=zsy hD hG hB hdis true [x] (by simp)
 have c1':vF P.p (yP D.1) true true [x.s]=some 0:=c1
 have c2':kH P.p (yP D.1) true [x.s]=some 0:=c2
 obtain ⟨r1,_,r3⟩:=zpk hD hG x
 have hr:Res P.p (yP D.1):=za5 D.2 P.pos
 have hf:=zp1 P.ok hr (by rw [zw7 hD hG]; have:=hD.len; show D.len≤6; omega) r3
 have hf':wZ P.p (yP D.1) x.s=some true:=by
  have:wZ P.p (yP D.1) x.s=some (jV P.p (yP D.1) x.s):=hf
  rw [this,r1]
 have hw:zdv n (-1000000000000) 1000000000000=some true:=by
  simp only [zdv]
  rw [if_pos (decide_eq_true hn.1),decide_eq_true hn.2]
 have hin:zf8 n (-1000000000000) 1000000000000=some true:=by
  simp only [zf8]
  rw [if_pos (decide_eq_true hn.1),decide_eq_true hn.2]
 have hu:=z60 hD hG
 have hui:zhi=some ([1],[]):=rfl
 obtain ⟨h1,h2⟩:=x.lens hD hG
 by_cases h0:n < 0
 ·obtain ⟨k,rfl⟩:∃ k:Nat,n=-(k:Int):=⟨(-n).toNat,by omega⟩
  have ek:IntKind.i64.wrap (0 - -(k:Int))=(k:Int):=by rw [zX (by omega) (by omega)]; omega
  obtain ⟨l1,l2⟩:=zr9 hD hG (zpq x) k (by omega)
  have nn:=zb4 x.b
  have o1:uL (P.p,D.1) x.i=some (zpq x).i:=by
   simp only [uL,Rf.i,z2y x.b (by omega),z06 (-x.b) x.fm.mo.ne (by omega) (by omega),Option.bind_some]
   rfl
  have o2:jF P.p x.s.2 x.s.1=some (zpq x).s.2:=z41 x.b x.fm.mo.ne h2 h1
  have e0:(x.s.1,(zpq x).s.2)=(zpq x).s:=rfl
  refine ⟨(xY hD).pw (zpq x) k,?_,?_,fun h=>by omega⟩
  ·simp only [vI,hw,c1',zlo hD hG,zt6 hD hG,decide_eq_true h0,o1,ek,hui,l1,zve hD hG,Option.bind_some,bne_self_eq_false,Bool.false_eq_true,if_false,if_true]
  ·simp only [uI,zck hB,hdis,hf',hin,c2',decide_eq_true h0,o2,ek,e0,hu,l2,Option.bind_some,bne_self_eq_false,Bool.not_true,Bool.false_eq_true,if_false,if_true]
 ·obtain ⟨k,rfl⟩:∃ k:Nat,n=(k:Int):=⟨n.toNat,by omega⟩
  obtain ⟨l1,l2⟩:=zr9 hD hG x k (by omega)
  refine ⟨(xY hD).pw x k,?_,?_,fun h=>by rw [Int.toNat_natCast]⟩
  ·simp only [vI,hw,c1',zlo hD hG,zt6 hD hG,decide_eq_false h0,hui,l1,zve hD hG,Option.bind_some,bne_self_eq_false,Bool.false_eq_true,if_false,if_true]
  ·simp only [uI,zck hB,hdis,hf',hin,c2',decide_eq_false h0,hu,l2,Option.bind_some,bne_self_eq_false,Bool.not_true,Bool.false_eq_true,if_false,if_true]
end
/-! Both sides, for all arguments. -/
section
variable {p:Int} {d:V64} (hd:IsB d) {f:V64×V64} (hf:IsBF f)
include hd hf
theorem zol:∀ g∈[f],IsBF g:=fun g hg=>by
 have _:=hd
 rw [List.mem_singleton.1 hg]; exact hf
theorem zsx {g:V64×V64} (hg:IsBF g):(∃ c,c ≠ 0∧vB p d f g=some ((yH 64 0,yH 64 0),c)∧jY p d f g=some ((yH 64 0,yH 64 0),c)) ∨
  (∃ (P:Pri) (D:PP P) (G:Nat) (x y:Rf D G),p=P.p∧d=yP D.1∧Dsc D G∧G≤2∧mX p d=true∧f=x.s∧g=y.s):=by
 have hl:∀ h∈[f,g],IsBF h:=fun h hh=>by
  rcases List.mem_cons.1 hh with rfl | hh
  ·exact hf
  ·rw [List.mem_singleton.1 hh]; exact hg
 by_cases hc:zae p d true true [f,g]=0
 ·right
  obtain ⟨h1,h2,_,h3⟩:=zmw hc
  obtain ⟨P,D,G,rfl,rfl,hD,hG⟩:=zhw hd h1
  obtain ⟨x,hx⟩:=zph hD hG hf (h2 f (by simp)) (h3 rfl f (by simp))
  obtain ⟨y,hy⟩:=zph hD hG hg (h2 g (by simp)) (h3 rfl g (by simp))
  exact ⟨P,D,G,x,y,rfl,rfl,hD,hG,h1,hx,hy⟩
 ·left
  have hb:(zae p d true true [f,g] != 0)=true:=by rw [bne_iff_ne]; exact hc
  refine ⟨zae p d true true [f,g],hc,?_,?_⟩
  ·simp only [vB,zrs hd hl (by simp),Option.bind_some,hb,if_true]
  ·simp only [jY,zrx hd hl (by simp),Option.bind_some,hb,if_true]
theorem zt7:∃ r,zbl p d f=some r∧zbo p d f=some r:=by
 have cI:=zrs (p:=p) hd (zol hd hf) (by simp) true false
 have cS:=zrx (p:=p) hd (zol hd hf) (by simp) false
 by_cases hc:zae p d true false [f]=0
 ·obtain ⟨h1,h2,_,_⟩:=zmw hc
  obtain ⟨P,D,G,rfl,rfl,hD,hG⟩:=zhw hd h1
  obtain ⟨a,b,rfl,hm,la⟩:=ztz hD hG hf (h2 f (by simp))
  have lb:=hm.len
  obtain ⟨r,r1,r2⟩:=z40 hD hG 13 a b la (by omega) hm
  obtain ⟨r',r1',r2'⟩:=z5s hD hG 13 a b la (by omega) hm
  have e:r'=r:=zxs hD (zdh hD r2'.symm r2)
  rw [e] at r1'
  have hfo:vP (yP a.1,yP b.1)=some (a.1,b.1):=by
   simp only [vP,zxd (a:=a) (by omega),zxd (a:=b) (by omega),Option.bind_some]
  have ht:=zve hD hG r
  simp only [Rf.i] at ht
  refine ⟨(r.s,0),?_,?_⟩
  ·simp only [zbl,cI,hc,zlo hD hG,hfo,kK,r1,ht,Option.bind_some,bne_self_eq_false,Bool.false_eq_true,if_false]
  ·simp only [zbo,cS,hc,nS,r1',Option.bind_some,bne_self_eq_false,Bool.false_eq_true,if_false]
   rfl
 ·have hb:(zae p d true false [f] != 0)=true:=by rw [bne_iff_ne]; exact hc
  refine ⟨((yH 64 0,yH 64 0),zae p d true false [f]),?_,?_⟩
  ·simp only [zbl,cI,Option.bind_some,hb,if_true]
  ·simp only [zbo,cS,Option.bind_some,hb,if_true]
theorem zto:∃ r,kO p d f=some r∧zan p d f=some r:=by
 have cI:=zrs (p:=p) hd (zol hd hf) (by simp) true false
 have cS:=zrx (p:=p) hd (zol hd hf) (by simp) false
 by_cases hc:zae p d true false [f]=0
 ·obtain ⟨h1,h2,_,_⟩:=zmw hc
  obtain ⟨P,D,G,rfl,rfl,hD,hG⟩:=zhw hd h1
  obtain ⟨a,b,rfl,hm,la⟩:=ztz hD hG hf (h2 f (by simp))
  have lb:=hm.len
  have nn:=zb4 b
  have lr:=(zkf (-b) hm.mo.ne).2
  have hfo:vP (yP a.1,yP b.1)=some (a.1,b.1):=by
   simp only [vP,zxd (a:=a) (by omega),zxd (a:=b) (by omega),Option.bind_some]
  have ht:uF (a.1,(yX (-b) a).1)=some (yP a.1,yP (yX (-b) a).1):=by
   simp only [uF,zxl (a:=a) (by omega),zxl (a:=yX (-b) a) (by omega),Option.bind_some]
  refine ⟨((yP a.1,yP (yX (-b) a).1),0),?_,?_⟩
  ·simp only [kO,cI,hc,zlo hD hG,hfo,uL,z2y b (by omega),z06 (-b) hm.mo.ne (by omega) (by omega),ht,Option.bind_some,bne_self_eq_false,Bool.false_eq_true,if_false]
  ·simp only [zan,cS,hc,z41 b hm.mo.ne (by omega) (by omega),Option.bind_some,bne_self_eq_false,Bool.false_eq_true,if_false]
 ·have hb:(zae p d true false [f] != 0)=true:=by rw [bne_iff_ne]; exact hc
  refine ⟨((yH 64 0,yH 64 0),zae p d true false [f]),?_,?_⟩
  ·simp only [kO,cI,Option.bind_some,hb,if_true]
  ·simp only [zan,cS,Option.bind_some,hb,if_true]
theorem zv3:∃ r,jH p d f=some r∧nQ p d f=some r:=by
 have cI:=zrs (p:=p) hd (zol hd hf) (by simp) true true
 have cS:=zrx (p:=p) hd (zol hd hf) (by simp) true
 by_cases hc:zae p d true true [f]=0
 ·obtain ⟨h1,h2,_,h3⟩:=zmw hc
  obtain ⟨P,D,G,rfl,rfl,hD,hG⟩:=zhw hd h1
  obtain ⟨x,rfl⟩:=zph hD hG hf (h2 f (by simp)) (h3 rfl f (by simp))
  obtain ⟨k,k1,k2,k3,k4,_⟩:=zu7 hD hG x
  obtain ⟨q1,q2⟩:=zxp hD hG hd h1 x k1 k2 k3 k4
  exact ⟨_,q1,q2⟩
 ·have hb:(zae p d true true [f] != 0)=true:=by rw [bne_iff_ne]; exact hc
  refine ⟨(0,zae p d true true [f]),?_,?_⟩
  ·simp only [jH,cI,Option.bind_some,hb,if_true]
  ·simp only [nQ,cS,Option.bind_some,hb,if_true]
theorem zwp (n:Int):∃ r,vI p d f n=some r∧uI p d f n=some r:=by
 have cS:=zrx (p:=p) hd (zol hd hf) (by simp) true
 have hw:zdv n (-1000000000000) 1000000000000=some (decide (-1000000000000≤n∧n≤1000000000000)):=by
  simp only [zdv]
  by_cases h:-1000000000000≤n
  ·rw [if_pos (decide_eq_true h)]
   congr 1
   rw [Bool.eq_iff_iff,decide_eq_true_eq,decide_eq_true_eq]
   omega
  ·rw [if_neg (by simpa using h)]
   congr 1
   exact (decide_eq_false (by omega)).symm
 have hin:zf8 n (-1000000000000) 1000000000000=some (decide (-1000000000000≤n∧n≤1000000000000)):=hw
 have cI:=zrs (p:=p) hd (zol hd hf) (by simp) (decide (-1000000000000≤n∧n≤1000000000000)) true
 have spec1:∀ q,mX p d=true→wZ p d f=some q→q=jV p d f:=fun q h1 h2=>by
  obtain ⟨hp,hs,G,hG,hG2⟩:=zdt h1
  rw [zp1 hp (vZ hd hs) (by omega) hf] at h2
  exact (Option.some.inj h2).symm
 have spec2:mX p d=true→wZ p d f=some (jV p d f):=fun h1=>by
  obtain ⟨hp,hs,G,hG,hG2⟩:=zdt h1
  exact zp1 hp (vZ hd hs) (by omega) hf
 by_cases hdis:mX p d=true
 ·by_cases hfo:jV p d f=true
  ·have hf2:=spec2 hdis
   rw [hfo] at hf2
   by_cases hn:-1000000000000≤n∧n≤1000000000000
   ·by_cases hr:rdB d f=true
    ·obtain ⟨P,D,G,rfl,rfl,hD,hG⟩:=zhw hd hdis
     obtain ⟨x,rfl⟩:=zph hD hG hf hfo hr
     obtain ⟨y,y1,y2,_⟩:=zxw hD hG hd hdis x hn
     exact ⟨_,y1,y2⟩
    ·have hr':rdB d f=false:=by simpa using hr
     have e:∀ b,zae p d true true [f]=b→b=5:=fun b hb=>by
      rw [← hb]
      simp only [zae,hdis,hfo,hr',List.all_cons,List.all_nil,Bool.and_true,Bool.and_self,if_true,Bool.not_false]
     rw [e _ rfl] at cS
     rw [decide_eq_true hn] at cI hw hin
     rw [e _ rfl] at cI
     refine ⟨((yH 64 0,yH 64 0),5),?_,?_⟩
     ·simp only [vI,hw,cI,Option.bind_some]
      rfl
     ·simp only [uI,zck hd,hdis,hf2,hin,cS,Option.bind_some,Bool.not_true,Bool.false_eq_true,if_false]
      rfl
   ·rw [decide_eq_false hn] at cI hw hin
    have e:zae p d false true [f]=2:=by
     simp only [zae,hdis,hfo,List.all_cons,List.all_nil,Bool.and_true,Bool.and_self,if_true,Bool.false_eq_true,if_false]
    rw [e] at cI
    refine ⟨((yH 64 0,yH 64 0),2),?_,?_⟩
    ·simp only [vI,hw,cI,Option.bind_some]
     rfl
    ·simp only [uI,zck hd,hdis,hf2,hin,Option.bind_some,Bool.not_true,Bool.not_false,Bool.false_eq_true,if_false]
     rfl
  ·have hfo':jV p d f=false:=by simpa using hfo
   have hf2:=spec2 hdis
   rw [hfo'] at hf2
   have e:∀ q,zae p d q true [f]=1:=fun q=>by
    simp only [zae,hfo',List.all_cons,Bool.and_false,Bool.false_and,Bool.false_eq_true,if_false]
   rw [e] at cI
   refine ⟨((yH 64 0,yH 64 0),1),?_,?_⟩
   ·simp only [vI,hw,cI,Option.bind_some]
    rfl
   ·simp only [uI,zck hd,hdis,hf2,Option.bind_some,Bool.not_true,Bool.not_false,Bool.false_eq_true,if_false]
    rfl
 ·have hdis':mX p d=false:=by simpa using hdis
  have e:∀ q,zae p d q true [f]=1:=fun q=>by
   simp only [zae,hdis',Bool.false_and,Bool.false_eq_true,if_false]
  rw [e] at cI
  refine ⟨((yH 64 0,yH 64 0),1),?_,?_⟩
  ·simp only [vI,hw,cI,Option.bind_some]
   rfl
  ·simp only [uI,zck hd,hdis',Option.bind_some,Bool.not_false,Bool.false_eq_true,if_false]
   rfl
end
end Go.Proofs.YtebfhlnfmkhmcaaGreat
/- Draws: the source of numbers, in the reference. -/
namespace Go.Proofs.YtebfhlnfmkhmcaaGreat
open Go.Abs
abbrev Src:=List Int×Int×Int
structure SrcOk (s:Src):Prop where
 len:s.1.length≤8192
 bytes:∀ x∈s.1,0≤x∧x < 256
 at':0≤s.2.1∧s.2.1≤8192
theorem z3d (b:BitVec 64):∃ k:Nat,k≤16777215∧IntKind.u64.wrap ((b &&& BitVec.ofInt 64 16777215).toNat:Int)=(k:Int):=by
 refine ⟨(b &&& BitVec.ofInt 64 16777215).toNat,?_,?_⟩
 ·rw [BitVec.toNat_and]
  exact Nat.le_trans Nat.and_le_right (by decide)
 ·have h:(b &&& BitVec.ofInt 64 16777215).toNat≤16777215:=by
   rw [BitVec.toNat_and]
   exact Nat.le_trans Nat.and_le_right (by decide)
  generalize (b &&& BitVec.ofInt 64 16777215).toNat=q at h
  simp only [IntKind.wrap,IntKind.signed,IntKind.bits]
  simp
  omega
theorem uS {s:Src} (h:SrcOk s) {n:Int} (hn:n≤4611686018427387904):∃ (r:Int) (s':Src),zS s n=some (r,s')∧SrcOk s'∧0≤r∧(1≤n→r < n)∧(n < 1→r=0):=by
 by_cases h1:n < 1
 ·refine ⟨0,s,?_,h,by omega,fun h2=>by omega,fun _=>rfl⟩
  simp only [zS]
  rw [if_pos (decide_eq_true h1)]
 ·obtain ⟨y,hy⟩:∃ y,IntKind.u64.wrap (IntKind.u64.wrap (s.2.2*6364136223846793005) + 1442695040888963407)=y:=⟨_,rfl⟩
  obtain ⟨k,k1,k2⟩:=z3d (BitVec.ofInt 64 (Int.fdiv y (2 ^ (min (33:Int).toNat 64))))
  have k2':IntKind.u64.wrap (BitVec.ofInt IntKind.u64.bits (Int.fdiv y (2 ^ (min (33:Int).toNat IntKind.u64.bits))) &&& BitVec.ofInt IntKind.u64.bits 16777215).toNat=(k:Int):=k2
  obtain ⟨hl,hb,ha⟩:=h
  by_cases h2:s.2.1 < (s.1.length:Int)
  ·have hm:rd s.1 s.2.1.toNat∈s.1:=by
    have:s.2.1.toNat < s.1.length:=by omega
    simp [rd,this]
   have hbb:=hb _ hm
   refine ⟨Int.tmod (k + rd s.1 s.2.1.toNat) n,(s.1,s.2.1 + 1,y),?_,⟨hl,hb,by simp only; omega⟩,?_,fun _=>?_,fun h3=>absurd h3 h1⟩
   ·simp only [zS,kR,hy,k2']
    rw [if_neg (by rw [decide_eq_true_eq]; exact h1),if_pos (decide_eq_true h2),zY (by omega),zX (n:=(k:Int)) (by omega) (by omega),zX (n:=rd s.1 s.2.1.toNat) (by omega) (by omega),zX (by omega) (by omega),zX (by omega) (by omega)]
    simp only [Option.bind_some]
    rw [zY (by omega)]
   ·rw [Int.tmod_eq_emod_of_nonneg (by omega)]; exact Int.emod_nonneg _ (by omega)
   ·rw [Int.tmod_eq_emod_of_nonneg (by omega)]; exact Int.emod_lt_of_pos _ (by omega)
  ·refine ⟨Int.tmod k n,(s.1,s.2.1,y),?_,⟨hl,hb,ha⟩,?_,fun _=>?_,fun h3=>absurd h3 h1⟩
   ·simp only [zS,kR,hy,k2']
    rw [if_neg (by rw [decide_eq_true_eq]; exact h1),if_neg (by rw [decide_eq_true_eq]; exact h2),zX (n:=(k:Int)) (by omega) (by omega)]
    simp only [Option.bind_some]
    rw [zY (by omega)]
   ·rw [Int.tmod_eq_emod_of_nonneg (by omega)]; exact Int.emod_nonneg _ (by omega)
   ·rw [Int.tmod_eq_emod_of_nonneg (by omega)]; exact Int.emod_lt_of_pos _ (by omega)
theorem zhd {s:Src} (h:SrcOk s) {l:List Int} (h0:l ≠ []) (hl:l.length≤1000):∃ (r:Int) (s':Src),wA s l=some (r,s')∧SrcOk s'∧r∈l:=by
 have hp:1≤l.length:=by
  cases l with
  | nil=>exact absurd rfl h0
  | cons _ _=>simp
 obtain ⟨r,s',h1,h2,h3,h4,_⟩:=uS h (n:=(l.length:Int)) (by omega)
 have h5:=h4 (by omega)
 refine ⟨rd l r.toNat,s',?_,h2,?_⟩
 ·simp only [wA,h1,Option.bind_some]
  rw [zY (by omega)]
 ·have:r.toNat < l.length:=by omega
  simp [rd,this]
end Go.Proofs.YtebfhlnfmkhmcaaGreat
/- The source of a code. -/
namespace Go.Proofs.YtebfhlnfmkhmcaaGreat
open Go.Abs
theorem zzq {c:List Int} (hl:c.length≤8192) {i:Nat} (hi:i < min c.length 4096) (s:Src):∃ W,uG c (i:Int) s=some (.inl (((i + 1:Nat):Int),(s.1,s.2.1,W))):=by
 have h1:decide ((i:Int) < (c.length:Int))=true:=decide_eq_true (by omega)
 have h2:decide ((i:Int) < 4096)=true:=decide_eq_true (by omega)
 have h3:IntKind.i64.wrap ((i:Int) + 1)=((i + 1:Nat):Int):=by rw [zX (by omega) (by omega)]; rfl
 have h4:0≤(i:Int)∧(i:Int) < ((c.length:Nat):Int):=by omega
 simp only [uG,kR,h1,h2,h3,Option.bind_some,if_true]
 rw [zY h4]
 exact ⟨_,rfl⟩
theorem zzg {c:List Int} (s:Src):uG c ((min c.length 4096:Nat):Int) s=some (.inr s):=by
 by_cases h:c.length≤4096
 ·have h1:decide (((min c.length 4096:Nat):Int) < (c.length:Int))=false:=decide_eq_false (by omega)
  simp only [uG,h1,Bool.false_eq_true,if_false,Option.bind_some]
 ·have h1:decide (((min c.length 4096:Nat):Int) < (c.length:Int))=true:=decide_eq_true (by omega)
  have h2:decide (((min c.length 4096:Nat):Int) < 4096)=false:=decide_eq_false (by omega)
  simp only [uG,h1,h2,Bool.false_eq_true,if_true,if_false,Option.bind_some]
theorem zz0 {c:List Int} (hl:c.length≤8192) (y:Int):∃ W,yK (fun s:Int×Src=>uG c s.1 s.2) (0,(c,(0:Int),y))=some (c,(0:Int),W):=by
 obtain ⟨s,h1,h2⟩:=wR (body:=fun s:Int×Src=>uG c s.1 s.2) (fun i s=>((i:Int),s)) (fun s=>s) (min c.length 4096)
  (fun _ s=>s.1=c∧s.2.1=0) (fun i s hi hI=>by
   obtain ⟨W,hW⟩:=zzq hl hi s
   exact ⟨_,hW,hI⟩) (fun s _=>zzg s) (min c.length 4096) 0 (c,0,y) (by omega) ⟨rfl,rfl⟩
 obtain ⟨a,b,W⟩:=s
 obtain ⟨rfl,rfl⟩:a=c∧b=0:=h2
 exact ⟨W,h1⟩
theorem zz3 {c:List Int} (hl:c.length≤8192) (hb:∀ x∈c,0≤x∧x < 256):∃ s,jO c=some s∧SrcOk s:=by
 have key:∀ y:Int,∃ s:Src,(Option.bind (yK (fun s:Int×Src=>uG c s.1 s.2) (0,(c,(0:Int),y))) fun x66=>some x66)=some s∧SrcOk s:=fun y=>by
  obtain ⟨W,hW⟩:=zz0 hl y
  exact ⟨(c,0,W),by rw [hW,Option.bind_some],⟨hl,hb,⟨Int.le_refl 0,show (0:Int)≤8192 by omega⟩⟩⟩
 exact key _
theorem zkt {c:List Int} (hl:c.length≤4096) (hb:∀ x∈c,0≤x∧x < 256):∃ s,jO c=some s∧SrcOk s:=zz3 (by omega) hb
end Go.Proofs.YtebfhlnfmkhmcaaGreat
/- Draws of polynomials. -/
namespace Go.Proofs.YtebfhlnfmkhmcaaGreat
open Go.Abs
theorem zfy (x:Int):0≤IntKind.u8.wrap x∧IntKind.u8.wrap x < 256:=by
 simp only [IntKind.wrap,IntKind.signed,IntKind.bits]
 simp
 omega
theorem zgl {v:V64} (h:IsB v) (k:Nat) {x:Int} (hx:0≤x∧x < 256):IsB (yO v k x):=fun d hd=>by
 have hd':d∈v.1.set k x:=hd
 rcases List.mem_or_eq_of_mem_set hd' with h1 | rfl
 ·exact h d h1
 ·exact hx
theorem zj3:IsB (yH 64 0):=fun d hd=>by
 have:d∈List.replicate 64 (0:Int):=hd
 rw [List.eq_of_mem_replicate this]; omega
theorem zn8 {p:Int} (hp:p≤1000):∀ (m:Nat) (i:Int) (v:V64) (s:Src),i + 1=m→i≤63→IsB v→SrcOk s →
  ∃ (v':V64) (s':Src),yK (fun s:Int×V64×Src=>qK p s.1 s.2.1 s.2.2) (i,v,s)=some (v',s')∧IsB v'∧SrcOk s'
 | 0,i,v,s,hi,_,hv,hs=>by
  have h0:decide (i ≥ 0)=false:=decide_eq_false (by omega)
  refine ⟨v,s,?_,hv,hs⟩
  rw [yR]
  simp only [qK,h0,Bool.false_eq_true,if_false,Option.bind_some]
 | m + 1,i,v,s,hi,h63,hv,hs=>by
  have h0:decide (i ≥ 0)=true:=decide_eq_true (by omega)
  have ew:IntKind.i64.wrap (i - 1)=i - 1:=zX (by omega) (by omega)
  obtain ⟨r,s1,k1,k2,_⟩:=uS hs (n:=3) (by omega)
  rw [yR]
  simp only [qK,h0,if_true,k1,Option.bind_some,ew]
  by_cases hr:r > 0
  ·obtain ⟨x,s2,k3,k4,_⟩:=uS k2 (n:=p) (by omega)
   obtain ⟨v',s',k5,k6,k7⟩:=zn8 hp m (i - 1) (yO v i.toNat (IntKind.u8.wrap x)) s2 (by omega) (by omega) (zgl hv _ (zfy x)) k4
   refine ⟨v',s',?_,k6,k7⟩
   simp only [decide_eq_true hr,if_true,k3,Option.bind_some]
   rw [zY (by omega)]
   simp only [Option.bind_some]
   exact k5
  ·obtain ⟨v',s',k5,k6,k7⟩:=zn8 hp m (i - 1) v s1 (by omega) (by omega) hv k2
   refine ⟨v',s',?_,k6,k7⟩
   simp only [decide_eq_false hr,Bool.false_eq_true,if_false,Option.bind_some]
   exact k5
theorem z23 {s:Src} (h:SrcOk s) {p most:Int} (hp:p≤1000) (h0:-1≤most) (h63:most≤63):∃ (v:V64) (s':Src),nJ s p most=some (v,s')∧SrcOk s'∧IsB v:=by
 have ew:IntKind.i64.wrap (most + 2)=most + 2:=zX (by omega) (by omega)
 obtain ⟨r,s1,k1,k2,k3,k4,_⟩:=uS h (n:=most + 2) (by omega)
 have k4:=k4 (by omega)
 have ew2:IntKind.i64.wrap (r - 1)=r - 1:=zX (by omega) (by omega)
 obtain ⟨v',s',g1,g2,g3⟩:=zn8 hp r.toNat (r - 1) (yH 64 0) s1 (by omega) (by omega) zj3 k2
 refine ⟨v',s',?_,g3,g2⟩
 simp only [nJ,ew,k1,Option.bind_some,ew2,g1]
theorem z2r {s:Src} (h:SrcOk s) {p most:Int} (hp:p≤1000) (h0:0≤most) (h63:most≤63):∃ (v:V64) (s':Src),nJ s p most=some (v,s')∧SrcOk s'∧IsB v:=z23 h hp (by omega) h63
theorem z44 {s:Src} (h:SrcOk s) (p:Int) {v:V64} (hv:IsB v):∃ (v':V64) (s':Src),za0 s p v=some (v',s')∧SrcOk s'∧IsB v':=by
 obtain ⟨r,s1,k1,k2,_⟩:=uS h (n:=40) (by omega)
 simp only [za0,k1,Option.bind_some]
 by_cases hr:r=0
 ·obtain ⟨i,s2,k3,k4,k5,k6,_⟩:=uS k2 (n:=64) (by omega)
  have k6:=k6 (by omega)
  obtain ⟨x,s3,k7,k8,_⟩:=zhd k4 (l:=[p,7,255,1]) (by simp) (by simp)
  rw [if_pos (by rw [hr]; rfl),k3]
  simp only [Option.bind_some,k7]
  rw [zY (by omega)]
  simp only [Option.bind_some]
  exact ⟨_,s3,rfl,k8,zgl hv _ (zfy x)⟩
 ·rw [if_neg (by rw [beq_iff_eq]; exact hr)]
  simp only [Option.bind_some]
  exact ⟨v,s1,rfl,k2,hv⟩
end Go.Proofs.YtebfhlnfmkhmcaaGreat
/- Draws of polynomials, with coefficients below p. -/
namespace Go.Proofs.YtebfhlnfmkhmcaaGreat
open Go.Abs
theorem zuk {p:Int} {v:V64} (h:Res p v) {k:Nat} (hk:k < 64) {x:Int} (hx:0≤x∧x < p):Res p (yO v k x):=fun j hj=>by
 rw [zbc _ _ _ _ hk]
 by_cases e:j=k
 ·rw [if_pos e]; exact hx
 ·rw [if_neg e]; exact h j hj
theorem z0v {p:Int} (hp:0 < p):Res p (yH 64 0):=fun j hj=>by rw [zgw _ hj]; omega
end Go.Proofs.YtebfhlnfmkhmcaaGreat
/- A polynomial that is drawn, seldom none. -/
namespace Go.Proofs.YtebfhlnfmkhmcaaGreat
open Go.Abs
theorem z0e {s:Src} (h:SrcOk s):∃ (p:Int) (v:V64) (s':Src),mM s=some (p,v,s')∧SrcOk s'∧IsB v∧p≤1000:=by
 obtain ⟨p,s1,h1,h2,hpm⟩:=zhd h (l:=[2,2,3,3,5,7]) (by simp) (by simp)
 have hp:p≤1000:=by
  simp only [List.mem_cons,List.not_mem_nil,or_false] at hpm
  omega
 have e1:jM s=some (p,s1):=by simp only [jM,h1,Option.bind_some]
 obtain ⟨m,s2,h3,h4,hm⟩:=zhd h2 (l:=[3,6,9,63]) (by simp) (by simp)
 have hm':0≤m∧m≤63:=by
  simp only [List.mem_cons,List.not_mem_nil,or_false] at hm
  omega
 obtain ⟨a,s3,h5,h6,ha⟩:=z2r h4 hp hm'.1 hm'.2
 have mid:∃ (q:Int) (s4:Src),(Option.bind (zS s3 40) fun r23=>(if (r23.1 == 0) then (Option.bind (wA r23.2 ([0,1,4,11,-3])) fun r27=>(some (r27.1,r27.2))) else (some (p,r23.2))))=some (q,s4)∧SrcOk s4∧q≤1000:=by
  obtain ⟨r,s4,k1,k2,_⟩:=uS h6 (n:=40) (by omega)
  simp only [k1,Option.bind_some]
  by_cases hr:r=0
  ·obtain ⟨q,s5,k3,k4,hq⟩:=zhd k2 (l:=[0,1,4,11,-3]) (by simp) (by simp)
   rw [if_pos (by rw [hr]; rfl),k3]
   simp only [List.mem_cons,List.not_mem_nil,or_false] at hq
   exact ⟨q,s5,rfl,k4,by omega⟩
  ·rw [if_neg (by rw [beq_iff_eq]; exact hr)]
   exact ⟨p,s4,rfl,k2,hp⟩
 obtain ⟨q,s4,h7,h8,hq⟩:=mid
 obtain ⟨v,s5,h9,h10,hv⟩:=z44 h8 (if 1 > q then 1 else q) ha
 refine ⟨q,v,s5,?_,h10,hv,hq⟩
 simp only [mM,e1,h3,h5,h7,h9,Option.bind_some]
end Go.Proofs.YtebfhlnfmkhmcaaGreat
/- The polynomial T. -/
namespace Go.Proofs.YtebfhlnfmkhmcaaGreat
open Go.Abs

theorem T_is:zez=some (yP [0,1]):=by
 unfold zez
 congr 1
end Go.Proofs.YtebfhlnfmkhmcaaGreat
/- Rests of products and powers. -/
namespace Go.Proofs.YtebfhlnfmkhmcaaGreat
open Go.Abs

variable {P:Pri}
/-! Rests. -/
theorem zco (a:PP P) {m:PP P} (hm:m ≠ 0):(yX a m).len < m.len:=(zkf a hm).2
theorem zpi {a m r:PP P} (q:PP P) (hm:m ≠ 0) (h:a=q*m + r) (hr:r.len < m.len):yX a m=r:=(z2g hm h hr).2
theorem zsz (a c:PP P) {m:PP P} (hm:m ≠ 0):yX (a + c*m) m=yX a m:=by
 refine zpi (zbf a m + c) hm ?_ (zco a hm)
 have h:=(zkf a hm).1
 rw [zN.add_mul]
 conv=>lhs; rw [h]
 rw [zN.add_assoc,zN.add_assoc,zN.add_comm (yX a m)]
theorem zq1 {a m:PP P} (h:a.len < m.len):yX a m=a:=by
 have hm:m ≠ 0:=fun e=>by rw [wT.2 e] at h; omega
 exact zpi 0 hm (by rw [zN.zero_mul,zN.zero_add]) h
theorem ziq (a b:PP P) {m:PP P} (hm:m ≠ 0):yX (yX a m*b) m=yX (a*b) m:=by
 have h:=(zkf a hm).1
 have e:a*b=yX a m*b + (zbf a m*b)*m:=by
  conv=>lhs; rw [h]
  rw [zN.add_mul,zN.add_comm,zN.mul_assoc,zN.mul_assoc,zN.mul_comm m b]
 rw [e,zsz _ _ hm]
theorem zmb (a b:PP P) {m:PP P} (hm:m ≠ 0):yX (a*yX b m) m=yX (a*b) m:=by
 rw [zN.mul_comm,ziq _ _ hm,zN.mul_comm]
theorem zut (a b:PP P) {m:PP P} (hm:m ≠ 0):yX (yX a m*yX b m) m=yX (a*b) m:=by
 rw [ziq _ _ hm,zmb _ _ hm]
theorem zvy (a b:PP P) {m:PP P} (hm:m ≠ 0):yX (a + b) m=yX a m + yX b m:=by
 have h1:=(zkf a hm).1
 have h2:=(zkf b hm).1
 refine zpi (zbf a m + zbf b m) hm ?_ ?_
 ·conv=>lhs; rw [h1,h2]
  rw [zN.add_mul]
  simp only [zN.add_assoc]
  rw [zN.add_left_comm (yX a m)]
 ·have:=zb3 (yX a m) (yX b m)
  have:=zco a hm
  have:=zco b hm
  omega
theorem z5y (a:PP P) (k:Nat):pw (a*a) k=pw a (2*k):=by
 rw [zN.pw_mul]
 congr 1
 simp only [pw,zN.one_mul]
theorem z26 (a:PP P) {m:PP P} (hm:m ≠ 0) (k:Nat):yX (pw (yX a m) k) m=yX (pw a k) m:=by
 induction k with
 | zero=>rfl
 | succ k ih=>simp only [pw]; rw [zmb _ _ hm,← ziq _ _ hm,ih,ziq _ _ hm]

end Go.Proofs.YtebfhlnfmkhmcaaGreat
/- T times a polynomial, coefficient by coefficient. -/
namespace Go.Proofs.YtebfhlnfmkhmcaaGreat
open Go.Abs
variable {P:Pri}
theorem T_c (a:PP P) (i:Nat):(ppT*a).c i=if 1≤i then a.c (i - 1) else 0:=by
 rw [zm9]
 have e:conv (PP.c (ppT:PP P)) a.c i=if 1≤i then a.c (i - 1) else 0:=z19 _ i
 rw [e]
 split
 ·exact a.c_mod _
 ·rfl
end Go.Proofs.YtebfhlnfmkhmcaaGreat
/- Rests of products and powers, in the reference. -/
namespace Go.Proofs.YtebfhlnfmkhmcaaGreat
open Go.Abs

variable {P:Pri}
theorem z3y {a b:PP P} (hb:b ≠ 0) (la:a.len≤64) (lb:b.len≤64):vV P.p (yP a.1) (yP b.1)=some (yP (yX a b).1):=by
 simp only [vV,z4t hb la lb,Option.bind_some]
set_option maxHeartbeats 2000000 in
/-- T times a residue, less a multiple of the modulus. -/
theorem z58 {a m:PP P} (hm:m ≠ 0) (lm:m.len≤64) (la:a.len < m.len):zi2 P.p (yP a.1) (yP m.1)=some (yP (yX (ppT*a) m).1):=by
 have hp:=P.two
 simp only [zi2,kR,zre m lm,Option.bind_some]
 by_cases h1:m.len=1
 ·rw [if_pos (by rw [beq_iff_eq]; omega)]
  have h:=zco (ppT*a) hm
  have:yX (ppT*a) m=0:=wT.1 (by omega)
  rw [this]
  exact congrArg some zb7.symm
 ·have hml:=qU hm
  obtain ⟨n,hn⟩:∃ n,m.len=n + 2:=⟨m.len - 2,by omega⟩
  have e0:((m.len:Int) - 1)=((n + 1:Nat):Int):=by omega
  rw [if_neg (by rw [beq_iff_eq]; omega),e0]
  have e1:IntKind.i64.wrap (((n + 1:Nat):Int) - 1)=(n:Int):=by rw [zX (by omega) (by omega)]; omega
  rw [e1,zY (by omega),Int.toNat_natCast]
  have an:=a.c_res n
  have ean:rd (yP a.1).1 n=a.c n:=uW _ (by omega)
  simp only [Int.toNat_natCast,ean]
  rw [zX (n:=a.c n) (by omega) (by omega)]
  -- the shifted coefficients
  obtain ⟨v,h2,h3⟩:=wR (body:=fun s:Int×V64=>mW ((n + 1:Nat):Int) (yP a.1) s.1 s.2) (fun i u=>((i:Int),u)) (fun u=>u) (n + 1)
   (fun i u=>1≤i∧∀ j,j < 64→rd u.1 j=if 1≤j∧j < i then a.c (j - 1) else 0) (fun i u hi hI=>by
    obtain ⟨hi1,hI⟩:=hI
    have e2:IntKind.i64.wrap ((i:Int) - 1)=((i - 1:Nat):Int):=by rw [zX (by omega) (by omega)]; omega
    have e3:rd (yP a.1).1 (i - 1)=a.c (i - 1):=uW _ (by omega)
    refine ⟨yO u i (a.c (i - 1)),?_,by omega,fun j hj=>?_⟩
    ·simp only [mW,e2,Int.toNat_natCast,e3]
     rw [if_pos (decide_eq_true (by omega)),zY (by omega),zY (by omega),zX (by omega) (by omega)]
     rfl
    ·rw [zbc _ _ _ _ (by omega),hI j hj]
     by_cases h:j=i
     ·subst h; rw [if_pos rfl,if_pos (by omega)]
     ·rw [if_neg h]
      simp only [show (1≤j∧j < i + 1)=(1≤j∧j < i) from by rw [eq_iff_iff]; omega]) (fun u hI=>by
    simp only [mW]
    rw [if_neg (by rw [decide_eq_true_eq]; omega)]) n 1 (yH 64 0) (by omega) ⟨by omega,fun j hj=>by rw [zgw _ hj,if_neg (by omega)]⟩
  have h2':yK (fun s:Int×V64=>mW ((n + 1:Nat):Int) (yP a.1) s.1 s.2) (1,yH 64 0)=some v:=h2
  have emn:rd (yP m.1).1 (n + 1)=wG m.1:=by
   rw [uW _ (by omega)]
   show rd m.1 (n + 1)=rd m.1 (m.1.length - 1)
   have:m.1.length=n + 2:=hn
   rw [this]; rfl
  have hlead:=zbn P.pos m.2 (zdq hm)
  have hinv:=zet P.okp hlead
  obtain ⟨f,hf⟩:∃ f:Nat,a.c n*inv P.p (wG m.1) % P.p=f:=⟨(a.c n*inv P.p (wG m.1) % P.p).toNat,by have:=zao P.pos (a.c n*inv P.p (wG m.1)); omega⟩
  have hfp:(f:Int) < P.p:=by rw [← hf]; exact (zao P.pos _).2
  have hinv':0 < inv P.p (wG m.1)∧inv P.p (wG m.1) < P.p:=⟨hinv.1,hinv.2.1⟩
  have hms:=mJ (x:=a.c n) (y:=inv P.p (wG m.1)) (by omega) (by omega)
  have ef:Int.tmod (IntKind.i64.wrap (a.c n*IntKind.i64.wrap (inv P.p (wG m.1)))) P.p=f:=by
   rw [zX (n:=inv P.p (wG m.1)) (by omega) (by omega),zX (n:=_*_) (by omega) (by omega),Int.tmod_eq_emod_of_nonneg hms.1,hf]
  -- less a multiple of the modulus
  obtain ⟨w,h4,h5⟩:=wR (body:=fun s:Int×V64=>zac ((n + 1:Nat):Int) (a.c n) (inv P.p (wG m.1)) P.p (yP m.1) s.1 s.2) (fun i u=>((i:Int),u)) (fun u=>u) (n + 1)
   (fun i u=>∀ j,j < 64→rd u.1 j=if j < i then (rd v.1 j - f*m.c j) % P.p else rd v.1 j) (fun i u hi hI=>by
    have hs:=hI i (by omega)
    rw [if_neg (by omega)] at hs
    have hv:=h3.2 i (by omega)
    have hvb:0≤rd v.1 i∧rd v.1 i < 256:=by
     rw [hv]
     split
     ·have:=a.c_res (i - 1); omega
     ·omega
    have hmi:=m.c_res i
    have em:rd (yP m.1).1 i=m.c i:=uW _ (by omega)
    have hfm:=mJ (x:=(f:Int)) (y:=m.c i) (by omega) (by omega)
    have h6:=Int.lt_tmod_of_pos (rd v.1 i - f*m.c i) P.pos
    have h7:=Int.tmod_lt_of_pos (rd v.1 i - f*m.c i) P.pos
    have h8:=zao P.pos (rd v.1 i - f*m.c i)
    refine ⟨yO u i ((rd v.1 i - f*m.c i) % P.p),?_,fun j hj=>?_⟩
    ·simp only [zac,kR,Int.toNat_natCast,hs,em,ef]
     rw [if_pos (decide_eq_true (by omega)),zY (by omega),zY (by omega),zY (by omega),zY (by omega),zY (by omega)]
     rw [zX (n:=m.c i) (by omega) (by omega),zX (n:=(f:Int)*m.c i) (by omega) (by omega),zX (n:=rd v.1 i) (by omega) (by omega),zX (n:=rd v.1 i - f*m.c i) (by omega) (by omega),zX (n:=_ + P.p) (by omega) (by omega),zme P.pos,zjd (by omega) (by omega),zX (by omega) (by omega)]
     rfl
    ·rw [zbc _ _ _ _ (by omega),hI j hj]
     by_cases h:j=i
     ·subst h; rw [if_pos rfl,if_pos (by omega)]
     ·rw [if_neg h]
      simp only [show (j < i + 1)=(j < i) from by rw [eq_iff_iff]; omega]) (fun u hI=>by
    simp only [zac]
    rw [if_neg (by rw [decide_eq_true_eq]; omega)]) (n + 1) 0 v (by omega) (fun j hj=>by rw [if_neg (by omega)])
  have h4':yK (fun s:Int×V64=>zac ((n + 1:Nat):Int) (a.c n) (inv P.p (wG m.1)) P.p (yP m.1) s.1 s.2) (0,v)=some w:=h4
  simp only [h2',Option.bind_some,emn]
  rw [zY (by omega),zfv P.okp hlead]
  simp only [Option.bind_some]
  rw [zY (by omega),h4']
  simp only [Option.bind_some]
  -- it is the rest
  have hr:∀ i,(ppT*a + -(mF f m)).c i=((if 1≤i then a.c (i - 1) else 0) - f*m.c i) % P.p:=fun i=>by
   rw [zf3,zyv,zok,T_c,Int.add_emod_emod,Int.sub_eq_add_neg]
   rw [Int.add_emod,← Int.sub_eq_add_neg]
   rw [Int.sub_eq_add_neg,← Int.add_emod,← Int.sub_eq_add_neg,← Int.sub_eq_add_neg]
   exact Int.sub_emod_emod _ _ _
  have hz:∀ i,n + 1≤i→(ppT*a + -(mF f m)).c i=0:=fun i hi=>by
   rw [hr]
   by_cases e:i=n + 1
   ·subst e
    rw [if_pos (by omega),Nat.add_sub_cancel]
    have e5:m.c (n + 1)=wG m.1:=by rw [← emn]; exact (uW _ (by omega)).symm
    have e8:(a.c n*inv P.p (wG m.1) % P.p)*wG m.1 % P.p=a.c n % P.p:=by
     rw [Int.mul_emod,Int.emod_emod,← Int.mul_emod,Int.mul_assoc,Int.mul_comm (inv P.p (wG m.1)),Int.mul_emod,hinv.2.2,Int.mul_one,Int.emod_emod]
    rw [e5,← hf,Int.sub_emod,e8,Int.sub_self]
    rfl
   ·rw [if_pos (by omega)]
    have e5:a.c (i - 1)=0:=vS (by have:a.1.length < m.1.length:=la; have:m.1.length=n + 2:=hn; omega)
    have e6:m.c i=0:=vS (by have:m.1.length=n + 2:=hn; omega)
    rw [e5,e6]; simp
  have hl:(ppT*a + -(mF f m)).len < m.len:=by
   rcases Nat.lt_or_ge (ppT*a + -(mF f m)).len m.len with h | h
   ·exact h
   ·have h0:(ppT*a + -(mF f m)).1.length ≠ 0:=by have:(ppT*a + -(mF f m)).1.length=(ppT*a + -(mF f m)).len:=rfl; omega
    have h9:=(ppT*a + -(mF f m)).2.nrm h0
    have h10:(ppT*a + -(mF f m)).c ((ppT*a + -(mF f m)).len - 1)=0:=hz _ (by omega)
    exact (h9 h10).elim
  have hrem:yX (ppT*a) m=ppT*a + -(mF f m):=by
   refine zpi (mF f 1) hm ?_ hl
   have e7:mF f 1*m=mF f m:=by rw [zN.mul_comm,zN.mul_nsm,zN.mul_one]
   rw [e7,zN.add_left_comm,zN.add_neg,zN.add_zero]
  rw [hrem]
  congr 1
  refine ze7 fun j hj=>?_
  rw [h5 j hj,uW _ hj]
  show _=(ppT*a + -(mF f m)).c j
  by_cases hjn:j < n + 1
  ·rw [if_pos hjn,hr,h3.2 j hj]
   simp only [show (1≤j∧j < n + 1)=(1≤j) from by rw [eq_iff_iff]; omega]
  ·rw [if_neg hjn,hz j (by omega),h3.2 j hj,if_neg (by omega)]

/-! Products. -/
theorem zun {p:Int}:∀ (i:Nat) {l:List Int},Row p l→Row p (l.drop i)
 | 0,_,h=>h
 | _ + 1,[],h=>h
 | i + 1,_ :: _,h=>zun i (zf4 h)
def zc3 (b:PP P) (i:Nat):PP P:=⟨b.1.drop i,zun i b.2⟩
theorem zyb (b:PP P) (i j:Nat):(zc3 b i).c j=b.c (i + j):=by
 show rd (b.1.drop i) j=rd b.1 (i + j)
 simp [rd]
theorem zzl (b:PP P) {i:Nat} (h:b.len≤i):zc3 b i=0:=zie (List.drop_eq_nil_of_le h)
theorem zww (b:PP P) (i:Nat):zc3 b i=ppT*zc3 b (i + 1) + mF (b.c i).toNat 1:=by
 have hb:=b.c_res i
 refine ze1 fun j=>?_
 rw [zf3,T_c,zok,zyp,zyb,zyb,Int.toNat_of_nonneg hb.1]
 cases j with
 | zero=>rw [if_neg (by omega),if_pos rfl,Int.mul_one,Int.add_emod_emod,Int.zero_add,Nat.add_zero,b.c_mod]
 | succ j =>
  rw [if_pos (by omega),if_neg (by omega),Int.mul_zero,Int.zero_emod,Int.add_zero,b.c_mod]
  congr 1; omega
theorem zux {a b m:PP P} (hm:m ≠ 0) (lm:m.len≤64) (la:a.len≤64) (lb:b.len≤64):∀ i:Nat,i≤b.len →
  yK (fun s:Int×V64=>qX P.p (yP m.1) (yP a.1) (yP b.1) s.1 s.2) ((i:Int) - 1,yP (yX (a*zc3 b i) m).1)=some (yP (yX (a*b) m).1):=by
 have hp:=P.two
 intro i
 induction i with
 | zero =>
  intro _
  have step:qX P.p (yP m.1) (yP a.1) (yP b.1) (((0:Nat):Int) - 1) (yP (yX (a*zc3 b 0) m).1)=some (.inr (yP (yX (a*zc3 b 0) m).1)):=by
   simp only [qX]
   rw [if_neg (by simp)]
  rw [yR]
  simp only [step,Option.bind_some]
  rfl
 | succ i ih =>
  intro hi
  have hbc:=b.c_res i
  have l1:=zco (a*zc3 b (i + 1)) hm
  have l2:=zco (ppT*yX (a*zc3 b (i + 1)) m) hm
  have ew:IntKind.i64.wrap (((i + 1:Nat):Int) - 1 - 1)=(i:Int) - 1:=by rw [zX (by omega) (by omega)]; omega
  have eb:rd (yP b.1).1 i=b.c i:=uW _ (by omega)
  obtain ⟨k,hk⟩:∃ k:Nat,b.c i=k:=⟨(b.c i).toNat,by omega⟩
  have e1:=z58 hm lm l1
  have e2:=z7e (P:=P) (a:=yX (ppT*yX (a*zc3 b (i + 1)) m) m) (b:=a) (by omega) la (k:=k) (by omega)
  have l3:(yX (ppT*yX (a*zc3 b (i + 1)) m) m + mF k a).len≤64:=by
   have:=zb3 (yX (ppT*yX (a*zc3 b (i + 1)) m) m) (mF k a)
   have:=zo8 k a
   omega
  have e3:=z3y hm l3 lm
  have e4:yX (yX (ppT*yX (a*zc3 b (i + 1)) m) m + mF k a) m=yX (a*zc3 b i) m:=by
   rw [zmb _ _ hm]
   have h1:yX (yX (ppT*(a*zc3 b (i + 1))) m + mF k a) m=yX (ppT*(a*zc3 b (i + 1)) + mF k a) m:=by
    rw [zvy _ _ hm,zvy _ _ hm,zq1 (zco (ppT*(a*zc3 b (i + 1))) hm)]
   have h2:ppT*(a*zc3 b (i + 1)) + mF k a=a*zc3 b i:=by
    rw [zww b i,zN.mul_add,zN.mul_left_comm a ppT,zN.mul_nsm,zN.mul_one,hk,Int.toNat_natCast]
   rw [h1,h2]
  have step:qX P.p (yP m.1) (yP a.1) (yP b.1) (((i + 1:Nat):Int) - 1) (yP (yX (a*zc3 b (i + 1)) m).1)=some (.inl ((i:Int) - 1,yP (yX (a*zc3 b i) m).1)):=by
   simp only [qX,e1,Option.bind_some]
   rw [if_pos (decide_eq_true (by omega)),zY (by omega),ew,show (((i + 1:Nat):Int) - 1).toNat=i by omega,eb,zX (by omega) (by omega),hk,e2]
   simp only [Option.bind_some]
   rw [e3,e4]
   rfl
  rw [yR]
  simp only [step,Option.bind_some]
  exact ih (by omega)
theorem zyh {a b m:PP P} (hm:m ≠ 0) (lm:m.len≤64) (la:a.len≤64) (lb:b.len≤64):nT P.p (yP a.1) (yP b.1) (yP m.1)=some (yP (yX (a*b) m).1):=by
 have h:=zux hm lm la lb b.len (Nat.le_refl _)
 have e:yX (a*zc3 b b.len) m=0:=by
  rw [zzl b (Nat.le_refl _),zN.mul_zero]
  exact zq1 (by have:=qU hm; rw [wT.2 rfl]; omega)
 rw [e] at h
 have e2:yP (0:PP P).1=yH 64 0:=zb7
 rw [e2] at h
 simp only [nT,zre b lb,Option.bind_some,h]

/-! Powers. -/
theorem zuu {m:PP P} (hm:m ≠ 0) (lm:m.len≤64):∀ (n k:Nat) (O B:PP P),k≤n→k < 4611686018427387904 →
  yK (fun s:Int×V64×V64=>vL P.p (yP m.1) s.1 s.2.1 s.2.2) ((k:Int),yP (yX O m).1,yP (yX B m).1)=some (yP (yX (O*pw B k) m).1):=by
 intro n
 induction n with
 | zero =>
  intro k O B hk _
  have:k=0:=by omega
  subst this
  have step:vL P.p (yP m.1) ((0:Nat):Int) (yP (yX O m).1) (yP (yX B m).1)=some (.inr (yP (yX O m).1)):=by
   simp only [vL]
   rw [if_neg (by simp)]
  rw [yR]
  simp only [step,Option.bind_some,pw,zN.mul_one]
 | succ n ih =>
  intro k O B hk hb
  rcases Nat.eq_zero_or_pos k with rfl | h0
  ·have step:vL P.p (yP m.1) ((0:Nat):Int) (yP (yX O m).1) (yP (yX B m).1)=some (.inr (yP (yX O m).1)):=by
    simp only [vL]
    rw [if_neg (by simp)]
   rw [yR]
   simp only [step,Option.bind_some,pw,zN.mul_one]
  ·have lO:=zco O hm
   have lB:=zco B hm
   have e1:nT P.p (yP (yX B m).1) (yP (yX B m).1) (yP m.1)=some (yP (yX (B*B) m).1):=by rw [zyh hm lm (by omega) (by omega),zut _ _ hm]
   have e2:nT P.p (yP (yX O m).1) (yP (yX B m).1) (yP m.1)=some (yP (yX (O*B) m).1):=by rw [zyh hm lm (by omega) (by omega),zut _ _ hm]
   have et:Int.tmod (k:Int) 2=((k % 2:Nat):Int):=by rw [Int.tmod_eq_emod_of_nonneg (by omega)]; omega
   have ed:IntKind.i64.wrap (Int.tdiv (k:Int) 2)=((k / 2:Nat):Int):=by rw [Int.tdiv_eq_ediv_of_nonneg (by omega),zX (by omega) (by omega)]; omega
   have step:vL P.p (yP m.1) (k:Int) (yP (yX O m).1) (yP (yX B m).1)=some (.inl (((k / 2:Nat):Int),yP (yX (if k % 2=1 then O*B else O) m).1,yP (yX (B*B) m).1)):=by
    simp only [vL,e1,e2,et,ed,Option.bind_some]
    rw [if_pos (decide_eq_true (by omega))]
    by_cases ho:k % 2=1
    ·rw [if_pos ho,if_pos (by rw [beq_iff_eq]; omega)]; rfl
    ·rw [if_neg ho,if_neg (by rw [beq_iff_eq]; omega)]; rfl
   rw [yR]
   simp only [step,Option.bind_some]
   rw [ih (k / 2) _ _ (by omega) (by omega),z5y]
   congr 4
   by_cases ho:k % 2=1
   ·rw [if_pos ho,zN.mul_assoc]
    have e:k=2*(k / 2) + 1:=by omega
    conv=>rhs; rw [e]
    simp only [pw]
    rw [zN.mul_comm B]
   ·rw [if_neg ho]
    have e:k=2*(k / 2):=by omega
    conv=>rhs; rw [e]
theorem z2w {a m:PP P} (hm:m ≠ 0) (lm:m.len≤64) (la:a.len≤64) {k:Nat} (hk:k < 4611686018427387904):zcm P.p (yP a.1) k (yP m.1)=some (yP (yX (pw a k) m).1):=by
 have h:=zuu hm lm k k 1 a (Nat.le_refl _) hk
 have e1:vV P.p (yP [1]) (yP m.1)=some (yP (yX (1:PP P) m).1):=z3y (a:=(1:PP P)) hm (by rw [zfu]; omega) lm
 simp only [zcm,znz,e1,z3y hm la lm,Option.bind_some,h,zN.one_mul]
end Go.Proofs.YtebfhlnfmkhmcaaGreat
/- Irreducible polynomials, in the reference. -/
namespace Go.Proofs.YtebfhlnfmkhmcaaGreat
open Go.Abs

variable {P:Pri}
theorem z02 (a b:PP P):zb8 P.p a.1 b.1 (-1)=(a + -b).1:=by
 refine zg8 (zbk P.pos _ _ _) (a + -b).2 fun i=>?_
 have h:(a + -b).c i=(a.c i + (-b).c i) % P.p:=zf3 _ _ _
 rw [zfr]
 show _=(a + -b).c i
 rw [h,zyv,Int.add_emod_emod,Int.neg_mul,Int.one_mul]; rfl
theorem z70 {a b:PP P} (la:a.len≤64) (lb:b.len≤64):xS P.p (yP a.1) (yP b.1) (-1)=some (yP (a + -b).1):=by
 rw [zdl P.sm a.2 b.2 la lb (by omega),z02]
/-- T to the power p^k, less T. -/
def fro (P:Pri) (k:Nat):PP P:=pw ppT (P.n ^ k) + -ppT
theorem z13 {m d:PP P} (hm:m ≠ 0) (k:Nat) (hd:Dv d m):Dv d (yX (pw ppT (P.n ^ k)) m + -ppT) ↔ Dv d (fro P k):=by
 have h:=(zkf (pw (ppT:PP P) (P.n ^ k)) hm).1
 have e:fro P k=zbf (pw ppT (P.n ^ k)) m*m + (yX (pw ppT (P.n ^ k)) m + -ppT):=by
  unfold fro
  conv=>lhs; rw [h]
  rw [zN.add_assoc]
 rw [e]
 exact ⟨fun h=>zN.dv_add (zN.dv_mul hd _) h,fun h=>zN.dv_sub h (zN.dv_mul hd _)⟩
theorem z43 (m:PP P) (hm:m ≠ 0) (k:Nat):yX (pw (yX (pw ppT (P.n ^ k)) m) P.n) m=yX (pw ppT (P.n ^ (k + 1))) m:=by
 rw [z26 _ hm,← zN.pw_mul,← Nat.pow_succ]
theorem zy5 {m:PP P} (h2:2≤m.len) (lm:m.len≤64):∀ (n k:Nat),k + n=64→1≤k→(∀ g,Irr g→Dv g m→k + 1≤g.len) →
  ∃ r,yK (fun s:Int×V64=>xT ((m.len:Int) - 1) P.p (yP m.1) s.1 s.2) ((k:Int),yP (yX (pw ppT (P.n ^ (k - 1))) m).1)=some r∧((r=.inl ()∧Irr m)∨(r=.inr false∧¬ Irr m)):=by
 have hm:m ≠ 0:=fun e=>by rw [wT.2 e] at h2; omega
 have hp:=P.two
 intro n
 induction n with
 | zero =>
  intro k hk hk1 hb
  have step:xT ((m.len:Int) - 1) P.p (yP m.1) (k:Int) (yP (yX (pw ppT (P.n ^ (k - 1))) m).1)=some (.inr (.inl ())):=by
   simp only [xT]
   rw [if_neg (by rw [decide_eq_true_eq,zX (by omega) (by omega)]; omega)]
  refine ⟨.inl (),by rw [yR]; simp only [step,Option.bind_some],.inl ⟨rfl,?_⟩⟩
  refine Classical.byContradiction fun hn=>?_
  obtain ⟨g,hg,hd,hl⟩:=zoh h2 hn
  have:=hb g hg hd
  omega
 | succ n ih =>
  intro k hk hk1 hb
  by_cases h:2*k≤m.len - 1
  ·have l1:=zco (pw ppT (P.n ^ (k - 1))) hm
   have l2:=zco (pw ppT (P.n ^ k)) hm
   have e1:zcm P.p (yP (yX (pw ppT (P.n ^ (k - 1))) m).1) P.p (yP m.1)=some (yP (yX (pw ppT (P.n ^ k)) m).1):=by
    have h3:=z2w (a:=yX (pw ppT (P.n ^ (k - 1))) m) hm lm (by omega) (k:=P.n) (by have:=P.is; omega)
    rw [z43 m hm,show k - 1 + 1=k by omega] at h3
    exact h3
   have e2:xS P.p (yP (yX (pw ppT (P.n ^ k)) m).1) (yP [0,1]) (-1)=some (yP (yX (pw ppT (P.n ^ k)) m + -ppT).1):=z70 (b:=ppT) (by omega) (by rw [z0s]; omega)
   have l3:(yX (pw ppT (P.n ^ k)) m + -ppT:PP P).len≤64:=by
    have:=zb3 (yX (pw ppT (P.n ^ k)) m) (-ppT:PP P)
    have:=zb4 (ppT:PP P)
    rw [z0s] at this
    omega
   obtain ⟨g,e3,lg,hmo,hg⟩:=z66 lm l3 (.inl hm)
   have e4:=zre g lg
   have hgp:=qU hmo.ne
   have step:xT ((m.len:Int) - 1) P.p (yP m.1) (k:Int) (yP (yX (pw ppT (P.n ^ (k - 1))) m).1)=some (if g.len=1 then .inl (((k + 1:Nat):Int),yP (yX (pw ppT (P.n ^ k)) m).1) else .inr (.inr false)):=by
    simp only [xT,e1,T_is,e2,e3,e4,Option.bind_some]
    rw [if_pos (decide_eq_true (by rw [zX (by omega) (by omega)]; omega))]
    by_cases h1:g.len=1
    ·rw [if_pos h1,if_neg (by simp; omega),zX (by omega) (by omega)]; rfl
    ·rw [if_neg h1,if_pos (by simp; omega)]
   rw [yR]
   by_cases h1:g.len=1
   ·rw [if_pos h1] at step
    simp only [step,Option.bind_some]
    refine ih (k + 1) (by omega) (by omega) fun f hf hd=>?_
    have h4:=hb f hf hd
    rcases Nat.lt_or_ge (k + 1) f.len with h5 | h5
    ·omega
    ·exfalso
     have h6:f.len - 1=k:=by omega
     have h7:=z5x hf
     rw [h6] at h7
     have h8:=(hg f).2 ⟨hd,(z13 hm k hd).2 h7⟩
     have h9:=zds h8 hmo.ne
     have:=hf.1
     omega
   ·rw [if_neg h1] at step
    simp only [step,Option.bind_some]
    refine ⟨_,rfl,.inr ⟨rfl,fun hi=>?_⟩⟩
    obtain ⟨d1,d2⟩:=(hg g).1 (zN.dv_refl g)
    rcases hi.dv d1 with h5 | h5
    ·exact h1 h5
    ·have h6:=(z13 hm k (zN.dv_refl m)).1 (zN.dv_trans h5 d2)
     have h7:=z5e hi hk1 h6
     omega
  ·have step:xT ((m.len:Int) - 1) P.p (yP m.1) (k:Int) (yP (yX (pw ppT (P.n ^ (k - 1))) m).1)=some (.inr (.inl ())):=by
    simp only [xT]
    rw [if_neg (by rw [decide_eq_true_eq,zX (by omega) (by omega)]; omega)]
   refine ⟨.inl (),by rw [yR]; simp only [step,Option.bind_some],.inl ⟨rfl,?_⟩⟩
   refine Classical.byContradiction fun hn=>?_
   obtain ⟨g,hg,hd,hl⟩:=zoh h2 hn
   have:=hb g hg hd
   omega
open Classical in
theorem z7t {m:PP P} (lm:m.len≤64) (hm:m ≠ 0):nK P.p (yP m.1)=some (decide (Irr m)):=by
 have e1:vV P.p (yP [0,1]) (yP m.1)=some (yP (yX ppT m).1):=z3y (a:=ppT) hm (by rw [z0s]; omega) lm
 have hml:=qU hm
 simp only [nK,zre m lm,T_is,e1,Option.bind_some]
 by_cases h1:m.len=1
 ·rw [if_pos (decide_eq_true (by omega)),decide_eq_false (fun hi:Irr m=>by have:=hi.1; omega)]
 ·rw [if_neg (by rw [decide_eq_true_eq]; omega)]
  obtain ⟨r,h3,h4⟩:=zy5 (by omega) lm 63 1 (by omega) (by omega) (fun g hg _=>hg.1)
  have h3':yK (fun s:Int×V64=>xT ((m.len:Int) - 1) P.p (yP m.1) s.1 s.2) (1,yP (yX ppT m).1)=some r:=by
   have e:pw (ppT:PP P) (P.n ^ (1 - 1))=ppT:=by
    show pw ppT (P.n ^ 0)=ppT
    rw [Nat.pow_zero]; simp only [pw]; rw [zN.one_mul]
   rw [e] at h3
   exact h3
  simp only [h3',Option.bind_some]
  rcases h4 with ⟨rfl,h⟩ | ⟨rfl,h⟩
  ·rw [decide_eq_true h]
  ·rw [decide_eq_false h]
end Go.Proofs.YtebfhlnfmkhmcaaGreat
/- The draws of forms. -/
namespace Go.Proofs.YtebfhlnfmkhmcaaGreat
open Go.Abs
theorem zxn {q:Int×Src} {n:Int} (hn:n≤63) (hq:q.1≤1000):∀ (m:Nat) (i:Nat) (v:V64) (s:Src),(i:Int) + m=n→IsB v→SrcOk s →
  ∃ (v':V64) (s':Src),yK (fun s:Int×V64×Src=>uA n q s.1 s.2.1 s.2.2) ((i:Int),v,s)=some (v',s')∧IsB v'∧SrcOk s'
 | 0,i,v,s,hi,hv,hs=>by
  refine ⟨v,s,?_,hv,hs⟩
  rw [yR]
  have h0:decide ((i:Int) < n)=false:=decide_eq_false (by omega)
  simp only [uA,h0,Bool.false_eq_true,if_false,Option.bind_some]
 | m + 1,i,v,s,hi,hv,hs=>by
  obtain ⟨r,s1,k1,k2,_⟩:=uS hs (n:=q.1) (by omega)
  obtain ⟨v',s',k3,k4,k5⟩:=zxn hn hq m (i + 1) (yO v i (IntKind.u8.wrap r)) s1 (by omega) (zgl hv _ (zfy r)) k2
  refine ⟨v',s',?_,k4,k5⟩
  rw [yR]
  have h0:decide ((i:Int) < n)=true:=decide_eq_true (by omega)
  simp only [uA,h0,if_true,k1,Option.bind_some,Int.toNat_natCast]
  rw [zY (by omega),zX (by omega) (by omega)]
  exact k3
theorem zx3 {q:Int×Src} {n:Int} (h0:0≤n) (hn:n≤63) (hq:q.1≤1000) (hq0:0≤q.1):∀ (m:Nat) (i:Nat) (v:V64) (s:Src),i + m=6→IsB v→SrcOk s →
  ∃ (v':V64) (s':Src),yK (fun s:Int×V64×Src=>vD n q s.1 s.2.1 s.2.2) ((i:Int),v,s)=some (v',s')∧IsB v'∧SrcOk s'
 | 0,i,v,s,hi,hv,hs=>by
  refine ⟨v,s,?_,hv,hs⟩
  rw [yR]
  have h0:decide ((i:Int) < 6)=false:=decide_eq_false (by omega)
  simp only [vD,h0,Bool.false_eq_true,if_false,Option.bind_some]
 | m + 1,i,v,s,hi,hv,hs=>by
  obtain ⟨v1,s1,k1,k2,k3⟩:=zxn (q:=q) hn hq n.toNat 0 (yH 64 0) s (by omega) zj3 hs
  have k1':yK (fun s:Int×V64×Src=>uA n q s.1 s.2.1 s.2.2) (0,yH 64 0,s)=some (v1,s1):=k1
  obtain ⟨r,s2,k4,k5,_⟩:=uS k3 (n:=IntKind.i64.wrap (q.1 - 1)) (by rw [zX (by omega) (by omega)]; omega)
  have hv2:=zgl k2 n.toNat (zfy (IntKind.i64.wrap (1 + r)))
  have h1:decide ((i:Int) < 6)=true:=decide_eq_true (by omega)
  have step:∃ y,vD n q (i:Int) v s=some y∧(y=.inr (yO v1 n.toNat (IntKind.u8.wrap (IntKind.i64.wrap (1 + r))),s2)∨y=.inl (((i + 1:Nat):Int),yO v1 n.toNat (IntKind.u8.wrap (IntKind.i64.wrap (1 + r))),s2)):=by
   simp only [vD,h1,if_true,k1',k4,Option.bind_some]
   rw [zY (by omega),kR,zck hv2,zX (n:=(i:Int) + 1) (by omega) (by omega)]
   simp only [Option.bind_some]
   cases mX q.1 (yO v1 n.toNat (IntKind.u8.wrap (IntKind.i64.wrap (1 + r)))) with
   | true=>exact ⟨_,rfl,.inl rfl⟩
   | false=>exact ⟨_,rfl,.inr rfl⟩
  obtain ⟨y,hy,hz⟩:=step
  rcases hz with rfl | rfl
  ·refine ⟨_,s2,?_,hv2,k5⟩
   rw [yR]
   simp only [hy,Option.bind_some]
  ·obtain ⟨v',s',k6,k7,k8⟩:=zx3 h0 hn hq hq0 m (i + 1) _ s2 (by omega) hv2 k5
   refine ⟨v',s',?_,k7,k8⟩
   rw [yR]
   simp only [hy,Option.bind_some]
   exact k6
theorem zz6 {s:Src} (h:SrcOk s):∃ (p:Int) (d:V64) (s':Src),wS s=some (p,d,s')∧SrcOk s'∧IsB d:=by
 obtain ⟨p,s1,h1,h2,hpm⟩:=zhd h (l:=[3,3,5,7]) (by simp) (by simp)
 have hp:2≤p∧p≤7:=by
  simp only [List.mem_cons,List.not_mem_nil,or_false] at hpm
  omega
 obtain ⟨g,s2,h3,h4,hgm⟩:=zhd h2 (l:=[1,3,3,5,5]) (by simp) (by simp)
 have hg:0≤g∧g≤6:=by
  simp only [List.mem_cons,List.not_mem_nil,or_false] at hgm
  omega
 have mid:∃ (n:Int) (s3:Src),(Option.bind (α:=(Bool×Src)) ((if (p == 7) then (Option.bind (zS s2 3) fun r36=>(some (((decide (r36.1 > 0)),r36.2)))) else (some (false,s2)))) fun ⟨x30,x31⟩=>(if x30 then (some ((3:Int),x31)) else (some (g,x31))))=some (n,s3)∧SrcOk s3∧0≤n∧n≤63:=by
  by_cases h7:p=7
  ·obtain ⟨r,s3,k1,k2,_⟩:=uS h4 (n:=3) (by omega)
   rw [if_pos (by rw [h7]; rfl),k1]
   simp only [Option.bind_some]
   cases decide (r > 0) with
   | true=>exact ⟨3,s3,rfl,k2,by omega,by omega⟩
   | false=>exact ⟨g,s3,rfl,k2,by omega,by omega⟩
  ·rw [if_neg (by rw [beq_iff_eq]; exact h7)]
   exact ⟨g,s2,rfl,h4,by omega,by omega⟩
 obtain ⟨n,s3,k1,k2,k3,k4⟩:=mid
 obtain ⟨v,s4,k5,k6,k7⟩:=zx3 (q:=(p,s1)) (n:=n) k3 k4 (show p≤1000 by omega) (show 0≤p by omega) 6 0 (yH 64 0) s3 (by omega) zj3 k2
 have k5':yK (fun s:Int×V64×Src=>vD n (p,s1) s.1 s.2.1 s.2.2) (0,yH 64 0,s3)=some (v,s4):=k5
 obtain ⟨x,s5,k8,k9,_⟩:=uS k7 (n:=40) (by omega)
 simp only [wS,h1,h3,k1,k5',k8,Option.bind_some]
 by_cases h0:x=0
 ·obtain ⟨q,s6,q1,q2,_⟩:=zhd k9 (l:=[2,4,9]) (by simp) (by simp)
  rw [if_pos (by rw [h0]; rfl),q1]
  exact ⟨q,v,s6,rfl,q2,k6⟩
 ·rw [if_neg (by rw [beq_iff_eq]; exact h0)]
  by_cases h1':x=1
  ·obtain ⟨q,s6,q1,q2,q3,q4,_⟩:=uS k9 (n:=7) (by omega)
   have q4:=q4 (by omega)
   obtain ⟨y,s7,r1,r2,_⟩:=uS q2 (n:=8) (by omega)
   rw [if_pos (by rw [h1']; rfl),q1]
   simp only [Option.bind_some,r1]
   rw [zY (by omega)]
   exact ⟨p,_,s7,rfl,r2,zgl k6 _ (zfy y)⟩
  ·rw [if_neg (by rw [beq_iff_eq]; exact h1')]
   exact ⟨p,v,s5,rfl,k9,k6⟩
/-- A drawn form. -/
theorem zzc {s:Src} (h:SrcOk s) {p:Int} {d:V64} (hd:IsB d) (b:Bool):∃ (f:V64×V64) (s':Src),xW s p d b=some (f,s')∧SrcOk s'∧IsBF f:=by
 simp only [xW,zck hd,Option.bind_some]
 cases hdis:mX p d with
 | false =>
  have hu:jL=some (yP [1],yH 64 0):=by simp only [jL,znz,Option.bind_some]
  refine ⟨(yP [1],yH 64 0),s,?_,h,?_,zj3⟩
  ·simp only [hu,Bool.not_false,if_true,Option.bind_some]
  ·exact zkr (p:=2) (by omega) (za5 (z55 (by omega)) (by omega))
 | true =>
  obtain ⟨P,D,G,rfl,rfl,hD,hG⟩:=zhw hd hdis
  have hr:Res P.p (yP D.1):=za5 D.2 P.pos
  have hrd:=zw7 hD hG
  have h3:=z5n P.ok hr (by rw [hrd]; exact hD.len) hG
  rw [hrd] at h3
  obtain ⟨L,hL,_,ha,hll⟩:=zp5 (D:=D) hG
  rw [← hL,List.map_map] at h3
  have h3':zdw P.p (yP D.1)=some (L.map Rf.s):=h3
  have hne:1≤L.length:=by
   rcases Nat.eq_zero_or_pos L.length with h0 | h0
   ·have:=ha zaw
    rw [List.eq_nil_of_length_eq_zero h0] at this
    cases this
   ·exact h0
  have hget:∀ i:Int,0≤i→i < L.length→∃ x:Rf D G,rd (L.map Rf.s) i.toNat=x.s:=fun i h0 h1=>by
   refine ⟨L[i.toNat]'(by omega),?_⟩
   have:i.toNat < L.length:=by omega
   simp [rd,this]
  obtain ⟨r,s1,k1,k2,k3,k4,_⟩:=uS h (n:=(L.length:Int)) (by omega)
  have k4:=k4 (by omega)
  obtain ⟨x,hx⟩:=hget r k3 k4
  obtain ⟨_,_,hxb⟩:=zpk hD hG x
  have hxb1:IsB x.s.1:=hxb.1
  have hxb2:IsB x.s.2:=hxb.2
  simp only [h3',Bool.not_true,Bool.false_eq_true,if_false,Option.bind_some,List.length_map,k1,hx]
  rw [zY (by omega)]
  have fin:∀ s2,SrcOk s2→∃ (f:V64×V64) (s':Src),(Option.bind (α:=((V64×V64)×Src)) ((Option.bind (zS s2 40) fun r176=>(if (r176.1 == 0) then (Option.bind (zS r176.2 3) fun r180=>(Option.bind (zS r180.2 P.p) fun r183=>(jA (0≤r180.1∧r180.1 < ((64:Nat):Int)) ((some ((((x.s).1,(yO ((x.s).2) r180.1.toNat (IntKind.u8.wrap r183.1))),r183.2))))))) else (some ((x.s,r176.2)))))) fun ⟨x171,x172⟩=>(some (x171,x172)))=some (f,s')∧SrcOk s'∧IsBF f:=fun s2 hs2=>by
   obtain ⟨y,s3,q1,q2,_⟩:=uS hs2 (n:=40) (by omega)
   rw [q1]
   simp only [Option.bind_some]
   by_cases h0:y=0
   ·obtain ⟨i,s4,q3,q4,q5,q6,_⟩:=uS q2 (n:=3) (by omega)
    have q6:=q6 (by omega)
    obtain ⟨z,s5,q7,q8,_⟩:=uS q4 (n:=P.p) (by have:=P.two; omega)
    rw [if_pos (by rw [h0]; rfl),q3]
    simp only [Option.bind_some,q7]
    rw [zY (by omega)]
    exact ⟨_,s5,rfl,q8,hxb1,zgl hxb2 _ (zfy z)⟩
   ·rw [if_neg (by rw [beq_iff_eq]; exact h0)]
    exact ⟨_,s3,rfl,q2,hxb⟩
  have coin:∃ (c:Bool) (s2:Src),(if (!b)=true then (Option.bind (zS s1 2) fun r98=>(some (((r98.1 == 0),r98.2)))) else (some (false,s1)))=some (c,s2)∧SrcOk s2:=by
   cases b with
   | true=>exact ⟨false,s1,rfl,k2⟩
   | false =>
    obtain ⟨y,s3,q1,q2,_⟩:=uS k2 (n:=2) (by omega)
    rw [q1]
    exact ⟨y == 0,s3,rfl,q2⟩
  obtain ⟨c,s2,e2,hs2⟩:=coin
  rw [e2]
  simp only [Option.bind_some]
  cases c with
  | false =>
   simp only [Bool.false_eq_true,if_false,Option.bind_some]
   exact fin s2 hs2
  | true =>
   obtain ⟨r',s3,m1,m2,m3,m4,_⟩:=uS hs2 (n:=(L.length:Int)) (by omega)
   have m4:=m4 (by omega)
   obtain ⟨y,hy⟩:=hget r' m3 m4
   simp only [if_true,m1,hy,Option.bind_some]
   rw [zY (by omega)]
   have nx:=x.fm.mo.ne
   have ny:=y.fm.mo.ne
   have lx:=x.sm
   have lx2:=x.fm.len
   have ly:=y.sm
   have ly2:=y.fm.len
   obtain ⟨o,u,v,e1,mo,_,d1,_,lu,lv⟩:=zw6 (a:=x.a) (b:=y.a) (by omega) (by omega) (.inl nx)
   have c3:=zga P.okp x.a.2 y.a.2 (show x.a.len≤64 by omega) (show y.a.len≤64 by omega) (.inl (zdq nx))
   rw [e1] at c3
   have lo:o.len≤64:=by have:=zds d1 nx; omega
   have c3':kE P.p x.s.1 y.s.1=some (yP o.1,yP u.1,yP v.1):=c3
   have ho:=zre o lo
   simp only [c3',ho,Option.bind_some]
   by_cases h0:(o.len:Int) - 1=0
   ·have la:x.a.len≤3:=by omega
    have la':y.a.len≤3:=by omega
    have lb:x.b.len≤3:=by omega
    have lb':y.b.len≤3:=by omega
    have lu':u.len≤4:=by omega
    have lv':v.len≤4:=by omega
    clear lu lv
    have nxy:x.a*y.a ≠ 0:=fun e=>(zeb _ _ e).elim nx ny
    have t1:xO P.p x.s.1 y.s.1=_:=zgh la la' (by decide)
    have t2:xO P.p (yP u.1) x.s.1=_:=zgh lu' la (by decide)
    have t3:xO P.p (yP (u*x.a).1) y.s.2=_:=zgh (zav lu' la) lb' (by decide)
    have t4:xO P.p (yP v.1) y.s.1=_:=zgh lv' la' (by decide)
    have t5:xO P.p (yP (v*y.a).1) x.s.2=_:=zgh (zav lv' la') lb (by decide)
    have t6:=zvb (zav (zav lu' la) lb') (zav (zav lv' la') lb) (by decide)
    have t7:=z4x (u*x.a*y.b + v*y.a*x.b) nxy (Nat.le_trans (zpl (zav (zav lu' la) lb') (zav (zav lv' la') lb)) (by decide)) (Nat.le_trans (zav la la') (by decide))
    rw [if_pos (by rw [h0]; rfl)]
    simp only [nH,t1,t2,t3,t4,t5,t6,t7,Option.bind_some]
    exact ⟨_,s3,rfl,m2,zyu hD hG _ _⟩
   ·rw [if_neg (by rw [beq_iff_eq]; exact h0)]
    simp only [Option.bind_some]
    exact fin s3 m2
/-- A drawn modulus. -/
theorem zye {q:Int×Src} {p:Int} (hp:2≤p∧p≤7) (hq:0≤q.1∧q.1 < 3):∀ (m:Nat) (i:Nat) (v:V64) (s:Src),(i:Int) + m=1 + q.1→Res p v→SrcOk s →
  ∃ (v':V64) (s':Src),yK (fun s:Int×V64×Src=>wV q p s.1 s.2.1 s.2.2) ((i:Int),v,s)=some (v',s')∧Res p v'∧SrcOk s'
 | 0,i,v,s,hi,hv,hs=>by
  refine ⟨v,s,?_,hv,hs⟩
  rw [yR]
  have h0:decide ((i:Int) < IntKind.i64.wrap (1 + q.1))=false:=decide_eq_false (by rw [zX (by omega) (by omega)]; omega)
  simp only [wV,h0,Bool.false_eq_true,if_false,Option.bind_some]
 | m + 1,i,v,s,hi,hv,hs=>by
  obtain ⟨r,s1,k1,k2,k3,k4,_⟩:=uS hs (n:=p) (by omega)
  have k4:=k4 (by omega)
  have e8:IntKind.u8.wrap r=r:=zjd (by omega) (by omega)
  obtain ⟨v',s',k5,k6,k7⟩:=zye hp hq m (i + 1) (yO v i r) s1 (by omega) (zuk hv (by omega) ⟨k3,k4⟩) k2
  refine ⟨v',s',?_,k6,k7⟩
  rw [yR]
  have h0:decide ((i:Int) < IntKind.i64.wrap (1 + q.1))=true:=decide_eq_true (by rw [zX (by omega) (by omega)]; omega)
  simp only [wV,h0,if_true,k1,Option.bind_some,Int.toNat_natCast,e8]
  rw [zY (by omega),zX (by omega) (by omega)]
  exact k5
theorem zxt (P:Pri):∀ (m:Nat) (i:Nat) (v:V64) (s:Src),i + m=4→IsB v→SrcOk s →
  ∃ r,yK (fun s:Int×V64×Src=>wI 3 P.p s.1 s.2.1 s.2.2) ((i:Int),v,s)=some r∧(match r with | .inl z=>IsB z.1∧SrcOk z.2 | .inr z=>IsB z.1∧SrcOk z.2)
 | 0,i,v,s,hi,hv,hs=>by
  refine ⟨.inl (v,s),?_,hv,hs⟩
  rw [yR]
  have h0:decide ((i:Int) < 4)=false:=decide_eq_false (by omega)
  simp only [wI,h0,Bool.false_eq_true,if_false,Option.bind_some]
 | m + 1,i,v,s,hi,hv,hs=>by
  have hp:=P.two
  obtain ⟨r,s1,k1,k2,k3,k4,_⟩:=uS hs (n:=3) (by omega)
  have k4:=k4 (by omega)
  obtain ⟨v1,s2,k5,k6,k7⟩:=zye (q:=(r,s1)) (p:=P.p) hp ⟨k3,k4⟩ (1 + r).toNat 0 (yH 64 0) s1 (by show ((0:Nat):Int) + ((1 + r).toNat:Int)=1 + r; omega) (z0v (by omega)) k2
  have k5':yK (fun s:Int×V64×Src=>wV (r,s1) P.p s.1 s.2.1 s.2.2) (0,yH 64 0,s1)=some (v1,s2):=k5
  have ew:IntKind.i64.wrap (1 + r)=1 + r:=zX (by omega) (by omega)
  obtain ⟨y,s3,k8,k9,_⟩:=uS k7 (n:=3) (by omega)
  have hv2:Res P.p (yO v1 (1 + r).toNat 1):=zuk k6 (by omega) (by omega)
  have hb2:IsB (yO v1 (1 + r).toNat 1):=zkr (by omega) hv2
  let a:PP P:=⟨row (yO v1 (1 + r).toNat 1),zak hv2⟩
  have hpad:yP a.1=yO v1 (1 + r).toNat 1:=zfx _
  have ha0:a ≠ 0:=fun e=>by
   have h1:rd (row (yO v1 (1 + r).toNat 1)) (1 + r).toNat=1:=by
    rw [zpx _ (by omega),zbc _ _ _ _ (by omega),if_pos rfl]
   have h2:a.1=[]:=by rw [e]; rfl
   have h3:row (yO v1 (1 + r).toNat 1)=[]:=h2
   rw [h3] at h1
   exact absurd h1 (by simp [rd])
  have hirr:=z7t (m:=a) (jK _) ha0
  rw [hpad] at hirr
  obtain ⟨bb,hbb⟩:∃ bb,nK P.p (yO v1 (1 + r).toNat 1)=some bb:=⟨_,hirr⟩
  have h0:decide ((i:Int) < 4)=true:=decide_eq_true (by omega)
  have step:∃ z,wI 3 P.p (i:Int) v s=some z∧(z=.inr (.inr (yO v1 (1 + r).toNat 1,s3))∨z=.inl (((i + 1:Nat):Int),yO v1 (1 + r).toNat 1,s3)):=by
   simp only [wI,h0,if_true,k1,k5',ew,Option.bind_some]
   rw [zY (by omega),k8,zX (n:=(i:Int) + 1) (by omega) (by omega)]
   simp only [Option.bind_some]
   by_cases hy:y=0
   ·rw [if_pos (by rw [hy]; rfl)]
    exact ⟨_,rfl,.inl rfl⟩
   ·rw [if_neg (by rw [beq_iff_eq]; exact hy),hbb]
    simp only [Option.bind_some]
    cases bb with
    | true=>exact ⟨_,rfl,.inl rfl⟩
    | false=>exact ⟨_,rfl,.inr rfl⟩
  obtain ⟨z,hz,h1⟩:=step
  rcases h1 with rfl | rfl
  ·refine ⟨.inr (yO v1 (1 + r).toNat 1,s3),?_,hb2,k9⟩
   rw [yR]
   simp only [hz,Option.bind_some]
  ·obtain ⟨r',q1,q2⟩:=zxt P m (i + 1) _ s3 (by omega) hb2 k9
   refine ⟨r',?_,q2⟩
   rw [yR]
   simp only [hz,Option.bind_some]
   exact q1
theorem z7c {s:Src} (h:SrcOk s) (P:Pri):∃ (v:V64) (s':Src),kU s P.p 3=some (v,s')∧IsB v:=by
 have hT:∃ t,zez=some t∧IsB t:=⟨_,rfl,zgl zj3 _ (by omega)⟩
 obtain ⟨t,t1,t2⟩:=hT
 obtain ⟨r,q1,q2⟩:=zxt P 4 0 t s (by omega) t2 h
 have q1':yK (fun s:Int×V64×Src=>wI 3 P.p s.1 s.2.1 s.2.2) (0,t,s)=some r:=q1
 simp only [kU,t1,q1',Option.bind_some]
 cases r with
 | inl z=>exact ⟨z.1,z.2,rfl,q2.1⟩
 | inr z=>exact ⟨z.1,z.2,rfl,q2.1⟩
section
variable {c:List Int} (hl:c.length≤4096) (hb:∀ x∈c,0≤x∧x < 256)
include hl hb
theorem zw8:∃ (p:Int) (d:V64) (f g:V64×V64),mC c=some (p,d,f,g)∧IsB d∧IsBF f∧IsBF g:=by
 obtain ⟨s,h1,h2⟩:=zkt hl hb
 obtain ⟨p,d,s1,h3,h4,hd⟩:=zz6 h2
 obtain ⟨x,s2,h5,h6,_⟩:=uS h4 (n:=12) (by omega)
 obtain ⟨f,s3,h7,h8,hf⟩:=zzc h6 (p:=p) hd (decide (x > 0))
 obtain ⟨y,s4,h9,h10,_⟩:=uS h8 (n:=5) (by omega)
 simp only [mC,h1,h3,h5,h7,h9,Option.bind_some]
 by_cases h0:y=0
 ·rw [if_pos (by rw [h0]; rfl)]
  exact ⟨p,d,f,f,rfl,hd,hf,hf⟩
 ·rw [if_neg (by rw [beq_iff_eq]; exact h0)]
  obtain ⟨g,s5,k1,_,hg⟩:=zzc h10 (p:=p) hd true
  rw [k1]
  exact ⟨p,d,f,g,rfl,hd,hf,hg⟩
theorem zr3:∃ (p:Int) (d:V64) (f:V64×V64),zai c=some (p,d,f)∧IsB d∧IsBF f:=by
 obtain ⟨s,h1,h2⟩:=zkt hl hb
 obtain ⟨p,d,s1,h3,h4,hd⟩:=zz6 h2
 obtain ⟨f,s3,h7,h8,hf⟩:=zzc h4 (p:=p) hd false
 exact ⟨p,d,f,by simp only [zai,h1,h3,h7,Option.bind_some],hd,hf⟩
theorem zwf:∃ (p:Int) (d:V64) (f:V64×V64),zch c=some (p,d,f)∧IsB d∧IsBF f:=zr3 hl hb
theorem z0f:∃ (p:Int) (d:V64) (f:V64×V64) (k:Int),mL c=some (p,d,f,k)∧IsB d∧IsBF f:=by
 obtain ⟨s,h1,h2⟩:=zkt hl hb
 obtain ⟨p,d,s1,h3,h4,hd⟩:=zz6 h2
 obtain ⟨x,s2,h5,h6,_⟩:=uS h4 (n:=12) (by omega)
 obtain ⟨f,s3,h7,h8,hf⟩:=zzc h6 (p:=p) hd (decide (x > 0))
 obtain ⟨y,s4,h9,h10,_⟩:=uS h8 (n:=200) (by omega)
 obtain ⟨k,s5,h11,_⟩:=zhd h10 (l:=[0,1,2,3,-1,y,1000000000000,1000000000001]) (by simp) (by simp)
 exact ⟨p,d,f,k,by simp only [mL,h1,h3,h5,h7,h9,h11,Option.bind_some],hd,hf⟩
theorem z1q:∃ (p:Int) (d:V64) (f:V64×V64),mS c=some (p,d,f)∧IsB d∧IsBF f:=by
 obtain ⟨s,h1,h2⟩:=zkt hl hb
 obtain ⟨p,d,s1,h3,h4,hd⟩:=zz6 h2
 obtain ⟨x,s2,h5,h6,_⟩:=uS h4 (n:=12) (by omega)
 obtain ⟨f,s3,h7,h8,hf⟩:=zzc h6 (p:=p) hd (decide (x > 0))
 exact ⟨p,d,f,by simp only [mS,h1,h3,h5,h7,Option.bind_some],hd,hf⟩
theorem zzj:∃ (p:Int) (d:V64) (f:V64×V64),zdk c=some (p,d,f)∧IsB d∧IsBF f:=by
 obtain ⟨s,h1,h2⟩:=zkt hl hb
 obtain ⟨p,d,s1,h3,h4,hd⟩:=zz6 h2
 obtain ⟨f,s3,h7,h8,hf⟩:=zzc h4 (p:=p) hd false
 obtain ⟨y,s4,h9,h10,_⟩:=uS h8 (n:=4) (by omega)
 simp only [zdk,h1,h3,h7,h9,Option.bind_some]
 by_cases h0:y=0
 ·rw [if_pos (by rw [h0]; rfl),zi5]
  simp only [Option.bind_some]
  cases hp:isP p with
  | false =>
   simp only [Bool.false_eq_true,if_false,Option.bind_some]
   exact ⟨p,d,f,rfl,hd,hf⟩
  | true =>
   have hp2:=wU hp
   obtain ⟨n,rfl⟩:∃ n:Nat,p=n:=⟨p.toNat,by omega⟩
   obtain ⟨v,s5,k1,k2⟩:=z7c h10 ⟨n,hp⟩
   have k1':kU s4 (n:Int) 3=some (v,s5):=k1
   simp only [if_true,k1',Option.bind_some]
   exact ⟨_,d,(v,f.2),rfl,hd,k2,hf.2⟩
 ·rw [if_neg (by rw [beq_iff_eq]; exact h0)]
  simp only [Bool.false_eq_true,if_false,Option.bind_some]
  exact ⟨p,d,f,rfl,hd,hf⟩
theorem z2q:∃ (p:Int) (d:V64),nB c=some (p,d)∧IsB d:=by
 obtain ⟨s,h1,h2⟩:=zkt hl hb
 obtain ⟨y,s1,h3,h4,_⟩:=uS h2 (n:=3) (by omega)
 simp only [nB,h1,h3,Option.bind_some]
 by_cases h0:y=0
 ·obtain ⟨p,v,s2,k1,_,k3,_⟩:=z0e h4
  rw [if_pos (by rw [h0]; rfl),k1]
  exact ⟨p,v,rfl,k3⟩
 ·obtain ⟨p,d,s2,k1,_,k3⟩:=zz6 h4
  rw [if_neg (by rw [beq_iff_eq]; exact h0),k1]
  exact ⟨p,d,rfl,k3⟩
end
end Go.Proofs.YtebfhlnfmkhmcaaGreat
/- FnForms. -/
namespace Go.Proofs.YtebfhlnfmkhmcaaGreat
open Go.Abs
theorem z4l {P:Pri} {D:PP P} {G:Nat}:(zaw (D:=D) (G:=G)).s=(yO (yH 64 (0:Int)) 0 1,yH 64 (0:Int)):=by
 have h1:zay=some (yO (yH 64 (0:Int)) 0 1):=rfl
 have h2:=h1.symm.trans znz
 rw [Option.some.inj h2]
 show (yP [1],yP [])=_
 rw [zb7]
theorem zmy (a:Int):(a == a)=true:=beq_self_eq_true a
theorem zul (c:List Int) (hb:∀ x∈c,0≤x∧x < 256) (_:c.length≤maxLen):zea c=some true:=by
 have big:zqk c=some (decide ((c.length:Int) > 4096)):=rfl
 by_cases hbig:(c.length:Int) > 4096
 ·simp only [zea,big,decide_eq_true hbig,Option.bind_some,if_true]
 ·have hl:c.length≤4096:=by omega
  obtain ⟨p,d,f,g,d1,hd,hf,hg⟩:=zw8 hl hb
  obtain ⟨p2,m2,f2,d2,hm2,hf2⟩:=zr3 hl hb
  obtain ⟨p3,m3,f3,k3,d3,hm3,hf3⟩:=z0f hl hb
  obtain ⟨p4,m4,f4,d4,hm4,hf4⟩:=z1q hl hb
  obtain ⟨p5,m5,f5,d5,hm5,hf5⟩:=zwf hl hb
  obtain ⟨p6,m6,f6,d6,hm6,hf6⟩:=zzj hl hb
  obtain ⟨p7,m7,d7,hm7⟩:=z2q hl hb
  obtain ⟨⟨r2,e2⟩,i2,s2⟩:=zt7 (p:=p2) hm2 hf2
  obtain ⟨⟨r3,e3⟩,i3,s3⟩:=zwp (p:=p3) hm3 hf3 k3
  obtain ⟨⟨r4,e4⟩,i4,s4⟩:=zv3 (p:=p4) hm4 hf4
  obtain ⟨⟨r5,e5⟩,i5,s5⟩:=zto (p:=p5) hm5 hf5
  have i6:=zsp (p:=p6) hm6 hf6
  have s6:=z3q (p:=p6) hm6 hf6
  have i7:=zmk (p:=p7) hm7
  have s7:zal p7 m7=some (mX p7 m7):=by simp only [zal,zck hm7,Option.bind_some]
  rcases zsx (p:=p) hd hf hg with ⟨w,hw,c1,c2⟩ | ⟨P,D,G,x,y,rfl,rfl,hD,hG,hdis,rfl,rfl⟩
  ·have hw':(w == 0)=false:=by simpa using hw
   simp only [zea,big,decide_eq_false hbig,d1,c1,c2,hw',bne_self_eq_false,decide_true,Bool.not_true,Option.bind_some,Bool.false_eq_true,if_false,d2,i2,s2,d3,i3,s3,d4,i4,s4,d5,i5,s5,d6,i6,s6,d7,i7,s7,zmy,beq_self_eq_true,if_true]
  ·obtain ⟨c1,c2⟩:=zht hD hG hd hdis x y
   have c3:=(zht hD hG hd hdis y x).1
   have c4:=(zht hD hG hd hdis (rop hD x y) x).1
   have c5:=(zht hD hG hd hdis x (rop hD x y)).1
   have hcomm:rop hD y x=rop hD x y:=(xY hD).comm y x
   have hass:rop hD (rop hD x y) x=rop hD x (rop hD x y):=(xY hD).comm _ _
   rw [hcomm] at c3
   rw [hass] at c4
   have c6:=zy8 hD hG hd hdis x
   have c7:=(zht hD hG hd hdis x (zpq x)).1
   have hinv:rop hD x (zpq x)=zaw:=by
    have Q:IsRing (Qd D):=zgf zN
    refine (zlj hD ?_).symm
    show Cl (Pr (FI D x.a x.b) (FI D x.a (yX (-x.b) x.a))) (FI D 1 0)
    rw [zs9 x.fm.mo.ne,x.fm.opp hD,zsl zN]
    exact ⟨1,⟨x.a,0⟩,zku,zup x.fm.mo.ne,by rw [zwh Q]⟩
   rw [hinv] at c7
   obtain ⟨k,k1,k2,k3',k4,k5⟩:=zu7 hD hG x
   have c8:=(zxp hD hG hd hdis x k1 k2 k3' k4).1
   have c9:=z01 hD hG hdis hd
   obtain ⟨z,z1,_,z3⟩:=zxw hD hG hd hdis x (n:=(k:Int)) (by omega)
   have hz:z=zaw:=by rw [z3 (by omega),Int.toNat_natCast,k3']
   rw [hz] at z1
   obtain ⟨f1',_,f3'⟩:=zpk hD hG (rop hD x y)
   have c10:=zsp (p:=P.p) hd f3'
   rw [hdis,f1'] at c10
   have hk0:decide ((k:Int) < 1)=false:=decide_eq_false (by omega)
   have hmod:Int.tmod ((f1 P.n D.1 (G + 1)).length:Int) (k:Int)=0:=by
    rw [Int.tmod_eq_emod_of_nonneg (by omega)]; omega
   have hkne:(k:Int) ≠ 0:=by omega
   have hus:=z4l (P:=P) (D:=D) (G:=G)
   simp only [zea,big,decide_eq_false hbig,d1,c1,c2,c3,c4,c5,c6,c7,c8,c9,c10,z1,hk0,hmod,hus,zY hkne,bne_self_eq_false,decide_true,Bool.and_self,Bool.not_true,Option.bind_some,Bool.false_eq_true,if_false,d2,i2,s2,d3,i3,s3,d4,i4,s4,d5,i5,s5,d6,i6,s6,d7,i7,s7,zmy,beq_self_eq_true,if_true]
end Go.Proofs.YtebfhlnfmkhmcaaGreat
