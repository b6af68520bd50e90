/- Own texts, put together. -/
import Derived.Test.YtebfhlnfmkhmcaaGreatAbsX
import Derived.Test.YtebfhlnfmkhmcaaGreatFn1
import Derived.Test.YtebfhlnfmkhmcaaGreatFn2
import Derived.Test.YtebfhlnfmkhmcaaGreatFn3
import Derived.Test.YtebfhlnfmkhmcaaGreatFn4
import Derived.Test.YtebfhlnfmkhmcaaGreatFn5
import Derived.Test.YtebfhlnfmkhmcaaGreatFn6
import Derived.Test.YtebfhlnfmkhmcaaGreatFn7
import Derived.Test.YtebfhlnfmkhmcaaGreatFn8
import Derived.Test.YtebfhlnfmkhmcaaGreatFn9
import Derived.Test.YtebfhlnfmkhmcaaGreatFn10
import Derived.Test.YtebfhlnfmkhmcaaGreatFn11
import Derived.Test.YtebfhlnfmkhmcaaGreatFn12
set_option linter.unusedSimpArgs false
set_option linter.unusedVariables false
/- Plain facts on loops and wraps. -/
namespace Go.Abs

/-- A loop with a measure ends, and what it leaves. -/
theorem zbr {α β:Type} {body:α→Option (α⊕β)} (I:α→Prop) (Post:α→β→Prop) (m:α→Nat)
  (step:∀ s,I s→(∃ s',body s=some (.inl s')∧I s'∧m s' < m s∧∀ r,Post s' r→Post s r)∨∃ r,body s=some (.inr r)∧Post s r) :
  ∀ s,I s→∃ r,yK body s=some r∧Post s r:=by
 have key:∀ n s,m s≤n→I s→∃ r,yK body s=some r∧Post s r:=by
  intro n
  induction n with
  | zero =>
   intro s hn hs
   rcases step s hs with ⟨s',h1,h2,h3,h4⟩ | ⟨r,h1,h2⟩
   ·omega
   ·exact ⟨r,by rw [yR,h1]; rfl,h2⟩
  | succ n ih =>
   intro s hn hs
   rcases step s hs with ⟨s',h1,h2,h3,h4⟩ | ⟨r,h1,h2⟩
   ·obtain ⟨r,k1,k2⟩:=ih s' (by omega) h2
    exact ⟨r,by rw [yR,h1]; exact k1,h4 r k2⟩
   ·exact ⟨r,by rw [yR,h1]; rfl,h2⟩
 exact fun s hs=>key (m s) s (Nat.le_refl _) hs

theorem zX {n:Int} (h1:-9223372036854775808≤n) (h2:n < 9223372036854775808):IntKind.i64.wrap n=n:=by
 simp only [IntKind.wrap,IntKind.signed,IntKind.bits]
 simp
 omega
theorem zjd {n:Int} (h1:0≤n) (h2:n < 256):IntKind.u8.wrap n=n:=by
 simp only [IntKind.wrap,IntKind.signed,IntKind.bits]
 simp
 omega

/-- A loop that counts from i to n. -/
theorem wR {α β σ:Type} {body:α→Option (α⊕β)} (at':Nat→σ→α) (out:σ→β) (n:Nat) (I:Nat→σ→Prop)
  (step:∀ i s,i < n→I i s→∃ s',body (at' i s)=some (.inl (at' (i + 1) s'))∧I (i + 1) s') (stop:∀ s,I n s→body (at' n s)=some (.inr (out s))) :
  ∀ (m i:Nat) (s:σ),i + m=n→I i s→∃ s',yK body (at' i s)=some (out s')∧I n s'
 | 0,i,s,h,hI=>by
  have:i=n:=by omega
  subst this
  exact ⟨s,by rw [yR,stop s hI]; rfl,hI⟩
 | m + 1,i,s,h,hI=>by
  obtain ⟨s',h1,h2⟩:=step i s (by omega) hI
  obtain ⟨s'',h3,h4⟩:=wR at' out n I step stop m (i + 1) s' (by omega) h2
  exact ⟨s'',by rw [yR,h1]; exact h3,h4⟩
end Go.Abs
/- Commutative rings, told by their laws: powers, the Frobenius, roots of polynomials, powers in finite fields. -/
namespace Go.Abs

structure IsRing (K:Type) [Add K] [Mul K] [Neg K] [Zero K] [One K]:Prop where
 add_comm:∀ a b:K,a + b=b + a
 add_assoc:∀ a b c:K,a + b + c=a + (b + c)
 add_zero:∀ a:K,a + 0=a
 add_neg:∀ a:K,a + -a=0
 mul_comm:∀ a b:K,a*b=b*a
 mul_assoc:∀ a b c:K,a*b*c=a*(b*c)
 mul_one:∀ a:K,a*1=a
 mul_add:∀ a b c:K,a*(b + c)=a*b + a*c

section
variable {K:Type} [Add K] [Mul K] [Neg K] [Zero K] [One K]

def pw (x:K):Nat→K
 | 0=>1
 | n + 1=>pw x n*x
def mF:Nat→K→K
 | 0,_=>0
 | n + 1,x=>mF n x + x

namespace IsRing
variable (R:IsRing K)
include R
theorem zero_add (a:K):0 + a=a:=by rw [R.add_comm,R.add_zero]
theorem neg_add (a:K):-a + a=0:=by rw [R.add_comm,R.add_neg]
theorem add_left_comm (a b c:K):a + (b + c)=b + (a + c):=by rw [← R.add_assoc,R.add_comm a b,R.add_assoc]
theorem mul_left_comm (a b c:K):a*(b*c)=b*(a*c):=by rw [← R.mul_assoc,R.mul_comm a b,R.mul_assoc]
theorem one_mul (a:K):1*a=a:=by rw [R.mul_comm,R.mul_one]
theorem add_mul (a b c:K):(a + b)*c=a*c + b*c:=by rw [R.mul_comm,R.mul_add,R.mul_comm c a,R.mul_comm c b]
theorem cancel {a b c:K} (h:a + b=a + c):b=c:=by
 have:-a + (a + b)=-a + (a + c):=by rw [h]
 rwa [← R.add_assoc,← R.add_assoc,R.neg_add,R.zero_add,R.zero_add] at this
theorem mul_zero (a:K):a*0=0:=by
 have h:a*0 + a*0=a*0 + 0:=by rw [← R.mul_add,R.add_zero,R.add_zero]
 exact R.cancel h
theorem zero_mul (a:K):0*a=0:=by rw [R.mul_comm,R.mul_zero]
theorem neg_of {a b:K} (h:a + b=0):b=-a:=R.cancel (a:=a) (by rw [h,R.add_neg])
theorem mul_neg (a b:K):a*-b=-(a*b):=R.neg_of (by rw [← R.mul_add,R.add_neg,R.mul_zero])
theorem neg_neg (a:K):- -a=a:=(R.neg_of (R.neg_add a)).symm
theorem sub_zero {a b:K} (h:a + -b=0):a=b:=by
 have h':=R.neg_of ((R.add_comm _ _).trans h)
 rw [R.neg_neg] at h'
 exact h'

/-! Powers and multiples. -/
theorem pw_one (n:Nat):pw (1:K) n=1:=by
 induction n with
 | zero=>rfl
 | succ n ih=>simp only [pw,ih,R.mul_one]
theorem pw_zero {n:Nat} (h:n ≠ 0):pw (0:K) n=0:=by
 cases n with
 | zero=>exact absurd rfl h
 | succ n=>simp only [pw,R.mul_zero]
theorem pw_add (x:K) (n m:Nat):pw x (n + m)=pw x n*pw x m:=by
 induction m with
 | zero=>simp only [pw,Nat.add_zero,R.mul_one]
 | succ m ih=>rw [← Nat.add_assoc]; simp only [pw,ih,R.mul_assoc]
theorem pw_mul (x:K) (n m:Nat):pw x (n*m)=pw (pw x n) m:=by
 induction m with
 | zero=>simp only [pw,Nat.mul_zero]
 | succ m ih=>rw [Nat.mul_succ,R.pw_add,ih]; rfl
theorem mul_pw (x y:K) (n:Nat):pw (x*y) n=pw x n*pw y n:=by
 induction n with
 | zero=>simp only [pw,R.mul_one]
 | succ n ih=>simp only [pw,ih,R.mul_assoc,R.mul_left_comm]
theorem nsm_add (n m:Nat) (x:K):mF (n + m) x=mF n x + mF m x:=by
 induction m with
 | zero=>simp only [mF,Nat.add_zero,R.add_zero]
 | succ m ih=>rw [← Nat.add_assoc]; simp only [mF,ih,R.add_assoc]
theorem nsm_mul (n m:Nat) (x:K):mF (n*m) x=mF n (mF m x):=by
 induction n with
 | zero=>simp only [mF,Nat.zero_mul]
 | succ n ih=>rw [Nat.succ_mul,R.nsm_add,ih]; rfl
theorem mul_nsm (n:Nat) (x y:K):x*mF n y=mF n (x*y):=by
 induction n with
 | zero=>simp only [mF,R.mul_zero]
 | succ n ih=>simp only [mF,R.mul_add,ih]
theorem nsm_zero (n:Nat):mF n (0:K)=0:=by
 induction n with
 | zero=>rfl
 | succ n ih=>simp only [mF,ih,R.add_zero]

end IsRing

/-- The sum of c_i x^i y^(n - i). -/
def hom (x y:K):List Nat→K
 | []=>0
 | c :: l=>mF c (pw y l.length) + x*hom x y l
def zv0:Nat→List Nat→List Nat
 | k,[]=>[k]
 | k,c :: l=>(k + c) :: zv0 c l
theorem zub:∀ (k:Nat) (l:List Nat),(zv0 k l).length=l.length + 1
 | _,[]=>rfl
 | k,c :: l=>by simp only [zv0,List.length_cons,zub c l]
def zya:Nat→List Nat
 | 0=>[1]
 | n + 1=>zv0 0 (zya n)

namespace IsRing
variable (R:IsRing K)
include R
theorem hom_pasc (x y:K):∀ (l:List Nat) (k:Nat),hom x y (zv0 k l)=mF k (pw y l.length) + (x + y)*hom x y l
 | [],k=>by simp only [zv0,hom,List.length_nil,pw,R.mul_zero]
 | c :: l,k=>by
  simp only [zv0,hom,zub,List.length_cons,hom_pasc x y l c]
  have e1:mF (k + c) (pw y (l.length + 1))=mF k (pw y (l.length + 1)) + y*mF c (pw y l.length):=by
   rw [R.nsm_add,R.mul_nsm,R.mul_comm y]; rfl
  rw [e1]
  simp only [R.mul_add,R.add_mul,R.add_assoc,R.mul_left_comm y x]
  congr 1
  exact R.add_left_comm _ _ _
theorem pw_sum (x y:K) (n:Nat):pw (x + y) n=hom x y (zya n):=by
 induction n with
 | zero=>simp only [pw,zya,hom,List.length_nil,mF,R.mul_zero,R.add_zero,R.zero_add]
 | succ n ih=>simp only [pw,zya,ih,R.hom_pasc,mF,R.zero_add,R.mul_comm]
theorem frob {p:Nat} (hp:p=2∨p=3∨p=5∨p=7) (hc:∀ x:K,mF p x=0) (x y:K):pw (x + y) p=pw x p + pw y p:=by
 have hm:∀ m (z:K),mF (m*p) z=0:=fun m z=>by rw [R.nsm_mul,hc,R.nsm_zero]
 rw [R.pw_sum]
 rcases hp with rfl | rfl | rfl | rfl
 ·have h:=hm 1
  show hom x y [1,2,1]=_
  simp only [hom,List.length_cons,List.length_nil,h,mF,R.zero_add,R.add_zero,R.mul_zero,pw,R.mul_one,R.one_mul,R.mul_assoc] at h ⊢
  rw [R.add_comm]
  simp only [h,R.zero_add]
 ·have h1:=hm 1
  show hom x y [1,3,3,1]=_
  have e:∀ z:K,mF 3 z=0:=h1
  unfold hom hom hom hom hom
  simp only [e,List.length_cons,List.length_nil,R.zero_add]
  simp only [mF,R.zero_add,R.add_zero,R.mul_zero,pw,R.mul_one,R.one_mul,R.mul_assoc]
  rw [R.add_comm]
 ·have e1:∀ z:K,mF 5 z=0:=hm 1
  have e2:∀ z:K,mF 10 z=0:=hm 2
  show hom x y [1,5,10,10,5,1]=_
  unfold hom hom hom hom hom hom hom
  simp only [e1,e2,List.length_cons,List.length_nil,R.zero_add]
  simp only [mF,R.zero_add,R.add_zero,R.mul_zero,pw,R.mul_one,R.one_mul,R.mul_assoc]
  rw [R.add_comm]
 ·have e1:∀ z:K,mF 7 z=0:=hm 1
  have e2:∀ z:K,mF 21 z=0:=hm 3
  have e3:∀ z:K,mF 35 z=0:=hm 5
  show hom x y [1,7,21,35,35,21,7,1]=_
  unfold hom hom hom hom hom hom hom hom hom
  simp only [e1,e2,e3,List.length_cons,List.length_nil,R.zero_add]
  simp only [mF,R.zero_add,R.add_zero,R.mul_zero,pw,R.mul_one,R.one_mul,R.mul_assoc]
  rw [R.add_comm]
theorem frobn {p:Nat} (hp:p=2∨p=3∨p=5∨p=7) (hc:∀ x:K,mF p x=0) (x y:K) (n:Nat):pw (x + y) (p ^ n)=pw x (p ^ n) + pw y (p ^ n):=by
 induction n with
 | zero=>simp only [Nat.pow_zero,pw,R.one_mul]
 | succ n ih=>rw [Nat.pow_succ,R.pw_mul,R.pw_mul,R.pw_mul,ih,R.frob hp hc]
end IsRing

/-! Polynomials from the leading coefficient on. -/
def hn (x:K):K→List K→K
 | a,[]=>a
 | a,c :: l=>hn x (a*x + c) l
def ztj (r:K):K→List K→List K
 | _,[]=>[]
 | a,c :: l=>a :: ztj r (a*r + c) l
omit [Neg K] [Zero K] [One K] in
theorem zvr (r:K):∀ (a:K) (l:List K),(ztj r a l).length=l.length
 | _,[]=>rfl
 | a,c :: l=>by simp only [ztj,List.length_cons,zvr r _ l]

namespace IsRing
variable (R:IsRing K)
include R
theorem hn_synd (x r:K):∀ (l:List K) (a y:K),hn x (a + (x + -r)*y) l=(x + -r)*hn x y (ztj r a l) + hn r a l
 | [],a,y=>by simp only [hn,ztj]; exact R.add_comm _ _
 | c :: l,a,y=>by
  simp only [hn,ztj]
  rw [← hn_synd x r l (a*r + c) (y*x + a)]
  congr 1
  have e:a*x=a*r + (x + -r)*a:=by
   rw [R.add_mul,R.mul_comm (-r),R.mul_neg,R.mul_comm x a,R.add_left_comm,R.add_neg,R.add_zero]
  rw [R.add_mul,e,R.mul_add,R.mul_assoc]
  simp only [R.add_assoc,R.add_comm c]
  congr 1
  rw [R.add_left_comm]
/-- A monic polynomial has no more roots than its degree. -/
theorem roots (hd:∀ a b:K,a*b=0→a=0∨b=0) (h10:(1:K) ≠ 0):∀ (n:Nat) (l L:List K),l.length=n→L.Nodup→(∀ x∈L,hn x 1 l=0)→L.length≤n
 | _,_,[],_,_,_=>Nat.zero_le _
 | 0,l,r :: L,hl,_,hr=>by
  have:l=[]:=List.eq_nil_of_length_eq_zero hl
  subst this
  exact absurd (hr r (by simp)) h10
 | n + 1,[],r :: L,hl,_,_=>by simp at hl
 | n + 1,c :: l,r :: L,hl,hN,hr=>by
  have hr0:hn r 1 (c :: l)=0:=hr r (by simp)
  have key:∀ x∈L,hn x 1 (ztj r (1*r + c) l)=0:=by
   intro x hx
   have h0:=hr x (by simp [hx])
   have h1:=R.hn_synd x r (c :: l) 1 0
   rw [R.mul_zero,R.add_zero,h0,hr0,R.add_zero] at h1
   simp only [ztj,hn,R.zero_mul,R.zero_add] at h1
   rcases hd _ _ h1.symm with h | h
   ·have:x=r:=R.sub_zero h
    subst this
    exact absurd hx (List.nodup_cons.1 hN).1
   ·exact h
  have:=roots hd h10 n (ztj r (1*r + c) l) L (by rw [zvr]; simpa using hl) (List.nodup_cons.1 hN).2 key
  simp only [List.length_cons]; omega
theorem hn_rep (x:K) (m:List K):∀ (k:Nat) (a:K),hn x a (List.replicate k 0 ++ m)=hn x (a*pw x k) m
 | 0,a=>by simp [pw,R.mul_one]
 | k + 1,a=>by
  simp only [List.replicate_succ,List.cons_append,hn,R.add_zero]
  rw [hn_rep x m k,R.mul_assoc]
  simp only [pw]
  rw [R.mul_comm x]
/-- At most N elements are their own N-th powers. -/
theorem fixed_le (hd:∀ a b:K,a*b=0→a=0∨b=0) (h10:(1:K) ≠ 0) {N:Nat} (hN:2≤N) {L:List K} (hL:L.Nodup) (hx:∀ x∈L,pw x N=x):L.length≤N:=by
 obtain ⟨k,rfl⟩:∃ k,N=k + 2:=⟨N - 2,by omega⟩
 refine R.roots hd h10 (k + 2) (List.replicate k 0 ++ [-1,0]) L (by simp) hL fun x h=>?_
 have h2:=hx x h
 rw [R.hn_rep,R.one_mul]
 simp only [hn,R.add_zero]
 simp only [pw] at h2
 rw [R.add_mul,h2,R.mul_comm (-1),R.mul_neg,R.mul_one,R.add_neg]

end IsRing
theorem zqo {α:Type} [DecidableEq α]:∀ l m:List α,l.Nodup→(∀ x∈l,x∈m)→m.length≤l.length→∀ y∈m,y∈l
 | [],m,_,_,h,y,hy=>by
  have:m=[]:=List.eq_nil_of_length_eq_zero (by simpa using h)
  subst this; exact hy
 | x :: l,m,hn,hs,h,y,hy=>by
  obtain ⟨h1,h2⟩:=List.nodup_cons.1 hn
  have hx:=hs x (by simp)
  by_cases e:y=x
  ·subst e; simp
  ·have hl:=List.length_erase_of_mem hx
   refine List.mem_cons_of_mem _ (zqo l (m.erase x) h2 (fun z hz=>?_) ?_ y ((List.mem_erase_of_ne e).2 hy))
   ·exact (List.mem_erase_of_ne (fun e2=>h1 (by rw [← e2]; exact hz))).2 (hs z (by simp [hz]))
   ·simp only [List.length_cons] at h; omega
def prd:List K→K
 | []=>1
 | x :: l=>x*prd l
namespace IsRing
variable (R:IsRing K)
include R
theorem prd_perm {l m:List K} (h:l.Perm m):prd l=prd m:=by
 induction h with
 | nil=>rfl
 | cons x _ ih=>simp only [prd,ih]
 | swap x y l=>simp only [prd,R.mul_left_comm x y]
 | trans _ _ h1 h2=>rw [h1,h2]
theorem prd_map (x:K):∀ l:List K,prd (l.map (x*·))=pw x l.length*prd l
 | []=>by simp only [List.map_nil,prd,List.length_nil,pw,R.mul_one]
 | y :: l=>by simp only [List.map_cons,prd,List.length_cons,pw,prd_map x l,R.mul_assoc,R.mul_left_comm y]; rw [R.mul_left_comm]
omit R [Add K] [Neg K] in
theorem prd_ne (hd:∀ a b:K,a*b=0→a=0∨b=0) (h10:(1:K) ≠ 0):∀ l:List K,(∀ x∈l,x ≠ 0)→prd l ≠ 0
 | [],_=>h10
 | y :: l,h=>fun e=>by
  rcases hd _ _ e with e | e
  ·exact h y (by simp) e
  ·exact prd_ne hd h10 l (fun x hx=>h x (by simp [hx])) e
theorem mul_cancel (hd:∀ a b:K,a*b=0→a=0∨b=0) {a b c:K} (ha:a ≠ 0) (h:a*b=a*c):b=c:=by
 have:a*(b + -c)=0:=by rw [R.mul_add,R.mul_neg,h,R.add_neg]
 rcases hd _ _ this with e | e
 ·exact absurd e ha
 ·exact R.sub_zero e
/-- In a finite field of q elements the power q of an element is the element. -/
theorem fermat (hd:∀ a b:K,a*b=0→a=0∨b=0) (h10:(1:K) ≠ 0) {E:List K} (hE:E.Nodup) (hall:∀ x,x∈E) (x:K):pw x E.length=x:=by
 classical
 have hpos:E.length ≠ 0:=fun e=>by have:=hall x; rw [List.eq_nil_of_length_eq_zero e] at this; simp at this
 by_cases hx:x=0
 ·subst hx; exact R.pw_zero hpos
 ·have hF:(E.erase 0).Nodup:=hE.erase 0
  have hmem:∀ y,y∈E.erase 0 ↔ y ≠ 0:=fun y=>by rw [hE.mem_erase_iff]; simp [hall y]
  have hlen:(E.erase 0).length=E.length - 1:=List.length_erase_of_mem (hall 0)
  have hperm:((E.erase 0).map (x*·)).Perm (E.erase 0):=by
   refine (List.perm_ext_iff_of_nodup ?_ hF).2 fun y=>?_
   ·refine List.Pairwise.map _ ?_ hF
    intro a b hab e
    exact hab (R.mul_cancel hd hx e)
   ·rw [List.mem_map,hmem]
    constructor
    ·rintro ⟨z,hz,rfl⟩ e
     rcases hd _ _ e with e | e
     ·exact hx e
     ·exact (hmem z).1 hz e
    ·intro hy
     have hnd:((E.erase 0).map (x*·)).Nodup:=by
      refine List.Pairwise.map _ ?_ hF
      intro a b hab e
      exact hab (R.mul_cancel hd hx e)
     have hin:∀ z∈(E.erase 0).map (x*·),z∈E.erase 0:=by
      intro z hz
      obtain ⟨w,hw,rfl⟩:=List.mem_map.1 hz
      refine (hmem _).2 fun e=>?_
      rcases hd _ _ e with e | e
      ·exact hx e
      ·exact (hmem w).1 hw e
     exact List.mem_map.1 (zqo _ _ hnd hin (by simp) y ((hmem y).2 hy))
  have h1:=R.prd_perm hperm
  rw [R.prd_map] at h1
  have h2:prd (E.erase 0)*pw x (E.erase 0).length=prd (E.erase 0)*1:=by rw [R.mul_comm,h1,R.mul_one]
  have h3:=R.mul_cancel hd (IsRing.prd_ne hd h10 _ fun y hy=>(hmem y).1 hy) h2
  have e:E.length=(E.erase 0).length + 1:=by omega
  rw [e]
  simp only [pw,h3,R.one_mul]
end IsRing
end
end Go.Abs
/- Rings: divisors, residues by an element. -/
namespace Go.Abs
section
variable {K:Type} [Add K] [Mul K] [Neg K] [Zero K] [One K]

def Dv (a b:K):Prop:=∃ q,b=q*a
namespace IsRing
variable (R:IsRing K)
include R
theorem dv_refl (a:K):Dv a a:=⟨1,(R.one_mul a).symm⟩
theorem dv_zero (a:K):Dv a 0:=⟨0,(R.zero_mul a).symm⟩
theorem dv_add {a b c:K} (h1:Dv a b) (h2:Dv a c):Dv a (b + c):=by
 obtain ⟨x,rfl⟩:=h1
 obtain ⟨y,rfl⟩:=h2
 exact ⟨x + y,(R.add_mul _ _ _).symm⟩
theorem dv_mul {a b:K} (h:Dv a b) (c:K):Dv a (c*b):=by
 obtain ⟨x,rfl⟩:=h
 exact ⟨c*x,(R.mul_assoc _ _ _).symm⟩
theorem dv_mul' {a b:K} (h:Dv a b) (c:K):Dv a (b*c):=by rw [R.mul_comm]; exact R.dv_mul h c
theorem dv_neg {a b:K} (h:Dv a b):Dv a (-b):=by
 obtain ⟨x,rfl⟩:=h
 exact ⟨-x,by rw [R.mul_comm (-x),R.mul_neg,R.mul_comm]⟩
theorem dv_trans {a b c:K} (h1:Dv a b) (h2:Dv b c):Dv a c:=by
 obtain ⟨y,rfl⟩:=h2
 exact R.dv_mul h1 y
/-- Of a sum and a part of it, the other part. -/
theorem dv_sub {a b c:K} (h1:Dv a (b + c)) (h2:Dv a b):Dv a c:=by
 have h:=R.dv_add h1 (R.dv_neg h2)
 have e:b + c + -b=c:=by rw [R.add_comm b c,R.add_assoc,R.add_neg,R.add_zero]
 rwa [e] at h
theorem neg_add' (a b:K):-(a + b)=-a + -b:=by
 refine (R.neg_of ?_).symm
 rw [R.add_assoc,R.add_left_comm b,R.add_neg,R.add_zero,R.add_neg]
theorem neg_zero:-(0:K)=0:=(R.neg_of (R.add_zero 0)).symm

/-! Congruence by an element. -/
theorem cong_eqv (f:K):Equivalence fun a b:K=>Dv f (a + -b):=by
 refine ⟨fun a=>by rw [R.add_neg]; exact R.dv_zero f,fun {a b} h=>?_,fun {a b c} h1 h2=>?_⟩
 ·have:=R.dv_neg h
  rwa [R.neg_add',R.neg_neg,R.add_comm] at this
 ·have:=R.dv_add h1 h2
  have e:a + -b + (b + -c)=a + -c:=by rw [R.add_assoc,← R.add_assoc (-b),R.neg_add,R.zero_add]
  rwa [e] at this
end IsRing
def sdv (R:IsRing K) (f:K):Setoid K:=⟨fun a b=>Dv f (a + -b),R.cong_eqv f⟩
def Qt (R:IsRing K) (f:K):Type:=Quotient (sdv R f)
def qm (R:IsRing K) (f a:K):Qt R f:=Quotient.mk (sdv R f) a
theorem zjx (R:IsRing K) {f a b:K}:qm R f a=qm R f b ↔ Dv f (a + -b):=⟨fun h=>Quotient.exact h,fun h=>Quotient.sound h⟩
theorem zgz (R:IsRing K) {f a:K}:qm R f a=qm R f 0 ↔ Dv f a:=by rw [zjx,R.neg_zero,R.add_zero]

variable (R:IsRing K) (f:K)
instance:Add (Qt R f):=⟨Quotient.lift₂ (fun a b=>qm R f (a + b)) fun a b c d h1 h2=>by
 refine (zjx R).2 ?_
 have h:=R.dv_add (show Dv f (a + -c) from h1) (show Dv f (b + -d) from h2)
 have e:a + -c + (b + -d)=a + b + -(c + d):=by
  rw [R.neg_add']; simp only [R.add_assoc]; rw [R.add_left_comm (-c)]
 rwa [e] at h⟩
instance:Mul (Qt R f):=⟨Quotient.lift₂ (fun a b=>qm R f (a*b)) fun a b c d h1 h2=>by
 refine (zjx R).2 ?_
 have h:=R.dv_add (R.dv_mul' (show Dv f (a + -c) from h1) b) (R.dv_mul (show Dv f (b + -d) from h2) c)
 have e:(a + -c)*b + c*(b + -d)=a*b + -(c*d):=by
  rw [R.add_mul,R.mul_add,R.mul_neg,R.mul_comm (-c),R.mul_neg,R.mul_comm b c,R.add_assoc,← R.add_assoc (-(c*b)),R.neg_add,R.zero_add]
 rwa [e] at h⟩
instance:Neg (Qt R f):=⟨Quotient.lift (fun a=>qm R f (-a)) fun a c h1=>by
 refine (zjx R).2 ?_
 have h:=R.dv_neg (show Dv f (a + -c) from h1)
 rwa [R.neg_add'] at h⟩
instance:Zero (Qt R f):=⟨qm R f 0⟩
instance:One (Qt R f):=⟨qm R f 1⟩
theorem z18 (a b:K):qm R f (a + b)=qm R f a + qm R f b:=rfl
theorem z0c (a b:K):qm R f (a*b)=qm R f a*qm R f b:=rfl
theorem z3b:qm R f 0=0:=rfl
theorem z5g:qm R f 1=1:=rfl
theorem z4a (a:K) (n:Nat):qm R f (pw a n)=pw (qm R f a) n:=by
 induction n with
 | zero=>rfl
 | succ n ih=>simp only [pw,z0c,ih]
theorem z5t (a:K) (n:Nat):qm R f (mF n a)=mF n (qm R f a):=by
 induction n with
 | zero=>rfl
 | succ n ih=>simp only [mF,z18,ih]
theorem mU {P:Qt R f→Prop} (h:∀ a,P (qm R f a)):∀ x,P x:=fun x=>Quotient.ind h x
theorem z4e:IsRing (Qt R f) where
 add_comm:=mU R f fun a=>mU R f fun b=>congrArg (qm R f) (R.add_comm a b)
 add_assoc:=mU R f fun a=>mU R f fun b=>mU R f fun c=>congrArg (qm R f) (R.add_assoc a b c)
 add_zero:=mU R f fun a=>congrArg (qm R f) (R.add_zero a)
 add_neg:=mU R f fun a=>congrArg (qm R f) (R.add_neg a)
 mul_comm:=mU R f fun a=>mU R f fun b=>congrArg (qm R f) (R.mul_comm a b)
 mul_assoc:=mU R f fun a=>mU R f fun b=>mU R f fun c=>congrArg (qm R f) (R.mul_assoc a b c)
 mul_one:=mU R f fun a=>congrArg (qm R f) (R.mul_one a)
 mul_add:=mU R f fun a=>mU R f fun b=>mU R f fun c=>congrArg (qm R f) (R.mul_add a b c)
end
end Go.Abs
/- Identities of commutative rings, decided: products are written out, and what stands against each other is taken away. -/
namespace Go.Abs
inductive RE where
 | v (n:Nat) | z | o | add (a b:RE) | mul (a b:RE) | neg (a:RE)
section
variable {K:Type} [Add K] [Mul K] [Neg K] [Zero K] [One K]
def rv (ρ:List K):RE→K
 | .v n=>ρ.getD n 0
 | .z=>0
 | .o=>1
 | .add a b=>rv ρ a + rv ρ b
 | .mul a b=>rv ρ a*rv ρ b
 | .neg a=>-rv ρ a
end
def z24 (i:Nat):List Nat→List Nat
 | []=>[i]
 | j :: l=>if i≤j then i :: j :: l else j :: z24 i l
def mrg:List Nat→List Nat→List Nat
 | [],m=>m
 | i :: l,m=>z24 i (mrg l m)
def z10 (s:Bool×List Nat):List (Bool×List Nat)→List (Bool×List Nat)
 | []=>[]
 | t :: l=>(s.1 == t.1,mrg s.2 t.2) :: z10 s l
def zt4:List (Bool×List Nat)→List (Bool×List Nat)→List (Bool×List Nat)
 | [],_=>[]
 | s :: l,m=>z10 s m ++ zt4 l m
def z2f:List (Bool×List Nat)→List (Bool×List Nat)
 | []=>[]
 | t :: l=>(!t.1,t.2) :: z2f l
def rx:RE→List (Bool×List Nat)
 | .v n=>[(true,[n])]
 | .z=>[]
 | .o=>[(true,[])]
 | .add a b=>rx a ++ rx b
 | .mul a b=>zt4 (rx a) (rx b)
 | .neg a=>z2f (rx a)
def same:List Nat→List Nat→Bool
 | [],[]=>true
 | i :: l,j :: m=>Nat.beq i j && same l m
 | _,_=>false
def rmv (t:Bool×List Nat):List (Bool×List Nat)→Option (List (Bool×List Nat))
 | []=>none
 | s :: l=>if (s.1 == t.1) && same s.2 t.2 then some l else match rmv t l with
  | some m=>some (s :: m)
  | none=>none
def cz:Nat→List (Bool×List Nat)→Bool
 | _,[]=>true
 | 0,_ :: _=>false
 | n + 1,t :: l=>match rmv (!t.1,t.2) l with
  | some m=>cz n m
  | none=>false
section
variable {K:Type} [Add K] [Mul K] [Neg K] [Zero K] [One K] (R:IsRing K) (ρ:List K)
def rvm:List Nat→K
 | []=>1
 | i :: l=>ρ.getD i 0*rvm l
def rvt (t:Bool×List Nat):K:=if t.1 then rvm ρ t.2 else -rvm ρ t.2
def rvs:List (Bool×List Nat)→K
 | []=>0
 | t :: l=>rvt ρ t + rvs l
include R
theorem zvw (i:Nat):∀ l,rvm ρ (z24 i l)=ρ.getD i 0*rvm ρ l
 | []=>rfl
 | j :: l=>by
  simp only [z24]
  split
  ·rfl
  ·simp only [rvm]
   rw [zvw i l,R.mul_left_comm]
theorem zyo:∀ l m,rvm ρ (mrg l m)=rvm ρ l*rvm ρ m
 | [],m=>by simp only [mrg,rvm]; rw [R.one_mul]
 | i :: l,m=>by
  simp only [mrg,rvm]
  rw [zvw R,zyo l m,R.mul_assoc]
theorem zic (a b:K):-a*b=-(a*b):=by rw [R.mul_comm,R.mul_neg,R.mul_comm]
theorem z2u (s t:Bool×List Nat):rvt ρ (s.1 == t.1,mrg s.2 t.2)=rvt ρ s*rvt ρ t:=by
 obtain ⟨a,l⟩:=s
 obtain ⟨b,m⟩:=t
 unfold rvt
 simp only
 cases a <;> cases b <;> simp only [beq_self_eq_true,if_true,Bool.false_eq_true,if_false,reduceCtorEq,beq_iff_eq,zyo R]
 ·rw [zic R,R.mul_neg,R.neg_neg]
 ·rw [zic R]
 ·rw [R.mul_neg]
theorem ztx:∀ l m,rvs ρ (l ++ m)=rvs ρ l + rvs ρ m
 | [],m=>by simp only [List.nil_append,rvs]; rw [R.zero_add]
 | t :: l,m=>by simp only [List.cons_append,rvs]; rw [ztx l m,R.add_assoc]
theorem zu3 (s:Bool×List Nat):∀ l,rvs ρ (z10 s l)=rvt ρ s*rvs ρ l
 | []=>by simp only [z10,rvs]; rw [R.mul_zero]
 | t :: l=>by
  simp only [z10,rvs]
  rw [zu3 s l,z2u R,R.mul_add]
theorem zsh:∀ l m,rvs ρ (zt4 l m)=rvs ρ l*rvs ρ m
 | [],m=>by simp only [zt4,rvs]; rw [R.zero_mul]
 | s :: l,m=>by
  simp only [zt4,rvs]
  rw [ztx R,zu3 R,zsh l m,R.add_mul]
theorem zyq:∀ l,rvs ρ (z2f l)=-rvs ρ l
 | []=>by simp only [z2f,rvs]; rw [R.neg_zero]
 | t :: l=>by
  simp only [z2f,rvs]
  rw [zyq l,R.neg_add']
  congr 1
  obtain ⟨a,m⟩:=t
  unfold rvt
  cases a
  ·simp only [Bool.not_false,if_true,Bool.false_eq_true,if_false]; rw [R.neg_neg]
  ·simp only [Bool.not_true,if_true,Bool.false_eq_true,if_false]
theorem zn6:∀ e,rvs ρ (rx e)=rv ρ e
 | .v n=>by simp only [rx,rvs,rvt,rvm,rv,if_true]; rw [R.add_zero,R.mul_one]
 | .z=>rfl
 | .o=>by simp only [rx,rvs,rvt,rvm,rv,if_true]; rw [R.add_zero]
 | .add a b=>by simp only [rx,rv]; rw [ztx R,zn6 a,zn6 b]
 | .mul a b=>by simp only [rx,rv]; rw [zsh R,zn6 a,zn6 b]
 | .neg a=>by simp only [rx,rv]; rw [zyq R,zn6 a]
omit [Add K] [Mul K] [Neg K] [Zero K] [One K] R in
theorem zxj:∀ l m,same l m=true→l=m
 | [],[],_=>rfl
 | [],_ :: _,h=>by simp [same] at h
 | _ :: _,[],h=>by simp [same] at h
 | i :: l,j :: m,h=>by
  simp only [same,Bool.and_eq_true] at h
  rw [Nat.eq_of_beq_eq_true h.1,zxj l m h.2]
theorem zyi (t:Bool×List Nat):∀ l m,rmv t l=some m→rvs ρ l=rvt ρ t + rvs ρ m
 | [],m,h=>by simp [rmv] at h
 | s :: l,m,h=>by
  simp only [rmv] at h
  split at h
  ·rename_i hs
   simp only [Bool.and_eq_true,beq_iff_eq] at hs
   have e:s=t:=Prod.ext hs.1 (zxj _ _ hs.2)
   cases h
   rw [e]; rfl
  ·split at h
   ·rename_i m' hm
    cases h
    simp only [rvs]
    rw [zyi t l m' hm,R.add_left_comm]
   ·cases h
theorem z00:∀ n l,cz n l=true→rvs ρ l=0
 | _,[],_=>rfl
 | 0,_ :: _,h=>by simp [cz] at h
 | n + 1,t :: l,h=>by
  simp only [cz] at h
  split at h
  ·rename_i m hm
   simp only [rvs]
   rw [zyi R ρ _ l m hm,z00 n m h,R.add_zero]
   obtain ⟨a,w⟩:=t
   unfold rvt
   cases a
   ·simp only [Bool.not_false,if_true,Bool.false_eq_true,if_false]; rw [R.neg_add]
   ·simp only [Bool.not_true,if_true,Bool.false_eq_true,if_false]; rw [R.add_neg]
  ·cases h
theorem xB (a b:RE) (h:cz 1000 (rx (.add a (.neg b)))=true):rv ρ a=rv ρ b:=by
 have h1:=z00 R ρ _ _ h
 rw [zn6 R] at h1
 exact R.sub_zero h1
end
end Go.Abs
/- Quadratic elements over a ring, ideals and their products and classes. -/
namespace Go.Abs
section
variable {K:Type} [Add K] [Mul K] [Neg K] [Zero K] [One K]
theorem zw3 (R:IsRing K) (D u v x y:K):u*x + D*(v*y)=x*u + D*(y*v):=xB R [D,u,v,x,y] (.add (.mul (.v 1) (.v 3)) (.mul (.v 0) (.mul (.v 2) (.v 4)))) (.add (.mul (.v 3) (.v 1)) (.mul (.v 0) (.mul (.v 4) (.v 2)))) rfl
theorem zv2 (R:IsRing K) (D u v x y:K):u*y + v*x=x*v + y*u:=xB R [D,u,v,x,y] (.add (.mul (.v 1) (.v 4)) (.mul (.v 2) (.v 3))) (.add (.mul (.v 3) (.v 2)) (.mul (.v 4) (.v 1))) rfl
theorem zvj (R:IsRing K) (D a b c d e f:K):(a*c + D*(b*d))*e + D*((a*d + b*c)*f)=a*(c*e + D*(d*f)) + D*(b*(c*f + d*e)):=xB R [D,a,b,c,d,e,f] (.add (.mul (.add (.mul (.v 1) (.v 3)) (.mul (.v 0) (.mul (.v 2) (.v 4)))) (.v 5)) (.mul (.v 0) (.mul (.add (.mul (.v 1) (.v 4)) (.mul (.v 2) (.v 3))) (.v 6)))) (.add (.mul (.v 1) (.add (.mul (.v 3) (.v 5)) (.mul (.v 0) (.mul (.v 4) (.v 6))))) (.mul (.v 0) (.mul (.v 2) (.add (.mul (.v 3) (.v 6)) (.mul (.v 4) (.v 5)))))) rfl
theorem zvn (R:IsRing K) (D a b c d e f:K):(a*c + D*(b*d))*f + (a*d + b*c)*e=a*(c*f + d*e) + b*(c*e + D*(d*f)):=xB R [D,a,b,c,d,e,f] (.add (.mul (.add (.mul (.v 1) (.v 3)) (.mul (.v 0) (.mul (.v 2) (.v 4)))) (.v 6)) (.mul (.add (.mul (.v 1) (.v 4)) (.mul (.v 2) (.v 3))) (.v 5))) (.add (.mul (.v 1) (.add (.mul (.v 3) (.v 6)) (.mul (.v 4) (.v 5)))) (.mul (.v 2) (.add (.mul (.v 3) (.v 5)) (.mul (.v 0) (.mul (.v 4) (.v 6)))))) rfl
theorem zy4 (R:IsRing K) (D a b c d e f:K):a*(c + e) + D*(b*(d + f))=a*c + D*(b*d) + (a*e + D*(b*f)):=xB R [D,a,b,c,d,e,f] (.add (.mul (.v 1) (.add (.v 3) (.v 5))) (.mul (.v 0) (.mul (.v 2) (.add (.v 4) (.v 6))))) (.add (.add (.mul (.v 1) (.v 3)) (.mul (.v 0) (.mul (.v 2) (.v 4)))) (.add (.mul (.v 1) (.v 5)) (.mul (.v 0) (.mul (.v 2) (.v 6))))) rfl
theorem zy1 (R:IsRing K) (D a b c d e f:K):a*(d + f) + b*(c + e)=a*d + b*c + (a*f + b*e):=xB R [D,a,b,c,d,e,f] (.add (.mul (.v 1) (.add (.v 4) (.v 6))) (.mul (.v 2) (.add (.v 3) (.v 5)))) (.add (.add (.mul (.v 1) (.v 4)) (.mul (.v 2) (.v 3))) (.add (.mul (.v 1) (.v 6)) (.mul (.v 2) (.v 5)))) rfl
theorem z11 (R:IsRing K) (D a b:K):a*1 + D*(b*0)=a:=xB R [D,a,b] (.add (.mul (.v 1) .o) (.mul (.v 0) (.mul (.v 2) .z))) (.v 1) rfl
theorem z0h (R:IsRing K) (D a b:K):a*0 + b*1=b:=xB R [D,a,b] (.add (.mul (.v 1) .z) (.mul (.v 2) .o)) (.v 2) rfl
/-- u + v y with y y = D. -/
structure Qd (D:K) where
 u:K
 v:K
variable {D:K}
omit [Add K] [Mul K] [Neg K] [Zero K] [One K] in
theorem nG:∀ {x y:Qd D},x.u=y.u→x.v=y.v→x=y
 | ⟨_,_⟩,⟨_,_⟩,rfl,rfl=>rfl
instance:Add (Qd D):=⟨fun x y=>⟨x.u + y.u,x.v + y.v⟩⟩
instance:Mul (Qd D):=⟨fun x y=>⟨x.u*y.u + D*(x.v*y.v),x.u*y.v + x.v*y.u⟩⟩
instance:Neg (Qd D):=⟨fun x=>⟨-x.u,-x.v⟩⟩
instance:Zero (Qd D):=⟨⟨0,0⟩⟩
instance:One (Qd D):=⟨⟨1,0⟩⟩
omit [Neg K] [Zero K] [One K] in
theorem z6a (x y:Qd D):(x*y).u=x.u*y.u + D*(x.v*y.v):=rfl
theorem zgf (R:IsRing K):IsRing (Qd D) where
 add_comm x y:=nG (R.add_comm _ _) (R.add_comm _ _)
 add_assoc x y z:=nG (R.add_assoc _ _ _) (R.add_assoc _ _ _)
 add_zero x:=nG (R.add_zero _) (R.add_zero _)
 add_neg x:=nG (R.add_neg _) (R.add_neg _)
 mul_comm x y:=nG (zw3 R D x.u x.v y.u y.v) (zv2 R D x.u x.v y.u y.v)
 mul_assoc x y z:=nG (zvj R D x.u x.v y.u y.v z.u z.v) (zvn R D x.u x.v y.u y.v z.u z.v)
 mul_one x:=nG (z11 R D x.u x.v) (z0h R D x.u x.v)
 mul_add x y z:=nG (zy4 R D x.u x.v y.u y.v z.u z.v) (zy1 R D x.u x.v y.u y.v z.u z.v)
end

/-! Ideals. -/
section
variable {K:Type} [Add K] [Mul K] [Neg K] [Zero K] [One K] (R:IsRing K)
structure Idl (S:K→Prop):Prop where
 zero:S 0
 add:∀ {x y},S x→S y→S (x + y)
 mul:∀ (r) {x},S x→S (r*x)
inductive Pr (S T:K→Prop):K→Prop
 | zero:Pr S T 0
 | cons {s t x:K}:S s→T t→Pr S T x→Pr S T (s*t + x)
def Sc (a:K) (S:K→Prop) (x:K):Prop:=∃ s,S s∧x=a*s
variable {S T U:K→Prop}
omit [Add K] [Mul K] [Neg K] [Zero K] [One K] in
theorem zaj {S T:K→Prop} (h1:∀ x,S x→T x) (h2:∀ x,T x→S x):S=T:=funext fun x=>propext ⟨h1 x,h2 x⟩
omit [Neg K] [One K] in
theorem Pr.mono {S' T':K→Prop} (h1:∀ x,S x→S' x) (h2:∀ x,T x→T' x) {x:K} (h:Pr S T x):Pr S' T' x:=by
 induction h with
 | zero=>exact .zero
 | cons hs ht _ ih=>exact .cons (h1 _ hs) (h2 _ ht) ih
include R
theorem Pr.add' {x y:K} (h1:Pr S T x) (h2:Pr S T y):Pr S T (x + y):=by
 induction h1 with
 | zero=>rw [R.zero_add]; exact h2
 | cons hs ht _ ih=>rw [R.add_assoc]; exact .cons hs ht ih
theorem Pr.one' {s t:K} (hs:S s) (ht:T t):Pr S T (s*t):=by
 have:=Pr.cons (S:=S) (T:=T) hs ht .zero
 rwa [R.add_zero] at this
theorem Pr.idl (hS:Idl S):Idl (Pr S T) where
 zero:=.zero
 add h1 h2:=Pr.add' R h1 h2
 mul r {x} h:=by
  induction h with
  | zero=>rw [R.mul_zero]; exact .zero
  | cons hs ht _ ih =>
   rw [R.mul_add,← R.mul_assoc]
   exact .cons (hS.mul r hs) ht ih
theorem Pr.comm {x:K} (h:Pr S T x):Pr T S x:=by
 induction h with
 | zero=>exact .zero
 | cons hs ht _ ih=>rw [R.mul_comm]; exact .cons ht hs ih
theorem zcy (S T:K→Prop):Pr S T=Pr T S:=zaj (fun _ h=>Pr.comm R h) (fun _ h=>Pr.comm R h)
theorem zn4 {x:K} (h:Pr (Pr S T) U x):Pr S (Pr T U) x:=by
 induction h with
 | zero=>exact .zero
 | cons hp hu _ ih =>
  refine Pr.add' R ?_ ih
  clear ih
  induction hp with
  | zero=>rw [R.zero_mul]; exact .zero
  | cons hs ht _ ih2 =>
   rw [R.add_mul,R.mul_assoc]
   exact .cons hs (Pr.one' R ht hu) ih2
theorem zib (S T U:K→Prop):Pr (Pr S T) U=Pr S (Pr T U):=zaj (fun _ h=>zn4 R h) (fun x h=>by
 have h1:Pr (Pr T U) S x:=Pr.comm R h
 have h2:Pr T (Pr U S) x:=zn4 R h1
 have h3:Pr (Pr U S) T x:=Pr.comm R h2
 have h4:Pr U (Pr S T) x:=zn4 R h3
 exact Pr.comm R h4)
theorem zlh (a:K) (S T:K→Prop):Pr (Sc a S) T=Sc a (Pr S T):=zaj (fun x h=>by
 induction h with
 | zero=>exact ⟨0,.zero,(R.mul_zero a).symm⟩
 | cons hs ht _ ih =>
  obtain ⟨s,h1,rfl⟩:=hs
  obtain ⟨y,h2,rfl⟩:=ih
  exact ⟨_,.cons h1 ht h2,by rw [R.mul_add,R.mul_assoc]⟩) (fun x h=>by
 obtain ⟨y,h,rfl⟩:=h
 induction h with
 | zero=>rw [R.mul_zero]; exact .zero
 | cons hs ht _ ih =>
  rw [R.mul_add,← R.mul_assoc]
  exact .cons ⟨_,hs,rfl⟩ ht ih)
theorem zmz (a b:K) (S:K→Prop):Sc a (Sc b S)=Sc (a*b) S:=zaj (fun x h=>by
 obtain ⟨y,⟨z,h1,rfl⟩,rfl⟩:=h
 exact ⟨z,h1,(R.mul_assoc _ _ _).symm⟩) (fun x h=>by
 obtain ⟨z,h1,rfl⟩:=h
 exact ⟨_,⟨z,h1,rfl⟩,R.mul_assoc _ _ _⟩)
theorem zwh (S:K→Prop):Sc 1 S=S:=zaj (fun x h=>by
 obtain ⟨y,h1,rfl⟩:=h
 rw [R.one_mul]; exact h1) (fun x h=>⟨x,h,(R.one_mul x).symm⟩)
/-- All of the ring. -/
theorem zq0 (hS:Idl S):Pr S (fun _=>True)=S:=zaj (fun x h=>by
 induction h with
 | zero=>exact hS.zero
 | cons hs _ _ ih=>exact hS.add (by rw [R.mul_comm]; exact hS.mul _ hs) ih) (fun x h=>by
 have:=Pr.one' R (T:=fun _=>True) h (t:=1) trivial
 rwa [R.mul_one] at this)
/-! Classes. -/
omit R in
def Cl (S T:K→Prop):Prop:=∃ a b:K,a ≠ 0∧b ≠ 0∧Sc a S=Sc b T
variable (hd:∀ a b:K,a*b=0→a=0∨b=0)
omit [Add K] [Neg K] R in
theorem Cl.refl (h1:(1:K) ≠ 0) (S:K→Prop):Cl S S:=⟨1,1,h1,h1,rfl⟩
omit [Add K] [Neg K] [One K] R in
theorem Cl.symm (h:Cl S T):Cl T S:=by
 obtain ⟨a,b,ha,hb,e⟩:=h
 exact ⟨b,a,hb,ha,e.symm⟩
include hd
theorem Cl.trans (h1:Cl S T) (h2:Cl T U):Cl S U:=by
 obtain ⟨a,b,ha,hb,e⟩:=h1
 obtain ⟨c,d,hc,hd',e'⟩:=h2
 refine ⟨c*a,b*d,fun h=>(hd _ _ h).elim hc ha,fun h=>(hd _ _ h).elim hb hd',?_⟩
 rw [← zmz R,e,zmz R,R.mul_comm c b,← zmz R,e',zmz R]
omit hd in
theorem Cl.pr {S':K→Prop} (h:Cl S S') (T:K→Prop):Cl (Pr S T) (Pr S' T):=by
 obtain ⟨a,b,ha,hb,e⟩:=h
 exact ⟨a,b,ha,hb,by rw [← zlh R,← zlh R,e]⟩
/-- A factor is taken away. -/
theorem zrp {a:K} (ha:a ≠ 0) (h:Sc a S=Sc a T):S=T:=by
 have cn:∀ x y:K,a*x=a*y→x=y:=fun x y e=>by
  have:a*(x + -y)=0:=by rw [R.mul_add,R.mul_neg,e,R.add_neg]
  exact R.sub_zero ((hd _ _ this).resolve_left ha)
 refine zaj (fun x hx=>?_) (fun x hx=>?_)
 ·obtain ⟨y,h1,h2⟩:Sc a T (a*x):=by rw [← h]; exact ⟨x,hx,rfl⟩
  rw [cn x y h2]; exact h1
 ·obtain ⟨y,h1,h2⟩:Sc a S (a*x):=by rw [h]; exact ⟨x,hx,rfl⟩
  rw [cn x y h2]; exact h1
end
end Go.Abs
/- The composition of forms, as a product of ideals. -/
namespace Go.Abs
section
variable {K:Type} [Add K] [Mul K] [Neg K] [Zero K] [One K]
theorem z0k (R:IsRing K) (a b v w x y:K):b*v + a*w + (b*x + a*y)=b*(v + x) + a*(w + y):=xB R [a,b,v,w,x,y] (.add (.add (.mul (.v 1) (.v 2)) (.mul (.v 0) (.v 3))) (.add (.mul (.v 1) (.v 4)) (.mul (.v 0) (.v 5)))) (.add (.mul (.v 1) (.add (.v 2) (.v 4))) (.mul (.v 0) (.add (.v 3) (.v 5)))) rfl
theorem z5b (R:IsRing K) (a b c r s v w:K):r*(b*v + a*w) + (b*b + -(a*c))*(s*v)=b*(r*v + s*(b*v + a*w)) + a*(r*w + -(b*(s*w)) + -(c*(s*v))):=xB R [a,b,c,r,s,v,w] (.add (.mul (.v 3) (.add (.mul (.v 1) (.v 5)) (.mul (.v 0) (.v 6)))) (.mul (.add (.mul (.v 1) (.v 1)) (.neg (.mul (.v 0) (.v 2)))) (.mul (.v 4) (.v 5)))) (.add (.mul (.v 1) (.add (.mul (.v 3) (.v 5)) (.mul (.v 4) (.add (.mul (.v 1) (.v 5)) (.mul (.v 0) (.v 6)))))) (.mul (.v 0) (.add (.add (.mul (.v 3) (.v 6)) (.neg (.mul (.v 1) (.mul (.v 4) (.v 6))))) (.neg (.mul (.v 2) (.mul (.v 4) (.v 5))))))) rfl
theorem zqp (R:IsRing K) (D x u v:K):x*u + D*(0*v)=x*u:=xB R [D,x,u,v] (.add (.mul (.v 1) (.v 2)) (.mul (.v 0) (.mul .z (.v 3)))) (.mul (.v 1) (.v 2)) rfl
theorem z1z (R:IsRing K) (x u v:K):x*v + 0*u=x*v:=xB R [x,u,v] (.add (.mul (.v 0) (.v 2)) (.mul .z (.v 1))) (.mul (.v 0) (.v 2)) rfl
theorem z7x (R:IsRing K) (D a c:K):a*c + D*(0*1)=a*c:=xB R [D,a,c] (.add (.mul (.v 1) (.v 2)) (.mul (.v 0) (.mul .z .o))) (.mul (.v 1) (.v 2)) rfl
theorem z7h (R:IsRing K) (a c:K):a*1 + 0*c=a:=xB R [a,c] (.add (.mul (.v 0) .o) (.mul .z (.v 1))) (.v 0) rfl
theorem z72 (R:IsRing K) (D a b:K):b*a + D*(1*0)=a*b:=xB R [D,a,b] (.add (.mul (.v 2) (.v 1)) (.mul (.v 0) (.mul .o .z))) (.mul (.v 1) (.v 2)) rfl
theorem z68 (R:IsRing K) (a b:K):b*0 + 1*a=a:=xB R [a,b] (.add (.mul (.v 1) .z) (.mul .o (.v 0))) (.v 0) rfl
theorem z7s (R:IsRing K) (b c:K):b*1 + 1*c=b + c:=xB R [b,c] (.add (.mul (.v 0) .o) (.mul .o (.v 1))) (.add (.v 0) (.v 1)) rfl
theorem z7o (R:IsRing K) (D a b:K):a*b + D*(0*0)=a*b:=xB R [D,a,b] (.add (.mul (.v 1) (.v 2)) (.mul (.v 0) (.mul .z .z))) (.mul (.v 1) (.v 2)) rfl
theorem z7d (R:IsRing K) (a b:K):a*0 + 0*b=0:=xB R [a,b] (.add (.mul (.v 0) .z) (.mul .z (.v 1))) .z rfl
theorem z52 (R:IsRing K) (d p q g b c m n r s t v w x y:K):(b*v + d*p*x)*(c*w + d*q*y) + (b*b + -(d*p*m))*(v*w)=d*((r*p*c + s*q*b + t*(b*g + -(p*m)))*(g*(v*w) + p*(x*w) + q*(y*v)) + p*q*((r*(b + -c) + t*m)*(v*y) + (s*(c + -b) + t*n)*(w*x) + d*(x*y) + -((s*m + r*n)*(v*w)))) + (d*((1 + -(r*p + s*q + t*g))*((b*g + -(p*m))*(v*w) + b*q*(v*y) + c*p*(w*x)) + (g*(c + -b) + -(q*n + -(p*m)))*(t*p*(w*x) + -(r*p*(v*w)))) + b*(b + c + -(d*g))*(v*w)):=xB R [d,p,q,g,b,c,m,n,r,s,t,v,w,x,y] (.add (.mul (.add (.mul (.v 4) (.v 11)) (.mul (.mul (.v 0) (.v 1)) (.v 13))) (.add (.mul (.v 5) (.v 12)) (.mul (.mul (.v 0) (.v 2)) (.v 14)))) (.mul (.add (.mul (.v 4) (.v 4)) (.neg (.mul (.mul (.v 0) (.v 1)) (.v 6)))) (.mul (.v 11) (.v 12)))) (.add (.mul (.v 0) (.add (.mul (.add (.add (.mul (.mul (.v 8) (.v 1)) (.v 5)) (.mul (.mul (.v 9) (.v 2)) (.v 4))) (.mul (.v 10) (.add (.mul (.v 4) (.v 3)) (.neg (.mul (.v 1) (.v 6)))))) (.add (.add (.mul (.v 3) (.mul (.v 11) (.v 12))) (.mul (.v 1) (.mul (.v 13) (.v 12)))) (.mul (.v 2) (.mul (.v 14) (.v 11))))) (.mul (.mul (.v 1) (.v 2)) (.add (.add (.add (.mul (.add (.mul (.v 8) (.add (.v 4) (.neg (.v 5)))) (.mul (.v 10) (.v 6))) (.mul (.v 11) (.v 14))) (.mul (.add (.mul (.v 9) (.add (.v 5) (.neg (.v 4)))) (.mul (.v 10) (.v 7))) (.mul (.v 12) (.v 13)))) (.mul (.v 0) (.mul (.v 13) (.v 14)))) (.neg (.mul (.add (.mul (.v 9) (.v 6)) (.mul (.v 8) (.v 7))) (.mul (.v 11) (.v 12)))))))) (.add (.mul (.v 0) (.add (.mul (.add .o (.neg (.add (.add (.mul (.v 8) (.v 1)) (.mul (.v 9) (.v 2))) (.mul (.v 10) (.v 3))))) (.add (.add (.mul (.add (.mul (.v 4) (.v 3)) (.neg (.mul (.v 1) (.v 6)))) (.mul (.v 11) (.v 12))) (.mul (.mul (.v 4) (.v 2)) (.mul (.v 11) (.v 14)))) (.mul (.mul (.v 5) (.v 1)) (.mul (.v 12) (.v 13))))) (.mul (.add (.mul (.v 3) (.add (.v 5) (.neg (.v 4)))) (.neg (.add (.mul (.v 2) (.v 7)) (.neg (.mul (.v 1) (.v 6)))))) (.add (.mul (.mul (.v 10) (.v 1)) (.mul (.v 12) (.v 13))) (.neg (.mul (.mul (.v 8) (.v 1)) (.mul (.v 11) (.v 12)))))))) (.mul (.mul (.v 4) (.add (.add (.v 4) (.v 5)) (.neg (.mul (.v 0) (.v 3))))) (.mul (.v 11) (.v 12))))) rfl
theorem z6h (R:IsRing K) (d p q g b c m n r s t v w x y:K):(b*v + d*p*x)*w + v*(c*w + d*q*y)=d*(g*(v*w) + p*(x*w) + q*(y*v)) + (b + c + -(d*g))*(v*w):=xB R [d,p,q,g,b,c,m,n,r,s,t,v,w,x,y] (.add (.mul (.add (.mul (.v 4) (.v 11)) (.mul (.mul (.v 0) (.v 1)) (.v 13))) (.v 12)) (.mul (.v 11) (.add (.mul (.v 5) (.v 12)) (.mul (.mul (.v 0) (.v 2)) (.v 14))))) (.add (.mul (.v 0) (.add (.add (.mul (.v 3) (.mul (.v 11) (.v 12))) (.mul (.v 1) (.mul (.v 13) (.v 12)))) (.mul (.v 2) (.mul (.v 14) (.v 11))))) (.mul (.add (.add (.v 4) (.v 5)) (.neg (.mul (.v 0) (.v 3)))) (.mul (.v 11) (.v 12)))) rfl
theorem z6l (R:IsRing K) (d p q g b c m n r s t e f h k v w:K):v*(r*(d*p*c) + s*(d*q*b) + t*(b*c + (b*b + -(d*p*m)))) + w*(e*(d*p*(d*q)) + (f*(q*(d*p*c) + -p*(d*q*b)) + (h*(g*(d*q*b) + -q*(b*c + (b*b + -(d*p*m)))) + k*(g*(d*p*c) + -p*(b*c + (b*b + -(d*p*m)))))))=d*((r*p*c + s*q*b + t*(b*g + -(p*m)))*v + p*q*w) + (v*(t*b*(b + c + -(d*g))) + w*(k*p*d*(g*(c + -b) + -(q*n + -(p*m))) + -(d*p*q*(1 + -(e*d + f*(c + -b) + h*m + k*n)) + h*q*b*(b + c + -(d*g)) + k*p*b*(b + c + -(d*g))))):=xB R [d,p,q,g,b,c,m,n,r,s,t,e,f,h,k,v,w] (.add (.mul (.v 15) (.add (.add (.mul (.v 8) (.mul (.mul (.v 0) (.v 1)) (.v 5))) (.mul (.v 9) (.mul (.mul (.v 0) (.v 2)) (.v 4)))) (.mul (.v 10) (.add (.mul (.v 4) (.v 5)) (.add (.mul (.v 4) (.v 4)) (.neg (.mul (.mul (.v 0) (.v 1)) (.v 6)))))))) (.mul (.v 16) (.add (.mul (.v 11) (.mul (.mul (.v 0) (.v 1)) (.mul (.v 0) (.v 2)))) (.add (.mul (.v 12) (.add (.mul (.v 2) (.mul (.mul (.v 0) (.v 1)) (.v 5))) (.mul (.neg (.v 1)) (.mul (.mul (.v 0) (.v 2)) (.v 4))))) (.add (.mul (.v 13) (.add (.mul (.v 3) (.mul (.mul (.v 0) (.v 2)) (.v 4))) (.mul (.neg (.v 2)) (.add (.mul (.v 4) (.v 5)) (.add (.mul (.v 4) (.v 4)) (.neg (.mul (.mul (.v 0) (.v 1)) (.v 6)))))))) (.mul (.v 14) (.add (.mul (.v 3) (.mul (.mul (.v 0) (.v 1)) (.v 5))) (.mul (.neg (.v 1)) (.add (.mul (.v 4) (.v 5)) (.add (.mul (.v 4) (.v 4)) (.neg (.mul (.mul (.v 0) (.v 1)) (.v 6))))))))))))) (.add (.mul (.v 0) (.add (.mul (.add (.add (.mul (.mul (.v 8) (.v 1)) (.v 5)) (.mul (.mul (.v 9) (.v 2)) (.v 4))) (.mul (.v 10) (.add (.mul (.v 4) (.v 3)) (.neg (.mul (.v 1) (.v 6)))))) (.v 15)) (.mul (.mul (.v 1) (.v 2)) (.v 16)))) (.add (.mul (.v 15) (.mul (.mul (.v 10) (.v 4)) (.add (.add (.v 4) (.v 5)) (.neg (.mul (.v 0) (.v 3)))))) (.mul (.v 16) (.add (.mul (.mul (.mul (.v 14) (.v 1)) (.v 0)) (.add (.mul (.v 3) (.add (.v 5) (.neg (.v 4)))) (.neg (.add (.mul (.v 2) (.v 7)) (.neg (.mul (.v 1) (.v 6))))))) (.neg (.add (.add (.mul (.mul (.mul (.v 0) (.v 1)) (.v 2)) (.add .o (.neg (.add (.add (.add (.mul (.v 11) (.v 0)) (.mul (.v 12) (.add (.v 5) (.neg (.v 4))))) (.mul (.v 13) (.v 6))) (.mul (.v 14) (.v 7)))))) (.mul (.mul (.mul (.v 13) (.v 2)) (.v 4)) (.add (.add (.v 4) (.v 5)) (.neg (.mul (.v 0) (.v 3)))))) (.mul (.mul (.mul (.v 14) (.v 1)) (.v 4)) (.add (.add (.v 4) (.v 5)) (.neg (.mul (.v 0) (.v 3))))))))))) rfl
theorem z6u (R:IsRing K) (d p q g b c m n r s t e f h k v w:K):v*(r*(d*p) + s*(d*q) + t*(b + c)) + w*(e*0 + (f*(q*(d*p) + -p*(d*q)) + (h*(g*(d*q) + -q*(b + c)) + k*(g*(d*p) + -p*(b + c)))))=d*v + (v*(t*(b + c + -(d*g)) + -(d*(1 + -(r*p + s*q + t*g)))) + -(w*(h*q*(b + c + -(d*g)) + k*p*(b + c + -(d*g))))):=xB R [d,p,q,g,b,c,m,n,r,s,t,e,f,h,k,v,w] (.add (.mul (.v 15) (.add (.add (.mul (.v 8) (.mul (.v 0) (.v 1))) (.mul (.v 9) (.mul (.v 0) (.v 2)))) (.mul (.v 10) (.add (.v 4) (.v 5))))) (.mul (.v 16) (.add (.mul (.v 11) .z) (.add (.mul (.v 12) (.add (.mul (.v 2) (.mul (.v 0) (.v 1))) (.mul (.neg (.v 1)) (.mul (.v 0) (.v 2))))) (.add (.mul (.v 13) (.add (.mul (.v 3) (.mul (.v 0) (.v 2))) (.mul (.neg (.v 2)) (.add (.v 4) (.v 5))))) (.mul (.v 14) (.add (.mul (.v 3) (.mul (.v 0) (.v 1))) (.mul (.neg (.v 1)) (.add (.v 4) (.v 5)))))))))) (.add (.mul (.v 0) (.v 15)) (.add (.mul (.v 15) (.add (.mul (.v 10) (.add (.add (.v 4) (.v 5)) (.neg (.mul (.v 0) (.v 3))))) (.neg (.mul (.v 0) (.add .o (.neg (.add (.add (.mul (.v 8) (.v 1)) (.mul (.v 9) (.v 2))) (.mul (.v 10) (.v 3))))))))) (.neg (.mul (.v 16) (.add (.mul (.mul (.v 13) (.v 2)) (.add (.add (.v 4) (.v 5)) (.neg (.mul (.v 0) (.v 3))))) (.mul (.mul (.v 14) (.v 1)) (.add (.add (.v 4) (.v 5)) (.neg (.mul (.v 0) (.v 3)))))))))) rfl
/-- The ideal of a form: what is b times its second part, modulo a. -/
def FI (D a b:K) (x:Qd D):Prop:=∃ w,x.u=b*x.v + a*w
variable (R:IsRing K) {D:K}
include R
theorem D_of {a b c:K} (h:b*b + -D=a*c):D=b*b + -(a*c):=by
 rw [← h,R.neg_add',R.neg_neg,← R.add_assoc,R.add_neg,R.zero_add]
theorem zwc {a b c:K} (h:b*b + -D=a*c):Idl (FI D a b) where
 zero:=⟨0,by show (0:K)=b*0 + a*0; rw [R.mul_zero,R.mul_zero,R.add_zero]⟩
 add:=by
  rintro ⟨u,v⟩ ⟨u',v'⟩ ⟨w,hw⟩ ⟨w',hw'⟩
  refine ⟨w + w',?_⟩
  show u + u'=b*(v + v') + a*(w + w')
  simp only at hw hw'
  rw [hw,hw']
  exact z0k R a b v w v' w'
 mul:=by
  rintro ⟨r,s⟩ ⟨u,v⟩ ⟨w,hw⟩
  refine ⟨r*w + -(b*(s*w)) + -(c*(s*v)),?_⟩
  show r*u + D*(s*v)=b*(r*v + s*u) + a*(r*w + -(b*(s*w)) + -(c*(s*v)))
  simp only at hw
  rw [hw,D_of R h]
  exact z5b R a b c r s v w
theorem z5f {S:Qd D→Prop} (hS:Idl S) (x:K) {u v:K} (h:S ⟨u,v⟩):S ⟨x*u,x*v⟩:=by
 have h1:=hS.mul (⟨x,0⟩:Qd D) h
 have e:(⟨x,0⟩:Qd D)*⟨u,v⟩=⟨x*u,x*v⟩:=nG (zqp R D x u v) (z1z R x u v)
 rwa [e] at h1
omit [Neg K] [One K] R in
theorem ziu {S:Qd D→Prop} (hS:Idl S) {u v u' v':K} (h:S ⟨u,v⟩) (h':S ⟨u',v'⟩):S ⟨u + u',v + v'⟩:=hS.add h h'
/-- The product of the ideals of two forms. -/
theorem zx0 {d p q g b c m n r s t e f h k:K} (hZ:b + c=d*g) (h1:b*b + -D=d*p*m) (h2:c*c + -D=d*q*n) (hE:r*p + s*q + t*g=1) (hF:g*(c + -b)=q*n + -(p*m)) (hG:e*d + f*(c + -b) + h*m + k*n=1) :
  Pr (FI D (d*p) b) (FI D (d*q) c)=Sc (⟨d,0⟩:Qd D) (FI D (p*q) (r*p*c + s*q*b + t*(b*g + -(p*m)))):=by
 have zZ:b + c + -(d*g)=0:=by rw [hZ,R.add_neg]
 have zE:1 + -(r*p + s*q + t*g)=0:=by rw [hE,R.add_neg]
 have zF:g*(c + -b) + -(q*n + -(p*m))=0:=by rw [hF,R.add_neg]
 have zG:1 + -(e*d + f*(c + -b) + h*m + k*n)=0:=by rw [hG,R.add_neg]
 have hD:=D_of R h1
 have Q:IsRing (Qd D):=zgf R
 have i1:=zwc R h1
 have i2:=zwc R h2
 have iP:Idl (Pr (FI D (d*p) b) (FI D (d*q) c)):=Pr.idl Q i1
 refine zaj (fun x hx=>?_) (fun x hx=>?_)
 ·induction hx with
  | zero=>exact ⟨0,⟨0,by show (0:K)=_*0 + _*0; rw [R.mul_zero,R.mul_zero,R.add_zero]⟩,(Q.mul_zero _).symm⟩
  | cons hs ht _ ih =>
   rename_i s' t' _ _
   obtain ⟨z,⟨w0,hw0⟩,hz⟩:=ih
   obtain ⟨u,v⟩:=s'
   obtain ⟨u',w⟩:=t'
   obtain ⟨x',hx'⟩:=hs
   obtain ⟨y,hy⟩:=ht
   simp only at hx' hy
   have eu:=z52 R d p q g b c m n r s t v w x' y
   have ev':=z6h R d p q g b c m n r s t v w x' y
   rw [zE,zF,zZ,R.zero_mul,R.zero_mul,R.add_zero,R.mul_zero,R.mul_zero,R.zero_mul,R.add_zero,R.add_zero] at eu
   rw [zZ,R.zero_mul,R.add_zero] at ev'
   obtain ⟨B,hB⟩:∃ B,r*p*c + s*q*b + t*(b*g + -(p*m))=B:=⟨_,rfl⟩
   obtain ⟨V,hV⟩:∃ V,g*(v*w) + p*(x'*w) + q*(y*v)=V:=⟨_,rfl⟩
   obtain ⟨W,hW⟩:∃ W,(r*(b + -c) + t*m)*(v*y) + (s*(c + -b) + t*n)*(w*x') + d*(x'*y) + -((s*m + r*n)*(v*w))=W:=⟨_,rfl⟩
   rw [hB,hV,hW] at eu
   rw [hV] at ev'
   rw [hB] at hw0 ⊢
   have key:(⟨u,v⟩:Qd D)*⟨u',w⟩=(⟨d,0⟩:Qd D)*⟨B*V + p*q*W,V⟩:=nG (by
    show u*u' + D*(v*w)=d*(B*V + p*q*W) + D*(0*V)
    rw [hx',hy,zqp R D d _ V,← eu]
    exact congrArg ((b*v + d*p*x')*(c*w + d*q*y) + ·*(v*w)) hD) (by
    show u*w + v*u'=d*V + 0*(B*V + p*q*W)
    rw [hx',hy,R.zero_mul,R.add_zero]
    exact ev')
   rw [hz,key,← Q.mul_add]
   refine ⟨_,⟨W + w0,?_⟩,rfl⟩
   show B*V + p*q*W + z.u=B*(V + z.v) + p*q*(W + w0)
   rw [hw0]
   exact z0k R _ _ _ _ _ _
 ·obtain ⟨⟨u,v⟩,⟨w,hw⟩,rfl⟩:=hx
  simp only at hw
  have a1:FI D (d*p) b ⟨d*p,0⟩:=⟨1,by show d*p=b*0 + d*p*1; rw [R.mul_zero,R.mul_one,R.zero_add]⟩
  have y1:FI D (d*p) b ⟨b,1⟩:=⟨0,by show b=b*1 + d*p*0; rw [R.mul_zero,R.mul_one,R.add_zero]⟩
  have a2:FI D (d*q) c ⟨d*q,0⟩:=⟨1,by show d*q=c*0 + d*q*1; rw [R.mul_zero,R.mul_one,R.zero_add]⟩
  have y2:FI D (d*q) c ⟨c,1⟩:=⟨0,by show c=c*1 + d*q*0; rw [R.mul_zero,R.mul_one,R.add_zero]⟩
  have P1:Pr (FI D (d*p) b) (FI D (d*q) c) ⟨d*p*c,d*p⟩:=by
   have h:=Pr.one' Q a1 y2
   rwa [show (⟨d*p,0⟩:Qd D)*⟨c,1⟩=⟨d*p*c,d*p⟩ from nG (z7x R D (d*p) c) (z7h R (d*p) c)] at h
  have P2:Pr (FI D (d*p) b) (FI D (d*q) c) ⟨d*q*b,d*q⟩:=by
   have h:=Pr.one' Q y1 a2
   rwa [show (⟨b,1⟩:Qd D)*⟨d*q,0⟩=⟨d*q*b,d*q⟩ from nG (z72 R D (d*q) b) (z68 R (d*q) b)] at h
  have P3:Pr (FI D (d*p) b) (FI D (d*q) c) ⟨b*c + (b*b + -(d*p*m)),b + c⟩:=by
   have h:=Pr.one' Q y1 y2
   rwa [show (⟨b,1⟩:Qd D)*⟨c,1⟩=⟨b*c + (b*b + -(d*p*m)),b + c⟩ from nG (by
    show b*c + D*(1*1)=_
    rw [R.mul_one,R.mul_one]
    exact congrArg (b*c + ·) hD) (z7s R b c)] at h
  have P4:Pr (FI D (d*p) b) (FI D (d*q) c) ⟨d*p*(d*q),0⟩:=by
   have h:=Pr.one' Q a1 a2
   rwa [show (⟨d*p,0⟩:Qd D)*⟨d*q,0⟩=⟨d*p*(d*q),0⟩ from nG (z7o R D (d*p) (d*q)) (z7d R (d*p) (d*q))] at h
  have L:=z5f R iP
  have T:=ziu iP (L v (ziu iP (ziu iP (L r P1) (L s P2)) (L t P3))) (L w (ziu iP (L e P4) (ziu iP (L f (ziu iP (L q P1) (L (-p) P2))) (ziu iP (L h (ziu iP (L g P2) (L (-q) P3))) (L k (ziu iP (L g P1) (L (-p) P3)))))))
  have eu:=z6l R d p q g b c m n r s t e f h k v w
  have ev':=z6u R d p q g b c m n r s t e f h k v w
  rw [zF,zG,zZ] at eu
  rw [zE,zZ] at ev'
  simp only [R.mul_zero,R.zero_mul,R.add_zero,R.neg_zero] at eu ev'
  have key:(⟨d,0⟩:Qd D)*⟨u,v⟩=⟨d*u,d*v⟩:=nG (zqp R D d u v) (z1z R d u v)
  rw [key,hw,← eu,← ev']
  simp only [R.mul_zero,R.zero_mul,R.add_zero,R.neg_zero] at T ⊢
  exact T
end
end Go.Abs
/- Reduction of forms, conjugates, norms. -/
namespace Go.Abs
section
variable {K:Type} [Add K] [Mul K] [Neg K] [Zero K] [One K]
theorem z54 (R:IsRing K) (a b c v w:K):b*(b*v + a*w) + (b*b + -(a*c))*(-1*v)=a*(b*w + c*v):=xB R [a,b,c,v,w] (.add (.mul (.v 1) (.add (.mul (.v 1) (.v 3)) (.mul (.v 0) (.v 4)))) (.mul (.add (.mul (.v 1) (.v 1)) (.neg (.mul (.v 0) (.v 2)))) (.mul (.neg .o) (.v 3)))) (.mul (.v 0) (.add (.mul (.v 1) (.v 4)) (.mul (.v 2) (.v 3)))) rfl
theorem z6j (R:IsRing K) (a b v w:K):b*v + -1*(b*v + a*w)=a*-w:=xB R [a,b,v,w] (.add (.mul (.v 1) (.v 2)) (.mul (.neg .o) (.add (.mul (.v 1) (.v 2)) (.mul (.v 0) (.v 3))))) (.mul (.v 0) (.neg (.v 3))) rfl
theorem z6s (R:IsRing K) (b c v w:K):b*w + c*v=-b*-w + c*v:=xB R [b,c,v,w] (.add (.mul (.v 0) (.v 3)) (.mul (.v 1) (.v 2))) (.add (.mul (.neg (.v 0)) (.neg (.v 3))) (.mul (.v 1) (.v 2))) rfl
theorem z1c (R:IsRing K) (a b q v w:K):b*v + a*w=(b + a*q)*v + a*(w + -(q*v)):=xB R [a,b,q,v,w] (.add (.mul (.v 1) (.v 3)) (.mul (.v 0) (.v 4))) (.add (.mul (.add (.v 1) (.mul (.v 0) (.v 2))) (.v 3)) (.mul (.v 0) (.add (.v 4) (.neg (.mul (.v 2) (.v 3)))))) rfl
theorem zy2 (R:IsRing K) (a b q v w:K):(b + a*q)*v + a*w=b*v + a*(w + q*v):=xB R [a,b,q,v,w] (.add (.mul (.add (.v 1) (.mul (.v 0) (.v 2))) (.v 3)) (.mul (.v 0) (.v 4))) (.add (.mul (.v 1) (.v 3)) (.mul (.v 0) (.add (.v 4) (.mul (.v 2) (.v 3))))) rfl
theorem z3f (R:IsRing K) (a k l b v w:K):k*a*(l*w)=a*(k*l*w):=xB R [a,k,l,b,v,w] (.mul (.mul (.v 1) (.v 0)) (.mul (.v 2) (.v 5))) (.mul (.v 0) (.mul (.mul (.v 1) (.v 2)) (.v 5))) rfl
theorem z64 (R:IsRing K) (D a b c d:K):a*c + D*(-b*-d)=a*c + D*(b*d):=xB R [D,a,b,c,d] (.add (.mul (.v 1) (.v 3)) (.mul (.v 0) (.mul (.neg (.v 2)) (.neg (.v 4))))) (.add (.mul (.v 1) (.v 3)) (.mul (.v 0) (.mul (.v 2) (.v 4)))) rfl
theorem z71 (R:IsRing K) (a b c d:K):a*-d + -b*c=-(a*d + b*c):=xB R [a,b,c,d] (.add (.mul (.v 0) (.neg (.v 3))) (.mul (.neg (.v 1)) (.v 2))) (.neg (.add (.mul (.v 0) (.v 3)) (.mul (.v 1) (.v 2)))) rfl
theorem z74 (R:IsRing K) (D a b:K):a*a + D*(b*-b)=a*a + -(D*(b*b)):=xB R [D,a,b] (.add (.mul (.v 1) (.v 1)) (.mul (.v 0) (.mul (.v 2) (.neg (.v 2))))) (.add (.mul (.v 1) (.v 1)) (.neg (.mul (.v 0) (.mul (.v 2) (.v 2))))) rfl
theorem z63 (R:IsRing K) (a b:K):a*-b + b*a=0:=xB R [a,b] (.add (.mul (.v 0) (.neg (.v 1))) (.mul (.v 1) (.v 0))) .z rfl
theorem z5m (R:IsRing K) (D a b c d:K):(a*c + D*(b*d))*(a*c + D*(b*d)) + -(D*((a*d + b*c)*(a*d + b*c)))=(a*a + -(D*(b*b)))*(c*c + -(D*(d*d))):=xB R [D,a,b,c,d] (.add (.mul (.add (.mul (.v 1) (.v 3)) (.mul (.v 0) (.mul (.v 2) (.v 4)))) (.add (.mul (.v 1) (.v 3)) (.mul (.v 0) (.mul (.v 2) (.v 4))))) (.neg (.mul (.v 0) (.mul (.add (.mul (.v 1) (.v 4)) (.mul (.v 2) (.v 3))) (.add (.mul (.v 1) (.v 4)) (.mul (.v 2) (.v 3))))))) (.mul (.add (.mul (.v 1) (.v 1)) (.neg (.mul (.v 0) (.mul (.v 2) (.v 2))))) (.add (.mul (.v 3) (.v 3)) (.neg (.mul (.v 0) (.mul (.v 4) (.v 4)))))) rfl
theorem z6c (R:IsRing K) (b c:K):b + c + -(c + -b)=b + b:=xB R [b,c] (.add (.add (.v 0) (.v 1)) (.neg (.add (.v 1) (.neg (.v 0))))) (.add (.v 0) (.v 0)) rfl
theorem z6q (R:IsRing K) (a b c v w:K):b*(b*w + a*-v) + (b*b + -(a*c))*(-1*w)=a*(-b*v + c*w):=xB R [a,b,c,v,w] (.add (.mul (.v 1) (.add (.mul (.v 1) (.v 4)) (.mul (.v 0) (.neg (.v 3))))) (.mul (.add (.mul (.v 1) (.v 1)) (.neg (.mul (.v 0) (.v 2)))) (.mul (.neg .o) (.v 4)))) (.mul (.v 0) (.add (.mul (.neg (.v 1)) (.v 3)) (.mul (.v 2) (.v 4)))) rfl
theorem z53 (R:IsRing K) (a b v w:K):b*w + -1*(b*w + a*-v)=a*v:=xB R [a,b,v,w] (.add (.mul (.v 1) (.v 3)) (.mul (.neg .o) (.add (.mul (.v 1) (.v 3)) (.mul (.v 0) (.neg (.v 2)))))) (.mul (.v 0) (.v 2)) rfl
theorem z4w (R:IsRing K) (u b v:K):u=b*v + 1*(u + -(b*v)):=xB R [u,b,v] (.v 0) (.add (.mul (.v 1) (.v 2)) (.mul .o (.add (.v 0) (.neg (.mul (.v 1) (.v 2)))))) rfl
theorem z0y (R:IsRing K) (a b v w:K):b*-v + a*w=-b*v + a*w:=xB R [a,b,v,w] (.add (.mul (.v 1) (.neg (.v 2))) (.mul (.v 0) (.v 3))) (.add (.mul (.neg (.v 1)) (.v 2)) (.mul (.v 0) (.v 3))) rfl
theorem z5a (R:IsRing K) (w a b c d e f x y m n:K):w*(a*(c*(e*x + f*y) + d*m) + b*n)=w*(a*(c*e))*x + w*(a*(c*f))*y + w*(a*d)*m + w*b*n:=xB R [w,a,b,c,d,e,f,x,y,m,n] (.mul (.v 0) (.add (.mul (.v 1) (.add (.mul (.v 3) (.add (.mul (.v 5) (.v 7)) (.mul (.v 6) (.v 8)))) (.mul (.v 4) (.v 9)))) (.mul (.v 2) (.v 10)))) (.add (.add (.add (.mul (.mul (.v 0) (.mul (.v 1) (.mul (.v 3) (.v 5)))) (.v 7)) (.mul (.mul (.v 0) (.mul (.v 1) (.mul (.v 3) (.v 6)))) (.v 8))) (.mul (.mul (.v 0) (.mul (.v 1) (.v 4))) (.v 9))) (.mul (.mul (.v 0) (.v 2)) (.v 10))) rfl
theorem z3c (R:IsRing K) (x y z w p:K):y*x*(y*x) + -(z*x*p*(w*x))=(y*y + -(z*p*w))*(x*x):=xB R [x,y,z,w,p] (.add (.mul (.mul (.v 1) (.v 0)) (.mul (.v 1) (.v 0))) (.neg (.mul (.mul (.mul (.v 2) (.v 0)) (.v 4)) (.mul (.v 3) (.v 0))))) (.mul (.add (.mul (.v 1) (.v 1)) (.neg (.mul (.mul (.v 2) (.v 4)) (.v 3)))) (.mul (.v 0) (.v 0))) rfl
variable (R:IsRing K) {D:K}
include R
/-- One step of reduction. -/
theorem z4z {a b c:K} (h:b*b + -D=a*c):Sc (⟨b,-1⟩:Qd D) (FI D a b)=Sc (⟨a,0⟩:Qd D) (FI D c (-b)):=by
 have hD:=D_of R h
 refine zaj (fun x hx=>?_) (fun x hx=>?_)
 ·obtain ⟨⟨u,v⟩,⟨w,hw⟩,rfl⟩:=hx
  simp only at hw
  refine ⟨⟨b*w + c*v,-w⟩,⟨v,z6s R b c v w⟩,nG ?_ ?_⟩
  ·show b*u + D*(-1*v)=a*(b*w + c*v) + D*(0*-w)
   rw [zqp R D a _ (-w),hw,← z54 R a b c v w]
   exact congrArg (b*(b*v + a*w) + ·*(-1*v)) hD
  ·show b*v + -1*u=a*-w + 0*(b*w + c*v)
   rw [R.zero_mul,R.add_zero,hw]
   exact z6j R a b v w
 ·obtain ⟨⟨u,v⟩,⟨w,hw⟩,rfl⟩:=hx
  simp only at hw
  refine ⟨⟨b*w + a*-v,w⟩,⟨-v,rfl⟩,nG ?_ ?_⟩
  ·show a*u + D*(0*v)=b*(b*w + a*-v) + D*(-1*w)
   rw [zqp R D a _ v,hw,hD]
   exact (z6q R a b c v w).symm
  ·show a*v + 0*u=b*w + -1*(b*w + a*-v)
   rw [R.zero_mul,R.add_zero]
   exact (z53 R a b v w).symm
theorem z4o (a b q:K):FI D a (b + a*q)=FI D a b:=zaj (fun x hx=>by
 obtain ⟨w,hw⟩:=hx
 exact ⟨_,hw.trans (zy2 R a b q x.v w)⟩) (fun x hx=>by
 obtain ⟨w,hw⟩:=hx
 exact ⟨_,hw.trans (z1c R a b q x.v w)⟩)
theorem zw9 (a b:K) {k l:K} (h:k*l=1):FI D (k*a) b=FI D a b:=zaj (fun x hx=>by
 obtain ⟨w,hw⟩:=hx
 refine ⟨k*w,hw.trans ?_⟩
 rw [R.mul_comm k a,R.mul_assoc]) (fun x hx=>by
 obtain ⟨w,hw⟩:=hx
 refine ⟨l*w,hw.trans ?_⟩
 rw [z3f R a k l b x.v w,h,R.one_mul])
theorem zsl (b:K):FI D 1 b=fun _=>True:=zaj (fun _ _=>trivial) (fun x _=>⟨x.u + -(b*x.v),z4w R x.u b x.v⟩)

omit R in
def cj (x:Qd D):Qd D:=⟨x.u,-x.v⟩
theorem zse (x:Qd D):cj (cj x)=x:=nG rfl (R.neg_neg _)
theorem zxf (x y:Qd D):cj (x*y)=cj x*cj y:=nG (z64 R D x.u x.v y.u y.v).symm (z71 R x.u x.v y.u y.v).symm
theorem z4y (x y:Qd D):cj (x + y)=cj x + cj y:=nG rfl (R.neg_add' _ _)
theorem z2v:cj (0:Qd D)=0:=nG rfl R.neg_zero
omit R in
def Cj (S:Qd D→Prop) (x:Qd D):Prop:=S (cj x)
theorem z39 (a b:K):Cj (FI D a b)=FI D a (-b):=zaj (fun x hx=>by
 obtain ⟨w,hw⟩:=hx
 exact ⟨w,hw.trans (z0y R a b x.v w)⟩) (fun x hx=>by
 obtain ⟨w,hw⟩:=hx
 exact ⟨w,hw.trans (z0y R a b x.v w).symm⟩)
theorem z6e (S T:Qd D→Prop):Cj (Pr S T)=Pr (Cj S) (Cj T):=by
 have one:∀ (S T:Qd D→Prop) x,Pr S T x→Pr (Cj S) (Cj T) (cj x):=fun S T x h=>by
  induction h with
  | zero=>rw [z2v R]; exact .zero
  | cons hs ht _ ih =>
   rw [z4y R,zxf R]
   exact .cons (by show _; unfold Cj; rw [zse R]; exact hs) (by show _; unfold Cj; rw [zse R]; exact ht) ih
 refine zaj (fun x hx=>?_) (fun x hx=>?_)
 ·have:=one S T _ hx
  rwa [zse R] at this
 ·have h:=one _ _ _ hx
  have e:∀ S:Qd D→Prop,Cj (Cj S)=S:=fun S=>funext fun x=>by unfold Cj; rw [zse R]
  rw [e,e] at h
  exact h
theorem z6o (a:Qd D):Cj (Sc a fun _=>True)=Sc (cj a) fun _=>True:=zaj (fun x hx=>by
 obtain ⟨y,_,hy⟩:=hx
 exact ⟨cj y,trivial,by rw [← zxf R,← hy,zse R]⟩) (fun x hx=>by
 obtain ⟨y,_,hy⟩:=hx
 exact ⟨cj y,trivial,by rw [hy,zxf R,zse R]⟩)
omit R in
def nm (x:Qd D):K:=x.u*x.u + -(D*(x.v*x.v))
theorem z51 (x:Qd D):x*cj x=⟨nm x,0⟩:=nG (z74 R D x.u x.v) (z63 R x.u x.v)
theorem z3z (x y:Qd D):nm (x*y)=nm x*nm y:=z5m R D x.u x.v y.u y.v
end
end Go.Abs
/- Plain facts on arrays of 64 numbers. -/
namespace Go.Abs

abbrev V64:=Vec Int 64
def yP (l:List Int):V64:=⟨(List.range 64).map fun j=>l.getD j 0,by simp⟩

theorem zl8 (l:List Int) {j:Nat} (h:j < 64):rd (yP l).1 j=l.getD j 0:=by
 simp [rd,yP,h]
theorem ze7 {n:Nat} {a b:Vec Int n} (h:∀ j,j < n→rd a.1 j=rd b.1 j):a=b:=by
 apply Subtype.ext
 apply List.ext_getElem
 ·rw [a.2,b.2]
 ·intro j h1 h2
  have:=h j (by rw [a.2] at h1; exact h1)
  simpa [rd,h1,h2] using this
theorem zbc {n:Nat} (a:Vec Int n) (i j:Nat) (d:Int) (hi:i < n):rd (yO a i d).1 j=if j=i then d else rd a.1 j:=by
 have hl:i < a.1.length:=by rw [a.2]; exact hi
 by_cases h:j=i
 ·subst h; simp [rd,yO,hl]
 ·rw [if_neg h]
  simp [rd,yO,Ne.symm h]
theorem zgw {n:Nat} (j:Nat) (h:j < n):rd (yH n (0:Int)).1 j=0:=by
 simp [rd,yH,h]
theorem zb7:yP []=yH 64 0:=ze7 fun j h=>by rw [zl8 _ h,zgw _ h]; simp
theorem zyx (l:List Int) (d:Int) (h:l.length < 64):yO (yP l) l.length d=yP (l ++ [d]):=by
 refine ze7 fun j hj=>?_
 rw [zbc _ _ _ _ h,zl8 _ hj,zl8 _ hj]
 by_cases e:j=l.length
 ·subst e; simp
 ·rw [if_neg e]
  rcases Nat.lt_or_ge j l.length with h1 | h1
  ·simp [h1,List.getElem?_append]
  ·have h2:l.length < j:=by omega
   have h3:(l ++ [d]).length≤j:=by simp; omega
   rw [List.getD_eq_getElem?_getD,List.getD_eq_getElem?_getD,List.getElem?_eq_none h1,List.getElem?_eq_none h3]

theorem zug (l k:List Int) (j:Nat):(l ++ k).getD j 0=if j < l.length then l.getD j 0 else k.getD (j - l.length) 0:=by
 simp only [List.getD_eq_getElem?_getD,List.getElem?_append]
 split <;> rfl

/-- Bytes. -/
def Bytes (l:List Int):Prop:=∀ d∈l,0≤d∧d < 256
end Go.Abs
/- Polynomials: coefficient functions, and rows of coefficients up to the leading one. -/
namespace Go.Abs

/-! How far a row reaches. -/
def top (g:Nat→Int):Nat→Nat
 | 0=>0
 | n + 1=>if g n=0 then top g n else n + 1
theorem zeu (g:Nat→Int):∀ n,top g n≤n
 | 0=>Nat.le_refl _
 | n + 1=>by simp only [top]; split; exact Nat.le_succ_of_le (zeu g n); exact Nat.le_refl _
theorem znf (g:Nat→Int):∀ n i,top g n≤i→i < n→g i=0
 | 0,i,_,h=>by omega
 | n + 1,i,h1,h2=>by
  simp only [top] at h1
  split at h1
  ·rename_i e
   by_cases hi:i=n
   ·subst hi; exact e
   ·exact znf g n i h1 (by omega)
  ·omega
theorem zqg (g:Nat→Int):∀ n,top g n ≠ 0→g (top g n - 1) ≠ 0
 | 0,h=>by simp [top] at h
 | n + 1,h=>by
  simp only [top] at h ⊢
  split
  ·rename_i e; rw [if_pos e] at h; exact zqg g n h
  ·rename_i e; simpa using e
theorem zf1 {f g:Nat→Int}:∀ n,(∀ i,i < n→f i=g i)→top f n=top g n
 | 0,_=>rfl
 | n + 1,h=>by simp only [top]; rw [h n (by omega),zf1 n fun i hi=>h i (by omega)]
/-- The leading place is told by what stands there and behind. -/
theorem zs1 {g:Nat→Int} {n k:Nat} (hk:k≤n) (hz:∀ i,k≤i→i < n→g i=0) (hl:k ≠ 0→g (k - 1) ≠ 0):top g n=k:=by
 rcases Nat.lt_trichotomy (top g n) k with h | h | h
 ·have:=znf g n (k - 1) (by omega) (by omega)
  exact absurd this (hl (by omega))
 ·exact h
 ·have h1:=zqg g n (by omega)
  have h2:=zeu g n
  exact absurd (hz (top g n - 1) (by omega) (by omega)) h1
/-! Reading rows. -/
theorem zts (i:Nat):rd ([]:List Int) i=0:=by simp [rd]
theorem zmv {l:List Int} {i:Nat} (h:i < l.length):rd l i=l[i]:=by simp [rd,h]
theorem vS {l:List Int} {i:Nat} (h:l.length≤i):rd l i=0:=by simp [rd,h]
theorem z12 {l:List Int} {i:Nat} (h:i < l.length):rd l i∈l:=by rw [zmv h]; exact List.getElem_mem _
theorem zqb {a b:List Int} (hl:a.length=b.length) (h:∀ i,i < a.length→rd a i=rd b i):a=b:=by
 apply List.ext_getElem hl
 intro i h1 h2
 have:=h i h1
 rwa [zmv h1,zmv h2] at this
theorem zx9 (l:List Int) (k i:Nat):rd (l.take k) i=if i < k then rd l i else 0:=by
 by_cases h:i < k
 ·rw [if_pos h]
  by_cases hl:i < l.length
  ·rw [zmv (by simp; omega),zmv hl]; simp
  ·rw [vS (by simp; omega),vS (by omega)]
 ·rw [if_neg h,vS (by simp; omega)]
theorem znt (l:List Int) (k:Nat) (d:Int) (i:Nat) (hk:k < l.length):rd (l.set k d) i=if i=k then d else rd l i:=by
 by_cases h:i=k
 ·subst h; simp [rd,hk]
 ·rw [if_neg h]; simp [rd,Ne.symm h]
theorem z1n (n i:Nat):rd (List.replicate n (0:Int)) i=0:=by
 by_cases h:i < n
 ·rw [zmv (by simpa using h)]; simp
 ·rw [vS (by simp; omega)]
theorem uW (l:List Int) {j:Nat} (h:j < 64):rd (yP l).1 j=rd l j:=by rw [zl8 _ h]; rfl
theorem z14 {f:Nat→Int} (n i:Nat):rd ((List.range n).map f) i=if i < n then f i else 0:=by
 by_cases h:i < n
 ·rw [if_pos h,zmv (by simpa using h)]; simp
 ·rw [if_neg h,vS (by simp; omega)]

/-! Rows of functions. -/
def ofF (n:Nat) (f:Nat→Int):List Int:=(List.range (top f n)).map f
theorem zbi (n:Nat) (f:Nat→Int):(ofF n f).length=top f n:=by simp [ofF]
theorem znu {n:Nat} {f:Nat→Int} (hz:∀ i,n≤i→f i=0) (i:Nat):rd (ofF n f) i=f i:=by
 rw [ofF,z14]
 split
 ·rfl
 ·by_cases h:i < n
  ·exact (znf f n i (by omega) h).symm
  ·exact (hz i (by omega)).symm
theorem ziv {n:Nat} {f:Nat→Int} (i:Nat):rd (ofF n f) i=if i < n then f i else 0:=by
 rw [ofF,z14]
 have:=zeu f n
 by_cases h:i < n
 ·rw [if_pos h]
  split
  ·rfl
  ·exact (znf f n i (by omega) h).symm
 ·rw [if_neg h,if_neg (by omega)]
theorem zf0 {n:Nat} {f g:Nat→Int} (h:∀ i,i < n→f i=g i):ofF n f=ofF n g:=by
 have e:=zf1 n h
 have:=zeu g n
 refine zqb (by rw [zbi,zbi,e]) fun i hi=>?_
 rw [ziv,ziv]
 split
 ·exact h i (by assumption)
 ·rfl
/-- A list without the zeros at its end. -/
theorem zpd (l:List Int):l.take (top (rd l) l.length)=ofF l.length (rd l):=by
 have:=zeu (rd l) l.length
 refine zqb (by rw [zbi]; simp; omega) fun i hi=>?_
 rw [zx9,ziv]
 simp at hi
 rw [if_pos (by omega),if_pos (by omega)]

/-- The coefficients of a polynomial modulo p, up to the leading one. -/
structure Row (p:Int) (l:List Int):Prop where
 res:∀ d∈l,0≤d∧d < p
 nrm:l.length ≠ 0→rd l (l.length - 1) ≠ 0
theorem Row.rd {p:Int} {l:List Int} (h:Row p l) (hp:0 < p) (i:Nat):0≤rd l i∧rd l i < p:=by
 by_cases hi:i < l.length
 ·exact h.res _ (z12 hi)
 ·rw [vS (by omega)]; exact ⟨Int.le_refl _,hp⟩
theorem Row.bytes {p:Int} {l:List Int} (h:Row p l) (hp:p≤256):Bytes l:=fun d hd=>by have:=h.res d hd; omega
theorem zc1 (p:Int):Row p []:=⟨by simp,by simp⟩
theorem zg8 {p q:Int} {a b:List Int} (ha:Row p a) (hb:Row q b) (h:∀ i,rd a i=rd b i):a=b:=by
 have hl:a.length=b.length:=by
  rcases Nat.lt_trichotomy a.length b.length with h1 | h1 | h1
  ·have:=hb.nrm (by omega)
   rw [← h,vS (by omega)] at this
   exact absurd rfl this
  ·exact h1
  ·have:=ha.nrm (by omega)
   rw [h,vS (by omega)] at this
   exact absurd rfl this
 exact zqb hl fun i _=>h i
theorem zkp {p:Int} {n:Nat} {f:Nat→Int} (h:∀ i,i < n→0≤f i∧f i < p):Row p (ofF n f):=by
 have hle:=zeu f n
 refine ⟨fun d hd=>?_,fun hn=>?_⟩
 ·simp only [ofF,List.mem_map,List.mem_range] at hd
  obtain ⟨i,hi,rfl⟩:=hd
  exact h i (by omega)
 ·rw [zbi] at hn ⊢
  rw [ziv,if_pos (by omega)]
  exact zqg f n hn
theorem Row.top {p:Int} {l:List Int} (h:Row p l) {n:Nat} (hn:l.length≤n):top (Abs.rd l) n=l.length :=
 zs1 hn (fun i h1 _=>vS h1) h.nrm
theorem Row.ofF {p:Int} {l:List Int} (h:Row p l) {n:Nat} (hn:l.length≤n):ofF n (Abs.rd l)=l:=by
 refine zqb (by rw [zbi,h.top hn]) fun i hi=>?_
 rw [znu fun i hi=>vS (by omega)]
/-! Arrays and rows. -/
def row (v:V64):List Int:=ofF 64 (rd v.1)
/-- Coefficients from 0 to p - 1. -/
def Res (p:Int) (v:V64):Prop:=∀ j,j < 64→0≤rd v.1 j∧rd v.1 j < p
theorem zak {p:Int} {v:V64} (h:Res p v):Row p (row v):=zkp h
theorem jK (v:V64):(row v).length≤64:=by rw [row,zbi]; exact zeu _ _
theorem zfx (v:V64):yP (row v)=v:=ze7 fun j hj=>by rw [uW _ hj,row,ziv,if_pos hj]
theorem ze8 {p:Int} {l:List Int} (h:Row p l) (hl:l.length≤64):row (yP l)=l:=by
 rw [row,zf0 (g:=rd l) fun i hi=>uW l hi,h.ofF hl]
theorem za5 {p:Int} {l:List Int} (h:Row p l) (hp:0 < p):Res p (yP l):=fun j hj=>by rw [uW _ hj]; exact h.rd hp j
theorem zxu {p q:Int} {a b:List Int} (ha:Row p a) (hb:Row q b) (h1:a.length≤64) (h2:b.length≤64) (h:yP a=yP b):a=b:=by
 rw [← ze8 ha h1,← ze8 hb h2,h]

/-! Sums and products of coefficient functions. -/
def vE:Nat→(Nat→Int)→Int
 | 0,_=>0
 | n + 1,f=>vE n f + f n
theorem qW {f g:Nat→Int}:∀ n,(∀ i,i < n→f i=g i)→vE n f=vE n g
 | 0,_=>rfl
 | n + 1,h=>by simp only [vE]; rw [qW n fun i hi=>h i (by omega),h n (by omega)]
theorem zcq {f:Nat→Int}:∀ n,(∀ i,i < n→f i=0)→vE n f=0
 | 0,_=>rfl
 | n + 1,h=>by simp only [vE]; rw [zcq n fun i hi=>h i (by omega),h n (by omega)]; rfl
theorem zih {f:Nat→Int} {n:Nat}:∀ m,(∀ i,n≤i→i < n + m→f i=0)→vE (n + m) f=vE n f
 | 0,_=>rfl
 | m + 1,h=>by
  rw [← Nat.add_assoc]
  simp only [vE]
  rw [zih m fun i h1 h2=>h i h1 (by omega),h (n + m) (by omega) (by omega),Int.add_zero]
/-- The summand that the first n coefficients give to a product. -/
def cv (a b:Nat→Int) (n k:Nat):Int:=vE n fun i=>if i≤k then a i*b (k - i) else 0
theorem zm0 (a b:Nat→Int) (n k:Nat):cv a b (n + 1) k=cv a b n k + (if n≤k then a n*b (k - n) else 0):=rfl
def conv (a b:Nat→Int) (k:Nat):Int:=cv a b (k + 1) k
theorem zm4 {a b:Nat→Int} {n:Nat} (hz:∀ i,n≤i→a i=0) (k:Nat):cv a b n k=conv a b k:=by
 unfold conv cv
 rcases Nat.le_total n (k + 1) with h | h
 ·obtain ⟨m,e⟩:∃ m,k + 1=n + m:=⟨k + 1 - n,by omega⟩
  rw [e]
  refine (zih m fun i h1 h2=>?_).symm
  rw [hz i h1]; simp
 ·obtain ⟨m,rfl⟩:∃ m,n=k + 1 + m:=⟨n - (k + 1),by omega⟩
  exact zih m fun i h1 h2=>if_neg (by omega)
theorem zr8 {a b:Nat→Int} {n m:Nat} (ha:∀ i,n≤i→a i=0) (hb:∀ i,m≤i→b i=0) {k:Nat} (hk:n + m≤k + 1):conv a b k=0:=by
 refine zcq _ fun i hi=>?_
 rw [if_pos (by omega)]
 by_cases h:i < n
 ·rw [hb (k - i) (by omega),Int.mul_zero]
 ·rw [ha i (by omega),Int.zero_mul]
/-- The leading coefficient of a product. -/
theorem znw {a b:Nat→Int} {n m:Nat} (ha:∀ i,n < i→a i=0) (hb:∀ i,m < i→b i=0):conv a b (n + m)=a n*b m:=by
 have h1:conv a b (n + m)=cv a b (n + 1) (n + m):=(zm4 (fun i hi=>ha i (by omega)) _).symm
 rw [h1]
 unfold cv
 simp only [vE]
 rw [zcq n fun i hi=>?_,if_pos (by omega),show n + m - n=m by omega,Int.zero_add]
 rw [if_pos (by omega),hb _ (by omega),Int.mul_zero]

/-! Operations on rows. -/
def zb8 (p:Int) (a b:List Int) (k:Int):List Int:=ofF (max a.length b.length) fun i=>(rd a i + k*rd b i) % p
def mul (p:Int) (a b:List Int):List Int:=ofF (a.length + b.length - 1) fun i=>conv (rd a) (rd b) i % p

theorem zao {p:Int} (hp:0 < p) (x:Int):0≤x % p∧x % p < p:=⟨Int.emod_nonneg _ (by omega),Int.emod_lt_of_pos _ hp⟩
theorem zbk {p:Int} (hp:0 < p) (a b:List Int) (k:Int):Row p (zb8 p a b k):=zkp fun _ _=>zao hp _
theorem zd8 {p:Int} (hp:0 < p) (a b:List Int):Row p (mul p a b):=zkp fun _ _=>zao hp _
theorem zfr (p:Int) (a b:List Int) (k:Int) (i:Nat):rd (zb8 p a b k) i=(rd a i + k*rd b i) % p:=by
 refine znu (fun i hi=>?_) i
 rw [vS (by omega),vS (by omega)]; simp
theorem zhp (p:Int) (a b:List Int) (i:Nat):rd (mul p a b) i=conv (rd a) (rd b) i % p:=by
 refine znu (fun i hi=>?_) i
 rw [zr8 (n:=a.length) (m:=b.length) (fun i hi=>vS hi) (fun i hi=>vS hi) (by omega)]; simp
theorem zdd (p:Int) (a b:List Int) (k:Int):(zb8 p a b k).length≤max a.length b.length:=by rw [zb8,zbi]; exact zeu _ _
theorem zm6 (p:Int) (a b:List Int):(mul p a b).length≤a.length + b.length - 1:=by rw [mul,zbi]; exact zeu _ _
theorem ztp (p:Int) (b:List Int):mul p [] b=[]:=by
 have h:∀ i,conv (rd []) (rd b) i=0:=fun i=>zcq _ fun j _=>by rw [zts]; simp
 have:(mul p [] b).length=0:=by
  rw [mul,zbi]
  exact zs1 (Nat.zero_le _) (fun i _ _=>by rw [h]; simp) (by simp)
 exact List.eq_nil_of_length_eq_zero this
theorem zu6 (p:Int) (a:List Int):mul p a []=[]:=by
 have h:∀ i,conv (rd a) (rd []) i=0:=fun i=>zcq _ fun j _=>by rw [zts]; simp
 have:(mul p a []).length=0:=by
  rw [mul,zbi]
  exact zs1 (Nat.zero_le _) (fun i _ _=>by rw [h]; simp) (by simp)
 exact List.eq_nil_of_length_eq_zero this

/-! Small primes. -/
def isP (p:Int):Bool:=p == 2 || p == 3 || p == 5 || p == 7
theorem zo7 {p:Int}:isP p=true ↔ p=2∨p=3∨p=5∨p=7:=by
 simp [isP,or_assoc]
theorem wU {p:Int} (h:isP p=true):2≤p∧p≤7:=by
 rcases zo7.1 h with rfl | rfl | rfl | rfl <;> omega
theorem z7f:∀ x y:Fin 2,x ≠ 0→y ≠ 0→(x.1*y.1) % 2 ≠ 0:=by decide
theorem z7n:∀ x y:Fin 3,x ≠ 0→y ≠ 0→(x.1*y.1) % 3 ≠ 0:=by decide
theorem z7a:∀ x y:Fin 5,x ≠ 0→y ≠ 0→(x.1*y.1) % 5 ≠ 0:=by decide
theorem z69:∀ x y:Fin 7,x ≠ 0→y ≠ 0→(x.1*y.1) % 7 ≠ 0:=by decide
theorem zs8 {n:Nat} (hn:0 < n) (h:∀ x y:Fin n,x.1 ≠ 0→y.1 ≠ 0→(x.1*y.1) % n ≠ 0) {x y:Int} (hx:0 < x∧x < n) (hy:0 < y∧y < n):x*y % n ≠ 0:=by
 obtain ⟨a,rfl⟩:∃ a:Nat,x=a:=⟨x.toNat,by omega⟩
 obtain ⟨b,rfl⟩:∃ b:Nat,y=b:=⟨y.toNat,by omega⟩
 have:=h ⟨a,by omega⟩ ⟨b,by omega⟩ (by simp; omega) (by simp; omega)
 simp only at this
 rw [← Int.natCast_mul,← Int.natCast_emod]
 omega
theorem noz {p:Int} (hp:isP p=true) {x y:Int} (hx:0≤x∧x < p) (hy:0≤y∧y < p) (h1:x ≠ 0) (h2:y ≠ 0):x*y % p ≠ 0:=by
 rcases zo7.1 hp with rfl | rfl | rfl | rfl
 ·exact zs8 (n:=2) (by omega) (fun x y a b=>z7f x y (fun e=>a (by rw [e]; rfl)) (fun e=>b (by rw [e]; rfl))) ⟨by omega,hx.2⟩ ⟨by omega,hy.2⟩
 ·exact zs8 (n:=3) (by omega) (fun x y a b=>z7n x y (fun e=>a (by rw [e]; rfl)) (fun e=>b (by rw [e]; rfl))) ⟨by omega,hx.2⟩ ⟨by omega,hy.2⟩
 ·exact zs8 (n:=5) (by omega) (fun x y a b=>z7a x y (fun e=>a (by rw [e]; rfl)) (fun e=>b (by rw [e]; rfl))) ⟨by omega,hx.2⟩ ⟨by omega,hy.2⟩
 ·exact zs8 (n:=7) (by omega) (fun x y a b=>z69 x y (fun e=>a (by rw [e]; rfl)) (fun e=>b (by rw [e]; rfl))) ⟨by omega,hx.2⟩ ⟨by omega,hy.2⟩
theorem zwu {p:Int} (hp:isP p=true) {a b:List Int} (ha:Row p a) (hb:Row p b) (h1:a.length ≠ 0) (h2:b.length ≠ 0):(mul p a b).length=a.length + b.length - 1:=by
 have hp2:=wU hp
 rw [mul,zbi]
 refine zs1 (Nat.le_refl _) (fun i h3 h4=>by omega) fun _=>?_
 have e:a.length + b.length - 1 - 1=(a.length - 1) + (b.length - 1):=by omega
 rw [e,znw (fun i hi=>vS (by omega)) (fun i hi=>vS (by omega))]
 exact noz hp (ha.rd (by omega) _) (hb.rd (by omega) _) (ha.nrm h1) (hb.nrm h2)
end Go.Abs
/- Polynomials modulo p are a ring: products go along with sums, in any order. -/
namespace Go.Abs

theorem zkq (f g:Nat→Int):∀ n,vE n (fun i=>f i + g i)=vE n f + vE n g
 | 0=>rfl
 | n + 1=>by simp only [vE,zkq f g n]; omega
theorem zh7 (c:Int) (f:Nat→Int):∀ n,vE n (fun i=>c*f i)=c*vE n f
 | 0=>by simp [vE]
 | n + 1=>by simp only [vE,zh7 c f n,Int.mul_add]
theorem zwd (c:Int) (f:Nat→Int) (n:Nat):vE n (fun i=>f i*c)=vE n f*c:=by
 rw [Int.mul_comm,← zh7]
 exact qW n fun i _=>Int.mul_comm _ _
theorem zqr (f:Nat→Nat→Int) (m:Nat):∀ n,vE n (fun i=>vE m (fun j=>f i j))=vE m (fun j=>vE n (fun i=>f i j))
 | 0=>(zcq m fun _ _=>rfl).symm
 | n + 1=>by simp only [vE]; rw [zqr f m n,← zkq]
/-- The first summand apart. -/
theorem zha (f:Nat→Int):∀ n,vE (n + 1) f=f 0 + vE n fun i=>f (i + 1)
 | 0=>by simp [vE]
 | n + 1=>by
  have:=zha f n
  simp only [vE] at this ⊢
  omega
theorem zrl (f:Nat→Int):∀ n,vE (n + 1) f=vE (n + 1) fun i=>f (n - i)
 | 0=>rfl
 | n + 1=>by
  rw [zha (fun i=>f (n + 1 - i)) (n + 1)]
  have h:=zrl f n
  have e:vE (n + 1) (fun i=>f (n + 1 - (i + 1)))=vE (n + 1) fun i=>f (n - i):=qW _ fun i _=>by rw [show n + 1 - (i + 1)=n - i by omega]
  rw [e,← h]
  simp only [vE,Nat.sub_zero]
  omega
/-- Summands from j on. -/
theorem zqa (g:Nat→Int) (j:Nat):∀ n,vE (j + n) (fun i=>if j≤i then g (i - j) else 0)=vE n g
 | 0=>by rw [Nat.add_zero]; exact zcq j fun i hi=>if_neg (by omega)
 | n + 1=>by
  rw [← Nat.add_assoc]
  simp only [vE]
  rw [zqa g j n,if_pos (by omega),show j + n - j=n by omega]

theorem z3e (a b:Nat→Int) {n k:Nat} (h:k + 1≤n):cv a b n k=conv a b k:=by
 obtain ⟨m,rfl⟩:∃ m,n=k + 1 + m:=⟨n - (k + 1),by omega⟩
 exact zih m fun i h1 _=>if_neg (by omega)
theorem zro (a b:Nat→Int) (k:Nat):conv a b k=conv b a k:=by
 unfold conv cv
 rw [zrl]
 refine qW _ fun i hi=>?_
 rw [if_pos (by omega),if_pos (by omega),show k - (k - i)=i by omega,Int.mul_comm]
theorem zwg (a b c:Nat→Int) (k:Nat):conv (conv a b) c k=conv a (conv b c) k:=by
 have h1:conv (conv a b) c k=vE (k + 1) fun i=>vE (k + 1) fun j=>(if j≤i then a j*b (i - j) else 0)*c (k - i):=by
  unfold conv
  refine qW _ fun i hi=>?_
  rw [if_pos (by omega),zwd]
  congr 1
  exact (z3e a b (n:=k + 1) (by omega)).symm
 have h2:conv a (conv b c) k=vE (k + 1) fun j=>a j*vE (k + 1 - j) fun l=>b l*c (k - j - l):=by
  unfold conv
  refine qW _ fun j hj=>?_
  rw [if_pos (by omega)]
  congr 1
  show vE (k - j + 1) (fun i=>if i≤k - j then b i*c (k - j - i) else 0)=_
  rw [show k - j + 1=k + 1 - j by omega]
  exact qW _ fun l hl=>if_pos (by omega)
 rw [h1,h2,zqr]
 refine qW _ fun j hj=>?_
 rw [← zh7,← zqa (fun l=>a j*(b l*c (k - j - l))) j (k + 1 - j),show j + (k + 1 - j)=k + 1 by omega]
 refine qW _ fun i hi=>?_
 by_cases h:j≤i
 ·rw [if_pos h,if_pos h,show k - j - (i - j)=k - i by omega,Int.mul_assoc]
 ·rw [if_neg h,if_neg h,Int.zero_mul]
theorem zza (a b c:Nat→Int) (s:Int) (k:Nat):conv (fun i=>a i + s*b i) c k=conv a c k + s*conv b c k:=by
 unfold conv cv
 rw [← zh7,← zkq]
 refine qW _ fun i _=>?_
 split
 ·rw [Int.add_mul,Int.mul_assoc]
 ·simp

/-! Modulo p. -/
theorem zr2 {p:Int} {f g:Nat→Int}:∀ n,(∀ i,i < n→f i % p=g i % p)→vE n f % p=vE n g % p
 | 0,_=>rfl
 | n + 1,h=>by
  simp only [vE]
  rw [Int.add_emod,zr2 n fun i hi=>h i (by omega),h n (by omega),← Int.add_emod]
theorem zj6 {p:Int} {a a' b b':Nat→Int} (ha:∀ i,a i % p=a' i % p) (hb:∀ i,b i % p=b' i % p) (k:Nat):conv a b k % p=conv a' b' k % p:=by
 refine zr2 _ fun i _=>?_
 split
 ·rw [Int.mul_emod,ha,hb,← Int.mul_emod]
 ·rfl
theorem Row.mod {p:Int} {l:List Int} (h:Row p l) (hp:0 < p) (i:Nat):Abs.rd l i % p=Abs.rd l i:=Int.emod_eq_of_lt (h.rd hp i).1 (h.rd hp i).2

theorem zko (p:Int) (a b:List Int):mul p a b=mul p b a:=by
 unfold mul
 rw [Nat.add_comm]
 exact zf0 fun i _=>by rw [zro]
theorem zwm {p:Int} (hp:0 < p) (a b c:List Int):mul p (mul p a b) c=mul p a (mul p b c):=by
 refine zg8 (zd8 hp _ _) (zd8 hp _ _) fun i=>?_
 rw [zhp,zhp]
 rw [zj6 (a':=conv (rd a) (rd b)) (b':=rd c) (fun j=>by rw [zhp,Int.emod_emod]) (fun _=>rfl),zwg]
 exact zj6 (fun _=>rfl) (fun j=>by rw [zhp,Int.emod_emod]) i
theorem z1l (a:Nat→Int) (i:Nat):conv a (rd [1]) i=a i:=by
 rw [zro]
 unfold conv cv
 rw [zha,if_pos (by omega),zcq i fun j hj=>?_]
 ·simp [rd]
 ·rw [show rd ([1]:List Int) (j + 1)=0 from vS (by simp)]; simp
theorem zz8 {p:Int} (hp:0 < p) {a:List Int} (ha:Row p a):mul p a [1]=a :=
 zg8 (zd8 hp _ _) ha fun i=>by rw [zhp,z1l,ha.mod hp]
theorem z0r {p:Int} (hp:0 < p) (a b c:List Int) (k:Int):mul p (zb8 p a b k) c=zb8 p (mul p a c) (mul p b c) k:=by
 refine zg8 (zd8 hp _ _) (zbk hp _ _ _) fun i=>?_
 rw [zhp,zfr,zhp,zhp,zj6 (a':=fun i=>rd a i + k*rd b i) (b':=rd c) (fun j=>by rw [zfr,Int.emod_emod]) (fun _=>rfl),zza]
 rw [Int.add_emod (conv (rd a) (rd c) i % p),Int.emod_emod,Int.mul_emod k (conv (rd b) (rd c) i % p),Int.emod_emod,← Int.mul_emod,← Int.add_emod]
theorem zz9 {p:Int} (hp:0 < p) (a b c:List Int) (k:Int):mul p c (zb8 p a b k)=zb8 p (mul p c a) (mul p c b) k:=by
 rw [zko,z0r hp,zko p a,zko p b]
/-! Products of lists, as long as their degrees are not too great. -/
def z7v:List (List Int)→Nat
 | []=>0
 | b :: M=>(b.length - 1) + z7v M
def z75 (p:Int) (o:List Int) (M:List (List Int)):List Int:=M.foldl (mul p) o
end Go.Abs
/- Numbers modulo p. -/
namespace Go.Proofs.YtebfhlnfmkhmcaaGreat
open Go.Abs

theorem zme {n p:Int} (hp:0 < p):Int.tmod (Int.tmod n p + p) p=n % p:=by
 have h1:=Int.lt_tmod_of_pos n hp
 rw [Int.tmod_eq_emod_of_nonneg (by omega),Int.tmod_def,Int.add_emod_right,Int.sub_mul_emod_self_left]

/-- Numbers that are uM. -/
def Ent (l:List Int):Prop:=∀ i,0≤rd l i∧rd l i < 256

theorem _root_.Go.Abs.Row.ent {p:Int} {l:List Int} (h:Row p l) (hp:0 < p∧p≤256):Ent l:=fun i=>by have:=h.rd hp.1 i; omega

def V64.Ent (v:V64):Prop:=∀ i,i < 64→0≤rd v.1 i∧rd v.1 i < 256

theorem z6m {x k:Int} (hx:0≤x∧x < 256) (hk:-1099511627776≤k∧k≤1099511627776):-281474976710656≤k*x∧k*x≤281474976710656:=by
 have h1:(-1099511627776)*x≤k*x:=Int.mul_le_mul_of_nonneg_right hk.1 hx.1
 have h2:k*x≤1099511627776*x:=Int.mul_le_mul_of_nonneg_right hk.2 hx.1
 omega

theorem _root_.Go.Abs.Res.ent {p:Int} {v:V64} (h:Res p v) (hp:p≤256):V64.Ent v:=fun i hi=>by have:=h i hi; omega

theorem zym {p:Int} {l:List Int} (h:Row p l) (hp:0 < p∧p≤256):V64.Ent (yP l):=Res.ent (za5 h hp.1) hp.2

theorem mJ {x y:Int} (hx:0≤x∧x < 256) (hy:0≤y∧y < 256):0≤x*y∧x*y≤65025 :=
 ⟨Int.mul_nonneg hx.1 hy.1,Int.mul_le_mul (c:=255) (d:=255) (by omega) (by omega) hy.1 (by omega)⟩
end Go.Proofs.YtebfhlnfmkhmcaaGreat
/- Inverses modulo p. -/
namespace Go.Proofs.YtebfhlnfmkhmcaaGreat
open Go.Abs

/-- The inverse of x modulo p. -/
def inv (p x:Int):Int:=if p=2 then 1 else if p=3 then x else if p=5 then (if x=1 then 1 else if x=2 then 3 else if x=3 then 2 else 4) else (if x=1 then 1 else if x=2 then 4 else if x=3 then 5 else if x=4 then 2 else if x=5 then 3 else 6)
theorem zod {p x:Int} (hp:isP p=true) (hx:0 < x∧x < p):(p=2∧x=1)∨(p=3∧x=1)∨(p=3∧x=2)∨(p=5∧x=1)∨(p=5∧x=2)∨(p=5∧x=3)∨(p=5∧x=4) ∨
  (p=7∧x=1)∨(p=7∧x=2)∨(p=7∧x=3)∨(p=7∧x=4)∨(p=7∧x=5)∨(p=7∧x=6):=by
 rcases zo7.1 hp with rfl | rfl | rfl | rfl <;> omega
theorem zet {p x:Int} (hp:isP p=true) (hx:0 < x∧x < p):0 < inv p x∧inv p x < p∧x*inv p x % p=1:=by
 rcases zod hp hx with ⟨rfl,rfl⟩ | ⟨rfl,rfl⟩ | ⟨rfl,rfl⟩ | ⟨rfl,rfl⟩ | ⟨rfl,rfl⟩ | ⟨rfl,rfl⟩ | ⟨rfl,rfl⟩ | ⟨rfl,rfl⟩ | ⟨rfl,rfl⟩ | ⟨rfl,rfl⟩ | ⟨rfl,rfl⟩ | ⟨rfl,rfl⟩ | ⟨rfl,rfl⟩ <;> decide
theorem zyz {p x:Int} (hp:isP p=true) (hx:0 < x∧x < p) {j:Int} (h1:1≤j) (h2:j < inv p x):j*x % p ≠ 1:=by
 rcases zod hp hx with ⟨rfl,rfl⟩ | ⟨rfl,rfl⟩ | ⟨rfl,rfl⟩ | ⟨rfl,rfl⟩ | ⟨rfl,rfl⟩ | ⟨rfl,rfl⟩ | ⟨rfl,rfl⟩ | ⟨rfl,rfl⟩ | ⟨rfl,rfl⟩ | ⟨rfl,rfl⟩ | ⟨rfl,rfl⟩ | ⟨rfl,rfl⟩ | ⟨rfl,rfl⟩ <;> simp [inv] at h2 <;> omega
theorem z34 {p x:Int} (hp:isP p=true) (hx:0 < x∧x < p):x ^ (p - 2).toNat % p=inv p x:=by
 rcases zod hp hx with ⟨rfl,rfl⟩ | ⟨rfl,rfl⟩ | ⟨rfl,rfl⟩ | ⟨rfl,rfl⟩ | ⟨rfl,rfl⟩ | ⟨rfl,rfl⟩ | ⟨rfl,rfl⟩ | ⟨rfl,rfl⟩ | ⟨rfl,rfl⟩ | ⟨rfl,rfl⟩ | ⟨rfl,rfl⟩ | ⟨rfl,rfl⟩ | ⟨rfl,rfl⟩ <;> decide
end Go.Proofs.YtebfhlnfmkhmcaaGreat
/- Division of polynomials, from the leading coefficient on. -/
namespace Go.Proofs.YtebfhlnfmkhmcaaGreat
open Go.Abs

def zcp (p:Int) (b:Nat→Int) (m:Nat) (f:Int) (i:Nat) (r:Nat→Int) (j:Nat):Int:=if i≤j∧j≤i + m then (r j - f*b (j - i)) % p else r j
def zhy (p iv:Int) (m i:Nat) (r:Nat→Int):Int:=r (i + m)*iv % p
def znx (p:Int) (b:Nat→Int) (m:Nat) (iv:Int):Nat→(Nat→Int)→Nat→Int
 | 0,r=>r
 | i + 1,r=>znx p b m iv i (zcp p b m (zhy p iv m i r) i r)
def zh4 (p:Int) (b:Nat→Int) (m:Nat) (iv:Int):Nat→(Nat→Int)→Nat→Int
 | 0,_,_=>0
 | i + 1,r,j=>if j=i then zhy p iv m i r else zh4 p b m iv i (zcp p b m (zhy p iv m i r) i r) j
def wG (b:List Int):Int:=rd b (b.length - 1)
def quo (p:Int) (a b:List Int):List Int:=ofF (a.length + 1 - b.length) (zh4 p (rd b) (b.length - 1) (inv p (wG b)) (a.length + 1 - b.length) (rd a))
def rem (p:Int) (a b:List Int):List Int:=ofF a.length (znx p (rd b) (b.length - 1) (inv p (wG b)) (a.length + 1 - b.length) (rd a))

section
variable {p:Int} {b:Nat→Int} {m:Nat} {iv:Int}
theorem znn (hp:0 < p) {r:Nat→Int} (hr:∀ j,0≤r j∧r j < p) (f:Int) (i j:Nat):0≤zcp p b m f i r j∧zcp p b m f i r j < p:=by
 unfold zcp
 split
 ·exact zao hp _
 ·exact hr j
theorem zui (hp:0 < p):∀ (i:Nat) (r:Nat→Int),(∀ j,0≤r j∧r j < p)→∀ j,0≤znx p b m iv i r j∧znx p b m iv i r j < p
 | 0,r,hr,j=>hr j
 | i + 1,r,hr,j=>zui hp i _ (fun j=>znn hp hr _ i j) j
theorem zt3 (hp:0 < p):∀ (i:Nat) (r:Nat→Int) (j:Nat),0≤zh4 p b m iv i r j∧zh4 p b m iv i r j < p
 | 0,r,j=>by simp only [zh4]; omega
 | i + 1,r,j=>by
  simp only [zh4]
  split
  ·exact zao hp _
  ·exact zt3 hp i _ j
theorem zsr:∀ (i:Nat) (r:Nat→Int) (j:Nat),i≤j→zh4 p b m iv i r j=0
 | 0,_,_,_=>rfl
 | i + 1,r,j,h=>by
  simp only [zh4]
  rw [if_neg (by omega)]
  exact zsr i _ j (by omega)
theorem zuc {f g c:Nat→Int} (k:Nat):∀ n,(∀ i,i < n→f i=g i)→cv f c n k=cv g c n k:=fun n h=>qW n fun i hi=>by rw [h i hi]
/-- The rest vanishes from the place m on. -/
theorem zsb (hp:0 < p) (hb:b m*iv % p=1 % p):∀ (i:Nat) (r:Nat→Int),(∀ j,0≤r j∧r j < p)→(∀ j,i + m≤j→r j=0)→∀ j,m≤j→znx p b m iv i r j=0
 | 0,r,_,hz,j,hj=>hz j (by omega)
 | i + 1,r,hr,hz,j,hj=>by
  refine zsb hp hb i _ (fun j=>znn hp hr _ i j) (fun j hj=>?_) j hj
  unfold zcp
  by_cases e:j=i + m
  ·subst e
   rw [if_pos (by omega),show i + m - i=m by omega]
   have h1:(r (i + m) - zhy p iv m i r*b m) % p=0:=by
    unfold zhy
    have h2:(r (i + m)*iv % p)*b m % p=r (i + m) % p:=by
     rw [Int.mul_emod,Int.emod_emod,← Int.mul_emod,Int.mul_assoc,Int.mul_emod,Int.mul_comm iv,hb,← Int.mul_emod,Int.mul_one]
    rw [Int.sub_emod,h2,Int.sub_self]; rfl
   exact h1
  ·rw [if_neg (by omega)]
   exact hz j (by omega)
/-- Quotient and rest give what was divided. -/
theorem z17 (hp:0 < p) (hbz:∀ j,m < j→b j=0):∀ (i:Nat) (r:Nat→Int) (j:Nat),(cv (zh4 p b m iv i r) b i j + znx p b m iv i r j) % p=r j % p
 | 0,r,j=>by simp [cv,vE,znx]
 | i + 1,r,j=>by
  have ih:=z17 hp hbz i (zcp p b m (zhy p iv m i r) i r) j
  simp only [znx]
  rw [zm0,zuc (g:=zh4 p b m iv i (zcp p b m (zhy p iv m i r) i r)) j i fun k hk=>by simp only [zh4]; rw [if_neg (by omega)]]
  have e:zh4 p b m iv (i + 1) r i=zhy p iv m i r:=by simp only [zh4,if_true]
  rw [e]
  generalize zhy p iv m i r=f at *
  generalize cv (zh4 p b m iv i (zcp p b m f i r)) b i j=c at *
  generalize znx p b m iv i (zcp p b m f i r) j=d at *
  by_cases h:i≤j
  ·rw [if_pos h]
   by_cases h2:j≤i + m
   ·simp only [zcp] at ih
    rw [if_pos ⟨h,h2⟩,Int.emod_emod] at ih
    have e1:c + f*b (j - i) + d=(c + d) + f*b (j - i):=by omega
    rw [e1,Int.add_emod,ih,← Int.add_emod]
    congr 1
    omega
   ·simp only [zcp] at ih
    rw [if_neg (by omega)] at ih
    rw [hbz (j - i) (by omega),Int.mul_zero,Int.add_zero]
    exact ih
  ·simp only [zcp] at ih
   rw [if_neg (by omega)] at ih
   rw [if_neg h,Int.add_zero]
   exact ih
end

theorem zbn {p:Int} (hp:0 < p) {b:List Int} (hb:Row p b) (h0:b.length ≠ 0):0 < wG b∧wG b < p:=by
 have h1:=hb.rd hp (b.length - 1)
 have h2:=hb.nrm h0
 unfold wG
 omega
theorem zsn {p:Int} (hp:0 < p) (a b:List Int):Row p (quo p a b):=zkp fun i _=>zt3 hp _ _ i
theorem zis {p:Int} (hp:0 < p) {a:List Int} (ha:Row p a) (b:List Int):Row p (rem p a b):=zkp fun i _=>zui hp _ _ (fun j=>ha.rd hp j) i
theorem zg0 (p:Int) (a b:List Int):(quo p a b).length≤a.length + 1 - b.length:=by rw [quo,zbi]; exact zeu _ _
theorem zuy (p:Int) (a b:List Int):(rem p a b).length≤a.length:=by rw [rem,zbi]; exact zeu _ _
theorem z2e (p:Int) (a b:List Int) (j:Nat):rd (quo p a b) j=zh4 p (rd b) (b.length - 1) (inv p (wG b)) (a.length + 1 - b.length) (rd a) j:=znu (fun i hi=>zsr _ _ _ hi) j
theorem zvh {p:Int} {b:Nat→Int} {m:Nat} {iv:Int}:∀ (i:Nat) (r:Nat→Int) (n:Nat),i + m≤n→(∀ j,n≤j→r j=0)→∀ j,n≤j→znx p b m iv i r j=0
 | 0,r,n,_,hz,j,hj=>hz j hj
 | i + 1,r,n,hn,hz,j,hj=>zvh i _ n (by omega) (fun j hj=>by unfold zcp; rw [if_neg (by omega)]; exact hz j hj) j hj
theorem zvz {p:Int} (a:List Int) {b:List Int} (h0:b.length ≠ 0) (j:Nat):rd (rem p a b) j=znx p (rd b) (b.length - 1) (inv p (wG b)) (a.length + 1 - b.length) (rd a) j:=by
 refine znu (fun i hi=>?_) j
 rcases Nat.lt_or_ge a.length b.length with h | h
 ·rw [show a.length + 1 - b.length=0 by omega]; exact vS hi
 ·exact zvh _ _ a.length (by omega) (fun j hj=>vS hj) i hi
theorem zkl {p:Int} (hp:isP p=true) {a b:List Int} (ha:Row p a) (hb:Row p b) (h0:b.length ≠ 0):(rem p a b).length < b.length:=by
 have hp2:=wU hp
 have hi:=zet hp (zbn (show 0 < p by omega) hb h0)
 have hz:∀ j,b.length - 1≤j→rd (rem p a b) j=0:=fun j hj=>by
  rw [zvz a h0]
  refine zsb (by omega) ?_ _ _ (fun j=>ha.rd (by omega) j) (fun j hj=>vS (by omega)) j hj
  have:(1:Int) % p=1:=Int.emod_eq_of_lt (by omega) (by omega)
  rw [this]
  exact hi.2.2
 rcases Nat.lt_or_ge (rem p a b).length b.length with h | h
 ·exact h
 ·have h1:=(zis (show 0 < p by omega) ha b).nrm (by omega)
  exact absurd (hz _ (by omega)) h1
/-- What is divided is quotient times divisor, plus the rest. -/
theorem zzh {p:Int} (hp:isP p=true) {a b:List Int} (ha:Row p a) (h0:b.length ≠ 0) (j:Nat):rd a j=(conv (rd (quo p a b)) (rd b) j + rd (rem p a b) j) % p:=by
 have hp2:=wU hp
 have h:=z17 (p:=p) (b:=rd b) (m:=b.length - 1) (iv:=inv p (wG b)) (by omega) (fun j hj=>vS (by omega)) (a.length + 1 - b.length) (rd a) j
 have e:conv (rd (quo p a b)) (rd b) j=cv (zh4 p (rd b) (b.length - 1) (inv p (wG b)) (a.length + 1 - b.length) (rd a)) (rd b) (a.length + 1 - b.length) j:=by
  rw [← zm4 (n:=a.length + 1 - b.length) fun i hi=>vS (Nat.le_trans (zg0 p a b) hi)]
  exact zuc _ _ fun i _=>z2e p a b i
 have hr:=ha.rd (show 0 < p by omega) j
 rw [e,zvz a h0,h,Int.emod_eq_of_lt hr.1 hr.2]
end Go.Proofs.YtebfhlnfmkhmcaaGreat
/- Numbers as digits. -/
namespace Go.Proofs.YtebfhlnfmkhmcaaGreat
open Go.Abs

def qM (p n:Nat):List Int:=if n=0∨p < 2 then [] else ((n % p:Nat):Int) :: qM p (n / p)
termination_by n
decreasing_by exact Nat.div_lt_self (by omega) (by omega)

theorem jB (p:Nat):qM p 0=[]:=by rw [qM]; simp

theorem zas {p n:Nat} (hp:2≤p) (hn:0 < n):qM p n=((n % p:Nat):Int) :: qM p (n / p):=by
 rw [qM,if_neg (by omega)]

theorem z20 {p:Nat} (hp:2≤p):∀ n:Nat,∀ d∈qM p n,0≤d∧d < p:=by
 intro n
 induction n using Nat.strongRecOn with
 | ind n ih =>
  intro d hd
  by_cases h:n=0
  ·subst h; rw [jB] at hd; cases hd
  ·rw [zas hp (by omega)] at hd
   rcases List.mem_cons.1 hd with rfl | hd
   ·have:=Nat.mod_lt n (show p > 0 by omega)
    generalize n % p=x at this
    omega
   ·exact ih _ (Nat.div_lt_self (by omega) hp) d hd

theorem zus {p:Nat} (hp:2≤p):∀ (k n:Nat),n < 2 ^ k→(qM p n).length≤k
 | 0,n,h=>by
  have:n=0:=by simpa using h
  subst this; rw [jB]; simp
 | k + 1,n,h=>by
  by_cases hn:n=0
  ·subst hn; rw [jB]; simp
  ·rw [zas hp (by omega)]
   have:n / p < 2 ^ k:=by
    have h1:n / p≤n / 2:=Nat.div_le_div_left hp (by omega)
    have h2:n / 2 < 2 ^ k:=by rw [Nat.pow_succ] at h; omega
    omega
   have:=zus hp k _ this
   simp only [List.length_cons]; omega

theorem zwn {p n:Nat} (hp:2≤p) (hn:n≤1000000000000):(qM p n).length≤40:=zus hp 40 n (by omega)

theorem zm1 (x:Int) (l:List Int) (i:Nat):rd (x :: l) (i + 1)=rd l i:=by simp [rd]
theorem zfi {p:Nat} (hp:2≤p) (n:Nat):Row p (qM p n):=by
 refine ⟨fun d hd=>?_,?_⟩
 ·have:=z20 hp n d hd; omega
 ·induction n using Nat.strongRecOn with
  | ind n ih =>
   intro h
   have hn:0 < n:=by
    rcases Nat.eq_zero_or_pos n with rfl | h'
    ·rw [jB] at h; simp at h
    ·exact h'
   rw [zas hp hn]
   simp only [List.length_cons,Nat.add_sub_cancel]
   rcases Nat.eq_zero_or_pos (n / p) with h0 | h0
   ·rw [h0,jB]
    have:n < p:=by
     rcases Nat.lt_or_ge n p with h | h
     ·exact h
     ·have:=Nat.div_pos h (by omega); omega
    rw [Nat.mod_eq_of_lt this]
    simp [rd]; omega
   ·have hlt:n / p < n:=Nat.div_lt_self hn (by omega)
    have h1:(qM p (n / p)).length ≠ 0:=by rw [zas hp h0]; simp
    have h2:=ih _ hlt h1
    obtain ⟨m,hm⟩:∃ m,(qM p (n / p)).length=m + 1:=⟨(qM p (n / p)).length - 1,by omega⟩
    rw [hm] at h2 ⊢
    rw [zm1]
    simpa using h2
theorem zmq {p:Nat} (hp:2≤p):∀ (d n:Nat),p ^ d≤n→n < p ^ (d + 1)→(qM p n).length=d + 1
 | 0,n,h1,h2=>by
  simp only [Nat.pow_zero,Nat.zero_add,Nat.pow_one] at h1 h2
  rw [zas hp (by omega),Nat.div_eq_of_lt h2,jB]; rfl
 | d + 1,n,h1,h2=>by
  have hpos:0 < p ^ (d + 1):=Nat.pow_pos (by omega)
  have h3:p ^ d≤n / p:=by
   rw [Nat.le_div_iff_mul_le (by omega)]
   rwa [← Nat.pow_succ]
  have h4:n / p < p ^ (d + 1):=by
   rw [Nat.div_lt_iff_lt_mul (by omega)]
   rwa [← Nat.pow_succ]
  rw [zas hp (by omega),List.length_cons,zmq hp d _ h3 h4]
theorem zau {p:Nat} (hp:2≤p) {d i:Nat} (hi:i < p ^ d):(qM p (p ^ d + i)).length=d + 1:=by
 refine zmq hp d _ (by omega) ?_
 have:p ^ (d + 1)=p ^ d*p:=Nat.pow_succ ..
 have h2:p ^ d*2≤p ^ d*p:=Nat.mul_le_mul_left _ hp
 omega
end Go.Proofs.YtebfhlnfmkhmcaaGreat
/- The polynomials modulo p as a ring; irreducible ones. -/
namespace Go.Proofs.YtebfhlnfmkhmcaaGreat
open Go.Abs

structure Pri where
 n:Nat
 ok:isP (n:Int)=true
def Pri.p (P:Pri):Int:=P.n
theorem Pri.okp (P:Pri):isP P.p=true:=P.ok
theorem Pri.pos (P:Pri):0 < P.p:=by have:=wU P.ok; unfold Pri.p; omega
theorem Pri.two (P:Pri):2≤P.p∧P.p≤7:=wU P.ok
theorem Pri.is (P:Pri):P.n=2∨P.n=3∨P.n=5∨P.n=7:=by
 have:=zo7.1 P.ok; omega
structure PP (P:Pri) where
 l:List Int
 row:Row P.p l
theorem zie {P:Pri}:∀ {a b:PP P},a.1=b.1→a=b
 | ⟨_,_⟩,⟨_,_⟩,h=>by cases h; rfl
variable {P:Pri}
def PP.len (a:PP P):Nat:=a.1.length
def PP.c (a:PP P) (i:Nat):Int:=rd a.1 i
theorem PP.c_res (a:PP P) (i:Nat):0≤a.c i∧a.c i < P.p:=a.2.rd P.pos i
theorem PP.c_mod (a:PP P) (i:Nat):a.c i % P.p=a.c i:=a.2.mod P.pos i
theorem ze1 {a b:PP P} (h:∀ i,a.c i=b.c i):a=b:=zie (zg8 a.2 b.2 h)
theorem z55 {p:Int} (hp:2≤p):Row p [1]:=⟨by simp; omega,by simp [rd]⟩
theorem z7b {p:Int} (hp:2≤p):Row p [0,1]:=⟨by simp; omega,by simp [rd]⟩
instance:Add (PP P):=⟨fun a b=>⟨zb8 P.p a.1 b.1 1,zbk P.pos _ _ _⟩⟩
instance:Mul (PP P):=⟨fun a b=>⟨mul P.p a.1 b.1,zd8 P.pos _ _⟩⟩
instance:Neg (PP P):=⟨fun a=>⟨zb8 P.p [] a.1 (-1),zbk P.pos _ _ _⟩⟩
instance:Zero (PP P):=⟨⟨[],zc1 _⟩⟩
instance:One (PP P):=⟨⟨[1],z55 P.two.1⟩⟩
def ppm (l:List Int) (h:Row P.p l):PP P:=⟨l,h⟩
def ppT:PP P:=⟨[0,1],z7b P.two.1⟩
theorem zf3 (a b:PP P) (i:Nat):(a + b).c i=(a.c i + b.c i) % P.p:=by
 show rd (zb8 P.p a.1 b.1 1) i=_
 rw [zfr,Int.one_mul]; rfl
theorem zyv (a:PP P) (i:Nat):(-a).c i=(-a.c i) % P.p:=by
 show rd (zb8 P.p [] a.1 (-1)) i=_
 rw [zfr,zts,Int.zero_add,Int.neg_mul,Int.one_mul]; rfl
theorem zm9 (a b:PP P) (i:Nat):(a*b).c i=conv a.c b.c i % P.p:=zhp _ _ _ _
theorem zpo (i:Nat):(0:PP P).c i=0:=zts i
theorem zN:IsRing (PP P) where
 add_comm a b:=ze1 fun i=>by rw [zf3,zf3,Int.add_comm]
 add_assoc a b c:=ze1 fun i=>by simp only [zf3,Int.emod_add_emod,Int.add_emod_emod,Int.add_assoc]
 add_zero a:=ze1 fun i=>by rw [zf3,zpo,Int.add_zero,PP.c_mod]
 add_neg a:=ze1 fun i=>by rw [zf3,zyv,zpo,Int.add_emod_emod,Int.add_right_neg]; rfl
 mul_comm a b:=zie (zko _ _ _)
 mul_assoc a b c:=zie (zwm P.pos _ _ _)
 mul_one a:=zie (zz8 P.pos a.2)
 mul_add a b c:=zie (zz9 P.pos _ _ _ _)

theorem wT {a:PP P}:a.len=0 ↔ a=0:=⟨fun h=>zie (List.eq_nil_of_length_eq_zero h),fun h=>by rw [h]; rfl⟩
theorem zfu:(1:PP P).len=1:=rfl
theorem zv5:(1:PP P) ≠ 0:=fun h=>by have:=wT.2 h; rw [zfu] at this; omega
theorem zcs {a b:PP P} (ha:a ≠ 0) (hb:b ≠ 0):(a*b).len=a.len + b.len - 1 :=
 zwu P.ok a.2 b.2 (fun h=>ha (wT.1 h)) (fun h=>hb (wT.1 h))
theorem zb3 (a b:PP P):(a + b).len≤max a.len b.len:=zdd _ _ _ _
theorem zb4 (a:PP P):(-a).len≤a.len:=by
 have:=zdd P.p [] a.1 (-1)
 show (zb8 P.p [] a.1 (-1)).length≤a.1.length
 simpa using this
theorem qU {a:PP P} (h:a ≠ 0):1≤a.len:=by
 rcases Nat.eq_zero_or_pos a.len with h0 | h0
 ·exact absurd (wT.1 h0) h
 ·exact h0
theorem zeb:∀ a b:PP P,a*b=0→a=0∨b=0:=fun a b h=>by
 by_cases ha:a=0
 ·exact .inl ha
 ·by_cases hb:b=0
  ·exact .inr hb
  ·have h1:=zcs ha hb
   rw [h,wT.2 rfl] at h1
   have:=qU ha
   have:=qU hb
   omega
theorem zok (n:Nat) (a:PP P) (i:Nat):(mF n a).c i=(n*a.c i) % P.p:=by
 induction n with
 | zero=>simp [mF,zpo]
 | succ n ih =>
  simp only [mF,zf3,ih,Int.emod_add_emod]
  congr 1
  rw [Int.natCast_succ,Int.add_mul,Int.one_mul]
theorem z3k (x:PP P):mF P.n x=0:=ze1 fun i=>by
 rw [zok,zpo]
 exact Int.emod_eq_zero_of_dvd ⟨x.c i,rfl⟩

/-! Division. -/
def zbf (a b:PP P):PP P:=⟨quo P.p a.1 b.1,zsn P.pos _ _⟩
def yX (a b:PP P):PP P:=⟨rem P.p a.1 b.1,zis P.pos a.2 _⟩
theorem zkf (a:PP P) {b:PP P} (hb:b ≠ 0):a=zbf a b*b + yX a b∧(yX a b).len < b.len:=by
 have h0:b.1.length ≠ 0:=fun h=>hb (wT.1 h)
 refine ⟨ze1 fun i=>?_,zkl P.ok a.2 b.2 h0⟩
 rw [zf3,zm9,Int.emod_add_emod]
 exact zzh P.ok a.2 h0 i
theorem zds {a b:PP P} (h:Dv a b) (hb:b ≠ 0):a.len≤b.len:=by
 obtain ⟨q,rfl⟩:=h
 have hq:q ≠ 0:=fun e=>hb (by rw [e,zN.zero_mul])
 have ha:a ≠ 0:=fun e=>hb (by rw [e,zN.mul_zero])
 have:=zcs hq ha
 have:=qU hq
 omega
theorem zmh {a b:PP P} (h:Dv a b) (hl:b.len < a.len):b=0:=by
 by_cases hb:b=0
 ·exact hb
 ·have:=zds h hb; omega
theorem zua {a b:PP P} (hb:b ≠ 0):yX a b=0 ↔ Dv b a:=by
 obtain ⟨h1,h2⟩:=zkf a hb
 constructor
 ·intro h
  rw [h,zN.add_zero] at h1
  exact ⟨_,h1⟩
 ·intro h
  rw [h1] at h
  exact zmh (zN.dv_sub h (zN.dv_mul (zN.dv_refl b) _)) h2
theorem z2g {a b q r:PP P} (hb:b ≠ 0) (h:a=q*b + r) (hr:r.len < b.len):zbf a b=q∧yX a b=r:=by
 obtain ⟨h1,h2⟩:=zkf a hb
 have R:IsRing (PP P):=zN
 have e:(zbf a b + -q)*b=r + -yX a b:=by
  have h3:q*b + r=zbf a b*b + yX a b:=by rw [← h,← h1]
  rw [R.add_mul,R.mul_comm (-q),R.mul_neg,R.mul_comm b q]
  refine R.cancel (a:=q*b) ?_
  rw [R.add_left_comm,R.add_neg,R.add_zero]
  refine R.cancel (a:=yX a b) ?_
  rw [R.add_comm (yX a b),← h3,R.add_left_comm (yX a b),R.add_left_comm (yX a b),R.add_neg,R.add_zero]
 have hz:r + -yX a b=0:=by
  refine zmh (a:=b) ⟨_,e.symm⟩ ?_
  have:=zb3 r (-yX a b)
  have:=zb4 (yX a b)
  omega
 have hr':=R.sub_zero hz
 refine ⟨?_,hr'.symm⟩
 rw [hz] at e
 rcases zeb _ _ e with h4 | h4
 ·exact R.sub_zero h4
 ·exact absurd h4 hb

/-! Units, the greatest common divisor. -/
theorem zsq {a:PP P} (h:a.len=1):∃ b,b*a=1:=by
 have hc:=a.c_res 0
 have hn:a.c 0 ≠ 0:=by
  have:=a.2.nrm (by have:a.1.length=1:=h; omega)
  have h1:a.1.length=1:=h
  rw [h1] at this
  exact this
 obtain ⟨i1,i2,i3⟩:=zet P.ok (x:=a.c 0) ⟨by omega,hc.2⟩
 have hr:Row P.p [inv P.p (a.c 0)]:=⟨by simp only [List.mem_singleton,forall_eq]; exact ⟨by have:0 < inv P.p (a.c 0):=i1; omega,i2⟩,fun _=>by simp [rd]; have:0 < inv P.p (a.c 0):=i1; omega⟩
 refine ⟨ppm _ hr,?_⟩
 refine ze1 fun i=>?_
 have h1:a.1.length=1:=h
 rw [zm9]
 have e1:(1:PP P).c i=if i=0 then 1 else 0:=by
  show rd [1] i=_
  by_cases hi:i=0
  ·subst hi; simp [rd]
  ·rw [if_neg hi,vS (by simp; omega)]
 rw [e1]
 by_cases hi:i=0
 ·subst hi
  rw [if_pos rfl]
  have:conv (PP.c (ppm _ hr:PP P)) a.c 0=inv P.p (a.c 0)*a.c 0:=by
   simp [conv,cv,vE,PP.c,ppm,rd]
  rw [this,Int.mul_comm]
  exact i3
 ·have z1:∀ j,1≤j→(ppm _ hr:PP P).c j=0:=fun j hj=>vS (l:=[inv P.p (a.c 0)]) (by simpa using hj)
  have z2:∀ j,1≤j→a.c j=0:=fun j hj=>vS (l:=a.1) (by omega)
  rw [if_neg hi,zr8 (n:=1) (m:=1) z1 z2 (by omega)]
  rfl
theorem zn5:∀ (n:Nat) (a b:PP P),b.len≤n→∃ g u v,g=u*a + v*b∧Dv g a∧Dv g b
 | 0,a,b,h=>by
  have hb:b=0:=wT.1 (by omega)
  subst hb
  exact ⟨a,1,0,by rw [zN.one_mul,zN.zero_mul,zN.add_zero],zN.dv_refl a,zN.dv_zero a⟩
 | n + 1,a,b,h=>by
  by_cases hb:b=0
  ·subst hb
   exact ⟨a,1,0,by rw [zN.one_mul,zN.zero_mul,zN.add_zero],zN.dv_refl a,zN.dv_zero a⟩
  ·obtain ⟨h1,h2⟩:=zkf a hb
   obtain ⟨g,u,v,e,d1,d2⟩:=zn5 n b (yX a b) (by omega)
   have R:IsRing (PP P):=zN
   refine ⟨g,v,u + -(v*zbf a b),?_,?_,d1⟩
   ·have e2:v*a=v*(zbf a b*b) + v*yX a b:=by rw [← R.mul_add,← h1]
    have e3:-(v*zbf a b)*b=-(v*(zbf a b*b)):=by rw [R.mul_comm (-(v*zbf a b)),R.mul_neg,R.mul_comm b,R.mul_assoc]
    rw [e2,R.add_mul,e3,e]
    generalize v*(zbf a b*b)=x
    generalize v*yX a b=y
    generalize u*b=z
    rw [R.add_comm z (-x),R.add_assoc x,R.add_left_comm y,← R.add_assoc x,R.add_neg,R.zero_add,R.add_comm]
   ·rw [h1]
    exact R.dv_add (R.dv_mul d1 _) d2

def Irr (f:PP P):Prop:=2≤f.len∧∀ a b:PP P,f=a*b→a.len=1∨b.len=1
theorem Irr.ne {f:PP P} (h:Irr f):f ≠ 0:=fun e=>by have:=h.1; rw [wT.2 e] at this; omega
/-- What divides an irreducible polynomial is a unit, or is divided by it. -/
theorem Irr.dv {f g:PP P} (h:Irr f) (hg:Dv g f):g.len=1∨Dv f g:=by
 obtain ⟨q,e⟩:=hg
 rcases h.2 q g e with h1 | h1
 ·obtain ⟨u,hu⟩:=zsq h1
  exact .inr ⟨u,by rw [e,← zN.mul_assoc,hu,zN.one_mul]⟩
 ·exact .inl h1
theorem Irr.coprime {f a:PP P} (h:Irr f) (ha:¬ Dv f a):∃ u v,u*a + v*f=1:=by
 obtain ⟨g,u,v,e,d1,d2⟩:=zn5 f.len a f (Nat.le_refl _)
 rcases h.dv d2 with h1 | h1
 ·obtain ⟨w,hw⟩:=zsq h1
  exact ⟨w*u,w*v,by rw [← hw,e,zN.mul_add,zN.mul_assoc,zN.mul_assoc]⟩
 ·exact absurd (zN.dv_trans h1 d1) ha
theorem Irr.prime {f a b:PP P} (h:Irr f) (hab:Dv f (a*b)):Dv f a∨Dv f b:=by
 by_cases ha:Dv f a
 ·exact .inl ha
 ·obtain ⟨u,v,e⟩:=h.coprime ha
  refine .inr ?_
  have e2:b=u*(a*b) + v*b*f:=by
   rw [← zN.mul_assoc,zN.mul_assoc v b,zN.mul_comm b f,← zN.mul_assoc v f,← zN.add_mul,e,zN.one_mul]
  rw [e2]
  exact zN.dv_add (zN.dv_mul hab u) (zN.dv_mul (zN.dv_refl f) _)
/-- What is not irreducible has a divisor of at most half its degree. -/
theorem Irr.of_not {f:PP P} (h2:2≤f.len) (h:¬ Irr f):∃ a b,f=a*b∧2≤a.len∧2≤b.len∧a.len < f.len∧b.len < f.len∧a.len + b.len=f.len + 1:=by
 have h3:∃ a b,f=a*b∧¬ (a.len=1∨b.len=1):=Classical.byContradiction fun hn=>h ⟨h2,fun a b e=>Classical.byContradiction fun hc=>hn ⟨a,b,e,hc⟩⟩
 obtain ⟨a,b,e,hc⟩:=h3
 have hf:f ≠ 0:=fun e0=>by rw [wT.2 e0] at h2; omega
 have ha:a ≠ 0:=fun e0=>hf (by rw [e,e0,zN.zero_mul])
 have hb:b ≠ 0:=fun e0=>hf (by rw [e,e0,zN.mul_zero])
 have h4:=zcs ha hb
 rw [← e] at h4
 have:=qU ha
 have:=qU hb
 exact ⟨a,b,e,by omega,by omega,by omega,by omega,by omega⟩
theorem zix:∀ (n:Nat) (f:PP P),f.len≤n→2≤f.len→∃ g,Irr g∧Dv g f
 | 0,f,h,h2=>by omega
 | n + 1,f,h,h2=>by
  by_cases hi:Irr f
  ·exact ⟨f,hi,zN.dv_refl f⟩
  ·obtain ⟨a,b,e,h3,h4,h5,_⟩:=Irr.of_not h2 hi
   obtain ⟨g,hg,hd⟩:=zix n a (by omega) h3
   exact ⟨g,hg,by rw [e]; exact zN.dv_mul' hd b⟩
/-- One of at most half the degree. -/
theorem zoh {f:PP P} (h2:2≤f.len) (h:¬ Irr f):∃ g,Irr g∧Dv g f∧2*(g.len - 1)≤f.len - 1:=by
 obtain ⟨a,b,e,h3,h4,h5,h6,h7⟩:=Irr.of_not h2 h
 have hne:∀ {x:PP P},2≤x.len→x ≠ 0:=fun h e=>by rw [wT.2 e] at h; omega
 rcases Nat.le_total a.len b.len with hl | hl
 ·obtain ⟨g,hg,hd⟩:=zix a.len a (Nat.le_refl _) h3
  have:=zds hd (hne h3)
  exact ⟨g,hg,by rw [e]; exact zN.dv_mul' hd b,by omega⟩
 ·obtain ⟨g,hg,hd⟩:=zix b.len b (Nat.le_refl _) h4
  have:=zds hd (hne h4)
  exact ⟨g,hg,by rw [e]; exact zN.dv_mul hd a,by omega⟩
end Go.Proofs.YtebfhlnfmkhmcaaGreat
/- Irreducible polynomials modulo p: which of them divide T^(p^n) - T. -/
namespace Go.Proofs.YtebfhlnfmkhmcaaGreat
open Go.Abs

/-! Numbers of polynomials. -/
def num (p:Nat):List Int→Nat
 | []=>0
 | c :: l=>c.toNat + p*num p l
theorem zf4 {p c:Int} {l:List Int} (h:Row p (c :: l)):Row p l:=by
 refine ⟨fun d hd=>h.res d (by simp [hd]),fun hl=>?_⟩
 have:=h.nrm (by simp)
 simp only [List.length_cons,Nat.add_sub_cancel] at this
 obtain ⟨m,hm⟩:∃ m,l.length=m + 1:=⟨l.length - 1,by omega⟩
 rw [hm,zm1] at this
 rw [hm]; exact this
theorem zng {p:Nat} (hp:2≤p):∀ l:List Int,Row p l→qM p (num p l)=l
 | [],_=>jB p
 | c :: l,h=>by
  have hc:=h.res c (by simp)
  have ih:=zng hp l (zf4 h)
  have e1:(c.toNat + p*num p l) % p=c.toNat:=by rw [Nat.add_mul_mod_self_left,Nat.mod_eq_of_lt (by omega)]
  have e2:(c.toNat + p*num p l) / p=num p l:=by rw [Nat.add_mul_div_left _ _ (by omega),Nat.div_eq_of_lt (by omega)]; omega
  have hpos:0 < c.toNat + p*num p l:=by
   cases l with
   | nil =>
    have:=h.nrm (by simp)
    simp [rd] at this
    omega
   | cons d l =>
    have:num p (d :: l) ≠ 0:=fun e=>by rw [e,jB] at ih; cases ih
    have:0 < p*num p (d :: l):=Nat.mul_pos (by omega) (by omega)
    omega
  simp only [num]
  rw [zas hp hpos,e1,e2,ih]
  congr 1
  omega
theorem zv7 {p:Nat} (hp:2≤p):∀ l:List Int,Row p l→num p l < p ^ l.length
 | [],_=>by simp [num]
 | c :: l,h=>by
  have hc:=h.res c (by simp)
  have ih:=zv7 hp l (zf4 h)
  simp only [num,List.length_cons,Nat.pow_succ]
  have h1:p*(num p l + 1)≤p*p ^ l.length:=Nat.mul_le_mul_left _ ih
  rw [Nat.mul_add,Nat.mul_one] at h1
  rw [Nat.mul_comm (p ^ l.length)]
  omega
theorem zmn {p:Nat} (hp:2≤p) (n:Nat):num p (qM p n)=n:=by
 induction n using Nat.strongRecOn with
 | ind n ih =>
  rcases Nat.eq_zero_or_pos n with rfl | h
  ·rw [jB]; rfl
  ·rw [zas hp h]
   simp only [num]
   rw [ih _ (Nat.div_lt_self h hp),Int.toNat_natCast]
   exact Nat.mod_add_div n p
theorem zju {p:Nat} (hp:2≤p):∀ (d n:Nat),n < p ^ d→(qM p n).length≤d
 | 0,n,h=>by
  have:n=0:=by simpa using h
  subst this; rw [jB]; simp
 | d + 1,n,h=>by
  rcases Nat.eq_zero_or_pos n with rfl | hn
  ·rw [jB]; simp
  ·rw [zas hp hn]
   have:n / p < p ^ d:=by
    rw [Nat.div_lt_iff_lt_mul (by omega),← Nat.pow_succ]; exact h
   have:=zju hp d _ this
   simp only [List.length_cons]; omega

variable {P:Pri}
theorem Pri.ge (P:Pri):2≤P.n:=by have:=P.is; omega
def ppn (P:Pri) (n:Nat):PP P:=⟨qM P.n n,zfi P.ge n⟩
theorem z3l (a:PP P):ppn P (num P.n a.1)=a:=zie (zng P.ge _ a.2)
theorem z2s {n m:Nat} (h:ppn P n=ppn P m):n=m:=by
 have:qM P.n n=qM P.n m:=congrArg PP.l h
 rw [← zmn P.ge n,this,zmn P.ge]
theorem zxq {d n:Nat} (h:n < P.n ^ d):(ppn P n).len≤d:=zju P.ge d n h

theorem z19 (g:Nat→Int) (i:Nat):conv (rd ([0,1]:List Int)) g i=if 1≤i then g (i - 1) else 0:=by
 rw [← zm4 (n:=2) fun j hj=>vS (by simpa using hj)]
 simp only [cv,vE]
 have e0:rd ([0,1]:List Int) 0=0:=rfl
 have e1:rd ([0,1]:List Int) 1=1:=rfl
 rw [e0,e1,if_pos (Nat.zero_le i)]
 split <;> simp
theorem zyp (i:Nat):(1:PP P).c i=if i=0 then 1 else 0:=by
 show rd [1] i=_
 by_cases hi:i=0
 ·subst hi; simp [rd]
 ·rw [if_neg hi,vS (by simp; omega)]
/-- All polynomials come from 0 by times T and plus 1. -/
theorem z5i {S:PP P→Prop} (h0:S 0) (hT:∀ x,S x→S (ppT*x)) (h1:∀ x,S x→S (x + 1)) (a:PP P):S a:=by
 have hk:∀ k x,S x→S (x + mF k 1):=by
  intro k
  induction k with
  | zero=>intro x hx; simp only [mF]; rw [zN.add_zero]; exact hx
  | succ k ih=>intro x hx; simp only [mF]; rw [← zN.add_assoc]; exact h1 _ (ih x hx)
 have key:∀ (l:List Int) (h:Row P.p l),S (ppm l h):=by
  intro l
  induction l with
  | nil=>intro h; exact h0
  | cons c l ih =>
   intro h
   have hc:=h.res c (by simp)
   have e:(ppm (c :: l) h:PP P)=ppT*ppm l (zf4 h) + mF c.toNat 1:=by
    refine ze1 fun i=>?_
    rw [zf3,zm9,zok,zyp]
    have e1:conv (PP.c (ppT:PP P)) (PP.c (ppm l (zf4 h):PP P)) i=if 1≤i then rd l (i - 1) else 0:=z19 _ i
    rw [e1]
    cases i with
    | zero =>
     rw [if_neg (by omega),if_pos rfl,Int.mul_one,Int.emod_add_emod,Int.add_emod_emod,Int.zero_add,Int.toNat_of_nonneg hc.1,Int.emod_eq_of_lt hc.1 hc.2]
     rfl
    | succ i =>
     rw [if_pos (by omega),if_neg (by omega),Int.mul_zero,Int.emod_add_emod,Int.zero_emod,Int.add_zero,Nat.add_sub_cancel,(zf4 h).mod P.pos]
     exact zm1 c l i
   rw [e]
   exact hk _ _ (hT _ (ih _))
 exact key a.1 a.2

/-! Residues by an irreducible polynomial. -/
section
variable {f:PP P} (hf:Irr f)
include hf
theorem z37:∀ x y:Qt zN f,x*y=0→x=0∨y=0:=by
 refine mU _ _ fun a=>mU _ _ fun b=>fun h=>?_
 have h1:Dv f (a*b):=(zgz zN).1 h
 rcases hf.prime h1 with h2 | h2
 ·exact .inl ((zgz zN).2 h2)
 ·exact .inr ((zgz zN).2 h2)
theorem z4g:(1:Qt zN f) ≠ 0:=fun h=>by
 have h1:Dv f 1:=(zgz zN).1 h
 have:=zds h1 zv5
 have:=hf.1
 rw [zfu] at *
 omega
omit hf in
theorem z4m (x:Qt zN f):mF P.n x=0:=by
 refine mU zN f (P:=fun x=>mF P.n x=0) (fun a=>?_) x
 rw [← z5t,z3k]; rfl
omit hf in
/-- All residues. -/
def els (f:PP P):List (Qt zN f):=(List.range (P.n ^ (f.len - 1))).map fun n=>qm zN f (ppn P n)
omit hf in
theorem zxz:(els f).length=P.n ^ (f.len - 1):=by simp [els]
theorem z3p (x:Qt zN f):x∈els f:=by
 refine mU zN f (P:=fun x=>x∈els f) (fun a=>?_) x
 obtain ⟨h1,h2⟩:=zkf a hf.ne
 refine List.mem_map.2 ⟨num P.n (yX a f).1,List.mem_range.2 ?_,?_⟩
 ·refine Nat.lt_of_lt_of_le (zv7 P.ge _ (yX a f).2) (Nat.pow_le_pow_right (by have:=P.ge; omega) ?_)
  show (yX a f).len≤_
  omega
 ·rw [z3l,zjx]
  have R:IsRing (PP P):=zN
  have e:yX a f + -a=-(zbf a f)*f:=by
   have:a=zbf a f*f + yX a f:=h1
   have h3:-(zbf a f)*f=-(zbf a f*f):=by rw [R.mul_comm,R.mul_neg,R.mul_comm]
   rw [h3]
   refine R.neg_of ?_
   rw [← R.add_assoc,← this,R.add_neg]
  exact ⟨_,e⟩
theorem zrt:(els f).Nodup:=by
 refine List.pairwise_map.2 ?_
 refine List.Pairwise.imp_of_mem ?_ List.nodup_range
 intro n m hn hm hne h
 have h1:=(zjx zN).1 h
 have l1:=zxq (P:=P) (List.mem_range.1 hn)
 have l2:=zxq (P:=P) (List.mem_range.1 hm)
 have:=zb3 (ppn P n) (-ppn P m)
 have:=zb4 (ppn P m)
 have:=hf.1
 have h2:=zmh h1 (by omega)
 exact hne (z2s (zN.sub_zero h2))
/-- An irreducible polynomial of the degree d divides T^(p^d) - T. -/
theorem z5x:Dv f (pw ppT (P.n ^ (f.len - 1)) + -ppT):=by
 have h:=(z4e zN f).fermat (z37 hf) (z4g hf) (zrt hf) (z3p hf) (qm zN f ppT)
 rw [zxz,← z4a] at h
 exact (zjx zN).1 h
/-- One that divides T^(p^n) - T has at most the degree n. -/
theorem z5e {n:Nat} (hn:1≤n) (h:Dv f (pw ppT (P.n ^ n) + -ppT)):f.len≤n + 1:=by
 have Q:=z4e zN f
 have hT:pw (qm zN f ppT) (P.n ^ n)=qm zN f ppT:=by
  rw [← z4a]; exact (zjx zN).2 h
 have hN:2≤P.n ^ n:=Nat.le_trans P.ge (Nat.le_self_pow (by omega) _)
 have hall:∀ a:PP P,pw (qm zN f a) (P.n ^ n)=qm zN f a:=by
  refine z5i ?_ (fun x hx=>?_) (fun x hx=>?_)
  ·rw [z3b]; exact Q.pw_zero (by omega)
  ·rw [z0c,Q.mul_pw,hT,hx]
  ·rw [z18,Q.frobn P.is z4m,hx,z5g,Q.pw_one]
 have h1:=Q.fixed_le (z37 hf) (z4g hf) hN (zrt hf) fun x _=>mU zN f (P:=fun x=>pw x (P.n ^ n)=x) hall x
 rw [zxz] at h1
 have:=(Nat.pow_le_pow_iff_right (show 1 < P.n by have:=P.ge; omega)).1 h1
 omega
end
end Go.Proofs.YtebfhlnfmkhmcaaGreat
/- Inverses modulo p, in the program. -/
namespace Go.Proofs.YtebfhlnfmkhmcaaGreat
open Go.Abs

theorem zig {p x:Int} (hp:isP p=true) (hx:0 < x∧x < p):kL p x=some (inv p x):=by
 have hp2:=wU hp
 obtain ⟨n,hn⟩:∃ n:Nat,p - 2=n:=⟨(p - 2).toNat,by omega⟩
 have ew:IntKind.i64.wrap (p - 2)=(n:Int):=by rw [zX (by omega) (by omega),hn]
 obtain ⟨c,h1,h2⟩:=wR (body:=fun s:Int×Int=>uO p x s.1 s.2) (fun i c=>(c,(i:Int))) (fun c=>c) n
  (fun i c=>c=x ^ i % p) (fun i c hi hI=>by
   subst hI
   have h3:=zao (show 0 < p by omega) (x ^ i)
   have h4:=mJ (x:=x ^ i % p) (y:=x) (by omega) (by omega)
   refine ⟨x ^ (i + 1) % p,?_,rfl⟩
   simp only [uO]
   rw [ew,if_pos (decide_eq_true (by omega)),zY (by omega),zX (n:=x ^ i % p*x) (by omega) (by omega),Int.tmod_eq_emod_of_nonneg h4.1,zX (by omega) (by omega)]
   have:x ^ i % p*x % p=x ^ (i + 1) % p:=by rw [Int.pow_succ,Int.mul_emod (x ^ i % p),Int.emod_emod,← Int.mul_emod]
   rw [this]; rfl) (fun c hI=>by
   simp only [uO]
   rw [ew,if_neg (by rw [decide_eq_true_eq]; omega)]) n 0 1 (by omega) (by rw [Int.pow_zero,Int.emod_eq_of_lt (by omega) (by omega)])
 have h1':yK (fun s:Int×Int=>uO p x s.1 s.2) (1,0)=some c:=h1
 simp only [kL,h1',Option.bind_some]
 rw [h2,← z34 hp hx,hn,Int.toNat_natCast]
end Go.Proofs.YtebfhlnfmkhmcaaGreat
/- Rows without the zeros at their ends. -/
namespace Go.Proofs.YtebfhlnfmkhmcaaGreat
open Go.Abs

def IsB (v:V64):Prop:=∀ d∈v.1,0≤d∧d < 256

theorem IsB.rd {v:V64} (h:IsB v) {j:Nat} (hj:j < 64):0≤rd v.1 j∧rd v.1 j < 256:=by
 have hl:j < v.1.length:=by rw [v.2]; exact hj
 have:Abs.rd v.1 j=v.1[j]:=by simp [Abs.rd,hl]
 rw [this]; exact h _ (List.getElem_mem _)

theorem zsv {l:List Int} (hl:l.length≤1000000):∀ s:Int,(∃ i:Nat,s=i∧i≤l.length)→∃ r,yK (fun s:Int=>qN l s) s=some r∧∀ i:Nat,s=i→r=(top (rd l) i:Int):=by
 refine zbr (fun (s:Int)=>∃ i:Nat,s=i∧i≤l.length) (fun (s:Int) (r:Int)=>∀ i:Nat,s=i→r=(top (rd l) i:Int)) (fun s=>s.toNat) ?_
 rintro s ⟨i,rfl,hi⟩
 match i with
 | 0 =>
  right
  refine ⟨0,by simp [qN],fun k hk=>?_⟩
  have:k=0:=by omega
  subst this; simp [top]
 | i + 1 =>
  have e1:IntKind.i64.wrap (((i + 1:Nat):Int) - 1)=(i:Int):=by rw [zX (by omega) (by omega)]; omega
  by_cases e:rd l i=0
  ·left
   refine ⟨(i:Int),?_,⟨i,rfl,by omega⟩,by omega,fun r hr k hk=>?_⟩
   ·simp only [qN,e1]
    rw [if_pos (by simp),zY (by omega)]
    simp [e]
   ·have:k=i + 1:=by omega
    subst this
    rw [hr i rfl]; simp [top,e]
  ·right
   refine ⟨((i + 1:Nat):Int),?_,fun k hk=>?_⟩
   ·simp only [qN,e1]
    rw [if_pos (by simp),zY (by omega)]
    simp [e]
   ·have:k=i + 1:=by omega
    subst this
    simp [top,e]

theorem zgk {l:List Int} (hl:l.length≤1000000):kP l=some (l.take (top (rd l) l.length)):=by
 obtain ⟨r,h1,h2⟩:=zsv hl (l.length:Nat) ⟨l.length,rfl,Nat.le_refl _⟩
 rw [h2 _ rfl] at h1
 have:=zeu (rd l) l.length
 simp only [kP,h1,Option.bind_some]
 rw [zY (by omega)]
 simp

end Go.Proofs.YtebfhlnfmkhmcaaGreat
/- Sums, in the program. -/
namespace Go.Proofs.YtebfhlnfmkhmcaaGreat
open Go.Abs

theorem z4b (l:List Int) (i:Nat):zff l i=some (rd l i):=by
 unfold zff
 by_cases h:i < l.length
 ·rw [if_pos (by simpa using h),zY (by omega)]; simp
 ·rw [if_neg (by simpa using h),vS (by omega)]

theorem zrr {p n:Int} (hp:0 < p∧p≤256) (hn:-4611686018427387904≤n∧n < 4611686018427387904):mP p n=some (n % p):=by
 unfold mP
 have h1:=Int.lt_tmod_of_pos n hp.1
 have h2:=Int.tmod_lt_of_pos n hp.1
 rw [zY (by omega),zY (by omega),zX (by omega) (by omega),zme hp.1]

theorem mV {p k:Int} {a b:List Int} (hp:0 < p∧p≤256) (ha:Ent a) (hb:Ent b) (la:a.length≤1000000) (lb:b.length≤1000000) (hk:-1099511627776≤k∧k≤1099511627776) :
  xM p a b k=some (zb8 p a b k):=by
 obtain ⟨n,hn⟩:∃ n:Nat,n=max a.length b.length:=⟨_,rfl⟩
 have e:(if (b.length:Int) > (a.length:Int) then (b.length:Int) else (a.length:Int))=(n:Int):=by split <;> omega
 obtain ⟨s,h1,h2,h3⟩:=wR (body:=fun s:Int×List Int=>uN (n:Int) a b p k s.1 s.2) (fun i s=>((i:Int),s)) (fun s=>s) n
  (fun i s=>s.length=n∧∀ j,rd s j=if j < i then (rd a j + k*rd b j) % p else 0) (fun i s hi hI=>by
   obtain ⟨hl,hr⟩:=hI
   have h1:=ha i
   have h2:=z6m (hb i) hk
   refine ⟨s.set i ((rd a i + k*rd b i) % p),?_,by simpa using hl,fun j=>?_⟩
   ·simp only [uN,kR,Int.toNat_natCast,List.length_replicate]
    rw [if_pos (by simp; omega),z4b,z4b]
    simp only [Option.bind_some]
    rw [zX (n:=k*rd b i) (by omega) (by omega),zX (n:=rd a i + k*rd b i) (by omega) (by omega),zrr hp (by omega)]
    simp only [Option.bind_some]
    rw [zY (by omega),zX (by omega) (by omega)]
    rfl
   ·rw [znt _ _ _ _ (by omega),hr j]
    by_cases h:j=i
    ·subst h; simp
    ·rw [if_neg h]
     simp only [show (j < i + 1)=(j < i) from by rw [eq_iff_iff]; omega]) (fun s hI=>by
   simp only [uN,kR,Int.toNat_natCast,List.length_replicate]
   rw [if_neg (by simp)]) n 0 (List.replicate n 0) (by omega) ⟨by simp,fun j=>by rw [z1n,if_neg (by omega)]⟩
 have hs:s.take (top (rd s) s.length)=zb8 p a b k:=by
  rw [zpd,h2,zb8,← hn]
  exact zf0 fun i hi=>by rw [h3 i,if_pos hi]
 simp only [xM,kR,e]
 rw [zY (by omega)]
 simp only [Int.toNat_natCast]
 have h1':yK (fun s:Int×List Int=>uN (n:Int) a b p k s.1 s.2) (0,List.replicate n 0)=some s:=h1
 rw [h1']
 simp only [Option.bind_some]
 rw [zgk (by omega),hs]
 rfl
end Go.Proofs.YtebfhlnfmkhmcaaGreat
/- Division, in the program. -/
namespace Go.Proofs.YtebfhlnfmkhmcaaGreat
open Go.Abs

theorem z15 {a:List Int} (ha:a.length≤1000000):uH a=some a:=by
 unfold uH
 rw [z30,zY]
 ·simp
 ·simp; omega
 ·intro h
  subst h
  rw [zY (by simp)]
  simp
theorem zv4 {p f:Int} (hp:2≤p∧p≤7) {b:List Int} (hb:Row p b) (hf:0≤f∧f < p) {i:Nat} {s t:List Int} (hi:i + b.length≤s.length) (hl:s.length≤1000000) (hs:∀ j,0≤rd s j∧rd s j < p) {s0:List Int} {x r9:Int} (hx:Int.tmod (IntKind.i64.wrap (rd s0 x.toNat*r9)) p=f) :
  ∃ s',yK (fun q:Int×List Int=>uY b (i:Int) s0 x r9 p t q.1 q.2) (0,s)=some (s',t.set i f)∧s'.length=s.length∧∀ j,rd s' j=zcp p (rd b) (b.length - 1) f i (rd s) j:=by
 obtain ⟨s',h1,h2,h3⟩:=wR (body:=fun q:Int×List Int=>uY b (i:Int) s0 x r9 p t q.1 q.2) (fun k u=>((k:Int),u)) (fun u=>(u,t.set i f)) b.length
  (fun k u=>u.length=s.length∧∀ j,rd u j=if i≤j∧j < i + k then (rd s j - f*rd b (j - i)) % p else rd s j) (fun k u hk hI=>by
   obtain ⟨hul,hu⟩:=hI
   have hbk:=hb.rd (show 0 < p by omega) k
   have hsk:=hs (i + k)
   have hm:=mJ (x:=f) (y:=rd b k) (by omega) (by omega)
   have e1:IntKind.i64.wrap ((i:Int) + (k:Int))=((i + k:Nat):Int):=by rw [zX (by omega) (by omega)]; omega
   have huk:=hu (i + k)
   rw [if_neg (by omega)] at huk
   refine ⟨u.set (i + k) ((rd s (i + k) - f*rd b k) % p),?_,by simpa using hul,fun j=>?_⟩
   ·simp only [uY,kR,hx]
    rw [if_pos (decide_eq_true (by omega)),zY (by omega),e1,zY (by omega),Int.toNat_natCast,Int.toNat_natCast,huk,zX (n:=f*rd b k) (by omega) (by omega),zX (n:=rd s (i + k) - f*rd b k) (by omega) (by omega),zrr (by omega) (by omega)]
    simp only [Option.bind_some]
    rw [zY (by omega),zX (by omega) (by omega)]
    rfl
   ·rw [znt _ _ _ _ (by omega),hu j]
    by_cases e:j=i + k
    ·subst e
     rw [if_pos rfl,if_pos (by omega),show i + k - i=k by omega]
    ·rw [if_neg e]
     by_cases hc:i≤j∧j < i + k
     ·rw [if_pos hc,if_pos (by omega)]
     ·rw [if_neg hc,if_neg (by omega)]) (fun u hI=>by
   simp only [uY,hx]
   rw [if_neg (by rw [decide_eq_true_eq]; omega),Int.toNat_natCast]) b.length 0 s (by omega) ⟨rfl,fun j=>by rw [if_neg (by omega)]⟩
 refine ⟨s',h1,h2,fun j=>?_⟩
 rw [h3 j]
 unfold zcp
 rcases Nat.eq_zero_or_pos b.length with h0 | h0
 ·rw [if_neg (by omega)]
  split
  ·have:rd b (j - i)=0:=vS (by omega)
   have:=hs j
   rw [show rd b (j - i)=0 from vS (by omega),Int.mul_zero,Int.sub_zero,Int.emod_eq_of_lt this.1 this.2]
  ·rfl
 ·simp only [show (i≤j∧j < i + b.length)=(i≤j∧j≤i + (b.length - 1)) from by rw [eq_iff_iff]; omega]
theorem zpz {p:Int} (hp:isP p=true) {b:List Int} (hb:Row p b) (h0:b.length ≠ 0) {n:Nat} (hn:n≤500000):∀ (i:Nat) (s t:List Int),i + b.length - 1≤s.length→i≤n→s.length≤1000000→t.length=n→(∀ j,0≤rd s j∧rd s j < p) →
  ∃ s' t',yK (fun q:Int×List Int×List Int=>vU b p (inv p (wG b)) q.1 q.2.1 q.2.2) ((i:Int) - 1,s,t)=some (s',t')∧s'.length=s.length∧t'.length=n ∧
   (∀ j,rd s' j=znx p (rd b) (b.length - 1) (inv p (wG b)) i (rd s) j)∧∀ j,rd t' j=if j < i then zh4 p (rd b) (b.length - 1) (inv p (wG b)) i (rd s) j else rd t j
 | 0,s,t,_,_,_,ht,_=>by
  refine ⟨s,t,?_,rfl,ht,fun _=>rfl,fun j=>by rw [if_neg (by omega)]⟩
  have step:vU b p (inv p (wG b)) (((0:Nat):Int) - 1) s t=some (.inr (s,t)):=by
   simp only [vU]
   rw [if_neg (by rw [decide_eq_true_eq]; omega)]
  rw [yR]
  simp only [step,Option.bind_some]
 | i + 1,s,t,hi,hin,hsl,ht,hs=>by
  have hp2:=wU hp
  have hinv:=zet hp (zbn (show 0 < p by omega) hb h0)
  have hsx:=hs (i + (b.length - 1))
  have hm:=mJ (x:=rd s (i + (b.length - 1))) (y:=inv p (wG b)) (by omega) (by omega)
  have hf:=zao (show 0 < p by omega) (rd s (i + (b.length - 1))*inv p (wG b))
  have e0:((i + 1:Nat):Int) - 1=(i:Int):=by omega
  have e1:IntKind.i64.wrap (IntKind.i64.wrap ((i:Int) + (b.length:Int)) - 1)=((i + (b.length - 1):Nat):Int):=by
   rw [zX (n:=(i:Int) + (b.length:Int)) (by omega) (by omega),zX (by omega) (by omega)]; omega
  have hx:Int.tmod (IntKind.i64.wrap (rd s (((i + (b.length - 1):Nat):Int)).toNat*inv p (wG b))) p=zhy p (inv p (wG b)) (b.length - 1) i (rd s):=by
   rw [Int.toNat_natCast,zX (by omega) (by omega),Int.tmod_eq_emod_of_nonneg hm.1]; rfl
  obtain ⟨s1,g1,g2,g3⟩:=zv4 hp2 hb (f:=zhy p (inv p (wG b)) (b.length - 1) i (rd s)) hf (i:=i) (s:=s) (t:=t) (by omega) hsl hs hx
  have hs1:rd s1=zcp p (rd b) (b.length - 1) (zhy p (inv p (wG b)) (b.length - 1) i (rd s)) i (rd s):=funext g3
  obtain ⟨s',t',k1,k2,k3,k4,k5⟩:=zpz hp hb h0 hn i s1 (t.set i (zhy p (inv p (wG b)) (b.length - 1) i (rd s))) (by omega) (by omega) (by omega) (by simpa using ht) (fun j=>by rw [hs1]; exact znn (by omega) hs _ i j)
  refine ⟨s',t',?_,by omega,k3,fun j=>?_,fun j=>?_⟩
  ·have step:vU b p (inv p (wG b)) (((i + 1:Nat):Int) - 1) s t=some (.inl ((i:Int) - 1,s1,t.set i (zhy p (inv p (wG b)) (b.length - 1) i (rd s)))):=by
    rw [e0]
    simp only [vU,kR,e1]
    rw [if_pos (decide_eq_true (by omega)),zY (by omega),zY (by omega),zY (by omega),g1]
    simp only [Option.bind_some]
    rw [zX (by omega) (by omega)]
   rw [yR]
   simp only [step,Option.bind_some]
   exact k1
  ·rw [k4 j,hs1]; rfl
  ·rw [k5 j,hs1]
   simp only [zh4]
   by_cases e:j=i
   ·subst e
    rw [if_neg (by omega),if_pos (by omega),if_pos rfl,znt _ _ _ _ (by omega),if_pos rfl]
   ·by_cases h:j < i
    ·rw [if_pos h,if_pos (by omega),if_neg e]
    ·rw [if_neg h,if_neg (by omega),znt _ _ _ _ (by omega),if_neg e]
theorem zpj {b:List Int} (h0:b.length ≠ 0) (hl:b.length≤1000000):jP b=some (wG b):=by
 unfold jP
 have e1:IntKind.i64.wrap ((b.length:Int) - 1)=((b.length - 1:Nat):Int):=by rw [zX (by omega) (by omega)]; omega
 rw [if_neg (by rw [beq_iff_eq]; omega),e1,zY (by omega),Int.toNat_natCast]; rfl
theorem zl9 {p:Int} (hp:isP p=true) {a b:List Int} (ha:Row p a) (hb:Row p b) (h0:b.length ≠ 0) (la:a.length≤500000) (lb:b.length≤500000):uU p a b=some (quo p a b,rem p a b):=by
 have hp2:=wU hp
 unfold uU
 rw [z15 (by omega)]
 simp only [Option.bind_some]
 rcases Nat.lt_or_ge a.length b.length with h | h
 ·rw [if_pos (decide_eq_true (by omega))]
  have e1:quo p a b=[]:=by
   have:=zg0 p a b
   exact List.eq_nil_of_length_eq_zero (by omega)
  have e2:rem p a b=a:=by
   unfold rem
   rw [show a.length + 1 - b.length=0 by omega]
   exact ha.ofF (Nat.le_refl _)
  rw [e1,e2]
 ·rw [if_neg (by rw [decide_eq_true_eq]; omega)]
  obtain ⟨n,hn⟩:∃ n:Nat,n=a.length + 1 - b.length:=⟨_,rfl⟩
  have e1:IntKind.i64.wrap (IntKind.i64.wrap ((a.length:Int) - (b.length:Int)) + 1)=(n:Int):=by
   rw [zX (n:=(a.length:Int) - (b.length:Int)) (by omega) (by omega),zX (by omega) (by omega)]; omega
  have hlead:=zbn (show 0 < p by omega) hb h0
  simp only [kR,e1,zpj h0 (by omega),zig hp hlead,Option.bind_some,Int.toNat_natCast,List.length_replicate]
  rw [zY (by omega),zX (by omega) (by omega)]
  obtain ⟨s',t',k1,k2,k3,k4,k5⟩:=zpz hp hb h0 (n:=n) (by omega) n a (List.replicate n 0) (by omega) (Nat.le_refl _) (by omega) (by simp) (fun j=>ha.rd (by omega) j)
  rw [k1]
  simp only [Option.bind_some]
  rw [zgk (by omega),zgk (by omega)]
  simp only [Option.bind_some]
  rw [zpd,zpd,k2,k3]
  congr 2
  ·rw [quo,← hn]
   exact zf0 fun i hi=>by rw [k5 i,if_pos hi]
  ·rw [rem,← hn]
   exact zf0 fun i _=>k4 i
end Go.Proofs.YtebfhlnfmkhmcaaGreat
/- Products, in the program. -/
namespace Go.Proofs.YtebfhlnfmkhmcaaGreat
open Go.Abs


theorem zpw {a b:Nat→Int} (ha:∀ i,0≤a i∧a i < 256) (hb:∀ i,0≤b i∧b i < 256) (k:Nat):∀ n:Nat,0≤cv a b n k∧cv a b n k≤n*65025
 | 0=>by simp [cv,vE]
 | n + 1=>by
  rw [zm0]
  have h1:=zpw ha hb k n
  have h2:=mJ (ha n) (hb (k - n))
  split <;> omega

/-- The program's product. -/
theorem zmo {p:Int} (hp:2≤p∧p≤256) {a b:List Int} (ha:Ent a) (hb:Ent b) (la:a.length≤500000) (lb:b.length≤500000):xC p a b=some (mul p a b):=by
 simp only [xC,kR]
 by_cases h1:a.length=0
 ·have e:a=[]:=List.eq_nil_of_length_eq_zero h1
  subst e
  simp [ztp]
 by_cases h2:b.length=0
 ·have e:b=[]:=List.eq_nil_of_length_eq_zero h2
  subst e
  simp [zu6]
 obtain ⟨n,hn⟩:∃ n:Nat,n=a.length + b.length - 1:=⟨_,rfl⟩
 have e0:IntKind.i64.wrap (IntKind.i64.wrap ((a.length:Int) + (b.length:Int)) - 1)=(n:Int):=by
  rw [zX (n:=(a.length:Int) + (b.length:Int)) (by omega) (by omega),zX (by omega) (by omega)]; omega
 rw [e0]
 have c1:(if ((a.length:Int) == 0)=true then some true else some ((b.length:Int) == 0))=some false:=by
  rw [if_neg (by rw [beq_iff_eq]; omega)]
  congr 1
  rw [beq_eq_false_iff_ne]; omega
 rw [c1]
 simp only [Bool.false_eq_true,if_false,Option.bind_some,Int.toNat_natCast]
 rw [zY (by omega)]
 -- one row
 have hrow:∀ (i:Nat) (s:List Int),i < a.length→s.length=n→(∀ k,rd s k=cv (rd a) (rd b) i k) →
   ∃ s',yK (fun s:Int×List Int=>qR b (i:Int) a s.1 s.2) (0,s)=some s'∧s'.length=n∧∀ k,rd s' k=cv (rd a) (rd b) (i + 1) k:=by
  intro i s hi hsl hs
  have hai:=ha i
  obtain ⟨s',g1,g2,g3⟩:=wR (body:=fun s:Int×List Int=>qR b (i:Int) a s.1 s.2) (fun j (u:List Int)=>((j:Int),u)) (fun u=>u) b.length
   (fun j u=>u.length=n∧∀ k,rd u k=if i≤k∧k < i + j then cv (rd a) (rd b) (i + 1) k else cv (rd a) (rd b) i k) (fun j u hj hI=>by
    obtain ⟨hul,hu⟩:=hI
    have hbj:=hb j
    have hm:=mJ hai hbj
    have hc:=zpw ha hb (i + j) i
    have e1:IntKind.i64.wrap ((i:Int) + (j:Int))=((i + j:Nat):Int):=by rw [zX (by omega) (by omega)]; omega
    have huj:=hu (i + j)
    rw [if_neg (by omega)] at huj
    have e2:cv (rd a) (rd b) (i + 1) (i + j)=cv (rd a) (rd b) i (i + j) + rd a i*rd b j:=by
     rw [zm0,if_pos (by omega),show i + j - i=j by omega]
    refine ⟨u.set (i + j) (cv (rd a) (rd b) (i + 1) (i + j)),?_,by simpa using hul,fun k=>?_⟩
    ·simp only [qR,kR]
     rw [if_pos (by simp; omega),e1]
     rw [zY (by omega),zY (by omega),zY (by omega)]
     simp only [Int.toNat_natCast]
     rw [huj,zX (n:=rd a i*rd b j) (by omega) (by omega),zX (n:=cv (rd a) (rd b) i (i + j) + rd a i*rd b j) (by omega) (by omega),zX (by omega) (by omega),e2]
     rfl
    ·rw [znt _ _ _ _ (by omega)]
     by_cases e:k=i + j
     ·subst e
      rw [if_pos rfl,if_pos (by omega)]
     ·rw [if_neg e,hu k]
      by_cases hc:i≤k∧k < i + j
      ·rw [if_pos hc,if_pos (by omega)]
      ·rw [if_neg hc,if_neg (by omega)]) (fun u hI=>by
    simp only [qR]
    rw [if_neg (by simp)]) b.length 0 s (by omega) ⟨hsl,fun k=>by rw [hs k,if_neg (by omega)]⟩
  refine ⟨s',g1,g2,fun k=>?_⟩
  rw [g3 k]
  split
  ·rfl
  ·rename_i hc
   rw [zm0]
   by_cases hik:i≤k
   ·rw [if_pos hik,vS (l:=b) (by omega),Int.mul_zero,Int.add_zero]
   ·rw [if_neg hik,Int.add_zero]
 obtain ⟨s,h3,h4,h5⟩:=wR (body:=fun s:Int×List Int=>qP a b s.1 s.2) (fun i (u:List Int)=>((i:Int),u)) (fun u=>u) a.length
  (fun i u=>u.length=n∧∀ k,rd u k=cv (rd a) (rd b) i k) (fun i u hi hI=>by
   obtain ⟨u',g1,g2,g3⟩:=hrow i u hi hI.1 hI.2
   refine ⟨u',?_,g2,g3⟩
   simp only [qP]
   rw [if_pos (by simp; omega),zY (by omega),g1]
   simp only [Option.bind_some]
   rw [zX (by omega) (by omega)]; rfl) (fun u hI=>by
   simp only [qP]
   rw [if_neg (by simp)]) a.length 0 (List.replicate n 0) (by omega) ⟨by simp,fun k=>by rw [z1n]; simp [cv,vE]⟩
 have h3':yK (fun s:Int×List Int=>qP a b s.1 s.2) (0,List.replicate n 0)=some s:=h3
 rw [h3']
 simp only [Option.bind_some]
 obtain ⟨t,h6,h7,h8⟩:=wR (body:=fun q:Int×List Int=>qQ s p q.1 q.2) (fun i (u:List Int)=>((i:Int),u)) (fun u=>u) n
  (fun i u=>u.length=n∧∀ k,rd u k=if k < i then cv (rd a) (rd b) a.length k % p else cv (rd a) (rd b) a.length k) (fun i u hi hI=>by
   obtain ⟨hul,hu⟩:=hI
   have hui:=hu i
   rw [if_neg (by omega)] at hui
   have hc:=zpw ha hb i a.length
   refine ⟨u.set i (cv (rd a) (rd b) a.length i % p),?_,by simpa using hul,fun k=>?_⟩
   ·simp only [qQ]
    rw [if_pos (by simp; omega),zY (by omega),zY (by omega),zY (by omega)]
    simp only [Int.toNat_natCast]
    rw [hui,Int.tmod_eq_emod_of_nonneg hc.1,zX (by omega) (by omega)]; rfl
   ·rw [znt _ _ _ _ (by omega),hu k]
    by_cases e:k=i
    ·subst e; simp
    ·rw [if_neg e]
     simp only [show (k < i + 1)=(k < i) from by rw [eq_iff_iff]; omega]) (fun u hI=>by
   simp only [qQ]
   rw [if_neg (by simp; omega)]) n 0 s (by omega) ⟨h4,fun k=>by rw [h5 k,if_neg (by omega)]⟩
 have h6':yK (fun q:Int×List Int=>qQ s p q.1 q.2) (0,s)=some t:=h6
 rw [h6']
 simp only [Option.bind_some]
 rw [zgk (by omega),zpd,h7]
 simp only [Option.bind_some]
 congr 1
 rw [mul,← hn]
 exact zf0 fun k hk=>by rw [h8 k,if_pos hk,zm4 fun i hi=>vS (by omega)]
end Go.Proofs.YtebfhlnfmkhmcaaGreat
/- Products and quotients, in the program. -/
namespace Go.Proofs.YtebfhlnfmkhmcaaGreat
open Go.Abs

variable {P:Pri}
theorem Pri.sm (P:Pri):0 < P.p∧P.p≤256:=by have:=P.two; omega
theorem PP.ent (a:PP P):Ent a.1:=a.2.ent P.sm
theorem zdq {b:PP P} (hb:b ≠ 0):b.1.length ≠ 0:=fun h=>hb (wT.1 h)
end Go.Proofs.YtebfhlnfmkhmcaaGreat
/- Inverses modulo p, in the reference. -/
namespace Go.Proofs.YtebfhlnfmkhmcaaGreat
open Go.Abs

theorem zfv {p x:Int} (hp:isP p=true) (hx:0 < x∧x < p):nI p x=some (inv p x):=by
 have hp2:=wU hp
 obtain ⟨hi1,hi2,hi3⟩:=zet hp hx
 have key:∀ (m:Nat) (k:Int),1≤k→k + m=inv p x→yK (fun s:Int=>qB p x s) k=some (.inr (inv p x)):=by
  intro m
  induction m with
  | zero =>
   intro k h1 h2
   have h3:=mJ (x:=k) (y:=x) (by omega) (by omega)
   have e:k=inv p x:=by omega
   have step:qB p x k=some (.inr (.inr (inv p x))):=by
    simp only [qB,kR]
    rw [if_pos (decide_eq_true (by omega)),zY (by omega),zX (n:=x) (by omega) (by omega),zX (n:=k*x) (by omega) (by omega),Int.tmod_eq_emod_of_nonneg h3.1,if_pos,zjd (by omega) (by omega),e]
    rw [e,Int.mul_comm,hi3]; rfl
   rw [yR]
   simp only [step,Option.bind_some]
  | succ m ih =>
   intro k h1 h2
   have h3:=mJ (x:=k) (y:=x) (by omega) (by omega)
   have hne:=zyz hp hx h1 (show k < inv p x by omega)
   have step:qB p x k=some (.inl (k + 1)):=by
    simp only [qB,kR]
    rw [if_pos (decide_eq_true (by omega)),zY (by omega),zX (n:=x) (by omega) (by omega),zX (n:=k*x) (by omega) (by omega),Int.tmod_eq_emod_of_nonneg h3.1,if_neg (by rw [beq_iff_eq]; exact hne),zX (by omega) (by omega)]
   rw [yR]
   simp only [step,Option.bind_some]
   exact ih (k + 1) (by omega) (by omega)
 have h:=key (inv p x - 1).toNat 1 (by omega) (by omega)
 simp only [nI,h,Option.bind_some]
end Go.Proofs.YtebfhlnfmkhmcaaGreat
/- Degrees. -/
namespace Go.Proofs.YtebfhlnfmkhmcaaGreat
open Go.Abs

theorem z1g (a:V64):∀ s:Int,(∃ i:Nat,s=(i:Int) - 1∧i≤64)→∃ r,yK (fun s:Int=>nW a s) s=some r∧∀ i:Nat,s=(i:Int) - 1→r=(top (rd a.1) i:Int) - 1:=by
 refine zbr (fun (s:Int)=>∃ i:Nat,s=(i:Int) - 1∧i≤64) (fun (s:Int) (r:Int)=>∀ i:Nat,s=(i:Int) - 1→r=(top (rd a.1) i:Int) - 1) (fun s=>(s + 1).toNat) ?_
 rintro s ⟨i,rfl,hi⟩
 match i with
 | 0 =>
  right
  refine ⟨-1,by simp [nW],fun k hk=>?_⟩
  have:k=0:=by omega
  subst this; simp [top]
 | i + 1 =>
  have e1:((i + 1:Nat):Int) - 1=(i:Int):=by omega
  rw [e1]
  by_cases e:rd a.1 i=0
  ·left
   refine ⟨(i:Int) - 1,?_,⟨i,rfl,by omega⟩,by omega,fun r hr k hk=>?_⟩
   ·simp only [nW]
    rw [if_pos (by simp),zY (by omega)]
    simp [e]
    exact zX (by omega) (by omega)
   ·have:k=i + 1:=by omega
    subst this
    rw [hr i rfl]; simp [top,e]
  ·right
   refine ⟨(i:Int),?_,fun k hk=>?_⟩
   ·simp only [nW]
    rw [if_pos (by simp),zY (by omega)]
    simp [e]
   ·have:k=i + 1:=by omega
    subst this
    simp [top,e]

theorem zkd (a:V64):yW a=some ((top (rd a.1) 64:Int) - 1):=by
 obtain ⟨r,h1,h2⟩:=z1g a 63 ⟨64,by omega,by omega⟩
 rw [h2 64 (by omega)] at h1
 simp only [yW,h1,Option.bind_some]
end Go.Proofs.YtebfhlnfmkhmcaaGreat
/- Division, in the reference. -/
namespace Go.Proofs.YtebfhlnfmkhmcaaGreat
open Go.Abs

theorem zw0 {p f y:Int} (hp:2≤p∧p≤7) {b:V64} (hb:Res p b) (hf:0≤f∧f < p) (hy:Int.tmod y p=f) {i m:Nat} (hi:i + m < 64) {s t:V64} (hs:Res p s) :
  ∃ s',yK (fun q:Int×V64=>uR (m:Int) y p ((i + m:Nat):Int) b t q.1 q.2) (0,s)=some (s',yO t i f)∧Res p s'∧∀ j,j < 64→rd s'.1 j=zcp p (rd b.1) m f i (rd s.1) j:=by
 have e0:IntKind.i64.wrap (((i + m:Nat):Int) - (m:Int))=(i:Int):=by rw [zX (by omega) (by omega)]; omega
 by_cases h0:f=0
 ·refine ⟨s,?_,hs,fun j hj=>?_⟩
  ·have step:uR (m:Int) y p ((i + m:Nat):Int) b t 0 s=some (.inr (s,yO t i f)):=by
    simp only [uR,hy]
    rw [if_pos (decide_eq_true (by omega))]
    simp only [Option.bind_some]
    rw [if_neg (by rw [h0]; simp),e0,Int.toNat_natCast,zjd (by omega) (by omega)]
   rw [yR]
   simp only [step,Option.bind_some]
  ·unfold zcp
   split
   ·have:=hs j hj
    rw [h0,Int.zero_mul,Int.sub_zero,Int.emod_eq_of_lt this.1 this.2]
   ·rfl
 ·obtain ⟨s',h1,h2,h3⟩:=wR (body:=fun q:Int×V64=>uR (m:Int) y p ((i + m:Nat):Int) b t q.1 q.2) (fun k (u:V64)=>((k:Int),u)) (fun u=>(u,yO t i f)) (m + 1)
   (fun k u=>Res p u∧∀ j,j < 64→rd u.1 j=if i≤j∧j < i + k then (rd s.1 j - f*rd b.1 (j - i)) % p else rd s.1 j) (fun k u hk hI=>by
    obtain ⟨hur,hu⟩:=hI
    have hbk:=hb k (by omega)
    have hsk:=hs (i + k) (by omega)
    have hm:=mJ (x:=f) (y:=rd b.1 k) (by omega) (by omega)
    have e1:IntKind.i64.wrap ((i:Int) + (k:Int))=((i + k:Nat):Int):=by rw [zX (by omega) (by omega)]; omega
    have huk:=hu (i + k) (by omega)
    rw [if_neg (by omega)] at huk
    have ht1:=Int.lt_tmod_of_pos (rd s.1 (i + k) - f*rd b.1 k) (show 0 < p by omega)
    have ht2:=Int.tmod_lt_of_pos (rd s.1 (i + k) - f*rd b.1 k) (show 0 < p by omega)
    have hr:=zao (show 0 < p by omega) (rd s.1 (i + k) - f*rd b.1 k)
    refine ⟨yO u (i + k) ((rd s.1 (i + k) - f*rd b.1 k) % p),?_,fun j hj=>?_,fun j hj=>?_⟩
    ·simp only [uR,kR,hy,e0]
     rw [if_pos (decide_eq_true (by omega))]
     simp only [Option.bind_some]
     rw [if_pos (by simpa using h0),e1,zY (by omega),zY (by omega),zY (by omega),zY (by omega),zY (by omega),Int.toNat_natCast,Int.toNat_natCast,huk]
     rw [zX (n:=rd b.1 k) (by omega) (by omega),zX (n:=f*rd b.1 k) (by omega) (by omega),zX (n:=rd s.1 (i + k)) (by omega) (by omega),zX (n:=rd s.1 (i + k) - f*rd b.1 k) (by omega) (by omega),zX (n:=_ + p) (by omega) (by omega),zme (by omega),zjd (by omega) (by omega),zX (by omega) (by omega)]
     rfl
    ·rw [zbc _ _ _ _ (by omega)]
     split
     ·exact hr
     ·exact hur j hj
    ·rw [zbc _ _ _ _ (by omega),hu j hj]
     by_cases e:j=i + k
     ·subst e
      rw [if_pos rfl,if_pos (by omega),show i + k - i=k by omega]
     ·rw [if_neg e]
      by_cases hc:i≤j∧j < i + k
      ·rw [if_pos hc,if_pos (by omega)]
      ·rw [if_neg hc,if_neg (by omega)]) (fun u hI=>by
    simp only [uR,hy,e0]
    rw [if_neg (by rw [decide_eq_true_eq]; omega)]
    simp only [Option.bind_some,Bool.false_eq_true,if_false]
    rw [Int.toNat_natCast,zjd (by omega) (by omega)]) (m + 1) 0 s (by omega) ⟨hs,fun j hj=>by rw [if_neg (by omega)]⟩
  refine ⟨s',h1,h2,fun j hj=>?_⟩
  rw [h3 j hj]
  unfold zcp
  simp only [show (i≤j∧j < i + (m + 1))=(i≤j∧j≤i + m) from by rw [eq_iff_iff]; omega]
theorem zqz {p:Int} (hp:isP p=true) {b:V64} (hb:Res p b) {m:Nat} {iv:Int} (hiv:0≤iv∧iv < p):∀ (i:Nat) (s t:V64),i + m≤64→Res p s →
  ∃ s' t',yK (fun q:Int×V64×V64=>vM (m:Int) iv p b q.1 q.2.1 q.2.2) ((i:Int) + m - 1,s,t)=some (s',t') ∧
   (∀ j,j < 64→rd s'.1 j=znx p (rd b.1) m iv i (rd s.1) j)∧∀ j,j < 64→rd t'.1 j=if j < i then zh4 p (rd b.1) m iv i (rd s.1) j else rd t.1 j
 | 0,s,t,hi,_=>by
  refine ⟨s,t,?_,fun _ _=>rfl,fun j _=>by rw [if_neg (by omega)]⟩
  have step:vM (m:Int) iv p b (((0:Nat):Int) + m - 1) s t=some (.inr (s,t)):=by
   simp only [vM]
   rw [if_neg (by rw [decide_eq_true_eq]; omega)]
  rw [yR]
  simp only [step,Option.bind_some]
 | i + 1,s,t,hi,hs=>by
  have hp2:=wU hp
  have hsx:=hs (i + m) (by omega)
  have hm:=mJ (x:=rd s.1 (i + m)) (y:=iv) (by omega) (by omega)
  have hf:=zao (show 0 < p by omega) (rd s.1 (i + m)*iv)
  have e0:((i + 1:Nat):Int) + m - 1=((i + m:Nat):Int):=by omega
  have e1:IntKind.i64.wrap (((i + m:Nat):Int) - (m:Int))=(i:Int):=by rw [zX (by omega) (by omega)]; omega
  have hy:Int.tmod (rd s.1 (i + m)*iv) p=zhy p iv m i (rd s.1):=Int.tmod_eq_emod_of_nonneg hm.1
  obtain ⟨s1,g1,g2,g3⟩:=zw0 hp2 hb (f:=zhy p iv m i (rd s.1)) hf hy (i:=i) (m:=m) (by omega) (t:=t) hs
  obtain ⟨s',t',k1,k2,k3⟩:=zqz hp hb (m:=m) hiv i s1 (yO t i (zhy p iv m i (rd s.1))) (by omega) g2
  -- the functions agree on the places that there are
  have hz:∀ j,64≤j→rd s1.1 j=zcp p (rd b.1) m (zhy p iv m i (rd s.1)) i (rd s.1) j:=fun j hj=>by
   rw [vS (by rw [s1.2]; exact hj)]
   unfold zcp
   rw [if_neg (by omega),vS (by rw [s.2]; exact hj)]
  have hs1:rd s1.1=zcp p (rd b.1) m (zhy p iv m i (rd s.1)) i (rd s.1):=funext fun j=>by
   rcases Nat.lt_or_ge j 64 with h | h
   ·exact g3 j h
   ·exact hz j h
  refine ⟨s',t',?_,fun j hj=>?_,fun j hj=>?_⟩
  ·have step:vM (m:Int) iv p b (((i + 1:Nat):Int) + m - 1) s t=some (.inl ((i:Int) + m - 1,s1,yO t i (zhy p iv m i (rd s.1)))):=by
    rw [e0]
    simp only [vM,kR,e1]
    rw [if_pos (decide_eq_true (by omega)),zY (by omega),Int.toNat_natCast,zX (n:=rd s.1 (i + m)) (by omega) (by omega),zX (n:=iv) (by omega) (by omega),zX (n:=rd s.1 (i + m)*iv) (by omega) (by omega),zY (by omega),zY (by omega),g1]
    simp only [Option.bind_some]
    rw [zX (by omega) (by omega)]
    congr 3
   rw [yR]
   simp only [step,Option.bind_some]
   exact k1
  ·rw [k2 j hj,hs1]; rfl
  ·rw [k3 j hj,hs1]
   simp only [zh4]
   by_cases e:j=i
   ·subst e
    rw [if_neg (by omega),if_pos (by omega),if_pos rfl,zbc _ _ _ _ hj,if_pos rfl]
   ·by_cases h:j < i
    ·rw [if_pos h,if_pos (by omega),if_neg e]
    ·rw [if_neg h,if_neg (by omega),zbc _ _ _ _ (by omega),if_neg e]
theorem ze2 {l:List Int} (hl:l.length≤64):rd (yP l).1=rd l:=funext fun j=>by
 rcases Nat.lt_or_ge j 64 with h | h
 ·exact uW l h
 ·rw [vS (by rw [(yP l).2]; exact h),vS (by omega)]
theorem zlt {p:Int} (hp:isP p=true) {a b:List Int} (ha:Row p a) (hb:Row p b) (h0:b.length ≠ 0) (la:a.length≤64) (lb:b.length≤64):kF p (yP a) (yP b)=some (yP (quo p a b),yP (rem p a b)):=by
 have hp2:=wU hp
 have hta:top (rd (yP a).1) 64=a.length:=by rw [zf1 64 fun i hi=>uW a hi,ha.top la]
 have htb:top (rd (yP b).1) 64=b.length:=by rw [zf1 64 fun i hi=>uW b hi,hb.top lb]
 have hlead:=zbn (show 0 < p by omega) hb h0
 have hinv:=zet hp hlead
 have e1:((b.length:Nat):Int) - 1=((b.length - 1:Nat):Int):=by omega
 simp only [kF,zkd,hta,htb,Option.bind_some,e1]
 have hl:rd (yP b).1 (b.length - 1)=wG b:=by rw [uW _ (by omega)]; rfl
 rw [zY (by omega),Int.toNat_natCast,hl,zfv hp hlead]
 simp only [Option.bind_some]
 rcases Nat.lt_or_ge a.length b.length with h | h
 ·have step:vM ((b.length - 1:Nat):Int) (inv p (wG b)) p (yP b) ((a.length:Int) - 1) (yP a) (yH 64 0)=some (.inr (yP a,yH 64 0)):=by
   simp only [vM]
   rw [if_neg (by rw [decide_eq_true_eq]; omega)]
  rw [yR]
  simp only [step,Option.bind_some]
  have e2:quo p a b=[]:=by
   have:=zg0 p a b
   exact List.eq_nil_of_length_eq_zero (by omega)
  have e3:rem p a b=a:=by
   unfold rem
   rw [show a.length + 1 - b.length=0 by omega]
   exact ha.ofF (Nat.le_refl _)
  rw [e2,e3,zb7]
 ·obtain ⟨s',t',k1,k2,k3⟩:=zqz hp (za5 hb (by omega)) (m:=b.length - 1) (iv:=inv p (wG b)) ⟨by omega,hinv.2.1⟩ (a.length + 1 - b.length) (yP a) (yH 64 0) (by omega) (za5 ha (by omega))
  have e2:((a.length + 1 - b.length:Nat):Int) + ((b.length - 1:Nat):Int) - 1=(a.length:Int) - 1:=by omega
  rw [e2] at k1
  rw [k1]
  simp only [Option.bind_some]
  rw [ze2 la,ze2 lb] at k2 k3
  congr 2
  ·refine ze7 fun j hj=>?_
   rw [k3 j hj,uW _ hj,z2e]
   split
   ·rfl
   ·rw [zgw _ hj,zsr _ _ _ (by omega)]
  ·refine ze7 fun j hj=>?_
   rw [k2 j hj,uW _ hj,zvz a h0]
end Go.Proofs.YtebfhlnfmkhmcaaGreat
/- Sums, in the reference. -/
namespace Go.Proofs.YtebfhlnfmkhmcaaGreat
open Go.Abs

theorem z4v {p k:Int} {a b:V64} (hp:0 < p∧p≤256) (ha:V64.Ent a) (hb:V64.Ent b) (hk:-1099511627776≤k∧k≤1099511627776) :
  ∃ v,xS p a b k=some v∧∀ j,j < 64→rd v.1 j=(rd a.1 j + k*rd b.1 j) % p:=by
 obtain ⟨s,h1,h2⟩:=wR (body:=fun s:Int×V64=>nV k b p s.1 s.2) (fun i s=>((i:Int),s)) (fun s=>s) 64
  (fun i s=>∀ j,j < 64→rd s.1 j=if j < i then (rd a.1 j + k*rd b.1 j) % p else rd a.1 j) (fun i s hi hI=>by
   have hs:=hI i hi
   rw [if_neg (by omega)] at hs
   have h1:=ha i hi
   have h0:=hb i hi
   have h2:=z6m (hb i hi) hk
   have h3:=Int.lt_tmod_of_pos (rd a.1 i + k*rd b.1 i) hp.1
   have h4:=Int.tmod_lt_of_pos (rd a.1 i + k*rd b.1 i) hp.1
   have h5:=zao hp.1 (rd a.1 i + k*rd b.1 i)
   refine ⟨yO s i ((rd a.1 i + k*rd b.1 i) % p),?_,fun j hj=>?_⟩
   ·simp only [nV,kR,Int.toNat_natCast,hs]
    rw [if_pos (by simp; omega),zY (by omega),zY (by omega),zY (by omega),zY (by omega),zY (by omega)]
    rw [zX (n:=rd b.1 i) (by omega) (by omega),zX (n:=rd a.1 i) (by omega) (by omega),zX (n:=k*rd b.1 i) (by omega) (by omega),zX (n:=rd a.1 i + k*rd b.1 i) (by omega) (by omega),zX (n:=_ + p) (by omega) (by omega),zme hp.1,zjd (by omega) (by omega),zX (by omega) (by omega)]
    rfl
   ·rw [zbc _ _ _ _ hi,hI j hj]
    by_cases h:j=i
    ·subst h; simp
    ·rw [if_neg h]
     simp only [show (j < i + 1)=(j < i) from by rw [eq_iff_iff]; omega]) (fun s hI=>by
   simp only [nV,kR]
   rw [if_neg (by simp)]) 64 0 a (by omega) (fun j hj=>by rw [if_neg (by omega)])
 refine ⟨s,?_,fun j hj=>by rw [h2 j hj,if_pos hj]⟩
 have h1':yK (fun s:Int×V64=>nV k b p s.1 s.2) (0,a)=some s:=h1
 simp only [xS,h1',Option.bind_some]

theorem zdl {p k:Int} {a b:List Int} (hp:0 < p∧p≤256) (ha:Row p a) (hb:Row p b) (la:a.length≤64) (lb:b.length≤64) (hk:-1099511627776≤k∧k≤1099511627776) :
  xS p (yP a) (yP b) k=some (yP (zb8 p a b k)):=by
 obtain ⟨v,h1,h2⟩:=z4v hp (zym ha hp) (zym hb hp) hk
 rw [h1]
 congr 1
 exact ze7 fun j hj=>by rw [h2 j hj,uW _ hj,uW _ hj,uW _ hj,zfr]
end Go.Proofs.YtebfhlnfmkhmcaaGreat
/- Sums with multiples, quotients, in the reference. -/
namespace Go.Proofs.YtebfhlnfmkhmcaaGreat
open Go.Abs

variable {P:Pri}
theorem z0s {P:Pri}:(ppT:PP P).len=2:=rfl
theorem z4t {a b:PP P} (hb:b ≠ 0) (la:a.len≤64) (lb:b.len≤64):kF P.p (yP a.1) (yP b.1)=some (yP (zbf a b).1,yP (yX a b).1):=zlt P.okp a.2 b.2 (zdq hb) la lb
theorem zre (a:PP P) (la:a.len≤64):yW (yP a.1)=some ((a.len:Int) - 1):=by
 rw [zkd,ze2 la,a.2.top la]; rfl
theorem zt9 (x a:PP P) (k:Nat):zb8 P.p x.1 a.1 k=(x + mF k a).1:=by
 refine zg8 (zbk P.pos _ _ _) (x + mF k a).2 fun i=>?_
 have h:(x + mF k a).c i=(x.c i + (mF k a).c i) % P.p:=zf3 _ _ _
 rw [zfr]
 show _=(x + mF k a).c i
 rw [h,zok,Int.add_emod_emod]; rfl
theorem zo8 (k:Nat) (a:PP P):(mF k a).len≤a.len:=by
 induction k with
 | zero=>show 0≤_; omega
 | succ k ih =>
  have:=zb3 (mF k a) a
  simp only [mF]; omega
theorem z7e {a b:PP P} (la:a.len≤64) (lb:b.len≤64) {k:Nat} (hk:k≤1099511627776):xS P.p (yP a.1) (yP b.1) k=some (yP (a + mF k b).1):=by
 rw [zdl P.sm a.2 b.2 la lb (by omega),zt9]
end Go.Proofs.YtebfhlnfmkhmcaaGreat
/- Monic polynomials. -/
namespace Go.Proofs.YtebfhlnfmkhmcaaGreat
open Go.Abs

variable {P:Pri}
def Mo (a:PP P):Prop:=wG a.1=1
theorem Mo.ne {a:PP P} (h:Mo a):a ≠ 0:=fun e=>by
 subst e
 have:wG ([]:List Int)=1:=h
 simp [wG,rd] at this
theorem zi3 (a:PP P):wG a.1=a.c (a.len - 1):=rfl
/-- A polynomial made monic. -/
def mon (a:PP P):PP P:=mF (inv P.p (wG a.1)).toNat a
theorem zpm {a:PP P} (ha:a ≠ 0):∃ u v:PP P,mon a=u*a∧a=v*mon a∧(mon a).len=a.len∧Mo (mon a):=by
 have hl:=zbn P.pos a.2 (zdq ha)
 have hi:=zet P.okp hl
 obtain ⟨k,hk⟩:∃ k:Nat,inv P.p (wG a.1)=k:=⟨(inv P.p (wG a.1)).toNat,by omega⟩
 have e1:mon a=mF k a:=by unfold mon; rw [hk,Int.toNat_natCast]
 have e2:mon a=mF k 1*a:=by rw [e1,zN.mul_comm,zN.mul_nsm,zN.mul_one]
 have hc:(mon a).c (a.len - 1)=1:=by
  rw [e1,zok,← zi3,← hk,Int.mul_comm,hi.2.2]
 have hle:(mon a).len≤a.len:=by rw [e1]; exact zo8 k a
 have hpos:=qU ha
 have hge:a.len - 1 < (mon a).len:=by
  rcases Nat.lt_or_ge (a.len - 1) (mon a).len with h | h
  ·exact h
  ·have h0:(mon a).c (a.len - 1)=0:=vS h
   rw [h0] at hc; omega
 have hlen:(mon a).len=a.len:=by omega
 have hmo:Mo (mon a):=by
  unfold Mo
  rw [zi3,hlen,hc]
 obtain ⟨l,hll⟩:∃ l:Nat,wG a.1=l:=⟨(wG a.1).toNat,by omega⟩
 refine ⟨mF k 1,mF l 1,e2,?_,hlen,hmo⟩
 have e3:mF l 1*mon a=mF l (mon a):=by rw [zN.mul_comm,zN.mul_nsm,zN.mul_one]
 rw [e3,e1]
 refine ze1 fun i=>?_
 have hki:(l:Int)*k % P.p=1:=by rw [← hll,← hk]; exact hi.2.2
 rw [zok,zok,Int.mul_emod,Int.emod_emod,← Int.mul_emod,← Int.mul_assoc,Int.mul_emod,hki,Int.one_mul,Int.emod_emod,a.c_mod]
theorem zky {a:PP P} (ha:a ≠ 0):(mon a).len=a.len:=by obtain ⟨u,v,_,_,h,_⟩:=zpm ha; exact h
theorem zst {a:PP P} (ha:a ≠ 0):Mo (mon a):=by obtain ⟨u,v,_,_,_,h⟩:=zpm ha; exact h
theorem z16 {a:PP P} (ha:a ≠ 0):Dv a (mon a)∧Dv (mon a) a:=by obtain ⟨u,v,h1,h2,_,_⟩:=zpm ha; exact ⟨⟨u,h1⟩,⟨v,h2⟩⟩
/-- Monic polynomials that divide each other are the same. -/
theorem z6v {a b:PP P} (ha:Mo a) (hb:Mo b) (h1:Dv a b) (hl:a.len=b.len):a=b:=by
 obtain ⟨q,e⟩:=h1
 have hq:q ≠ 0:=fun h=>hb.ne (by rw [e,h,zN.zero_mul])
 have h2:=zcs hq ha.ne
 rw [← e] at h2
 have h3:=qU hq
 have h4:=qU ha.ne
 have hq1:q.len=1:=by omega
 have e2:b.c (b.len - 1)=q.c 0*a.c (a.len - 1) % P.p:=by
  rw [e,zm9]
  have e3:(q*a).len - 1=0 + (a.len - 1):=by rw [← e]; omega
  rw [e3,znw (a:=q.c) (b:=a.c) (n:=0) (m:=a.len - 1)]
  ·intro i hi; exact vS (by have:q.1.length=1:=hq1; omega)
  ·intro i hi; exact vS (by show a.len≤i; omega)
 rw [← zi3,← zi3,show wG a.1=1 from ha,show wG b.1=1 from hb,Int.mul_one,q.c_mod] at e2
 have e4:q=1:=ze1 fun i=>by
  rw [zyp]
  by_cases hi:i=0
  ·subst hi; rw [if_pos rfl,← e2]
  ·rw [if_neg hi]; exact vS (by have:q.1.length=1:=hq1; omega)
 rw [e,e4,zN.one_mul]
end Go.Proofs.YtebfhlnfmkhmcaaGreat
/- Forms over polynomials: reduced forms of one class are equal. -/
namespace Go.Proofs.YtebfhlnfmkhmcaaGreat
open Go.Abs
variable {P:Pri}
structure Dsc (D:PP P) (G:Nat):Prop where
 len:D.len=2*G + 2
 sqf:∀ π:PP P,Irr π→¬ Dv (π*π) D
 odd:P.n ≠ 2
structure Fm (D a b:PP P):Prop where
 mo:Mo a
 len:b.len < a.len
 dv:∃ c,b*b + -D=a*c
theorem z5u (h:P.n ≠ 2):(1 + 1:PP P) ≠ 0:=fun e=>by
 have h1:(1 + 1:PP P).c 0=0:=by rw [e]; exact zpo 0
 rw [zf3,zyp,if_pos rfl] at h1
 have hp:=P.is
 have e2:P.p=(P.n:Int):=rfl
 rw [e2] at h1
 rcases hp with h2 | h2 | h2 | h2 <;> rw [h2] at h1 <;> first | exact h h2 | exact absurd h1 (by decide)
theorem z3x (h:P.n ≠ 2) {π y:PP P} (hπ:Irr π) (hd:Dv π (y + y)):Dv π y:=by
 have e:y + y=(1 + 1)*y:=by rw [zN.add_mul,zN.one_mul]
 rw [e] at hd
 rcases hπ.prime hd with h1 | h1
 ·have h2:=zds h1 (z5u h)
  have h3:=zb3 (1:PP P) 1
  rw [zfu] at h3
  have:=hπ.1
  omega
 ·exact h1
theorem zsf {a b:PP P} (h:b.len < a.len):(a + b).len=a.len:=by
 have h1:=zb3 a b
 have h2:=zb3 (a + b) (-b)
 have h3:=zb4 b
 rw [zN.add_assoc,zN.add_neg,zN.add_zero] at h2
 omega
theorem zur (a:PP P):(-a).len=a.len:=by
 have h1:=zb4 a
 have h2:=zb4 (-a)
 rw [zN.neg_neg] at h2
 omega
theorem zpr {a b:PP P} (h:a.len ≠ b.len):(a + -b).len=max a.len b.len:=by
 have h1:=zur b
 rcases Nat.lt_or_gt_of_ne h with h2 | h2
 ·rw [zN.add_comm,zsf (by omega)]; omega
 ·rw [zsf (by omega)]; omega
/-- No irreducible polynomial divides all of what a composition shares. -/
theorem cop {D:PP P} {G:Nat} (hD:Dsc D G) {d p g b c m:PP P} (n:PP P) (hd:d ≠ 0) (hZ:b + c=d*g) (h1:b*b + -D=d*p*m):∃ e f h k:PP P,e*d + f*(c + -b) + h*m + k*n=1:=by
 obtain ⟨g1,u1,v1,e1,d1,d1'⟩:=zn5 _ d (c + -b) (Nat.le_refl _)
 obtain ⟨g2,u2,v2,e2,d2,d2'⟩:=zn5 _ g1 m (Nat.le_refl _)
 obtain ⟨g3,u3,v3,e3,d3,d3'⟩:=zn5 _ g2 n (Nat.le_refl _)
 have R:IsRing (PP P):=zN
 have k1:Dv g3 d:=R.dv_trans (R.dv_trans d3 d2) d1
 have k2:Dv g3 (c + -b):=R.dv_trans (R.dv_trans d3 d2) d1'
 have k3:Dv g3 m:=R.dv_trans d3 d2'
 have hg0:g3 ≠ 0:=fun e=>hd (by
  obtain ⟨q,hq⟩:=k1
  rw [hq,e,R.mul_zero])
 have hp:=qU hg0
 by_cases hl:g3.len=1
 ·obtain ⟨w,hw⟩:=zsq hl
  refine ⟨w*(u3*(u2*u1)),w*(u3*(u2*v1)),w*(u3*v2),w*v3,?_⟩
  rw [← hw,e3,e2,e1]
  exact (z5a R w u3 v3 u2 v2 u1 v1 d (c + -b) m n).symm
 ·obtain ⟨π,hπ,hdv⟩:=zix _ g3 (Nat.le_refl _) (by omega)
  have q1:=R.dv_trans hdv k1
  have q2:=R.dv_trans hdv k2
  have q3:=R.dv_trans hdv k3
  have q4:Dv π (b + c):=by rw [hZ]; exact R.dv_mul' q1 g
  have q5:Dv π (b + b):=by
   rw [← z6c R b c]
   exact R.dv_add q4 (R.dv_neg q2)
  obtain ⟨y,hy⟩:=z3x hD.odd hπ q5
  obtain ⟨z,hz⟩:=q1
  obtain ⟨w,hw⟩:=q3
  refine absurd ?_ (hD.sqf π hπ)
  rw [D_of R h1,hy,hz,hw]
  exact ⟨_,(z3c R π y z w p)⟩
/-- Norms. -/
theorem z1v {D:PP P} {G:Nat} (hD:Dsc D G) {x:Qd D} (hv:x.v ≠ 0):D.len≤(nm x).len:=by
 have hDn:D ≠ 0:=fun e=>by have:=hD.len; rw [wT.2 e] at this; omega
 have hvv:x.v*x.v ≠ 0:=fun e=>by rcases zeb _ _ e with h | h <;> exact hv h
 have l1:=zcs hv hv
 have l2:=zcs hDn hvv
 have l3:=qU hv
 have hl:=hD.len
 have l4:(x.u*x.u).len=0∨(x.u*x.u).len % 2=1:=by
  by_cases hu:x.u=0
  ·left; rw [hu,zN.mul_zero]; rfl
  ·right
   have:=zcs hu hu
   have:=qU hu
   omega
 unfold nm
 rw [zpr (by omega)]
 omega
theorem z4c {D:PP P} {G:Nat} (hD:Dsc D G) {x:Qd D} (h:nm x=0):x=0:=by
 by_cases hv:x.v=0
 ·have h1:x.u*x.u=0:=by
   unfold nm at h
   rwa [hv,zN.mul_zero,zN.mul_zero,zN.neg_zero,zN.add_zero] at h
  have h2:x.u=0:=by rcases zeb _ _ h1 with h | h <;> exact h
  exact nG h2 hv
 ·have h1:=z1v hD hv
  rw [h,wT.2 rfl] at h1
  have:=hD.len
  omega
theorem zv8 {D:PP P} {G:Nat} (hD:Dsc D G) (x y:Qd D) (h:x*y=0):x=0∨y=0:=by
 have h1:nm x*nm y=0:=by
  rw [← z3z zN,h]
  show (0:PP P)*0 + -(D*(0*0))=0
  rw [zN.mul_zero,zN.mul_zero,zN.neg_zero,zN.add_zero]
 rcases zeb _ _ h1 with h2 | h2
 ·exact .inl (z4c hD h2)
 ·exact .inr (z4c hD h2)
theorem zup {D a:PP P} (ha:a ≠ 0):(⟨a,0⟩:Qd D) ≠ 0:=fun e=>ha (congrArg Qd.u e)
theorem ztq {D:PP P} (a b:PP P):(⟨a,0⟩:Qd D)*⟨b,0⟩=⟨a*b,0⟩:=nG (zqp zN D a b 0) (by show a*0 + 0*b=0; rw [zN.mul_zero,zN.zero_mul,zN.add_zero])
/-- A form times its opposite. -/
theorem z5q {D:PP P} {G:Nat} (hD:Dsc D G) {a b c:PP P} (ha:a ≠ 0) (h:b*b + -D=a*c):Pr (FI D a b) (FI D a (-b))=Sc (⟨a,0⟩:Qd D) fun _=>True:=by
 have R:IsRing (PP P):=zN
 have h1:b*b + -D=a*1*c:=by rw [R.mul_one]; exact h
 have h2:-b*-b + -D=a*1*c:=by rw [R.mul_one,R.mul_neg,zic R,R.neg_neg]; exact h
 have hZ:b + -b=a*0:=by rw [R.add_neg,R.mul_zero]
 obtain ⟨e,f,h',k,hG⟩:=cop hD (p:=1) c ha hZ h1
 have hc:=zx0 R (D:=D) (d:=a) (p:=1) (q:=1) (g:=0) (b:=b) (c:=-b) (m:=c) (n:=c) (r:=1) (s:=0) (t:=0) hZ h1 h2 (by rw [R.mul_one,R.zero_mul,R.zero_mul,R.add_zero,R.add_zero]) (by rw [R.zero_mul,R.one_mul,R.add_neg]) hG
 rw [R.mul_one] at hc
 rw [hc,R.mul_one,zsl R]
end Go.Proofs.YtebfhlnfmkhmcaaGreat
/- Reduced forms of one class are the same. -/
namespace Go.Proofs.YtebfhlnfmkhmcaaGreat
open Go.Abs
variable {P:Pri}
theorem zpt {K:Type} [Add K] [Mul K] [Neg K] [Zero K] [One K] (R:IsRing K) (a:K):Sc a (fun _=>True) a:=⟨1,trivial,(R.mul_one a).symm⟩
theorem zyl {K:Type} [Add K] [Mul K] [Neg K] [Zero K] [One K]:Idl (fun _:K=>True):=⟨trivial,fun _ _=>trivial,fun _ _ _=>trivial⟩
theorem zku {D:PP P}:(1:Qd D) ≠ 0:=fun e=>zv5 (congrArg Qd.u e)
theorem z5p {D:PP P} (a b:PP P):FI D a b ⟨a,0⟩:=⟨1,by rw [zN.mul_zero,zN.zero_add,zN.mul_one]⟩
theorem z3w {D:PP P} (a b:PP P):FI D a b ⟨b,1⟩:=⟨0,by rw [zN.mul_one,zN.mul_zero,zN.add_zero]⟩
theorem Fm.idl {D a b:PP P} (h:Fm D a b):Idl (FI D a b):=by
 obtain ⟨c,hc⟩:=h.dv
 exact zwc zN hc
theorem Fm.opp {D:PP P} {G:Nat} (hD:Dsc D G) {a b:PP P} (h:Fm D a b):Pr (FI D a b) (FI D a (-b))=Sc (⟨a,0⟩:Qd D) fun _=>True:=by
 obtain ⟨c,hc⟩:=h.dv
 exact z5q hD h.mo.ne hc
theorem zoe {a b c:PP P} (ha:a ≠ 0) (h:a*b=a*c):b=c:=by
 have:a*(b + -c)=0:=by rw [zN.mul_add,zN.mul_neg,h,zN.add_neg]
 exact zN.sub_zero ((zeb _ _ this).resolve_left ha)
theorem z6n {D a b a' b':PP P} (h:Fm D a b) (h':Fm D a' b') (e:FI D a b=FI D a' b'):a=a'∧b=b':=by
 have R:IsRing (PP P):=zN
 have h1:FI D a' b' ⟨a,0⟩:=by rw [← e]; exact z5p a b
 have h2:FI D a b ⟨a',0⟩:=by rw [e]; exact z5p a' b'
 have h3:FI D a' b' ⟨b,1⟩:=by rw [← e]; exact z3w a b
 obtain ⟨x,hx⟩:=h1
 obtain ⟨y,hy⟩:=h2
 obtain ⟨z,hz⟩:=h3
 have hx':a=a'*x:=by rw [R.mul_zero,R.zero_add] at hx; exact hx
 have hy':a'=a*y:=by rw [R.mul_zero,R.zero_add] at hy; exact hy
 have d1:Dv a' a:=⟨x,by rw [R.mul_comm]; exact hx'⟩
 have d2:Dv a a':=⟨y,by rw [R.mul_comm]; exact hy'⟩
 have l1:=zds d1 h.mo.ne
 have l2:=zds d2 h'.mo.ne
 have ea:a=a':=z6v h.mo h'.mo d2 (by omega)
 refine ⟨ea,?_⟩
 have hz':b + -b'=z*a':=by
  have hz2:b=b' + a'*z:=by
   have:b=b'*1 + a'*z:=hz
   rw [R.mul_one] at this; exact this
  rw [hz2,R.add_comm b',R.add_assoc,R.add_neg,R.add_zero,R.mul_comm]
 have hl:=h.len
 have hl':=h'.len
 have k1:=zb3 b (-b')
 have k2:=zb4 b'
 have hs:b + -b'=0:=zmh (a:=a') ⟨z,hz'⟩ (by rw [ea] at hl; omega)
 exact R.sub_zero hs
theorem z7l {D:PP P} {G:Nat} (hD:Dsc D G) {a b a' b':PP P} (h:Fm D a b) (h':Fm D a' b') (l:a.len≤G + 1) (l':a'.len≤G + 1) (hc:Cl (FI D a b) (FI D a' b')):a=a'∧b=b':=by
 have R:IsRing (PP P):=zN
 have Q:IsRing (Qd D):=zgf R
 have hd:∀ x y:Qd D,x*y=0→x=0∨y=0:=zv8 hD
 obtain ⟨α,β,hα,hβ,e⟩:=hc
 have ha0:=h.mo.ne
 have ha0':=h'.mo.ne
 have hO:=h.opp hD
 have hO':=h'.opp hD
 have e1:Sc α (Pr (FI D a b) (FI D a' (-b')))=Sc (β*⟨a',0⟩) fun _=>True:=by
  rw [← zlh Q,e,zlh Q,hO',zmz Q]
 obtain ⟨γ,hγ,hγe⟩:Sc α (Pr (FI D a b) (FI D a' (-b'))) (β*⟨a',0⟩):=by rw [e1]; exact zpt Q _
 have e2:Pr (FI D a b) (FI D a' (-b'))=Sc γ fun _=>True:=by
  refine zrp Q hd hα ?_
  rw [e1,zmz Q,hγe]
 have e3:Pr (FI D a (-b)) (FI D a' b')=Sc (cj γ) fun _=>True:=by
  have k1:=z6e R (FI D a b) (FI D a' (-b'))
  rw [z39 R,z39 R,R.neg_neg,e2,z6o R] at k1
  exact k1.symm
 have e4:Sc (⟨a*a',0⟩:Qd D) (fun _=>True)=Sc (⟨nm γ,0⟩:Qd D) fun _=>True:=by
  have k1:Pr (Pr (FI D a b) (FI D a' (-b'))) (Pr (FI D a (-b)) (FI D a' b'))=Pr (Pr (FI D a b) (FI D a (-b))) (Pr (FI D a' b') (FI D a' (-b'))):=by
   rw [zib Q,← zib Q (FI D a' (-b')),zcy Q (FI D a' (-b')) (FI D a (-b)),zib Q (FI D a (-b)),← zib Q (FI D a b),zcy Q (FI D a' (-b')) (FI D a' b')]
  rw [e2,e3,hO,hO',zlh Q,zcy Q (fun _=>True),zlh Q,zq0 Q zyl,zmz Q,z51 R,zlh Q,zcy Q (fun _=>True),zlh Q,zq0 Q zyl,zmz Q,ztq] at k1
  exact k1.symm
 have haa:a*a' ≠ 0:=fun e=>by rcases zeb _ _ e with h1 | h1 <;> contradiction
 obtain ⟨z,_,hz⟩:Sc (⟨nm γ,0⟩:Qd D) (fun _=>True) (⟨a*a',0⟩:Qd D):=by rw [← e4]; exact zpt Q _
 have hz1:a*a'=nm γ*z.u:=by
  have:=congrArg Qd.u hz
  rw [z6a] at this
  rw [← zqp R D (nm γ) z.u z.v]; exact this
 have hlen:=zds (a:=nm γ) ⟨z.u,hz1.trans (R.mul_comm _ _)⟩ haa
 have hlm:=zcs ha0 ha0'
 have hv:γ.v=0:=Classical.byContradiction fun hv=>by
  have:=z1v hD hv
  have:=hD.len
  omega
 obtain ⟨g,hg⟩:∃ g:PP P,γ=⟨g,0⟩:=⟨γ.u,nG rfl hv⟩
 rw [hg] at e2
 have e5:Sc (⟨a',0⟩:Qd D) (FI D a b)=Sc (⟨g,0⟩:Qd D) (FI D a' b'):=by
  have k1:Pr (Pr (FI D a b) (FI D a' (-b'))) (FI D a' b')=Pr (FI D a b) (Pr (FI D a' b') (FI D a' (-b'))):=by
   rw [zib Q,zcy Q (FI D a' (-b'))]
  rw [e2,hO',zlh Q,zcy Q (fun _=>True),zq0 Q h'.idl,zcy Q (FI D a b),zlh Q,zcy Q (fun _=>True),zq0 Q h.idl] at k1
  exact k1.symm
 have hg0:g ≠ 0:=fun hg0=>by
  obtain ⟨x,_,hx⟩:Sc (⟨g,0⟩:Qd D) (FI D a' b') ((⟨a',0⟩:Qd D)*⟨a,0⟩):=by rw [← e5]; exact ⟨_,z5p a b,rfl⟩
  rw [hg0] at hx
  have hz0:(⟨0,0⟩:Qd D)*x=0:=Q.zero_mul x
  rw [hz0,ztq] at hx
  exact haa (by rw [R.mul_comm]; exact congrArg Qd.u hx)
 have sv:∀ (k:PP P) (x:Qd D),((⟨k,0⟩:Qd D)*x).v=k*x.v:=fun k x=>z1z R k x.u x.v
 obtain ⟨k,hk⟩:∃ k,a'=g*k:=by
  obtain ⟨x,_,hx⟩:Sc (⟨g,0⟩:Qd D) (FI D a' b') ((⟨a',0⟩:Qd D)*⟨b,1⟩):=by rw [← e5]; exact ⟨_,z3w a b,rfl⟩
  have:=congrArg Qd.v hx
  rw [sv,sv] at this
  exact ⟨x.v,by rw [← this]; exact (R.mul_one _).symm⟩
 obtain ⟨l,hl⟩:∃ l,g=a'*l:=by
  obtain ⟨x,_,hx⟩:Sc (⟨a',0⟩:Qd D) (FI D a b) ((⟨g,0⟩:Qd D)*⟨b',1⟩):=by rw [e5]; exact ⟨_,z3w a' b',rfl⟩
  have:=congrArg Qd.v hx
  rw [sv,sv] at this
  exact ⟨x.v,by rw [← this]; exact (R.mul_one _).symm⟩
 have hlk:l*k=1:=zoe ha0' (by rw [← R.mul_assoc,← hl,R.mul_one]; exact hk.symm)
 have e6:FI D a b=Sc (⟨l,0⟩:Qd D) (FI D a' b'):=by
  refine zrp Q hd (zup ha0') ?_
  rw [e5,zmz Q,ztq,← hl]
 refine z6n h h' (e6.trans (zaj (fun x hx=>?_) (fun x hx=>?_)))
 ·obtain ⟨y,hy,rfl⟩:=hx
  exact h'.idl.mul _ hy
 ·refine ⟨_,h'.idl.mul ⟨k,0⟩ hx,?_⟩
  rw [← Q.mul_assoc,ztq,hlk]
  exact (Q.one_mul x).symm
end Go.Proofs.YtebfhlnfmkhmcaaGreat
/- Finite commutative groups. -/
namespace Go.Abs
structure AbG (X:Type) where
 op:X→X→X
 e:X
 comm:∀ a b,op a b=op b a
 assoc:∀ a b c,op (op a b) c=op a (op b c)
 one:∀ a,op e a=a
 inv:∀ a,∃ b,op b a=e
theorem zyy {X:Type}:∀ (l m:List X),l.Nodup→(∀ x∈l,x∈m)→m.length≤l.length→List.Perm l m
 | [],m,_,_,h=>by rw [List.eq_nil_of_length_eq_zero (Nat.le_zero.1 h)]
 | x :: l,m,hn,hs,h=>by
  obtain ⟨s,t,rfl⟩:=List.append_of_mem (hs x (List.mem_cons_self ..))
  have hn':=List.nodup_cons.1 hn
  have ih:=zyy l (s ++ t) hn'.2 (fun y hy=>by
   have h1:=hs y (List.mem_cons_of_mem _ hy)
   rcases List.mem_append.1 h1 with h2 | h2
   ·exact List.mem_append.2 (.inl h2)
   ·rcases List.mem_cons.1 h2 with h3 | h3
    ·exact absurd (h3 ▸ hy) hn'.1
    ·exact List.mem_append.2 (.inr h3)) (by simp only [List.length_append,List.length_cons] at h ⊢; omega)
  exact (ih.cons x).trans List.perm_middle.symm
namespace AbG
variable {X:Type} (G:AbG X)
def pw (f:X):Nat→X
 | 0=>G.e
 | n + 1=>G.op (pw f n) f
theorem one' (a:X):G.op a G.e=a:=by rw [G.comm,G.one]
theorem cancel {f a b:X} (h:G.op f a=G.op f b):a=b:=by
 obtain ⟨g,hg⟩:=G.inv f
 rw [← G.one a,← G.one b,← hg,G.assoc,G.assoc,h]
theorem pw_one (f:X):G.pw f 1=f:=G.one f
theorem pw_add (f:X) (m:Nat):∀ n,G.pw f (m + n)=G.op (G.pw f m) (G.pw f n)
 | 0=>(G.one' _).symm
 | n + 1=>by
  show G.op (G.pw f (m + n)) f=G.op (G.pw f m) (G.op (G.pw f n) f)
  rw [pw_add f m n,G.assoc]
theorem pw_mul (f:X) (m:Nat):∀ n,G.pw f (m*n)=G.pw (G.pw f m) n
 | 0=>rfl
 | n + 1=>by
  rw [Nat.mul_succ,pw_add,pw_mul f m n]
  rfl
theorem z6t:∀ n,G.pw G.e n=G.e
 | 0=>rfl
 | n + 1=>by
  show G.op (G.pw G.e n) G.e=_
  rw [G.one',z6t n]
theorem swap4 (a b c d:X):G.op (G.op a b) (G.op c d)=G.op (G.op a c) (G.op b d):=by
 rw [G.assoc,G.assoc,← G.assoc b,G.comm b c,G.assoc c]
/-- The product of all. -/
def all:List X→X
 | []=>G.e
 | x :: l=>G.op x (all l)
theorem all_perm {l m:List X} (h:List.Perm l m):G.all l=G.all m:=by
 induction h with
 | nil=>rfl
 | cons x _ ih=>simp only [all,ih]
 | swap x y l=>simp only [all]; rw [← G.assoc,← G.assoc,G.comm y x]
 | trans _ _ h1 h2=>exact h1.trans h2
theorem zx5 (f:X):∀ l,G.all (l.map (G.op f))=G.op (G.pw f l.length) (G.all l)
 | []=>(G.one _).symm
 | x :: l=>by
  simp only [List.map_cons,all,List.length_cons,pw,zx5 f l]
  rw [G.swap4,G.comm f]
theorem pw_card {L:List X} (hn:L.Nodup) (hL:∀ x,x∈L) (f:X):G.pw f L.length=G.e:=by
 have h1:List.Perm (L.map (G.op f)) L:=by
  refine zyy _ _ ?_ (fun x _=>hL x) (by rw [List.length_map]; exact Nat.le_refl _)
  unfold List.Nodup
  rw [List.pairwise_map]
  exact List.Pairwise.imp (fun h e=>h (G.cancel e)) hn
 have h2:=G.all_perm h1
 rw [zx5] at h2
 refine G.cancel (f:=G.all L) ?_
 rw [G.one',G.comm]
 exact h2
theorem z1m (p:Nat→Prop):∀ n,(∃ k,1≤k∧k≤n∧p k)→∃ k,1≤k∧k≤n∧p k∧∀ j,1≤j→j < k→¬ p j
 | 0,⟨k,h1,h2,_⟩=>by omega
 | n + 1,⟨k,h1,h2,h3⟩=>by
  by_cases h:∃ k,1≤k∧k≤n∧p k
  ·obtain ⟨k,a,b,c,d⟩:=z1m p n h
   exact ⟨k,a,by omega,c,d⟩
  ·refine ⟨k,h1,h2,h3,fun j a b c=>h ⟨j,a,by omega,c⟩⟩
/-- The order. -/
theorem order {L:List X} (hn:L.Nodup) (hL:∀ x,x∈L) (f:X):∃ k,1≤k∧k≤L.length∧G.pw f k=G.e∧(∀ j,1≤j→j < k→G.pw f j ≠ G.e)∧L.length % k=0:=by
 have h0:1≤L.length:=by
  rcases Nat.eq_zero_or_pos L.length with h | h
  ·have:=hL f; rw [List.eq_nil_of_length_eq_zero h] at this; cases this
  ·exact h
 obtain ⟨k,h1,h2,h3,h4⟩:=z1m (fun k=>G.pw f k=G.e) L.length ⟨L.length,h0,Nat.le_refl _,G.pw_card hn hL f⟩
 refine ⟨k,h1,h2,h3,h4,?_⟩
 have h5:=G.pw_card hn hL f
 rw [← Nat.div_add_mod L.length k,pw_add,pw_mul,h3,z6t,G.one] at h5
 rcases Nat.eq_zero_or_pos (L.length % k) with h | h
 ·exact h
 ·exact absurd h5 (h4 _ h (Nat.mod_lt _ (by omega)))
end AbG
end Go.Abs
/- Identities for reduction and composition. -/
namespace Go.Abs
section
variable {K:Type} [Add K] [Mul K] [Neg K] [Zero K] [One K]
theorem z6k (R:IsRing K) (A B D q r:K):r*r + -D=(q*A + r)*(q*A + r) + -D + -(A*(q*q*A + q*r + q*r)):=xB R [A,B,D,q,r] (.add (.mul (.v 4) (.v 4)) (.neg (.v 2))) (.add (.add (.mul (.add (.mul (.v 3) (.v 0)) (.v 4)) (.add (.mul (.v 3) (.v 0)) (.v 4))) (.neg (.v 2))) (.neg (.mul (.v 0) (.add (.add (.mul (.mul (.v 3) (.v 3)) (.v 0)) (.mul (.v 3) (.v 4))) (.mul (.v 3) (.v 4)))))) rfl
theorem z4p (R:IsRing K) (A C q r:K):A*C + -(A*(q*q*A + q*r + q*r))=A*(C + -(q*q*A + q*r + q*r)):=xB R [A,C,q,r] (.add (.mul (.v 0) (.v 1)) (.neg (.mul (.v 0) (.add (.add (.mul (.mul (.v 2) (.v 2)) (.v 0)) (.mul (.v 2) (.v 3))) (.mul (.v 2) (.v 3)))))) (.mul (.v 0) (.add (.v 1) (.neg (.add (.add (.mul (.mul (.v 2) (.v 2)) (.v 0)) (.mul (.v 2) (.v 3))) (.mul (.v 2) (.v 3)))))) rfl
theorem z1h (R:IsRing K) (D b:K):-b*-b + -D=b*b + -D:=xB R [D,b] (.add (.mul (.neg (.v 1)) (.neg (.v 1))) (.neg (.v 0))) (.add (.mul (.v 1) (.v 1)) (.neg (.v 0))) rfl
theorem zwy (R:IsRing K) (D b:K):b*b + -D=-(D + -(b*b)):=xB R [D,b] (.add (.mul (.v 1) (.v 1)) (.neg (.v 0))) (.neg (.add (.v 0) (.neg (.mul (.v 1) (.v 1))))) rfl
theorem z6b (R:IsRing K) (d g b c p q m n:K):d*(g*(c + -b) + -(q*n + -(p*m)))=d*g*(c + -b) + -(d*q*n + -(d*p*m)):=xB R [d,g,b,c,p,q,m,n] (.mul (.v 0) (.add (.mul (.v 1) (.add (.v 3) (.neg (.v 2)))) (.neg (.add (.mul (.v 5) (.v 7)) (.neg (.mul (.v 4) (.v 6))))))) (.add (.mul (.mul (.v 0) (.v 1)) (.add (.v 3) (.neg (.v 2)))) (.neg (.add (.mul (.mul (.v 0) (.v 5)) (.v 7)) (.neg (.mul (.mul (.v 0) (.v 4)) (.v 6)))))) rfl
theorem z48 (R:IsRing K) (D b c:K):(b + c)*(c + -b) + -(c*c + -D + -(b*b + -D))=0:=xB R [D,b,c] (.add (.mul (.add (.v 1) (.v 2)) (.add (.v 2) (.neg (.v 1)))) (.neg (.add (.add (.mul (.v 2) (.v 2)) (.neg (.v 0))) (.neg (.add (.mul (.v 1) (.v 1)) (.neg (.v 0))))))) .z rfl
theorem z59 (R:IsRing K) (d p q g r s t:K):d*(r*p + s*q + t*g)=r*(d*p) + s*(d*q) + t*(d*g):=xB R [d,p,q,g,r,s,t] (.mul (.v 0) (.add (.add (.mul (.v 4) (.v 1)) (.mul (.v 5) (.v 2))) (.mul (.v 6) (.v 3)))) (.add (.add (.mul (.v 4) (.mul (.v 0) (.v 1))) (.mul (.v 5) (.mul (.v 0) (.v 2)))) (.mul (.v 6) (.mul (.v 0) (.v 3)))) rfl
theorem z5o (R:IsRing K) (D d p q g b c r s t m:K):r*(d*p)*c + s*(d*q)*b + t*(b*c + D)=d*(r*p*c + s*q*b + t*(b*g + -(p*m))) + t*(b*(b + c + -(d*g)) + -(b*b + -D + -(d*p*m))):=xB R [D,d,p,q,g,b,c,r,s,t,m] (.add (.add (.mul (.mul (.v 7) (.mul (.v 1) (.v 2))) (.v 6)) (.mul (.mul (.v 8) (.mul (.v 1) (.v 3))) (.v 5))) (.mul (.v 9) (.add (.mul (.v 5) (.v 6)) (.v 0)))) (.add (.mul (.v 1) (.add (.add (.mul (.mul (.v 7) (.v 2)) (.v 6)) (.mul (.mul (.v 8) (.v 3)) (.v 5))) (.mul (.v 9) (.add (.mul (.v 5) (.v 4)) (.neg (.mul (.v 2) (.v 10))))))) (.mul (.v 9) (.add (.mul (.v 5) (.add (.add (.v 5) (.v 6)) (.neg (.mul (.v 1) (.v 4))))) (.neg (.add (.add (.mul (.v 5) (.v 5)) (.neg (.v 0))) (.neg (.mul (.mul (.v 1) (.v 2)) (.v 10)))))))) rfl
theorem y_u (R:IsRing K) (D B:K):0*B + D*(1*1)=D:=xB R [D,B] (.add (.mul .z (.v 1)) (.mul (.v 0) (.mul .o .o))) (.v 0) rfl
theorem y_v (R:IsRing K) (B:K):0*1 + 1*B=B:=xB R [B] (.add (.mul .z .o) (.mul .o (.v 0))) (.v 0) rfl
theorem z6i (R:IsRing K) (D B A w:K):B*B + -(B*B + A*w)=A*-w:=xB R [D,B,A,w] (.add (.mul (.v 1) (.v 1)) (.neg (.add (.mul (.v 1) (.v 1)) (.mul (.v 2) (.v 3))))) (.mul (.v 2) (.neg (.v 3))) rfl
theorem z6z (R:IsRing K) (d p q:K):d*p*(d*q)=d*d*(p*q):=xB R [d,p,q] (.mul (.mul (.v 0) (.v 1)) (.mul (.v 0) (.v 2))) (.mul (.mul (.v 0) (.v 0)) (.mul (.v 1) (.v 2))) rfl
theorem z0x (R:IsRing K) (k u v a b:K):k*(u*a + v*b)=k*u*a + k*v*b:=xB R [k,u,v,a,b] (.mul (.v 0) (.add (.mul (.v 1) (.v 3)) (.mul (.v 2) (.v 4)))) (.add (.mul (.mul (.v 0) (.v 1)) (.v 3)) (.mul (.mul (.v 0) (.v 2)) (.v 4))) rfl
theorem z0w (R:IsRing K) (w t u v a b s:K):w*(u*a + v*b) + t*s=w*u*a + w*v*b + t*s:=xB R [w,t,u,v,a,b,s] (.add (.mul (.v 0) (.add (.mul (.v 2) (.v 4)) (.mul (.v 3) (.v 5)))) (.mul (.v 1) (.v 6))) (.add (.add (.mul (.mul (.v 0) (.v 2)) (.v 4)) (.mul (.mul (.v 0) (.v 3)) (.v 5))) (.mul (.v 1) (.v 6))) rfl
theorem z45 (R:IsRing K) (q s t x y A B:K):(s + -(q*x))*A + (t + -(q*y))*B=s*A + t*B + -(q*(x*A + y*B)):=xB R [q,s,t,x,y,A,B] (.add (.mul (.add (.v 1) (.neg (.mul (.v 0) (.v 3)))) (.v 5)) (.mul (.add (.v 2) (.neg (.mul (.v 0) (.v 4)))) (.v 6))) (.add (.add (.mul (.v 1) (.v 5)) (.mul (.v 2) (.v 6))) (.neg (.mul (.v 0) (.add (.mul (.v 3) (.v 5)) (.mul (.v 4) (.v 6)))))) rfl
end
end Go.Abs
/- Reduction and composition of forms, in classes; the group of reduced forms. -/
namespace Go.Proofs.YtebfhlnfmkhmcaaGreat
open Go.Abs
variable {P:Pri}
theorem zuq {a b:PP P} (ha:a ≠ 0) (hb:b ≠ 0):wG (a*b).1=wG a.1*wG b.1 % P.p:=by
 have h1:=zcs ha hb
 have h2:=qU ha
 have h3:=qU hb
 rw [zi3,zi3,zi3,zm9,show (a*b).len - 1=(a.len - 1) + (b.len - 1) by omega,znw (a:=a.c) (b:=b.c) (n:=a.len - 1) (m:=b.len - 1)]
 ·intro i hi; exact vS (by show a.len≤i; omega)
 ·intro i hi; exact vS (by show b.len≤i; omega)
theorem z1i {a b:PP P} (ha:Mo a) (hb:Mo b):Mo (a*b):=by
 unfold Mo
 have h1:wG a.1=1:=ha
 have h2:wG b.1=1:=hb
 rw [zuq ha.ne hb.ne,h1,h2,Int.one_mul]
 exact Int.emod_eq_of_lt (by omega) (by have:=P.two; omega)
theorem zze {a b:PP P} (ha:Mo a) (hb:b ≠ 0) (h:Mo (a*b)):Mo b:=by
 have h1:wG a.1=1:=ha
 have h2:wG (a*b).1=1:=h
 rw [zuq ha.ne hb,h1,Int.one_mul,zi3,b.c_mod,← zi3] at h2
 exact h2
theorem z1b {D A B C q r:PP P} (h:B*B + -D=A*C) (e:B=q*A + r):∃ c,r*r + -D=A*c:=by
 have R:IsRing (PP P):=zN
 refine ⟨C + -(q*q*A + q*r + q*r),?_⟩
 rw [z6k R A B D q r,← e,h,z4p R]
theorem zs9 {D A B:PP P} (hA:A ≠ 0):FI D A (yX B A)=FI D A B:=by
 have h:=(zkf B hA).1
 have:FI D A B=FI D A (yX B A + A*zbf B A):=by
  rw [zN.add_comm,zN.mul_comm A,← h]
 rw [this,z4o zN]
/-- A form with B made smaller. -/
theorem zwj {D A B C:PP P} (hA:Mo A) (h:B*B + -D=A*C):Fm D A (yX B A):=⟨hA,(zkf B hA.ne).2,z1b h (zkf B hA.ne).1⟩
theorem zxm {D:PP P} {S T:Qd D→Prop} (h:S=T):Cl S T:=h ▸ Cl.refl zku S
/-- One step of the reduction. -/
theorem zke {D:PP P} {G:Nat} (hD:Dsc D G) {a b q:PP P} (h:Fm D a b) (hl:G + 1 < a.len) (hq:b*b + -D=a*q∨D + -(b*b)=a*q) :
  q ≠ 0∧q.len < a.len∧Fm D (mon q) (yX (-b) (mon q))∧Cl (FI D a b) (FI D (mon q) (yX (-b) (mon q))):=by
 have R:IsRing (PP P):=zN
 obtain ⟨c,hc,e,he,hqe⟩:∃ c,b*b + -D=a*c∧∃ e:PP P,e*e=1∧q=e*c:=by
  rcases hq with h1 | h1
  ·exact ⟨q,h1,1,R.one_mul 1,(R.one_mul q).symm⟩
  ·refine ⟨-q,by rw [zwy R,h1,R.mul_neg],-1,by rw [R.mul_neg,zic R,R.neg_neg,R.mul_one],by rw [R.mul_neg,zic R,R.neg_neg,R.one_mul]⟩
 have hlen:(b*b + -D).len=max (b*b).len D.len∧(b*b).len + 3≤2*a.len:=by
  have h1:=hD.len
  have h2:=h.len
  by_cases hb:b=0
  ·have e0:(b*b).len=0:=by rw [hb,R.mul_zero]; rfl
   exact ⟨zpr (by omega),by omega⟩
  ·have h3:=zcs hb hb
   have h4:=qU hb
   exact ⟨zpr (by omega),by omega⟩
 have hDl:=hD.len
 have hc0:c ≠ 0:=fun h0=>by
  have:(b*b + -D).len=0:=by rw [hc,h0,R.mul_zero]; rfl
  omega
 have he0:e ≠ 0:=fun h0=>by rw [h0,R.mul_zero] at he; exact zv5 he.symm
 have hel:e.len=1:=by
  have h1:=zcs he0 he0
  rw [he,zfu] at h1
  have:=qU he0
  omega
 have hq0:q ≠ 0:=fun h0=>by
  rw [hqe] at h0
  rcases zeb _ _ h0 with h1 | h1 <;> contradiction
 have hql:q.len=c.len:=by
  rw [hqe,zcs he0 hc0]
  omega
 have hac:=zcs h.mo.ne hc0
 rw [← hc] at hac
 obtain ⟨u,v,m1,m2,m3,m4⟩:=zpm hq0
 have huv:u*v=1:=by
  have:q*(u*v)=q*1:=by
   rw [R.mul_one,← R.mul_assoc,R.mul_comm q u,← m1,R.mul_comm,← m2]
  exact zoe hq0 this
 have hm:mon q=u*e*c:=by rw [m1,hqe,R.mul_assoc]
 have hk:u*e*(v*e)=1:=by
  rw [R.mul_assoc,← R.mul_assoc e,R.mul_comm e v,R.mul_assoc v,he,R.mul_one,huv]
 have hcm:c=mon q*(v*e):=by
  rw [hm,R.mul_comm (u*e*c),← R.mul_assoc,R.mul_comm (v*e),hk,R.one_mul]
 have hB:-b*-b + -D=mon q*(v*e*a):=by
  rw [z1h R,hc,R.mul_comm a,← R.mul_assoc,← hcm]
 have hpos:=qU h.mo.ne
 refine ⟨hq0,by omega,zwj m4 hB,?_⟩
 have h1:=z4z R hc
 rw [zs9 m4.ne,hm,zw9 R c (-b) hk]
 exact ⟨⟨b,-1⟩,⟨a,0⟩,fun h0=>by
  have h1:-(1:PP P)=0:=congrArg Qd.v h0
  have:=zur (1:PP P)
  rw [h1,zfu,wT.2 rfl] at this
  omega,zup h.mo.ne,h1⟩
/-- Composition. -/
theorem zxo {D:PP P} {G:Nat} (hD:Dsc D G) {a b a' b' d r s t:PP P} (h:Fm D a b) (h':Fm D a' b') (hd:Mo d) (d1:Dv d a) (d2:Dv d a') (d3:Dv d (b + b')) (hb:d=r*a + s*a' + t*(b + b')) :
  ∃ A B,a*a'=d*d*A∧r*a*b' + s*a'*b + t*(b*b' + D)=d*B∧Fm D A (yX B A)∧Cl (Pr (FI D a b) (FI D a' b')) (FI D A (yX B A)):=by
 have R:IsRing (PP P):=zN
 have Q:IsRing (Qd D):=zgf R
 obtain ⟨p,hp⟩:=d1
 obtain ⟨q,hq⟩:=d2
 obtain ⟨g,hg⟩:=d3
 rw [R.mul_comm] at hp hq hg
 obtain ⟨m,hm⟩:=h.dv
 obtain ⟨n,hn⟩:=h'.dv
 rw [hp] at hm
 rw [hq] at hn
 have hd0:=hd.ne
 have hE:r*p + s*q + t*g=1:=zoe hd0 (by rw [z59 R,← hp,← hq,← hg,← hb,R.mul_one])
 have hF:g*(b' + -b)=q*n + -(p*m):=by
  have h1:d*(g*(b' + -b) + -(q*n + -(p*m)))=0:=by rw [z6b R,← hg,← hm,← hn,z48 R]
  exact R.sub_zero ((zeb _ _ h1).resolve_left hd0)
 obtain ⟨e,f,k,l,hG⟩:=cop hD n hd0 hg hm
 have hc:=zx0 R hg hm hn hE hF hG
 have hapq:a*a'=d*d*(p*q):=by rw [hp,hq,z6z R]
 have hpq0:p*q ≠ 0:=fun h0=>by
  rw [h0,R.mul_zero] at hapq
  rcases zeb _ _ hapq with h1 | h1
  ·exact h.mo.ne h1
  ·exact h'.mo.ne h1
 have hmo:Mo (p*q):=by
  refine zze (z1i hd hd) hpq0 ?_
  rw [← hapq]
  exact z1i h.mo h'.mo
 refine ⟨p*q,r*p*b' + s*q*b + t*(b*g + -(p*m)),hapq,?_,?_⟩
 ·rw [hp,hq,z5o R D d p q g b b' r s t m,hg,R.add_neg,R.mul_zero,hm,R.add_neg,R.neg_zero,R.add_zero,R.mul_zero,R.add_zero]
 ·generalize hB:r*p*b' + s*q*b + t*(b*g + -(p*m))=B at *
  rw [← hp,← hq] at hc
  have hdn:(⟨d,0⟩:Qd D) ≠ 0:=zup hd0
  have hi:Idl (Pr (FI D a b) (FI D a' b')):=Pr.idl Q h.idl
  have hy:FI D (p*q) B ((⟨0,1⟩:Qd D)*⟨B,1⟩):=by
   have h1:Sc (⟨d,0⟩:Qd D) (FI D (p*q) B) ((⟨0,1⟩:Qd D)*(⟨d,0⟩*⟨B,1⟩)):=by
    rw [← hc]
    refine hi.mul _ ?_
    rw [hc]
    exact ⟨_,z3w _ _,rfl⟩
   obtain ⟨x,hx,ex⟩:=h1
   rw [← Q.mul_assoc,Q.mul_comm (⟨0,1⟩:Qd D),Q.mul_assoc] at ex
   have h2:(⟨d,0⟩:Qd D)*((⟨0,1⟩:Qd D)*⟨B,1⟩ + -x)=0:=by rw [Q.mul_add,Q.mul_neg,ex,Q.add_neg]
   rw [Q.sub_zero ((zv8 hD _ _ h2).resolve_left hdn)]
   exact hx
  obtain ⟨w,hw⟩:=hy
  have hw':D=B*B + p*q*w:=by
   have h1:(0:PP P)*B + D*(1*1)=B*(0*1 + 1*B) + p*q*w:=hw
   rw [y_u R,y_v R] at h1
   exact h1
  have hBB:B*B + -D=p*q*-w:=by
   have h1:=z6i R D B (p*q) w
   rw [← hw'] at h1
   exact h1
  refine ⟨zwj hmo hBB,1,⟨d,0⟩,zku,hdn,?_⟩
  rw [zwh Q,hc,zs9 hpq0]
/-- A monic greatest common divisor. -/
theorem zx1 {a b:PP P} (ha:a ≠ 0):∃ g u v,Mo g∧g=u*a + v*b∧Dv g a∧Dv g b:=by
 obtain ⟨g,u,v,e,d1,d2⟩:=zn5 _ a b (Nat.le_refl _)
 have hg:g ≠ 0:=fun h0=>by
  obtain ⟨q,hq⟩:=d1
  exact ha (by rw [hq,h0,zN.mul_zero])
 obtain ⟨k,l,m1,m2,_,m4⟩:=zpm hg
 refine ⟨mon g,k*u,k*v,m4,by rw [← z0x zN,← e]; exact m1,zN.dv_trans ⟨l,m2⟩ d1,zN.dv_trans ⟨l,m2⟩ d2⟩

/-! Reduced forms. -/
structure Rf (D:PP P) (G:Nat) where
 a:PP P
 b:PP P
 fm:Fm D a b
 sm:a.len≤G + 1
theorem zta {D:PP P} {G:Nat}:∀ {x y:Rf D G},x.a=y.a→x.b=y.b→x=y
 | ⟨_,_,_,_⟩,⟨_,_,_,_⟩,rfl,rfl=>rfl
def Rf.I {D:PP P} {G:Nat} (x:Rf D G):Qd D→Prop:=FI D x.a x.b
section
variable {D:PP P} {G:Nat} (hD:Dsc D G)
include hD
theorem zxs {x y:Rf D G} (h:Cl x.I y.I):x=y:=by
 obtain ⟨h1,h2⟩:=z7l hD x.fm y.fm x.sm y.sm h
 exact zta h1 h2
theorem zdh {S T U:Qd D→Prop} (h1:Cl S T) (h2:Cl T U):Cl S U:=Cl.trans (zgf zN) (zv8 hD) h1 h2
theorem z1j:∀ (n:Nat) (a b:PP P),a.len≤n→Fm D a b→∃ r:Rf D G,Cl (FI D a b) r.I
 | 0,a,b,hn,h=>by have:=qU h.mo.ne; omega
 | n + 1,a,b,hn,h=>by
  by_cases hl:a.len≤G + 1
  ·exact ⟨⟨a,b,h,hl⟩,zxm rfl⟩
  ·obtain ⟨q,hq⟩:=h.dv
   obtain ⟨h1,h2,h3,h4⟩:=zke hD h (by omega) (.inl hq)
   obtain ⟨r,hr⟩:=z1j n _ _ (by rw [zky h1]; omega) h3
   exact ⟨r,zdh hD h4 hr⟩
theorem z4i (x y:Rf D G):∃ r:Rf D G,Cl (Pr x.I y.I) r.I:=by
 obtain ⟨o,u,v,m1,e1,d1,d1'⟩:=zx1 (a:=x.a) (b:=y.a) x.fm.mo.ne
 obtain ⟨d,w,t,m2,e2,d2,d2'⟩:=zx1 (a:=o) (b:=x.b + y.b) m1.ne
 obtain ⟨A,B,h1,h2,h3,h4⟩:=zxo hD (r:=w*u) (s:=w*v) (t:=t) x.fm y.fm m2 (zN.dv_trans d2 d1) (zN.dv_trans d2 d1') d2' (by rw [← z0w zN,← e1]; exact e2)
 obtain ⟨r,hr⟩:=z1j hD _ _ _ (Nat.le_refl _) h3
 exact ⟨r,zdh hD h4 hr⟩
noncomputable def rop (x y:Rf D G):Rf D G:=Classical.choose (z4i hD x y)
theorem zqs (x y:Rf D G):Cl (Pr x.I y.I) (rop hD x y).I:=Classical.choose_spec (z4i hD x y)
theorem zlj {x y r:Rf D G} (h:Cl (Pr x.I y.I) r.I):r=rop hD x y:=zxs hD (zdh hD h.symm (zqs hD x y))
omit hD in
theorem z46:Mo (1:PP P):=by
 show rd [1] ([(1:Int)].length - 1)=1
 rfl
omit hD in
theorem z4r:Fm D (1:PP P) 0:=⟨z46,by rw [zfu]; exact Nat.zero_lt_one,⟨_,(zN.one_mul _).symm⟩⟩
omit hD in
def zaw:Rf D G:=⟨1,0,z4r,by rw [zfu]; omega⟩
omit hD in
theorem z4q {a b:PP P} (h:Fm D a b):Fm D a (yX (-b) a):=by
 obtain ⟨c,hc⟩:=h.dv
 exact zwj h.mo (C:=c) (by rw [z1h zN,hc])
omit hD in
def zpq (x:Rf D G):Rf D G:=⟨x.a,yX (-x.b) x.a,z4q x.fm,x.sm⟩
noncomputable def xY:AbG (Rf D G) where
 op:=rop hD
 e:=zaw
 comm x y:=zlj hD (by rw [zcy (zgf zN)]; exact zqs hD x y)
 assoc x y z:=by
  have Q:IsRing (Qd D):=zgf zN
  refine zlj hD (zdh hD ?_ (zqs hD (rop hD x y) z))
  refine zdh hD ?_ (Cl.pr Q (zqs hD x y) z.I)
  rw [zib Q,zcy Q x.I,zcy Q x.I]
  exact Cl.pr Q (zqs hD y z).symm x.I
 one x:=by
  refine (zlj hD ?_).symm
  show Cl (Pr (FI D 1 0) (FI D x.a x.b)) (FI D x.a x.b)
  rw [zsl zN,zcy (zgf zN),zq0 (zgf zN) x.fm.idl]
  exact zxm rfl
 inv x:=⟨zpq x,by
  refine (zlj hD ?_).symm
  show Cl (Pr (FI D x.a (yX (-x.b) x.a)) (FI D x.a x.b)) (FI D 1 0)
  rw [zs9 x.fm.mo.ne,zcy (zgf zN),x.fm.opp hD,zsl zN]
  exact ⟨1,⟨x.a,0⟩,zku,zup x.fm.mo.ne,by rw [zwh (zgf zN)]⟩⟩
end
end Go.Proofs.YtebfhlnfmkhmcaaGreat
/- Products, in the reference. -/
namespace Go.Proofs.YtebfhlnfmkhmcaaGreat
open Go.Abs

/-- One row of the reference's product. -/
theorem zxa {p:Int} (hp:2≤p∧p≤256) {a b:V64} (ha:Res p a) (hb:Res p b) {i db:Nat} (hi:i + db < 64) {v:V64} (hv:Res p v) :
  ∃ v',yK (fun s:Int×V64=>kM (db:Int) (i:Int) a b p s.1 s.2) (0,v)=some v'∧Res p v'∧∀ k,k < 64→rd v'.1 k=if i≤k∧k≤i + db then (rd v.1 k + rd a.1 i*rd b.1 (k - i)) % p else rd v.1 k:=by
 by_cases h0:rd a.1 i=0
 ·refine ⟨v,?_,hv,fun k hk=>?_⟩
  ·rw [yR]
   simp only [kM]
   rw [zY (by omega)]
   simp [h0]
  ·rw [h0]
   split
   ·have:=hv k hk
    rw [Int.zero_mul,Int.add_zero,Int.emod_eq_of_lt this.1 this.2]
   ·rfl
 ·have hai:=ha i (by omega)
  obtain ⟨v',h1,h2,h3⟩:=wR (body:=fun s:Int×V64=>kM (db:Int) (i:Int) a b p s.1 s.2) (fun j (v:V64)=>((j:Int),v)) (fun v=>v) (db + 1)
   (fun j u=>Res p u∧∀ k,k < 64→rd u.1 k=if i≤k∧k < i + j then (rd v.1 k + rd a.1 i*rd b.1 (k - i)) % p else rd v.1 k) (fun j u hj hI=>by
    obtain ⟨hr,hk⟩:=hI
    have hbj:=hb j (by omega)
    have huj:=hr (i + j) (by omega)
    have e1:IntKind.i64.wrap ((i:Int) + (j:Int))=((i + j:Nat):Int):=by rw [zX (by omega) (by omega)]; omega
    have hm:=mJ (x:=rd a.1 i) (y:=rd b.1 j) (by omega) (by omega)
    have hmod:Int.tmod (rd u.1 (i + j) + rd a.1 i*rd b.1 j) p=(rd u.1 (i + j) + rd a.1 i*rd b.1 j) % p:=Int.tmod_eq_emod_of_nonneg (by omega)
    have hlt:=zao (show 0 < p by omega) (rd u.1 (i + j) + rd a.1 i*rd b.1 j)
    refine ⟨yO u (i + j) ((rd u.1 (i + j) + rd a.1 i*rd b.1 j) % p),?_,fun k hk'=>?_,fun k hk'=>?_⟩
    ·simp only [kM,kR]
     rw [if_pos (by simp; omega),zY (by omega)]
     simp only [Option.bind_some]
     rw [if_pos (by simpa using h0),e1]
     rw [zY (by omega),zY (by omega),zY (by omega),zY (by omega),zY (by omega)]
     simp only [Int.toNat_natCast]
     rw [zX (n:=rd u.1 (i + j)) (by omega) (by omega),zX (n:=rd a.1 i) (by omega) (by omega),zX (n:=rd b.1 j) (by omega) (by omega),zX (n:=rd a.1 i*rd b.1 j) (by omega) (by omega),zX (n:=rd u.1 (i + j) + rd a.1 i*rd b.1 j) (by omega) (by omega),hmod,zjd hlt.1 (by omega),zX (by omega) (by omega)]
     rfl
    ·rw [zbc _ _ _ _ (by omega)]
     split
     ·exact hlt
     ·exact hr k hk'
    ·rw [zbc _ _ _ _ (by omega)]
     by_cases e:k=i + j
     ·subst e
      rw [if_pos rfl,if_pos (by omega),hk _ hk',if_neg (by omega),show i + j - i=j by omega]
     ·rw [if_neg e,hk k hk']
      by_cases hc:i≤k∧k < i + j
      ·rw [if_pos hc,if_pos (by omega)]
      ·rw [if_neg hc,if_neg (by omega)]) (fun u hI=>by
    simp only [kM]
    rw [if_neg (by simp; omega)]
    rfl) (db + 1) 0 v (by omega) ⟨hv,fun k hk=>by rw [if_neg (by omega)]⟩
  exact ⟨v',h1,h2,fun k hk=>by rw [h3 k hk]; simp only [show (i≤k∧k < i + (db + 1))=(i≤k∧k≤i + db) from by rw [eq_iff_iff]; omega]⟩


theorem zkx {p:Int} (hp:2≤p∧p≤256) {a b:List Int} (ha:Row p a) (hb:Row p b) (la:a.length≤64) (lb:b.length≤64) (hl:a.length=0∨b.length=0∨a.length + b.length≤65) :
  xO p (yP a) (yP b)=some (yP (mul p a b),true):=by
 have hta:top (rd (yP a).1) 64=a.length:=by rw [zf1 64 fun i hi=>uW a hi,ha.top la]
 have htb:top (rd (yP b).1) 64=b.length:=by rw [zf1 64 fun i hi=>uW b hi,hb.top lb]
 simp only [xO,zkd,Option.bind_some,hta,htb]
 by_cases h1:a.length=0
 ·have e:a=[]:=List.eq_nil_of_length_eq_zero h1
  subst e
  simp [ztp,zb7]
 by_cases h2:b.length=0
 ·have e:b=[]:=List.eq_nil_of_length_eq_zero h2
  subst e
  simp [zu6,zb7]
 have hra:=za5 ha (show 0 < p by omega)
 have hrb:=za5 hb (show 0 < p by omega)
 obtain ⟨db,hdb⟩:∃ db:Nat,b.length=db + 1:=⟨b.length - 1,by omega⟩
 obtain ⟨da,hda⟩:∃ da:Nat,a.length=da + 1:=⟨a.length - 1,by omega⟩
 have e1:((a.length:Nat):Int) - 1=(da:Int):=by omega
 have e2:((b.length:Nat):Int) - 1=(db:Int):=by omega
 rw [e1,e2,zX (by omega) (by omega)]
 simp only [show (decide ((da:Int) < 0))=false by simp,Bool.false_eq_true,if_false,show (decide ((db:Int) < 0))=false by simp,show (decide ((da:Int) + (db:Int) > 63))=false by simp; omega,Option.bind_some]
 obtain ⟨v,h3,h4,h5⟩:=wR (body:=fun s:Int×V64=>jG (da:Int) (db:Int) (yP a) (yP b) p s.1 s.2) (fun i v=>((i:Int),v)) (fun v=>v) (da + 1)
  (fun i v=>Res p v∧∀ k,k < 64→rd v.1 k=cv (rd a) (rd b) i k % p) (fun i v hi hI=>by
   obtain ⟨hv,hk⟩:=hI
   obtain ⟨v',g1,g2,g3⟩:=zxa hp hra hrb (i:=i) (db:=db) (by omega) hv
   refine ⟨v',?_,g2,fun k hk'=>?_⟩
   ·simp only [jG]
    rw [if_pos (by simp; omega),g1]
    simp only [Option.bind_some]
    rw [zX (by omega) (by omega)]; rfl
   ·rw [g3 k hk',hk k hk',zm0]
    by_cases hc:i≤k∧k≤i + db
    ·rw [if_pos hc,if_pos hc.1,uW _ (by omega),uW _ (by omega),Int.emod_add_emod]
    ·rw [if_neg hc]
     by_cases hik:i≤k
     ·rw [if_pos hik,vS (l:=b) (by omega),Int.mul_zero,Int.add_zero]
     ·rw [if_neg hik,Int.add_zero]) (fun v hI=>by
   simp only [jG]
   rw [if_neg (by simp; omega)]) (da + 1) 0 (yH 64 0) (by omega) ⟨fun j hj=>by rw [zgw _ hj]; omega,fun k hk=>by rw [zgw _ hk]; simp [cv,vE]⟩
 have h3':yK (fun s:Int×V64=>jG (da:Int) (db:Int) (yP a) (yP b) p s.1 s.2) (0,yH 64 0)=some v:=h3
 rw [h3']
 simp only [Option.bind_some]
 congr 2
 exact ze7 fun k hk=>by rw [h5 k hk,uW _ hk,zhp,zm4 fun i hi=>vS (by omega)]

end Go.Proofs.YtebfhlnfmkhmcaaGreat
/- One. -/
namespace Go.Proofs.YtebfhlnfmkhmcaaGreat
open Go.Abs

theorem zyn {p:Int} (hp:2≤p):Row p [1]:=⟨by simp; omega,by simp [rd]⟩
theorem znz:zay=some (yP [1]):=by
 unfold zay
 congr 1
end Go.Proofs.YtebfhlnfmkhmcaaGreat
/- Primes. -/
namespace Go.Proofs.YtebfhlnfmkhmcaaGreat
open Go.Abs

theorem zi5 (p:Int):zbt p=some (isP p):=by
 unfold zbt isP
 by_cases h1:p=2 <;> by_cases h2:p=3 <;> by_cases h3:p=5 <;> simp [h1,h2,h3]

theorem zmr (p:Int):zef p=some (isP p):=by
 unfold zef isP
 by_cases h1:p=2 <;> by_cases h2:p=3 <;> by_cases h3:p=5 <;> simp [h1,h2,h3]
end Go.Proofs.YtebfhlnfmkhmcaaGreat
/- Powers of p; one. -/
namespace Go.Proofs.YtebfhlnfmkhmcaaGreat
open Go.Abs

theorem zrm {p:Nat} (hp:2≤p) {n m:Nat} (h:n≤m):p ^ n≤p ^ m:=Nat.pow_le_pow_right (by omega) h
/-- p to a power, at most a bit more than a limit. -/
theorem zxx {p n most:Nat} (hp:2≤p∧p≤7) (hn:n≤1000000) (hm:most≤1152921504606846976):∃ c:Nat,nF p n most=some (c:Int)∧((p ^ n≤most∧c=p ^ n)∨(most < p ^ n∧most < c))∧c≤8070450532247928832:=by
 have key:∀ (m i:Nat),i + m=n→(i=0∨p ^ (i - 1)≤most)→∃ c:Nat,yK (fun s:Int×Int=>wN (n:Int) (most:Int) p s.1 s.2) (((p ^ i:Nat):Int),(i:Int))=some (c:Int)∧((p ^ n≤most∧c=p ^ n)∨(most < p ^ n∧most < c) ∨(n=i∧c=p ^ n))∧c≤8070450532247928832:=by
  intro m
  induction m with
  | zero =>
   intro i hi hle
   have:i=n:=by omega
   subst this
   have step:wN (i:Int) (most:Int) p ((p ^ i:Nat):Int) (i:Int)=some (.inr ((p ^ i:Nat):Int)):=by
    simp only [wN]
    rw [if_neg (by rw [decide_eq_true_eq]; omega)]
   rw [yR]
   simp only [step,Option.bind_some]
   refine ⟨p ^ i,rfl,?_,?_⟩
   ·exact .inr (.inr (by simp))
   ·rcases hle with rfl | hle
    ·simp
    ·rcases Nat.eq_zero_or_pos i with rfl | h
     ·simp
     ·have:p ^ i=p ^ (i - 1)*p:=by rw [← Nat.pow_succ]; congr 1; omega
      rw [this]
      have:=Nat.mul_le_mul hle hp.2
      omega
  | succ m ih =>
   intro i hi hle
   have hmono:=zrm hp.1 (show i≤n by omega)
   by_cases h:most < p ^ i
   ·have step:wN (n:Int) (most:Int) p ((p ^ i:Nat):Int) (i:Int)=some (.inr ((p ^ i:Nat):Int)):=by
     simp only [wN]
     rw [if_pos (decide_eq_true (by omega)),if_pos (decide_eq_true (by omega))]
    rw [yR]
    simp only [step,Option.bind_some]
    refine ⟨p ^ i,rfl,.inr (.inl ⟨by omega,h⟩),?_⟩
    rcases hle with rfl | hle
    ·simp
    ·rcases Nat.eq_zero_or_pos i with rfl | h
     ·simp
     ·have:p ^ i=p ^ (i - 1)*p:=by rw [← Nat.pow_succ]; congr 1; omega
      rw [this]
      have:=Nat.mul_le_mul hle hp.2
      omega
   ·have hle2:=Nat.mul_le_mul (show p ^ i≤most by omega) hp.2
    have e1:((p ^ i:Nat):Int)*(p:Int)=((p ^ (i + 1):Nat):Int):=by rw [Nat.pow_succ,Int.natCast_mul]
    have e2:p ^ (i + 1)=p ^ i*p:=Nat.pow_succ ..
    have step:wN (n:Int) (most:Int) p ((p ^ i:Nat):Int) (i:Int)=some (.inl (((p ^ (i + 1):Nat):Int),((i + 1:Nat):Int))):=by
     simp only [wN]
     rw [if_pos (decide_eq_true (by omega)),if_neg (by rw [decide_eq_true_eq]; omega),e1,zX (n:=((p ^ (i + 1):Nat):Int)) (by omega) (by omega),zX (by omega) (by omega)]
     rfl
    rw [yR]
    simp only [step,Option.bind_some]
    obtain ⟨c,h1,h2,h3⟩:=ih (i + 1) (by omega) (.inr (by simp only [Nat.add_sub_cancel]; omega))
    refine ⟨c,h1,?_,h3⟩
    rcases h2 with h2 | h2 | ⟨h2,h4⟩
    ·exact .inl h2
    ·exact .inr (.inl h2)
    ·by_cases h5:p ^ n≤most
     ·exact .inl ⟨h5,h4⟩
     ·exact .inr (.inl ⟨by omega,by omega⟩)
 obtain ⟨c,h1,h2,h3⟩:=key n 0 (by omega) (.inl rfl)
 simp only [Nat.pow_zero] at h1
 refine ⟨c,?_,?_,h3⟩
 ·have h1':yK (fun s:Int×Int=>wN (n:Int) (most:Int) p s.1 s.2) (1,0)=some (c:Int):=h1
  simp only [nF,h1',Option.bind_some]
 ·rcases h2 with h2 | h2 | ⟨h2,h4⟩
  ·exact .inl h2
  ·exact .inr h2
  ·by_cases h5:p ^ n≤most
   ·exact .inl ⟨h5,h4⟩
   ·exact .inr ⟨by omega,by omega⟩
end Go.Proofs.YtebfhlnfmkhmcaaGreat
/- The extended algorithm of Euclid. -/
namespace Go.Proofs.YtebfhlnfmkhmcaaGreat
open Go.Abs

/-- One step for a cofactor. -/
def cx (p:Int) (q s0 s1:List Int):List Int:=zb8 p s0 (mul p q s1) (-1)
def ez (p:Int):Nat→List Int→List Int→List Int→List Int→List Int→List Int→List Int×List Int×List Int
 | 0,a,_,s0,_,t0,_=>(a,s0,t0)
 | n + 1,a,b,s0,s1,t0,t1=>if b.length=0 then (a,s0,t0) else ez p n b (rem p a b) s1 (cx p (quo p a b) s0 s1) t1 (cx p (quo p a b) t0 t1)
theorem z4k {p:Int} (hp:0 < p) (q s0 s1:List Int):Row p (cx p q s0 s1):=zbk hp _ _ _
/-- What the cofactors keep to: M is one more than the greater of the two lengths. -/
structure EzOk (p:Int) (M:Nat) (a b s0 s1:List Int):Prop where
 r0:Row p s0
 r1:Row p s1
 h1:s1.length + a.length≤M
 h2:s0.length + b.length≤M
theorem EzOk.next {p:Int} (hp:isP p=true) {M:Nat} {a b s0 s1:List Int} (h:EzOk p M a b s0 s1) (ha:Row p a) (hb:Row p b) (h0:b.length ≠ 0) :
  EzOk p M b (rem p a b) s1 (cx p (quo p a b) s0 s1):=by
 have hp2:=wU hp
 have c:=zdd p s0 (mul p (quo p a b) s1) (-1)
 have m:=zm6 p (quo p a b) s1
 have q:=zg0 p a b
 have r:=zuy p a b
 have r':=zkl hp ha hb h0
 have h1:=h.h1
 have h2:=h.h2
 refine ⟨h.r1,z4k (by omega) _ _ _,?_,by omega⟩
 unfold cx
 rcases Nat.eq_zero_or_pos (quo p a b).length with h3 | h3
 ·have e:quo p a b=[]:=List.eq_nil_of_length_eq_zero h3
  rw [e,ztp] at c ⊢
  simp only [List.length_nil] at c
  omega
 ·omega
theorem EzOk.prod {p:Int} {M:Nat} {a b s0 s1:List Int} (hM:M≤65) (h:EzOk p M a b s0 s1) (h0:b.length ≠ 0):(quo p a b).length=0∨s1.length=0∨(quo p a b).length + s1.length≤65:=by
 have q:=zg0 p a b
 have h1:=h.h1
 omega
theorem EzOk.plen {p:Int} {M:Nat} {a b s0 s1:List Int} (hM:M≤65) (h:EzOk p M a b s0 s1) (h0:b.length ≠ 0):(mul p (quo p a b) s1).length≤64:=by
 have q:=zg0 p a b
 have h1:=h.h1
 have m:=zm6 p (quo p a b) s1
 omega
theorem z1d {p:Int} (hp:isP p=true) {M:Nat} (hM:M≤65):∀ (n:Nat) (a b s0 s1 t0 t1:List Int),Row p a→Row p b→a.length≤64→b.length≤n→b.length≤64→EzOk p M a b s0 s1→EzOk p M a b t0 t1 →
  yK (fun s:List Int×List Int×List Int×List Int×List Int×List Int=>wB p s.1 s.2.1 s.2.2.1 s.2.2.2.1 s.2.2.2.2.1 s.2.2.2.2.2) (a,b,s0,t0,s1,t1)=some (ez p n a b s0 s1 t0 t1):=by
 have hp2:=wU hp
 have hq:0 < p∧p≤256:=by omega
 intro n
 induction n with
 | zero =>
  intro a b s0 s1 t0 t1 ha hb la lb lb2 hs ht
  have step:wB p a b s0 t0 s1 t1=some (.inr (a,s0,t0)):=by
   simp only [wB]
   rw [if_neg (by rw [decide_eq_true_eq]; omega)]
  rw [yR]
  simp only [step,Option.bind_some,ez]
 | succ n ih =>
  intro a b s0 s1 t0 t1 ha hb la lb lb2 hs ht
  by_cases h0:b.length=0
  ·have step:wB p a b s0 t0 s1 t1=some (.inr (a,s0,t0)):=by
    simp only [wB]
    rw [if_neg (by rw [decide_eq_true_eq]; omega)]
   rw [yR]
   simp only [step,Option.bind_some,ez,if_pos h0]
  ·have hqr:=zsn (show 0 < p by omega) a b
   have hrr:=zis (show 0 < p by omega) ha b
   have hql:=zg0 p a b
   have hrl:=zkl hp ha hb h0
   have p1:=hs.plen hM h0
   have p2:=ht.plen hM h0
   have q1:=hs.h1
   have q2:=hs.h2
   have q3:=ht.h1
   have q4:=ht.h2
   have step:wB p a b s0 t0 s1 t1=some (.inl (b,rem p a b,s1,t1,cx p (quo p a b) s0 s1,cx p (quo p a b) t0 t1)):=by
    simp only [wB]
    rw [if_pos (decide_eq_true (by omega)),zl9 hp ha hb h0 (by omega) (by omega)]
    simp only [Option.bind_some]
    rw [zmo (by omega) (hqr.ent hq) (hs.r1.ent hq) (by omega) (by omega)]
    simp only [Option.bind_some]
    rw [mV hq (hs.r0.ent hq) ((zd8 hq.1 _ _).ent hq) (by omega) (by omega) (by omega)]
    simp only [Option.bind_some]
    rw [zmo (by omega) (hqr.ent hq) (ht.r1.ent hq) (by omega) (by omega)]
    simp only [Option.bind_some]
    rw [mV hq (ht.r0.ent hq) ((zd8 hq.1 _ _).ent hq) (by omega) (by omega) (by omega)]
    rfl
   rw [yR]
   simp only [step,Option.bind_some]
   rw [ih b (rem p a b) _ _ _ _ hb hrr lb2 (by omega) (by omega) (hs.next hp ha hb h0) (ht.next hp ha hb h0)]
   simp only [ez,if_neg h0]
theorem z1t {p:Int} (hp:isP p=true) {M:Nat} (hM:M≤65):∀ (n:Nat) (a b s0 s1 t0 t1:List Int),Row p a→Row p b→a.length≤64→b.length≤n→b.length≤64→s0.length≤64→s1.length≤64→t0.length≤64→t1.length≤64→EzOk p M a b s0 s1→EzOk p M a b t0 t1 →
  yK (fun s:V64×V64×V64×V64×V64×V64=>vC p s.1 s.2.1 s.2.2.1 s.2.2.2.1 s.2.2.2.2.1 s.2.2.2.2.2) (yP a,yP b,yP s0,yP s1,yP t0,yP t1)=some (yP (ez p n a b s0 s1 t0 t1).1,yP (ez p n a b s0 s1 t0 t1).2.1,yP (ez p n a b s0 s1 t0 t1).2.2):=by
 have hp2:=wU hp
 have hq:0 < p∧p≤256:=by omega
 have ld:∀ {v:List Int},Row p v→v.length≤64→yW (yP v)=some ((v.length:Int) - 1):=fun hv lv=>by rw [zkd,ze2 lv,hv.top lv]
 intro n
 induction n with
 | zero =>
  intro a b s0 s1 t0 t1 ha hb la lb lb2 l0 l1 m0 m1 hs ht
  have step:vC p (yP a) (yP b) (yP s0) (yP s1) (yP t0) (yP t1)=some (.inr (yP a,yP s0,yP t0)):=by
   simp only [vC,ld hb lb2,Option.bind_some]
   rw [if_neg (by rw [decide_eq_true_eq]; omega)]
  rw [yR]
  simp only [step,Option.bind_some,ez]
 | succ n ih =>
  intro a b s0 s1 t0 t1 ha hb la lb lb2 l0 l1 m0 m1 hs ht
  by_cases h0:b.length=0
  ·have step:vC p (yP a) (yP b) (yP s0) (yP s1) (yP t0) (yP t1)=some (.inr (yP a,yP s0,yP t0)):=by
    simp only [vC,ld hb lb2,Option.bind_some]
    rw [if_neg (by rw [decide_eq_true_eq]; omega)]
   rw [yR]
   simp only [step,Option.bind_some,ez,if_pos h0]
  ·have hqr:=zsn (show 0 < p by omega) a b
   have hrr:=zis (show 0 < p by omega) ha b
   have hql:=zg0 p a b
   have hrl:=zkl hp ha hb h0
   have p1:=hs.plen hM h0
   have p2:=ht.plen hM h0
   have c1:=zdd p s0 (mul p (quo p a b) s1) (-1)
   have c2:=zdd p t0 (mul p (quo p a b) t1) (-1)
   have step:vC p (yP a) (yP b) (yP s0) (yP s1) (yP t0) (yP t1)=some (.inl (yP b,yP (rem p a b),yP s1,yP (cx p (quo p a b) s0 s1),yP t1,yP (cx p (quo p a b) t0 t1))):=by
    simp only [vC,ld hb lb2,Option.bind_some]
    rw [if_pos (decide_eq_true (by omega)),zlt hp ha hb h0 la lb2]
    simp only [Option.bind_some]
    rw [zkx (by omega) hqr hs.r1 (by omega) l1 (hs.prod hM h0)]
    simp only [Option.bind_some]
    rw [zkx (by omega) hqr ht.r1 (by omega) m1 (ht.prod hM h0)]
    simp only [Option.bind_some]
    rw [zdl hq hs.r0 (zd8 hq.1 _ _) l0 p1 (by omega)]
    simp only [Option.bind_some]
    rw [zdl hq ht.r0 (zd8 hq.1 _ _) m0 p2 (by omega)]
    rfl
   rw [yR]
   simp only [step,Option.bind_some]
   rw [ih b (rem p a b) _ _ _ _ hb hrr lb2 (by omega) (by omega) l1 (by unfold cx; omega) m1 (by unfold cx; omega) (hs.next hp ha hb h0) (ht.next hp ha hb h0)]
   simp only [ez,if_neg h0]
theorem z0a {p:Int} (hp:isP p=true) {M:Nat} (hM:M≤65):∀ (n:Nat) (a b s0 s1 t0 t1:List Int),Row p a→Row p b→a.length≤64→b.length≤64→b.length≤n→(a.length ≠ 0∨b.length ≠ 0)→s0.length≤64→s1.length≤64→t0.length≤64→t1.length≤64→EzOk p M a b s0 s1→EzOk p M a b t0 t1 →
  (Row p (ez p n a b s0 s1 t0 t1).1∧(ez p n a b s0 s1 t0 t1).1.length≤64∧(ez p n a b s0 s1 t0 t1).1.length ≠ 0)∧(Row p (ez p n a b s0 s1 t0 t1).2.1∧(ez p n a b s0 s1 t0 t1).2.1.length≤64)∧(Row p (ez p n a b s0 s1 t0 t1).2.2∧(ez p n a b s0 s1 t0 t1).2.2.length≤64)
 | 0,a,b,s0,s1,t0,t1,ha,hb,la,lb,ln,hab,l0,l1,m0,m1,hs,ht=>⟨⟨ha,la,by simp only [ez]; omega⟩,⟨hs.r0,l0⟩,⟨ht.r0,m0⟩⟩
 | n + 1,a,b,s0,s1,t0,t1,ha,hb,la,lb,ln,hab,l0,l1,m0,m1,hs,ht=>by
  simp only [ez]
  by_cases h0:b.length=0
  ·simp only [if_pos h0]
   exact ⟨⟨ha,la,by omega⟩,⟨hs.r0,l0⟩,⟨ht.r0,m0⟩⟩
  ·simp only [if_neg h0]
   have hp2:=wU hp
   have hrl:=zkl hp ha hb h0
   have p1:=hs.plen hM h0
   have p2:=ht.plen hM h0
   have c1:=zdd p s0 (mul p (quo p a b) s1) (-1)
   have c2:=zdd p t0 (mul p (quo p a b) t1) (-1)
   exact z0a hp hM n b (rem p a b) _ _ _ _ hb (zis (by omega) ha b) lb (by omega) (by omega) (.inl h0) l1 (by unfold cx; omega) m1 (by unfold cx; omega) (hs.next hp ha hb h0) (ht.next hp ha hb h0)

/-- The greatest common divisor, monic, with its cofactors. -/
def eg (p:Int) (a b:List Int):List Int×List Int×List Int:=ez p 64 a b [1] [] [] [1]
def sc (p:Int) (k:Int) (l:List Int):List Int:=zb8 p [] l k
def bz (p:Int) (a b:List Int):List Int×List Int×List Int:=(sc p (inv p (wG (eg p a b).1)) (eg p a b).1,sc p (inv p (wG (eg p a b).1)) (eg p a b).2.1,sc p (inv p (wG (eg p a b).1)) (eg p a b).2.2)
theorem zir {p:Int} (hp:2≤p) {a b:List Int} (la:a.length≤64) (lb:b.length≤64):EzOk p (max a.length b.length + 1) a b [1] []∧EzOk p (max a.length b.length + 1) a b [] [1] :=
 ⟨⟨zyn hp,zc1 p,by simp only [List.length_nil]; omega,by simp only [List.length_cons,List.length_nil]; omega⟩,⟨zc1 p,zyn hp,by simp only [List.length_cons,List.length_nil]; omega,by simp only [List.length_nil]; omega⟩⟩
theorem zqv {p:Int} (hp:isP p=true) {a b:List Int} (ha:Row p a) (hb:Row p b) (la:a.length≤64) (lb:b.length≤64) (hab:a.length ≠ 0∨b.length ≠ 0) :
  (Row p (eg p a b).1∧(eg p a b).1.length≤64∧(eg p a b).1.length ≠ 0)∧(Row p (eg p a b).2.1∧(eg p a b).2.1.length≤64)∧(Row p (eg p a b).2.2∧(eg p a b).2.2.length≤64):=by
 have hp2:=wU hp
 obtain ⟨e1,e2⟩:=zir (p:=p) (by omega) la lb
 exact z0a hp (by omega) 64 a b [1] [] [] [1] ha hb la lb lb hab (by simp) (by simp) (by simp) (by simp) e1 e2
theorem z4u {p k:Int} {l:List Int}:(sc p k l).length≤l.length:=by
 have:=zdd p [] l k
 simpa [sc] using this
theorem zlx {p:Int} (hp:isP p=true) {a b:List Int} (ha:Row p a) (hb:Row p b) (la:a.length≤64) (lb:b.length≤64) (hab:a.length ≠ 0∨b.length ≠ 0):qV p a b=some (bz p a b):=by
 have hp2:=wU hp
 have hq:0 < p∧p≤256:=by omega
 obtain ⟨e1,e2⟩:=zir (p:=p) (by omega) la lb
 have h:=z1d hp (by omega) 64 a b [1] [] [] [1] ha hb la lb lb e1 e2
 obtain ⟨⟨g1,g2,g3⟩,⟨g4,g5⟩,g6,g7⟩:=zqv hp ha hb la lb hab
 have h':yK (fun s:List Int×List Int×List Int×List Int×List Int×List Int=>wB p s.1 s.2.1 s.2.2.1 s.2.2.2.1 s.2.2.2.2.1 s.2.2.2.2.2) (a,b,[1],[],[],[1])=some ((eg p a b).1,(eg p a b).2.1,(eg p a b).2.2):=h
 have hl:=zbn (show 0 < p by omega) g1 g3
 have hi:=zet hp hl
 simp only [qV,wY,h',Option.bind_some,zpj g3 (by omega),zig hp hl]
 rw [mV hq ((zc1 p).ent hq) (g1.ent hq) (by simp) (by omega) (by omega)]
 simp only [Option.bind_some]
 rw [mV hq ((zc1 p).ent hq) (g4.ent hq) (by simp) (by omega) (by omega)]
 simp only [Option.bind_some]
 rw [mV hq ((zc1 p).ent hq) (g6.ent hq) (by simp) (by omega) (by omega)]
 rfl
theorem zga {p:Int} (hp:isP p=true) {a b:List Int} (ha:Row p a) (hb:Row p b) (la:a.length≤64) (lb:b.length≤64) (hab:a.length ≠ 0∨b.length ≠ 0):kE p (yP a) (yP b)=some (yP (bz p a b).1,yP (bz p a b).2.1,yP (bz p a b).2.2):=by
 have hp2:=wU hp
 have hq:0 < p∧p≤256:=by omega
 obtain ⟨e1,e2⟩:=zir (p:=p) (by omega) la lb
 have h:=z1t hp (by omega) 64 a b [1] [] [] [1] ha hb la lb lb (by simp) (by simp) (by simp) (by simp) e1 e2
 obtain ⟨⟨g1,g2,g3⟩,⟨g4,g5⟩,g6,g7⟩:=zqv hp ha hb la lb hab
 rw [zb7] at h
 have h':yK (fun s:V64×V64×V64×V64×V64×V64=>vC p s.1 s.2.1 s.2.2.1 s.2.2.2.1 s.2.2.2.2.1 s.2.2.2.2.2) (yP a,yP b,yP [1],yH 64 0,yH 64 0,yP [1])=some (yP (eg p a b).1,yP (eg p a b).2.1,yP (eg p a b).2.2):=h
 have hl:=zbn (show 0 < p by omega) g1 g3
 have hi:=zet hp hl
 have hd:yW (yP (eg p a b).1)=some (((eg p a b).1.length - 1:Nat):Int):=by
  rw [zkd,ze2 g2,g1.top g2]; congr 1; omega
 simp only [kE,znz,h',Option.bind_some,hd]
 rw [zY (by omega),Int.toNat_natCast,uW _ (show (eg p a b).1.length - 1 < 64 by omega),show rd (eg p a b).1 ((eg p a b).1.length - 1)=wG (eg p a b).1 from rfl,zfv hp hl]
 simp only [Option.bind_some]
 rw [zX (by omega) (by omega),← zb7,zdl hq (zc1 p) g1 (by simp) g2 (by omega)]
 simp only [Option.bind_some]
 rw [zdl hq (zc1 p) g4 (by simp) g5 (by omega)]
 simp only [Option.bind_some]
 rw [zdl hq (zc1 p) g6 (by simp) g7 (by omega)]
 rfl
/-- It is monic. -/
theorem zu5 {p:Int} (hp:isP p=true) {a b:List Int} (ha:Row p a) (hb:Row p b) (la:a.length≤64) (lb:b.length≤64) (hab:a.length ≠ 0∨b.length ≠ 0):Row p (bz p a b).1∧(bz p a b).1.length ≠ 0∧(bz p a b).1.length≤64∧wG (bz p a b).1=1:=by
 have hp2:=wU hp
 obtain ⟨⟨g1,g2,g3⟩,_,_⟩:=zqv hp ha hb la lb hab
 have hl:=zbn (show 0 < p by omega) g1 g3
 have hi:=zet hp hl
 have hr:Row p (bz p a b).1:=zbk (by omega) _ _ _
 have key:∀ i,rd (bz p a b).1 i=inv p (wG (eg p a b).1)*rd (eg p a b).1 i % p:=fun i=>by
  show rd (zb8 p [] (eg p a b).1 _) i=_
  rw [zfr,vS (l:=[]) (by simp),Int.zero_add]
 have h1:rd (bz p a b).1 ((eg p a b).1.length - 1)=1:=by
  rw [key,Int.mul_comm]; exact hi.2.2
 have h2:(bz p a b).1.length≤(eg p a b).1.length:=z4u
 have h3:(eg p a b).1.length - 1 < (bz p a b).1.length:=by
  rcases Nat.lt_or_ge ((eg p a b).1.length - 1) (bz p a b).1.length with h | h
  ·exact h
  ·rw [vS h] at h1; omega
 have h4:(bz p a b).1.length=(eg p a b).1.length:=by omega
 refine ⟨hr,by omega,by omega,?_⟩
 unfold wG
 rw [h4,h1]
end Go.Proofs.YtebfhlnfmkhmcaaGreat
/- Greatest common divisors, and monic polynomials. -/
namespace Go.Proofs.YtebfhlnfmkhmcaaGreat
open Go.Abs

variable {P:Pri}
/-! The greatest common divisor. -/
theorem z0t:∀ (n:Nat) (a b:PP P) (s0 s1 t0 t1:List Int),b.len≤n→∃ g:PP P,(ez P.p n a.1 b.1 s0 s1 t0 t1).1=g.1∧∀ d,Dv d g ↔ Dv d a∧Dv d b
 | 0,a,b,s0,s1,t0,t1,h=>by
  have hb:b=0:=wT.1 (by omega)
  refine ⟨a,by simp only [ez],fun d=>?_⟩
  rw [hb]
  exact ⟨fun h=>⟨h,zN.dv_zero d⟩,fun h=>h.1⟩
 | n + 1,a,b,s0,s1,t0,t1,h=>by
  simp only [ez]
  by_cases h0:b.1.length=0
  ·rw [if_pos h0]
   have hb:b=0:=wT.1 h0
   refine ⟨a,rfl,fun d=>?_⟩
   rw [hb]
   exact ⟨fun h=>⟨h,zN.dv_zero d⟩,fun h=>h.1⟩
  ·rw [if_neg h0]
   have hb:b ≠ 0:=fun e=>h0 (wT.2 e)
   obtain ⟨h1,h2⟩:=zkf a hb
   obtain ⟨g,e,hg⟩:=z0t n b (yX a b) s1 (cx P.p (quo P.p a.1 b.1) s0 s1) t1 (cx P.p (quo P.p a.1 b.1) t0 t1) (by omega)
   refine ⟨g,e,fun d=>?_⟩
   rw [hg]
   constructor
   ·rintro ⟨d1,d2⟩
    refine ⟨?_,d1⟩
    rw [h1]
    exact zN.dv_add (zN.dv_mul d1 _) d2
   ·rintro ⟨d1,d2⟩
    refine ⟨d2,?_⟩
    rw [h1] at d1
    exact zN.dv_sub d1 (zN.dv_mul d2 _)
theorem zxg (a:PP P) (k:Nat):sc P.p k a.1=(mF k a).1:=by
 have h:=zt9 0 a k
 rw [zN.zero_add] at h
 exact h
/-- What the program and the reference compute. -/
theorem z2a {a b:PP P} (la:a.len≤64) (lb:b.len≤64) (hab:a ≠ 0∨b ≠ 0):∃ g:PP P,(bz P.p a.1 b.1).1=g.1∧g.len≤64∧Mo g∧∀ d,Dv d g ↔ Dv d a∧Dv d b:=by
 obtain ⟨g,e,hg⟩:=z0t 64 a b [1] [] [] [1] lb
 have hab':a.1.length ≠ 0∨b.1.length ≠ 0:=hab.imp zdq zdq
 obtain ⟨⟨g1,g2,g3⟩,_,_⟩:=zqv P.okp a.2 b.2 la lb hab'
 have e':(eg P.p a.1 b.1).1=g.1:=e
 rw [e'] at g1 g2 g3
 have hg0:g ≠ 0:=fun h=>g3 (wT.2 h)
 have hl:=zbn P.pos g.2 g3
 have hi:=zet P.okp hl
 obtain ⟨k,hk⟩:∃ k:Nat,inv P.p (wG g.1)=k:=⟨(inv P.p (wG g.1)).toNat,by omega⟩
 have e2:(bz P.p a.1 b.1).1=(mon g).1:=by
  show sc P.p (inv P.p (wG (eg P.p a.1 b.1).1)) (eg P.p a.1 b.1).1=_
  rw [e',hk,zxg]
  unfold mon
  rw [hk,Int.toNat_natCast]
 refine ⟨mon g,e2,by rw [zky hg0]; exact g2,zst hg0,fun d=>?_⟩
 obtain ⟨m1,m2⟩:=z16 hg0
 rw [← hg]
 exact ⟨fun h=>zN.dv_trans h m2,fun h=>zN.dv_trans h m1⟩
theorem z66 {a b:PP P} (la:a.len≤64) (lb:b.len≤64) (hab:a ≠ 0∨b ≠ 0):∃ g:PP P,zcj P.p (yP a.1) (yP b.1)=some (yP g.1)∧g.len≤64∧Mo g∧∀ d,Dv d g ↔ Dv d a∧Dv d b:=by
 obtain ⟨g,e,h1,h2,h3⟩:=z2a la lb hab
 refine ⟨g,?_,h1,h2,h3⟩
 simp only [zcj,zre a la,zre b lb,Option.bind_some,zga P.okp a.2 b.2 la lb (hab.imp zdq zdq),e]
 by_cases ha:a.len=0
 ·have hb:b.len ≠ 0:=by
   rcases hab with h | h
   ·exact absurd (wT.1 ha) h
   ·exact fun h0=>h (wT.1 h0)
  rw [if_pos (decide_eq_true (by omega)),decide_eq_false (by omega)]
  rfl
 ·rw [if_neg (by rw [decide_eq_true_eq]; omega)]
  rfl
end Go.Proofs.YtebfhlnfmkhmcaaGreat
/- The identity of Bezout for what both sides compute. -/
namespace Go.Proofs.YtebfhlnfmkhmcaaGreat
open Go.Abs
variable {P:Pri}
theorem zpc (a b:PP P):zb8 P.p a.1 b.1 (-1)=(a + -b).1:=by
 apply zg8 (zbk P.pos _ _ _) (a + -b).2
 intro i
 show rd (zb8 P.p a.1 b.1 (-1)) i=(a + -b).c i
 rw [zfr,zf3,zyv,Int.add_emod_emod]
 show (rd a.1 i + -1*rd b.1 i) % P.p=(rd a.1 i + -(rd b.1 i)) % P.p
 rw [Int.neg_mul,Int.one_mul]
theorem z4j (q s0 s1:PP P):cx P.p q.1 s0.1 s1.1=(s0 + -(q*s1)).1:=zpc s0 (q*s1)
theorem z2h {A B:PP P}:∀ (n:Nat) (a b s0 s1 t0 t1:PP P),b.len≤n→a=s0*A + t0*B→b=s1*A + t1*B→∃ g s t:PP P,ez P.p n a.1 b.1 s0.1 s1.1 t0.1 t1.1=(g.1,s.1,t.1)∧g=s*A + t*B∧∀ d,Dv d g ↔ Dv d a∧Dv d b
 | 0,a,b,s0,s1,t0,t1,h,e1,_=>by
  have hb:b=0:=wT.1 (by omega)
  refine ⟨a,s0,t0,by simp only [ez],e1,fun d=>?_⟩
  rw [hb]
  exact ⟨fun h=>⟨h,zN.dv_zero d⟩,fun h=>h.1⟩
 | n + 1,a,b,s0,s1,t0,t1,h,e1,e2=>by
  have R:IsRing (PP P):=zN
  simp only [ez]
  by_cases h0:b.1.length=0
  ·rw [if_pos h0]
   have hb:b=0:=wT.1 h0
   refine ⟨a,s0,t0,rfl,e1,fun d=>?_⟩
   rw [hb]
   exact ⟨fun h=>⟨h,zN.dv_zero d⟩,fun h=>h.1⟩
  ·rw [if_neg h0]
   have hb:b ≠ 0:=fun e=>h0 (wT.2 e)
   obtain ⟨h1,h2⟩:=zkf a hb
   have hc1:cx P.p (quo P.p a.1 b.1) s0.1 s1.1=(s0 + -(zbf a b*s1)).1:=z4j (zbf a b) s0 s1
   have hc2:cx P.p (quo P.p a.1 b.1) t0.1 t1.1=(t0 + -(zbf a b*t1)).1:=z4j (zbf a b) t0 t1
   have hr:yX a b=(s0 + -(zbf a b*s1))*A + (t0 + -(zbf a b*t1))*B:=by
    have k1:yX a b=a + -(zbf a b*b):=by
     refine R.cancel (a:=zbf a b*b) ?_
     rw [← h1,R.add_left_comm,R.add_neg,R.add_zero]
    rw [k1,z45 R,← e1,← e2]
   obtain ⟨g,s,t,e,hg,hv⟩:=z2h n b (yX a b) s1 (s0 + -(zbf a b*s1)) t1 (t0 + -(zbf a b*t1)) (by omega) e2 hr
   rw [← hc1,← hc2] at e
   refine ⟨g,s,t,e,hg,fun d=>?_⟩
   rw [hv]
   constructor
   ·rintro ⟨d1,d2⟩
    refine ⟨?_,d1⟩
    rw [h1]
    exact R.dv_add (R.dv_mul d1 _) d2
   ·rintro ⟨d1,d2⟩
    refine ⟨d2,?_⟩
    rw [h1] at d1
    exact R.dv_sub d1 (R.dv_mul d2 _)
theorem zxv {p:Int} (hp:isP p=true) {M:Nat}:∀ (n:Nat) (a b s0 s1 t0 t1:List Int),Row p a→Row p b→EzOk p M a b s0 s1→EzOk p M a b t0 t1→(ez p n a b s0 s1 t0 t1).2.1.length≤M∧(ez p n a b s0 s1 t0 t1).2.2.length≤M
 | 0,a,b,s0,s1,t0,t1,_,_,hs,ht=>by
  have:=hs.h2
  have:=ht.h2
  simp only [ez]; omega
 | n + 1,a,b,s0,s1,t0,t1,ha,hb,hs,ht=>by
  have:=hs.h2
  have:=ht.h2
  simp only [ez]
  by_cases h0:b.length=0
  ·simp only [if_pos h0]; omega
  ·simp only [if_neg h0]
   exact zxv hp n b (rem p a b) _ _ _ _ hb (zis (by have:=wU hp; omega) ha b) (hs.next hp ha hb h0) (ht.next hp ha hb h0)
theorem zw6 {a b:PP P} (la:a.len≤64) (lb:b.len≤64) (hab:a ≠ 0∨b ≠ 0):∃ g u v:PP P,bz P.p a.1 b.1=(g.1,u.1,v.1)∧Mo g∧g=u*a + v*b∧Dv g a∧Dv g b∧u.len≤max a.len b.len + 1∧v.len≤max a.len b.len + 1:=by
 have R:IsRing (PP P):=zN
 obtain ⟨g,s,t,e,hg,hv⟩:=z2h (A:=a) (B:=b) 64 a b 1 0 0 1 lb (by rw [R.one_mul,R.zero_mul,R.add_zero]) (by rw [R.one_mul,R.zero_mul,R.zero_add])
 have hab':a.1.length ≠ 0∨b.1.length ≠ 0:=hab.imp zdq zdq
 obtain ⟨⟨g1,g2,g3⟩,_,_⟩:=zqv P.okp a.2 b.2 la lb hab'
 obtain ⟨k1,k2⟩:=zir (p:=P.p) P.two.1 la lb
 obtain ⟨l1,l2⟩:=zxv P.okp 64 a.1 b.1 [1] [] [] [1] a.2 b.2 k1 k2
 have e':eg P.p a.1 b.1=(g.1,s.1,t.1):=e
 have l1':s.len≤max a.len b.len + 1:=by
  have:(eg P.p a.1 b.1).2.1.length≤max a.len b.len + 1:=l1
  rw [e'] at this; exact this
 have l2':t.len≤max a.len b.len + 1:=by
  have:(eg P.p a.1 b.1).2.2.length≤max a.len b.len + 1:=l2
  rw [e'] at this; exact this
 rw [e'] at g1 g2 g3
 have hg0:g ≠ 0:=fun h=>g3 (wT.2 h)
 have hl:=zbn P.pos g.2 g3
 have hi:=zet P.okp hl
 obtain ⟨k,hk⟩:∃ k:Nat,inv P.p (wG g.1)=k:=⟨(inv P.p (wG g.1)).toNat,by omega⟩
 obtain ⟨d1,d2⟩:=(hv g).1 (R.dv_refl g)
 obtain ⟨m1,m2⟩:=z16 hg0
 have hm:mon g=mF k g:=by unfold mon; rw [hk,Int.toNat_natCast]
 have hn:∀ x:PP P,mF k x=mF k 1*x:=fun x=>by rw [R.mul_comm,R.mul_nsm,R.mul_one]
 refine ⟨mon g,mF k s,mF k t,?_,zst hg0,?_,R.dv_trans m2 d1,R.dv_trans m2 d2,Nat.le_trans (zo8 k s) l1',Nat.le_trans (zo8 k t) l2'⟩
 ·simp only [bz,e',hk,zxg,hm]
 ·rw [hm,hn g,hn s,hn t,hg,z0x R]
end Go.Proofs.YtebfhlnfmkhmcaaGreat
/- The polynomial with a number. -/
namespace Go.Proofs.YtebfhlnfmkhmcaaGreat
open Go.Abs

theorem zrh {p:Nat} (hp:2≤p):∀ s:Int×List Int,(∃ n:Nat,s.1=n∧s.2.length + n≤1000000000000)→∃ r,yK (fun s:Int×List Int=>qF p s.1 s.2) s=some r∧∀ n:Nat,s.1=n→r=s.2 ++ qM p n:=by
 refine zbr (fun (s:Int×List Int)=>∃ n:Nat,s.1=n∧s.2.length + n≤1000000000000) (fun (s:Int×List Int) (r:List Int)=>∀ n:Nat,s.1=n→r=s.2 ++ qM p n) (fun (s:Int×List Int)=>s.1.toNat) ?_
 rintro ⟨x,l⟩ ⟨n,hx,h2⟩
 simp only at hx h2
 subst hx
 by_cases hn:n=0
 ·right
  subst hn
  refine ⟨l,by simp [qF],fun m hm=>?_⟩
  have:m=0:=by simpa using hm.symm
  subst this
  rw [jB]; simp
 ·left
  have hlt:n / p < n:=Nat.div_lt_self (by omega) hp
  have e1:Int.tdiv (n:Int) p=((n / p:Nat):Int):=rfl
  have e2:Int.tmod (n:Int) p=((n % p:Nat):Int):=rfl
  have ed:=zas hp (show 0 < n by omega)
  generalize n / p=q at hlt e1 ed
  generalize n % p=d at e2 ed
  refine ⟨((q:Int),l ++ [(d:Int)]),?_,⟨q,rfl,by simp only [List.length_append,List.length_singleton]; omega⟩,by simp only [Int.toNat_natCast]; exact hlt,fun r hr m hm=>?_⟩
  ·simp only [qF]
   rw [if_pos (by simp; omega),zY (by omega),zY (by simp; omega),zY (by omega),e1,e2,zX (by omega) (by omega)]
  ·have:m=n:=by have:(n:Int)=m:=hm; omega
   subst this
   rw [hr q rfl,ed]
   simp

theorem zop {p n:Nat} (hp:2≤p) (hn:n≤1000000000000):nL p n=some (qM p n):=by
 obtain ⟨l,h3,h4⟩:=zrh hp ((n:Int),[]) ⟨n,rfl,by simp; omega⟩
 have e:=h4 n rfl
 simp only [List.nil_append] at e
 simp [nL,h3,e]

end Go.Proofs.YtebfhlnfmkhmcaaGreat
/- The polynomial of a number, in the reference. -/
namespace Go.Proofs.YtebfhlnfmkhmcaaGreat
open Go.Abs
theorem z2x {p:Nat} (hp:2≤p) (hp2:p≤256):∀ s:Int×Int×V64,(∃ (n:Nat) (l:List Int),s.1=n∧n≤1000000000000∧s.2.1=(l.length:Nat)∧s.2.2=yP l∧l.length + (qM p n).length≤64) →
  ∃ r,yK (fun s:Int×Int×V64=>zbv p s.1 s.2.1 s.2.2) s=some r∧∀ (n:Nat) (l:List Int),s.1=n→s.2.1=(l.length:Nat)→s.2.2=yP l→r=yP (l ++ qM p n):=by
 refine zbr (fun (s:Int×Int×V64)=>∃ (n:Nat) (l:List Int),s.1=n∧n≤1000000000000∧s.2.1=(l.length:Nat)∧s.2.2=yP l∧l.length + (qM p n).length≤64)
  (fun (s:Int×Int×V64) (r:V64)=>∀ (n:Nat) (l:List Int),s.1=n→s.2.1=(l.length:Nat)→s.2.2=yP l→r=yP (l ++ qM p n)) (fun (s:Int×Int×V64)=>s.1.toNat) ?_
 rintro ⟨x,i,v⟩ ⟨n,l,hx,hn,hi,hv,hl⟩
 simp only at hx hi hv
 subst hx hi hv
 by_cases h:n=0
 ·right
  subst h
  refine ⟨yP l,by simp [zbv],fun m k hm hk hv=>?_⟩
  have:m=0:=by have:((0:Nat):Int)=m:=hm; omega
  subst this
  rw [jB,List.append_nil]; exact hv
 ·left
  have hlt:n / p < n:=Nat.div_lt_self (by omega) hp
  have e1:Int.tdiv (n:Int) p=((n / p:Nat):Int):=rfl
  have e2:Int.tmod (n:Int) p=((n % p:Nat):Int):=rfl
  have ed:=zas hp (show 0 < n by omega)
  have hm:=Nat.mod_lt n (show p > 0 by omega)
  generalize n / p=q at hlt e1 ed
  generalize n % p=d at e2 ed hm
  rw [ed] at hl
  simp only [List.length_cons] at hl
  refine ⟨((q:Int),((l ++ [(d:Int)]).length:Nat),yP (l ++ [(d:Int)])),?_,⟨q,l ++ [(d:Int)],rfl,by omega,rfl,rfl,by simp; omega⟩,by simp only [Int.toNat_natCast]; exact hlt,fun r hr m k hm hk hv=>?_⟩
  ·simp only [zbv]
   rw [if_pos (by simp; omega),zY (by omega),zY (by omega),zY (by omega),e1,e2,zX (by omega) (by omega),zX (by omega) (by omega),zjd (by omega) (by omega)]
   rw [Int.toNat_natCast,zyx l d (by omega)]
   simp
  ·have:m=n:=by have:(n:Int)=m:=hm; omega
   subst this
   have h1:=hr q (l ++ [(d:Int)]) rfl rfl rfl
   rw [h1,ed]
   simp only at hv hk
   have hkl:k.length=l.length:=by omega
   refine ze7 fun j hj=>?_
   rw [zl8 _ hj,zl8 _ hj,List.append_assoc]
   simp only [List.singleton_append]
   have hv':∀ j,j < 64→l.getD j 0=k.getD j 0:=fun j hj=>by
    have:=congrArg (fun v:V64=>rd v.1 j) hv
    simp only [zl8 _ hj] at this
    exact this
   rw [zug,zug,hkl]
   split
   ·exact hv' j hj
   ·rfl

theorem z4f {p n:Nat} (hp:2≤p) (hp2:p≤256) (hn:n≤1000000000000):zgn p n=some (yP (qM p n)):=by
 have hl:=zwn hp hn
 obtain ⟨r,h1,h2⟩:=z2x hp hp2 ((n:Int),0,yP []) ⟨n,[],rfl,hn,rfl,rfl,by simp; omega⟩
 have e:=h2 n [] rfl rfl rfl
 simp only [zgn,← zb7,h1,e,Option.bind_some,List.nil_append]
end Go.Proofs.YtebfhlnfmkhmcaaGreat
/- Powers of p, counted by the reference. -/
namespace Go.Proofs.YtebfhlnfmkhmcaaGreat
open Go.Abs
/-- p to a power, and one more than the greatest number if it is greater. -/
theorem zuw {p n:Nat} (hp:2≤p∧p≤7) (hn:n≤1000000):∃ c:Nat,zda p n=some (c:Int)∧((p ^ n≤1000000000000∧c=p ^ n)∨(1000000000000 < p ^ n∧c=1000000000001)):=by
 have key:∀ (m i:Nat),i + m=n→(i=0∨p ^ (i - 1)≤1000000000000)→∃ c:Nat,yK (fun s:Int×Int=>vH p s.1 s.2) ((m:Int),((p ^ i:Nat):Int))=some (c:Int)∧((p ^ n≤1000000000000∧c=p ^ n)∨(1000000000000 < p ^ n∧1000000000000 < c)):=by
  intro m
  induction m with
  | zero =>
   intro i hi hle
   have:i=n:=by omega
   subst this
   have step:vH p ((0:Nat):Int) ((p ^ i:Nat):Int)=some (.inr ((p ^ i:Nat):Int)):=by simp [vH]
   rw [yR]
   simp only [step,Option.bind_some]
   refine ⟨p ^ i,rfl,?_⟩
   by_cases h:p ^ i≤1000000000000
   ·exact .inl ⟨h,rfl⟩
   ·exact .inr ⟨by omega,by omega⟩
  | succ m ih =>
   intro i hi hle
   have hmono:=zrm hp.1 (show i≤n by omega)
   by_cases h:p ^ i≤1000000000000
   ·have hle2:=Nat.mul_le_mul h hp.2
    have e1:((p ^ i:Nat):Int)*(p:Int)=((p ^ (i + 1):Nat):Int):=by rw [Nat.pow_succ,Int.natCast_mul]
    have e2:p ^ (i + 1)=p ^ i*p:=Nat.pow_succ ..
    have e3:IntKind.i64.wrap (((m + 1:Nat):Int) - 1)=(m:Int):=by rw [zX (by omega) (by omega)]; omega
    have step:vH p ((m + 1:Nat):Int) ((p ^ i:Nat):Int)=some (.inl ((m:Int),((p ^ (i + 1):Nat):Int))):=by
     simp only [vH]
     rw [if_pos (decide_eq_true (by omega)),e3,e1,zX (n:=((p ^ (i + 1):Nat):Int)) (by omega) (by omega)]
     simp only [Option.bind_some]
     rw [if_pos (decide_eq_true (by omega))]
    rw [yR]
    simp only [step,Option.bind_some]
    exact ih (i + 1) (by omega) (.inr (by simp only [Nat.add_sub_cancel]; omega))
   ·have step:vH p ((m + 1:Nat):Int) ((p ^ i:Nat):Int)=some (.inr ((p ^ i:Nat):Int)):=by
     simp only [vH]
     rw [if_pos (decide_eq_true (by omega))]
     simp only [Option.bind_some]
     rw [if_neg (by rw [decide_eq_true_eq]; omega)]
    rw [yR]
    simp only [step,Option.bind_some]
    exact ⟨p ^ i,rfl,.inr ⟨by omega,by omega⟩⟩
 obtain ⟨c,h1,h2⟩:=key n 0 (by omega) (.inl rfl)
 simp only [Nat.pow_zero] at h1
 have h1':yK (fun s:Int×Int=>vH p s.1 s.2) ((n:Int),1)=some (c:Int):=h1
 simp only [zda,h1',Option.bind_some]
 rcases h2 with ⟨h2,h3⟩ | ⟨h2,h3⟩
 ·exact ⟨c,by rw [if_neg (by omega)],.inl ⟨h2,h3⟩⟩
 ·refine ⟨1000000000001,?_,.inr ⟨h2,rfl⟩⟩
  split
  ·rfl
  ·congr 1; omega
end Go.Proofs.YtebfhlnfmkhmcaaGreat
/- Which arrays have coefficients below p. -/
namespace Go.Proofs.YtebfhlnfmkhmcaaGreat
open Go.Abs
/-- All coefficients lie below p. -/
def Small (p:Int) (a:V64):Prop:=∀ j,j < 64→rd a.1 j < p
open Classical in
noncomputable def uM (p:Int) (a:V64):Bool:=decide (Small p a)

theorem vZ {p:Int} {a:V64} (hb:IsB a) (h:uM p a=true):Res p a:=fun j hj=>by
 have h1:Small p a:=by simpa [uM] using h
 exact ⟨(hb.rd hj).1,h1 j hj⟩
end Go.Proofs.YtebfhlnfmkhmcaaGreat
/- Which arrays are polynomials, in the reference. -/
namespace Go.Proofs.YtebfhlnfmkhmcaaGreat
open Go.Abs
theorem z3o {p:Int} {a:V64} (hb:IsB a):∀ s:Int,(∃ i:Nat,s=i∧i≤64∧∀ j,j < i→rd a.1 j < p)→∃ r,yK (fun s:Int=>zab a p s) s=some r∧((r=.inl ()∧Small p a)∨(r=.inr false∧¬ Small p a)):=by
 refine zbr (fun (s:Int)=>∃ i:Nat,s=i∧i≤64∧∀ j,j < i→rd a.1 j < p) (fun (s:Int) (r:Unit⊕Bool)=>(r=.inl ()∧Small p a)∨(r=.inr false∧¬ Small p a)) (fun s=>64 - s.toNat) ?_
 rintro s ⟨i,rfl,hi,hlt⟩
 by_cases h:i=64
 ·right
  subst h
  exact ⟨.inl (),by simp [zab],.inl ⟨rfl,hlt⟩⟩
 ·have hbi:=hb.rd (show i < 64 by omega)
  by_cases e:rd a.1 i < p
  ·left
   refine ⟨((i + 1:Nat):Int),?_,⟨i + 1,rfl,by omega,fun j hj=>?_⟩,by simp; omega,fun r hr=>hr⟩
   ·simp only [zab]
    rw [if_pos (by simp; omega),zY (by omega),Int.toNat_natCast,zX (by omega) (by omega),if_neg (by simp; omega),zX (by omega) (by omega)]
    rfl
   ·by_cases hj':j=i
    ·rw [hj']; exact e
    ·exact hlt j (by omega)
  ·right
   refine ⟨.inr false,?_,.inr ⟨rfl,fun hs=>e (hs i (by omega))⟩⟩
   simp only [zab]
   rw [if_pos (by simp; omega),zY (by omega),Int.toNat_natCast,zX (by omega) (by omega),if_pos (by simp; omega)]
theorem zjb {p:Int} {a:V64} (hb:IsB a):zcn p a=some (uM p a && isP p):=by
 obtain ⟨r,h1,h2⟩:=z3o (p:=p) hb 0 ⟨0,rfl,by omega,fun j hj=>by omega⟩
 rcases h2 with ⟨rfl,h⟩ | ⟨rfl,h⟩ <;> simp [zcn,h1,uM,h,zi5]

end Go.Proofs.YtebfhlnfmkhmcaaGreat
/- The code for polynomials, in the reference. -/
namespace Go.Proofs.YtebfhlnfmkhmcaaGreat
open Go.Abs
theorem zzm {p:Int} {l:List V64} (hb:∀ a∈l,IsB a) (hl:l.length≤2000000) (hp:isP p=true):∀ s:Int,(∃ i:Nat,s=i∧i≤l.length∧∀ a∈l.take i,uM p a=true)→∃ r,yK (fun s:Int=>nD l p s) s=some r∧((r=.inl ()∧l.all (uM p)=true)∨(r=.inr 1∧l.all (uM p)=false)):=by
 refine zbr (fun (s:Int)=>∃ i:Nat,s=i∧i≤l.length∧∀ a∈l.take i,uM p a=true) (fun (s:Int) (r:Unit⊕Int)=>(r=.inl ()∧l.all (uM p)=true)∨(r=.inr 1∧l.all (uM p)=false)) (fun s=>l.length - s.toNat) ?_
 rintro s ⟨i,rfl,hi,hlt⟩
 by_cases h:i=l.length
 ·right
  subst h
  exact ⟨.inl (),by simp [nD],.inl ⟨rfl,by rw [List.take_length] at hlt; simpa using hlt⟩⟩
 ·have hil:i < l.length:=by omega
  have er:rd l i=l[i]:=by simp [rd,hil]
  have hbi:=zjb (p:=p) (hb l[i] (List.getElem_mem _))
  rw [hp,Bool.and_true] at hbi
  cases e:uM p l[i] with
  | true =>
   left
   refine ⟨((i + 1:Nat):Int),?_,⟨i + 1,rfl,by omega,fun a ha=>?_⟩,by simp; omega,fun r hr=>hr⟩
   ·simp only [nD]
    rw [if_pos (by simp; omega),zY (by omega),Int.toNat_natCast,er,hbi,e]
    simp only [Option.bind_some,Bool.not_true,Bool.false_eq_true,if_false]
    rw [zX (by omega) (by omega)]; rfl
   ·rw [List.take_succ_eq_append_getElem hil] at ha
    rcases List.mem_append.1 ha with ha | ha
    ·exact hlt a ha
    ·have:a=l[i]:=by simpa using ha
     rw [this]; exact e
  | false =>
   right
   refine ⟨.inr 1,?_,.inr ⟨rfl,?_⟩⟩
   ·simp only [nD]
    rw [if_pos (by simp; omega),zY (by omega),Int.toNat_natCast,er,hbi,e]
    rfl
   ·rw [List.all_eq_false]
    exact ⟨l[i],List.getElem_mem _,by simp [e]⟩
theorem z31 {p:Int} {l:List V64} (hb:∀ a∈l,IsB a) (hl:l.length≤2000000):zfs p l=some (if isP p && l.all (uM p) then 0 else 1):=by
 unfold zfs
 rw [zi5]
 cases hp:isP p with
 | false=>simp
 | true =>
  obtain ⟨r,h1,h2⟩:=zzm hb hl hp 0 ⟨0,rfl,by omega,by simp⟩
  simp only [Option.bind_some,Bool.not_true,Bool.false_eq_true,if_false,h1,Bool.true_and]
  rcases h2 with ⟨rfl,h⟩ | ⟨rfl,h⟩ <;> simp [h]

end Go.Proofs.YtebfhlnfmkhmcaaGreat
/- Which arrays are polynomials, in the program. -/
namespace Go.Proofs.YtebfhlnfmkhmcaaGreat
open Go.Abs

theorem zwv {p:Int} {a:V64} (hb:IsB a):∀ s:Int,(∃ i:Nat,s=i∧i≤64∧∀ j,j < i→rd a.1 j < p)→∃ r,yK (fun s:Int=>yL a.1 p s) s=some r∧((r=.inl ()∧Small p a)∨(∃ i:Nat,r=.inr (i:Int)∧¬ Small p a)):=by
 refine zbr (fun (s:Int)=>∃ i:Nat,s=i∧i≤64∧∀ j,j < i→rd a.1 j < p) (fun (s:Int) (r:Unit⊕Int)=>(r=.inl ()∧Small p a)∨(∃ i:Nat,r=.inr (i:Int)∧¬ Small p a)) (fun s=>64 - s.toNat) ?_
 rintro s ⟨i,rfl,hi,hlt⟩
 have h64:=a.2
 by_cases h:i=64
 ·right
  subst h
  exact ⟨.inl (),by simp [yL,h64],.inl ⟨rfl,hlt⟩⟩
 ·have hbi:=hb.rd (show i < 64 by omega)
  have e1:kZ (rd a.1 i) p=some (!decide (rd a.1 i < p)):=by
   simp only [kZ,zc7,Option.bind_some]
   rw [zX (by omega) (by omega)]
  by_cases e:rd a.1 i < p
  ·left
   refine ⟨((i + 1:Nat):Int),?_,⟨i + 1,rfl,by omega,fun j hj=>?_⟩,by simp; omega,fun r hr=>hr⟩
   ·simp only [yL,h64]
    rw [if_pos (by simp; omega),zY (by omega),Int.toNat_natCast,e1,zX (by omega) (by omega)]
    simp [e]
   ·by_cases hj':j=i
    ·rw [hj']; exact e
    ·exact hlt j (by omega)
  ·right
   refine ⟨.inr (i:Int),?_,.inr ⟨i,rfl,fun hs=>e (hs i (by omega))⟩⟩
   simp only [yL,h64]
   rw [if_pos (by simp; omega),zY (by omega),Int.toNat_natCast,e1]
   simp [e]
theorem zkh {p:Int} {a:V64} (hb:IsB a):zcc p a=some (uM p a):=by
 obtain ⟨r,h1,h2⟩:=zwv (p:=p) hb 0 ⟨0,rfl,by omega,fun j hj=>by omega⟩
 simp only [zcc,qT,wE,wL,h1,Option.bind_some]
 rcases h2 with ⟨rfl,h⟩ | ⟨i,rfl,h⟩ <;> simp [uM,h]
end Go.Proofs.YtebfhlnfmkhmcaaGreat
/- The row of an array, trimmed. -/
namespace Go.Proofs.YtebfhlnfmkhmcaaGreat
open Go.Abs

theorem zxb {a:V64} (hb:IsB a):∀ s:Int×List Int,(∃ i:Nat,s.1=i∧i≤64∧s.2=a.1.take i)→∃ r,yK (fun s:Int×List Int=>zbu a s.1 s.2) s=some r∧r=a.1:=by
 refine zbr (fun (s:Int×List Int)=>∃ i:Nat,s.1=i∧i≤64∧s.2=a.1.take i) (fun (s:Int×List Int) (r:List Int)=>r=a.1) (fun (s:Int×List Int)=>64 - s.1.toNat) ?_
 rintro ⟨x,v⟩ ⟨i,hx,hi,hv⟩
 simp only at hx hv
 subst hx hv
 by_cases h:i=64
 ·right
  subst h
  exact ⟨a.1,by simp [zbu,List.take_of_length_le (Nat.le_of_eq a.2)],rfl⟩
 ·left
  have hil:i < a.1.length:=by rw [a.2]; omega
  have er:rd a.1 i=a.1[i]:=by simp [rd,hil]
  have hbi:=hb.rd (show i < 64 by omega)
  refine ⟨(((i + 1:Nat):Int),a.1.take (i + 1)),?_,⟨i + 1,rfl,by omega,rfl⟩,by simp; omega,fun r hr=>hr⟩
  simp only [zbu]
  rw [if_pos (by simp; omega),zY (by omega),zY (by simp; omega)]
  rw [Int.toNat_natCast,zX (by omega) (by omega),zX (by omega) (by omega),er,List.take_succ_eq_append_getElem hil]
  simp

theorem z1e {a:V64} (hb:IsB a):mZ a=some (a.1.take (top (rd a.1) 64)):=by
 obtain ⟨r,h1,h2⟩:=zxb hb (0,[]) ⟨0,rfl,by omega,by simp⟩
 subst h2
 have h3:=zgk (l:=a.1) (by rw [a.2]; omega)
 rw [a.2] at h3
 simp only [mZ,h1,Option.bind_some,h3]
end Go.Proofs.YtebfhlnfmkhmcaaGreat
/- The row of an array. -/
namespace Go.Proofs.YtebfhlnfmkhmcaaGreat
open Go.Abs
theorem zhm {d:V64} (hb:IsB d):mZ d=some (row d):=by
 rw [z1e hb]
 congr 1
 have:=zeu (rd d.1) 64
 refine zqb (by rw [row,zbi]; simp; rw [d.2]; omega) fun i hi=>?_
 simp at hi
 rw [zx9,row,ziv,if_pos (by omega),if_pos (by omega)]
theorem zqm (d:V64):(row d).length=top (rd d.1) 64:=by rw [row,zbi]
theorem zpx (d:V64) {i:Nat} (hi:i < 64):rd (row d) i=rd d.1 i:=by rw [row,ziv,if_pos hi]
end Go.Proofs.YtebfhlnfmkhmcaaGreat
/- The code for polynomials, in the program. -/
namespace Go.Proofs.YtebfhlnfmkhmcaaGreat
open Go.Abs

theorem zu4 {p:Int} {l:List V64} (hb:∀ a∈l,IsB a) (hl:l.length≤2000000):∀ s:Int,(∃ i:Nat,s=i∧i≤l.length∧∀ a∈l.take i,uM p a=true)→∃ r,yK (fun s:Int=>yE l p s) s=some r∧((r=.inl ()∧l.all (uM p)=true)∨(∃ i:Nat,r=.inr (i:Int)∧l.all (uM p)=false)):=by
 refine zbr (fun (s:Int)=>∃ i:Nat,s=i∧i≤l.length∧∀ a∈l.take i,uM p a=true) (fun (s:Int) (r:Unit⊕Int)=>(r=.inl ()∧l.all (uM p)=true)∨(∃ i:Nat,r=.inr (i:Int)∧l.all (uM p)=false)) (fun s=>l.length - s.toNat) ?_
 rintro s ⟨i,rfl,hi,hlt⟩
 by_cases h:i=l.length
 ·right
  subst h
  exact ⟨.inl (),by simp [yE],.inl ⟨rfl,by rw [List.take_length] at hlt; simpa using hlt⟩⟩
 ·have hil:i < l.length:=by omega
  have er:rd l i=l[i]:=by simp [rd,hil]
  have hbi:=zkh (p:=p) (hb l[i] (List.getElem_mem _))
  have e1:qJ (rd l i) p=some (!uM p l[i]):=by
   simp only [qJ,zbg,er,hbi,Option.bind_some]
  cases e:uM p l[i] with
  | true =>
   left
   refine ⟨((i + 1:Nat):Int),?_,⟨i + 1,rfl,by omega,fun a ha=>?_⟩,by simp; omega,fun r hr=>hr⟩
   ·simp only [yE]
    rw [if_pos (decide_eq_true (by omega)),zY (by omega),Int.toNat_natCast,e1,e]
    simp only [Option.bind_some,Bool.not_true,Bool.false_eq_true,if_false]
    rw [zX (by omega) (by omega)]; rfl
   ·rw [List.take_succ_eq_append_getElem hil] at ha
    rcases List.mem_append.1 ha with ha | ha
    ·exact hlt a ha
    ·have:a=l[i]:=by simpa using ha
     rw [this]; exact e
  | false =>
   right
   refine ⟨.inr (i:Int),?_,.inr ⟨i,rfl,?_⟩⟩
   ·simp only [yE]
    rw [if_pos (decide_eq_true (by omega)),zY (by omega),Int.toNat_natCast,e1,e]
    rfl
   ·rw [List.all_eq_false]
    exact ⟨l[i],List.getElem_mem _,by simp [e]⟩
theorem ztu {p:Int} {l:List V64} (hb:∀ a∈l,IsB a) (hl:l.length≤2000000):zd7 p l=some (if isP p && l.all (uM p) then 0 else 1):=by
 obtain ⟨r,h1,h2⟩:=zu4 (p:=p) hb hl 0 ⟨0,rfl,by omega,by simp⟩
 have e:wH l p=some (l.all (uM p)):=by
  simp only [wH,xG,xK,h1,Option.bind_some]
  rcases h2 with ⟨rfl,h⟩ | ⟨i,rfl,h⟩ <;> simp [h]
 simp only [zd7,zmr,e,Option.bind_some]
 cases isP p <;> cases l.all (uM p) <;> simp
end Go.Proofs.YtebfhlnfmkhmcaaGreat
/- Discriminants. -/
namespace Go.Proofs.YtebfhlnfmkhmcaaGreat
open Go.Abs

theorem z1f {a:V64} (ha:IsB a) {i:Nat} (hi:i < 64):0≤rd a.1 i∧rd a.1 i < 256:=ha _ (z12 (by rw [a.2]; exact hi))
/-- One round of the derivative. -/
theorem zxk {p x v:Int} (hp:2≤p∧p≤7) (hx:0≤x∧x < 64) (hv:0≤v∧v < 256) :
  IntKind.i64.wrap (Int.tmod x p*IntKind.i64.wrap v)=x % p*v∧IntKind.i64.wrap (x*IntKind.i64.wrap v)=x*v∧Int.tmod (x % p*v) p=x*v % p∧Int.tmod (x*v) p=x*v % p:=by
 have e1:Int.tmod x p=x % p:=Int.tmod_eq_emod_of_nonneg hx.1
 have e2:=Int.emod_nonneg x (show p ≠ 0 by omega)
 have e3:=Int.emod_lt_of_pos x (show 0 < p by omega)
 have m1:0≤x % p*v:=Int.mul_nonneg e2 hv.1
 have m2:x % p*v≤7*256:=Int.mul_le_mul (by omega) (by omega) hv.1 (by omega)
 have m3:0≤x*v:=Int.mul_nonneg hx.1 hv.1
 have m4:x*v≤64*256:=Int.mul_le_mul (by omega) (by omega) hv.1 (by omega)
 refine ⟨?_,?_,?_,?_⟩
 ·rw [e1,zX (n:=v) (by omega) (by omega),zX (by omega) (by omega)]
 ·rw [zX (n:=v) (by omega) (by omega),zX (by omega) (by omega)]
 ·rw [Int.tmod_eq_emod_of_nonneg m1,Int.mul_emod,Int.emod_emod,← Int.mul_emod]
 ·rw [Int.tmod_eq_emod_of_nonneg m3]
theorem zzn {p:Int} (hp:2≤p∧p≤7) {a:V64} (ha:IsB a) {i:Nat} (hi:i < 63) (s:V64) :
  vT p a ((i + 1:Nat):Int) s=some (.inl (((i + 1 + 1:Nat):Int),yO s i (((i + 1:Nat):Int)*rd a.1 (i + 1) % p))):=by
 obtain ⟨v1,v2,v3,v4⟩:=zxk hp (x:=((i + 1:Nat):Int)) (by omega) (z1f ha (show i + 1 < 64 by omega))
 have r1:=Int.emod_nonneg (((i + 1:Nat):Int)*rd a.1 (i + 1)) (show p ≠ 0 by omega)
 have r2:=Int.emod_lt_of_pos (((i + 1:Nat):Int)*rd a.1 (i + 1)) (show 0 < p by omega)
 have w:IntKind.i64.wrap (((i + 1:Nat):Int) - 1)=(i:Int):=by rw [zX (by omega) (by omega)]; omega
 simp only [vT,kR]
 rw [if_pos (decide_eq_true (by omega)),zY (by omega),zY (by omega),Int.toNat_natCast,v1,zY (by omega),w,zY (by omega),v3,zjd (by omega) (by omega),zX (by omega) (by omega),Int.toNat_natCast]
 rfl
theorem zz4 {p:Int} (hp:2≤p∧p≤7) {a:V64} (ha:IsB a) {i:Nat} (hi:i < 63) (s:V64) :
  vR a p ((i + 1:Nat):Int) s=some (.inl (((i + 1 + 1:Nat):Int),yO s i (((i + 1:Nat):Int)*rd a.1 (i + 1) % p))):=by
 obtain ⟨v1,v2,v3,v4⟩:=zxk hp (x:=((i + 1:Nat):Int)) (by omega) (z1f ha (show i + 1 < 64 by omega))
 have r1:=Int.emod_nonneg (((i + 1:Nat):Int)*rd a.1 (i + 1)) (show p ≠ 0 by omega)
 have r2:=Int.emod_lt_of_pos (((i + 1:Nat):Int)*rd a.1 (i + 1)) (show 0 < p by omega)
 have w:IntKind.i64.wrap (((i + 1:Nat):Int) - 1)=(i:Int):=by rw [zX (by omega) (by omega)]; omega
 simp only [vR,kR]
 rw [if_pos (decide_eq_true (by omega)),zY (by omega),Int.toNat_natCast,v2,zY (by omega),w,zY (by omega),v4,zjd (by omega) (by omega),zX (by omega) (by omega),Int.toNat_natCast]
 rfl
/-- The derivative. -/
def dvl (p:Int) (a:V64):Nat→V64
 | 0=>yH 64 0
 | i + 1=>yO (dvl p a i) i (((i + 1:Nat):Int)*rd a.1 (i + 1) % p)
theorem zyk {p:Int} (hp:2≤p) (a:V64):∀ i,i≤63→Res p (dvl p a i)
 | 0,_=>fun j hj=>by rw [dvl,zgw _ hj]; omega
 | i + 1,h=>fun j hj=>by
  rw [dvl,zbc _ _ _ _ (by omega)]
  split
  ·exact ⟨Int.emod_nonneg _ (by omega),Int.emod_lt_of_pos _ (by omega)⟩
  ·exact zyk hp a i (by omega) j hj
def dv (p:Int) (a:V64):V64:=dvl p a 63
theorem zso {p:Int} (hp:2≤p) (a:V64):Res p (dv p a):=zyk hp a 63 (Nat.le_refl _)
theorem z3u {p:Int} (hp:isP p=true) {a:V64} (ha:IsB a) (hs:uM p a=true):zb6 p a=some (dv p a,0):=by
 have hp2:=wU hp
 obtain ⟨s,g1,g2⟩:=wR (body:=fun s:Int×V64=>vT p a s.1 s.2) (fun i s=>(((i + 1:Nat):Int),s)) (fun s=>s) 63
  (fun i s=>s=dvl p a i) (fun i s hi hI=>by
   subst hI
   exact ⟨_,zzn hp2 ha hi _,rfl⟩) (fun s hI=>by
   simp only [vT]
   rw [if_neg (by rw [decide_eq_true_eq]; omega)]) 63 0 (yH 64 0) (by omega) rfl
 have g1':yK (fun s:Int×V64=>vT p a s.1 s.2) (1,yH 64 0)=some s:=g1
 simp only [zb6,z31 (p:=p) (l:=[a]) (by simp [ha]) (by simp),List.all_cons,List.all_nil,hp,hs,Bool.and_true,if_true,Option.bind_some,bne_self_eq_false,Bool.false_eq_true,if_false,g1',g2,dv]
theorem z3t {p:Int} (hp:isP p=true) {a:V64} (ha:IsB a) (hs:uM p a=true):zb5 p a=some (dv p a,0):=by
 have hp2:=wU hp
 obtain ⟨s,g1,g2⟩:=wR (body:=fun s:Int×V64=>vR a p s.1 s.2) (fun i s=>(((i + 1:Nat):Int),s)) (fun s=>s) 63
  (fun i s=>s=dvl p a i) (fun i s hi hI=>by
   subst hI
   exact ⟨_,zz4 hp2 ha hi _,rfl⟩) (fun s hI=>by
   simp only [vR]
   rw [if_neg (by rw [decide_eq_true_eq]; omega)]) 63 0 (yH 64 0) (by omega) rfl
 have g1':yK (fun s:Int×V64=>vR a p s.1 s.2) (1,yH 64 0)=some s:=g1
 simp only [zb5,ztu (p:=p) (l:=[a]) (by simp [ha]) (by simp),List.all_cons,List.all_nil,hp,hs,Bool.and_true,if_true,Option.bind_some,bne_self_eq_false,Bool.false_eq_true,if_false,g1',g2,dv]
attribute [irreducible] dv
theorem zgg (l:List Int):zbe l=some (decide (l.length=1∧rd l 0=1)):=by
 simp only [zbe]
 by_cases h:l.length=1
 ·rw [if_pos (by simp [h]),zY (by omega)]
  congr 1
  rw [Bool.eq_iff_iff]
  simp [h]
 ·rw [if_neg (by simp; omega)]
  simp [h]
/-- A discriminant. -/
noncomputable def mX (p:Int) (d:V64):Bool :=
 isP p && uM p d && decide (p ≠ 2) && decide ((row d).length=2∨(row d).length=4∨(row d).length=6) && decide ((bz p (row d) (row (dv p d))).1.length=1)
theorem zex (v:V64):yW v=some (((row v).length:Int) - 1):=by rw [zkd,zqm]
theorem zz5 (v:V64):xF (row v)=some (((row v).length:Int) - 1):=by
 have:=jK v
 simp only [xF]
 rw [zX (by omega) (by omega)]
theorem zpf {p:Int} {l:List Int} (hl:Row p l) (h:l.length≤64):yW (yP l)=some ((l.length:Int) - 1):=by rw [zkd,ze2 h,hl.top h]
theorem zck {p:Int} {d:V64} (hd:IsB d):za7 p d=some (mX p d):=by
 simp only [za7,zjb hd,Option.bind_some,zex]
 by_cases hok:(isP p && uM p d)=true
 ·obtain ⟨hp,hs⟩:isP p=true∧uM p d=true:=by simpa using hok
  have hp2:=wU hp
  by_cases h2:p=2
  ·simp [mX,hp,hs,h2]
  ·by_cases h3:(row d).length=2∨(row d).length=4∨(row d).length=6
   ·have hrd:=zak (vZ hd hs)
    have hrv:=zak (zso hp2.1 d)
    have hl:=jK d
    have hb:=zga hp hrd hrv (jK d) (jK _) (.inl (by omega))
    rw [zfx,zfx] at hb
    obtain ⟨b1,b2,b3,b4⟩:=zu5 hp hrd hrv (jK d) (jK _) (.inl (by omega))
    have hg:zcj p d (dv p d)=some (yP (bz p (row d) (row (dv p d))).1):=by
     simp only [zcj,zex,Option.bind_some]
     rw [if_neg (by rw [decide_eq_true_eq]; omega)]
     simp only [Option.bind_some,Bool.false_eq_true,if_false,hb]
    have e1:((if (((row d).length:Int) - 1 != 1)=true then if (((row d).length:Int) - 1 != 3)=true then some (((row d).length:Int) - 1 != 5) else some false else some false):Option Bool)=some false:=by
     rcases h3 with h | h | h <;> rw [h] <;> rfl
    have e2:(p == 2)=false:=by simp [h2]
    simp only [hp,hs,Bool.and_true,Bool.not_true,Bool.false_eq_true,if_false,Option.bind_some,e2,e1,z3u hp hd hs,hg,zpf b1 b3]
    refine congrArg some ?_
    have key:mX p d=decide ((bz p (row d) (row (dv p d))).1.length=1):=by
     simp only [mX,hp,hs,decide_eq_true (show p ≠ 2 from h2),decide_eq_true h3,Bool.and_self,Bool.true_and]
    rw [key,Bool.eq_iff_iff,beq_iff_eq,decide_eq_true_eq]
    rw [ze8 b1 b3]
    omega
   ·have e2:(p == 2)=false:=by simp [h2]
    have e1:((if (((row d).length:Int) - 1 != 1)=true then if (((row d).length:Int) - 1 != 3)=true then some (((row d).length:Int) - 1 != 5) else some false else some false):Option Bool)=some true:=by
     rw [if_pos (by rw [bne_iff_ne]; omega),if_pos (by rw [bne_iff_ne]; omega)]
     congr 1
     rw [bne_iff_ne]; omega
    simp only [hp,hs,Bool.and_true,Bool.not_true,Bool.false_eq_true,if_false,if_true,Option.bind_some,e2,e1]
    simp [mX,h3]
 ·have hok:(isP p && uM p d)=false:=by simpa using hok
  have hok':(uM p d && isP p)=false:=by rw [Bool.and_comm]; exact hok
  simp [hok',mX,hok]
theorem zmk {p:Int} {d:V64} (hd:IsB d):kW p d=some (mX p d):=by
 have hI:zhc p d=some (isP p && uM p d):=by
  simp only [zhc,zmr,zkh hd,Option.bind_some]
  cases isP p <;> simp
 simp only [kW,hI,zhm hd,Option.bind_some,zz5]
 by_cases hok:(isP p && uM p d)=true
 ·obtain ⟨hp,hs⟩:isP p=true∧uM p d=true:=by simpa using hok
  have hp2:=wU hp
  by_cases h2:p=2
  ·simp [mX,hp,hs,h2]
  ·by_cases h3:(row d).length=2∨(row d).length=4∨(row d).length=6
   ·have hrd:=zak (vZ hd hs)
    have hrv:=zak (zso hp2.1 d)
    have hl:=jK d
    have hv:IsB (dv p d):=fun x hx=>by
     obtain ⟨i,hi,rfl⟩:=List.getElem_of_mem hx
     have h1:=(zso hp2.1 d) i (by rw [← (dv p d).2]; exact hi)
     rw [zmv hi] at h1
     omega
    have hb:=zlx hp hrd hrv (jK d) (jK _) (.inl (by omega))
    obtain ⟨b1,b2,b3,b4⟩:=zu5 hp hrd hrv (jK d) (jK _) (.inl (by omega))
    have e1:((if (((row d).length:Int) - 1 != 1)=true then if (((row d).length:Int) - 1 != 3)=true then some (((row d).length:Int) - 1 != 5) else some false else some false):Option Bool)=some false:=by
     rcases h3 with h | h | h <;> rw [h] <;> rfl
    have e2:(p == 2)=false:=by simp [h2]
    simp only [hp,hs,Bool.and_true,Bool.not_true,Bool.false_eq_true,if_false,Option.bind_some,e2,e1,z3t hp hd hs,zhm hv,zgo,hb,zgg]
    refine congrArg some ?_
    have key:mX p d=decide ((bz p (row d) (row (dv p d))).1.length=1):=by
     simp only [mX,hp,hs,decide_eq_true (show p ≠ 2 from h2),decide_eq_true h3,Bool.and_self,Bool.true_and]
    rw [key,Bool.eq_iff_iff,decide_eq_true_eq,decide_eq_true_eq]
    constructor
    ·exact fun h=>h.1
    ·intro h
     refine ⟨h,?_⟩
     unfold wG at b4
     rw [h] at b4
     exact b4
   ·have e2:(p == 2)=false:=by simp [h2]
    have e1:((if (((row d).length:Int) - 1 != 1)=true then if (((row d).length:Int) - 1 != 3)=true then some (((row d).length:Int) - 1 != 5) else some false else some false):Option Bool)=some true:=by
     rw [if_pos (by rw [bne_iff_ne]; omega),if_pos (by rw [bne_iff_ne]; omega)]
     congr 1
     rw [bne_iff_ne]; omega
    simp only [hp,hs,Bool.and_true,Bool.not_true,Bool.false_eq_true,if_false,if_true,Option.bind_some,e2,e1]
    simp [mX,h3]
 ·have hok:(isP p && uM p d)=false:=by simpa using hok
  simp [mX,hok]
end Go.Proofs.YtebfhlnfmkhmcaaGreat
/- Monic polynomials, in the program. -/
namespace Go.Proofs.YtebfhlnfmkhmcaaGreat
open Go.Abs

/-- The monic polynomials of degree d. -/
def zgi (p d:Nat) (n:Nat):List (List Int):=(List.range n).map fun i=>qM p (p ^ d + i)
theorem zzw {p d:Nat} (hp:2≤p∧p≤7) (hd:d≤1000000) (hm:p ^ d≤343):zb1 p d=some (zgi p d (p ^ d)):=by
 obtain ⟨c,h1,h2,_⟩:=zxx (n:=d) (most:=343) hp hd (by omega)
 have hc:c=p ^ d:=by omega
 subst hc
 have h1':nF p d 343=some ((p ^ d:Nat):Int):=h1
 simp only [zb1,h1',Option.bind_some]
 generalize hn:p ^ d=n at *
 obtain ⟨s,g1,g2⟩:=wR (body:=fun s:Int×List (List Int)=>uZ (n:Int) p s.1 s.2) (fun i s=>((i:Int),s)) (fun s=>s) n
  (fun i s=>s=(List.range i).map fun i=>qM p (n + i)) (fun i s hi hI=>by
   subst hI
   refine ⟨_,?_,rfl⟩
   simp only [uZ]
   have e:IntKind.i64.wrap ((n:Int) + (i:Int))=((n + i:Nat):Int):=by rw [zX (by omega) (by omega)]; omega
   rw [if_pos (decide_eq_true (by omega)),e,zop hp.1 (by omega)]
   simp only [Option.bind_some]
   rw [zY (by simp; omega),zX (by omega) (by omega),List.range_succ,List.map_append]
   rfl) (fun s hI=>by
   simp only [uZ]
   rw [if_neg (by rw [decide_eq_true_eq]; omega)]) n 0 [] (by omega) rfl
 have g1':yK (fun s:Int×List (List Int)=>uZ (n:Int) p s.1 s.2) (0,[])=some s:=g1
 rw [g1',g2,zgi,hn]
 rfl
end Go.Proofs.YtebfhlnfmkhmcaaGreat
/- Digits of numbers, one by one. -/
namespace Go.Proofs.YtebfhlnfmkhmcaaGreat
open Go.Abs

theorem zmu {p:Nat} (hp:2≤p):∀ (j n:Nat),rd (qM p n) j=((n / p ^ j % p:Nat):Int)
 | 0,n=>by
  rcases Nat.eq_zero_or_pos n with rfl | h
  ·rw [jB]; simp [rd]
  ·rw [zas hp h]; simp [rd]
 | j + 1,n=>by
  rcases Nat.eq_zero_or_pos n with rfl | h
  ·rw [jB]; simp [rd]
  ·rw [zas hp h,zm1,zmu hp j,Nat.pow_succ,Nat.mul_comm (p ^ j),Nat.div_div_eq_div_mul]
theorem zl4 {p g i:Nat} (hp:2≤p) (hi:i < p ^ g):rd (qM p (p ^ g + i)) g=1:=by
 have hpos:0 < p ^ g:=Nat.pow_pos (by omega)
 rw [zmu hp,Nat.add_div_left _ hpos,Nat.div_eq_of_lt hi]
 have:(0 + 1) % p=1:=Nat.mod_eq_of_lt (by omega)
 rw [this]; rfl
end Go.Proofs.YtebfhlnfmkhmcaaGreat
/- Monic polynomials from their numbers. -/
namespace Go.Proofs.YtebfhlnfmkhmcaaGreat
open Go.Abs

theorem zy9 {p n k:Nat} (hp:2≤p) (hn:n < 64) (hk:k < p ^ n):yO (yP (qM p k)) n 1=yP (qM p (p ^ n + k)):=by
 refine ze7 fun j hj=>?_
 rw [zbc _ _ _ _ hn,uW _ hj,uW _ hj,zmu hp,zmu hp]
 have hpos:∀ e,0 < p ^ e:=fun e=>Nat.pow_pos (by omega)
 rcases Nat.lt_trichotomy j n with h | h | h
 ·rw [if_neg (by omega)]
  have e1:p ^ n=p ^ j*(p*p ^ (n - j - 1)):=by
   rw [← Nat.mul_assoc,← Nat.pow_succ,← Nat.pow_add]; congr 1; omega
  rw [e1,Nat.mul_add_div (hpos j),Nat.mul_add_mod]
 ·subst h
  rw [if_pos rfl,Nat.add_div_left _ (hpos j),Nat.div_eq_of_lt hk]
  have:(0 + 1) % p=1:=Nat.mod_eq_of_lt (by omega)
  simp [this]
 ·rw [if_neg (by omega)]
  have h1:p ^ n*2≤p ^ j:=by
   have:p ^ (n + 1)≤p ^ j:=Nat.pow_le_pow_right (by omega) h
   rw [Nat.pow_succ] at this
   have:=Nat.mul_le_mul_left (p ^ n) hp
   omega
  rw [Nat.div_eq_of_lt (show k < p ^ j by omega),Nat.div_eq_of_lt (show p ^ n + k < p ^ j by omega)]
theorem ziw {p g j:Nat} (hp:2≤p) (hj:j < p ^ g):(qM p j).length≤g:=by
 rcases Nat.lt_or_ge g (qM p j).length with h | h
 ·have h1:=(zfi hp j).nrm (by omega)
  rw [zmu hp] at h1
  have h2:p ^ g≤p ^ ((qM p j).length - 1):=Nat.pow_le_pow_right (by omega) (by omega)
  rw [Nat.div_eq_of_lt (by omega)] at h1
  exact absurd (by simp) h1
 ·exact h
end Go.Proofs.YtebfhlnfmkhmcaaGreat
/- The leading coefficient. -/
namespace Go.Proofs.YtebfhlnfmkhmcaaGreat
open Go.Abs

theorem zvs {b:List Int} (hl:b.length≤1000000):jP b=some (wG b):=by
 by_cases h:b.length=0
 ·have e:b=[]:=List.eq_nil_of_length_eq_zero h
  subst e
  rfl
 ·exact zpj h hl
theorem z0n (v:V64):yW v=some (((row v).length:Int) - 1):=by rw [zkd,zqm]
theorem z0p:wG []=0:=rfl
theorem zkm (v:V64):zdc v=some (decide (wG (row v)=1)):=by
 have hl:=jK v
 simp only [zdc,z0n,Option.bind_some]
 by_cases h:(row v).length=0
 ·have e:row v=[]:=List.eq_nil_of_length_eq_zero h
  rw [e,z0p]
  simp
 ·have e:((row v).length:Int) - 1=(((row v).length - 1:Nat):Int):=by omega
  rw [e,if_pos (decide_eq_true (by omega)),zY (by omega),Int.toNat_natCast,← zpx v (by omega)]
  congr 1
end Go.Proofs.YtebfhlnfmkhmcaaGreat
/- Reduced forms. -/
namespace Go.Proofs.YtebfhlnfmkhmcaaGreat
open Go.Abs

/-- Does A divide B B - D? -/
def isF (p:Int) (D A B:List Int):Bool:=decide ((rem p (zb8 p (mul p B B) D (-1)) A).length=0)
theorem zkr {p:Int} (hp:p≤256) {v:V64} (h:Res p v):IsB v:=fun x hx=>by
 obtain ⟨i,hi,rfl⟩:=List.getElem_of_mem hx
 have h1:=h i (by rw [← v.2]; exact hi)
 rw [zmv hi] at h1
 omega
theorem zn7 {p:Int} {v:V64} (h:Res p v):uM p v=true:=by
 simp only [uM,decide_eq_true_eq]
 exact fun j hj=>(h j hj).2
theorem z36 {p:Int} (hp:isP p=true) {A:List Int} (hA:Row p A):zcn p (yP A)=some true:=by
 have hp2:=wU hp
 have h:=za5 hA (show 0 < p by omega)
 rw [zjb (zkr (by omega) h),zn7 h,hp,Bool.and_self]
theorem zvu {p:Int} (hp:isP p=true) {d:V64} (hd:Res p d) (ld:(row d).length≤6) {A B:List Int} (hA:Row p A) (hB:Row p B) (h1:wG A=1) (lA:A.length≤13) (lB:B.length < A.length) :
  wZ p d (yP A,yP B)=some (isF p (row d) A B):=by
 have hp2:=wU hp
 have hq:0 < p∧p≤256:=by omega
 have hrd:=zak hd
 have m1:=zm6 p B B
 have c1:=zdd p (mul p B B) (row d) (-1)
 have hm:zdc (yP A)=some true:=by rw [zkm,ze8 hA (by omega),h1,decide_eq_true rfl]
 have hsq:nX p d (yP B)=some (yP (zb8 p (mul p B B) (row d) (-1))):=by
  simp only [nX]
  rw [zkx (by omega) hB hB (by omega) (by omega) (.inr (.inr (by omega)))]
  simp only [Option.bind_some]
  have:=zdl hq (zd8 hq.1 B B) hrd (by omega) (by omega) (show -1099511627776≤(-1:Int)∧(-1:Int)≤1099511627776 by omega)
  rw [zfx] at this
  simp only [this,Option.bind_some]
 have hmod:vV p (yP (zb8 p (mul p B B) (row d) (-1))) (yP A)=some (yP (rem p (zb8 p (mul p B B) (row d) (-1)) A)):=by
  simp only [vV]
  rw [zlt hp (zbk hq.1 _ _ _) hA (by omega) (by omega) (by omega),Option.bind_some]
 have hrem:=zis hq.1 (zbk hq.1 (mul p B B) (row d) (-1)) A
 have lrem:=zuy p (zb8 p (mul p B B) (row d) (-1)) A
 simp only [wZ,z36 hp hA,z36 hp hB,hm,Option.bind_some,Bool.not_true,Bool.false_eq_true,if_false,zpf hA (by omega),zpf hB (by omega)]
 rw [if_neg (by rw [decide_eq_true_eq]; omega)]
 rw [show decide ((B.length:Int) - 1 ≥ (A.length:Int) - 1)=false from decide_eq_false (by omega)]
 simp only [Option.bind_some,Bool.false_eq_true,if_false,hsq,hmod,zpf hrem (by omega)]
 refine congrArg some ?_
 rw [isF,Bool.eq_iff_iff]
 simp only [decide_eq_true_eq]
 omega
theorem zvk {p:Int} (hp:isP p=true) {D A B:List Int} (hD:Row p D) (ld:D.length≤6) (hA:Row p A) (hB:Row p B) (h1:wG A=1) (lA:A.length≤13) (lB:B.length < A.length) :
  uQ (p,D) (A,B)=some (isF p D A B):=by
 have hp2:=wU hp
 have hq:0 < p∧p≤256:=by omega
 have m1:=zm6 p B B
 have c1:=zdd p (mul p B B) D (-1)
 have dg:∀ l:List Int,l.length≤1000→xF l=some ((l.length:Int) - 1):=fun l hl=>by
  simp only [xF]
  rw [zX (by omega) (by omega)]
 have hrest:kI p (zb8 p (mul p B B) D (-1)) A=some (rem p (zb8 p (mul p B B) D (-1)) A):=by
  simp only [kI]
  rw [zl9 hp (zbk hq.1 _ _ _) hA (by omega) (by omega) (by omega),Option.bind_some]
 simp only [uQ,zvs (show A.length≤1000000 by omega),h1,Option.bind_some,beq_self_eq_true,if_true,dg A (by omega),dg B (by omega)]
 rw [if_pos (decide_eq_true (by omega)),if_pos (decide_eq_true (by omega)),zmo (by omega) (hB.ent hq) (hB.ent hq) (by omega) (by omega)]
 simp only [Option.bind_some]
 rw [mV hq ((zd8 hq.1 _ _).ent hq) (hD.ent hq) (by omega) (by omega) (by omega)]
 simp only [Option.bind_some,hrest,zgg]
 have hrl:=zkl hp (zbk hq.1 (mul p B B) D (-1)) hA (by omega)
 unfold isF
 by_cases h0:(rem p (zb8 p (mul p B B) D (-1)) A).length=0
 ·rw [if_pos (by rw [beq_iff_eq]; omega),decide_eq_true h0]
 ·have:¬ (A.length=1∧rd A 0=1):=fun h=>by omega
  rw [if_neg (by rw [beq_iff_eq]; omega),decide_eq_false this,decide_eq_false h0]
  rfl

/-- The forms. -/
def f3 (p:Nat) (D A:List Int):Nat→List (List Int×List Int)
 | 0=>[]
 | j + 1=>if isF p D A (qM p j) then f3 p D A j ++ [(A,qM p j)] else f3 p D A j
def f2 (p:Nat) (D:List Int) (g:Nat):Nat→List (List Int×List Int)
 | 0=>[]
 | i + 1=>f2 p D g i ++ f3 p D (qM p (p ^ g + i)) (p ^ g)
def f1 (p:Nat) (D:List Int):Nat→List (List Int×List Int)
 | 0=>[]
 | g + 1=>f1 p D g ++ f2 p D g (p ^ g)
theorem zs5 (p:Nat) (D A:List Int):∀ j,(f3 p D A j).length≤j
 | 0=>Nat.le_refl _
 | j + 1=>by
  have:=zs5 p D A j
  simp only [f3]
  split
  ·simp; omega
  ·omega
theorem zs0 (p:Nat) (D:List Int) (g:Nat):∀ i,(f2 p D g i).length≤i*p ^ g
 | 0=>by simp [f2]
 | i + 1=>by
  have h1:=zs0 p D g i
  have h2:=zs5 p D (qM p (p ^ g + i)) (p ^ g)
  simp only [f2,List.length_append,Nat.add_mul,Nat.one_mul]
  omega
def pp (q:List Int×List Int):V64×V64:=(yP q.1,yP q.2)

theorem l3S {p g i:Nat} (hp:isP p=true) (hg:p ^ g≤343) (hg2:g≤8) (hi:i < p ^ g) {d:V64} (hd:Res p d) (ld:(row d).length≤6) (l0:List (V64×V64)) (hl0:l0.length≤1000000) :
  yK (fun s:Int×List (V64×V64)=>jT p g d (yP (qM p i)) s.1 s.2) (0,l0)=some (l0 ++ (f3 p (row d) (qM p (p ^ g + i)) (p ^ g)).map pp):=by
 have hp2:=wU hp
 have hpn:2≤p∧p≤7:=by omega
 obtain ⟨c,h1,h2⟩:=zuw (n:=g) hpn (by omega)
 have hc:c=p ^ g:=by omega
 subst hc
 have hA:=zfi hpn.1 (p ^ g + i)
 have lA:=zau hpn.1 hi
 have leadA:wG (qM p (p ^ g + i))=1:=by
  unfold wG
  rw [lA]
  exact zl4 hpn.1 hi
 obtain ⟨s,g1,g2⟩:=wR (body:=fun s:Int×List (V64×V64)=>jT p g d (yP (qM p i)) s.1 s.2) (fun j s=>((j:Int),s)) (fun s=>s) (p ^ g)
  (fun j s=>s=l0 ++ (f3 p (row d) (qM p (p ^ g + i)) j).map pp) (fun j s hj hI=>by
   subst hI
   refine ⟨_,?_,rfl⟩
   have hfl:=zs5 p (row d) (qM p (p ^ g + i)) j
   have lB:=ziw hpn.1 hj
   have hf:=zvu hp hd ld hA (zfi hpn.1 j) leadA (by omega) (show (qM p j).length < _ by omega)
   simp only [jT,h1,Option.bind_some]
   rw [if_pos (decide_eq_true (by omega)),z4f hpn.1 (by omega) (by omega)]
   simp only [Option.bind_some,Int.toNat_natCast]
   rw [zy9 hpn.1 (by omega) hi,hf]
   simp only [Option.bind_some,f3]
   rw [zX (by omega) (by omega)]
   cases isF p (row d) (qM p (p ^ g + i)) (qM p j) with
   | false=>rfl
   | true =>
    simp only [if_true]
    rw [zY (by simp; omega)]
    simp only [Option.bind_some,List.map_append,List.append_assoc]
    rfl) (fun s hI=>by
   simp only [jT,h1,Option.bind_some]
   rw [if_neg (by rw [decide_eq_true_eq]; omega)]) (p ^ g) 0 l0 (by omega) (by simp [f3])
 have g1':yK (fun s:Int×List (V64×V64)=>jT p g d (yP (qM p i)) s.1 s.2) (0,l0)=some s:=g1
 rw [g1',g2]
theorem l2S {p g:Nat} (hp:isP p=true) (hg:p ^ g≤343) (hg2:g≤8) {d:V64} (hd:Res p d) (ld:(row d).length≤6) (l0:List (V64×V64)) (hl0:l0.length≤500000) :
  yK (fun s:Int×List (V64×V64)=>jU p g d s.1 s.2) (0,l0)=some (l0 ++ (f2 p (row d) g (p ^ g)).map pp):=by
 have hp2:=wU hp
 have hpn:2≤p∧p≤7:=by omega
 obtain ⟨c,h1,h2⟩:=zuw (n:=g) hpn (by omega)
 have hc:c=p ^ g:=by omega
 subst hc
 obtain ⟨s,g1,g2⟩:=wR (body:=fun s:Int×List (V64×V64)=>jU p g d s.1 s.2) (fun j s=>((j:Int),s)) (fun s=>s) (p ^ g)
  (fun j s=>s=l0 ++ (f2 p (row d) g j).map pp) (fun j s hj hI=>by
   subst hI
   refine ⟨_,?_,rfl⟩
   have hfl:=zs0 p (row d) g j
   have hfl2:j*p ^ g≤343*343:=Nat.mul_le_mul (by omega) hg
   have h3:=l3S hp hg hg2 hj hd ld (l0 ++ (f2 p (row d) g j).map pp) (by simp; omega)
   simp only [jU,h1,Option.bind_some]
   rw [if_pos (decide_eq_true (by omega)),z4f hpn.1 (by omega) (by omega)]
   simp only [Option.bind_some]
   rw [zY (by omega),h3]
   simp only [Option.bind_some,f2,List.map_append,List.append_assoc]
   rw [zX (by omega) (by omega)]
   rfl) (fun s hI=>by
   simp only [jU,h1,Option.bind_some]
   rw [if_neg (by rw [decide_eq_true_eq]; omega)]) (p ^ g) 0 l0 (by omega) (by simp [f2])
 have g1':yK (fun s:Int×List (V64×V64)=>jU p g d s.1 s.2) (0,l0)=some s:=g1
 rw [g1',g2]
theorem l3I {p g i:Nat} (hp:isP p=true) (hg:p ^ g≤343) (hg2:g≤8) (hi:i < p ^ g) {D:List Int} (hd:Row p D) (ld:D.length≤6) (l0:List (List Int×List Int)) (hl0:l0.length≤1000000) :
  yK (fun s:Int×List (List Int×List Int)=>uJ ((p ^ g:Nat):Int) ((p:Int),D) (zgi p g (p ^ g)) (i:Int) s.1 s.2) (0,l0)=some (l0 ++ f3 p D (qM p (p ^ g + i)) (p ^ g)):=by
 have hp2:=wU hp
 have hpn:2≤p∧p≤7:=by omega
 have hA:=zfi hpn.1 (p ^ g + i)
 have lA:=zau hpn.1 hi
 have leadA:wG (qM p (p ^ g + i))=1:=by
  unfold wG
  rw [lA]
  exact zl4 hpn.1 hi
 have hrd:rd (zgi p g (p ^ g)) i=qM p (p ^ g + i):=by simp [rd,zgi,hi]
 generalize hM:zgi p g (p ^ g)=M at *
 obtain ⟨s,g1,g2⟩:=wR (body:=fun s:Int×List (List Int×List Int)=>uJ ((p ^ g:Nat):Int) ((p:Int),D) M (i:Int) s.1 s.2) (fun j s=>((j:Int),s)) (fun s=>s) (p ^ g)
  (fun j s=>s=l0 ++ f3 p D (qM p (p ^ g + i)) j) (fun j s hj hI=>by
   subst hI
   refine ⟨_,?_,rfl⟩
   have hfl:=zs5 p D (qM p (p ^ g + i)) j
   have lB:=ziw hpn.1 hj
   have hf:=zvk hp hd ld hA (zfi hpn.1 j) leadA (by omega) (show (qM p j).length < _ by omega)
   simp only [uJ]
   rw [if_pos (decide_eq_true (by omega)),zop hpn.1 (by omega)]
   simp only [Option.bind_some,Int.toNat_natCast,hrd]
   rw [hf]
   simp only [Option.bind_some,f3]
   rw [zX (by omega) (by omega)]
   cases isF p D (qM p (p ^ g + i)) (qM p j) with
   | false=>rfl
   | true =>
    simp only [if_true]
    rw [zY (by simp; omega)]
    simp only [Option.bind_some,List.append_assoc]
    rfl) (fun s hI=>by
   simp only [uJ]
   rw [if_neg (by rw [decide_eq_true_eq]; omega)]) (p ^ g) 0 l0 (by omega) (by simp [f3])
 have g1':yK (fun s:Int×List (List Int×List Int)=>uJ ((p ^ g:Nat):Int) ((p:Int),D) M (i:Int) s.1 s.2) (0,l0)=some s:=g1
 rw [g1',g2]
theorem l2I {p g:Nat} (hp:isP p=true) (hg:p ^ g≤343) (hg2:g≤8) {D:List Int} (hd:Row p D) (ld:D.length≤6) (l0:List (List Int×List Int)) (hl0:l0.length≤500000) :
  yK (fun s:Int×List (List Int×List Int)=>uK (zgi p g (p ^ g)) ((p:Int),D) (g:Int) s.1 s.2) (0,l0)=some (l0 ++ f2 p D g (p ^ g)):=by
 have hp2:=wU hp
 have hpn:2≤p∧p≤7:=by omega
 obtain ⟨c,h1,h2,_⟩:=zxx (n:=g) (most:=1099511627776) hpn (by omega) (by omega)
 have hc:c=p ^ g:=by omega
 subst hc
 have h1':nF p g 1099511627776=some ((p ^ g:Nat):Int):=h1
 have hml:(zgi p g (p ^ g)).length=p ^ g:=by simp [zgi]
 obtain ⟨s,g1,g2⟩:=wR (body:=fun s:Int×List (List Int×List Int)=>uK (zgi p g (p ^ g)) ((p:Int),D) (g:Int) s.1 s.2) (fun j s=>((j:Int),s)) (fun s=>s) (p ^ g)
  (fun j s=>s=l0 ++ f2 p D g j) (fun j s hj hI=>by
   subst hI
   refine ⟨_,?_,rfl⟩
   have hfl:=zs0 p D g j
   have hfl2:j*p ^ g≤343*343:=Nat.mul_le_mul (by omega) hg
   have h3:=l3I hp hg hg2 hj hd ld (l0 ++ f2 p D g j) (by simp; omega)
   simp only [uK,hml]
   rw [if_pos (decide_eq_true (by omega)),zY (by omega),h1']
   simp only [Option.bind_some,h3,f2,List.append_assoc]
   rw [zX (by omega) (by omega)]
   rfl) (fun s hI=>by
   simp only [uK,hml]
   rw [if_neg (by rw [decide_eq_true_eq]; omega)]) (p ^ g) 0 l0 (by omega) (by simp [f2])
 have g1':yK (fun s:Int×List (List Int×List Int)=>uK (zgi p g (p ^ g)) ((p:Int),D) (g:Int) s.1 s.2) (0,l0)=some s:=g1
 rw [g1',g2]
end Go.Proofs.YtebfhlnfmkhmcaaGreat
/- A row as an array. -/
namespace Go.Proofs.YtebfhlnfmkhmcaaGreat
open Go.Abs

theorem zzf {l:List Int} (hb:Bytes l) (hl:l.length≤64):∀ s:Int×V64,(∃ i:Nat,s.1=i∧i≤l.length∧s.2=yP (l.take i))→∃ r,yK (fun s:Int×V64=>nP l s.1 s.2) s=some r∧r=yP l:=by
 refine zbr (fun (s:Int×V64)=>∃ i:Nat,s.1=i∧i≤l.length∧s.2=yP (l.take i)) (fun (s:Int×V64) r=>r=yP l) (fun (s:Int×V64)=>64 - s.1.toNat) ?_
 rintro ⟨x,v⟩ ⟨i,hx,hi,hv⟩
 simp only at hx hv
 subst hx hv
 by_cases h:i=l.length
 ·right
  subst h
  exact ⟨yP l,by simp [nP],rfl⟩
 ·left
  have hil:i < l.length:=by omega
  have er:rd l i=l[i]:=by simp [rd,hil]
  have hbi:=hb l[i] (List.getElem_mem _)
  refine ⟨(((i + 1:Nat):Int),yP (l.take (i + 1))),?_,⟨i + 1,rfl,by omega,rfl⟩,by simp; omega,fun r hr=>hr⟩
  simp only [nP]
  rw [if_pos (by simp; omega),zY (by omega),zY (by omega)]
  simp only [Int.toNat_natCast,er]
  rw [zX (by omega) (by omega),zjd hbi.1 hbi.2]
  have:=zyx (l.take i) l[i] (by simp; omega)
  rw [List.length_take,Nat.min_eq_left (by omega)] at this
  rw [this,List.take_succ_eq_append_getElem hil]
  simp

theorem ztw {l:List Int} (hb:Bytes l) (hl:l.length≤64):zbw l=some (yP l):=by
 obtain ⟨r,h1,h2⟩:=zzf hb hl (0,yP []) ⟨0,rfl,by omega,by simp⟩
 simp only [zbw,← zb7,h1,h2,Option.bind_some]
end Go.Proofs.YtebfhlnfmkhmcaaGreat
/- The lists of forms on both sides. -/
namespace Go.Proofs.YtebfhlnfmkhmcaaGreat
open Go.Abs

theorem zp3 {p:Nat} (D:List Int):∀ g,(∀ i,i < g→p ^ i≤343)→(f1 p D g).length≤g*117649
 | 0,_=>by simp [f1]
 | g + 1,h=>by
  have h1:=zp3 (p:=p) D g fun i hi=>h i (by omega)
  have h2:=zs0 p D g (p ^ g)
  have h3:=h g (by omega)
  have h4:p ^ g*p ^ g≤343*343:=Nat.mul_le_mul h3 h3
  simp only [f1,List.length_append]
  omega
theorem zwx {p g:Nat} (hp:p≤7) (hg:g≤2):p ^ g≤343:=by
 have h1:p ^ g≤7 ^ g:=Nat.pow_le_pow_left hp g
 have h2:7 ^ g≤7 ^ 2:=Nat.pow_le_pow_right (by omega) hg
 omega
/-- Rows of at most 64 coefficients. -/
def Fine (p:Int) (q:List Int×List Int):Prop:=(Row p q.1∧q.1.length≤64)∧(Row p q.2∧q.2.length≤64)
theorem zyr {p:Nat} (hp:2≤p) {D A:List Int} (hA:Row p A∧A.length≤64) {g:Nat} (hg:g≤64):∀ j,j≤p ^ g→∀ q∈f3 p D A j,Fine p q
 | 0,_=>by simp [f3]
 | j + 1,h=>by
  have ih:=zyr (D:=D) hp hA hg j (by omega)
  intro q hq
  simp only [f3] at hq
  split at hq
  ·rcases List.mem_append.1 hq with h1 | h1
   ·exact ih q h1
   ·have e:q=(A,qM p j):=by simpa using h1
    subst e
    have:=ziw hp (show j < p ^ g by omega)
    exact ⟨hA,zfi hp j,by simp only; omega⟩
  ·exact ih q hq
theorem zx7 {p:Nat} (hp:2≤p) {D:List Int} {g:Nat} (hg:g≤60):∀ i,i≤p ^ g→∀ q∈f2 p D g i,Fine p q
 | 0,_=>by simp [f2]
 | i + 1,h=>by
  intro q hq
  simp only [f2] at hq
  rcases List.mem_append.1 hq with h1 | h1
  ·exact zx7 hp hg i (by omega) q h1
  ·have:=zau hp (show i < p ^ g by omega)
   exact zyr hp ⟨zfi hp _,by omega⟩ (by omega) _ (Nat.le_refl _) q h1
theorem zxr {p:Nat} (hp:2≤p) {D:List Int}:∀ g,g≤60→∀ q∈f1 p D g,Fine p q
 | 0,_=>by simp [f1]
 | g + 1,h=>by
  intro q hq
  simp only [f1] at hq
  rcases List.mem_append.1 hq with h1 | h1
  ·exact zxr hp g (by omega) q h1
  ·exact zx7 hp (by omega) _ (Nat.le_refl _) q h1
theorem zkv {l G:Nat} (hG:l=2*G + 2) (hs:G≤2):IntKind.i64.wrap (Int.tdiv (IntKind.i64.wrap ((l:Int) - 1 - 1)) 2)=(G:Int):=by
 have e:(l:Int) - 1 - 1=2*(G:Int):=by omega
 rw [e,zX (n:=2*(G:Int)) (by omega) (by omega),Int.tdiv_eq_ediv_of_nonneg (by omega),show 2*(G:Int) / 2=(G:Int) by omega,zX (by omega) (by omega)]
theorem z5n {p G:Nat} (hp:isP p=true) {d:V64} (hd:Res p d) (hG:(row d).length=2*G + 2) (hs:G≤2):zdw p d=some ((f1 p (row d) (G + 1)).map pp):=by
 have hp2:=wU hp
 have hgen:kS d=some (G:Int):=by simp only [kS,zex,Option.bind_some,zkv hG hs]
 obtain ⟨s,g1,g2⟩:=wR (body:=fun s:Int×List (V64×V64)=>nU d p s.1 s.2) (fun i s=>((i:Int),s)) (fun s=>s) (G + 1)
  (fun i s=>s=(f1 p (row d) i).map pp) (fun i s hi hI=>by
   subst hI
   refine ⟨_,?_,rfl⟩
   have hl:=zp3 (p:=p) (row d) i fun j hj=>zwx (by omega) (by omega)
   have h2:=l2S (p:=p) (g:=i) hp (zwx (by omega) (by omega)) (by omega) hd (by omega) ((f1 p (row d) i).map pp) (by simp; omega)
   simp only [nU,hgen,Option.bind_some]
   rw [if_pos (decide_eq_true (by omega)),h2]
   simp only [Option.bind_some,f1,List.map_append]
   rw [zX (by omega) (by omega)]
   rfl) (fun s hI=>by
   simp only [nU,hgen,Option.bind_some]
   rw [if_neg (by rw [decide_eq_true_eq]; omega)]) (G + 1) 0 [] (by omega) (by simp [f1])
 have g1':yK (fun s:Int×List (V64×V64)=>nU d p s.1 s.2) (0,[])=some s:=g1
 simp only [zdw,g1',g2,Option.bind_some]
theorem z47 {p G:Nat} (hp:isP p=true) {D:List Int} (hd:Row p D) (hG:D.length=2*G + 2) (hs:G≤2):zcw ((p:Int),D)=some (f1 p D (G + 1)):=by
 have hp2:=wU hp
 have hgen:qE ((p:Int),D)=some (G:Int):=by
  simp only [qE,xF,Option.bind_some]
  rw [zX (n:=(D.length:Int) - 1) (by omega) (by omega),zkv hG hs]
 obtain ⟨s,g1,g2⟩:=wR (body:=fun s:Int×List (List Int×List Int)=>qS (G:Int) ((p:Int),D) s.1 s.2) (fun i s=>((i:Int),s)) (fun s=>s) (G + 1)
  (fun i s=>s=f1 p D i) (fun i s hi hI=>by
   subst hI
   refine ⟨_,?_,rfl⟩
   have hl:=zp3 (p:=p) D i fun j hj=>zwx (by omega) (by omega)
   have h2:=l2I (p:=p) (g:=i) hp (zwx (by omega) (by omega)) (by omega) hd (by omega) (f1 p D i) (by omega)
   simp only [qS]
   rw [zX (n:=(G:Int) + 1) (by omega) (by omega),if_pos (decide_eq_true (by omega)),zzw (by omega) (by omega) (zwx (by omega) (by omega))]
   simp only [Option.bind_some,h2,f1]
   rw [zX (by omega) (by omega)]
   rfl) (fun s hI=>by
   simp only [qS]
   rw [zX (n:=(G:Int) + 1) (by omega) (by omega),if_neg (by rw [decide_eq_true_eq]; omega)]) (G + 1) 0 [] (by omega) (by simp [f1])
 have g1':yK (fun s:Int×List (List Int×List Int)=>qS (G:Int) ((p:Int),D) s.1 s.2) (0,[])=some s:=g1
 simp only [zcw,hgen,g1',g2,Option.bind_some]
theorem z3h (p:Int) (d:V64):yY [] p d=some true:=by
 have step:zQ [] p d 0=some (.inr (.inl ())):=rfl
 have h:yK (fun s:Int=>zQ [] p d s) 0=some (.inl ()):=by
  rw [yR]
  simp only [step,Option.bind_some]
 simp only [yY,yM,yQ,h,Option.bind_some]
 rfl
theorem zdt {p:Int} {d:V64} (h:mX p d=true):isP p=true∧uM p d=true∧∃ G:Nat,(row d).length=2*G + 2∧G≤2:=by
 simp only [mX,Bool.and_eq_true,decide_eq_true_eq] at h
 obtain ⟨⟨⟨⟨h1,h2⟩,_⟩,h3⟩,_⟩:=h
 exact ⟨h1,h2,((row d).length - 2) / 2,by omega,by omega⟩
end Go.Proofs.YtebfhlnfmkhmcaaGreat
/- Reduction and composition of forms on both sides. -/
namespace Go.Proofs.YtebfhlnfmkhmcaaGreat
open Go.Abs
variable {P:Pri}
theorem zc4 (P:Pri):0 < P.p∧P.p≤256:=by have:=P.two; omega
theorem z2c (P:Pri):2≤P.p∧P.p≤256:=by have:=P.two; omega
theorem zlm (a b:PP P):(a*b).len≤a.len + b.len - 1:=zm6 _ _ _
theorem z6w (a b:PP P) (la:a.len≤400) (lb:b.len≤400):xC P.p a.1 b.1=some (a*b).1 :=
 zmo (z2c P) (a.2.ent (zc4 P)) (b.2.ent (zc4 P)) (by show a.len≤_; omega) (by show b.len≤_; omega)
theorem z7i (a b:PP P) (la:a.len≤400) (lb:b.len≤400):xM P.p a.1 b.1 1=some (a + b).1 :=
 mV (zc4 P) (a.2.ent (zc4 P)) (b.2.ent (zc4 P)) (by show a.len≤_; omega) (by show b.len≤_; omega) (by omega)
theorem z73 (a b:PP P) (la:a.len≤400) (lb:b.len≤400):xM P.p a.1 b.1 (-1)=some (a + -b).1:=by
 rw [mV (zc4 P) (a.2.ent (zc4 P)) (b.2.ent (zc4 P)) (by show a.len≤_; omega) (by show b.len≤_; omega) (by omega),zpc]
theorem z2y (a:PP P) (la:a.len≤400):wY P.p a.1 (-1)=some (-a).1:=by
 simp only [wY]
 rw [mV (zc4 P) ((zc1 P.p).ent (zc4 P)) (a.2.ent (zc4 P)) (by simp) (by show a.len≤_; omega) (by omega)]
 rfl
theorem z33 (a:PP P) {b:PP P} (hb:b ≠ 0) (la:a.len≤400) (lb:b.len≤400):uU P.p a.1 b.1=some ((zbf a b).1,(yX a b).1) :=
 zl9 P.okp a.2 b.2 (zdq hb) (by show a.len≤_; omega) (by show b.len≤_; omega)
theorem z06 (a:PP P) {b:PP P} (hb:b ≠ 0) (la:a.len≤400) (lb:b.len≤400):kI P.p a.1 b.1=some (yX a b).1:=by
 simp only [kI,z33 a hb la lb,Option.bind_some]
theorem z2l {q:PP P} (hq:q ≠ 0):zb8 P.p [] q.1 (inv P.p (wG q.1))=(mon q).1∧0 < wG q.1∧wG q.1 < P.p∧0≤inv P.p (wG q.1)∧inv P.p (wG q.1) < P.p:=by
 have hl:=zbn P.pos q.2 (zdq hq)
 have hi:=zet P.okp hl
 obtain ⟨k,hk⟩:∃ k:Nat,inv P.p (wG q.1)=k:=⟨(inv P.p (wG q.1)).toNat,by omega⟩
 refine ⟨?_,hl.1,hl.2,by omega,hi.2.1⟩
 have h:=zxg q k
 unfold mon
 rw [hk,Int.toNat_natCast]
 exact h
theorem z7j {q:PP P} (hq:q ≠ 0) (lq:q.len≤400):jP q.1=some (wG q.1)∧kL P.p (wG q.1)=some (inv P.p (wG q.1))∧wY P.p q.1 (inv P.p (wG q.1))=some (mon q).1:=by
 obtain ⟨h1,h2,h3,h4,h5⟩:=z2l hq
 have:=P.two
 refine ⟨zpj (zdq hq) (by show q.len≤_; omega),zig P.okp ⟨h2,h3⟩,?_⟩
 simp only [wY]
 rw [mV (zc4 P) ((zc1 P.p).ent (zc4 P)) (q.2.ent (zc4 P)) (by simp) (by show q.len≤_; omega) (by omega),h1]
 rfl
/-! The reference's. -/
theorem z6g (a b:PP P) (h:a.len + b.len≤65) (la:a.len≤64) (lb:b.len≤64):xO P.p (yP a.1) (yP b.1)=some (yP (a*b).1,true) :=
 zkx (z2c P) a.2 b.2 la lb (.inr (.inr h))
theorem z65 (a b:PP P) (la:a.len≤64) (lb:b.len≤64):xS P.p (yP a.1) (yP b.1) 1=some (yP (a + b).1) :=
 zdl (zc4 P) a.2 b.2 la lb (by omega)
theorem z7m (a b:PP P) (la:a.len≤64) (lb:b.len≤64):xS P.p (yP a.1) (yP b.1) (-1)=some (yP (a + -b).1):=by
 rw [zdl (zc4 P) a.2 b.2 la lb (by omega),zpc]
theorem z7q (a:PP P) (la:a.len≤64):xS P.p (yH 64 0) (yP a.1) (-1)=some (yP (-a).1):=by
 rw [← zb7,zdl (zc4 P) (zc1 P.p) a.2 (by simp) la (by omega)]
 rfl
theorem z49 (a:PP P) {b:PP P} (hb:b ≠ 0) (la:a.len≤64) (lb:b.len≤64):kF P.p (yP a.1) (yP b.1)=some (yP (zbf a b).1,yP (yX a b).1):=z4t hb la lb
theorem z4x (a:PP P) {b:PP P} (hb:b ≠ 0) (la:a.len≤64) (lb:b.len≤64):vV P.p (yP a.1) (yP b.1)=some (yP (yX a b).1):=by
 simp only [vV,z4t hb la lb,Option.bind_some]
theorem z7g {q:PP P} (hq:q ≠ 0) (lq:q.len≤64):ze9 P.p (yP q.1)=some (yP (mon q).1):=by
 obtain ⟨h1,h2,h3,h4,h5⟩:=z2l hq
 have:=P.two
 have hp:=qU hq
 have hl:rd (yP q.1).1 (q.len - 1)=wG q.1:=uW _ (by omega)
 simp only [ze9,zre q lq,Option.bind_some]
 rw [zY (by omega),show ((q.len:Int) - 1).toNat=q.len - 1 by omega,hl,zfv P.okp ⟨h2,h3⟩]
 simp only [Option.bind_some]
 rw [zX (by omega) (by omega),← zb7,zdl (zc4 P) (zc1 P.p) q.2 (by simp) lq (by omega),h1]
 rfl
theorem z41 (a:PP P) {b:PP P} (hb:b ≠ 0) (la:a.len≤64) (lb:b.len≤64):jF P.p (yP a.1) (yP b.1)=some (yP (yX (-a) b).1):=by
 have:=zb4 a
 simp only [jF,z7q a la,Option.bind_some,z4x (-a) hb (by omega) lb]
theorem zo6 {a b:PP P} (hb:b ≠ 0) (h:Dv b a):a=b*zbf a b:=by
 have h1:=(zkf a hb).1
 rw [(zua hb).2 h,zN.add_zero] at h1
 rw [zN.mul_comm]
 exact h1
theorem zo9 {a b q:PP P} (hb:b ≠ 0) (h:a=b*q):zbf a b=q:=(z2g hb (r:=0) (by rw [zN.add_zero,h,zN.mul_comm]) (by have:=qU hb; have:(0:PP P).len=0:=rfl; omega)).1
theorem Fm.dvs {D a b:PP P} (h:Fm D a b):Dv a (D + -(b*b))∧Dv a (b*b + -D):=by
 have R:IsRing (PP P):=zN
 obtain ⟨c,hc⟩:=h.dv
 have e:b*b + -D=c*a:=hc.trans (R.mul_comm a c)
 exact ⟨⟨-c,by rw [zic R,← e,R.neg_add',R.neg_neg,R.add_comm]⟩,⟨c,e⟩⟩
theorem zav {a b:PP P} {m n:Nat} (ha:a.len≤m) (hb:b.len≤n):(a*b).len≤m + n:=Nat.le_trans (zlm a b) (by omega)
theorem zpl {a b:PP P} {m n:Nat} (ha:a.len≤m) (hb:b.len≤n):(a + b).len≤max m n:=Nat.le_trans (zb3 a b) (by omega)
theorem zli {a b:PP P} {m n:Nat} (ha:a.len≤m) (hb:b.len≤n) (h:m≤400∧n≤400):xC P.p a.1 b.1=some (a*b).1:=z6w a b (Nat.le_trans ha h.1) (Nat.le_trans hb h.2)
theorem zys {a b:PP P} {m n:Nat} (ha:a.len≤m) (hb:b.len≤n) (h:m≤400∧n≤400):xM P.p a.1 b.1 1=some (a + b).1:=z7i a b (Nat.le_trans ha h.1) (Nat.le_trans hb h.2)
theorem zgh {a b:PP P} {m n:Nat} (ha:a.len≤m) (hb:b.len≤n) (h:m + n≤64):xO P.p (yP a.1) (yP b.1)=some (yP (a*b).1,true):=z6g a b (by omega) (by omega) (by omega)
theorem zvb {a b:PP P} {m n:Nat} (ha:a.len≤m) (hb:b.len≤n) (h:m≤64∧n≤64):xS P.p (yP a.1) (yP b.1) 1=some (yP (a + b).1):=z65 a b (Nat.le_trans ha h.1) (Nat.le_trans hb h.2)
/-- What is known of a composition. -/
structure Cmpo (D a b a' b' o u v d w t A B:PP P):Prop where
 la:a.len≤3
 lb:b.len≤3
 la':a'.len≤3
 lb':b'.len≤3
 lD:D.len≤6
 lu:u.len≤4
 lv:v.len≤4
 lw:w.len≤4
 lt:t.len≤4
 ld:d.len≤3
 lA:A.len≤6
 lB:B.len≤30
 nd:d ≠ 0
 nA:A ≠ 0
 h1:a*a'=d*d*A
 h2:w*u*a*b' + w*v*a'*b + t*(b*b' + D)=d*B
theorem zws {D a b a' b' o u v d w t A B:PP P} (h:Cmpo D a b a' b' o u v d w t A B) (c1:qV P.p a.1 a'.1=some (o.1,u.1,v.1)) (c2:qV P.p o.1 (b + b').1=some (d.1,w.1,t.1)) :
  uX (P.p,D.1) (a.1,b.1) (a'.1,b'.1)=kK (P.p,D.1) (A.1,(yX B A).1):=by
 have ndd:d*d ≠ 0:=fun e=>by rcases zeb _ _ e with h' | h' <;> exact h.nd h'
 have k1:=zav h.lw h.lu
 have k2:=zav h.lw h.lv
 have k3:=zav h.la h.la'
 have k4:=zav h.ld h.ld
 have k5:=zav k1 h.la
 have k6:=zav k5 h.lb'
 have k7:=zav k2 h.la'
 have k8:=zav k7 h.lb
 have k9:=zav h.lb h.lb'
 have k10:=zpl k9 h.lD
 have k11:=zav h.lt k10
 have k12:=zpl k6 k8
 have k13:=zpl k12 k11
 have f1:=zys h.lb h.lb' (by decide)
 have f2:=zli h.lw h.lu (by decide)
 have f3:=zli h.lw h.lv (by decide)
 have f4:=zli h.la h.la' (by decide)
 have f5:=zli h.ld h.ld (by decide)
 have f6:=zli k1 h.la (by decide)
 have f7:=zli k5 h.lb' (by decide)
 have f8:=zli k2 h.la' (by decide)
 have f9:=zli k7 h.lb (by decide)
 have f10:=zys k6 k8 (by decide)
 have f11:=zli h.lb h.lb' (by decide)
 have f12:=zys k9 h.lD (by decide)
 have f13:=zli h.lt k10 (by decide)
 have f14:=zys k12 k11 (by decide)
 have f15:=z33 (a*a') ndd (Nat.le_trans k3 (by decide)) (Nat.le_trans k4 (by decide))
 have f16:=z33 (w*u*a*b' + w*v*a'*b + t*(b*b' + D)) h.nd (Nat.le_trans k13 (by decide)) (Nat.le_trans h.ld (by decide))
 have f17:=z06 B h.nA (Nat.le_trans h.lB (by decide)) (Nat.le_trans h.lA (by decide))
 rw [zo9 ndd h.h1] at f15
 rw [zo9 h.nd h.h2] at f16
 simp only [uX,c1,f1,c2,f2,f3,f4,f5,f6,f7,f8,f9,f10,f11,f12,f13,f14,f15,f16,f17,Option.bind_some]
 cases kK (P.p,D.1) (A.1,(yX B A).1) <;> rfl
theorem zwe {D a b a' b' o u v d w t A B:PP P} (h:Cmpo D a b a' b' o u v d w t A B) (c1:kE P.p (yP a.1) (yP a'.1)=some (yP o.1,yP u.1,yP v.1)) (c2:kE P.p (yP o.1) (yP (b + b').1)=some (yP d.1,yP w.1,yP t.1)) :
  kX P.p (yP D.1) (yP a.1,yP b.1) (yP a'.1,yP b'.1)=nS P.p (yP D.1) (yP A.1,yP (yX B A).1):=by
 have ndd:d*d ≠ 0:=fun e=>by rcases zeb _ _ e with h' | h' <;> exact h.nd h'
 have k1:=zav h.lw h.lu
 have k2:=zav h.lw h.lv
 have k3:=zav h.la h.la'
 have k4:=zav h.ld h.ld
 have k5:=zav k1 h.la
 have k6:=zav k5 h.lb'
 have k7:=zav k2 h.la'
 have k8:=zav k7 h.lb
 have k9:=zav h.lb h.lb'
 have k10:=zpl k9 h.lD
 have k11:=zav h.lt k10
 have k12:=zpl k6 k8
 have k13:=zpl k12 k11
 have f1:=zvb h.lb h.lb' (by decide)
 have f2:=zgh h.lw h.lu (by decide)
 have f3:=zgh h.lw h.lv (by decide)
 have f4:=zgh h.la h.la' (by decide)
 have f5:=zgh h.ld h.ld (by decide)
 have f6:=zgh k1 h.la (by decide)
 have f7:=zgh k5 h.lb' (by decide)
 have f8:=zgh k2 h.la' (by decide)
 have f9:=zgh k7 h.lb (by decide)
 have f10:=zvb k6 k8 (by decide)
 have f11:=zgh h.lb h.lb' (by decide)
 have f12:=zvb k9 h.lD (by decide)
 have f13:=zgh h.lt k10 (by decide)
 have f14:=zvb k12 k11 (by decide)
 have f15:=z49 (a*a') ndd (Nat.le_trans k3 (by decide)) (Nat.le_trans k4 (by decide))
 have f16:=z49 (w*u*a*b' + w*v*a'*b + t*(b*b' + D)) h.nd (Nat.le_trans k13 (by decide)) (Nat.le_trans h.ld (by decide))
 have f17:=z4x B h.nA (Nat.le_trans h.lB (by decide)) (Nat.le_trans h.lA (by decide))
 rw [zo9 ndd h.h1] at f15
 rw [zo9 h.nd h.h2] at f16
 simp only [kX,nH,c1,f1,c2,f2,f3,f4,f5,f6,f7,f8,f9,f10,f11,f12,f13,f14,f15,f16,f17,Option.bind_some]
 cases nS P.p (yP D.1) (yP A.1,yP (yX B A).1) <;> rfl
section
variable {D:PP P} {G:Nat} (hD:Dsc D G) (hG:G≤2)
include hD hG
omit hD in
theorem z7z (hl:D.len=2*G + 2):qE (P.p,D.1)=some (G:Int):=by
 have e:D.1.length=2*G + 2:=hl
 simp only [qE,xF,Option.bind_some]
 rw [zX (n:=(D.1.length:Int) - 1) (by omega) (by omega),zkv e hG]
omit hD in
theorem z7p (hl:D.len=2*G + 2):kS (yP D.1)=some (G:Int):=by
 simp only [kS,zre D (by omega),Option.bind_some,zkv hl hG]
theorem zzv {a b:PP P} (h:Fm D a b) (la:a.len≤100) :
  qZ (P.p,D.1) (a.1,b.1)=if a.len≤G + 1 then some (.inr (a.1,b.1)) else some (.inl ((mon (zbf (D + -(b*b)) a)).1,(yX (-b) (mon (zbf (D + -(b*b)) a))).1)):=by
 have hDl:=hD.len
 have hb:=h.len
 have e0:a.1.length=a.len:=rfl
 have hr:qC (P.p,D.1) (a.1,b.1)=some (decide (a.len≤G + 1)):=by
  simp only [qC,xF,z7z hG hDl,Option.bind_some]
  rw [e0,zX (by omega) (by omega)]
  congr 1
  rw [Bool.eq_iff_iff,decide_eq_true_eq,decide_eq_true_eq]
  omega
 simp only [qZ,hr,Option.bind_some]
 by_cases hl:a.len≤G + 1
 ·rw [decide_eq_true hl,if_pos hl]
  rfl
 ·rw [decide_eq_false hl,if_neg hl]
  have m1:=zlm b b
  have s1:=zb3 D (-(b*b))
  have s2:=zb4 (b*b)
  have s3:=zb4 b
  have hdv:=h.dvs.1
  obtain ⟨k1,k2,k3,k4⟩:=zke hD h (by omega) (.inr (zo6 h.mo.ne hdv))
  obtain ⟨i1,i2,i3⟩:=z7j k1 (by omega)
  have hm:=zky k1
  have hmm:=(zst k1).ne
  simp only [Bool.not_false,if_true,z6w b b (by omega) (by omega),z73 D (b*b) (by omega) (by omega),z33 (D + -(b*b)) h.mo.ne (by omega) (by omega),Option.bind_some,i1,i2,i3,z2y b (by omega),z06 (-b) hmm (by omega) (by omega)]
theorem z40:∀ (n:Nat) (a b:PP P),a.len≤n→n≤100→Fm D a b→∃ r:Rf D G,yK (fun s:List Int×List Int=>qZ (P.p,D.1) s) (a.1,b.1)=some (r.a.1,r.b.1)∧Cl (FI D a b) r.I
 | 0,a,b,hn,_,h=>by have:=qU h.mo.ne; omega
 | n + 1,a,b,hn,hn2,h=>by
  have step:=zzv hD hG h (by omega)
  by_cases hl:a.len≤G + 1
  ·rw [if_pos hl] at step
   refine ⟨⟨a,b,h,hl⟩,?_,zxm rfl⟩
   rw [yR]
   simp only [step,Option.bind_some]
  ·rw [if_neg hl] at step
   have hdv:=h.dvs.1
   obtain ⟨k1,k2,k3,k4⟩:=zke hD h (by omega) (.inr (zo6 h.mo.ne hdv))
   obtain ⟨r,hr,hc⟩:=z40 n _ _ (by rw [zky k1]; omega) (by omega) k3
   refine ⟨r,?_,zdh hD k4 hc⟩
   rw [yR]
   simp only [step,Option.bind_some,hr]
theorem zzp {a b:PP P} (h:Fm D a b) (la:a.len≤30) :
  jX (yP D.1) P.p (yP a.1,yP b.1)=if a.len≤G + 1 then some (.inr (yP a.1,yP b.1)) else some (.inl (yP (mon (zbf (b*b + -D) a)).1,yP (yX (-b) (mon (zbf (b*b + -D) a))).1)):=by
 have hDl:=hD.len
 have hb:=h.len
 simp only [jX,zre a (by omega),z7p hG hDl,Option.bind_some]
 by_cases hl:a.len≤G + 1
 ·rw [if_neg (by rw [decide_eq_true_eq]; omega),if_pos hl]
 ·rw [if_pos (decide_eq_true (by omega)),if_neg hl]
  have m1:=zlm b b
  have s1:=zb3 (b*b) (-D)
  have s2:=zb4 D
  have hdv:=h.dvs.2
  obtain ⟨k1,k2,k3,k4⟩:=zke hD h (by omega) (.inl (zo6 h.mo.ne hdv))
  have hm:=zky k1
  have hmm:=(zst k1).ne
  have hsq:nX P.p (yP D.1) (yP b.1)=some (yP (b*b + -D).1):=by
   simp only [nX,z6g b b (by omega) (by omega) (by omega),Option.bind_some,z7m (b*b) D (by omega) (by omega)]
  simp only [hsq,z49 (b*b + -D) h.mo.ne (by omega) (show a.len≤64 by omega),Option.bind_some,z7g k1 (by omega),z41 b hmm (by omega) (by omega)]
theorem z5s:∀ (n:Nat) (a b:PP P),a.len≤n→n≤30→Fm D a b→∃ r:Rf D G,yK (fun s:V64×V64=>jX (yP D.1) P.p s) (yP a.1,yP b.1)=some (yP r.a.1,yP r.b.1)∧Cl (FI D a b) r.I
 | 0,a,b,hn,_,h=>by have:=qU h.mo.ne; omega
 | n + 1,a,b,hn,hn2,h=>by
  have step:=zzp hD hG h (by omega)
  by_cases hl:a.len≤G + 1
  ·rw [if_pos hl] at step
   refine ⟨⟨a,b,h,hl⟩,?_,zxm rfl⟩
   rw [yR]
   simp only [step,Option.bind_some]
  ·rw [if_neg hl] at step
   have hdv:=h.dvs.2
   obtain ⟨k1,k2,k3,k4⟩:=zke hD h (by omega) (.inl (zo6 h.mo.ne hdv))
   obtain ⟨r,hr,hc⟩:=z5s n _ _ (by rw [zky k1]; omega) (by omega) k3
   refine ⟨r,?_,zdh hD k4 hc⟩
   rw [yR]
   simp only [step,Option.bind_some,hr]
def Rf.i (x:Rf D G):List Int×List Int:=(x.a.1,x.b.1)
def Rf.s (x:Rf D G):V64×V64:=(yP x.a.1,yP x.b.1)
theorem z7r (x y:Rf D G):∃ o u v d w t A B:PP P,Cmpo D x.a x.b y.a y.b o u v d w t A B∧bz P.p x.a.1 y.a.1=(o.1,u.1,v.1)∧bz P.p o.1 (x.b + y.b).1=(d.1,w.1,t.1)∧o ≠ 0∧o.len≤64∧Fm D A (yX B A)∧Cl (Pr x.I y.I) (FI D A (yX B A)):=by
 have hDl:=hD.len
 have hx1:=x.sm
 have hx2:=x.fm.len
 have hy1:=y.sm
 have hy2:=y.fm.len
 have nx:=x.fm.mo.ne
 have ny:=y.fm.mo.ne
 have la:x.a.len≤3:=by omega
 have la':y.a.len≤3:=by omega
 have lb:x.b.len≤3:=by omega
 have lb':y.b.len≤3:=by omega
 have lD:D.len≤6:=by omega
 obtain ⟨o,u,v,e1,m1,b1,d1,d1',lu,lv⟩:=zw6 (a:=x.a) (b:=y.a) (by omega) (by omega) (.inl nx)
 have lo:o.len≤3:=Nat.le_trans (zds d1 nx) la
 have ls:(x.b + y.b).len≤3:=Nat.le_trans (zb3 x.b y.b) (by omega)
 obtain ⟨d,w,t,e2,m2,b2,d2,d2',lw,lt⟩:=zw6 (a:=o) (b:=x.b + y.b) (by omega) (by omega) (.inl m1.ne)
 have ld:d.len≤3:=Nat.le_trans (zds d2 m1.ne) lo
 have lu':u.len≤4:=by omega
 have lv':v.len≤4:=by omega
 have lw':w.len≤4:=by omega
 have lt':t.len≤4:=by omega
 clear lu lv lw lt
 obtain ⟨A,B,h1,h2,h3,h4⟩:=zxo hD (r:=w*u) (s:=w*v) (t:=t) x.fm y.fm m2 (zN.dv_trans d2 d1) (zN.dv_trans d2 d1') d2' (by rw [← z0w zN,← b1]; exact b2)
 have nd:=m2.ne
 have kA:A.len≤6:=Nat.le_trans (zds (a:=A) (b:=x.a*y.a) ⟨d*d,h1⟩ (fun e=>(zeb _ _ e).elim nx ny)) (zav la la')
 have kB:B.len≤30:=by
  by_cases hB:B=0
  ·rw [hB]; exact Nat.zero_le _
  ·refine Nat.le_trans (zds (a:=B) (b:=d*B) ⟨d,rfl⟩ (fun e=>(zeb _ _ e).elim nd hB)) ?_
   rw [← h2]
   exact Nat.le_trans (zpl (zpl (zav (zav (zav lw' lu') la) lb') (zav (zav (zav lw' lv') la') lb)) (zav lt' (zpl (zav lb lb') lD))) (show max (max (4 + 4 + 3 + 3) (4 + 4 + 3 + 3)) (4 + max (3 + 3) 6)≤30 by decide)
 exact ⟨o,u,v,d,w,t,A,B,⟨la,lb,la',lb',lD,lu',lv',lw',lt',ld,kA,kB,nd,h3.mo.ne,h1,h2⟩,e1,e2,m1.ne,by omega,h3,h4⟩
theorem zf2 (x y:Rf D G):uX (P.p,D.1) x.i y.i=some (rop hD x y).i∧kX P.p (yP D.1) x.s y.s=some (rop hD x y).s:=by
 obtain ⟨o,u,v,d,w,t,A,B,h,hz1,hz2,no,lo,h3,h4⟩:=z7r hD hG x y
 have ls:(x.b + y.b).len≤64:=Nat.le_trans (zpl h.lb h.lb') (by decide)
 have lx:x.a.len≤64:=Nat.le_trans h.la (by decide)
 have ly:y.a.len≤64:=Nat.le_trans h.la' (by decide)
 have nx:=zdq x.fm.mo.ne
 have no':=zdq no
 have c1:=zlx P.okp x.a.2 y.a.2 lx ly (.inl nx)
 have c2:=zlx P.okp o.2 (x.b + y.b).2 lo ls (.inl no')
 have c3:=zga P.okp x.a.2 y.a.2 lx ly (.inl nx)
 have c4:=zga P.okp o.2 (x.b + y.b).2 lo ls (.inl no')
 rw [hz1] at c1 c3
 rw [hz2] at c2 c4
 have lA10:A.len≤10:=Nat.le_trans h.lA (by decide)
 obtain ⟨r,r1,r2⟩:=z40 hD hG 10 A (yX B A) lA10 (by decide) h3
 obtain ⟨r',r1',r2'⟩:=z5s hD hG 10 A (yX B A) lA10 (by decide) h3
 rw [zlj hD (zdh hD h4 r2)] at r1
 rw [zlj hD (zdh hD h4 r2')] at r1'
 refine ⟨(zws h c1 c2).trans ?_,(zwe h c3 c4).trans ?_⟩
 ·simp only [kK,r1,Option.bind_some]
  rfl
 ·simp only [nS,r1',Option.bind_some]
  rfl
end
end Go.Proofs.YtebfhlnfmkhmcaaGreat
/- The list of all reduced forms; orders. -/
namespace Go.Proofs.YtebfhlnfmkhmcaaGreat
open Go.Abs
variable {P:Pri}
theorem zjt {p:Nat} {D A:List Int} {q:List Int×List Int}:∀ j,q∈f3 p D A j ↔ ∃ k,k < j∧isF p D A (qM p k)=true∧q=(A,qM p k)
 | 0=>by simp [f3]
 | j + 1=>by
  have ih:=zjt (D:=D) (A:=A) (q:=q) (p:=p) j
  simp only [f3]
  constructor
  ·intro h
   split at h
   ·rcases List.mem_append.1 h with h1 | h1
    ·obtain ⟨k,a,b⟩:=ih.1 h1
     exact ⟨k,by omega,b⟩
    ·exact ⟨j,by omega,by assumption,by simpa using h1⟩
   ·obtain ⟨k,a,b⟩:=ih.1 h
    exact ⟨k,by omega,b⟩
  ·rintro ⟨k,a,b,c⟩
   by_cases hk:k=j
   ·subst hk
    rw [if_pos b]
    exact List.mem_append.2 (.inr (by simpa using c))
   ·have h1:=ih.2 ⟨k,by omega,b,c⟩
    split
    ·exact List.mem_append.2 (.inl h1)
    ·exact h1
theorem zoa {p:Nat} {D:List Int} {g:Nat} {q:List Int×List Int}:∀ i,q∈f2 p D g i ↔ ∃ k,k < i∧q∈f3 p D (qM p (p ^ g + k)) (p ^ g)
 | 0=>by simp [f2]
 | i + 1=>by
  have ih:=zoa (D:=D) (g:=g) (q:=q) (p:=p) i
  simp only [f2,List.mem_append,ih]
  constructor
  ·rintro (⟨k,a,b⟩ | h)
   ·exact ⟨k,by omega,b⟩
   ·exact ⟨i,by omega,h⟩
  ·rintro ⟨k,a,b⟩
   by_cases hk:k=i
   ·subst hk; exact .inr b
   ·exact .inl ⟨k,by omega,b⟩
theorem zty {p:Nat} {D:List Int} {q:List Int×List Int}:∀ n,q∈f1 p D n ↔ ∃ g,g < n∧q∈f2 p D g (p ^ g)
 | 0=>by simp [f1]
 | n + 1=>by
  have ih:=zty (D:=D) (q:=q) (p:=p) n
  simp only [f1,List.mem_append,ih]
  constructor
  ·rintro (⟨k,a,b⟩ | h)
   ·exact ⟨k,by omega,b⟩
   ·exact ⟨n,by omega,h⟩
  ·rintro ⟨k,a,b⟩
   by_cases hk:k=n
   ·subst hk; exact .inr b
   ·exact .inl ⟨k,by omega,b⟩
theorem zt1 {p:Nat} (hp:2≤p) {n m:Nat} (h:qM p n=qM p m):n=m:=by
 rw [← zmn hp n,h,zmn hp]
theorem zvi {p:Nat} (hp:2≤p) {D A:List Int}:∀ j,(f3 p D A j).Nodup
 | 0=>by simp [f3]
 | j + 1=>by
  have ih:=zvi hp (D:=D) (A:=A) j
  simp only [f3]
  split
  ·unfold List.Nodup
   rw [List.pairwise_append]
   refine ⟨ih,List.pairwise_singleton ..,fun a ha b hb e=>?_⟩
   obtain ⟨k,h1,_,h2⟩:=(zjt j).1 ha
   have h3:b=(A,qM p j):=by simpa using hb
   rw [h2,h3] at e
   have:=zt1 hp (Prod.mk.inj e).2
   omega
  ·exact ih
theorem zt2 {p:Nat} (hp:2≤p) {D:List Int} {g:Nat}:∀ i,(f2 p D g i).Nodup
 | 0=>by simp [f2]
 | i + 1=>by
  simp only [f2]
  unfold List.Nodup
  rw [List.pairwise_append]
  refine ⟨zt2 hp i,zvi hp _,fun a ha b hb e=>?_⟩
  obtain ⟨k,h1,h2⟩:=(zoa i).1 ha
  obtain ⟨j,_,_,h3⟩:=(zjt _).1 h2
  obtain ⟨j',_,_,h4⟩:=(zjt _).1 hb
  rw [h3,h4] at e
  have:=zt1 hp (Prod.mk.inj e).1
  omega
theorem zu9 {p:Nat} (hp:2≤p) {D:List Int}:∀ n,(f1 p D n).Nodup
 | 0=>by simp [f1]
 | n + 1=>by
  simp only [f1]
  unfold List.Nodup
  rw [List.pairwise_append]
  refine ⟨zu9 hp n,zt2 hp _,fun a ha b hb e=>?_⟩
  obtain ⟨g,hg,ha'⟩:=(zty n).1 ha
  obtain ⟨k,h1,h2⟩:=(zoa _).1 ha'
  obtain ⟨j,_,_,h3⟩:=(zjt _).1 h2
  obtain ⟨k',h1',h2'⟩:=(zoa _).1 hb
  obtain ⟨j',_,_,h4⟩:=(zjt _).1 h2'
  rw [h3,h4] at e
  have e1:=congrArg List.length (Prod.mk.inj e).1
  rw [zau hp h1,zau hp h1'] at e1
  omega
/-- The number of a monic polynomial. -/
theorem zuf {p:Nat} (hp:2≤p):∀ (g:Nat) (l:List Int),Row p l→l.length=g + 1→wG l=1→num p l < 2*p ^ g
 | g,[],_,h,_=>by simp at h
 | 0,[c],_,_,h=>by
  have hc:c=1:=h
  subst hc
  simp [num]
 | 0,c :: d :: l,_,h,_=>by simp at h
 | g + 1,[c],_,h,_=>by simp at h
 | g + 1,c :: d :: l,hr,h,hl=>by
  have h1:=zf4 hr
  have hl':wG (d :: l)=1:=by
   rw [← hl]
   unfold wG
   simp only [List.length_cons,Nat.add_sub_cancel]
   rw [zm1]
  have h2:=zuf hp g (d :: l) h1 (by simpa using h) hl'
  have h3:=hr.res c (List.mem_cons_self ..)
  have e:num p (c :: d :: l)=c.toNat + p*num p (d :: l):=rfl
  rw [e,Nat.pow_succ]
  have h4:p*(num p (d :: l) + 1)≤p*(2*p ^ g):=Nat.mul_le_mul_left p h2
  have h5:p*(2*p ^ g)=2*(p ^ g*p):=by rw [Nat.mul_left_comm,Nat.mul_comm p]
  rw [Nat.mul_add,h5] at h4
  omega
theorem zpe {D A B:PP P} (hA:A ≠ 0):isF P.n D.1 A.1 B.1=true ↔ ∃ c,B*B + -D=A*c:=by
 have e1:rem P.n (zb8 P.n (mul P.n B.1 B.1) D.1 (-1)) A.1=(yX (B*B + -D) A).1:=by
  have:zb8 P.p (mul P.p B.1 B.1) D.1 (-1)=(B*B + -D).1:=zpc (B*B) D
  show rem P.p (zb8 P.p (mul P.p B.1 B.1) D.1 (-1)) A.1=_
  rw [this]
  rfl
 unfold isF
 rw [decide_eq_true_eq,e1]
 show (yX (B*B + -D) A).len=0 ↔ _
 rw [wT,zua hA]
 exact ⟨fun ⟨c,hc⟩=>⟨c,by rw [zN.mul_comm A]; exact hc⟩,fun ⟨c,hc⟩=>⟨c,by rw [zN.mul_comm c]; exact hc⟩⟩
section
variable {D:PP P} {G:Nat} (hD:Dsc D G) (hG:G≤2)
theorem z5c (x:Rf D G):x.i∈f1 P.n D.1 (G + 1):=by
 have h1:=qU x.fm.mo.ne
 have h2:=x.sm
 have h3:=x.fm.len
 have hp:=P.ge
 obtain ⟨g,hg⟩:∃ g,x.a.len=g + 1:=⟨x.a.len - 1,by omega⟩
 have ea:=zng hp _ x.a.2
 have eb:=zng hp _ x.b.2
 have k1:P.n ^ g≤num P.n x.a.1:=by
  rcases Nat.lt_or_ge (num P.n x.a.1) (P.n ^ g) with h | h
  ·have:=zju hp g _ h
   rw [ea] at this
   have:x.a.len≤g:=this
   omega
  ·exact h
 have k2:=zuf hp g _ x.a.2 hg x.fm.mo
 have k3:=zv7 hp _ x.b.2
 have k4:P.n ^ x.b.len≤P.n ^ g:=Nat.pow_le_pow_right (by omega) (by omega)
 have k3':num P.n x.b.1 < P.n ^ x.b.len:=k3
 refine (zty _).2 ⟨g,by omega,(zoa _).2 ⟨num P.n x.a.1 - P.n ^ g,by omega,(zjt _).2 ⟨num P.n x.b.1,by omega,?_,?_⟩⟩⟩
 ·rw [show P.n ^ g + (num P.n x.a.1 - P.n ^ g)=num P.n x.a.1 by omega,ea,eb]
  exact (zpe x.fm.mo.ne).2 x.fm.dv
 ·rw [show P.n ^ g + (num P.n x.a.1 - P.n ^ g)=num P.n x.a.1 by omega,ea,eb]
  rfl
theorem z57 {q:List Int×List Int} (h:q∈f1 P.n D.1 (G + 1)):∃ x:Rf D G,x.i=q:=by
 have hp:=P.ge
 obtain ⟨g,hg,h1⟩:=(zty _).1 h
 obtain ⟨k,hk,h2⟩:=(zoa _).1 h1
 obtain ⟨j,hj,hF,rfl⟩:=(zjt _).1 h2
 have la:=zau hp hk
 have lb:=ziw hp hj
 have hm:Mo (ppn P (P.n ^ g + k)):=by
  show wG (qM P.n (P.n ^ g + k))=1
  unfold wG
  rw [la]
  exact zl4 hp hk
 have hF':isF P.n D.1 (ppn P (P.n ^ g + k)).1 (ppn P j).1=true:=hF
 have la':(ppn P (P.n ^ g + k)).len=g + 1:=la
 have lb':(ppn P j).len≤g:=lb
 exact ⟨⟨ppn P (P.n ^ g + k),ppn P j,⟨hm,by omega,(zpe hm.ne).1 hF'⟩,by omega⟩,rfl⟩
theorem zsa {α β:Type} {f:α→β}:∀ l:List β,(∀ q∈l,∃ x,f x=q)→∃ L:List α,L.map f=l
 | [],_=>⟨[],rfl⟩
 | q :: l,h=>by
  obtain ⟨x,hx⟩:=h q (List.mem_cons_self ..)
  obtain ⟨L,hL⟩:=zsa l fun q hq=>h q (List.mem_cons_of_mem _ hq)
  exact ⟨x :: L,by rw [List.map_cons,hx,hL]⟩
theorem z04 {x y:Rf D G} (h:x.i=y.i):x=y:=by
 have h1:=Prod.mk.inj h
 exact zta (zie h1.1) (zie h1.2)
include hG in
theorem zp5:∃ L:List (Rf D G),L.map Rf.i=f1 P.n D.1 (G + 1)∧L.Nodup∧(∀ x,x∈L)∧L.length≤1000000:=by
 obtain ⟨L,hL⟩:=zsa (f:=Rf.i (D:=D) (G:=G)) _ fun q hq=>z57 hq
 have hn:=zu9 P.ge (D:=D.1) (G + 1)
 rw [← hL] at hn
 have hl:=zp3 (p:=P.n) D.1 (G + 1) fun i hi=>zwx (by have:=P.is; omega) (by omega)
 rw [← hL,List.length_map] at hl
 refine ⟨L,hL,?_,fun x=>?_,by omega⟩
 ·unfold List.Nodup at hn ⊢
  rw [List.pairwise_map] at hn
  exact hn.imp fun h e=>h (by rw [e])
 ·have:=z5c x
  rw [← hL] at this
  obtain ⟨y,hy,e⟩:=List.mem_map.1 this
  rw [← z04 e]
  exact hy
/-! Orders. -/
theorem zvt (x:Rf D G):(x.a.1.length=1∧rd x.a.1 0=1) ↔ x=zaw:=by
 constructor
 ·rintro ⟨h1,h2⟩
  have ha:x.a=1:=zie (by
   refine zg8 x.a.2 (1:PP P).2 fun i=>?_
   show rd x.a.1 i=rd [1] i
   by_cases hi:i=0
   ·rw [hi,h2]; rfl
   ·rw [vS (by omega),vS (by simp; omega)])
  have hb:x.b=0:=wT.1 (by have:=x.fm.len; rw [ha,zfu] at this; omega)
  exact zta ha hb
 ·rintro rfl
  exact ⟨rfl,rfl⟩
theorem z0d {x y:Rf D G} (hG:G≤2) (h:x.s=y.s):x=y:=by
 have h1:=Prod.mk.inj h
 have a1:=x.sm
 have a2:=y.sm
 have a3:=x.fm.len
 have a4:=y.fm.len
 exact zta (zie (zxu x.a.2 y.a.2 (by show x.a.len≤_; omega) (by show y.a.len≤_; omega) h1.1)) (zie (zxu x.b.2 y.b.2 (by show x.b.len≤_; omega) (by show y.b.len≤_; omega) h1.2))
include hD hG
theorem z0o (x:Rf D G) {k:Nat} (h1:1≤k) (hk:k≤1000000) (h2:(xY hD).pw x k=zaw) (h3:∀ j,1≤j→j < k→(xY hD).pw x j ≠ zaw) :
  zbd (P.p,D.1) x.i=some (k:Int)∧zfa P.p (yP D.1) x.s=some (k:Int):=by
 have e1:(xY hD).pw x 1=x:=(xY hD).pw_one x
 have key:∀ j,(xY hD).pw x (j + 1)=rop hD ((xY hD).pw x j) x:=fun _=>rfl
 constructor
 ·obtain ⟨s,g1,g2⟩:=wR (body:=fun s:Int×(List Int×List Int)=>uP (P.p,D.1) x.i s.1 s.2) (fun i (s:List Int×List Int)=>(((i + 1:Nat):Int),s)) (fun _=>(k:Int)) (k - 1)
   (fun i s=>s=((xY hD).pw x (i + 1)).i) (fun i s hi hI=>by
    subst hI
    refine ⟨_,?_,rfl⟩
    have hne:=h3 (i + 1) (by omega) (by omega)
    have hu:decide (((xY hD).pw x (i + 1)).a.1.length=1∧rd ((xY hD).pw x (i + 1)).a.1 0=1)=false:=decide_eq_false fun h=>hne ((zvt _).1 h)
    have hc:=(zf2 hD hG ((xY hD).pw x (i + 1)) x).1
    simp only [uP,Rf.i,zgg,hu,Option.bind_some] at hc ⊢
    simp only [Bool.not_false,if_true,hc,Option.bind_some]
    rw [zX (by omega) (by omega),key (i + 1)]
    rfl) (fun s hI=>by
    subst hI
    have hu:decide (((xY hD).pw x (k - 1 + 1)).a.1.length=1∧rd ((xY hD).pw x (k - 1 + 1)).a.1 0=1)=true:=decide_eq_true ((zvt _).2 (by rw [show k - 1 + 1=k by omega]; exact h2))
    simp only [uP,Rf.i,zgg,hu,Option.bind_some]
    simp only [Bool.not_true,Bool.false_eq_true,if_false]
    rw [show k - 1 + 1=k by omega]) (k - 1) 0 x.i (by omega) (by rw [show 0 + 1=1 from rfl,e1])
  have g1':yK (fun s:Int×(List Int×List Int)=>uP (P.p,D.1) x.i s.1 s.2) (1,x.i)=some (k:Int):=g1
  simp only [zbd,g1',Option.bind_some]
 ·have hunit:jL=some (zaw (D:=D) (G:=G)).s:=by
   simp only [jL,znz,Option.bind_some,Rf.s,zaw]
   rw [← zb7]
   rfl
  obtain ⟨s,g1,g2⟩:=wR (body:=fun s:Int×(V64×V64)=>jE P.p (yP D.1) x.s s.1 s.2) (fun i (s:V64×V64)=>(((i + 1:Nat):Int),s)) (fun _=>(k:Int)) (k - 1)
   (fun i s=>s=((xY hD).pw x (i + 1)).s) (fun i s hi hI=>by
    subst hI
    refine ⟨_,?_,rfl⟩
    have hne:=h3 (i + 1) (by omega) (by omega)
    have hu:decide (((xY hD).pw x (i + 1)).s=(zaw (D:=D) (G:=G)).s)=false:=decide_eq_false fun h=>hne (z0d hG h)
    have hc:=(zf2 hD hG ((xY hD).pw x (i + 1)) x).2
    simp only [jE,hunit,Option.bind_some,hu,Bool.not_false,if_true,hc]
    rw [zX (by omega) (by omega),key (i + 1)]
    rfl) (fun s hI=>by
    subst hI
    have hu:decide (((xY hD).pw x (k - 1 + 1)).s=(zaw (D:=D) (G:=G)).s)=true:=decide_eq_true (by rw [show k - 1 + 1=k by omega,h2])
    simp only [jE,hunit,Option.bind_some,hu,Bool.not_true,Bool.false_eq_true,if_false]
    rw [show k - 1 + 1=k by omega]) (k - 1) 0 x.s (by omega) (by rw [show 0 + 1=1 from rfl,e1])
  have g1':yK (fun s:Int×(V64×V64)=>jE P.p (yP D.1) x.s s.1 s.2) (1,x.s)=some (k:Int):=g1
  simp only [zfa,g1',Option.bind_some]
theorem zu7 (x:Rf D G):∃ k:Nat,1≤k∧k≤1000000∧(xY hD).pw x k=zaw∧(∀ j,1≤j→j < k→(xY hD).pw x j ≠ zaw)∧(f1 P.n D.1 (G + 1)).length % k=0:=by
 obtain ⟨L,hL,hn,ha,hl⟩:=zp5 (D:=D) hG
 obtain ⟨k,h1,h2,h3,h4,h5⟩:=(xY hD).order hn ha x
 refine ⟨k,h1,by omega,h3,h4,?_⟩
 rw [← hL,List.length_map]
 exact h5
end
end Go.Proofs.YtebfhlnfmkhmcaaGreat
