/- Own texts, put together. -/
import Derived.Test.YtebfhlnfmkhmcaaGreatAbsX
import Derived.Test.YtebfhlnfmkhmcaaGreatFn1
import Derived.Test.YtebfhlnfmkhmcaaGreatFn2
import Derived.Test.YtebfhlnfmkhmcaaGreatFn3
import Derived.Test.YtebfhlnfmkhmcaaGreatFn4
import Derived.Test.YtebfhlnfmkhmcaaGreatFn5
import Derived.Test.YtebfhlnfmkhmcaaGreatFn6
import Derived.Test.YtebfhlnfmkhmcaaGreatFn7
import Derived.Test.YtebfhlnfmkhmcaaGreatFn8
import Derived.Test.YtebfhlnfmkhmcaaGreatFn9
import Derived.Test.YtebfhlnfmkhmcaaGreatFn10
import Derived.Test.YtebfhlnfmkhmcaaGreatFn11
import Derived.Test.YtebfhlnfmkhmcaaGreatFn12
set_option linter.unusedSimpArgs false
set_option linter.unusedVariables false
/- Plain facts on loops and wraps. -/
namespace Go.Abs

/-- A loop with a measure ends, and what it leaves. -/
theorem zbr {α β:Type} {body:α→Option (α⊕β)} (I:α→Prop) (Post:α→β→Prop) (m:α→Nat)
  (step:∀ s,I s→(∃ s',body s=some (.inl s')∧I s'∧m s' < m s∧∀ r,Post s' r→Post s r)∨∃ r,body s=some (.inr r)∧Post s r) :
  ∀ s,I s→∃ r,yK body s=some r∧Post s r:=by
 have key:∀ n s,m s≤n→I s→∃ r,yK body s=some r∧Post s r:=by
  intro n
  induction n with
  | zero =>
   intro s hn hs
   rcases step s hs with ⟨s',h1,h2,h3,h4⟩ | ⟨r,h1,h2⟩
   ·omega
   ·exact ⟨r,by rw [yR,h1]; rfl,h2⟩
  | succ n ih =>
   intro s hn hs
   rcases step s hs with ⟨s',h1,h2,h3,h4⟩ | ⟨r,h1,h2⟩
   ·obtain ⟨r,k1,k2⟩:=ih s' (by omega) h2
    exact ⟨r,by rw [yR,h1]; exact k1,h4 r k2⟩
   ·exact ⟨r,by rw [yR,h1]; rfl,h2⟩
 exact fun s hs=>key (m s) s (Nat.le_refl _) hs

theorem zX {n:Int} (h1:-9223372036854775808≤n) (h2:n < 9223372036854775808):IntKind.i64.wrap n=n:=by
 simp only [IntKind.wrap,IntKind.signed,IntKind.bits]
 simp
 omega
theorem zja {n:Int} (h1:0≤n) (h2:n < 256):IntKind.u8.wrap n=n:=by
 simp only [IntKind.wrap,IntKind.signed,IntKind.bits]
 simp
 omega

/-- A loop that counts from i to n. -/
theorem wR {α β σ:Type} {body:α→Option (α⊕β)} (at':Nat→σ→α) (out:σ→β) (n:Nat) (I:Nat→σ→Prop)
  (step:∀ i s,i < n→I i s→∃ s',body (at' i s)=some (.inl (at' (i + 1) s'))∧I (i + 1) s') (stop:∀ s,I n s→body (at' n s)=some (.inr (out s))) :
  ∀ (m i:Nat) (s:σ),i + m=n→I i s→∃ s',yK body (at' i s)=some (out s')∧I n s'
 | 0,i,s,h,hI=>by
  have:i=n:=by omega
  subst this
  exact ⟨s,by rw [yR,stop s hI]; rfl,hI⟩
 | m + 1,i,s,h,hI=>by
  obtain ⟨s',h1,h2⟩:=step i s (by omega) hI
  obtain ⟨s'',h3,h4⟩:=wR at' out n I step stop m (i + 1) s' (by omega) h2
  exact ⟨s'',by rw [yR,h1]; exact h3,h4⟩
end Go.Abs
/- Commutative rings, told by their laws: powers, the Frobenius, roots of polynomials, powers in finite fields. -/
namespace Go.Abs

structure IsRing (K:Type) [Add K] [Mul K] [Neg K] [Zero K] [One K]:Prop where
 add_comm:∀ a b:K,a + b=b + a
 add_assoc:∀ a b c:K,a + b + c=a + (b + c)
 add_zero:∀ a:K,a + 0=a
 add_neg:∀ a:K,a + -a=0
 mul_comm:∀ a b:K,a*b=b*a
 mul_assoc:∀ a b c:K,a*b*c=a*(b*c)
 mul_one:∀ a:K,a*1=a
 mul_add:∀ a b c:K,a*(b + c)=a*b + a*c

section
variable {K:Type} [Add K] [Mul K] [Neg K] [Zero K] [One K]

def pw (x:K):Nat→K
 | 0=>1
 | n + 1=>pw x n*x
def mF:Nat→K→K
 | 0,_=>0
 | n + 1,x=>mF n x + x

namespace IsRing
variable (R:IsRing K)
include R
theorem zero_add (a:K):0 + a=a:=by rw [R.add_comm,R.add_zero]
theorem neg_add (a:K):-a + a=0:=by rw [R.add_comm,R.add_neg]
theorem add_left_comm (a b c:K):a + (b + c)=b + (a + c):=by rw [← R.add_assoc,R.add_comm a b,R.add_assoc]
theorem mul_left_comm (a b c:K):a*(b*c)=b*(a*c):=by rw [← R.mul_assoc,R.mul_comm a b,R.mul_assoc]
theorem one_mul (a:K):1*a=a:=by rw [R.mul_comm,R.mul_one]
theorem add_mul (a b c:K):(a + b)*c=a*c + b*c:=by rw [R.mul_comm,R.mul_add,R.mul_comm c a,R.mul_comm c b]
theorem cancel {a b c:K} (h:a + b=a + c):b=c:=by
 have:-a + (a + b)=-a + (a + c):=by rw [h]
 rwa [← R.add_assoc,← R.add_assoc,R.neg_add,R.zero_add,R.zero_add] at this
theorem mul_zero (a:K):a*0=0:=by
 have h:a*0 + a*0=a*0 + 0:=by rw [← R.mul_add,R.add_zero,R.add_zero]
 exact R.cancel h
theorem zero_mul (a:K):0*a=0:=by rw [R.mul_comm,R.mul_zero]
theorem neg_of {a b:K} (h:a + b=0):b=-a:=R.cancel (a:=a) (by rw [h,R.add_neg])
theorem mul_neg (a b:K):a*-b=-(a*b):=R.neg_of (by rw [← R.mul_add,R.add_neg,R.mul_zero])
theorem neg_neg (a:K):- -a=a:=(R.neg_of (R.neg_add a)).symm
theorem sub_zero {a b:K} (h:a + -b=0):a=b:=by
 have h':=R.neg_of ((R.add_comm _ _).trans h)
 rw [R.neg_neg] at h'
 exact h'

/-! Powers and multiples. -/
theorem pw_one (n:Nat):pw (1:K) n=1:=by
 induction n with
 | zero=>rfl
 | succ n ih=>simp only [pw,ih,R.mul_one]
theorem pw_zero {n:Nat} (h:n ≠ 0):pw (0:K) n=0:=by
 cases n with
 | zero=>exact absurd rfl h
 | succ n=>simp only [pw,R.mul_zero]
theorem pw_add (x:K) (n m:Nat):pw x (n + m)=pw x n*pw x m:=by
 induction m with
 | zero=>simp only [pw,Nat.add_zero,R.mul_one]
 | succ m ih=>rw [← Nat.add_assoc]; simp only [pw,ih,R.mul_assoc]
theorem pw_mul (x:K) (n m:Nat):pw x (n*m)=pw (pw x n) m:=by
 induction m with
 | zero=>simp only [pw,Nat.mul_zero]
 | succ m ih=>rw [Nat.mul_succ,R.pw_add,ih]; rfl
theorem mul_pw (x y:K) (n:Nat):pw (x*y) n=pw x n*pw y n:=by
 induction n with
 | zero=>simp only [pw,R.mul_one]
 | succ n ih=>simp only [pw,ih,R.mul_assoc,R.mul_left_comm]
theorem nsm_add (n m:Nat) (x:K):mF (n + m) x=mF n x + mF m x:=by
 induction m with
 | zero=>simp only [mF,Nat.add_zero,R.add_zero]
 | succ m ih=>rw [← Nat.add_assoc]; simp only [mF,ih,R.add_assoc]
theorem nsm_mul (n m:Nat) (x:K):mF (n*m) x=mF n (mF m x):=by
 induction n with
 | zero=>simp only [mF,Nat.zero_mul]
 | succ n ih=>rw [Nat.succ_mul,R.nsm_add,ih]; rfl
theorem mul_nsm (n:Nat) (x y:K):x*mF n y=mF n (x*y):=by
 induction n with
 | zero=>simp only [mF,R.mul_zero]
 | succ n ih=>simp only [mF,R.mul_add,ih]
theorem nsm_zero (n:Nat):mF n (0:K)=0:=by
 induction n with
 | zero=>rfl
 | succ n ih=>simp only [mF,ih,R.add_zero]

end IsRing

/-- The sum of c_i x^i y^(n - i). -/
def hom (x y:K):List Nat→K
 | []=>0
 | c :: l=>mF c (pw y l.length) + x*hom x y l
def zwd:Nat→List Nat→List Nat
 | k,[]=>[k]
 | k,c :: l=>(k + c) :: zwd c l
theorem zvp:∀ (k:Nat) (l:List Nat),(zwd k l).length=l.length + 1
 | _,[]=>rfl
 | k,c :: l=>by simp only [zwd,List.length_cons,zvp c l]
def zxz:Nat→List Nat
 | 0=>[1]
 | n + 1=>zwd 0 (zxz n)

namespace IsRing
variable (R:IsRing K)
include R
theorem hom_pasc (x y:K):∀ (l:List Nat) (k:Nat),hom x y (zwd k l)=mF k (pw y l.length) + (x + y)*hom x y l
 | [],k=>by simp only [zwd,hom,List.length_nil,pw,R.mul_zero]
 | c :: l,k=>by
  simp only [zwd,hom,zvp,List.length_cons,hom_pasc x y l c]
  have e1:mF (k + c) (pw y (l.length + 1))=mF k (pw y (l.length + 1)) + y*mF c (pw y l.length):=by
   rw [R.nsm_add,R.mul_nsm,R.mul_comm y]; rfl
  rw [e1]
  simp only [R.mul_add,R.add_mul,R.add_assoc,R.mul_left_comm y x]
  congr 1
  exact R.add_left_comm _ _ _
theorem pw_sum (x y:K) (n:Nat):pw (x + y) n=hom x y (zxz n):=by
 induction n with
 | zero=>simp only [pw,zxz,hom,List.length_nil,mF,R.mul_zero,R.add_zero,R.zero_add]
 | succ n ih=>simp only [pw,zxz,ih,R.hom_pasc,mF,R.zero_add,R.mul_comm]
theorem frob {p:Nat} (hp:p=2∨p=3∨p=5∨p=7) (hc:∀ x:K,mF p x=0) (x y:K):pw (x + y) p=pw x p + pw y p:=by
 have hm:∀ m (z:K),mF (m*p) z=0:=fun m z=>by rw [R.nsm_mul,hc,R.nsm_zero]
 rw [R.pw_sum]
 rcases hp with rfl | rfl | rfl | rfl
 ·have h:=hm 1
  show hom x y [1,2,1]=_
  simp only [hom,List.length_cons,List.length_nil,h,mF,R.zero_add,R.add_zero,R.mul_zero,pw,R.mul_one,R.one_mul,R.mul_assoc] at h ⊢
  rw [R.add_comm]
  simp only [h,R.zero_add]
 ·have h1:=hm 1
  show hom x y [1,3,3,1]=_
  have e:∀ z:K,mF 3 z=0:=h1
  unfold hom hom hom hom hom
  simp only [e,List.length_cons,List.length_nil,R.zero_add]
  simp only [mF,R.zero_add,R.add_zero,R.mul_zero,pw,R.mul_one,R.one_mul,R.mul_assoc]
  rw [R.add_comm]
 ·have e1:∀ z:K,mF 5 z=0:=hm 1
  have e2:∀ z:K,mF 10 z=0:=hm 2
  show hom x y [1,5,10,10,5,1]=_
  unfold hom hom hom hom hom hom hom
  simp only [e1,e2,List.length_cons,List.length_nil,R.zero_add]
  simp only [mF,R.zero_add,R.add_zero,R.mul_zero,pw,R.mul_one,R.one_mul,R.mul_assoc]
  rw [R.add_comm]
 ·have e1:∀ z:K,mF 7 z=0:=hm 1
  have e2:∀ z:K,mF 21 z=0:=hm 3
  have e3:∀ z:K,mF 35 z=0:=hm 5
  show hom x y [1,7,21,35,35,21,7,1]=_
  unfold hom hom hom hom hom hom hom hom hom
  simp only [e1,e2,e3,List.length_cons,List.length_nil,R.zero_add]
  simp only [mF,R.zero_add,R.add_zero,R.mul_zero,pw,R.mul_one,R.one_mul,R.mul_assoc]
  rw [R.add_comm]
theorem frobn {p:Nat} (hp:p=2∨p=3∨p=5∨p=7) (hc:∀ x:K,mF p x=0) (x y:K) (n:Nat):pw (x + y) (p ^ n)=pw x (p ^ n) + pw y (p ^ n):=by
 induction n with
 | zero=>simp only [Nat.pow_zero,pw,R.one_mul]
 | succ n ih=>rw [Nat.pow_succ,R.pw_mul,R.pw_mul,R.pw_mul,ih,R.frob hp hc]
end IsRing

/-! Polynomials from the leading coefficient on. -/
def hn (x:K):K→List K→K
 | a,[]=>a
 | a,c :: l=>hn x (a*x + c) l
def zsn (r:K):K→List K→List K
 | _,[]=>[]
 | a,c :: l=>a :: zsn r (a*r + c) l
omit [Neg K] [Zero K] [One K] in
theorem zue (r:K):∀ (a:K) (l:List K),(zsn r a l).length=l.length
 | _,[]=>rfl
 | a,c :: l=>by simp only [zsn,List.length_cons,zue r _ l]

namespace IsRing
variable (R:IsRing K)
include R
theorem hn_synd (x r:K):∀ (l:List K) (a y:K),hn x (a + (x + -r)*y) l=(x + -r)*hn x y (zsn r a l) + hn r a l
 | [],a,y=>by simp only [hn,zsn]; exact R.add_comm _ _
 | c :: l,a,y=>by
  simp only [hn,zsn]
  rw [← hn_synd x r l (a*r + c) (y*x + a)]
  congr 1
  have e:a*x=a*r + (x + -r)*a:=by
   rw [R.add_mul,R.mul_comm (-r),R.mul_neg,R.mul_comm x a,R.add_left_comm,R.add_neg,R.add_zero]
  rw [R.add_mul,e,R.mul_add,R.mul_assoc]
  simp only [R.add_assoc,R.add_comm c]
  congr 1
  rw [R.add_left_comm]
/-- A monic polynomial has no more roots than its degree. -/
theorem roots (hd:∀ a b:K,a*b=0→a=0∨b=0) (h10:(1:K) ≠ 0):∀ (n:Nat) (l L:List K),l.length=n→L.Nodup→(∀ x∈L,hn x 1 l=0)→L.length≤n
 | _,_,[],_,_,_=>Nat.zero_le _
 | 0,l,r :: L,hl,_,hr=>by
  have:l=[]:=List.eq_nil_of_length_eq_zero hl
  subst this
  exact absurd (hr r (by simp)) h10
 | n + 1,[],r :: L,hl,_,_=>by simp at hl
 | n + 1,c :: l,r :: L,hl,hN,hr=>by
  have hr0:hn r 1 (c :: l)=0:=hr r (by simp)
  have key:∀ x∈L,hn x 1 (zsn r (1*r + c) l)=0:=by
   intro x hx
   have h0:=hr x (by simp [hx])
   have h1:=R.hn_synd x r (c :: l) 1 0
   rw [R.mul_zero,R.add_zero,h0,hr0,R.add_zero] at h1
   simp only [zsn,hn,R.zero_mul,R.zero_add] at h1
   rcases hd _ _ h1.symm with h | h
   ·have:x=r:=R.sub_zero h
    subst this
    exact absurd hx (List.nodup_cons.1 hN).1
   ·exact h
  have:=roots hd h10 n (zsn r (1*r + c) l) L (by rw [zue]; simpa using hl) (List.nodup_cons.1 hN).2 key
  simp only [List.length_cons]; omega
theorem hn_rep (x:K) (m:List K):∀ (k:Nat) (a:K),hn x a (List.replicate k 0 ++ m)=hn x (a*pw x k) m
 | 0,a=>by simp [pw,R.mul_one]
 | k + 1,a=>by
  simp only [List.replicate_succ,List.cons_append,hn,R.add_zero]
  rw [hn_rep x m k,R.mul_assoc]
  simp only [pw]
  rw [R.mul_comm x]
/-- At most N elements are their own N-th powers. -/
theorem fixed_le (hd:∀ a b:K,a*b=0→a=0∨b=0) (h10:(1:K) ≠ 0) {N:Nat} (hN:2≤N) {L:List K} (hL:L.Nodup) (hx:∀ x∈L,pw x N=x):L.length≤N:=by
 obtain ⟨k,rfl⟩:∃ k,N=k + 2:=⟨N - 2,by omega⟩
 refine R.roots hd h10 (k + 2) (List.replicate k 0 ++ [-1,0]) L (by simp) hL fun x h=>?_
 have h2:=hx x h
 rw [R.hn_rep,R.one_mul]
 simp only [hn,R.add_zero]
 simp only [pw] at h2
 rw [R.add_mul,h2,R.mul_comm (-1),R.mul_neg,R.mul_one,R.add_neg]

end IsRing
theorem zqg {α:Type} [DecidableEq α]:∀ l m:List α,l.Nodup→(∀ x∈l,x∈m)→m.length≤l.length→∀ y∈m,y∈l
 | [],m,_,_,h,y,hy=>by
  have:m=[]:=List.eq_nil_of_length_eq_zero (by simpa using h)
  subst this; exact hy
 | x :: l,m,hn,hs,h,y,hy=>by
  obtain ⟨h1,h2⟩:=List.nodup_cons.1 hn
  have hx:=hs x (by simp)
  by_cases e:y=x
  ·subst e; simp
  ·have hl:=List.length_erase_of_mem hx
   refine List.mem_cons_of_mem _ (zqg l (m.erase x) h2 (fun z hz=>?_) ?_ y ((List.mem_erase_of_ne e).2 hy))
   ·exact (List.mem_erase_of_ne (fun e2=>h1 (by rw [← e2]; exact hz))).2 (hs z (by simp [hz]))
   ·simp only [List.length_cons] at h; omega
def prd:List K→K
 | []=>1
 | x :: l=>x*prd l
namespace IsRing
variable (R:IsRing K)
include R
theorem prd_perm {l m:List K} (h:l.Perm m):prd l=prd m:=by
 induction h with
 | nil=>rfl
 | cons x _ ih=>simp only [prd,ih]
 | swap x y l=>simp only [prd,R.mul_left_comm x y]
 | trans _ _ h1 h2=>rw [h1,h2]
theorem prd_map (x:K):∀ l:List K,prd (l.map (x*·))=pw x l.length*prd l
 | []=>by simp only [List.map_nil,prd,List.length_nil,pw,R.mul_one]
 | y :: l=>by simp only [List.map_cons,prd,List.length_cons,pw,prd_map x l,R.mul_assoc,R.mul_left_comm y]; rw [R.mul_left_comm]
omit R [Add K] [Neg K] in
theorem prd_ne (hd:∀ a b:K,a*b=0→a=0∨b=0) (h10:(1:K) ≠ 0):∀ l:List K,(∀ x∈l,x ≠ 0)→prd l ≠ 0
 | [],_=>h10
 | y :: l,h=>fun e=>by
  rcases hd _ _ e with e | e
  ·exact h y (by simp) e
  ·exact prd_ne hd h10 l (fun x hx=>h x (by simp [hx])) e
theorem mul_cancel (hd:∀ a b:K,a*b=0→a=0∨b=0) {a b c:K} (ha:a ≠ 0) (h:a*b=a*c):b=c:=by
 have:a*(b + -c)=0:=by rw [R.mul_add,R.mul_neg,h,R.add_neg]
 rcases hd _ _ this with e | e
 ·exact absurd e ha
 ·exact R.sub_zero e
/-- In a finite field of q elements the power q of an element is the element. -/
theorem fermat (hd:∀ a b:K,a*b=0→a=0∨b=0) (h10:(1:K) ≠ 0) {E:List K} (hE:E.Nodup) (hall:∀ x,x∈E) (x:K):pw x E.length=x:=by
 classical
 have hpos:E.length ≠ 0:=fun e=>by have:=hall x; rw [List.eq_nil_of_length_eq_zero e] at this; simp at this
 by_cases hx:x=0
 ·subst hx; exact R.pw_zero hpos
 ·have hF:(E.erase 0).Nodup:=hE.erase 0
  have hmem:∀ y,y∈E.erase 0 ↔ y ≠ 0:=fun y=>by rw [hE.mem_erase_iff]; simp [hall y]
  have hlen:(E.erase 0).length=E.length - 1:=List.length_erase_of_mem (hall 0)
  have hperm:((E.erase 0).map (x*·)).Perm (E.erase 0):=by
   refine (List.perm_ext_iff_of_nodup ?_ hF).2 fun y=>?_
   ·refine List.Pairwise.map _ ?_ hF
    intro a b hab e
    exact hab (R.mul_cancel hd hx e)
   ·rw [List.mem_map,hmem]
    constructor
    ·rintro ⟨z,hz,rfl⟩ e
     rcases hd _ _ e with e | e
     ·exact hx e
     ·exact (hmem z).1 hz e
    ·intro hy
     have hnd:((E.erase 0).map (x*·)).Nodup:=by
      refine List.Pairwise.map _ ?_ hF
      intro a b hab e
      exact hab (R.mul_cancel hd hx e)
     have hin:∀ z∈(E.erase 0).map (x*·),z∈E.erase 0:=by
      intro z hz
      obtain ⟨w,hw,rfl⟩:=List.mem_map.1 hz
      refine (hmem _).2 fun e=>?_
      rcases hd _ _ e with e | e
      ·exact hx e
      ·exact (hmem w).1 hw e
     exact List.mem_map.1 (zqg _ _ hnd hin (by simp) y ((hmem y).2 hy))
  have h1:=R.prd_perm hperm
  rw [R.prd_map] at h1
  have h2:prd (E.erase 0)*pw x (E.erase 0).length=prd (E.erase 0)*1:=by rw [R.mul_comm,h1,R.mul_one]
  have h3:=R.mul_cancel hd (IsRing.prd_ne hd h10 _ fun y hy=>(hmem y).1 hy) h2
  have e:E.length=(E.erase 0).length + 1:=by omega
  rw [e]
  simp only [pw,h3,R.one_mul]
end IsRing
end
end Go.Abs
/- Rings: divisors, residues by an element. -/
namespace Go.Abs
section
variable {K:Type} [Add K] [Mul K] [Neg K] [Zero K] [One K]

def Dv (a b:K):Prop:=∃ q,b=q*a
namespace IsRing
variable (R:IsRing K)
include R
theorem dv_refl (a:K):Dv a a:=⟨1,(R.one_mul a).symm⟩
theorem dv_zero (a:K):Dv a 0:=⟨0,(R.zero_mul a).symm⟩
theorem dv_add {a b c:K} (h1:Dv a b) (h2:Dv a c):Dv a (b + c):=by
 obtain ⟨x,rfl⟩:=h1
 obtain ⟨y,rfl⟩:=h2
 exact ⟨x + y,(R.add_mul _ _ _).symm⟩
theorem dv_mul {a b:K} (h:Dv a b) (c:K):Dv a (c*b):=by
 obtain ⟨x,rfl⟩:=h
 exact ⟨c*x,(R.mul_assoc _ _ _).symm⟩
theorem dv_mul' {a b:K} (h:Dv a b) (c:K):Dv a (b*c):=by rw [R.mul_comm]; exact R.dv_mul h c
theorem dv_neg {a b:K} (h:Dv a b):Dv a (-b):=by
 obtain ⟨x,rfl⟩:=h
 exact ⟨-x,by rw [R.mul_comm (-x),R.mul_neg,R.mul_comm]⟩
theorem dv_trans {a b c:K} (h1:Dv a b) (h2:Dv b c):Dv a c:=by
 obtain ⟨y,rfl⟩:=h2
 exact R.dv_mul h1 y
/-- Of a sum and a part of it, the other part. -/
theorem dv_sub {a b c:K} (h1:Dv a (b + c)) (h2:Dv a b):Dv a c:=by
 have h:=R.dv_add h1 (R.dv_neg h2)
 have e:b + c + -b=c:=by rw [R.add_comm b c,R.add_assoc,R.add_neg,R.add_zero]
 rwa [e] at h
theorem neg_add' (a b:K):-(a + b)=-a + -b:=by
 refine (R.neg_of ?_).symm
 rw [R.add_assoc,R.add_left_comm b,R.add_neg,R.add_zero,R.add_neg]
theorem neg_zero:-(0:K)=0:=(R.neg_of (R.add_zero 0)).symm

/-! Congruence by an element. -/
theorem cong_eqv (f:K):Equivalence fun a b:K=>Dv f (a + -b):=by
 refine ⟨fun a=>by rw [R.add_neg]; exact R.dv_zero f,fun {a b} h=>?_,fun {a b c} h1 h2=>?_⟩
 ·have:=R.dv_neg h
  rwa [R.neg_add',R.neg_neg,R.add_comm] at this
 ·have:=R.dv_add h1 h2
  have e:a + -b + (b + -c)=a + -c:=by rw [R.add_assoc,← R.add_assoc (-b),R.neg_add,R.zero_add]
  rwa [e] at this
end IsRing
def sdv (R:IsRing K) (f:K):Setoid K:=⟨fun a b=>Dv f (a + -b),R.cong_eqv f⟩
def Qt (R:IsRing K) (f:K):Type:=Quotient (sdv R f)
def qm (R:IsRing K) (f a:K):Qt R f:=Quotient.mk (sdv R f) a
theorem zke (R:IsRing K) {f a b:K}:qm R f a=qm R f b ↔ Dv f (a + -b):=⟨fun h=>Quotient.exact h,fun h=>Quotient.sound h⟩
theorem zg6 (R:IsRing K) {f a:K}:qm R f a=qm R f 0 ↔ Dv f a:=by rw [zke,R.neg_zero,R.add_zero]

variable (R:IsRing K) (f:K)
instance:Add (Qt R f):=⟨Quotient.lift₂ (fun a b=>qm R f (a + b)) fun a b c d h1 h2=>by
 refine (zke R).2 ?_
 have h:=R.dv_add (show Dv f (a + -c) from h1) (show Dv f (b + -d) from h2)
 have e:a + -c + (b + -d)=a + b + -(c + d):=by
  rw [R.neg_add']; simp only [R.add_assoc]; rw [R.add_left_comm (-c)]
 rwa [e] at h⟩
instance:Mul (Qt R f):=⟨Quotient.lift₂ (fun a b=>qm R f (a*b)) fun a b c d h1 h2=>by
 refine (zke R).2 ?_
 have h:=R.dv_add (R.dv_mul' (show Dv f (a + -c) from h1) b) (R.dv_mul (show Dv f (b + -d) from h2) c)
 have e:(a + -c)*b + c*(b + -d)=a*b + -(c*d):=by
  rw [R.add_mul,R.mul_add,R.mul_neg,R.mul_comm (-c),R.mul_neg,R.mul_comm b c,R.add_assoc,← R.add_assoc (-(c*b)),R.neg_add,R.zero_add]
 rwa [e] at h⟩
instance:Neg (Qt R f):=⟨Quotient.lift (fun a=>qm R f (-a)) fun a c h1=>by
 refine (zke R).2 ?_
 have h:=R.dv_neg (show Dv f (a + -c) from h1)
 rwa [R.neg_add'] at h⟩
instance:Zero (Qt R f):=⟨qm R f 0⟩
instance:One (Qt R f):=⟨qm R f 1⟩
theorem z1b (a b:K):qm R f (a + b)=qm R f a + qm R f b:=rfl
theorem z11 (a b:K):qm R f (a*b)=qm R f a*qm R f b:=rfl
theorem z3z:qm R f 0=0:=rfl
theorem z5n:qm R f 1=1:=rfl
theorem z4f (a:K) (n:Nat):qm R f (pw a n)=pw (qm R f a) n:=by
 induction n with
 | zero=>rfl
 | succ n ih=>simp only [pw,z11,ih]
theorem z4w (a:K) (n:Nat):qm R f (mF n a)=mF n (qm R f a):=by
 induction n with
 | zero=>rfl
 | succ n ih=>simp only [mF,z1b,ih]
theorem mW {P:Qt R f→Prop} (h:∀ a,P (qm R f a)):∀ x,P x:=fun x=>Quotient.ind h x
theorem z38:IsRing (Qt R f) where
 add_comm:=mW R f fun a=>mW R f fun b=>congrArg (qm R f) (R.add_comm a b)
 add_assoc:=mW R f fun a=>mW R f fun b=>mW R f fun c=>congrArg (qm R f) (R.add_assoc a b c)
 add_zero:=mW R f fun a=>congrArg (qm R f) (R.add_zero a)
 add_neg:=mW R f fun a=>congrArg (qm R f) (R.add_neg a)
 mul_comm:=mW R f fun a=>mW R f fun b=>congrArg (qm R f) (R.mul_comm a b)
 mul_assoc:=mW R f fun a=>mW R f fun b=>mW R f fun c=>congrArg (qm R f) (R.mul_assoc a b c)
 mul_one:=mW R f fun a=>congrArg (qm R f) (R.mul_one a)
 mul_add:=mW R f fun a=>mW R f fun b=>mW R f fun c=>congrArg (qm R f) (R.mul_add a b c)
end
end Go.Abs
/- Identities of commutative rings, decided: products are written out, and what stands against each other is taken away. -/
namespace Go.Abs
inductive RE where
 | v (n:Nat) | z | o | add (a b:RE) | mul (a b:RE) | neg (a:RE)
section
variable {K:Type} [Add K] [Mul K] [Neg K] [Zero K] [One K]
def rv (ρ:List K):RE→K
 | .v n=>ρ.getD n 0
 | .z=>0
 | .o=>1
 | .add a b=>rv ρ a + rv ρ b
 | .mul a b=>rv ρ a*rv ρ b
 | .neg a=>-rv ρ a
end
def z3y (i:Nat):List Nat→List Nat
 | []=>[i]
 | j :: l=>if i≤j then i :: j :: l else j :: z3y i l
def mrg:List Nat→List Nat→List Nat
 | [],m=>m
 | i :: l,m=>z3y i (mrg l m)
def z0l (s:Bool×List Nat):List (Bool×List Nat)→List (Bool×List Nat)
 | []=>[]
 | t :: l=>(s.1 == t.1,mrg s.2 t.2) :: z0l s l
def zud:List (Bool×List Nat)→List (Bool×List Nat)→List (Bool×List Nat)
 | [],_=>[]
 | s :: l,m=>z0l s m ++ zud l m
def z0o:List (Bool×List Nat)→List (Bool×List Nat)
 | []=>[]
 | t :: l=>(!t.1,t.2) :: z0o l
def rx:RE→List (Bool×List Nat)
 | .v n=>[(true,[n])]
 | .z=>[]
 | .o=>[(true,[])]
 | .add a b=>rx a ++ rx b
 | .mul a b=>zud (rx a) (rx b)
 | .neg a=>z0o (rx a)
def same:List Nat→List Nat→Bool
 | [],[]=>true
 | i :: l,j :: m=>Nat.beq i j && same l m
 | _,_=>false
def rmv (t:Bool×List Nat):List (Bool×List Nat)→Option (List (Bool×List Nat))
 | []=>none
 | s :: l=>if (s.1 == t.1) && same s.2 t.2 then some l else match rmv t l with
  | some m=>some (s :: m)
  | none=>none
def cz:Nat→List (Bool×List Nat)→Bool
 | _,[]=>true
 | 0,_ :: _=>false
 | n + 1,t :: l=>match rmv (!t.1,t.2) l with
  | some m=>cz n m
  | none=>false
section
variable {K:Type} [Add K] [Mul K] [Neg K] [Zero K] [One K] (R:IsRing K) (ρ:List K)
def rvm:List Nat→K
 | []=>1
 | i :: l=>ρ.getD i 0*rvm l
def rvt (t:Bool×List Nat):K:=if t.1 then rvm ρ t.2 else -rvm ρ t.2
def rvs:List (Bool×List Nat)→K
 | []=>0
 | t :: l=>rvt ρ t + rvs l
include R
theorem zvr (i:Nat):∀ l,rvm ρ (z3y i l)=ρ.getD i 0*rvm ρ l
 | []=>rfl
 | j :: l=>by
  simp only [z3y]
  split
  ·rfl
  ·simp only [rvm]
   rw [zvr i l,R.mul_left_comm]
theorem zyj:∀ l m,rvm ρ (mrg l m)=rvm ρ l*rvm ρ m
 | [],m=>by simp only [mrg,rvm]; rw [R.one_mul]
 | i :: l,m=>by
  simp only [mrg,rvm]
  rw [zvr R,zyj l m,R.mul_assoc]
theorem zhu (a b:K):-a*b=-(a*b):=by rw [R.mul_comm,R.mul_neg,R.mul_comm]
theorem z2v (s t:Bool×List Nat):rvt ρ (s.1 == t.1,mrg s.2 t.2)=rvt ρ s*rvt ρ t:=by
 obtain ⟨a,l⟩:=s
 obtain ⟨b,m⟩:=t
 unfold rvt
 simp only
 cases a <;> cases b <;> simp only [beq_self_eq_true,if_true,Bool.false_eq_true,if_false,reduceCtorEq,beq_iff_eq,zyj R]
 ·rw [zhu R,R.mul_neg,R.neg_neg]
 ·rw [zhu R]
 ·rw [R.mul_neg]
theorem zs4:∀ l m,rvs ρ (l ++ m)=rvs ρ l + rvs ρ m
 | [],m=>by simp only [List.nil_append,rvs]; rw [R.zero_add]
 | t :: l,m=>by simp only [List.cons_append,rvs]; rw [zs4 l m,R.add_assoc]
theorem zum (s:Bool×List Nat):∀ l,rvs ρ (z0l s l)=rvt ρ s*rvs ρ l
 | []=>by simp only [z0l,rvs]; rw [R.mul_zero]
 | t :: l=>by
  simp only [z0l,rvs]
  rw [zum s l,z2v R,R.mul_add]
theorem zsa:∀ l m,rvs ρ (zud l m)=rvs ρ l*rvs ρ m
 | [],m=>by simp only [zud,rvs]; rw [R.zero_mul]
 | s :: l,m=>by
  simp only [zud,rvs]
  rw [zs4 R,zum R,zsa l m,R.add_mul]
theorem zxx:∀ l,rvs ρ (z0o l)=-rvs ρ l
 | []=>by simp only [z0o,rvs]; rw [R.neg_zero]
 | t :: l=>by
  simp only [z0o,rvs]
  rw [zxx l,R.neg_add']
  congr 1
  obtain ⟨a,m⟩:=t
  unfold rvt
  cases a
  ·simp only [Bool.not_false,if_true,Bool.false_eq_true,if_false]; rw [R.neg_neg]
  ·simp only [Bool.not_true,if_true,Bool.false_eq_true,if_false]
theorem zoe:∀ e,rvs ρ (rx e)=rv ρ e
 | .v n=>by simp only [rx,rvs,rvt,rvm,rv,if_true]; rw [R.add_zero,R.mul_one]
 | .z=>rfl
 | .o=>by simp only [rx,rvs,rvt,rvm,rv,if_true]; rw [R.add_zero]
 | .add a b=>by simp only [rx,rv]; rw [zs4 R,zoe a,zoe b]
 | .mul a b=>by simp only [rx,rv]; rw [zsa R,zoe a,zoe b]
 | .neg a=>by simp only [rx,rv]; rw [zxx R,zoe a]
omit [Add K] [Mul K] [Neg K] [Zero K] [One K] R in
theorem zyh:∀ l m,same l m=true→l=m
 | [],[],_=>rfl
 | [],_ :: _,h=>by simp [same] at h
 | _ :: _,[],h=>by simp [same] at h
 | i :: l,j :: m,h=>by
  simp only [same,Bool.and_eq_true] at h
  rw [Nat.eq_of_beq_eq_true h.1,zyh l m h.2]
theorem zx0 (t:Bool×List Nat):∀ l m,rmv t l=some m→rvs ρ l=rvt ρ t + rvs ρ m
 | [],m,h=>by simp [rmv] at h
 | s :: l,m,h=>by
  simp only [rmv] at h
  split at h
  ·rename_i hs
   simp only [Bool.and_eq_true,beq_iff_eq] at hs
   have e:s=t:=Prod.ext hs.1 (zyh _ _ hs.2)
   cases h
   rw [e]; rfl
  ·split at h
   ·rename_i m' hm
    cases h
    simp only [rvs]
    rw [zx0 t l m' hm,R.add_left_comm]
   ·cases h
theorem z0v:∀ n l,cz n l=true→rvs ρ l=0
 | _,[],_=>rfl
 | 0,_ :: _,h=>by simp [cz] at h
 | n + 1,t :: l,h=>by
  simp only [cz] at h
  split at h
  ·rename_i m hm
   simp only [rvs]
   rw [zx0 R ρ _ l m hm,z0v n m h,R.add_zero]
   obtain ⟨a,w⟩:=t
   unfold rvt
   cases a
   ·simp only [Bool.not_false,if_true,Bool.false_eq_true,if_false]; rw [R.neg_add]
   ·simp only [Bool.not_true,if_true,Bool.false_eq_true,if_false]; rw [R.add_neg]
  ·cases h
theorem xB (a b:RE) (h:cz 1000 (rx (.add a (.neg b)))=true):rv ρ a=rv ρ b:=by
 have h1:=z0v R ρ _ _ h
 rw [zoe R] at h1
 exact R.sub_zero h1
end
end Go.Abs
/- Quadratic elements over a ring, ideals and their products and classes. -/
namespace Go.Abs
section
variable {K:Type} [Add K] [Mul K] [Neg K] [Zero K] [One K]
theorem zv7 (R:IsRing K) (D u v x y:K):u*x + D*(v*y)=x*u + D*(y*v):=xB R [D,u,v,x,y] (.add (.mul (.v 1) (.v 3)) (.mul (.v 0) (.mul (.v 2) (.v 4)))) (.add (.mul (.v 3) (.v 1)) (.mul (.v 0) (.mul (.v 4) (.v 2)))) rfl
theorem zxc (R:IsRing K) (D u v x y:K):u*y + v*x=x*v + y*u:=xB R [D,u,v,x,y] (.add (.mul (.v 1) (.v 4)) (.mul (.v 2) (.v 3))) (.add (.mul (.v 3) (.v 2)) (.mul (.v 4) (.v 1))) rfl
theorem zvk (R:IsRing K) (D a b c d e f:K):(a*c + D*(b*d))*e + D*((a*d + b*c)*f)=a*(c*e + D*(d*f)) + D*(b*(c*f + d*e)):=xB R [D,a,b,c,d,e,f] (.add (.mul (.add (.mul (.v 1) (.v 3)) (.mul (.v 0) (.mul (.v 2) (.v 4)))) (.v 5)) (.mul (.v 0) (.mul (.add (.mul (.v 1) (.v 4)) (.mul (.v 2) (.v 3))) (.v 6)))) (.add (.mul (.v 1) (.add (.mul (.v 3) (.v 5)) (.mul (.v 0) (.mul (.v 4) (.v 6))))) (.mul (.v 0) (.mul (.v 2) (.add (.mul (.v 3) (.v 6)) (.mul (.v 4) (.v 5)))))) rfl
theorem zvf (R:IsRing K) (D a b c d e f:K):(a*c + D*(b*d))*f + (a*d + b*c)*e=a*(c*f + d*e) + b*(c*e + D*(d*f)):=xB R [D,a,b,c,d,e,f] (.add (.mul (.add (.mul (.v 1) (.v 3)) (.mul (.v 0) (.mul (.v 2) (.v 4)))) (.v 6)) (.mul (.add (.mul (.v 1) (.v 4)) (.mul (.v 2) (.v 3))) (.v 5))) (.add (.mul (.v 1) (.add (.mul (.v 3) (.v 6)) (.mul (.v 4) (.v 5)))) (.mul (.v 2) (.add (.mul (.v 3) (.v 5)) (.mul (.v 0) (.mul (.v 4) (.v 6)))))) rfl
theorem zy7 (R:IsRing K) (D a b c d e f:K):a*(c + e) + D*(b*(d + f))=a*c + D*(b*d) + (a*e + D*(b*f)):=xB R [D,a,b,c,d,e,f] (.add (.mul (.v 1) (.add (.v 3) (.v 5))) (.mul (.v 0) (.mul (.v 2) (.add (.v 4) (.v 6))))) (.add (.add (.mul (.v 1) (.v 3)) (.mul (.v 0) (.mul (.v 2) (.v 4)))) (.add (.mul (.v 1) (.v 5)) (.mul (.v 0) (.mul (.v 2) (.v 6))))) rfl
theorem zy5 (R:IsRing K) (D a b c d e f:K):a*(d + f) + b*(c + e)=a*d + b*c + (a*f + b*e):=xB R [D,a,b,c,d,e,f] (.add (.mul (.v 1) (.add (.v 4) (.v 6))) (.mul (.v 2) (.add (.v 3) (.v 5)))) (.add (.add (.mul (.v 1) (.v 4)) (.mul (.v 2) (.v 3))) (.add (.mul (.v 1) (.v 6)) (.mul (.v 2) (.v 5)))) rfl
theorem z1w (R:IsRing K) (D a b:K):a*1 + D*(b*0)=a:=xB R [D,a,b] (.add (.mul (.v 1) .o) (.mul (.v 0) (.mul (.v 2) .z))) (.v 1) rfl
theorem z1a (R:IsRing K) (D a b:K):a*0 + b*1=b:=xB R [D,a,b] (.add (.mul (.v 1) .z) (.mul (.v 2) .o)) (.v 2) rfl
/-- u + v y with y y = D. -/
structure Qd (D:K) where
 u:K
 v:K
variable {D:K}
omit [Add K] [Mul K] [Neg K] [Zero K] [One K] in
theorem nH:∀ {x y:Qd D},x.u=y.u→x.v=y.v→x=y
 | ⟨_,_⟩,⟨_,_⟩,rfl,rfl=>rfl
instance:Add (Qd D):=⟨fun x y=>⟨x.u + y.u,x.v + y.v⟩⟩
instance:Mul (Qd D):=⟨fun x y=>⟨x.u*y.u + D*(x.v*y.v),x.u*y.v + x.v*y.u⟩⟩
instance:Neg (Qd D):=⟨fun x=>⟨-x.u,-x.v⟩⟩
instance:Zero (Qd D):=⟨⟨0,0⟩⟩
instance:One (Qd D):=⟨⟨1,0⟩⟩
omit [Neg K] [Zero K] [One K] in
theorem z6e (x y:Qd D):(x*y).u=x.u*y.u + D*(x.v*y.v):=rfl
theorem zgm (R:IsRing K):IsRing (Qd D) where
 add_comm x y:=nH (R.add_comm _ _) (R.add_comm _ _)
 add_assoc x y z:=nH (R.add_assoc _ _ _) (R.add_assoc _ _ _)
 add_zero x:=nH (R.add_zero _) (R.add_zero _)
 add_neg x:=nH (R.add_neg _) (R.add_neg _)
 mul_comm x y:=nH (zv7 R D x.u x.v y.u y.v) (zxc R D x.u x.v y.u y.v)
 mul_assoc x y z:=nH (zvk R D x.u x.v y.u y.v z.u z.v) (zvf R D x.u x.v y.u y.v z.u z.v)
 mul_one x:=nH (z1w R D x.u x.v) (z1a R D x.u x.v)
 mul_add x y z:=nH (zy7 R D x.u x.v y.u y.v z.u z.v) (zy5 R D x.u x.v y.u y.v z.u z.v)
end

/-! Ideals. -/
section
variable {K:Type} [Add K] [Mul K] [Neg K] [Zero K] [One K] (R:IsRing K)
structure Idl (S:K→Prop):Prop where
 zero:S 0
 add:∀ {x y},S x→S y→S (x + y)
 mul:∀ (r) {x},S x→S (r*x)
inductive Pr (S T:K→Prop):K→Prop
 | zero:Pr S T 0
 | cons {s t x:K}:S s→T t→Pr S T x→Pr S T (s*t + x)
def Sc (a:K) (S:K→Prop) (x:K):Prop:=∃ s,S s∧x=a*s
variable {S T U:K→Prop}
omit [Add K] [Mul K] [Neg K] [Zero K] [One K] in
theorem zai {S T:K→Prop} (h1:∀ x,S x→T x) (h2:∀ x,T x→S x):S=T:=funext fun x=>propext ⟨h1 x,h2 x⟩
omit [Neg K] [One K] in
theorem Pr.mono {S' T':K→Prop} (h1:∀ x,S x→S' x) (h2:∀ x,T x→T' x) {x:K} (h:Pr S T x):Pr S' T' x:=by
 induction h with
 | zero=>exact .zero
 | cons hs ht _ ih=>exact .cons (h1 _ hs) (h2 _ ht) ih
include R
theorem Pr.add' {x y:K} (h1:Pr S T x) (h2:Pr S T y):Pr S T (x + y):=by
 induction h1 with
 | zero=>rw [R.zero_add]; exact h2
 | cons hs ht _ ih=>rw [R.add_assoc]; exact .cons hs ht ih
theorem Pr.one' {s t:K} (hs:S s) (ht:T t):Pr S T (s*t):=by
 have:=Pr.cons (S:=S) (T:=T) hs ht .zero
 rwa [R.add_zero] at this
theorem Pr.idl (hS:Idl S):Idl (Pr S T) where
 zero:=.zero
 add h1 h2:=Pr.add' R h1 h2
 mul r {x} h:=by
  induction h with
  | zero=>rw [R.mul_zero]; exact .zero
  | cons hs ht _ ih =>
   rw [R.mul_add,← R.mul_assoc]
   exact .cons (hS.mul r hs) ht ih
theorem Pr.comm {x:K} (h:Pr S T x):Pr T S x:=by
 induction h with
 | zero=>exact .zero
 | cons hs ht _ ih=>rw [R.mul_comm]; exact .cons ht hs ih
theorem zcv (S T:K→Prop):Pr S T=Pr T S:=zai (fun _ h=>Pr.comm R h) (fun _ h=>Pr.comm R h)
theorem znj {x:K} (h:Pr (Pr S T) U x):Pr S (Pr T U) x:=by
 induction h with
 | zero=>exact .zero
 | cons hp hu _ ih =>
  refine Pr.add' R ?_ ih
  clear ih
  induction hp with
  | zero=>rw [R.zero_mul]; exact .zero
  | cons hs ht _ ih2 =>
   rw [R.add_mul,R.mul_assoc]
   exact .cons hs (Pr.one' R ht hu) ih2
theorem zia (S T U:K→Prop):Pr (Pr S T) U=Pr S (Pr T U):=zai (fun _ h=>znj R h) (fun x h=>by
 have h1:Pr (Pr T U) S x:=Pr.comm R h
 have h2:Pr T (Pr U S) x:=znj R h1
 have h3:Pr (Pr U S) T x:=Pr.comm R h2
 have h4:Pr U (Pr S T) x:=znj R h3
 exact Pr.comm R h4)
theorem zli (a:K) (S T:K→Prop):Pr (Sc a S) T=Sc a (Pr S T):=zai (fun x h=>by
 induction h with
 | zero=>exact ⟨0,.zero,(R.mul_zero a).symm⟩
 | cons hs ht _ ih =>
  obtain ⟨s,h1,rfl⟩:=hs
  obtain ⟨y,h2,rfl⟩:=ih
  exact ⟨_,.cons h1 ht h2,by rw [R.mul_add,R.mul_assoc]⟩) (fun x h=>by
 obtain ⟨y,h,rfl⟩:=h
 induction h with
 | zero=>rw [R.mul_zero]; exact .zero
 | cons hs ht _ ih =>
  rw [R.mul_add,← R.mul_assoc]
  exact .cons ⟨_,hs,rfl⟩ ht ih)
theorem zne (a b:K) (S:K→Prop):Sc a (Sc b S)=Sc (a*b) S:=zai (fun x h=>by
 obtain ⟨y,⟨z,h1,rfl⟩,rfl⟩:=h
 exact ⟨z,h1,(R.mul_assoc _ _ _).symm⟩) (fun x h=>by
 obtain ⟨z,h1,rfl⟩:=h
 exact ⟨_,⟨z,h1,rfl⟩,R.mul_assoc _ _ _⟩)
theorem zv6 (S:K→Prop):Sc 1 S=S:=zai (fun x h=>by
 obtain ⟨y,h1,rfl⟩:=h
 rw [R.one_mul]; exact h1) (fun x h=>⟨x,h,(R.one_mul x).symm⟩)
/-- All of the ring. -/
theorem zqz (hS:Idl S):Pr S (fun _=>True)=S:=zai (fun x h=>by
 induction h with
 | zero=>exact hS.zero
 | cons hs _ _ ih=>exact hS.add (by rw [R.mul_comm]; exact hS.mul _ hs) ih) (fun x h=>by
 have:=Pr.one' R (T:=fun _=>True) h (t:=1) trivial
 rwa [R.mul_one] at this)
/-! Classes. -/
omit R in
def Cl (S T:K→Prop):Prop:=∃ a b:K,a ≠ 0∧b ≠ 0∧Sc a S=Sc b T
variable (hd:∀ a b:K,a*b=0→a=0∨b=0)
omit [Add K] [Neg K] R in
theorem Cl.refl (h1:(1:K) ≠ 0) (S:K→Prop):Cl S S:=⟨1,1,h1,h1,rfl⟩
omit [Add K] [Neg K] [One K] R in
theorem Cl.symm (h:Cl S T):Cl T S:=by
 obtain ⟨a,b,ha,hb,e⟩:=h
 exact ⟨b,a,hb,ha,e.symm⟩
include hd
theorem Cl.trans (h1:Cl S T) (h2:Cl T U):Cl S U:=by
 obtain ⟨a,b,ha,hb,e⟩:=h1
 obtain ⟨c,d,hc,hd',e'⟩:=h2
 refine ⟨c*a,b*d,fun h=>(hd _ _ h).elim hc ha,fun h=>(hd _ _ h).elim hb hd',?_⟩
 rw [← zne R,e,zne R,R.mul_comm c b,← zne R,e',zne R]
omit hd in
theorem Cl.pr {S':K→Prop} (h:Cl S S') (T:K→Prop):Cl (Pr S T) (Pr S' T):=by
 obtain ⟨a,b,ha,hb,e⟩:=h
 exact ⟨a,b,ha,hb,by rw [← zli R,← zli R,e]⟩
/-- A factor is taken away. -/
theorem zrs {a:K} (ha:a ≠ 0) (h:Sc a S=Sc a T):S=T:=by
 have cn:∀ x y:K,a*x=a*y→x=y:=fun x y e=>by
  have:a*(x + -y)=0:=by rw [R.mul_add,R.mul_neg,e,R.add_neg]
  exact R.sub_zero ((hd _ _ this).resolve_left ha)
 refine zai (fun x hx=>?_) (fun x hx=>?_)
 ·obtain ⟨y,h1,h2⟩:Sc a T (a*x):=by rw [← h]; exact ⟨x,hx,rfl⟩
  rw [cn x y h2]; exact h1
 ·obtain ⟨y,h1,h2⟩:Sc a S (a*x):=by rw [h]; exact ⟨x,hx,rfl⟩
  rw [cn x y h2]; exact h1
end
end Go.Abs
/- The composition of forms, as a product of ideals. -/
namespace Go.Abs
section
variable {K:Type} [Add K] [Mul K] [Neg K] [Zero K] [One K]
theorem z2n (R:IsRing K) (a b v w x y:K):b*v + a*w + (b*x + a*y)=b*(v + x) + a*(w + y):=xB R [a,b,v,w,x,y] (.add (.add (.mul (.v 1) (.v 2)) (.mul (.v 0) (.v 3))) (.add (.mul (.v 1) (.v 4)) (.mul (.v 0) (.v 5)))) (.add (.mul (.v 1) (.add (.v 2) (.v 4))) (.mul (.v 0) (.add (.v 3) (.v 5)))) rfl
theorem z5e (R:IsRing K) (a b c r s v w:K):r*(b*v + a*w) + (b*b + -(a*c))*(s*v)=b*(r*v + s*(b*v + a*w)) + a*(r*w + -(b*(s*w)) + -(c*(s*v))):=xB R [a,b,c,r,s,v,w] (.add (.mul (.v 3) (.add (.mul (.v 1) (.v 5)) (.mul (.v 0) (.v 6)))) (.mul (.add (.mul (.v 1) (.v 1)) (.neg (.mul (.v 0) (.v 2)))) (.mul (.v 4) (.v 5)))) (.add (.mul (.v 1) (.add (.mul (.v 3) (.v 5)) (.mul (.v 4) (.add (.mul (.v 1) (.v 5)) (.mul (.v 0) (.v 6)))))) (.mul (.v 0) (.add (.add (.mul (.v 3) (.v 6)) (.neg (.mul (.v 1) (.mul (.v 4) (.v 6))))) (.neg (.mul (.v 2) (.mul (.v 4) (.v 5))))))) rfl
theorem zqv (R:IsRing K) (D x u v:K):x*u + D*(0*v)=x*u:=xB R [D,x,u,v] (.add (.mul (.v 1) (.v 2)) (.mul (.v 0) (.mul .z (.v 3)))) (.mul (.v 1) (.v 2)) rfl
theorem z1x (R:IsRing K) (x u v:K):x*v + 0*u=x*v:=xB R [x,u,v] (.add (.mul (.v 0) (.v 2)) (.mul .z (.v 1))) (.mul (.v 0) (.v 2)) rfl
theorem z7k (R:IsRing K) (D a c:K):a*c + D*(0*1)=a*c:=xB R [D,a,c] (.add (.mul (.v 1) (.v 2)) (.mul (.v 0) (.mul .z .o))) (.mul (.v 1) (.v 2)) rfl
theorem z7e (R:IsRing K) (a c:K):a*1 + 0*c=a:=xB R [a,c] (.add (.mul (.v 0) .o) (.mul .z (.v 1))) (.v 0) rfl
theorem z7q (R:IsRing K) (D a b:K):b*a + D*(1*0)=a*b:=xB R [D,a,b] (.add (.mul (.v 2) (.v 1)) (.mul (.v 0) (.mul .o .z))) (.mul (.v 1) (.v 2)) rfl
theorem z7g (R:IsRing K) (a b:K):b*0 + 1*a=a:=xB R [a,b] (.add (.mul (.v 1) .z) (.mul .o (.v 0))) (.v 0) rfl
theorem z7z (R:IsRing K) (b c:K):b*1 + 1*c=b + c:=xB R [b,c] (.add (.mul (.v 0) .o) (.mul .o (.v 1))) (.add (.v 0) (.v 1)) rfl
theorem z7a (R:IsRing K) (D a b:K):a*b + D*(0*0)=a*b:=xB R [D,a,b] (.add (.mul (.v 1) (.v 2)) (.mul (.v 0) (.mul .z .z))) (.mul (.v 1) (.v 2)) rfl
theorem z7f (R:IsRing K) (a b:K):a*0 + 0*b=0:=xB R [a,b] (.add (.mul (.v 0) .z) (.mul .z (.v 1))) .z rfl
theorem z54 (R:IsRing K) (d p q g b c m n r s t v w x y:K):(b*v + d*p*x)*(c*w + d*q*y) + (b*b + -(d*p*m))*(v*w)=d*((r*p*c + s*q*b + t*(b*g + -(p*m)))*(g*(v*w) + p*(x*w) + q*(y*v)) + p*q*((r*(b + -c) + t*m)*(v*y) + (s*(c + -b) + t*n)*(w*x) + d*(x*y) + -((s*m + r*n)*(v*w)))) + (d*((1 + -(r*p + s*q + t*g))*((b*g + -(p*m))*(v*w) + b*q*(v*y) + c*p*(w*x)) + (g*(c + -b) + -(q*n + -(p*m)))*(t*p*(w*x) + -(r*p*(v*w)))) + b*(b + c + -(d*g))*(v*w)):=xB R [d,p,q,g,b,c,m,n,r,s,t,v,w,x,y] (.add (.mul (.add (.mul (.v 4) (.v 11)) (.mul (.mul (.v 0) (.v 1)) (.v 13))) (.add (.mul (.v 5) (.v 12)) (.mul (.mul (.v 0) (.v 2)) (.v 14)))) (.mul (.add (.mul (.v 4) (.v 4)) (.neg (.mul (.mul (.v 0) (.v 1)) (.v 6)))) (.mul (.v 11) (.v 12)))) (.add (.mul (.v 0) (.add (.mul (.add (.add (.mul (.mul (.v 8) (.v 1)) (.v 5)) (.mul (.mul (.v 9) (.v 2)) (.v 4))) (.mul (.v 10) (.add (.mul (.v 4) (.v 3)) (.neg (.mul (.v 1) (.v 6)))))) (.add (.add (.mul (.v 3) (.mul (.v 11) (.v 12))) (.mul (.v 1) (.mul (.v 13) (.v 12)))) (.mul (.v 2) (.mul (.v 14) (.v 11))))) (.mul (.mul (.v 1) (.v 2)) (.add (.add (.add (.mul (.add (.mul (.v 8) (.add (.v 4) (.neg (.v 5)))) (.mul (.v 10) (.v 6))) (.mul (.v 11) (.v 14))) (.mul (.add (.mul (.v 9) (.add (.v 5) (.neg (.v 4)))) (.mul (.v 10) (.v 7))) (.mul (.v 12) (.v 13)))) (.mul (.v 0) (.mul (.v 13) (.v 14)))) (.neg (.mul (.add (.mul (.v 9) (.v 6)) (.mul (.v 8) (.v 7))) (.mul (.v 11) (.v 12)))))))) (.add (.mul (.v 0) (.add (.mul (.add .o (.neg (.add (.add (.mul (.v 8) (.v 1)) (.mul (.v 9) (.v 2))) (.mul (.v 10) (.v 3))))) (.add (.add (.mul (.add (.mul (.v 4) (.v 3)) (.neg (.mul (.v 1) (.v 6)))) (.mul (.v 11) (.v 12))) (.mul (.mul (.v 4) (.v 2)) (.mul (.v 11) (.v 14)))) (.mul (.mul (.v 5) (.v 1)) (.mul (.v 12) (.v 13))))) (.mul (.add (.mul (.v 3) (.add (.v 5) (.neg (.v 4)))) (.neg (.add (.mul (.v 2) (.v 7)) (.neg (.mul (.v 1) (.v 6)))))) (.add (.mul (.mul (.v 10) (.v 1)) (.mul (.v 12) (.v 13))) (.neg (.mul (.mul (.v 8) (.v 1)) (.mul (.v 11) (.v 12)))))))) (.mul (.mul (.v 4) (.add (.add (.v 4) (.v 5)) (.neg (.mul (.v 0) (.v 3))))) (.mul (.v 11) (.v 12))))) rfl
theorem z6q (R:IsRing K) (d p q g b c m n r s t v w x y:K):(b*v + d*p*x)*w + v*(c*w + d*q*y)=d*(g*(v*w) + p*(x*w) + q*(y*v)) + (b + c + -(d*g))*(v*w):=xB R [d,p,q,g,b,c,m,n,r,s,t,v,w,x,y] (.add (.mul (.add (.mul (.v 4) (.v 11)) (.mul (.mul (.v 0) (.v 1)) (.v 13))) (.v 12)) (.mul (.v 11) (.add (.mul (.v 5) (.v 12)) (.mul (.mul (.v 0) (.v 2)) (.v 14))))) (.add (.mul (.v 0) (.add (.add (.mul (.v 3) (.mul (.v 11) (.v 12))) (.mul (.v 1) (.mul (.v 13) (.v 12)))) (.mul (.v 2) (.mul (.v 14) (.v 11))))) (.mul (.add (.add (.v 4) (.v 5)) (.neg (.mul (.v 0) (.v 3)))) (.mul (.v 11) (.v 12)))) rfl
theorem z6k (R:IsRing K) (d p q g b c m n r s t e f h k v w:K):v*(r*(d*p*c) + s*(d*q*b) + t*(b*c + (b*b + -(d*p*m)))) + w*(e*(d*p*(d*q)) + (f*(q*(d*p*c) + -p*(d*q*b)) + (h*(g*(d*q*b) + -q*(b*c + (b*b + -(d*p*m)))) + k*(g*(d*p*c) + -p*(b*c + (b*b + -(d*p*m)))))))=d*((r*p*c + s*q*b + t*(b*g + -(p*m)))*v + p*q*w) + (v*(t*b*(b + c + -(d*g))) + w*(k*p*d*(g*(c + -b) + -(q*n + -(p*m))) + -(d*p*q*(1 + -(e*d + f*(c + -b) + h*m + k*n)) + h*q*b*(b + c + -(d*g)) + k*p*b*(b + c + -(d*g))))):=xB R [d,p,q,g,b,c,m,n,r,s,t,e,f,h,k,v,w] (.add (.mul (.v 15) (.add (.add (.mul (.v 8) (.mul (.mul (.v 0) (.v 1)) (.v 5))) (.mul (.v 9) (.mul (.mul (.v 0) (.v 2)) (.v 4)))) (.mul (.v 10) (.add (.mul (.v 4) (.v 5)) (.add (.mul (.v 4) (.v 4)) (.neg (.mul (.mul (.v 0) (.v 1)) (.v 6)))))))) (.mul (.v 16) (.add (.mul (.v 11) (.mul (.mul (.v 0) (.v 1)) (.mul (.v 0) (.v 2)))) (.add (.mul (.v 12) (.add (.mul (.v 2) (.mul (.mul (.v 0) (.v 1)) (.v 5))) (.mul (.neg (.v 1)) (.mul (.mul (.v 0) (.v 2)) (.v 4))))) (.add (.mul (.v 13) (.add (.mul (.v 3) (.mul (.mul (.v 0) (.v 2)) (.v 4))) (.mul (.neg (.v 2)) (.add (.mul (.v 4) (.v 5)) (.add (.mul (.v 4) (.v 4)) (.neg (.mul (.mul (.v 0) (.v 1)) (.v 6)))))))) (.mul (.v 14) (.add (.mul (.v 3) (.mul (.mul (.v 0) (.v 1)) (.v 5))) (.mul (.neg (.v 1)) (.add (.mul (.v 4) (.v 5)) (.add (.mul (.v 4) (.v 4)) (.neg (.mul (.mul (.v 0) (.v 1)) (.v 6))))))))))))) (.add (.mul (.v 0) (.add (.mul (.add (.add (.mul (.mul (.v 8) (.v 1)) (.v 5)) (.mul (.mul (.v 9) (.v 2)) (.v 4))) (.mul (.v 10) (.add (.mul (.v 4) (.v 3)) (.neg (.mul (.v 1) (.v 6)))))) (.v 15)) (.mul (.mul (.v 1) (.v 2)) (.v 16)))) (.add (.mul (.v 15) (.mul (.mul (.v 10) (.v 4)) (.add (.add (.v 4) (.v 5)) (.neg (.mul (.v 0) (.v 3)))))) (.mul (.v 16) (.add (.mul (.mul (.mul (.v 14) (.v 1)) (.v 0)) (.add (.mul (.v 3) (.add (.v 5) (.neg (.v 4)))) (.neg (.add (.mul (.v 2) (.v 7)) (.neg (.mul (.v 1) (.v 6))))))) (.neg (.add (.add (.mul (.mul (.mul (.v 0) (.v 1)) (.v 2)) (.add .o (.neg (.add (.add (.add (.mul (.v 11) (.v 0)) (.mul (.v 12) (.add (.v 5) (.neg (.v 4))))) (.mul (.v 13) (.v 6))) (.mul (.v 14) (.v 7)))))) (.mul (.mul (.mul (.v 13) (.v 2)) (.v 4)) (.add (.add (.v 4) (.v 5)) (.neg (.mul (.v 0) (.v 3)))))) (.mul (.mul (.mul (.v 14) (.v 1)) (.v 4)) (.add (.add (.v 4) (.v 5)) (.neg (.mul (.v 0) (.v 3))))))))))) rfl
theorem z6x (R:IsRing K) (d p q g b c m n r s t e f h k v w:K):v*(r*(d*p) + s*(d*q) + t*(b + c)) + w*(e*0 + (f*(q*(d*p) + -p*(d*q)) + (h*(g*(d*q) + -q*(b + c)) + k*(g*(d*p) + -p*(b + c)))))=d*v + (v*(t*(b + c + -(d*g)) + -(d*(1 + -(r*p + s*q + t*g)))) + -(w*(h*q*(b + c + -(d*g)) + k*p*(b + c + -(d*g))))):=xB R [d,p,q,g,b,c,m,n,r,s,t,e,f,h,k,v,w] (.add (.mul (.v 15) (.add (.add (.mul (.v 8) (.mul (.v 0) (.v 1))) (.mul (.v 9) (.mul (.v 0) (.v 2)))) (.mul (.v 10) (.add (.v 4) (.v 5))))) (.mul (.v 16) (.add (.mul (.v 11) .z) (.add (.mul (.v 12) (.add (.mul (.v 2) (.mul (.v 0) (.v 1))) (.mul (.neg (.v 1)) (.mul (.v 0) (.v 2))))) (.add (.mul (.v 13) (.add (.mul (.v 3) (.mul (.v 0) (.v 2))) (.mul (.neg (.v 2)) (.add (.v 4) (.v 5))))) (.mul (.v 14) (.add (.mul (.v 3) (.mul (.v 0) (.v 1))) (.mul (.neg (.v 1)) (.add (.v 4) (.v 5)))))))))) (.add (.mul (.v 0) (.v 15)) (.add (.mul (.v 15) (.add (.mul (.v 10) (.add (.add (.v 4) (.v 5)) (.neg (.mul (.v 0) (.v 3))))) (.neg (.mul (.v 0) (.add .o (.neg (.add (.add (.mul (.v 8) (.v 1)) (.mul (.v 9) (.v 2))) (.mul (.v 10) (.v 3))))))))) (.neg (.mul (.v 16) (.add (.mul (.mul (.v 13) (.v 2)) (.add (.add (.v 4) (.v 5)) (.neg (.mul (.v 0) (.v 3))))) (.mul (.mul (.v 14) (.v 1)) (.add (.add (.v 4) (.v 5)) (.neg (.mul (.v 0) (.v 3)))))))))) rfl
/-- The ideal of a form: what is b times its second part, modulo a. -/
def FI (D a b:K) (x:Qd D):Prop:=∃ w,x.u=b*x.v + a*w
variable (R:IsRing K) {D:K}
include R
theorem D_of {a b c:K} (h:b*b + -D=a*c):D=b*b + -(a*c):=by
 rw [← h,R.neg_add',R.neg_neg,← R.add_assoc,R.add_neg,R.zero_add]
theorem zw0 {a b c:K} (h:b*b + -D=a*c):Idl (FI D a b) where
 zero:=⟨0,by show (0:K)=b*0 + a*0; rw [R.mul_zero,R.mul_zero,R.add_zero]⟩
 add:=by
  rintro ⟨u,v⟩ ⟨u',v'⟩ ⟨w,hw⟩ ⟨w',hw'⟩
  refine ⟨w + w',?_⟩
  show u + u'=b*(v + v') + a*(w + w')
  simp only at hw hw'
  rw [hw,hw']
  exact z2n R a b v w v' w'
 mul:=by
  rintro ⟨r,s⟩ ⟨u,v⟩ ⟨w,hw⟩
  refine ⟨r*w + -(b*(s*w)) + -(c*(s*v)),?_⟩
  show r*u + D*(s*v)=b*(r*v + s*u) + a*(r*w + -(b*(s*w)) + -(c*(s*v)))
  simp only at hw
  rw [hw,D_of R h]
  exact z5e R a b c r s v w
theorem z5k {S:Qd D→Prop} (hS:Idl S) (x:K) {u v:K} (h:S ⟨u,v⟩):S ⟨x*u,x*v⟩:=by
 have h1:=hS.mul (⟨x,0⟩:Qd D) h
 have e:(⟨x,0⟩:Qd D)*⟨u,v⟩=⟨x*u,x*v⟩:=nH (zqv R D x u v) (z1x R x u v)
 rwa [e] at h1
omit [Neg K] [One K] R in
theorem zij {S:Qd D→Prop} (hS:Idl S) {u v u' v':K} (h:S ⟨u,v⟩) (h':S ⟨u',v'⟩):S ⟨u + u',v + v'⟩:=hS.add h h'
/-- The product of the ideals of two forms. -/
theorem zx5 {d p q g b c m n r s t e f h k:K} (hZ:b + c=d*g) (h1:b*b + -D=d*p*m) (h2:c*c + -D=d*q*n) (hE:r*p + s*q + t*g=1) (hF:g*(c + -b)=q*n + -(p*m)) (hG:e*d + f*(c + -b) + h*m + k*n=1) :
  Pr (FI D (d*p) b) (FI D (d*q) c)=Sc (⟨d,0⟩:Qd D) (FI D (p*q) (r*p*c + s*q*b + t*(b*g + -(p*m)))):=by
 have zZ:b + c + -(d*g)=0:=by rw [hZ,R.add_neg]
 have zE:1 + -(r*p + s*q + t*g)=0:=by rw [hE,R.add_neg]
 have zF:g*(c + -b) + -(q*n + -(p*m))=0:=by rw [hF,R.add_neg]
 have zG:1 + -(e*d + f*(c + -b) + h*m + k*n)=0:=by rw [hG,R.add_neg]
 have hD:=D_of R h1
 have Q:IsRing (Qd D):=zgm R
 have i1:=zw0 R h1
 have i2:=zw0 R h2
 have iP:Idl (Pr (FI D (d*p) b) (FI D (d*q) c)):=Pr.idl Q i1
 refine zai (fun x hx=>?_) (fun x hx=>?_)
 ·induction hx with
  | zero=>exact ⟨0,⟨0,by show (0:K)=_*0 + _*0; rw [R.mul_zero,R.mul_zero,R.add_zero]⟩,(Q.mul_zero _).symm⟩
  | cons hs ht _ ih =>
   rename_i s' t' _ _
   obtain ⟨z,⟨w0,hw0⟩,hz⟩:=ih
   obtain ⟨u,v⟩:=s'
   obtain ⟨u',w⟩:=t'
   obtain ⟨x',hx'⟩:=hs
   obtain ⟨y,hy⟩:=ht
   simp only at hx' hy
   have eu:=z54 R d p q g b c m n r s t v w x' y
   have ev':=z6q R d p q g b c m n r s t v w x' y
   rw [zE,zF,zZ,R.zero_mul,R.zero_mul,R.add_zero,R.mul_zero,R.mul_zero,R.zero_mul,R.add_zero,R.add_zero] at eu
   rw [zZ,R.zero_mul,R.add_zero] at ev'
   obtain ⟨B,hB⟩:∃ B,r*p*c + s*q*b + t*(b*g + -(p*m))=B:=⟨_,rfl⟩
   obtain ⟨V,hV⟩:∃ V,g*(v*w) + p*(x'*w) + q*(y*v)=V:=⟨_,rfl⟩
   obtain ⟨W,hW⟩:∃ W,(r*(b + -c) + t*m)*(v*y) + (s*(c + -b) + t*n)*(w*x') + d*(x'*y) + -((s*m + r*n)*(v*w))=W:=⟨_,rfl⟩
   rw [hB,hV,hW] at eu
   rw [hV] at ev'
   rw [hB] at hw0 ⊢
   have key:(⟨u,v⟩:Qd D)*⟨u',w⟩=(⟨d,0⟩:Qd D)*⟨B*V + p*q*W,V⟩:=nH (by
    show u*u' + D*(v*w)=d*(B*V + p*q*W) + D*(0*V)
    rw [hx',hy,zqv R D d _ V,← eu]
    exact congrArg ((b*v + d*p*x')*(c*w + d*q*y) + ·*(v*w)) hD) (by
    show u*w + v*u'=d*V + 0*(B*V + p*q*W)
    rw [hx',hy,R.zero_mul,R.add_zero]
    exact ev')
   rw [hz,key,← Q.mul_add]
   refine ⟨_,⟨W + w0,?_⟩,rfl⟩
   show B*V + p*q*W + z.u=B*(V + z.v) + p*q*(W + w0)
   rw [hw0]
   exact z2n R _ _ _ _ _ _
 ·obtain ⟨⟨u,v⟩,⟨w,hw⟩,rfl⟩:=hx
  simp only at hw
  have a1:FI D (d*p) b ⟨d*p,0⟩:=⟨1,by show d*p=b*0 + d*p*1; rw [R.mul_zero,R.mul_one,R.zero_add]⟩
  have y1:FI D (d*p) b ⟨b,1⟩:=⟨0,by show b=b*1 + d*p*0; rw [R.mul_zero,R.mul_one,R.add_zero]⟩
  have a2:FI D (d*q) c ⟨d*q,0⟩:=⟨1,by show d*q=c*0 + d*q*1; rw [R.mul_zero,R.mul_one,R.zero_add]⟩
  have y2:FI D (d*q) c ⟨c,1⟩:=⟨0,by show c=c*1 + d*q*0; rw [R.mul_zero,R.mul_one,R.add_zero]⟩
  have P1:Pr (FI D (d*p) b) (FI D (d*q) c) ⟨d*p*c,d*p⟩:=by
   have h:=Pr.one' Q a1 y2
   rwa [show (⟨d*p,0⟩:Qd D)*⟨c,1⟩=⟨d*p*c,d*p⟩ from nH (z7k R D (d*p) c) (z7e R (d*p) c)] at h
  have P2:Pr (FI D (d*p) b) (FI D (d*q) c) ⟨d*q*b,d*q⟩:=by
   have h:=Pr.one' Q y1 a2
   rwa [show (⟨b,1⟩:Qd D)*⟨d*q,0⟩=⟨d*q*b,d*q⟩ from nH (z7q R D (d*q) b) (z7g R (d*q) b)] at h
  have P3:Pr (FI D (d*p) b) (FI D (d*q) c) ⟨b*c + (b*b + -(d*p*m)),b + c⟩:=by
   have h:=Pr.one' Q y1 y2
   rwa [show (⟨b,1⟩:Qd D)*⟨c,1⟩=⟨b*c + (b*b + -(d*p*m)),b + c⟩ from nH (by
    show b*c + D*(1*1)=_
    rw [R.mul_one,R.mul_one]
    exact congrArg (b*c + ·) hD) (z7z R b c)] at h
  have P4:Pr (FI D (d*p) b) (FI D (d*q) c) ⟨d*p*(d*q),0⟩:=by
   have h:=Pr.one' Q a1 a2
   rwa [show (⟨d*p,0⟩:Qd D)*⟨d*q,0⟩=⟨d*p*(d*q),0⟩ from nH (z7a R D (d*p) (d*q)) (z7f R (d*p) (d*q))] at h
  have L:=z5k R iP
  have T:=zij iP (L v (zij iP (zij iP (L r P1) (L s P2)) (L t P3))) (L w (zij iP (L e P4) (zij iP (L f (zij iP (L q P1) (L (-p) P2))) (zij iP (L h (zij iP (L g P2) (L (-q) P3))) (L k (zij iP (L g P1) (L (-p) P3)))))))
  have eu:=z6k R d p q g b c m n r s t e f h k v w
  have ev':=z6x R d p q g b c m n r s t e f h k v w
  rw [zF,zG,zZ] at eu
  rw [zE,zZ] at ev'
  simp only [R.mul_zero,R.zero_mul,R.add_zero,R.neg_zero] at eu ev'
  have key:(⟨d,0⟩:Qd D)*⟨u,v⟩=⟨d*u,d*v⟩:=nH (zqv R D d u v) (z1x R d u v)
  rw [key,hw,← eu,← ev']
  simp only [R.mul_zero,R.zero_mul,R.add_zero,R.neg_zero] at T ⊢
  exact T
end
end Go.Abs
/- Reduction of forms, conjugates, norms. -/
namespace Go.Abs
section
variable {K:Type} [Add K] [Mul K] [Neg K] [Zero K] [One K]
theorem z6p (R:IsRing K) (a b c v w:K):b*(b*v + a*w) + (b*b + -(a*c))*(-1*v)=a*(b*w + c*v):=xB R [a,b,c,v,w] (.add (.mul (.v 1) (.add (.mul (.v 1) (.v 3)) (.mul (.v 0) (.v 4)))) (.mul (.add (.mul (.v 1) (.v 1)) (.neg (.mul (.v 0) (.v 2)))) (.mul (.neg .o) (.v 3)))) (.mul (.v 0) (.add (.mul (.v 1) (.v 4)) (.mul (.v 2) (.v 3)))) rfl
theorem z6o (R:IsRing K) (a b v w:K):b*v + -1*(b*v + a*w)=a*-w:=xB R [a,b,v,w] (.add (.mul (.v 1) (.v 2)) (.mul (.neg .o) (.add (.mul (.v 1) (.v 2)) (.mul (.v 0) (.v 3))))) (.mul (.v 0) (.neg (.v 3))) rfl
theorem z6l (R:IsRing K) (b c v w:K):b*w + c*v=-b*-w + c*v:=xB R [b,c,v,w] (.add (.mul (.v 0) (.v 3)) (.mul (.v 1) (.v 2))) (.add (.mul (.neg (.v 0)) (.neg (.v 3))) (.mul (.v 1) (.v 2))) rfl
theorem z0d (R:IsRing K) (a b q v w:K):b*v + a*w=(b + a*q)*v + a*(w + -(q*v)):=xB R [a,b,q,v,w] (.add (.mul (.v 1) (.v 3)) (.mul (.v 0) (.v 4))) (.add (.mul (.add (.v 1) (.mul (.v 0) (.v 2))) (.v 3)) (.mul (.v 0) (.add (.v 4) (.neg (.mul (.v 2) (.v 3)))))) rfl
theorem zz1 (R:IsRing K) (a b q v w:K):(b + a*q)*v + a*w=b*v + a*(w + q*v):=xB R [a,b,q,v,w] (.add (.mul (.add (.v 1) (.mul (.v 0) (.v 2))) (.v 3)) (.mul (.v 0) (.v 4))) (.add (.mul (.v 1) (.v 3)) (.mul (.v 0) (.add (.v 4) (.mul (.v 2) (.v 3))))) rfl
theorem z3l (R:IsRing K) (a k l b v w:K):k*a*(l*w)=a*(k*l*w):=xB R [a,k,l,b,v,w] (.mul (.mul (.v 1) (.v 0)) (.mul (.v 2) (.v 5))) (.mul (.v 0) (.mul (.mul (.v 1) (.v 2)) (.v 5))) rfl
theorem z7y (R:IsRing K) (D a b c d:K):a*c + D*(-b*-d)=a*c + D*(b*d):=xB R [D,a,b,c,d] (.add (.mul (.v 1) (.v 3)) (.mul (.v 0) (.mul (.neg (.v 2)) (.neg (.v 4))))) (.add (.mul (.v 1) (.v 3)) (.mul (.v 0) (.mul (.v 2) (.v 4)))) rfl
theorem z7b (R:IsRing K) (a b c d:K):a*-d + -b*c=-(a*d + b*c):=xB R [a,b,c,d] (.add (.mul (.v 0) (.neg (.v 3))) (.mul (.neg (.v 1)) (.v 2))) (.neg (.add (.mul (.v 0) (.v 3)) (.mul (.v 1) (.v 2)))) rfl
theorem z63 (R:IsRing K) (D a b:K):a*a + D*(b*-b)=a*a + -(D*(b*b)):=xB R [D,a,b] (.add (.mul (.v 1) (.v 1)) (.mul (.v 0) (.mul (.v 2) (.neg (.v 2))))) (.add (.mul (.v 1) (.v 1)) (.neg (.mul (.v 0) (.mul (.v 2) (.v 2))))) rfl
theorem z7r (R:IsRing K) (a b:K):a*-b + b*a=0:=xB R [a,b] (.add (.mul (.v 0) (.neg (.v 1))) (.mul (.v 1) (.v 0))) .z rfl
theorem z5z (R:IsRing K) (D a b c d:K):(a*c + D*(b*d))*(a*c + D*(b*d)) + -(D*((a*d + b*c)*(a*d + b*c)))=(a*a + -(D*(b*b)))*(c*c + -(D*(d*d))):=xB R [D,a,b,c,d] (.add (.mul (.add (.mul (.v 1) (.v 3)) (.mul (.v 0) (.mul (.v 2) (.v 4)))) (.add (.mul (.v 1) (.v 3)) (.mul (.v 0) (.mul (.v 2) (.v 4))))) (.neg (.mul (.v 0) (.mul (.add (.mul (.v 1) (.v 4)) (.mul (.v 2) (.v 3))) (.add (.mul (.v 1) (.v 4)) (.mul (.v 2) (.v 3))))))) (.mul (.add (.mul (.v 1) (.v 1)) (.neg (.mul (.v 0) (.mul (.v 2) (.v 2))))) (.add (.mul (.v 3) (.v 3)) (.neg (.mul (.v 0) (.mul (.v 4) (.v 4)))))) rfl
theorem z6f (R:IsRing K) (b c:K):b + c + -(c + -b)=b + b:=xB R [b,c] (.add (.add (.v 0) (.v 1)) (.neg (.add (.v 1) (.neg (.v 0))))) (.add (.v 0) (.v 0)) rfl
theorem z6b (R:IsRing K) (a b c v w:K):b*(b*w + a*-v) + (b*b + -(a*c))*(-1*w)=a*(-b*v + c*w):=xB R [a,b,c,v,w] (.add (.mul (.v 1) (.add (.mul (.v 1) (.v 4)) (.mul (.v 0) (.neg (.v 3))))) (.mul (.add (.mul (.v 1) (.v 1)) (.neg (.mul (.v 0) (.v 2)))) (.mul (.neg .o) (.v 4)))) (.mul (.v 0) (.add (.mul (.neg (.v 1)) (.v 3)) (.mul (.v 2) (.v 4)))) rfl
theorem z6w (R:IsRing K) (a b v w:K):b*w + -1*(b*w + a*-v)=a*v:=xB R [a,b,v,w] (.add (.mul (.v 1) (.v 3)) (.mul (.neg .o) (.add (.mul (.v 1) (.v 3)) (.mul (.v 0) (.neg (.v 2)))))) (.mul (.v 0) (.v 2)) rfl
theorem z5g (R:IsRing K) (u b v:K):u=b*v + 1*(u + -(b*v)):=xB R [u,b,v] (.v 0) (.add (.mul (.v 1) (.v 2)) (.mul .o (.add (.v 0) (.neg (.mul (.v 1) (.v 2)))))) rfl
theorem z2a (R:IsRing K) (a b v w:K):b*-v + a*w=-b*v + a*w:=xB R [a,b,v,w] (.add (.mul (.v 1) (.neg (.v 2))) (.mul (.v 0) (.v 3))) (.add (.mul (.neg (.v 1)) (.v 2)) (.mul (.v 0) (.v 3))) rfl
theorem z4v (R:IsRing K) (w a b c d e f x y m n:K):w*(a*(c*(e*x + f*y) + d*m) + b*n)=w*(a*(c*e))*x + w*(a*(c*f))*y + w*(a*d)*m + w*b*n:=xB R [w,a,b,c,d,e,f,x,y,m,n] (.mul (.v 0) (.add (.mul (.v 1) (.add (.mul (.v 3) (.add (.mul (.v 5) (.v 7)) (.mul (.v 6) (.v 8)))) (.mul (.v 4) (.v 9)))) (.mul (.v 2) (.v 10)))) (.add (.add (.add (.mul (.mul (.v 0) (.mul (.v 1) (.mul (.v 3) (.v 5)))) (.v 7)) (.mul (.mul (.v 0) (.mul (.v 1) (.mul (.v 3) (.v 6)))) (.v 8))) (.mul (.mul (.v 0) (.mul (.v 1) (.v 4))) (.v 9))) (.mul (.mul (.v 0) (.v 2)) (.v 10))) rfl
theorem z3f (R:IsRing K) (x y z w p:K):y*x*(y*x) + -(z*x*p*(w*x))=(y*y + -(z*p*w))*(x*x):=xB R [x,y,z,w,p] (.add (.mul (.mul (.v 1) (.v 0)) (.mul (.v 1) (.v 0))) (.neg (.mul (.mul (.mul (.v 2) (.v 0)) (.v 4)) (.mul (.v 3) (.v 0))))) (.mul (.add (.mul (.v 1) (.v 1)) (.neg (.mul (.mul (.v 2) (.v 4)) (.v 3)))) (.mul (.v 0) (.v 0))) rfl
variable (R:IsRing K) {D:K}
include R
/-- One step of reduction. -/
theorem z49 {a b c:K} (h:b*b + -D=a*c):Sc (⟨b,-1⟩:Qd D) (FI D a b)=Sc (⟨a,0⟩:Qd D) (FI D c (-b)):=by
 have hD:=D_of R h
 refine zai (fun x hx=>?_) (fun x hx=>?_)
 ·obtain ⟨⟨u,v⟩,⟨w,hw⟩,rfl⟩:=hx
  simp only at hw
  refine ⟨⟨b*w + c*v,-w⟩,⟨v,z6l R b c v w⟩,nH ?_ ?_⟩
  ·show b*u + D*(-1*v)=a*(b*w + c*v) + D*(0*-w)
   rw [zqv R D a _ (-w),hw,← z6p R a b c v w]
   exact congrArg (b*(b*v + a*w) + ·*(-1*v)) hD
  ·show b*v + -1*u=a*-w + 0*(b*w + c*v)
   rw [R.zero_mul,R.add_zero,hw]
   exact z6o R a b v w
 ·obtain ⟨⟨u,v⟩,⟨w,hw⟩,rfl⟩:=hx
  simp only at hw
  refine ⟨⟨b*w + a*-v,w⟩,⟨-v,rfl⟩,nH ?_ ?_⟩
  ·show a*u + D*(0*v)=b*(b*w + a*-v) + D*(-1*w)
   rw [zqv R D a _ v,hw,hD]
   exact (z6b R a b c v w).symm
  ·show a*v + 0*u=b*w + -1*(b*w + a*-v)
   rw [R.zero_mul,R.add_zero]
   exact (z6w R a b v w).symm
theorem z5r (a b q:K):FI D a (b + a*q)=FI D a b:=zai (fun x hx=>by
 obtain ⟨w,hw⟩:=hx
 exact ⟨_,hw.trans (zz1 R a b q x.v w)⟩) (fun x hx=>by
 obtain ⟨w,hw⟩:=hx
 exact ⟨_,hw.trans (z0d R a b q x.v w)⟩)
theorem zwv (a b:K) {k l:K} (h:k*l=1):FI D (k*a) b=FI D a b:=zai (fun x hx=>by
 obtain ⟨w,hw⟩:=hx
 refine ⟨k*w,hw.trans ?_⟩
 rw [R.mul_comm k a,R.mul_assoc]) (fun x hx=>by
 obtain ⟨w,hw⟩:=hx
 refine ⟨l*w,hw.trans ?_⟩
 rw [z3l R a k l b x.v w,h,R.one_mul])
theorem zsl (b:K):FI D 1 b=fun _=>True:=zai (fun _ _=>trivial) (fun x _=>⟨x.u + -(b*x.v),z5g R x.u b x.v⟩)

omit R in
def cj (x:Qd D):Qd D:=⟨x.u,-x.v⟩
theorem zr9 (x:Qd D):cj (cj x)=x:=nH rfl (R.neg_neg _)
theorem zwj (x y:Qd D):cj (x*y)=cj x*cj y:=nH (z7y R D x.u x.v y.u y.v).symm (z7b R x.u x.v y.u y.v).symm
theorem z5j (x y:Qd D):cj (x + y)=cj x + cj y:=nH rfl (R.neg_add' _ _)
theorem z21:cj (0:Qd D)=0:=nH rfl R.neg_zero
omit R in
def Cj (S:Qd D→Prop) (x:Qd D):Prop:=S (cj x)
theorem z4e (a b:K):Cj (FI D a b)=FI D a (-b):=zai (fun x hx=>by
 obtain ⟨w,hw⟩:=hx
 exact ⟨w,hw.trans (z2a R a b x.v w)⟩) (fun x hx=>by
 obtain ⟨w,hw⟩:=hx
 exact ⟨w,hw.trans (z2a R a b x.v w).symm⟩)
theorem z6n (S T:Qd D→Prop):Cj (Pr S T)=Pr (Cj S) (Cj T):=by
 have one:∀ (S T:Qd D→Prop) x,Pr S T x→Pr (Cj S) (Cj T) (cj x):=fun S T x h=>by
  induction h with
  | zero=>rw [z21 R]; exact .zero
  | cons hs ht _ ih =>
   rw [z5j R,zwj R]
   exact .cons (by show _; unfold Cj; rw [zr9 R]; exact hs) (by show _; unfold Cj; rw [zr9 R]; exact ht) ih
 refine zai (fun x hx=>?_) (fun x hx=>?_)
 ·have:=one S T _ hx
  rwa [zr9 R] at this
 ·have h:=one _ _ _ hx
  have e:∀ S:Qd D→Prop,Cj (Cj S)=S:=fun S=>funext fun x=>by unfold Cj; rw [zr9 R]
  rw [e,e] at h
  exact h
theorem z6y (a:Qd D):Cj (Sc a fun _=>True)=Sc (cj a) fun _=>True:=zai (fun x hx=>by
 obtain ⟨y,_,hy⟩:=hx
 exact ⟨cj y,trivial,by rw [← zwj R,← hy,zr9 R]⟩) (fun x hx=>by
 obtain ⟨y,_,hy⟩:=hx
 exact ⟨cj y,trivial,by rw [hy,zwj R,zr9 R]⟩)
omit R in
def nm (x:Qd D):K:=x.u*x.u + -(D*(x.v*x.v))
theorem z53 (x:Qd D):x*cj x=⟨nm x,0⟩:=nH (z63 R D x.u x.v) (z7r R x.u x.v)
theorem z22 (x y:Qd D):nm (x*y)=nm x*nm y:=z5z R D x.u x.v y.u y.v
end
end Go.Abs
/- Plain facts on arrays of 64 numbers. -/
namespace Go.Abs

abbrev V64:=Vec Int 64
def yP (l:List Int):V64:=⟨(List.range 64).map fun j=>l.getD j 0,by simp⟩

theorem zl5 (l:List Int) {j:Nat} (h:j < 64):rd (yP l).1 j=l.getD j 0:=by
 simp [rd,yP,h]
theorem ze9 {n:Nat} {a b:Vec Int n} (h:∀ j,j < n→rd a.1 j=rd b.1 j):a=b:=by
 apply Subtype.ext
 apply List.ext_getElem
 ·rw [a.2,b.2]
 ·intro j h1 h2
  have:=h j (by rw [a.2] at h1; exact h1)
  simpa [rd,h1,h2] using this
theorem za3 {n:Nat} (a:Vec Int n) (i j:Nat) (d:Int) (hi:i < n):rd (yO a i d).1 j=if j=i then d else rd a.1 j:=by
 have hl:i < a.1.length:=by rw [a.2]; exact hi
 by_cases h:j=i
 ·subst h; simp [rd,yO,hl]
 ·rw [if_neg h]
  simp [rd,yO,Ne.symm h]
theorem zg0 {n:Nat} (j:Nat) (h:j < n):rd (yH n (0:Int)).1 j=0:=by
 simp [rd,yH,h]
theorem zb4:yP []=yH 64 0:=ze9 fun j h=>by rw [zl5 _ h,zg0 _ h]; simp
theorem zyg (l:List Int) (d:Int) (h:l.length < 64):yO (yP l) l.length d=yP (l ++ [d]):=by
 refine ze9 fun j hj=>?_
 rw [za3 _ _ _ _ h,zl5 _ hj,zl5 _ hj]
 by_cases e:j=l.length
 ·subst e; simp
 ·rw [if_neg e]
  rcases Nat.lt_or_ge j l.length with h1 | h1
  ·simp [h1,List.getElem?_append]
  ·have h2:l.length < j:=by omega
   have h3:(l ++ [d]).length≤j:=by simp; omega
   rw [List.getD_eq_getElem?_getD,List.getD_eq_getElem?_getD,List.getElem?_eq_none h1,List.getElem?_eq_none h3]

theorem zt1 (l k:List Int) (j:Nat):(l ++ k).getD j 0=if j < l.length then l.getD j 0 else k.getD (j - l.length) 0:=by
 simp only [List.getD_eq_getElem?_getD,List.getElem?_append]
 split <;> rfl

/-- Bytes. -/
def Bytes (l:List Int):Prop:=∀ d∈l,0≤d∧d < 256
end Go.Abs
/- Polynomials: coefficient functions, and rows of coefficients up to the leading one. -/
namespace Go.Abs

/-! How far a row reaches. -/
def top (g:Nat→Int):Nat→Nat
 | 0=>0
 | n + 1=>if g n=0 then top g n else n + 1
theorem ze4 (g:Nat→Int):∀ n,top g n≤n
 | 0=>Nat.le_refl _
 | n + 1=>by simp only [top]; split; exact Nat.le_succ_of_le (ze4 g n); exact Nat.le_refl _
theorem zmr (g:Nat→Int):∀ n i,top g n≤i→i < n→g i=0
 | 0,i,_,h=>by omega
 | n + 1,i,h1,h2=>by
  simp only [top] at h1
  split at h1
  ·rename_i e
   by_cases hi:i=n
   ·subst hi; exact e
   ·exact zmr g n i h1 (by omega)
  ·omega
theorem zqu (g:Nat→Int):∀ n,top g n ≠ 0→g (top g n - 1) ≠ 0
 | 0,h=>by simp [top] at h
 | n + 1,h=>by
  simp only [top] at h ⊢
  split
  ·rename_i e; rw [if_pos e] at h; exact zqu g n h
  ·rename_i e; simpa using e
theorem zfz {f g:Nat→Int}:∀ n,(∀ i,i < n→f i=g i)→top f n=top g n
 | 0,_=>rfl
 | n + 1,h=>by simp only [top]; rw [h n (by omega),zfz n fun i hi=>h i (by omega)]
/-- The leading place is told by what stands there and behind. -/
theorem zs5 {g:Nat→Int} {n k:Nat} (hk:k≤n) (hz:∀ i,k≤i→i < n→g i=0) (hl:k ≠ 0→g (k - 1) ≠ 0):top g n=k:=by
 rcases Nat.lt_trichotomy (top g n) k with h | h | h
 ·have:=zmr g n (k - 1) (by omega) (by omega)
  exact absurd this (hl (by omega))
 ·exact h
 ·have h1:=zqu g n (by omega)
  have h2:=ze4 g n
  exact absurd (hz (top g n - 1) (by omega) (by omega)) h1
/-! Reading rows. -/
theorem ztn (i:Nat):rd ([]:List Int) i=0:=by simp [rd]
theorem zm6 {l:List Int} {i:Nat} (h:i < l.length):rd l i=l[i]:=by simp [rd,h]
theorem vT {l:List Int} {i:Nat} (h:l.length≤i):rd l i=0:=by simp [rd,h]
theorem z04 {l:List Int} {i:Nat} (h:i < l.length):rd l i∈l:=by rw [zm6 h]; exact List.getElem_mem _
theorem zpn {a b:List Int} (hl:a.length=b.length) (h:∀ i,i < a.length→rd a i=rd b i):a=b:=by
 apply List.ext_getElem hl
 intro i h1 h2
 have:=h i h1
 rwa [zm6 h1,zm6 h2] at this
theorem zyx (l:List Int) (k i:Nat):rd (l.take k) i=if i < k then rd l i else 0:=by
 by_cases h:i < k
 ·rw [if_pos h]
  by_cases hl:i < l.length
  ·rw [zm6 (by simp; omega),zm6 hl]; simp
  ·rw [vT (by simp; omega),vT (by omega)]
 ·rw [if_neg h,vT (by simp; omega)]
theorem zod (l:List Int) (k:Nat) (d:Int) (i:Nat) (hk:k < l.length):rd (l.set k d) i=if i=k then d else rd l i:=by
 by_cases h:i=k
 ·subst h; simp [rd,hk]
 ·rw [if_neg h]; simp [rd,Ne.symm h]
theorem zz8 (n i:Nat):rd (List.replicate n (0:Int)) i=0:=by
 by_cases h:i < n
 ·rw [zm6 (by simpa using h)]; simp
 ·rw [vT (by simp; omega)]
theorem uW (l:List Int) {j:Nat} (h:j < 64):rd (yP l).1 j=rd l j:=by rw [zl5 _ h]; rfl
theorem z1d {f:Nat→Int} (n i:Nat):rd ((List.range n).map f) i=if i < n then f i else 0:=by
 by_cases h:i < n
 ·rw [if_pos h,zm6 (by simpa using h)]; simp
 ·rw [if_neg h,vT (by simp; omega)]

/-! Rows of functions. -/
def ofF (n:Nat) (f:Nat→Int):List Int:=(List.range (top f n)).map f
theorem zbb (n:Nat) (f:Nat→Int):(ofF n f).length=top f n:=by simp [ofF]
theorem zn5 {n:Nat} {f:Nat→Int} (hz:∀ i,n≤i→f i=0) (i:Nat):rd (ofF n f) i=f i:=by
 rw [ofF,z1d]
 split
 ·rfl
 ·by_cases h:i < n
  ·exact (zmr f n i (by omega) h).symm
  ·exact (hz i (by omega)).symm
theorem zir {n:Nat} {f:Nat→Int} (i:Nat):rd (ofF n f) i=if i < n then f i else 0:=by
 rw [ofF,z1d]
 have:=ze4 f n
 by_cases h:i < n
 ·rw [if_pos h]
  split
  ·rfl
  ·exact (zmr f n i (by omega) h).symm
 ·rw [if_neg h,if_neg (by omega)]
theorem zfy {n:Nat} {f g:Nat→Int} (h:∀ i,i < n→f i=g i):ofF n f=ofF n g:=by
 have e:=zfz n h
 have:=ze4 g n
 refine zpn (by rw [zbb,zbb,e]) fun i hi=>?_
 rw [zir,zir]
 split
 ·exact h i (by assumption)
 ·rfl
/-- A list without the zeros at its end. -/
theorem zpa (l:List Int):l.take (top (rd l) l.length)=ofF l.length (rd l):=by
 have:=ze4 (rd l) l.length
 refine zpn (by rw [zbb]; simp; omega) fun i hi=>?_
 rw [zyx,zir]
 simp at hi
 rw [if_pos (by omega),if_pos (by omega)]

/-- The coefficients of a polynomial modulo p, up to the leading one. -/
structure Row (p:Int) (l:List Int):Prop where
 res:∀ d∈l,0≤d∧d < p
 nrm:l.length ≠ 0→rd l (l.length - 1) ≠ 0
theorem Row.rd {p:Int} {l:List Int} (h:Row p l) (hp:0 < p) (i:Nat):0≤rd l i∧rd l i < p:=by
 by_cases hi:i < l.length
 ·exact h.res _ (z04 hi)
 ·rw [vT (by omega)]; exact ⟨Int.le_refl _,hp⟩
theorem Row.bytes {p:Int} {l:List Int} (h:Row p l) (hp:p≤256):Bytes l:=fun d hd=>by have:=h.res d hd; omega
theorem zcz (p:Int):Row p []:=⟨by simp,by simp⟩
theorem zgy {p q:Int} {a b:List Int} (ha:Row p a) (hb:Row q b) (h:∀ i,rd a i=rd b i):a=b:=by
 have hl:a.length=b.length:=by
  rcases Nat.lt_trichotomy a.length b.length with h1 | h1 | h1
  ·have:=hb.nrm (by omega)
   rw [← h,vT (by omega)] at this
   exact absurd rfl this
  ·exact h1
  ·have:=ha.nrm (by omega)
   rw [h,vT (by omega)] at this
   exact absurd rfl this
 exact zpn hl fun i _=>h i
theorem zkv {p:Int} {n:Nat} {f:Nat→Int} (h:∀ i,i < n→0≤f i∧f i < p):Row p (ofF n f):=by
 have hle:=ze4 f n
 refine ⟨fun d hd=>?_,fun hn=>?_⟩
 ·simp only [ofF,List.mem_map,List.mem_range] at hd
  obtain ⟨i,hi,rfl⟩:=hd
  exact h i (by omega)
 ·rw [zbb] at hn ⊢
  rw [zir,if_pos (by omega)]
  exact zqu f n hn
theorem Row.top {p:Int} {l:List Int} (h:Row p l) {n:Nat} (hn:l.length≤n):top (Abs.rd l) n=l.length :=
 zs5 hn (fun i h1 _=>vT h1) h.nrm
theorem Row.ofF {p:Int} {l:List Int} (h:Row p l) {n:Nat} (hn:l.length≤n):ofF n (Abs.rd l)=l:=by
 refine zpn (by rw [zbb,h.top hn]) fun i hi=>?_
 rw [zn5 fun i hi=>vT (by omega)]
/-! Arrays and rows. -/
def row (v:V64):List Int:=ofF 64 (rd v.1)
/-- Coefficients from 0 to p - 1. -/
def Res (p:Int) (v:V64):Prop:=∀ j,j < 64→0≤rd v.1 j∧rd v.1 j < p
theorem zah {p:Int} {v:V64} (h:Res p v):Row p (row v):=zkv h
theorem jK (v:V64):(row v).length≤64:=by rw [row,zbb]; exact ze4 _ _
theorem zfw (v:V64):yP (row v)=v:=ze9 fun j hj=>by rw [uW _ hj,row,zir,if_pos hj]
theorem ze7 {p:Int} {l:List Int} (h:Row p l) (hl:l.length≤64):row (yP l)=l:=by
 rw [row,zfy (g:=rd l) fun i hi=>uW l hi,h.ofF hl]
theorem za5 {p:Int} {l:List Int} (h:Row p l) (hp:0 < p):Res p (yP l):=fun j hj=>by rw [uW _ hj]; exact h.rd hp j
theorem zxk {p q:Int} {a b:List Int} (ha:Row p a) (hb:Row q b) (h1:a.length≤64) (h2:b.length≤64) (h:yP a=yP b):a=b:=by
 rw [← ze7 ha h1,← ze7 hb h2,h]

/-! Sums and products of coefficient functions. -/
def vE:Nat→(Nat→Int)→Int
 | 0,_=>0
 | n + 1,f=>vE n f + f n
theorem qV {f g:Nat→Int}:∀ n,(∀ i,i < n→f i=g i)→vE n f=vE n g
 | 0,_=>rfl
 | n + 1,h=>by simp only [vE]; rw [qV n fun i hi=>h i (by omega),h n (by omega)]
theorem zcl {f:Nat→Int}:∀ n,(∀ i,i < n→f i=0)→vE n f=0
 | 0,_=>rfl
 | n + 1,h=>by simp only [vE]; rw [zcl n fun i hi=>h i (by omega),h n (by omega)]; rfl
theorem zi0 {f:Nat→Int} {n:Nat}:∀ m,(∀ i,n≤i→i < n + m→f i=0)→vE (n + m) f=vE n f
 | 0,_=>rfl
 | m + 1,h=>by
  rw [← Nat.add_assoc]
  simp only [vE]
  rw [zi0 m fun i h1 h2=>h i h1 (by omega),h (n + m) (by omega) (by omega),Int.add_zero]
/-- The summand that the first n coefficients give to a product. -/
def cv (a b:Nat→Int) (n k:Nat):Int:=vE n fun i=>if i≤k then a i*b (k - i) else 0
theorem zm3 (a b:Nat→Int) (n k:Nat):cv a b (n + 1) k=cv a b n k + (if n≤k then a n*b (k - n) else 0):=rfl
def conv (a b:Nat→Int) (k:Nat):Int:=cv a b (k + 1) k
theorem zml {a b:Nat→Int} {n:Nat} (hz:∀ i,n≤i→a i=0) (k:Nat):cv a b n k=conv a b k:=by
 unfold conv cv
 rcases Nat.le_total n (k + 1) with h | h
 ·obtain ⟨m,e⟩:∃ m,k + 1=n + m:=⟨k + 1 - n,by omega⟩
  rw [e]
  refine (zi0 m fun i h1 h2=>?_).symm
  rw [hz i h1]; simp
 ·obtain ⟨m,rfl⟩:∃ m,n=k + 1 + m:=⟨n - (k + 1),by omega⟩
  exact zi0 m fun i h1 h2=>if_neg (by omega)
theorem zsh {a b:Nat→Int} {n m:Nat} (ha:∀ i,n≤i→a i=0) (hb:∀ i,m≤i→b i=0) {k:Nat} (hk:n + m≤k + 1):conv a b k=0:=by
 refine zcl _ fun i hi=>?_
 rw [if_pos (by omega)]
 by_cases h:i < n
 ·rw [hb (k - i) (by omega),Int.mul_zero]
 ·rw [ha i (by omega),Int.zero_mul]
/-- The leading coefficient of a product. -/
theorem znl {a b:Nat→Int} {n m:Nat} (ha:∀ i,n < i→a i=0) (hb:∀ i,m < i→b i=0):conv a b (n + m)=a n*b m:=by
 have h1:conv a b (n + m)=cv a b (n + 1) (n + m):=(zml (fun i hi=>ha i (by omega)) _).symm
 rw [h1]
 unfold cv
 simp only [vE]
 rw [zcl n fun i hi=>?_,if_pos (by omega),show n + m - n=m by omega,Int.zero_add]
 rw [if_pos (by omega),hb _ (by omega),Int.mul_zero]

/-! Operations on rows. -/
def zb8 (p:Int) (a b:List Int) (k:Int):List Int:=ofF (max a.length b.length) fun i=>(rd a i + k*rd b i) % p
def mul (p:Int) (a b:List Int):List Int:=ofF (a.length + b.length - 1) fun i=>conv (rd a) (rd b) i % p

theorem zaq {p:Int} (hp:0 < p) (x:Int):0≤x % p∧x % p < p:=⟨Int.emod_nonneg _ (by omega),Int.emod_lt_of_pos _ hp⟩
theorem zbm {p:Int} (hp:0 < p) (a b:List Int) (k:Int):Row p (zb8 p a b k):=zkv fun _ _=>zaq hp _
theorem zd7 {p:Int} (hp:0 < p) (a b:List Int):Row p (mul p a b):=zkv fun _ _=>zaq hp _
theorem zfs (p:Int) (a b:List Int) (k:Int) (i:Nat):rd (zb8 p a b k) i=(rd a i + k*rd b i) % p:=by
 refine zn5 (fun i hi=>?_) i
 rw [vT (by omega),vT (by omega)]; simp
theorem zhh (p:Int) (a b:List Int) (i:Nat):rd (mul p a b) i=conv (rd a) (rd b) i % p:=by
 refine zn5 (fun i hi=>?_) i
 rw [zsh (n:=a.length) (m:=b.length) (fun i hi=>vT hi) (fun i hi=>vT hi) (by omega)]; simp
theorem zdd (p:Int) (a b:List Int) (k:Int):(zb8 p a b k).length≤max a.length b.length:=by rw [zb8,zbb]; exact ze4 _ _
theorem zmm (p:Int) (a b:List Int):(mul p a b).length≤a.length + b.length - 1:=by rw [mul,zbb]; exact ze4 _ _
theorem zsv (p:Int) (b:List Int):mul p [] b=[]:=by
 have h:∀ i,conv (rd []) (rd b) i=0:=fun i=>zcl _ fun j _=>by rw [ztn]; simp
 have:(mul p [] b).length=0:=by
  rw [mul,zbb]
  exact zs5 (Nat.zero_le _) (fun i _ _=>by rw [h]; simp) (by simp)
 exact List.eq_nil_of_length_eq_zero this
theorem zul (p:Int) (a:List Int):mul p a []=[]:=by
 have h:∀ i,conv (rd a) (rd []) i=0:=fun i=>zcl _ fun j _=>by rw [ztn]; simp
 have:(mul p a []).length=0:=by
  rw [mul,zbb]
  exact zs5 (Nat.zero_le _) (fun i _ _=>by rw [h]; simp) (by simp)
 exact List.eq_nil_of_length_eq_zero this

/-! Small primes. -/
def isP (p:Int):Bool:=p == 2 || p == 3 || p == 5 || p == 7
theorem zpi {p:Int}:isP p=true ↔ p=2∨p=3∨p=5∨p=7:=by
 simp [isP,or_assoc]
theorem wU {p:Int} (h:isP p=true):2≤p∧p≤7:=by
 rcases zpi.1 h with rfl | rfl | rfl | rfl <;> omega
theorem z7i:∀ x y:Fin 2,x ≠ 0→y ≠ 0→(x.1*y.1) % 2 ≠ 0:=by decide
theorem z7l:∀ x y:Fin 3,x ≠ 0→y ≠ 0→(x.1*y.1) % 3 ≠ 0:=by decide
theorem z7o:∀ x y:Fin 5,x ≠ 0→y ≠ 0→(x.1*y.1) % 5 ≠ 0:=by decide
theorem z7d:∀ x y:Fin 7,x ≠ 0→y ≠ 0→(x.1*y.1) % 7 ≠ 0:=by decide
theorem ztq {n:Nat} (hn:0 < n) (h:∀ x y:Fin n,x.1 ≠ 0→y.1 ≠ 0→(x.1*y.1) % n ≠ 0) {x y:Int} (hx:0 < x∧x < n) (hy:0 < y∧y < n):x*y % n ≠ 0:=by
 obtain ⟨a,rfl⟩:∃ a:Nat,x=a:=⟨x.toNat,by omega⟩
 obtain ⟨b,rfl⟩:∃ b:Nat,y=b:=⟨y.toNat,by omega⟩
 have:=h ⟨a,by omega⟩ ⟨b,by omega⟩ (by simp; omega) (by simp; omega)
 simp only at this
 rw [← Int.natCast_mul,← Int.natCast_emod]
 omega
theorem noz {p:Int} (hp:isP p=true) {x y:Int} (hx:0≤x∧x < p) (hy:0≤y∧y < p) (h1:x ≠ 0) (h2:y ≠ 0):x*y % p ≠ 0:=by
 rcases zpi.1 hp with rfl | rfl | rfl | rfl
 ·exact ztq (n:=2) (by omega) (fun x y a b=>z7i x y (fun e=>a (by rw [e]; rfl)) (fun e=>b (by rw [e]; rfl))) ⟨by omega,hx.2⟩ ⟨by omega,hy.2⟩
 ·exact ztq (n:=3) (by omega) (fun x y a b=>z7l x y (fun e=>a (by rw [e]; rfl)) (fun e=>b (by rw [e]; rfl))) ⟨by omega,hx.2⟩ ⟨by omega,hy.2⟩
 ·exact ztq (n:=5) (by omega) (fun x y a b=>z7o x y (fun e=>a (by rw [e]; rfl)) (fun e=>b (by rw [e]; rfl))) ⟨by omega,hx.2⟩ ⟨by omega,hy.2⟩
 ·exact ztq (n:=7) (by omega) (fun x y a b=>z7d x y (fun e=>a (by rw [e]; rfl)) (fun e=>b (by rw [e]; rfl))) ⟨by omega,hx.2⟩ ⟨by omega,hy.2⟩
theorem zv2 {p:Int} (hp:isP p=true) {a b:List Int} (ha:Row p a) (hb:Row p b) (h1:a.length ≠ 0) (h2:b.length ≠ 0):(mul p a b).length=a.length + b.length - 1:=by
 have hp2:=wU hp
 rw [mul,zbb]
 refine zs5 (Nat.le_refl _) (fun i h3 h4=>by omega) fun _=>?_
 have e:a.length + b.length - 1 - 1=(a.length - 1) + (b.length - 1):=by omega
 rw [e,znl (fun i hi=>vT (by omega)) (fun i hi=>vT (by omega))]
 exact noz hp (ha.rd (by omega) _) (hb.rd (by omega) _) (ha.nrm h1) (hb.nrm h2)
end Go.Abs
/- Polynomials modulo p are a ring: products go along with sums, in any order. -/
namespace Go.Abs

theorem zko (f g:Nat→Int):∀ n,vE n (fun i=>f i + g i)=vE n f + vE n g
 | 0=>rfl
 | n + 1=>by simp only [vE,zko f g n]; omega
theorem zic (c:Int) (f:Nat→Int):∀ n,vE n (fun i=>c*f i)=c*vE n f
 | 0=>by simp [vE]
 | n + 1=>by simp only [vE,zic c f n,Int.mul_add]
theorem zv3 (c:Int) (f:Nat→Int) (n:Nat):vE n (fun i=>f i*c)=vE n f*c:=by
 rw [Int.mul_comm,← zic]
 exact qV n fun i _=>Int.mul_comm _ _
theorem zqp (f:Nat→Nat→Int) (m:Nat):∀ n,vE n (fun i=>vE m (fun j=>f i j))=vE m (fun j=>vE n (fun i=>f i j))
 | 0=>(zcl m fun _ _=>rfl).symm
 | n + 1=>by simp only [vE]; rw [zqp f m n,← zko]
/-- The first summand apart. -/
theorem zg1 (f:Nat→Int):∀ n,vE (n + 1) f=f 0 + vE n fun i=>f (i + 1)
 | 0=>by simp [vE]
 | n + 1=>by
  have:=zg1 f n
  simp only [vE] at this ⊢
  omega
theorem zr8 (f:Nat→Int):∀ n,vE (n + 1) f=vE (n + 1) fun i=>f (n - i)
 | 0=>rfl
 | n + 1=>by
  rw [zg1 (fun i=>f (n + 1 - i)) (n + 1)]
  have h:=zr8 f n
  have e:vE (n + 1) (fun i=>f (n + 1 - (i + 1)))=vE (n + 1) fun i=>f (n - i):=qV _ fun i _=>by rw [show n + 1 - (i + 1)=n - i by omega]
  rw [e,← h]
  simp only [vE,Nat.sub_zero]
  omega
/-- Summands from j on. -/
theorem zps (g:Nat→Int) (j:Nat):∀ n,vE (j + n) (fun i=>if j≤i then g (i - j) else 0)=vE n g
 | 0=>by rw [Nat.add_zero]; exact zcl j fun i hi=>if_neg (by omega)
 | n + 1=>by
  rw [← Nat.add_assoc]
  simp only [vE]
  rw [zps g j n,if_pos (by omega),show j + n - j=n by omega]

theorem z3t (a b:Nat→Int) {n k:Nat} (h:k + 1≤n):cv a b n k=conv a b k:=by
 obtain ⟨m,rfl⟩:∃ m,n=k + 1 + m:=⟨n - (k + 1),by omega⟩
 exact zi0 m fun i h1 _=>if_neg (by omega)
theorem zry (a b:Nat→Int) (k:Nat):conv a b k=conv b a k:=by
 unfold conv cv
 rw [zr8]
 refine qV _ fun i hi=>?_
 rw [if_pos (by omega),if_pos (by omega),show k - (k - i)=i by omega,Int.mul_comm]
theorem zv1 (a b c:Nat→Int) (k:Nat):conv (conv a b) c k=conv a (conv b c) k:=by
 have h1:conv (conv a b) c k=vE (k + 1) fun i=>vE (k + 1) fun j=>(if j≤i then a j*b (i - j) else 0)*c (k - i):=by
  unfold conv
  refine qV _ fun i hi=>?_
  rw [if_pos (by omega),zv3]
  congr 1
  exact (z3t a b (n:=k + 1) (by omega)).symm
 have h2:conv a (conv b c) k=vE (k + 1) fun j=>a j*vE (k + 1 - j) fun l=>b l*c (k - j - l):=by
  unfold conv
  refine qV _ fun j hj=>?_
  rw [if_pos (by omega)]
  congr 1
  show vE (k - j + 1) (fun i=>if i≤k - j then b i*c (k - j - i) else 0)=_
  rw [show k - j + 1=k + 1 - j by omega]
  exact qV _ fun l hl=>if_pos (by omega)
 rw [h1,h2,zqp]
 refine qV _ fun j hj=>?_
 rw [← zic,← zps (fun l=>a j*(b l*c (k - j - l))) j (k + 1 - j),show j + (k + 1 - j)=k + 1 by omega]
 refine qV _ fun i hi=>?_
 by_cases h:j≤i
 ·rw [if_pos h,if_pos h,show k - j - (i - j)=k - i by omega,Int.mul_assoc]
 ·rw [if_neg h,if_neg h,Int.zero_mul]
theorem zzl (a b c:Nat→Int) (s:Int) (k:Nat):conv (fun i=>a i + s*b i) c k=conv a c k + s*conv b c k:=by
 unfold conv cv
 rw [← zic,← zko]
 refine qV _ fun i _=>?_
 split
 ·rw [Int.add_mul,Int.mul_assoc]
 ·simp

/-! Modulo p. -/
theorem zrt {p:Int} {f g:Nat→Int}:∀ n,(∀ i,i < n→f i % p=g i % p)→vE n f % p=vE n g % p
 | 0,_=>rfl
 | n + 1,h=>by
  simp only [vE]
  rw [Int.add_emod,zrt n fun i hi=>h i (by omega),h n (by omega),← Int.add_emod]
theorem zj8 {p:Int} {a a' b b':Nat→Int} (ha:∀ i,a i % p=a' i % p) (hb:∀ i,b i % p=b' i % p) (k:Nat):conv a b k % p=conv a' b' k % p:=by
 refine zrt _ fun i _=>?_
 split
 ·rw [Int.mul_emod,ha,hb,← Int.mul_emod]
 ·rfl
theorem Row.mod {p:Int} {l:List Int} (h:Row p l) (hp:0 < p) (i:Nat):Abs.rd l i % p=Abs.rd l i:=Int.emod_eq_of_lt (h.rd hp i).1 (h.rd hp i).2

theorem zkh (p:Int) (a b:List Int):mul p a b=mul p b a:=by
 unfold mul
 rw [Nat.add_comm]
 exact zfy fun i _=>by rw [zry]
theorem zws {p:Int} (hp:0 < p) (a b c:List Int):mul p (mul p a b) c=mul p a (mul p b c):=by
 refine zgy (zd7 hp _ _) (zd7 hp _ _) fun i=>?_
 rw [zhh,zhh]
 rw [zj8 (a':=conv (rd a) (rd b)) (b':=rd c) (fun j=>by rw [zhh,Int.emod_emod]) (fun _=>rfl),zv1]
 exact zj8 (fun _=>rfl) (fun j=>by rw [zhh,Int.emod_emod]) i
theorem z1e (a:Nat→Int) (i:Nat):conv a (rd [1]) i=a i:=by
 rw [zry]
 unfold conv cv
 rw [zg1,if_pos (by omega),zcl i fun j hj=>?_]
 ·simp [rd]
 ·rw [show rd ([1]:List Int) (j + 1)=0 from vT (by simp)]; simp
theorem z1n {p:Int} (hp:0 < p) {a:List Int} (ha:Row p a):mul p a [1]=a :=
 zgy (zd7 hp _ _) ha fun i=>by rw [zhh,z1e,ha.mod hp]
theorem z0f {p:Int} (hp:0 < p) (a b c:List Int) (k:Int):mul p (zb8 p a b k) c=zb8 p (mul p a c) (mul p b c) k:=by
 refine zgy (zd7 hp _ _) (zbm hp _ _ _) fun i=>?_
 rw [zhh,zfs,zhh,zhh,zj8 (a':=fun i=>rd a i + k*rd b i) (b':=rd c) (fun j=>by rw [zfs,Int.emod_emod]) (fun _=>rfl),zzl]
 rw [Int.add_emod (conv (rd a) (rd c) i % p),Int.emod_emod,Int.mul_emod k (conv (rd b) (rd c) i % p),Int.emod_emod,← Int.mul_emod,← Int.add_emod]
theorem z2d {p:Int} (hp:0 < p) (a b c:List Int) (k:Int):mul p c (zb8 p a b k)=zb8 p (mul p c a) (mul p c b) k:=by
 rw [zkh,z0f hp,zkh p a,zkh p b]
/-! Products of lists, as long as their degrees are not too great. -/
def z72:List (List Int)→Nat
 | []=>0
 | b :: M=>(b.length - 1) + z72 M
def z77 (p:Int) (o:List Int) (M:List (List Int)):List Int:=M.foldl (mul p) o
end Go.Abs
/- Numbers modulo p. -/
namespace Go.Proofs.YtebfhlnfmkhmcaaGreat
open Go.Abs

theorem zms {n p:Int} (hp:0 < p):Int.tmod (Int.tmod n p + p) p=n % p:=by
 have h1:=Int.lt_tmod_of_pos n hp
 rw [Int.tmod_eq_emod_of_nonneg (by omega),Int.tmod_def,Int.add_emod_right,Int.sub_mul_emod_self_left]

/-- Numbers that are uJ. -/
def Ent (l:List Int):Prop:=∀ i,0≤rd l i∧rd l i < 256

theorem _root_.Go.Abs.Row.ent {p:Int} {l:List Int} (h:Row p l) (hp:0 < p∧p≤256):Ent l:=fun i=>by have:=h.rd hp.1 i; omega

def V64.Ent (v:V64):Prop:=∀ i,i < 64→0≤rd v.1 i∧rd v.1 i < 256

theorem z6t {x k:Int} (hx:0≤x∧x < 256) (hk:-1099511627776≤k∧k≤1099511627776):-281474976710656≤k*x∧k*x≤281474976710656:=by
 have h1:(-1099511627776)*x≤k*x:=Int.mul_le_mul_of_nonneg_right hk.1 hx.1
 have h2:k*x≤1099511627776*x:=Int.mul_le_mul_of_nonneg_right hk.2 hx.1
 omega

theorem _root_.Go.Abs.Res.ent {p:Int} {v:V64} (h:Res p v) (hp:p≤256):V64.Ent v:=fun i hi=>by have:=h i hi; omega

theorem zyp {p:Int} {l:List Int} (h:Row p l) (hp:0 < p∧p≤256):V64.Ent (yP l):=Res.ent (za5 h hp.1) hp.2

theorem mI {x y:Int} (hx:0≤x∧x < 256) (hy:0≤y∧y < 256):0≤x*y∧x*y≤65025 :=
 ⟨Int.mul_nonneg hx.1 hy.1,Int.mul_le_mul (c:=255) (d:=255) (by omega) (by omega) hy.1 (by omega)⟩
end Go.Proofs.YtebfhlnfmkhmcaaGreat
/- Inverses modulo p. -/
namespace Go.Proofs.YtebfhlnfmkhmcaaGreat
open Go.Abs

/-- The inverse of x modulo p. -/
def inv (p x:Int):Int:=if p=2 then 1 else if p=3 then x else if p=5 then (if x=1 then 1 else if x=2 then 3 else if x=3 then 2 else 4) else (if x=1 then 1 else if x=2 then 4 else if x=3 then 5 else if x=4 then 2 else if x=5 then 3 else 6)
theorem zn3 {p x:Int} (hp:isP p=true) (hx:0 < x∧x < p):(p=2∧x=1)∨(p=3∧x=1)∨(p=3∧x=2)∨(p=5∧x=1)∨(p=5∧x=2)∨(p=5∧x=3)∨(p=5∧x=4) ∨
  (p=7∧x=1)∨(p=7∧x=2)∨(p=7∧x=3)∨(p=7∧x=4)∨(p=7∧x=5)∨(p=7∧x=6):=by
 rcases zpi.1 hp with rfl | rfl | rfl | rfl <;> omega
theorem ze1 {p x:Int} (hp:isP p=true) (hx:0 < x∧x < p):0 < inv p x∧inv p x < p∧x*inv p x % p=1:=by
 rcases zn3 hp hx with ⟨rfl,rfl⟩ | ⟨rfl,rfl⟩ | ⟨rfl,rfl⟩ | ⟨rfl,rfl⟩ | ⟨rfl,rfl⟩ | ⟨rfl,rfl⟩ | ⟨rfl,rfl⟩ | ⟨rfl,rfl⟩ | ⟨rfl,rfl⟩ | ⟨rfl,rfl⟩ | ⟨rfl,rfl⟩ | ⟨rfl,rfl⟩ | ⟨rfl,rfl⟩ <;> decide
theorem zzk {p x:Int} (hp:isP p=true) (hx:0 < x∧x < p) {j:Int} (h1:1≤j) (h2:j < inv p x):j*x % p ≠ 1:=by
 rcases zn3 hp hx with ⟨rfl,rfl⟩ | ⟨rfl,rfl⟩ | ⟨rfl,rfl⟩ | ⟨rfl,rfl⟩ | ⟨rfl,rfl⟩ | ⟨rfl,rfl⟩ | ⟨rfl,rfl⟩ | ⟨rfl,rfl⟩ | ⟨rfl,rfl⟩ | ⟨rfl,rfl⟩ | ⟨rfl,rfl⟩ | ⟨rfl,rfl⟩ | ⟨rfl,rfl⟩ <;> simp [inv] at h2 <;> omega
theorem z2w {p x:Int} (hp:isP p=true) (hx:0 < x∧x < p):x ^ (p - 2).toNat % p=inv p x:=by
 rcases zn3 hp hx with ⟨rfl,rfl⟩ | ⟨rfl,rfl⟩ | ⟨rfl,rfl⟩ | ⟨rfl,rfl⟩ | ⟨rfl,rfl⟩ | ⟨rfl,rfl⟩ | ⟨rfl,rfl⟩ | ⟨rfl,rfl⟩ | ⟨rfl,rfl⟩ | ⟨rfl,rfl⟩ | ⟨rfl,rfl⟩ | ⟨rfl,rfl⟩ | ⟨rfl,rfl⟩ <;> decide
end Go.Proofs.YtebfhlnfmkhmcaaGreat
/- Division of polynomials, from the leading coefficient on. -/
namespace Go.Proofs.YtebfhlnfmkhmcaaGreat
open Go.Abs

def zcd (p:Int) (b:Nat→Int) (m:Nat) (f:Int) (i:Nat) (r:Nat→Int) (j:Nat):Int:=if i≤j∧j≤i + m then (r j - f*b (j - i)) % p else r j
def zh8 (p iv:Int) (m i:Nat) (r:Nat→Int):Int:=r (i + m)*iv % p
def zns (p:Int) (b:Nat→Int) (m:Nat) (iv:Int):Nat→(Nat→Int)→Nat→Int
 | 0,r=>r
 | i + 1,r=>zns p b m iv i (zcd p b m (zh8 p iv m i r) i r)
def zid (p:Int) (b:Nat→Int) (m:Nat) (iv:Int):Nat→(Nat→Int)→Nat→Int
 | 0,_,_=>0
 | i + 1,r,j=>if j=i then zh8 p iv m i r else zid p b m iv i (zcd p b m (zh8 p iv m i r) i r) j
def wG (b:List Int):Int:=rd b (b.length - 1)
def quo (p:Int) (a b:List Int):List Int:=ofF (a.length + 1 - b.length) (zid p (rd b) (b.length - 1) (inv p (wG b)) (a.length + 1 - b.length) (rd a))
def rem (p:Int) (a b:List Int):List Int:=ofF a.length (zns p (rd b) (b.length - 1) (inv p (wG b)) (a.length + 1 - b.length) (rd a))

section
variable {p:Int} {b:Nat→Int} {m:Nat} {iv:Int}
theorem zn8 (hp:0 < p) {r:Nat→Int} (hr:∀ j,0≤r j∧r j < p) (f:Int) (i j:Nat):0≤zcd p b m f i r j∧zcd p b m f i r j < p:=by
 unfold zcd
 split
 ·exact zaq hp _
 ·exact hr j
theorem zve (hp:0 < p):∀ (i:Nat) (r:Nat→Int),(∀ j,0≤r j∧r j < p)→∀ j,0≤zns p b m iv i r j∧zns p b m iv i r j < p
 | 0,r,hr,j=>hr j
 | i + 1,r,hr,j=>zve hp i _ (fun j=>zn8 hp hr _ i j) j
theorem zt3 (hp:0 < p):∀ (i:Nat) (r:Nat→Int) (j:Nat),0≤zid p b m iv i r j∧zid p b m iv i r j < p
 | 0,r,j=>by simp only [zid]; omega
 | i + 1,r,j=>by
  simp only [zid]
  split
  ·exact zaq hp _
  ·exact zt3 hp i _ j
theorem zs9:∀ (i:Nat) (r:Nat→Int) (j:Nat),i≤j→zid p b m iv i r j=0
 | 0,_,_,_=>rfl
 | i + 1,r,j,h=>by
  simp only [zid]
  rw [if_neg (by omega)]
  exact zs9 i _ j (by omega)
theorem zvv {f g c:Nat→Int} (k:Nat):∀ n,(∀ i,i < n→f i=g i)→cv f c n k=cv g c n k:=fun n h=>qV n fun i hi=>by rw [h i hi]
/-- The rest vanishes from the place m on. -/
theorem zsc (hp:0 < p) (hb:b m*iv % p=1 % p):∀ (i:Nat) (r:Nat→Int),(∀ j,0≤r j∧r j < p)→(∀ j,i + m≤j→r j=0)→∀ j,m≤j→zns p b m iv i r j=0
 | 0,r,_,hz,j,hj=>hz j (by omega)
 | i + 1,r,hr,hz,j,hj=>by
  refine zsc hp hb i _ (fun j=>zn8 hp hr _ i j) (fun j hj=>?_) j hj
  unfold zcd
  by_cases e:j=i + m
  ·subst e
   rw [if_pos (by omega),show i + m - i=m by omega]
   have h1:(r (i + m) - zh8 p iv m i r*b m) % p=0:=by
    unfold zh8
    have h2:(r (i + m)*iv % p)*b m % p=r (i + m) % p:=by
     rw [Int.mul_emod,Int.emod_emod,← Int.mul_emod,Int.mul_assoc,Int.mul_emod,Int.mul_comm iv,hb,← Int.mul_emod,Int.mul_one]
    rw [Int.sub_emod,h2,Int.sub_self]; rfl
   exact h1
  ·rw [if_neg (by omega)]
   exact hz j (by omega)
/-- Quotient and rest give what was divided. -/
theorem z06 (hp:0 < p) (hbz:∀ j,m < j→b j=0):∀ (i:Nat) (r:Nat→Int) (j:Nat),(cv (zid p b m iv i r) b i j + zns p b m iv i r j) % p=r j % p
 | 0,r,j=>by simp [cv,vE,zns]
 | i + 1,r,j=>by
  have ih:=z06 hp hbz i (zcd p b m (zh8 p iv m i r) i r) j
  simp only [zns]
  rw [zm3,zvv (g:=zid p b m iv i (zcd p b m (zh8 p iv m i r) i r)) j i fun k hk=>by simp only [zid]; rw [if_neg (by omega)]]
  have e:zid p b m iv (i + 1) r i=zh8 p iv m i r:=by simp only [zid,if_true]
  rw [e]
  generalize zh8 p iv m i r=f at *
  generalize cv (zid p b m iv i (zcd p b m f i r)) b i j=c at *
  generalize zns p b m iv i (zcd p b m f i r) j=d at *
  by_cases h:i≤j
  ·rw [if_pos h]
   by_cases h2:j≤i + m
   ·simp only [zcd] at ih
    rw [if_pos ⟨h,h2⟩,Int.emod_emod] at ih
    have e1:c + f*b (j - i) + d=(c + d) + f*b (j - i):=by omega
    rw [e1,Int.add_emod,ih,← Int.add_emod]
    congr 1
    omega
   ·simp only [zcd] at ih
    rw [if_neg (by omega)] at ih
    rw [hbz (j - i) (by omega),Int.mul_zero,Int.add_zero]
    exact ih
  ·simp only [zcd] at ih
   rw [if_neg (by omega)] at ih
   rw [if_neg h,Int.add_zero]
   exact ih
end

theorem zbj {p:Int} (hp:0 < p) {b:List Int} (hb:Row p b) (h0:b.length ≠ 0):0 < wG b∧wG b < p:=by
 have h1:=hb.rd hp (b.length - 1)
 have h2:=hb.nrm h0
 unfold wG
 omega
theorem zso {p:Int} (hp:0 < p) (a b:List Int):Row p (quo p a b):=zkv fun i _=>zt3 hp _ _ i
theorem zih {p:Int} (hp:0 < p) {a:List Int} (ha:Row p a) (b:List Int):Row p (rem p a b):=zkv fun i _=>zve hp _ _ (fun j=>ha.rd hp j) i
theorem zg8 (p:Int) (a b:List Int):(quo p a b).length≤a.length + 1 - b.length:=by rw [quo,zbb]; exact ze4 _ _
theorem zvw (p:Int) (a b:List Int):(rem p a b).length≤a.length:=by rw [rem,zbb]; exact ze4 _ _
theorem z1l (p:Int) (a b:List Int) (j:Nat):rd (quo p a b) j=zid p (rd b) (b.length - 1) (inv p (wG b)) (a.length + 1 - b.length) (rd a) j:=zn5 (fun i hi=>zs9 _ _ _ hi) j
theorem zub {p:Int} {b:Nat→Int} {m:Nat} {iv:Int}:∀ (i:Nat) (r:Nat→Int) (n:Nat),i + m≤n→(∀ j,n≤j→r j=0)→∀ j,n≤j→zns p b m iv i r j=0
 | 0,r,n,_,hz,j,hj=>hz j hj
 | i + 1,r,n,hn,hz,j,hj=>zub i _ n (by omega) (fun j hj=>by unfold zcd; rw [if_neg (by omega)]; exact hz j hj) j hj
theorem zw8 {p:Int} (a:List Int) {b:List Int} (h0:b.length ≠ 0) (j:Nat):rd (rem p a b) j=zns p (rd b) (b.length - 1) (inv p (wG b)) (a.length + 1 - b.length) (rd a) j:=by
 refine zn5 (fun i hi=>?_) j
 rcases Nat.lt_or_ge a.length b.length with h | h
 ·rw [show a.length + 1 - b.length=0 by omega]; exact vT hi
 ·exact zub _ _ a.length (by omega) (fun j hj=>vT hj) i hi
theorem zku {p:Int} (hp:isP p=true) {a b:List Int} (ha:Row p a) (hb:Row p b) (h0:b.length ≠ 0):(rem p a b).length < b.length:=by
 have hp2:=wU hp
 have hi:=ze1 hp (zbj (show 0 < p by omega) hb h0)
 have hz:∀ j,b.length - 1≤j→rd (rem p a b) j=0:=fun j hj=>by
  rw [zw8 a h0]
  refine zsc (by omega) ?_ _ _ (fun j=>ha.rd (by omega) j) (fun j hj=>vT (by omega)) j hj
  have:(1:Int) % p=1:=Int.emod_eq_of_lt (by omega) (by omega)
  rw [this]
  exact hi.2.2
 rcases Nat.lt_or_ge (rem p a b).length b.length with h | h
 ·exact h
 ·have h1:=(zih (show 0 < p by omega) ha b).nrm (by omega)
  exact absurd (hz _ (by omega)) h1
/-- What is divided is quotient times divisor, plus the rest. -/
theorem zzb {p:Int} (hp:isP p=true) {a b:List Int} (ha:Row p a) (h0:b.length ≠ 0) (j:Nat):rd a j=(conv (rd (quo p a b)) (rd b) j + rd (rem p a b) j) % p:=by
 have hp2:=wU hp
 have h:=z06 (p:=p) (b:=rd b) (m:=b.length - 1) (iv:=inv p (wG b)) (by omega) (fun j hj=>vT (by omega)) (a.length + 1 - b.length) (rd a) j
 have e:conv (rd (quo p a b)) (rd b) j=cv (zid p (rd b) (b.length - 1) (inv p (wG b)) (a.length + 1 - b.length) (rd a)) (rd b) (a.length + 1 - b.length) j:=by
  rw [← zml (n:=a.length + 1 - b.length) fun i hi=>vT (Nat.le_trans (zg8 p a b) hi)]
  exact zvv _ _ fun i _=>z1l p a b i
 have hr:=ha.rd (show 0 < p by omega) j
 rw [e,zw8 a h0,h,Int.emod_eq_of_lt hr.1 hr.2]
end Go.Proofs.YtebfhlnfmkhmcaaGreat
/- Numbers as digits. -/
namespace Go.Proofs.YtebfhlnfmkhmcaaGreat
open Go.Abs

def qM (p n:Nat):List Int:=if n=0∨p < 2 then [] else ((n % p:Nat):Int) :: qM p (n / p)
termination_by n
decreasing_by exact Nat.div_lt_self (by omega) (by omega)

theorem jH (p:Nat):qM p 0=[]:=by rw [qM]; simp

theorem zan {p n:Nat} (hp:2≤p) (hn:0 < n):qM p n=((n % p:Nat):Int) :: qM p (n / p):=by
 rw [qM,if_neg (by omega)]

theorem z23 {p:Nat} (hp:2≤p):∀ n:Nat,∀ d∈qM p n,0≤d∧d < p:=by
 intro n
 induction n using Nat.strongRecOn with
 | ind n ih =>
  intro d hd
  by_cases h:n=0
  ·subst h; rw [jH] at hd; cases hd
  ·rw [zan hp (by omega)] at hd
   rcases List.mem_cons.1 hd with rfl | hd
   ·have:=Nat.mod_lt n (show p > 0 by omega)
    generalize n % p=x at this
    omega
   ·exact ih _ (Nat.div_lt_self (by omega) hp) d hd

theorem zuc {p:Nat} (hp:2≤p):∀ (k n:Nat),n < 2 ^ k→(qM p n).length≤k
 | 0,n,h=>by
  have:n=0:=by simpa using h
  subst this; rw [jH]; simp
 | k + 1,n,h=>by
  by_cases hn:n=0
  ·subst hn; rw [jH]; simp
  ·rw [zan hp (by omega)]
   have:n / p < 2 ^ k:=by
    have h1:n / p≤n / 2:=Nat.div_le_div_left hp (by omega)
    have h2:n / 2 < 2 ^ k:=by rw [Nat.pow_succ] at h; omega
    omega
   have:=zuc hp k _ this
   simp only [List.length_cons]; omega

theorem zw4 {p n:Nat} (hp:2≤p) (hn:n≤1000000000000):(qM p n).length≤40:=zuc hp 40 n (by omega)

theorem zmv (x:Int) (l:List Int) (i:Nat):rd (x :: l) (i + 1)=rd l i:=by simp [rd]
theorem zff {p:Nat} (hp:2≤p) (n:Nat):Row p (qM p n):=by
 refine ⟨fun d hd=>?_,?_⟩
 ·have:=z23 hp n d hd; omega
 ·induction n using Nat.strongRecOn with
  | ind n ih =>
   intro h
   have hn:0 < n:=by
    rcases Nat.eq_zero_or_pos n with rfl | h'
    ·rw [jH] at h; simp at h
    ·exact h'
   rw [zan hp hn]
   simp only [List.length_cons,Nat.add_sub_cancel]
   rcases Nat.eq_zero_or_pos (n / p) with h0 | h0
   ·rw [h0,jH]
    have:n < p:=by
     rcases Nat.lt_or_ge n p with h | h
     ·exact h
     ·have:=Nat.div_pos h (by omega); omega
    rw [Nat.mod_eq_of_lt this]
    simp [rd]; omega
   ·have hlt:n / p < n:=Nat.div_lt_self hn (by omega)
    have h1:(qM p (n / p)).length ≠ 0:=by rw [zan hp h0]; simp
    have h2:=ih _ hlt h1
    obtain ⟨m,hm⟩:∃ m,(qM p (n / p)).length=m + 1:=⟨(qM p (n / p)).length - 1,by omega⟩
    rw [hm] at h2 ⊢
    rw [zmv]
    simpa using h2
theorem zm8 {p:Nat} (hp:2≤p):∀ (d n:Nat),p ^ d≤n→n < p ^ (d + 1)→(qM p n).length=d + 1
 | 0,n,h1,h2=>by
  simp only [Nat.pow_zero,Nat.zero_add,Nat.pow_one] at h1 h2
  rw [zan hp (by omega),Nat.div_eq_of_lt h2,jH]; rfl
 | d + 1,n,h1,h2=>by
  have hpos:0 < p ^ (d + 1):=Nat.pow_pos (by omega)
  have h3:p ^ d≤n / p:=by
   rw [Nat.le_div_iff_mul_le (by omega)]
   rwa [← Nat.pow_succ]
  have h4:n / p < p ^ (d + 1):=by
   rw [Nat.div_lt_iff_lt_mul (by omega)]
   rwa [← Nat.pow_succ]
  rw [zan hp (by omega),List.length_cons,zm8 hp d _ h3 h4]
theorem zau {p:Nat} (hp:2≤p) {d i:Nat} (hi:i < p ^ d):(qM p (p ^ d + i)).length=d + 1:=by
 refine zm8 hp d _ (by omega) ?_
 have:p ^ (d + 1)=p ^ d*p:=Nat.pow_succ ..
 have h2:p ^ d*2≤p ^ d*p:=Nat.mul_le_mul_left _ hp
 omega
end Go.Proofs.YtebfhlnfmkhmcaaGreat
/- The polynomials modulo p as a ring; irreducible ones. -/
namespace Go.Proofs.YtebfhlnfmkhmcaaGreat
open Go.Abs

structure Pri where
 n:Nat
 ok:isP (n:Int)=true
def Pri.p (P:Pri):Int:=P.n
theorem Pri.okp (P:Pri):isP P.p=true:=P.ok
theorem Pri.pos (P:Pri):0 < P.p:=by have:=wU P.ok; unfold Pri.p; omega
theorem Pri.two (P:Pri):2≤P.p∧P.p≤7:=wU P.ok
theorem Pri.is (P:Pri):P.n=2∨P.n=3∨P.n=5∨P.n=7:=by
 have:=zpi.1 P.ok; omega
structure PP (P:Pri) where
 l:List Int
 row:Row P.p l
theorem zh3 {P:Pri}:∀ {a b:PP P},a.1=b.1→a=b
 | ⟨_,_⟩,⟨_,_⟩,h=>by cases h; rfl
variable {P:Pri}
def PP.len (a:PP P):Nat:=a.1.length
def PP.c (a:PP P) (i:Nat):Int:=rd a.1 i
theorem PP.c_res (a:PP P) (i:Nat):0≤a.c i∧a.c i < P.p:=a.2.rd P.pos i
theorem PP.c_mod (a:PP P) (i:Nat):a.c i % P.p=a.c i:=a.2.mod P.pos i
theorem zez {a b:PP P} (h:∀ i,a.c i=b.c i):a=b:=zh3 (zgy a.2 b.2 h)
theorem z52 {p:Int} (hp:2≤p):Row p [1]:=⟨by simp; omega,by simp [rd]⟩
theorem z7c {p:Int} (hp:2≤p):Row p [0,1]:=⟨by simp; omega,by simp [rd]⟩
instance:Add (PP P):=⟨fun a b=>⟨zb8 P.p a.1 b.1 1,zbm P.pos _ _ _⟩⟩
instance:Mul (PP P):=⟨fun a b=>⟨mul P.p a.1 b.1,zd7 P.pos _ _⟩⟩
instance:Neg (PP P):=⟨fun a=>⟨zb8 P.p [] a.1 (-1),zbm P.pos _ _ _⟩⟩
instance:Zero (PP P):=⟨⟨[],zcz _⟩⟩
instance:One (PP P):=⟨⟨[1],z52 P.two.1⟩⟩
def ppm (l:List Int) (h:Row P.p l):PP P:=⟨l,h⟩
def ppT:PP P:=⟨[0,1],z7c P.two.1⟩
theorem zgb (a b:PP P) (i:Nat):(a + b).c i=(a.c i + b.c i) % P.p:=by
 show rd (zb8 P.p a.1 b.1 1) i=_
 rw [zfs,Int.one_mul]; rfl
theorem zyn (a:PP P) (i:Nat):(-a).c i=(-a.c i) % P.p:=by
 show rd (zb8 P.p [] a.1 (-1)) i=_
 rw [zfs,ztn,Int.zero_add,Int.neg_mul,Int.one_mul]; rfl
theorem zmx (a b:PP P) (i:Nat):(a*b).c i=conv a.c b.c i % P.p:=zhh _ _ _ _
theorem zpr (i:Nat):(0:PP P).c i=0:=ztn i
theorem zN:IsRing (PP P) where
 add_comm a b:=zez fun i=>by rw [zgb,zgb,Int.add_comm]
 add_assoc a b c:=zez fun i=>by simp only [zgb,Int.emod_add_emod,Int.add_emod_emod,Int.add_assoc]
 add_zero a:=zez fun i=>by rw [zgb,zpr,Int.add_zero,PP.c_mod]
 add_neg a:=zez fun i=>by rw [zgb,zyn,zpr,Int.add_emod_emod,Int.add_right_neg]; rfl
 mul_comm a b:=zh3 (zkh _ _ _)
 mul_assoc a b c:=zh3 (zws P.pos _ _ _)
 mul_one a:=zh3 (z1n P.pos a.2)
 mul_add a b c:=zh3 (z2d P.pos _ _ _ _)

theorem wT {a:PP P}:a.len=0 ↔ a=0:=⟨fun h=>zh3 (List.eq_nil_of_length_eq_zero h),fun h=>by rw [h]; rfl⟩
theorem zfr:(1:PP P).len=1:=rfl
theorem zw6:(1:PP P) ≠ 0:=fun h=>by have:=wT.2 h; rw [zfr] at this; omega
theorem zcx {a b:PP P} (ha:a ≠ 0) (hb:b ≠ 0):(a*b).len=a.len + b.len - 1 :=
 zv2 P.ok a.2 b.2 (fun h=>ha (wT.1 h)) (fun h=>hb (wT.1 h))
theorem zb5 (a b:PP P):(a + b).len≤max a.len b.len:=zdd _ _ _ _
theorem zb7 (a:PP P):(-a).len≤a.len:=by
 have:=zdd P.p [] a.1 (-1)
 show (zb8 P.p [] a.1 (-1)).length≤a.1.length
 simpa using this
theorem qW {a:PP P} (h:a ≠ 0):1≤a.len:=by
 rcases Nat.eq_zero_or_pos a.len with h0 | h0
 ·exact absurd (wT.1 h0) h
 ·exact h0
theorem zei:∀ a b:PP P,a*b=0→a=0∨b=0:=fun a b h=>by
 by_cases ha:a=0
 ·exact .inl ha
 ·by_cases hb:b=0
  ·exact .inr hb
  ·have h1:=zcx ha hb
   rw [h,wT.2 rfl] at h1
   have:=qW ha
   have:=qW hb
   omega
theorem zon (n:Nat) (a:PP P) (i:Nat):(mF n a).c i=(n*a.c i) % P.p:=by
 induction n with
 | zero=>simp [mF,zpr]
 | succ n ih =>
  simp only [mF,zgb,ih,Int.emod_add_emod]
  congr 1
  rw [Int.natCast_succ,Int.add_mul,Int.one_mul]
theorem z3q (x:PP P):mF P.n x=0:=zez fun i=>by
 rw [zon,zpr]
 exact Int.emod_eq_zero_of_dvd ⟨x.c i,rfl⟩

/-! Division. -/
def za2 (a b:PP P):PP P:=⟨quo P.p a.1 b.1,zso P.pos _ _⟩
def yX (a b:PP P):PP P:=⟨rem P.p a.1 b.1,zih P.pos a.2 _⟩
theorem zj2 (a:PP P) {b:PP P} (hb:b ≠ 0):a=za2 a b*b + yX a b∧(yX a b).len < b.len:=by
 have h0:b.1.length ≠ 0:=fun h=>hb (wT.1 h)
 refine ⟨zez fun i=>?_,zku P.ok a.2 b.2 h0⟩
 rw [zgb,zmx,Int.emod_add_emod]
 exact zzb P.ok a.2 h0 i
theorem zdr {a b:PP P} (h:Dv a b) (hb:b ≠ 0):a.len≤b.len:=by
 obtain ⟨q,rfl⟩:=h
 have hq:q ≠ 0:=fun e=>hb (by rw [e,zN.zero_mul])
 have ha:a ≠ 0:=fun e=>hb (by rw [e,zN.mul_zero])
 have:=zcx hq ha
 have:=qW hq
 omega
theorem zmp {a b:PP P} (h:Dv a b) (hl:b.len < a.len):b=0:=by
 by_cases hb:b=0
 ·exact hb
 ·have:=zdr h hb; omega
theorem zuq {a b:PP P} (hb:b ≠ 0):yX a b=0 ↔ Dv b a:=by
 obtain ⟨h1,h2⟩:=zj2 a hb
 constructor
 ·intro h
  rw [h,zN.add_zero] at h1
  exact ⟨_,h1⟩
 ·intro h
  rw [h1] at h
  exact zmp (zN.dv_sub h (zN.dv_mul (zN.dv_refl b) _)) h2
theorem z0e {a b q r:PP P} (hb:b ≠ 0) (h:a=q*b + r) (hr:r.len < b.len):za2 a b=q∧yX a b=r:=by
 obtain ⟨h1,h2⟩:=zj2 a hb
 have R:IsRing (PP P):=zN
 have e:(za2 a b + -q)*b=r + -yX a b:=by
  have h3:q*b + r=za2 a b*b + yX a b:=by rw [← h,← h1]
  rw [R.add_mul,R.mul_comm (-q),R.mul_neg,R.mul_comm b q]
  refine R.cancel (a:=q*b) ?_
  rw [R.add_left_comm,R.add_neg,R.add_zero]
  refine R.cancel (a:=yX a b) ?_
  rw [R.add_comm (yX a b),← h3,R.add_left_comm (yX a b),R.add_left_comm (yX a b),R.add_neg,R.add_zero]
 have hz:r + -yX a b=0:=by
  refine zmp (a:=b) ⟨_,e.symm⟩ ?_
  have:=zb5 r (-yX a b)
  have:=zb7 (yX a b)
  omega
 have hr':=R.sub_zero hz
 refine ⟨?_,hr'.symm⟩
 rw [hz] at e
 rcases zei _ _ e with h4 | h4
 ·exact R.sub_zero h4
 ·exact absurd h4 hb

/-! Units, the greatest common divisor. -/
theorem ztc {a:PP P} (h:a.len=1):∃ b,b*a=1:=by
 have hc:=a.c_res 0
 have hn:a.c 0 ≠ 0:=by
  have:=a.2.nrm (by have:a.1.length=1:=h; omega)
  have h1:a.1.length=1:=h
  rw [h1] at this
  exact this
 obtain ⟨i1,i2,i3⟩:=ze1 P.ok (x:=a.c 0) ⟨by omega,hc.2⟩
 have hr:Row P.p [inv P.p (a.c 0)]:=⟨by simp only [List.mem_singleton,forall_eq]; exact ⟨by have:0 < inv P.p (a.c 0):=i1; omega,i2⟩,fun _=>by simp [rd]; have:0 < inv P.p (a.c 0):=i1; omega⟩
 refine ⟨ppm _ hr,?_⟩
 refine zez fun i=>?_
 have h1:a.1.length=1:=h
 rw [zmx]
 have e1:(1:PP P).c i=if i=0 then 1 else 0:=by
  show rd [1] i=_
  by_cases hi:i=0
  ·subst hi; simp [rd]
  ·rw [if_neg hi,vT (by simp; omega)]
 rw [e1]
 by_cases hi:i=0
 ·subst hi
  rw [if_pos rfl]
  have:conv (PP.c (ppm _ hr:PP P)) a.c 0=inv P.p (a.c 0)*a.c 0:=by
   simp [conv,cv,vE,PP.c,ppm,rd]
  rw [this,Int.mul_comm]
  exact i3
 ·have z1:∀ j,1≤j→(ppm _ hr:PP P).c j=0:=fun j hj=>vT (l:=[inv P.p (a.c 0)]) (by simpa using hj)
  have z2:∀ j,1≤j→a.c j=0:=fun j hj=>vT (l:=a.1) (by omega)
  rw [if_neg hi,zsh (n:=1) (m:=1) z1 z2 (by omega)]
  rfl
theorem znp:∀ (n:Nat) (a b:PP P),b.len≤n→∃ g u v,g=u*a + v*b∧Dv g a∧Dv g b
 | 0,a,b,h=>by
  have hb:b=0:=wT.1 (by omega)
  subst hb
  exact ⟨a,1,0,by rw [zN.one_mul,zN.zero_mul,zN.add_zero],zN.dv_refl a,zN.dv_zero a⟩
 | n + 1,a,b,h=>by
  by_cases hb:b=0
  ·subst hb
   exact ⟨a,1,0,by rw [zN.one_mul,zN.zero_mul,zN.add_zero],zN.dv_refl a,zN.dv_zero a⟩
  ·obtain ⟨h1,h2⟩:=zj2 a hb
   obtain ⟨g,u,v,e,d1,d2⟩:=znp n b (yX a b) (by omega)
   have R:IsRing (PP P):=zN
   refine ⟨g,v,u + -(v*za2 a b),?_,?_,d1⟩
   ·have e2:v*a=v*(za2 a b*b) + v*yX a b:=by rw [← R.mul_add,← h1]
    have e3:-(v*za2 a b)*b=-(v*(za2 a b*b)):=by rw [R.mul_comm (-(v*za2 a b)),R.mul_neg,R.mul_comm b,R.mul_assoc]
    rw [e2,R.add_mul,e3,e]
    generalize v*(za2 a b*b)=x
    generalize v*yX a b=y
    generalize u*b=z
    rw [R.add_comm z (-x),R.add_assoc x,R.add_left_comm y,← R.add_assoc x,R.add_neg,R.zero_add,R.add_comm]
   ·rw [h1]
    exact R.dv_add (R.dv_mul d1 _) d2

def Irr (f:PP P):Prop:=2≤f.len∧∀ a b:PP P,f=a*b→a.len=1∨b.len=1
theorem Irr.ne {f:PP P} (h:Irr f):f ≠ 0:=fun e=>by have:=h.1; rw [wT.2 e] at this; omega
/-- What divides an irreducible polynomial is a unit, or is divided by it. -/
theorem Irr.dv {f g:PP P} (h:Irr f) (hg:Dv g f):g.len=1∨Dv f g:=by
 obtain ⟨q,e⟩:=hg
 rcases h.2 q g e with h1 | h1
 ·obtain ⟨u,hu⟩:=ztc h1
  exact .inr ⟨u,by rw [e,← zN.mul_assoc,hu,zN.one_mul]⟩
 ·exact .inl h1
theorem Irr.coprime {f a:PP P} (h:Irr f) (ha:¬ Dv f a):∃ u v,u*a + v*f=1:=by
 obtain ⟨g,u,v,e,d1,d2⟩:=znp f.len a f (Nat.le_refl _)
 rcases h.dv d2 with h1 | h1
 ·obtain ⟨w,hw⟩:=ztc h1
  exact ⟨w*u,w*v,by rw [← hw,e,zN.mul_add,zN.mul_assoc,zN.mul_assoc]⟩
 ·exact absurd (zN.dv_trans h1 d1) ha
theorem Irr.prime {f a b:PP P} (h:Irr f) (hab:Dv f (a*b)):Dv f a∨Dv f b:=by
 by_cases ha:Dv f a
 ·exact .inl ha
 ·obtain ⟨u,v,e⟩:=h.coprime ha
  refine .inr ?_
  have e2:b=u*(a*b) + v*b*f:=by
   rw [← zN.mul_assoc,zN.mul_assoc v b,zN.mul_comm b f,← zN.mul_assoc v f,← zN.add_mul,e,zN.one_mul]
  rw [e2]
  exact zN.dv_add (zN.dv_mul hab u) (zN.dv_mul (zN.dv_refl f) _)
/-- What is not irreducible has a divisor of at most half its degree. -/
theorem Irr.of_not {f:PP P} (h2:2≤f.len) (h:¬ Irr f):∃ a b,f=a*b∧2≤a.len∧2≤b.len∧a.len < f.len∧b.len < f.len∧a.len + b.len=f.len + 1:=by
 have h3:∃ a b,f=a*b∧¬ (a.len=1∨b.len=1):=Classical.byContradiction fun hn=>h ⟨h2,fun a b e=>Classical.byContradiction fun hc=>hn ⟨a,b,e,hc⟩⟩
 obtain ⟨a,b,e,hc⟩:=h3
 have hf:f ≠ 0:=fun e0=>by rw [wT.2 e0] at h2; omega
 have ha:a ≠ 0:=fun e0=>hf (by rw [e,e0,zN.zero_mul])
 have hb:b ≠ 0:=fun e0=>hf (by rw [e,e0,zN.mul_zero])
 have h4:=zcx ha hb
 rw [← e] at h4
 have:=qW ha
 have:=qW hb
 exact ⟨a,b,e,by omega,by omega,by omega,by omega,by omega⟩
theorem zix:∀ (n:Nat) (f:PP P),f.len≤n→2≤f.len→∃ g,Irr g∧Dv g f
 | 0,f,h,h2=>by omega
 | n + 1,f,h,h2=>by
  by_cases hi:Irr f
  ·exact ⟨f,hi,zN.dv_refl f⟩
  ·obtain ⟨a,b,e,h3,h4,h5,_⟩:=Irr.of_not h2 hi
   obtain ⟨g,hg,hd⟩:=zix n a (by omega) h3
   exact ⟨g,hg,by rw [e]; exact zN.dv_mul' hd b⟩
/-- One of at most half the degree. -/
theorem zor {f:PP P} (h2:2≤f.len) (h:¬ Irr f):∃ g,Irr g∧Dv g f∧2*(g.len - 1)≤f.len - 1:=by
 obtain ⟨a,b,e,h3,h4,h5,h6,h7⟩:=Irr.of_not h2 h
 have hne:∀ {x:PP P},2≤x.len→x ≠ 0:=fun h e=>by rw [wT.2 e] at h; omega
 rcases Nat.le_total a.len b.len with hl | hl
 ·obtain ⟨g,hg,hd⟩:=zix a.len a (Nat.le_refl _) h3
  have:=zdr hd (hne h3)
  exact ⟨g,hg,by rw [e]; exact zN.dv_mul' hd b,by omega⟩
 ·obtain ⟨g,hg,hd⟩:=zix b.len b (Nat.le_refl _) h4
  have:=zdr hd (hne h4)
  exact ⟨g,hg,by rw [e]; exact zN.dv_mul hd a,by omega⟩
end Go.Proofs.YtebfhlnfmkhmcaaGreat
/- Irreducible polynomials modulo p: which of them divide T^(p^n) - T. -/
namespace Go.Proofs.YtebfhlnfmkhmcaaGreat
open Go.Abs

/-! Numbers of polynomials. -/
def num (p:Nat):List Int→Nat
 | []=>0
 | c :: l=>c.toNat + p*num p l
theorem zgh {p c:Int} {l:List Int} (h:Row p (c :: l)):Row p l:=by
 refine ⟨fun d hd=>h.res d (by simp [hd]),fun hl=>?_⟩
 have:=h.nrm (by simp)
 simp only [List.length_cons,Nat.add_sub_cancel] at this
 obtain ⟨m,hm⟩:∃ m,l.length=m + 1:=⟨l.length - 1,by omega⟩
 rw [hm,zmv] at this
 rw [hm]; exact this
theorem zna {p:Nat} (hp:2≤p):∀ l:List Int,Row p l→qM p (num p l)=l
 | [],_=>jH p
 | c :: l,h=>by
  have hc:=h.res c (by simp)
  have ih:=zna hp l (zgh h)
  have e1:(c.toNat + p*num p l) % p=c.toNat:=by rw [Nat.add_mul_mod_self_left,Nat.mod_eq_of_lt (by omega)]
  have e2:(c.toNat + p*num p l) / p=num p l:=by rw [Nat.add_mul_div_left _ _ (by omega),Nat.div_eq_of_lt (by omega)]; omega
  have hpos:0 < c.toNat + p*num p l:=by
   cases l with
   | nil =>
    have:=h.nrm (by simp)
    simp [rd] at this
    omega
   | cons d l =>
    have:num p (d :: l) ≠ 0:=fun e=>by rw [e,jH] at ih; cases ih
    have:0 < p*num p (d :: l):=Nat.mul_pos (by omega) (by omega)
    omega
  simp only [num]
  rw [zan hp hpos,e1,e2,ih]
  congr 1
  omega
theorem zwm {p:Nat} (hp:2≤p):∀ l:List Int,Row p l→num p l < p ^ l.length
 | [],_=>by simp [num]
 | c :: l,h=>by
  have hc:=h.res c (by simp)
  have ih:=zwm hp l (zgh h)
  simp only [num,List.length_cons,Nat.pow_succ]
  have h1:p*(num p l + 1)≤p*p ^ l.length:=Nat.mul_le_mul_left _ ih
  rw [Nat.mul_add,Nat.mul_one] at h1
  rw [Nat.mul_comm (p ^ l.length)]
  omega
theorem zm4 {p:Nat} (hp:2≤p) (n:Nat):num p (qM p n)=n:=by
 induction n using Nat.strongRecOn with
 | ind n ih =>
  rcases Nat.eq_zero_or_pos n with rfl | h
  ·rw [jH]; rfl
  ·rw [zan hp h]
   simp only [num]
   rw [ih _ (Nat.div_lt_self h hp),Int.toNat_natCast]
   exact Nat.mod_add_div n p
theorem zkc {p:Nat} (hp:2≤p):∀ (d n:Nat),n < p ^ d→(qM p n).length≤d
 | 0,n,h=>by
  have:n=0:=by simpa using h
  subst this; rw [jH]; simp
 | d + 1,n,h=>by
  rcases Nat.eq_zero_or_pos n with rfl | hn
  ·rw [jH]; simp
  ·rw [zan hp hn]
   have:n / p < p ^ d:=by
    rw [Nat.div_lt_iff_lt_mul (by omega),← Nat.pow_succ]; exact h
   have:=zkc hp d _ this
   simp only [List.length_cons]; omega

variable {P:Pri}
theorem Pri.ge (P:Pri):2≤P.n:=by have:=P.is; omega
def ppn (P:Pri) (n:Nat):PP P:=⟨qM P.n n,zff P.ge n⟩
theorem z3p (a:PP P):ppn P (num P.n a.1)=a:=zh3 (zna P.ge _ a.2)
theorem z3e {n m:Nat} (h:ppn P n=ppn P m):n=m:=by
 have:qM P.n n=qM P.n m:=congrArg PP.l h
 rw [← zm4 P.ge n,this,zm4 P.ge]
theorem zxu {d n:Nat} (h:n < P.n ^ d):(ppn P n).len≤d:=zkc P.ge d n h

theorem z1y (g:Nat→Int) (i:Nat):conv (rd ([0,1]:List Int)) g i=if 1≤i then g (i - 1) else 0:=by
 rw [← zml (n:=2) fun j hj=>vT (by simpa using hj)]
 simp only [cv,vE]
 have e0:rd ([0,1]:List Int) 0=0:=rfl
 have e1:rd ([0,1]:List Int) 1=1:=rfl
 rw [e0,e1,if_pos (Nat.zero_le i)]
 split <;> simp
theorem zx1 (i:Nat):(1:PP P).c i=if i=0 then 1 else 0:=by
 show rd [1] i=_
 by_cases hi:i=0
 ·subst hi; simp [rd]
 ·rw [if_neg hi,vT (by simp; omega)]
/-- All polynomials come from 0 by times T and plus 1. -/
theorem z4k {S:PP P→Prop} (h0:S 0) (hT:∀ x,S x→S (ppT*x)) (h1:∀ x,S x→S (x + 1)) (a:PP P):S a:=by
 have hk:∀ k x,S x→S (x + mF k 1):=by
  intro k
  induction k with
  | zero=>intro x hx; simp only [mF]; rw [zN.add_zero]; exact hx
  | succ k ih=>intro x hx; simp only [mF]; rw [← zN.add_assoc]; exact h1 _ (ih x hx)
 have key:∀ (l:List Int) (h:Row P.p l),S (ppm l h):=by
  intro l
  induction l with
  | nil=>intro h; exact h0
  | cons c l ih =>
   intro h
   have hc:=h.res c (by simp)
   have e:(ppm (c :: l) h:PP P)=ppT*ppm l (zgh h) + mF c.toNat 1:=by
    refine zez fun i=>?_
    rw [zgb,zmx,zon,zx1]
    have e1:conv (PP.c (ppT:PP P)) (PP.c (ppm l (zgh h):PP P)) i=if 1≤i then rd l (i - 1) else 0:=z1y _ i
    rw [e1]
    cases i with
    | zero =>
     rw [if_neg (by omega),if_pos rfl,Int.mul_one,Int.emod_add_emod,Int.add_emod_emod,Int.zero_add,Int.toNat_of_nonneg hc.1,Int.emod_eq_of_lt hc.1 hc.2]
     rfl
    | succ i =>
     rw [if_pos (by omega),if_neg (by omega),Int.mul_zero,Int.emod_add_emod,Int.zero_emod,Int.add_zero,Nat.add_sub_cancel,(zgh h).mod P.pos]
     exact zmv c l i
   rw [e]
   exact hk _ _ (hT _ (ih _))
 exact key a.1 a.2

/-! Residues by an irreducible polynomial. -/
section
variable {f:PP P} (hf:Irr f)
include hf
theorem z36:∀ x y:Qt zN f,x*y=0→x=0∨y=0:=by
 refine mW _ _ fun a=>mW _ _ fun b=>fun h=>?_
 have h1:Dv f (a*b):=(zg6 zN).1 h
 rcases hf.prime h1 with h2 | h2
 ·exact .inl ((zg6 zN).2 h2)
 ·exact .inr ((zg6 zN).2 h2)
theorem z4a:(1:Qt zN f) ≠ 0:=fun h=>by
 have h1:Dv f 1:=(zg6 zN).1 h
 have:=zdr h1 zw6
 have:=hf.1
 rw [zfr] at *
 omega
omit hf in
theorem z41 (x:Qt zN f):mF P.n x=0:=by
 refine mW zN f (P:=fun x=>mF P.n x=0) (fun a=>?_) x
 rw [← z4w,z3q]; rfl
omit hf in
/-- All residues. -/
def els (f:PP P):List (Qt zN f):=(List.range (P.n ^ (f.len - 1))).map fun n=>qm zN f (ppn P n)
omit hf in
theorem zx8:(els f).length=P.n ^ (f.len - 1):=by simp [els]
theorem z3k (x:Qt zN f):x∈els f:=by
 refine mW zN f (P:=fun x=>x∈els f) (fun a=>?_) x
 obtain ⟨h1,h2⟩:=zj2 a hf.ne
 refine List.mem_map.2 ⟨num P.n (yX a f).1,List.mem_range.2 ?_,?_⟩
 ·refine Nat.lt_of_lt_of_le (zwm P.ge _ (yX a f).2) (Nat.pow_le_pow_right (by have:=P.ge; omega) ?_)
  show (yX a f).len≤_
  omega
 ·rw [z3p,zke]
  have R:IsRing (PP P):=zN
  have e:yX a f + -a=-(za2 a f)*f:=by
   have:a=za2 a f*f + yX a f:=h1
   have h3:-(za2 a f)*f=-(za2 a f*f):=by rw [R.mul_comm,R.mul_neg,R.mul_comm]
   rw [h3]
   refine R.neg_of ?_
   rw [← R.add_assoc,← this,R.add_neg]
  exact ⟨_,e⟩
theorem zrq:(els f).Nodup:=by
 refine List.pairwise_map.2 ?_
 refine List.Pairwise.imp_of_mem ?_ List.nodup_range
 intro n m hn hm hne h
 have h1:=(zke zN).1 h
 have l1:=zxu (P:=P) (List.mem_range.1 hn)
 have l2:=zxu (P:=P) (List.mem_range.1 hm)
 have:=zb5 (ppn P n) (-ppn P m)
 have:=zb7 (ppn P m)
 have:=hf.1
 have h2:=zmp h1 (by omega)
 exact hne (z3e (zN.sub_zero h2))
/-- An irreducible polynomial of the degree d divides T^(p^d) - T. -/
theorem z42:Dv f (pw ppT (P.n ^ (f.len - 1)) + -ppT):=by
 have h:=(z38 zN f).fermat (z36 hf) (z4a hf) (zrq hf) (z3k hf) (qm zN f ppT)
 rw [zx8,← z4f] at h
 exact (zke zN).1 h
/-- One that divides T^(p^n) - T has at most the degree n. -/
theorem z5w {n:Nat} (hn:1≤n) (h:Dv f (pw ppT (P.n ^ n) + -ppT)):f.len≤n + 1:=by
 have Q:=z38 zN f
 have hT:pw (qm zN f ppT) (P.n ^ n)=qm zN f ppT:=by
  rw [← z4f]; exact (zke zN).2 h
 have hN:2≤P.n ^ n:=Nat.le_trans P.ge (Nat.le_self_pow (by omega) _)
 have hall:∀ a:PP P,pw (qm zN f a) (P.n ^ n)=qm zN f a:=by
  refine z4k ?_ (fun x hx=>?_) (fun x hx=>?_)
  ·rw [z3z]; exact Q.pw_zero (by omega)
  ·rw [z11,Q.mul_pw,hT,hx]
  ·rw [z1b,Q.frobn P.is z41,hx,z5n,Q.pw_one]
 have h1:=Q.fixed_le (z36 hf) (z4a hf) hN (zrq hf) fun x _=>mW zN f (P:=fun x=>pw x (P.n ^ n)=x) hall x
 rw [zx8] at h1
 have:=(Nat.pow_le_pow_iff_right (show 1 < P.n by have:=P.ge; omega)).1 h1
 omega
end
end Go.Proofs.YtebfhlnfmkhmcaaGreat
/- Inverses modulo p, in the program. -/
namespace Go.Proofs.YtebfhlnfmkhmcaaGreat
open Go.Abs

theorem ziw {p x:Int} (hp:isP p=true) (hx:0 < x∧x < p):kL p x=some (inv p x):=by
 have hp2:=wU hp
 obtain ⟨n,hn⟩:∃ n:Nat,p - 2=n:=⟨(p - 2).toNat,by omega⟩
 have ew:IntKind.i64.wrap (p - 2)=(n:Int):=by rw [zX (by omega) (by omega),hn]
 obtain ⟨c,h1,h2⟩:=wR (body:=fun s:Int×Int=>uO p x s.1 s.2) (fun i c=>(c,(i:Int))) (fun c=>c) n
  (fun i c=>c=x ^ i % p) (fun i c hi hI=>by
   subst hI
   have h3:=zaq (show 0 < p by omega) (x ^ i)
   have h4:=mI (x:=x ^ i % p) (y:=x) (by omega) (by omega)
   refine ⟨x ^ (i + 1) % p,?_,rfl⟩
   simp only [uO]
   rw [ew,if_pos (decide_eq_true (by omega)),yA (by omega),zX (n:=x ^ i % p*x) (by omega) (by omega),Int.tmod_eq_emod_of_nonneg h4.1,zX (by omega) (by omega)]
   have:x ^ i % p*x % p=x ^ (i + 1) % p:=by rw [Int.pow_succ,Int.mul_emod (x ^ i % p),Int.emod_emod,← Int.mul_emod]
   rw [this]; rfl) (fun c hI=>by
   simp only [uO]
   rw [ew,if_neg (by rw [decide_eq_true_eq]; omega)]) n 0 1 (by omega) (by rw [Int.pow_zero,Int.emod_eq_of_lt (by omega) (by omega)])
 have h1':yK (fun s:Int×Int=>uO p x s.1 s.2) (1,0)=some c:=h1
 simp only [kL,h1',Option.bind_some]
 rw [h2,← z2w hp hx,hn,Int.toNat_natCast]
end Go.Proofs.YtebfhlnfmkhmcaaGreat
/- Rows without the zeros at their ends. -/
namespace Go.Proofs.YtebfhlnfmkhmcaaGreat
open Go.Abs

def IsB (v:V64):Prop:=∀ d∈v.1,0≤d∧d < 256

theorem IsB.rd {v:V64} (h:IsB v) {j:Nat} (hj:j < 64):0≤rd v.1 j∧rd v.1 j < 256:=by
 have hl:j < v.1.length:=by rw [v.2]; exact hj
 have:Abs.rd v.1 j=v.1[j]:=by simp [Abs.rd,hl]
 rw [this]; exact h _ (List.getElem_mem _)

theorem zsw {l:List Int} (hl:l.length≤1000000):∀ s:Int,(∃ i:Nat,s=i∧i≤l.length)→∃ r,yK (fun s:Int=>qP l s) s=some r∧∀ i:Nat,s=i→r=(top (rd l) i:Int):=by
 refine zbr (fun (s:Int)=>∃ i:Nat,s=i∧i≤l.length) (fun (s:Int) (r:Int)=>∀ i:Nat,s=i→r=(top (rd l) i:Int)) (fun s=>s.toNat) ?_
 rintro s ⟨i,rfl,hi⟩
 match i with
 | 0 =>
  right
  refine ⟨0,by simp [qP],fun k hk=>?_⟩
  have:k=0:=by omega
  subst this; simp [top]
 | i + 1 =>
  have e1:IntKind.i64.wrap (((i + 1:Nat):Int) - 1)=(i:Int):=by rw [zX (by omega) (by omega)]; omega
  by_cases e:rd l i=0
  ·left
   refine ⟨(i:Int),?_,⟨i,rfl,by omega⟩,by omega,fun r hr k hk=>?_⟩
   ·simp only [qP,e1]
    rw [if_pos (by simp),yA (by omega)]
    simp [e]
   ·have:k=i + 1:=by omega
    subst this
    rw [hr i rfl]; simp [top,e]
  ·right
   refine ⟨((i + 1:Nat):Int),?_,fun k hk=>?_⟩
   ·simp only [qP,e1]
    rw [if_pos (by simp),yA (by omega)]
    simp [e]
   ·have:k=i + 1:=by omega
    subst this
    simp [top,e]

theorem zgf {l:List Int} (hl:l.length≤1000000):kN l=some (l.take (top (rd l) l.length)):=by
 obtain ⟨r,h1,h2⟩:=zsw hl (l.length:Nat) ⟨l.length,rfl,Nat.le_refl _⟩
 rw [h2 _ rfl] at h1
 have:=ze4 (rd l) l.length
 simp only [kN,h1,Option.bind_some]
 rw [yA (by omega)]
 simp

end Go.Proofs.YtebfhlnfmkhmcaaGreat
/- Sums, in the program. -/
namespace Go.Proofs.YtebfhlnfmkhmcaaGreat
open Go.Abs

theorem z4i (l:List Int) (i:Nat):zfi l i=some (rd l i):=by
 unfold zfi
 by_cases h:i < l.length
 ·rw [if_pos (by simpa using h),yA (by omega)]; simp
 ·rw [if_neg (by simpa using h),vT (by omega)]

theorem zrm {p n:Int} (hp:0 < p∧p≤256) (hn:-4611686018427387904≤n∧n < 4611686018427387904):mQ p n=some (n % p):=by
 unfold mQ
 have h1:=Int.lt_tmod_of_pos n hp.1
 have h2:=Int.tmod_lt_of_pos n hp.1
 rw [yA (by omega),yA (by omega),zX (by omega) (by omega),zms hp.1]

theorem zab {p k:Int} {a b:List Int} (hp:0 < p∧p≤256) (ha:Ent a) (hb:Ent b) (la:a.length≤1000000) (lb:b.length≤1000000) (hk:-1099511627776≤k∧k≤1099511627776) :
  xM p a b k=some (zb8 p a b k):=by
 obtain ⟨n,hn⟩:∃ n:Nat,n=max a.length b.length:=⟨_,rfl⟩
 have e:(if (b.length:Int) > (a.length:Int) then (b.length:Int) else (a.length:Int))=(n:Int):=by split <;> omega
 obtain ⟨s,h1,h2,h3⟩:=wR (body:=fun s:Int×List Int=>uN (n:Int) a b p k s.1 s.2) (fun i s=>((i:Int),s)) (fun s=>s) n
  (fun i s=>s.length=n∧∀ j,rd s j=if j < i then (rd a j + k*rd b j) % p else 0) (fun i s hi hI=>by
   obtain ⟨hl,hr⟩:=hI
   have h1:=ha i
   have h2:=z6t (hb i) hk
   refine ⟨s.set i ((rd a i + k*rd b i) % p),?_,by simpa using hl,fun j=>?_⟩
   ·simp only [uN,kR,Int.toNat_natCast,List.length_replicate]
    rw [if_pos (by simp; omega),z4i,z4i]
    simp only [Option.bind_some]
    rw [zX (n:=k*rd b i) (by omega) (by omega),zX (n:=rd a i + k*rd b i) (by omega) (by omega),zrm hp (by omega)]
    simp only [Option.bind_some]
    rw [yA (by omega),zX (by omega) (by omega)]
    rfl
   ·rw [zod _ _ _ _ (by omega),hr j]
    by_cases h:j=i
    ·subst h; simp
    ·rw [if_neg h]
     simp only [show (j < i + 1)=(j < i) from by rw [eq_iff_iff]; omega]) (fun s hI=>by
   simp only [uN,kR,Int.toNat_natCast,List.length_replicate]
   rw [if_neg (by simp)]) n 0 (List.replicate n 0) (by omega) ⟨by simp,fun j=>by rw [zz8,if_neg (by omega)]⟩
 have hs:s.take (top (rd s) s.length)=zb8 p a b k:=by
  rw [zpa,h2,zb8,← hn]
  exact zfy fun i hi=>by rw [h3 i,if_pos hi]
 simp only [xM,kR,e]
 rw [yA (by omega)]
 simp only [Int.toNat_natCast]
 have h1':yK (fun s:Int×List Int=>uN (n:Int) a b p k s.1 s.2) (0,List.replicate n 0)=some s:=h1
 rw [h1']
 simp only [Option.bind_some]
 rw [zgf (by omega),hs]
 rfl
end Go.Proofs.YtebfhlnfmkhmcaaGreat
/- Division, in the program. -/
namespace Go.Proofs.YtebfhlnfmkhmcaaGreat
open Go.Abs

theorem z18 {a:List Int} (ha:a.length≤1000000):uH a=some a:=by
 unfold uH
 rw [z3x,yA]
 ·simp
 ·simp; omega
 ·intro h
  subst h
  rw [yA (by simp)]
  simp
theorem zxe {p f:Int} (hp:2≤p∧p≤7) {b:List Int} (hb:Row p b) (hf:0≤f∧f < p) {i:Nat} {s t:List Int} (hi:i + b.length≤s.length) (hl:s.length≤1000000) (hs:∀ j,0≤rd s j∧rd s j < p) {s0:List Int} {x r9:Int} (hx:Int.tmod (IntKind.i64.wrap (rd s0 x.toNat*r9)) p=f) :
  ∃ s',yK (fun q:Int×List Int=>qB b (i:Int) s0 x r9 p t q.1 q.2) (0,s)=some (s',t.set i f)∧s'.length=s.length∧∀ j,rd s' j=zcd p (rd b) (b.length - 1) f i (rd s) j:=by
 obtain ⟨s',h1,h2,h3⟩:=wR (body:=fun q:Int×List Int=>qB b (i:Int) s0 x r9 p t q.1 q.2) (fun k u=>((k:Int),u)) (fun u=>(u,t.set i f)) b.length
  (fun k u=>u.length=s.length∧∀ j,rd u j=if i≤j∧j < i + k then (rd s j - f*rd b (j - i)) % p else rd s j) (fun k u hk hI=>by
   obtain ⟨hul,hu⟩:=hI
   have hbk:=hb.rd (show 0 < p by omega) k
   have hsk:=hs (i + k)
   have hm:=mI (x:=f) (y:=rd b k) (by omega) (by omega)
   have e1:IntKind.i64.wrap ((i:Int) + (k:Int))=((i + k:Nat):Int):=by rw [zX (by omega) (by omega)]; omega
   have huk:=hu (i + k)
   rw [if_neg (by omega)] at huk
   refine ⟨u.set (i + k) ((rd s (i + k) - f*rd b k) % p),?_,by simpa using hul,fun j=>?_⟩
   ·simp only [qB,kR,hx]
    rw [if_pos (decide_eq_true (by omega)),yA (by omega),e1,yA (by omega),Int.toNat_natCast,Int.toNat_natCast,huk,zX (n:=f*rd b k) (by omega) (by omega),zX (n:=rd s (i + k) - f*rd b k) (by omega) (by omega),zrm (by omega) (by omega)]
    simp only [Option.bind_some]
    rw [yA (by omega),zX (by omega) (by omega)]
    rfl
   ·rw [zod _ _ _ _ (by omega),hu j]
    by_cases e:j=i + k
    ·subst e
     rw [if_pos rfl,if_pos (by omega),show i + k - i=k by omega]
    ·rw [if_neg e]
     by_cases hc:i≤j∧j < i + k
     ·rw [if_pos hc,if_pos (by omega)]
     ·rw [if_neg hc,if_neg (by omega)]) (fun u hI=>by
   simp only [qB,hx]
   rw [if_neg (by rw [decide_eq_true_eq]; omega),Int.toNat_natCast]) b.length 0 s (by omega) ⟨rfl,fun j=>by rw [if_neg (by omega)]⟩
 refine ⟨s',h1,h2,fun j=>?_⟩
 rw [h3 j]
 unfold zcd
 rcases Nat.eq_zero_or_pos b.length with h0 | h0
 ·rw [if_neg (by omega)]
  split
  ·have:rd b (j - i)=0:=vT (by omega)
   have:=hs j
   rw [show rd b (j - i)=0 from vT (by omega),Int.mul_zero,Int.sub_zero,Int.emod_eq_of_lt this.1 this.2]
  ·rfl
 ·simp only [show (i≤j∧j < i + b.length)=(i≤j∧j≤i + (b.length - 1)) from by rw [eq_iff_iff]; omega]
theorem zp4 {p:Int} (hp:isP p=true) {b:List Int} (hb:Row p b) (h0:b.length ≠ 0) {n:Nat} (hn:n≤500000):∀ (i:Nat) (s t:List Int),i + b.length - 1≤s.length→i≤n→s.length≤1000000→t.length=n→(∀ j,0≤rd s j∧rd s j < p) →
  ∃ s' t',yK (fun q:Int×List Int×List Int=>vU b p (inv p (wG b)) q.1 q.2.1 q.2.2) ((i:Int) - 1,s,t)=some (s',t')∧s'.length=s.length∧t'.length=n ∧
   (∀ j,rd s' j=zns p (rd b) (b.length - 1) (inv p (wG b)) i (rd s) j)∧∀ j,rd t' j=if j < i then zid p (rd b) (b.length - 1) (inv p (wG b)) i (rd s) j else rd t j
 | 0,s,t,_,_,_,ht,_=>by
  refine ⟨s,t,?_,rfl,ht,fun _=>rfl,fun j=>by rw [if_neg (by omega)]⟩
  have step:vU b p (inv p (wG b)) (((0:Nat):Int) - 1) s t=some (.inr (s,t)):=by
   simp only [vU]
   rw [if_neg (by rw [decide_eq_true_eq]; omega)]
  rw [yR]
  simp only [step,Option.bind_some]
 | i + 1,s,t,hi,hin,hsl,ht,hs=>by
  have hp2:=wU hp
  have hinv:=ze1 hp (zbj (show 0 < p by omega) hb h0)
  have hsx:=hs (i + (b.length - 1))
  have hm:=mI (x:=rd s (i + (b.length - 1))) (y:=inv p (wG b)) (by omega) (by omega)
  have hf:=zaq (show 0 < p by omega) (rd s (i + (b.length - 1))*inv p (wG b))
  have e0:((i + 1:Nat):Int) - 1=(i:Int):=by omega
  have e1:IntKind.i64.wrap (IntKind.i64.wrap ((i:Int) + (b.length:Int)) - 1)=((i + (b.length - 1):Nat):Int):=by
   rw [zX (n:=(i:Int) + (b.length:Int)) (by omega) (by omega),zX (by omega) (by omega)]; omega
  have hx:Int.tmod (IntKind.i64.wrap (rd s (((i + (b.length - 1):Nat):Int)).toNat*inv p (wG b))) p=zh8 p (inv p (wG b)) (b.length - 1) i (rd s):=by
   rw [Int.toNat_natCast,zX (by omega) (by omega),Int.tmod_eq_emod_of_nonneg hm.1]; rfl
  obtain ⟨s1,g1,g2,g3⟩:=zxe hp2 hb (f:=zh8 p (inv p (wG b)) (b.length - 1) i (rd s)) hf (i:=i) (s:=s) (t:=t) (by omega) hsl hs hx
  have hs1:rd s1=zcd p (rd b) (b.length - 1) (zh8 p (inv p (wG b)) (b.length - 1) i (rd s)) i (rd s):=funext g3
  obtain ⟨s',t',k1,k2,k3,k4,k5⟩:=zp4 hp hb h0 hn i s1 (t.set i (zh8 p (inv p (wG b)) (b.length - 1) i (rd s))) (by omega) (by omega) (by omega) (by simpa using ht) (fun j=>by rw [hs1]; exact zn8 (by omega) hs _ i j)
  refine ⟨s',t',?_,by omega,k3,fun j=>?_,fun j=>?_⟩
  ·have step:vU b p (inv p (wG b)) (((i + 1:Nat):Int) - 1) s t=some (.inl ((i:Int) - 1,s1,t.set i (zh8 p (inv p (wG b)) (b.length - 1) i (rd s)))):=by
    rw [e0]
    simp only [vU,kR,e1]
    rw [if_pos (decide_eq_true (by omega)),yA (by omega),yA (by omega),yA (by omega),g1]
    simp only [Option.bind_some]
    rw [zX (by omega) (by omega)]
   rw [yR]
   simp only [step,Option.bind_some]
   exact k1
  ·rw [k4 j,hs1]; rfl
  ·rw [k5 j,hs1]
   simp only [zid]
   by_cases e:j=i
   ·subst e
    rw [if_neg (by omega),if_pos (by omega),if_pos rfl,zod _ _ _ _ (by omega),if_pos rfl]
   ·by_cases h:j < i
    ·rw [if_pos h,if_pos (by omega),if_neg e]
    ·rw [if_neg h,if_neg (by omega),zod _ _ _ _ (by omega),if_neg e]
theorem zpe {b:List Int} (h0:b.length ≠ 0) (hl:b.length≤1000000):jM b=some (wG b):=by
 unfold jM
 have e1:IntKind.i64.wrap ((b.length:Int) - 1)=((b.length - 1:Nat):Int):=by rw [zX (by omega) (by omega)]; omega
 rw [if_neg (by rw [beq_iff_eq]; omega),e1,yA (by omega),Int.toNat_natCast]; rfl
theorem zlm {p:Int} (hp:isP p=true) {a b:List Int} (ha:Row p a) (hb:Row p b) (h0:b.length ≠ 0) (la:a.length≤500000) (lb:b.length≤500000):uT p a b=some (quo p a b,rem p a b):=by
 have hp2:=wU hp
 unfold uT
 rw [z18 (by omega)]
 simp only [Option.bind_some]
 rcases Nat.lt_or_ge a.length b.length with h | h
 ·rw [if_pos (decide_eq_true (by omega))]
  have e1:quo p a b=[]:=by
   have:=zg8 p a b
   exact List.eq_nil_of_length_eq_zero (by omega)
  have e2:rem p a b=a:=by
   unfold rem
   rw [show a.length + 1 - b.length=0 by omega]
   exact ha.ofF (Nat.le_refl _)
  rw [e1,e2]
 ·rw [if_neg (by rw [decide_eq_true_eq]; omega)]
  obtain ⟨n,hn⟩:∃ n:Nat,n=a.length + 1 - b.length:=⟨_,rfl⟩
  have e1:IntKind.i64.wrap (IntKind.i64.wrap ((a.length:Int) - (b.length:Int)) + 1)=(n:Int):=by
   rw [zX (n:=(a.length:Int) - (b.length:Int)) (by omega) (by omega),zX (by omega) (by omega)]; omega
  have hlead:=zbj (show 0 < p by omega) hb h0
  simp only [kR,e1,zpe h0 (by omega),ziw hp hlead,Option.bind_some,Int.toNat_natCast,List.length_replicate]
  rw [yA (by omega),zX (by omega) (by omega)]
  obtain ⟨s',t',k1,k2,k3,k4,k5⟩:=zp4 hp hb h0 (n:=n) (by omega) n a (List.replicate n 0) (by omega) (Nat.le_refl _) (by omega) (by simp) (fun j=>ha.rd (by omega) j)
  rw [k1]
  simp only [Option.bind_some]
  rw [zgf (by omega),zgf (by omega)]
  simp only [Option.bind_some]
  rw [zpa,zpa,k2,k3]
  congr 2
  ·rw [quo,← hn]
   exact zfy fun i hi=>by rw [k5 i,if_pos hi]
  ·rw [rem,← hn]
   exact zfy fun i _=>k4 i
end Go.Proofs.YtebfhlnfmkhmcaaGreat
/- Products, in the program. -/
namespace Go.Proofs.YtebfhlnfmkhmcaaGreat
open Go.Abs


theorem zql {a b:Nat→Int} (ha:∀ i,0≤a i∧a i < 256) (hb:∀ i,0≤b i∧b i < 256) (k:Nat):∀ n:Nat,0≤cv a b n k∧cv a b n k≤n*65025
 | 0=>by simp [cv,vE]
 | n + 1=>by
  rw [zm3]
  have h1:=zql ha hb k n
  have h2:=mI (ha n) (hb (k - n))
  split <;> omega

/-- The program's product. -/
theorem zmw {p:Int} (hp:2≤p∧p≤256) {a b:List Int} (ha:Ent a) (hb:Ent b) (la:a.length≤500000) (lb:b.length≤500000):xC p a b=some (mul p a b):=by
 simp only [xC,kR]
 by_cases h1:a.length=0
 ·have e:a=[]:=List.eq_nil_of_length_eq_zero h1
  subst e
  simp [zsv]
 by_cases h2:b.length=0
 ·have e:b=[]:=List.eq_nil_of_length_eq_zero h2
  subst e
  simp [zul]
 obtain ⟨n,hn⟩:∃ n:Nat,n=a.length + b.length - 1:=⟨_,rfl⟩
 have e0:IntKind.i64.wrap (IntKind.i64.wrap ((a.length:Int) + (b.length:Int)) - 1)=(n:Int):=by
  rw [zX (n:=(a.length:Int) + (b.length:Int)) (by omega) (by omega),zX (by omega) (by omega)]; omega
 rw [e0]
 have c1:(if ((a.length:Int) == 0)=true then some true else some ((b.length:Int) == 0))=some false:=by
  rw [if_neg (by rw [beq_iff_eq]; omega)]
  congr 1
  rw [beq_eq_false_iff_ne]; omega
 rw [c1]
 simp only [Bool.false_eq_true,if_false,Option.bind_some,Int.toNat_natCast]
 rw [yA (by omega)]
 -- one row
 have hrow:∀ (i:Nat) (s:List Int),i < a.length→s.length=n→(∀ k,rd s k=cv (rd a) (rd b) i k) →
   ∃ s',yK (fun s:Int×List Int=>qT b (i:Int) a s.1 s.2) (0,s)=some s'∧s'.length=n∧∀ k,rd s' k=cv (rd a) (rd b) (i + 1) k:=by
  intro i s hi hsl hs
  have hai:=ha i
  obtain ⟨s',g1,g2,g3⟩:=wR (body:=fun s:Int×List Int=>qT b (i:Int) a s.1 s.2) (fun j (u:List Int)=>((j:Int),u)) (fun u=>u) b.length
   (fun j u=>u.length=n∧∀ k,rd u k=if i≤k∧k < i + j then cv (rd a) (rd b) (i + 1) k else cv (rd a) (rd b) i k) (fun j u hj hI=>by
    obtain ⟨hul,hu⟩:=hI
    have hbj:=hb j
    have hm:=mI hai hbj
    have hc:=zql ha hb (i + j) i
    have e1:IntKind.i64.wrap ((i:Int) + (j:Int))=((i + j:Nat):Int):=by rw [zX (by omega) (by omega)]; omega
    have huj:=hu (i + j)
    rw [if_neg (by omega)] at huj
    have e2:cv (rd a) (rd b) (i + 1) (i + j)=cv (rd a) (rd b) i (i + j) + rd a i*rd b j:=by
     rw [zm3,if_pos (by omega),show i + j - i=j by omega]
    refine ⟨u.set (i + j) (cv (rd a) (rd b) (i + 1) (i + j)),?_,by simpa using hul,fun k=>?_⟩
    ·simp only [qT,kR]
     rw [if_pos (by simp; omega),e1]
     rw [yA (by omega),yA (by omega),yA (by omega)]
     simp only [Int.toNat_natCast]
     rw [huj,zX (n:=rd a i*rd b j) (by omega) (by omega),zX (n:=cv (rd a) (rd b) i (i + j) + rd a i*rd b j) (by omega) (by omega),zX (by omega) (by omega),e2]
     rfl
    ·rw [zod _ _ _ _ (by omega)]
     by_cases e:k=i + j
     ·subst e
      rw [if_pos rfl,if_pos (by omega)]
     ·rw [if_neg e,hu k]
      by_cases hc:i≤k∧k < i + j
      ·rw [if_pos hc,if_pos (by omega)]
      ·rw [if_neg hc,if_neg (by omega)]) (fun u hI=>by
    simp only [qT]
    rw [if_neg (by simp)]) b.length 0 s (by omega) ⟨hsl,fun k=>by rw [hs k,if_neg (by omega)]⟩
  refine ⟨s',g1,g2,fun k=>?_⟩
  rw [g3 k]
  split
  ·rfl
  ·rename_i hc
   rw [zm3]
   by_cases hik:i≤k
   ·rw [if_pos hik,vT (l:=b) (by omega),Int.mul_zero,Int.add_zero]
   ·rw [if_neg hik,Int.add_zero]
 obtain ⟨s,h3,h4,h5⟩:=wR (body:=fun s:Int×List Int=>qQ a b s.1 s.2) (fun i (u:List Int)=>((i:Int),u)) (fun u=>u) a.length
  (fun i u=>u.length=n∧∀ k,rd u k=cv (rd a) (rd b) i k) (fun i u hi hI=>by
   obtain ⟨u',g1,g2,g3⟩:=hrow i u hi hI.1 hI.2
   refine ⟨u',?_,g2,g3⟩
   simp only [qQ]
   rw [if_pos (by simp; omega),yA (by omega),g1]
   simp only [Option.bind_some]
   rw [zX (by omega) (by omega)]; rfl) (fun u hI=>by
   simp only [qQ]
   rw [if_neg (by simp)]) a.length 0 (List.replicate n 0) (by omega) ⟨by simp,fun k=>by rw [zz8]; simp [cv,vE]⟩
 have h3':yK (fun s:Int×List Int=>qQ a b s.1 s.2) (0,List.replicate n 0)=some s:=h3
 rw [h3']
 simp only [Option.bind_some]
 obtain ⟨t,h6,h7,h8⟩:=wR (body:=fun q:Int×List Int=>qO s p q.1 q.2) (fun i (u:List Int)=>((i:Int),u)) (fun u=>u) n
  (fun i u=>u.length=n∧∀ k,rd u k=if k < i then cv (rd a) (rd b) a.length k % p else cv (rd a) (rd b) a.length k) (fun i u hi hI=>by
   obtain ⟨hul,hu⟩:=hI
   have hui:=hu i
   rw [if_neg (by omega)] at hui
   have hc:=zql ha hb i a.length
   refine ⟨u.set i (cv (rd a) (rd b) a.length i % p),?_,by simpa using hul,fun k=>?_⟩
   ·simp only [qO]
    rw [if_pos (by simp; omega),yA (by omega),yA (by omega),yA (by omega)]
    simp only [Int.toNat_natCast]
    rw [hui,Int.tmod_eq_emod_of_nonneg hc.1,zX (by omega) (by omega)]; rfl
   ·rw [zod _ _ _ _ (by omega),hu k]
    by_cases e:k=i
    ·subst e; simp
    ·rw [if_neg e]
     simp only [show (k < i + 1)=(k < i) from by rw [eq_iff_iff]; omega]) (fun u hI=>by
   simp only [qO]
   rw [if_neg (by simp; omega)]) n 0 s (by omega) ⟨h4,fun k=>by rw [h5 k,if_neg (by omega)]⟩
 have h6':yK (fun q:Int×List Int=>qO s p q.1 q.2) (0,s)=some t:=h6
 rw [h6']
 simp only [Option.bind_some]
 rw [zgf (by omega),zpa,h7]
 simp only [Option.bind_some]
 congr 1
 rw [mul,← hn]
 exact zfy fun k hk=>by rw [h8 k,if_pos hk,zml fun i hi=>vT (by omega)]
end Go.Proofs.YtebfhlnfmkhmcaaGreat
/- Products and quotients, in the program. -/
namespace Go.Proofs.YtebfhlnfmkhmcaaGreat
open Go.Abs

variable {P:Pri}
theorem Pri.sm (P:Pri):0 < P.p∧P.p≤256:=by have:=P.two; omega
theorem PP.ent (a:PP P):Ent a.1:=a.2.ent P.sm
theorem zdo {b:PP P} (hb:b ≠ 0):b.1.length ≠ 0:=fun h=>hb (wT.1 h)
end Go.Proofs.YtebfhlnfmkhmcaaGreat
/- Inverses modulo p, in the reference. -/
namespace Go.Proofs.YtebfhlnfmkhmcaaGreat
open Go.Abs

theorem zfx {p x:Int} (hp:isP p=true) (hx:0 < x∧x < p):nI p x=some (inv p x):=by
 have hp2:=wU hp
 obtain ⟨hi1,hi2,hi3⟩:=ze1 hp hx
 have key:∀ (m:Nat) (k:Int),1≤k→k + m=inv p x→yK (fun s:Int=>uX p x s) k=some (.inr (inv p x)):=by
  intro m
  induction m with
  | zero =>
   intro k h1 h2
   have h3:=mI (x:=k) (y:=x) (by omega) (by omega)
   have e:k=inv p x:=by omega
   have step:uX p x k=some (.inr (.inr (inv p x))):=by
    simp only [uX,kR]
    rw [if_pos (decide_eq_true (by omega)),yA (by omega),zX (n:=x) (by omega) (by omega),zX (n:=k*x) (by omega) (by omega),Int.tmod_eq_emod_of_nonneg h3.1,if_pos,zja (by omega) (by omega),e]
    rw [e,Int.mul_comm,hi3]; rfl
   rw [yR]
   simp only [step,Option.bind_some]
  | succ m ih =>
   intro k h1 h2
   have h3:=mI (x:=k) (y:=x) (by omega) (by omega)
   have hne:=zzk hp hx h1 (show k < inv p x by omega)
   have step:uX p x k=some (.inl (k + 1)):=by
    simp only [uX,kR]
    rw [if_pos (decide_eq_true (by omega)),yA (by omega),zX (n:=x) (by omega) (by omega),zX (n:=k*x) (by omega) (by omega),Int.tmod_eq_emod_of_nonneg h3.1,if_neg (by rw [beq_iff_eq]; exact hne),zX (by omega) (by omega)]
   rw [yR]
   simp only [step,Option.bind_some]
   exact ih (k + 1) (by omega) (by omega)
 have h:=key (inv p x - 1).toNat 1 (by omega) (by omega)
 simp only [nI,h,Option.bind_some]
end Go.Proofs.YtebfhlnfmkhmcaaGreat
/- Degrees. -/
namespace Go.Proofs.YtebfhlnfmkhmcaaGreat
open Go.Abs

theorem z0j (a:V64):∀ s:Int,(∃ i:Nat,s=(i:Int) - 1∧i≤64)→∃ r,yK (fun s:Int=>nT a s) s=some r∧∀ i:Nat,s=(i:Int) - 1→r=(top (rd a.1) i:Int) - 1:=by
 refine zbr (fun (s:Int)=>∃ i:Nat,s=(i:Int) - 1∧i≤64) (fun (s:Int) (r:Int)=>∀ i:Nat,s=(i:Int) - 1→r=(top (rd a.1) i:Int) - 1) (fun s=>(s + 1).toNat) ?_
 rintro s ⟨i,rfl,hi⟩
 match i with
 | 0 =>
  right
  refine ⟨-1,by simp [nT],fun k hk=>?_⟩
  have:k=0:=by omega
  subst this; simp [top]
 | i + 1 =>
  have e1:((i + 1:Nat):Int) - 1=(i:Int):=by omega
  rw [e1]
  by_cases e:rd a.1 i=0
  ·left
   refine ⟨(i:Int) - 1,?_,⟨i,rfl,by omega⟩,by omega,fun r hr k hk=>?_⟩
   ·simp only [nT]
    rw [if_pos (by simp),yA (by omega)]
    simp [e]
    exact zX (by omega) (by omega)
   ·have:k=i + 1:=by omega
    subst this
    rw [hr i rfl]; simp [top,e]
  ·right
   refine ⟨(i:Int),?_,fun k hk=>?_⟩
   ·simp only [nT]
    rw [if_pos (by simp),yA (by omega)]
    simp [e]
   ·have:k=i + 1:=by omega
    subst this
    simp [top,e]

theorem zjy (a:V64):yW a=some ((top (rd a.1) 64:Int) - 1):=by
 obtain ⟨r,h1,h2⟩:=z0j a 63 ⟨64,by omega,by omega⟩
 rw [h2 64 (by omega)] at h1
 simp only [yW,h1,Option.bind_some]
end Go.Proofs.YtebfhlnfmkhmcaaGreat
/- Division, in the reference. -/
namespace Go.Proofs.YtebfhlnfmkhmcaaGreat
open Go.Abs

theorem zwh {p f y:Int} (hp:2≤p∧p≤7) {b:V64} (hb:Res p b) (hf:0≤f∧f < p) (hy:Int.tmod y p=f) {i m:Nat} (hi:i + m < 64) {s t:V64} (hs:Res p s) :
  ∃ s',yK (fun q:Int×V64=>uS (m:Int) y p ((i + m:Nat):Int) b t q.1 q.2) (0,s)=some (s',yO t i f)∧Res p s'∧∀ j,j < 64→rd s'.1 j=zcd p (rd b.1) m f i (rd s.1) j:=by
 have e0:IntKind.i64.wrap (((i + m:Nat):Int) - (m:Int))=(i:Int):=by rw [zX (by omega) (by omega)]; omega
 by_cases h0:f=0
 ·refine ⟨s,?_,hs,fun j hj=>?_⟩
  ·have step:uS (m:Int) y p ((i + m:Nat):Int) b t 0 s=some (.inr (s,yO t i f)):=by
    simp only [uS,hy]
    rw [if_pos (decide_eq_true (by omega))]
    simp only [Option.bind_some]
    rw [if_neg (by rw [h0]; simp),e0,Int.toNat_natCast,zja (by omega) (by omega)]
   rw [yR]
   simp only [step,Option.bind_some]
  ·unfold zcd
   split
   ·have:=hs j hj
    rw [h0,Int.zero_mul,Int.sub_zero,Int.emod_eq_of_lt this.1 this.2]
   ·rfl
 ·obtain ⟨s',h1,h2,h3⟩:=wR (body:=fun q:Int×V64=>uS (m:Int) y p ((i + m:Nat):Int) b t q.1 q.2) (fun k (u:V64)=>((k:Int),u)) (fun u=>(u,yO t i f)) (m + 1)
   (fun k u=>Res p u∧∀ j,j < 64→rd u.1 j=if i≤j∧j < i + k then (rd s.1 j - f*rd b.1 (j - i)) % p else rd s.1 j) (fun k u hk hI=>by
    obtain ⟨hur,hu⟩:=hI
    have hbk:=hb k (by omega)
    have hsk:=hs (i + k) (by omega)
    have hm:=mI (x:=f) (y:=rd b.1 k) (by omega) (by omega)
    have e1:IntKind.i64.wrap ((i:Int) + (k:Int))=((i + k:Nat):Int):=by rw [zX (by omega) (by omega)]; omega
    have huk:=hu (i + k) (by omega)
    rw [if_neg (by omega)] at huk
    have ht1:=Int.lt_tmod_of_pos (rd s.1 (i + k) - f*rd b.1 k) (show 0 < p by omega)
    have ht2:=Int.tmod_lt_of_pos (rd s.1 (i + k) - f*rd b.1 k) (show 0 < p by omega)
    have hr:=zaq (show 0 < p by omega) (rd s.1 (i + k) - f*rd b.1 k)
    refine ⟨yO u (i + k) ((rd s.1 (i + k) - f*rd b.1 k) % p),?_,fun j hj=>?_,fun j hj=>?_⟩
    ·simp only [uS,kR,hy,e0]
     rw [if_pos (decide_eq_true (by omega))]
     simp only [Option.bind_some]
     rw [if_pos (by simpa using h0),e1,yA (by omega),yA (by omega),yA (by omega),yA (by omega),yA (by omega),Int.toNat_natCast,Int.toNat_natCast,huk]
     rw [zX (n:=rd b.1 k) (by omega) (by omega),zX (n:=f*rd b.1 k) (by omega) (by omega),zX (n:=rd s.1 (i + k)) (by omega) (by omega),zX (n:=rd s.1 (i + k) - f*rd b.1 k) (by omega) (by omega),zX (n:=_ + p) (by omega) (by omega),zms (by omega),zja (by omega) (by omega),zX (by omega) (by omega)]
     rfl
    ·rw [za3 _ _ _ _ (by omega)]
     split
     ·exact hr
     ·exact hur j hj
    ·rw [za3 _ _ _ _ (by omega),hu j hj]
     by_cases e:j=i + k
     ·subst e
      rw [if_pos rfl,if_pos (by omega),show i + k - i=k by omega]
     ·rw [if_neg e]
      by_cases hc:i≤j∧j < i + k
      ·rw [if_pos hc,if_pos (by omega)]
      ·rw [if_neg hc,if_neg (by omega)]) (fun u hI=>by
    simp only [uS,hy,e0]
    rw [if_neg (by rw [decide_eq_true_eq]; omega)]
    simp only [Option.bind_some,Bool.false_eq_true,if_false]
    rw [Int.toNat_natCast,zja (by omega) (by omega)]) (m + 1) 0 s (by omega) ⟨hs,fun j hj=>by rw [if_neg (by omega)]⟩
  refine ⟨s',h1,h2,fun j hj=>?_⟩
  rw [h3 j hj]
  unfold zcd
  simp only [show (i≤j∧j < i + (m + 1))=(i≤j∧j≤i + m) from by rw [eq_iff_iff]; omega]
theorem zqm {p:Int} (hp:isP p=true) {b:V64} (hb:Res p b) {m:Nat} {iv:Int} (hiv:0≤iv∧iv < p):∀ (i:Nat) (s t:V64),i + m≤64→Res p s →
  ∃ s' t',yK (fun q:Int×V64×V64=>vL (m:Int) iv p b q.1 q.2.1 q.2.2) ((i:Int) + m - 1,s,t)=some (s',t') ∧
   (∀ j,j < 64→rd s'.1 j=zns p (rd b.1) m iv i (rd s.1) j)∧∀ j,j < 64→rd t'.1 j=if j < i then zid p (rd b.1) m iv i (rd s.1) j else rd t.1 j
 | 0,s,t,hi,_=>by
  refine ⟨s,t,?_,fun _ _=>rfl,fun j _=>by rw [if_neg (by omega)]⟩
  have step:vL (m:Int) iv p b (((0:Nat):Int) + m - 1) s t=some (.inr (s,t)):=by
   simp only [vL]
   rw [if_neg (by rw [decide_eq_true_eq]; omega)]
  rw [yR]
  simp only [step,Option.bind_some]
 | i + 1,s,t,hi,hs=>by
  have hp2:=wU hp
  have hsx:=hs (i + m) (by omega)
  have hm:=mI (x:=rd s.1 (i + m)) (y:=iv) (by omega) (by omega)
  have hf:=zaq (show 0 < p by omega) (rd s.1 (i + m)*iv)
  have e0:((i + 1:Nat):Int) + m - 1=((i + m:Nat):Int):=by omega
  have e1:IntKind.i64.wrap (((i + m:Nat):Int) - (m:Int))=(i:Int):=by rw [zX (by omega) (by omega)]; omega
  have hy:Int.tmod (rd s.1 (i + m)*iv) p=zh8 p iv m i (rd s.1):=Int.tmod_eq_emod_of_nonneg hm.1
  obtain ⟨s1,g1,g2,g3⟩:=zwh hp2 hb (f:=zh8 p iv m i (rd s.1)) hf hy (i:=i) (m:=m) (by omega) (t:=t) hs
  obtain ⟨s',t',k1,k2,k3⟩:=zqm hp hb (m:=m) hiv i s1 (yO t i (zh8 p iv m i (rd s.1))) (by omega) g2
  -- the functions agree on the places that there are
  have hz:∀ j,64≤j→rd s1.1 j=zcd p (rd b.1) m (zh8 p iv m i (rd s.1)) i (rd s.1) j:=fun j hj=>by
   rw [vT (by rw [s1.2]; exact hj)]
   unfold zcd
   rw [if_neg (by omega),vT (by rw [s.2]; exact hj)]
  have hs1:rd s1.1=zcd p (rd b.1) m (zh8 p iv m i (rd s.1)) i (rd s.1):=funext fun j=>by
   rcases Nat.lt_or_ge j 64 with h | h
   ·exact g3 j h
   ·exact hz j h
  refine ⟨s',t',?_,fun j hj=>?_,fun j hj=>?_⟩
  ·have step:vL (m:Int) iv p b (((i + 1:Nat):Int) + m - 1) s t=some (.inl ((i:Int) + m - 1,s1,yO t i (zh8 p iv m i (rd s.1)))):=by
    rw [e0]
    simp only [vL,kR,e1]
    rw [if_pos (decide_eq_true (by omega)),yA (by omega),Int.toNat_natCast,zX (n:=rd s.1 (i + m)) (by omega) (by omega),zX (n:=iv) (by omega) (by omega),zX (n:=rd s.1 (i + m)*iv) (by omega) (by omega),yA (by omega),yA (by omega),g1]
    simp only [Option.bind_some]
    rw [zX (by omega) (by omega)]
    congr 3
   rw [yR]
   simp only [step,Option.bind_some]
   exact k1
  ·rw [k2 j hj,hs1]; rfl
  ·rw [k3 j hj,hs1]
   simp only [zid]
   by_cases e:j=i
   ·subst e
    rw [if_neg (by omega),if_pos (by omega),if_pos rfl,za3 _ _ _ _ hj,if_pos rfl]
   ·by_cases h:j < i
    ·rw [if_pos h,if_pos (by omega),if_neg e]
    ·rw [if_neg h,if_neg (by omega),za3 _ _ _ _ (by omega),if_neg e]
theorem ze0 {l:List Int} (hl:l.length≤64):rd (yP l).1=rd l:=funext fun j=>by
 rcases Nat.lt_or_ge j 64 with h | h
 ·exact uW l h
 ·rw [vT (by rw [(yP l).2]; exact h),vT (by omega)]
theorem zlk {p:Int} (hp:isP p=true) {a b:List Int} (ha:Row p a) (hb:Row p b) (h0:b.length ≠ 0) (la:a.length≤64) (lb:b.length≤64):kD p (yP a) (yP b)=some (yP (quo p a b),yP (rem p a b)):=by
 have hp2:=wU hp
 have hta:top (rd (yP a).1) 64=a.length:=by rw [zfz 64 fun i hi=>uW a hi,ha.top la]
 have htb:top (rd (yP b).1) 64=b.length:=by rw [zfz 64 fun i hi=>uW b hi,hb.top lb]
 have hlead:=zbj (show 0 < p by omega) hb h0
 have hinv:=ze1 hp hlead
 have e1:((b.length:Nat):Int) - 1=((b.length - 1:Nat):Int):=by omega
 simp only [kD,zjy,hta,htb,Option.bind_some,e1]
 have hl:rd (yP b).1 (b.length - 1)=wG b:=by rw [uW _ (by omega)]; rfl
 rw [yA (by omega),Int.toNat_natCast,hl,zfx hp hlead]
 simp only [Option.bind_some]
 rcases Nat.lt_or_ge a.length b.length with h | h
 ·have step:vL ((b.length - 1:Nat):Int) (inv p (wG b)) p (yP b) ((a.length:Int) - 1) (yP a) (yH 64 0)=some (.inr (yP a,yH 64 0)):=by
   simp only [vL]
   rw [if_neg (by rw [decide_eq_true_eq]; omega)]
  rw [yR]
  simp only [step,Option.bind_some]
  have e2:quo p a b=[]:=by
   have:=zg8 p a b
   exact List.eq_nil_of_length_eq_zero (by omega)
  have e3:rem p a b=a:=by
   unfold rem
   rw [show a.length + 1 - b.length=0 by omega]
   exact ha.ofF (Nat.le_refl _)
  rw [e2,e3,zb4]
 ·obtain ⟨s',t',k1,k2,k3⟩:=zqm hp (za5 hb (by omega)) (m:=b.length - 1) (iv:=inv p (wG b)) ⟨by omega,hinv.2.1⟩ (a.length + 1 - b.length) (yP a) (yH 64 0) (by omega) (za5 ha (by omega))
  have e2:((a.length + 1 - b.length:Nat):Int) + ((b.length - 1:Nat):Int) - 1=(a.length:Int) - 1:=by omega
  rw [e2] at k1
  rw [k1]
  simp only [Option.bind_some]
  rw [ze0 la,ze0 lb] at k2 k3
  congr 2
  ·refine ze9 fun j hj=>?_
   rw [k3 j hj,uW _ hj,z1l]
   split
   ·rfl
   ·rw [zg0 _ hj,zs9 _ _ _ (by omega)]
  ·refine ze9 fun j hj=>?_
   rw [k2 j hj,uW _ hj,zw8 a h0]
end Go.Proofs.YtebfhlnfmkhmcaaGreat
/- Sums, in the reference. -/
namespace Go.Proofs.YtebfhlnfmkhmcaaGreat
open Go.Abs

theorem z5m {p k:Int} {a b:V64} (hp:0 < p∧p≤256) (ha:V64.Ent a) (hb:V64.Ent b) (hk:-1099511627776≤k∧k≤1099511627776) :
  ∃ v,xS p a b k=some v∧∀ j,j < 64→rd v.1 j=(rd a.1 j + k*rd b.1 j) % p:=by
 obtain ⟨s,h1,h2⟩:=wR (body:=fun s:Int×V64=>nS k b p s.1 s.2) (fun i s=>((i:Int),s)) (fun s=>s) 64
  (fun i s=>∀ j,j < 64→rd s.1 j=if j < i then (rd a.1 j + k*rd b.1 j) % p else rd a.1 j) (fun i s hi hI=>by
   have hs:=hI i hi
   rw [if_neg (by omega)] at hs
   have h1:=ha i hi
   have h0:=hb i hi
   have h2:=z6t (hb i hi) hk
   have h3:=Int.lt_tmod_of_pos (rd a.1 i + k*rd b.1 i) hp.1
   have h4:=Int.tmod_lt_of_pos (rd a.1 i + k*rd b.1 i) hp.1
   have h5:=zaq hp.1 (rd a.1 i + k*rd b.1 i)
   refine ⟨yO s i ((rd a.1 i + k*rd b.1 i) % p),?_,fun j hj=>?_⟩
   ·simp only [nS,kR,Int.toNat_natCast,hs]
    rw [if_pos (by simp; omega),yA (by omega),yA (by omega),yA (by omega),yA (by omega),yA (by omega)]
    rw [zX (n:=rd b.1 i) (by omega) (by omega),zX (n:=rd a.1 i) (by omega) (by omega),zX (n:=k*rd b.1 i) (by omega) (by omega),zX (n:=rd a.1 i + k*rd b.1 i) (by omega) (by omega),zX (n:=_ + p) (by omega) (by omega),zms hp.1,zja (by omega) (by omega),zX (by omega) (by omega)]
    rfl
   ·rw [za3 _ _ _ _ hi,hI j hj]
    by_cases h:j=i
    ·subst h; simp
    ·rw [if_neg h]
     simp only [show (j < i + 1)=(j < i) from by rw [eq_iff_iff]; omega]) (fun s hI=>by
   simp only [nS,kR]
   rw [if_neg (by simp)]) 64 0 a (by omega) (fun j hj=>by rw [if_neg (by omega)])
 refine ⟨s,?_,fun j hj=>by rw [h2 j hj,if_pos hj]⟩
 have h1':yK (fun s:Int×V64=>nS k b p s.1 s.2) (0,a)=some s:=h1
 simp only [xS,h1',Option.bind_some]

theorem zdl {p k:Int} {a b:List Int} (hp:0 < p∧p≤256) (ha:Row p a) (hb:Row p b) (la:a.length≤64) (lb:b.length≤64) (hk:-1099511627776≤k∧k≤1099511627776) :
  xS p (yP a) (yP b) k=some (yP (zb8 p a b k)):=by
 obtain ⟨v,h1,h2⟩:=z5m hp (zyp ha hp) (zyp hb hp) hk
 rw [h1]
 congr 1
 exact ze9 fun j hj=>by rw [h2 j hj,uW _ hj,uW _ hj,uW _ hj,zfs]
end Go.Proofs.YtebfhlnfmkhmcaaGreat
/- Sums with multiples, quotients, in the reference. -/
namespace Go.Proofs.YtebfhlnfmkhmcaaGreat
open Go.Abs

variable {P:Pri}
theorem z2j {P:Pri}:(ppT:PP P).len=2:=rfl
theorem z43 {a b:PP P} (hb:b ≠ 0) (la:a.len≤64) (lb:b.len≤64):kD P.p (yP a.1) (yP b.1)=some (yP (za2 a b).1,yP (yX a b).1):=zlk P.okp a.2 b.2 (zdo hb) la lb
theorem zq6 (a:PP P) (la:a.len≤64):yW (yP a.1)=some ((a.len:Int) - 1):=by
 rw [zjy,ze0 la,a.2.top la]; rfl
theorem zvo (x a:PP P) (k:Nat):zb8 P.p x.1 a.1 k=(x + mF k a).1:=by
 refine zgy (zbm P.pos _ _ _) (x + mF k a).2 fun i=>?_
 have h:(x + mF k a).c i=(x.c i + (mF k a).c i) % P.p:=zgb _ _ _
 rw [zfs]
 show _=(x + mF k a).c i
 rw [h,zon,Int.add_emod_emod]; rfl
theorem zpk (k:Nat) (a:PP P):(mF k a).len≤a.len:=by
 induction k with
 | zero=>show 0≤_; omega
 | succ k ih =>
  have:=zb5 (mF k a) a
  simp only [mF]; omega
theorem z69 {a b:PP P} (la:a.len≤64) (lb:b.len≤64) {k:Nat} (hk:k≤1099511627776):xS P.p (yP a.1) (yP b.1) k=some (yP (a + mF k b).1):=by
 rw [zdl P.sm a.2 b.2 la lb (by omega),zvo]
end Go.Proofs.YtebfhlnfmkhmcaaGreat
/- Monic polynomials. -/
namespace Go.Proofs.YtebfhlnfmkhmcaaGreat
open Go.Abs

variable {P:Pri}
def Mo (a:PP P):Prop:=wG a.1=1
theorem Mo.ne {a:PP P} (h:Mo a):a ≠ 0:=fun e=>by
 subst e
 have:wG ([]:List Int)=1:=h
 simp [wG,rd] at this
theorem zis (a:PP P):wG a.1=a.c (a.len - 1):=rfl
/-- A polynomial made monic. -/
def mon (a:PP P):PP P:=mF (inv P.p (wG a.1)).toNat a
theorem zp0 {a:PP P} (ha:a ≠ 0):∃ u v:PP P,mon a=u*a∧a=v*mon a∧(mon a).len=a.len∧Mo (mon a):=by
 have hl:=zbj P.pos a.2 (zdo ha)
 have hi:=ze1 P.okp hl
 obtain ⟨k,hk⟩:∃ k:Nat,inv P.p (wG a.1)=k:=⟨(inv P.p (wG a.1)).toNat,by omega⟩
 have e1:mon a=mF k a:=by unfold mon; rw [hk,Int.toNat_natCast]
 have e2:mon a=mF k 1*a:=by rw [e1,zN.mul_comm,zN.mul_nsm,zN.mul_one]
 have hc:(mon a).c (a.len - 1)=1:=by
  rw [e1,zon,← zis,← hk,Int.mul_comm,hi.2.2]
 have hle:(mon a).len≤a.len:=by rw [e1]; exact zpk k a
 have hpos:=qW ha
 have hge:a.len - 1 < (mon a).len:=by
  rcases Nat.lt_or_ge (a.len - 1) (mon a).len with h | h
  ·exact h
  ·have h0:(mon a).c (a.len - 1)=0:=vT h
   rw [h0] at hc; omega
 have hlen:(mon a).len=a.len:=by omega
 have hmo:Mo (mon a):=by
  unfold Mo
  rw [zis,hlen,hc]
 obtain ⟨l,hll⟩:∃ l:Nat,wG a.1=l:=⟨(wG a.1).toNat,by omega⟩
 refine ⟨mF k 1,mF l 1,e2,?_,hlen,hmo⟩
 have e3:mF l 1*mon a=mF l (mon a):=by rw [zN.mul_comm,zN.mul_nsm,zN.mul_one]
 rw [e3,e1]
 refine zez fun i=>?_
 have hki:(l:Int)*k % P.p=1:=by rw [← hll,← hk]; exact hi.2.2
 rw [zon,zon,Int.mul_emod,Int.emod_emod,← Int.mul_emod,← Int.mul_assoc,Int.mul_emod,hki,Int.one_mul,Int.emod_emod,a.c_mod]
theorem zkx {a:PP P} (ha:a ≠ 0):(mon a).len=a.len:=by obtain ⟨u,v,_,_,h,_⟩:=zp0 ha; exact h
theorem zs0 {a:PP P} (ha:a ≠ 0):Mo (mon a):=by obtain ⟨u,v,_,_,_,h⟩:=zp0 ha; exact h
theorem z2f {a:PP P} (ha:a ≠ 0):Dv a (mon a)∧Dv (mon a) a:=by obtain ⟨u,v,h1,h2,_,_⟩:=zp0 ha; exact ⟨⟨u,h1⟩,⟨v,h2⟩⟩
/-- Monic polynomials that divide each other are the same. -/
theorem z6m {a b:PP P} (ha:Mo a) (hb:Mo b) (h1:Dv a b) (hl:a.len=b.len):a=b:=by
 obtain ⟨q,e⟩:=h1
 have hq:q ≠ 0:=fun h=>hb.ne (by rw [e,h,zN.zero_mul])
 have h2:=zcx hq ha.ne
 rw [← e] at h2
 have h3:=qW hq
 have h4:=qW ha.ne
 have hq1:q.len=1:=by omega
 have e2:b.c (b.len - 1)=q.c 0*a.c (a.len - 1) % P.p:=by
  rw [e,zmx]
  have e3:(q*a).len - 1=0 + (a.len - 1):=by rw [← e]; omega
  rw [e3,znl (a:=q.c) (b:=a.c) (n:=0) (m:=a.len - 1)]
  ·intro i hi; exact vT (by have:q.1.length=1:=hq1; omega)
  ·intro i hi; exact vT (by show a.len≤i; omega)
 rw [← zis,← zis,show wG a.1=1 from ha,show wG b.1=1 from hb,Int.mul_one,q.c_mod] at e2
 have e4:q=1:=zez fun i=>by
  rw [zx1]
  by_cases hi:i=0
  ·subst hi; rw [if_pos rfl,← e2]
  ·rw [if_neg hi]; exact vT (by have:q.1.length=1:=hq1; omega)
 rw [e,e4,zN.one_mul]
end Go.Proofs.YtebfhlnfmkhmcaaGreat
/- Forms over polynomials: reduced forms of one class are equal. -/
namespace Go.Proofs.YtebfhlnfmkhmcaaGreat
open Go.Abs
variable {P:Pri}
structure Dsc (D:PP P) (G:Nat):Prop where
 len:D.len=2*G + 2
 sqf:∀ π:PP P,Irr π→¬ Dv (π*π) D
 odd:P.n ≠ 2
structure Fm (D a b:PP P):Prop where
 mo:Mo a
 len:b.len < a.len
 dv:∃ c,b*b + -D=a*c
theorem z4o (h:P.n ≠ 2):(1 + 1:PP P) ≠ 0:=fun e=>by
 have h1:(1 + 1:PP P).c 0=0:=by rw [e]; exact zpr 0
 rw [zgb,zx1,if_pos rfl] at h1
 have hp:=P.is
 have e2:P.p=(P.n:Int):=rfl
 rw [e2] at h1
 rcases hp with h2 | h2 | h2 | h2 <;> rw [h2] at h1 <;> first | exact h h2 | exact absurd h1 (by decide)
theorem z28 (h:P.n ≠ 2) {π y:PP P} (hπ:Irr π) (hd:Dv π (y + y)):Dv π y:=by
 have e:y + y=(1 + 1)*y:=by rw [zN.add_mul,zN.one_mul]
 rw [e] at hd
 rcases hπ.prime hd with h1 | h1
 ·have h2:=zdr h1 (z4o h)
  have h3:=zb5 (1:PP P) 1
  rw [zfr] at h3
  have:=hπ.1
  omega
 ·exact h1
theorem zsg {a b:PP P} (h:b.len < a.len):(a + b).len=a.len:=by
 have h1:=zb5 a b
 have h2:=zb5 (a + b) (-b)
 have h3:=zb7 b
 rw [zN.add_assoc,zN.add_neg,zN.add_zero] at h2
 omega
theorem zun (a:PP P):(-a).len=a.len:=by
 have h1:=zb7 a
 have h2:=zb7 (-a)
 rw [zN.neg_neg] at h2
 omega
theorem zpp {a b:PP P} (h:a.len ≠ b.len):(a + -b).len=max a.len b.len:=by
 have h1:=zun b
 rcases Nat.lt_or_gt_of_ne h with h2 | h2
 ·rw [zN.add_comm,zsg (by omega)]; omega
 ·rw [zsg (by omega)]; omega
/-- No irreducible polynomial divides all of what a composition shares. -/
theorem cop {D:PP P} {G:Nat} (hD:Dsc D G) {d p g b c m:PP P} (n:PP P) (hd:d ≠ 0) (hZ:b + c=d*g) (h1:b*b + -D=d*p*m):∃ e f h k:PP P,e*d + f*(c + -b) + h*m + k*n=1:=by
 obtain ⟨g1,u1,v1,e1,d1,d1'⟩:=znp _ d (c + -b) (Nat.le_refl _)
 obtain ⟨g2,u2,v2,e2,d2,d2'⟩:=znp _ g1 m (Nat.le_refl _)
 obtain ⟨g3,u3,v3,e3,d3,d3'⟩:=znp _ g2 n (Nat.le_refl _)
 have R:IsRing (PP P):=zN
 have k1:Dv g3 d:=R.dv_trans (R.dv_trans d3 d2) d1
 have k2:Dv g3 (c + -b):=R.dv_trans (R.dv_trans d3 d2) d1'
 have k3:Dv g3 m:=R.dv_trans d3 d2'
 have hg0:g3 ≠ 0:=fun e=>hd (by
  obtain ⟨q,hq⟩:=k1
  rw [hq,e,R.mul_zero])
 have hp:=qW hg0
 by_cases hl:g3.len=1
 ·obtain ⟨w,hw⟩:=ztc hl
  refine ⟨w*(u3*(u2*u1)),w*(u3*(u2*v1)),w*(u3*v2),w*v3,?_⟩
  rw [← hw,e3,e2,e1]
  exact (z4v R w u3 v3 u2 v2 u1 v1 d (c + -b) m n).symm
 ·obtain ⟨π,hπ,hdv⟩:=zix _ g3 (Nat.le_refl _) (by omega)
  have q1:=R.dv_trans hdv k1
  have q2:=R.dv_trans hdv k2
  have q3:=R.dv_trans hdv k3
  have q4:Dv π (b + c):=by rw [hZ]; exact R.dv_mul' q1 g
  have q5:Dv π (b + b):=by
   rw [← z6f R b c]
   exact R.dv_add q4 (R.dv_neg q2)
  obtain ⟨y,hy⟩:=z28 hD.odd hπ q5
  obtain ⟨z,hz⟩:=q1
  obtain ⟨w,hw⟩:=q3
  refine absurd ?_ (hD.sqf π hπ)
  rw [D_of R h1,hy,hz,hw]
  exact ⟨_,(z3f R π y z w p)⟩
/-- Norms. -/
theorem z0c {D:PP P} {G:Nat} (hD:Dsc D G) {x:Qd D} (hv:x.v ≠ 0):D.len≤(nm x).len:=by
 have hDn:D ≠ 0:=fun e=>by have:=hD.len; rw [wT.2 e] at this; omega
 have hvv:x.v*x.v ≠ 0:=fun e=>by rcases zei _ _ e with h | h <;> exact hv h
 have l1:=zcx hv hv
 have l2:=zcx hDn hvv
 have l3:=qW hv
 have hl:=hD.len
 have l4:(x.u*x.u).len=0∨(x.u*x.u).len % 2=1:=by
  by_cases hu:x.u=0
  ·left; rw [hu,zN.mul_zero]; rfl
  ·right
   have:=zcx hu hu
   have:=qW hu
   omega
 unfold nm
 rw [zpp (by omega)]
 omega
theorem z4j {D:PP P} {G:Nat} (hD:Dsc D G) {x:Qd D} (h:nm x=0):x=0:=by
 by_cases hv:x.v=0
 ·have h1:x.u*x.u=0:=by
   unfold nm at h
   rwa [hv,zN.mul_zero,zN.mul_zero,zN.neg_zero,zN.add_zero] at h
  have h2:x.u=0:=by rcases zei _ _ h1 with h | h <;> exact h
  exact nH h2 hv
 ·have h1:=z0c hD hv
  rw [h,wT.2 rfl] at h1
  have:=hD.len
  omega
theorem zv4 {D:PP P} {G:Nat} (hD:Dsc D G) (x y:Qd D) (h:x*y=0):x=0∨y=0:=by
 have h1:nm x*nm y=0:=by
  rw [← z22 zN,h]
  show (0:PP P)*0 + -(D*(0*0))=0
  rw [zN.mul_zero,zN.mul_zero,zN.neg_zero,zN.add_zero]
 rcases zei _ _ h1 with h2 | h2
 ·exact .inl (z4j hD h2)
 ·exact .inr (z4j hD h2)
theorem zvi {D a:PP P} (ha:a ≠ 0):(⟨a,0⟩:Qd D) ≠ 0:=fun e=>ha (congrArg Qd.u e)
theorem ztp {D:PP P} (a b:PP P):(⟨a,0⟩:Qd D)*⟨b,0⟩=⟨a*b,0⟩:=nH (zqv zN D a b 0) (by show a*0 + 0*b=0; rw [zN.mul_zero,zN.zero_mul,zN.add_zero])
/-- A form times its opposite. -/
theorem z4p {D:PP P} {G:Nat} (hD:Dsc D G) {a b c:PP P} (ha:a ≠ 0) (h:b*b + -D=a*c):Pr (FI D a b) (FI D a (-b))=Sc (⟨a,0⟩:Qd D) fun _=>True:=by
 have R:IsRing (PP P):=zN
 have h1:b*b + -D=a*1*c:=by rw [R.mul_one]; exact h
 have h2:-b*-b + -D=a*1*c:=by rw [R.mul_one,R.mul_neg,zhu R,R.neg_neg]; exact h
 have hZ:b + -b=a*0:=by rw [R.add_neg,R.mul_zero]
 obtain ⟨e,f,h',k,hG⟩:=cop hD (p:=1) c ha hZ h1
 have hc:=zx5 R (D:=D) (d:=a) (p:=1) (q:=1) (g:=0) (b:=b) (c:=-b) (m:=c) (n:=c) (r:=1) (s:=0) (t:=0) hZ h1 h2 (by rw [R.mul_one,R.zero_mul,R.zero_mul,R.add_zero,R.add_zero]) (by rw [R.zero_mul,R.one_mul,R.add_neg]) hG
 rw [R.mul_one] at hc
 rw [hc,R.mul_one,zsl R]
end Go.Proofs.YtebfhlnfmkhmcaaGreat
/- Reduced forms of one class are the same. -/
namespace Go.Proofs.YtebfhlnfmkhmcaaGreat
open Go.Abs
variable {P:Pri}
theorem zqq {K:Type} [Add K] [Mul K] [Neg K] [Zero K] [One K] (R:IsRing K) (a:K):Sc a (fun _=>True) a:=⟨1,trivial,(R.mul_one a).symm⟩
theorem zyl {K:Type} [Add K] [Mul K] [Neg K] [Zero K] [One K]:Idl (fun _:K=>True):=⟨trivial,fun _ _=>trivial,fun _ _ _=>trivial⟩
theorem zks {D:PP P}:(1:Qd D) ≠ 0:=fun e=>zw6 (congrArg Qd.u e)
theorem z4u {D:PP P} (a b:PP P):FI D a b ⟨a,0⟩:=⟨1,by rw [zN.mul_zero,zN.zero_add,zN.mul_one]⟩
theorem z3a {D:PP P} (a b:PP P):FI D a b ⟨b,1⟩:=⟨0,by rw [zN.mul_one,zN.mul_zero,zN.add_zero]⟩
theorem Fm.idl {D a b:PP P} (h:Fm D a b):Idl (FI D a b):=by
 obtain ⟨c,hc⟩:=h.dv
 exact zw0 zN hc
theorem Fm.opp {D:PP P} {G:Nat} (hD:Dsc D G) {a b:PP P} (h:Fm D a b):Pr (FI D a b) (FI D a (-b))=Sc (⟨a,0⟩:Qd D) fun _=>True:=by
 obtain ⟨c,hc⟩:=h.dv
 exact z4p hD h.mo.ne hc
theorem znx {a b c:PP P} (ha:a ≠ 0) (h:a*b=a*c):b=c:=by
 have:a*(b + -c)=0:=by rw [zN.mul_add,zN.mul_neg,h,zN.add_neg]
 exact zN.sub_zero ((zei _ _ this).resolve_left ha)
theorem z6v {D a b a' b':PP P} (h:Fm D a b) (h':Fm D a' b') (e:FI D a b=FI D a' b'):a=a'∧b=b':=by
 have R:IsRing (PP P):=zN
 have h1:FI D a' b' ⟨a,0⟩:=by rw [← e]; exact z4u a b
 have h2:FI D a b ⟨a',0⟩:=by rw [e]; exact z4u a' b'
 have h3:FI D a' b' ⟨b,1⟩:=by rw [← e]; exact z3a a b
 obtain ⟨x,hx⟩:=h1
 obtain ⟨y,hy⟩:=h2
 obtain ⟨z,hz⟩:=h3
 have hx':a=a'*x:=by rw [R.mul_zero,R.zero_add] at hx; exact hx
 have hy':a'=a*y:=by rw [R.mul_zero,R.zero_add] at hy; exact hy
 have d1:Dv a' a:=⟨x,by rw [R.mul_comm]; exact hx'⟩
 have d2:Dv a a':=⟨y,by rw [R.mul_comm]; exact hy'⟩
 have l1:=zdr d1 h.mo.ne
 have l2:=zdr d2 h'.mo.ne
 have ea:a=a':=z6m h.mo h'.mo d2 (by omega)
 refine ⟨ea,?_⟩
 have hz':b + -b'=z*a':=by
  have hz2:b=b' + a'*z:=by
   have:b=b'*1 + a'*z:=hz
   rw [R.mul_one] at this; exact this
  rw [hz2,R.add_comm b',R.add_assoc,R.add_neg,R.add_zero,R.mul_comm]
 have hl:=h.len
 have hl':=h'.len
 have k1:=zb5 b (-b')
 have k2:=zb7 b'
 have hs:b + -b'=0:=zmp (a:=a') ⟨z,hz'⟩ (by rw [ea] at hl; omega)
 exact R.sub_zero hs
theorem z74 {D:PP P} {G:Nat} (hD:Dsc D G) {a b a' b':PP P} (h:Fm D a b) (h':Fm D a' b') (l:a.len≤G + 1) (l':a'.len≤G + 1) (hc:Cl (FI D a b) (FI D a' b')):a=a'∧b=b':=by
 have R:IsRing (PP P):=zN
 have Q:IsRing (Qd D):=zgm R
 have hd:∀ x y:Qd D,x*y=0→x=0∨y=0:=zv4 hD
 obtain ⟨α,β,hα,hβ,e⟩:=hc
 have ha0:=h.mo.ne
 have ha0':=h'.mo.ne
 have hO:=h.opp hD
 have hO':=h'.opp hD
 have e1:Sc α (Pr (FI D a b) (FI D a' (-b')))=Sc (β*⟨a',0⟩) fun _=>True:=by
  rw [← zli Q,e,zli Q,hO',zne Q]
 obtain ⟨γ,hγ,hγe⟩:Sc α (Pr (FI D a b) (FI D a' (-b'))) (β*⟨a',0⟩):=by rw [e1]; exact zqq Q _
 have e2:Pr (FI D a b) (FI D a' (-b'))=Sc γ fun _=>True:=by
  refine zrs Q hd hα ?_
  rw [e1,zne Q,hγe]
 have e3:Pr (FI D a (-b)) (FI D a' b')=Sc (cj γ) fun _=>True:=by
  have k1:=z6n R (FI D a b) (FI D a' (-b'))
  rw [z4e R,z4e R,R.neg_neg,e2,z6y R] at k1
  exact k1.symm
 have e4:Sc (⟨a*a',0⟩:Qd D) (fun _=>True)=Sc (⟨nm γ,0⟩:Qd D) fun _=>True:=by
  have k1:Pr (Pr (FI D a b) (FI D a' (-b'))) (Pr (FI D a (-b)) (FI D a' b'))=Pr (Pr (FI D a b) (FI D a (-b))) (Pr (FI D a' b') (FI D a' (-b'))):=by
   rw [zia Q,← zia Q (FI D a' (-b')),zcv Q (FI D a' (-b')) (FI D a (-b)),zia Q (FI D a (-b)),← zia Q (FI D a b),zcv Q (FI D a' (-b')) (FI D a' b')]
  rw [e2,e3,hO,hO',zli Q,zcv Q (fun _=>True),zli Q,zqz Q zyl,zne Q,z53 R,zli Q,zcv Q (fun _=>True),zli Q,zqz Q zyl,zne Q,ztp] at k1
  exact k1.symm
 have haa:a*a' ≠ 0:=fun e=>by rcases zei _ _ e with h1 | h1 <;> contradiction
 obtain ⟨z,_,hz⟩:Sc (⟨nm γ,0⟩:Qd D) (fun _=>True) (⟨a*a',0⟩:Qd D):=by rw [← e4]; exact zqq Q _
 have hz1:a*a'=nm γ*z.u:=by
  have:=congrArg Qd.u hz
  rw [z6e] at this
  rw [← zqv R D (nm γ) z.u z.v]; exact this
 have hlen:=zdr (a:=nm γ) ⟨z.u,hz1.trans (R.mul_comm _ _)⟩ haa
 have hlm:=zcx ha0 ha0'
 have hv:γ.v=0:=Classical.byContradiction fun hv=>by
  have:=z0c hD hv
  have:=hD.len
  omega
 obtain ⟨g,hg⟩:∃ g:PP P,γ=⟨g,0⟩:=⟨γ.u,nH rfl hv⟩
 rw [hg] at e2
 have e5:Sc (⟨a',0⟩:Qd D) (FI D a b)=Sc (⟨g,0⟩:Qd D) (FI D a' b'):=by
  have k1:Pr (Pr (FI D a b) (FI D a' (-b'))) (FI D a' b')=Pr (FI D a b) (Pr (FI D a' b') (FI D a' (-b'))):=by
   rw [zia Q,zcv Q (FI D a' (-b'))]
  rw [e2,hO',zli Q,zcv Q (fun _=>True),zqz Q h'.idl,zcv Q (FI D a b),zli Q,zcv Q (fun _=>True),zqz Q h.idl] at k1
  exact k1.symm
 have hg0:g ≠ 0:=fun hg0=>by
  obtain ⟨x,_,hx⟩:Sc (⟨g,0⟩:Qd D) (FI D a' b') ((⟨a',0⟩:Qd D)*⟨a,0⟩):=by rw [← e5]; exact ⟨_,z4u a b,rfl⟩
  rw [hg0] at hx
  have hz0:(⟨0,0⟩:Qd D)*x=0:=Q.zero_mul x
  rw [hz0,ztp] at hx
  exact haa (by rw [R.mul_comm]; exact congrArg Qd.u hx)
 have sv:∀ (k:PP P) (x:Qd D),((⟨k,0⟩:Qd D)*x).v=k*x.v:=fun k x=>z1x R k x.u x.v
 obtain ⟨k,hk⟩:∃ k,a'=g*k:=by
  obtain ⟨x,_,hx⟩:Sc (⟨g,0⟩:Qd D) (FI D a' b') ((⟨a',0⟩:Qd D)*⟨b,1⟩):=by rw [← e5]; exact ⟨_,z3a a b,rfl⟩
  have:=congrArg Qd.v hx
  rw [sv,sv] at this
  exact ⟨x.v,by rw [← this]; exact (R.mul_one _).symm⟩
 obtain ⟨l,hl⟩:∃ l,g=a'*l:=by
  obtain ⟨x,_,hx⟩:Sc (⟨a',0⟩:Qd D) (FI D a b) ((⟨g,0⟩:Qd D)*⟨b',1⟩):=by rw [e5]; exact ⟨_,z3a a' b',rfl⟩
  have:=congrArg Qd.v hx
  rw [sv,sv] at this
  exact ⟨x.v,by rw [← this]; exact (R.mul_one _).symm⟩
 have hlk:l*k=1:=znx ha0' (by rw [← R.mul_assoc,← hl,R.mul_one]; exact hk.symm)
 have e6:FI D a b=Sc (⟨l,0⟩:Qd D) (FI D a' b'):=by
  refine zrs Q hd (zvi ha0') ?_
  rw [e5,zne Q,ztp,← hl]
 refine z6v h h' (e6.trans (zai (fun x hx=>?_) (fun x hx=>?_)))
 ·obtain ⟨y,hy,rfl⟩:=hx
  exact h'.idl.mul _ hy
 ·refine ⟨_,h'.idl.mul ⟨k,0⟩ hx,?_⟩
  rw [← Q.mul_assoc,ztp,hlk]
  exact (Q.one_mul x).symm
end Go.Proofs.YtebfhlnfmkhmcaaGreat
/- Finite commutative groups. -/
namespace Go.Abs
structure AbG (X:Type) where
 op:X→X→X
 e:X
 comm:∀ a b,op a b=op b a
 assoc:∀ a b c,op (op a b) c=op a (op b c)
 one:∀ a,op e a=a
 inv:∀ a,∃ b,op b a=e
theorem zyi {X:Type}:∀ (l m:List X),l.Nodup→(∀ x∈l,x∈m)→m.length≤l.length→List.Perm l m
 | [],m,_,_,h=>by rw [List.eq_nil_of_length_eq_zero (Nat.le_zero.1 h)]
 | x :: l,m,hn,hs,h=>by
  obtain ⟨s,t,rfl⟩:=List.append_of_mem (hs x (List.mem_cons_self ..))
  have hn':=List.nodup_cons.1 hn
  have ih:=zyi l (s ++ t) hn'.2 (fun y hy=>by
   have h1:=hs y (List.mem_cons_of_mem _ hy)
   rcases List.mem_append.1 h1 with h2 | h2
   ·exact List.mem_append.2 (.inl h2)
   ·rcases List.mem_cons.1 h2 with h3 | h3
    ·exact absurd (h3 ▸ hy) hn'.1
    ·exact List.mem_append.2 (.inr h3)) (by simp only [List.length_append,List.length_cons] at h ⊢; omega)
  exact (ih.cons x).trans List.perm_middle.symm
namespace AbG
variable {X:Type} (G:AbG X)
def pw (f:X):Nat→X
 | 0=>G.e
 | n + 1=>G.op (pw f n) f
theorem one' (a:X):G.op a G.e=a:=by rw [G.comm,G.one]
theorem cancel {f a b:X} (h:G.op f a=G.op f b):a=b:=by
 obtain ⟨g,hg⟩:=G.inv f
 rw [← G.one a,← G.one b,← hg,G.assoc,G.assoc,h]
theorem pw_one (f:X):G.pw f 1=f:=G.one f
theorem pw_add (f:X) (m:Nat):∀ n,G.pw f (m + n)=G.op (G.pw f m) (G.pw f n)
 | 0=>(G.one' _).symm
 | n + 1=>by
  show G.op (G.pw f (m + n)) f=G.op (G.pw f m) (G.op (G.pw f n) f)
  rw [pw_add f m n,G.assoc]
theorem pw_mul (f:X) (m:Nat):∀ n,G.pw f (m*n)=G.pw (G.pw f m) n
 | 0=>rfl
 | n + 1=>by
  rw [Nat.mul_succ,pw_add,pw_mul f m n]
  rfl
theorem z6r:∀ n,G.pw G.e n=G.e
 | 0=>rfl
 | n + 1=>by
  show G.op (G.pw G.e n) G.e=_
  rw [G.one',z6r n]
theorem swap4 (a b c d:X):G.op (G.op a b) (G.op c d)=G.op (G.op a c) (G.op b d):=by
 rw [G.assoc,G.assoc,← G.assoc b,G.comm b c,G.assoc c]
/-- The product of all. -/
def all:List X→X
 | []=>G.e
 | x :: l=>G.op x (all l)
theorem all_perm {l m:List X} (h:List.Perm l m):G.all l=G.all m:=by
 induction h with
 | nil=>rfl
 | cons x _ ih=>simp only [all,ih]
 | swap x y l=>simp only [all]; rw [← G.assoc,← G.assoc,G.comm y x]
 | trans _ _ h1 h2=>exact h1.trans h2
theorem zx3 (f:X):∀ l,G.all (l.map (G.op f))=G.op (G.pw f l.length) (G.all l)
 | []=>(G.one _).symm
 | x :: l=>by
  simp only [List.map_cons,all,List.length_cons,pw,zx3 f l]
  rw [G.swap4,G.comm f]
theorem pw_card {L:List X} (hn:L.Nodup) (hL:∀ x,x∈L) (f:X):G.pw f L.length=G.e:=by
 have h1:List.Perm (L.map (G.op f)) L:=by
  refine zyi _ _ ?_ (fun x _=>hL x) (by rw [List.length_map]; exact Nat.le_refl _)
  unfold List.Nodup
  rw [List.pairwise_map]
  exact List.Pairwise.imp (fun h e=>h (G.cancel e)) hn
 have h2:=G.all_perm h1
 rw [zx3] at h2
 refine G.cancel (f:=G.all L) ?_
 rw [G.one',G.comm]
 exact h2
theorem z0h (p:Nat→Prop):∀ n,(∃ k,1≤k∧k≤n∧p k)→∃ k,1≤k∧k≤n∧p k∧∀ j,1≤j→j < k→¬ p j
 | 0,⟨k,h1,h2,_⟩=>by omega
 | n + 1,⟨k,h1,h2,h3⟩=>by
  by_cases h:∃ k,1≤k∧k≤n∧p k
  ·obtain ⟨k,a,b,c,d⟩:=z0h p n h
   exact ⟨k,a,by omega,c,d⟩
  ·refine ⟨k,h1,h2,h3,fun j a b c=>h ⟨j,a,by omega,c⟩⟩
/-- The order. -/
theorem order {L:List X} (hn:L.Nodup) (hL:∀ x,x∈L) (f:X):∃ k,1≤k∧k≤L.length∧G.pw f k=G.e∧(∀ j,1≤j→j < k→G.pw f j ≠ G.e)∧L.length % k=0:=by
 have h0:1≤L.length:=by
  rcases Nat.eq_zero_or_pos L.length with h | h
  ·have:=hL f; rw [List.eq_nil_of_length_eq_zero h] at this; cases this
  ·exact h
 obtain ⟨k,h1,h2,h3,h4⟩:=z0h (fun k=>G.pw f k=G.e) L.length ⟨L.length,h0,Nat.le_refl _,G.pw_card hn hL f⟩
 refine ⟨k,h1,h2,h3,h4,?_⟩
 have h5:=G.pw_card hn hL f
 rw [← Nat.div_add_mod L.length k,pw_add,pw_mul,h3,z6r,G.one] at h5
 rcases Nat.eq_zero_or_pos (L.length % k) with h | h
 ·exact h
 ·exact absurd h5 (h4 _ h (Nat.mod_lt _ (by omega)))
end AbG
end Go.Abs
/- Identities for reduction and composition. -/
namespace Go.Abs
section
variable {K:Type} [Add K] [Mul K] [Neg K] [Zero K] [One K]
theorem z6c (R:IsRing K) (A B D q r:K):r*r + -D=(q*A + r)*(q*A + r) + -D + -(A*(q*q*A + q*r + q*r)):=xB R [A,B,D,q,r] (.add (.mul (.v 4) (.v 4)) (.neg (.v 2))) (.add (.add (.mul (.add (.mul (.v 3) (.v 0)) (.v 4)) (.add (.mul (.v 3) (.v 0)) (.v 4))) (.neg (.v 2))) (.neg (.mul (.v 0) (.add (.add (.mul (.mul (.v 3) (.v 3)) (.v 0)) (.mul (.v 3) (.v 4))) (.mul (.v 3) (.v 4)))))) rfl
theorem z48 (R:IsRing K) (A C q r:K):A*C + -(A*(q*q*A + q*r + q*r))=A*(C + -(q*q*A + q*r + q*r)):=xB R [A,C,q,r] (.add (.mul (.v 0) (.v 1)) (.neg (.mul (.v 0) (.add (.add (.mul (.mul (.v 2) (.v 2)) (.v 0)) (.mul (.v 2) (.v 3))) (.mul (.v 2) (.v 3)))))) (.mul (.v 0) (.add (.v 1) (.neg (.add (.add (.mul (.mul (.v 2) (.v 2)) (.v 0)) (.mul (.v 2) (.v 3))) (.mul (.v 2) (.v 3)))))) rfl
theorem z1c (R:IsRing K) (D b:K):-b*-b + -D=b*b + -D:=xB R [D,b] (.add (.mul (.neg (.v 1)) (.neg (.v 1))) (.neg (.v 0))) (.add (.mul (.v 1) (.v 1)) (.neg (.v 0))) rfl
theorem zxh (R:IsRing K) (D b:K):b*b + -D=-(D + -(b*b)):=xB R [D,b] (.add (.mul (.v 1) (.v 1)) (.neg (.v 0))) (.neg (.add (.v 0) (.neg (.mul (.v 1) (.v 1))))) rfl
theorem z58 (R:IsRing K) (d g b c p q m n:K):d*(g*(c + -b) + -(q*n + -(p*m)))=d*g*(c + -b) + -(d*q*n + -(d*p*m)):=xB R [d,g,b,c,p,q,m,n] (.mul (.v 0) (.add (.mul (.v 1) (.add (.v 3) (.neg (.v 2)))) (.neg (.add (.mul (.v 5) (.v 7)) (.neg (.mul (.v 4) (.v 6))))))) (.add (.mul (.mul (.v 0) (.v 1)) (.add (.v 3) (.neg (.v 2)))) (.neg (.add (.mul (.mul (.v 0) (.v 5)) (.v 7)) (.neg (.mul (.mul (.v 0) (.v 4)) (.v 6)))))) rfl
theorem z4q (R:IsRing K) (D b c:K):(b + c)*(c + -b) + -(c*c + -D + -(b*b + -D))=0:=xB R [D,b,c] (.add (.mul (.add (.v 1) (.v 2)) (.add (.v 2) (.neg (.v 1)))) (.neg (.add (.add (.mul (.v 2) (.v 2)) (.neg (.v 0))) (.neg (.add (.mul (.v 1) (.v 1)) (.neg (.v 0))))))) .z rfl
theorem z51 (R:IsRing K) (d p q g r s t:K):d*(r*p + s*q + t*g)=r*(d*p) + s*(d*q) + t*(d*g):=xB R [d,p,q,g,r,s,t] (.mul (.v 0) (.add (.add (.mul (.v 4) (.v 1)) (.mul (.v 5) (.v 2))) (.mul (.v 6) (.v 3)))) (.add (.add (.mul (.v 4) (.mul (.v 0) (.v 1))) (.mul (.v 5) (.mul (.v 0) (.v 2)))) (.mul (.v 6) (.mul (.v 0) (.v 3)))) rfl
theorem z4z (R:IsRing K) (D d p q g b c r s t m:K):r*(d*p)*c + s*(d*q)*b + t*(b*c + D)=d*(r*p*c + s*q*b + t*(b*g + -(p*m))) + t*(b*(b + c + -(d*g)) + -(b*b + -D + -(d*p*m))):=xB R [D,d,p,q,g,b,c,r,s,t,m] (.add (.add (.mul (.mul (.v 7) (.mul (.v 1) (.v 2))) (.v 6)) (.mul (.mul (.v 8) (.mul (.v 1) (.v 3))) (.v 5))) (.mul (.v 9) (.add (.mul (.v 5) (.v 6)) (.v 0)))) (.add (.mul (.v 1) (.add (.add (.mul (.mul (.v 7) (.v 2)) (.v 6)) (.mul (.mul (.v 8) (.v 3)) (.v 5))) (.mul (.v 9) (.add (.mul (.v 5) (.v 4)) (.neg (.mul (.v 2) (.v 10))))))) (.mul (.v 9) (.add (.mul (.v 5) (.add (.add (.v 5) (.v 6)) (.neg (.mul (.v 1) (.v 4))))) (.neg (.add (.add (.mul (.v 5) (.v 5)) (.neg (.v 0))) (.neg (.mul (.mul (.v 1) (.v 2)) (.v 10)))))))) rfl
theorem y_u (R:IsRing K) (D B:K):0*B + D*(1*1)=D:=xB R [D,B] (.add (.mul .z (.v 1)) (.mul (.v 0) (.mul .o .o))) (.v 0) rfl
theorem y_v (R:IsRing K) (B:K):0*1 + 1*B=B:=xB R [B] (.add (.mul .z .o) (.mul .o (.v 0))) (.v 0) rfl
theorem z6g (R:IsRing K) (D B A w:K):B*B + -(B*B + A*w)=A*-w:=xB R [D,B,A,w] (.add (.mul (.v 1) (.v 1)) (.neg (.add (.mul (.v 1) (.v 1)) (.mul (.v 2) (.v 3))))) (.mul (.v 2) (.neg (.v 3))) rfl
theorem z6j (R:IsRing K) (d p q:K):d*p*(d*q)=d*d*(p*q):=xB R [d,p,q] (.mul (.mul (.v 0) (.v 1)) (.mul (.v 0) (.v 2))) (.mul (.mul (.v 0) (.v 0)) (.mul (.v 1) (.v 2))) rfl
theorem z2e (R:IsRing K) (k u v a b:K):k*(u*a + v*b)=k*u*a + k*v*b:=xB R [k,u,v,a,b] (.mul (.v 0) (.add (.mul (.v 1) (.v 3)) (.mul (.v 2) (.v 4)))) (.add (.mul (.mul (.v 0) (.v 1)) (.v 3)) (.mul (.mul (.v 0) (.v 2)) (.v 4))) rfl
theorem z1t (R:IsRing K) (w t u v a b s:K):w*(u*a + v*b) + t*s=w*u*a + w*v*b + t*s:=xB R [w,t,u,v,a,b,s] (.add (.mul (.v 0) (.add (.mul (.v 2) (.v 4)) (.mul (.v 3) (.v 5)))) (.mul (.v 1) (.v 6))) (.add (.add (.mul (.mul (.v 0) (.v 2)) (.v 4)) (.mul (.mul (.v 0) (.v 3)) (.v 5))) (.mul (.v 1) (.v 6))) rfl
theorem z40 (R:IsRing K) (q s t x y A B:K):(s + -(q*x))*A + (t + -(q*y))*B=s*A + t*B + -(q*(x*A + y*B)):=xB R [q,s,t,x,y,A,B] (.add (.mul (.add (.v 1) (.neg (.mul (.v 0) (.v 3)))) (.v 5)) (.mul (.add (.v 2) (.neg (.mul (.v 0) (.v 4)))) (.v 6))) (.add (.add (.mul (.v 1) (.v 5)) (.mul (.v 2) (.v 6))) (.neg (.mul (.v 0) (.add (.mul (.v 3) (.v 5)) (.mul (.v 4) (.v 6)))))) rfl
end
end Go.Abs
/- Reduction and composition of forms, in classes; the group of reduced forms. -/
namespace Go.Proofs.YtebfhlnfmkhmcaaGreat
open Go.Abs
variable {P:Pri}
theorem zu1 {a b:PP P} (ha:a ≠ 0) (hb:b ≠ 0):wG (a*b).1=wG a.1*wG b.1 % P.p:=by
 have h1:=zcx ha hb
 have h2:=qW ha
 have h3:=qW hb
 rw [zis,zis,zis,zmx,show (a*b).len - 1=(a.len - 1) + (b.len - 1) by omega,znl (a:=a.c) (b:=b.c) (n:=a.len - 1) (m:=b.len - 1)]
 ·intro i hi; exact vT (by show a.len≤i; omega)
 ·intro i hi; exact vT (by show b.len≤i; omega)
theorem z1f {a b:PP P} (ha:Mo a) (hb:Mo b):Mo (a*b):=by
 unfold Mo
 have h1:wG a.1=1:=ha
 have h2:wG b.1=1:=hb
 rw [zu1 ha.ne hb.ne,h1,h2,Int.one_mul]
 exact Int.emod_eq_of_lt (by omega) (by have:=P.two; omega)
theorem zy9 {a b:PP P} (ha:Mo a) (hb:b ≠ 0) (h:Mo (a*b)):Mo b:=by
 have h1:wG a.1=1:=ha
 have h2:wG (a*b).1=1:=h
 rw [zu1 ha.ne hb,h1,Int.one_mul,zis,b.c_mod,← zis] at h2
 exact h2
theorem z2b {D A B C q r:PP P} (h:B*B + -D=A*C) (e:B=q*A + r):∃ c,r*r + -D=A*c:=by
 have R:IsRing (PP P):=zN
 refine ⟨C + -(q*q*A + q*r + q*r),?_⟩
 rw [z6c R A B D q r,← e,h,z48 R]
theorem ztg {D A B:PP P} (hA:A ≠ 0):FI D A (yX B A)=FI D A B:=by
 have h:=(zj2 B hA).1
 have:FI D A B=FI D A (yX B A + A*za2 B A):=by
  rw [zN.add_comm,zN.mul_comm A,← h]
 rw [this,z5r zN]
/-- A form with B made smaller. -/
theorem zv8 {D A B C:PP P} (hA:Mo A) (h:B*B + -D=A*C):Fm D A (yX B A):=⟨hA,(zj2 B hA.ne).2,z2b h (zj2 B hA.ne).1⟩
theorem zyq {D:PP P} {S T:Qd D→Prop} (h:S=T):Cl S T:=h ▸ Cl.refl zks S
/-- One step of the reduction. -/
theorem zj1 {D:PP P} {G:Nat} (hD:Dsc D G) {a b q:PP P} (h:Fm D a b) (hl:G + 1 < a.len) (hq:b*b + -D=a*q∨D + -(b*b)=a*q) :
  q ≠ 0∧q.len < a.len∧Fm D (mon q) (yX (-b) (mon q))∧Cl (FI D a b) (FI D (mon q) (yX (-b) (mon q))):=by
 have R:IsRing (PP P):=zN
 obtain ⟨c,hc,e,he,hqe⟩:∃ c,b*b + -D=a*c∧∃ e:PP P,e*e=1∧q=e*c:=by
  rcases hq with h1 | h1
  ·exact ⟨q,h1,1,R.one_mul 1,(R.one_mul q).symm⟩
  ·refine ⟨-q,by rw [zxh R,h1,R.mul_neg],-1,by rw [R.mul_neg,zhu R,R.neg_neg,R.mul_one],by rw [R.mul_neg,zhu R,R.neg_neg,R.one_mul]⟩
 have hlen:(b*b + -D).len=max (b*b).len D.len∧(b*b).len + 3≤2*a.len:=by
  have h1:=hD.len
  have h2:=h.len
  by_cases hb:b=0
  ·have e0:(b*b).len=0:=by rw [hb,R.mul_zero]; rfl
   exact ⟨zpp (by omega),by omega⟩
  ·have h3:=zcx hb hb
   have h4:=qW hb
   exact ⟨zpp (by omega),by omega⟩
 have hDl:=hD.len
 have hc0:c ≠ 0:=fun h0=>by
  have:(b*b + -D).len=0:=by rw [hc,h0,R.mul_zero]; rfl
  omega
 have he0:e ≠ 0:=fun h0=>by rw [h0,R.mul_zero] at he; exact zw6 he.symm
 have hel:e.len=1:=by
  have h1:=zcx he0 he0
  rw [he,zfr] at h1
  have:=qW he0
  omega
 have hq0:q ≠ 0:=fun h0=>by
  rw [hqe] at h0
  rcases zei _ _ h0 with h1 | h1 <;> contradiction
 have hql:q.len=c.len:=by
  rw [hqe,zcx he0 hc0]
  omega
 have hac:=zcx h.mo.ne hc0
 rw [← hc] at hac
 obtain ⟨u,v,m1,m2,m3,m4⟩:=zp0 hq0
 have huv:u*v=1:=by
  have:q*(u*v)=q*1:=by
   rw [R.mul_one,← R.mul_assoc,R.mul_comm q u,← m1,R.mul_comm,← m2]
  exact znx hq0 this
 have hm:mon q=u*e*c:=by rw [m1,hqe,R.mul_assoc]
 have hk:u*e*(v*e)=1:=by
  rw [R.mul_assoc,← R.mul_assoc e,R.mul_comm e v,R.mul_assoc v,he,R.mul_one,huv]
 have hcm:c=mon q*(v*e):=by
  rw [hm,R.mul_comm (u*e*c),← R.mul_assoc,R.mul_comm (v*e),hk,R.one_mul]
 have hB:-b*-b + -D=mon q*(v*e*a):=by
  rw [z1c R,hc,R.mul_comm a,← R.mul_assoc,← hcm]
 have hpos:=qW h.mo.ne
 refine ⟨hq0,by omega,zv8 m4 hB,?_⟩
 have h1:=z49 R hc
 rw [ztg m4.ne,hm,zwv R c (-b) hk]
 exact ⟨⟨b,-1⟩,⟨a,0⟩,fun h0=>by
  have h1:-(1:PP P)=0:=congrArg Qd.v h0
  have:=zun (1:PP P)
  rw [h1,zfr,wT.2 rfl] at this
  omega,zvi h.mo.ne,h1⟩
/-- Composition. -/
theorem zx9 {D:PP P} {G:Nat} (hD:Dsc D G) {a b a' b' d r s t:PP P} (h:Fm D a b) (h':Fm D a' b') (hd:Mo d) (d1:Dv d a) (d2:Dv d a') (d3:Dv d (b + b')) (hb:d=r*a + s*a' + t*(b + b')) :
  ∃ A B,a*a'=d*d*A∧r*a*b' + s*a'*b + t*(b*b' + D)=d*B∧Fm D A (yX B A)∧Cl (Pr (FI D a b) (FI D a' b')) (FI D A (yX B A)):=by
 have R:IsRing (PP P):=zN
 have Q:IsRing (Qd D):=zgm R
 obtain ⟨p,hp⟩:=d1
 obtain ⟨q,hq⟩:=d2
 obtain ⟨g,hg⟩:=d3
 rw [R.mul_comm] at hp hq hg
 obtain ⟨m,hm⟩:=h.dv
 obtain ⟨n,hn⟩:=h'.dv
 rw [hp] at hm
 rw [hq] at hn
 have hd0:=hd.ne
 have hE:r*p + s*q + t*g=1:=znx hd0 (by rw [z51 R,← hp,← hq,← hg,← hb,R.mul_one])
 have hF:g*(b' + -b)=q*n + -(p*m):=by
  have h1:d*(g*(b' + -b) + -(q*n + -(p*m)))=0:=by rw [z58 R,← hg,← hm,← hn,z4q R]
  exact R.sub_zero ((zei _ _ h1).resolve_left hd0)
 obtain ⟨e,f,k,l,hG⟩:=cop hD n hd0 hg hm
 have hc:=zx5 R hg hm hn hE hF hG
 have hapq:a*a'=d*d*(p*q):=by rw [hp,hq,z6j R]
 have hpq0:p*q ≠ 0:=fun h0=>by
  rw [h0,R.mul_zero] at hapq
  rcases zei _ _ hapq with h1 | h1
  ·exact h.mo.ne h1
  ·exact h'.mo.ne h1
 have hmo:Mo (p*q):=by
  refine zy9 (z1f hd hd) hpq0 ?_
  rw [← hapq]
  exact z1f h.mo h'.mo
 refine ⟨p*q,r*p*b' + s*q*b + t*(b*g + -(p*m)),hapq,?_,?_⟩
 ·rw [hp,hq,z4z R D d p q g b b' r s t m,hg,R.add_neg,R.mul_zero,hm,R.add_neg,R.neg_zero,R.add_zero,R.mul_zero,R.add_zero]
 ·generalize hB:r*p*b' + s*q*b + t*(b*g + -(p*m))=B at *
  rw [← hp,← hq] at hc
  have hdn:(⟨d,0⟩:Qd D) ≠ 0:=zvi hd0
  have hi:Idl (Pr (FI D a b) (FI D a' b')):=Pr.idl Q h.idl
  have hy:FI D (p*q) B ((⟨0,1⟩:Qd D)*⟨B,1⟩):=by
   have h1:Sc (⟨d,0⟩:Qd D) (FI D (p*q) B) ((⟨0,1⟩:Qd D)*(⟨d,0⟩*⟨B,1⟩)):=by
    rw [← hc]
    refine hi.mul _ ?_
    rw [hc]
    exact ⟨_,z3a _ _,rfl⟩
   obtain ⟨x,hx,ex⟩:=h1
   rw [← Q.mul_assoc,Q.mul_comm (⟨0,1⟩:Qd D),Q.mul_assoc] at ex
   have h2:(⟨d,0⟩:Qd D)*((⟨0,1⟩:Qd D)*⟨B,1⟩ + -x)=0:=by rw [Q.mul_add,Q.mul_neg,ex,Q.add_neg]
   rw [Q.sub_zero ((zv4 hD _ _ h2).resolve_left hdn)]
   exact hx
  obtain ⟨w,hw⟩:=hy
  have hw':D=B*B + p*q*w:=by
   have h1:(0:PP P)*B + D*(1*1)=B*(0*1 + 1*B) + p*q*w:=hw
   rw [y_u R,y_v R] at h1
   exact h1
  have hBB:B*B + -D=p*q*-w:=by
   have h1:=z6g R D B (p*q) w
   rw [← hw'] at h1
   exact h1
  refine ⟨zv8 hmo hBB,1,⟨d,0⟩,zks,hdn,?_⟩
  rw [zv6 Q,hc,ztg hpq0]
/-- A monic greatest common divisor. -/
theorem zxq {a b:PP P} (ha:a ≠ 0):∃ g u v,Mo g∧g=u*a + v*b∧Dv g a∧Dv g b:=by
 obtain ⟨g,u,v,e,d1,d2⟩:=znp _ a b (Nat.le_refl _)
 have hg:g ≠ 0:=fun h0=>by
  obtain ⟨q,hq⟩:=d1
  exact ha (by rw [hq,h0,zN.mul_zero])
 obtain ⟨k,l,m1,m2,_,m4⟩:=zp0 hg
 refine ⟨mon g,k*u,k*v,m4,by rw [← z2e zN,← e]; exact m1,zN.dv_trans ⟨l,m2⟩ d1,zN.dv_trans ⟨l,m2⟩ d2⟩

/-! Reduced forms. -/
structure Rf (D:PP P) (G:Nat) where
 a:PP P
 b:PP P
 fm:Fm D a b
 sm:a.len≤G + 1
theorem zsu {D:PP P} {G:Nat}:∀ {x y:Rf D G},x.a=y.a→x.b=y.b→x=y
 | ⟨_,_,_,_⟩,⟨_,_,_,_⟩,rfl,rfl=>rfl
def Rf.I {D:PP P} {G:Nat} (x:Rf D G):Qd D→Prop:=FI D x.a x.b
section
variable {D:PP P} {G:Nat} (hD:Dsc D G)
include hD
theorem zxr {x y:Rf D G} (h:Cl x.I y.I):x=y:=by
 obtain ⟨h1,h2⟩:=z74 hD x.fm y.fm x.sm y.sm h
 exact zsu h1 h2
theorem zde {S T U:Qd D→Prop} (h1:Cl S T) (h2:Cl T U):Cl S U:=Cl.trans (zgm zN) (zv4 hD) h1 h2
theorem z15:∀ (n:Nat) (a b:PP P),a.len≤n→Fm D a b→∃ r:Rf D G,Cl (FI D a b) r.I
 | 0,a,b,hn,h=>by have:=qW h.mo.ne; omega
 | n + 1,a,b,hn,h=>by
  by_cases hl:a.len≤G + 1
  ·exact ⟨⟨a,b,h,hl⟩,zyq rfl⟩
  ·obtain ⟨q,hq⟩:=h.dv
   obtain ⟨h1,h2,h3,h4⟩:=zj1 hD h (by omega) (.inl hq)
   obtain ⟨r,hr⟩:=z15 n _ _ (by rw [zkx h1]; omega) h3
   exact ⟨r,zde hD h4 hr⟩
theorem z4g (x y:Rf D G):∃ r:Rf D G,Cl (Pr x.I y.I) r.I:=by
 obtain ⟨o,u,v,m1,e1,d1,d1'⟩:=zxq (a:=x.a) (b:=y.a) x.fm.mo.ne
 obtain ⟨d,w,t,m2,e2,d2,d2'⟩:=zxq (a:=o) (b:=x.b + y.b) m1.ne
 obtain ⟨A,B,h1,h2,h3,h4⟩:=zx9 hD (r:=w*u) (s:=w*v) (t:=t) x.fm y.fm m2 (zN.dv_trans d2 d1) (zN.dv_trans d2 d1') d2' (by rw [← z1t zN,← e1]; exact e2)
 obtain ⟨r,hr⟩:=z15 hD _ _ _ (Nat.le_refl _) h3
 exact ⟨r,zde hD h4 hr⟩
noncomputable def rop (x y:Rf D G):Rf D G:=Classical.choose (z4g hD x y)
theorem zp7 (x y:Rf D G):Cl (Pr x.I y.I) (rop hD x y).I:=Classical.choose_spec (z4g hD x y)
theorem zlp {x y r:Rf D G} (h:Cl (Pr x.I y.I) r.I):r=rop hD x y:=zxr hD (zde hD h.symm (zp7 hD x y))
omit hD in
theorem z45:Mo (1:PP P):=by
 show rd [1] ([(1:Int)].length - 1)=1
 rfl
omit hD in
theorem z5c:Fm D (1:PP P) 0:=⟨z45,by rw [zfr]; exact Nat.zero_lt_one,⟨_,(zN.one_mul _).symm⟩⟩
omit hD in
def zax:Rf D G:=⟨1,0,z5c,by rw [zfr]; omega⟩
omit hD in
theorem z5d {a b:PP P} (h:Fm D a b):Fm D a (yX (-b) a):=by
 obtain ⟨c,hc⟩:=h.dv
 exact zv8 h.mo (C:=c) (by rw [z1c zN,hc])
omit hD in
def zqa (x:Rf D G):Rf D G:=⟨x.a,yX (-x.b) x.a,z5d x.fm,x.sm⟩
noncomputable def xY:AbG (Rf D G) where
 op:=rop hD
 e:=zax
 comm x y:=zlp hD (by rw [zcv (zgm zN)]; exact zp7 hD x y)
 assoc x y z:=by
  have Q:IsRing (Qd D):=zgm zN
  refine zlp hD (zde hD ?_ (zp7 hD (rop hD x y) z))
  refine zde hD ?_ (Cl.pr Q (zp7 hD x y) z.I)
  rw [zia Q,zcv Q x.I,zcv Q x.I]
  exact Cl.pr Q (zp7 hD y z).symm x.I
 one x:=by
  refine (zlp hD ?_).symm
  show Cl (Pr (FI D 1 0) (FI D x.a x.b)) (FI D x.a x.b)
  rw [zsl zN,zcv (zgm zN),zqz (zgm zN) x.fm.idl]
  exact zyq rfl
 inv x:=⟨zqa x,by
  refine (zlp hD ?_).symm
  show Cl (Pr (FI D x.a (yX (-x.b) x.a)) (FI D x.a x.b)) (FI D 1 0)
  rw [ztg x.fm.mo.ne,zcv (zgm zN),x.fm.opp hD,zsl zN]
  exact ⟨1,⟨x.a,0⟩,zks,zvi x.fm.mo.ne,by rw [zv6 (zgm zN)]⟩⟩
end
end Go.Proofs.YtebfhlnfmkhmcaaGreat
/- Products, in the reference. -/
namespace Go.Proofs.YtebfhlnfmkhmcaaGreat
open Go.Abs

/-- One row of the reference's product. -/
theorem zxb {p:Int} (hp:2≤p∧p≤256) {a b:V64} (ha:Res p a) (hb:Res p b) {i db:Nat} (hi:i + db < 64) {v:V64} (hv:Res p v) :
  ∃ v',yK (fun s:Int×V64=>kO (db:Int) (i:Int) a b p s.1 s.2) (0,v)=some v'∧Res p v'∧∀ k,k < 64→rd v'.1 k=if i≤k∧k≤i + db then (rd v.1 k + rd a.1 i*rd b.1 (k - i)) % p else rd v.1 k:=by
 by_cases h0:rd a.1 i=0
 ·refine ⟨v,?_,hv,fun k hk=>?_⟩
  ·rw [yR]
   simp only [kO]
   rw [yA (by omega)]
   simp [h0]
  ·rw [h0]
   split
   ·have:=hv k hk
    rw [Int.zero_mul,Int.add_zero,Int.emod_eq_of_lt this.1 this.2]
   ·rfl
 ·have hai:=ha i (by omega)
  obtain ⟨v',h1,h2,h3⟩:=wR (body:=fun s:Int×V64=>kO (db:Int) (i:Int) a b p s.1 s.2) (fun j (v:V64)=>((j:Int),v)) (fun v=>v) (db + 1)
   (fun j u=>Res p u∧∀ k,k < 64→rd u.1 k=if i≤k∧k < i + j then (rd v.1 k + rd a.1 i*rd b.1 (k - i)) % p else rd v.1 k) (fun j u hj hI=>by
    obtain ⟨hr,hk⟩:=hI
    have hbj:=hb j (by omega)
    have huj:=hr (i + j) (by omega)
    have e1:IntKind.i64.wrap ((i:Int) + (j:Int))=((i + j:Nat):Int):=by rw [zX (by omega) (by omega)]; omega
    have hm:=mI (x:=rd a.1 i) (y:=rd b.1 j) (by omega) (by omega)
    have hmod:Int.tmod (rd u.1 (i + j) + rd a.1 i*rd b.1 j) p=(rd u.1 (i + j) + rd a.1 i*rd b.1 j) % p:=Int.tmod_eq_emod_of_nonneg (by omega)
    have hlt:=zaq (show 0 < p by omega) (rd u.1 (i + j) + rd a.1 i*rd b.1 j)
    refine ⟨yO u (i + j) ((rd u.1 (i + j) + rd a.1 i*rd b.1 j) % p),?_,fun k hk'=>?_,fun k hk'=>?_⟩
    ·simp only [kO,kR]
     rw [if_pos (by simp; omega),yA (by omega)]
     simp only [Option.bind_some]
     rw [if_pos (by simpa using h0),e1]
     rw [yA (by omega),yA (by omega),yA (by omega),yA (by omega),yA (by omega)]
     simp only [Int.toNat_natCast]
     rw [zX (n:=rd u.1 (i + j)) (by omega) (by omega),zX (n:=rd a.1 i) (by omega) (by omega),zX (n:=rd b.1 j) (by omega) (by omega),zX (n:=rd a.1 i*rd b.1 j) (by omega) (by omega),zX (n:=rd u.1 (i + j) + rd a.1 i*rd b.1 j) (by omega) (by omega),hmod,zja hlt.1 (by omega),zX (by omega) (by omega)]
     rfl
    ·rw [za3 _ _ _ _ (by omega)]
     split
     ·exact hlt
     ·exact hr k hk'
    ·rw [za3 _ _ _ _ (by omega)]
     by_cases e:k=i + j
     ·subst e
      rw [if_pos rfl,if_pos (by omega),hk _ hk',if_neg (by omega),show i + j - i=j by omega]
     ·rw [if_neg e,hk k hk']
      by_cases hc:i≤k∧k < i + j
      ·rw [if_pos hc,if_pos (by omega)]
      ·rw [if_neg hc,if_neg (by omega)]) (fun u hI=>by
    simp only [kO]
    rw [if_neg (by simp; omega)]
    rfl) (db + 1) 0 v (by omega) ⟨hv,fun k hk=>by rw [if_neg (by omega)]⟩
  exact ⟨v',h1,h2,fun k hk=>by rw [h3 k hk]; simp only [show (i≤k∧k < i + (db + 1))=(i≤k∧k≤i + db) from by rw [eq_iff_iff]; omega]⟩


theorem zkp {p:Int} (hp:2≤p∧p≤256) {a b:List Int} (ha:Row p a) (hb:Row p b) (la:a.length≤64) (lb:b.length≤64) (hl:a.length=0∨b.length=0∨a.length + b.length≤65) :
  xO p (yP a) (yP b)=some (yP (mul p a b),true):=by
 have hta:top (rd (yP a).1) 64=a.length:=by rw [zfz 64 fun i hi=>uW a hi,ha.top la]
 have htb:top (rd (yP b).1) 64=b.length:=by rw [zfz 64 fun i hi=>uW b hi,hb.top lb]
 simp only [xO,zjy,Option.bind_some,hta,htb]
 by_cases h1:a.length=0
 ·have e:a=[]:=List.eq_nil_of_length_eq_zero h1
  subst e
  simp [zsv,zb4]
 by_cases h2:b.length=0
 ·have e:b=[]:=List.eq_nil_of_length_eq_zero h2
  subst e
  simp [zul,zb4]
 have hra:=za5 ha (show 0 < p by omega)
 have hrb:=za5 hb (show 0 < p by omega)
 obtain ⟨db,hdb⟩:∃ db:Nat,b.length=db + 1:=⟨b.length - 1,by omega⟩
 obtain ⟨da,hda⟩:∃ da:Nat,a.length=da + 1:=⟨a.length - 1,by omega⟩
 have e1:((a.length:Nat):Int) - 1=(da:Int):=by omega
 have e2:((b.length:Nat):Int) - 1=(db:Int):=by omega
 rw [e1,e2,zX (by omega) (by omega)]
 simp only [show (decide ((da:Int) < 0))=false by simp,Bool.false_eq_true,if_false,show (decide ((db:Int) < 0))=false by simp,show (decide ((da:Int) + (db:Int) > 63))=false by simp; omega,Option.bind_some]
 obtain ⟨v,h3,h4,h5⟩:=wR (body:=fun s:Int×V64=>jF (da:Int) (db:Int) (yP a) (yP b) p s.1 s.2) (fun i v=>((i:Int),v)) (fun v=>v) (da + 1)
  (fun i v=>Res p v∧∀ k,k < 64→rd v.1 k=cv (rd a) (rd b) i k % p) (fun i v hi hI=>by
   obtain ⟨hv,hk⟩:=hI
   obtain ⟨v',g1,g2,g3⟩:=zxb hp hra hrb (i:=i) (db:=db) (by omega) hv
   refine ⟨v',?_,g2,fun k hk'=>?_⟩
   ·simp only [jF]
    rw [if_pos (by simp; omega),g1]
    simp only [Option.bind_some]
    rw [zX (by omega) (by omega)]; rfl
   ·rw [g3 k hk',hk k hk',zm3]
    by_cases hc:i≤k∧k≤i + db
    ·rw [if_pos hc,if_pos hc.1,uW _ (by omega),uW _ (by omega),Int.emod_add_emod]
    ·rw [if_neg hc]
     by_cases hik:i≤k
     ·rw [if_pos hik,vT (l:=b) (by omega),Int.mul_zero,Int.add_zero]
     ·rw [if_neg hik,Int.add_zero]) (fun v hI=>by
   simp only [jF]
   rw [if_neg (by simp; omega)]) (da + 1) 0 (yH 64 0) (by omega) ⟨fun j hj=>by rw [zg0 _ hj]; omega,fun k hk=>by rw [zg0 _ hk]; simp [cv,vE]⟩
 have h3':yK (fun s:Int×V64=>jF (da:Int) (db:Int) (yP a) (yP b) p s.1 s.2) (0,yH 64 0)=some v:=h3
 rw [h3']
 simp only [Option.bind_some]
 congr 2
 exact ze9 fun k hk=>by rw [h5 k hk,uW _ hk,zhh,zml fun i hi=>vT (by omega)]

end Go.Proofs.YtebfhlnfmkhmcaaGreat
/- One. -/
namespace Go.Proofs.YtebfhlnfmkhmcaaGreat
open Go.Abs

theorem zxl {p:Int} (hp:2≤p):Row p [1]:=⟨by simp; omega,by simp [rd]⟩
theorem zof:zaz=some (yP [1]):=by
 unfold zaz
 congr 1
end Go.Proofs.YtebfhlnfmkhmcaaGreat
/- Primes. -/
namespace Go.Proofs.YtebfhlnfmkhmcaaGreat
open Go.Abs

theorem zil (p:Int):zbs p=some (isP p):=by
 unfold zbs isP
 by_cases h1:p=2 <;> by_cases h2:p=3 <;> by_cases h3:p=5 <;> simp [h1,h2,h3]

theorem zmh (p:Int):zd6 p=some (isP p):=by
 unfold zd6 isP
 by_cases h1:p=2 <;> by_cases h2:p=3 <;> by_cases h3:p=5 <;> simp [h1,h2,h3]
end Go.Proofs.YtebfhlnfmkhmcaaGreat
/- Powers of p; one. -/
namespace Go.Proofs.YtebfhlnfmkhmcaaGreat
open Go.Abs

theorem zrl {p:Nat} (hp:2≤p) {n m:Nat} (h:n≤m):p ^ n≤p ^ m:=Nat.pow_le_pow_right (by omega) h
/-- p to a power, at most a bit more than a limit. -/
theorem zxn {p n most:Nat} (hp:2≤p∧p≤7) (hn:n≤1000000) (hm:most≤1152921504606846976):∃ c:Nat,nG p n most=some (c:Int)∧((p ^ n≤most∧c=p ^ n)∨(most < p ^ n∧most < c))∧c≤8070450532247928832:=by
 have key:∀ (m i:Nat),i + m=n→(i=0∨p ^ (i - 1)≤most)→∃ c:Nat,yK (fun s:Int×Int=>wN (n:Int) (most:Int) p s.1 s.2) (((p ^ i:Nat):Int),(i:Int))=some (c:Int)∧((p ^ n≤most∧c=p ^ n)∨(most < p ^ n∧most < c) ∨(n=i∧c=p ^ n))∧c≤8070450532247928832:=by
  intro m
  induction m with
  | zero =>
   intro i hi hle
   have:i=n:=by omega
   subst this
   have step:wN (i:Int) (most:Int) p ((p ^ i:Nat):Int) (i:Int)=some (.inr ((p ^ i:Nat):Int)):=by
    simp only [wN]
    rw [if_neg (by rw [decide_eq_true_eq]; omega)]
   rw [yR]
   simp only [step,Option.bind_some]
   refine ⟨p ^ i,rfl,?_,?_⟩
   ·exact .inr (.inr (by simp))
   ·rcases hle with rfl | hle
    ·simp
    ·rcases Nat.eq_zero_or_pos i with rfl | h
     ·simp
     ·have:p ^ i=p ^ (i - 1)*p:=by rw [← Nat.pow_succ]; congr 1; omega
      rw [this]
      have:=Nat.mul_le_mul hle hp.2
      omega
  | succ m ih =>
   intro i hi hle
   have hmono:=zrl hp.1 (show i≤n by omega)
   by_cases h:most < p ^ i
   ·have step:wN (n:Int) (most:Int) p ((p ^ i:Nat):Int) (i:Int)=some (.inr ((p ^ i:Nat):Int)):=by
     simp only [wN]
     rw [if_pos (decide_eq_true (by omega)),if_pos (decide_eq_true (by omega))]
    rw [yR]
    simp only [step,Option.bind_some]
    refine ⟨p ^ i,rfl,.inr (.inl ⟨by omega,h⟩),?_⟩
    rcases hle with rfl | hle
    ·simp
    ·rcases Nat.eq_zero_or_pos i with rfl | h
     ·simp
     ·have:p ^ i=p ^ (i - 1)*p:=by rw [← Nat.pow_succ]; congr 1; omega
      rw [this]
      have:=Nat.mul_le_mul hle hp.2
      omega
   ·have hle2:=Nat.mul_le_mul (show p ^ i≤most by omega) hp.2
    have e1:((p ^ i:Nat):Int)*(p:Int)=((p ^ (i + 1):Nat):Int):=by rw [Nat.pow_succ,Int.natCast_mul]
    have e2:p ^ (i + 1)=p ^ i*p:=Nat.pow_succ ..
    have step:wN (n:Int) (most:Int) p ((p ^ i:Nat):Int) (i:Int)=some (.inl (((p ^ (i + 1):Nat):Int),((i + 1:Nat):Int))):=by
     simp only [wN]
     rw [if_pos (decide_eq_true (by omega)),if_neg (by rw [decide_eq_true_eq]; omega),e1,zX (n:=((p ^ (i + 1):Nat):Int)) (by omega) (by omega),zX (by omega) (by omega)]
     rfl
    rw [yR]
    simp only [step,Option.bind_some]
    obtain ⟨c,h1,h2,h3⟩:=ih (i + 1) (by omega) (.inr (by simp only [Nat.add_sub_cancel]; omega))
    refine ⟨c,h1,?_,h3⟩
    rcases h2 with h2 | h2 | ⟨h2,h4⟩
    ·exact .inl h2
    ·exact .inr (.inl h2)
    ·by_cases h5:p ^ n≤most
     ·exact .inl ⟨h5,h4⟩
     ·exact .inr (.inl ⟨by omega,by omega⟩)
 obtain ⟨c,h1,h2,h3⟩:=key n 0 (by omega) (.inl rfl)
 simp only [Nat.pow_zero] at h1
 refine ⟨c,?_,?_,h3⟩
 ·have h1':yK (fun s:Int×Int=>wN (n:Int) (most:Int) p s.1 s.2) (1,0)=some (c:Int):=h1
  simp only [nG,h1',Option.bind_some]
 ·rcases h2 with h2 | h2 | ⟨h2,h4⟩
  ·exact .inl h2
  ·exact .inr h2
  ·by_cases h5:p ^ n≤most
   ·exact .inl ⟨h5,h4⟩
   ·exact .inr ⟨by omega,by omega⟩
end Go.Proofs.YtebfhlnfmkhmcaaGreat
/- The extended algorithm of Euclid. -/
namespace Go.Proofs.YtebfhlnfmkhmcaaGreat
open Go.Abs

/-- One step for a cofactor. -/
def cx (p:Int) (q s0 s1:List Int):List Int:=zb8 p s0 (mul p q s1) (-1)
def ez (p:Int):Nat→List Int→List Int→List Int→List Int→List Int→List Int→List Int×List Int×List Int
 | 0,a,_,s0,_,t0,_=>(a,s0,t0)
 | n + 1,a,b,s0,s1,t0,t1=>if b.length=0 then (a,s0,t0) else ez p n b (rem p a b) s1 (cx p (quo p a b) s0 s1) t1 (cx p (quo p a b) t0 t1)
theorem z5h {p:Int} (hp:0 < p) (q s0 s1:List Int):Row p (cx p q s0 s1):=zbm hp _ _ _
/-- What the cofactors keep to: M is one more than the greater of the two lengths. -/
structure EzOk (p:Int) (M:Nat) (a b s0 s1:List Int):Prop where
 r0:Row p s0
 r1:Row p s1
 h1:s1.length + a.length≤M
 h2:s0.length + b.length≤M
theorem EzOk.next {p:Int} (hp:isP p=true) {M:Nat} {a b s0 s1:List Int} (h:EzOk p M a b s0 s1) (ha:Row p a) (hb:Row p b) (h0:b.length ≠ 0) :
  EzOk p M b (rem p a b) s1 (cx p (quo p a b) s0 s1):=by
 have hp2:=wU hp
 have c:=zdd p s0 (mul p (quo p a b) s1) (-1)
 have m:=zmm p (quo p a b) s1
 have q:=zg8 p a b
 have r:=zvw p a b
 have r':=zku hp ha hb h0
 have h1:=h.h1
 have h2:=h.h2
 refine ⟨h.r1,z5h (by omega) _ _ _,?_,by omega⟩
 unfold cx
 rcases Nat.eq_zero_or_pos (quo p a b).length with h3 | h3
 ·have e:quo p a b=[]:=List.eq_nil_of_length_eq_zero h3
  rw [e,zsv] at c ⊢
  simp only [List.length_nil] at c
  omega
 ·omega
theorem EzOk.prod {p:Int} {M:Nat} {a b s0 s1:List Int} (hM:M≤65) (h:EzOk p M a b s0 s1) (h0:b.length ≠ 0):(quo p a b).length=0∨s1.length=0∨(quo p a b).length + s1.length≤65:=by
 have q:=zg8 p a b
 have h1:=h.h1
 omega
theorem EzOk.plen {p:Int} {M:Nat} {a b s0 s1:List Int} (hM:M≤65) (h:EzOk p M a b s0 s1) (h0:b.length ≠ 0):(mul p (quo p a b) s1).length≤64:=by
 have q:=zg8 p a b
 have h1:=h.h1
 have m:=zmm p (quo p a b) s1
 omega
theorem z0n {p:Int} (hp:isP p=true) {M:Nat} (hM:M≤65):∀ (n:Nat) (a b s0 s1 t0 t1:List Int),Row p a→Row p b→a.length≤64→b.length≤n→b.length≤64→EzOk p M a b s0 s1→EzOk p M a b t0 t1 →
  yK (fun s:List Int×List Int×List Int×List Int×List Int×List Int=>wB p s.1 s.2.1 s.2.2.1 s.2.2.2.1 s.2.2.2.2.1 s.2.2.2.2.2) (a,b,s0,t0,s1,t1)=some (ez p n a b s0 s1 t0 t1):=by
 have hp2:=wU hp
 have hq:0 < p∧p≤256:=by omega
 intro n
 induction n with
 | zero =>
  intro a b s0 s1 t0 t1 ha hb la lb lb2 hs ht
  have step:wB p a b s0 t0 s1 t1=some (.inr (a,s0,t0)):=by
   simp only [wB]
   rw [if_neg (by rw [decide_eq_true_eq]; omega)]
  rw [yR]
  simp only [step,Option.bind_some,ez]
 | succ n ih =>
  intro a b s0 s1 t0 t1 ha hb la lb lb2 hs ht
  by_cases h0:b.length=0
  ·have step:wB p a b s0 t0 s1 t1=some (.inr (a,s0,t0)):=by
    simp only [wB]
    rw [if_neg (by rw [decide_eq_true_eq]; omega)]
   rw [yR]
   simp only [step,Option.bind_some,ez,if_pos h0]
  ·have hqr:=zso (show 0 < p by omega) a b
   have hrr:=zih (show 0 < p by omega) ha b
   have hql:=zg8 p a b
   have hrl:=zku hp ha hb h0
   have p1:=hs.plen hM h0
   have p2:=ht.plen hM h0
   have q1:=hs.h1
   have q2:=hs.h2
   have q3:=ht.h1
   have q4:=ht.h2
   have step:wB p a b s0 t0 s1 t1=some (.inl (b,rem p a b,s1,t1,cx p (quo p a b) s0 s1,cx p (quo p a b) t0 t1)):=by
    simp only [wB]
    rw [if_pos (decide_eq_true (by omega)),zlm hp ha hb h0 (by omega) (by omega)]
    simp only [Option.bind_some]
    rw [zmw (by omega) (hqr.ent hq) (hs.r1.ent hq) (by omega) (by omega)]
    simp only [Option.bind_some]
    rw [zab hq (hs.r0.ent hq) ((zd7 hq.1 _ _).ent hq) (by omega) (by omega) (by omega)]
    simp only [Option.bind_some]
    rw [zmw (by omega) (hqr.ent hq) (ht.r1.ent hq) (by omega) (by omega)]
    simp only [Option.bind_some]
    rw [zab hq (ht.r0.ent hq) ((zd7 hq.1 _ _).ent hq) (by omega) (by omega) (by omega)]
    rfl
   rw [yR]
   simp only [step,Option.bind_some]
   rw [ih b (rem p a b) _ _ _ _ hb hrr lb2 (by omega) (by omega) (hs.next hp ha hb h0) (ht.next hp ha hb h0)]
   simp only [ez,if_neg h0]
theorem z0u {p:Int} (hp:isP p=true) {M:Nat} (hM:M≤65):∀ (n:Nat) (a b s0 s1 t0 t1:List Int),Row p a→Row p b→a.length≤64→b.length≤n→b.length≤64→s0.length≤64→s1.length≤64→t0.length≤64→t1.length≤64→EzOk p M a b s0 s1→EzOk p M a b t0 t1 →
  yK (fun s:V64×V64×V64×V64×V64×V64=>wZ p s.1 s.2.1 s.2.2.1 s.2.2.2.1 s.2.2.2.2.1 s.2.2.2.2.2) (yP a,yP b,yP s0,yP s1,yP t0,yP t1)=some (yP (ez p n a b s0 s1 t0 t1).1,yP (ez p n a b s0 s1 t0 t1).2.1,yP (ez p n a b s0 s1 t0 t1).2.2):=by
 have hp2:=wU hp
 have hq:0 < p∧p≤256:=by omega
 have ld:∀ {v:List Int},Row p v→v.length≤64→yW (yP v)=some ((v.length:Int) - 1):=fun hv lv=>by rw [zjy,ze0 lv,hv.top lv]
 intro n
 induction n with
 | zero =>
  intro a b s0 s1 t0 t1 ha hb la lb lb2 l0 l1 m0 m1 hs ht
  have step:wZ p (yP a) (yP b) (yP s0) (yP s1) (yP t0) (yP t1)=some (.inr (yP a,yP s0,yP t0)):=by
   simp only [wZ,ld hb lb2,Option.bind_some]
   rw [if_neg (by rw [decide_eq_true_eq]; omega)]
  rw [yR]
  simp only [step,Option.bind_some,ez]
 | succ n ih =>
  intro a b s0 s1 t0 t1 ha hb la lb lb2 l0 l1 m0 m1 hs ht
  by_cases h0:b.length=0
  ·have step:wZ p (yP a) (yP b) (yP s0) (yP s1) (yP t0) (yP t1)=some (.inr (yP a,yP s0,yP t0)):=by
    simp only [wZ,ld hb lb2,Option.bind_some]
    rw [if_neg (by rw [decide_eq_true_eq]; omega)]
   rw [yR]
   simp only [step,Option.bind_some,ez,if_pos h0]
  ·have hqr:=zso (show 0 < p by omega) a b
   have hrr:=zih (show 0 < p by omega) ha b
   have hql:=zg8 p a b
   have hrl:=zku hp ha hb h0
   have p1:=hs.plen hM h0
   have p2:=ht.plen hM h0
   have c1:=zdd p s0 (mul p (quo p a b) s1) (-1)
   have c2:=zdd p t0 (mul p (quo p a b) t1) (-1)
   have step:wZ p (yP a) (yP b) (yP s0) (yP s1) (yP t0) (yP t1)=some (.inl (yP b,yP (rem p a b),yP s1,yP (cx p (quo p a b) s0 s1),yP t1,yP (cx p (quo p a b) t0 t1))):=by
    simp only [wZ,ld hb lb2,Option.bind_some]
    rw [if_pos (decide_eq_true (by omega)),zlk hp ha hb h0 la lb2]
    simp only [Option.bind_some]
    rw [zkp (by omega) hqr hs.r1 (by omega) l1 (hs.prod hM h0)]
    simp only [Option.bind_some]
    rw [zkp (by omega) hqr ht.r1 (by omega) m1 (ht.prod hM h0)]
    simp only [Option.bind_some]
    rw [zdl hq hs.r0 (zd7 hq.1 _ _) l0 p1 (by omega)]
    simp only [Option.bind_some]
    rw [zdl hq ht.r0 (zd7 hq.1 _ _) m0 p2 (by omega)]
    rfl
   rw [yR]
   simp only [step,Option.bind_some]
   rw [ih b (rem p a b) _ _ _ _ hb hrr lb2 (by omega) (by omega) l1 (by unfold cx; omega) m1 (by unfold cx; omega) (hs.next hp ha hb h0) (ht.next hp ha hb h0)]
   simp only [ez,if_neg h0]
theorem z1s {p:Int} (hp:isP p=true) {M:Nat} (hM:M≤65):∀ (n:Nat) (a b s0 s1 t0 t1:List Int),Row p a→Row p b→a.length≤64→b.length≤64→b.length≤n→(a.length ≠ 0∨b.length ≠ 0)→s0.length≤64→s1.length≤64→t0.length≤64→t1.length≤64→EzOk p M a b s0 s1→EzOk p M a b t0 t1 →
  (Row p (ez p n a b s0 s1 t0 t1).1∧(ez p n a b s0 s1 t0 t1).1.length≤64∧(ez p n a b s0 s1 t0 t1).1.length ≠ 0)∧(Row p (ez p n a b s0 s1 t0 t1).2.1∧(ez p n a b s0 s1 t0 t1).2.1.length≤64)∧(Row p (ez p n a b s0 s1 t0 t1).2.2∧(ez p n a b s0 s1 t0 t1).2.2.length≤64)
 | 0,a,b,s0,s1,t0,t1,ha,hb,la,lb,ln,hab,l0,l1,m0,m1,hs,ht=>⟨⟨ha,la,by simp only [ez]; omega⟩,⟨hs.r0,l0⟩,⟨ht.r0,m0⟩⟩
 | n + 1,a,b,s0,s1,t0,t1,ha,hb,la,lb,ln,hab,l0,l1,m0,m1,hs,ht=>by
  simp only [ez]
  by_cases h0:b.length=0
  ·simp only [if_pos h0]
   exact ⟨⟨ha,la,by omega⟩,⟨hs.r0,l0⟩,⟨ht.r0,m0⟩⟩
  ·simp only [if_neg h0]
   have hp2:=wU hp
   have hrl:=zku hp ha hb h0
   have p1:=hs.plen hM h0
   have p2:=ht.plen hM h0
   have c1:=zdd p s0 (mul p (quo p a b) s1) (-1)
   have c2:=zdd p t0 (mul p (quo p a b) t1) (-1)
   exact z1s hp hM n b (rem p a b) _ _ _ _ hb (zih (by omega) ha b) lb (by omega) (by omega) (.inl h0) l1 (by unfold cx; omega) m1 (by unfold cx; omega) (hs.next hp ha hb h0) (ht.next hp ha hb h0)

/-- The greatest common divisor, monic, with its cofactors. -/
def eg (p:Int) (a b:List Int):List Int×List Int×List Int:=ez p 64 a b [1] [] [] [1]
def sc (p:Int) (k:Int) (l:List Int):List Int:=zb8 p [] l k
def bz (p:Int) (a b:List Int):List Int×List Int×List Int:=(sc p (inv p (wG (eg p a b).1)) (eg p a b).1,sc p (inv p (wG (eg p a b).1)) (eg p a b).2.1,sc p (inv p (wG (eg p a b).1)) (eg p a b).2.2)
theorem zik {p:Int} (hp:2≤p) {a b:List Int} (la:a.length≤64) (lb:b.length≤64):EzOk p (max a.length b.length + 1) a b [1] []∧EzOk p (max a.length b.length + 1) a b [] [1] :=
 ⟨⟨zxl hp,zcz p,by simp only [List.length_nil]; omega,by simp only [List.length_cons,List.length_nil]; omega⟩,⟨zcz p,zxl hp,by simp only [List.length_cons,List.length_nil]; omega,by simp only [List.length_nil]; omega⟩⟩
theorem zqn {p:Int} (hp:isP p=true) {a b:List Int} (ha:Row p a) (hb:Row p b) (la:a.length≤64) (lb:b.length≤64) (hab:a.length ≠ 0∨b.length ≠ 0) :
  (Row p (eg p a b).1∧(eg p a b).1.length≤64∧(eg p a b).1.length ≠ 0)∧(Row p (eg p a b).2.1∧(eg p a b).2.1.length≤64)∧(Row p (eg p a b).2.2∧(eg p a b).2.2.length≤64):=by
 have hp2:=wU hp
 obtain ⟨e1,e2⟩:=zik (p:=p) (by omega) la lb
 exact z1s hp (by omega) 64 a b [1] [] [] [1] ha hb la lb lb hab (by simp) (by simp) (by simp) (by simp) e1 e2
theorem z5p {p k:Int} {l:List Int}:(sc p k l).length≤l.length:=by
 have:=zdd p [] l k
 simpa [sc] using this
theorem zl4 {p:Int} (hp:isP p=true) {a b:List Int} (ha:Row p a) (hb:Row p b) (la:a.length≤64) (lb:b.length≤64) (hab:a.length ≠ 0∨b.length ≠ 0):qU p a b=some (bz p a b):=by
 have hp2:=wU hp
 have hq:0 < p∧p≤256:=by omega
 obtain ⟨e1,e2⟩:=zik (p:=p) (by omega) la lb
 have h:=z0n hp (by omega) 64 a b [1] [] [] [1] ha hb la lb lb e1 e2
 obtain ⟨⟨g1,g2,g3⟩,⟨g4,g5⟩,g6,g7⟩:=zqn hp ha hb la lb hab
 have h':yK (fun s:List Int×List Int×List Int×List Int×List Int×List Int=>wB p s.1 s.2.1 s.2.2.1 s.2.2.2.1 s.2.2.2.2.1 s.2.2.2.2.2) (a,b,[1],[],[],[1])=some ((eg p a b).1,(eg p a b).2.1,(eg p a b).2.2):=h
 have hl:=zbj (show 0 < p by omega) g1 g3
 have hi:=ze1 hp hl
 simp only [qU,wX,h',Option.bind_some,zpe g3 (by omega),ziw hp hl]
 rw [zab hq ((zcz p).ent hq) (g1.ent hq) (by simp) (by omega) (by omega)]
 simp only [Option.bind_some]
 rw [zab hq ((zcz p).ent hq) (g4.ent hq) (by simp) (by omega) (by omega)]
 simp only [Option.bind_some]
 rw [zab hq ((zcz p).ent hq) (g6.ent hq) (by simp) (by omega) (by omega)]
 rfl
theorem zgg {p:Int} (hp:isP p=true) {a b:List Int} (ha:Row p a) (hb:Row p b) (la:a.length≤64) (lb:b.length≤64) (hab:a.length ≠ 0∨b.length ≠ 0):kC p (yP a) (yP b)=some (yP (bz p a b).1,yP (bz p a b).2.1,yP (bz p a b).2.2):=by
 have hp2:=wU hp
 have hq:0 < p∧p≤256:=by omega
 obtain ⟨e1,e2⟩:=zik (p:=p) (by omega) la lb
 have h:=z0u hp (by omega) 64 a b [1] [] [] [1] ha hb la lb lb (by simp) (by simp) (by simp) (by simp) e1 e2
 obtain ⟨⟨g1,g2,g3⟩,⟨g4,g5⟩,g6,g7⟩:=zqn hp ha hb la lb hab
 rw [zb4] at h
 have h':yK (fun s:V64×V64×V64×V64×V64×V64=>wZ p s.1 s.2.1 s.2.2.1 s.2.2.2.1 s.2.2.2.2.1 s.2.2.2.2.2) (yP a,yP b,yP [1],yH 64 0,yH 64 0,yP [1])=some (yP (eg p a b).1,yP (eg p a b).2.1,yP (eg p a b).2.2):=h
 have hl:=zbj (show 0 < p by omega) g1 g3
 have hi:=ze1 hp hl
 have hd:yW (yP (eg p a b).1)=some (((eg p a b).1.length - 1:Nat):Int):=by
  rw [zjy,ze0 g2,g1.top g2]; congr 1; omega
 simp only [kC,zof,h',Option.bind_some,hd]
 rw [yA (by omega),Int.toNat_natCast,uW _ (show (eg p a b).1.length - 1 < 64 by omega),show rd (eg p a b).1 ((eg p a b).1.length - 1)=wG (eg p a b).1 from rfl,zfx hp hl]
 simp only [Option.bind_some]
 rw [zX (by omega) (by omega),← zb4,zdl hq (zcz p) g1 (by simp) g2 (by omega)]
 simp only [Option.bind_some]
 rw [zdl hq (zcz p) g4 (by simp) g5 (by omega)]
 simp only [Option.bind_some]
 rw [zdl hq (zcz p) g6 (by simp) g7 (by omega)]
 rfl
/-- It is monic. -/
theorem zvs {p:Int} (hp:isP p=true) {a b:List Int} (ha:Row p a) (hb:Row p b) (la:a.length≤64) (lb:b.length≤64) (hab:a.length ≠ 0∨b.length ≠ 0):Row p (bz p a b).1∧(bz p a b).1.length ≠ 0∧(bz p a b).1.length≤64∧wG (bz p a b).1=1:=by
 have hp2:=wU hp
 obtain ⟨⟨g1,g2,g3⟩,_,_⟩:=zqn hp ha hb la lb hab
 have hl:=zbj (show 0 < p by omega) g1 g3
 have hi:=ze1 hp hl
 have hr:Row p (bz p a b).1:=zbm (by omega) _ _ _
 have key:∀ i,rd (bz p a b).1 i=inv p (wG (eg p a b).1)*rd (eg p a b).1 i % p:=fun i=>by
  show rd (zb8 p [] (eg p a b).1 _) i=_
  rw [zfs,vT (l:=[]) (by simp),Int.zero_add]
 have h1:rd (bz p a b).1 ((eg p a b).1.length - 1)=1:=by
  rw [key,Int.mul_comm]; exact hi.2.2
 have h2:(bz p a b).1.length≤(eg p a b).1.length:=z5p
 have h3:(eg p a b).1.length - 1 < (bz p a b).1.length:=by
  rcases Nat.lt_or_ge ((eg p a b).1.length - 1) (bz p a b).1.length with h | h
  ·exact h
  ·rw [vT h] at h1; omega
 have h4:(bz p a b).1.length=(eg p a b).1.length:=by omega
 refine ⟨hr,by omega,by omega,?_⟩
 unfold wG
 rw [h4,h1]
end Go.Proofs.YtebfhlnfmkhmcaaGreat
/- Greatest common divisors, and monic polynomials. -/
namespace Go.Proofs.YtebfhlnfmkhmcaaGreat
open Go.Abs

variable {P:Pri}
/-! The greatest common divisor. -/
theorem z09:∀ (n:Nat) (a b:PP P) (s0 s1 t0 t1:List Int),b.len≤n→∃ g:PP P,(ez P.p n a.1 b.1 s0 s1 t0 t1).1=g.1∧∀ d,Dv d g ↔ Dv d a∧Dv d b
 | 0,a,b,s0,s1,t0,t1,h=>by
  have hb:b=0:=wT.1 (by omega)
  refine ⟨a,by simp only [ez],fun d=>?_⟩
  rw [hb]
  exact ⟨fun h=>⟨h,zN.dv_zero d⟩,fun h=>h.1⟩
 | n + 1,a,b,s0,s1,t0,t1,h=>by
  simp only [ez]
  by_cases h0:b.1.length=0
  ·rw [if_pos h0]
   have hb:b=0:=wT.1 h0
   refine ⟨a,rfl,fun d=>?_⟩
   rw [hb]
   exact ⟨fun h=>⟨h,zN.dv_zero d⟩,fun h=>h.1⟩
  ·rw [if_neg h0]
   have hb:b ≠ 0:=fun e=>h0 (wT.2 e)
   obtain ⟨h1,h2⟩:=zj2 a hb
   obtain ⟨g,e,hg⟩:=z09 n b (yX a b) s1 (cx P.p (quo P.p a.1 b.1) s0 s1) t1 (cx P.p (quo P.p a.1 b.1) t0 t1) (by omega)
   refine ⟨g,e,fun d=>?_⟩
   rw [hg]
   constructor
   ·rintro ⟨d1,d2⟩
    refine ⟨?_,d1⟩
    rw [h1]
    exact zN.dv_add (zN.dv_mul d1 _) d2
   ·rintro ⟨d1,d2⟩
    refine ⟨d2,?_⟩
    rw [h1] at d1
    exact zN.dv_sub d1 (zN.dv_mul d2 _)
theorem zwn (a:PP P) (k:Nat):sc P.p k a.1=(mF k a).1:=by
 have h:=zvo 0 a k
 rw [zN.zero_add] at h
 exact h
/-- What the program and the reference compute. -/
theorem z08 {a b:PP P} (la:a.len≤64) (lb:b.len≤64) (hab:a ≠ 0∨b ≠ 0):∃ g:PP P,(bz P.p a.1 b.1).1=g.1∧g.len≤64∧Mo g∧∀ d,Dv d g ↔ Dv d a∧Dv d b:=by
 obtain ⟨g,e,hg⟩:=z09 64 a b [1] [] [] [1] lb
 have hab':a.1.length ≠ 0∨b.1.length ≠ 0:=hab.imp zdo zdo
 obtain ⟨⟨g1,g2,g3⟩,_,_⟩:=zqn P.okp a.2 b.2 la lb hab'
 have e':(eg P.p a.1 b.1).1=g.1:=e
 rw [e'] at g1 g2 g3
 have hg0:g ≠ 0:=fun h=>g3 (wT.2 h)
 have hl:=zbj P.pos g.2 g3
 have hi:=ze1 P.okp hl
 obtain ⟨k,hk⟩:∃ k:Nat,inv P.p (wG g.1)=k:=⟨(inv P.p (wG g.1)).toNat,by omega⟩
 have e2:(bz P.p a.1 b.1).1=(mon g).1:=by
  show sc P.p (inv P.p (wG (eg P.p a.1 b.1).1)) (eg P.p a.1 b.1).1=_
  rw [e',hk,zwn]
  unfold mon
  rw [hk,Int.toNat_natCast]
 refine ⟨mon g,e2,by rw [zkx hg0]; exact g2,zs0 hg0,fun d=>?_⟩
 obtain ⟨m1,m2⟩:=z2f hg0
 rw [← hg]
 exact ⟨fun h=>zN.dv_trans h m2,fun h=>zN.dv_trans h m1⟩
theorem z7j {a b:PP P} (la:a.len≤64) (lb:b.len≤64) (hab:a ≠ 0∨b ≠ 0):∃ g:PP P,zcf P.p (yP a.1) (yP b.1)=some (yP g.1)∧g.len≤64∧Mo g∧∀ d,Dv d g ↔ Dv d a∧Dv d b:=by
 obtain ⟨g,e,h1,h2,h3⟩:=z08 la lb hab
 refine ⟨g,?_,h1,h2,h3⟩
 simp only [zcf,zq6 a la,zq6 b lb,Option.bind_some,zgg P.okp a.2 b.2 la lb (hab.imp zdo zdo),e]
 by_cases ha:a.len=0
 ·have hb:b.len ≠ 0:=by
   rcases hab with h | h
   ·exact absurd (wT.1 ha) h
   ·exact fun h0=>h (wT.1 h0)
  rw [if_pos (decide_eq_true (by omega)),decide_eq_false (by omega)]
  rfl
 ·rw [if_neg (by rw [decide_eq_true_eq]; omega)]
  rfl
end Go.Proofs.YtebfhlnfmkhmcaaGreat
/- The identity of Bezout for what both sides compute. -/
namespace Go.Proofs.YtebfhlnfmkhmcaaGreat
open Go.Abs
variable {P:Pri}
theorem zo9 (a b:PP P):zb8 P.p a.1 b.1 (-1)=(a + -b).1:=by
 apply zgy (zbm P.pos _ _ _) (a + -b).2
 intro i
 show rd (zb8 P.p a.1 b.1 (-1)) i=(a + -b).c i
 rw [zfs,zgb,zyn,Int.add_emod_emod]
 show (rd a.1 i + -1*rd b.1 i) % P.p=(rd a.1 i + -(rd b.1 i)) % P.p
 rw [Int.neg_mul,Int.one_mul]
theorem z4c (q s0 s1:PP P):cx P.p q.1 s0.1 s1.1=(s0 + -(q*s1)).1:=zo9 s0 (q*s1)
theorem z0q {A B:PP P}:∀ (n:Nat) (a b s0 s1 t0 t1:PP P),b.len≤n→a=s0*A + t0*B→b=s1*A + t1*B→∃ g s t:PP P,ez P.p n a.1 b.1 s0.1 s1.1 t0.1 t1.1=(g.1,s.1,t.1)∧g=s*A + t*B∧∀ d,Dv d g ↔ Dv d a∧Dv d b
 | 0,a,b,s0,s1,t0,t1,h,e1,_=>by
  have hb:b=0:=wT.1 (by omega)
  refine ⟨a,s0,t0,by simp only [ez],e1,fun d=>?_⟩
  rw [hb]
  exact ⟨fun h=>⟨h,zN.dv_zero d⟩,fun h=>h.1⟩
 | n + 1,a,b,s0,s1,t0,t1,h,e1,e2=>by
  have R:IsRing (PP P):=zN
  simp only [ez]
  by_cases h0:b.1.length=0
  ·rw [if_pos h0]
   have hb:b=0:=wT.1 h0
   refine ⟨a,s0,t0,rfl,e1,fun d=>?_⟩
   rw [hb]
   exact ⟨fun h=>⟨h,zN.dv_zero d⟩,fun h=>h.1⟩
  ·rw [if_neg h0]
   have hb:b ≠ 0:=fun e=>h0 (wT.2 e)
   obtain ⟨h1,h2⟩:=zj2 a hb
   have hc1:cx P.p (quo P.p a.1 b.1) s0.1 s1.1=(s0 + -(za2 a b*s1)).1:=z4c (za2 a b) s0 s1
   have hc2:cx P.p (quo P.p a.1 b.1) t0.1 t1.1=(t0 + -(za2 a b*t1)).1:=z4c (za2 a b) t0 t1
   have hr:yX a b=(s0 + -(za2 a b*s1))*A + (t0 + -(za2 a b*t1))*B:=by
    have k1:yX a b=a + -(za2 a b*b):=by
     refine R.cancel (a:=za2 a b*b) ?_
     rw [← h1,R.add_left_comm,R.add_neg,R.add_zero]
    rw [k1,z40 R,← e1,← e2]
   obtain ⟨g,s,t,e,hg,hv⟩:=z0q n b (yX a b) s1 (s0 + -(za2 a b*s1)) t1 (t0 + -(za2 a b*t1)) (by omega) e2 hr
   rw [← hc1,← hc2] at e
   refine ⟨g,s,t,e,hg,fun d=>?_⟩
   rw [hv]
   constructor
   ·rintro ⟨d1,d2⟩
    refine ⟨?_,d1⟩
    rw [h1]
    exact R.dv_add (R.dv_mul d1 _) d2
   ·rintro ⟨d1,d2⟩
    refine ⟨d2,?_⟩
    rw [h1] at d1
    exact R.dv_sub d1 (R.dv_mul d2 _)
theorem zxj {p:Int} (hp:isP p=true) {M:Nat}:∀ (n:Nat) (a b s0 s1 t0 t1:List Int),Row p a→Row p b→EzOk p M a b s0 s1→EzOk p M a b t0 t1→(ez p n a b s0 s1 t0 t1).2.1.length≤M∧(ez p n a b s0 s1 t0 t1).2.2.length≤M
 | 0,a,b,s0,s1,t0,t1,_,_,hs,ht=>by
  have:=hs.h2
  have:=ht.h2
  simp only [ez]; omega
 | n + 1,a,b,s0,s1,t0,t1,ha,hb,hs,ht=>by
  have:=hs.h2
  have:=ht.h2
  simp only [ez]
  by_cases h0:b.length=0
  ·simp only [if_pos h0]; omega
  ·simp only [if_neg h0]
   exact zxj hp n b (rem p a b) _ _ _ _ hb (zih (by have:=wU hp; omega) ha b) (hs.next hp ha hb h0) (ht.next hp ha hb h0)
theorem zxi {a b:PP P} (la:a.len≤64) (lb:b.len≤64) (hab:a ≠ 0∨b ≠ 0):∃ g u v:PP P,bz P.p a.1 b.1=(g.1,u.1,v.1)∧Mo g∧g=u*a + v*b∧Dv g a∧Dv g b∧u.len≤max a.len b.len + 1∧v.len≤max a.len b.len + 1:=by
 have R:IsRing (PP P):=zN
 obtain ⟨g,s,t,e,hg,hv⟩:=z0q (A:=a) (B:=b) 64 a b 1 0 0 1 lb (by rw [R.one_mul,R.zero_mul,R.add_zero]) (by rw [R.one_mul,R.zero_mul,R.zero_add])
 have hab':a.1.length ≠ 0∨b.1.length ≠ 0:=hab.imp zdo zdo
 obtain ⟨⟨g1,g2,g3⟩,_,_⟩:=zqn P.okp a.2 b.2 la lb hab'
 obtain ⟨k1,k2⟩:=zik (p:=P.p) P.two.1 la lb
 obtain ⟨l1,l2⟩:=zxj P.okp 64 a.1 b.1 [1] [] [] [1] a.2 b.2 k1 k2
 have e':eg P.p a.1 b.1=(g.1,s.1,t.1):=e
 have l1':s.len≤max a.len b.len + 1:=by
  have:(eg P.p a.1 b.1).2.1.length≤max a.len b.len + 1:=l1
  rw [e'] at this; exact this
 have l2':t.len≤max a.len b.len + 1:=by
  have:(eg P.p a.1 b.1).2.2.length≤max a.len b.len + 1:=l2
  rw [e'] at this; exact this
 rw [e'] at g1 g2 g3
 have hg0:g ≠ 0:=fun h=>g3 (wT.2 h)
 have hl:=zbj P.pos g.2 g3
 have hi:=ze1 P.okp hl
 obtain ⟨k,hk⟩:∃ k:Nat,inv P.p (wG g.1)=k:=⟨(inv P.p (wG g.1)).toNat,by omega⟩
 obtain ⟨d1,d2⟩:=(hv g).1 (R.dv_refl g)
 obtain ⟨m1,m2⟩:=z2f hg0
 have hm:mon g=mF k g:=by unfold mon; rw [hk,Int.toNat_natCast]
 have hn:∀ x:PP P,mF k x=mF k 1*x:=fun x=>by rw [R.mul_comm,R.mul_nsm,R.mul_one]
 refine ⟨mon g,mF k s,mF k t,?_,zs0 hg0,?_,R.dv_trans m2 d1,R.dv_trans m2 d2,Nat.le_trans (zpk k s) l1',Nat.le_trans (zpk k t) l2'⟩
 ·simp only [bz,e',hk,zwn,hm]
 ·rw [hm,hn g,hn s,hn t,hg,z2e R]
end Go.Proofs.YtebfhlnfmkhmcaaGreat
/- The polynomial with a number. -/
namespace Go.Proofs.YtebfhlnfmkhmcaaGreat
open Go.Abs

theorem zrh {p:Nat} (hp:2≤p):∀ s:Int×List Int,(∃ n:Nat,s.1=n∧s.2.length + n≤1000000000000)→∃ r,yK (fun s:Int×List Int=>qI p s.1 s.2) s=some r∧∀ n:Nat,s.1=n→r=s.2 ++ qM p n:=by
 refine zbr (fun (s:Int×List Int)=>∃ n:Nat,s.1=n∧s.2.length + n≤1000000000000) (fun (s:Int×List Int) (r:List Int)=>∀ n:Nat,s.1=n→r=s.2 ++ qM p n) (fun (s:Int×List Int)=>s.1.toNat) ?_
 rintro ⟨x,l⟩ ⟨n,hx,h2⟩
 simp only at hx h2
 subst hx
 by_cases hn:n=0
 ·right
  subst hn
  refine ⟨l,by simp [qI],fun m hm=>?_⟩
  have:m=0:=by simpa using hm.symm
  subst this
  rw [jH]; simp
 ·left
  have hlt:n / p < n:=Nat.div_lt_self (by omega) hp
  have e1:Int.tdiv (n:Int) p=((n / p:Nat):Int):=rfl
  have e2:Int.tmod (n:Int) p=((n % p:Nat):Int):=rfl
  have ed:=zan hp (show 0 < n by omega)
  generalize n / p=q at hlt e1 ed
  generalize n % p=d at e2 ed
  refine ⟨((q:Int),l ++ [(d:Int)]),?_,⟨q,rfl,by simp only [List.length_append,List.length_singleton]; omega⟩,by simp only [Int.toNat_natCast]; exact hlt,fun r hr m hm=>?_⟩
  ·simp only [qI]
   rw [if_pos (by simp; omega),yA (by omega),yA (by simp; omega),yA (by omega),e1,e2,zX (by omega) (by omega)]
  ·have:m=n:=by have:(n:Int)=m:=hm; omega
   subst this
   rw [hr q rfl,ed]
   simp

theorem zok {p n:Nat} (hp:2≤p) (hn:n≤1000000000000):nJ p n=some (qM p n):=by
 obtain ⟨l,h3,h4⟩:=zrh hp ((n:Int),[]) ⟨n,rfl,by simp; omega⟩
 have e:=h4 n rfl
 simp only [List.nil_append] at e
 simp [nJ,h3,e]

end Go.Proofs.YtebfhlnfmkhmcaaGreat
/- The polynomial of a number, in the reference. -/
namespace Go.Proofs.YtebfhlnfmkhmcaaGreat
open Go.Abs
theorem z2y {p:Nat} (hp:2≤p) (hp2:p≤256):∀ s:Int×Int×V64,(∃ (n:Nat) (l:List Int),s.1=n∧n≤1000000000000∧s.2.1=(l.length:Nat)∧s.2.2=yP l∧l.length + (qM p n).length≤64) →
  ∃ r,yK (fun s:Int×Int×V64=>zbq p s.1 s.2.1 s.2.2) s=some r∧∀ (n:Nat) (l:List Int),s.1=n→s.2.1=(l.length:Nat)→s.2.2=yP l→r=yP (l ++ qM p n):=by
 refine zbr (fun (s:Int×Int×V64)=>∃ (n:Nat) (l:List Int),s.1=n∧n≤1000000000000∧s.2.1=(l.length:Nat)∧s.2.2=yP l∧l.length + (qM p n).length≤64)
  (fun (s:Int×Int×V64) (r:V64)=>∀ (n:Nat) (l:List Int),s.1=n→s.2.1=(l.length:Nat)→s.2.2=yP l→r=yP (l ++ qM p n)) (fun (s:Int×Int×V64)=>s.1.toNat) ?_
 rintro ⟨x,i,v⟩ ⟨n,l,hx,hn,hi,hv,hl⟩
 simp only at hx hi hv
 subst hx hi hv
 by_cases h:n=0
 ·right
  subst h
  refine ⟨yP l,by simp [zbq],fun m k hm hk hv=>?_⟩
  have:m=0:=by have:((0:Nat):Int)=m:=hm; omega
  subst this
  rw [jH,List.append_nil]; exact hv
 ·left
  have hlt:n / p < n:=Nat.div_lt_self (by omega) hp
  have e1:Int.tdiv (n:Int) p=((n / p:Nat):Int):=rfl
  have e2:Int.tmod (n:Int) p=((n % p:Nat):Int):=rfl
  have ed:=zan hp (show 0 < n by omega)
  have hm:=Nat.mod_lt n (show p > 0 by omega)
  generalize n / p=q at hlt e1 ed
  generalize n % p=d at e2 ed hm
  rw [ed] at hl
  simp only [List.length_cons] at hl
  refine ⟨((q:Int),((l ++ [(d:Int)]).length:Nat),yP (l ++ [(d:Int)])),?_,⟨q,l ++ [(d:Int)],rfl,by omega,rfl,rfl,by simp; omega⟩,by simp only [Int.toNat_natCast]; exact hlt,fun r hr m k hm hk hv=>?_⟩
  ·simp only [zbq]
   rw [if_pos (by simp; omega),yA (by omega),yA (by omega),yA (by omega),e1,e2,zX (by omega) (by omega),zX (by omega) (by omega),zja (by omega) (by omega)]
   rw [Int.toNat_natCast,zyg l d (by omega)]
   simp
  ·have:m=n:=by have:(n:Int)=m:=hm; omega
   subst this
   have h1:=hr q (l ++ [(d:Int)]) rfl rfl rfl
   rw [h1,ed]
   simp only at hv hk
   have hkl:k.length=l.length:=by omega
   refine ze9 fun j hj=>?_
   rw [zl5 _ hj,zl5 _ hj,List.append_assoc]
   simp only [List.singleton_append]
   have hv':∀ j,j < 64→l.getD j 0=k.getD j 0:=fun j hj=>by
    have:=congrArg (fun v:V64=>rd v.1 j) hv
    simp only [zl5 _ hj] at this
    exact this
   rw [zt1,zt1,hkl]
   split
   ·exact hv' j hj
   ·rfl

theorem z39 {p n:Nat} (hp:2≤p) (hp2:p≤256) (hn:n≤1000000000000):zgn p n=some (yP (qM p n)):=by
 have hl:=zw4 hp hn
 obtain ⟨r,h1,h2⟩:=z2y hp hp2 ((n:Int),0,yP []) ⟨n,[],rfl,hn,rfl,rfl,by simp; omega⟩
 have e:=h2 n [] rfl rfl rfl
 simp only [zgn,← zb4,h1,e,Option.bind_some,List.nil_append]
end Go.Proofs.YtebfhlnfmkhmcaaGreat
/- Powers of p, counted by the reference. -/
namespace Go.Proofs.YtebfhlnfmkhmcaaGreat
open Go.Abs
/-- p to a power, and one more than the greatest number if it is greater. -/
theorem zvl {p n:Nat} (hp:2≤p∧p≤7) (hn:n≤1000000):∃ c:Nat,zdb p n=some (c:Int)∧((p ^ n≤1000000000000∧c=p ^ n)∨(1000000000000 < p ^ n∧c=1000000000001)):=by
 have key:∀ (m i:Nat),i + m=n→(i=0∨p ^ (i - 1)≤1000000000000)→∃ c:Nat,yK (fun s:Int×Int=>vI p s.1 s.2) ((m:Int),((p ^ i:Nat):Int))=some (c:Int)∧((p ^ n≤1000000000000∧c=p ^ n)∨(1000000000000 < p ^ n∧1000000000000 < c)):=by
  intro m
  induction m with
  | zero =>
   intro i hi hle
   have:i=n:=by omega
   subst this
   have step:vI p ((0:Nat):Int) ((p ^ i:Nat):Int)=some (.inr ((p ^ i:Nat):Int)):=by simp [vI]
   rw [yR]
   simp only [step,Option.bind_some]
   refine ⟨p ^ i,rfl,?_⟩
   by_cases h:p ^ i≤1000000000000
   ·exact .inl ⟨h,rfl⟩
   ·exact .inr ⟨by omega,by omega⟩
  | succ m ih =>
   intro i hi hle
   have hmono:=zrl hp.1 (show i≤n by omega)
   by_cases h:p ^ i≤1000000000000
   ·have hle2:=Nat.mul_le_mul h hp.2
    have e1:((p ^ i:Nat):Int)*(p:Int)=((p ^ (i + 1):Nat):Int):=by rw [Nat.pow_succ,Int.natCast_mul]
    have e2:p ^ (i + 1)=p ^ i*p:=Nat.pow_succ ..
    have e3:IntKind.i64.wrap (((m + 1:Nat):Int) - 1)=(m:Int):=by rw [zX (by omega) (by omega)]; omega
    have step:vI p ((m + 1:Nat):Int) ((p ^ i:Nat):Int)=some (.inl ((m:Int),((p ^ (i + 1):Nat):Int))):=by
     simp only [vI]
     rw [if_pos (decide_eq_true (by omega)),e3,e1,zX (n:=((p ^ (i + 1):Nat):Int)) (by omega) (by omega)]
     simp only [Option.bind_some]
     rw [if_pos (decide_eq_true (by omega))]
    rw [yR]
    simp only [step,Option.bind_some]
    exact ih (i + 1) (by omega) (.inr (by simp only [Nat.add_sub_cancel]; omega))
   ·have step:vI p ((m + 1:Nat):Int) ((p ^ i:Nat):Int)=some (.inr ((p ^ i:Nat):Int)):=by
     simp only [vI]
     rw [if_pos (decide_eq_true (by omega))]
     simp only [Option.bind_some]
     rw [if_neg (by rw [decide_eq_true_eq]; omega)]
    rw [yR]
    simp only [step,Option.bind_some]
    exact ⟨p ^ i,rfl,.inr ⟨by omega,by omega⟩⟩
 obtain ⟨c,h1,h2⟩:=key n 0 (by omega) (.inl rfl)
 simp only [Nat.pow_zero] at h1
 have h1':yK (fun s:Int×Int=>vI p s.1 s.2) ((n:Int),1)=some (c:Int):=h1
 simp only [zdb,h1',Option.bind_some]
 rcases h2 with ⟨h2,h3⟩ | ⟨h2,h3⟩
 ·exact ⟨c,by rw [if_neg (by omega)],.inl ⟨h2,h3⟩⟩
 ·refine ⟨1000000000001,?_,.inr ⟨h2,rfl⟩⟩
  split
  ·rfl
  ·congr 1; omega
end Go.Proofs.YtebfhlnfmkhmcaaGreat
/- Which arrays have coefficients below p. -/
namespace Go.Proofs.YtebfhlnfmkhmcaaGreat
open Go.Abs
/-- All coefficients lie below p. -/
def Small (p:Int) (a:V64):Prop:=∀ j,j < 64→rd a.1 j < p
open Classical in
noncomputable def uJ (p:Int) (a:V64):Bool:=decide (Small p a)

theorem uB {p:Int} {a:V64} (hb:IsB a) (h:uJ p a=true):Res p a:=fun j hj=>by
 have h1:Small p a:=by simpa [uJ] using h
 exact ⟨(hb.rd hj).1,h1 j hj⟩
end Go.Proofs.YtebfhlnfmkhmcaaGreat
/- Which arrays are polynomials, in the reference. -/
namespace Go.Proofs.YtebfhlnfmkhmcaaGreat
open Go.Abs
theorem z24 {p:Int} {a:V64} (hb:IsB a):∀ s:Int,(∃ i:Nat,s=i∧i≤64∧∀ j,j < i→rd a.1 j < p)→∃ r,yK (fun s:Int=>mZ a p s) s=some r∧((r=.inl ()∧Small p a)∨(r=.inr false∧¬ Small p a)):=by
 refine zbr (fun (s:Int)=>∃ i:Nat,s=i∧i≤64∧∀ j,j < i→rd a.1 j < p) (fun (s:Int) (r:Unit⊕Bool)=>(r=.inl ()∧Small p a)∨(r=.inr false∧¬ Small p a)) (fun s=>64 - s.toNat) ?_
 rintro s ⟨i,rfl,hi,hlt⟩
 by_cases h:i=64
 ·right
  subst h
  exact ⟨.inl (),by simp [mZ],.inl ⟨rfl,hlt⟩⟩
 ·have hbi:=hb.rd (show i < 64 by omega)
  by_cases e:rd a.1 i < p
  ·left
   refine ⟨((i + 1:Nat):Int),?_,⟨i + 1,rfl,by omega,fun j hj=>?_⟩,by simp; omega,fun r hr=>hr⟩
   ·simp only [mZ]
    rw [if_pos (by simp; omega),yA (by omega),Int.toNat_natCast,zX (by omega) (by omega),if_neg (by simp; omega),zX (by omega) (by omega)]
    rfl
   ·by_cases hj':j=i
    ·rw [hj']; exact e
    ·exact hlt j (by omega)
  ·right
   refine ⟨.inr false,?_,.inr ⟨rfl,fun hs=>e (hs i (by omega))⟩⟩
   simp only [mZ]
   rw [if_pos (by simp; omega),yA (by omega),Int.toNat_natCast,zX (by omega) (by omega),if_pos (by simp; omega)]
theorem zjd {p:Int} {a:V64} (hb:IsB a):zcm p a=some (uJ p a && isP p):=by
 obtain ⟨r,h1,h2⟩:=z24 (p:=p) hb 0 ⟨0,rfl,by omega,fun j hj=>by omega⟩
 rcases h2 with ⟨rfl,h⟩ | ⟨rfl,h⟩ <;> simp [zcm,h1,uJ,h,zil]

end Go.Proofs.YtebfhlnfmkhmcaaGreat
/- The code for polynomials, in the reference. -/
namespace Go.Proofs.YtebfhlnfmkhmcaaGreat
open Go.Abs
theorem zzn {p:Int} {l:List V64} (hb:∀ a∈l,IsB a) (hl:l.length≤2000000) (hp:isP p=true):∀ s:Int,(∃ i:Nat,s=i∧i≤l.length∧∀ a∈l.take i,uJ p a=true)→∃ r,yK (fun s:Int=>nD l p s) s=some r∧((r=.inl ()∧l.all (uJ p)=true)∨(r=.inr 1∧l.all (uJ p)=false)):=by
 refine zbr (fun (s:Int)=>∃ i:Nat,s=i∧i≤l.length∧∀ a∈l.take i,uJ p a=true) (fun (s:Int) (r:Unit⊕Int)=>(r=.inl ()∧l.all (uJ p)=true)∨(r=.inr 1∧l.all (uJ p)=false)) (fun s=>l.length - s.toNat) ?_
 rintro s ⟨i,rfl,hi,hlt⟩
 by_cases h:i=l.length
 ·right
  subst h
  exact ⟨.inl (),by simp [nD],.inl ⟨rfl,by rw [List.take_length] at hlt; simpa using hlt⟩⟩
 ·have hil:i < l.length:=by omega
  have er:rd l i=l[i]:=by simp [rd,hil]
  have hbi:=zjd (p:=p) (hb l[i] (List.getElem_mem _))
  rw [hp,Bool.and_true] at hbi
  cases e:uJ p l[i] with
  | true =>
   left
   refine ⟨((i + 1:Nat):Int),?_,⟨i + 1,rfl,by omega,fun a ha=>?_⟩,by simp; omega,fun r hr=>hr⟩
   ·simp only [nD]
    rw [if_pos (by simp; omega),yA (by omega),Int.toNat_natCast,er,hbi,e]
    simp only [Option.bind_some,Bool.not_true,Bool.false_eq_true,if_false]
    rw [zX (by omega) (by omega)]; rfl
   ·rw [List.take_succ_eq_append_getElem hil] at ha
    rcases List.mem_append.1 ha with ha | ha
    ·exact hlt a ha
    ·have:a=l[i]:=by simpa using ha
     rw [this]; exact e
  | false =>
   right
   refine ⟨.inr 1,?_,.inr ⟨rfl,?_⟩⟩
   ·simp only [nD]
    rw [if_pos (by simp; omega),yA (by omega),Int.toNat_natCast,er,hbi,e]
    rfl
   ·rw [List.all_eq_false]
    exact ⟨l[i],List.getElem_mem _,by simp [e]⟩
theorem z3w {p:Int} {l:List V64} (hb:∀ a∈l,IsB a) (hl:l.length≤2000000):zfu p l=some (if isP p && l.all (uJ p) then 0 else 1):=by
 unfold zfu
 rw [zil]
 cases hp:isP p with
 | false=>simp
 | true =>
  obtain ⟨r,h1,h2⟩:=zzn hb hl hp 0 ⟨0,rfl,by omega,by simp⟩
  simp only [Option.bind_some,Bool.not_true,Bool.false_eq_true,if_false,h1,Bool.true_and]
  rcases h2 with ⟨rfl,h⟩ | ⟨rfl,h⟩ <;> simp [h]

end Go.Proofs.YtebfhlnfmkhmcaaGreat
/- Which arrays are polynomials, in the program. -/
namespace Go.Proofs.YtebfhlnfmkhmcaaGreat
open Go.Abs

theorem zxf {p:Int} {a:V64} (hb:IsB a):∀ s:Int,(∃ i:Nat,s=i∧i≤64∧∀ j,j < i→rd a.1 j < p)→∃ r,yK (fun s:Int=>yL a.1 p s) s=some r∧((r=.inl ()∧Small p a)∨(∃ i:Nat,r=.inr (i:Int)∧¬ Small p a)):=by
 refine zbr (fun (s:Int)=>∃ i:Nat,s=i∧i≤64∧∀ j,j < i→rd a.1 j < p) (fun (s:Int) (r:Unit⊕Int)=>(r=.inl ()∧Small p a)∨(∃ i:Nat,r=.inr (i:Int)∧¬ Small p a)) (fun s=>64 - s.toNat) ?_
 rintro s ⟨i,rfl,hi,hlt⟩
 have h64:=a.2
 by_cases h:i=64
 ·right
  subst h
  exact ⟨.inl (),by simp [yL,h64],.inl ⟨rfl,hlt⟩⟩
 ·have hbi:=hb.rd (show i < 64 by omega)
  have e1:jA (rd a.1 i) p=some (!decide (rd a.1 i < p)):=by
   simp only [jA,zc6,Option.bind_some]
   rw [zX (by omega) (by omega)]
  by_cases e:rd a.1 i < p
  ·left
   refine ⟨((i + 1:Nat):Int),?_,⟨i + 1,rfl,by omega,fun j hj=>?_⟩,by simp; omega,fun r hr=>hr⟩
   ·simp only [yL,h64]
    rw [if_pos (by simp; omega),yA (by omega),Int.toNat_natCast,e1,zX (by omega) (by omega)]
    simp [e]
   ·by_cases hj':j=i
    ·rw [hj']; exact e
    ·exact hlt j (by omega)
  ·right
   refine ⟨.inr (i:Int),?_,.inr ⟨i,rfl,fun hs=>e (hs i (by omega))⟩⟩
   simp only [yL,h64]
   rw [if_pos (by simp; omega),yA (by omega),Int.toNat_natCast,e1]
   simp [e]
theorem zkn {p:Int} {a:V64} (hb:IsB a):zci p a=some (uJ p a):=by
 obtain ⟨r,h1,h2⟩:=zxf (p:=p) hb 0 ⟨0,rfl,by omega,fun j hj=>by omega⟩
 simp only [zci,qR,wE,wL,h1,Option.bind_some]
 rcases h2 with ⟨rfl,h⟩ | ⟨i,rfl,h⟩ <;> simp [uJ,h]
end Go.Proofs.YtebfhlnfmkhmcaaGreat
/- The row of an array, trimmed. -/
namespace Go.Proofs.YtebfhlnfmkhmcaaGreat
open Go.Abs

theorem zv0 {a:V64} (hb:IsB a):∀ s:Int×List Int,(∃ i:Nat,s.1=i∧i≤64∧s.2=a.1.take i)→∃ r,yK (fun s:Int×List Int=>zbt a s.1 s.2) s=some r∧r=a.1:=by
 refine zbr (fun (s:Int×List Int)=>∃ i:Nat,s.1=i∧i≤64∧s.2=a.1.take i) (fun (s:Int×List Int) (r:List Int)=>r=a.1) (fun (s:Int×List Int)=>64 - s.1.toNat) ?_
 rintro ⟨x,v⟩ ⟨i,hx,hi,hv⟩
 simp only at hx hv
 subst hx hv
 by_cases h:i=64
 ·right
  subst h
  exact ⟨a.1,by simp [zbt,List.take_of_length_le (Nat.le_of_eq a.2)],rfl⟩
 ·left
  have hil:i < a.1.length:=by rw [a.2]; omega
  have er:rd a.1 i=a.1[i]:=by simp [rd,hil]
  have hbi:=hb.rd (show i < 64 by omega)
  refine ⟨(((i + 1:Nat):Int),a.1.take (i + 1)),?_,⟨i + 1,rfl,by omega,rfl⟩,by simp; omega,fun r hr=>hr⟩
  simp only [zbt]
  rw [if_pos (by simp; omega),yA (by omega),yA (by simp; omega)]
  rw [Int.toNat_natCast,zX (by omega) (by omega),zX (by omega) (by omega),er,List.take_succ_eq_append_getElem hil]
  simp

theorem z07 {a:V64} (hb:IsB a):mX a=some (a.1.take (top (rd a.1) 64)):=by
 obtain ⟨r,h1,h2⟩:=zv0 hb (0,[]) ⟨0,rfl,by omega,by simp⟩
 subst h2
 have h3:=zgf (l:=a.1) (by rw [a.2]; omega)
 rw [a.2] at h3
 simp only [mX,h1,Option.bind_some,h3]
end Go.Proofs.YtebfhlnfmkhmcaaGreat
/- The row of an array. -/
namespace Go.Proofs.YtebfhlnfmkhmcaaGreat
open Go.Abs
theorem zhk {d:V64} (hb:IsB d):mX d=some (row d):=by
 rw [z07 hb]
 congr 1
 have:=ze4 (rd d.1) 64
 refine zpn (by rw [row,zbb]; simp; rw [d.2]; omega) fun i hi=>?_
 simp at hi
 rw [zyx,row,zir,if_pos (by omega),if_pos (by omega)]
theorem zqr (d:V64):(row d).length=top (rd d.1) 64:=by rw [row,zbb]
theorem zqw (d:V64) {i:Nat} (hi:i < 64):rd (row d) i=rd d.1 i:=by rw [row,zir,if_pos hi]
end Go.Proofs.YtebfhlnfmkhmcaaGreat
/- The code for polynomials, in the program. -/
namespace Go.Proofs.YtebfhlnfmkhmcaaGreat
open Go.Abs

theorem zvj {p:Int} {l:List V64} (hb:∀ a∈l,IsB a) (hl:l.length≤2000000):∀ s:Int,(∃ i:Nat,s=i∧i≤l.length∧∀ a∈l.take i,uJ p a=true)→∃ r,yK (fun s:Int=>yE l p s) s=some r∧((r=.inl ()∧l.all (uJ p)=true)∨(∃ i:Nat,r=.inr (i:Int)∧l.all (uJ p)=false)):=by
 refine zbr (fun (s:Int)=>∃ i:Nat,s=i∧i≤l.length∧∀ a∈l.take i,uJ p a=true) (fun (s:Int) (r:Unit⊕Int)=>(r=.inl ()∧l.all (uJ p)=true)∨(∃ i:Nat,r=.inr (i:Int)∧l.all (uJ p)=false)) (fun s=>l.length - s.toNat) ?_
 rintro s ⟨i,rfl,hi,hlt⟩
 by_cases h:i=l.length
 ·right
  subst h
  exact ⟨.inl (),by simp [yE],.inl ⟨rfl,by rw [List.take_length] at hlt; simpa using hlt⟩⟩
 ·have hil:i < l.length:=by omega
  have er:rd l i=l[i]:=by simp [rd,hil]
  have hbi:=zkn (p:=p) (hb l[i] (List.getElem_mem _))
  have e1:qH (rd l i) p=some (!uJ p l[i]):=by
   simp only [qH,zbf,er,hbi,Option.bind_some]
  cases e:uJ p l[i] with
  | true =>
   left
   refine ⟨((i + 1:Nat):Int),?_,⟨i + 1,rfl,by omega,fun a ha=>?_⟩,by simp; omega,fun r hr=>hr⟩
   ·simp only [yE]
    rw [if_pos (decide_eq_true (by omega)),yA (by omega),Int.toNat_natCast,e1,e]
    simp only [Option.bind_some,Bool.not_true,Bool.false_eq_true,if_false]
    rw [zX (by omega) (by omega)]; rfl
   ·rw [List.take_succ_eq_append_getElem hil] at ha
    rcases List.mem_append.1 ha with ha | ha
    ·exact hlt a ha
    ·have:a=l[i]:=by simpa using ha
     rw [this]; exact e
  | false =>
   right
   refine ⟨.inr (i:Int),?_,.inr ⟨i,rfl,?_⟩⟩
   ·simp only [yE]
    rw [if_pos (decide_eq_true (by omega)),yA (by omega),Int.toNat_natCast,e1,e]
    rfl
   ·rw [List.all_eq_false]
    exact ⟨l[i],List.getElem_mem _,by simp [e]⟩
theorem zti {p:Int} {l:List V64} (hb:∀ a∈l,IsB a) (hl:l.length≤2000000):zd4 p l=some (if isP p && l.all (uJ p) then 0 else 1):=by
 obtain ⟨r,h1,h2⟩:=zvj (p:=p) hb hl 0 ⟨0,rfl,by omega,by simp⟩
 have e:wF l p=some (l.all (uJ p)):=by
  simp only [wF,xG,xK,h1,Option.bind_some]
  rcases h2 with ⟨rfl,h⟩ | ⟨i,rfl,h⟩ <;> simp [h]
 simp only [zd4,zmh,e,Option.bind_some]
 cases isP p <;> cases l.all (uJ p) <;> simp
end Go.Proofs.YtebfhlnfmkhmcaaGreat
/- Discriminants. -/
namespace Go.Proofs.YtebfhlnfmkhmcaaGreat
open Go.Abs

theorem z0i {a:V64} (ha:IsB a) {i:Nat} (hi:i < 64):0≤rd a.1 i∧rd a.1 i < 256:=ha _ (z04 (by rw [a.2]; exact hi))
/-- One round of the derivative. -/
theorem zye {p x v:Int} (hp:2≤p∧p≤7) (hx:0≤x∧x < 64) (hv:0≤v∧v < 256) :
  IntKind.i64.wrap (Int.tmod x p*IntKind.i64.wrap v)=x % p*v∧IntKind.i64.wrap (x*IntKind.i64.wrap v)=x*v∧Int.tmod (x % p*v) p=x*v % p∧Int.tmod (x*v) p=x*v % p:=by
 have e1:Int.tmod x p=x % p:=Int.tmod_eq_emod_of_nonneg hx.1
 have e2:=Int.emod_nonneg x (show p ≠ 0 by omega)
 have e3:=Int.emod_lt_of_pos x (show 0 < p by omega)
 have m1:0≤x % p*v:=Int.mul_nonneg e2 hv.1
 have m2:x % p*v≤7*256:=Int.mul_le_mul (by omega) (by omega) hv.1 (by omega)
 have m3:0≤x*v:=Int.mul_nonneg hx.1 hv.1
 have m4:x*v≤64*256:=Int.mul_le_mul (by omega) (by omega) hv.1 (by omega)
 refine ⟨?_,?_,?_,?_⟩
 ·rw [e1,zX (n:=v) (by omega) (by omega),zX (by omega) (by omega)]
 ·rw [zX (n:=v) (by omega) (by omega),zX (by omega) (by omega)]
 ·rw [Int.tmod_eq_emod_of_nonneg m1,Int.mul_emod,Int.emod_emod,← Int.mul_emod]
 ·rw [Int.tmod_eq_emod_of_nonneg m3]
theorem zy8 {p:Int} (hp:2≤p∧p≤7) {a:V64} (ha:IsB a) {i:Nat} (hi:i < 63) (s:V64) :
  vR p a ((i + 1:Nat):Int) s=some (.inl (((i + 1 + 1:Nat):Int),yO s i (((i + 1:Nat):Int)*rd a.1 (i + 1) % p))):=by
 obtain ⟨v1,v2,v3,v4⟩:=zye hp (x:=((i + 1:Nat):Int)) (by omega) (z0i ha (show i + 1 < 64 by omega))
 have r1:=Int.emod_nonneg (((i + 1:Nat):Int)*rd a.1 (i + 1)) (show p ≠ 0 by omega)
 have r2:=Int.emod_lt_of_pos (((i + 1:Nat):Int)*rd a.1 (i + 1)) (show 0 < p by omega)
 have w:IntKind.i64.wrap (((i + 1:Nat):Int) - 1)=(i:Int):=by rw [zX (by omega) (by omega)]; omega
 simp only [vR,kR]
 rw [if_pos (decide_eq_true (by omega)),yA (by omega),yA (by omega),Int.toNat_natCast,v1,yA (by omega),w,yA (by omega),v3,zja (by omega) (by omega),zX (by omega) (by omega),Int.toNat_natCast]
 rfl
theorem zzp {p:Int} (hp:2≤p∧p≤7) {a:V64} (ha:IsB a) {i:Nat} (hi:i < 63) (s:V64) :
  vS a p ((i + 1:Nat):Int) s=some (.inl (((i + 1 + 1:Nat):Int),yO s i (((i + 1:Nat):Int)*rd a.1 (i + 1) % p))):=by
 obtain ⟨v1,v2,v3,v4⟩:=zye hp (x:=((i + 1:Nat):Int)) (by omega) (z0i ha (show i + 1 < 64 by omega))
 have r1:=Int.emod_nonneg (((i + 1:Nat):Int)*rd a.1 (i + 1)) (show p ≠ 0 by omega)
 have r2:=Int.emod_lt_of_pos (((i + 1:Nat):Int)*rd a.1 (i + 1)) (show 0 < p by omega)
 have w:IntKind.i64.wrap (((i + 1:Nat):Int) - 1)=(i:Int):=by rw [zX (by omega) (by omega)]; omega
 simp only [vS,kR]
 rw [if_pos (decide_eq_true (by omega)),yA (by omega),Int.toNat_natCast,v2,yA (by omega),w,yA (by omega),v4,zja (by omega) (by omega),zX (by omega) (by omega),Int.toNat_natCast]
 rfl
/-- The derivative. -/
def dvl (p:Int) (a:V64):Nat→V64
 | 0=>yH 64 0
 | i + 1=>yO (dvl p a i) i (((i + 1:Nat):Int)*rd a.1 (i + 1) % p)
theorem zyy {p:Int} (hp:2≤p) (a:V64):∀ i,i≤63→Res p (dvl p a i)
 | 0,_=>fun j hj=>by rw [dvl,zg0 _ hj]; omega
 | i + 1,h=>fun j hj=>by
  rw [dvl,za3 _ _ _ _ (by omega)]
  split
  ·exact ⟨Int.emod_nonneg _ (by omega),Int.emod_lt_of_pos _ (by omega)⟩
  ·exact zyy hp a i (by omega) j hj
def dv (p:Int) (a:V64):V64:=dvl p a 63
theorem ztr {p:Int} (hp:2≤p) (a:V64):Res p (dv p a):=zyy hp a 63 (Nat.le_refl _)
theorem z31 {p:Int} (hp:isP p=true) {a:V64} (ha:IsB a) (hs:uJ p a=true):zb0 p a=some (dv p a,0):=by
 have hp2:=wU hp
 obtain ⟨s,g1,g2⟩:=wR (body:=fun s:Int×V64=>vR p a s.1 s.2) (fun i s=>(((i + 1:Nat):Int),s)) (fun s=>s) 63
  (fun i s=>s=dvl p a i) (fun i s hi hI=>by
   subst hI
   exact ⟨_,zy8 hp2 ha hi _,rfl⟩) (fun s hI=>by
   simp only [vR]
   rw [if_neg (by rw [decide_eq_true_eq]; omega)]) 63 0 (yH 64 0) (by omega) rfl
 have g1':yK (fun s:Int×V64=>vR p a s.1 s.2) (1,yH 64 0)=some s:=g1
 simp only [zb0,z3w (p:=p) (l:=[a]) (by simp [ha]) (by simp),List.all_cons,List.all_nil,hp,hs,Bool.and_true,if_true,Option.bind_some,bne_self_eq_false,Bool.false_eq_true,if_false,g1',g2,dv]
theorem z3o {p:Int} (hp:isP p=true) {a:V64} (ha:IsB a) (hs:uJ p a=true):zb6 p a=some (dv p a,0):=by
 have hp2:=wU hp
 obtain ⟨s,g1,g2⟩:=wR (body:=fun s:Int×V64=>vS a p s.1 s.2) (fun i s=>(((i + 1:Nat):Int),s)) (fun s=>s) 63
  (fun i s=>s=dvl p a i) (fun i s hi hI=>by
   subst hI
   exact ⟨_,zzp hp2 ha hi _,rfl⟩) (fun s hI=>by
   simp only [vS]
   rw [if_neg (by rw [decide_eq_true_eq]; omega)]) 63 0 (yH 64 0) (by omega) rfl
 have g1':yK (fun s:Int×V64=>vS a p s.1 s.2) (1,yH 64 0)=some s:=g1
 simp only [zb6,zti (p:=p) (l:=[a]) (by simp [ha]) (by simp),List.all_cons,List.all_nil,hp,hs,Bool.and_true,if_true,Option.bind_some,bne_self_eq_false,Bool.false_eq_true,if_false,g1',g2,dv]
attribute [irreducible] dv
theorem zf3 (l:List Int):za9 l=some (decide (l.length=1∧rd l 0=1)):=by
 simp only [za9]
 by_cases h:l.length=1
 ·rw [if_pos (by simp [h]),yA (by omega)]
  congr 1
  rw [Bool.eq_iff_iff]
  simp [h]
 ·rw [if_neg (by simp; omega)]
  simp [h]
/-- A discriminant. -/
noncomputable def zaa (p:Int) (d:V64):Bool :=
 isP p && uJ p d && decide (p ≠ 2) && decide ((row d).length=2∨(row d).length=4∨(row d).length=6) && decide ((bz p (row d) (row (dv p d))).1.length=1)
theorem ze2 (v:V64):yW v=some (((row v).length:Int) - 1):=by rw [zjy,zqr]
theorem zy1 (v:V64):xF (row v)=some (((row v).length:Int) - 1):=by
 have:=jK v
 simp only [xF]
 rw [zX (by omega) (by omega)]
theorem zo8 {p:Int} {l:List Int} (hl:Row p l) (h:l.length≤64):yW (yP l)=some ((l.length:Int) - 1):=by rw [zjy,ze0 h,hl.top h]
theorem zcc {p:Int} {d:V64} (hd:IsB d):za0 p d=some (zaa p d):=by
 simp only [za0,zjd hd,Option.bind_some,ze2]
 by_cases hok:(isP p && uJ p d)=true
 ·obtain ⟨hp,hs⟩:isP p=true∧uJ p d=true:=by simpa using hok
  have hp2:=wU hp
  by_cases h2:p=2
  ·simp [zaa,hp,hs,h2]
  ·by_cases h3:(row d).length=2∨(row d).length=4∨(row d).length=6
   ·have hrd:=zah (uB hd hs)
    have hrv:=zah (ztr hp2.1 d)
    have hl:=jK d
    have hb:=zgg hp hrd hrv (jK d) (jK _) (.inl (by omega))
    rw [zfw,zfw] at hb
    obtain ⟨b1,b2,b3,b4⟩:=zvs hp hrd hrv (jK d) (jK _) (.inl (by omega))
    have hg:zcf p d (dv p d)=some (yP (bz p (row d) (row (dv p d))).1):=by
     simp only [zcf,ze2,Option.bind_some]
     rw [if_neg (by rw [decide_eq_true_eq]; omega)]
     simp only [Option.bind_some,Bool.false_eq_true,if_false,hb]
    have e1:((if (((row d).length:Int) - 1 != 1)=true then if (((row d).length:Int) - 1 != 3)=true then some (((row d).length:Int) - 1 != 5) else some false else some false):Option Bool)=some false:=by
     rcases h3 with h | h | h <;> rw [h] <;> rfl
    have e2:(p == 2)=false:=by simp [h2]
    simp only [hp,hs,Bool.and_true,Bool.not_true,Bool.false_eq_true,if_false,Option.bind_some,e2,e1,z31 hp hd hs,hg,zo8 b1 b3]
    refine congrArg some ?_
    have key:zaa p d=decide ((bz p (row d) (row (dv p d))).1.length=1):=by
     simp only [zaa,hp,hs,decide_eq_true (show p ≠ 2 from h2),decide_eq_true h3,Bool.and_self,Bool.true_and]
    rw [key,Bool.eq_iff_iff,beq_iff_eq,decide_eq_true_eq]
    rw [ze7 b1 b3]
    omega
   ·have e2:(p == 2)=false:=by simp [h2]
    have e1:((if (((row d).length:Int) - 1 != 1)=true then if (((row d).length:Int) - 1 != 3)=true then some (((row d).length:Int) - 1 != 5) else some false else some false):Option Bool)=some true:=by
     rw [if_pos (by rw [bne_iff_ne]; omega),if_pos (by rw [bne_iff_ne]; omega)]
     congr 1
     rw [bne_iff_ne]; omega
    simp only [hp,hs,Bool.and_true,Bool.not_true,Bool.false_eq_true,if_false,if_true,Option.bind_some,e2,e1]
    simp [zaa,h3]
 ·have hok:(isP p && uJ p d)=false:=by simpa using hok
  have hok':(uJ p d && isP p)=false:=by rw [Bool.and_comm]; exact hok
  simp [hok',zaa,hok]
theorem zm9 {p:Int} {d:V64} (hd:IsB d):kW p d=some (zaa p d):=by
 have hI:zgw p d=some (isP p && uJ p d):=by
  simp only [zgw,zmh,zkn hd,Option.bind_some]
  cases isP p <;> simp
 simp only [kW,hI,zhk hd,Option.bind_some,zy1]
 by_cases hok:(isP p && uJ p d)=true
 ·obtain ⟨hp,hs⟩:isP p=true∧uJ p d=true:=by simpa using hok
  have hp2:=wU hp
  by_cases h2:p=2
  ·simp [zaa,hp,hs,h2]
  ·by_cases h3:(row d).length=2∨(row d).length=4∨(row d).length=6
   ·have hrd:=zah (uB hd hs)
    have hrv:=zah (ztr hp2.1 d)
    have hl:=jK d
    have hv:IsB (dv p d):=fun x hx=>by
     obtain ⟨i,hi,rfl⟩:=List.getElem_of_mem hx
     have h1:=(ztr hp2.1 d) i (by rw [← (dv p d).2]; exact hi)
     rw [zm6 hi] at h1
     omega
    have hb:=zl4 hp hrd hrv (jK d) (jK _) (.inl (by omega))
    obtain ⟨b1,b2,b3,b4⟩:=zvs hp hrd hrv (jK d) (jK _) (.inl (by omega))
    have e1:((if (((row d).length:Int) - 1 != 1)=true then if (((row d).length:Int) - 1 != 3)=true then some (((row d).length:Int) - 1 != 5) else some false else some false):Option Bool)=some false:=by
     rcases h3 with h | h | h <;> rw [h] <;> rfl
    have e2:(p == 2)=false:=by simp [h2]
    simp only [hp,hs,Bool.and_true,Bool.not_true,Bool.false_eq_true,if_false,Option.bind_some,e2,e1,z3o hp hd hs,zhk hv,zga,hb,zf3]
    refine congrArg some ?_
    have key:zaa p d=decide ((bz p (row d) (row (dv p d))).1.length=1):=by
     simp only [zaa,hp,hs,decide_eq_true (show p ≠ 2 from h2),decide_eq_true h3,Bool.and_self,Bool.true_and]
    rw [key,Bool.eq_iff_iff,decide_eq_true_eq,decide_eq_true_eq]
    constructor
    ·exact fun h=>h.1
    ·intro h
     refine ⟨h,?_⟩
     unfold wG at b4
     rw [h] at b4
     exact b4
   ·have e2:(p == 2)=false:=by simp [h2]
    have e1:((if (((row d).length:Int) - 1 != 1)=true then if (((row d).length:Int) - 1 != 3)=true then some (((row d).length:Int) - 1 != 5) else some false else some false):Option Bool)=some true:=by
     rw [if_pos (by rw [bne_iff_ne]; omega),if_pos (by rw [bne_iff_ne]; omega)]
     congr 1
     rw [bne_iff_ne]; omega
    simp only [hp,hs,Bool.and_true,Bool.not_true,Bool.false_eq_true,if_false,if_true,Option.bind_some,e2,e1]
    simp [zaa,h3]
 ·have hok:(isP p && uJ p d)=false:=by simpa using hok
  simp [zaa,hok]
end Go.Proofs.YtebfhlnfmkhmcaaGreat
/- Monic polynomials, in the program. -/
namespace Go.Proofs.YtebfhlnfmkhmcaaGreat
open Go.Abs

/-- The monic polynomials of degree d. -/
def zf8 (p d:Nat) (n:Nat):List (List Int):=(List.range n).map fun i=>qM p (p ^ d + i)
theorem zz3 {p d:Nat} (hp:2≤p∧p≤7) (hd:d≤1000000) (hm:p ^ d≤343):zb2 p d=some (zf8 p d (p ^ d)):=by
 obtain ⟨c,h1,h2,_⟩:=zxn (n:=d) (most:=343) hp hd (by omega)
 have hc:c=p ^ d:=by omega
 subst hc
 have h1':nG p d 343=some ((p ^ d:Nat):Int):=h1
 simp only [zb2,h1',Option.bind_some]
 generalize hn:p ^ d=n at *
 obtain ⟨s,g1,g2⟩:=wR (body:=fun s:Int×List (List Int)=>uY (n:Int) p s.1 s.2) (fun i s=>((i:Int),s)) (fun s=>s) n
  (fun i s=>s=(List.range i).map fun i=>qM p (n + i)) (fun i s hi hI=>by
   subst hI
   refine ⟨_,?_,rfl⟩
   simp only [uY]
   have e:IntKind.i64.wrap ((n:Int) + (i:Int))=((n + i:Nat):Int):=by rw [zX (by omega) (by omega)]; omega
   rw [if_pos (decide_eq_true (by omega)),e,zok hp.1 (by omega)]
   simp only [Option.bind_some]
   rw [yA (by simp; omega),zX (by omega) (by omega),List.range_succ,List.map_append]
   rfl) (fun s hI=>by
   simp only [uY]
   rw [if_neg (by rw [decide_eq_true_eq]; omega)]) n 0 [] (by omega) rfl
 have g1':yK (fun s:Int×List (List Int)=>uY (n:Int) p s.1 s.2) (0,[])=some s:=g1
 rw [g1',g2,zf8,hn]
 rfl
end Go.Proofs.YtebfhlnfmkhmcaaGreat
/- Digits of numbers, one by one. -/
namespace Go.Proofs.YtebfhlnfmkhmcaaGreat
open Go.Abs

theorem zmz {p:Nat} (hp:2≤p):∀ (j n:Nat),rd (qM p n) j=((n / p ^ j % p:Nat):Int)
 | 0,n=>by
  rcases Nat.eq_zero_or_pos n with rfl | h
  ·rw [jH]; simp [rd]
  ·rw [zan hp h]; simp [rd]
 | j + 1,n=>by
  rcases Nat.eq_zero_or_pos n with rfl | h
  ·rw [jH]; simp [rd]
  ·rw [zan hp h,zmv,zmz hp j,Nat.pow_succ,Nat.mul_comm (p ^ j),Nat.div_div_eq_div_mul]
theorem zlx {p g i:Nat} (hp:2≤p) (hi:i < p ^ g):rd (qM p (p ^ g + i)) g=1:=by
 have hpos:0 < p ^ g:=Nat.pow_pos (by omega)
 rw [zmz hp,Nat.add_div_left _ hpos,Nat.div_eq_of_lt hi]
 have:(0 + 1) % p=1:=Nat.mod_eq_of_lt (by omega)
 rw [this]; rfl
end Go.Proofs.YtebfhlnfmkhmcaaGreat
/- Monic polynomials from their numbers. -/
namespace Go.Proofs.YtebfhlnfmkhmcaaGreat
open Go.Abs

theorem zzc {p n k:Nat} (hp:2≤p) (hn:n < 64) (hk:k < p ^ n):yO (yP (qM p k)) n 1=yP (qM p (p ^ n + k)):=by
 refine ze9 fun j hj=>?_
 rw [za3 _ _ _ _ hn,uW _ hj,uW _ hj,zmz hp,zmz hp]
 have hpos:∀ e,0 < p ^ e:=fun e=>Nat.pow_pos (by omega)
 rcases Nat.lt_trichotomy j n with h | h | h
 ·rw [if_neg (by omega)]
  have e1:p ^ n=p ^ j*(p*p ^ (n - j - 1)):=by
   rw [← Nat.mul_assoc,← Nat.pow_succ,← Nat.pow_add]; congr 1; omega
  rw [e1,Nat.mul_add_div (hpos j),Nat.mul_add_mod]
 ·subst h
  rw [if_pos rfl,Nat.add_div_left _ (hpos j),Nat.div_eq_of_lt hk]
  have:(0 + 1) % p=1:=Nat.mod_eq_of_lt (by omega)
  simp [this]
 ·rw [if_neg (by omega)]
  have h1:p ^ n*2≤p ^ j:=by
   have:p ^ (n + 1)≤p ^ j:=Nat.pow_le_pow_right (by omega) h
   rw [Nat.pow_succ] at this
   have:=Nat.mul_le_mul_left (p ^ n) hp
   omega
  rw [Nat.div_eq_of_lt (show k < p ^ j by omega),Nat.div_eq_of_lt (show p ^ n + k < p ^ j by omega)]
theorem ziu {p g j:Nat} (hp:2≤p) (hj:j < p ^ g):(qM p j).length≤g:=by
 rcases Nat.lt_or_ge g (qM p j).length with h | h
 ·have h1:=(zff hp j).nrm (by omega)
  rw [zmz hp] at h1
  have h2:p ^ g≤p ^ ((qM p j).length - 1):=Nat.pow_le_pow_right (by omega) (by omega)
  rw [Nat.div_eq_of_lt (by omega)] at h1
  exact absurd (by simp) h1
 ·exact h
end Go.Proofs.YtebfhlnfmkhmcaaGreat
/- The leading coefficient. -/
namespace Go.Proofs.YtebfhlnfmkhmcaaGreat
open Go.Abs

theorem zvu {b:List Int} (hl:b.length≤1000000):jM b=some (wG b):=by
 by_cases h:b.length=0
 ·have e:b=[]:=List.eq_nil_of_length_eq_zero h
  subst e
  rfl
 ·exact zpe h hl
theorem z1k (v:V64):yW v=some (((row v).length:Int) - 1):=by rw [zjy,zqr]
theorem z0t:wG []=0:=rfl
theorem zkl (v:V64):zdh v=some (decide (wG (row v)=1)):=by
 have hl:=jK v
 simp only [zdh,z1k,Option.bind_some]
 by_cases h:(row v).length=0
 ·have e:row v=[]:=List.eq_nil_of_length_eq_zero h
  rw [e,z0t]
  simp
 ·have e:((row v).length:Int) - 1=(((row v).length - 1:Nat):Int):=by omega
  rw [e,if_pos (decide_eq_true (by omega)),yA (by omega),Int.toNat_natCast,← zqw v (by omega)]
  congr 1
end Go.Proofs.YtebfhlnfmkhmcaaGreat
/- Reduced forms. -/
namespace Go.Proofs.YtebfhlnfmkhmcaaGreat
open Go.Abs

/-- Does A divide B B - D? -/
def isF (p:Int) (D A B:List Int):Bool:=decide ((rem p (zb8 p (mul p B B) D (-1)) A).length=0)
theorem zkq {p:Int} (hp:p≤256) {v:V64} (h:Res p v):IsB v:=fun x hx=>by
 obtain ⟨i,hi,rfl⟩:=List.getElem_of_mem hx
 have h1:=h i (by rw [← v.2]; exact hi)
 rw [zm6 hi] at h1
 omega
theorem zoc {p:Int} {v:V64} (h:Res p v):uJ p v=true:=by
 simp only [uJ,decide_eq_true_eq]
 exact fun j hj=>(h j hj).2
theorem z4d {p:Int} (hp:isP p=true) {A:List Int} (hA:Row p A):zcm p (yP A)=some true:=by
 have hp2:=wU hp
 have h:=za5 hA (show 0 < p by omega)
 rw [zjd (zkq (by omega) h),zoc h,hp,Bool.and_self]
theorem zvg {p:Int} (hp:isP p=true) {d:V64} (hd:Res p d) (ld:(row d).length≤6) {A B:List Int} (hA:Row p A) (hB:Row p B) (h1:wG A=1) (lA:A.length≤13) (lB:B.length < A.length) :
  vA p d (yP A,yP B)=some (isF p (row d) A B):=by
 have hp2:=wU hp
 have hq:0 < p∧p≤256:=by omega
 have hrd:=zah hd
 have m1:=zmm p B B
 have c1:=zdd p (mul p B B) (row d) (-1)
 have hm:zdh (yP A)=some true:=by rw [zkl,ze7 hA (by omega),h1,decide_eq_true rfl]
 have hsq:nX p d (yP B)=some (yP (zb8 p (mul p B B) (row d) (-1))):=by
  simp only [nX]
  rw [zkp (by omega) hB hB (by omega) (by omega) (.inr (.inr (by omega)))]
  simp only [Option.bind_some]
  have:=zdl hq (zd7 hq.1 B B) hrd (by omega) (by omega) (show -1099511627776≤(-1:Int)∧(-1:Int)≤1099511627776 by omega)
  rw [zfw] at this
  simp only [this,Option.bind_some]
 have hmod:vQ p (yP (zb8 p (mul p B B) (row d) (-1))) (yP A)=some (yP (rem p (zb8 p (mul p B B) (row d) (-1)) A)):=by
  simp only [vQ]
  rw [zlk hp (zbm hq.1 _ _ _) hA (by omega) (by omega) (by omega),Option.bind_some]
 have hrem:=zih hq.1 (zbm hq.1 (mul p B B) (row d) (-1)) A
 have lrem:=zvw p (zb8 p (mul p B B) (row d) (-1)) A
 simp only [vA,z4d hp hA,z4d hp hB,hm,Option.bind_some,Bool.not_true,Bool.false_eq_true,if_false,zo8 hA (by omega),zo8 hB (by omega)]
 rw [if_neg (by rw [decide_eq_true_eq]; omega)]
 rw [show decide ((B.length:Int) - 1 ≥ (A.length:Int) - 1)=false from decide_eq_false (by omega)]
 simp only [Option.bind_some,Bool.false_eq_true,if_false,hsq,hmod,zo8 hrem (by omega)]
 refine congrArg some ?_
 rw [isF,Bool.eq_iff_iff]
 simp only [decide_eq_true_eq]
 omega
theorem zu3 {p:Int} (hp:isP p=true) {D A B:List Int} (hD:Row p D) (ld:D.length≤6) (hA:Row p A) (hB:Row p B) (h1:wG A=1) (lA:A.length≤13) (lB:B.length < A.length) :
  uV (p,D) (A,B)=some (isF p D A B):=by
 have hp2:=wU hp
 have hq:0 < p∧p≤256:=by omega
 have m1:=zmm p B B
 have c1:=zdd p (mul p B B) D (-1)
 have dg:∀ l:List Int,l.length≤1000→xF l=some ((l.length:Int) - 1):=fun l hl=>by
  simp only [xF]
  rw [zX (by omega) (by omega)]
 have hrest:kJ p (zb8 p (mul p B B) D (-1)) A=some (rem p (zb8 p (mul p B B) D (-1)) A):=by
  simp only [kJ]
  rw [zlm hp (zbm hq.1 _ _ _) hA (by omega) (by omega) (by omega),Option.bind_some]
 simp only [uV,zvu (show A.length≤1000000 by omega),h1,Option.bind_some,beq_self_eq_true,if_true,dg A (by omega),dg B (by omega)]
 rw [if_pos (decide_eq_true (by omega)),if_pos (decide_eq_true (by omega)),zmw (by omega) (hB.ent hq) (hB.ent hq) (by omega) (by omega)]
 simp only [Option.bind_some]
 rw [zab hq ((zd7 hq.1 _ _).ent hq) (hD.ent hq) (by omega) (by omega) (by omega)]
 simp only [Option.bind_some,hrest,zf3]
 have hrl:=zku hp (zbm hq.1 (mul p B B) D (-1)) hA (by omega)
 unfold isF
 by_cases h0:(rem p (zb8 p (mul p B B) D (-1)) A).length=0
 ·rw [if_pos (by rw [beq_iff_eq]; omega),decide_eq_true h0]
 ·have:¬ (A.length=1∧rd A 0=1):=fun h=>by omega
  rw [if_neg (by rw [beq_iff_eq]; omega),decide_eq_false this,decide_eq_false h0]
  rfl

/-- The forms. -/
def f3 (p:Nat) (D A:List Int):Nat→List (List Int×List Int)
 | 0=>[]
 | j + 1=>if isF p D A (qM p j) then f3 p D A j ++ [(A,qM p j)] else f3 p D A j
def f2 (p:Nat) (D:List Int) (g:Nat):Nat→List (List Int×List Int)
 | 0=>[]
 | i + 1=>f2 p D g i ++ f3 p D (qM p (p ^ g + i)) (p ^ g)
def f1 (p:Nat) (D:List Int):Nat→List (List Int×List Int)
 | 0=>[]
 | g + 1=>f1 p D g ++ f2 p D g (p ^ g)
theorem zsm (p:Nat) (D A:List Int):∀ j,(f3 p D A j).length≤j
 | 0=>Nat.le_refl _
 | j + 1=>by
  have:=zsm p D A j
  simp only [f3]
  split
  ·simp; omega
  ·omega
theorem ztd (p:Nat) (D:List Int) (g:Nat):∀ i,(f2 p D g i).length≤i*p ^ g
 | 0=>by simp [f2]
 | i + 1=>by
  have h1:=ztd p D g i
  have h2:=zsm p D (qM p (p ^ g + i)) (p ^ g)
  simp only [f2,List.length_append,Nat.add_mul,Nat.one_mul]
  omega
def pp (q:List Int×List Int):V64×V64:=(yP q.1,yP q.2)

theorem l3S {p g i:Nat} (hp:isP p=true) (hg:p ^ g≤343) (hg2:g≤8) (hi:i < p ^ g) {d:V64} (hd:Res p d) (ld:(row d).length≤6) (l0:List (V64×V64)) (hl0:l0.length≤1000000) :
  yK (fun s:Int×List (V64×V64)=>jU p g d (yP (qM p i)) s.1 s.2) (0,l0)=some (l0 ++ (f3 p (row d) (qM p (p ^ g + i)) (p ^ g)).map pp):=by
 have hp2:=wU hp
 have hpn:2≤p∧p≤7:=by omega
 obtain ⟨c,h1,h2⟩:=zvl (n:=g) hpn (by omega)
 have hc:c=p ^ g:=by omega
 subst hc
 have hA:=zff hpn.1 (p ^ g + i)
 have lA:=zau hpn.1 hi
 have leadA:wG (qM p (p ^ g + i))=1:=by
  unfold wG
  rw [lA]
  exact zlx hpn.1 hi
 obtain ⟨s,g1,g2⟩:=wR (body:=fun s:Int×List (V64×V64)=>jU p g d (yP (qM p i)) s.1 s.2) (fun j s=>((j:Int),s)) (fun s=>s) (p ^ g)
  (fun j s=>s=l0 ++ (f3 p (row d) (qM p (p ^ g + i)) j).map pp) (fun j s hj hI=>by
   subst hI
   refine ⟨_,?_,rfl⟩
   have hfl:=zsm p (row d) (qM p (p ^ g + i)) j
   have lB:=ziu hpn.1 hj
   have hf:=zvg hp hd ld hA (zff hpn.1 j) leadA (by omega) (show (qM p j).length < _ by omega)
   simp only [jU,h1,Option.bind_some]
   rw [if_pos (decide_eq_true (by omega)),z39 hpn.1 (by omega) (by omega)]
   simp only [Option.bind_some,Int.toNat_natCast]
   rw [zzc hpn.1 (by omega) hi,hf]
   simp only [Option.bind_some,f3]
   rw [zX (by omega) (by omega)]
   cases isF p (row d) (qM p (p ^ g + i)) (qM p j) with
   | false=>rfl
   | true =>
    simp only [if_true]
    rw [yA (by simp; omega)]
    simp only [Option.bind_some,List.map_append,List.append_assoc]
    rfl) (fun s hI=>by
   simp only [jU,h1,Option.bind_some]
   rw [if_neg (by rw [decide_eq_true_eq]; omega)]) (p ^ g) 0 l0 (by omega) (by simp [f3])
 have g1':yK (fun s:Int×List (V64×V64)=>jU p g d (yP (qM p i)) s.1 s.2) (0,l0)=some s:=g1
 rw [g1',g2]
theorem l2S {p g:Nat} (hp:isP p=true) (hg:p ^ g≤343) (hg2:g≤8) {d:V64} (hd:Res p d) (ld:(row d).length≤6) (l0:List (V64×V64)) (hl0:l0.length≤500000) :
  yK (fun s:Int×List (V64×V64)=>jQ p g d s.1 s.2) (0,l0)=some (l0 ++ (f2 p (row d) g (p ^ g)).map pp):=by
 have hp2:=wU hp
 have hpn:2≤p∧p≤7:=by omega
 obtain ⟨c,h1,h2⟩:=zvl (n:=g) hpn (by omega)
 have hc:c=p ^ g:=by omega
 subst hc
 obtain ⟨s,g1,g2⟩:=wR (body:=fun s:Int×List (V64×V64)=>jQ p g d s.1 s.2) (fun j s=>((j:Int),s)) (fun s=>s) (p ^ g)
  (fun j s=>s=l0 ++ (f2 p (row d) g j).map pp) (fun j s hj hI=>by
   subst hI
   refine ⟨_,?_,rfl⟩
   have hfl:=ztd p (row d) g j
   have hfl2:j*p ^ g≤343*343:=Nat.mul_le_mul (by omega) hg
   have h3:=l3S hp hg hg2 hj hd ld (l0 ++ (f2 p (row d) g j).map pp) (by simp; omega)
   simp only [jQ,h1,Option.bind_some]
   rw [if_pos (decide_eq_true (by omega)),z39 hpn.1 (by omega) (by omega)]
   simp only [Option.bind_some]
   rw [yA (by omega),h3]
   simp only [Option.bind_some,f2,List.map_append,List.append_assoc]
   rw [zX (by omega) (by omega)]
   rfl) (fun s hI=>by
   simp only [jQ,h1,Option.bind_some]
   rw [if_neg (by rw [decide_eq_true_eq]; omega)]) (p ^ g) 0 l0 (by omega) (by simp [f2])
 have g1':yK (fun s:Int×List (V64×V64)=>jQ p g d s.1 s.2) (0,l0)=some s:=g1
 rw [g1',g2]
theorem l3I {p g i:Nat} (hp:isP p=true) (hg:p ^ g≤343) (hg2:g≤8) (hi:i < p ^ g) {D:List Int} (hd:Row p D) (ld:D.length≤6) (l0:List (List Int×List Int)) (hl0:l0.length≤1000000) :
  yK (fun s:Int×List (List Int×List Int)=>uM ((p ^ g:Nat):Int) ((p:Int),D) (zf8 p g (p ^ g)) (i:Int) s.1 s.2) (0,l0)=some (l0 ++ f3 p D (qM p (p ^ g + i)) (p ^ g)):=by
 have hp2:=wU hp
 have hpn:2≤p∧p≤7:=by omega
 have hA:=zff hpn.1 (p ^ g + i)
 have lA:=zau hpn.1 hi
 have leadA:wG (qM p (p ^ g + i))=1:=by
  unfold wG
  rw [lA]
  exact zlx hpn.1 hi
 have hrd:rd (zf8 p g (p ^ g)) i=qM p (p ^ g + i):=by simp [rd,zf8,hi]
 generalize hM:zf8 p g (p ^ g)=M at *
 obtain ⟨s,g1,g2⟩:=wR (body:=fun s:Int×List (List Int×List Int)=>uM ((p ^ g:Nat):Int) ((p:Int),D) M (i:Int) s.1 s.2) (fun j s=>((j:Int),s)) (fun s=>s) (p ^ g)
  (fun j s=>s=l0 ++ f3 p D (qM p (p ^ g + i)) j) (fun j s hj hI=>by
   subst hI
   refine ⟨_,?_,rfl⟩
   have hfl:=zsm p D (qM p (p ^ g + i)) j
   have lB:=ziu hpn.1 hj
   have hf:=zu3 hp hd ld hA (zff hpn.1 j) leadA (by omega) (show (qM p j).length < _ by omega)
   simp only [uM]
   rw [if_pos (decide_eq_true (by omega)),zok hpn.1 (by omega)]
   simp only [Option.bind_some,Int.toNat_natCast,hrd]
   rw [hf]
   simp only [Option.bind_some,f3]
   rw [zX (by omega) (by omega)]
   cases isF p D (qM p (p ^ g + i)) (qM p j) with
   | false=>rfl
   | true =>
    simp only [if_true]
    rw [yA (by simp; omega)]
    simp only [Option.bind_some,List.append_assoc]
    rfl) (fun s hI=>by
   simp only [uM]
   rw [if_neg (by rw [decide_eq_true_eq]; omega)]) (p ^ g) 0 l0 (by omega) (by simp [f3])
 have g1':yK (fun s:Int×List (List Int×List Int)=>uM ((p ^ g:Nat):Int) ((p:Int),D) M (i:Int) s.1 s.2) (0,l0)=some s:=g1
 rw [g1',g2]
theorem l2I {p g:Nat} (hp:isP p=true) (hg:p ^ g≤343) (hg2:g≤8) {D:List Int} (hd:Row p D) (ld:D.length≤6) (l0:List (List Int×List Int)) (hl0:l0.length≤500000) :
  yK (fun s:Int×List (List Int×List Int)=>uK (zf8 p g (p ^ g)) ((p:Int),D) (g:Int) s.1 s.2) (0,l0)=some (l0 ++ f2 p D g (p ^ g)):=by
 have hp2:=wU hp
 have hpn:2≤p∧p≤7:=by omega
 obtain ⟨c,h1,h2,_⟩:=zxn (n:=g) (most:=1099511627776) hpn (by omega) (by omega)
 have hc:c=p ^ g:=by omega
 subst hc
 have h1':nG p g 1099511627776=some ((p ^ g:Nat):Int):=h1
 have hml:(zf8 p g (p ^ g)).length=p ^ g:=by simp [zf8]
 obtain ⟨s,g1,g2⟩:=wR (body:=fun s:Int×List (List Int×List Int)=>uK (zf8 p g (p ^ g)) ((p:Int),D) (g:Int) s.1 s.2) (fun j s=>((j:Int),s)) (fun s=>s) (p ^ g)
  (fun j s=>s=l0 ++ f2 p D g j) (fun j s hj hI=>by
   subst hI
   refine ⟨_,?_,rfl⟩
   have hfl:=ztd p D g j
   have hfl2:j*p ^ g≤343*343:=Nat.mul_le_mul (by omega) hg
   have h3:=l3I hp hg hg2 hj hd ld (l0 ++ f2 p D g j) (by simp; omega)
   simp only [uK,hml]
   rw [if_pos (decide_eq_true (by omega)),yA (by omega),h1']
   simp only [Option.bind_some,h3,f2,List.append_assoc]
   rw [zX (by omega) (by omega)]
   rfl) (fun s hI=>by
   simp only [uK,hml]
   rw [if_neg (by rw [decide_eq_true_eq]; omega)]) (p ^ g) 0 l0 (by omega) (by simp [f2])
 have g1':yK (fun s:Int×List (List Int×List Int)=>uK (zf8 p g (p ^ g)) ((p:Int),D) (g:Int) s.1 s.2) (0,l0)=some s:=g1
 rw [g1',g2]
end Go.Proofs.YtebfhlnfmkhmcaaGreat
/- A row as an array. -/
namespace Go.Proofs.YtebfhlnfmkhmcaaGreat
open Go.Abs

theorem zzr {l:List Int} (hb:Bytes l) (hl:l.length≤64):∀ s:Int×V64,(∃ i:Nat,s.1=i∧i≤l.length∧s.2=yP (l.take i))→∃ r,yK (fun s:Int×V64=>nQ l s.1 s.2) s=some r∧r=yP l:=by
 refine zbr (fun (s:Int×V64)=>∃ i:Nat,s.1=i∧i≤l.length∧s.2=yP (l.take i)) (fun (s:Int×V64) r=>r=yP l) (fun (s:Int×V64)=>64 - s.1.toNat) ?_
 rintro ⟨x,v⟩ ⟨i,hx,hi,hv⟩
 simp only at hx hv
 subst hx hv
 by_cases h:i=l.length
 ·right
  subst h
  exact ⟨yP l,by simp [nQ],rfl⟩
 ·left
  have hil:i < l.length:=by omega
  have er:rd l i=l[i]:=by simp [rd,hil]
  have hbi:=hb l[i] (List.getElem_mem _)
  refine ⟨(((i + 1:Nat):Int),yP (l.take (i + 1))),?_,⟨i + 1,rfl,by omega,rfl⟩,by simp; omega,fun r hr=>hr⟩
  simp only [nQ]
  rw [if_pos (by simp; omega),yA (by omega),yA (by omega)]
  simp only [Int.toNat_natCast,er]
  rw [zX (by omega) (by omega),zja hbi.1 hbi.2]
  have:=zyg (l.take i) l[i] (by simp; omega)
  rw [List.length_take,Nat.min_eq_left (by omega)] at this
  rw [this,List.take_succ_eq_append_getElem hil]
  simp

theorem ztm {l:List Int} (hb:Bytes l) (hl:l.length≤64):zbu l=some (yP l):=by
 obtain ⟨r,h1,h2⟩:=zzr hb hl (0,yP []) ⟨0,rfl,by omega,by simp⟩
 simp only [zbu,← zb4,h1,h2,Option.bind_some]
end Go.Proofs.YtebfhlnfmkhmcaaGreat
/- The lists of forms on both sides. -/
namespace Go.Proofs.YtebfhlnfmkhmcaaGreat
open Go.Abs

theorem zp9 {p:Nat} (D:List Int):∀ g,(∀ i,i < g→p ^ i≤343)→(f1 p D g).length≤g*117649
 | 0,_=>by simp [f1]
 | g + 1,h=>by
  have h1:=zp9 (p:=p) D g fun i hi=>h i (by omega)
  have h2:=ztd p D g (p ^ g)
  have h3:=h g (by omega)
  have h4:p ^ g*p ^ g≤343*343:=Nat.mul_le_mul h3 h3
  simp only [f1,List.length_append]
  omega
theorem zwo {p g:Nat} (hp:p≤7) (hg:g≤2):p ^ g≤343:=by
 have h1:p ^ g≤7 ^ g:=Nat.pow_le_pow_left hp g
 have h2:7 ^ g≤7 ^ 2:=Nat.pow_le_pow_right (by omega) hg
 omega
/-- Rows of at most 64 coefficients. -/
def Fine (p:Int) (q:List Int×List Int):Prop:=(Row p q.1∧q.1.length≤64)∧(Row p q.2∧q.2.length≤64)
theorem zxw {p:Nat} (hp:2≤p) {D A:List Int} (hA:Row p A∧A.length≤64) {g:Nat} (hg:g≤64):∀ j,j≤p ^ g→∀ q∈f3 p D A j,Fine p q
 | 0,_=>by simp [f3]
 | j + 1,h=>by
  have ih:=zxw (D:=D) hp hA hg j (by omega)
  intro q hq
  simp only [f3] at hq
  split at hq
  ·rcases List.mem_append.1 hq with h1 | h1
   ·exact ih q h1
   ·have e:q=(A,qM p j):=by simpa using h1
    subst e
    have:=ziu hp (show j < p ^ g by omega)
    exact ⟨hA,zff hp j,by simp only; omega⟩
  ·exact ih q hq
theorem zx4 {p:Nat} (hp:2≤p) {D:List Int} {g:Nat} (hg:g≤60):∀ i,i≤p ^ g→∀ q∈f2 p D g i,Fine p q
 | 0,_=>by simp [f2]
 | i + 1,h=>by
  intro q hq
  simp only [f2] at hq
  rcases List.mem_append.1 hq with h1 | h1
  ·exact zx4 hp hg i (by omega) q h1
  ·have:=zau hp (show i < p ^ g by omega)
   exact zxw hp ⟨zff hp _,by omega⟩ (by omega) _ (Nat.le_refl _) q h1
theorem zyb {p:Nat} (hp:2≤p) {D:List Int}:∀ g,g≤60→∀ q∈f1 p D g,Fine p q
 | 0,_=>by simp [f1]
 | g + 1,h=>by
  intro q hq
  simp only [f1] at hq
  rcases List.mem_append.1 hq with h1 | h1
  ·exact zyb hp g (by omega) q h1
  ·exact zx4 hp (by omega) _ (Nat.le_refl _) q h1
theorem zkm {l G:Nat} (hG:l=2*G + 2) (hs:G≤2):IntKind.i64.wrap (Int.tdiv (IntKind.i64.wrap ((l:Int) - 1 - 1)) 2)=(G:Int):=by
 have e:(l:Int) - 1 - 1=2*(G:Int):=by omega
 rw [e,zX (n:=2*(G:Int)) (by omega) (by omega),Int.tdiv_eq_ediv_of_nonneg (by omega),show 2*(G:Int) / 2=(G:Int) by omega,zX (by omega) (by omega)]
theorem z47 {p G:Nat} (hp:isP p=true) {d:V64} (hd:Res p d) (hG:(row d).length=2*G + 2) (hs:G≤2):zdx p d=some ((f1 p (row d) (G + 1)).map pp):=by
 have hp2:=wU hp
 have hgen:kS d=some (G:Int):=by simp only [kS,ze2,Option.bind_some,zkm hG hs]
 obtain ⟨s,g1,g2⟩:=wR (body:=fun s:Int×List (V64×V64)=>nV d p s.1 s.2) (fun i s=>((i:Int),s)) (fun s=>s) (G + 1)
  (fun i s=>s=(f1 p (row d) i).map pp) (fun i s hi hI=>by
   subst hI
   refine ⟨_,?_,rfl⟩
   have hl:=zp9 (p:=p) (row d) i fun j hj=>zwo (by omega) (by omega)
   have h2:=l2S (p:=p) (g:=i) hp (zwo (by omega) (by omega)) (by omega) hd (by omega) ((f1 p (row d) i).map pp) (by simp; omega)
   simp only [nV,hgen,Option.bind_some]
   rw [if_pos (decide_eq_true (by omega)),h2]
   simp only [Option.bind_some,f1,List.map_append]
   rw [zX (by omega) (by omega)]
   rfl) (fun s hI=>by
   simp only [nV,hgen,Option.bind_some]
   rw [if_neg (by rw [decide_eq_true_eq]; omega)]) (G + 1) 0 [] (by omega) (by simp [f1])
 have g1':yK (fun s:Int×List (V64×V64)=>nV d p s.1 s.2) (0,[])=some s:=g1
 simp only [zdx,g1',g2,Option.bind_some]
theorem z46 {p G:Nat} (hp:isP p=true) {D:List Int} (hd:Row p D) (hG:D.length=2*G + 2) (hs:G≤2):zcu ((p:Int),D)=some (f1 p D (G + 1)):=by
 have hp2:=wU hp
 have hgen:qG ((p:Int),D)=some (G:Int):=by
  simp only [qG,xF,Option.bind_some]
  rw [zX (n:=(D.length:Int) - 1) (by omega) (by omega),zkm hG hs]
 obtain ⟨s,g1,g2⟩:=wR (body:=fun s:Int×List (List Int×List Int)=>qS (G:Int) ((p:Int),D) s.1 s.2) (fun i s=>((i:Int),s)) (fun s=>s) (G + 1)
  (fun i s=>s=f1 p D i) (fun i s hi hI=>by
   subst hI
   refine ⟨_,?_,rfl⟩
   have hl:=zp9 (p:=p) D i fun j hj=>zwo (by omega) (by omega)
   have h2:=l2I (p:=p) (g:=i) hp (zwo (by omega) (by omega)) (by omega) hd (by omega) (f1 p D i) (by omega)
   simp only [qS]
   rw [zX (n:=(G:Int) + 1) (by omega) (by omega),if_pos (decide_eq_true (by omega)),zz3 (by omega) (by omega) (zwo (by omega) (by omega))]
   simp only [Option.bind_some,h2,f1]
   rw [zX (by omega) (by omega)]
   rfl) (fun s hI=>by
   simp only [qS]
   rw [zX (n:=(G:Int) + 1) (by omega) (by omega),if_neg (by rw [decide_eq_true_eq]; omega)]) (G + 1) 0 [] (by omega) (by simp [f1])
 have g1':yK (fun s:Int×List (List Int×List Int)=>qS (G:Int) ((p:Int),D) s.1 s.2) (0,[])=some s:=g1
 simp only [zcu,hgen,g1',g2,Option.bind_some]
theorem z3g (p:Int) (d:V64):yY [] p d=some true:=by
 have step:zQ [] p d 0=some (.inr (.inl ())):=rfl
 have h:yK (fun s:Int=>zQ [] p d s) 0=some (.inl ()):=by
  rw [yR]
  simp only [step,Option.bind_some]
 simp only [yY,yM,yQ,h,Option.bind_some]
 rfl
theorem zdw {p:Int} {d:V64} (h:zaa p d=true):isP p=true∧uJ p d=true∧∃ G:Nat,(row d).length=2*G + 2∧G≤2:=by
 simp only [zaa,Bool.and_eq_true,decide_eq_true_eq] at h
 obtain ⟨⟨⟨⟨h1,h2⟩,_⟩,h3⟩,_⟩:=h
 exact ⟨h1,h2,((row d).length - 2) / 2,by omega,by omega⟩
end Go.Proofs.YtebfhlnfmkhmcaaGreat
/- Reduction and composition of forms on both sides. -/
namespace Go.Proofs.YtebfhlnfmkhmcaaGreat
open Go.Abs
variable {P:Pri}
theorem zc3 (P:Pri):0 < P.p∧P.p≤256:=by have:=P.two; omega
theorem z0w (P:Pri):2≤P.p∧P.p≤256:=by have:=P.two; omega
theorem zln (a b:PP P):(a*b).len≤a.len + b.len - 1:=zmm _ _ _
theorem z59 (a b:PP P) (la:a.len≤400) (lb:b.len≤400):xC P.p a.1 b.1=some (a*b).1 :=
 zmw (z0w P) (a.2.ent (zc3 P)) (b.2.ent (zc3 P)) (by show a.len≤_; omega) (by show b.len≤_; omega)
theorem z7h (a b:PP P) (la:a.len≤400) (lb:b.len≤400):xM P.p a.1 b.1 1=some (a + b).1 :=
 zab (zc3 P) (a.2.ent (zc3 P)) (b.2.ent (zc3 P)) (by show a.len≤_; omega) (by show b.len≤_; omega) (by omega)
theorem z7t (a b:PP P) (la:a.len≤400) (lb:b.len≤400):xM P.p a.1 b.1 (-1)=some (a + -b).1:=by
 rw [zab (zc3 P) (a.2.ent (zc3 P)) (b.2.ent (zc3 P)) (by show a.len≤_; omega) (by show b.len≤_; omega) (by omega),zo9]
theorem z26 (a:PP P) (la:a.len≤400):wX P.p a.1 (-1)=some (-a).1:=by
 simp only [wX]
 rw [zab (zc3 P) ((zcz P.p).ent (zc3 P)) (a.2.ent (zc3 P)) (by simp) (by show a.len≤_; omega) (by omega)]
 rfl
theorem z3n (a:PP P) {b:PP P} (hb:b ≠ 0) (la:a.len≤400) (lb:b.len≤400):uT P.p a.1 b.1=some ((za2 a b).1,(yX a b).1) :=
 zlm P.okp a.2 b.2 (zdo hb) (by show a.len≤_; omega) (by show b.len≤_; omega)
theorem z0y (a:PP P) {b:PP P} (hb:b ≠ 0) (la:a.len≤400) (lb:b.len≤400):kJ P.p a.1 b.1=some (yX a b).1:=by
 simp only [kJ,z3n a hb la lb,Option.bind_some]
theorem z1o {q:PP P} (hq:q ≠ 0):zb8 P.p [] q.1 (inv P.p (wG q.1))=(mon q).1∧0 < wG q.1∧wG q.1 < P.p∧0≤inv P.p (wG q.1)∧inv P.p (wG q.1) < P.p:=by
 have hl:=zbj P.pos q.2 (zdo hq)
 have hi:=ze1 P.okp hl
 obtain ⟨k,hk⟩:∃ k:Nat,inv P.p (wG q.1)=k:=⟨(inv P.p (wG q.1)).toNat,by omega⟩
 refine ⟨?_,hl.1,hl.2,by omega,hi.2.1⟩
 have h:=zwn q k
 unfold mon
 rw [hk,Int.toNat_natCast]
 exact h
theorem z66 {q:PP P} (hq:q ≠ 0) (lq:q.len≤400):jM q.1=some (wG q.1)∧kL P.p (wG q.1)=some (inv P.p (wG q.1))∧wX P.p q.1 (inv P.p (wG q.1))=some (mon q).1:=by
 obtain ⟨h1,h2,h3,h4,h5⟩:=z1o hq
 have:=P.two
 refine ⟨zpe (zdo hq) (by show q.len≤_; omega),ziw P.okp ⟨h2,h3⟩,?_⟩
 simp only [wX]
 rw [zab (zc3 P) ((zcz P.p).ent (zc3 P)) (q.2.ent (zc3 P)) (by simp) (by show q.len≤_; omega) (by omega),h1]
 rfl
/-! The reference's. -/
theorem z6a (a b:PP P) (h:a.len + b.len≤65) (la:a.len≤64) (lb:b.len≤64):xO P.p (yP a.1) (yP b.1)=some (yP (a*b).1,true) :=
 zkp (z0w P) a.2 b.2 la lb (.inr (.inr h))
theorem z7w (a b:PP P) (la:a.len≤64) (lb:b.len≤64):xS P.p (yP a.1) (yP b.1) 1=some (yP (a + b).1) :=
 zdl (zc3 P) a.2 b.2 la lb (by omega)
theorem z7v (a b:PP P) (la:a.len≤64) (lb:b.len≤64):xS P.p (yP a.1) (yP b.1) (-1)=some (yP (a + -b).1):=by
 rw [zdl (zc3 P) a.2 b.2 la lb (by omega),zo9]
theorem z7s (a:PP P) (la:a.len≤64):xS P.p (yH 64 0) (yP a.1) (-1)=some (yP (-a).1):=by
 rw [← zb4,zdl (zc3 P) (zcz P.p) a.2 (by simp) la (by omega)]
 rfl
theorem z4m (a:PP P) {b:PP P} (hb:b ≠ 0) (la:a.len≤64) (lb:b.len≤64):kD P.p (yP a.1) (yP b.1)=some (yP (za2 a b).1,yP (yX a b).1):=z43 hb la lb
theorem z5b (a:PP P) {b:PP P} (hb:b ≠ 0) (la:a.len≤64) (lb:b.len≤64):vQ P.p (yP a.1) (yP b.1)=some (yP (yX a b).1):=by
 simp only [vQ,z43 hb la lb,Option.bind_some]
theorem z71 {q:PP P} (hq:q ≠ 0) (lq:q.len≤64):ze6 P.p (yP q.1)=some (yP (mon q).1):=by
 obtain ⟨h1,h2,h3,h4,h5⟩:=z1o hq
 have:=P.two
 have hp:=qW hq
 have hl:rd (yP q.1).1 (q.len - 1)=wG q.1:=uW _ (by omega)
 simp only [ze6,zq6 q lq,Option.bind_some]
 rw [yA (by omega),show ((q.len:Int) - 1).toNat=q.len - 1 by omega,hl,zfx P.okp ⟨h2,h3⟩]
 simp only [Option.bind_some]
 rw [zX (by omega) (by omega),← zb4,zdl (zc3 P) (zcz P.p) q.2 (by simp) lq (by omega),h1]
 rfl
theorem z4x (a:PP P) {b:PP P} (hb:b ≠ 0) (la:a.len≤64) (lb:b.len≤64):jD P.p (yP a.1) (yP b.1)=some (yP (yX (-a) b).1):=by
 have:=zb7 a
 simp only [jD,z7s a la,Option.bind_some,z5b (-a) hb (by omega) lb]
theorem zo7 {a b:PP P} (hb:b ≠ 0) (h:Dv b a):a=b*za2 a b:=by
 have h1:=(zj2 a hb).1
 rw [(zuq hb).2 h,zN.add_zero] at h1
 rw [zN.mul_comm]
 exact h1
theorem zpc {a b q:PP P} (hb:b ≠ 0) (h:a=b*q):za2 a b=q:=(z0e hb (r:=0) (by rw [zN.add_zero,h,zN.mul_comm]) (by have:=qW hb; have:(0:PP P).len=0:=rfl; omega)).1
theorem Fm.dvs {D a b:PP P} (h:Fm D a b):Dv a (D + -(b*b))∧Dv a (b*b + -D):=by
 have R:IsRing (PP P):=zN
 obtain ⟨c,hc⟩:=h.dv
 have e:b*b + -D=c*a:=hc.trans (R.mul_comm a c)
 exact ⟨⟨-c,by rw [zhu R,← e,R.neg_add',R.neg_neg,R.add_comm]⟩,⟨c,e⟩⟩
theorem zav {a b:PP P} {m n:Nat} (ha:a.len≤m) (hb:b.len≤n):(a*b).len≤m + n:=Nat.le_trans (zln a b) (by omega)
theorem zq0 {a b:PP P} {m n:Nat} (ha:a.len≤m) (hb:b.len≤n):(a + b).len≤max m n:=Nat.le_trans (zb5 a b) (by omega)
theorem zlh {a b:PP P} {m n:Nat} (ha:a.len≤m) (hb:b.len≤n) (h:m≤400∧n≤400):xC P.p a.1 b.1=some (a*b).1:=z59 a b (Nat.le_trans ha h.1) (Nat.le_trans hb h.2)
theorem zxy {a b:PP P} {m n:Nat} (ha:a.len≤m) (hb:b.len≤n) (h:m≤400∧n≤400):xM P.p a.1 b.1 1=some (a + b).1:=z7h a b (Nat.le_trans ha h.1) (Nat.le_trans hb h.2)
theorem zgj {a b:PP P} {m n:Nat} (ha:a.len≤m) (hb:b.len≤n) (h:m + n≤64):xO P.p (yP a.1) (yP b.1)=some (yP (a*b).1,true):=z6a a b (by omega) (by omega) (by omega)
theorem zuv {a b:PP P} {m n:Nat} (ha:a.len≤m) (hb:b.len≤n) (h:m≤64∧n≤64):xS P.p (yP a.1) (yP b.1) 1=some (yP (a + b).1):=z7w a b (Nat.le_trans ha h.1) (Nat.le_trans hb h.2)
/-- What is known of a composition. -/
structure Cmpo (D a b a' b' o u v d w t A B:PP P):Prop where
 la:a.len≤3
 lb:b.len≤3
 la':a'.len≤3
 lb':b'.len≤3
 lD:D.len≤6
 lu:u.len≤4
 lv:v.len≤4
 lw:w.len≤4
 lt:t.len≤4
 ld:d.len≤3
 lA:A.len≤6
 lB:B.len≤30
 nd:d ≠ 0
 nA:A ≠ 0
 h1:a*a'=d*d*A
 h2:w*u*a*b' + w*v*a'*b + t*(b*b' + D)=d*B
theorem zwq {D a b a' b' o u v d w t A B:PP P} (h:Cmpo D a b a' b' o u v d w t A B) (c1:qU P.p a.1 a'.1=some (o.1,u.1,v.1)) (c2:qU P.p o.1 (b + b').1=some (d.1,w.1,t.1)) :
  uZ (P.p,D.1) (a.1,b.1) (a'.1,b'.1)=kK (P.p,D.1) (A.1,(yX B A).1):=by
 have ndd:d*d ≠ 0:=fun e=>by rcases zei _ _ e with h' | h' <;> exact h.nd h'
 have k1:=zav h.lw h.lu
 have k2:=zav h.lw h.lv
 have k3:=zav h.la h.la'
 have k4:=zav h.ld h.ld
 have k5:=zav k1 h.la
 have k6:=zav k5 h.lb'
 have k7:=zav k2 h.la'
 have k8:=zav k7 h.lb
 have k9:=zav h.lb h.lb'
 have k10:=zq0 k9 h.lD
 have k11:=zav h.lt k10
 have k12:=zq0 k6 k8
 have k13:=zq0 k12 k11
 have f1:=zxy h.lb h.lb' (by decide)
 have f2:=zlh h.lw h.lu (by decide)
 have f3:=zlh h.lw h.lv (by decide)
 have f4:=zlh h.la h.la' (by decide)
 have f5:=zlh h.ld h.ld (by decide)
 have f6:=zlh k1 h.la (by decide)
 have f7:=zlh k5 h.lb' (by decide)
 have f8:=zlh k2 h.la' (by decide)
 have f9:=zlh k7 h.lb (by decide)
 have f10:=zxy k6 k8 (by decide)
 have f11:=zlh h.lb h.lb' (by decide)
 have f12:=zxy k9 h.lD (by decide)
 have f13:=zlh h.lt k10 (by decide)
 have f14:=zxy k12 k11 (by decide)
 have f15:=z3n (a*a') ndd (Nat.le_trans k3 (by decide)) (Nat.le_trans k4 (by decide))
 have f16:=z3n (w*u*a*b' + w*v*a'*b + t*(b*b' + D)) h.nd (Nat.le_trans k13 (by decide)) (Nat.le_trans h.ld (by decide))
 have f17:=z0y B h.nA (Nat.le_trans h.lB (by decide)) (Nat.le_trans h.lA (by decide))
 rw [zpc ndd h.h1] at f15
 rw [zpc h.nd h.h2] at f16
 simp only [uZ,c1,f1,c2,f2,f3,f4,f5,f6,f7,f8,f9,f10,f11,f12,f13,f14,f15,f16,f17,Option.bind_some]
 cases kK (P.p,D.1) (A.1,(yX B A).1) <;> rfl
theorem zwu {D a b a' b' o u v d w t A B:PP P} (h:Cmpo D a b a' b' o u v d w t A B) (c1:kC P.p (yP a.1) (yP a'.1)=some (yP o.1,yP u.1,yP v.1)) (c2:kC P.p (yP o.1) (yP (b + b').1)=some (yP d.1,yP w.1,yP t.1)) :
  kX P.p (yP D.1) (yP a.1,yP b.1) (yP a'.1,yP b'.1)=nW P.p (yP D.1) (yP A.1,yP (yX B A).1):=by
 have ndd:d*d ≠ 0:=fun e=>by rcases zei _ _ e with h' | h' <;> exact h.nd h'
 have k1:=zav h.lw h.lu
 have k2:=zav h.lw h.lv
 have k3:=zav h.la h.la'
 have k4:=zav h.ld h.ld
 have k5:=zav k1 h.la
 have k6:=zav k5 h.lb'
 have k7:=zav k2 h.la'
 have k8:=zav k7 h.lb
 have k9:=zav h.lb h.lb'
 have k10:=zq0 k9 h.lD
 have k11:=zav h.lt k10
 have k12:=zq0 k6 k8
 have k13:=zq0 k12 k11
 have f1:=zuv h.lb h.lb' (by decide)
 have f2:=zgj h.lw h.lu (by decide)
 have f3:=zgj h.lw h.lv (by decide)
 have f4:=zgj h.la h.la' (by decide)
 have f5:=zgj h.ld h.ld (by decide)
 have f6:=zgj k1 h.la (by decide)
 have f7:=zgj k5 h.lb' (by decide)
 have f8:=zgj k2 h.la' (by decide)
 have f9:=zgj k7 h.lb (by decide)
 have f10:=zuv k6 k8 (by decide)
 have f11:=zgj h.lb h.lb' (by decide)
 have f12:=zuv k9 h.lD (by decide)
 have f13:=zgj h.lt k10 (by decide)
 have f14:=zuv k12 k11 (by decide)
 have f15:=z4m (a*a') ndd (Nat.le_trans k3 (by decide)) (Nat.le_trans k4 (by decide))
 have f16:=z4m (w*u*a*b' + w*v*a'*b + t*(b*b' + D)) h.nd (Nat.le_trans k13 (by decide)) (Nat.le_trans h.ld (by decide))
 have f17:=z5b B h.nA (Nat.le_trans h.lB (by decide)) (Nat.le_trans h.lA (by decide))
 rw [zpc ndd h.h1] at f15
 rw [zpc h.nd h.h2] at f16
 simp only [kX,nC,c1,f1,c2,f2,f3,f4,f5,f6,f7,f8,f9,f10,f11,f12,f13,f14,f15,f16,f17,Option.bind_some]
 cases nW P.p (yP D.1) (yP A.1,yP (yX B A).1) <;> rfl
section
variable {D:PP P} {G:Nat} (hD:Dsc D G) (hG:G≤2)
include hD hG
omit hD in
theorem z7x (hl:D.len=2*G + 2):qG (P.p,D.1)=some (G:Int):=by
 have e:D.1.length=2*G + 2:=hl
 simp only [qG,xF,Option.bind_some]
 rw [zX (n:=(D.1.length:Int) - 1) (by omega) (by omega),zkm e hG]
omit hD in
theorem z7m (hl:D.len=2*G + 2):kS (yP D.1)=some (G:Int):=by
 simp only [kS,zq6 D (by omega),Option.bind_some,zkm hl hG]
theorem zzt {a b:PP P} (h:Fm D a b) (la:a.len≤100) :
  qZ (P.p,D.1) (a.1,b.1)=if a.len≤G + 1 then some (.inr (a.1,b.1)) else some (.inl ((mon (za2 (D + -(b*b)) a)).1,(yX (-b) (mon (za2 (D + -(b*b)) a))).1)):=by
 have hDl:=hD.len
 have hb:=h.len
 have e0:a.1.length=a.len:=rfl
 have hr:qA (P.p,D.1) (a.1,b.1)=some (decide (a.len≤G + 1)):=by
  simp only [qA,xF,z7x hG hDl,Option.bind_some]
  rw [e0,zX (by omega) (by omega)]
  congr 1
  rw [Bool.eq_iff_iff,decide_eq_true_eq,decide_eq_true_eq]
  omega
 simp only [qZ,hr,Option.bind_some]
 by_cases hl:a.len≤G + 1
 ·rw [decide_eq_true hl,if_pos hl]
  rfl
 ·rw [decide_eq_false hl,if_neg hl]
  have m1:=zln b b
  have s1:=zb5 D (-(b*b))
  have s2:=zb7 (b*b)
  have s3:=zb7 b
  have hdv:=h.dvs.1
  obtain ⟨k1,k2,k3,k4⟩:=zj1 hD h (by omega) (.inr (zo7 h.mo.ne hdv))
  obtain ⟨i1,i2,i3⟩:=z66 k1 (by omega)
  have hm:=zkx k1
  have hmm:=(zs0 k1).ne
  simp only [Bool.not_false,if_true,z59 b b (by omega) (by omega),z7t D (b*b) (by omega) (by omega),z3n (D + -(b*b)) h.mo.ne (by omega) (by omega),Option.bind_some,i1,i2,i3,z26 b (by omega),z0y (-b) hmm (by omega) (by omega)]
theorem z5t:∀ (n:Nat) (a b:PP P),a.len≤n→n≤100→Fm D a b→∃ r:Rf D G,yK (fun s:List Int×List Int=>qZ (P.p,D.1) s) (a.1,b.1)=some (r.a.1,r.b.1)∧Cl (FI D a b) r.I
 | 0,a,b,hn,_,h=>by have:=qW h.mo.ne; omega
 | n + 1,a,b,hn,hn2,h=>by
  have step:=zzt hD hG h (by omega)
  by_cases hl:a.len≤G + 1
  ·rw [if_pos hl] at step
   refine ⟨⟨a,b,h,hl⟩,?_,zyq rfl⟩
   rw [yR]
   simp only [step,Option.bind_some]
  ·rw [if_neg hl] at step
   have hdv:=h.dvs.1
   obtain ⟨k1,k2,k3,k4⟩:=zj1 hD h (by omega) (.inr (zo7 h.mo.ne hdv))
   obtain ⟨r,hr,hc⟩:=z5t n _ _ (by rw [zkx k1]; omega) (by omega) k3
   refine ⟨r,?_,zde hD k4 hc⟩
   rw [yR]
   simp only [step,Option.bind_some,hr]
theorem zy3 {a b:PP P} (h:Fm D a b) (la:a.len≤30) :
  jX (yP D.1) P.p (yP a.1,yP b.1)=if a.len≤G + 1 then some (.inr (yP a.1,yP b.1)) else some (.inl (yP (mon (za2 (b*b + -D) a)).1,yP (yX (-b) (mon (za2 (b*b + -D) a))).1)):=by
 have hDl:=hD.len
 have hb:=h.len
 simp only [jX,zq6 a (by omega),z7m hG hDl,Option.bind_some]
 by_cases hl:a.len≤G + 1
 ·rw [if_neg (by rw [decide_eq_true_eq]; omega),if_pos hl]
 ·rw [if_pos (decide_eq_true (by omega)),if_neg hl]
  have m1:=zln b b
  have s1:=zb5 (b*b) (-D)
  have s2:=zb7 D
  have hdv:=h.dvs.2
  obtain ⟨k1,k2,k3,k4⟩:=zj1 hD h (by omega) (.inl (zo7 h.mo.ne hdv))
  have hm:=zkx k1
  have hmm:=(zs0 k1).ne
  have hsq:nX P.p (yP D.1) (yP b.1)=some (yP (b*b + -D).1):=by
   simp only [nX,z6a b b (by omega) (by omega) (by omega),Option.bind_some,z7v (b*b) D (by omega) (by omega)]
  simp only [hsq,z4m (b*b + -D) h.mo.ne (by omega) (show a.len≤64 by omega),Option.bind_some,z71 k1 (by omega),z4x b hmm (by omega) (by omega)]
theorem z5i:∀ (n:Nat) (a b:PP P),a.len≤n→n≤30→Fm D a b→∃ r:Rf D G,yK (fun s:V64×V64=>jX (yP D.1) P.p s) (yP a.1,yP b.1)=some (yP r.a.1,yP r.b.1)∧Cl (FI D a b) r.I
 | 0,a,b,hn,_,h=>by have:=qW h.mo.ne; omega
 | n + 1,a,b,hn,hn2,h=>by
  have step:=zy3 hD hG h (by omega)
  by_cases hl:a.len≤G + 1
  ·rw [if_pos hl] at step
   refine ⟨⟨a,b,h,hl⟩,?_,zyq rfl⟩
   rw [yR]
   simp only [step,Option.bind_some]
  ·rw [if_neg hl] at step
   have hdv:=h.dvs.2
   obtain ⟨k1,k2,k3,k4⟩:=zj1 hD h (by omega) (.inl (zo7 h.mo.ne hdv))
   obtain ⟨r,hr,hc⟩:=z5i n _ _ (by rw [zkx k1]; omega) (by omega) k3
   refine ⟨r,?_,zde hD k4 hc⟩
   rw [yR]
   simp only [step,Option.bind_some,hr]
def Rf.i (x:Rf D G):List Int×List Int:=(x.a.1,x.b.1)
def Rf.s (x:Rf D G):V64×V64:=(yP x.a.1,yP x.b.1)
theorem z70 (x y:Rf D G):∃ o u v d w t A B:PP P,Cmpo D x.a x.b y.a y.b o u v d w t A B∧bz P.p x.a.1 y.a.1=(o.1,u.1,v.1)∧bz P.p o.1 (x.b + y.b).1=(d.1,w.1,t.1)∧o ≠ 0∧o.len≤64∧Fm D A (yX B A)∧Cl (Pr x.I y.I) (FI D A (yX B A)):=by
 have hDl:=hD.len
 have hx1:=x.sm
 have hx2:=x.fm.len
 have hy1:=y.sm
 have hy2:=y.fm.len
 have nx:=x.fm.mo.ne
 have ny:=y.fm.mo.ne
 have la:x.a.len≤3:=by omega
 have la':y.a.len≤3:=by omega
 have lb:x.b.len≤3:=by omega
 have lb':y.b.len≤3:=by omega
 have lD:D.len≤6:=by omega
 obtain ⟨o,u,v,e1,m1,b1,d1,d1',lu,lv⟩:=zxi (a:=x.a) (b:=y.a) (by omega) (by omega) (.inl nx)
 have lo:o.len≤3:=Nat.le_trans (zdr d1 nx) la
 have ls:(x.b + y.b).len≤3:=Nat.le_trans (zb5 x.b y.b) (by omega)
 obtain ⟨d,w,t,e2,m2,b2,d2,d2',lw,lt⟩:=zxi (a:=o) (b:=x.b + y.b) (by omega) (by omega) (.inl m1.ne)
 have ld:d.len≤3:=Nat.le_trans (zdr d2 m1.ne) lo
 have lu':u.len≤4:=by omega
 have lv':v.len≤4:=by omega
 have lw':w.len≤4:=by omega
 have lt':t.len≤4:=by omega
 clear lu lv lw lt
 obtain ⟨A,B,h1,h2,h3,h4⟩:=zx9 hD (r:=w*u) (s:=w*v) (t:=t) x.fm y.fm m2 (zN.dv_trans d2 d1) (zN.dv_trans d2 d1') d2' (by rw [← z1t zN,← b1]; exact b2)
 have nd:=m2.ne
 have kA:A.len≤6:=Nat.le_trans (zdr (a:=A) (b:=x.a*y.a) ⟨d*d,h1⟩ (fun e=>(zei _ _ e).elim nx ny)) (zav la la')
 have kB:B.len≤30:=by
  by_cases hB:B=0
  ·rw [hB]; exact Nat.zero_le _
  ·refine Nat.le_trans (zdr (a:=B) (b:=d*B) ⟨d,rfl⟩ (fun e=>(zei _ _ e).elim nd hB)) ?_
   rw [← h2]
   exact Nat.le_trans (zq0 (zq0 (zav (zav (zav lw' lu') la) lb') (zav (zav (zav lw' lv') la') lb)) (zav lt' (zq0 (zav lb lb') lD))) (show max (max (4 + 4 + 3 + 3) (4 + 4 + 3 + 3)) (4 + max (3 + 3) 6)≤30 by decide)
 exact ⟨o,u,v,d,w,t,A,B,⟨la,lb,la',lb',lD,lu',lv',lw',lt',ld,kA,kB,nd,h3.mo.ne,h1,h2⟩,e1,e2,m1.ne,by omega,h3,h4⟩
theorem zgi (x y:Rf D G):uZ (P.p,D.1) x.i y.i=some (rop hD x y).i∧kX P.p (yP D.1) x.s y.s=some (rop hD x y).s:=by
 obtain ⟨o,u,v,d,w,t,A,B,h,hz1,hz2,no,lo,h3,h4⟩:=z70 hD hG x y
 have ls:(x.b + y.b).len≤64:=Nat.le_trans (zq0 h.lb h.lb') (by decide)
 have lx:x.a.len≤64:=Nat.le_trans h.la (by decide)
 have ly:y.a.len≤64:=Nat.le_trans h.la' (by decide)
 have nx:=zdo x.fm.mo.ne
 have no':=zdo no
 have c1:=zl4 P.okp x.a.2 y.a.2 lx ly (.inl nx)
 have c2:=zl4 P.okp o.2 (x.b + y.b).2 lo ls (.inl no')
 have c3:=zgg P.okp x.a.2 y.a.2 lx ly (.inl nx)
 have c4:=zgg P.okp o.2 (x.b + y.b).2 lo ls (.inl no')
 rw [hz1] at c1 c3
 rw [hz2] at c2 c4
 have lA10:A.len≤10:=Nat.le_trans h.lA (by decide)
 obtain ⟨r,r1,r2⟩:=z5t hD hG 10 A (yX B A) lA10 (by decide) h3
 obtain ⟨r',r1',r2'⟩:=z5i hD hG 10 A (yX B A) lA10 (by decide) h3
 rw [zlp hD (zde hD h4 r2)] at r1
 rw [zlp hD (zde hD h4 r2')] at r1'
 refine ⟨(zwq h c1 c2).trans ?_,(zwu h c3 c4).trans ?_⟩
 ·simp only [kK,r1,Option.bind_some]
  rfl
 ·simp only [nW,r1',Option.bind_some]
  rfl
end
end Go.Proofs.YtebfhlnfmkhmcaaGreat
/- The list of all reduced forms; orders. -/
namespace Go.Proofs.YtebfhlnfmkhmcaaGreat
open Go.Abs
variable {P:Pri}
theorem zka {p:Nat} {D A:List Int} {q:List Int×List Int}:∀ j,q∈f3 p D A j ↔ ∃ k,k < j∧isF p D A (qM p k)=true∧q=(A,qM p k)
 | 0=>by simp [f3]
 | j + 1=>by
  have ih:=zka (D:=D) (A:=A) (q:=q) (p:=p) j
  simp only [f3]
  constructor
  ·intro h
   split at h
   ·rcases List.mem_append.1 h with h1 | h1
    ·obtain ⟨k,a,b⟩:=ih.1 h1
     exact ⟨k,by omega,b⟩
    ·exact ⟨j,by omega,by assumption,by simpa using h1⟩
   ·obtain ⟨k,a,b⟩:=ih.1 h
    exact ⟨k,by omega,b⟩
  ·rintro ⟨k,a,b,c⟩
   by_cases hk:k=j
   ·subst hk
    rw [if_pos b]
    exact List.mem_append.2 (.inr (by simpa using c))
   ·have h1:=ih.2 ⟨k,by omega,b,c⟩
    split
    ·exact List.mem_append.2 (.inl h1)
    ·exact h1
theorem zn7 {p:Nat} {D:List Int} {g:Nat} {q:List Int×List Int}:∀ i,q∈f2 p D g i ↔ ∃ k,k < i∧q∈f3 p D (qM p (p ^ g + k)) (p ^ g)
 | 0=>by simp [f2]
 | i + 1=>by
  have ih:=zn7 (D:=D) (g:=g) (q:=q) (p:=p) i
  simp only [f2,List.mem_append,ih]
  constructor
  ·rintro (⟨k,a,b⟩ | h)
   ·exact ⟨k,by omega,b⟩
   ·exact ⟨i,by omega,h⟩
  ·rintro ⟨k,a,b⟩
   by_cases hk:k=i
   ·subst hk; exact .inr b
   ·exact .inl ⟨k,by omega,b⟩
theorem ztz {p:Nat} {D:List Int} {q:List Int×List Int}:∀ n,q∈f1 p D n ↔ ∃ g,g < n∧q∈f2 p D g (p ^ g)
 | 0=>by simp [f1]
 | n + 1=>by
  have ih:=ztz (D:=D) (q:=q) (p:=p) n
  simp only [f1,List.mem_append,ih]
  constructor
  ·rintro (⟨k,a,b⟩ | h)
   ·exact ⟨k,by omega,b⟩
   ·exact ⟨n,by omega,h⟩
  ·rintro ⟨k,a,b⟩
   by_cases hk:k=n
   ·subst hk; exact .inr b
   ·exact .inl ⟨k,by omega,b⟩
theorem zuh {p:Nat} (hp:2≤p) {n m:Nat} (h:qM p n=qM p m):n=m:=by
 rw [← zm4 hp n,h,zm4 hp]
theorem zu9 {p:Nat} (hp:2≤p) {D A:List Int}:∀ j,(f3 p D A j).Nodup
 | 0=>by simp [f3]
 | j + 1=>by
  have ih:=zu9 hp (D:=D) (A:=A) j
  simp only [f3]
  split
  ·unfold List.Nodup
   rw [List.pairwise_append]
   refine ⟨ih,List.pairwise_singleton ..,fun a ha b hb e=>?_⟩
   obtain ⟨k,h1,_,h2⟩:=(zka j).1 ha
   have h3:b=(A,qM p j):=by simpa using hb
   rw [h2,h3] at e
   have:=zuh hp (Prod.mk.inj e).2
   omega
  ·exact ih
theorem zu5 {p:Nat} (hp:2≤p) {D:List Int} {g:Nat}:∀ i,(f2 p D g i).Nodup
 | 0=>by simp [f2]
 | i + 1=>by
  simp only [f2]
  unfold List.Nodup
  rw [List.pairwise_append]
  refine ⟨zu5 hp i,zu9 hp _,fun a ha b hb e=>?_⟩
  obtain ⟨k,h1,h2⟩:=(zn7 i).1 ha
  obtain ⟨j,_,_,h3⟩:=(zka _).1 h2
  obtain ⟨j',_,_,h4⟩:=(zka _).1 hb
  rw [h3,h4] at e
  have:=zuh hp (Prod.mk.inj e).1
  omega
theorem zvn {p:Nat} (hp:2≤p) {D:List Int}:∀ n,(f1 p D n).Nodup
 | 0=>by simp [f1]
 | n + 1=>by
  simp only [f1]
  unfold List.Nodup
  rw [List.pairwise_append]
  refine ⟨zvn hp n,zu5 hp _,fun a ha b hb e=>?_⟩
  obtain ⟨g,hg,ha'⟩:=(ztz n).1 ha
  obtain ⟨k,h1,h2⟩:=(zn7 _).1 ha'
  obtain ⟨j,_,_,h3⟩:=(zka _).1 h2
  obtain ⟨k',h1',h2'⟩:=(zn7 _).1 hb
  obtain ⟨j',_,_,h4⟩:=(zka _).1 h2'
  rw [h3,h4] at e
  have e1:=congrArg List.length (Prod.mk.inj e).1
  rw [zau hp h1,zau hp h1'] at e1
  omega
/-- The number of a monic polynomial. -/
theorem zt2 {p:Nat} (hp:2≤p):∀ (g:Nat) (l:List Int),Row p l→l.length=g + 1→wG l=1→num p l < 2*p ^ g
 | g,[],_,h,_=>by simp at h
 | 0,[c],_,_,h=>by
  have hc:c=1:=h
  subst hc
  simp [num]
 | 0,c :: d :: l,_,h,_=>by simp at h
 | g + 1,[c],_,h,_=>by simp at h
 | g + 1,c :: d :: l,hr,h,hl=>by
  have h1:=zgh hr
  have hl':wG (d :: l)=1:=by
   rw [← hl]
   unfold wG
   simp only [List.length_cons,Nat.add_sub_cancel]
   rw [zmv]
  have h2:=zt2 hp g (d :: l) h1 (by simpa using h) hl'
  have h3:=hr.res c (List.mem_cons_self ..)
  have e:num p (c :: d :: l)=c.toNat + p*num p (d :: l):=rfl
  rw [e,Nat.pow_succ]
  have h4:p*(num p (d :: l) + 1)≤p*(2*p ^ g):=Nat.mul_le_mul_left p h2
  have h5:p*(2*p ^ g)=2*(p ^ g*p):=by rw [Nat.mul_left_comm,Nat.mul_comm p]
  rw [Nat.mul_add,h5] at h4
  omega
theorem zpj {D A B:PP P} (hA:A ≠ 0):isF P.n D.1 A.1 B.1=true ↔ ∃ c,B*B + -D=A*c:=by
 have e1:rem P.n (zb8 P.n (mul P.n B.1 B.1) D.1 (-1)) A.1=(yX (B*B + -D) A).1:=by
  have:zb8 P.p (mul P.p B.1 B.1) D.1 (-1)=(B*B + -D).1:=zo9 (B*B) D
  show rem P.p (zb8 P.p (mul P.p B.1 B.1) D.1 (-1)) A.1=_
  rw [this]
  rfl
 unfold isF
 rw [decide_eq_true_eq,e1]
 show (yX (B*B + -D) A).len=0 ↔ _
 rw [wT,zuq hA]
 exact ⟨fun ⟨c,hc⟩=>⟨c,by rw [zN.mul_comm A]; exact hc⟩,fun ⟨c,hc⟩=>⟨c,by rw [zN.mul_comm c]; exact hc⟩⟩
section
variable {D:PP P} {G:Nat} (hD:Dsc D G) (hG:G≤2)
theorem z44 (x:Rf D G):x.i∈f1 P.n D.1 (G + 1):=by
 have h1:=qW x.fm.mo.ne
 have h2:=x.sm
 have h3:=x.fm.len
 have hp:=P.ge
 obtain ⟨g,hg⟩:∃ g,x.a.len=g + 1:=⟨x.a.len - 1,by omega⟩
 have ea:=zna hp _ x.a.2
 have eb:=zna hp _ x.b.2
 have k1:P.n ^ g≤num P.n x.a.1:=by
  rcases Nat.lt_or_ge (num P.n x.a.1) (P.n ^ g) with h | h
  ·have:=zkc hp g _ h
   rw [ea] at this
   have:x.a.len≤g:=this
   omega
  ·exact h
 have k2:=zt2 hp g _ x.a.2 hg x.fm.mo
 have k3:=zwm hp _ x.b.2
 have k4:P.n ^ x.b.len≤P.n ^ g:=Nat.pow_le_pow_right (by omega) (by omega)
 have k3':num P.n x.b.1 < P.n ^ x.b.len:=k3
 refine (ztz _).2 ⟨g,by omega,(zn7 _).2 ⟨num P.n x.a.1 - P.n ^ g,by omega,(zka _).2 ⟨num P.n x.b.1,by omega,?_,?_⟩⟩⟩
 ·rw [show P.n ^ g + (num P.n x.a.1 - P.n ^ g)=num P.n x.a.1 by omega,ea,eb]
  exact (zpj x.fm.mo.ne).2 x.fm.dv
 ·rw [show P.n ^ g + (num P.n x.a.1 - P.n ^ g)=num P.n x.a.1 by omega,ea,eb]
  rfl
theorem z6d {q:List Int×List Int} (h:q∈f1 P.n D.1 (G + 1)):∃ x:Rf D G,x.i=q:=by
 have hp:=P.ge
 obtain ⟨g,hg,h1⟩:=(ztz _).1 h
 obtain ⟨k,hk,h2⟩:=(zn7 _).1 h1
 obtain ⟨j,hj,hF,rfl⟩:=(zka _).1 h2
 have la:=zau hp hk
 have lb:=ziu hp hj
 have hm:Mo (ppn P (P.n ^ g + k)):=by
  show wG (qM P.n (P.n ^ g + k))=1
  unfold wG
  rw [la]
  exact zlx hp hk
 have hF':isF P.n D.1 (ppn P (P.n ^ g + k)).1 (ppn P j).1=true:=hF
 have la':(ppn P (P.n ^ g + k)).len=g + 1:=la
 have lb':(ppn P j).len≤g:=lb
 exact ⟨⟨ppn P (P.n ^ g + k),ppn P j,⟨hm,by omega,(zpj hm.ne).1 hF'⟩,by omega⟩,rfl⟩
theorem zrp {α β:Type} {f:α→β}:∀ l:List β,(∀ q∈l,∃ x,f x=q)→∃ L:List α,L.map f=l
 | [],_=>⟨[],rfl⟩
 | q :: l,h=>by
  obtain ⟨x,hx⟩:=h q (List.mem_cons_self ..)
  obtain ⟨L,hL⟩:=zrp l fun q hq=>h q (List.mem_cons_of_mem _ hq)
  exact ⟨x :: L,by rw [List.map_cons,hx,hL]⟩
theorem z2i {x y:Rf D G} (h:x.i=y.i):x=y:=by
 have h1:=Prod.mk.inj h
 exact zsu (zh3 h1.1) (zh3 h1.2)
include hG in
theorem zqj:∃ L:List (Rf D G),L.map Rf.i=f1 P.n D.1 (G + 1)∧L.Nodup∧(∀ x,x∈L)∧L.length≤1000000:=by
 obtain ⟨L,hL⟩:=zrp (f:=Rf.i (D:=D) (G:=G)) _ fun q hq=>z6d hq
 have hn:=zvn P.ge (D:=D.1) (G + 1)
 rw [← hL] at hn
 have hl:=zp9 (p:=P.n) D.1 (G + 1) fun i hi=>zwo (by have:=P.is; omega) (by omega)
 rw [← hL,List.length_map] at hl
 refine ⟨L,hL,?_,fun x=>?_,by omega⟩
 ·unfold List.Nodup at hn ⊢
  rw [List.pairwise_map] at hn
  exact hn.imp fun h e=>h (by rw [e])
 ·have:=z44 x
  rw [← hL] at this
  obtain ⟨y,hy,e⟩:=List.mem_map.1 this
  rw [← z2i e]
  exact hy
/-! Orders. -/
theorem zui (x:Rf D G):(x.a.1.length=1∧rd x.a.1 0=1) ↔ x=zax:=by
 constructor
 ·rintro ⟨h1,h2⟩
  have ha:x.a=1:=zh3 (by
   refine zgy x.a.2 (1:PP P).2 fun i=>?_
   show rd x.a.1 i=rd [1] i
   by_cases hi:i=0
   ·rw [hi,h2]; rfl
   ·rw [vT (by omega),vT (by simp; omega)])
  have hb:x.b=0:=wT.1 (by have:=x.fm.len; rw [ha,zfr] at this; omega)
  exact zsu ha hb
 ·rintro rfl
  exact ⟨rfl,rfl⟩
theorem z0a {x y:Rf D G} (hG:G≤2) (h:x.s=y.s):x=y:=by
 have h1:=Prod.mk.inj h
 have a1:=x.sm
 have a2:=y.sm
 have a3:=x.fm.len
 have a4:=y.fm.len
 exact zsu (zh3 (zxk x.a.2 y.a.2 (by show x.a.len≤_; omega) (by show y.a.len≤_; omega) h1.1)) (zh3 (zxk x.b.2 y.b.2 (by show x.b.len≤_; omega) (by show y.b.len≤_; omega) h1.2))
include hD hG
theorem z2k (x:Rf D G) {k:Nat} (h1:1≤k) (hk:k≤1000000) (h2:(xY hD).pw x k=zax) (h3:∀ j,1≤j→j < k→(xY hD).pw x j ≠ zax) :
  za7 (P.p,D.1) x.i=some (k:Int)∧ze8 P.p (yP D.1) x.s=some (k:Int):=by
 have e1:(xY hD).pw x 1=x:=(xY hD).pw_one x
 have key:∀ j,(xY hD).pw x (j + 1)=rop hD ((xY hD).pw x j) x:=fun _=>rfl
 constructor
 ·obtain ⟨s,g1,g2⟩:=wR (body:=fun s:Int×(List Int×List Int)=>uP (P.p,D.1) x.i s.1 s.2) (fun i (s:List Int×List Int)=>(((i + 1:Nat):Int),s)) (fun _=>(k:Int)) (k - 1)
   (fun i s=>s=((xY hD).pw x (i + 1)).i) (fun i s hi hI=>by
    subst hI
    refine ⟨_,?_,rfl⟩
    have hne:=h3 (i + 1) (by omega) (by omega)
    have hu:decide (((xY hD).pw x (i + 1)).a.1.length=1∧rd ((xY hD).pw x (i + 1)).a.1 0=1)=false:=decide_eq_false fun h=>hne ((zui _).1 h)
    have hc:=(zgi hD hG ((xY hD).pw x (i + 1)) x).1
    simp only [uP,Rf.i,zf3,hu,Option.bind_some] at hc ⊢
    simp only [Bool.not_false,if_true,hc,Option.bind_some]
    rw [zX (by omega) (by omega),key (i + 1)]
    rfl) (fun s hI=>by
    subst hI
    have hu:decide (((xY hD).pw x (k - 1 + 1)).a.1.length=1∧rd ((xY hD).pw x (k - 1 + 1)).a.1 0=1)=true:=decide_eq_true ((zui _).2 (by rw [show k - 1 + 1=k by omega]; exact h2))
    simp only [uP,Rf.i,zf3,hu,Option.bind_some]
    simp only [Bool.not_true,Bool.false_eq_true,if_false]
    rw [show k - 1 + 1=k by omega]) (k - 1) 0 x.i (by omega) (by rw [show 0 + 1=1 from rfl,e1])
  have g1':yK (fun s:Int×(List Int×List Int)=>uP (P.p,D.1) x.i s.1 s.2) (1,x.i)=some (k:Int):=g1
  simp only [za7,g1',Option.bind_some]
 ·have hunit:jL=some (zax (D:=D) (G:=G)).s:=by
   simp only [jL,zof,Option.bind_some,Rf.s,zax]
   rw [← zb4]
   rfl
  obtain ⟨s,g1,g2⟩:=wR (body:=fun s:Int×(V64×V64)=>jG P.p (yP D.1) x.s s.1 s.2) (fun i (s:V64×V64)=>(((i + 1:Nat):Int),s)) (fun _=>(k:Int)) (k - 1)
   (fun i s=>s=((xY hD).pw x (i + 1)).s) (fun i s hi hI=>by
    subst hI
    refine ⟨_,?_,rfl⟩
    have hne:=h3 (i + 1) (by omega) (by omega)
    have hu:decide (((xY hD).pw x (i + 1)).s=(zax (D:=D) (G:=G)).s)=false:=decide_eq_false fun h=>hne (z0a hG h)
    have hc:=(zgi hD hG ((xY hD).pw x (i + 1)) x).2
    simp only [jG,hunit,Option.bind_some,hu,Bool.not_false,if_true,hc]
    rw [zX (by omega) (by omega),key (i + 1)]
    rfl) (fun s hI=>by
    subst hI
    have hu:decide (((xY hD).pw x (k - 1 + 1)).s=(zax (D:=D) (G:=G)).s)=true:=decide_eq_true (by rw [show k - 1 + 1=k by omega,h2])
    simp only [jG,hunit,Option.bind_some,hu,Bool.not_true,Bool.false_eq_true,if_false]
    rw [show k - 1 + 1=k by omega]) (k - 1) 0 x.s (by omega) (by rw [show 0 + 1=1 from rfl,e1])
  have g1':yK (fun s:Int×(V64×V64)=>jG P.p (yP D.1) x.s s.1 s.2) (1,x.s)=some (k:Int):=g1
  simp only [ze8,g1',Option.bind_some]
theorem zt6 (x:Rf D G):∃ k:Nat,1≤k∧k≤1000000∧(xY hD).pw x k=zax∧(∀ j,1≤j→j < k→(xY hD).pw x j ≠ zax)∧(f1 P.n D.1 (G + 1)).length % k=0:=by
 obtain ⟨L,hL,hn,ha,hl⟩:=zqj (D:=D) hG
 obtain ⟨k,h1,h2,h3,h4,h5⟩:=(xY hD).order hn ha x
 refine ⟨k,h1,by omega,h3,h4,?_⟩
 rw [← hL,List.length_map]
 exact h5
end
end Go.Proofs.YtebfhlnfmkhmcaaGreat
