/- A parameter that is a slice of elements without pointers. For every program. -/
import Derived.Test.YtebfhlnfmkhmcaaGreatAbsY
import Derived.Deep.Slices
import Derived.Deep.Frames
import Derived.MapPlaces
import Derived.WideKeyArgs
namespace Go.Abs
open Go.Deep Go.RowKit Go.WideShapes
section
variable {P:Program}
theorem zr7 {w:World} {k off sz:Nat} {α:Type} {e:α→AV} {wf:α→Prop}:∀ (n j:Nat),(∀ i,i < n→∃ a cs,wf a∧cs.length=sz∧(∀ S w,VRel S w (e a) cs)∧∀ q,q < sz→w.cell? ⟨k,off + ((j + i)*sz + q),none⟩=cs[q]?) →
  ∃ (l:List α) (vs:List Value),l.length=n∧(∀ a∈l,wf a)∧(∀ S w j,VAll S w (fun _=>sz) j (l.map e) vs)∧vs.length=n*sz∧∀ q,q < n*sz→w.cell? ⟨k,off + (j*sz + q),none⟩=vs[q]?
 | 0,j,_=>⟨[],[],rfl,by simp,fun _ _ _=>by simp [VAll],by simp,fun q hq=>by omega⟩
 | n + 1,j,h=>by
  obtain ⟨a,cs,h1,h2,h3,h4⟩:=h 0 (by omega)
  obtain ⟨l,vs,g1,g2,g3,g4,g5⟩:=zr7 n (j + 1) fun i hi=>by
   obtain ⟨b,ds,k1,k2,k3,k4⟩:=h (i + 1) (by omega)
   refine ⟨b,ds,k1,k2,k3,fun q hq=>?_⟩
   rw [show j + 1 + i=j + (i + 1) by omega]; exact k4 q hq
  refine ⟨a :: l,cs ++ vs,by simp [g1],fun b hb=>?_,fun S w j'=>?_,by rw [List.length_append,h2,g4,Nat.add_mul]; omega,fun q hq=>?_⟩
  ·rcases List.mem_cons.1 hb with rfl | hb
   ·exact h1
   ·exact g2 b hb
  ·simp only [List.map_cons,VAll]
   exact ⟨cs,vs,rfl,h3 S w,h2,g3 S w (j' + 1)⟩
  ·by_cases hlt:q < sz
   ·rw [List.getElem?_append_left (by omega),← h4 q hlt]; rfl
   ·rw [List.getElem?_append_right (by omega),h2,← g5 (q - sz) (by rw [Nat.add_mul] at hq; omega),Nat.add_mul]
    congr 2; omega
theorem z32 {H:Type} {enc:TypeId×Value→H} {w:World} {base:Nat} {spare:Nat→Bool} {held:Bool} {t el:TypeId} {sz:Nat} {α:Type} {e:α→AV} {wf:α→Prop} {v:Value} {x:DataW H} {ps:List MemPlace}
  (ht:P.underlying t=some (.slice el)) (d:Dec P el e wf sz) (hs:0 < sz) (hsl:∃ a len cap,v=.slice a len cap) (h:DataW.Trod enc P w base spare held t v x ps) :
  ∃ l:List α,(∀ a∈l,wf a)∧l.length≤maxLen∧VRel (fun k=>k < w.heap.size) w (.sl sz false (l.map e)) [v]:=by
 obtain ⟨a,len,cap,rfl⟩:=hsl
 obtain ⟨fuel,hf⟩:=h
 have hcs:(Value.slice a len cap).cells.toList=[.slice a len cap]:=rfl
 rw [hcs] at hf
 rcases open_slice ht hf with ⟨h1,_⟩ | ⟨a',len',cap',m,n,D,Pl,h1,hb,hl,hm,hmm,_,hx⟩
 ·cases h1
  exact ⟨[],by simp,by simp,by simp [VRel]⟩
 ·cases h1
  have hlm:len≤m:=by rw [hmm]; split <;> omega
  rw [d.size] at hx
  by_cases h0:len=0
  ·subst h0
   exact ⟨[],by simp,by simp,by simp [VRel]⟩
  ·have one:∀ i,i < len→∃ b cs,wf b∧cs.length=sz∧(∀ S w,VRel S w (e b) cs)∧∀ q,q < sz→w.cell? (a'.add (i*sz + q))=cs[q]?:=by
    intro i hi
    obtain ⟨cs,k1,k2⟩:=hx i (by omega)
    obtain ⟨g1,_,⟨b,hb1,hb2⟩,_⟩:=d.dec k2
    obtain ⟨_,_,k3⟩:=World.cells?_some k1
    refine ⟨b,cs,hb1,g1,hb2,fun q hq=>?_⟩
    rw [← add_add]; exact k3 q hq
   obtain ⟨k,off,spot⟩:=a'
   have hlt:k < w.heap.size∧spot=none:=by
    obtain ⟨b,cs,_,k2,_,k4⟩:=one 0 (by omega)
    have h5:=k4 0 hs
    rw [show 0*sz + 0=0 by omega,List.getElem?_eq_getElem (by omega)] at h5
    have e0:(⟨k,off,spot⟩:Addr).add 0=⟨k,off,spot⟩:=rfl
    rw [e0] at h5
    refine ⟨lt_of_cell? h5,?_⟩
    unfold World.cell? at h5
    split at h5
    ·cases spot with
     | none=>rfl
     | some _=>simp at h5
    ·cases h5
   obtain ⟨hk,rfl⟩:=hlt
   obtain ⟨l,vs,g1,g2,g3,g4,g5⟩:=zr7 (w:=w) (k:=k) (off:=off) (sz:=sz) (e:=e) (wf:=wf) len 0 fun i hi=>by
    obtain ⟨b,cs,q1,q2,q3,q4⟩:=one i hi
    refine ⟨b,cs,q1,q2,q3,fun q hq=>?_⟩
    have:=q4 q hq
    rw [add_plain] at this
    rw [Nat.zero_add]; exact this
   refine ⟨l,g2,by omega,?_⟩
   simp only [VRel,List.length_map]
   refine ⟨some ⟨k,off,none⟩,cap,by rw [g1],by omega,by simp,.inr ⟨k,off,vs,rfl,hk,g3 _ _ 0,fun q hq=>?_⟩⟩
   have:=g5 q (by omega)
   rwa [Nat.zero_mul,Nat.zero_add] at this
/-- What was read reads so still, when new memory alone is written. -/
theorem zxi {H:Type} {enc:TypeId×Value→H} {W W':World} {base:Nat} {sp:Nat→Bool} {hd:Bool} {t:TypeId} {v:Value} {x:DataW H} {ps:List MemPlace} (h:DataW.Trod enc P W base sp hd t v x ps) (hlt:∀ p∈ps,p.block < W.heap.size) (hg:Grown W W') :
  ∀ p∈ps,W.sameAt W' p:=fun p hp=>hg.1.sameAt (hlt p hp) (fun h=>h) (h.sound p hp)
end
end Go.Abs
