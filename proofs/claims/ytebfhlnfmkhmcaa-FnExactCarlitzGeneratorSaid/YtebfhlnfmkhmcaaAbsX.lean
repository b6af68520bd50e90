/- From a contract to the form that a row asks. For every program. -/
import Derived.Test.YtebfhlnfmkhmcaaAbs2
import Derived.ProofKit
namespace Go.Abs
open Go.RowKit
section
variable {P : Program}

theorem grown_of_only {K : Nat → Prop} {w w' : World} (h : Only K w w') (hK : ∀ k, k < w.heap.size → ¬ K k) : Grown w w' :=
  ⟨⟨h.os, h.output, fun i hi => by rw [h.block i hi (hK i hi)]; exact (World.keptBut_refl w (fun _ => False)).2.2 i hi⟩, h.froz, h.size⟩

/-- A call, none of whose arguments is written. -/
theorem den_grown {f : FuncId} {args : List AV} {r : RV} {B0 : Nat → Prop} {w : World} {cargs : List Value} (h : Den P f args r) (hm : mutIx 0 args = []) (hb : ∀ k, B0 k → ∃ (arr : Array Value) (T : TypeId), w.heap[k]? = some (.cells arr T (0, 0))) (hs : SlotsRel (fun _ => none) (fun _ => none) B0 w args cargs) :
    Calls P f cargs.toArray w fun e w' => (∃ v, e = .returned v ∧ ∃ S ρ H, SlotRel ρ H S w' r.r v) ∧ Grown w w' := by
  have hnoB := mutIx_nil 0 _ hm
  have hH0 : (entry args).h = fun _ => none := by
    funext id
    show (look (entryH 0 args) id).getD none = none
    rw [entryH_nil 0 _ hnoB]; rfl
  refine (h.2 (fun _ => none) B0 w cargs ⟨?_, ?_⟩).mono ?_
  · rw [hH0]
    exact ⟨fun _ _ h => (nomatch h), fun _ _ _ _ _ h => (nomatch h), hb⟩
  · rw [entryEnv_map 0 _ hnoB, hH0]
    have : Sof (fun _ => none) (fun _ => none) B0 = B0 := by
      funext k; exact propext ⟨fun h => h.1, fun h => ⟨h, fun _ _ h => (nomatch h)⟩⟩
    rw [this]; exact hs
  · rintro e w' ⟨v, ρ', rfl, o1, o2, o3, _⟩
    refine ⟨⟨v, rfl, _, _, _, o2⟩, grown_of_only o3 fun k hk hh => ?_⟩
    rcases hh with ⟨_, _, h, _⟩ | h
    · rw [hH0] at h; cases h
    · omega
end
end Go.Abs
