/-
  Keys: all keys, in order.
-/
import Derived.Test.YtcfncbnloaiifaaGreatDoorTab4
namespace Go.Proofs.YtcfncbnloaiifaaGreatDoor
open Go Go.RowKit Go.Shelf
def unitR : Value → Option (DataW Unit × List MemPlace) := fun _ => some (.lit (.bool true), [])
theorem R64.wf {n : Int} (h : R64 n) : (Lit.int .i64 n).wf = true := by
  unfold R64 at h
  exact WalkArith.wf_i64 h
theorem rg_ent {t : T3} (h : R64 t.1) : WideElems.rd Tryz.prog 2 unitR (ent t) = some (.int .i64 t.1, .lit (.bool true)) ∧ WideElems.rg Tryz.prog 2 unitR (ent t) = (.int .i64 t.1, .lit (.bool true)) := by
  have h1 : WideElems.rd Tryz.prog 2 unitR (ent t) = some (.int .i64 t.1, .lit (.bool true)) := by
    unfold WideElems.rd
    rw [show (ent t).key = .int .i64 t.1 from rfl, Maps.keyOf_int_mk Tryz.underlying2 h.wf]
    rfl
  exact ⟨h1, by unfold WideElems.rg; rw [h1]; rfl⟩
theorem MapL.owns {w : World} {m : Nat} {l : List (Int × Value)} (h : MapL w m l) (hk : ∀ p ∈ l, R64 p.1) (hl : l.length ≤ maxLen) :
    ∃ D : DataW Unit, w.ownsMap Tryz.prog 2 unitR m l.length D ∧ (intKeys D).Perm (l.map (·.1)) ∧ Maps.size D = l.length := by
  obtain ⟨L, clock, h, rfl⟩ := h
  have hk' : ∀ t ∈ L, R64 t.1 := fun t ht => hk (kv t) (List.mem_map.2 ⟨t, ht, rfl⟩)
  have hmap : (L.map ent).map (WideElems.rg Tryz.prog 2 unitR) = L.map (fun t => (Lit.int .i64 t.1, DataW.lit (.bool true))) := by
    rw [List.map_map]
    apply List.map_congr_left
    intro t ht
    have := (rg_ent (hk' t ht)).2
    rw [Function.comp_apply, this]
  have hsz : ((L.map ent).toArray).size ≤ maxLen := by rw [List.size_toArray, List.length_map]; rw [List.length_map] at hl; exact hl
  have hsz2 : ((L.map ent).toArray).size ≤ (L.map kv).length := by simp
  refine ⟨.map (List.foldr DataW.insert [] (List.map (WideElems.rg Tryz.prog 2 unitR) (L.map ent).toArray.toList)), ⟨(L.map ent).toArray, clock, h.heap, ⟨hsz, ⟨?_, ?_, ?_⟩, ?_⟩, hsz2, rfl⟩, ?_, ?_⟩
  · intro x hx
    rw [List.toList_toArray] at hx
    obtain ⟨t, ht, rfl⟩ := List.mem_map.1 hx
    exact h.old t ht
  · simpa [ent, Function.comp_def] using h.born
  · have : (L.map ent).toArray.toList.map (·.key) = (L.map (·.1)).map (Value.int .i64) := by simp [ent, Function.comp_def]
    rw [this]
    exact List.Pairwise.map _ (fun a b hab e => hab (by simpa using e)) h.keys
  · intro x hx
    rw [List.toList_toArray] at hx
    obtain ⟨t, ht, rfl⟩ := List.mem_map.1 hx
    exact ⟨_, (rg_ent (hk' t ht)).1⟩
  · show (List.map (fun p => _root_.Go.intOf p.1) (List.foldr DataW.insert [] (((L.map ent).toArray.toList).map (WideElems.rg Tryz.prog 2 unitR)))).Perm _
    rw [List.toList_toArray, hmap]
    refine ((WideShapes.sorted_perm _).map _).trans ?_
    simp [_root_.Go.intOf, kv, Function.comp_def]
  · show (List.foldr DataW.insert [] (((L.map ent).toArray.toList).map (WideElems.rg Tryz.prog 2 unitR))).length = _
    rw [length_sorted]
    simp
end Go.Proofs.YtcfncbnloaiifaaGreatDoor
