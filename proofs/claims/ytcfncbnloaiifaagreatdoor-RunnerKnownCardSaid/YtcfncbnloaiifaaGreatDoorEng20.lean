/-
  The machine, where a law's own 'works' is answered by a run of its own.
-/
import Derived.Test.YtcfncbnloaiifaaGreatDoorEng19
namespace Go.Proofs.YtcfncbnloaiifaaGreatDoor
namespace Eng
open Go Go.RowKit
noncomputable def trueA (args : List AV) (h : Hp) (nx : Nat) (k : KV) : Bool := match args with
  | [] => k (.c (.bool true)) h nx
  | _ => false
/-- The answers, and one more: function fw answers true and leaves what was there. -/
noncomputable def orcW (fw : FuncId) : Orc := fun f => Bool.casesOn (Nat.beq f fw) (orcS f) (some (.call trueA))
noncomputable def runW (fw : FuncId) (f : Nat) (args : List AV) (k : RV → Hp → Nat → Bool) : Bool := callK Tryz.prog 8 (orcW fw) (exec Tryz.prog 8 (orcW fw) 1000000) f args .leaf 8 k
theorem orcW_ok {fw : FuncId} (hw : ∀ w : World, 8 ≤ w.heap.size → Calls Tryz.prog fw #[] w (Gives w (.bool true))) (hf : ∃ fn, Tryz.prog.funcs[fw]? = some fn ∧ (fn.name == "runtime.NumGoroutine") = false ∧ fn.body.isSome = true) (w0 : World) : OSnd Tryz.prog 8 w0 (orcW fw) := by
  intro f ans ha
  unfold orcW at ha
  cases hb : Nat.beq f fw with
  | false => rw [hb] at ha; exact orcS_ok w0 f ans ha
  | true =>
    rw [hb] at ha
    have e : f = fw := nateq hb
    subst e
    cases ha
    refine ⟨hf, fun args h nx k hk ρ w xs H hx => ?_⟩
    unfold trueA at hk
    split at hk
    · cases hx
      obtain ⟨cap, h7⟩ := H.glob 7 (by decide)
      refine Calls.mono (hw w (H.lt 7 7 ⟨_, _, h7⟩)) fun e w' he => ?_
      exact ⟨_, _, ρ, h, nx, he.1, hk, Ext.refl _ _, H.grown he.2, .c (.bool true)⟩
    · cases hk
/-- A law without arguments that is reckoned true, its 'works' known. -/
theorem knownW {fw f : FuncId} (hw : ∀ w : World, 8 ≤ w.heap.size → Calls Tryz.prog fw #[] w (Gives w (.bool true))) (hn : ∃ fn, Tryz.prog.funcs[fw]? = some fn ∧ (fn.name == "runtime.NumGoroutine") = false ∧ fn.body.isSome = true) (hf : orcW fw f = none)
    (hk : runW fw f [] (fun r _ _ => isTrue r) = true) (w : World) (hg : 8 ≤ w.heap.size) : Calls Tryz.prog f #[] w (Gives w (.bool true)) := by
  refine Calls.mono (closed (g := 8) mixed (orcW_ok hw hn w) hg (args := []) (xs := []) (fun _ => .nil) hk hf) fun e w' ⟨r, x, ρ, h, nx, he, hr, H, hx⟩ => ?_
  unfold isTrue at hr
  split at hr
  · cases hx with
    | c hx =>
      cases hx
      exact ⟨he, H.kept.os, H.kept.tape, H.kept.output, H.kept.size, fun k hk _ => H.kept.block k hk⟩
  · cases hr
end Eng
end Go.Proofs.YtcfncbnloaiifaaGreatDoor
