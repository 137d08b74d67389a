/-
  The law MoveKnown: reckoned.
-/
import Derived.Test.YtcfncbnloaiifaaGreatDoorEng18j
namespace Go.Proofs.YtcfncbnloaiifaaGreatDoor
namespace Eng
open Go Go.RowKit
theorem mixed : Tryz.prog.follows .mixedOrders = true := by kernel_rfl
/-- A law without arguments that is reckoned true. -/
theorem known {f : FuncId} (hf : orcS f = none) (hk : runS f [] (fun r _ _ => isTrue r) = true) (w : World) (hg : 8 ≤ w.heap.size) : Calls Tryz.prog f #[] w (Gives w (.bool true)) := by
  refine Calls.mono (closed (g := 8) mixed (orcS_ok w) hg (args := []) (xs := []) (fun _ => .nil) hk hf) fun e w' ⟨r, x, ρ, h, nx, he, hr, H, hx⟩ => ?_
  unfold isTrue at hr
  split at hr
  · cases hx with
    | c hx =>
      cases hx
      exact ⟨he, H.kept.os, H.kept.tape, H.kept.output, H.kept.size, fun k hk _ => H.kept.block k hk⟩
  · cases hr
end Eng
end Go.Proofs.YtcfncbnloaiifaaGreatDoor
