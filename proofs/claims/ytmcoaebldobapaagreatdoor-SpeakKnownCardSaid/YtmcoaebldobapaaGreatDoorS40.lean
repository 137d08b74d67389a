/-
  A law without arguments that reads variables: the powers of ten, and the errors of numbers that are none.
-/
import Derived.Test.YtmcoaebldobapaaGreatDoorS32
import Derived.Test.YtmcoaebldobapaaGreatDoorS39
import Derived.Test.YtmcoaebldobapaaGreatDoorS06
import Derived.LaidSub
import Derived.OpenShut
set_option linter.unusedVariables false
set_option linter.unusedSimpArgs false
namespace Go.Proofs.YtmcoaebldobapaaGreatDoor
namespace Eng
open Go Go.RowKit
def pows : List Int := [1, 10, 100, 1000, 10000, 100000, 1000000, 10000000, 100000000, 1000000000, 10000000000, 100000000000, 1000000000000, 10000000000000, 100000000000000, 1000000000000000, 10000000000000000, 100000000000000000, 1000000000000000000, 10000000000000000000]
/-- What is known of the variables: 1 and 2 hold an error each, 5 the powers of ten. -/
structure VarsAt (w : World) (t1 : TypeId) (v1 : Value) (t2 : TypeId) (v2 : Value) : Prop where
  size : 8 ≤ w.heap.size
  e1 : ∃ (cs : Array Value) (e : TypeId) (fr : Nat × Nat), w.heap[1]? = some (.cells cs e fr) ∧ cs[0]? = some (.iface t1 v1)
  e2 : ∃ (cs : Array Value) (e : TypeId) (fr : Nat × Nat), w.heap[2]? = some (.cells cs e fr) ∧ cs[0]? = some (.iface t2 v2)
  p10 : ∃ (cs : Array Value) (e : TypeId) (fr : Nat × Nat), w.heap[5]? = some (.cells cs e fr) ∧ ∀ (j : Nat) (z : Int), pows[j]? = some z → cs[j]? = some (Value.int .u64 z)
noncomputable def powC : List CV := pows.map fun z => CV.int .u64 z
noncomputable def varH : Hp := .node none (.node (some (.ro [.ifc 8])) .leaf (.node (some (.ro powC)) .leaf .leaf)) (.node (some (.ro [.ifc 9])) .leaf .leaf)
theorem varH_get (i : Nat) (o : AO) (h : varH.get i = some o) : (i = 1 ∧ o = .ro [.ifc 8]) ∨ (i = 2 ∧ o = .ro [.ifc 9]) ∨ (i = 5 ∧ o = .ro powC) := by
  unfold varH at h
  cases i with
  | zero => cases h
  | succ m =>
    rw [Tr.get_node] at h
    split at h
    · rename_i hm
      generalize hk : m / 2 = k at h
      cases k with
      | zero => left; exact ⟨by omega, by cases h; rfl⟩
      | succ k =>
        rw [Tr.get_node] at h
        split at h
        · cases h
        · rename_i hk2
          generalize hk3 : k / 2 = q at h
          cases q with
          | zero => right; right; exact ⟨by omega, by cases h; rfl⟩
          | succ q => rw [Tr.get_node] at h; split at h <;> cases h
    · rename_i hm
      generalize hk : m / 2 = k at h
      cases k with
      | zero => right; left; exact ⟨by omega, by cases h; rfl⟩
      | succ k => rw [Tr.get_node] at h; split at h <;> cases h
theorem mixedV : Tryz.prog.follows .mixedOrders = true := by kernel_rfl
/-- A law without arguments that is reckoned true. -/
theorem knownV {f : FuncId} (hk : callB Tryz.prog (exec Tryz.prog 8 orcS 1000000) f [] varH 10 (fun r _ _ => isTrue r) = true) {w : World} {t1 t2 : TypeId} {v1 v2 : Value} (hv : VarsAt w t1 v1 t2 v2) : Calls Tryz.prog f #[] w (Gives w (.bool true)) := by
  refine Calls.mono (closedI (g := 8) mixedV (orcS_ok w) hv.size [(t1, v1), (t2, v2)] (h0 := varH) (fun i o ho => ?_) (args := []) (xs := []) (fun _ => .nil) hk) fun e w' ⟨r, x, ρ, h, nx, he, hr, H, hx⟩ => ?_
  · rcases varH_get i o ho with ⟨rfl, rfl⟩ | ⟨rfl, rfl⟩ | ⟨rfl, rfl⟩
    · obtain ⟨cs, e, fr, hh, hc⟩ := hv.e1
      exact ⟨by decide, .ro (base := 0) (cap := 0) rfl hh fun j v hj => by
        cases j with
        | zero => cases hj; exact ⟨_, .ifc rfl, by simpa using hc⟩
        | succ j => cases hj⟩
    · obtain ⟨cs, e, fr, hh, hc⟩ := hv.e2
      exact ⟨by decide, .ro (base := 0) (cap := 0) rfl hh fun j v hj => by
        cases j with
        | zero => cases hj; exact ⟨_, .ifc rfl, by simpa using hc⟩
        | succ j => cases hj⟩
    · obtain ⟨cs, e, fr, hh, hc⟩ := hv.p10
      exact ⟨by decide, .ro (base := 0) (cap := 0) rfl hh fun j v hj => by
        unfold powC at hj
        rw [List.getElem?_map] at hj
        obtain ⟨z, hz, rfl⟩ := Option.map_eq_some_iff.1 hj
        exact ⟨_, .int _ _, by simpa using hc j z hz⟩⟩
  · unfold isTrue at hr
    split at hr
    · cases hx with
      | c hx =>
        cases hx
        exact ⟨he, H.kept.os, H.kept.tape, H.kept.output, H.kept.size, fun k hk _ => H.kept.block k hk⟩
    · cases hr
end Eng
end Go.Proofs.YtmcoaebldobapaaGreatDoor
/-
  What the listed variables hold.
-/
namespace Go.Proofs.YtmcoaebldobapaaGreatDoor
open Go Go.RowKit
set_option maxRecDepth 100000
theorem laid_one {w : World} (h : laidMetH Tryz.prog laidV w) (n : String) (d : DataW Unit) (hl : ((laidV.filter fun x => x.1 == n).filter fun x => x.2.handleName?.isNone) = [(n, d)]) :
    ∃ g t cs fuel p, Tryz.prog.globalNamed n = some g ∧ (Tryz.prog.globals[g]?).map (·.type) = some t ∧ (∃ e fr, w.heap[g]? = some (.cells cs e fr)) ∧ DataW.trod (fun _ => ()) Tryz.prog w 0 (fun _ => true) false fuel t cs.toList = some (d, p) := by
  have h1 := (laidMetH_iff.1 (h.filter fun x => x.1 == n)).1
  rw [hl] at h1
  obtain ⟨ps, ⟨g, t, cs, fuel, p, q, hg, ht, hc, htr, _⟩, _⟩ := h1
  refine ⟨g, t, cs, fuel, p, hg, ht, ?_, htr⟩
  unfold World.var? at hc
  rw [hg] at hc
  simp only [Option.bind_some] at hc
  split at hc
  · rename_i c e fr hh
    cases hc
    exact ⟨e, fr, hh⟩
  · cases hc
theorem err_at {w : World} (h : laidMetH Tryz.prog laidV w) (n : String) (g : Nat) (s : String) (x : DataW Unit) (hl : ((laidV.filter fun x => x.1 == n).filter fun x => x.2.handleName?.isNone) = [(n, .iface s x)]) (hg : Tryz.prog.globalNamed n = some g) (ht : (Tryz.prog.globals[g]?).map (·.type) = some 132) :
    ∃ (t : TypeId) (v : Value) (cs : Array Value) (e : TypeId) (fr : Nat × Nat), w.heap[g]? = some (.cells cs e fr) ∧ cs[0]? = some (.iface t v) := by
  obtain ⟨g', t, cs, fuel, p, hg', ht', ⟨e, fr, hh⟩, htr⟩ := laid_one h n _ hl
  rw [hg] at hg'; cases hg'
  rw [ht] at ht'; cases ht'
  cases fuel with
  | zero => simp [DataW.trod] at htr
  | succ m =>
    unfold DataW.trod at htr
    rw [Tryz.underlying132] at htr
    match hcs : cs.toList with
    | [] => rw [hcs] at htr; simp at htr
    | .iface t v :: r => exact ⟨t, v, cs, e, fr, hh, by rw [← Array.getElem?_toList, hcs]; rfl⟩
    | a :: r =>
      rw [hcs] at htr
      cases a <;> first | exact ⟨_, _, cs, e, fr, hh, by rw [← Array.getElem?_toList, hcs]; rfl⟩ | (cases r <;> simp at htr)
theorem pow_at {w : World} (h : laidMetH Tryz.prog laidV w) : ∃ (cs : Array Value) (e : TypeId) (fr : Nat × Nat), w.heap[5]? = some (.cells cs e fr) ∧ ∀ (j : Nat) (z : Int), Eng.pows[j]? = some z → cs[j]? = some (Value.int .u64 z) := by
  obtain ⟨g, t, cs, fuel, p, hg, ht, ⟨e, fr, hh⟩, htr⟩ := laid_one h "internal/strconv.uint64pow10" (.agg (Eng.pows.map fun z => .lit (.int .u64 z))) (by kernel_rfl)
  obtain rfl : g = 5 := Option.some.inj (hg.symm.trans (by kernel_rfl))
  obtain rfl : t = 538 := Option.some.inj (ht.symm.trans (by kernel_rfl))
  obtain ⟨xs, m, _, hx, hl, hxl, hel⟩ := DataW.trod_array Tryz.underlying538 htr
  refine ⟨cs, e, fr, hh, fun j z hj => ?_⟩
  have hj20 : j < 20 := by have := (List.getElem?_eq_some_iff.1 hj).1; simpa [Eng.pows] using this
  have h1 := hel j hj20
  injection hx with hx _
  injection hx with hx
  have hxj : (xs.map (·.1))[j]? = some (.lit (.int .u64 z)) := by rw [← hx, List.getElem?_map, hj]; rfl
  rw [List.getElem?_map] at hxj
  obtain ⟨y, hy, hyz⟩ := Option.map_eq_some_iff.1 hxj
  rw [hy] at h1
  obtain ⟨z', hz, hz2, _⟩ := DataW.trod_int Tryz.underlying201 h1
  rw [show Tryz.prog.cellsOf 201 = 1 by kernel_rfl, Nat.mul_one] at hz
  have hz3 : z' = z := by
    rw [hz2] at hyz
    injection hyz with hyz
    injection hyz
  subst hz3
  have h3 : ((cs.toList.drop j).take 1)[0]? = some (.int .u64 z') := by rw [hz]; rfl
  rw [List.getElem?_take, if_pos (by omega), List.getElem?_drop] at h3
  rw [← Array.getElem?_toList]; simpa using h3
theorem vars_known {w : World} (hs : 8 ≤ w.heap.size) (h : laidMetH Tryz.prog laidV w) : ∃ t1 v1 t2 v2, Eng.VarsAt w t1 v1 t2 v2 := by
  obtain ⟨t1, v1, h1⟩ := err_at h "strconv.ErrSyntax" 1 "*errors.errorString" (.ptr (.agg [.lit (.string [105, 110, 118, 97, 108, 105, 100, 32, 115, 121, 110, 116, 97, 120])])) (by kernel_rfl) (by kernel_rfl) (by kernel_rfl)
  obtain ⟨t2, v2, h2⟩ := err_at h "strconv.ErrRange" 2 "*errors.errorString" (.ptr (.agg [.lit (.string [118, 97, 108, 117, 101, 32, 111, 117, 116, 32, 111, 102, 32, 114, 97, 110, 103, 101])])) (by kernel_rfl) (by kernel_rfl) (by kernel_rfl)
  exact ⟨t1, v1, t2, v2, hs, h1, h2, pow_at h⟩
end Go.Proofs.YtmcoaebldobapaaGreatDoor
