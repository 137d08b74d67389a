/-
  Heavy: are calls more than are gone through? Its contract.
-/
import Derived.Test.YtaalpijohdlabaaRow
namespace Go.Proofs.Ytaalpijohdlabaa
open Go Go.RowKit
def heavyB (ops : List Op) : Bool := ops.any (fun o => decide (100 < o.l.length)) || decide (300 < ops.length)
theorem any_take_succ {ops : List Op} {k : Nat} {o : Op} {p : Op → Bool} (h : ops[k]? = some o) (ht : (ops.take k).any p = false) (ho : p o = false) : (ops.take (k + 1)).any p = false := by
  rw [List.take_add_one, h, List.any_append, ht]; simp [ho]
theorem any_of_at {ops : List Op} {k : Nat} {o : Op} {p : Op → Bool} (h : ops[k]? = some o) (ho : p o = true) : ops.any p = true :=
  List.any_eq_true.2 ⟨o, List.mem_of_getElem? h, ho⟩
theorem heavyB_at {ops : List Op} {k : Nat} {o : Op} (h : ops[k]? = some o) (ho : 100 < o.l.length) : heavyB ops = true := by
  unfold heavyB
  rw [any_of_at (p := fun o => decide (100 < o.l.length)) h (by simpa using ho), Bool.true_or]
theorem heavyB_end {ops : List Op} {k : Nat} (h : (ops.take k).any (fun o => decide (100 < o.l.length)) = false) (hk : ops.length ≤ k) : heavyB ops = decide (300 < ops.length) := by
  unfold heavyB
  rw [List.take_of_length_le hk] at h
  rw [h, Bool.false_or]
theorem heavyB_false {ops : List Op} (h : heavyB ops = false) : ops.length ≤ 300 ∧ ∀ o ∈ ops, o.l.length ≤ 100 := by
  unfold heavyB at h
  rw [Bool.or_eq_false_iff] at h
  refine ⟨by simpa using h.2, fun o ho => ?_⟩
  have := List.any_eq_false.1 h.1 o ho
  simpa using this
set_option maxRecDepth 100000 in
set_option maxHeartbeats 400000 in
theorem heavy_any (v : Value) (ops : List Op) (w : World) (h : OpsAt w v ops) : Calls Try.prog 19 #[v] w (Gives w (.bool (heavyB ops))) := by
  obtain ⟨a, cap, rfl, h1, h2, hok, h3⟩ := h
  unfold maxLen at h2
  have H3 := Lib.hid h3
  clear hok h3
  go_enter Try.func19, Try.ntmps19
  go_wp2
  go_loopw [7] (fun i wr => ∃ k : Nat, k ≤ ops.length ∧ i = .int .i64 k ∧ (ops.take k).any (fun o => decide (100 < o.l.length)) = false ∧ Kept none' w wr) (fun i _ => ops.length - (intOf i).toNat)
  case atStart => exact ⟨0, by omega, rfl, by simp, Kept.refl _ _⟩
  case round =>
    obtain ⟨k, hk, rfl, ht, hkp⟩ := hrel
    have HT := Lib.hid ht
    clear ht
    by_cases hlt : k < ops.length
    · obtain ⟨o, ho⟩ : ∃ o, ops[k]? = some o := ⟨_, List.getElem?_eq_getElem hlt⟩
      obtain ⟨b, off, rfl, hc⟩ := H3.out.resolve_left (fun h => by rw [h] at hlt; simp at hlt)
      obtain ⟨q0, q1, q2, L, q3, hL⟩ := (hc k o ho).pure hkp
      obtain ⟨La, Ln, Lc, rfl, hLn, hLm, hLl, hL2⟩ := hL
      have hLl' : o.l.length = Ln := by simpa using hLl
      have HO := Lib.hid (And.intro ho hLl')
      clear hc ho hLl hL2 hLl' H3
      by_cases hg : 100 < Ln
      · have hgi : (100 : Int) < ((Ln : Nat) : Int) := by omega
        go_wp2_with fail
        go_ret
        exact ⟨ret_bool (heavyB_at HO.out.1 (by rw [HO.out.2]; exact hg)).symm, hkp.alloc _⟩
      · have hgi : ¬ (100 : Int) < ((Ln : Nat) : Int) := by omega
        go_wp2_with fail
        go_roundw
        case rel => exact ⟨k + 1, by omega, by go_num, any_take_succ HO.out.1 HT.out (by simpa using (by rw [HO.out.2]; omega : o.l.length ≤ 100)), hkp.alloc _⟩
        case measure => simp [intOf]; omega
    · go_wp2_with fail
      go_ret
      exact ⟨ret_bool (by rw [heavyB_end HT.out (by omega)]; exact decide_eq_decide.2 (by omega)), hkp⟩
end Go.Proofs.Ytaalpijohdlabaa
