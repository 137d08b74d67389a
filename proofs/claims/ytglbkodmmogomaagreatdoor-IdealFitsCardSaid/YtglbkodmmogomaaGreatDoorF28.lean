/-
  The document's tables: Put.
-/
import Derived.Test.YtglbkodmmogomaaGreatDoorF24
import Derived.Test.YtglbkodmmogomaaGreatDoorF16
set_option linter.unusedVariables false
set_option linter.unusedSimpArgs false
namespace Go.Proofs.YtglbkodmmogomaaGreatDoor
open Go Go.RowKit
attribute [local irreducible] wpL
section
variable {P : Program}
/-- append at a place of its own, its run known. -/
theorem wp_append_run {w w' : World} {o : Oper} {a : Act} {K : Act → World → Prop} {Q : Exit → Act → World → Prop} (s x : Operand) (t : TypeId)
    (ho : o.op = .call { callee := .builtin .append, args := #[s, x], argTypes := #[t, t] }) (v u v' : Value) (hs : a.eval s = v) (hx : a.eval x = u) (hr : (Builtin.append_ #[t, t] o.type #[v, u]).run P w = .ok v' w')
    (h : K (a.put o.dst v') w') : o.wp P a w K Q := by
  unfold Oper.wp execOp
  simp only [ho, resolve, invoke, builtin, Sem.run_bind, Sem.run_pure, Result.andThen_ok, List.map_toArray, List.map_cons, List.map_nil, hs, hx, hr]
  exact h
end
theorem RRows.nil (w : World) : RRows w [] [] := ⟨rfl, fun i p h => by cases h⟩
theorem RRows.append {w : World} {cs ds : List Value} {T U : Tab} (h : RRows w cs T) (k : RRows w ds U) : RRows w (cs ++ ds) (T ++ U) := by
  refine ⟨by rw [List.length_append, List.length_append, h.1, k.1, Nat.add_mul], fun i p hp => ?_⟩
  rw [List.getElem?_append] at hp
  split at hp
  · rename_i hlt
    obtain ⟨a, b, lv, c, d⟩ := h.2 i p hp
    have hl := h.1
    exact ⟨by rw [List.getElem?_append_left (by omega)]; exact a, by rw [List.getElem?_append_left (by omega)]; exact b, lv, by rw [List.getElem?_append_left (by omega)]; exact c, d⟩
  · rename_i hge
    obtain ⟨a, b, lv, c, d⟩ := k.2 (i - T.length) p hp
    have hl := h.1
    have e0 : i * 3 - cs.length = (i - T.length) * 3 := by omega
    have e1 : i * 3 + 1 - cs.length = (i - T.length) * 3 + 1 := by omega
    have e2 : i * 3 + 2 - cs.length = (i - T.length) * 3 + 2 := by omega
    exact ⟨by rw [List.getElem?_append_right (by omega), e0]; exact a, by rw [List.getElem?_append_right (by omega), e1]; exact b, lv, by rw [List.getElem?_append_right (by omega), e2]; exact c, d⟩
theorem RRows.take {w : World} {cs : List Value} {T : Tab} (h : RRows w cs T) (k : Nat) : RRows w (cs.take (k * 3)) (T.take k) := by
  refine ⟨by rw [List.length_take, List.length_take, h.1]; omega, fun i p hp => ?_⟩
  rw [List.getElem?_take] at hp
  split at hp
  · obtain ⟨a, b, lv, c, d⟩ := h.2 i p hp
    exact ⟨by rw [List.getElem?_take, if_pos (by omega)]; exact a, by rw [List.getElem?_take, if_pos (by omega)]; exact b, lv, by rw [List.getElem?_take, if_pos (by omega)]; exact c, d⟩
  · cases hp
theorem RRows.drop {w : World} {cs : List Value} {T : Tab} (h : RRows w cs T) (k : Nat) : RRows w (cs.drop (k * 3)) (T.drop k) := by
  refine ⟨by rw [List.length_drop, List.length_drop, h.1, Nat.sub_mul], fun i p hp => ?_⟩
  rw [List.getElem?_drop] at hp
  obtain ⟨a, b, lv, c, d⟩ := h.2 (k + i) p hp
  refine ⟨?_, ?_, lv, ?_, d⟩
  · rw [List.getElem?_drop, ← a]; congr 1; omega
  · rw [List.getElem?_drop, ← b]; congr 1; omega
  · rw [List.getElem?_drop, ← c]; congr 1; omega
theorem RRows.one {w : World} {k acc : Int} {lv : Value} {l : List Int} (h : Reads w 1 lv (ints l)) : RRows w [.int .i64 k, .int .i64 acc, lv] [(k, (acc, l))] := by
  refine ⟨rfl, fun i p hp => ?_⟩
  match i, hp with
  | 0, hp => cases hp; exact ⟨rfl, rfl, lv, rfl, h⟩
theorem RRows.cells {w : World} {cs : List Value} {T : Tab} (h : RRows w cs T) : ∀ x ∈ cs, x.oneCell' = true := by
  intro x hx
  obtain ⟨j, hj, rfl⟩ := List.mem_iff_getElem.1 hx
  have hl := h.1
  obtain ⟨p, hp⟩ : ∃ p, T[j / 3]? = some p := ⟨_, List.getElem?_eq_getElem (by omega)⟩
  obtain ⟨a, b, lv, c, d⟩ := h.2 (j / 3) p hp
  have hm : j % 3 = 0 ∨ j % 3 = 1 ∨ j % 3 = 2 := by omega
  have e : cs[j]? = some cs[j] := List.getElem?_eq_getElem hj
  rcases hm with hm | hm | hm
  · rw [show j / 3 * 3 = j by omega, e] at a; injection a with a; rw [a]; rfl
  · rw [show j / 3 * 3 + 1 = j by omega, e] at b; injection b with b; rw [b]; rfl
  · rw [show j / 3 * 3 + 2 = j by omega, e] at c; injection c with c; rw [c]
    obtain ⟨q, m, cap, rfl, _⟩ := d
    rfl
theorem Tryz.info122 : ∃ i z, Tryz.prog.info? 122 = some i ∧ i.zero = some z ∧ i.size = 3 ∧ i.bytes = 40 ∧ z.cells.size = 3 := by
  have h : (Tryz.prog.info? 122).map (fun i => (i.zero, i.size, i.bytes)) = some (some (.agg #[.int .i64 0, .int .i64 0, .slice none 0 0]), 3, 40) := by kernel_rfl
  obtain ⟨i, h1, h2, h3, h4⟩ := info_parts h
  exact ⟨i, _, h1, h2, h3, h4, rfl⟩
end Go.Proofs.YtglbkodmmogomaaGreatDoor
/-
  The document's tables: Put, its walk.
-/
namespace Go.Proofs.YtglbkodmmogomaaGreatDoor
open Go Go.RowKit
attribute [local irreducible] wpL
theorem RRows.first {w : World} {cs : List Value} {T : Tab} (h : RRows w cs T) : ∀ y, cs[0]? = some y → ∃ q m, y = .int q m := by
  intro y hy
  cases T with
  | nil =>
    have h1 := h.1
    simp at h1
    subst h1
    cases hy
  | cons p r =>
    have h1 := (h.2 0 p rfl).1
    rw [Nat.zero_mul, hy] at h1
    cases h1
    exact ⟨_, _, rfl⟩
end Go.Proofs.YtglbkodmmogomaaGreatDoor
