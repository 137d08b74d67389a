/-
  append to a slice of the call's own, whatever slice is appended.
-/
import Derived.Test.YtmcoaebldobapaaGreatDoorD01
set_option linter.unusedVariables false
set_option linter.unusedSimpArgs false
namespace Go.Proofs.YtmcoaebldobapaaGreatDoor
open Go Go.RowKit
section
variable {P : Program} {w : World}
theorem run_append_reads (base : Nat) (t ty e : TypeId) (i : TypeInfo) (z : Value) (size bytes : Nat) (ht : P.underlying t = some (.slice e)) (hi : P.info? e = some i) (hz : i.zero = some z)
    (hsize : i.size = size) (hby : i.bytes = bytes) (hzs : z.cells.size = size) (hsz : 0 < size)
    {v : Value} {n : Nat} {xs : List Value} (hown : w.ownsRow base e size v n xs) {u : Value} {cs : List Value} (hr : Reads w size u cs) (h1 : ∀ x ∈ cs, x.oneCell' = true)
    (hmax : (n * size + cs.length) * bytes ≤ 140737488355328) (hbig : n * size + cs.length ≤ maxLen) (hbase : base ≤ w.heap.size) :
    ∃ v' n' w', (Builtin.append_ #[t, t] ty #[v, u]).run P w = .ok v' w' ∧ w'.ownsRow base e size v' n' (xs ++ cs) ∧ n' * size = n * size + cs.length ∧ w.grownBy w' v.ownBlock ∧
      (v' = .slice none 0 0 ↔ v = .slice none 0 0 ∧ cs = []) := by
  obtain ⟨a, m, cap, rfl, hm1, hm2, hlen, hcells⟩ := hr
  have hnm : n + m ≤ n * size + cs.length := by
    rw [hlen, ← Nat.add_mul]; exact Nat.le_mul_of_pos_right _ hsz
  by_cases hc : cs = []
  · subst hc
    have hm : m = 0 := by
      rcases Nat.eq_zero_or_pos m with h | h
      · exact h
      · have := Nat.mul_pos h hsz; simp at hlen; omega
    subst hm
    have hf : ∀ W, (Builtin.firstCells size 0 (.slice a 0 cap)).run P W = .ok #[] W := fun W => by
      cases a <;> simp [Builtin.firstCells, loadCells, loadCellsFrom]
    refine ⟨v, n, w, ?_, by simpa using hown, by simp, ⟨rfl, rfl, rfl, Nat.le_refl _, fun _ _ _ => rfl⟩, by simp⟩
    rcases hown.2 with ⟨rfl, rfl⟩ | ⟨g, vcap, cur, rfl, hbg, hg, hnc, hcm, hcs, htake⟩
    · subst hsize
      simp [Builtin.append_, run_underlying ht, sizeOf, typeInfo, hi, Builtin.lenOf, hf]
    · subst hsize
      simp [Builtin.append_, run_underlying ht, sizeOf, typeInfo, hi, Builtin.lenOf, hf, hnc, storeCells]
  · obtain ⟨b, off, rfl, hcl⟩ := hcells.resolve_left hc
    have hadd : ∀ j, (⟨b, off, none⟩ : Addr).add j = ⟨b, off + j, none⟩ := fun j => Addr.add_lit b off j
    obtain ⟨v', w', g1, g2, g3, g4⟩ := run_append_own (P := P) w base t ty e i z size bytes ht hi hz hsize hby hzs hsz v n xs hown ⟨b, off, none⟩ m cap cs hlen
      (fun j x hx => by rw [hadd]; exact hcl j x hx) h1 (Nat.le_trans hnm hbig) (Nat.le_trans (Nat.mul_le_mul_right _ hnm) hmax) hbase
    refine ⟨v', n + m, w', g1, g2, by rw [Nat.add_mul, hlen], g3, ?_⟩
    rw [g4]
    constructor
    · rintro ⟨h, rfl⟩; exact ⟨h, absurd (List.eq_nil_of_length_eq_zero (by simpa using hlen)) hc⟩
    · rintro ⟨h, h'⟩; exact absurd h' hc
theorem wp_append_reads {o : Oper} {a : Act} {K : Act → World → Prop} {Q : Exit → Act → World → Prop} (s x : Operand) (t : TypeId)
    (ho : o.op = .call { callee := .builtin .append, args := #[s, x], argTypes := #[t, t] })
    (base e : Nat) (i : TypeInfo) (z : Value) (size bytes : Nat) (ht : P.underlying t = some (.slice e)) (hi : P.info? e = some i) (hz : i.zero = some z)
    (hsize : i.size = size) (hby : i.bytes = bytes) (hzs : z.cells.size = size) (hsz : 0 < size)
    (v : Value) (n : Nat) (xs : List Value) (hs : a.eval s = v) (hown : w.ownsRow base e size v n xs) (u : Value) (cs : List Value) (hx : a.eval x = u) (hr : Reads w size u cs) (h1 : ∀ x ∈ cs, x.oneCell' = true)
    (hmax : (n * size + cs.length) * bytes ≤ 140737488355328) (hbig : n * size + cs.length ≤ maxLen) (hbase : base ≤ w.heap.size)
    (h : ∀ v' n' w', w'.ownsRow base e size v' n' (xs ++ cs) → n' * size = n * size + cs.length → w.grownBy w' v.ownBlock → (v' = .slice none 0 0 ↔ v = .slice none 0 0 ∧ cs = []) → K (a.put o.dst v') w') : o.wp P a w K Q := by
  obtain ⟨v', n', w', g1, g2, g3, g4, g5⟩ := run_append_reads (P := P) base t o.type e i z size bytes ht hi hz hsize hby hzs hsz hown hr h1 hmax hbig hbase
  unfold Oper.wp execOp
  simp only [ho, resolve, invoke, builtin, Sem.run_bind, Sem.run_pure, Result.andThen_ok, List.map_toArray, List.map_cons, List.map_nil, hs, hx, g1]
  exact h v' n' w' g2 g3 g4 g5
theorem wpList_append_reads {ops : Array Oper} {rest : List Oper} {o : Oper} {a : Act} {Q : Exit → Act → World → Prop} (hgd : o.guard = none) (s x : Operand) (t : TypeId)
    (ho : o.op = .call { callee := .builtin .append, args := #[s, x], argTypes := #[t, t] })
    (base e : Nat) (i : TypeInfo) (z : Value) (size bytes : Nat) (ht : P.underlying t = some (.slice e)) (hi : P.info? e = some i) (hz : i.zero = some z)
    (hsize : i.size = size) (hby : i.bytes = bytes) (hzs : z.cells.size = size) (hsz : 0 < size)
    (v : Value) (n : Nat) (xs : List Value) (hs : a.eval s = v) (hown : w.ownsRow base e size v n xs) (u : Value) (cs : List Value) (hx : a.eval x = u) (hr : Reads w size u cs) (h1 : ∀ x ∈ cs, x.oneCell' = true)
    (hmax : (n * size + cs.length) * bytes ≤ 140737488355328) (hbig : n * size + cs.length ≤ maxLen) (hbase : base ≤ w.heap.size)
    (h : ∀ v' n' w', w'.ownsRow base e size v' n' (xs ++ cs) → n' * size = n * size + cs.length → w.grownBy w' v.ownBlock → (v' = .slice none 0 0 ↔ v = .slice none 0 0 ∧ cs = []) → wpList P ops Q rest (a.put o.dst v') w') :
    wpList P ops Q (o :: rest) a w :=
  wpList_plain hgd fun _ hK => wp_append_reads s x t ho base e i z size bytes ht hi hz hsize hby hzs hsz v n xs hs hown u cs hx hr h1 hmax hbig hbase (fun v' n' w' g1 g2 g3 g4 => hK _ _ (h v' n' w' g1 g2 g3 g4))
/-- What a slice has, known by its parts. -/
theorem Reads.slice {k : Nat} {v : Value} {cs : List Value} (h : Reads w k v cs) : ∃ a n cap, v = .slice a n cap ∧ n ≤ cap ∧ cap ≤ maxLen ∧ cs.length = n * k ∧ (n = 0 ∨ k = 0 ∨ ∃ b off, a = some ⟨b, off, none⟩) ∧
    (∀ b off, a = some ⟨b, off, none⟩ → ∀ i x, cs[i]? = some x → w.cell? ⟨b, off + i, none⟩ = some x) := by
  obtain ⟨a, n, cap, rfl, h1, h2, h3, h4⟩ := h
  refine ⟨a, n, cap, rfl, h1, h2, h3, ?_, ?_⟩
  · rcases h4 with rfl | ⟨b, off, rfl, h4⟩
    · have h3' : n * k = 0 := by rw [← h3]; rfl
      rcases Nat.mul_eq_zero.1 h3' with h5 | h5
      · exact .inl h5
      · exact .inr (.inl h5)
    · exact .inr (.inr ⟨b, off, rfl⟩)
  · rcases h4 with rfl | ⟨b, off, rfl, h4⟩
    · intro b off _ i x hx; simp at hx
    · rintro b' off' e i x hx
      cases e
      exact h4 i x hx
end
end Go.Proofs.YtmcoaebldobapaaGreatDoor
