/-
  The rules of the types, in memory: rules.
-/
import Derived.Test.YtaalpijohdlabaaExp3
namespace Go.Proofs.Ytaalpijohdlabaa
open Go Go.RowKit
def keyV (k : Int × Int × Int × Int) : Value := .agg #[.int .u8 k.1, .int .u8 k.2.1, .int .u8 k.2.2.1, .int .u8 k.2.2.2]
def rents : List Rul → Nat → List MapEntry
  | [], _ => []
  | r :: l, i => { key := keyV r.1, val := .int .u8 r.2, born := i } :: rents l (i + 1)
/-- Block m is a map that holds rules. -/
def RulAt (w : World) (m : Nat) (E : List Rul) : Prop := w.heap[m]? = some (.map (rents E 0).toArray E.length)
theorem rents_snoc (r : Rul) : ∀ (E : List Rul) (i : Nat), rents (E ++ [r]) i = rents E i ++ [{ key := keyV r.1, val := .int .u8 r.2, born := i + E.length }]
  | [], i => rfl
  | x :: E, i => by
    simp only [List.cons_append, rents, rents_snoc r E (i + 1), List.length_cons]
    congr 3
    simp; omega
theorem rul_check (k : Int × Int × Int × Int) (b : Bool) (w : World) : (Instr.checkKey b 10000 176 (keyV k)).run Try.prog w = .ok () w := by kernel_rfl
theorem eq_u8 (d : Nat) (a b : Int) (w : World) : (Op.equalIn (d + 1) 5 (.int .u8 a) (.int .u8 b)).run Try.prog w = .ok (a == b) w := by
  simp [Op.equalIn, run_underlying Try.underlying5]
theorem part5 (a b c : Value) (w : World) : (part 5 #[a, b, c] 0).run Try.prog w = .ok a w ∧ (part 5 #[a, b, c] 1).run Try.prog w = .ok b w ∧ (part 5 #[a, b, c] 2).run Try.prog w = .ok c w := by
  refine ⟨?_, ?_, ?_⟩ <;> kernel_rfl
theorem eq_arr (d : Nat) (a b c a' b' c' : Int) (w : World) : (Op.equalIn (d + 2) 174 (.agg #[.int .u8 a, .int .u8 b, .int .u8 c]) (.agg #[.int .u8 a', .int .u8 b', .int .u8 c'])).run Try.prog w = .ok (decide (a = a' ∧ b = b' ∧ c = c')) w := by
  rw [Op.equalIn]
  simp [run_underlying Try.underlying174, Std.Legacy.Range.forIn_eq_forIn_range', List.range', part5, eq_u8]
  by_cases h1 : a = a' <;> by_cases h2 : b = b' <;> by_cases h3 : c = c' <;> simp [h1, h2, h3]
theorem part_row (a b c d : Value) (w : World) : (part 5 #[a, b, c, d] 0).run Try.prog w = .ok a w ∧ (part 174 #[a, b, c, d] 1).run Try.prog w = .ok (.agg #[b, c, d]) w := by
  refine ⟨?_, ?_⟩ <;> kernel_rfl
theorem rul_equal (k k' : Int × Int × Int × Int) (w : World) : (Op.equal 176 (keyV k) (keyV k')).run Try.prog w = .ok (decide (k = k')) w := by
  obtain ⟨a, b, c, d⟩ := k
  obtain ⟨a', b', c', d'⟩ := k'
  have h1 := fun w => eq_u8 9998 a a' w
  have h2 := fun w => eq_arr 9997 b c d b' c' d' w
  unfold Op.equal Op.maxDepth keyV
  rw [Op.equalIn]
  simp [run_underlying Try.underlying176, part_row, h1, h2]
  by_cases e1 : a = a' <;> simp [e1]
  split <;> simp_all
/-- A key that is not there. -/
theorem rul_new (k : Int × Int × Int × Int) (w : World) : ∀ (E : List Rul) (i j : Nat), (∀ r ∈ E, r.1 ≠ k) → (Instr.findAsking 176 (keyV k) (rents E i) j).run Try.prog w = .ok none w
  | [], _, _, _ => rfl
  | r :: E, i, j, h => by
    have h1 : decide (k = r.1) = false := decide_eq_false fun e => h r (by simp) e.symm
    simp only [rents, Instr.findAsking, Sem.run_bind, rul_equal, Result.andThen_ok, h1]
    exact rul_new k w E (i + 1) (j + 1) (fun x hx => h x (by simp [hx]))
theorem rul_old (k : Int × Int × Int × Int) (w : World) : ∀ (E : List Rul) (i j : Nat), (Instr.findAsking 176 (keyV k) (rents E i) j).run Try.prog w = .ok none w ∧ E.find? (fun r => r.1 == k) = none ∨
    ∃ n r, (Instr.findAsking 176 (keyV k) (rents E i) j).run Try.prog w = .ok (some (n, .int .u8 r.2)) w ∧ E.find? (fun r => r.1 == k) = some r
  | [], _, _ => .inl ⟨rfl, rfl⟩
  | r :: E, i, j => by
    by_cases h : k = r.1
    · right
      have h1 : decide (k = r.1) = true := decide_eq_true h
      have h2 : (r.1 == k) = true := by rw [h]; exact beq_self_eq_true r.1
      refine ⟨j, r, ?_, by rw [List.find?_cons_of_pos (l := E) (by exact h2)]⟩
      simp only [rents, Instr.findAsking, Sem.run_bind, rul_equal, Result.andThen_ok, h1]
      rfl
    · have h1 : decide (k = r.1) = false := decide_eq_false h
      have h2 : ¬ (r.1 == k) = true := by simp; exact fun e => h e.symm
      simp only [rents, Instr.findAsking, Sem.run_bind, rul_equal, Result.andThen_ok, h1]
      rw [List.find?_cons_of_neg (l := E) (by exact h2)]
      exact rul_old k w E (i + 1) (j + 1)
theorem find_now (k : Int × Int × Int × Int) (E : List Rul) (w : World) : (Instr.findKey 176 (keyV k) (rents E 0)).run Try.prog w = (Instr.findAsking 176 (keyV k) (rents E 0) 0).run Try.prog w := by
  unfold Instr.findKey
  simp only [Sem.run_bind, run_underlying Try.underlying176, Result.andThen_ok]
  cases E with
  | nil => rfl
  | cons r E => rfl
theorem RulAt.lookup {w : World} {m : Nat} (h : RulAt w m rulesL) (k : Int × Int × Int × Int) : (Instr.lookup 164 (.map (some m)) (keyV k) false).run Try.prog w = .ok (.int .u8 (ruleTy k)) w := by
  have hg : (getObj m).run Try.prog w = .ok (.map (rents rulesL 0).toArray rulesL.length) w := by simp [getObj, Sem.run, show w.heap[m]? = _ from h]
  have hz : (zeroValue 5).run Try.prog w = .ok (.int .u8 0) w := by kernel_rfl
  simp only [Instr.lookup, Sem.run_bind, run_underlying Try.underlying164, Result.andThen_ok, hg, rul_check]
  simp only [Sem.run_pure, Result.andThen_ok, find_now]
  rcases rul_old k w rulesL 0 0 with ⟨h1, h2⟩ | ⟨n, r, h1, h2⟩
  · rw [h1]
    simp only [Result.andThen_ok, hz, Sem.run_bind, Sem.run_pure]
    unfold ruleTy
    rw [h2]; rfl
  · rw [h1]
    simp only [Result.andThen_ok]
    unfold ruleTy
    rw [h2]; rfl
theorem RulAt.put {w : World} {m : Nat} {E : List Rul} (h : RulAt w m E) (r : Rul) (hn : ∀ x ∈ E, x.1 ≠ r.1) :
    ∃ w', (Instr.mapUpdate 164 (.map (some m)) (keyV r.1) (.int .u8 r.2)).run Try.prog w = .ok () w' ∧ RulAt w' m (E ++ [r]) ∧ Kept (one m) w w' := by
  have hg : (getObj m).run Try.prog w = .ok (.map (rents E 0).toArray E.length) w := by simp [getObj, Sem.run, show w.heap[m]? = _ from h]
  refine ⟨World.setMap w m (rents (E ++ [r]) 0).toArray (E ++ [r]).length, ?_, setMap_heap h _ _, setMap_kept _ _ _ _⟩
  simp only [Instr.mapUpdate, Sem.run_bind, run_underlying Try.underlying164, Result.andThen_ok, hg, rul_check, find_now, rul_new r.1 w E 0 0 hn]
  rw [rents_snoc]
  have := run_setMap (P := Try.prog) (es' := ((rents E 0).toArray.push { key := keyV r.1, val := .int .u8 r.2, born := E.length })) (clock' := E.length + 1) h
  rw [this]
  simp
theorem RulAt.kept {w w' : World} {m : Nat} {E : List Rul} {S : Nat → Prop} (h : RulAt w m E) (hk : Kept S w w') (hn : ¬ S m) : RulAt w' m E := hk.heap h hn
end Go.Proofs.Ytaalpijohdlabaa
