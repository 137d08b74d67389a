/-
  Expressions in memory; whether one may be: many, may, May, accs, Size.
-/
import Derived.Test.YtaalpijohdlabaaExp1
import Derived.Test.YtaalpijohdlabaaTab3
namespace Go.Proofs.Ytaalpijohdlabaa
open Go Go.RowKit
/-- The cells of an expression. -/
inductive ExAt (w : World) : Array Value → Ex → Prop
  | mk {op n : Int} {sl : Value} {args : List Ex} {cs : List Value} : 0 ≤ op → op ≤ 255 → R64 n → Reads w 3 sl cs → cs.length = args.length * 3 →
      (∀ i x, args[i]? = some x → ExAt w ((cs.drop (i * 3)).take 3).toArray x) → ExAt w #[.int .u8 op, .int .i64 n, sl] (.mk op n args)
theorem ExAt.kept {w w' : World} {S : Nat → Prop} (hk : Kept S w w') (hS : ∀ k, S k → ∀ c E f, w.heap[k]? ≠ some (.cells c E f)) {a : Array Value} {x : Ex} (h : ExAt w a x) : ExAt w' a x := by
  induction h with
  | mk h1 h2 h3 h4 h5 _ ih => exact .mk h1 h2 h3 (h4.kept hk (fun b hb hs => by obtain ⟨c, E, f, h⟩ := h4.isCells (by omega) hb; exact hS b hs c E f h)) h5 ih
theorem ExAt.pure {w w' : World} (hk : Kept none' w w') {a : Array Value} {x : Ex} (h : ExAt w a x) : ExAt w' a x := h.kept hk (fun _ h => h.elim)
theorem ExAt.parts {w : World} {a : Array Value} {x : Ex} (h : ExAt w a x) : ∃ p cap, a = #[.int .u8 x.op, .int .i64 x.n, .slice p x.args.length cap] ∧ 0 ≤ x.op ∧ x.op ≤ 255 ∧ R64 x.n ∧ x.args.length ≤ cap ∧ cap ≤ maxLen ∧
    ∀ i y, x.args[i]? = some y → ∃ b off p' cap', p = some ⟨b, off, none⟩ ∧ w.cell? ⟨b, off + i * 3, none⟩ = some (.int .u8 y.op) ∧ w.cell? ⟨b, off + i * 3 + 1, none⟩ = some (.int .i64 y.n) ∧
      w.cell? ⟨b, off + i * 3 + 2, none⟩ = some (.slice p' y.args.length cap') ∧ ExAt w #[.int .u8 y.op, .int .i64 y.n, .slice p' y.args.length cap'] y := by
  cases h with
  | @mk op n sl args cs h1 h2 h3 h4 h5 h6 =>
    obtain ⟨p, m, cap, rfl, g1, g2, g3, g4⟩ := h4
    have hm : m = args.length := by omega
    subst hm
    refine ⟨p, cap, rfl, h1, h2, h3, g1, g2, fun i y hy => ?_⟩
    have hi : i < args.length := (List.getElem?_eq_some_iff.1 hy).1
    simp only [Ex.args] at hy
    have e := h6 i y hy
    have hne : cs ≠ [] := fun e => by rw [e] at h5; simp at h5; omega
    obtain ⟨b, off, rfl, hc⟩ := g4.resolve_left hne
    cases e2 : y with
    | mk op' n' args' =>
      subst e2
      obtain ⟨v0, v1, v2, hd⟩ : ∃ v0 v1 v2, (cs.drop (i * 3)).take 3 = [v0, v1, v2] := by
        have hlen : ((cs.drop (i * 3)).take 3).length = 3 := by rw [List.length_take, List.length_drop]; omega
        match (cs.drop (i * 3)).take 3, hlen with
        | [v0, v1, v2], _ => exact ⟨v0, v1, v2, rfl⟩
      have get : ∀ j v, [v0, v1, v2][j]? = some v → cs[i * 3 + j]? = some v := by
        intro j v hj
        rw [← hd, List.getElem?_take] at hj
        split at hj
        · rwa [List.getElem?_drop] at hj
        · cases hj
      rw [hd] at e
      have e' := e
      cases hq : e with
      | @mk _ _ sl' _ cs' k1 k2 k3 k4 k5 k6 =>
        obtain ⟨p', m', cap', rfl, q1, q2, q3, q4⟩ := k4
        have hm : m' = args'.length := by omega
        subst hm
        refine ⟨b, off, p', cap', rfl, ?_, ?_, ?_, e'⟩
        · exact hc _ _ (get 0 _ rfl)
        · have := hc _ _ (get 1 _ rfl); rwa [← Nat.add_assoc] at this
        · have := hc _ _ (get 2 _ rfl); rwa [← Nat.add_assoc] at this
theorem many_op (op : Int) (h0 : 0 ≤ op) (h1 : op ≤ 255) (w : World) : Calls Try.prog 136 #[.int .u8 op] w fun e w' => e = .returned (.int .i64 (arity op)) ∧ w = w' := by
  by_cases a0 : op = 0
  · subst a0
    go_enter Try.func136, Try.ntmps136
    go_wp2_with fail
    go_ret
    exact ⟨rfl, rfl⟩
  · have b0 : (op == 0) = false := by simp [a0]
    by_cases a1 : 18 < op
    · have e1 : arity op = -1 := by unfold arity; rw [if_pos (.inr a1)]
      rw [e1]
      clear e1
      go_enter Try.func136, Try.ntmps136
      go_wp2_with fail
      go_ret
      exact ⟨rfl, rfl⟩
    · by_cases a2 : op ≤ 4
      · have e1 : arity op = 0 := by unfold arity; rw [if_neg (by omega), if_pos a2]
        rw [e1]
        clear e1
        go_enter Try.func136, Try.ntmps136
        go_wp2_with fail
        go_ret
        exact ⟨rfl, rfl⟩
      · by_cases a3 : op ≤ 6
        · have e1 : arity op = 1 := by unfold arity; rw [if_neg (by omega), if_neg a2, if_pos a3]
          rw [e1]
          clear e1
          go_enter Try.func136, Try.ntmps136
          go_wp2_with fail
          go_ret
          exact ⟨rfl, rfl⟩
        · by_cases a4 : op = 18
          · subst a4
            go_enter Try.func136, Try.ntmps136
            go_wp2_with fail
            go_ret
            exact ⟨rfl, rfl⟩
          · have e1 : arity op = 2 := by unfold arity; rw [if_neg (by omega), if_neg a2, if_neg a3, if_neg a4]
            have b4 : (op == 18) = false := by simp [a4]
            rw [e1]
            clear e1
            go_enter Try.func136, Try.ntmps136
            go_wp2_with fail
            go_ret
            exact ⟨rfl, rfl⟩
end Go.Proofs.Ytaalpijohdlabaa
