/-
  What expressions are, in plain words: whether they may be, their types, what they come to.
-/
import Derived.WalkKit
import Derived.Test.YtaalpijohdlabaaSpec
import Derived.Test.YtaalpijohdlabaaTab3
import Derived.Test.YtaalpijohdlabaaHot
namespace Go.Proofs.Ytaalpijohdlabaa
open Go Go.RowKit
/-- An expression: its kind, its number, of what it is. -/
inductive Ex where
  | mk (op n : Int) (args : List Ex)
instance : Inhabited Ex := ⟨.mk 0 0 []⟩
def Ex.op : Ex → Int | .mk o _ _ => o
def Ex.n : Ex → Int | .mk _ n _ => n
def Ex.args : Ex → List Ex | .mk _ _ l => l
def arity (op : Int) : Int := if op = 0 ∨ 18 < op then -1 else if op ≤ 4 then 0 else if op ≤ 6 then 1 else if op = 18 then 3 else 2
def exMay : Nat → Ex → Bool
  | 0, _ => false
  | f + 1, .mk op n args => decide (arity op = args.length) && decide (0 ≤ n) && decide (n = 0 ∨ op = 1) && args.all (exMay f)
/-- A rule: a kind, the types of what it is of, its type. -/
abbrev Rul := (Int × Int × Int × Int) × Int
def rulesL : List Rul :=
  [((1, 0, 0, 0), 1), ((2, 0, 0, 0), 1), ((3, 0, 0, 0), 1), ((4, 0, 0, 0), 1), ((5, 1, 0, 0), 1),
   ((7, 1, 1, 0), 1), ((8, 1, 1, 0), 1), ((9, 1, 1, 0), 1), ((10, 1, 1, 0), 1), ((11, 1, 1, 0), 1), ((6, 2, 0, 0), 2),
   ((16, 2, 2, 0), 2), ((17, 2, 2, 0), 2), ((14, 2, 2, 0), 2), ((15, 2, 2, 0), 2),
   ((12, 1, 1, 0), 2), ((13, 1, 1, 0), 2), ((14, 1, 1, 0), 2), ((15, 1, 1, 0), 2), ((18, 2, 1, 1), 1), ((18, 2, 2, 2), 2)]
def ruleTy (k : Int × Int × Int × Int) : Int := ((rulesL.find? fun r => r.1 == k).map (·.2)).getD 0
def exTy : Nat → Ex → Int
  | 0, _ => 0
  | f + 1, .mk op _ args => if (args.map (exTy f)).contains 0 then 0 else ruleTy (op, (args.map (exTy f)).getD 0 0, (args.map (exTy f)).getD 1 0, (args.map (exTy f)).getD 2 0)
/-- What an expression comes to: a number, or a truth. -/
inductive EV where
  | num (n : Int)
  | tru (b : Bool)
def EV.ty : EV → Int | .num _ => 1 | .tru _ => 2
def EV.n : EV → Int | .num n => n | .tru _ => 0
def EV.b : EV → Bool | .num _ => false | .tru b => b
def exTwo (op : Int) : EV → EV → EV
  | .num a, y => if op = 7 then .num (wrap64 (a + y.n)) else if op = 8 then .num (wrap64 (a - y.n)) else if op = 9 then .num (wrap64 (a * y.n))
    else if op = 12 then .tru (decide (a < y.n)) else if op = 13 then .tru (decide (a ≤ y.n)) else if op = 14 then .tru (a == y.n) else if op = 15 then .tru (a != y.n)
    else if y.n = 0 then .num 0 else if op = 10 then .num (wrap64 (a.tdiv y.n)) else .num (a.tmod y.n)
  | .tru a, y => if op = 16 then .tru (a && y.b) else if op = 17 then .tru (a || y.b) else if op = 14 then .tru (a == y.b) else .tru (a != y.b)
structure Env where
  key : Int
  val : Int
  acc : Int
def exDo : Nat → Env → Ex → EV
  | 0, _, _ => .num 0
  | f + 1, env, .mk op n args =>
    if op = 1 then .num n else if op = 2 then .num env.key else if op = 3 then .num env.val else if op = 4 then .num env.acc
    else if op = 5 then .num (wrap64 (-(exDo f env (args.getD 0 default)).n))
    else if op = 6 then .tru (!(exDo f env (args.getD 0 default)).b)
    else if op = 18 then (if (exDo f env (args.getD 0 default)).b then exDo f env (args.getD 1 default) else exDo f env (args.getD 2 default))
    else exTwo op (exDo f env (args.getD 0 default)) (exDo f env (args.getD 1 default))
/-- It may be, and has a type. -/
def exOk (x : Ex) : Bool := exMay 16 x && exTy 16 x != 0
def exInt (x : Ex) (env : Env) : Int := if exOk x then (exDo 16 env x).n else 0
def exBool (x : Ex) (env : Env) : Bool := exOk x && (exDo 16 env x).b
theorem ruleTy_mem {k : Int × Int × Int × Int} (h : ruleTy k ≠ 0) : (k, ruleTy k) ∈ rulesL := by
  unfold ruleTy at *
  cases hf : rulesL.find? (fun r => r.1 == k) with
  | none => rw [hf] at h; exact absurd rfl h
  | some r =>
    have h1 := List.find?_some hf
    have h2 := List.mem_of_find?_eq_some hf
    simp only [beq_iff_eq] at h1
    simp only [Option.map_some, Option.getD_some]
    rw [← h1]; exact h2
/-- What a rule's kind may be, by its type and those of what it is of. -/
theorem ruleTy_cases {op a b c : Int} (h : ruleTy (op, a, b, c) ≠ 0) :
    (ruleTy (op, a, b, c) = 1 ∧ ((op = 1 ∨ op = 2 ∨ op = 3 ∨ op = 4) ∨ (op = 5 ∧ a = 1) ∨ ((op = 7 ∨ op = 8 ∨ op = 9 ∨ op = 10 ∨ op = 11) ∧ a = 1 ∧ b = 1) ∨ (op = 18 ∧ a = 2 ∧ b = 1 ∧ c = 1))) ∨
    (ruleTy (op, a, b, c) = 2 ∧ ((op = 6 ∧ a = 2) ∨ ((op = 16 ∨ op = 17 ∨ op = 14 ∨ op = 15) ∧ a = 2 ∧ b = 2) ∨ ((op = 12 ∨ op = 13 ∨ op = 14 ∨ op = 15) ∧ a = 1 ∧ b = 1) ∨ (op = 18 ∧ a = 2 ∧ b = 2 ∧ c = 2))) := by
  have h1 := ruleTy_mem h
  clear h
  generalize ruleTy (op, a, b, c) = t at *
  simp only [rulesL, List.mem_cons, List.not_mem_nil, or_false, Prod.mk.injEq] at h1
  rcases h1 with h1 | h1 | h1 | h1 | h1 | h1 | h1 | h1 | h1 | h1 | h1 | h1 | h1 | h1 | h1 | h1 | h1 | h1 | h1 | h1 | h1 <;>
    (obtain ⟨⟨rfl, rfl, rfl, rfl⟩, rfl⟩ := h1; decide)
theorem wrap_r64 (n : Int) : R64 (wrap64 n) := by unfold R64 wrap64; omega
theorem exMay_args {f : Nat} {op n : Int} {args : List Ex} (h : exMay (f + 1) (.mk op n args) = true) : arity op = args.length ∧ 0 ≤ n ∧ (n = 0 ∨ op = 1) ∧ ∀ a ∈ args, exMay f a = true := by
  simp only [exMay, Bool.and_eq_true, decide_eq_true_eq, List.all_eq_true] at h
  exact ⟨h.1.1.1, h.1.1.2, h.1.2, h.2⟩
theorem exTy_args {f : Nat} {op n : Int} {args : List Ex} (h : exTy (f + 1) (.mk op n args) ≠ 0) :
    (∀ a ∈ args, exTy f a ≠ 0) ∧ exTy (f + 1) (.mk op n args) = ruleTy (op, (args.map (exTy f)).getD 0 0, (args.map (exTy f)).getD 1 0, (args.map (exTy f)).getD 2 0) := by
  rw [exTy] at h ⊢
  by_cases hc : (args.map (exTy f)).contains 0 = true
  · rw [if_pos hc] at h; exact absurd rfl h
  · rw [if_neg hc]
    refine ⟨fun a ha e => hc ?_, rfl⟩
    simp only [List.contains_eq_mem, List.mem_map, decide_eq_true_eq]
    exact ⟨a, ha, e⟩
end Go.Proofs.Ytaalpijohdlabaa
/-
  Expressions in memory; whether one may be: many, may, May, accs, Size.
-/
namespace Go.Proofs.Ytaalpijohdlabaa
open Go Go.RowKit
/-- The cells of an expression. -/
inductive ExAt (w : World) : Array Value → Ex → Prop
  | mk {op n : Int} {sl : Value} {args : List Ex} {cs : List Value} : 0 ≤ op → op ≤ 255 → R64 n → Reads w 3 sl cs → cs.length = args.length * 3 →
      (∀ i x, args[i]? = some x → ExAt w ((cs.drop (i * 3)).take 3).toArray x) → ExAt w #[.int .u8 op, .int .i64 n, sl] (.mk op n args)
theorem ExAt.kept {w w' : World} {S : Nat → Prop} (hk : Kept S w w') (hS : ∀ k, S k → ∀ c E f, w.heap[k]? ≠ some (.cells c E f)) {a : Array Value} {x : Ex} (h : ExAt w a x) : ExAt w' a x := by
  induction h with
  | mk h1 h2 h3 h4 h5 _ ih => exact .mk h1 h2 h3 (h4.kept hk (fun b hb hs => by obtain ⟨c, E, f, h⟩ := h4.isCells (by omega) hb; exact hS b hs c E f h)) h5 ih
theorem ExAt.pure {w w' : World} (hk : Kept none' w w') {a : Array Value} {x : Ex} (h : ExAt w a x) : ExAt w' a x := h.kept hk (fun _ h => h.elim)
theorem ExAt.parts {w : World} {a : Array Value} {x : Ex} (h : ExAt w a x) : ∃ p cap, a = #[.int .u8 x.op, .int .i64 x.n, .slice p x.args.length cap] ∧ 0 ≤ x.op ∧ x.op ≤ 255 ∧ R64 x.n ∧ x.args.length ≤ cap ∧ cap ≤ maxLen ∧
    ∀ i y, x.args[i]? = some y → ∃ b off p' cap', p = some ⟨b, off, none⟩ ∧ w.cell? ⟨b, off + i * 3, none⟩ = some (.int .u8 y.op) ∧ w.cell? ⟨b, off + i * 3 + 1, none⟩ = some (.int .i64 y.n) ∧
      w.cell? ⟨b, off + i * 3 + 2, none⟩ = some (.slice p' y.args.length cap') ∧ ExAt w #[.int .u8 y.op, .int .i64 y.n, .slice p' y.args.length cap'] y := by
  cases h with
  | @mk op n sl args cs h1 h2 h3 h4 h5 h6 =>
    obtain ⟨p, m, cap, rfl, g1, g2, g3, g4⟩ := h4
    have hm : m = args.length := by omega
    subst hm
    refine ⟨p, cap, rfl, h1, h2, h3, g1, g2, fun i y hy => ?_⟩
    have hi : i < args.length := (List.getElem?_eq_some_iff.1 hy).1
    simp only [Ex.args] at hy
    have e := h6 i y hy
    have hne : cs ≠ [] := fun e => by rw [e] at h5; simp at h5; omega
    obtain ⟨b, off, rfl, hc⟩ := g4.resolve_left hne
    cases e2 : y with
    | mk op' n' args' =>
      subst e2
      obtain ⟨v0, v1, v2, hd⟩ : ∃ v0 v1 v2, (cs.drop (i * 3)).take 3 = [v0, v1, v2] := by
        have hlen : ((cs.drop (i * 3)).take 3).length = 3 := by rw [List.length_take, List.length_drop]; omega
        match (cs.drop (i * 3)).take 3, hlen with
        | [v0, v1, v2], _ => exact ⟨v0, v1, v2, rfl⟩
      have get : ∀ j v, [v0, v1, v2][j]? = some v → cs[i * 3 + j]? = some v := by
        intro j v hj
        rw [← hd, List.getElem?_take] at hj
        split at hj
        · rwa [List.getElem?_drop] at hj
        · cases hj
      rw [hd] at e
      have e' := e
      cases hq : e with
      | @mk _ _ sl' _ cs' k1 k2 k3 k4 k5 k6 =>
        obtain ⟨p', m', cap', rfl, q1, q2, q3, q4⟩ := k4
        have hm : m' = args'.length := by omega
        subst hm
        refine ⟨b, off, p', cap', rfl, ?_, ?_, ?_, e'⟩
        · exact hc _ _ (get 0 _ rfl)
        · have := hc _ _ (get 1 _ rfl); rwa [← Nat.add_assoc] at this
        · have := hc _ _ (get 2 _ rfl); rwa [← Nat.add_assoc] at this
theorem many_op (op : Int) (h0 : 0 ≤ op) (h1 : op ≤ 255) (w : World) : Calls Try.prog 136 #[.int .u8 op] w fun e w' => e = .returned (.int .i64 (arity op)) ∧ w = w' := by
  by_cases a0 : op = 0
  · subst a0
    go_enter Try.func136, Try.ntmps136
    go_wp2_with fail
    go_ret
    exact ⟨rfl, rfl⟩
  · have b0 : (op == 0) = false := by simp [a0]
    by_cases a1 : 18 < op
    · have e1 : arity op = -1 := by unfold arity; rw [if_pos (.inr a1)]
      rw [e1]
      clear e1
      go_enter Try.func136, Try.ntmps136
      go_wp2_with fail
      go_ret
      exact ⟨rfl, rfl⟩
    · by_cases a2 : op ≤ 4
      · have e1 : arity op = 0 := by unfold arity; rw [if_neg (by omega), if_pos a2]
        rw [e1]
        clear e1
        go_enter Try.func136, Try.ntmps136
        go_wp2_with fail
        go_ret
        exact ⟨rfl, rfl⟩
      · by_cases a3 : op ≤ 6
        · have e1 : arity op = 1 := by unfold arity; rw [if_neg (by omega), if_neg a2, if_pos a3]
          rw [e1]
          clear e1
          go_enter Try.func136, Try.ntmps136
          go_wp2_with fail
          go_ret
          exact ⟨rfl, rfl⟩
        · by_cases a4 : op = 18
          · subst a4
            go_enter Try.func136, Try.ntmps136
            go_wp2_with fail
            go_ret
            exact ⟨rfl, rfl⟩
          · have e1 : arity op = 2 := by unfold arity; rw [if_neg (by omega), if_neg a2, if_neg a3, if_neg a4]
            have b4 : (op == 18) = false := by simp [a4]
            rw [e1]
            clear e1
            go_enter Try.func136, Try.ntmps136
            go_wp2_with fail
            go_ret
            exact ⟨rfl, rfl⟩
end Go.Proofs.Ytaalpijohdlabaa
/-
  Whether an expression may be: may, May.
-/
namespace Go.Proofs.Ytaalpijohdlabaa
open Go Go.RowKit
attribute [local irreducible] wpL wpH
theorem rbool {a b : Bool} (h : a = b) : Ending.returned (.bool a) = .returned (.bool b) := by rw [h]
theorem all_take_succ {α : Type} {l : List α} {k : Nat} {x : α} {p : α → Bool} (h : l[k]? = some x) (ht : (l.take k).all p = true) (hx : p x = true) : (l.take (k + 1)).all p = true := by
  rw [List.take_add_one, h, List.all_append, ht]; simp [hx]
theorem all_of_take {α : Type} {l : List α} {k : Nat} {p : α → Bool} (ht : (l.take k).all p = true) (hk : l.length ≤ k) : l.all p = true := by
  rwa [List.take_of_length_le hk] at ht
theorem not_all {α : Type} {l : List α} {k : Nat} {x : α} {p : α → Bool} (h : l[k]? = some x) (hx : p x = false) : l.all p = false := by
  rw [List.all_eq_false]; exact ⟨x, List.mem_of_getElem? h, by simp [hx]⟩
theorem exMay_mk (f : Nat) (x : Ex) : exMay (f + 1) x = (decide (arity x.op = x.args.length) && decide (0 ≤ x.n) && decide (x.n = 0 ∨ x.op = 1) && x.args.all (exMay f)) := by
  cases x; rfl
set_option maxRecDepth 100000 in
set_option maxHeartbeats 1000000 in
theorem may_no (x : Ex) (a : Array Value) (L : Int) (w : World) (hL0 : 0 ≤ L) (hL : L ≤ 16) (h : ExAt w a x)
    (hno : arity x.op ≠ x.args.length ∨ x.n < 0 ∨ 0 < x.n ∧ x.op ≠ 1 ∨ L = 0) : Calls Try.prog 133 #[.agg a, .int .i64 L] w (Gives w (.bool false)) := by
  obtain ⟨p, cap, rfl, h0, h1, h2, h3, h4, h5⟩ := h.parts
  have hk : Kept none' w (w.alloc (.cells #[.int .u8 x.op, .int .i64 x.n, .slice p x.args.length cap] 52)) := (Kept.refl _ _).alloc _
  obtain ⟨W0, hW0⟩ : ∃ W0, w.alloc (.cells #[.int .u8 x.op, .int .i64 x.n, .slice p x.args.length cap] 52) = W0 := ⟨_, rfl⟩
  have d0 : W0.cell? ⟨w.heap.size, 0, none⟩ = some (.int .u8 x.op) := by rw [← hW0]; simp
  have d1 : W0.cell? ⟨w.heap.size, 1, none⟩ = some (.int .i64 x.n) := by rw [← hW0]; simp
  have d2 : W0.cell? ⟨w.heap.size, 2, none⟩ = some (.slice p x.args.length cap) := by rw [← hW0]; simp
  have HK := Lib.hid hk
  have hm : ∀ W, Calls Try.prog 136 #[.int .u8 x.op] W fun e w' => e = .returned (.int .i64 (arity x.op)) ∧ W = w' := many_op x.op h0 h1
  have HM := Lib.hid hm
  have HW0 := Lib.hid hW0
  unfold R64 at h2
  unfold maxLen at h4
  obtain ⟨h2, h2'⟩ := h2
  clear hk h h5 hm hW0
  by_cases c1 : arity x.op = x.args.length
  · have f1 : (arity x.op != (x.args.length : Int)) = false := by rw [c1]; simp
    by_cases c2 : x.n < 0
    · have g2 : decide (x.n < 0) = true := decide_eq_true c2
      clear hno c1
      go_enter Try.func133, Try.ntmps133
      go_wp2_with fail
      rw [HW0.out]
      refine wp_region_eager [0, 1, 3, 4, 5, 2, 6, 7, 8, 9, 10, 11, 12, 13, 14, 15, 16, 17, 18, 19, 20, 21, 22, 23, 24, 25] (fun W => Kept none' W0 W) (by kernel_rfl) (by kernel_rfl) rfl (Kept.refl _ _).drew ?_
      simp only [List.map_cons, List.map_nil, List.getElem?_toArray, List.getElem?_cons_zero, List.getElem?_cons_succ, Option.getD_some]
      iterate 5 (first | (apply wpL_skip rfl; go_frame) | (apply wpL_float rfl rfl; (intro W hW; have z0 := hW.cell (fun h => h) d0; have z1 := hW.cell (fun h => h) d1; have z2 := hW.cell (fun h => h) d2; go_simp; rfl); go_frame))
      apply wpL_loud rfl rfl
      intro K hK
      go_wp2_with fail
      refine (HM.out _).mono ?_
      rintro e w' ⟨rfl, rfl⟩
      go_wp2_with fail
      refine hK _ _ (fun _ => (Kept.refl _ _).drew) ?_
      clear hK
      iterate 20 (first | (apply wpL_skip rfl; go_frame) | (apply wpL_float rfl rfl; (intro W hW; have z0 := hW.cell (fun h => h) d0; have z1 := hW.cell (fun h => h) d1; have z2 := hW.cell (fun h => h) d2; go_simp; rfl); go_frame))
      refine wpL_nil (fun _ => (Kept.refl _ _).drew) ?_
      go_wp2_with fail
      go_ret
      exact ⟨rfl, HK.out.trans (by rw [HW0.out]; exact (Kept.refl _ _).drew)⟩
    · have g2 : decide (x.n < 0) = false := decide_eq_false c2
      by_cases c3 : 0 < x.n
      · have g3 : decide (0 < x.n) = true := decide_eq_true c3
        by_cases c4 : x.op = 1
        · obtain rfl : L = 0 := by
            rcases hno with hn | hn | hn | hn
            · exact absurd c1 hn
            · exact absurd hn c2
            · exact absurd c4 hn.2
            · exact hn
          have f4 : (x.op != 1) = false := by simp [c4]
          have f5 : (x.op == 1) = true := by simp [c4]
          clear c1 c4 hno
          go_enter Try.func133, Try.ntmps133
          go_wp2_with fail
          rw [HW0.out]
          refine wp_region_eager [0, 1, 3, 4, 5, 2, 6, 7, 8, 9, 10, 11, 12, 13, 14, 15, 16, 17, 18, 19, 20, 21, 22, 23, 24, 25] (fun W => Kept none' W0 W) (by kernel_rfl) (by kernel_rfl) rfl (Kept.refl _ _).drew ?_
          simp only [List.map_cons, List.map_nil, List.getElem?_toArray, List.getElem?_cons_zero, List.getElem?_cons_succ, Option.getD_some]
          iterate 5 (first | (apply wpL_skip rfl; go_frame) | (apply wpL_float rfl rfl; (intro W hW; have z0 := hW.cell (fun h => h) d0; have z1 := hW.cell (fun h => h) d1; have z2 := hW.cell (fun h => h) d2; go_simp; rfl); go_frame))
          apply wpL_loud rfl rfl
          intro K hK
          go_wp2_with fail
          refine (HM.out _).mono ?_
          rintro e w' ⟨rfl, rfl⟩
          go_wp2_with fail
          refine hK _ _ (fun _ => (Kept.refl _ _).drew) ?_
          clear hK
          iterate 20 (first | (apply wpL_skip rfl; go_frame) | (apply wpL_float rfl rfl; (intro W hW; have z0 := hW.cell (fun h => h) d0; have z1 := hW.cell (fun h => h) d1; have z2 := hW.cell (fun h => h) d2; go_simp; rfl); go_frame))
          refine wpL_nil (fun _ => (Kept.refl _ _).drew) ?_
          go_wp2_with fail
          go_ret
          exact ⟨rfl, HK.out.trans (by rw [HW0.out]; exact (Kept.refl _ _).drew)⟩
        · have f4 : (x.op != 1) = true := by simp [c4]
          clear c1 c4 hno
          go_enter Try.func133, Try.ntmps133
          go_wp2_with fail
          rw [HW0.out]
          refine wp_region_eager [0, 1, 3, 4, 5, 2, 6, 7, 8, 9, 10, 11, 12, 13, 14, 15, 16, 17, 18, 19, 20, 21, 22, 23, 24, 25] (fun W => Kept none' W0 W) (by kernel_rfl) (by kernel_rfl) rfl (Kept.refl _ _).drew ?_
          simp only [List.map_cons, List.map_nil, List.getElem?_toArray, List.getElem?_cons_zero, List.getElem?_cons_succ, Option.getD_some]
          iterate 5 (first | (apply wpL_skip rfl; go_frame) | (apply wpL_float rfl rfl; (intro W hW; have z0 := hW.cell (fun h => h) d0; have z1 := hW.cell (fun h => h) d1; have z2 := hW.cell (fun h => h) d2; go_simp; rfl); go_frame))
          apply wpL_loud rfl rfl
          intro K hK
          go_wp2_with fail
          refine (HM.out _).mono ?_
          rintro e w' ⟨rfl, rfl⟩
          go_wp2_with fail
          refine hK _ _ (fun _ => (Kept.refl _ _).drew) ?_
          clear hK
          iterate 20 (first | (apply wpL_skip rfl; go_frame) | (apply wpL_float rfl rfl; (intro W hW; have z0 := hW.cell (fun h => h) d0; have z1 := hW.cell (fun h => h) d1; have z2 := hW.cell (fun h => h) d2; go_simp; rfl); go_frame))
          refine wpL_nil (fun _ => (Kept.refl _ _).drew) ?_
          go_wp2_with fail
          go_ret
          exact ⟨rfl, HK.out.trans (by rw [HW0.out]; exact (Kept.refl _ _).drew)⟩
      · obtain rfl : L = 0 := by
          rcases hno with hn | hn | hn | hn
          · exact absurd c1 hn
          · exact absurd hn c2
          · exact absurd hn.1 c3
          · exact hn
        have g3 : decide (0 < x.n) = false := decide_eq_false c3
        clear c1 hno
        go_enter Try.func133, Try.ntmps133
        go_wp2_with fail
        rw [HW0.out]
        refine wp_region_eager [0, 1, 3, 4, 5, 2, 6, 7, 8, 9, 10, 11, 12, 13, 14, 15, 16, 17, 18, 19, 20, 21, 22, 23, 24, 25] (fun W => Kept none' W0 W) (by kernel_rfl) (by kernel_rfl) rfl (Kept.refl _ _).drew ?_
        simp only [List.map_cons, List.map_nil, List.getElem?_toArray, List.getElem?_cons_zero, List.getElem?_cons_succ, Option.getD_some]
        iterate 5 (first | (apply wpL_skip rfl; go_frame) | (apply wpL_float rfl rfl; (intro W hW; have z0 := hW.cell (fun h => h) d0; have z1 := hW.cell (fun h => h) d1; have z2 := hW.cell (fun h => h) d2; go_simp; rfl); go_frame))
        apply wpL_loud rfl rfl
        intro K hK
        go_wp2_with fail
        refine (HM.out _).mono ?_
        rintro e w' ⟨rfl, rfl⟩
        go_wp2_with fail
        refine hK _ _ (fun _ => (Kept.refl _ _).drew) ?_
        clear hK
        iterate 20 (first | (apply wpL_skip rfl; go_frame) | (apply wpL_float rfl rfl; (intro W hW; have z0 := hW.cell (fun h => h) d0; have z1 := hW.cell (fun h => h) d1; have z2 := hW.cell (fun h => h) d2; go_simp; rfl); go_frame))
        refine wpL_nil (fun _ => (Kept.refl _ _).drew) ?_
        go_wp2_with fail
        go_ret
        exact ⟨rfl, HK.out.trans (by rw [HW0.out]; exact (Kept.refl _ _).drew)⟩
  · have f1 : (arity x.op != (x.args.length : Int)) = true := by simp [c1]
    clear c1 hno
    go_enter Try.func133, Try.ntmps133
    go_wp2_with fail
    rw [HW0.out]
    refine wp_region_eager [0, 1, 3, 4, 5, 2, 6, 7, 8, 9, 10, 11, 12, 13, 14, 15, 16, 17, 18, 19, 20, 21, 22, 23, 24, 25] (fun W => Kept none' W0 W) (by kernel_rfl) (by kernel_rfl) rfl (Kept.refl _ _).drew ?_
    simp only [List.map_cons, List.map_nil, List.getElem?_toArray, List.getElem?_cons_zero, List.getElem?_cons_succ, Option.getD_some]
    iterate 5 (first | (apply wpL_skip rfl; go_frame) | (apply wpL_float rfl rfl; (intro W hW; have z0 := hW.cell (fun h => h) d0; have z1 := hW.cell (fun h => h) d1; have z2 := hW.cell (fun h => h) d2; go_simp; rfl); go_frame))
    apply wpL_loud rfl rfl
    intro K hK
    go_wp2_with fail
    refine (HM.out _).mono ?_
    rintro e w' ⟨rfl, rfl⟩
    go_wp2_with fail
    refine hK _ _ (fun _ => (Kept.refl _ _).drew) ?_
    clear hK
    iterate 20 (first | (apply wpL_skip rfl; go_frame) | (apply wpL_float rfl rfl; (intro W hW; have z0 := hW.cell (fun h => h) d0; have z1 := hW.cell (fun h => h) d1; have z2 := hW.cell (fun h => h) d2; go_simp; rfl); go_frame))
    refine wpL_nil (fun _ => (Kept.refl _ _).drew) ?_
    go_wp2_with fail
    go_ret
    exact ⟨rfl, HK.out.trans (by rw [HW0.out]; exact (Kept.refl _ _).drew)⟩
def MayAny (f : Nat) : Prop := ∀ (x : Ex) (a : Array Value) (L : Int) (w : World), L = f → f ≤ 16 → ExAt w a x → Calls Try.prog 133 #[.agg a, .int .i64 L] w (Gives w (.bool (exMay f x)))
set_option maxRecDepth 100000 in
set_option maxHeartbeats 1000000 in
theorem may_yes (f : Nat) (ih : MayAny f) (x : Ex) (a : Array Value) (L : Int) (w : World) (hL : L = ((f + 1 : Nat) : Int)) (hf : f + 1 ≤ 16) (h : ExAt w a x)
    (c1 : arity x.op = x.args.length) (c2 : ¬ x.n < 0) (c3 : ¬ (0 < x.n ∧ x.op ≠ 1)) : Calls Try.prog 133 #[.agg a, .int .i64 L] w (Gives w (.bool (exMay (f + 1) x))) := by
  have hx : exMay (f + 1) x = x.args.all (exMay f) := by
    rw [exMay_mk]
    have e1 : decide (arity x.op = x.args.length) = true := decide_eq_true c1
    have e2 : decide (0 ≤ x.n) = true := decide_eq_true (by omega)
    have e3 : decide (x.n = 0 ∨ x.op = 1) = true := decide_eq_true (by omega)
    rw [e1, e2, e3]; rfl
  rw [hx]
  obtain ⟨p, cap, rfl, h0, h1, h2, h3, h4, h5⟩ := h.parts
  have hk : Kept none' w (w.alloc (.cells #[.int .u8 x.op, .int .i64 x.n, .slice p x.args.length cap] 52)) := (Kept.refl _ _).alloc _
  obtain ⟨W0, hW0⟩ : ∃ W0, w.alloc (.cells #[.int .u8 x.op, .int .i64 x.n, .slice p x.args.length cap] 52) = W0 := ⟨_, rfl⟩
  have d0 : W0.cell? ⟨w.heap.size, 0, none⟩ = some (.int .u8 x.op) := by rw [← hW0]; simp
  have d1 : W0.cell? ⟨w.heap.size, 1, none⟩ = some (.int .i64 x.n) := by rw [← hW0]; simp
  have d2 : W0.cell? ⟨w.heap.size, 2, none⟩ = some (.slice p x.args.length cap) := by rw [← hW0]; simp
  have HK := Lib.hid hk
  have hm : ∀ W, Calls Try.prog 136 #[.int .u8 x.op] W fun e w' => e = .returned (.int .i64 (arity x.op)) ∧ W = w' := many_op x.op h0 h1
  have HM := Lib.hid hm
  have HW0 := Lib.hid hW0
  unfold R64 at h2
  unfold maxLen at h4
  obtain ⟨h2, h2'⟩ := h2
  have f1 : (arity x.op != (x.args.length : Int)) = false := by rw [c1]; simp
  have hL1 : 1 ≤ L := by omega
  have hL2 : L ≤ 16 := by omega
  have f6 : (L == 0) = false := by simp; omega
  have g2 : decide (x.n < 0) = false := decide_eq_false c2
  have IH := Lib.hid ih
  have HL := Lib.hid hL
  have H5 := Lib.hid h5
  clear hk h h5 hm hW0 hx c1 ih hL
  have main : (decide (0 < x.n) = false ∨ decide (0 < x.n) = true ∧ (x.op != 1) = false) → Calls Try.prog 133 #[.agg #[.int .u8 x.op, .int .i64 x.n, .slice p x.args.length cap], .int .i64 L] w (Gives w (.bool (x.args.all (exMay f)))) := by
    rintro (f3 | ⟨f3, f4⟩)
    all_goals
      go_enter Try.func133, Try.ntmps133
      go_wp2_with fail
      rw [HW0.out]
      refine wp_region_eager [0, 1, 3, 4, 5, 2, 6, 7, 8, 9, 10, 11, 12, 13, 14, 15, 16, 17, 18, 19, 20, 21, 22, 23, 24, 25] (fun W => Kept none' W0 W) (by kernel_rfl) (by kernel_rfl) rfl (Kept.refl _ _).drew ?_
      simp only [List.map_cons, List.map_nil, List.getElem?_toArray, List.getElem?_cons_zero, List.getElem?_cons_succ, Option.getD_some]
      iterate 5 (first | (apply wpL_skip rfl; go_frame) | (apply wpL_float rfl rfl; (intro W hW; have z0 := hW.cell (fun h => h) d0; have z1 := hW.cell (fun h => h) d1; have z2 := hW.cell (fun h => h) d2; go_simp; rfl); go_frame))
      apply wpL_loud rfl rfl
      intro K hK
      go_wp2_with fail
      refine (HM.out _).mono ?_
      rintro e w' ⟨rfl, rfl⟩
      go_wp2_with fail
      refine hK _ _ (fun _ => (Kept.refl _ _).drew) ?_
      clear hK
      iterate 20 (first | (apply wpL_skip rfl; go_frame) | (apply wpL_float rfl rfl; (intro W hW; have z0 := hW.cell (fun h => h) d0; have z1 := hW.cell (fun h => h) d1; have z2 := hW.cell (fun h => h) d2; go_simp; rfl); go_frame))
      refine wpL_nil (fun _ => (Kept.refl _ _).drew) ?_
      go_wp2_with fail
      obtain ⟨W1, hW1⟩ : ∃ W1, W0.drew = W1 := ⟨_, rfl⟩
      have k1 : Kept none' W0 W1 := by rw [← hW1]; exact (Kept.refl _ _).drew
      have KK := Lib.hid (HK.out.trans (by rw [HW0.out]; exact k1))
      have HW1 := Lib.hid k1
      rw [hW1]
      clear hW1 k1
      go_loopg [36] x.args.length (fun g vi wr => ∃ k : Nat, k ≤ x.args.length ∧ vi = .int .i64 (k : Int) ∧ x.args.length - k ≤ g ∧ (x.args.take k).all (exMay f) = true ∧ Kept none' W0 wr)
      case atStart => exact ⟨0, by omega, rfl, by omega, by simp, HW1.out⟩
      case round =>
        obtain ⟨k, hkl, rfl, hg, ht, hkp⟩ := hrel
        have HT := Lib.hid (And.intro hg ht)
        clear hg ht
        by_cases hlt : k < x.args.length
        · obtain ⟨y, hy⟩ : ∃ y, x.args[k]? = some y := ⟨_, List.getElem?_eq_getElem hlt⟩
          obtain ⟨b, off, p', cap', rfl, q0, q1, q2, hy2⟩ := H5.out k y hy
          have hW := (HK.out.trans (by rw [HW0.out]; exact hkp) : Kept none' w wr)
          have r0 := hW.cell (p := ⟨b, off + k * 3, none⟩) (fun h => h) q0
          have r1 := hW.cell (p := ⟨b, off + k * 3 + 1, none⟩) (fun h => h) q1
          have r2 := hW.cell (p := ⟨b, off + k * 3 + 2, none⟩) (fun h => h) q2
          have HY := Lib.hid (And.intro hy (ExAt.pure hW hy2))
          have HWW := Lib.hid (And.intro hW hkp)
          clear q0 q1 q2 hy hy2 hW hkp H5
          go_wp2_with fail
          have c := IH.out y _ (L - 1) (wr.alloc (.cells #[.int .u8 y.op, .int .i64 y.n, .slice p' y.args.length cap'] 52)) (by have := HL.out; omega) (by omega) (ExAt.pure ((Kept.refl _ _).alloc _) HY.out.2)
          refine c.mono ?_
          clear c
          rintro e w2 ⟨rfl, k2⟩
          have k3 : Kept none' wr w2 := ((Kept.refl _ _).alloc _).trans k2
          have HK3 := Lib.hid k3
          clear k2 k3
          cases hm : exMay f y with
          | false =>
            have HMy := Lib.hid hm
            clear hm
            go_wp2_with fail
            go_ret
            exact ⟨rbool (not_all HY.out.1 HMy.out).symm, HWW.out.1.trans HK3.out⟩
          | true =>
            have HMy := Lib.hid hm
            clear hm
            go_wp2_with fail
            go_roundg (x.args.length - (k + 1))
            case rel => exact ⟨k + 1, by omega, by go_num, Nat.le_refl _, all_take_succ HY.out.1 HT.out.2 HMy.out, HWW.out.2.trans HK3.out⟩
            case measure => have := HT.out.1; omega
        · go_wp2_with fail
          go_ret
          exact ⟨rbool (all_of_take HT.out.2 (by omega)).symm, HK.out.trans (by rw [HW0.out]; exact hkp)⟩
  clear HM HW0 HK d0 d1 d2
  apply main
  by_cases c4 : 0 < x.n
  · right; refine ⟨decide_eq_true c4, ?_⟩
    have : x.op = 1 := by omega
    simp [this]
  · left; exact decide_eq_false c4
theorem may_any : ∀ f, MayAny f
  | 0 => fun x a L w hL hf h => by
    have := may_no x a L w (by omega) (by omega) h (.inr (.inr (.inr (by omega))))
    exact this
  | f + 1 => fun x a L w hL hf h => by
    by_cases c1 : arity x.op = x.args.length
    · by_cases c2 : x.n < 0
      · have e : exMay (f + 1) x = false := by rw [exMay_mk]; simp; omega
        rw [e]; exact may_no x a L w (by omega) (by omega) h (.inr (.inl c2))
      · by_cases c3 : 0 < x.n ∧ x.op ≠ 1
        · have e : exMay (f + 1) x = false := by rw [exMay_mk]; simp; omega
          rw [e]; exact may_no x a L w (by omega) (by omega) h (.inr (.inr (.inl c3)))
        · exact may_yes f (may_any f) x a L w hL hf h c1 c2 c3
    · have e : exMay (f + 1) x = false := by rw [exMay_mk]; simp [c1]
      rw [e]; exact may_no x a L w (by omega) (by omega) h (.inl c1)
theorem May_any (x : Ex) (a : Array Value) (w : World) (h : ExAt w a x) : Calls Try.prog 122 #[.agg a] w (Gives w (.bool (exMay 16 x))) := by
  obtain ⟨p, cap, rfl, h0, h1, h2, h3, h4, h5⟩ := h.parts
  have H := Lib.hid h
  clear h h5
  go_enter Try.func122, Try.ntmps122
  go_wp2_with fail
  have k1 : Kept none' w (w.alloc (.cells #[.int .u8 x.op, .int .i64 x.n, .slice p x.args.length cap] 52)) := (Kept.refl _ _).alloc _
  refine (may_any 16 x _ 16 _ rfl (Nat.le_refl _) (ExAt.pure k1 H.out)).mono ?_
  rintro e w2 ⟨rfl, k2⟩
  go_wp2_with fail
  go_ret
  exact ⟨rfl, k1.trans k2⟩
end Go.Proofs.Ytaalpijohdlabaa
/-
  The rules of the types, in memory: rules.
-/
namespace Go.Proofs.Ytaalpijohdlabaa
open Go Go.RowKit
def keyV (k : Int × Int × Int × Int) : Value := .agg #[.int .u8 k.1, .int .u8 k.2.1, .int .u8 k.2.2.1, .int .u8 k.2.2.2]
def rents : List Rul → Nat → List MapEntry
  | [], _ => []
  | r :: l, i => { key := keyV r.1, val := .int .u8 r.2, born := i } :: rents l (i + 1)
/-- Block m is a map that holds rules. -/
def RulAt (w : World) (m : Nat) (E : List Rul) : Prop := w.heap[m]? = some (.map (rents E 0).toArray E.length)
theorem rents_snoc (r : Rul) : ∀ (E : List Rul) (i : Nat), rents (E ++ [r]) i = rents E i ++ [{ key := keyV r.1, val := .int .u8 r.2, born := i + E.length }]
  | [], i => rfl
  | x :: E, i => by
    simp only [List.cons_append, rents, rents_snoc r E (i + 1), List.length_cons]
    congr 3
    simp; omega
theorem rul_check (k : Int × Int × Int × Int) (b : Bool) (w : World) : (Instr.checkKey b 10000 176 (keyV k)).run Try.prog w = .ok () w := by kernel_rfl
theorem eq_u8 (d : Nat) (a b : Int) (w : World) : (Op.equalIn (d + 1) 5 (.int .u8 a) (.int .u8 b)).run Try.prog w = .ok (a == b) w := by
  simp [Op.equalIn, run_underlying Try.underlying5]
theorem part5 (a b c : Value) (w : World) : (part 5 #[a, b, c] 0).run Try.prog w = .ok a w ∧ (part 5 #[a, b, c] 1).run Try.prog w = .ok b w ∧ (part 5 #[a, b, c] 2).run Try.prog w = .ok c w := by
  refine ⟨?_, ?_, ?_⟩ <;> kernel_rfl
theorem eq_arr (d : Nat) (a b c a' b' c' : Int) (w : World) : (Op.equalIn (d + 2) 174 (.agg #[.int .u8 a, .int .u8 b, .int .u8 c]) (.agg #[.int .u8 a', .int .u8 b', .int .u8 c'])).run Try.prog w = .ok (decide (a = a' ∧ b = b' ∧ c = c')) w := by
  rw [Op.equalIn]
  simp [run_underlying Try.underlying174, Std.Legacy.Range.forIn_eq_forIn_range', List.range', part5, eq_u8]
  by_cases h1 : a = a' <;> by_cases h2 : b = b' <;> by_cases h3 : c = c' <;> simp [h1, h2, h3]
theorem part_row (a b c d : Value) (w : World) : (part 5 #[a, b, c, d] 0).run Try.prog w = .ok a w ∧ (part 174 #[a, b, c, d] 1).run Try.prog w = .ok (.agg #[b, c, d]) w := by
  refine ⟨?_, ?_⟩ <;> kernel_rfl
theorem rul_equal (k k' : Int × Int × Int × Int) (w : World) : (Op.equal 176 (keyV k) (keyV k')).run Try.prog w = .ok (decide (k = k')) w := by
  obtain ⟨a, b, c, d⟩ := k
  obtain ⟨a', b', c', d'⟩ := k'
  have h1 := fun w => eq_u8 9998 a a' w
  have h2 := fun w => eq_arr 9997 b c d b' c' d' w
  unfold Op.equal Op.maxDepth keyV
  rw [Op.equalIn]
  simp [run_underlying Try.underlying176, part_row, h1, h2]
  by_cases e1 : a = a' <;> simp [e1]
  split <;> simp_all
/-- A key that is not there. -/
theorem rul_new (k : Int × Int × Int × Int) (w : World) : ∀ (E : List Rul) (i j : Nat), (∀ r ∈ E, r.1 ≠ k) → (Instr.findAsking 176 (keyV k) (rents E i) j).run Try.prog w = .ok none w
  | [], _, _, _ => rfl
  | r :: E, i, j, h => by
    have h1 : decide (k = r.1) = false := decide_eq_false fun e => h r (by simp) e.symm
    simp only [rents, Instr.findAsking, Sem.run_bind, rul_equal, Result.andThen_ok, h1]
    exact rul_new k w E (i + 1) (j + 1) (fun x hx => h x (by simp [hx]))
theorem rul_old (k : Int × Int × Int × Int) (w : World) : ∀ (E : List Rul) (i j : Nat), (Instr.findAsking 176 (keyV k) (rents E i) j).run Try.prog w = .ok none w ∧ E.find? (fun r => r.1 == k) = none ∨
    ∃ n r, (Instr.findAsking 176 (keyV k) (rents E i) j).run Try.prog w = .ok (some (n, .int .u8 r.2)) w ∧ E.find? (fun r => r.1 == k) = some r
  | [], _, _ => .inl ⟨rfl, rfl⟩
  | r :: E, i, j => by
    by_cases h : k = r.1
    · right
      have h1 : decide (k = r.1) = true := decide_eq_true h
      have h2 : (r.1 == k) = true := by rw [h]; exact beq_self_eq_true r.1
      refine ⟨j, r, ?_, by rw [List.find?_cons_of_pos (l := E) (by exact h2)]⟩
      simp only [rents, Instr.findAsking, Sem.run_bind, rul_equal, Result.andThen_ok, h1]
      rfl
    · have h1 : decide (k = r.1) = false := decide_eq_false h
      have h2 : ¬ (r.1 == k) = true := by simp; exact fun e => h e.symm
      simp only [rents, Instr.findAsking, Sem.run_bind, rul_equal, Result.andThen_ok, h1]
      rw [List.find?_cons_of_neg (l := E) (by exact h2)]
      exact rul_old k w E (i + 1) (j + 1)
theorem find_now (k : Int × Int × Int × Int) (E : List Rul) (w : World) : (Instr.findKey 176 (keyV k) (rents E 0)).run Try.prog w = (Instr.findAsking 176 (keyV k) (rents E 0) 0).run Try.prog w := by
  unfold Instr.findKey
  simp only [Sem.run_bind, run_underlying Try.underlying176, Result.andThen_ok]
  cases E with
  | nil => rfl
  | cons r E => rfl
theorem RulAt.lookup {w : World} {m : Nat} (h : RulAt w m rulesL) (k : Int × Int × Int × Int) : (Instr.lookup 164 (.map (some m)) (keyV k) false).run Try.prog w = .ok (.int .u8 (ruleTy k)) w := by
  have hg : (getObj m).run Try.prog w = .ok (.map (rents rulesL 0).toArray rulesL.length) w := by simp [getObj, Sem.run, show w.heap[m]? = _ from h]
  have hz : (zeroValue 5).run Try.prog w = .ok (.int .u8 0) w := by kernel_rfl
  simp only [Instr.lookup, Sem.run_bind, run_underlying Try.underlying164, Result.andThen_ok, hg, rul_check]
  simp only [Sem.run_pure, Result.andThen_ok, find_now]
  rcases rul_old k w rulesL 0 0 with ⟨h1, h2⟩ | ⟨n, r, h1, h2⟩
  · rw [h1]
    simp only [Result.andThen_ok, hz, Sem.run_bind, Sem.run_pure]
    unfold ruleTy
    rw [h2]; rfl
  · rw [h1]
    simp only [Result.andThen_ok]
    unfold ruleTy
    rw [h2]; rfl
theorem RulAt.put {w : World} {m : Nat} {E : List Rul} (h : RulAt w m E) (r : Rul) (hn : ∀ x ∈ E, x.1 ≠ r.1) :
    ∃ w', (Instr.mapUpdate 164 (.map (some m)) (keyV r.1) (.int .u8 r.2)).run Try.prog w = .ok () w' ∧ RulAt w' m (E ++ [r]) ∧ Kept (one m) w w' := by
  have hg : (getObj m).run Try.prog w = .ok (.map (rents E 0).toArray E.length) w := by simp [getObj, Sem.run, show w.heap[m]? = _ from h]
  refine ⟨World.setMap w m (rents (E ++ [r]) 0).toArray (E ++ [r]).length, ?_, setMap_heap h _ _, setMap_kept _ _ _ _⟩
  simp only [Instr.mapUpdate, Sem.run_bind, run_underlying Try.underlying164, Result.andThen_ok, hg, rul_check, find_now, rul_new r.1 w E 0 0 hn]
  rw [rents_snoc]
  have := run_setMap (P := Try.prog) (es' := ((rents E 0).toArray.push { key := keyV r.1, val := .int .u8 r.2, born := E.length })) (clock' := E.length + 1) h
  rw [this]
  simp
theorem RulAt.kept {w w' : World} {m : Nat} {E : List Rul} {S : Nat → Prop} (h : RulAt w m E) (hk : Kept S w w') (hn : ¬ S m) : RulAt w' m E := hk.heap h hn
end Go.Proofs.Ytaalpijohdlabaa
