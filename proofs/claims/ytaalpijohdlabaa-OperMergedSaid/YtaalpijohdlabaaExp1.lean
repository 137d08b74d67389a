/-
  What expressions are, in plain words: whether they may be, their types, what they come to.
-/
import Derived.WalkKit
import Derived.Test.YtaalpijohdlabaaSpec
namespace Go.Proofs.Ytaalpijohdlabaa
open Go Go.RowKit
/-- An expression: its kind, its number, of what it is. -/
inductive Ex where
  | mk (op n : Int) (args : List Ex)
instance : Inhabited Ex := ⟨.mk 0 0 []⟩
def Ex.op : Ex → Int | .mk o _ _ => o
def Ex.n : Ex → Int | .mk _ n _ => n
def Ex.args : Ex → List Ex | .mk _ _ l => l
def arity (op : Int) : Int := if op = 0 ∨ 18 < op then -1 else if op ≤ 4 then 0 else if op ≤ 6 then 1 else if op = 18 then 3 else 2
def exMay : Nat → Ex → Bool
  | 0, _ => false
  | f + 1, .mk op n args => decide (arity op = args.length) && decide (0 ≤ n) && decide (n = 0 ∨ op = 1) && args.all (exMay f)
/-- A rule: a kind, the types of what it is of, its type. -/
abbrev Rul := (Int × Int × Int × Int) × Int
def rulesL : List Rul :=
  [((1, 0, 0, 0), 1), ((2, 0, 0, 0), 1), ((3, 0, 0, 0), 1), ((4, 0, 0, 0), 1), ((5, 1, 0, 0), 1),
   ((7, 1, 1, 0), 1), ((8, 1, 1, 0), 1), ((9, 1, 1, 0), 1), ((10, 1, 1, 0), 1), ((11, 1, 1, 0), 1), ((6, 2, 0, 0), 2),
   ((16, 2, 2, 0), 2), ((17, 2, 2, 0), 2), ((14, 2, 2, 0), 2), ((15, 2, 2, 0), 2),
   ((12, 1, 1, 0), 2), ((13, 1, 1, 0), 2), ((14, 1, 1, 0), 2), ((15, 1, 1, 0), 2), ((18, 2, 1, 1), 1), ((18, 2, 2, 2), 2)]
def ruleTy (k : Int × Int × Int × Int) : Int := ((rulesL.find? fun r => r.1 == k).map (·.2)).getD 0
def exTy : Nat → Ex → Int
  | 0, _ => 0
  | f + 1, .mk op _ args => if (args.map (exTy f)).contains 0 then 0 else ruleTy (op, (args.map (exTy f)).getD 0 0, (args.map (exTy f)).getD 1 0, (args.map (exTy f)).getD 2 0)
/-- What an expression comes to: a number, or a truth. -/
inductive EV where
  | num (n : Int)
  | tru (b : Bool)
def EV.ty : EV → Int | .num _ => 1 | .tru _ => 2
def EV.n : EV → Int | .num n => n | .tru _ => 0
def EV.b : EV → Bool | .num _ => false | .tru b => b
def exTwo (op : Int) : EV → EV → EV
  | .num a, y => if op = 7 then .num (wrap64 (a + y.n)) else if op = 8 then .num (wrap64 (a - y.n)) else if op = 9 then .num (wrap64 (a * y.n))
    else if op = 12 then .tru (decide (a < y.n)) else if op = 13 then .tru (decide (a ≤ y.n)) else if op = 14 then .tru (a == y.n) else if op = 15 then .tru (a != y.n)
    else if y.n = 0 then .num 0 else if op = 10 then .num (wrap64 (a.tdiv y.n)) else .num (a.tmod y.n)
  | .tru a, y => if op = 16 then .tru (a && y.b) else if op = 17 then .tru (a || y.b) else if op = 14 then .tru (a == y.b) else .tru (a != y.b)
structure Env where
  key : Int
  val : Int
  acc : Int
def exDo : Nat → Env → Ex → EV
  | 0, _, _ => .num 0
  | f + 1, env, .mk op n args =>
    if op = 1 then .num n else if op = 2 then .num env.key else if op = 3 then .num env.val else if op = 4 then .num env.acc
    else if op = 5 then .num (wrap64 (-(exDo f env (args.getD 0 default)).n))
    else if op = 6 then .tru (!(exDo f env (args.getD 0 default)).b)
    else if op = 18 then (if (exDo f env (args.getD 0 default)).b then exDo f env (args.getD 1 default) else exDo f env (args.getD 2 default))
    else exTwo op (exDo f env (args.getD 0 default)) (exDo f env (args.getD 1 default))
/-- It may be, and has a type. -/
def exOk (x : Ex) : Bool := exMay 16 x && exTy 16 x != 0
def exInt (x : Ex) (env : Env) : Int := if exOk x then (exDo 16 env x).n else 0
def exBool (x : Ex) (env : Env) : Bool := exOk x && (exDo 16 env x).b
theorem ruleTy_mem {k : Int × Int × Int × Int} (h : ruleTy k ≠ 0) : (k, ruleTy k) ∈ rulesL := by
  unfold ruleTy at *
  cases hf : rulesL.find? (fun r => r.1 == k) with
  | none => rw [hf] at h; exact absurd rfl h
  | some r =>
    have h1 := List.find?_some hf
    have h2 := List.mem_of_find?_eq_some hf
    simp only [beq_iff_eq] at h1
    simp only [Option.map_some, Option.getD_some]
    rw [← h1]; exact h2
/-- What a rule's kind may be, by its type and those of what it is of. -/
theorem ruleTy_cases {op a b c : Int} (h : ruleTy (op, a, b, c) ≠ 0) :
    (ruleTy (op, a, b, c) = 1 ∧ ((op = 1 ∨ op = 2 ∨ op = 3 ∨ op = 4) ∨ (op = 5 ∧ a = 1) ∨ ((op = 7 ∨ op = 8 ∨ op = 9 ∨ op = 10 ∨ op = 11) ∧ a = 1 ∧ b = 1) ∨ (op = 18 ∧ a = 2 ∧ b = 1 ∧ c = 1))) ∨
    (ruleTy (op, a, b, c) = 2 ∧ ((op = 6 ∧ a = 2) ∨ ((op = 16 ∨ op = 17 ∨ op = 14 ∨ op = 15) ∧ a = 2 ∧ b = 2) ∨ ((op = 12 ∨ op = 13 ∨ op = 14 ∨ op = 15) ∧ a = 1 ∧ b = 1) ∨ (op = 18 ∧ a = 2 ∧ b = 2 ∧ c = 2))) := by
  have h1 := ruleTy_mem h
  clear h
  generalize ruleTy (op, a, b, c) = t at *
  simp only [rulesL, List.mem_cons, List.not_mem_nil, or_false, Prod.mk.injEq] at h1
  rcases h1 with h1 | h1 | h1 | h1 | h1 | h1 | h1 | h1 | h1 | h1 | h1 | h1 | h1 | h1 | h1 | h1 | h1 | h1 | h1 | h1 | h1 <;>
    (obtain ⟨⟨rfl, rfl, rfl, rfl⟩, rfl⟩ := h1; decide)
theorem wrap_r64 (n : Int) : R64 (wrap64 n) := by unfold R64 wrap64; omega
theorem exMay_args {f : Nat} {op n : Int} {args : List Ex} (h : exMay (f + 1) (.mk op n args) = true) : arity op = args.length ∧ 0 ≤ n ∧ (n = 0 ∨ op = 1) ∧ ∀ a ∈ args, exMay f a = true := by
  simp only [exMay, Bool.and_eq_true, decide_eq_true_eq, List.all_eq_true] at h
  exact ⟨h.1.1.1, h.1.1.2, h.1.2, h.2⟩
theorem exTy_args {f : Nat} {op n : Int} {args : List Ex} (h : exTy (f + 1) (.mk op n args) ≠ 0) :
    (∀ a ∈ args, exTy f a ≠ 0) ∧ exTy (f + 1) (.mk op n args) = ruleTy (op, (args.map (exTy f)).getD 0 0, (args.map (exTy f)).getD 1 0, (args.map (exTy f)).getD 2 0) := by
  rw [exTy] at h ⊢
  by_cases hc : (args.map (exTy f)).contains 0 = true
  · rw [if_pos hc] at h; exact absurd rfl h
  · rw [if_neg hc]
    refine ⟨fun a ha e => hc ?_, rfl⟩
    simp only [List.contains_eq_mem, List.mem_map, decide_eq_true_eq]
    exact ⟨a, ha, e⟩
end Go.Proofs.Ytaalpijohdlabaa
