/-
  PLAIN WORDS, no program in sight: expressions, tables' laws, what a node makes of records.
-/
import Derived.WalkKit
import Derived.Test.YtmcoaebldobapaaGreatDoorD04
import Derived.Test.YtmcoaebldobapaaGreatDoorD34
set_option linter.unusedVariables false
set_option linter.unusedSimpArgs false
namespace Go.Proofs.YtmcoaebldobapaaGreatDoor
open Go Go.RowKit
theorem R64.small {n : Int} (h1 : -1000 ≤ n) (h2 : n ≤ 1000) : R64 n := ⟨by omega, by omega⟩
/-- An expression: its kind, its number, of what it is. -/
inductive Ex where
  | mk (op n : Int) (args : List Ex)
instance : Inhabited Ex := ⟨.mk 0 0 []⟩
def Ex.op : Ex → Int | .mk o _ _ => o
def Ex.n : Ex → Int | .mk _ n _ => n
def Ex.args : Ex → List Ex | .mk _ _ l => l
def arity (op : Int) : Int := if op = 0 ∨ 18 < op then -1 else if op ≤ 4 then 0 else if op ≤ 6 then 1 else if op = 18 then 3 else 2
def exMay : Nat → Ex → Bool
  | 0, _ => false
  | f + 1, .mk op n args => decide (arity op = args.length) && decide (0 ≤ n) && decide (n = 0 ∨ op = 1) && args.all (exMay f)
/-- A rule: a kind, the types of what it is of, its type. -/
abbrev Rul := (Int × Int × Int × Int) × Int
def rulesL : List Rul :=
  [((1, 0, 0, 0), 1), ((2, 0, 0, 0), 1), ((3, 0, 0, 0), 1), ((4, 0, 0, 0), 1), ((5, 1, 0, 0), 1),
   ((7, 1, 1, 0), 1), ((8, 1, 1, 0), 1), ((9, 1, 1, 0), 1), ((10, 1, 1, 0), 1), ((11, 1, 1, 0), 1), ((6, 2, 0, 0), 2),
   ((16, 2, 2, 0), 2), ((17, 2, 2, 0), 2), ((14, 2, 2, 0), 2), ((15, 2, 2, 0), 2),
   ((12, 1, 1, 0), 2), ((13, 1, 1, 0), 2), ((14, 1, 1, 0), 2), ((15, 1, 1, 0), 2), ((18, 2, 1, 1), 1), ((18, 2, 2, 2), 2)]
def ruleTy (k : Int × Int × Int × Int) : Int := ((rulesL.find? fun r => r.1 == k).map (·.2)).getD 0
def exTy : Nat → Ex → Int
  | 0, _ => 0
  | f + 1, .mk op _ args => if (args.map (exTy f)).contains 0 then 0 else ruleTy (op, (args.map (exTy f)).getD 0 0, (args.map (exTy f)).getD 1 0, (args.map (exTy f)).getD 2 0)
/-- What an expression comes to: a number, or a truth. -/
inductive EV where
  | num (n : Int)
  | tru (b : Bool)
def EV.ty : EV → Int | .num _ => 1 | .tru _ => 2
def EV.n : EV → Int | .num n => n | .tru _ => 0
def EV.b : EV → Bool | .num _ => false | .tru b => b
def exTwo (op : Int) : EV → EV → EV
  | .num a, y => if op = 7 then .num (wrap64 (a + y.n)) else if op = 8 then .num (wrap64 (a - y.n)) else if op = 9 then .num (wrap64 (a * y.n))
    else if op = 12 then .tru (decide (a < y.n)) else if op = 13 then .tru (decide (a ≤ y.n)) else if op = 14 then .tru (a == y.n) else if op = 15 then .tru (a != y.n)
    else if y.n = 0 then .num 0 else if op = 10 then .num (wrap64 (a.tdiv y.n)) else .num (a.tmod y.n)
  | .tru a, y => if op = 16 then .tru (a && y.b) else if op = 17 then .tru (a || y.b) else if op = 14 then .tru (a == y.b) else .tru (a != y.b)
structure Env where
  key : Int
  val : Int
  acc : Int
def exDo : Nat → Env → Ex → EV
  | 0, _, _ => .num 0
  | f + 1, env, .mk op n args =>
    if op = 1 then .num n else if op = 2 then .num env.key else if op = 3 then .num env.val else if op = 4 then .num env.acc
    else if op = 5 then .num (wrap64 (-(exDo f env (args.getD 0 default)).n))
    else if op = 6 then .tru (!(exDo f env (args.getD 0 default)).b)
    else if op = 18 then (if (exDo f env (args.getD 0 default)).b then exDo f env (args.getD 1 default) else exDo f env (args.getD 2 default))
    else exTwo op (exDo f env (args.getD 0 default)) (exDo f env (args.getD 1 default))
/-- It may be, and has a type. -/
def exOk (x : Ex) : Bool := exMay 16 x && exTy 16 x != 0
def exInt (x : Ex) (env : Env) : Int := if exOk x then (exDo 16 env x).n else 0
def exBool (x : Ex) (env : Env) : Bool := exOk x && (exDo 16 env x).b
theorem ruleTy_mem {k : Int × Int × Int × Int} (h : ruleTy k ≠ 0) : (k, ruleTy k) ∈ rulesL := by
  unfold ruleTy at *
  cases hf : rulesL.find? (fun r => r.1 == k) with
  | none => rw [hf] at h; exact absurd rfl h
  | some r =>
    have h1 := List.find?_some hf
    have h2 := List.mem_of_find?_eq_some hf
    simp only [beq_iff_eq] at h1
    simp only [Option.map_some, Option.getD_some]
    rw [← h1]; exact h2
/-- What a rule's kind may be, by its type and those of what it is of. -/
theorem ruleTy_cases {op a b c : Int} (h : ruleTy (op, a, b, c) ≠ 0) :
    (ruleTy (op, a, b, c) = 1 ∧ ((op = 1 ∨ op = 2 ∨ op = 3 ∨ op = 4) ∨ (op = 5 ∧ a = 1) ∨ ((op = 7 ∨ op = 8 ∨ op = 9 ∨ op = 10 ∨ op = 11) ∧ a = 1 ∧ b = 1) ∨ (op = 18 ∧ a = 2 ∧ b = 1 ∧ c = 1))) ∨
    (ruleTy (op, a, b, c) = 2 ∧ ((op = 6 ∧ a = 2) ∨ ((op = 16 ∨ op = 17 ∨ op = 14 ∨ op = 15) ∧ a = 2 ∧ b = 2) ∨ ((op = 12 ∨ op = 13 ∨ op = 14 ∨ op = 15) ∧ a = 1 ∧ b = 1) ∨ (op = 18 ∧ a = 2 ∧ b = 2 ∧ c = 2))) := by
  have h1 := ruleTy_mem h
  clear h
  generalize ruleTy (op, a, b, c) = t at *
  simp only [rulesL, List.mem_cons, List.not_mem_nil, or_false, Prod.mk.injEq] at h1
  rcases h1 with h1 | h1 | h1 | h1 | h1 | h1 | h1 | h1 | h1 | h1 | h1 | h1 | h1 | h1 | h1 | h1 | h1 | h1 | h1 | h1 | h1 <;>
    (obtain ⟨⟨rfl, rfl, rfl, rfl⟩, rfl⟩ := h1; decide)
theorem wrap_r64 (n : Int) : R64 (wrap64 n) := by unfold R64 wrap64; omega
theorem exMay_args {f : Nat} {op n : Int} {args : List Ex} (h : exMay (f + 1) (.mk op n args) = true) : arity op = args.length ∧ 0 ≤ n ∧ (n = 0 ∨ op = 1) ∧ ∀ a ∈ args, exMay f a = true := by
  simp only [exMay, Bool.and_eq_true, decide_eq_true_eq, List.all_eq_true] at h
  exact ⟨h.1.1.1, h.1.1.2, h.1.2, h.2⟩
theorem exTy_args {f : Nat} {op n : Int} {args : List Ex} (h : exTy (f + 1) (.mk op n args) ≠ 0) :
    (∀ a ∈ args, exTy f a ≠ 0) ∧ exTy (f + 1) (.mk op n args) = ruleTy (op, (args.map (exTy f)).getD 0 0, (args.map (exTy f)).getD 1 0, (args.map (exTy f)).getD 2 0) := by
  rw [exTy] at h ⊢
  by_cases hc : (args.map (exTy f)).contains 0 = true
  · rw [if_pos hc] at h; exact absurd rfl h
  · rw [if_neg hc]
    refine ⟨fun a ha e => hc ?_, rfl⟩
    simp only [List.contains_eq_mem, List.mem_map, decide_eq_true_eq]
    exact ⟨a, ha, e⟩
theorem tmany_tput {k : Int} {c : Cell} {g : Int} : ∀ {T : Tab}, Rises T → tmany (tput k c T) g = tmany T g + (if tget T k = none ∧ grp k = g then 1 else 0)
  | [], _ => by simp [tmany, tput, tget, List.countP_cons]
  | q :: r, h => by
    obtain ⟨h1, h2⟩ := List.pairwise_cons.1 h
    unfold tput
    split
    · rename_i hl
      have hne : k ≠ q.1 := fun e => by rw [e, lessB_irrefl] at hl; cases hl
      have ih := tmany_tput (k := k) (c := c) (g := g) h2
      have hg : tget (q :: r) k = tget r k := by
        have hf : (k == q.1) = false := by simp [hne]
        unfold tget; rw [List.find?_cons, hf]
      rw [hg]
      unfold tmany at *
      rw [List.countP_cons, List.countP_cons, ih]
      omega
    · rename_i hl
      split
      · rename_i he
        have hg : tget (q :: r) k ≠ none := by unfold tget; rw [List.find?_cons]; simp [he]
        rw [if_neg (fun h => hg h.1)]
        unfold tmany
        rw [List.countP_cons, List.countP_cons]
        simp only [he]
        omega
      · rename_i he
        have hkq : lessB k q.1 = true := (lessB_total he).resolve_left hl
        have hg : tget (q :: r) k = none := by
          rw [tget_none]
          unfold tkeys
          intro hm
          obtain ⟨p, hp, e⟩ := List.mem_map.1 hm
          rcases List.mem_cons.1 hp with rfl | hp
          · exact he e
          · have := lessB_trans hkq (h1 p hp); rw [e, lessB_irrefl] at this; cases this
        rw [hg]
        unfold tmany
        rw [List.countP_cons]
        simp
theorem TOk.tput {T : Tab} (h : TOk T) {k : Int} {c : Cell} (hk : R64 k) (hc : COk c) (hm : tget T k ≠ none ∨ tmany T (grp k) < 40) : TOk (tput k c T) := by
  refine ⟨h.rises.tput, fun p hp => ?_, fun p hp => ?_, fun g => ?_⟩
  · rcases (mem_tput h.rises).1 hp with rfl | hp
    · exact hk
    · exact h.key p hp.1
  · rcases (mem_tput h.rises).1 hp with rfl | hp
    · exact hc
    · exact h.cell p hp.1
  · rw [tmany_tput h.rises]
    split
    · rename_i hh
      obtain ⟨h1, rfl⟩ := hh
      have := hm.resolve_left (fun h => h h1)
      omega
    · have := h.many g; omega
/-- What Put answers. -/
def putE (T : Tab) (k : Int) (n : Nat) : Int := if 16 < n then 2 else if tget T k = none ∧ 40 ≤ tmany T (grp k) then 7 else 0
/-- What Put leaves. -/
def putT (T : Tab) (k : Int) (c : Cell) : Tab := if putE T k c.2.length = 0 then tput k c T else T
theorem TOk.tdrop {T : Tab} (h : TOk T) (k : Int) : TOk (tdrop k T) :=
  ⟨h.rises.tdrop, fun p hp => h.key p (mem_tdrop.1 hp).1, fun p hp => h.cell p (mem_tdrop.1 hp).1, fun g => Nat.le_trans (List.Sublist.countP_le List.filter_sublist) (h.many g)⟩
theorem tmany_sum (T : Tab) : T.length = tmany T 0 + tmany T 1 + tmany T 2 + tmany T 3 + tmany T 4 + tmany T 5 + tmany T 6 + tmany T 7 := by
  unfold tmany
  induction T with
  | nil => rfl
  | cons p r ih =>
    have h1 := grp_lo p.1
    have h2 := grp_hi p.1
    simp only [List.length_cons, List.countP_cons, ih]
    have h3 : grp p.1 = 0 ∨ grp p.1 = 1 ∨ grp p.1 = 2 ∨ grp p.1 = 3 ∨ grp p.1 = 4 ∨ grp p.1 = 5 ∨ grp p.1 = 6 ∨ grp p.1 = 7 := by omega
    rcases h3 with h | h | h | h | h | h | h | h <;> simp [h] <;> omega
theorem TOk.len {T : Tab} (h : TOk T) : T.length ≤ 320 := by
  have := tmany_sum T
  have := h.many 0; have := h.many 1; have := h.many 2; have := h.many 3; have := h.many 4; have := h.many 5; have := h.many 6; have := h.many 7
  omega
/-- A node: its kind, its expression, its number. -/
structure Nod where
  kind : Int
  x : Ex
  n : Int
def envOf (r : Rec) : Env := ⟨r.key, r.val, 0⟩
def flatL (r : Rec) (k : Nat) : List Rec := (List.range k).map fun (i : Nat) => (⟨wrap64 (wrap64 (8 * r.pos) + (i : Int)), r.key, wrap64 (r.val + (i : Int))⟩ : Rec)
def flatN (x : Int) : Nat := (min x 4).toNat
def sumW (l : List Int) : Int := l.foldl (fun a x => wrap64 (a + x)) 0
def cellOf (T : Tab) (k : Int) : Cell := (tget T k).getD (0, [])
/-- What a node makes of a record, and of its table. -/
def stepNode (nd : Nod) (T : Tab) (r : Rec) : List Rec × Tab :=
  if nd.kind = 2 then ([{ r with val := exInt nd.x (envOf r) }], T)
  else if nd.kind = 5 then ([{ r with key := exInt nd.x (envOf r) }], T)
  else if nd.kind = 3 then (if exBool nd.x (envOf r) then [r] else [], T)
  else if nd.kind = 4 then (flatL r (flatN (exInt nd.x (envOf r))), T)
  else if nd.kind = 6 then
    (if putE T r.key 0 = 0 then [{ r with val := exInt nd.x { envOf r with acc := (cellOf T r.key).1 } }] else [],
     putT T r.key (exInt nd.x { envOf r with acc := (cellOf T r.key).1 }, []))
  else if nd.kind = 7 then
    (if putE T r.key ((cellOf T r.key).2.length + 1) ≠ 0 ∨ (((cellOf T r.key).2.length + 1 : Nat) : Int) < nd.n then ([], putT T r.key ((cellOf T r.key).1, (cellOf T r.key).2 ++ [r.val]))
     else ([{ r with val := sumW ((cellOf T r.key).2 ++ [r.val]) }], tdrop r.key (putT T r.key ((cellOf T r.key).1, (cellOf T r.key).2 ++ [r.val]))))
  else ([r], T)
def doNode (nd : Nod) : Tab → List Rec → List Rec × Tab
  | T, [] => ([], T)
  | T, r :: l => ((stepNode nd T r).1 ++ (doNode nd (stepNode nd T r).2 l).1, (doNode nd (stepNode nd T r).2 l).2)
theorem doNode_snoc (nd : Nod) (r : Rec) : ∀ (l : List Rec) (T : Tab), doNode nd T (l ++ [r]) = ((doNode nd T l).1 ++ (stepNode nd (doNode nd T l).2 r).1, (stepNode nd (doNode nd T l).2 r).2)
  | [], T => by simp [doNode]
  | x :: l, T => by simp only [List.cons_append, doNode, doNode_snoc nd r l]; simp
theorem doNode_append (nd : Nod) : ∀ (l m : List Rec) (T : Tab), doNode nd T (l ++ m) = ((doNode nd T l).1 ++ (doNode nd (doNode nd T l).2 m).1, (doNode nd (doNode nd T l).2 m).2)
  | [], m, T => by simp [doNode]
  | x :: l, m, T => by simp only [List.cons_append, doNode, doNode_append nd l m]; simp

structure EnvOk (env : Env) : Prop where
  key : R64 env.key
  val : R64 env.val
  acc : R64 env.acc
theorem zero_r64 : R64 0 := ⟨by omega, by omega⟩
structure RecOk (r : Rec) : Prop where
  pos : R64 r.pos
  key : R64 r.key
  val : R64 r.val
theorem envOf_ok {r : Rec} (h : RecOk r) : EnvOk (envOf r) := ⟨h.key, h.val, zero_r64⟩
theorem recOk_small {p k v : Int} (h1 : -1000 ≤ p ∧ p ≤ 1000) (h2 : -1000 ≤ k ∧ k ≤ 1000) (h3 : -1000 ≤ v ∧ v ≤ 1000) : RecOk ⟨p, k, v⟩ := ⟨.small h1.1 h1.2, .small h2.1 h2.2, .small h3.1 h3.2⟩
def wideR (b : Nat) (r : Rec) : Rec := { r with pos := wrap64 (wrap64 (8 * r.pos) + (b : Int)) }
def wideL : Nat → List (List Rec) → List (List Rec)
  | _, [] => []
  | b, L :: LL => L.map (wideR b) :: wideL (b + 1) LL
def getsL (kind : Int) (LL : List (List Rec)) : List Rec := smerge (if kind = 8 then wideL 0 LL else LL).flatten
theorem wideL_length : ∀ (b : Nat) (LL : List (List Rec)), (wideL b LL).length = LL.length
  | _, [] => rfl
  | b, L :: LL => by simp [wideL, wideL_length (b + 1) LL]
theorem wideL_get : ∀ (b : Nat) (LL : List (List Rec)) (i : Nat), (wideL b LL)[i]? = LL[i]?.map (fun L => L.map (wideR (b + i)))
  | _, [], i => by simp [wideL]
  | b, L :: LL, 0 => by simp [wideL]
  | b, L :: LL, i + 1 => by
    simp only [wideL, List.getElem?_cons_succ, wideL_get (b + 1) LL i]
    congr 2; funext L; congr 2; omega
theorem wideL_flat : ∀ (b : Nat) (LL : List (List Rec)), (wideL b LL).flatten.length = LL.flatten.length
  | _, [] => rfl
  | b, L :: LL => by simp [wideL, wideL_flat (b + 1) LL]
end Go.Proofs.YtmcoaebldobapaaGreatDoor
