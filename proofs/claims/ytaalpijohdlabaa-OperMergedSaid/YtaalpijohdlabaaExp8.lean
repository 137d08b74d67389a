/-
  What an expression comes to: do.
-/
import Derived.Test.YtaalpijohdlabaaExp7
namespace Go.Proofs.Ytaalpijohdlabaa
open Go Go.RowKit
attribute [local irreducible] wpL
structure EnvOk (env : Env) : Prop where
  key : R64 env.key
  val : R64 env.val
  acc : R64 env.acc
abbrev envV (env : Env) : Value := .agg #[.int .i64 env.key, .int .i64 env.val, .int .i64 env.acc]
theorem tmod_r64 {a b : Int} (h : R64 a) : R64 (a.tmod b) := by
  unfold R64 at *
  cases a with
  | ofNat m =>
    cases b with
    | ofNat n => show _ ≤ ((m % n : Nat) : Int) ∧ ((m % n : Nat) : Int) ≤ _; have := Nat.mod_le m n; simp only [Int.ofNat_eq_natCast] at h; omega
    | negSucc n => show _ ≤ ((m % (n + 1) : Nat) : Int) ∧ ((m % (n + 1) : Nat) : Int) ≤ _; have := Nat.mod_le m (n + 1); simp only [Int.ofNat_eq_natCast] at h; omega
  | negSucc m =>
    cases b with
    | ofNat n => show _ ≤ -(((m + 1) % n : Nat) : Int) ∧ -(((m + 1) % n : Nat) : Int) ≤ _; have := Nat.mod_le (m + 1) n; omega
    | negSucc n => show _ ≤ -(((m + 1) % (n + 1) : Nat) : Int) ∧ -(((m + 1) % (n + 1) : Nat) : Int) ≤ _; have := Nat.mod_le (m + 1) (n + 1); omega
theorem zero_r64 : R64 0 := ⟨by omega, by omega⟩
theorem exTwo_num {op a b : Int} (h : op = 7 ∨ op = 8 ∨ op = 9 ∨ op = 10 ∨ op = 11) (ha : R64 a) : (exTwo op (.num a) (.num b)).ty = 1 ∧ R64 (exTwo op (.num a) (.num b)).n := by
  rcases h with rfl | rfl | rfl | rfl | rfl
  · exact ⟨rfl, wrap_r64 _⟩
  · exact ⟨rfl, wrap_r64 _⟩
  · exact ⟨rfl, wrap_r64 _⟩
  · by_cases h0 : b = 0
    · subst h0; exact ⟨rfl, zero_r64⟩
    · have h2 : exTwo 10 (.num a) (.num b) = .num (wrap64 (a.tdiv b)) := by unfold exTwo; simp [EV.n, h0]
      rw [h2]; exact ⟨rfl, wrap_r64 _⟩
  · by_cases h0 : b = 0
    · subst h0; exact ⟨rfl, zero_r64⟩
    · have h2 : exTwo 11 (.num a) (.num b) = .num (a.tmod b) := by unfold exTwo; simp [EV.n, h0]
      rw [h2]; exact ⟨rfl, tmod_r64 ha⟩
theorem exTwo_cmp {op a b : Int} (h : op = 12 ∨ op = 13 ∨ op = 14 ∨ op = 15) : (exTwo op (.num a) (.num b)).ty = 2 ∧ R64 (exTwo op (.num a) (.num b)).n := by
  rcases h with rfl | rfl | rfl | rfl <;> exact ⟨rfl, zero_r64⟩
theorem exTwo_tru {op : Int} {a b : Bool} (h : op = 16 ∨ op = 17 ∨ op = 14 ∨ op = 15) : (exTwo op (.tru a) (.tru b)).ty = 2 ∧ R64 (exTwo op (.tru a) (.tru b)).n := by
  rcases h with rfl | rfl | rfl | rfl <;> exact ⟨rfl, zero_r64⟩
theorem EV.of1 {v : EV} (h : v.ty = 1) : ∃ n, v = .num n := by cases v with | num n => exact ⟨n, rfl⟩ | tru b => cases h
theorem EV.of2 {v : EV} (h : v.ty = 2) : ∃ b, v = .tru b := by cases v with | num n => cases h | tru b => exact ⟨b, rfl⟩
/-- The kinds of expressions, of what they are, and their types. -/
theorem ex_cases {f : Nat} {x : Ex} (hm : exMay (f + 1) x = true) (ht : exTy (f + 1) x ≠ 0) :
    (exTy (f + 1) x = 1 ∧ (x.op = 1 ∨ x.op = 2 ∨ x.op = 3 ∨ x.op = 4)) ∨
    (∃ a, x.args = [a] ∧ exMay f a = true ∧ (x.op = 5 ∧ exTy f a = 1 ∧ exTy (f + 1) x = 1 ∨ x.op = 6 ∧ exTy f a = 2 ∧ exTy (f + 1) x = 2)) ∨
    (∃ a b, x.args = [a, b] ∧ exMay f a = true ∧ exMay f b = true ∧ (((x.op = 7 ∨ x.op = 8 ∨ x.op = 9 ∨ x.op = 10 ∨ x.op = 11) ∧ exTy f a = 1 ∧ exTy f b = 1 ∧ exTy (f + 1) x = 1) ∨
      ((x.op = 12 ∨ x.op = 13 ∨ x.op = 14 ∨ x.op = 15) ∧ exTy f a = 1 ∧ exTy f b = 1 ∧ exTy (f + 1) x = 2) ∨ ((x.op = 16 ∨ x.op = 17 ∨ x.op = 14 ∨ x.op = 15) ∧ exTy f a = 2 ∧ exTy f b = 2 ∧ exTy (f + 1) x = 2))) ∨
    (∃ a b c, x.args = [a, b, c] ∧ exMay f a = true ∧ exMay f b = true ∧ exMay f c = true ∧ x.op = 18 ∧ exTy f a = 2 ∧ exTy f b = exTy (f + 1) x ∧ exTy f c = exTy (f + 1) x) := by
  obtain ⟨op, n, args⟩ := x
  obtain ⟨m1, _, _, m4⟩ := exMay_args hm
  obtain ⟨_, t2⟩ := exTy_args ht
  rw [t2] at ht ⊢
  simp only [Ex.op, Ex.args]
  match args, m1, m4 with
  | [], m1, m4 =>
    simp only [List.map_nil, List.getD_nil] at ht ⊢
    rcases ruleTy_cases ht with ⟨e, h | h | h | h⟩ | ⟨e, h | h | h | h⟩
    · exact .inl ⟨e, h⟩
    all_goals (exfalso; first | omega | (unfold arity at m1; simp at m1; omega))
  | [a], m1, m4 =>
    right; left
    simp only [List.map_cons, List.map_nil, List.getD_cons_zero, List.getD_cons_succ, List.getD_nil] at ht ⊢
    refine ⟨a, rfl, m4 a (by simp), ?_⟩
    rcases ruleTy_cases ht with ⟨e, h | h | h | h⟩ | ⟨e, h | h | h | h⟩
    all_goals first | omega | (exfalso; unfold arity at m1; simp at m1; omega)
  | [a, b], m1, m4 =>
    right; right; left
    simp only [List.map_cons, List.map_nil, List.getD_cons_zero, List.getD_cons_succ, List.getD_nil] at ht ⊢
    refine ⟨a, b, rfl, m4 a (by simp), m4 b (by simp), ?_⟩
    rcases ruleTy_cases ht with ⟨e, h | h | h | h⟩ | ⟨e, h | h | h | h⟩
    all_goals first | omega | (exfalso; unfold arity at m1; simp at m1; omega)
  | [a, b, c], m1, m4 =>
    right; right; right
    simp only [List.map_cons, List.map_nil, List.getD_cons_zero, List.getD_cons_succ] at ht ⊢
    refine ⟨a, b, c, rfl, m4 a (by simp), m4 b (by simp), m4 c (by simp), ?_⟩
    rcases ruleTy_cases ht with ⟨e, h | h | h | h⟩ | ⟨e, h | h | h | h⟩
    all_goals first | omega | (exfalso; unfold arity at m1; simp at m1; omega)
  | a :: b :: c :: d :: l, m1, m4 =>
    exfalso
    have := arity_le op
    simp only [List.length_cons] at m1
    omega
/-- An expression that has a type comes to a value of it. -/
theorem exDo_ty {w : World} {env : Env} (he : EnvOk env) : ∀ (f : Nat) (x : Ex) (a : Array Value), ExAt w a x → exMay f x = true → exTy f x ≠ 0 → (exDo f env x).ty = exTy f x ∧ R64 (exDo f env x).n
  | 0, x, _, _, hm, _ => by cases x; cases hm
  | f + 1, x, a, h, hm, ht => by
    obtain ⟨p, cap, _, _, _, h2, _, _, h5⟩ := h.parts
    have sub : ∀ (i : Nat) (y : Ex), x.args[i]? = some y → exMay f y = true → exTy f y ≠ 0 → (exDo f env y).ty = exTy f y ∧ R64 (exDo f env y).n := fun i y hy hm hz => by
      obtain ⟨b, off, p', cap', _, _, _, _, hq⟩ := h5 i y hy
      exact exDo_ty he f y _ hq hm hz
    rcases ex_cases hm ht with ⟨e, h⟩ | ⟨a, ha, m1, h⟩ | ⟨a, b, ha, m1, m2, h⟩ | ⟨a, b, c, ha, m1, m2, m3, e, t1, t2, t3⟩
    · rw [e]
      obtain ⟨op, n, args⟩ := x
      simp only [Ex.op, Ex.n] at h h2
      rcases h with rfl | rfl | rfl | rfl
      · exact ⟨rfl, h2⟩
      · exact ⟨rfl, he.key⟩
      · exact ⟨rfl, he.val⟩
      · exact ⟨rfl, he.acc⟩
    · have s1 := sub 0 a (by rw [ha]; rfl) m1 (by omega)
      obtain ⟨op, n, args⟩ := x
      simp only [Ex.op, Ex.args] at h ha
      subst ha
      rcases h with ⟨rfl, t1, e⟩ | ⟨rfl, t1, e⟩
      · rw [e]; exact ⟨rfl, wrap_r64 _⟩
      · rw [e]; exact ⟨rfl, zero_r64⟩
    · have s1 := sub 0 a (by rw [ha]; rfl) m1 (by omega)
      have s2 := sub 1 b (by rw [ha]; rfl) m2 (by omega)
      obtain ⟨op, n, args⟩ := x
      simp only [Ex.op, Ex.args] at h ha
      subst ha
      rcases h with ⟨hop, t1, t2, e⟩ | ⟨hop, t1, t2, e⟩ | ⟨hop, t1, t2, e⟩
      · rw [t1] at s1; rw [t2] at s2
        obtain ⟨u, hu⟩ := EV.of1 s1.1
        obtain ⟨v, hv⟩ := EV.of1 s2.1
        have e2 : exDo (f + 1) env (.mk op n [a, b]) = exTwo op (.num u) (.num v) := by
          rw [← hu, ← hv]
          rcases hop with rfl | rfl | rfl | rfl | rfl <;> rfl
        rw [e, e2]
        refine exTwo_num hop ?_
        rw [hu] at s1; exact s1.2
      · rw [t1] at s1; rw [t2] at s2
        obtain ⟨u, hu⟩ := EV.of1 s1.1
        obtain ⟨v, hv⟩ := EV.of1 s2.1
        have e2 : exDo (f + 1) env (.mk op n [a, b]) = exTwo op (.num u) (.num v) := by
          rw [← hu, ← hv]
          rcases hop with rfl | rfl | rfl | rfl <;> rfl
        rw [e, e2]
        exact exTwo_cmp hop
      · rw [t1] at s1; rw [t2] at s2
        obtain ⟨u, hu⟩ := EV.of2 s1.1
        obtain ⟨v, hv⟩ := EV.of2 s2.1
        have e2 : exDo (f + 1) env (.mk op n [a, b]) = exTwo op (.tru u) (.tru v) := by
          rw [← hu, ← hv]
          rcases hop with rfl | rfl | rfl | rfl <;> rfl
        rw [e, e2]
        exact exTwo_tru hop
    · have s1 := sub 0 a (by rw [ha]; rfl) m1 (by omega)
      have s2 := sub 1 b (by rw [ha]; rfl) m2 (by omega)
      have s3 := sub 2 c (by rw [ha]; rfl) m3 (by omega)
      obtain ⟨op, n, args⟩ := x
      simp only [Ex.op, Ex.args] at e ha
      subst ha e
      have e2 : exDo (f + 1) env (.mk 18 n [a, b, c]) = if (exDo f env a).b then exDo f env b else exDo f env c := rfl
      rw [e2]
      cases (exDo f env a).b with
      | true => rw [if_pos rfl, ← t2]; exact s2
      | false => rw [if_neg (by simp), ← t3]; exact s3
theorem ExAt.sub {w : World} {a : Array Value} {x y : Ex} {i : Nat} (h : ExAt w a x) (hy : x.args[i]? = some y) : ∃ a', ExAt w a' y := by
  obtain ⟨_, _, _, _, _, _, _, _, h5⟩ := h.parts
  obtain ⟨_, _, _, _, _, _, _, _, q⟩ := h5 i y hy
  exact ⟨_, q⟩
theorem ExAt.subTy {w : World} {env : Env} (he : EnvOk env) {f : Nat} {a : Array Value} {x y : Ex} {i : Nat} (h : ExAt w a x) (hy : x.args[i]? = some y) (hm : exMay f y = true) (ht : exTy f y ≠ 0) : (exDo f env y).ty = exTy f y ∧ R64 (exDo f env y).n := by
  obtain ⟨a', h'⟩ := h.sub hy
  exact exDo_ty he f y a' h' hm ht
def TwoOk (op : Int) (u v : EV) : Prop :=
  ((op = 7 ∨ op = 8 ∨ op = 9 ∨ op = 10 ∨ op = 11 ∨ op = 12 ∨ op = 13 ∨ op = 14 ∨ op = 15) ∧ u.ty = 1 ∧ v.ty = 1 ∧ R64 u.n ∧ R64 v.n) ∨ ((op = 16 ∨ op = 17 ∨ op = 14 ∨ op = 15) ∧ u.ty = 2 ∧ v.ty = 2)
theorem two_any (op : Int) (u v : EV) (w : World) (h : TwoOk op u v) : Calls Try.prog 126 #[.int .u8 op, evV u, evV v] w (Gives w (evV (exTwo op u v))) := by
  rcases h with ⟨h, hu, hv, ru, rv⟩ | ⟨h, hu, hv⟩
  · obtain ⟨a, rfl⟩ := EV.of1 hu
    obtain ⟨b, rfl⟩ := EV.of1 hv
    by_cases h1 : op = 10 ∨ op = 11
    · exact (two_div op a b w ru rv h1).mono fun e w' ⟨h1, h2⟩ => by subst h2; exact ⟨h1, Kept.refl _ _⟩
    · exact (two_num op a b w ru rv (by omega)).mono fun e w' ⟨h1, h2⟩ => by subst h2; exact ⟨h1, Kept.refl _ _⟩
  · obtain ⟨a, rfl⟩ := EV.of2 hu
    obtain ⟨b, rfl⟩ := EV.of2 hv
    exact two_tru op a b w h
end Go.Proofs.Ytaalpijohdlabaa

