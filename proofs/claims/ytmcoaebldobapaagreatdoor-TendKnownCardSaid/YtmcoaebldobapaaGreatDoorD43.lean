/-
  The law MoveKnown: reckoned.
-/
import Derived.Test.YtmcoaebldobapaaGreatDoorD42
set_option linter.unusedVariables false
set_option linter.unusedSimpArgs false
namespace Go.Proofs.YtmcoaebldobapaaGreatDoor
namespace Eng
open Go Go.RowKit
theorem mixed : Tryz.prog.follows .mixedOrders = true := by kernel_rfl
/-- A law without arguments that is reckoned true. -/
theorem known {f : FuncId} (hf : orcS f = none) (hk : runS f [] (fun r _ _ => isTrue r) = true) (w : World) (hg : 8 ≤ w.heap.size) : Calls Tryz.prog f #[] w (Gives w (.bool true)) := by
  refine Calls.mono (closed (g := 8) mixed (orcS_ok w) hg (args := []) (xs := []) (fun _ => .nil) hk hf) fun e w' ⟨r, x, ρ, h, nx, he, hr, H, hx⟩ => ?_
  unfold isTrue at hr
  split at hr
  · cases hx with
    | c hx =>
      cases hx
      exact ⟨he, H.kept.os, H.kept.tape, H.kept.output, H.kept.size, fun k hk _ => H.kept.block k hk⟩
  · cases hr
end Eng
end Go.Proofs.YtmcoaebldobapaaGreatDoor
/-
  The machine, where a law's own 'works' is answered by a run of its own.
-/
namespace Go.Proofs.YtmcoaebldobapaaGreatDoor
namespace Eng
open Go Go.RowKit
noncomputable def trueA (args : List AV) (h : Hp) (nx : Nat) (k : KV) : Bool := match args with
  | [] => k (.c (.bool true)) h nx
  | _ => false
/-- The answers, and one more: function fw answers true and leaves what was there. -/
noncomputable def orcW (fw : FuncId) : Orc := fun f => Bool.casesOn (Nat.beq f fw) (orcS f) (some (.call trueA))
noncomputable def runW (fw : FuncId) (f : Nat) (args : List AV) (k : RV → Hp → Nat → Bool) : Bool := callK Tryz.prog 8 (orcW fw) (exec Tryz.prog 8 (orcW fw) 1000000) f args .leaf 8 k
theorem orcW_ok {fw : FuncId} (hw : ∀ w : World, 8 ≤ w.heap.size → Calls Tryz.prog fw #[] w (Gives w (.bool true))) (hf : ∃ fn, Tryz.prog.funcs[fw]? = some fn ∧ (fn.name == "runtime.NumGoroutine") = false ∧ fn.body.isSome = true) (w0 : World) : OSnd Tryz.prog 8 w0 (orcW fw) := by
  intro f ans ha
  unfold orcW at ha
  cases hb : Nat.beq f fw with
  | false => rw [hb] at ha; exact orcS_ok w0 f ans ha
  | true =>
    rw [hb] at ha
    have e : f = fw := nateq hb
    subst e
    cases ha
    refine ⟨hf, fun args h nx k hk ρ w xs H hx => ?_⟩
    unfold trueA at hk
    split at hk
    · cases hx
      obtain ⟨cap, h7⟩ := H.glob 7 (by decide)
      refine Calls.mono (hw w (H.lt 7 7 ⟨_, _, h7⟩)) fun e w' he => ?_
      exact ⟨_, _, ρ, h, nx, he.1, hk, Ext.refl _ _, H.grown he.2, .c (.bool true)⟩
    · cases hk
/-- A law without arguments that is reckoned true, its 'works' known. -/
theorem knownW {fw f : FuncId} (hw : ∀ w : World, 8 ≤ w.heap.size → Calls Tryz.prog fw #[] w (Gives w (.bool true))) (hn : ∃ fn, Tryz.prog.funcs[fw]? = some fn ∧ (fn.name == "runtime.NumGoroutine") = false ∧ fn.body.isSome = true) (hf : orcW fw f = none)
    (hk : runW fw f [] (fun r _ _ => isTrue r) = true) (w : World) (hg : 8 ≤ w.heap.size) : Calls Tryz.prog f #[] w (Gives w (.bool true)) := by
  refine Calls.mono (closed (g := 8) mixed (orcW_ok hw hn w) hg (args := []) (xs := []) (fun _ => .nil) hk hf) fun e w' ⟨r, x, ρ, h, nx, he, hr, H, hx⟩ => ?_
  unfold isTrue at hr
  split at hr
  · cases hx with
    | c hx =>
      cases hx
      exact ⟨he, H.kept.os, H.kept.tape, H.kept.output, H.kept.size, fun k hk _ => H.kept.block k hk⟩
  · cases hr
end Eng
end Go.Proofs.YtmcoaebldobapaaGreatDoor
/-
  The machine, cut into calls that are reckoned each by itself: what a call found, and what it left.
-/
namespace Go.Proofs.YtmcoaebldobapaaGreatDoor
namespace Eng
open Go Go.RowKit
/-- Every entry of the one is the other's. -/
noncomputable def Tr.subB {α : Type} (eq : α → α → Bool) (t : Tr α) : Tr α → Bool :=
  Tr.rec (motive := fun _ => Tr α → Bool) (fun _ => true) (fun v _ _ il ir s => match s with
    | .node v' l' r' => iff (match v, v' with | none, _ => true | some a, some b => eq a b | some _, none => false) (iff (il l') (ir r'))
    | .leaf => false) t
theorem Tr.subB_ok {α : Type} {eq : α → α → Bool} (he : ∀ a b, eq a b = true → a = b) {t : Tr α} : ∀ {s : Tr α}, t.subB eq s = true → ∀ n a, t.get n = some a → s.get n = some a := by
  induction t with
  | leaf => intro s _ n a ha; cases ha
  | node v l r il ir =>
    intro s h n a ha
    cases s with
    | leaf => cases h
    | node v' l' r' =>
      obtain ⟨h1, h2⟩ := iff_ok h
      obtain ⟨h2, h3⟩ := iff_ok h2
      cases n with
      | zero =>
        have ha : v = some a := ha
        subst ha
        show v' = some a
        cases v' with
        | none => cases h1
        | some b => rw [he a b h1]
      | succ m =>
        rw [Tr.get_node] at ha ⊢
        split
        · rw [if_pos (by assumption)] at ha; exact il h2 _ _ ha
        · rw [if_neg (by assumption)] at ha; exact ir h3 _ _ ha
theorem HR.part {P : Program} {g : Nat} {w0 : World} {ρ : Ren} {h h' : Hp} {nx : Nat} {w : World} (H : HR P g w0 ρ h nx w) (hs : ∀ m o, h'.get m = some o → h.get m = some o) : HR P g w0 ρ h' nx w :=
  ⟨H.fresh, H.gnx, fun i p hp hn => H.objs i p (hs _ _ hp) hn, fun i j oi oj c hi hj => H.inj i j oi oj c (hs _ _ hi) (hs _ _ hj), H.own, H.lt, H.kept, H.glob, fun i hi => by
    cases e : h'.get i with
    | none => rfl
    | some o => have := hs _ _ e; rw [H.hfr i hi] at this; cases this⟩
/-- A call on record: the function, what it was given and found, what it answered and left. -/
structure Rec where
  f : FuncId
  args : List AV
  h0 : Hp
  n0 : Nat
  r : RV
  h1 : Hp
  n1 : Nat
noncomputable def recK (c : Rec) : KV := fun r h nx => iff (decide (r = c.r)) (iff (Nat.beq nx c.n1) (c.h1.subB aoB h))
noncomputable def recA (c : Rec) (args : List AV) (h : Hp) (nx : Nat) (k : KV) : Bool := iff (decide (args = c.args)) (iff (Nat.beq nx c.n0) (iff (c.h0.subB aoB h) (k c.r c.h1 c.n1)))
noncomputable def recsA (l : List Rec) (f : FuncId) (args : List AV) (h : Hp) (nx : Nat) (k : KV) : Bool :=
  List.rec (motive := fun _ => Bool) false (fun c _ ih => Bool.casesOn (Nat.beq c.f f && Nat.beq c.n0 nx) ih (recA c args h nx k)) l
noncomputable def memF (f : FuncId) (l : List FuncId) : Bool := List.rec (motive := fun _ => Bool) false (fun a _ ih => Bool.casesOn (Nat.beq f a) ih true) l
theorem memF_ok {f : FuncId} {l : List FuncId} (h : memF f l = true) : f ∈ l := by
  induction l with
  | nil => cases h
  | cons a l ih =>
    change (Bool.casesOn (Nat.beq f a) (memF f l) true : Bool) = true at h
    cases hb : Nat.beq f a with
    | true => rw [nateq hb]; exact .head _
    | false => rw [hb] at h; exact .tail _ (ih h)
/-- The answers, and the calls on record. -/
noncomputable def orcR (fs : List FuncId) (l : List Rec) : Orc := fun f => Bool.casesOn (memF f fs) (orcS f) (some (.call (recsA l f)))
def RecOk (c : Rec) : Prop := ∃ (orc : Orc) (n : Nat), (∀ w0, OSnd Tryz.prog 8 w0 orc) ∧ callB Tryz.prog (exec Tryz.prog 8 orc n) c.f c.args c.h0 c.n0 (recK c) = true
theorem mixedR : Tryz.prog.follows .mixedOrders = true := mixed
theorem recA_ok {c : Rec} (hc : RecOk c) {w0 : World} {args : List AV} {h : Hp} {nx : Nat} {k : KV} (hk : recA c args h nx k = true) {ρ : Ren} {w : World} {xs : List Value} (H : HR Tryz.prog 8 w0 ρ h nx w) (hx : F2 (GA ρ) args xs) : CallsK Tryz.prog 8 w0 ρ nx c.f xs w k := by
  obtain ⟨orc, n, hO, hc⟩ := hc
  obtain ⟨h1, hk1⟩ := iff_ok hk
  obtain ⟨h2, hk2⟩ := iff_ok hk1
  obtain ⟨h3, hk4⟩ := iff_ok hk2
  have h1 := of_decide_eq_true h1
  have h2 := nateq h2
  subst h1 h2
  have H0 := H.part (Tr.subB_ok (fun _ _ => aoB_ok) h3)
  refine Calls.mono (callB_ok (exec_snd mixedR (hO w0) n) H0 hx hc).2 fun e w' ⟨r, x, ρ', h', nx', he, hr, hE, H', hrx⟩ => ?_
  obtain ⟨q1, hr⟩ := iff_ok hr
  obtain ⟨q2, q3⟩ := iff_ok hr
  have q1 := of_decide_eq_true q1
  have q2 := nateq q2
  subst q1 q2
  exact ⟨_, x, ρ', c.h1, _, he, hk4, hE, H'.part (Tr.subB_ok (fun _ _ => aoB_ok) q3), hrx⟩
theorem orcR_ok {fs : List FuncId} {l : List Rec} (hl : ∀ c ∈ l, RecOk c) (hfs : ∀ f ∈ fs, ∃ fn, Tryz.prog.funcs[f]? = some fn ∧ (fn.name == "runtime.NumGoroutine") = false ∧ fn.body.isSome = true) (w0 : World) : OSnd Tryz.prog 8 w0 (orcR fs l) := by
  intro f ans ha
  unfold orcR at ha
  cases hb : memF f fs with
  | false => rw [hb] at ha; exact orcS_ok w0 f ans ha
  | true =>
    rw [hb] at ha
    cases ha
    refine ⟨hfs f (memF_ok hb), fun args h nx k hk ρ w xs H hx => ?_⟩
    clear hfs hb
    induction l with
    | nil => cases hk
    | cons c l ih =>
      change (Bool.casesOn (Nat.beq c.f f && Nat.beq c.n0 nx) (recsA l f args h nx k) (recA c args h nx k) : Bool) = true at hk
      cases hb : (Nat.beq c.f f && Nat.beq c.n0 nx) with
      | false => rw [hb] at hk; exact ih (fun c hc => hl c (.tail _ hc)) hk
      | true =>
        rw [hb] at hk
        rw [Bool.and_eq_true] at hb
        have e : c.f = f := nateq hb.1
        subst e
        exact recA_ok (hl c (.head _)) hk H hx
noncomputable def runR (fs : List FuncId) (l : List Rec) (f : FuncId) (args : List AV) (k : RV → Hp → Nat → Bool) : Bool := callK Tryz.prog 8 (orcR fs l) (exec Tryz.prog 8 (orcR fs l) 1000000) f args .leaf 8 k
/-- A law without arguments that is reckoned true, some of its calls on record. -/
theorem knownR {fs : List FuncId} {l : List Rec} {f : FuncId} (hO : ∀ w0, OSnd Tryz.prog 8 w0 (orcR fs l)) (hf : orcR fs l f = none)
    (hk : runR fs l f [] (fun r _ _ => isTrue r) = true) (w : World) (hg : 8 ≤ w.heap.size) : Calls Tryz.prog f #[] w (Gives w (.bool true)) := by
  refine Calls.mono (closed (g := 8) mixed (hO w) hg (args := []) (xs := []) (fun _ => .nil) hk hf) fun e w' ⟨r, x, ρ, h, nx, he, hr, H, hx⟩ => ?_
  unfold isTrue at hr
  split at hr
  · cases hx with
    | c hx =>
      cases hx
      exact ⟨he, H.kept.os, H.kept.tape, H.kept.output, H.kept.size, fun k hk _ => H.kept.block k hk⟩
  · cases hr
end Eng
end Go.Proofs.YtmcoaebldobapaaGreatDoor
