/-
  The machine's frames; one operation.
-/
import Derived.Test.YtmcoaebldobapaaGreatDoorD23
import Derived.Test.YtmcoaebldobapaaGreatDoorD24
set_option linter.unusedVariables false
set_option linter.unusedSimpArgs false
namespace Go.Proofs.YtmcoaebldobapaaGreatDoor
namespace Eng
open Go Go.RowKit
inductive Ex where
  | normal
  | exit (id : Nat)
  | goto (l : Nat)
  | ret
def Ex.to : Ex → Exit
  | .normal => .normal
  | .exit id => .exit id
  | .goto l => .goto l
  | .ret => .ret
abbrev KX := Ex → Env → Hp → Nat → Bool
abbrev KV := RV → Hp → Nat → Bool
abbrev KF := RV → Hp → Nat → List Nat → Bool
abbrev Run := Code → Nat → Env → Hp → Nat → KX → Bool
structure Fr (D : List Deferred) (ρ : Ren) (N : Nat) (env : Env) (a : Act) : Prop where
  er : ER ρ env a.tmps
  size : a.tmps.size = N
  dfr : a.defers = D
theorem ER.mono {ρ ρ' : Ren} (hρ : ρ.le ρ') {env : Env} {t : Array Value} (h : ER ρ env t) : ER ρ' env t := fun i v hv => let ⟨x, h1, h2⟩ := h i v hv; ⟨x, h1, h2.mono hρ⟩
theorem Fr.mono {D : List Deferred} {ρ ρ' : Ren} (hρ : ρ.le ρ') {N : Nat} {env : Env} {a : Act} (h : Fr D ρ N env a) : Fr D ρ' N env a := ⟨h.er.mono hρ, h.size, h.dfr⟩
noncomputable def putK (N : Nat) (env : Env) (d : Option Tmp) (v : RV) (k : Env → Bool) : Bool := match d with
  | none => k env
  | some d => iff (Nat.ble (Nat.succ d) N) (env.setK d (some v) k)
theorem putK_ok {D : List Deferred} {ρ : Ren} {N : Nat} {env : Env} {d : Option Tmp} {v : RV} {k : Env → Bool} {a : Act} {x : Value} (hF : Fr D ρ N env a) (hx : GR ρ v x) (hk : putK N env d v k = true) : ∃ env', k env' = true ∧ Fr D ρ N env' (a.put d x) := by
  cases d with
  | none => exact ⟨env, hk, hF⟩
  | some d =>
    obtain ⟨hd, hk⟩ := iff_ok hk
    have hd : d < N := natle hd
    obtain ⟨env', hk, hh⟩ := Tr.setK_ok hk
    refine ⟨env', hk, ⟨fun i r hr => ?_, by simp [Act.put, hF.size], hF.dfr⟩⟩
    rw [hh] at hr
    split at hr
    · rename_i e
      cases hr; subst e
      exact ⟨x, by simp [Act.put, hF.size, hd], hx⟩
    · rename_i hne
      obtain ⟨y, h1, h2⟩ := hF.er i r hr
      exact ⟨y, by simp only [Act.put]; rw [Array.getElem?_setIfInBounds_ne (Ne.symm hne)]; exact h1, h2⟩
noncomputable def guardK (all : List Oper) (o : Oper) (env : Env) (k : Bool → Bool) : Bool := match o.guard with
  | none => k true
  | some (j, want) => optK (lget all j) fun oj => optK oj.dst fun d => optK (env.get d) fun v => (match v with
    | .c (.bool b) => fB (b == want) k
    | .tup [] => k false
    | _ => false)
theorem guardK_ok {D : List Deferred} {ρ : Ren} {N : Nat} {ops : Array Oper} {o : Oper} {env : Env} {a : Act} (hF : Fr D ρ N env a) {k : Bool → Bool} (hk : guardK ops.toList o env k = true) : k (Region.wanted o (yielded ops a.tmps)) = true := by
  unfold guardK at hk
  unfold Region.wanted
  cases hg : o.guard with
  | none => rw [hg] at hk; exact hk
  | some p =>
    obtain ⟨j, want⟩ := p
    rw [hg] at hk
    obtain ⟨oj, hj, hk⟩ := optK_ok hk
    try simp only [undL_eq, infL_eq, fnL_eq] at hj
    obtain ⟨d, hd, hk⟩ := optK_ok hk
    try simp only [undL_eq, infL_eq, fnL_eq] at hd
    obtain ⟨v, hv, hk⟩ := optK_ok hk
    rw [lget_eq] at hj
    have hj' : ops[j]? = some oj := by simpa using hj
    obtain ⟨x, h1, h2⟩ := hF.er d v hv
    have hy : yielded ops a.tmps j = match x with | .bool b => some b | _ => none := by unfold yielded; rw [hj']; simp only [Option.bind_some, hd, h1]; cases x <;> rfl
    show k (yielded ops a.tmps j == some want) = true
    rw [hy]
    split at hk
    · rename_i b
      rw [fB_eq] at hk
      cases h2 with
      | c h2 => cases h2; simpa using hk
    · cases h2 with
      | tup h2 => cases h2; simpa using hk
    · cases hk
section
variable {P : Program} {g : Nat} {w0 : World} {ρ : Ren} {h : Hp} {nx : Nat} {w : World} {N : Nat} {env : Env} {a : Act} {D : List Deferred}
noncomputable def evsK (g : Nat) (env : Env) (l : List Operand) : (List AV → Bool) → Bool :=
  List.rec (motive := fun _ => (List AV → Bool) → Bool) (fun k => k []) (fun x _ ih k => evK g env x fun r => rv2 r fun a => ih fun l => k (a :: l)) l
theorem evsK_ok (H : HR P g w0 ρ h nx w) (hF : Fr D ρ N env a) {l : List Operand} : ∀ {k : List AV → Bool}, evsK g env l k = true → ∃ vs, k vs = true ∧ F2 (GA ρ) vs (l.map a.eval) := by
  induction l with
  | nil => intro k hk; exact ⟨[], hk, .nil⟩
  | cons x l ih =>
    intro k hk
    obtain ⟨r, hk, hr⟩ := evK_ok H.glob hF.er hk
    obtain ⟨v, hk, hv⟩ := rv2_ok hr hk
    obtain ⟨vs, hk, hvs⟩ := ih (k := fun l => k (v :: l)) hk
    exact ⟨_, hk, .cons hv hvs⟩
noncomputable def partsK (g : Nat) (env : Env) (l : List (Nat × Operand)) : (List (Nat × AV) → Bool) → Bool :=
  List.rec (motive := fun _ => (List (Nat × AV) → Bool) → Bool) (fun k => k []) (fun x _ ih k => evK g env x.2 fun r => rv2 r fun a => ih fun l => k ((x.1, a) :: l)) l
theorem partsK_ok (H : HR P g w0 ρ h nx w) (hF : Fr D ρ N env a) {l : List (Nat × Operand)} : ∀ {k : List (Nat × AV) → Bool}, partsK g env l k = true → ∃ vs, k vs = true ∧ F2 (fun a b => a.1 = b.1 ∧ GA ρ a.2 b.2) vs (l.map fun p => (p.1, a.eval p.2)) := by
  induction l with
  | nil => intro k hk; exact ⟨[], hk, .nil⟩
  | cons x l ih =>
    intro k hk
    obtain ⟨r, hk, hr⟩ := evK_ok H.glob hF.er hk
    obtain ⟨v, hk, hv⟩ := rv2_ok hr hk
    obtain ⟨vs, hk, hvs⟩ := ih (k := fun l => k ((x.1, v) :: l)) hk
    exact ⟨_, hk, .cons ⟨rfl, hv⟩ hvs⟩
noncomputable def evoK (g : Nat) (env : Env) (o : Option Operand) (k : Option RV → Bool) : Bool := match o with
  | none => k none
  | some x => evK g env x fun r => k (some r)
theorem evoK_ok (H : HR P g w0 ρ h nx w) (hF : Fr D ρ N env a) {o : Option Operand} {k : Option RV → Bool} (hk : evoK g env o k = true) : ∃ r, k r = true ∧ Option.Rel (GR ρ) r (o.map a.eval) := by
  cases o with
  | none => exact ⟨none, hk, .none⟩
  | some x =>
    obtain ⟨r, hk, hr⟩ := evK_ok H.glob hF.er hk
    exact ⟨some r, hk, .some hr⟩
/-! ### what floats -/
noncomputable def nilK (r : RV) (k : RV → Bool) : Bool := match r with
  | .c .nilp => false
  | .c .nili => false
  | .c .nilf => false
  | r => k r
noncomputable def opF (P : Program) (g : Nat) (op : Op) (env : Env) (h : Hp) (nx : Nat) (k : KF) : Bool := match op with
  | .move x => evK g env x fun r => k r h nx []
  | .assign x => evK g env x fun r => k r h nx []
  | .pick c x y => evK g env c fun c => (match c with | .c (.bool b) => Bool.casesOn b (evK g env y fun r => k r h nx []) (evK g env x fun r => k r h nx []) | _ => false)
  | .build t parts => partsK g env parts.toList fun ps => buildK P t ps fun r => k r h nx []
  | .load t x => evK g env x fun p => loadK P h t p fun r ids => k r h nx ids
  | .nilCheck x => evK g env x fun r => nilK r fun r => k r h nx []
  | .binOp op t x y _ => evK g env x fun r => evK g env y fun s => binHK P h op t (isCon x || isCon y) r s fun r ids => k r h nx ids
  | .unOp op _ x => evK g env x fun r => unK op r fun r => k r h nx []
  | .convert s d x => evK g env x fun r => convUK P h s d r fun r ids => k r h nx ids
  | .makeInterface t x => evK g env x fun r => makeIfcK P h nx t r fun r h nx => k r h nx []
  | .makeFunc fn first caps => evsK g env first.toList fun f => evsK g env caps.toList fun c => makeFuncK h nx fn f c fun r h nx => k r h nx []
  | .slice t x lo hi mx => evK g env x fun r => evoK g env lo fun lo => evoK g env hi fun hi => evoK g env mx fun mx => sliceK P h nx t r lo hi mx fun r nx => k r h nx []
  | .fieldAddr t x f => evK g env x fun r => fieldAddrK P t f r fun r => k r h nx []
  | .field t x f => evK g env x fun r => fieldK P t f r fun r => k r h nx []
  | .indexAddr t x i => evK g env x fun r => evK g env i fun i => indexAddrK P t r i fun r => k r h nx []
  | .index t x i => evK g env x fun r => evK g env i fun i => indexK P t r i fun r => k r h nx []
  | .lookup t x i ok => evK g env x fun r => evK g env i fun i => lookupK P h t r i ok fun r ids => k r h nx ids
  | .entry x => evK g env x fun r => entryK h r fun r ids => k r h nx ids
  | .typeAssert x _ t ok => evK g env x fun r => typeAssertK P h r t ok fun r ids => k r h nx ids
  | .extract x i => evK g env x fun r => (match r with | .tup l => optK (lget l i) fun a => k a.rv h nx [] | _ => false)
  | .call c => (match c.callee with
    | .builtin .len => (match c.argTypes.toList, c.args.toList with | [t], [x] => evK g env x fun r => lenK P h t r fun r ids => k r h nx ids | _, _ => false)
    | .builtin .cap => (match c.argTypes.toList, c.args.toList with | [t], [x] => evK g env x fun r => capK P h t r fun r ids => k r h nx ids | _, _ => false)
    | .builtin .min => evsK g env c.args.toList fun l => mmK false l fun r => k r h nx []
    | .builtin .max => evsK g env c.args.toList fun l => mmK true l fun r => k r h nx []
    | _ => false)
  | _ => false
def FlN (P : Program) (g : Nat) (w0 : World) (ρ : Ren) (h : Hp) (nx : Nat) (k : KF) (s : Sem Next) : Prop :=
  ∃ r x ρ' h' nx' ids, k r h' nx' ids = true ∧ Ext nx nx' ρ ρ' ∧ GR ρ' r x ∧ (∀ id ∈ ids, ρ id ≠ none) ∧ (∀ m o, h.get m = some o → h'.get m = some o) ∧ (∀ w, HR P g w0 ρ h nx w → HR P g w0 ρ' h' nx' w) ∧ ∀ w, (∀ id ∈ ids, ∀ o, h.get id = some o → Ob P ρ id o w) → s.run P w = .ok (.value x) w
theorem Fl.n {k : KF} {s : Sem Value} {s' : Sem Next} (hf : Fl P g w0 ρ h nx k s) (hs : s' = do pure (.value (← s))) : FlN P g w0 ρ h nx k s' := by
  obtain ⟨r, x, ρ', h', nx', ids, h1, h2, h3, hn, h6, h4, h5⟩ := hf
  exact ⟨r, x, ρ', h', nx', ids, h1, h2, h3, hn, h6, h4, fun w hw => by subst hs; simp [h5 w hw]⟩
theorem opF_ok (H : HR P g w0 ρ h nx w) (hF : Fr D ρ N env a) {o : Oper} {k : KF} (hk : opF P g o.op env h nx k = true) : FlN P g w0 ρ h nx k (execOp a.eval o) := by
  obtain ⟨dst, op, type, pos, after, guard⟩ := o
  have ev : ∀ {x : Operand} {k : RV → Bool}, evK g env x k = true → ∃ r, k r = true ∧ GR ρ r (a.eval x) := fun hk => evK_ok H.glob hF.er hk
  have pure1 : ∀ {r : RV} {x : Value} {s : Sem Next}, k r h nx [] = true → GR ρ r x → (∀ w, s.run P w = .ok (.value x) w) → FlN P g w0 ρ h nx k s := fun hk hr hs => ⟨_, _, ρ, h, nx, [], hk, Ext.refl _ _, hr, fun _ h => (by cases h), fun _ _ h => h, fun _ H => H, fun w _ => hs w⟩
  cases op <;> simp only [opF] at hk <;> (try (cases hk; done))
  case move x => obtain ⟨r, hk, hr⟩ := ev hk; exact pure1 hk hr fun w => by simp [execOp]
  case assign x => obtain ⟨r, hk, hr⟩ := ev hk; exact pure1 hk hr fun w => by simp [execOp]
  case pick c x y =>
    obtain ⟨r, hk, hr⟩ := ev hk
    split at hk
    · rename_i b
      have hb : a.eval c = .bool b := by
        generalize a.eval c = X at hr
        cases hr with
        | c hr => cases hr; rfl
      cases b with
      | false => obtain ⟨r, hk, hr⟩ := ev hk; exact pure1 hk hr fun w => by simp [execOp, hb, asBool]
      | true => obtain ⟨r, hk, hr⟩ := ev hk; exact pure1 hk hr fun w => by simp [execOp, hb, asBool]
    · cases hk
  case build t parts =>
    obtain ⟨ps, hk, hps⟩ := partsK_ok H hF hk
    refine (buildK_ok hps hk).fl.n ?_
    have e1 : (List.map (fun p => (p.1, a.eval p.2)) parts.toList).toArray = parts.map fun p => (p.1, a.eval p.2) := by apply Array.ext'; simp
    simp only [execOp, e1]
  case load t x =>
    obtain ⟨r, hk, hr⟩ := ev hk
    exact (Rd.fl (k := k) (loadK_ok H hr hk)).n rfl
  case nilCheck x =>
    obtain ⟨r, hk, hr⟩ := ev hk
    have core : ∀ {X : Value}, GR ρ r X → nilK r (fun r => k r h nx []) = true → k r h nx [] = true ∧ X ≠ .pointer none ∧ X ≠ .nilIface ∧ X ≠ .nilFunc ∧ ∀ n f c, X ≠ .func (.method n) f c := fun hr hk => by
      unfold nilK at hk
      split at hk <;> (try cases hk)
      rename_i h1 h2 h3
      refine ⟨hk, ?_, ?_, ?_, ?_⟩
      · intro e; cases hr with
        | c hr => cases hr <;> first | (cases e; done) | exact h1 rfl
        | agg => cases e
        | tup => cases e
      · intro e; cases hr with
        | c hr => cases hr <;> first | (cases e; done) | exact h2 rfl
        | agg => cases e
        | tup => cases e
      · intro e; cases hr with
        | c hr => cases hr <;> first | (cases e; done) | exact h3 rfl
        | agg => cases e
        | tup => cases e
      · intro n f c e; cases hr with
        | c hr => cases hr <;> cases e
        | agg => cases e
        | tup => cases e
    obtain ⟨hk, h1, h2, h3, h4⟩ := core hr hk
    refine pure1 hk hr fun w => ?_
    generalize hX : a.eval x = X at h1 h2 h3 h4
    simp only [execOp, hX]
    rfl
  case binOp op t x y yt =>
    obtain ⟨r, hk, hr⟩ := ev hk
    obtain ⟨s, hk, hs⟩ := ev hk
    exact (Rd.fl (k := k) (binHK_ok H hr hs hk)).n rfl
  case unOp op t x => obtain ⟨r, hk, hr⟩ := ev hk; exact (unK_ok hr hk).fl.n rfl
  case convert s d x => obtain ⟨r, hk, hr⟩ := ev hk; exact (Rd.fl (k := k) (convUK_ok H hr hk)).n rfl
  case makeInterface t x => obtain ⟨r, hk, hr⟩ := ev hk; exact (makeIfcK_ok hr H hk).fl.n rfl
  case makeFunc fn first caps =>
    obtain ⟨f, hk, hf⟩ := evsK_ok H hF hk
    obtain ⟨c, hk, hc⟩ := evsK_ok H hF hk
    refine (makeFuncK_ok hf hc H hk).fl.n ?_
    have e1 : ∀ l : Array Operand, (List.map a.eval l.toList).toArray = l.map a.eval := fun l => by apply Array.ext'; simp
    simp only [execOp, e1]
  case slice t x lo hi mx =>
    obtain ⟨r, hk, hr⟩ := ev hk
    obtain ⟨l, hk, hl⟩ := evoK_ok H hF hk
    obtain ⟨u, hk, hu⟩ := evoK_ok H hF hk
    obtain ⟨m, hk, hm⟩ := evoK_ok H hF hk
    exact (Pf.fl (Pn.pf (k := fun r h nx => k r h nx []) (sliceK_ok H hr hl hu hm hk))).n rfl
  case fieldAddr t x f => obtain ⟨r, hk, hr⟩ := ev hk; exact (fieldAddrK_ok hr hk).fl.n rfl
  case field t x f => obtain ⟨r, hk, hr⟩ := ev hk; exact (fieldK_ok hr hk).fl.n rfl
  case indexAddr t x i => obtain ⟨r, hk, hr⟩ := ev hk; obtain ⟨s, hk, hs⟩ := ev hk; exact (indexAddrK_ok hr hs hk).fl.n rfl
  case index t x i => obtain ⟨r, hk, hr⟩ := ev hk; obtain ⟨s, hk, hs⟩ := ev hk; exact (indexK_ok hr hs hk).fl.n rfl
  case lookup t x i ok => obtain ⟨r, hk, hr⟩ := ev hk; obtain ⟨s, hk, hs⟩ := ev hk; exact (Rd.fl (k := k) (lookupK_ok hr hs H hk)).n rfl
  case entry x => obtain ⟨r, hk, hr⟩ := ev hk; exact (Rd.fl (k := k) (entryK_ok H hr hk)).n rfl
  case typeAssert x xt t ok => obtain ⟨r, hk, hr⟩ := ev hk; exact (Rd.fl (k := k) (typeAssertK_ok H (xt := xt) hr hk)).n rfl
  case extract x i =>
    obtain ⟨r, hk, hr⟩ := ev hk
    split at hk
    · rename_i l
      obtain ⟨v, hv, hk⟩ := optK_ok hk
      rw [lget_eq] at hv
      generalize hx : a.eval x = X at hr
      cases hr with
      | tup hr =>
        obtain ⟨y, h1, h2⟩ := f2_get hr hv
        exact pure1 hk h2.rv fun w => by simp [execOp, hx, Instr.extract, h1]
    · cases hk
  case call c =>
    obtain ⟨callee, args, argTypes⟩ := c
    simp only at hk
    split at hk
    · split at hk
      · rename_i t x e1 e2
        obtain ⟨r, hk, hr⟩ := ev hk
        have e1 : argTypes = #[t] := by apply Array.ext'; simpa using e1
        have e2 : args = #[x] := by apply Array.ext'; simpa using e2
        subst e1 e2
        exact (Rd.fl (k := k) (lenK_ok H (ty := type) hr hk)).n (by simp [execOp, resolve, invoke, builtin])
      · cases hk
    · split at hk
      · rename_i t x e1 e2
        obtain ⟨r, hk, hr⟩ := ev hk
        have e1 : argTypes = #[t] := by apply Array.ext'; simpa using e1
        have e2 : args = #[x] := by apply Array.ext'; simpa using e2
        subst e1 e2
        exact (Rd.fl (k := k) (capK_ok H (ty := type) hr hk)).n (by simp [execOp, resolve, invoke, builtin])
      · cases hk
    · obtain ⟨l, hk, hl⟩ := evsK_ok H hF hk
      have e1 : (List.map a.eval args.toList).toArray = args.map a.eval := by apply Array.ext'; simp
      refine ((min_ok (ts := argTypes) (t := type) hl hk).fl).n ?_
      rw [e1]
      simp [execOp, resolve, invoke, builtin]
    · obtain ⟨l, hk, hl⟩ := evsK_ok H hF hk
      have e1 : (List.map a.eval args.toList).toArray = args.map a.eval := by apply Array.ext'; simp
      refine ((max_ok (ts := argTypes) (t := type) hl hk).fl).n ?_
      rw [e1]
      simp [execOp, resolve, invoke, builtin]
    · cases hk
end
end Eng
end Go.Proofs.YtmcoaebldobapaaGreatDoor
