/-
  The machine's run: loud operations, calls, regions, codes; that it tells the truth.
-/
import Derived.Test.YtcfncbnloaiifaaGreatDoorEng8
namespace Go.Proofs.YtcfncbnloaiifaaGreatDoor
namespace Eng
open Go Go.RowKit
/-- A function that is answered by a law of its own: it is entered, or (one without a body) told at once. -/
inductive Ans where
  | call (a : List AV → Hp → Nat → KV → Bool)
  | val (a : List AV → (RV → Bool) → Bool)
abbrev Orc := FuncId → Option Ans
section
variable (P : Program) (g : Nat) (w0 : World)
/-- A run tells the truth. -/
def Snd (ih : Run) : Prop := ∀ c N env h nx k, ih c N env h nx k = true → ∀ ρ a w, HR P g w0 ρ h nx w → Fr ρ N env a → ∀ Q : Exit → Act → World → Prop,
  (∀ e env' h' nx' ρ' a' w', k e env' h' nx' = true → Ext nx nx' ρ ρ' → HR P g w0 ρ' h' nx' w' → Fr ρ' N env' a' → Q e.to a' w') → c.wp P Q a w
/-- What a call came to. -/
def CallsK (ρ : Ren) (nx : Nat) (f : FuncId) (xs : List Value) (w : World) (k : KV) : Prop := Calls P f xs.toArray w fun e w' => ∃ r x ρ' h' nx', e = .returned x ∧ k r h' nx' = true ∧ Ext nx nx' ρ ρ' ∧ HR P g w0 ρ' h' nx' w' ∧ GR ρ' r x
def OSnd (orc : Orc) : Prop := ∀ f ans, orc f = some ans → match ans with
  | .call ans => (∃ fn, P.funcs[f]? = some fn ∧ (fn.name == "runtime.NumGoroutine") = false ∧ fn.body.isSome = true) ∧ ∀ args h nx k, ans args h nx k = true → ∀ ρ w xs, HR P g w0 ρ h nx w → F2 (GA ρ) args xs → CallsK P g w0 ρ nx f xs w k
  | .val ans => ∀ args k, ans args k = true → ∀ (ρ : Ren) xs, F2 (GA ρ) args xs → ∃ r x, k r = true ∧ GR ρ r x ∧ ∀ w, (callFunc f xs.toArray).run P w = .ok (.value x) w
end
/-! ### calls -/
noncomputable def slotsK (l : List AV) : Nat → Env → (Env → Bool) → Bool :=
  List.rec (motive := fun _ => Nat → Env → (Env → Bool) → Bool) (fun _ env k => k env) (fun v _ ih i env k => env.setK i (some v.rv) fun env => ih (Nat.succ i) env k) l
theorem slotsK_ok {ρ : Ren} {l : List AV} {xs : List Value} (hx : F2 (GA ρ) l xs) : ∀ {i : Nat} {env : Env} {t : Array Value} {k : Env → Bool}, ER ρ env t → (∀ j x, xs[j]? = some x → t[i + j]? = some x) → slotsK l i env k = true → ∃ env', k env' = true ∧ ER ρ env' t := by
  induction hx with
  | nil => intro i env t k he _ hk; exact ⟨env, hk, he⟩
  | cons a _ ih =>
    intro i env t k he ht hk
    obtain ⟨env', hk, hh⟩ := Tr.setK_ok hk
    refine ih (fun j v hv => ?_) (fun j x hx => ?_) hk
    · rw [hh] at hv
      split at hv
      · rename_i e; cases hv; subst e; exact ⟨_, by simpa using ht 0 _ rfl, a.rv⟩
      · exact he j v hv
    · have := ht (j + 1) x (by simpa using hx)
      rwa [show i + (j + 1) = i + 1 + j by omega] at this
noncomputable def resK (P : Program) (env : Env) (h : Hp) (l : List ResultVar) : (List AV → Bool) → Bool :=
  List.rec (motive := fun _ => (List AV → Bool) → Bool) (fun k => k []) (fun x _ ih k => match x with
    | .tmp t => optK (env.get t) fun r => rv2 r fun a => ih fun l => k (a :: l)
    | .cell c t => optK (env.get c) fun p => loadK P h t p fun r _ => rv2 r fun a => ih fun l => k (a :: l)) l
noncomputable def oneRes (l : List AV) (k : RV → Bool) : Bool := match l with
  | [a] => k a.rv
  | l => k (.tup l)
def resF (tmps : Array Value) : ResultVar → Sem Value
  | .tmp t => pure (tmps.getD t undef)
  | .cell c t => do loadVar t (← asAddr (tmps.getD c undef))
theorem results_eq (fn : Func) (tmps : Array Value) : results fn tmps = (fn.results.mapM (resF tmps) >>= fun vs => pure (if h : vs.size = 1 then vs[0] else .tuple vs)) := by
  unfold results
  congr 1
section
variable {P : Program} {g : Nat} {w0 : World} {ρ : Ren} {h : Hp} {nx : Nat} {w : World} {N : Nat} {env : Env} {a : Act}
theorem resK_ok (H : HR P g w0 ρ h nx w) (hF : Fr ρ N env a) {l : List ResultVar} : ∀ {k : List AV → Bool}, resK P env h l k = true → ∃ vs xs, k vs = true ∧ F2 (GA ρ) vs xs ∧
    (l.mapM (resF a.tmps) : Sem (List Value)).run P w = .ok xs w := by
  induction l with
  | nil => intro k hk; exact ⟨[], [], hk, .nil, by simp⟩
  | cons x l ih =>
    intro k hk
    cases x with
    | tmp t =>
      obtain ⟨r, hr, hk⟩ := optK_ok hk
      obtain ⟨y, h1, h2⟩ := hF.er _ _ hr
      obtain ⟨v, hk, hv⟩ := rv2_ok h2 hk
      obtain ⟨vs, xs, hk, hx, hrun⟩ := ih (k := fun l => k (v :: l)) hk
      refine ⟨_, y :: xs, hk, .cons hv hx, ?_⟩
      have : a.tmps.getD t undef = y := by simp [Array.getD_eq_getD_getElem?, h1]
      simp only [List.mapM_cons, resF, Sem.run_bind, Sem.run_pure, Result.andThen_ok, hrun, this]
    | cell c t =>
      obtain ⟨r, hr, hk⟩ := optK_ok hk
      obtain ⟨y, h1, h2⟩ := hF.er _ _ hr
      obtain ⟨r', x, ids, hk, hx', hnn, hrun'⟩ := loadK_ok H h2 hk
      obtain ⟨v, hk, hv⟩ := rv2_ok hx' hk
      obtain ⟨vs, xs, hk, hx, hrun⟩ := ih (k := fun l => k (v :: l)) hk
      refine ⟨_, x :: xs, hk, .cons hv hx, ?_⟩
      have : a.tmps.getD c undef = y := by simp [Array.getD_eq_getD_getElem?, h1]
      have hl := hrun' w fun id hid o ho => H.objs id o ho (hnn id hid)
      have hl2 : (do loadVar t (← asAddr y) : Sem Value).run P w = .ok x w := by
        rw [← hl]
        cases y with
        | pointer p => cases p with
          | none => simp [Instr.loadAt, Instr.sureAddr] at hl
          | some p => simp [Instr.loadAt, Instr.sureAddr, asAddr]
        | _ => simp [Instr.loadAt, Instr.sureAddr] at hl
      simp only [List.mapM_cons, resF, Sem.run_bind, this] at hl2 ⊢
      rw [hl2]
      simp only [Result.andThen_ok, hrun, Sem.run_pure]
theorem results_ok (H : HR P g w0 ρ h nx w) (hF : Fr ρ N env a) {fn : Func} {k : RV → Bool} (hk : resK P env h fn.results.toList (fun l => oneRes l k) = true) : ∃ r x, k r = true ∧ GR ρ r x ∧ (results fn a.tmps).run P w = .ok x w := by
  obtain ⟨vs, xs, hk, hx, hrun⟩ := resK_ok H hF hk
  have hrun' : (fn.results.mapM (resF a.tmps) : Sem (Array Value)).run P w = .ok xs.toArray w := by
    rw [Array.mapM_eq_mapM_toList]
    simp [hrun]
  unfold oneRes at hk
  split at hk
  · cases hx with
    | cons h1 t1 => cases t1; exact ⟨_, _, hk, h1.rv, by simp only [results_eq, Sem.run_bind]; rw [hrun']; simp⟩
  · rename_i hne
    refine ⟨_, _, hk, .tup hx, ?_⟩
    have hlen := f2_len hx
    have : ¬ xs.toArray.size = 1 := by
      intro e
      simp at e
      cases vs with
      | nil => simp at hlen; omega
      | cons b t => cases t with
        | nil => exact hne b rfl
        | cons => simp at hlen; omega
    simp only [results_eq, Sem.run_bind]
    rw [hrun']
    simp only [Result.andThen_ok, dif_neg this, Sem.run_pure]
noncomputable def callK (P : Program) (orc : Orc) (ih : Run) (f : FuncId) (args : List AV) (h : Hp) (nx : Nat) (k : KV) : Bool :=
  match orc f with
  | some (.call ans) => ans args h nx k
  | some (.val ans) => ans args fun r => k r h nx
  | none => optK (P.funcs[f]?) fun fn => optK fn.body fun c => iff (!(fn.name == "runtime.NumGoroutine")) (slotsK args 0 .leaf fun env =>
      ih c (Nat.add (llen args) (Nat.sub fn.ntmps (llen args))) env h nx fun e env h nx => (match e with
        | .normal => resK P env h fn.results.toList fun l => oneRes l fun r => k r h nx
        | .ret => resK P env h fn.results.toList fun l => oneRes l fun r => k r h nx
        | _ => false))
theorem callK_ok {orc : Orc} {ih : Run} (hO : OSnd P g w0 orc) (hI : Snd P g w0 ih) (H : HR P g w0 ρ h nx w) {f : FuncId} {args : List AV} {xs : List Value} (hx : F2 (GA ρ) args xs) {k : KV} (hk : callK P orc ih f args h nx k = true) :
    ((callFunc f xs.toArray).run P w = .ok (.enter f xs.toArray) w ∧ CallsK P g w0 ρ nx f xs w k) ∨ ∃ r x, k r h nx = true ∧ GR ρ r x ∧ (callFunc f xs.toArray).run P w = .ok (.value x) w := by
  have hcall : ∀ {fn : Func}, P.funcs[f]? = some fn → (fn.name == "runtime.NumGoroutine") = false → fn.body.isSome = true → (callFunc f xs.toArray).run P w = .ok (.enter f xs.toArray) w := fun {fn} hf hn hb => by
    have hb' : ¬ fn.body = none := by cases h : fn.body <;> simp_all
    have hn' : ¬ fn.name = "runtime.NumGoroutine" := by simpa using hn
    simp [callFunc, hf, hn', hb']
  unfold callK at hk
  split at hk
  · rename_i ans ha
    obtain ⟨⟨fn, hf, hn, hb⟩, hans⟩ := hO f _ ha
    exact .inl ⟨hcall hf hn hb, hans args h nx k hk ρ w xs H hx⟩
  · rename_i ans ha
    obtain ⟨r, x, h1, h2, h3⟩ := hO f _ ha args _ hk ρ xs hx
    exact .inr ⟨r, x, h1, h2, h3 w⟩
  · replace hk := optK_ok hk
    obtain ⟨fn, hf, hk⟩ := hk
    replace hk := optK_ok hk
    obtain ⟨c, hc, hk⟩ := hk
    replace hk := iff_ok hk
    obtain ⟨hn, hk⟩ := hk
    have hn : (fn.name == "runtime.NumGoroutine") = false := by simpa using hn
    refine .inl ⟨hcall hf hn (by rw [hc]; rfl), ?_⟩
    have hE : ER ρ .leaf (xs.toArray ++ Array.replicate (fn.ntmps - xs.toArray.size) undef) := fun i v hv => by cases hv
    replace hk := slotsK_ok hx hE (fun j x hj => by
      have := (List.getElem?_eq_some_iff.1 hj).1
      rw [Nat.zero_add, Array.getElem?_append_left (by simpa using this)]; simpa using hj) hk
    obtain ⟨env, hk, hE⟩ := hk
    have hl := f2_len hx
    have hF : Fr ρ (Nat.add (llen args) (Nat.sub fn.ntmps (llen args))) env { tmps := xs.toArray ++ Array.replicate (fn.ntmps - xs.toArray.size) undef, defers := [] } :=
      ⟨hE, by rw [llen_eq]; simp [hl], rfl⟩
    refine calls_of_wp hf hc (hI c _ env h nx _ hk ρ _ w H hF _ fun e env' h' nx' ρ' a' w' hk' hle H' hF' => ?_)
    have fin : resK P env' h' fn.results.toList (fun l => oneRes l fun r => k r h' nx') = true → a'.defers = [] ∧ ∃ v, (results fn a'.tmps).run P w' = .ok v w' ∧ ∃ r x ρ' h' nx', Ending.returned v = .returned x ∧ k r h' nx' = true ∧ Ext nx nx' ρ ρ' ∧ HR P g w0 ρ' h' nx' w' ∧ GR ρ' r x := fun hk => by
      obtain ⟨r, x, hk, hr, hrun⟩ := results_ok H' hF' hk
      exact ⟨hF'.dfr, x, hrun, r, x, ρ', h', nx', rfl, hk, hle, H', hr⟩
    cases e with
    | normal => exact fin hk'
    | ret => exact fin hk'
    | exit => cases hk'
    | goto => cases hk'
/-! ### what is loud -/
noncomputable def calleeK (P : Program) (g : Nat) (orc : Orc) (ih : Run) (f : Operand) (args : List Operand) (env : Env) (h : Hp) (nx : Nat) (k : KV) : Bool :=
  evK g env f fun r => (match r with
    | .c (.fn i) => evsK g env args fun l => callK P orc ih i l h nx k
    | .c (.clo id) => optK (h.get id) fun o => (match o with
      | .clo i first caps => evsK g env args fun l => fL (first ++ (l ++ caps)) fun l => callK P orc ih i l h nx k
      | _ => false)
    | _ => false)
noncomputable def opL (P : Program) (g : Nat) (orc : Orc) (ih : Run) (op : Op) (env : Env) (h : Hp) (nx : Nat) (k : KV) : Bool := match op with
  | .alloc t => allocK P h nx t k
  | .box t x => evK g env x fun r => boxK h nx t r k
  | .buildSlice t len parts => partsK g env parts.toList fun ps => buildSliceK P h nx t len ps k
  | .store t p x => evK g env p fun p => evK g env x fun r => storeK P g h t p r fun h => k .undef h nx
  | .mapUpdate t m x y => evK g env m fun m => evK g env x fun x => evK g env y fun y => mapUpdK P g h t m x y fun h => k .undef h nx
  | .insert t m x y => evK g env m fun m => evK g env x fun x => evK g env y fun y => mapUpdK P g h t m x y fun h => k .undef h nx
  | .mapEntry t m x => evK g env m fun m => evK g env x fun x => mapEntryK P g h t m x fun r h => k r h nx
  | .entryStore _ m s y => evK g env m fun m => evK g env s fun s => evK g env y fun y => entryStoreK g h m s y fun h => k .undef h nx
  | .makeMap t r => evoK g env r fun r => makeMapK P h nx t r k
  | .makeSlice t l c => evK g env l fun l => evK g env c fun c => makeSliceK P h nx t l c k
  | .makeChan t x => evK g env x fun r => makeChanK P h nx t r k
  | .range t x => evK g env x fun r => rangeK P h nx t r k
  | .next x s => evK g env x fun r => nextK g h r s fun r h => k r h nx
  | .convert s d x => evK g env x fun r => cvbK P h nx s d r k
  | .call c => (match c.callee with
    | .builtin .append => (match c.argTypes.toList, c.args.toList with | [t, t2], [s, x] => evK g env s fun s => evK g env x fun x => appendK P g h nx t t2 s x k | _, _ => false)
    | .builtin .delete => (match c.argTypes.toList, c.args.toList with | [t, _], [m, x] => evK g env m fun m => evK g env x fun x => deleteK P g h t m x fun h => k .undef h nx | _, _ => false)
    | .value f => calleeK P g orc ih f c.args.toList env h nx k
    | _ => false)
  | _ => false
theorem opL_ok {orc : Orc} {ih : Run} (hO : OSnd P g w0 orc) (hI : Snd P g w0 ih) (H : HR P g w0 ρ h nx w) (hF : Fr ρ N env a) {o : Oper} {k : KV} (hk : opL P g orc ih o.op env h nx k = true) {K : Act → World → Prop} {Q : Exit → Act → World → Prop}
    (hK : ∀ r x ρ' h' nx' w', k r h' nx' = true → Ext nx nx' ρ ρ' → HR P g w0 ρ' h' nx' w' → GR ρ' r x → K (a.put o.dst x) w') : o.wp P a w K Q := by
  obtain ⟨dst, op, type, pos, after, guard⟩ := o
  have ev : ∀ {x : Operand} {k : RV → Bool}, evK g env x k = true → ∃ r, k r = true ∧ GR ρ r (a.eval x) := fun hk => evK_ok H.glob hF.er hk
  have val : ∀ {s : Sem Value} {s' : Sem Next}, Do P g w0 ρ nx w k s → (s' = do pure (.value (← s))) → execOp a.eval { dst, op, type, pos, after, guard } = s' → Oper.wp P { dst, op, type, pos, after, guard } a w K Q := fun {s s'} hd e1 e2 => by
    obtain ⟨r, x, ρ', h', nx', w', h1, h2, h3, h4, h5⟩ := hd
    unfold Oper.wp
    rw [e2, e1]
    simp only [Sem.run_bind, h5, Result.andThen_ok, Sem.run_pure, Oper.upon_value]
    exact hK r x ρ' h' nx' w' h1 h2 h3 h4
  have unt : ∀ {s : Sem Unit} {s' : Sem Next}, DoU P g w0 ρ nx w (fun h nx => k .undef h nx) s → (s' = do s; pure .skip) → execOp a.eval { dst, op, type, pos, after, guard } = s' → Oper.wp P { dst, op, type, pos, after, guard } a w K Q := fun {s s'} hd e1 e2 => by
    obtain ⟨ρ', h', nx', w', h1, h2, h3, h5⟩ := hd
    unfold Oper.wp
    rw [e2, e1]
    simp only [Sem.run_bind, h5, Result.andThen_ok, Sem.run_pure, Oper.upon_skip]
    exact hK _ _ ρ' h' nx' w' h1 h2 h3 .undef
  cases op <;> simp only [opL] at hk <;> (try (cases hk; done))
  case alloc t => exact val (allocK_ok H hk) rfl rfl
  case box t x => obtain ⟨r, hk, hr⟩ := ev hk; exact val (boxK_ok H hr hk) rfl rfl
  case buildSlice t len parts =>
    obtain ⟨ps, hk, hps⟩ := partsK_ok H hF hk
    have e1 : (List.map (fun p => (p.1, a.eval p.2)) parts.toList).toArray = parts.map fun p => (p.1, a.eval p.2) := by apply Array.ext'; simp
    have := buildSliceK_ok H hps hk
    rw [e1] at this
    exact val this rfl rfl
  case store t p x => obtain ⟨r, hk, hr⟩ := ev hk; obtain ⟨s, hk, hs⟩ := ev hk; exact unt (storeK_ok H hr hs hk) rfl rfl
  case mapUpdate t m x y => obtain ⟨r, hk, hr⟩ := ev hk; obtain ⟨s, hk, hs⟩ := ev hk; obtain ⟨u, hk, hu⟩ := ev hk; exact unt (mapUpdK_ok (k := fun h nx => k .undef h nx) H hr hs hu hk) rfl rfl
  case insert t m x y => obtain ⟨r, hk, hr⟩ := ev hk; obtain ⟨s, hk, hs⟩ := ev hk; obtain ⟨u, hk, hu⟩ := ev hk; exact unt (mapUpdK_ok (k := fun h nx => k .undef h nx) H hr hs hu hk) rfl rfl
  case mapEntry t m x => obtain ⟨r, hk, hr⟩ := ev hk; obtain ⟨s, hk, hs⟩ := ev hk; exact val (mapEntryK_ok (k := k) H hr hs hk) rfl rfl
  case entryStore t m s y => obtain ⟨r, hk, hr⟩ := ev hk; obtain ⟨s, hk, hs⟩ := ev hk; obtain ⟨u, hk, hu⟩ := ev hk; exact unt (entryStoreK_ok (k := fun h nx => k .undef h nx) H hr hs hu hk) rfl rfl
  case makeMap t r => obtain ⟨r, hk, hr⟩ := evoK_ok H hF hk; exact val (makeMapK_ok H hr hk) rfl rfl
  case makeSlice t l c => obtain ⟨r, hk, hr⟩ := ev hk; obtain ⟨s, hk, hs⟩ := ev hk; exact val (makeSliceK_ok H hr hs hk) rfl rfl
  case makeChan t x => obtain ⟨r, hk, hr⟩ := ev hk; exact val (makeChanK_ok H hr hk) rfl rfl
  case range t x => obtain ⟨r, hk, hr⟩ := ev hk; exact val (rangeK_ok H hr hk) rfl rfl
  case next x s => obtain ⟨r, hk, hr⟩ := ev hk; exact val (nextK_ok H hr hk) rfl rfl
  case convert s d x => obtain ⟨r, hk, hr⟩ := ev hk; exact val (cvbK_ok H hr hk) rfl rfl
  case call c =>
    obtain ⟨callee, args, argTypes⟩ := c
    simp only at hk
    split at hk
    · split at hk
      · rename_i t t2 s x e1 e2
        obtain ⟨r, hk, hr⟩ := ev hk
        obtain ⟨s', hk, hs⟩ := ev hk
        have e1 : argTypes = #[t, t2] := by apply Array.ext'; simpa using e1
        have e2 : args = #[s, x] := by apply Array.ext'; simpa using e2
        subst e1 e2
        exact val (appendK_ok (ty := type) H hr hs hk) rfl (by simp [execOp, resolve, invoke, builtin])
      · cases hk
    · split at hk
      · rename_i t t2 m x e1 e2
        obtain ⟨r, hk, hr⟩ := ev hk
        obtain ⟨s', hk, hs⟩ := ev hk
        have e1 : argTypes = #[t, t2] := by apply Array.ext'; simpa using e1
        have e2 : args = #[m, x] := by apply Array.ext'; simpa using e2
        subst e1 e2
        exact val (deleteK_ok (t2 := t2) (ty := type) H hr hs hk) rfl (by simp [execOp, resolve, invoke, builtin])
      · cases hk
    · rename_i f
      obtain ⟨r, hk, hr⟩ := ev hk
      have enter : ∀ {i : FuncId} {l : List AV} {xs : List Value}, F2 (GA ρ) l xs → callK P orc ih i l h nx k = true → ((execOp a.eval { dst, op := .call { callee := .value f, args, argTypes }, type, pos, after, guard }).run P w = (callFunc i xs.toArray).run P w) → Oper.wp P { dst, op := .call { callee := .value f, args, argTypes }, type, pos, after, guard } a w K Q := fun hx hk he => by
        rcases callK_ok hO hI H hx hk with ⟨h1, h2⟩ | ⟨r, x, h1, h2, h3⟩
        case inr =>
          unfold Oper.wp
          rw [he, h3, Oper.upon_value]
          exact hK r x ρ h nx w h1 (Ext.refl _ _) H h2
        unfold Oper.wp
        rw [he, h1, Oper.upon_enter]
        refine Calls.mono h2 fun e w' hq => ?_
        obtain ⟨r, x, ρ', h', nx', rfl, h3, h4, h5, h6⟩ := hq
        exact hK r x ρ' h' nx' w' h3 h4 h5 h6
      have e1 : (List.map a.eval args.toList).toArray = args.map a.eval := by apply Array.ext'; simp
      split at hk
      · rename_i i
        obtain ⟨l, hk, hl⟩ := evsK_ok H hF hk
        have hf : a.eval f = .func (.func i) #[] #[] := by
          generalize a.eval f = X at hr
          cases hr with
          | c hr => cases hr; rfl
        exact enter hl hk (by rw [e1]; simp [execOp, resolve, hf, Deferred.ofValue, invoke])
      · rename_i id
        obtain ⟨ob, hob, hk⟩ := optK_ok hk
        cases ob <;> try (cases hk; done)
        rename_i i first caps
        dsimp only at hk
        obtain ⟨l, hk, hl⟩ := evsK_ok H hF hk
        rw [fL_eq] at hk
        obtain ⟨fx, cx, hf, h1, h2⟩ : ∃ fx cx : List Value, a.eval f = .func (.func i) fx.toArray cx.toArray ∧ F2 (GA ρ) first fx ∧ F2 (GA ρ) caps cx := by
          generalize a.eval f = X at hr
          cases hr with
          | c hr => cases hr with
            | clo hr =>
              cases H.ob hob hr with
              | clo hr' hx hy => rw [hr] at hr'; cases hr'; exact ⟨_, _, rfl, hx, hy⟩
        exact enter (f2_app h1 (f2_app hl h2)) hk (by
          have e2 : (fx ++ (List.map a.eval args.toList ++ cx)).toArray = fx.toArray ++ args.map a.eval ++ cx.toArray := by rw [← e1]; simp
          rw [e2]; simp [execOp, resolve, hf, Deferred.ofValue, invoke])
      · cases hk
    · cases hk
end
end Eng
end Go.Proofs.YtcfncbnloaiifaaGreatDoor
