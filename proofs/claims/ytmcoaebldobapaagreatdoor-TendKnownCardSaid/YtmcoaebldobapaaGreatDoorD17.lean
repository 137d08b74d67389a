/-
  The machine's operations: maps, iterators, function values, copy.
-/
import Derived.Test.YtmcoaebldobapaaGreatDoorD16
set_option linter.unusedVariables false
set_option linter.unusedSimpArgs false
namespace Go.Proofs.YtmcoaebldobapaaGreatDoor
namespace Eng
open Go Go.RowKit
section
variable {P : Program} {g : Nat} {w0 : World} {ρ : Ren} {h : Hp} {nx : Nat} {w : World}
theorem GA.det {a : AV} {x y : Value} (hx : GA ρ a x) (hy : GA ρ a y) : x = y := by
  cases hx with
  | c hx => cases hy with
    | c hy => exact G.det hx hy
  | agg hx => cases hy with
    | agg hy => rw [f2_det hx hy]
/-! ### keys -/
/-- Are two keys the same? -/
noncomputable def keyEq (P : Program) (d : TypeDesc) (kt : TypeId) (a b : AV) : Option Bool := match d, a, b with
  | .int _, .c (.int q x), .c (.int q' y) => if q = q' then some (eqI x y) else none
  | .string, .c (.str x), .c (.str y) => some (lbeq x y)
  | .bool, .c (.bool x), .c (.bool y) => some (x == y)
  | .struct fs, .agg x, .agg y => if P.stoodInHeld kt then none else eqFs P x y fs.toList
  | _, _, _ => none
noncomputable def keyOk (P : Program) (d : TypeDesc) (a : AV) : Bool := match d, a with
  | .int _, .c (.int _ _) => true
  | .string, .c (.str _) => true
  | .bool, .c (.bool _) => true
  | .struct fs, .agg x => (match eqFs P x x fs.toList with | some true => true | _ => false)
  | _, _ => false
noncomputable def findM (P : Program) (d : TypeDesc) (kt : TypeId) (key : AV) (es : List ME) : Nat → Option (Option (Nat × AV)) :=
  List.rec (motive := fun _ => Nat → Option (Option (Nat × AV))) (fun _ => some none) (fun e _ ih i => match keyEq P d kt key e.key with
    | some true => some (some (i, e.val))
    | some false => ih (Nat.succ i)
    | none => none) es
/-- What was found stands for what is found. -/
inductive Fnd (ρ : Ren) : Option (Nat × AV) → Option (Nat × Value) → Prop where
  | none : Fnd ρ none none
  | some {i : Nat} {v : AV} {x : Value} (h : GA ρ v x) : Fnd ρ (some (i, v)) (some (i, x))
theorem findM_now {d : TypeDesc} {kt : TypeId} {key : AV} {kx : Value} (hd : (∃ q, d = .int q) ∨ d = .string ∨ d = .bool) (hk : GA ρ key kx) {es : List ME} {xs : List MapEntry} (hx : F2 (GE ρ) es xs) : ∀ {i : Nat} {r : Option (Nat × AV)}, findM P d kt key es i = some r →
    ∃ r', Instr.findNow d kx xs i = some r' ∧ Fnd ρ r r' := by
  induction hx with
  | nil => intro i r h; cases h; exact ⟨_, rfl, .none⟩
  | @cons e x _ _ he _ ih =>
    intro i r h
    have same : ∀ {b : Bool}, keyEq P d kt key e.key = some b → Instr.sameNow d kx x.key = some b := fun {b} hb => by
      unfold keyEq at hb
      have he1 := he.1
      generalize x.key = xk at he1 ⊢
      split at hb
      · rename_i q q' a q'' a' _ e2
        split at hb
        · rename_i hq
          cases hb
          rw [e2] at he1
          cases hk with
          | c hk => cases hk; cases he1 with
            | c he1 => cases he1; simp [Instr.sameNow, hq, eqI_eq]; try rfl
        · cases hb
      · rename_i a a' _ e2
        cases hb
        rw [e2] at he1
        cases hk with
        | c hk => cases hk with
          | str _ s1 => cases he1 with
            | c he1 => cases he1 with
              | str _ s2 => simp [Instr.sameNow, small_inj s1 s2, lbeq_eq]
      · rename_i a a' _ e2
        cases hb
        rw [e2] at he1
        cases hk with
        | c hk => cases hk; cases he1 with
          | c he1 => cases he1; simp [Instr.sameNow]
      · rcases hd with ⟨q, hd⟩ | hd | hd <;> cases hd
      · cases hb
    change (match keyEq P d kt key e.key with | some true => some (some (i, e.val)) | some false => findM P d kt key _ (i + 1) | none => none) = some r at h
    split at h
    · rename_i hb
      cases h
      exact ⟨_, by simp only [Instr.findNow, same hb], .some he.2.1⟩
    · rename_i hb
      obtain ⟨r', h1, h2⟩ := ih h
      exact ⟨r', by simp only [Instr.findNow, same hb]; exact h1, h2⟩
    · cases h
theorem findM_asking {fs : Array Field} {kt : TypeId} (hd : P.underlying kt = some (.struct fs)) {key : AV} {kx : Value} (hk : GA ρ key kx) {es : List ME} {xs : List MapEntry} (hx : F2 (GE ρ) es xs) : ∀ {i : Nat} {r : Option (Nat × AV)}, findM P (.struct fs) kt key es i = some r →
    ∃ r', (∀ w, (Instr.findAsking kt kx xs i).run P w = .ok r' w) ∧ Fnd ρ r r' := by
  induction hx with
  | nil => intro i r h; cases h; exact ⟨_, fun w => by simp [Instr.findAsking], .none⟩
  | @cons e x _ _ he _ ih =>
    intro i r h
    have same : ∀ {b : Bool}, keyEq P (.struct fs) kt key e.key = some b → ∀ w, (Op.equal kt kx x.key).run P w = .ok b w := fun {b} hb w => by
      have he1 := he.1
      generalize x.key = xk at he1 ⊢
      generalize e.key = ek at he1 hb
      cases key with
      | c v => cases v <;> simp [keyEq] at hb
      | agg a =>
        cases ek with
        | c v => simp [keyEq] at hb
        | agg a' =>
          simp only [keyEq] at hb
          split at hb
          · cases hb
          · rename_i hp
            cases hk with
            | agg hk => cases he1 with
              | agg he1 =>
                have hf : P.fieldsOf kt = fs := by simp [Program.fieldsOf, hd]
                show (Op.equalIn 10000 kt _ _).run P w = _
                rw [run_equalIn_struct w 9999 kt _ _ (by rw [hf]; exact hd) (by simpa using hp), hf]
                exact eqFs_ok hk he1 9997 w hb
    change (match keyEq P (.struct fs) kt key e.key with | some true => some (some (i, e.val)) | some false => findM P (.struct fs) kt key _ (i + 1) | none => none) = some r at h
    split at h
    · rename_i hb
      cases h
      exact ⟨_, fun w => by simp [Instr.findAsking, same hb w], .some he.2.1⟩
    · rename_i hb
      obtain ⟨r', h1, h2⟩ := ih h
      exact ⟨r', fun w => by simp only [Instr.findAsking, Sem.run_bind, same hb w, Result.andThen_ok, Bool.false_eq_true, if_false]; exact h1 w, h2⟩
    · cases h
theorem findM_ok {d : TypeDesc} {kt : TypeId} (hd : P.underlying kt = some d) {key : AV} {kx : Value} (hk : GA ρ key kx) {es : List ME} {xs : List MapEntry} (hx : F2 (GE ρ) es xs) {r : Option (Nat × AV)} (hok : keyOk P d key = true) (h : findM P d kt key es 0 = some r) :
    ∃ r', (∀ w, (Instr.findKey kt kx xs).run P w = .ok r' w) ∧ Fnd ρ r r' := by
  have now : ((∃ q, d = .int q) ∨ d = .string ∨ d = .bool) → ∃ r', (∀ w, (Instr.findKey kt kx xs).run P w = .ok r' w) ∧ Fnd ρ r r' := fun hdd => by
    obtain ⟨r', h1, h2⟩ := findM_now hdd hk hx h
    exact ⟨r', fun w => by simp [Instr.findKey, run_underlying hd, h1], h2⟩
  unfold keyOk at hok
  split at hok
  · exact now (.inl ⟨_, rfl⟩)
  · exact now (.inr (.inl rfl))
  · exact now (.inr (.inr rfl))
  · rename_i fs x
    cases hx with
    | nil => cases h; exact ⟨_, fun w => by simp [Instr.findKey, run_underlying hd, Instr.findNow], .none⟩
    | @cons e y l m he t =>
      obtain ⟨r', h1, h2⟩ := findM_asking hd hk (.cons he t) h
      refine ⟨r', fun w => ?_, h2⟩
      have : Instr.findNow (.struct fs) kx (y :: m) 0 = none := by
        cases hk; simp only [Instr.findNow, Instr.sameNow]
      simp only [Instr.findKey, Sem.run_bind, run_underlying hd, Result.andThen_ok, this]
      exact h1 w
  · cases hok
theorem chkArr {t e : TypeId} {q : IntKind} {n off : Nat} {j : TypeInfo} (hu : P.underlying t = some (.array n e)) (he : P.underlying e = some (.int q)) (hj : P.info? e = some j) (hs1 : j.size = 1) {x : List CV} {xs : List Value} (hx : F2 (G ρ) x xs) (hr : eqIs x x off (List.range n) = some true) (b : Bool) (m : Nat) (w : World) :
    (Instr.checkKey b (m + 2) t (.agg (xs.toArray.extract off (off + n)))).run P w = .ok () w := by
  rw [show m + 2 = (m + 1) + 1 from rfl, Instr.checkKey]
  have hsz : ∀ w, (sizeOf e).run P w = .ok 1 w := fun w => by simp [sizeOf, typeInfo, hj, hs1]
  simp only [Sem.run_bind, run_underlying hu, Result.andThen_ok]
  simp only [Std.Legacy.Range.forIn_eq_forIn_range', Std.Legacy.Range.size, Nat.sub_zero, Nat.add_one_sub_one, Nat.div_one, ← List.range_eq_range']
  have key : ∀ is : List Nat, (∀ i ∈ is, i < n) → eqIs x x off is = some true → (forIn is PUnit.unit (fun i _ => do
      Instr.checkKey b (m + 1) e (← part e (xs.toArray.extract off (off + n)) (i * (← sizeOf e)))
      pure (ForInStep.yield PUnit.unit) : Nat → PUnit → Sem (ForInStep PUnit))).run P w = .ok PUnit.unit w := by
    intro is
    induction is with
    | nil => intro _ _; simp
    | cons i is ih =>
      intro hall h
      change (match lget x (Nat.add off i), lget x (Nat.add off i) with | some (.int q x'), some (.int q' y) => if q = q' then Bool.casesOn (eqI x' y) (some false) (eqIs x x off is) else none | _, _ => none) = some true at h
      split at h
      · rename_i q1 a q2 a' e1 e2
        rw [e1] at e2; cases e2
        have hself : eqI a a = true := by rw [eqI_eq]; simp
        simp only [if_true, hself] at h
        have p1 := arr_item he hx (hall i (by simp)) e1 w
        have p2 : (Instr.checkKey b (m + 1) e (.int q1 a)).run P w = .ok () w := by unfold Instr.checkKey; simp [run_underlying he]
        simp only [List.forIn_cons, Sem.run_bind, hsz, Result.andThen_ok, Nat.mul_one, p1, p2, Sem.run_pure]
        exact ih (fun i hi => hall i (by simp [hi])) h
      · cases h
  have := key (List.range n) (fun i hi => List.mem_range.1 hi) hr
  simp at this ⊢
  rw [this]
  rfl
theorem check_ok {d : TypeDesc} {kt : TypeId} (hd : P.underlying kt = some d) {key : AV} {kx : Value} (hk : GA ρ key kx) (hok : keyOk P d key = true) (b : Bool) (w : World) : (Instr.checkKey b 10000 kt kx).run P w = .ok () w := by
  have plain : ∀ (n : Nat) (t : TypeId) (d : TypeDesc) (x : Value) (w : World), P.underlying t = some d → ((∃ q, d = .int q) ∨ d = .string ∨ d = .bool) → (Instr.checkKey b (n + 1) t x).run P w = .ok () w := fun n t d x w hd h => by
    rcases h with ⟨q, rfl⟩ | rfl | rfl <;> (unfold Instr.checkKey; simp [run_underlying hd])
  unfold keyOk at hok
  split at hok
  · exact plain 9999 _ _ _ _ hd (.inl ⟨_, rfl⟩)
  · exact plain 9999 _ _ _ _ hd (.inr (.inl rfl))
  · exact plain 9999 _ _ _ _ hd (.inr (.inr rfl))
  · rename_i fs x
    cases hk with
    | @agg _ xs hk =>
      have hfs : eqFs P x x fs.toList = some true := by
        split at hok
        · assumption
        · cases hok
      show (Instr.checkKey b (9999 + 1) kt (.agg xs.toArray)).run P w = _
      unfold Instr.checkKey
      simp only [Sem.run_bind, run_underlying hd, Result.andThen_ok]
      rw [← Array.forIn_toList]
      clear hok hd
      generalize fs.toList = l at hfs
      induction l generalizing w with
      | nil => simp
      | cons f l ih =>
        change (if f.name ≠ "_" then _ else none) = some true at hfs
        split at hfs
        · rename_i hn
          have part1 : ∀ {v : CV} {d : TypeDesc}, lget x f.offset = some v → P.underlying f.type = some d → ((∃ q, d = .int q) ∨ d = .string ∨ d = .bool) → ∃ z, ∀ w, (part f.type xs.toArray f.offset).run P w = .ok z w := fun {v d} hv hd hs => by
            rw [lget_eq] at hv
            obtain ⟨z, h1, h2⟩ := f2_get hk hv
            refine ⟨z, fun w => ?_⟩
            rcases hs with ⟨q, rfl⟩ | rfl | rfl <;> simp [part, isAgg, run_underlying hd, h1]
          have fin : ∀ {v : CV} {d : TypeDesc}, lget x f.offset = some v → P.underlying f.type = some d → ((∃ q, d = .int q) ∨ d = .string ∨ d = .bool) → eqFs P x x l = some true → ∃ z, (∀ w, (part f.type xs.toArray f.offset).run P w = .ok z w) ∧ (∀ w, (Instr.checkKey b 9999 f.type z).run P w = .ok () w) ∧ eqFs P x x l = some true := fun hv hd hs hr => by
            obtain ⟨z, hz⟩ := part1 hv hd hs
            exact ⟨z, hz, fun w => plain 9998 f.type _ z w hd hs, hr⟩
          obtain ⟨z, hz, hc, hrest⟩ : ∃ z, (∀ w, (part f.type xs.toArray f.offset).run P w = .ok z w) ∧ (∀ w, (Instr.checkKey b 9999 f.type z).run P w = .ok () w) ∧ eqFs P x x l = some true := by
            split at hfs
            · rename_i q a q' a' q'' e1 e2 e3
              rw [undL_eq] at e3
              rw [e1] at e2
              cases e2
              simp only [if_true] at hfs
              have : eqI a a = true := by rw [eqI_eq]; simp
              rw [this] at hfs
              exact fin e1 e3 (.inl ⟨_, rfl⟩) hfs
            · rename_i a a' e1 e2 e3
              rw [undL_eq] at e3
              rw [e1] at e2
              cases e2
              have : lbeq a a = true := by rw [lbeq_eq]; simp
              rw [this] at hfs
              exact fin e1 e3 (.inr (.inl rfl)) hfs
            · rename_i a a' e1 e2 e3
              rw [undL_eq] at e3
              rw [e1] at e2
              cases e2
              have : (a == a) = true := by simp
              rw [this] at hfs
              exact fin e1 e3 (.inr (.inr rfl)) hfs
            · split at hfs
              · rename_i m hm
                obtain ⟨e, q, i, j, hu, he, hi, hs, hj, hs1⟩ := arrOf_ok hm
                split at hfs
                · rename_i hr
                  exact ⟨_, fun w => arr_part hu hi hs _ _ w, fun w => chkArr hu he hj hs1 hk hr b 9997 w, hfs⟩
                · cases hfs
                · cases hfs
              · cases hfs
          simp only [List.forIn_cons, Sem.run_bind, if_pos hn, hz w, Result.andThen_ok, hc, Sem.run_pure]
          exact ih w hrest
        · cases hfs
  · cases hok
/-! ### maps -/
noncomputable def rvOf (a : AV) : RV := a.rv
noncomputable def zeroV (P : Program) (t : TypeId) (k : AV → Bool) : Bool := optK (infL P t) fun i => optK i.zero fun z => ofVK z fun r => (match r with | .c v => k (.c v) | .agg l => k (.agg l) | .tup _ => false)
theorem zeroV_ok {t : TypeId} {k : AV → Bool} (hk : zeroV P t k = true) : ∃ a z, k a = true ∧ GA ρ a z ∧ ∀ w, (zeroValue t).run P w = .ok z w := by
  replace hk := optK_ok hk
  obtain ⟨i, hi, hk⟩ := hk
  try simp only [undL_eq, infL_eq, fnL_eq] at hi
  replace hk := optK_ok hk
  obtain ⟨z, hz, hk⟩ := hk
  replace hk := ofVK_ok (ρ := ρ) hk
  obtain ⟨r, hk, hr⟩ := hk
  have hrun : ∀ w, (zeroValue t).run P w = .ok z w := fun w => by simp [zeroValue, typeInfo, hi, hz]
  cases hr with
  | c hr => exact ⟨_, z, hk, .c hr, hrun⟩
  | agg hr => exact ⟨_, _, hk, .agg hr, hrun⟩
  | tup => cases hk
noncomputable def lookR (ok : Bool) (a : AV) (is : Bool) : RV := Bool.casesOn ok a.rv (.tup [a, .c (.bool is)])
theorem lookR_ok {ok is : Bool} {a : AV} {x : Value} (h : GA ρ a x) : GR ρ (lookR ok a is) (if ok then .tuple #[x, .bool is] else x) := by
  cases ok with
  | false => exact h.rv
  | true => exact .tup (.cons h (.cons (.c (.bool _)) .nil))
noncomputable def rv2 (r : RV) (k : AV → Bool) : Bool := match r with | .c v => k (.c v) | .agg l => k (.agg l) | .tup _ => false
theorem rv2_ok {r : RV} {x : Value} {k : AV → Bool} (hx : GR ρ r x) (hk : rv2 r k = true) : ∃ a, k a = true ∧ GA ρ a x := by
  cases hx with
  | c hx => exact ⟨_, hk, .c hx⟩
  | agg hx => exact ⟨_, hk, .agg hx⟩
  | tup => cases hk
noncomputable def lookupK (P : Program) (h : Hp) (t : TypeId) (x key : RV) (ok : Bool) (k : RV → List Nat → Bool) : Bool :=
  optK (undL P t) fun d => (match d with
    | .map kt et => optK (undL P kt) fun dk => rv2 key fun key => iff (keyOk P dk key) (match x with
      | .c .nilm => zeroV P et fun z => k (lookR ok z false) []
      | .c (.mp id) => optK (h.get id) fun o => (match o with
        | .map es _ => optK (findM P dk kt key es 0) fun r => (match r with
          | some iv => k (lookR ok iv.2 true) [id]
          | none => zeroV P et fun z => k (lookR ok z false) [id])
        | _ => false)
      | _ => false)
    | _ => false)
theorem lookupK_ok {t : TypeId} {x key : RV} {v kv : Value} (hx : GR ρ x v) (hkey : GR ρ key kv) {ok : Bool} {k : RV → List Nat → Bool} (H : HR P g w0 ρ h nx w) (hk : lookupK P h t x key ok k = true) : Rd P ρ h k (Instr.lookup t v kv ok) := by
  replace hk := optK_ok hk
  obtain ⟨d, hd, hk⟩ := hk
  try simp only [undL_eq, infL_eq, fnL_eq] at hd
  cases d <;> try (cases hk; done)
  rename_i kt et
  replace hk := optK_ok hk
  obtain ⟨dk, hdk, hk⟩ := hk
  try simp only [undL_eq, infL_eq, fnL_eq] at hdk
  replace hk := rv2_ok hkey hk
  obtain ⟨ka, hk, hka⟩ := hk
  replace hk := iff_ok hk
  obtain ⟨hok, hk⟩ := hk
  have hchk := fun b w => check_ok hdk hka hok b w
  split at hk
  · cases hx with
    | c hx =>
      cases hx
      replace hk := zeroV_ok (ρ := ρ) hk
      obtain ⟨a, z, hk, ha, hz⟩ := hk
      have hf : ∀ w, (Instr.findKey kt kv []).run P w = .ok none w := fun w => by simp [Instr.findKey, run_underlying hdk, Instr.findNow]
      exact Pu.rd ⟨_, _, hk, lookR_ok ha, fun w => by simp [Instr.lookup, run_underlying hd, hchk, hf, hz]⟩
  · rename_i id
    replace hk := optK_ok hk
    obtain ⟨o, ho, hk⟩ := hk
    cases o <;> try (cases hk; done)
    rename_i es clock
    replace hk := optK_ok hk
    obtain ⟨r, hr, hk⟩ := hk
    cases hx with
    | c hx => cases hx with
      | @mp _ bm _ _ hrho =>
        have core : ∀ w', Ob P ρ id (AO.map es clock) w' → ∃ xs r', w'.heap[bm]? = some (Obj.map xs.toArray clock) ∧ (∀ w, (Instr.findKey kt kv xs).run P w = .ok r' w) ∧ Fnd ρ r r' := fun w' h' => by
          obtain ⟨xs, hh, hxs⟩ := h'.mapAt hrho
          obtain ⟨r', h1, h2⟩ := findM_ok hdk hka hxs hok hr
          exact ⟨xs, r', hh, h1, h2⟩
        obtain ⟨_, r0, _, _, hf0⟩ := core w (H.ob ho hrho)
        cases hf0 with
        | none =>
          replace hk := zeroV_ok (ρ := ρ) hk
          obtain ⟨a, z, hk, ha, hz⟩ := hk
          refine ⟨_, _, _, hk, lookR_ok ha, fun id hid => by have e : id = _ := List.mem_singleton.1 hid; rw [e, hrho]; simp, fun w' hw' => ?_⟩
          obtain ⟨xs, r', hh, h1, h2⟩ := core w' (hw' _ (by simp) _ ho)
          cases h2
          simp [Instr.lookup, run_underlying hd, run_getObj hh (fun _ _ _ => by simp), hchk, h1, hz]
        | @some i va xa hva =>
          refine ⟨_, _, _, hk, lookR_ok hva, fun id hid => by have e : id = _ := List.mem_singleton.1 hid; rw [e, hrho]; simp, fun w' hw' => ?_⟩
          obtain ⟨xs, r', hh, h1, h2⟩ := core w' (hw' _ (by simp) _ ho)
          cases h2 with
          | some hva' =>
            have : xa = _ := GA.det hva hva'
            subst this
            simp [Instr.lookup, run_underlying hd, run_getObj hh (fun _ _ _ => by simp), hchk, h1]
  · cases hk
end
end Eng
end Go.Proofs.YtmcoaebldobapaaGreatDoor
