/-
  Regions that draw their order, for the machine: what may be taken at once is taken first; what is held to hold grows.
-/
import Derived.Orders
import Derived.KernelRfl
import Derived.Tactics
import Derived.Test.YtmcoaebldobapaaGreatDoorD02
set_option linter.unusedVariables false
set_option linter.unusedSimpArgs false
namespace Go.Proofs.YtmcoaebldobapaaGreatDoor
namespace Eng
open Go
section
variable {P : Program} {ops : Array Oper} {bar : Bool}
/-- What an operation waits for, be it by way of others (as far as one look downwards tells). -/
def depL (ops : Array Oper) : Nat → List Nat → List Nat
  | 0, l => l
  | k + 1, l => depL ops k (if l.contains k then (match ops[k]? with | some o => (o.after.toList.filter (Region.binds .any)).map (·.on) ++ l | none => l) else l)
def depB (ops : Array Oper) (i j : Nat) : Bool := i == j || (depL ops (j + 1) [j]).contains i
theorem depL_ok {ops : Array Oper} {listed : Array Bool} (hc : ∀ (k : Nat) o, ops[k]? = some o → listed.getD k false = true → ∀ e ∈ o.after, Region.binds .any e = true → listed.getD e.on false = true) {j : Nat} (hj : ∀ o, ops[j]? = some o → ∀ e ∈ o.after, Region.binds .any e = true → listed.getD e.on false = true) :
    ∀ (n : Nat) (l : List Nat), (∀ i ∈ l, i = j ∨ listed.getD i false = true) → ∀ i ∈ depL ops n l, i = j ∨ listed.getD i false = true
  | 0, _, hl => hl
  | n + 1, l, hl => depL_ok hc hj n _ fun i hi => by
    split at hi
    · rename_i hn
      have hn : n ∈ l := by simpa using hn
      split at hi
      · rename_i o ho
        rcases List.mem_append.1 hi with h | h
        · obtain ⟨e, he, rfl⟩ := List.mem_map.1 h
          obtain ⟨he, hb⟩ := List.mem_filter.1 he
          have he : e ∈ o.after := by simpa using he
          rcases hl n hn with rfl | hln
          · exact .inr (hj o ho e he hb)
          · exact .inr (hc n o ho hln e he hb)
        · exact hl i h
      · exact hl i hi
    · exact hl i hi
/-- Whatever order is picked from here on; between two operations the world is of a class that only grows narrower. -/
def wpAnyD (P : Program) (ops : Array Oper) (bar : Bool) (Q : Act → World → Prop) : Nat → Array Bool → (Nat → World → Prop) → Act → World → Prop
  | 0, listed, C, a, w => (bar = false → ∀ m, C m w) ∧ (∀ (k : Nat) o, ops[k]? = some o → listed.getD k true = true) ∧ Q a w
  | fuel + 1, listed, C, a, w => (∀ m, C m w) ∧ (Region.ready .any ops listed = [] → Q a w) ∧
    ∀ i ∈ Region.ready .any ops listed, wpOp P ops (onlyN Q) i (fun a' w' => ∃ C' : Nat → World → Prop, (∀ m, depB ops m i = false → ∀ u, C' m u → C m u) ∧ wpAnyD P ops bar Q fuel (listed.setIfInBounds i true) C' a' w') a w
theorem wpAnyD_mono {Q : Act → World → Prop} {C D : Nat → World → Prop} (hCD : ∀ m u, C m u → D m u) : ∀ {fuel : Nat} {listed : Array Bool} {a : Act} {w : World}, wpAnyD P ops bar Q fuel listed C a w → wpAnyD P ops bar Q fuel listed D a w
  | 0, _, _, _, h => ⟨fun hb m => hCD m _ (h.1 hb m), h.2⟩
  | _ + 1, _, _, _, h => ⟨fun m => hCD m _ (h.1 m), h.2.1, fun i hi => wpOp_mono (fun _ _ ⟨C', hs, h⟩ => ⟨C', fun m hm u hu => hCD m u (hs m hm u hu), h⟩) (h.2.2 i hi)⟩
theorem wpAny_of_D {Q : Act → World → Prop} {Q' : Exit → Act → World → Prop} (hQ : ∀ a w, Q a w → Q' .normal a w) : ∀ (fuel : Nat) (listed : Array Bool) (C : Nat → World → Prop) (a : Act) (w : World),
    wpAnyD P ops bar Q fuel listed C a w → wpAny P .any ops Q' fuel listed a w
  | 0, _, _, _, _, h => ⟨ready_nil h.2.1, hQ _ _ h.2.2⟩
  | fuel + 1, _, _, _, _, h => ⟨fun h0 => hQ _ _ (h.2.1 h0), fun i hi => wpOp_mono (fun a w ⟨C', _, h⟩ => wpAny_of_D hQ fuel _ C' a w h)
      (wpOp_monoQ (fun e a w h => by cases e <;> first | exact hQ _ _ h | exact h.elim) (h.2.2 i hi))⟩
theorem YieldsC.sub {C D : World → Prop} {o : Oper} {v : Value} {a : Act} (h : YieldsC P ops C o v a) (hs : ∀ u, D u → C u) : YieldsC P ops D o v a :=
  h.imp (fun h => ⟨h.1, fun w hw => h.2 w (hs w hw)⟩) id
/-- What is listed comes behind what it waits for. -/
def Closed (ops : Array Oper) (l : Array Bool) : Prop := ∀ (k : Nat) o, ops[k]? = some o → l.getD k false = true → ∀ e ∈ o.after, Region.binds .any e = true → l.getD e.on false = true
theorem closed_set {l : Array Bool} {j : Nat} (h : Closed ops l) (hj : j ∈ Region.ready .any ops l) : Closed ops (l.setIfInBounds j true) := fun k o ho hl e he hb => by
  obtain ⟨_, oj, hoj, hall⟩ := mem_ready.1 hj
  by_cases hk : j = k
  · subst hk
    rw [hoj] at ho; cases ho
    exact getD_set_true (hall e he hb)
  · rw [getD_set_ne false hk] at hl
    exact getD_set_true (h k o ho hl e he hb)
/-- The last operation waits for all others, be it by way of others. -/
def barT (ops : Array Oper) : Bool :=
  match ops[ops.size - 1]? with
  | some o => !floats o.op && (List.range (ops.size - 1)).all fun k => (List.range ops.size).any fun j => Nat.ble (Nat.succ k) j && match ops[j]? with | some oj => oj.after.any fun e => Region.binds .any e && e.on == k | none => false
  | none => false
theorem getD_ft {l : Array Bool} {k : Nat} (h : l.getD k false = true) : l.getD k true = true := by
  rcases Nat.lt_or_ge k l.size with h' | h'
  · simp [h'] at h ⊢; exact h
  · simp [Array.getElem?_eq_none h'] at h
theorem bars_of_barT (hb : barT ops = true) : ∀ l : Array Bool, Closed ops l → ops.size - 1 ∈ Region.ready .any ops l → ∀ (k : Nat) o, ops[k]? = some o → k ≠ ops.size - 1 → l.getD k true = true := by
  intro l hc hl
  obtain ⟨_, oz, hoz, hall⟩ := mem_ready.1 hl
  simp only [barT, hoz, Bool.and_eq_true, List.all_eq_true, List.mem_range, List.any_eq_true] at hb
  have key : ∀ m k, ops.size - 1 - k = m → k < ops.size - 1 → l.getD k false = true := by
    intro m
    induction m using Nat.strongRecOn with
    | _ m ih =>
      intro k hm hk
      obtain ⟨j, hj, hkj, h1⟩ := hb.2 k hk
      have hkj : k < j := Nat.le_of_ble_eq_true hkj
      cases hoj : ops[j]? with
      | none => rw [hoj] at h1; cases h1
      | some oj =>
        rw [hoj] at h1
        dsimp only at h1
        rw [Array.any_eq_true'] at h1
        obtain ⟨e, he, h1⟩ := h1
        simp only [Bool.and_eq_true, beq_iff_eq] at h1
        by_cases hz : j = ops.size - 1
        · subst hz
          rw [hoz] at hoj; cases hoj
          rw [← h1.2]; exact hall e he h1.1
        · rw [← h1.2]; exact hc j oj hoj (ih (ops.size - 1 - j) (by omega) j rfl (by omega)) e he h1.1
  intro k o hk hne
  have hlt := (Array.getElem?_eq_some_iff.1 hk).1
  exact getD_ft (key _ k rfl (by omega))
def Barred2 (ops : Array Oper) (bar : Bool) (listed : Array Bool) : Prop :=
  bar = true → ∃ z oz, ops[z]? = some oz ∧ listed.getD z true = false ∧ ∀ l : Array Bool, Closed ops l → z ∈ Region.ready .any ops l → ∀ (k : Nat) o, ops[k]? = some o → k ≠ z → l.getD k true = true
theorem wpAnyD_first {Q : Act → World → Prop} {i : Nat} {oi : Oper} {v : Value} (hi : ops[i]? = some oi) (hsel : ∀ (j : Nat) (o : Oper) cs b, ops[j]? = some o → o.op ≠ .select cs b) :
    ∀ (fuel : Nat) (listed : Array Bool) (C : Nat → World → Prop) (a : Act) (w : World),
      (∀ j oj, ops[j]? = some oj → j ≠ i → listed.getD j true = false → (∀ e ∈ oj.after, Region.binds .any e = true → e.on ≠ i) → oi.apart ops oj = true) →
      (∀ m, C m w) → Closed ops listed → Barred2 ops bar listed →
      i ∈ Region.ready .any ops listed → YieldsC P ops (C i) oi v a →
      wpAnyD P ops bar Q fuel (listed.setIfInBounds i true) C (a.put oi.dst v) w → wpAnyD P ops bar Q (fuel + 1) listed C a w := by
  intro fuel
  induction fuel with
  | zero =>
    intro listed C a w _ hC _ _ hr hy H
    refine ⟨hC, fun h => (by rw [h] at hr; cases hr), fun j hj => ?_⟩
    by_cases hji : j = i
    · subst hji; exact hy.wpOp hi (hC _) ⟨C, fun _ _ _ h => h, H⟩
    · have := ready_mono hj hji
      rw [ready_nil H.2.1] at this
      cases this
  | succ fuel ih =>
    intro listed C a w hfree hC hcl hbar hr hy H
    refine ⟨hC, fun h => (by rw [h] at hr; cases hr), fun j hj => ?_⟩
    by_cases hji : j = i
    · subst hji; exact hy.wpOp hi (hC _) ⟨C, fun _ _ _ h => h, H⟩
    · have h1 := H.2.2 j (ready_mono hj hji)
      obtain ⟨hjun, oj, hoj, hall⟩ := mem_ready.1 hj
      have hnot : ∀ e ∈ oj.after, Region.binds .any e = true → e.on ≠ i := fun e he hb heq => by
        have h1 := hall e he hb
        have h0 := (mem_ready.1 hr).1
        rw [heq] at h1
        rcases Nat.lt_or_ge i listed.size with h' | h'
        · simp [h'] at h0 h1; rw [h0] at h1; cases h1
        · simp [Array.getElem?_eq_none h'] at h1
      have h2 := wpOp_putC hoj (hfree j oj hoj hji hjun hnot) (fun cs b => hsel i oi cs b hi) (fun cs b => hsel j oj cs b hoj) hy h1
      have hfree' : ∀ k ok, ops[k]? = some ok → k ≠ i → (listed.setIfInBounds j true).getD k true = false →
          (∀ e ∈ ok.after, Region.binds .any e = true → e.on ≠ i) → oi.apart ops ok = true := fun k ok hk hki hun hno => by
        refine hfree k ok hk hki ?_ hno
        by_cases hjk : j = k
        · subst hjk; exact hjun
        · rw [getD_set_ne true hjk] at hun; exact hun
      have hcl' := closed_set hcl hj
      have hbar' : Barred2 ops bar (listed.setIfInBounds j true) := fun hb => by
        obtain ⟨z, oz, hz, hun, hlast⟩ := hbar hb
        refine ⟨z, oz, hz, ?_, hlast⟩
        by_cases hjz : j = z
        · subst hjz
          have := hlast listed hcl hj i oi hi (Ne.symm hji)
          rw [(mem_ready.1 hr).1] at this
          cases this
        · rw [getD_set_ne true hjz]; exact hun
      refine wpOp_mono (fun a' w' h3 => ?_) h2
      obtain ⟨hy', C', hsub, h3⟩ := h3
      have hdep : depB ops i j = false := by
        cases hd : depB ops i j with
        | false => rfl
        | true =>
          exfalso
          unfold depB at hd
          simp only [Bool.or_eq_true, beq_iff_eq] at hd
          rcases hd with hd | hd
          · exact hji hd.symm
          · have h5 := depL_ok (j := j) hcl (fun o ho e he hb => by
              rw [hoj] at ho; cases ho
              exact hall e he hb) (j + 1) [j] (fun k hk => .inl (by simpa using hk)) i (by simpa using hd)
            rcases h5 with h5 | h5
            · exact hji h5.symm
            · have h0 := (mem_ready.1 hr).1
              rw [getD_ft h5] at h0; cases h0
      refine ⟨C', hsub, ih (listed.setIfInBounds j true) C' a' w' hfree' ?_ hcl' hbar' (ready_mono hr (Ne.symm hji)) (YieldsC.sub hy' (hsub i hdep)) ?_⟩
      · cases fuel with
        | succ f => exact h3.1
        | zero =>
          cases hb : bar with
          | false => exact h3.1 hb
          | true =>
            obtain ⟨z, oz, hz, hun, hlast⟩ := hbar hb
            by_cases hzi : z = i
            · subst hzi
              have := hlast listed hcl hr j oj hoj hji
              rw [hjun] at this; cases this
            · by_cases hzj : z = j
              · subst hzj
                have := hlast listed hcl hj i oi hi (Ne.symm hji)
                rw [(mem_ready.1 hr).1] at this; cases this
              · have := h3.2.1 z oz hz
                rw [getD_set_ne true (Ne.symm hzj), getD_set_ne true (Ne.symm hzi), hun] at this
                cases this
      · rw [Array.setIfInBounds_comm _ _ hji]
        exact h3
end
end Eng
end Go.Proofs.YtmcoaebldobapaaGreatDoor
