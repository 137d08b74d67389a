/-
  A REGION THAT DRAWS ITS ORDER AND STORES, WALKED ONCE: what reads memory comes ahead of every store, in whatever order is picked; so behind the first store nothing need be held of the world.
-/
import Derived.Test.YtglbkodmmogomaaGreatDoorF01
import Derived.Test.YtglbkodmmogomaaGreatDoorF04
import Derived.Test.YtglbkodmmogomaaGreatDoorF06
import Derived.Sort.Walk7a
import Derived.Test.YtglbkodmmogomaaGreatDoorF03
import Derived.Deep.LoopGhost
import Derived.Laws.IdiomStrings
import Derived.Laws.BytesArg
set_option linter.unusedVariables false
set_option linter.unusedSimpArgs false
namespace Go.Proofs.YtglbkodmmogomaaGreatDoor.H2
open Go
section
variable {P : Program} {ops : Array Oper} {md : Region.Mode} {C : World → Prop}
/-- Its value hangs on no world. -/
def pureOp : Go.Op → Bool
  | .nilCheck _ | .move _ | .assign _ | .pick .. | .build .. | .binOp .. | .unOp .. | .convert .. | .fieldAddr .. | .field .. | .indexAddr .. | .extract .. => true
  | _ => false
def hotOp : Go.Op → Bool
  | .store .. => true
  | _ => false
def readsOp (o : Go.Op) : Bool := floats o && !pureOp o
def hotB (md : Region.Mode) (ops : Array Oper) : Bool :=
  (List.range ops.size).all fun j => match ops[j]? with
    | some oj => !hotOp oj.op || (List.range ops.size).all fun i => match ops[i]? with
      | some oi => !readsOp oi.op || oj.after.any fun e => Region.binds md e && e.on == i
      | none => true
    | none => true
theorem hotB_spec (h : hotB md ops = true) {j i : Nat} {oj oi : Oper} (hj : ops[j]? = some oj) (hi : ops[i]? = some oi) (hh : hotOp oj.op = true) (hr : readsOp oi.op = true) :
    ∃ e ∈ oj.after, Region.binds md e = true ∧ e.on = i := by
  have hj' := (Array.getElem?_eq_some_iff.1 hj).1
  have hi' := (Array.getElem?_eq_some_iff.1 hi).1
  have h1 := List.all_eq_true.1 h j (List.mem_range.2 hj')
  simp only [hj, hh, Bool.not_true, Bool.false_or] at h1
  have h2 := List.all_eq_true.1 h1 i (List.mem_range.2 hi')
  simp only [hi, hr, Bool.not_true, Bool.false_or] at h2
  rw [Array.any_eq_true] at h2
  obtain ⟨k, hk, h2⟩ := h2
  simp only [Bool.and_eq_true, beq_iff_eq] at h2
  exact ⟨_, Array.getElem_mem hk, h2.1, h2.2⟩
/-- No store has come up. -/
def Cold (ops : Array Oper) (listed : Array Bool) : Prop := ∀ (j : Nat) oj, ops[j]? = some oj → hotOp oj.op = true → listed.getD j true = false
/-- Where a store has come up, all that reads has. -/
def Shut (ops : Array Oper) (listed : Array Bool) : Prop := ∀ (j : Nat) oj, ops[j]? = some oj → hotOp oj.op = true → listed.getD j true = true → ∀ (i : Nat) oi, ops[i]? = some oi → readsOp oi.op = true → listed.getD i true = true
theorem listed_of_after {listed : Array Bool} {j : Nat} (hj : j ∈ Region.ready md ops listed) {oj : Oper} (hoj : ops[j]? = some oj) {e : Edge} (he : e ∈ oj.after) (hb : Region.binds md e = true) : listed.getD e.on true = true := by
  obtain ⟨_, o, ho, hall⟩ := mem_ready.1 hj
  rw [hoj] at ho
  cases ho
  have h2 := hall e he hb
  rcases Nat.lt_or_ge e.on listed.size with h' | h'
  · simp [h'] at h2 ⊢; exact h2
  · simp [Array.getElem?_eq_none h'] at h2
theorem getD_set_self (listed : Array Bool) (j : Nat) : (listed.setIfInBounds j true).getD j true = true := by
  rw [Array.getD_eq_getD_getElem?, Array.getElem?_setIfInBounds]
  by_cases h : j < listed.size
  · simp [h]
  · simp [h]
theorem getD_set_true (listed : Array Bool) (j i : Nat) (h : listed.getD i true = true) : (listed.setIfInBounds j true).getD i true = true := by
  by_cases e : j = i
  · subst e
    exact getD_set_self _ _
  · rw [getD_set_ne true e]; exact h
theorem Shut.set (hh : hotB md ops = true) {listed : Array Bool} (h : Shut ops listed) {j : Nat} (hj : j ∈ Region.ready md ops listed) : Shut ops (listed.setIfInBounds j true) := by
  intro k ok hk hhot hl i oi hi hr
  by_cases e : j = k
  · subst e
    obtain ⟨e, he, hb, rfl⟩ := hotB_spec hh hk hi hhot hr
    exact getD_set_true _ _ _ (listed_of_after hj hk he hb)
  · rw [getD_set_ne true e] at hl
    exact getD_set_true _ _ _ (h k ok hk hhot hl i oi hi hr)
def wpAnyH (P : Program) (md : Region.Mode) (ops : Array Oper) (C : World → Prop) (Q : Act → World → Prop) : Nat → Array Bool → Act → World → Prop
  | 0, listed, a, w => (Cold ops listed → C w) ∧ (∀ (k : Nat) o, ops[k]? = some o → listed.getD k true = true) ∧ Q a w
  | fuel + 1, listed, a, w => (Cold ops listed → C w) ∧ (Region.ready md ops listed = [] → Q a w) ∧
    ∀ i ∈ Region.ready md ops listed, wpOp P ops (onlyN Q) i (wpAnyH P md ops C Q fuel (listed.setIfInBounds i true)) a w
theorem wpAny_of_H {Q : Act → World → Prop} {Q' : Exit → Act → World → Prop} (hQ : ∀ a w, Q a w → Q' .normal a w) : ∀ (fuel : Nat) (listed : Array Bool) (a : Act) (w : World),
    wpAnyH P md ops C Q fuel listed a w → wpAny P md ops Q' fuel listed a w
  | 0, _, _, _, h => ⟨ready_nil h.2.1, hQ _ _ h.2.2⟩
  | fuel + 1, _, _, _, h => ⟨fun h0 => hQ _ _ (h.2.1 h0), fun i hi => wpOp_mono (fun a w => wpAny_of_H hQ fuel _ a w)
      (wpOp_monoQ (fun e a w h => by cases e <;> first | exact hQ _ _ h | exact h.elim) (h.2.2 i hi))⟩
theorem wpAnyH.cold {Q : Act → World → Prop} {fuel : Nat} {listed : Array Bool} {a : Act} {w : World} (h : wpAnyH P md ops C Q fuel listed a w) : Cold ops listed → C w := by
  cases fuel with
  | zero => exact h.1
  | succ f => exact h.1
/-- The class in which an operation is asked for its value. -/
def classOf (C : World → Prop) (o : Oper) (w : World) : Prop := readsOp o.op = true → C w
theorem wpAnyH_first {Q : Act → World → Prop} {i : Nat} {oi : Oper} {v : Value} (hh : hotB md ops = true) (hi : ops[i]? = some oi) (hfl : floats oi.op = true) (hsel : ∀ (j : Nat) (o : Oper) cs b, ops[j]? = some o → o.op ≠ .select cs b) :
    ∀ (fuel : Nat) (listed : Array Bool) (a : Act) (w : World),
      (∀ j oj, ops[j]? = some oj → j ≠ i → listed.getD j true = false → (∀ e ∈ oj.after, Region.binds md e = true → e.on ≠ i) → oi.apart ops oj = true) →
      (Cold ops listed → C w) → Shut ops listed →
      i ∈ Region.ready md ops listed → YieldsC P ops (classOf C oi) oi v a →
      wpAnyH P md ops C Q fuel (listed.setIfInBounds i true) (a.put oi.dst v) w → wpAnyH P md ops C Q (fuel + 1) listed a w := by
  have hnot : hotOp oi.op = false := by
    cases h : oi.op <;> rw [h] at hfl <;> first | rfl | cases hfl
  have hcls : ∀ (listed : Array Bool) (w : World), (Cold ops listed → C w) → Shut ops listed → i ∈ Region.ready md ops listed → classOf C oi w := by
    intro listed w hC hS hr hread
    refine hC fun j oj hj hhot => ?_
    cases hl : listed.getD j true with
    | false => rfl
    | true =>
      have := hS j oj hj hhot hl i oi hi hread
      rw [(mem_ready.1 hr).1] at this
      cases this
  intro fuel
  induction fuel with
  | zero =>
    intro listed a w _ hC hS hr hy H
    refine ⟨hC, fun h => (by rw [h] at hr; cases hr), fun j hj => ?_⟩
    by_cases hji : j = i
    · subst hji; exact hy.wpOp hi (hcls listed w hC hS hr) H
    · have := ready_mono hj hji
      rw [ready_nil H.2.1] at this
      cases this
  | succ fuel ih =>
    intro listed a w hfree hC hS hr hy H
    refine ⟨hC, fun h => (by rw [h] at hr; cases hr), fun j hj => ?_⟩
    by_cases hji : j = i
    · subst hji; exact hy.wpOp hi (hcls listed w hC hS hr) H
    · have h1 := H.2.2 j (ready_mono hj hji)
      obtain ⟨hjun, oj, hoj, hall⟩ := mem_ready.1 hj
      have hnot2 : ∀ e ∈ oj.after, Region.binds md e = true → e.on ≠ i := fun e he hb heq => by
        have h1 := listed_of_after hj hoj he hb
        rw [heq, (mem_ready.1 hr).1] at h1
        cases h1
      have h2 := wpOp_putC hoj (hfree j oj hoj hji hjun hnot2) (fun cs b => hsel i oi cs b hi) (fun cs b => hsel j oj cs b hoj) hy h1
      have hfree' : ∀ k ok, ops[k]? = some ok → k ≠ i → (listed.setIfInBounds j true).getD k true = false →
          (∀ e ∈ ok.after, Region.binds md e = true → e.on ≠ i) → oi.apart ops ok = true := fun k ok hk hki hun hno => by
        refine hfree k ok hk hki ?_ hno
        by_cases hjk : j = k
        · subst hjk; exact hjun
        · rw [getD_set_ne true hjk] at hun; exact hun
      refine wpOp_mono (fun a' w' h3 => ih (listed.setIfInBounds j true) a' w' hfree' (fun hcold => ?_) (hS.set hh hj) (ready_mono hr (Ne.symm hji)) h3.1 ?_) h2
      · refine h3.2.cold fun k ok hk hhot => ?_
        have hki : k ≠ i := fun e => by subst e; rw [hi] at hk; cases hk; rw [hnot] at hhot; cases hhot
        have := hcold k ok hk hhot
        by_cases hjk : j = k
        · subst hjk
          rw [getD_set_self] at this
          cases this
        · rw [getD_set_ne true hjk, getD_set_ne true (Ne.symm hki)]
          rwa [getD_set_ne true hjk] at this
      · rw [Array.setIfInBounds_comm _ _ hji]
        exact h3.2
/-- THE WALK. -/
def wpH (P : Program) (ops : Array Oper) (C : World → Prop) (Q : Act → World → Prop) : Bool → List Oper → Act → World → Prop
  | cool, [], a, w => (cool = true → C w) ∧ Q a w
  | cool, o :: rest, a, w =>
    if Region.wanted o (yielded ops a.tmps) then
      if floats o.op then ∃ v, (∀ w', classOf C o w' → (execOp a.eval o).run P w' = .ok (.value v) w') ∧ wpH P ops C Q cool rest (a.put o.dst v) w
      else o.wp P a w (fun a' w' => ((cool && !hotOp o.op) = true → C w') ∧ wpH P ops C Q (cool && !hotOp o.op) rest a' w') (onlyN Q)
    else wpH P ops C Q (cool && !hotOp o.op) rest (a.put o.dst undef) w
theorem wpAnyH_eager {Q : Act → World → Prop} (hs : Region.noSelect ops = true) (hh : hotB .any ops = true) : ∀ (l : List Nat) (listed : Array Bool) (cool : Bool) (a : Act) (w : World),
    eagerFrom .any ops l listed = true → Shut ops listed → (Cold ops listed → cool = true) → (cool = true → C w) → wpH P ops C Q cool (l.map fun k => (ops[k]?).getD default) a w → wpAnyH P .any ops C Q l.length listed a w
  | [], listed, cool, a, w, hB, _, hcool, hC, h => by
    refine ⟨fun hc => hC (hcool hc), fun k o hk => ?_, h.2⟩
    simp only [eagerFrom, List.all_eq_true, List.mem_range] at hB
    exact hB k (Array.getElem?_eq_some_iff.1 hk).1
  | k :: rest, listed, cool, a, w, hB, hS, hcool, hC, h => by
    simp only [eagerFrom, Bool.and_eq_true] at hB
    obtain ⟨hk, hB'⟩ := hB
    have hr : k ∈ Region.ready .any ops listed := by
      split at hk
      · simp only [Bool.and_eq_true] at hk; simpa using hk.1
      · have : Region.ready .any ops listed = [k] := by simpa using hk
        rw [this]; simp
    obtain ⟨hun, o, hok, _⟩ := mem_ready.1 hr
    simp only [List.map_cons, hok, Option.getD_some, wpH] at h
    simp only [floatsAt, hok] at hk
    have hS' := hS.set hh hr
    have hnext : Cold ops (listed.setIfInBounds k true) → (cool && !hotOp o.op) = true := by
      intro hc
      have hno : hotOp o.op = false := by
        cases hz : hotOp o.op with
        | false => rfl
        | true =>
          have h1 := hc k o hok hz
          rw [getD_set_self] at h1
          cases h1
      rw [hno, hcool]
      · rfl
      · intro j oj hj hhot
        have := hc j oj hj hhot
        by_cases e : k = j
        · subst e; exact hun
        · rwa [getD_set_ne true e] at this
    by_cases hf : floats o.op = true
    · rw [if_pos hf] at hk
      simp only [Bool.and_eq_true] at hk
      have hno : hotOp o.op = false := by
        cases h : o.op <;> rw [h] at hf <;> first | rfl | cases hf
      by_cases hw : Region.wanted o (yielded ops a.tmps) = true
      · simp only [hw, if_true, hf] at h
        obtain ⟨v, hv, hn⟩ := h
        refine wpAnyH_first hh hok hf (Region.noSelect_spec hs) rest.length listed a w (Region.free_spec hok hk.2) (fun hc => hC (hcool hc)) hS hr (.inl ⟨hw, hv⟩)
          (wpAnyH_eager hs hh rest _ cool _ w hB' hS' (fun hc => ?_) hC hn)
        have := hnext hc
        rw [Bool.and_eq_true] at this
        exact this.1
      · simp only [hw, hno, Bool.not_false, Bool.and_true] at h
        refine wpAnyH_first hh hok hf (Region.noSelect_spec hs) rest.length listed a w (Region.free_spec hok hk.2) (fun hc => hC (hcool hc)) hS hr (.inr ⟨by simpa using hw, rfl⟩)
          (wpAnyH_eager hs hh rest _ cool _ w hB' hS' (fun hc => ?_) hC h)
        have := hnext hc
        rw [Bool.and_eq_true] at this
        exact this.1
    · rw [if_neg hf] at hk
      have hr1 : Region.ready .any ops listed = [k] := by simpa using hk
      refine ⟨fun hc => hC (hcool hc), fun h0 => (by rw [h0] at hr1; cases hr1), fun j hj => ?_⟩
      rw [hr1] at hj
      obtain rfl : j = k := by simpa using hj
      unfold wpOp
      simp only [hok]
      by_cases hw : Region.wanted o (yielded ops a.tmps) = true
      · simp only [hw, if_true, hf] at h ⊢
        exact .inl (Oper.wp_mono (fun a' w' h' => wpAnyH_eager hs hh rest _ _ a' w' hB' hS' hnext h'.1 h'.2) h)
      · simp only [hw] at h ⊢
        refine wpAnyH_eager hs hh rest _ _ _ w hB' hS' hnext (fun hc => hC ?_) h
        rw [Bool.and_eq_true] at hc
        exact hc.1
/-- **A REGION THAT DRAWS ITS ORDER AND STORES, WALKED ONCE.** -/
theorem wp_region_hot {id : Nat} {Q : Exit → Act → World → Prop} {a : Act} {w : World} (ord : List Nat) (C : World → Prop) (hm : P.follows .mixedOrders = true) (hB : (Region.noSelect ops && hotB .any ops && eagerFrom .any ops ord (Array.replicate ops.size false)) = true)
    (hlen : ord.length = ops.size) (hC : C w.drew) (h : wpH P ops C (Q .normal) true (ord.map fun k => (ops[k]?).getD default) a w.drew) : (Code.region id ops true).wp P Q a w := by
  simp only [Bool.and_eq_true] at hB
  obtain ⟨⟨h1, h2⟩, h3⟩ := hB
  refine wp_region_any hm (wpAny_of_H (C := C) (Q := Q .normal) (fun _ _ h => h) _ _ _ _ ?_)
  rw [← hlen]
  refine wpAnyH_eager h1 h2 ord _ true a w.drew (by rw [hlen]; exact h3) (fun j oj hj _ hl => ?_) (fun _ => rfl) (fun _ => hC) h
  have hlt := (Array.getElem?_eq_some_iff.1 hj).1
  rw [hlen, Array.getD_eq_getD_getElem?, Array.getElem?_replicate, if_pos hlt] at hl
  cases hl
theorem wpH_pure {Q : Act → World → Prop} {rest : List Oper} {a : Act} {w : World} {o : Oper} {v : Value} {cool : Bool} (hw : Region.wanted o (yielded ops a.tmps) = true) (hf : floats o.op = true)
    (hv : ∀ w', (execOp a.eval o).run P w' = .ok (.value v) w') (h : wpH P ops C Q cool rest (a.put o.dst v) w) : wpH P ops C Q cool (o :: rest) a w := by
  unfold wpH; simp only [hw, hf, if_true]; exact ⟨v, fun w' _ => hv w', h⟩
theorem wpH_read {Q : Act → World → Prop} {rest : List Oper} {a : Act} {w : World} {o : Oper} {v : Value} {cool : Bool} (hw : Region.wanted o (yielded ops a.tmps) = true) (hf : floats o.op = true) (hr : readsOp o.op = true)
    (hv : ∀ w', C w' → (execOp a.eval o).run P w' = .ok (.value v) w') (h : wpH P ops C Q cool rest (a.put o.dst v) w) : wpH P ops C Q cool (o :: rest) a w := by
  unfold wpH; simp only [hw, hf, if_true]; exact ⟨v, fun w' hc => hv w' (hc hr), h⟩
theorem wpH_loud {Q : Act → World → Prop} {rest : List Oper} {a : Act} {w : World} {o : Oper} {cool : Bool} (hw : Region.wanted o (yielded ops a.tmps) = true) (hf : floats o.op = false) (hh : hotOp o.op = false)
    (h : ∀ K : Act → World → Prop, (∀ a' w', (cool = true → C w') → wpH P ops C Q cool rest a' w' → K a' w') → o.wp P a w K (onlyN Q)) : wpH P ops C Q cool (o :: rest) a w := by
  unfold wpH; simp only [hw, hf, hh, Bool.not_false, Bool.and_true, if_true]; exact h _ fun a' w' h1 h2 => ⟨h1, h2⟩
theorem wpH_hot {Q : Act → World → Prop} {rest : List Oper} {a : Act} {w : World} {o : Oper} {cool : Bool} (hw : Region.wanted o (yielded ops a.tmps) = true) (hf : floats o.op = false) (hh : hotOp o.op = true)
    (h : ∀ K : Act → World → Prop, (∀ a' w', wpH P ops C Q false rest a' w' → K a' w') → o.wp P a w K (onlyN Q)) : wpH P ops C Q cool (o :: rest) a w := by
  unfold wpH; simp only [hw, hf, hh, Bool.not_true, Bool.and_false, if_true]; exact h _ fun a' w' h2 => ⟨fun h => (by cases h), h2⟩
theorem wpH_end {Q : Act → World → Prop} {a : Act} {w : World} (h : Q a w) : wpH P ops C Q false [] a w := ⟨fun h => (by cases h), h⟩
end
end Go.Proofs.YtglbkodmmogomaaGreatDoor.H2
/-
  PLAIN WORDS, no program in sight: numbers and tables as bytes, put and taken.
-/
namespace Go.Proofs.YtglbkodmmogomaaGreatDoor
open Go Go.RowKit
/-- A number's turned form. -/
def turnN (n : Int) : Nat := if 0 ≤ n then (2 * n).toNat else (-2 * n - 1).toNat
/-- The bytes of a number that is not below 0: seven bits a byte, the lowest first; the highest bit tells that it goes on. -/
def digs (u : Nat) : List UInt8 := if u < 128 then [UInt8.ofNat u] else UInt8.ofNat (u % 128 + 128) :: digs (u / 128)
termination_by u
decreasing_by omega
theorem digs_small {u : Nat} (h : u < 128) : digs u = [UInt8.ofNat u] := by rw [digs, if_pos h]
theorem digs_big {u : Nat} (h : ¬ u < 128) : digs u = UInt8.ofNat (u % 128 + 128) :: digs (u / 128) := by rw [digs, if_neg h]
def putL (l : List Int) : List UInt8 := l.flatMap fun n => digs (turnN n)
/-- The numbers of a table, one behind the other. -/
def rowL (p : Int × Cell) : List Int := p.1 :: p.2.1 :: (p.2.2.length : Int) :: p.2.2
def tabL (T : Tab) : List Int := (T.length : Int) :: T.flatMap rowL
theorem putL_append (l m : List Int) : putL (l ++ m) = putL l ++ putL m := by unfold putL; rw [List.flatMap_append]
/-- What a turned form is one of. -/
def backN (u : Nat) : Int := if u % 2 = 0 then ((u / 2 : Nat) : Int) else -((u / 2 : Nat) : Int) - 1
/-- A number's bytes are read from the i-th one on; u is what came so far: the number, how many bytes, the error. -/
def tkFrom (i u : Nat) : List UInt8 → Int × Nat × Int
  | [] => (0, 0, 20)
  | c :: r =>
    if i = 9 ∧ 1 < c.toNat then (0, 0, 21)
    else if 128 ≤ c.toNat then tkFrom (i + 1) (u + c.toNat % 128 * 128 ^ i) r
    else if c.toNat = 0 ∧ 0 < i then (0, 0, 21)
    else (backN (u + c.toNat % 128 * 128 ^ i), i + 1, 0)
def tk (l : List UInt8) : Int × Nat × Int := tkFrom 0 0 l
theorem pow9 : 128 ^ 9 = 9223372036854775808 := by decide
/-- What is read: a thing and the rest, or an error. -/
inductive Rd (α : Type) where
  | ok (a : α) (r : List UInt8)
  | err (e : Int)
def Rd.bind {α β : Type} (x : Rd α) (f : α → List UInt8 → Rd β) : Rd β := match x with | .ok a r => f a r | .err e => .err e
def num (lo hi : Int) (l : List UInt8) : Rd Int :=
  if (tk l).2.2 ≠ 0 then .err (tk l).2.2 else if (tk l).1 < lo ∨ hi < (tk l).1 then .err 21 else .ok (tk l).1 (l.drop (tk l).2.1)
def lo64 : Int := -9223372036854775808
def hi64 : Int := 9223372036854775807
def nums : Nat → List UInt8 → Rd (List Int)
  | 0, l => .ok [] l
  | k + 1, l => (num lo64 hi64 l).bind fun n r => (nums k r).bind fun ns r => .ok (n :: ns) r
def row (l : List UInt8) : Rd (Int × Cell) :=
  (num lo64 hi64 l).bind fun key r => (num lo64 hi64 r).bind fun acc r => (num 0 16 r).bind fun n r => (nums n.toNat r).bind fun ns r => .ok (key, (acc, ns)) r
/-- May the row stand behind those? -/
def mayRow (T : Tab) (key : Int) : Bool := (match T.getLast? with | some p => lessB p.1 key | none => true) && decide (tmany T (grp key) < 40)
def rowsR : Nat → Tab → List UInt8 → Rd Tab
  | 0, T, l => .ok T l
  | k + 1, T, l => (row l).bind fun p r => if mayRow T p.1 then rowsR k (T ++ [p]) r else .err 21
def takeR (l : List UInt8) : Rd Tab := (num 0 320 l).bind fun n r => (rowsR n.toNat [] r).bind fun T r => if r = [] then .ok T [] else .err 21
theorem num_err {lo hi : Int} {l : List UInt8} {f : Int} (h : num lo hi l = .err f) : f ≠ 0 := by
  unfold num at h
  split at h
  · rename_i h0; injection h with h; subst h; exact h0
  · split at h
    · injection h with h; subst h; decide
    · cases h
theorem turnN_backN {u : Nat} : turnN (backN u) = u := by
  unfold backN turnN
  split <;> split <;> omega
theorem backN_R64 {u : Nat} (h : u < 18446744073709551616) : R64 (backN u) := by
  unfold backN R64
  split <;> omega
/-- What is read was put. -/
theorem tkFrom_ok : ∀ (l : List UInt8) (i u : Nat) (n : Int) (z : Nat), i ≤ 9 → u < 128 ^ i → tkFrom i u l = (n, z, 0) →
    ∃ v, i < z ∧ z - i ≤ l.length ∧ l.take (z - i) = digs v ∧ n = backN (u + v * 128 ^ i) ∧ u + v * 128 ^ i < 18446744073709551616 ∧ (0 < i → 0 < v)
  | [], i, u, n, z, _, _, h => by simp [tkFrom] at h
  | c :: r, i, u, n, z, hi, hu, h => by
    have hc := c.toNat_lt
    unfold tkFrom at h
    split at h
    · simp at h
    · rename_i h9
      split at h
      · rename_i hbig
        have hi9 : i ≠ 9 := by rintro rfl; exact h9 ⟨rfl, by omega⟩
        have hu' : u + c.toNat % 128 * 128 ^ i < 128 ^ (i + 1) := by
          have h1 : c.toNat % 128 ≤ 127 := by omega
          have h2 : c.toNat % 128 * 128 ^ i ≤ 127 * 128 ^ i := Nat.mul_le_mul_right _ h1
          rw [Nat.pow_succ]; omega
        obtain ⟨v, h1, h2, h3, h4, h5, h6⟩ := tkFrom_ok r (i + 1) _ n z (by omega) hu' h
        have h6' := h6 (by omega)
        have hd : ¬ (c.toNat % 128 + 128 * v) < 128 := by omega
        have e2 : (c.toNat % 128 + 128 * v) * 128 ^ i = c.toNat % 128 * 128 ^ i + v * 128 ^ (i + 1) := by
          rw [Nat.pow_succ, Nat.add_mul, Nat.mul_comm 128 v, Nat.mul_assoc, Nat.mul_comm 128 (128 ^ i)]
        refine ⟨c.toNat % 128 + 128 * v, by omega, by rw [List.length_cons]; omega, ?_, by rw [h4, e2]; congr 1; omega, by rw [e2]; omega, fun _ => by omega⟩
        rw [digs_big hd]
        have e1 : z - i = (z - (i + 1)) + 1 := by omega
        rw [e1, List.take_succ_cons, h3, show (c.toNat % 128 + 128 * v) / 128 = v by omega, show (c.toNat % 128 + 128 * v) % 128 + 128 = c.toNat by omega, UInt8.ofNat_toNat]
      · rename_i hsm
        split at h
        · simp at h
        · rename_i h0
          injection h with h1 h2
          injection h2 with h2 h3
          subst h1 h2
          have e1 : i + 1 - i = 1 := by omega
          refine ⟨c.toNat, by omega, by rw [e1, List.length_cons]; omega, ?_, by rw [Nat.mod_eq_of_lt (by omega)], ?_, fun h => by omega⟩
          · rw [e1, List.take_succ_cons, List.take_zero, digs_small (by omega), UInt8.ofNat_toNat]
          · have hp : i = 9 ∨ i ≤ 8 := by omega
            rcases hp with rfl | hp
            · have : c.toNat ≤ 1 := by have := fun h => h9 ⟨rfl, h⟩; omega
              rw [pow9] at *
              have : c.toNat * 9223372036854775808 ≤ 1 * 9223372036854775808 := Nat.mul_le_mul_right _ this
              omega
            · have h1 : 128 ^ i ≤ 128 ^ 8 := Nat.pow_le_pow_right (by omega) hp
              have h2 : c.toNat * 128 ^ i ≤ 127 * 128 ^ i := Nat.mul_le_mul_right _ (by omega)
              have h3 : (128 : Nat) ^ 8 = 72057594037927936 := by decide
              omega
theorem tk_ok {l : List UInt8} {n : Int} {z : Nat} (h : tk l = (n, z, 0)) : 0 < z ∧ z ≤ l.length ∧ l.take z = digs (turnN n) ∧ R64 n := by
  obtain ⟨v, h1, h2, h3, h4, h5, _⟩ := tkFrom_ok l 0 0 n z (by omega) (by simp) h
  simp only [Nat.pow_zero, Nat.mul_one, Nat.zero_add, Nat.sub_zero] at *
  refine ⟨h1, h2, ?_, ?_⟩
  · rw [h3, h4, turnN_backN]
  · rw [h4]; exact backN_R64 h5
theorem tkFrom_err : ∀ (l : List UInt8) (i u : Nat), (tkFrom i u l).2.2 ≠ 0 → tkFrom i u l = (0, 0, (tkFrom i u l).2.2)
  | [], i, u, _ => rfl
  | c :: r, i, u, h => by
    unfold tkFrom at h ⊢
    split
    · rfl
    · split
      · rw [if_neg (by assumption), if_pos (by assumption)] at h
        exact tkFrom_err r _ _ h
      · split
        · rfl
        · rw [if_neg (by assumption), if_neg (by assumption), if_neg (by assumption)] at h
          exact absurd rfl h
/-! ### Tables -/
theorem num_ok {n lo hi : Int} {l r : List UInt8} (h : num lo hi l = .ok n r) : l = digs (turnN n) ++ r ∧ R64 n ∧ lo ≤ n ∧ n ≤ hi := by
  unfold num at h
  split at h
  · cases h
  · rename_i h0
    split at h
    · cases h
    · rename_i h1
      injection h with h2 h3
      have hh : tk l = (n, (tk l).2.1, 0) := by
        rw [← h2]
        have : (tk l).2.2 = 0 := by omega
        rw [← this]
      obtain ⟨_, _, h4, h5⟩ := tk_ok hh
      refine ⟨?_, h5, by omega, by omega⟩
      rw [← h4, ← h3, List.take_append_drop]
theorem R64.in {n : Int} (h : R64 n) : lo64 ≤ n ∧ n ≤ hi64 := h
theorem nums_ok : ∀ (k : Nat) (l : List UInt8) (ns : List Int) (r : List UInt8), nums k l = .ok ns r → l = putL ns ++ r ∧ (∀ n ∈ ns, R64 n) ∧ ns.length = k
  | 0, l, ns, r, h => by
    injection h with h1 h2
    subst h1 h2
    simp [putL]
  | k + 1, l, ns, r, h => by
    unfold nums at h
    cases h1 : num lo64 hi64 l with
    | err e => rw [h1] at h; cases h
    | ok n r1 =>
      rw [h1] at h
      simp only [Rd.bind] at h
      cases h2 : nums k r1 with
      | err e => rw [h2] at h; cases h
      | ok ms r2 =>
        rw [h2] at h
        injection h with h3 h4
        subst h3 h4
        obtain ⟨a1, a2, _⟩ := num_ok h1
        obtain ⟨b1, b2, b3⟩ := nums_ok k r1 ms r2 h2
        refine ⟨?_, fun m hm => ?_, by simp [b3]⟩
        · rw [a1, b1]; unfold putL; rw [List.flatMap_cons, List.append_assoc]
        · rcases List.mem_cons.1 hm with rfl | hm
          · exact a2
          · exact b2 m hm
theorem row_ok {l r : List UInt8} {p : Int × Cell} (h : row l = .ok p r) : l = putL (rowL p) ++ r ∧ R64 p.1 ∧ COk p.2 := by
  unfold row at h
  cases h1 : num lo64 hi64 l with
  | err e => rw [h1] at h; cases h
  | ok key r1 =>
    rw [h1] at h
    simp only [Rd.bind] at h
    cases h2 : num lo64 hi64 r1 with
    | err e => rw [h2] at h; cases h
    | ok acc r2 =>
      rw [h2] at h
      simp only at h
      cases h3 : num 0 16 r2 with
      | err e => rw [h3] at h; cases h
      | ok n r3 =>
        rw [h3] at h
        simp only at h
        cases h4 : nums n.toNat r3 with
        | err e => rw [h4] at h; cases h
        | ok ns r4 =>
          rw [h4] at h
          injection h with h5 h6
          subst h5 h6
          obtain ⟨a1, a2, _⟩ := num_ok h1
          obtain ⟨b1, b2, _⟩ := num_ok h2
          obtain ⟨c1, c2, c3, c4⟩ := num_ok h3
          obtain ⟨d1, d2, d3⟩ := nums_ok _ _ _ _ h4
          refine ⟨?_, a2, b2, d2, by show ns.length ≤ 16; omega⟩
          rw [a1, b1, c1, d1]
          have e : (ns.length : Int) = n := by omega
          unfold rowL putL; simp only [List.flatMap_cons, List.append_assoc, e]
theorem Rises.snoc {T : Tab} {p : Int × Cell} (h : Rises (T ++ [p])) : Rises T ∧ mayRow T p.1 = decide (tmany T (grp p.1) < 40) := by
  unfold Rises at h ⊢
  rw [List.pairwise_append] at h
  refine ⟨h.1, ?_⟩
  unfold mayRow
  cases hl : T.getLast? with
  | none => simp
  | some q =>
    have := h.2.2 q (List.mem_of_getLast? hl) p (by simp)
    simp only [this, Bool.true_and]
theorem Rises.push {T : Tab} {p : Int × Cell} (h : Rises T) (hm : mayRow T p.1 = true) : Rises (T ++ [p]) := by
  unfold mayRow at hm
  unfold Rises at h ⊢
  rw [List.pairwise_append]
  refine ⟨h, by simp, fun a ha b hb => ?_⟩
  cases List.mem_singleton.1 hb
  rw [Bool.and_eq_true] at hm
  cases hl : T.getLast? with
  | none => rw [List.getLast?_eq_none_iff] at hl; subst hl; cases ha
  | some q =>
    have hq : lessB q.1 p.1 = true := by have := hm.1; rw [hl] at this; exact this
    obtain ⟨ys, rfl⟩ : ∃ ys, T = ys ++ [q] := List.getLast?_eq_some_iff.1 hl
    rcases List.mem_append.1 ha with ha | ha
    · rw [List.pairwise_append] at h
      exact lessB_trans (h.2.2 a ha q (by simp)) hq
    · cases List.mem_singleton.1 ha; exact hq
theorem tmany_snoc (T : Tab) (p : Int × Cell) (g : Int) : tmany (T ++ [p]) g = tmany T g + if grp p.1 = g then 1 else 0 := by
  unfold tmany
  rw [List.countP_append]
  simp [List.countP_cons]
theorem TOk.push {T : Tab} {p : Int × Cell} (h : TOk T) (h1 : R64 p.1) (h2 : COk p.2) (hm : mayRow T p.1 = true) : TOk (T ++ [p]) := by
  refine ⟨h.rises.push hm, fun q hq => ?_, fun q hq => ?_, fun g => ?_⟩
  · rcases List.mem_append.1 hq with hq | hq
    · exact h.key q hq
    · cases List.mem_singleton.1 hq; exact h1
  · rcases List.mem_append.1 hq with hq | hq
    · exact h.cell q hq
    · cases List.mem_singleton.1 hq; exact h2
  · rw [tmany_snoc]
    unfold mayRow at hm
    rw [Bool.and_eq_true] at hm
    have := of_decide_eq_true hm.2
    split
    · rename_i e; subst e; omega
    · have := h.many g; omega
theorem rowsR_ok : ∀ (k : Nat) (T : Tab) (l : List UInt8) (V : Tab) (r : List UInt8), TOk T → rowsR k T l = .ok V r → TOk V ∧ ∃ U, V = T ++ U ∧ U.length = k ∧ l = putL (U.flatMap rowL) ++ r
  | 0, T, l, V, r, hT, h => by
    injection h with h1 h2
    subst h1 h2
    exact ⟨hT, [], by simp, rfl, by simp [putL]⟩
  | k + 1, T, l, V, r, hT, h => by
    unfold rowsR at h
    cases h1 : row l with
    | err e => rw [h1] at h; cases h
    | ok p r1 =>
      rw [h1] at h
      simp only [Rd.bind] at h
      split at h
      · rename_i hm
        obtain ⟨a1, a2, a3⟩ := row_ok h1
        obtain ⟨b1, U, b2, b3, b4⟩ := rowsR_ok k _ _ _ _ (hT.push a2 a3 hm) h
        refine ⟨b1, p :: U, by rw [b2]; simp, by simp [b3], ?_⟩
        rw [a1, b4, List.flatMap_cons, putL_append, List.append_assoc]
      · cases h
theorem TOk.nil : TOk [] := ⟨by simp [Rises], by simp, by simp, fun g => by simp [tmany]⟩
theorem takeR_ok {l r : List UInt8} {T : Tab} (h : takeR l = .ok T r) : TOk T ∧ l = putL (tabL T) := by
  unfold takeR at h
  cases h1 : num 0 320 l with
  | err e => rw [h1] at h; cases h
  | ok n r1 =>
    rw [h1] at h
    simp only [Rd.bind] at h
    cases h2 : rowsR n.toNat [] r1 with
    | err e => rw [h2] at h; cases h
    | ok V r2 =>
      rw [h2] at h
      simp only at h
      split at h
      · rename_i hr
        injection h with h3 h4
        subst h3
        obtain ⟨a1, a2, a3, a4⟩ := num_ok h1
        obtain ⟨b1, U, b2, b3, b4⟩ := rowsR_ok _ _ _ _ _ TOk.nil h2
        refine ⟨b1, ?_⟩
        rw [List.nil_append] at b2
        subst b2
        rw [a1, b4, hr]
        have e : (V.length : Int) = n := by omega
        unfold tabL putL; rw [List.flatMap_cons, List.append_nil, e]
      · cases h
end Go.Proofs.YtglbkodmmogomaaGreatDoor
/-
  Numbers as bytes: the turned form; its bytes.
-/
namespace Go.Proofs.YtglbkodmmogomaaGreatDoor
open Go Go.RowKit
end Go.Proofs.YtglbkodmmogomaaGreatDoor
/-
  bytes.Put: numbers as bytes.
-/
namespace Go.Proofs.YtglbkodmmogomaaGreatDoor
open Go Go.RowKit
def bytV (l : List UInt8) : List Value := l.map fun x => .int .u8 x.toNat
@[simp] theorem bytV_length (l : List UInt8) : (bytV l).length = l.length := by simp [bytV]
end Go.Proofs.YtglbkodmmogomaaGreatDoor
/-
  The document's numbers as bytes: one, Put.
-/
namespace Go.Proofs.YtglbkodmmogomaaGreatDoor
open Go Go.RowKit
end Go.Proofs.YtglbkodmmogomaaGreatDoor
/-
  A table's bytes.
-/
namespace Go.Proofs.YtglbkodmmogomaaGreatDoor
open Go Go.RowKit
attribute [local irreducible] wpL
end Go.Proofs.YtglbkodmmogomaaGreatDoor
