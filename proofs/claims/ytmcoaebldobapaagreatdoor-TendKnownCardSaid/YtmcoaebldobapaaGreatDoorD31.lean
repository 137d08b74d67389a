/-
  The machine's regions whose order is drawn: the step.
-/
import Derived.Test.YtmcoaebldobapaaGreatDoorD30
set_option linter.unusedVariables false
set_option linter.unusedSimpArgs false
namespace Go.Proofs.YtmcoaebldobapaaGreatDoor
namespace Eng
open Go Go.RowKit
theorem mayF_ok {ops : Array Oper} {al : List Nat} {L : Array Bool} {i : Nat} (h1 : mayF ops al L i = true) : early ops al i = true ∧ Region.free .any ops L i = true ∧ (barT ops = true → L.getD (ops.size - 1) true = false) := by
  unfold mayF at h1
  simp only [Bool.and_eq_true, Bool.or_eq_true, Bool.not_eq_true'] at h1
  refine ⟨h1.1.1.1, h1.1.2, fun hb => ?_⟩
  rcases h1.2 with h | h
  · rw [hb] at h; cases h
  · exact h
/-- What is told of the next. -/
theorem nxE_all {ops : Array Oper} {al : List Nat} {L : Array Bool} : match nxE ops al L with
    | .done => allE ops al L = true
    | .float i => i ∈ Region.ready .any ops L ∧ mayF ops al L i = true
    | .loud i => Region.ready .any ops L = [i] ∧ early ops al i = true
    | .fork i js => Region.ready .any ops L = i :: js ∧ al = []
    | .bad => True := by
  unfold nxE
  dsimp only
  generalize Region.ready .any ops L = r
  cases h1 : r.find? (fun i => pureAt ops i && mayF ops al L i) with
  | some i =>
    have h2 := List.find?_some h1
    simp only [Bool.and_eq_true] at h2
    exact ⟨List.mem_of_find?_eq_some h1, h2.2⟩
  | none =>
    clear h1
    dsimp only
    cases hE : allE ops al L with
    | true => simp only [↓reduceIte]
    | false =>
      simp only [Bool.false_eq_true, if_false]
      have rest : match (match r.find? (mayF ops al L) with
          | some i => Nxt.float i
          | none => (match r with
            | i :: j :: js => if al.isEmpty then .fork i (j :: js) else .bad
            | _ => .bad)) with
          | .done => allE ops al L = true
          | .float i => i ∈ r ∧ mayF ops al L i = true
          | .loud i => r = [i] ∧ early ops al i = true
          | .fork i js => r = i :: js ∧ al = []
          | .bad => True := by
        cases h3 : r.find? (mayF ops al L) with
        | some i => exact ⟨List.mem_of_find?_eq_some h3, List.find?_some h3⟩
        | none =>
          rcases r with _ | ⟨i, _ | ⟨j, js⟩⟩
          · trivial
          · trivial
          · dsimp only
            cases ha : al.isEmpty with
            | true => exact ⟨rfl, by simpa using ha⟩
            | false => trivial
      rcases r with _ | ⟨i, _ | ⟨j, js⟩⟩
      · exact rest
      · dsimp only
        cases he : early ops al i with
        | true => exact ⟨rfl, he⟩
        | false => trivial
      · clear rest
        dsimp only
        cases h3 : List.find? (mayF ops al L) (i :: j :: js) with
        | some m => exact ⟨List.mem_of_find?_eq_some h3, List.find?_some h3⟩
        | none =>
          dsimp only
          cases ha : al.isEmpty with
          | true => exact ⟨rfl, by simpa using ha⟩
          | false => trivial
theorem nxE_done {ops : Array Oper} {al : List Nat} {L : Array Bool} (h : nxE ops al L = .done) : allE ops al L = true := by
  have := nxE_all (ops := ops) (al := al) (L := L); rw [h] at this; exact this
theorem nxE_float {ops : Array Oper} {al : List Nat} {L : Array Bool} {i : Nat} (h : nxE ops al L = .float i) : i ∈ Region.ready .any ops L ∧ early ops al i = true ∧ Region.free .any ops L i = true ∧ (barT ops = true → L.getD (ops.size - 1) true = false) := by
  have := nxE_all (ops := ops) (al := al) (L := L); rw [h] at this; exact ⟨this.1, mayF_ok this.2⟩
theorem nxE_loud {ops : Array Oper} {al : List Nat} {L : Array Bool} {i : Nat} (h : nxE ops al L = .loud i) : Region.ready .any ops L = [i] ∧ early ops al i = true := by
  have := nxE_all (ops := ops) (al := al) (L := L); rw [h] at this; exact this
theorem nxE_fork {ops : Array Oper} {al : List Nat} {L : Array Bool} {i : Nat} {js : List Nat} (h : nxE ops al L = .fork i js) : Region.ready .any ops L = i :: js ∧ al = [] := by
  have := nxE_all (ops := ops) (al := al) (L := L); rw [h] at this; exact this
section
variable {P : Program} {g : Nat} {w0 : World} {ρ : Ren} {h : Hp} {nx : Nat} {w : World} {N : Nat} {env : Env} {a : Act} {D : List Deferred}
theorem putK_ok2 {d : Option Tmp} {v : RV} {k : Env → Bool} {x : Value} (hF : Fr D ρ N env a) (hx : GR ρ v x) (hk : putK N env d v k = true) : ∃ env', k env' = true ∧ Fr D ρ N env' (a.put d x) ∧ ∀ j, d ≠ some j → env'.get j = env.get j := by
  cases d with
  | none => exact ⟨env, hk, hF, fun _ _ => rfl⟩
  | some d =>
    obtain ⟨hd, hk⟩ := iff_ok hk
    have hd : d < N := natle hd
    obtain ⟨env', hk, hh⟩ := Tr.setK_ok hk
    refine ⟨env', hk, ⟨fun i r hr => ?_, by simp [Act.put, hF.size], hF.dfr⟩, fun j hj => by rw [hh, if_neg (fun e => hj (by rw [e]))]⟩
    rw [hh] at hr
    split at hr
    · rename_i e
      cases hr; subst e
      exact ⟨x, by simp [Act.put, hF.size, hd], hx⟩
    · rename_i hne
      obtain ⟨y, h1, h2⟩ := hF.er i r hr
      exact ⟨y, by simp only [Act.put]; rw [Array.getElem?_setIfInBounds_ne (Ne.symm hne)]; exact h1, h2⟩
theorem put_tmps {a : Act} {d : Option Tmp} {x : Value} {j : Tmp} (h : d ≠ some j) : (a.put d x).tmps[j]? = a.tmps[j]? := by
  cases d with
  | none => rfl
  | some d => simp only [Act.put]; rw [Array.getElem?_setIfInBounds_ne (fun e => h (by rw [e]))]
/-- Is it a slice laid out of parts? -/
def bsB (o : Oper) : Bool := match o.op with | .buildSlice .. => true | _ => false
/-- The machine in the midst of a region stands for the region's state, whatever of the kept cells is laid. -/
structure St (D : List Deferred) (P : Program) (g : Nat) (w0 : World) (N : Nat) (ops : Array Oper) (al : List Nat) (nx0 : Nat) (pre : List (Nat × AO)) (ρ0 : Ren) (n : Nat) (L : Array Bool) (rs : RS) (env : Env) (h : Hp) (nx : Nat) (pend : List Nat) (cl : Array Bool) (C : Nat → World → Prop) (ρ : Ren) (a : Act) (w : World) : Prop where
  H : HR P g w0 ρ h nx w
  F : Fr D ρ N env a
  up : nx0 + ops.size ≤ nx
  g0 : g ≤ nx0
  ext : Ext nx0 nx ρ0 ρ
  s1 : L.size = ops.size
  s2 : cl.size = ops.size
  clo : Closed ops cl
  rel : ∀ j, j ∉ pend → ∀ d, L.getD j d = cl.getD j d
  lal : ∀ j ∈ al, ∀ d, L.getD j d = true
  unl : ∀ j ∈ pend, cl.getD j true = false
  sub : ∀ j ∈ pend, j ∈ al
  nd : pend.Nodup
  unn : ∀ j ∈ pend, ρ (nx0 + j) = none
  done : ∀ i ∈ al, i ∉ pend → ∀ o d, ops[i]? = some o → o.dst = some d → ∃ b, ρ (nx0 + i) = some (.blk b 0 0) ∧ (d < N → a.tmps[d]? = some (.pointer (some ⟨b, 0, none⟩)))
  non : ∀ i ∈ al, ∀ o d, ops[i]? = some o → o.dst = some d → env.get d = none
  pr : ∀ p ∈ pre, h.get p.1 = some p.2
  rok : ∀ p ∈ rs, h.get p.2.1 = some p.2.2
  bs : ∀ i o, ops[i]? = some o → bsB o = true → L.getD i true = false → ρ (nx0 + i) = none
  stab : ∀ ρ' h' nx' w', ρ.le ρ' → HR P g w0 ρ' h' nx' w' → ∀ m, (∀ p ∈ rs, p.1 = m → h'.get p.2.1 = some p.2.2) → C m w'
section
variable {ops : Array Oper} {al : List Nat} {nx0 : Nat} {pre : List (Nat × AO)} {ρ0 : Ren} {n : Nat} {L : Array Bool} {rs : RS} {pend : List Nat} {cl : Array Bool} {C : Nat → World → Prop}
theorem St.cw (S : St D P g w0 N ops al nx0 pre ρ0 n L rs env h nx pend cl C ρ a w) : ∀ m, C m w := fun m => S.stab ρ h nx w ρ.le_refl S.H m fun p hp _ => S.rok p hp
theorem St.ready_up (S : St D P g w0 N ops al nx0 pre ρ0 n L rs env h nx pend cl C ρ a w) {i : Nat} (hi : i ∈ Region.ready .any ops L) (he : early ops al i = true) : i ∉ pend ∧ i ∈ Region.ready .any ops cl := by
  obtain ⟨hun, o, ho, hall⟩ := mem_ready.1 hi
  have hip : i ∉ pend := fun hp => by rw [S.lal i (S.sub i hp)] at hun; cases hun
  refine ⟨hip, mem_ready.2 ⟨by rw [← S.rel i hip]; exact hun, o, ho, fun e hee hb => ?_⟩⟩
  have hl := hall e hee hb
  have hon : e.on ∉ pend := fun hp => by
    simp only [early, ho, List.all_eq_true, Bool.and_eq_true, Bool.not_eq_true'] at he
    have := (he e.on (S.sub _ hp)).1
    have h2 : onAl o e.on = true := by
      unfold onAl
      rw [Array.any_eq_true']
      exact ⟨e, hee, by rw [hb]; simp⟩
    rw [h2] at this; cases this
  rw [← S.rel _ hon]; exact hl
theorem St.ready_down (S : St D P g w0 N ops al nx0 pre ρ0 n L rs env h nx pend cl C ρ a w) {i : Nat} (hi : i ∈ Region.ready .any ops cl) (hp : i ∉ pend) : i ∈ Region.ready .any ops L := by
  obtain ⟨hun, o, ho, hall⟩ := mem_ready.1 hi
  refine mem_ready.2 ⟨by rw [S.rel i hp]; exact hun, o, ho, fun e hee hb => ?_⟩
  by_cases hon : e.on ∈ pend
  · exact S.lal _ (S.sub _ hon) _
  · rw [S.rel _ hon]; exact hall e hee hb
theorem St.ready_pend (S : St D P g w0 N ops al nx0 pre ρ0 n L rs env h nx pend cl C ρ a w) (hAl : ∀ i ∈ al, AlI P ops nx0 pre i) {j : Nat} (hj : j ∈ pend) : j ∈ Region.ready .any ops cl := by
  obtain ⟨o, t, d, cs, inf, z, ho, hop, hg, ha, _⟩ := hAl j (S.sub j hj)
  exact mem_ready.2 ⟨S.unl j hj, o, ho, fun e he _ => (ha e he).elim⟩
/-- A kept cell is laid. -/
theorem St.lay (S : St D P g w0 N ops al nx0 pre ρ0 n L rs env h nx pend cl C ρ a w) (hAl : ∀ i ∈ al, AlI P ops nx0 pre i) (hdist : ∀ i ∈ al, ∀ j ∈ al, i ≠ j → ∀ oi oj d, ops[i]? = some oi → ops[j]? = some oj → oi.dst = some d → oj.dst ≠ some d) {j : Nat} (hj : j ∈ pend) {o : Oper} {d : Tmp} (ho : ops[j]? = some o) (hd : o.dst = some d) {w' : World}
    (H' : HR P g w0 (ρ.put (nx0 + j) (.blk w.heap.size 0 0)) h nx w') :
    St D P g w0 N ops al nx0 pre ρ0 n L rs env h nx (pend.erase j) (cl.setIfInBounds j true) C (ρ.put (nx0 + j) (.blk w.heap.size 0 0)) (a.put (some d) (.pointer (some ⟨w.heap.size, 0, none⟩))) w' := by
  have hja := S.sub j hj
  have hle := Ren.le_put (S.unn j hj) (.blk w.heap.size 0 0)
  have hlt : j < cl.size := by rw [S.s2]; exact (Array.getElem?_eq_some_iff.1 ho).1
  have hmem : ∀ k, k ∈ pend.erase j → k ∈ pend ∧ k ≠ j := fun k hk => ⟨List.mem_of_mem_erase hk, fun e => by subst e; exact (List.Nodup.not_mem_erase S.nd) hk⟩
  have hnot : ∀ k, k ∉ pend.erase j → k ≠ j → k ∉ pend := fun k hk hne hm => hk ((List.mem_erase_of_ne hne).2 hm)
  refine ⟨H', ⟨fun i v hv => ?_, by simp [Act.put, S.F.size], S.F.dfr⟩, S.up, S.g0, ⟨S.ext.le.le_trans hle, S.ext.up, fun i hi hn => ?_⟩, S.s1, by simp [S.s2], closed_set S.clo (S.ready_pend hAl hj), fun k hk d' => ?_, S.lal, fun k hk => ?_, fun k hk => S.sub k (hmem k hk).1, S.nd.erase j, fun k hk => ?_, fun i hi hip oi di hoi hdi => ?_, S.non, S.pr, S.rok, fun i oi hoi hbi hun => ?_, fun ρ' h' nx' w' hl => S.stab ρ' h' nx' w' (hle.le_trans hl)⟩
  · obtain ⟨x, h1, h2⟩ := S.F.er i v hv
    refine ⟨x, ?_, h2.mono hle⟩
    rw [put_tmps]; exact h1
    intro e; cases e
    rw [S.non j hja o d ho hd] at hv; cases hv
  · rw [Ren.put_ne (by omega)]; exact S.ext.keep i hi hn
  · by_cases e : k = j
    · subst e
      rw [S.lal k hja]
      simp [hlt]
    · rw [getD_set_ne d' (Ne.symm e)]; exact S.rel k (hnot k hk e) d'
  · rw [getD_set_ne true (Ne.symm (hmem k hk).2)]; exact S.unl k (hmem k hk).1
  · rw [Ren.put_ne (by have := (hmem k hk).2; omega)]; exact S.unn k (hmem k hk).1
  · by_cases e : i = j
    · subst e
      rw [ho] at hoi; cases hoi
      rw [hd] at hdi; cases hdi
      exact ⟨_, Ren.put_self _ _ _, fun hdN => by simp [Act.put, S.F.size, hdN]⟩
    · obtain ⟨b, h1, h2⟩ := S.done i hi (hnot i hip e) oi di hoi hdi
      refine ⟨b, hle _ _ h1, fun hdN => ?_⟩
      rw [put_tmps]; exact h2 hdN
      intro e'; cases e'
      exact hdist i hi j hja e oi o d hoi ho hdi hd
  · have hne : i ≠ j := fun e => by
      subst e
      obtain ⟨o2, t, d2, cs, inf, z, ho2, hop, _⟩ := hAl i hja
      rw [hoi] at ho2; cases ho2
      simp [bsB, hop] at hbi
    rw [Ren.put_ne (by omega)]; exact S.bs i oi hoi hbi hun
/-- An operation that is no such cell. -/
theorem St.step (S : St D P g w0 N ops al nx0 pre ρ0 n L rs env h nx pend cl C ρ a w) {i : Nat} (hi : i ∈ Region.ready .any ops L) (he : early ops al i = true) (hAl : ∀ i ∈ al, AlI P ops nx0 pre i) {o : Oper} (ho : ops[i]? = some o) {m : Nat} {rs' : RS} {env' : Env} {h' : Hp} {nx' : Nat} {ρ' : Ren} {x : Value} {w' : World} {C' : Nat → World → Prop}
    (hE : ρ.le ρ' ∧ nx ≤ nx' ∧ ∀ j, j < nx → j ≠ nx0 + i → ρ j = none → ρ' j = none) (H' : HR P g w0 ρ' h' nx' w') (hF : Fr D ρ' N env' (a.put o.dst x)) (hv : ∀ j, o.dst ≠ some j → env'.get j = env.get j) (hpr : ∀ p ∈ pre, h'.get p.1 = some p.2) (hrok : ∀ p ∈ rs', h'.get p.2.1 = some p.2.2)
    (hst : ∀ ρ'' h'' nx'' w'', ρ'.le ρ'' → HR P g w0 ρ'' h'' nx'' w'' → ∀ m, (∀ p ∈ rs', p.1 = m → h''.get p.2.1 = some p.2.2) → C' m w'') :
    St D P g w0 N ops al nx0 pre ρ0 m (L.setIfInBounds i true) rs' env' h' nx' pend (cl.setIfInBounds i true) C' ρ' (a.put o.dst x) w' := by
  obtain ⟨hip, hic⟩ := S.ready_up hi he
  have hlt : i < ops.size := (Array.getElem?_eq_some_iff.1 ho).1
  have hdst : ∀ k ∈ al, ∀ ok d, ops[k]? = some ok → ok.dst = some d → o.dst ≠ some d := fun k hk ok d hok hd e => by
    simp only [early, ho, List.all_eq_true, Bool.and_eq_true] at he
    have := (he k hk).2
    rw [hok] at this
    exact (Oper.apart_spec this).2.1 d e hd
  refine ⟨H', hF, Nat.le_trans S.up hE.2.1, S.g0, ⟨S.ext.le.le_trans hE.1, Nat.le_trans S.ext.up hE.2.1, fun j hj hn => hE.2.2 j (by have := S.up; omega) (by omega) (S.ext.keep j hj hn)⟩, by simp [S.s1], by simp [S.s2], closed_set S.clo hic, fun k hk d => ?_, fun k hk d => ?_, fun k hk => ?_, S.sub, S.nd, fun k hk => ?_, fun k hk hkp ok d hok hd => ?_, fun k hk ok d hok hd => ?_, hpr, hrok, fun k ok hok hbk hun => ?_, hst⟩
  · by_cases e : i = k
    · subst e; simp [S.s1, S.s2, hlt]
    · rw [getD_set_ne d e, getD_set_ne d e]; exact S.rel k hk d
  · by_cases e : i = k
    · subst e; simp [S.s1, hlt]
    · rw [getD_set_ne d e]; exact S.lal k hk d
  · have e : i ≠ k := fun e => by subst e; exact hip hk
    rw [getD_set_ne true e]; exact S.unl k hk
  · obtain ⟨ok, t, d, cs, inf, z, hok, _⟩ := hAl k (S.sub k hk)
    have hk' : k < ops.size := (Array.getElem?_eq_some_iff.1 hok).1
    exact hE.2.2 _ (by have := S.up; omega) (by intro e; have : k = i := by omega
                                                subst this; exact hip hk) (S.unn k hk)
  · obtain ⟨b, h1, h2⟩ := S.done k hk hkp ok d hok hd
    exact ⟨b, hE.1 _ _ h1, fun hdN => by rw [put_tmps (hdst k hk ok d hok hd)]; exact h2 hdN⟩
  · rw [hv d (hdst k hk ok d hok hd)]; exact S.non k hk ok d hok hd
  · by_cases e : i = k
    · subst e
      simp [S.s1, hlt] at hun
    · rw [getD_set_ne true e] at hun
      have hk' : k < ops.size := (Array.getElem?_eq_some_iff.1 hok).1
      exact hE.2.2 _ (by have := S.up; omega) (by omega) (S.bs k ok hok hbk hun)
end
end
end Eng
end Go.Proofs.YtmcoaebldobapaaGreatDoor
