/-
  The machine's regions whose order is drawn tell the truth.
-/
import Derived.Test.YtmcoaebldobapaaGreatDoorD29
set_option linter.unusedVariables false
set_option linter.unusedSimpArgs false
namespace Go.Proofs.YtmcoaebldobapaaGreatDoor
namespace Eng
open Go Go.RowKit
/-! ### what is told twice is the same -/
theorem f2_back {α β : Type} {R S : α → β → Prop} (h : ∀ a b b', R a b → S a b' → R a b') {l : List α} {m : List β} (hl : F2 R l m) : ∀ {m' : List β}, F2 S l m' → F2 R l m' := by
  induction hl with
  | nil => intro m' h'; cases h'; exact .nil
  | cons a _ ih => intro m' h'; cases h' with
    | cons b t => exact .cons (h _ _ _ a b) (ih t)
section
variable {P : Program} {ρ ρ' : Ren}
theorem G.back (hρ : ρ.le ρ') {v : CV} {x y : Value} (h : G ρ v x) (h' : G ρ' v y) : G ρ v y := by
  have := G.det (h.mono hρ) h'
  subst this
  exact h
theorem GA.back (hρ : ρ.le ρ') {v : AV} {x y : Value} (h : GA ρ v x) (h' : GA ρ' v y) : GA ρ v y := by
  have := GA.det (h.mono hρ) h'
  subst this
  exact h
theorem GR.back (hρ : ρ.le ρ') {v : RV} {x y : Value} (h : GR ρ v x) (h' : GR ρ' v y) : GR ρ v y := by
  cases h with
  | c h => cases h' with
    | c h' => exact .c (G.back hρ h h')
  | agg h => cases h' with
    | agg h' => exact .agg (f2_back (R := G ρ) (S := G ρ') (fun _ _ _ h1 h2 => G.back hρ h1 h2) h h')
  | tup h => cases h' with
    | tup h' => exact .tup (f2_back (R := GA ρ) (S := GA ρ') (fun _ _ _ h1 h2 => GA.back hρ h1 h2) h h')
theorem GE.back (hρ : ρ.le ρ') {v : ME} {x y : MapEntry} (h : GE ρ v x) (h' : GE ρ' v y) : GE ρ v y := ⟨GA.back hρ h.1 h'.1, GA.back hρ h.2.1 h'.2.1, h'.2.2⟩
theorem Ob.back (hρ : ρ.le ρ') {id : Nat} {o : AO} {w w' : World} (h : Ob P ρ id o w) (h' : Ob P ρ' id o w') : Ob P ρ id o w' := by
  cases h with
  | row hr hh hc hcap hsz hm => cases h' with
    | row hr' hh' hc' hcap' hsz' hm' =>
      have e := hρ _ _ hr
      rw [hr'] at e; cases e
      exact .row hr hh' (fun j v hv => let ⟨x, h1, _⟩ := hc j v hv; let ⟨y, h3, h4⟩ := hc' j v hv; ⟨y, h1.back hρ h3, h4⟩) hcap hsz' hm
  | ro hr hh hc => cases h' with
    | ro hr' hh' hc' =>
      have e := hρ _ _ hr
      rw [hr'] at e; cases e
      exact .ro hr hh' (fun j v hv => let ⟨x, h1, _⟩ := hc j v hv; let ⟨y, h3, h4⟩ := hc' j v hv; ⟨y, h1.back hρ h3, h4⟩)
  | map hr hh hx => cases h' with
    | map hr' hh' hx' =>
      have e := hρ _ _ hr
      rw [hr'] at e; cases e
      exact .map hr hh' (f2_back (R := GE ρ) (S := GE ρ') (fun _ _ _ h1 h2 => GE.back hρ h1 h2) hx hx')
  | chan hr hh hx => cases h' with
    | chan hr' hh' hx' =>
      have e := hρ _ _ hr
      rw [hr'] at e; cases e
      exact .chan hr hh' (f2_back (R := GA ρ) (S := GA ρ') (fun _ _ _ h1 h2 => GA.back hρ h1 h2) hx hx')
  | sit hr hh hs => cases h' with
    | sit hr' hh' hs' =>
      have e := hρ _ _ hr
      rw [hr'] at e; cases e
      exact .sit hr hh' hs
  | mit hr hm hh => cases h' with
    | mit hr' hm' hh' =>
      have e := hρ _ _ hr
      rw [hr'] at e; cases e
      have e := hρ _ _ hm
      rw [hm'] at e; cases e
      exact .mit hr hm hh'
  | clo hr hx hy => exact .clo hr hx hy
  | ifc hr hx => exact .ifc hr hx
  | dfr hr hh => cases h' with
    | dfr hr' hh' =>
      have e := hρ _ _ hr
      rw [hr'] at e; cases e
      exact .dfr hr hh'
  | any hr => exact .any hr
  | loop hr hh hn he hp ha hd hs hq => cases h' with
    | loop hr' hh' hn' he' hp' ha' hd' hs' hq' =>
      have e := hρ _ _ hr
      rw [hr'] at e; cases e
      exact .loop hr hh' hn' (fun i v hv => let ⟨x, _, h2⟩ := he i v hv; let ⟨y, h3, h4⟩ := he' i v hv; ⟨y, h3, h2.back hρ h4⟩) hp' ha' hd' hs' hq'
end
section
variable {P : Program} {g : Nat} {w0 : World} {ρ : Ren} {h : Hp} {nx : Nat} {w : World} {N : Nat} {env : Env} {a : Act} {D : List Deferred}
theorem addR_ok {h : Hp} {ids : List Nat} : ∀ {rs : List (Nat × AO)} {k : List (Nat × AO) → Bool}, addR h ids rs k = true → ∃ rs', k rs' = true ∧ (∀ p ∈ rs, p ∈ rs') ∧ (∀ id ∈ ids, ∃ o, h.get id = some o ∧ (id, o) ∈ rs') ∧ ∀ p ∈ rs', p ∈ rs ∨ h.get p.1 = some p.2 := by
  induction ids with
  | nil => intro rs k hk; exact ⟨rs, hk, fun _ h => h, fun _ h => (by cases h), fun _ h => .inl h⟩
  | cons i ids ih =>
    intro rs k hk
    obtain ⟨o, ho, hk⟩ := optK_ok hk
    obtain ⟨rs', hk, h1, h2, h3⟩ := ih (rs := (i, o) :: rs) hk
    refine ⟨rs', hk, fun p hp => h1 p (by simp [hp]), fun id hid => ?_, fun p hp => ?_⟩
    · rcases List.mem_cons.1 hid with rfl | hid
      · exact ⟨o, ho, h1 _ (by simp)⟩
      · exact h2 id hid
    · rcases h3 p hp with h | h
      · rcases List.mem_cons.1 h with rfl | h
        · exact .inr ho
        · exact .inl h
      · exact .inr h
theorem rdsOk_ok {h : Hp} {rs : List (Nat × AO)} (hk : rdsOk h rs = true) : ∀ p ∈ rs, h.get p.1 = some p.2 := by
  induction rs with
  | nil => intro p hp; cases hp
  | cons q rs ih =>
    obtain ⟨o, ho, hk⟩ := optK_ok hk
    obtain ⟨h1, hk⟩ := iff_ok hk
    have h1 : o = q.2 := aoB_ok h1
    intro p hp
    rcases List.mem_cons.1 hp with rfl | hp
    · rw [ho, h1]
    · exact ih hk p hp
theorem rsOk_ok {h : Hp} {rs : RS} (hk : rsOk h rs = true) : ∀ p ∈ rs, h.get p.2.1 = some p.2.2 := by
  induction rs with
  | nil => intro p hp; cases hp
  | cons q rs ih =>
    obtain ⟨o, ho, hk⟩ := optK_ok hk
    obtain ⟨h1, hk⟩ := iff_ok hk
    have h1 : o = q.2.2 := aoB_ok h1
    intro p hp
    rcases List.mem_cons.1 hp with rfl | hp
    · rw [ho, h1]
    · exact ih hk p hp
theorem keepK_ok {ops : Array Oper} {i : Nat} {h : Hp} {rs : RS} {k : RS → Bool} (hk : keepK ops i h rs k = true) : ∃ rs', k rs' = true ∧ (∀ p ∈ rs', h.get p.2.1 = some p.2.2) ∧ ∀ p ∈ rs, depB ops p.1 i = false → p ∈ rs' := by
  unfold keepK at hk
  cases hr : rsOk h rs with
  | true => rw [hr] at hk; exact ⟨rs, hk, rsOk_ok hr, fun _ h _ => h⟩
  | false =>
    rw [hr] at hk
    dsimp only at hk
    rw [fL_eq] at hk
    obtain ⟨h1, hk⟩ := iff_ok hk
    exact ⟨_, hk, rsOk_ok h1, fun p hp hd => List.mem_filter.2 ⟨hp, by rw [hd]; rfl⟩⟩
theorem mem_tagR {i : Nat} {l : List (Nat × AO)} {rs : RS} {p : Nat × (Nat × AO)} : p ∈ tagR i l rs ↔ (p.1 = i ∧ p.2 ∈ l) ∨ p ∈ rs := by
  induction l with
  | nil => simp [tagR]
  | cons q l ih =>
    show p ∈ (i, q) :: tagR i l rs ↔ _
    obtain ⟨x, y⟩ := p
    rw [List.mem_cons, ih]
    simp only [Prod.mk.injEq, List.mem_cons]
    constructor
    · rintro (⟨h1, h2⟩ | ⟨h1, h2⟩ | h)
      · exact .inl ⟨h1, .inl h2⟩
      · exact .inl ⟨h1, .inr h2⟩
      · exact .inr h
    · rintro (⟨h1, h2 | h2⟩ | h)
      · exact .inl ⟨h1, h2⟩
      · exact .inr (.inl ⟨h1, h2⟩)
      · exact .inr (.inr h)
/-- A name is kept back, with what is to lie there. -/
theorem HR.lay (H : HR P g w0 ρ h nx w) {id : Nat} (hid : id < nx) (hn : ρ id = none) {o : Option AO} {h' : Hp} (hh : ∀ m, h'.get m = if m = id then o else h.get m) : HR P g w0 ρ h' nx w := by
  refine ⟨H.fresh, H.gnx, fun i p hp hi => ?_, fun i j oi oj b hi hj bi bj => ?_, H.own, H.lt, H.kept, H.glob, fun i hi => by rw [hh, if_neg (by omega)]; exact H.hfr i hi⟩
  · have : i ≠ id := fun e => by subst e; exact hi hn
    rw [hh, if_neg this] at hp
    exact H.objs i p hp hi
  · have hb : ∀ {i b}, blkOf ρ i b → i ≠ id := fun ⟨_, _, hb⟩ e => by subst e; rw [hn] at hb; cases hb
    rw [hh, if_neg (hb bi)] at hi
    rw [hh, if_neg (hb bj)] at hj
    exact H.inj i j _ _ b hi hj bi bj
theorem HR.widen (H : HR P g w0 ρ h nx w) {nx' : Nat} (hl : nx ≤ nx') : HR P g w0 ρ h nx' w :=
  ⟨fun i hi => H.fresh i (by omega), by have := H.gnx; omega, H.objs, H.inj, H.own, H.lt, H.kept, H.glob, fun i hi => H.hfr i (by omega)⟩
/-- What was kept back is laid. -/
theorem HR.fill (H : HR P g w0 ρ h nx w) {r : Nat} (hr : r < nx) (hg : g ≤ r) (hn : ρ r = none) {cells : List CV} {e : TypeId} (ho : h.get r = some (.row cells e (some 0))) {xs : List Value} (hx : F2 (G ρ) cells xs) :
    HR P g w0 (ρ.put r (.blk w.heap.size 0 0)) h nx (w.alloc (.cells xs.toArray e)) := by
  have hle := Ren.le_put hn (.blk w.heap.size 0 0)
  have hb : ∀ id b, blkOf (ρ.put r (.blk w.heap.size 0 0)) id b → (id = r ∧ b = w.heap.size) ∨ (id ≠ r ∧ blkOf ρ id b) := fun id b ⟨bs, cp, hb⟩ => by
    unfold Ren.put at hb
    split at hb
    · rename_i e; cases hb; exact .inl ⟨e, rfl⟩
    · exact .inr ⟨by assumption, _, _, hb⟩
  have hle0 : w0.heap.size ≤ w.heap.size := H.kept.size
  refine ⟨fun id hid => ?_, H.gnx, fun id p hp hid => ?_, fun i j oi oj b hi hj bi bj => ?_, fun id b hid hg => ?_, fun id b hid => ?_, ?_, fun i hi => (H.glob i hi).imp fun _ h => hle _ _ h, H.hfr⟩
  · unfold Ren.put; rw [if_neg (by omega)]; exact H.fresh id hid
  · by_cases e : id = r
    · subst e
      rw [ho] at hp; cases hp
      refine .row (Ren.put_self _ _ _) (heap_alloc_new _ _) (fun j v hv => ?_) (fun m hm => by cases hm; exact ⟨rfl, fun _ => rfl⟩) (by simp) (by simp)
      obtain ⟨x, h1, h2⟩ := f2_get hx hv
      exact ⟨x, h2.mono hle, by simpa using h1⟩
    · rw [Ren.put_ne e] at hid
      exact ((H.objs id p hp hid).frame (fun b _ hb => Below.heap_alloc _ _ _ hb)).mono hle
  · rcases hb _ _ bi with ⟨ei, eb⟩ | ⟨ni, bi⟩ <;> rcases hb _ _ bj with ⟨ej, eb'⟩ | ⟨nj, bj⟩
    · rw [ei, ej]
    · exact absurd (H.lt _ _ bj) (by omega)
    · exact absurd (H.lt _ _ bi) (by omega)
    · exact H.inj i j _ _ b hi hj bi bj
  · rcases hb _ _ hid with ⟨_, eb⟩ | ⟨_, hid⟩
    · omega
    · exact H.own id b hid hg
  · rw [World.size_alloc]
    rcases hb _ _ hid with ⟨_, eb⟩ | ⟨_, hid⟩
    · omega
    · have := H.lt id b hid; omega
  · exact ⟨H.kept.os, H.kept.tape, H.kept.output, by rw [World.size_alloc]; omega, fun k hk => (Below.heap_alloc _ _ _ (by omega)).trans (H.kept.block k hk)⟩
theorem ofCsK_all {l : List Value} : ∀ {k : List CV → Bool}, ofCsK l k = true → ∃ cs, k cs = true ∧ ∀ ρ, F2 (G ρ) cs l := by
  induction l with
  | nil => intro k h; exact ⟨[], h, fun _ => .nil⟩
  | cons v l ih =>
    intro k h
    obtain ⟨c, hc, h⟩ := optK_ok h
    rw [fC_eq] at h
    obtain ⟨cs, hk, hl⟩ := ih h
    exact ⟨_, hk, fun ρ => .cons (ofC_ok hc) (hl ρ)⟩
/-! ### the cells that are laid in whatever order -/
/-- What is known of one of them. -/
def AlI (P : Program) (ops : Array Oper) (nx0 : Nat) (pre : List (Nat × AO)) (i : Nat) : Prop :=
  ∃ o t d cs inf z, ops[i]? = some o ∧ o.op = .alloc t ∧ o.guard = none ∧ (∀ e ∈ o.after, False) ∧ o.dst = some d ∧ P.info? t = some inf ∧ inf.zero = some z ∧ (∀ ρ, F2 (G ρ) cs z.cells.toList) ∧ (nx0 + i, AO.row cs t (some 0)) ∈ pre
theorem preK_ok {ops : Array Oper} {nx0 nx : Nat} (hnx : nx0 + ops.size ≤ nx) : ∀ {al : List Nat} {env : Env} {h : Hp} {pre : List (Nat × AO)} {k : Env → Hp → List (Nat × AO) → Bool}, (∀ i ∈ al, alAt ops i = true) → (∀ i ∈ al, ρ (nx0 + i) = none) → HR P g w0 ρ h nx w → Fr D ρ N env a → preK P ops nx0 al env h pre k = true →
    ∃ env' h' pre', k env' h' pre' = true ∧ HR P g w0 ρ h' nx w ∧ Fr D ρ N env' a ∧ (∀ p ∈ pre, p ∈ pre') ∧ (∀ d, env.get d = none → env'.get d = none) ∧ ∀ i ∈ al, AlI P ops nx0 pre' i ∧ ∀ o d, ops[i]? = some o → o.dst = some d → env'.get d = none := by
  intro al
  induction al with
  | nil => intro env h pre k _ _ H hF hk; exact ⟨env, h, pre, hk, H, hF, fun _ h => h, fun _ h => h, fun _ h => (by cases h)⟩
  | cons i al ih =>
    intro env h pre k hal hn H hF hk
    obtain ⟨o, ho, hk⟩ := optK_ok hk
    obtain ⟨d, hd, hk⟩ := optK_ok hk
    try simp only [undL_eq, infL_eq, fnL_eq] at hd
    rw [lget_eq] at ho
    have ho : ops[i]? = some o := by simpa using ho
    have hi : i < ops.size := (Array.getElem?_eq_some_iff.1 ho).1
    split at hk
    · rename_i t hop
      obtain ⟨inf, hinf, hk⟩ := optK_ok hk
      try simp only [undL_eq, infL_eq, fnL_eq] at hinf
      obtain ⟨z, hz, hk⟩ := optK_ok hk
      obtain ⟨cs, hk, hcs⟩ := ofCsK_all hk
      rw [fN_eq] at hk
      obtain ⟨h1, hk, hh1⟩ := Tr.setK_ok hk
      obtain ⟨env1, hk, hh2⟩ := Tr.setK_ok hk
      have hni := hn i (by simp)
      have hF1 : Fr D ρ N env1 a := ⟨fun j v hv => by
        rw [hh2] at hv
        split at hv
        · cases hv
        · exact hF.er j v hv, hF.size, hF.dfr⟩
      have H1 := H.lay (by omega : nx0 + i < nx) hni hh1
      obtain ⟨env', h', pre', hk, H', hF', q1, q2, q3⟩ := ih (fun j hj => hal j (by simp [hj])) (fun j hj => hn j (by simp [hj])) H1 hF1 hk
      have hnone : ∀ d, env.get d = none → env1.get d = none := fun d hd => by rw [hh2]; split; rfl; exact hd
      have hself : env1.get d = none := by rw [hh2, if_pos rfl]
      refine ⟨env', h', pre', hk, H', hF', fun p hp => q1 p (by simp [hp]), fun d hd => q2 d (hnone d hd), fun j hj => ?_⟩
      rcases List.mem_cons.1 hj with rfl | hj
      · have hA := hal j (by simp)
        simp only [alAt, ho, isAl, hop, Bool.and_eq_true, Bool.true_and] at hA
        obtain ⟨⟨hg, ha⟩, _⟩ := hA
        refine ⟨⟨o, t, d, cs, inf, z, ho, hop, by simpa using hg, fun e he => ?_, hd, hinf, hz, hcs, q1 _ (List.mem_cons_self)⟩, fun o' d' ho' hd' => ?_⟩
        · have ha : o.after.toList = [] := by simpa using ha
          have : e ∈ o.after.toList := by simpa using he
          rw [ha] at this; cases this
        · rw [ho] at ho'; cases ho'
          rw [hd] at hd'; cases hd'
          exact q2 _ hself
      · exact q3 j hj
    · cases hk
/-- A cell that was kept back is laid. -/
theorem alloc_wp {ops : Array Oper} {nx0 : Nat} {pre : List (Nat × AO)} {i : Nat} (hA : AlI P ops nx0 pre i) (H : HR P g w0 ρ h nx w) (hg : g ≤ nx0) (hnx : nx0 + i < nx) (hn : ρ (nx0 + i) = none) (hp : ∀ p ∈ pre, h.get p.1 = some p.2) {Q : Exit → Act → World → Prop} {K : Act → World → Prop}
    (hK : ∀ o d w', ops[i]? = some o → o.dst = some d → HR P g w0 (ρ.put (nx0 + i) (.blk w.heap.size 0 0)) h nx w' → K (a.put (some d) (.pointer (some ⟨w.heap.size, 0, none⟩))) w') : wpOp P ops Q i K a w := by
  obtain ⟨o, t, d, cs, inf, z, ho, hop, hgd, _, hd, hinf, hz, hcs, hpre⟩ := hA
  have H' := H.fill hnx (by omega) hn (hp _ hpre) (hcs ρ)
  have hk := hK o d _ ho hd H'
  obtain ⟨dst, op, type, pos, after, guard⟩ := o
  cases hop; cases hgd; cases hd
  unfold wpOp
  rw [ho]
  have hw : Region.wanted ({ dst := some d, op := .alloc t, type, pos, after, guard := none } : Oper) (yielded ops a.tmps) = true := by simp [Region.wanted]
  dsimp only
  rw [if_pos hw]
  refine .inl ?_
  unfold Oper.wp
  have hrun : (execOp a.eval ({ dst := some d, op := .alloc t, type, pos, after, guard := none } : Oper)).run P w = .ok (.value (.pointer (some ⟨w.heap.size, 0, none⟩))) (w.alloc (.cells z.cells.toList.toArray t)) := by
    have : execOp a.eval ({ dst := some d, op := .alloc t, type, pos, after, guard := none } : Oper) = (Instr.alloc t true (.tuple #[]) >>= fun v => pure (.value v)) := rfl
    rw [this]
    simp [Instr.alloc, zeroValue, typeInfo, hinf, hz, newVar, newRow]
  rw [hrun, Oper.upon_value]
  exact hk
theorem postK_ok {ops : Array Oper} {nx0 : Nat} : ∀ {al : List Nat} {env : Env} {k : Env → Bool}, (∀ i ∈ al, ∀ o d, ops[i]? = some o → o.dst = some d → ∃ b, ρ (nx0 + i) = some (.blk b 0 0) ∧ (d < N → a.tmps[d]? = some (.pointer (some ⟨b, 0, none⟩)))) → Fr D ρ N env a → postK ops N nx0 al env k = true → ∃ env', k env' = true ∧ Fr D ρ N env' a := by
  intro al
  induction al with
  | nil => intro env k _ hF hk; exact ⟨env, hk, hF⟩
  | cons i al ih =>
    intro env k hA hF hk
    obtain ⟨o, ho, hk⟩ := optK_ok hk
    rw [lget_eq] at ho
    have ho : ops[i]? = some o := by simpa using ho
    rw [fN_eq] at hk
    have key : ∃ env', postK ops N nx0 al env' k = true ∧ Fr D ρ N env' a := by
      cases hd : o.dst with
      | none => rw [hd] at hk; exact ⟨env, hk, hF⟩
      | some d =>
        rw [hd] at hk
        obtain ⟨hdN, hk⟩ := iff_ok hk
        have hdN : d < N := natle hdN
        obtain ⟨env', hk, hh⟩ := Tr.setK_ok hk
        obtain ⟨b, hb, ht⟩ := hA i (by simp) o d ho hd
        refine ⟨env', hk, fun j v hv => ?_, hF.size, hF.dfr⟩
        rw [hh] at hv
        split at hv
        · rename_i e
          cases hv; subst e
          exact ⟨_, ht hdN, .c (.ptr 0 hb)⟩
        · exact hF.er j v hv
    obtain ⟨env', hk, hF'⟩ := key
    exact ih (fun j hj => hA j (by simp [hj])) hF' hk
end
end Eng
end Go.Proofs.YtmcoaebldobapaaGreatDoor
