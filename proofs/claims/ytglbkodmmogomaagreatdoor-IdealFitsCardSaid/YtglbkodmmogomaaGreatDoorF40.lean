/-
  WHAT IS FED, IN PLAIN WORDS: how many records come of one, that they rise by their places, that tables stay good.
-/
import Derived.Test.YtglbkodmmogomaaGreatDoorF32
set_option linter.unusedVariables false
set_option linter.unusedSimpArgs false
namespace Go.Proofs.YtglbkodmmogomaaGreatDoor
open Go Go.RowKit
/-- What expressions come to fits. -/
def ExR (x : Ex) : Prop := ∀ env, EnvOk env → R64 (exInt x env)
def wid (kind : Int) : Nat := if kind = 4 then 4 else 1
def gpos (kind p : Int) : Int := if kind = 4 then 8 * p else p
theorem flatN_le (x : Int) : flatN x ≤ 4 := by unfold flatN; omega
theorem flatL_lengthF (r : Rec) (k : Nat) : (flatL r k).length = k := by simp [flatL]
theorem step_lenF (nd : Nod) (T : Tab) (r : Rec) : (stepNode nd T r).1.length ≤ wid nd.kind := by
  unfold stepNode wid
  have := flatN_le (exInt nd.x (envOf r))
  repeat' split
  all_goals first | (simp only [flatL_lengthF]; omega) | (simp only [List.length_cons, List.length_nil]; omega)
theorem doNode_len (nd : Nod) : ∀ (L : List Rec) (T : Tab), (doNode nd T L).1.length ≤ wid nd.kind * L.length
  | [], T => by simp [doNode]
  | r :: l, T => by
    have h1 := step_lenF nd T r
    have h2 := doNode_len nd l (stepNode nd T r).2
    simp only [doNode, List.length_append, List.length_cons, Nat.mul_add, Nat.mul_one]
    omega
theorem wrap_id {n : Int} (h : R64 n) : wrap64 n = n := by unfold R64 at h; unfold wrap64; omega
theorem sumW_r64F (l : List Int) : R64 (sumW l) := by
  unfold sumW
  have : ∀ (l : List Int) (a : Int), R64 a → R64 (l.foldl (fun a x => wrap64 (a + x)) a) := by
    intro l
    induction l with
    | nil => exact fun a h => h
    | cons x l ih => exact fun a _ => ih _ (wrap_r64 _)
  exact this l 0 zero_r64
theorem cellOf_okF {T : Tab} (h : TOk T) (k : Int) : COk (cellOf T k) := by
  unfold cellOf
  cases e : tget T k with
  | none => exact ⟨zero_r64, by simp, by simp⟩
  | some c => exact h.cell _ ((tget_some h.rises).1 e)
theorem putE_zero {T : Tab} {k : Int} {n : Nat} (h : putE T k n = 0) : n ≤ 16 ∧ (tget T k ≠ none ∨ tmany T (grp k) < 40) := by
  unfold putE at h
  split at h
  · cases h
  · split at h
    · cases h
    · rename_i h1 h2
      refine ⟨by omega, ?_⟩
      by_cases hn : tget T k = none
      · right
        exact Nat.lt_of_not_le (fun h3 => h2 ⟨hn, h3⟩)
      · exact .inl hn
theorem TOk.putT {T : Tab} (h : TOk T) {k : Int} {c : Cell} (hk : R64 k) (h1 : R64 c.1) (h2 : ∀ x ∈ c.2, R64 x) : TOk (putT T k c) := by
  unfold Go.Proofs.YtglbkodmmogomaaGreatDoor.putT
  split
  · rename_i he
    obtain ⟨h3, h4⟩ := putE_zero he
    exact h.tput hk ⟨h1, h2, h3⟩ h4
  · exact h
theorem mem_putT {T : Tab} (h : Rises T) {k : Int} {c : Cell} {p : Int × Cell} (hp : p ∈ putT T k c) : p = (k, c) ∨ p ∈ T := by
  unfold putT at hp
  split at hp
  · rcases (mem_tput h).1 hp with hp | hp
    · exact .inl hp
    · exact .inr hp.1
  · exact .inr hp
/-- A step leaves a good table. -/
theorem step_tab {nd : Nod} {T : Tab} {r : Rec} (hx : ExR nd.x) (hT : TOk T) (hr : RecOk r) : TOk (stepNode nd T r).2 := by
  have hc := cellOf_okF hT r.key
  have hl : ∀ x ∈ (cellOf T r.key).2 ++ [r.val], R64 x := fun x hx => by
    rcases List.mem_append.1 hx with hx | hx
    · exact hc.2.1 x hx
    · rw [List.mem_singleton.1 hx]; exact hr.val
  have h7 := hT.putT (c := ((cellOf T r.key).1, (cellOf T r.key).2 ++ [r.val])) hr.key hc.1 hl
  have h6 := hT.putT (c := (exInt nd.x { envOf r with acc := (cellOf T r.key).1 }, [])) hr.key (hx _ ⟨hr.key, hr.val, hc.1⟩) (by simp)
  unfold stepNode
  repeat' split
  all_goals first | exact hT | exact h6 | exact h7 | exact h7.tdrop _
theorem fitsCell_win {n acc : Int} {l : List Int} : fitsCell 7 n (acc, l) = true ↔ acc = 0 ∧ 1 ≤ l.length ∧ (l.length : Int) < n := by
  have e : fitsCell 7 n (acc, l) = !((!decide (acc = 0)) || decide (l.length < 1) || decide (n ≤ (l.length : Int))) := by
    unfold fitsCell
    rw [show decide ((7 : Int) = 6) = false from rfl, show decide ((7 : Int) = 7) = true from rfl]
    simp
  rw [e]
  by_cases h1 : acc = 0
  · by_cases h2 : l.length < 1
    · rw [decide_eq_true h1, decide_eq_true h2]
      exact ⟨fun h => (by cases h), fun h => by omega⟩
    · by_cases h3 : n ≤ (l.length : Int)
      · rw [decide_eq_true h1, decide_eq_false h2, decide_eq_true h3]
        exact ⟨fun h => (by cases h), fun h => by omega⟩
      · rw [decide_eq_true h1, decide_eq_false h2, decide_eq_false h3]
        exact ⟨fun _ => by omega, fun _ => rfl⟩
  · rw [decide_eq_false h1]
    exact ⟨fun h => (by cases h), fun h => absurd h.1 h1⟩
theorem fitsCell_red {n acc : Int} {l : List Int} : fitsCell 6 n (acc, l) = true ↔ l = [] := by
  unfold fitsCell
  simp
theorem fits_all {kind n : Int} {T : Tab} (h : fitsP kind n T = true) : stateful kind = true ∧ ∀ p ∈ T, fitsCell kind n p.2 = true := by
  unfold fitsP at h
  rw [Bool.and_eq_true, List.all_eq_true] at h
  exact h
theorem fits_mk {kind n : Int} {T : Tab} (h1 : stateful kind = true) (h2 : ∀ p ∈ T, fitsCell kind n p.2 = true) : fitsP kind n T = true := by
  unfold fitsP
  rw [Bool.and_eq_true, List.all_eq_true]
  exact ⟨h1, h2⟩
/-- A step leaves a table that fits. -/
theorem step_fits {nd : Nod} {T : Tab} {r : Rec} (hT : TOk T) (hf : fitsP nd.kind nd.n T = true) : fitsP nd.kind nd.n (stepNode nd T r).2 = true := by
  obtain ⟨h1, h2⟩ := fits_all hf
  unfold stepNode
  by_cases h6 : nd.kind = 6
  · rw [if_neg (by omega), if_neg (by omega), if_neg (by omega), if_neg (by omega), if_pos h6]
    refine fits_mk h1 fun p hp => ?_
    rcases mem_putT hT.rises hp with rfl | hp
    · rw [h6]; exact fitsCell_red.2 rfl
    · exact h2 p hp
  · have h7 : nd.kind = 7 := by
      unfold stateful at h1
      simp at h1
      omega
    rw [if_neg (by omega), if_neg (by omega), if_neg (by omega), if_neg (by omega), if_neg h6, if_pos h7]
    have hacc : (cellOf T r.key).1 = 0 := by
      unfold cellOf
      cases e : tget T r.key with
      | none => rfl
      | some c =>
        have := h2 _ ((tget_some hT.rises).1 e)
        rw [h7] at this
        obtain ⟨a, l⟩ := c
        exact (fitsCell_win.1 this).1
    have key : ∀ p ∈ putT T r.key ((cellOf T r.key).1, (cellOf T r.key).2 ++ [r.val]), p.1 ≠ r.key ∨ putE T r.key ((cellOf T r.key).2.length + 1) ≠ 0 ∨ (((cellOf T r.key).2.length + 1 : Nat) : Int) < nd.n → fitsCell nd.kind nd.n p.2 = true := by
      intro p hp hh
      by_cases hE : putE T r.key ((cellOf T r.key).2.length + 1) = 0
      · unfold putT at hp
        rw [if_pos (by simpa using hE)] at hp
        rcases (mem_tput hT.rises).1 hp with rfl | ⟨hp, _⟩
        · rw [h7]
          refine fitsCell_win.2 ⟨hacc, by simp, ?_⟩
          rcases hh with hh | hh | hh
          · exact absurd rfl hh
          · exact absurd hE hh
          · simpa using hh
        · exact h2 p hp
      · unfold putT at hp
        rw [if_neg (by simpa using hE)] at hp
        exact h2 p hp
    split
    · rename_i hh
      exact fits_mk h1 fun p hp => key p hp (.inr hh)
    · exact fits_mk h1 fun p hp => by
        obtain ⟨hp, hne⟩ := mem_tdrop.1 hp
        exact key p hp (.inl hne)
theorem step_recs {nd : Nod} {T : Tab} {r : Rec} (hx : ExR nd.x) (hT : TOk T) (hr : RecOk r) : ∀ q ∈ (stepNode nd T r).1, RecOk q := by
  have e1 := hx _ (envOf_ok hr)
  have e2 := hx { envOf r with acc := (cellOf T r.key).1 } ⟨hr.key, hr.val, (cellOf_okF hT r.key).1⟩
  have one : ∀ (q x : Rec), x ∈ [q] → RecOk q → RecOk x := fun q x h k => by rw [List.mem_singleton.1 h]; exact k
  intro q hq
  unfold stepNode at hq
  repeat' split at hq
  all_goals first
    | exact one _ _ hq ⟨hr.pos, hr.key, e1⟩
    | exact one _ _ hq ⟨hr.pos, e1, hr.val⟩
    | exact one _ _ hq hr
    | exact one _ _ hq ⟨hr.pos, hr.key, e2⟩
    | exact one _ _ hq ⟨hr.pos, hr.key, sumW_r64F _⟩
    | (unfold flatL at hq; obtain ⟨i, _, rfl⟩ := List.mem_map.1 hq; exact ⟨wrap_r64 _, hr.key, wrap_r64 _⟩)
    | (cases hq)
theorem doNode_good {nd : Nod} (hx : ExR nd.x) : ∀ (L : List Rec) (T : Tab), TOk T → (∀ r ∈ L, RecOk r) → TOk (doNode nd T L).2 ∧ ∀ q ∈ (doNode nd T L).1, RecOk q
  | [], T, hT, _ => ⟨hT, by simp [doNode]⟩
  | r :: l, T, hT, hL => by
    have hr := hL r (by simp)
    have ih := doNode_good hx l _ (step_tab hx hT hr) (fun q hq => hL q (by simp [hq]))
    refine ⟨ih.1, fun q hq => ?_⟩
    simp only [doNode] at hq
    rcases List.mem_append.1 hq with hq | hq
    · exact step_recs hx hT hr q hq
    · exact ih.2 q hq
theorem doNode_fits {nd : Nod} (hx : ExR nd.x) : ∀ (L : List Rec) (T : Tab), TOk T → (∀ r ∈ L, RecOk r) → fitsP nd.kind nd.n T = true → fitsP nd.kind nd.n (doNode nd T L).2 = true
  | [], T, _, _, hf => hf
  | r :: l, T, hT, hL, hf => doNode_fits hx l _ (step_tab hx hT (hL r (by simp))) (fun q hq => hL q (by simp [hq])) (step_fits hT hf)
/-! ### Rising -/
def Rising (C : Int) (L : List Rec) : Prop := L.Pairwise (fun a b => a.pos < b.pos) ∧ ∀ r ∈ L, 1 ≤ r.pos ∧ r.pos < C
theorem flat_get {r : Rec} {k : Nat} : flatL r k = (List.range k).map fun (i : Nat) => (⟨wrap64 (wrap64 (8 * r.pos) + (i : Int)), r.key, wrap64 (r.val + (i : Int))⟩ : Rec) := rfl
theorem step_rise {nd : Nod} {T : Tab} {r : Rec} (h0 : 1 ≤ r.pos) (h1 : r.pos < 1125899906842624) :
    (stepNode nd T r).1.Pairwise (fun a b => a.pos < b.pos) ∧ ∀ q ∈ (stepNode nd T r).1, gpos nd.kind r.pos ≤ q.pos ∧ q.pos < gpos nd.kind r.pos + wid nd.kind := by
  by_cases h4 : nd.kind = 4
  · have e : (stepNode nd T r).1 = flatL r (flatN (exInt nd.x (envOf r))) := by
      unfold stepNode
      rw [if_neg (by omega), if_neg (by omega), if_neg (by omega), if_pos h4]
    have hk := flatN_le (exInt nd.x (envOf r))
    have pos : ∀ i : Nat, i < 4 → wrap64 (wrap64 (8 * r.pos) + (i : Int)) = 8 * r.pos + i := fun i hi => by
      rw [wrap_id (n := 8 * r.pos) ⟨by omega, by omega⟩, wrap_id ⟨by omega, by omega⟩]
    rw [e, flat_get]
    refine ⟨?_, fun q hq => ?_⟩
    · rw [List.pairwise_map]
      refine List.Pairwise.imp_of_mem ?_ (List.pairwise_lt_range (n := flatN (exInt nd.x (envOf r))))
      intro a b ha hb hab
      have ha := List.mem_range.1 ha
      have hb := List.mem_range.1 hb
      simp only [pos a (by omega), pos b (by omega)]
      omega
    · obtain ⟨i, hi, rfl⟩ := List.mem_map.1 hq
      have hi := List.mem_range.1 hi
      simp only [pos i (by omega)]
      unfold gpos wid
      rw [if_pos h4, if_pos h4]
      omega
  · have key : (stepNode nd T r).1 = [] ∨ ∃ q, (stepNode nd T r).1 = [q] ∧ q.pos = r.pos := by
      unfold stepNode
      repeat' split
      all_goals first | exact .inl rfl | exact .inr ⟨_, rfl, rfl⟩ | (exact absurd (by assumption) h4)
    unfold gpos wid
    rw [if_neg h4, if_neg h4]
    rcases key with e | ⟨q, e, hq⟩
    · rw [e]; exact ⟨.nil, by simp⟩
    · rw [e]
      refine ⟨by simp, fun x hx => ?_⟩
      rw [List.mem_singleton.1 hx, hq]; omega
theorem doNode_rise {nd : Nod} {C : Int} (hC : C ≤ 1125899906842624) : ∀ (L : List Rec) (T : Tab), Rising C L →
    (doNode nd T L).1.Pairwise (fun a b => a.pos < b.pos) ∧ ∀ q ∈ (doNode nd T L).1, ∃ r ∈ L, gpos nd.kind r.pos ≤ q.pos ∧ q.pos < gpos nd.kind r.pos + wid nd.kind
  | [], T, _ => ⟨by simp [doNode], by simp [doNode]⟩
  | r :: l, T, ⟨hp, hb⟩ => by
    obtain ⟨hp1, hp2⟩ := List.pairwise_cons.1 hp
    obtain ⟨i1, i2⟩ := doNode_rise (nd := nd) hC l (stepNode nd T r).2 ⟨hp2, fun q hq => hb q (by simp [hq])⟩
    have hr := hb r (by simp)
    obtain ⟨s1, s2⟩ := step_rise (nd := nd) (T := T) hr.1 (by omega)
    have hw : ∀ q ∈ l, gpos nd.kind r.pos + wid nd.kind ≤ gpos nd.kind q.pos := fun q hq => by
      have := hp1 q hq
      unfold gpos wid
      split <;> omega
    simp only [doNode]
    refine ⟨List.pairwise_append.2 ⟨s1, i1, fun a ha b hbb => ?_⟩, fun q hq => ?_⟩
    · have ha := s2 a ha
      obtain ⟨x, hx, hx1, _⟩ := i2 b hbb
      have := hw x hx
      omega
    · rcases List.mem_append.1 hq with hq | hq
      · exact ⟨r, by simp, s2 q hq⟩
      · obtain ⟨x, hx, hh⟩ := i2 q hq
        exact ⟨x, by simp [hx], hh⟩
theorem rising_do {nd : Nod} {C : Int} {L : List Rec} {T : Tab} (hC : C ≤ 1125899906842624) (h : Rising C L) : Rising (if nd.kind = 4 then 8 * C else C) (doNode nd T L).1 := by
  obtain ⟨h1, h2⟩ := doNode_rise (nd := nd) hC L T h
  refine ⟨h1, fun q hq => ?_⟩
  obtain ⟨r, hr, h3, h4⟩ := h2 q hq
  have := h.2 r hr
  unfold gpos at h3 h4
  unfold wid at h4
  by_cases hk : nd.kind = 4
  · rw [if_pos hk] at h3 h4 ⊢; rw [if_pos hk] at h4; omega
  · rw [if_neg hk] at h3 h4 ⊢; rw [if_neg hk] at h4; omega
theorem smerge_rise {L : List Rec} (h : (L.map (·.pos)).Nodup) : (smerge L).Pairwise (fun a b => a.pos < b.pos) := by
  have hs := smerge_sorted L
  have hp : (smerge L).Perm L := List.mergeSort_perm L _
  have hn : ((smerge L).map (·.pos)).Nodup := (hp.map (·.pos)).nodup_iff.2 h
  unfold Sorted at hs
  rw [List.Nodup, List.pairwise_map] at hn
  exact hs.imp₂ (fun a b h1 h2 => by omega) hn
theorem wide_pos {b : Nat} {r : Rec} {C : Int} (hb : b < 8) (h1 : 1 ≤ r.pos) (h2 : r.pos < C) (hC : C ≤ 1125899906842624) : (wideR b r).pos = 8 * r.pos + b := by
  unfold wideR
  simp only
  rw [wrap_id (n := 8 * r.pos) ⟨by omega, by omega⟩, wrap_id ⟨by omega, by omega⟩]
theorem wide_nodup {C : Int} (hC : C ≤ 1125899906842624) : ∀ (LL : List (List Rec)) (b : Nat), b + LL.length ≤ 8 → (∀ L ∈ LL, Rising C L) →
    (((wideL b LL).flatten).map (·.pos)).Nodup ∧ ∀ q ∈ (wideL b LL).flatten, 8 ≤ q.pos ∧ q.pos < 8 * C ∧ (b : Int) ≤ q.pos % 8
  | [], b, _, _ => by simp [wideL]
  | L :: LL, b, hb, h => by
    rw [List.length_cons] at hb
    have ih := wide_nodup hC LL (b + 1) (by omega) (fun M hM => h M (by simp [hM]))
    have hL := h L (by simp)
    have hpos : ∀ q ∈ L.map (wideR b), ∃ r ∈ L, q.pos = 8 * r.pos + b := fun q hq => by
      obtain ⟨r, hr, rfl⟩ := List.mem_map.1 hq
      exact ⟨r, hr, wide_pos (by omega) (hL.2 r hr).1 (hL.2 r hr).2 hC⟩
    have e : wideL b (L :: LL) = L.map (wideR b) :: wideL (b + 1) LL := rfl
    rw [e, List.flatten_cons, List.map_append]
    refine ⟨List.nodup_append.2 ⟨?_, ih.1, fun x hx y hy => ?_⟩, fun q hq => ?_⟩
    · rw [List.Nodup, List.map_map, List.pairwise_map]
      refine List.Pairwise.imp_of_mem ?_ hL.1
      intro a c ha hc hac
      simp only [Function.comp]
      rw [wide_pos (by omega) (hL.2 a ha).1 (hL.2 a ha).2 hC, wide_pos (by omega) (hL.2 c hc).1 (hL.2 c hc).2 hC]
      omega
    · obtain ⟨q, hq, rfl⟩ := List.mem_map.1 hx
      obtain ⟨q', hq', rfl⟩ := List.mem_map.1 hy
      obtain ⟨r, hr, hrp⟩ := hpos q hq
      have := (ih.2 q' hq').2.2
      intro e
      omega
    · rcases List.mem_append.1 hq with hq | hq
      · obtain ⟨r, hr, hrp⟩ := hpos q hq
        have := hL.2 r hr
        omega
      · have := ih.2 q hq
        omega
theorem rising_gets {kind C : Int} {LL : List (List Rec)} (hC : C ≤ 1125899906842624) (h : ∀ L ∈ LL, Rising C L) (hn : kind = 8 ∧ LL.length ≤ 3 ∨ kind ≠ 8 ∧ LL.length ≤ 1) : Rising (if kind = 8 then 8 * C else C) (getsL kind LL) := by
  unfold getsL
  rcases hn with ⟨hk, hl⟩ | ⟨hk, hl⟩
  · rw [if_pos hk, if_pos hk]
    obtain ⟨h1, h2⟩ := wide_nodup hC LL 0 (by omega) h
    refine ⟨smerge_rise h1, fun q hq => ?_⟩
    have := h2 q (mem_smerge.1 hq)
    omega
  · rw [if_neg hk, if_neg hk]
    have hr : Rising C LL.flatten := by
      match LL, hl with
      | [], _ => exact ⟨.nil, by simp⟩
      | [L], _ => simpa using h L (by simp)
    refine ⟨smerge_rise ?_, fun q hq => hr.2 q (mem_smerge.1 hq)⟩
    rw [List.Nodup, List.pairwise_map]
    exact hr.1.imp fun h => by omega
end Go.Proofs.YtglbkodmmogomaaGreatDoor
