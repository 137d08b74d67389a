/-
  WHAT IS FED, IN PLAIN WORDS: a job that may be, good tables, a record: all that comes is good.
-/
import Derived.Test.YtglbkodmmogomaaGreatDoorF40
import Derived.Test.YtglbkodmmogomaaGreatDoorF21
import Derived.Test.YtglbkodmmogomaaGreatDoorF39
set_option linter.unusedVariables false
set_option linter.unusedSimpArgs false
namespace Go.Proofs.YtglbkodmmogomaaGreatDoor
open Go Go.RowKit
theorem snoc_ind {α : Type} {p : List α → Prop} (h0 : p []) (h1 : ∀ l a, p l → p (l ++ [a])) (l : List α) : p l := by
  rw [← List.reverse_reverse l]
  induction l.reverse with
  | nil => exact h0
  | cons a l ih => rw [List.reverse_cons]; exact h1 _ _ ih
theorem waysL_snoc (l : List JN) (d : JN) : waysL (l ++ [d]) = waysL l ++ [wayOf (waysL l) d] := by
  unfold waysL; rw [List.foldl_append]; rfl
theorem waysL_pre (l : List JN) : ∀ m : List JN, ∃ t, waysL (l ++ m) = waysL l ++ t := by
  refine snoc_ind ⟨[], by simp⟩ fun m d ih => ?_
  · obtain ⟨t, ht⟩ := ih
    refine ⟨t ++ [wayOf (waysL (l ++ m)) d], ?_⟩
    rw [← List.append_assoc, waysL_snoc, ht, List.append_assoc]
theorem waysL_length (l : List JN) : (waysL l).length = l.length := by
  refine snoc_ind (p := fun l => (waysL l).length = l.length) rfl (fun l d ih => ?_) l
  rw [waysL_snoc, List.length_append, List.length_append, ih]; rfl
theorem ways_take (nodes : List JN) (k : Nat) : ∃ t, waysL nodes = waysL (nodes.take k) ++ t := by
  have := waysL_pre (nodes.take k) (nodes.drop k)
  rwa [List.take_append_drop] at this
theorem ways_old {nodes : List JN} {k i : Nat} (hk : k ≤ nodes.length) (hi : i < k) : (waysL (nodes.take k)).getD i 0 = (waysL nodes).getD i 0 := by
  obtain ⟨t, ht⟩ := ways_take nodes k
  rw [ht, List.getD_eq_getElem?_getD, List.getD_eq_getElem?_getD, List.getElem?_append_left (by rw [waysL_length, List.length_take]; omega)]
theorem ways_get {nodes : List JN} {k : Nat} {d : JN} (hd : nodes[k]? = some d) : (waysL nodes).getD k 0 = wayOf (waysL (nodes.take k)) d := by
  have hk := (List.getElem?_eq_some_iff.1 hd).1
  have e := ways_old (nodes := nodes) (k := k + 1) (i := k) (by omega) (by omega)
  rw [← e, List.take_add_one, hd]
  show (waysL (nodes.take k ++ [d])).getD k 0 = _
  rw [waysL_snoc, List.getD_eq_getElem?_getD, List.getElem?_append_right (by rw [waysL_length, List.length_take]; omega), waysL_length, List.length_take]
  rw [show k - min k nodes.length = 0 by omega]
  rfl
/-- What a node that may be is. -/
structure NodeMay (nodes : List JN) (k : Nat) (d : JN) : Prop where
  kind : 1 ≤ d.kind ∧ d.kind ≤ 9
  name : nameOk d.uid = true
  ins : d.ins.length ≤ 3
  one : d.kind ≠ 8 → d.ins.length ≤ 1
  some : d.kind ≠ 1 → 1 ≤ d.ins.length
  src : d.kind = 1 ↔ k = 0
  snk : d.kind = 9 ↔ k + 1 = nodes.length
  low : ∀ x ∈ d.ins, 0 ≤ x ∧ x < (k : Int)
  nodup : d.ins.Nodup
  ways : (waysL nodes).getD k 0 ≤ 64
  n : 0 ≤ d.n ∧ d.n ≤ 16
theorem jobOk_node {j : Jb} (h : jobOk j = true) {k : Nat} {d : JN} (hd : j.nodes[k]? = some d) : NodeMay j.nodes k d := by
  obtain ⟨h1, _, h3⟩ := (jobOk_get h).2 k d hd
  unfold mayN mayP at h1
  split at h1
  · cases h1
  rename_i ha
  split at h1
  · cases h1
  rename_i hb
  split at h1
  · cases h1
  rename_i hc
  unfold shapeBad at h3
  simp only [Bool.or_eq_false_iff, bne_eq_false_iff_eq, decide_eq_false_iff_not, decide_eq_decide] at h3
  obtain ⟨⟨⟨⟨⟨g1, g2⟩, g3⟩, g4⟩, g5⟩, g6⟩ := h3
  unfold jN at hc
  have hgood : goodIns d.ins k = true := by
    cases e : goodIns d.ins k with
    | true => rfl
    | false => exact absurd (.inr (.inr e)) hb
  have b1 : jLeast d.kind ≤ d.ins.length := Nat.le_of_not_lt fun h => hb (.inl h)
  have b2 : d.ins.length ≤ jMost d.kind := Nat.le_of_not_lt fun h => hb (.inr (.inl h))
  unfold goodIns at hgood
  rw [Bool.and_eq_true, List.all_eq_true, decide_eq_true_eq] at hgood
  refine ⟨by omega, ?_, ?_, ?_, ?_, g1, g2, fun x hx => by simpa using hgood.2 x hx, hgood.1, by omega, ?_⟩
  · cases e : nameOk d.uid with
    | true => rfl
    | false => exact absurd (.inl e) ha
  · have : jMost d.kind ≤ 3 := by unfold jMost; split; omega; split <;> omega
    omega
  · intro e8
    have : jMost d.kind ≤ 1 := by unfold jMost; rw [if_neg e8]; split <;> omega
    omega
  · intro e1
    have : 1 ≤ jLeast d.kind := by unfold jLeast; rw [if_neg e1]; split <;> omega
    omega
  · split at hc <;> omega
/-- Each row's expressions. -/
def JR (nodes : List JN) : Prop := ∀ d ∈ nodes, ExR d.x
structure RowOk (nodes : List JN) (i : Nat) (L : List Rec) : Prop where
  recs : ∀ q ∈ L, RecOk q
  rise : Rising ((8 ^ (i + 1) : Nat) : Int) L
  few : (L.length : Int) ≤ (waysL nodes).getD i 0
structure FedOk (nodes : List JN) (k : Nat) (st : List (List Rec) × Tabs) : Prop where
  len : st.1.length = k
  tabs : TabsOk nodes st.2
  rows : ∀ (i : Nat) (L : List Rec), st.1[i]? = some L → RowOk nodes i L
theorem rising_mono {C D : Int} {L : List Rec} (h : Rising C L) (hCD : C ≤ D) : Rising D L := ⟨h.1, fun r hr => by have := h.2 r hr; omega⟩
theorem sum_flat : ∀ (LL : List (List Rec)), (LL.flatten.length : Int) = (LL.map fun L => (L.length : Int)).sum
  | [] => rfl
  | L :: LL => by rw [List.flatten_cons, List.length_append, List.map_cons, List.sum_cons, ← sum_flat LL]; omega
theorem sum_le : ∀ {α : Type} (l : List α) (f g : α → Int), (∀ x ∈ l, f x ≤ g x) → (l.map f).sum ≤ (l.map g).sum
  | _, [], _, _, _ => by simp
  | _, x :: l, f, g, h => by
    rw [List.map_cons, List.map_cons, List.sum_cons, List.sum_cons]
    have := h x (by simp)
    have := sum_le l f g (fun y hy => h y (by simp [hy]))
    omega
theorem getsL_length (kind : Int) (LL : List (List Rec)) : (getsL kind LL).length = LL.flatten.length := by
  unfold getsL
  rw [smerge_length]
  split
  · exact wideL_flat 0 LL
  · rfl
/-- What a node gets: each of its rows, good. -/
def insOf (d : JN) (M : List (List Rec)) : List (List Rec) := d.ins.map fun x => M.getD x.toNat []
def inpOf (r : Rec) (d : JN) (k : Nat) (M : List (List Rec)) : List Rec := if k = 0 then [r] else getsL d.kind (insOf d M)
theorem feedStep_eq {nodes : List JN} {k : Nat} {d : JN} (hd : nodes[k]? = some d) (r : Rec) (st : List (List Rec) × Tabs) : feedStep nodes r st k =
    (st.1 ++ [(doNode d.nod ((st.2.getD k none).getD []) (inpOf r d k st.1)).1], st.2.set k ((st.2.getD k none).map fun _ => (doNode d.nod ((st.2.getD k none).getD []) (inpOf r d k st.1)).2)) := by
  have e : nodes.getD k default = d := by rw [List.getD_eq_getElem?_getD, hd]; rfl
  unfold feedStep inpOf insOf
  rw [e]
theorem pow8_le {k : Nat} (hk : k ≤ 12) : 8 ^ (k + 1) ≤ 1125899906842624 := by
  have : 8 ^ (k + 1) ≤ 8 ^ 13 := Nat.pow_le_pow_right (by omega) (by omega)
  omega
theorem wideR_ok {b : Nat} {r : Rec} (h : RecOk r) : RecOk (wideR b r) := ⟨wrap_r64 _, h.key, h.val⟩
theorem wideL_ok : ∀ (LL : List (List Rec)) (b : Nat), (∀ L ∈ LL, ∀ q ∈ L, RecOk q) → ∀ L ∈ wideL b LL, ∀ q ∈ L, RecOk q
  | [], _, _, _, hL, _, _ => by cases hL
  | M :: LL, b, h, L, hL, q, hq => by
    have e : wideL b (M :: LL) = M.map (wideR b) :: wideL (b + 1) LL := rfl
    rw [e] at hL
    rcases List.mem_cons.1 hL with rfl | hL
    · obtain ⟨r, hr, rfl⟩ := List.mem_map.1 hq
      exact wideR_ok (h M (by simp) r hr)
    · exact wideL_ok LL (b + 1) (fun L' h' => h L' (by simp [h'])) L hL q hq
theorem getsL_ok {kind : Int} {LL : List (List Rec)} (h : ∀ L ∈ LL, ∀ q ∈ L, RecOk q) : ∀ q ∈ getsL kind LL, RecOk q := by
  intro q hq
  unfold getsL at hq
  have hq := mem_smerge.1 hq
  obtain ⟨L, hL, hqL⟩ := List.mem_flatten.1 hq
  split at hL
  · exact wideL_ok LL 0 h L hL q hqL
  · exact h L hL q hqL
theorem wayOf_ins {W : List Int} {d : JN} (h : d.kind ≠ 1) : wayOf W d = (d.ins.map fun k => W.getD k.toNat 0).sum * (wid d.kind : Int) := by
  unfold wayOf wid
  rw [if_neg h]
  split <;> rfl
/-- What a node gets is good. -/
theorem inp_ok {j : Jb} (hj : jobOk j = true) {r : Rec} (hr : RecOk r) (hp : r.pos = 1) {k : Nat} {d : JN} (hd : j.nodes[k]? = some d) {st : List (List Rec) × Tabs} (h : FedOk j.nodes k st) :
    (∀ q ∈ inpOf r d k st.1, RecOk q) ∧ Rising (if k = 0 then 8 else if d.kind = 8 then 8 * ((8 ^ k : Nat) : Int) else ((8 ^ k : Nat) : Int)) (inpOf r d k st.1) ∧ ((inpOf r d k st.1).length : Int) * (wid d.kind : Int) ≤ (waysL j.nodes).getD k 0 ∧ (inpOf r d k st.1).length ≤ 64 ∧
    (k ≠ 0 → (insOf d st.1).flatten.length ≤ 64 ∧ (insOf d st.1).length ≤ 3) := by
  have hm := jobOk_node hj hd
  have hlen : k < j.nodes.length := (List.getElem?_eq_some_iff.1 hd).1
  have h12 : j.nodes.length ≤ 12 := by
    have := (jobOk_get hj).1
    unfold headBad at this
    simp only [Bool.or_eq_false_iff, decide_eq_false_iff_not] at this
    omega
  have hW := ways_get hd
  unfold inpOf
  by_cases hk : k = 0
  · subst hk
    have h1 := hm.src.2 rfl
    rw [if_pos rfl, if_pos rfl]
    refine ⟨fun q hq => by rw [List.mem_singleton.1 hq]; exact hr, ⟨by simp, fun q hq => by rw [List.mem_singleton.1 hq, hp]; omega⟩, ?_, by simp, fun h => absurd rfl h⟩
    rw [hW]
    unfold wayOf wid
    rw [if_pos h1, if_neg (by omega)]
    simp
  · rw [if_neg hk, if_neg hk]
    have h1 : d.kind ≠ 1 := fun e => hk (hm.src.1 e)
    have hrow : ∀ x ∈ d.ins, ∃ L, st.1[x.toNat]? = some L ∧ st.1.getD x.toNat [] = L ∧ x.toNat < k := by
      intro x hx
      have hx' := hm.low x hx
      have hlt : x.toNat < st.1.length := by rw [h.len]; omega
      exact ⟨st.1[x.toNat], List.getElem?_eq_getElem hlt, by simp [List.getD_eq_getElem?_getD, hlt], by omega⟩
    have hins : ∀ L ∈ insOf d st.1, ∃ i, i < k ∧ RowOk j.nodes i L := by
      intro L hL
      obtain ⟨x, hx, rfl⟩ := List.mem_map.1 hL
      obtain ⟨L, e1, e2, e3⟩ := hrow x hx
      rw [e2]
      exact ⟨_, e3, h.rows _ _ e1⟩
    have hC : ((8 ^ k : Nat) : Int) ≤ 1125899906842624 := by
      have : 8 ^ k ≤ 8 ^ (k + 1) := Nat.pow_le_pow_right (by omega) (by omega)
      have := pow8_le (k := k) (by omega)
      omega
    have hflat : ((insOf d st.1).flatten.length : Int) ≤ (d.ins.map fun x => (waysL (j.nodes.take k)).getD x.toNat 0).sum := by
      rw [sum_flat]
      unfold insOf
      rw [List.map_map]
      refine sum_le _ _ _ fun x hx => ?_
      obtain ⟨L, e1, e2, e3⟩ := hrow x hx
      simp only [Function.comp]
      rw [e2, ways_old (by omega) e3]
      exact (h.rows _ _ e1).few
    have hways : ((insOf d st.1).flatten.length : Int) * (wid d.kind : Int) ≤ (waysL j.nodes).getD k 0 := by
      rw [hW, wayOf_ins h1]
      exact Int.mul_le_mul_of_nonneg_right hflat (by omega)
    have h64 : (insOf d st.1).flatten.length ≤ 64 := by
      have hw := hm.ways
      have : 1 ≤ wid d.kind := by unfold wid; split <;> omega
      have h2 : ((insOf d st.1).flatten.length : Int) * 1 ≤ ((insOf d st.1).flatten.length : Int) * (wid d.kind : Int) := Int.mul_le_mul_of_nonneg_left (by omega) (by omega)
      omega
    have hl3 : (insOf d st.1).length ≤ 3 := by unfold insOf; rw [List.length_map]; exact hm.ins
    refine ⟨getsL_ok fun L hL q hq => ?_, rising_gets hC (fun L hL => ?_) ?_, by rw [getsL_length]; exact hways, by rw [getsL_length]; exact h64, fun _ => ⟨h64, hl3⟩⟩
    · obtain ⟨i, _, ho⟩ := hins L hL
      exact ho.recs q hq
    · obtain ⟨i, hi, ho⟩ := hins L hL
      refine rising_mono ho.rise ?_
      have : 8 ^ (i + 1) ≤ 8 ^ k := Nat.pow_le_pow_right (by omega) (by omega)
      omega
    · by_cases e8 : d.kind = 8
      · exact .inl ⟨e8, hl3⟩
      · right; refine ⟨e8, ?_⟩; unfold insOf; rw [List.length_map]; exact hm.one e8
theorem FedOk.step {j : Jb} (hj : jobOk j = true) (hR : JR j.nodes) {r : Rec} (hr : RecOk r) (hp : r.pos = 1) {k : Nat} {d : JN} (hd : j.nodes[k]? = some d) {st : List (List Rec) × Tabs} (h : FedOk j.nodes k st) : FedOk j.nodes (k + 1) (feedStep j.nodes r st k) := by
  have hm := jobOk_node hj hd
  have hlen : k < j.nodes.length := (List.getElem?_eq_some_iff.1 hd).1
  have h12 : j.nodes.length ≤ 12 := by
    have := (jobOk_get hj).1
    unfold headBad at this
    simp only [Bool.or_eq_false_iff, decide_eq_false_iff_not] at this
    omega
  have hx : ExR d.nod.x := hR d (List.mem_of_getElem? hd)
  obtain ⟨i1, i2, i3, i4, _⟩ := inp_ok hj hr hp hd h
  have hkt : k < st.2.length := by rw [h.tabs.len]; exact hlen
  obtain ⟨t, ht⟩ : ∃ t, st.2[k]? = some t := ⟨_, List.getElem?_eq_getElem hkt⟩
  have htk : st.2.getD k none = t := by rw [List.getD_eq_getElem?_getD, ht]; rfl
  have htok : TOk (t.getD []) := by
    cases hs : stateful d.kind with
    | true => obtain ⟨T, hT, h1, _⟩ := h.tabs.has k d hd hs; rw [ht] at hT; injection hT with hT; subst hT; exact h1
    | false => have := h.tabs.not k d hd hs; rw [ht] at this; injection this with this; subst this; exact TOk.nil
  rw [feedStep_eq hd, htk]
  obtain ⟨g1, g2⟩ := doNode_good hx (inpOf r d k st.1) (t.getD []) htok i1
  refine ⟨by simp [h.len], ⟨by simpa using h.tabs.len, fun i e he hs => ?_, fun i e he hs => ?_⟩, fun i L hL => ?_⟩
  · rw [List.getElem?_set]
    split
    · rename_i hik
      subst hik
      rw [hd] at he; injection he with he; subst he
      obtain ⟨T, hT, h1, h2⟩ := h.tabs.has k d hd hs
      rw [ht] at hT; injection hT with hT; subst hT
      exact ⟨_, rfl, g1, doNode_fits hx _ _ htok i1 h2⟩
    · exact h.tabs.has i e he hs
  · rw [List.getElem?_set]
    split
    · rename_i hik
      subst hik
      rw [hd] at he; injection he with he; subst he
      have := h.tabs.not k d hd hs
      rw [ht] at this; injection this with this; subst this
      rfl
    · exact h.tabs.not i e he hs
  · by_cases hi : i < k
    · rw [List.getElem?_append_left (by rw [h.len]; exact hi)] at hL
      exact h.rows i L hL
    · have hik : i = k := by
        have := (List.getElem?_eq_some_iff.1 hL).1
        simp [h.len] at this
        omega
      subst hik
      rw [List.getElem?_append_right (by rw [h.len]; exact Nat.le_refl _), h.len, Nat.sub_self] at hL
      injection hL with hL
      subst hL
      refine ⟨g2, ?_, ?_⟩
      · have hC : ((if i = 0 then 8 else if d.kind = 8 then 8 * ((8 ^ i : Nat) : Int) else ((8 ^ i : Nat) : Int)) : Int) ≤ 1125899906842624 := by
          have h1 : 8 ^ (i + 1) = 8 * 8 ^ i := by rw [Nat.pow_succ]; omega
          have := pow8_le (k := i) (by omega)
          split
          · omega
          · split <;> omega
        refine rising_mono (rising_do (nd := d.nod) (T := t.getD []) hC i2) ?_
        have h1 : 8 ^ (i + 1) = 8 * 8 ^ i := by rw [Nat.pow_succ]; omega
        have e : d.nod.kind = d.kind := rfl
        rw [e]
        by_cases h0 : i = 0
        · subst h0
          have := hm.src.2 rfl
          rw [if_neg (by omega), if_pos rfl]; decide
        · rw [if_neg h0]
          by_cases h4 : d.kind = 4
          · rw [if_pos h4, if_neg (by omega)]; omega
          · rw [if_neg h4]
            split <;> omega
      · have h1 := doNode_len d.nod (inpOf r d i st.1) (t.getD [])
        have e : d.nod.kind = d.kind := rfl
        rw [e] at h1
        have h2 : (((doNode d.nod (t.getD []) (inpOf r d i st.1)).1.length : Nat) : Int) ≤ ((wid d.kind * (inpOf r d i st.1).length : Nat) : Int) := by omega
        rw [Int.natCast_mul, Int.mul_comm] at h2
        omega
theorem fedOk {j : Jb} (hj : jobOk j = true) (hR : JR j.nodes) {Ts : Tabs} (hT : TabsOk j.nodes Ts) {r : Rec} (hr : RecOk r) (hp : r.pos = 1) : ∀ k, k ≤ j.nodes.length → FedOk j.nodes k (feedK j.nodes r Ts k)
  | 0, _ => ⟨rfl, hT, fun i L h => by simp [feedK] at h⟩
  | k + 1, hk => FedOk.step hj hR hr hp (List.getElem?_eq_getElem (by omega)) (fedOk hj hR hT hr hp k (by omega))
/-- A record's feeding: the tables stay good, what comes out rises, and is good. -/
theorem feedP_ok {j : Jb} (hj : jobOk j = true) (hR : JR j.nodes) {Ts : Tabs} (hT : TabsOk j.nodes Ts) {key val : Int} (hk : R64 key) (hv : R64 val) :
    TabsOk j.nodes (feedP j.nodes Ts key val).2 ∧ (∀ q ∈ (feedP j.nodes Ts key val).1, RecOk q) ∧ Rising 1125899906842624 (feedP j.nodes Ts key val).1 ∧ (feedP j.nodes Ts key val).1.length ≤ 64 := by
  have hr : RecOk ⟨1, key, val⟩ := ⟨.small (by simp) (by simp), hk, hv⟩
  have h := fedOk hj hR hT hr rfl j.nodes.length (Nat.le_refl _)
  have hh := (jobOk_get hj).1
  unfold headBad at hh
  simp only [Bool.or_eq_false_iff, decide_eq_false_iff_not] at hh
  have hn : j.nodes.length - 1 < (feedK j.nodes ⟨1, key, val⟩ Ts j.nodes.length).1.length := by rw [h.len]; omega
  obtain ⟨L, hL⟩ : ∃ L, (feedK j.nodes ⟨1, key, val⟩ Ts j.nodes.length).1[j.nodes.length - 1]? = some L := ⟨_, List.getElem?_eq_getElem hn⟩
  have ho := h.rows _ _ hL
  have e : (feedP j.nodes Ts key val).1 = smerge L := by
    unfold feedP
    simp only
    rw [List.getD_eq_getElem?_getD, hL]; rfl
  have hw := (jobOk_node hj (k := j.nodes.length - 1) (List.getElem?_eq_getElem (by omega))).ways
  refine ⟨h.tabs, ?_, ?_, ?_⟩
  · rw [e]; exact fun q hq => ho.recs q (mem_smerge.1 hq)
  · rw [e]
    refine ⟨smerge_rise ?_, fun q hq => ?_⟩
    · rw [List.Nodup, List.pairwise_map]
      exact ho.rise.1.imp fun h => by omega
    · have h1 := ho.rise.2 q (mem_smerge.1 hq)
      have := pow8_le (k := j.nodes.length - 1) (by omega)
      omega
  · rw [e, smerge_length]
    have := ho.few
    omega
end Go.Proofs.YtglbkodmmogomaaGreatDoor
/-
  job.May, told plainly: where a job fails, and why; facts of what the ways come to.
-/
namespace Go.Proofs.YtglbkodmmogomaaGreatDoor
open Go Go.RowKit
def bad1 (nodes : List JN) (i : Nat) : Int := if mayN i (nodes.getD i default) = false then 120 else if uidBad nodes i (nodes.getD i default) = true then 121 else 0
/-- Where a job is refused, and by which error. -/
def mayE (j : Jb) : Int × Int :=
  if headBad j = true then (0, 2) else
  match (List.range j.nodes.length).find? (fun i => bad1 j.nodes i != 0) with
  | some i => ((i : Int), bad1 j.nodes i)
  | none => match (List.range j.nodes.length).find? (fun i => shapeBad j.nodes i (j.nodes.getD i default)) with
    | some i => ((i : Int), 122)
    | none => (0, 0)
theorem mayE_head {j : Jb} (h : headBad j = true) : mayE j = (0, 2) := by unfold mayE; rw [if_pos h]
theorem mayE_one {j : Jb} (h0 : headBad j = false) {k : Nat} (hk : k < j.nodes.length) (hp : ∀ m, m < k → bad1 j.nodes m = 0) {e : Int} (he : bad1 j.nodes k = e) (hne : e ≠ 0) : mayE j = ((k : Int), e) := by
  have hf : (List.range j.nodes.length).find? (fun i => bad1 j.nodes i != 0) = some k := by
    rw [List.find?_range_eq_some]
    refine ⟨by rw [he]; simp [hne], by simp [hk], fun m hm => by rw [hp m hm]; rfl⟩
  unfold mayE
  rw [if_neg (by rw [h0]; simp), hf]
  show ((k : Int), bad1 j.nodes k) = _
  rw [he]
theorem find1_none {j : Jb} (hp : ∀ m, m < j.nodes.length → bad1 j.nodes m = 0) : (List.range j.nodes.length).find? (fun i => bad1 j.nodes i != 0) = none := by
  rw [List.find?_range_eq_none]
  intro m hm; rw [hp m hm]; rfl
theorem mayE_shape {j : Jb} (h0 : headBad j = false) (h1 : ∀ m, m < j.nodes.length → bad1 j.nodes m = 0) {k : Nat} {d : JN} (hd : j.nodes[k]? = some d) (hp : ∀ m e, m < k → j.nodes[m]? = some e → shapeBad j.nodes m e = false) (hs : shapeBad j.nodes k d = true) : mayE j = ((k : Int), 122) := by
  have hk : k < j.nodes.length := (List.getElem?_eq_some_iff.1 hd).1
  have hf : (List.range j.nodes.length).find? (fun i => shapeBad j.nodes i (j.nodes.getD i default)) = some k := by
    rw [List.find?_range_eq_some]
    refine ⟨by rw [List.getD_eq_getElem?_getD, hd]; exact hs, by simp [hk], fun m hm => ?_⟩
    have hm' : m < j.nodes.length := by omega
    rw [List.getD_eq_getElem?_getD, List.getElem?_eq_getElem hm']
    show (!shapeBad j.nodes m j.nodes[m]) = true
    rw [hp m _ hm (List.getElem?_eq_getElem hm')]; rfl
  unfold mayE
  rw [if_neg (by rw [h0]; simp), find1_none h1, hf]
theorem mayE_ok {j : Jb} (h0 : headBad j = false) (h1 : ∀ m, m < j.nodes.length → bad1 j.nodes m = 0) (hp : ∀ m e, m < j.nodes.length → j.nodes[m]? = some e → shapeBad j.nodes m e = false) : mayE j = (0, 0) := by
  have hf : (List.range j.nodes.length).find? (fun i => shapeBad j.nodes i (j.nodes.getD i default)) = none := by
    rw [List.find?_range_eq_none]
    intro m hm
    rw [List.getD_eq_getElem?_getD, List.getElem?_eq_getElem hm]
    show (!shapeBad j.nodes m j.nodes[m]) = true
    rw [hp m _ hm (List.getElem?_eq_getElem hm)]; rfl
  unfold mayE
  rw [if_neg (by rw [h0]; simp), find1_none h1, hf]
theorem bad1_zero {nodes : List JN} {k : Nat} {d : JN} (hd : nodes[k]? = some d) : bad1 nodes k = 0 ↔ mayN k d = true ∧ uidBad nodes k d = false := by
  unfold bad1
  rw [List.getD_eq_getElem?_getD, hd]
  show (if mayN k d = false then (120 : Int) else if uidBad nodes k d = true then 121 else 0) = 0 ↔ _
  cases mayN k d <;> cases uidBad nodes k d <;> simp
theorem bad1_may {nodes : List JN} {k : Nat} {d : JN} (hd : nodes[k]? = some d) (h : mayN k d = false) : bad1 nodes k = 120 := by
  unfold bad1
  rw [List.getD_eq_getElem?_getD, hd]
  show (if mayN k d = false then (120 : Int) else if uidBad nodes k d = true then 121 else 0) = _
  rw [if_pos h]
theorem bad1_uid {nodes : List JN} {k : Nat} {d : JN} (hd : nodes[k]? = some d) (h : mayN k d = true) (h2 : uidBad nodes k d = true) : bad1 nodes k = 121 := by
  unfold bad1
  rw [List.getD_eq_getElem?_getD, hd]
  show (if mayN k d = false then (120 : Int) else if uidBad nodes k d = true then 121 else 0) = _
  rw [if_neg (by rw [h]; simp), if_pos h2]
theorem jobOk_mayE (j : Jb) : jobOk j = decide ((mayE j).2 = 0) := by
  have := @find1_none j
  cases h0 : headBad j with
  | true =>
    rw [mayE_head h0]
    unfold jobOk; rw [h0]; rfl
  | false =>
    cases h : jobOk j with
    | true =>
      obtain ⟨_, h2⟩ := jobOk_get h
      rw [mayE_ok h0 (fun m hm => (bad1_zero (List.getElem?_eq_getElem hm)).2 ⟨(h2 m _ (List.getElem?_eq_getElem hm)).1, (h2 m _ (List.getElem?_eq_getElem hm)).2.1⟩) (fun m e _ he => (h2 m e he).2.2)]
      rfl
    | false =>
      refine (decide_eq_false fun hz => ?_).symm
      have : jobOk j = true := by
        have h1 : ∀ m, m < j.nodes.length → bad1 j.nodes m = 0 := by
          intro m hm
          cases hf : (List.range j.nodes.length).find? (fun i => bad1 j.nodes i != 0) with
          | none =>
            rw [List.find?_range_eq_none] at hf
            simpa using hf m hm
          | some i =>
            unfold mayE at hz
            rw [if_neg (by rw [h0]; simp), hf] at hz
            have := List.find?_some hf
            rw [show bad1 j.nodes i = 0 from hz] at this
            cases this
        refine jobOk_mk h0 fun i d hd => ?_
        have hi : i < j.nodes.length := (List.getElem?_eq_some_iff.1 hd).1
        have h3 := (bad1_zero hd).1 (h1 i hi)
        refine ⟨h3.1, h3.2, ?_⟩
        cases hf : (List.range j.nodes.length).find? (fun i => shapeBad j.nodes i (j.nodes.getD i default)) with
        | none =>
          rw [List.find?_range_eq_none] at hf
          have := hf i hi
          rw [List.getD_eq_getElem?_getD, hd] at this
          simpa using this
        | some i =>
          unfold mayE at hz
          rw [if_neg (by rw [h0]; simp), find1_none h1, hf] at hz
          cases hz
      rw [h] at this; cases this
/-- What a node that may be reads. -/
theorem mayN_ins {k : Nat} {d : JN} (h1 : mayN k d = true) : d.ins.length ≤ 3 ∧ ∀ x ∈ d.ins, 0 ≤ x ∧ x < (k : Int) := by
  unfold mayN mayP at h1
  split at h1
  · cases h1
  split at h1
  · cases h1
  rename_i hb
  have hgood : goodIns d.ins k = true := by
    cases e : goodIns d.ins k with
    | true => rfl
    | false => exact absurd (.inr (.inr e)) hb
  have b2 : d.ins.length ≤ jMost d.kind := Nat.le_of_not_lt fun h => hb (.inr (.inl h))
  unfold goodIns at hgood
  rw [Bool.and_eq_true, List.all_eq_true, decide_eq_true_eq] at hgood
  refine ⟨?_, fun x hx => by simpa using hgood.2 x hx⟩
  have : jMost d.kind ≤ 3 := by unfold jMost; split; omega; split <;> omega
  omega
def sumK (W ins : List Int) (m : Nat) : Int := ((ins.take m).map fun k => W.getD k.toNat 0).sum
theorem sumK_succ {W ins : List Int} {m : Nat} {x : Int} (h : ins[m]? = some x) : sumK W ins (m + 1) = sumK W ins m + W.getD x.toNat 0 := by
  unfold sumK
  rw [List.take_add_one, h]
  simp
theorem getD_bound {W : List Int} (h : ∀ x ∈ W, 0 ≤ x ∧ x ≤ 64) (i : Nat) : 0 ≤ W.getD i 0 ∧ W.getD i 0 ≤ 64 := by
  rw [List.getD_eq_getElem?_getD]
  cases e : W[i]? with
  | none => simp
  | some x => exact h x (List.mem_of_getElem? e)
theorem sumK_bound {W ins : List Int} (h : ∀ x ∈ W, 0 ≤ x ∧ x ≤ 64) : ∀ m, 0 ≤ sumK W ins m ∧ sumK W ins m ≤ 64 * (m : Int)
  | 0 => by simp [sumK]
  | m + 1 => by
    have ih := sumK_bound (ins := ins) h m
    cases e : ins[m]? with
    | none =>
      have : sumK W ins (m + 1) = sumK W ins m := by unfold sumK; rw [List.take_add_one, e]; simp
      rw [this]; omega
    | some x =>
      have := getD_bound h x.toNat
      rw [sumK_succ e]; omega
theorem wayOf_sum (W : List Int) (d : JN) : wayOf W d = if d.kind = 1 then 1 else sumK W d.ins d.ins.length * (if d.kind = 4 then 4 else 1) := by
  unfold wayOf sumK; rw [List.take_length]
theorem row_ne {w : World} {base n B T E : Nat} {v : Value} {xs : List Value} {cs : Array Value} {f : Nat × Nat} (h : w.ownsRow base E 1 v n xs) (hB : w.heap[B]? = some (.cells cs T f)) (hTE : T ≠ E) : v.ownBlock ≠ some B := by
  intro e
  rcases h.2 with ⟨e1, _⟩ | ⟨g, cap, cur, e1, _, hg, _⟩
  · rw [e1] at e; cases e
  · rw [e1] at e
    have : g = B := by simpa [Value.ownBlock] using e
    subst this
    rw [hg] at hB
    injection hB with hB
    injection hB with _ h2 _
    exact hTE h2.symm
/-- One more behind a row of the call's own: only the row's own block turns. -/
theorem push_own {T E bytes : Nat} {z x : Value} {i : TypeInfo} (hT : Tryz.prog.underlying T = some (.slice E)) (hi : Tryz.prog.info? E = some i) (hz : i.zero = some z) (hs : i.size = 1) (hb : i.bytes = bytes) (hzc : z.cells.size = 1) (hx : x.oneCell' = true)
    {wr : World} {base m : Nat} {v : Value} {xs : List Value} (hown : wr.ownsRow base E 1 v m xs) (hm : m ≤ 100000) (hbb : bytes ≤ 1000) (hbase : base ≤ wr.heap.size) (ty : TypeId) :
    ∃ g cap w', (Builtin.append_ #[T, T] ty #[v, .slice (some ⟨wr.heap.size, 0, none⟩) 1 1]).run Tryz.prog (wr.alloc (.cells #[x] E)) = .ok (.slice (some ⟨g, 0, none⟩) (m + 1) cap) w' ∧ w'.ownsRow base E 1 (.slice (some ⟨g, 0, none⟩) (m + 1) cap) (m + 1) (xs ++ [x]) ∧ Kept (fun k => v.ownBlock = some k) wr w' := by
  have kA : Kept none' wr (wr.alloc (.cells #[x] E)) := (Kept.refl _ _).alloc _
  have hr := Reads.lit wr [x] E 1 1 rfl (by unfold maxLen; omega)
  obtain ⟨v', n', w', b1, b2, b3, b4, _⟩ := run_append_reads (P := Tryz.prog) base T ty E i z 1 bytes hT hi hz hs hb hzc (by omega) (kA.owns hown (fun _ _ h => h)) hr (by intro y hy; rw [List.mem_singleton.1 hy]; exact hx)
    (by
      simp only [List.length_singleton, Nat.mul_one]
      calc (m + 1) * bytes ≤ 100001 * 1000 := Nat.mul_le_mul (by omega) hbb
        _ ≤ 140737488355328 := by decide) (by simp; unfold maxLen; omega) (by have := kA.size; omega)
  have hn : n' = m + 1 := by simpa using b3
  subst hn
  have hg : ∃ g cap, v' = .slice (some ⟨g, 0, none⟩) (m + 1) cap := by
    rcases b2.2 with ⟨e1, _⟩ | ⟨g, cap, cur, e1, _⟩
    · have := b2.1
      have h2 := b2.2
      rcases h2 with ⟨_, e2⟩ | ⟨g, cap, cur, e1', _⟩
      · omega
      · rw [e1] at e1'; cases e1'
    · exact ⟨g, cap, e1⟩
  obtain ⟨g, cap, rfl⟩ := hg
  exact ⟨g, cap, w', b1, b2, kA.pure.trans (Kept.grown b4 (fun k hk _ => hk))⟩
end Go.Proofs.YtglbkodmmogomaaGreatDoor
