/-
  OperParted (plain): records parted by their keys, with the tables parted likewise, come merged to the same.
-/
import Derived.Test.YtaalpijohdlabaaPrw
import Derived.Test.YtaalpijohdlabaaOpeA
import Derived.Test.YtaalpijohdlabaaOpr
namespace Go.Proofs.Ytaalpijohdlabaa
open Go Go.RowKit
section
variable {f : Int → Bool} (hf : ∀ a b, grp a = grp b → f a = f b)
theorem tget_part {T : Tab} (hT : Rises T) {k : Int} (h : f k = true) : tget (T.filter fun p => f p.1) k = tget T k := by
  have hs : Rises (T.filter fun p => f p.1) := hT.sublist List.filter_sublist
  cases hg : tget T k with
  | some c => rw [tget_some hs]; exact List.mem_filter.2 ⟨(tget_some hT).1 hg, h⟩
  | none =>
    rw [tget_none] at hg ⊢
    intro hm
    obtain ⟨p, hp, e⟩ := List.mem_map.1 hm
    exact hg (List.mem_map.2 ⟨p, (List.mem_filter.1 hp).1, e⟩)
include hf in
theorem tmany_part {T : Tab} {k : Int} (h : f k = true) : tmany (T.filter fun p => f p.1) (grp k) = tmany T (grp k) := by
  unfold tmany
  rw [List.countP_filter]
  refine List.countP_congr fun p _ => ?_
  simp only [Bool.and_eq_true, beq_iff_eq]
  exact ⟨fun h => h.1, fun e => ⟨e, by rw [hf p.1 k e]; exact h⟩⟩
theorem tput_part {T : Tab} (hT : Rises T) {k : Int} (c : Cell) (h : f k = true) : tput k c (T.filter fun p => f p.1) = (tput k c T).filter fun p => f p.1 := by
  have hs : Rises (T.filter fun p => f p.1) := hT.sublist List.filter_sublist
  refine Rises.ext hs.tput (hT.tput.sublist List.filter_sublist) fun p => ?_
  rw [mem_tput hs, List.mem_filter, List.mem_filter, mem_tput hT]
  constructor
  · rintro (rfl | ⟨⟨h1, h2⟩, h3⟩)
    · exact ⟨.inl rfl, h⟩
    · exact ⟨.inr ⟨h1, h3⟩, h2⟩
  · rintro ⟨rfl | ⟨h1, h3⟩, h2⟩
    · exact .inl rfl
    · exact .inr ⟨⟨h1, h2⟩, h3⟩
theorem tput_out {T : Tab} (hT : Rises T) {k : Int} (c : Cell) (h : f k = false) : (tput k c T).filter (fun p => f p.1) = T.filter fun p => f p.1 := by
  refine Rises.ext (hT.tput.sublist List.filter_sublist) (hT.sublist List.filter_sublist) fun p => ?_
  rw [List.mem_filter, List.mem_filter, mem_tput hT]
  constructor
  · rintro ⟨rfl | ⟨h1, _⟩, h2⟩
    · rw [h] at h2; cases h2
    · exact ⟨h1, h2⟩
  · rintro ⟨h1, h2⟩
    exact ⟨.inr ⟨h1, fun e => by rw [e, h] at h2; cases h2⟩, h2⟩
theorem tdrop_part (T : Tab) (k : Int) : tdrop k (T.filter fun p => f p.1) = (tdrop k T).filter fun p => f p.1 := by
  unfold tdrop
  rw [List.filter_filter, List.filter_filter]
  exact List.filter_congr fun p _ => Bool.and_comm _ _
theorem tdrop_out (T : Tab) {k : Int} (h : f k = false) : (tdrop k T).filter (fun p => f p.1) = T.filter fun p => f p.1 := by
  unfold tdrop
  rw [List.filter_filter]
  refine List.filter_congr fun p _ => ?_
  by_cases e : k = p.1
  · rw [← e, h]; rfl
  · rw [show (k != p.1) = true from bne_iff_ne.2 e, Bool.and_true]
include hf in
theorem putE_part {T : Tab} (hT : Rises T) {k : Int} (n : Nat) (h : f k = true) : putE (T.filter fun p => f p.1) k n = putE T k n := by
  unfold putE
  rw [tget_part hT h, tmany_part hf h]
include hf in
theorem putT_part {T : Tab} (hT : Rises T) {k : Int} (c : Cell) (h : f k = true) : putT (T.filter fun p => f p.1) k c = (putT T k c).filter fun p => f p.1 := by
  unfold putT
  rw [putE_part hf hT _ h]
  split
  · exact tput_part hT c h
  · rfl
theorem putT_out {T : Tab} (hT : Rises T) {k : Int} (c : Cell) (h : f k = false) : (putT T k c).filter (fun p => f p.1) = T.filter fun p => f p.1 := by
  unfold putT
  split
  · exact tput_out hT c h
  · rfl
theorem cellOf_part {T : Tab} (hT : Rises T) {k : Int} (h : f k = true) : cellOf (T.filter fun p => f p.1) k = cellOf T k := by
  unfold cellOf
  rw [tget_part hT h]
theorem Rises.putT {T : Tab} (hT : Rises T) (k : Int) (c : Cell) : Rises (putT T k c) := by
  unfold Go.Proofs.Ytaalpijohdlabaa.putT
  split
  · exact hT.tput
  · exact hT
theorem Rises.step {T : Tab} (hT : Rises T) (nd : Nod) (r : Rec) : Rises (stepNode nd T r).2 := by
  unfold stepNode
  repeat' split
  all_goals first | exact hT | exact hT.putT _ _ | exact (hT.putT _ _).tdrop
include hf in
theorem step_part {T : Tab} (hT : Rises T) (nd : Nod) (r : Rec) (h : f r.key = true) : stepNode nd (T.filter fun p => f p.1) r = ((stepNode nd T r).1, (stepNode nd T r).2.filter fun p => f p.1) := by
  unfold stepNode
  rw [putE_part hf hT _ h, putE_part hf hT _ h, cellOf_part hT h, putT_part hf hT _ h, putT_part hf hT _ h, tdrop_part]
  repeat' split
  all_goals rfl
theorem step_out {T : Tab} (hT : Rises T) (nd : Nod) (r : Rec) (h : f r.key = false) : (stepNode nd T r).2.filter (fun p => f p.1) = T.filter fun p => f p.1 := by
  unfold stepNode
  repeat' split
  all_goals first | rfl | exact putT_out hT _ h | exact (tdrop_out _ h).trans (putT_out hT _ h)
/-- Each record with what it came to. -/
def runL (nd : Nod) : Tab → List Rec → List (Rec × List Rec)
  | _, [] => []
  | T, r :: l => (r, (stepNode nd T r).1) :: runL nd (stepNode nd T r).2 l
theorem runL_out (nd : Nod) : ∀ (L : List Rec) (T : Tab), (doNode nd T L).1 = (runL nd T L).flatMap (·.2)
  | [], _ => rfl
  | r :: l, T => by simp only [doNode, runL, List.flatMap_cons, runL_out nd l]
theorem runL_keys (nd : Nod) : ∀ (L : List Rec) (T : Tab), (runL nd T L).map (·.1) = L
  | [], _ => rfl
  | r :: l, T => by simp only [runL, List.map_cons, runL_keys nd l]
include hf in
theorem run_part (nd : Nod) : ∀ (L : List Rec) (T : Tab), Rises T →
    runL nd (T.filter fun p => f p.1) (L.filter fun r => f r.key) = (runL nd T L).filter (fun x => f x.1.key) ∧ (doNode nd (T.filter fun p => f p.1) (L.filter fun r => f r.key)).2 = (doNode nd T L).2.filter fun p => f p.1
  | [], _, _ => ⟨rfl, rfl⟩
  | r :: l, T, hT => by
    obtain ⟨i1, i2⟩ := run_part nd l (stepNode nd T r).2 (hT.step nd r)
    cases h : f r.key with
    | true =>
      rw [List.filter_cons, if_pos h]
      simp only [runL, doNode]
      rw [step_part hf hT nd r h, List.filter_cons, if_pos h, i1, i2]
      exact ⟨rfl, rfl⟩
    | false =>
      rw [List.filter_cons, if_neg (by rw [h]; decide)]
      simp only [runL, doNode]
      rw [List.filter_cons, if_neg (by rw [h]; decide), ← i1, ← i2, step_out hT nd r h]
      exact ⟨rfl, rfl⟩
end

/-! ### Places -/
def Apart (X : List (Rec × List Rec)) : Prop := X.Pairwise fun x y => ∀ a ∈ x.2, ∀ b ∈ y.2, a.pos ≠ b.pos
def flatS (X : List (Rec × List Rec)) : List Rec := X.flatMap (·.2)
theorem same_split (f : Rec × List Rec → Bool) : ∀ {X : List (Rec × List Rec)}, Apart X → Same (flatS X) (flatS (X.filter f) ++ flatS (X.filter fun x => !f x))
  | [], _ => Same.refl _
  | x :: X, h => by
    obtain ⟨h1, h2⟩ := List.pairwise_cons.1 h
    have ih := same_split f h2
    cases hx : f x with
    | true =>
      rw [List.filter_cons, if_pos hx, List.filter_cons, if_neg (by rw [hx]; decide)]
      show Same (x.2 ++ flatS X) (x.2 ++ flatS (X.filter f) ++ flatS (X.filter fun x => !f x))
      rw [List.append_assoc]
      exact (Same.refl _).append ih
    | false =>
      rw [List.filter_cons, if_neg (by rw [hx]; decide), List.filter_cons, if_pos (by rw [hx]; rfl)]
      show Same (x.2 ++ flatS X) (flatS (X.filter f) ++ (x.2 ++ flatS (X.filter fun x => !f x)))
      refine ((Same.refl x.2).append ih).trans ?_
      rw [← List.append_assoc, ← List.append_assoc]
      refine (Same.comm fun a ha b hb => ?_).append (Same.refl _)
      obtain ⟨y, hy, hby⟩ := List.mem_flatMap.1 hb
      exact h1 y (List.mem_filter.1 hy).1 a ha b hby
theorem same_parts (g : Rec × List Rec → Nat) : ∀ (n : Nat) {X : List (Rec × List Rec)}, Apart X → (∀ x ∈ X, g x < n) → Same (flatS X) ((List.range n).flatMap fun k => flatS (X.filter fun x => decide (g x = k)))
  | 0, X, _, hg => by
    cases X with
    | nil => exact Same.refl _
    | cons x X => exact absurd (hg x (by simp)) (by omega)
  | n + 1, X, hX, hg => by
    have h1 := same_split (fun x => decide (g x < n)) hX
    have ih := same_parts g n (X := X.filter fun x => decide (g x < n)) (hX.sublist List.filter_sublist) (fun x hx => of_decide_eq_true (List.mem_filter.1 hx).2)
    rw [List.range_succ, List.flatMap_append, List.flatMap_cons, List.flatMap_nil, List.append_nil]
    refine h1.trans (Same.append (ih.trans ?_) ?_)
    · have e : ((List.range n).flatMap fun k => flatS ((X.filter fun x => decide (g x < n)).filter fun x => decide (g x = k))) = ((List.range n).flatMap fun k => flatS (X.filter fun x => decide (g x = k))) := by
        rw [List.flatMap_def, List.flatMap_def]
        congr 1
        refine List.map_congr_left fun k hk => ?_
        rw [List.filter_filter]
        congr 1
        refine List.filter_congr fun x _ => ?_
        have := List.mem_range.1 hk
        rw [Bool.eq_iff_iff, Bool.and_eq_true]
        simp only [decide_eq_true_eq]
        omega
      rw [e]; exact Same.refl _
    · have e : (X.filter fun x => !decide (g x < n)) = X.filter fun x => decide (g x = n) := by
        refine List.filter_congr fun x hx => ?_
        have := hg x hx
        rw [Bool.eq_iff_iff]
        simp only [Bool.not_eq_true', decide_eq_false_iff_not, decide_eq_true_eq]
        omega
      rw [e]; exact Same.refl _
def SmallPos (L : List Rec) : Prop := ∀ r ∈ L, 0 ≤ r.pos ∧ r.pos ≤ 1099511627776
theorem step_near (nd : Nod) (T : Tab) (r : Rec) (h : 0 ≤ r.pos ∧ r.pos ≤ 1099511627776) : ∀ a ∈ (stepNode nd T r).1, (nd.kind = 4 ∧ 8 * r.pos ≤ a.pos ∧ a.pos < 8 * r.pos + 4) ∨ (nd.kind ≠ 4 ∧ a.pos = r.pos) := by
  intro a ha
  unfold stepNode at ha
  by_cases h2 : nd.kind = 2
  · rw [if_pos h2] at ha; simp at ha; subst ha; exact .inr ⟨by omega, rfl⟩
  rw [if_neg h2] at ha
  by_cases h5 : nd.kind = 5
  · rw [if_pos h5] at ha; simp at ha; subst ha; exact .inr ⟨by omega, rfl⟩
  rw [if_neg h5] at ha
  by_cases h3 : nd.kind = 3
  · rw [if_pos h3] at ha
    split at ha
    · simp at ha; subst ha; exact .inr ⟨by omega, rfl⟩
    · cases ha
  rw [if_neg h3] at ha
  by_cases h4 : nd.kind = 4
  · rw [if_pos h4] at ha
    left
    unfold flatL at ha
    obtain ⟨i, hi, rfl⟩ := List.mem_map.1 ha
    have h1 := List.mem_range.1 hi
    have h6 : flatN (exInt nd.x (envOf r)) ≤ 4 := by unfold flatN; omega
    refine ⟨h4, ?_⟩
    simp only
    rw [IntWalk.wrap64_in (8 * r.pos) (by omega), IntWalk.wrap64_in _ (by omega)]
    omega
  rw [if_neg h4] at ha
  right
  refine ⟨h4, ?_⟩
  by_cases h6 : nd.kind = 6
  · rw [if_pos h6] at ha
    split at ha
    · simp at ha; subst ha; rfl
    · cases ha
  rw [if_neg h6] at ha
  by_cases h7 : nd.kind = 7
  · rw [if_pos h7] at ha
    split at ha
    · cases ha
    · simp at ha; subst ha; rfl
  rw [if_neg h7] at ha
  simp at ha; subst ha; rfl
theorem run_near (nd : Nod) : ∀ (L : List Rec) (T : Tab), SmallPos L → ∀ x ∈ runL nd T L, x.1 ∈ L ∧ ∀ a ∈ x.2, (nd.kind = 4 ∧ 8 * x.1.pos ≤ a.pos ∧ a.pos < 8 * x.1.pos + 4) ∨ (nd.kind ≠ 4 ∧ a.pos = x.1.pos)
  | [], _, _, _, hx => by cases hx
  | r :: l, T, h, x, hx => by
    rcases List.mem_cons.1 hx with rfl | hx
    · exact ⟨by simp, step_near nd T r (h r (by simp))⟩
    · obtain ⟨h1, h2⟩ := run_near nd l _ (fun q hq => h q (by simp [hq])) x hx
      exact ⟨by simp [h1], h2⟩
theorem run_apart (nd : Nod) : ∀ (L : List Rec) (T : Tab), SmallPos L → (L.Pairwise fun a b => a.pos < b.pos) → Apart (runL nd T L)
  | [], _, _, _ => List.Pairwise.nil
  | r :: l, T, h, hp => by
    obtain ⟨p1, p2⟩ := List.pairwise_cons.1 hp
    have hl : SmallPos l := fun q hq => h q (by simp [hq])
    refine List.pairwise_cons.2 ⟨fun y hy a ha b hb e => ?_, run_apart nd l _ hl p2⟩
    obtain ⟨h1, h2⟩ := run_near nd l _ hl y hy
    have hlt := p1 y.1 h1
    rcases step_near nd T r (h r (by simp)) a ha with ⟨_, a1, a2⟩ | ⟨k1, a1⟩ <;> rcases h2 b hb with ⟨_, b1, b2⟩ | ⟨k2, b1⟩ <;> omega
/-- The parts' rows. -/
def rowsP (nd : Nod) (T : Tab) (L : List Rec) (n j : Nat) : List (List Rec) := (List.range j).map fun k => (doNode nd (tabOf T (ownsL k n 8)) (L.filter fun r => decide (plK n r.key = k))).1
theorem plK_grp (n k : Nat) (a b : Int) (h : grp a = grp b) : decide (plK n a = k) = decide (plK n b = k) := by unfold plK; rw [h]
theorem parted_tab (nd : Nod) {T : Tab} (hT : Rises T) (L : List Rec) (n k : Nat) : (doNode nd (tabOf T (ownsL k n 8)) (L.filter fun r => decide (plK n r.key = k))).2 = tabOf (doNode nd T L).2 (ownsL k n 8) := by
  rw [tabOf_owns, tabOf_owns]
  exact (run_part (f := fun x => decide (plK n x = k)) (plK_grp n k) nd L T hT).2
theorem parted_rows (nd : Nod) {T : Tab} (hT : Rises T) {L : List Rec} (hs : SmallPos L) (hp : L.Pairwise fun a b => a.pos < b.pos) {n : Nat} (hn : 1 ≤ n) : smerge (rowsP nd T L n n).flatten = smerge (doNode nd T L).1 := by
  have h1 := same_parts (fun x => plK n x.1.key) n (run_apart nd L T hs hp) (fun x _ => plK_lt _ hn)
  have h2 : (rowsP nd T L n n).flatten = (List.range n).flatMap fun k => flatS ((runL nd T L).filter fun x => decide (plK n x.1.key = k)) := by
    unfold rowsP
    rw [List.flatMap_def]
    congr 1
    refine List.map_congr_left fun k _ => ?_
    rw [tabOf_owns, runL_out, (run_part (f := fun x => decide (plK n x = k)) (plK_grp n k) nd L T hT).1]
    rfl
  rw [h2]
  refine (smerge_unique (smerge_sorted _) ?_).symm
  refine Same.trans ?_ (smerge_same _)
  rw [runL_out]
  exact h1.symm
theorem rowsP_succ (nd : Nod) (T : Tab) (L : List Rec) (n j : Nat) : rowsP nd T L n (j + 1) = rowsP nd T L n j ++ [(doNode nd (tabOf T (ownsL j n 8)) (L.filter fun r => decide (plK n r.key = j))).1] := by
  unfold rowsP; rw [List.range_succ, List.map_append]; rfl
end Go.Proofs.Ytaalpijohdlabaa
/-
  OperParted: rows of records that grow, beside tables that turn.
-/
namespace Go.Proofs.Ytaalpijohdlabaa
open Go Go.RowKit
theorem owns_kept_map {w w' : World} {base e size n m : Nat} {v : Value} {xs : List Value} {l : List (Int × Value)} (h : w.ownsRow base e size v n xs) (hk : Kept (one m) w w') (hm : MapL w m l) : w'.ownsRow base e size v n xs :=
  hk.owns h (fun k hv hs => by
    rcases h.2 with ⟨rfl, _⟩ | ⟨g, cap, cur, rfl, h1, h2, _⟩
    · cases hv
    · cases hv
      obtain ⟨L, cl, hL, _⟩ := hm
      rw [show g = m from hs, hL.heap] at h2
      cases h2)
theorem Try.info42c : ∃ i, Try.prog.info? 42 = some i ∧ i.zero = some (.slice none 0 0) ∧ i.size = 1 ∧ i.bytes = 24 := by
  have h : (Try.prog.info? 42).map (fun i => (i.zero, i.size, i.bytes)) = some (some (.slice none 0 0), 1, 24) := by kernel_rfl
  obtain ⟨i, h1, h2, h3, h4⟩ := info_parts h
  exact ⟨i, h1, h2, h3, h4⟩
/-- A record more. -/
theorem rap46 {w : World} {base n : Nat} {v u : Value} {cs ds : List Value} (hown : w.ownsRow base 46 3 v n cs) (hr : Reads w 3 u ds) (h1 : ∀ x ∈ ds, x.oneCell' = true) (hb : base ≤ w.heap.size) (hlen : cs.length + ds.length ≤ 1000000) :
    ∃ v' n' w', (Builtin.append_ #[42, 42] 42 #[v, u]).run Try.prog w = .ok v' w' ∧ w'.ownsRow base 46 3 v' n' (cs ++ ds) ∧ w.grownBy w' v.ownBlock := by
  obtain ⟨i, z, hi, hz, hs, hby, hzs⟩ := Try.info46
  have hn := hown.1
  obtain ⟨v', n', w', g1, g2, g3, g4, g5⟩ := run_append_reads (P := Try.prog) base 42 42 46 i z 3 24 Try.underlying42 hi hz hs hby hzs (by omega) hown hr h1 (by omega) (by unfold maxLen; omega) hb
  exact ⟨v', n', w', g1, g2, g4⟩
theorem und57 : Try.prog.underlying 57 = some (.slice 42) := by kernel_rfl
/-- A row more; where the rows stand now. -/
theorem rap42 {w : World} {base n : Nat} {v u : Value} {vs : List Value} (hown : w.ownsRow base 42 1 v n vs) (hu : u.oneCell' = true) (hb : base ≤ w.heap.size) (hlen : vs.length ≤ 1000000) :
    ∃ v' n' w', (Builtin.append_ #[57, 57] 57 #[v, .slice (some ⟨w.heap.size, 0, none⟩) 1 1]).run Try.prog (w.alloc (.cells #[u] 42)) = .ok v' w' ∧ w'.ownsRow base 42 1 v' n' (vs ++ [u]) ∧ (w.alloc (.cells #[u] 42)).grownBy w' v.ownBlock ∧ ∀ k, v'.ownBlock = some k → v.ownBlock = some k ∨ k = w.heap.size + 1 := by
  obtain ⟨i, hi, hz, hs, hby⟩ := Try.info42c
  have hn := hown.1
  have kA : Kept none' w (w.alloc (.cells #[u] 42)) := (Kept.refl _ _).alloc _
  have ho := kA.owns hown (fun _ _ h => h)
  obtain ⟨v', n', w', g1, g2, g3, g4, g5⟩ := run_append_reads (P := Try.prog) base 57 57 42 i (.slice none 0 0) 1 24 und57 hi hz hs hby rfl (by omega) ho (Reads.lit w [u] 42 1 1 rfl (by unfold maxLen; omega)) (by intro x hx; cases List.mem_singleton.1 hx; exact hu) (by simp only [List.length_cons, List.length_nil]; omega) (by unfold maxLen; simp only [List.length_cons, List.length_nil]; omega) (Nat.le_trans hb kA.size)
  refine ⟨v', n', w', g1, g2, g4, fun k hk => ?_⟩
  have := append_where (P := Try.prog) base 57 57 42 i (.slice none 0 0) 1 24 und57 hi hz hs hby v n vs ho ⟨w.heap.size, 0, none⟩ 1 1 [u] rfl (fun j x hj => by
    cases j with
    | zero => simp at hj; subst hj; rw [Addr.add_zero']; simp
    | succ j => simp at hj) (by intro x hx; cases List.mem_singleton.1 hx; exact hu) (by omega) (by unfold maxLen; omega) (by omega) g1 k hk
  rcases this with h | h
  · exact .inl h
  · right; rw [h]; simp
structure PaInv (W6 wr : World) (nd : Nod) (T0 T1 : Tab) (M : List Rec) (n ba mA j : Nat) (vr : Value) (nr : Nat) (vs : List Value) : Prop where
  rows : wr.ownsRow W6.heap.size 42 1 vr nr vs
  len : vs.length = j
  rd : ∀ (i : Nat) (u : Value) (X : List Rec), vs[i]? = some u → (rowsP nd T0 M n j)[i]? = some X → Reads wr 3 u (recs X)
  off : ∀ u ∈ vs, ∀ k, Value.blk u = some k → vr.ownBlock ≠ some k ∧ k < wr.heap.size
  all : TabAt wr (fun k => vr.ownBlock ≠ some k) ba mA (parts T1 n j)
  kept : Kept (one mA) W6 wr
theorem PaInv.pure {W6 wr w' : World} {nd : Nod} {T0 T1 : Tab} {M : List Rec} {n ba mA j nr : Nat} {vr : Value} {vs : List Value} (h : PaInv W6 wr nd T0 T1 M n ba mA j vr nr vs) (hk : Kept none' wr w') : PaInv W6 w' nd T0 T1 M n ba mA j vr nr vs :=
  ⟨hk.owns h.rows (fun _ _ h => h), h.len, fun i u X h1 h2 => (h.rd i u X h1 h2).pure hk, fun u hu k hb => ⟨(h.off u hu k hb).1, Nat.lt_of_lt_of_le (h.off u hu k hb).2 hk.size⟩, h.all.pure hk, h.kept.trans hk.pure⟩
/-- Another table turns. -/
theorem PaInv.other {W6 wr w' : World} {nd : Nod} {T0 T1 : Tab} {M : List Rec} {n ba mA j nr m : Nat} {vr : Value} {vs : List Value} {l : List (Int × Value)} (h : PaInv W6 wr nd T0 T1 M n ba mA j vr nr vs) (hk : Kept (one m) wr w') (hm : MapL wr m l) (hne : mA ≠ m) (hw : W6.heap.size ≤ m) : PaInv W6 w' nd T0 T1 M n ba mA j vr nr vs :=
  ⟨owns_kept_map h.rows hk hm, h.len, fun i u X h1 h2 => (h.rd i u X h1 h2).keptN hk (by omega) (.map hm _), fun u hu k hb => ⟨(h.off u hu k hb).1, Nat.lt_of_lt_of_le (h.off u hu k hb).2 hk.size⟩,
    h.all.kept hk (.map hm _) hne, h.kept.new hk (fun i hi e => by unfold one at e; omega)⟩
/-- A table that has none of the rows' block, when a row more comes. -/
theorem rows_tab {wr w7 : World} {u vr v7 : Value} {b m : Nat} {T : Tab} (h : TabAt wr (fun k => vr.ownBlock ≠ some k) b m T)
    (g4 : (wr.alloc (.cells #[u] 42)).grownBy w7 vr.ownBlock) (g5 : ∀ k, v7.ownBlock = some k → vr.ownBlock = some k ∨ k = wr.heap.size + 1) : TabAt w7 (fun k => v7.ownBlock ≠ some k) b m T := by
  have kA : Kept none' wr (wr.alloc (.cells #[u] 42)) := (Kept.refl _ _).alloc _
  have k7 : Kept (fun k => vr.ownBlock = some k) wr w7 := kA.pure.trans (Kept.grown g4 (fun k hk _ => hk))
  have t : TabAt wr (fun k => vr.ownBlock ≠ some k ∧ k < wr.heap.size) b m T := h.mono (fun k hk hl => ⟨hk, hl⟩)
  refine (t.kept k7 (fun k hs hB _ _ _ _ => (hB.1 hs).elim) (fun hs => t.hm.1 hs)).mono (fun k hk _ e => ?_)
  rcases g5 k e with h1 | h1
  · exact hk.1 h1
  · have := hk.2; omega
/-- One part more. -/
theorem PaInv.next {W6 wr w7 w8 : World} {nd : Nod} {T0 T1 : Tab} {M : List Rec} {n ba mA j nr n7 : Nat} {vr u v7 : Value} {vs : List Value} (h : PaInv W6 wr nd T0 T1 M n ba mA j vr nr vs) (hT : TOk T1)
    (hu : Reads wr 3 u (recs (doNode nd (tabOf T0 (ownsL j n 8)) (M.filter fun r => decide (plK n r.key = j))).1)) (hub : ∀ k, Value.blk u = some k → vr.ownBlock ≠ some k)
    (g2 : w7.ownsRow W6.heap.size 42 1 v7 n7 (vs ++ [u])) (g4 : (wr.alloc (.cells #[u] 42)).grownBy w7 vr.ownBlock) (g5 : ∀ k, v7.ownBlock = some k → vr.ownBlock = some k ∨ k = wr.heap.size + 1)
    (t8 : TabAt w8 (fun k => v7.ownBlock ≠ some k) ba mA (joinT (parts T1 n j) (tabOf T1 (ownsL j n 8)))) (k8 : Kept (one mA) w7 w8) : PaInv W6 w8 nd T0 T1 M n ba mA (j + 1) v7 n7 (vs ++ [u]) := by
  have kA : Kept none' wr (wr.alloc (.cells #[u] 42)) := (Kept.refl _ _).alloc _
  have k7 : Kept (fun k => vr.ownBlock = some k) wr w7 := kA.pure.trans (Kept.grown g4 (fun k hk _ => hk))
  have hml7 : ∃ l, MapL w7 mA l := by
    obtain ⟨l, hl, _⟩ := h.all.map
    refine ⟨l, hl.kept k7 (fun hs => ?_)⟩
    rcases h.rows.2 with ⟨rfl, _⟩ | ⟨g, cap, cur, rfl, h1, h2, _⟩
    · cases hs
    · cases hs
      obtain ⟨L, cl, hL, _⟩ := hl
      rw [hL.heap] at h2; cases h2
  obtain ⟨l7, hl7⟩ := hml7
  have hub2 : ∀ k, Value.blk u = some k → k < wr.heap.size := fun k hk => by
    obtain ⟨c, E, f, he⟩ := hu.isCells (by omega) hk
    exact (Array.getElem?_eq_some_iff.1 he).1
  have hsz : wr.heap.size + 1 ≤ w7.heap.size := by have := g4.size; simpa using this
  refine ⟨owns_kept_map g2 k8 hl7, by rw [List.length_append, h.len]; rfl, fun i x X hx hX => ?_, fun x hx k hk => ?_, ?_, (h.kept.new k7 (fun i hi hs => ?_)).trans k8⟩
  · refine Reads.keptN ?_ k8 (by omega) (.map hl7 _)
    rw [rowsP_succ] at hX
    have hrl : (rowsP nd T0 M n j).length = j := by unfold rowsP; simp
    by_cases hi : i < j
    · rw [List.getElem?_append_left (by rw [h.len]; exact hi)] at hx
      rw [List.getElem?_append_left (by rw [hrl]; exact hi)] at hX
      refine (h.rd i x X hx hX).kept k7 (fun b hb hs => ?_)
      exact (h.off x (List.mem_of_getElem? hx) b hb).1 hs
    · have hij : i = j := by
        have := (List.getElem?_eq_some_iff.1 hx).1
        rw [List.length_append, h.len, List.length_singleton] at this
        omega
      subst hij
      rw [List.getElem?_append_right (by rw [h.len]; exact Nat.le_refl _), h.len, Nat.sub_self] at hx
      rw [List.getElem?_append_right (by rw [hrl]; exact Nat.le_refl _), hrl, Nat.sub_self] at hX
      simp only [List.getElem?_cons_zero, Option.some.injEq] at hx hX
      subst hx hX
      exact hu.kept k7 (fun b hb hs => hub b hb hs)
  · have hlt : k < wr.heap.size ∧ vr.ownBlock ≠ some k := by
      rcases List.mem_append.1 hx with hx | hx
      · exact ⟨(h.off x hx k hk).2, (h.off x hx k hk).1⟩
      · cases List.mem_singleton.1 hx; exact ⟨hub2 k hk, hub k hk⟩
    refine ⟨fun e => ?_, by have := k8.size; omega⟩
    rcases g5 k e with h1 | h1
    · exact hlt.2 h1
    · omega
  · rw [← (parts_next hT n j).2]; exact t8
  · exact absurd hi (by
      have := (owns_own h.rows hs).1
      omega)
end Go.Proofs.Ytaalpijohdlabaa
/-
  OperParted: its walk.
-/
namespace Go.Proofs.Ytaalpijohdlabaa
open Go Go.RowKit
attribute [local irreducible] wpL
theorem rise_snoc {L : List Rec} {j : Nat} {r : Rec} (hj : L[j]? = some r) (hs : Sorted L) (h1 : (L.take j).Pairwise fun a b => a.pos < b.pos) (h2 : ∀ q, j ≠ 0 → L[j - 1]? = some q → q.pos ≠ r.pos) : (L.take (j + 1)).Pairwise fun a b => a.pos < b.pos := by
  rw [List.take_add_one, hj]
  simp only [Option.toList_some]
  rw [List.pairwise_append]
  refine ⟨h1, by simp, fun a ha b hb => ?_⟩
  cases List.mem_singleton.1 hb
  by_cases hz : j = 0
  · subst hz; simp at ha
  · have hjl := (List.getElem?_eq_some_iff.1 hj).1
    obtain ⟨q, hq⟩ : ∃ q, L[j - 1]? = some q := ⟨_, List.getElem?_eq_getElem (by omega)⟩
    have hqr : q.pos < r.pos := by
      have e1 : j - 1 + 1 = j := by omega
      have h3 := sorted_at hs hq (by rw [e1]; exact hj)
      have := h2 q hz hq
      omega
    have hle : a.pos ≤ q.pos := by
      obtain ⟨i, hi, rfl⟩ := List.mem_iff_getElem.1 ha
      rw [List.length_take] at hi
      rw [List.getElem_take]
      obtain ⟨hq1, rfl⟩ := List.getElem?_eq_some_iff.1 hq
      by_cases e : i = j - 1
      · subst e; exact Int.le_refl _
      · exact List.pairwise_iff_getElem.1 hs i (j - 1) (by omega) (by omega) (by omega)
    omega
theorem small_snoc {L : List Rec} {j : Nat} {r : Rec} (hj : L[j]? = some r) (h1 : SmallPos (L.take j)) (h2 : 0 ≤ r.pos ∧ r.pos ≤ 1099511627776) : SmallPos (L.take (j + 1)) := by
  intro q hq
  rw [List.take_add_one, hj] at hq
  rcases List.mem_append.1 hq with hq | hq
  · exact h1 q hq
  · simp at hq; subst hq; exact h2
theorem rowsP_len (nd : Nod) (T : Tab) (M : List Rec) (n : Nat) : ∀ j, (rowsP nd T M n j).flatten.length ≤ j * (4 * M.length)
  | 0 => by simp [rowsP]
  | j + 1 => by
    have ih := rowsP_len nd T M n j
    have h1 := doNode_len nd (M.filter fun r => decide (plK n r.key = j)) (tabOf T (ownsL j n 8))
    have h2 := List.length_filter_le (fun r : Rec => decide (plK n r.key = j)) M
    rw [rowsP_succ, List.flatten_append, List.length_append, Nat.add_mul, Nat.one_mul]
    simp only [List.flatten_cons, List.flatten_nil, List.append_nil]
    omega
set_option maxRecDepth 100000 in
set_option maxHeartbeats 8000000 in
theorem parted_walk (na : Array Value) (nd : Nod) (vo v : Value) (ops : List Op) (L : List Rec) (par : Int) (w : World) (hn : NodAt w na nd) (ho : OpsAt w vo ops) (hr : Reads w 3 v (recs L)) (hok : ∀ r ∈ L, RecOk r) (hsz : L.length ≤ 5864062014805) :
    Calls Try.prog 14 #[.agg na, vo, v, .int .i64 par] w (Gives w (.bool true)) := by
  have HN := Lib.hid hn
  have HO := Lib.hid ho
  have HR := Lib.hid hr
  have HOK := Lib.hid hok
  obtain ⟨uid, inv, p, cap, rfl, hx, hk0, hk1, hn64⟩ := hn
  obtain ⟨va, vc, rfl, hv1, hv2⟩ := hr.len
  obtain ⟨oa, oc, rfl, _⟩ := ho
  unfold maxLen at hv2
  clear hx hok hr
  go_enter Try.func14, Try.ntmps14
  go_wp2_with fail
  obtain ⟨W0, hW0⟩ : ∃ W0, w.alloc (.cells #[.string uid, .int .u8 nd.kind, inv, .int .u8 nd.x.op, .int .i64 nd.x.n, .slice p nd.x.args.length cap, .int .i64 nd.n] 54) = W0 := ⟨_, rfl⟩
  have q0 : Kept none' w W0 := by rw [← hW0]; exact (Kept.refl _ _).alloc _
  have d0 : W0.cell? ⟨w.heap.size, 0, none⟩ = some (.string uid) := by rw [← hW0]; simp
  have d1 : W0.cell? ⟨w.heap.size, 1, none⟩ = some (.int .u8 nd.kind) := by rw [← hW0]; simp
  have d2 : W0.cell? ⟨w.heap.size, 2, none⟩ = some inv := by rw [← hW0]; simp
  have d3 : W0.cell? ⟨w.heap.size, 3, none⟩ = some (.int .u8 nd.x.op) := by rw [← hW0]; simp
  have d4 : W0.cell? ⟨w.heap.size, 4, none⟩ = some (.int .i64 nd.x.n) := by rw [← hW0]; simp
  have d5 : W0.cell? ⟨w.heap.size, 5, none⟩ = some (.slice p nd.x.args.length cap) := by rw [← hW0]; simp
  have d6 : W0.cell? ⟨w.heap.size, 6, none⟩ = some (.int .i64 nd.n) := by rw [← hW0]; simp
  have hbx : w.heap.size < W0.heap.size := by rw [← hW0]; simp
  have hs0 : w.heap.size + 1 = W0.heap.size := by rw [← hW0]; simp
  rw [hW0]
  clear hW0
  go_wp2_with fail
  try rw [hs0]
  have c := hvy_any _ nd (.slice oa ops.length oc) (.slice (some ⟨W0.heap.size, 0, none⟩) 1 1) ops [L] (W0.alloc (.cells #[.slice va L.length vc] 42)) (NodAt.pure (q0.alloc _) HN.out) (HO.out.pure (q0.alloc _)) (Rows2.one (HR.out.pure q0)) (by intro L' h; cases List.mem_singleton.1 h; exact hsz)
  (with_reducible refine c.mono ?_)
  clear c
  rintro e Wh ⟨b, rfl, hb, kh'⟩
  have kh : Kept none' W0 Wh := ((Kept.refl _ _).alloc _).trans kh'
  clear kh'
  have d0 := kh.cell (p := ⟨w.heap.size, 0, none⟩) (fun h => h) d0
  have d1 := kh.cell (p := ⟨w.heap.size, 1, none⟩) (fun h => h) d1
  have d2 := kh.cell (p := ⟨w.heap.size, 2, none⟩) (fun h => h) d2
  have d3 := kh.cell (p := ⟨w.heap.size, 3, none⟩) (fun h => h) d3
  have d4 := kh.cell (p := ⟨w.heap.size, 4, none⟩) (fun h => h) d4
  have d5 := kh.cell (p := ⟨w.heap.size, 5, none⟩) (fun h => h) d5
  have d6 := kh.cell (p := ⟨w.heap.size, 6, none⟩) (fun h => h) d6
  have hbh : w.heap.size < Wh.heap.size := Nat.lt_of_lt_of_le hbx kh.size
  have K0 := Lib.hid (q0.trans kh)
  clear kh q0 hbx hs0
  have ways : b = true ∨ (b = false ∧ par < 1) ∨ (b = false ∧ ¬ par < 1 ∧ 4 < par) ∨ (b = false ∧ ∃ n : Nat, par = (n : Int) ∧ 1 ≤ n ∧ n ≤ 4) := by
    cases b with
    | true => exact .inl rfl
    | false =>
      by_cases h1 : par < 1
      · exact .inr (.inl ⟨rfl, h1⟩)
      · by_cases h2 : 4 < par
        · exact .inr (.inr (.inl ⟨rfl, h1, h2⟩))
        · exact .inr (.inr (.inr ⟨rfl, par.toNat, by omega, by omega, by omega⟩))
  have hcl : Calls Try.prog 23 #[] Wh (Gives Wh (.bool true)) := works17 Wh
  rcases ways with rfl | ⟨rfl, h1⟩ | ⟨rfl, h1, h2⟩ | ⟨rfl, n, rfl, hn1, hn2⟩
  · clear hb
    go_wp2_with fail
    (with_reducible refine hcl.mono ?_)
    rintro e W1 ⟨rfl, k1⟩
    go_wp2_with fail
    go_ret
    exact ⟨rfl, K0.out.trans k1⟩
  · clear hb
    go_wp2_with fail
    (with_reducible refine hcl.mono ?_)
    rintro e W1 ⟨rfl, k1⟩
    go_wp2_with fail
    go_ret
    exact ⟨rfl, K0.out.trans k1⟩
  · clear hb
    go_wp2_with fail
    (with_reducible refine hcl.mono ?_)
    rintro e W1 ⟨rfl, k1⟩
    go_wp2_with fail
    go_ret
    exact ⟨rfl, K0.out.trans k1⟩
  · obtain ⟨_, hb2, hb3⟩ := hb rfl
    have hlen : L.length ≤ 500 := by unfold totL at hb2; simpa using hb2
    have hll := (heavyB_false hb3).2
    have HLL := Lib.hid (show ∀ o ∈ ops, o.l.length ≤ 17592186044416 from fun o h => by have := hll o h; omega)
    clear hb hb2 hb3 hll hcl
    have g1 : ¬ ((n : Nat) : Int) < 1 := by omega
    have g2 : ¬ (4 : Int) < ((n : Nat) : Int) := by omega
    go_wp2_with fail
    have c := merge_any (.slice (some ⟨Wh.heap.size, 0, none⟩) 1 1) [L] (Wh.alloc (.cells #[.slice va L.length vc] 42)) (Rows2.one (HR.out.pure K0.out)) (by simp; omega)
    (with_reducible refine c.mono ?_)
    clear c
    rintro e W1 ⟨v1, rfl, r1, _, k1'⟩
    have k1 : Kept none' Wh W1 := ((Kept.refl _ _).alloc _).trans k1'
    rw [show [L].flatten = L by simp] at r1
    obtain ⟨M, hM⟩ : ∃ M, smerge L = M := ⟨_, rfl⟩
    rw [hM] at r1
    have hMl : M.length = L.length := by rw [← hM, smerge_length]
    have hMl5 : M.length ≤ 500 := by omega
    have hMs : Sorted M := hM ▸ smerge_sorted _
    have hMo : ∀ r ∈ M, RecOk r := fun r hr => HOK.out r (mem_smerge.1 (hM ▸ hr))
    obtain ⟨ma, mc, rfl, v1, v2, v3⟩ := r1.recAt
    unfold maxLen at v2
    have K1 := Lib.hid k1
    have HM := Lib.hid (And.intro r1 (And.intro hMs (And.intro hMo v3)))
    have d0 := k1.cell (p := ⟨w.heap.size, 0, none⟩) (fun h => h) d0
    have d1 := k1.cell (p := ⟨w.heap.size, 1, none⟩) (fun h => h) d1
    have d2 := k1.cell (p := ⟨w.heap.size, 2, none⟩) (fun h => h) d2
    have d3 := k1.cell (p := ⟨w.heap.size, 3, none⟩) (fun h => h) d3
    have d4 := k1.cell (p := ⟨w.heap.size, 4, none⟩) (fun h => h) d4
    have d5 := k1.cell (p := ⟨w.heap.size, 5, none⟩) (fun h => h) d5
    have d6 := k1.cell (p := ⟨w.heap.size, 6, none⟩) (fun h => h) d6
    have hb1 : w.heap.size < W1.heap.size := Nat.lt_of_lt_of_le hbh k1.size
    clear k1 k1' r1 hMs hMo v3 hM hMl
    go_wp2_with fail
    go_loopg [9, 42] M.length (fun g _ vi wr => ∃ j : Nat, j ≤ M.length ∧ vi = .int .i64 (j : Int) ∧ (SmallPos (M.take j) ∧ (M.take j).Pairwise fun a b => a.pos < b.pos) ∧ Kept none' W1 wr ∧ M.length - j ≤ g)
    case atStart => exact ⟨0, by omega, rfl, ⟨fun r hr => by simp at hr, by simp⟩, Kept.refl _ _, by omega⟩
    case round =>
      obtain ⟨j, hj, rfl, hsp, hkp, hg⟩ := hrel
      have HI := Lib.hid (And.intro hsp (And.intro hkp hg))
      clear hsp hg
      by_cases hjl : j < M.length
      · obtain ⟨r, hr⟩ : ∃ r, M[j]? = some r := ⟨_, List.getElem?_eq_getElem hjl⟩
        obtain ⟨rb, ro, rfl, hc⟩ := HM.out.2.2.2.resolve_left (fun h => by rw [h] at hr; cases hr)
        obtain ⟨x0, x1, x2⟩ := hc j r hr
        have x0 := hkp.cell (fun h => h) x0
        have x1 := hkp.cell (fun h => h) x1
        have x2 := hkp.cell (fun h => h) x2
        have HRJ := Lib.hid hr
        have HCC := Lib.hid hc
        clear hr hc hkp
        go_wp2_with fail
        obtain ⟨W2, hW2⟩ : ∃ W2, wr.alloc (.cells #[.int .i64 r.pos, .int .i64 r.key, .int .i64 r.val] 46) = W2 := ⟨_, rfl⟩
        have kA : Kept none' wr W2 := by rw [← hW2]; exact (Kept.refl _ _).alloc _
        have y0 : W2.cell? ⟨wr.heap.size, 0, none⟩ = some (.int .i64 r.pos) := by rw [← hW2]; simp
        rw [hW2]
        clear hW2 x0 x1 x2
        have K2 := Lib.hid (HI.out.2.1.trans kA)
        have hD := (Kept.refl none' W2).drew
        have HD := Lib.hid hD
        clear kA hD
        have cs : r.pos < 0 ∨ (¬ r.pos < 0 ∧ 1099511627776 < r.pos) ∨ (¬ r.pos < 0 ∧ ¬ 1099511627776 < r.pos ∧ j = 0) ∨ (¬ r.pos < 0 ∧ ¬ 1099511627776 < r.pos ∧ ∃ i, j = i + 1) := by
          by_cases h1 : r.pos < 0
          · exact .inl h1
          · by_cases h2 : 1099511627776 < r.pos
            · exact .inr (.inl ⟨h1, h2⟩)
            · cases j with
              | zero => exact .inr (.inr (.inl ⟨h1, h2, rfl⟩))
              | succ i => exact .inr (.inr (.inr ⟨h1, h2, i, rfl⟩))
        rcases cs with h1 | ⟨h1, h2⟩ | ⟨h1, h2, rfl⟩ | ⟨h1, h2, i, rfl⟩
        · refine wp_region_eager [0, 1, 2, 3, 4, 5, 6, 7, 8, 9, 10, 11, 12, 13, 14, 15, 16, 17, 18, 19, 20, 21, 22] (fun W => Kept none' W2 W) (by kernel_rfl) (by kernel_rfl) rfl HD.out ?_
          simp only [List.map_cons, List.map_nil, List.getElem?_toArray, List.getElem?_cons_zero, List.getElem?_cons_succ, Option.getD_some]
          iterate 23 (first | (apply wpL_skip rfl; go_frame) | (apply wpL_float rfl rfl; (intro W hW; have z0 := hW.cell (fun h => h) y0; go_simp; rfl); go_frame))
          refine wpL_nil (fun _ => HD.out) ?_
          go_wp2_with fail
          (with_reducible refine (works17 W2.drew).mono ?_)
          rintro e W3 ⟨rfl, k3⟩
          go_wp2_with fail
          go_ret
          exact ⟨rfl, (K0.out.trans K1.out).trans (K2.out.trans (HD.out.trans k3))⟩
        · refine wp_region_eager [0, 1, 2, 3, 4, 5, 6, 7, 8, 9, 10, 11, 12, 13, 14, 15, 16, 17, 18, 19, 20, 21, 22] (fun W => Kept none' W2 W) (by kernel_rfl) (by kernel_rfl) rfl HD.out ?_
          simp only [List.map_cons, List.map_nil, List.getElem?_toArray, List.getElem?_cons_zero, List.getElem?_cons_succ, Option.getD_some]
          iterate 23 (first | (apply wpL_skip rfl; go_frame) | (apply wpL_float rfl rfl; (intro W hW; have z0 := hW.cell (fun h => h) y0; go_simp; rfl); go_frame))
          refine wpL_nil (fun _ => HD.out) ?_
          go_wp2_with fail
          (with_reducible refine (works17 W2.drew).mono ?_)
          rintro e W3 ⟨rfl, k3⟩
          go_wp2_with fail
          go_ret
          exact ⟨rfl, (K0.out.trans K1.out).trans (K2.out.trans (HD.out.trans k3))⟩
        · have F := Lib.hid (And.intro (small_snoc HRJ.out HI.out.1.1 ⟨by omega, by omega⟩) (rise_snoc HRJ.out HM.out.2.1 HI.out.1.2 (fun q h => absurd rfl h)))
          refine wp_region_eager [0, 1, 2, 3, 4, 5, 6, 7, 8, 9, 10, 11, 12, 13, 14, 15, 16, 17, 18, 19, 20, 21, 22] (fun W => Kept none' W2 W) (by kernel_rfl) (by kernel_rfl) rfl HD.out ?_
          simp only [List.map_cons, List.map_nil, List.getElem?_toArray, List.getElem?_cons_zero, List.getElem?_cons_succ, Option.getD_some]
          iterate 23 (first | (apply wpL_skip rfl; go_frame) | (apply wpL_float rfl rfl; (intro W hW; have z0 := hW.cell (fun h => h) y0; go_simp; rfl); go_frame))
          refine wpL_nil (fun _ => HD.out) ?_
          go_wp2_with fail
          go_roundg (M.length - (0 + 1))
          case rel => exact ⟨0 + 1, by omega, by go_num, F.out, K2.out.trans HD.out, Nat.le_refl _⟩
          case measure => have := HI.out.2.2; omega
        · obtain ⟨q, hq⟩ : ∃ q, M[i]? = some q := ⟨_, List.getElem?_eq_getElem (by omega)⟩
          obtain ⟨u0, _, _⟩ := HCC.out i q hq
          have u0 := (K2.out).cell (fun h => h) u0
          have hj0 : (0 : Int) < ((i : Int) + 1) := by omega
          have hwi0 : (0 : Int) ≤ (i : Int) := by omega
          have hwi1 : (i : Int) < (M.length : Int) := by omega
          have hwi : IntKind.i64.wrap (i : Int) = (i : Int) := IntWalk.i64_in _ (by omega)
          by_cases he : q.pos = r.pos
          · have heb : (q.pos == r.pos) = true := beq_iff_eq.2 he
            clear he hq
            refine wp_region_eager [0, 1, 2, 3, 4, 5, 6, 7, 8, 9, 10, 11, 12, 13, 14, 15, 16, 17, 18, 19, 20, 21, 22] (fun W => Kept none' W2 W) (by kernel_rfl) (by kernel_rfl) rfl HD.out ?_
            simp only [List.map_cons, List.map_nil, List.getElem?_toArray, List.getElem?_cons_zero, List.getElem?_cons_succ, Option.getD_some]
            iterate 23 (first | (apply wpL_skip rfl; go_frame) | (apply wpL_float rfl rfl; (intro W hW; have z0 := hW.cell (fun h => h) y0; have z1 := hW.cell (fun h => h) u0; go_simp; rfl); go_frame))
            refine wpL_nil (fun _ => HD.out) ?_
            go_wp2_with fail
            (with_reducible refine (works17 W2.drew).mono ?_)
            rintro e W3 ⟨rfl, k3⟩
            go_wp2_with fail
            go_ret
            exact ⟨rfl, (K0.out.trans K1.out).trans (K2.out.trans (HD.out.trans k3))⟩
          · have heb : (q.pos == r.pos) = false := beq_eq_false_iff_ne.2 he
            have F := Lib.hid (And.intro (small_snoc HRJ.out HI.out.1.1 ⟨by omega, by omega⟩) (rise_snoc HRJ.out HM.out.2.1 HI.out.1.2 (fun q' _ hq' => by
              have e : M[i]? = some q' := hq'
              rw [hq] at e
              injection e with e
              rw [← e]; exact he)))
            clear he hq
            refine wp_region_eager [0, 1, 2, 3, 4, 5, 6, 7, 8, 9, 10, 11, 12, 13, 14, 15, 16, 17, 18, 19, 20, 21, 22] (fun W => Kept none' W2 W) (by kernel_rfl) (by kernel_rfl) rfl HD.out ?_
            simp only [List.map_cons, List.map_nil, List.getElem?_toArray, List.getElem?_cons_zero, List.getElem?_cons_succ, Option.getD_some]
            iterate 23 (first | (apply wpL_skip rfl; go_frame) | (apply wpL_float rfl rfl; (intro W hW; have z0 := hW.cell (fun h => h) y0; have z1 := hW.cell (fun h => h) u0; go_simp; rfl); go_frame))
            refine wpL_nil (fun _ => HD.out) ?_
            go_wp2_with fail
            go_roundg (M.length - (i + 1 + 1))
            case rel => exact ⟨i + 1 + 1, by omega, by go_num, F.out, K2.out.trans HD.out, Nat.le_refl _⟩
            case measure => have := HI.out.2.2; omega
      · have hjM : j = M.length := by omega
        subst hjM
        have hfull : SmallPos M ∧ M.Pairwise fun a b => a.pos < b.pos := by have := HI.out.1; rwa [List.take_of_length_le (Nat.le_refl _)] at this
        have HF := Lib.hid hfull
        clear hfull
        have kx := HI.out.2.1
        have d0 := kx.cell (p := ⟨w.heap.size, 0, none⟩) (fun h => h) d0
        have d1 := kx.cell (p := ⟨w.heap.size, 1, none⟩) (fun h => h) d1
        have d2 := kx.cell (p := ⟨w.heap.size, 2, none⟩) (fun h => h) d2
        have d3 := kx.cell (p := ⟨w.heap.size, 3, none⟩) (fun h => h) d3
        have d4 := kx.cell (p := ⟨w.heap.size, 4, none⟩) (fun h => h) d4
        have d5 := kx.cell (p := ⟨w.heap.size, 5, none⟩) (fun h => h) d5
        have d6 := kx.cell (p := ⟨w.heap.size, 6, none⟩) (fun h => h) d6
        have hbr : w.heap.size < wr.heap.size := Nat.lt_of_lt_of_le hb1 kx.size
        have KR := Lib.hid ((K0.out.trans K1.out).trans kx)
        have RM := Lib.hid (HM.out.1.pure kx)
        have HMo := Lib.hid HM.out.2.2.1
        clear kx HI
        go_wp2_with fail
        have c := made_any (.slice oa ops.length oc) ops wr (HO.out.pure KR.out) HLL.out
        (with_reducible refine c.mono ?_)
        clear c
        rintro e W2 ⟨b1, m1, e1, rfl, i1⟩
        have I1 := Lib.hid i1
        clear i1
        go_wp2_with fail
        have c := made_any (.slice oa ops.length oc) ops W2 (HO.out.pure (KR.out.trans I1.out.kept)) HLL.out
        (with_reducible refine c.mono ?_)
        clear c
        rintro e W3 ⟨b2, m2, e2, rfl, i2⟩
        have I2 := Lib.hid i2
        clear i2
        have K3 := Lib.hid (I1.out.kept.trans I2.out.kept)
        have d0 := K3.out.cell (p := ⟨w.heap.size, 0, none⟩) (fun h => h) d0
        have d1 := K3.out.cell (p := ⟨w.heap.size, 1, none⟩) (fun h => h) d1
        have d2 := K3.out.cell (p := ⟨w.heap.size, 2, none⟩) (fun h => h) d2
        have d3 := K3.out.cell (p := ⟨w.heap.size, 3, none⟩) (fun h => h) d3
        have d4 := K3.out.cell (p := ⟨w.heap.size, 4, none⟩) (fun h => h) d4
        have d5 := K3.out.cell (p := ⟨w.heap.size, 5, none⟩) (fun h => h) d5
        have d6 := K3.out.cell (p := ⟨w.heap.size, 6, none⟩) (fun h => h) d6
        obtain ⟨T0, hT0⟩ : ∃ T0, madeT ops = T0 := ⟨_, rfl⟩
        rw [hT0] at I1 I2
        clear hT0
        have A1 := Lib.hid (I1.out.tab.pure I2.out.kept)
        have hm1 : wr.heap.size ≤ m1 := I1.out.tab.hm.1
        have hm1' : m1 < W2.heap.size := I1.out.tab.lt.1
        have hm2 : W2.heap.size ≤ m2 := I2.out.tab.hm.1
        have hm2' : m2 < W3.heap.size := I2.out.tab.lt.1
        have hm12 : m2 ≠ m1 := by omega
        have hbm1 : w.heap.size ≠ m1 := by omega
        go_wp2_with fail
        have c := doT_any _ nd b1 m1 T0 _ (.slice ma M.length mc) M W3 (NodAt.pure (KR.out.trans K3.out) HN.out) (RM.out.pure K3.out) HMo.out (by omega) A1.out
        (with_reducible refine c.mono ?_)
        clear c
        rintro e W4 ⟨v4, rfl, r4, _, t4, k4⟩
        have NC := A1.out.noCells (fun _ => True)
        have node4 := (NodAt.pure (KR.out.trans K3.out) HN.out).keptN k4 NC
        have in4 := (RM.out.pure K3.out).keptN k4 (by omega) NC
        have tab4 := I2.out.tab.kept k4 (A1.out.noCells _) hm12
        have d0 := k4.cell (p := ⟨w.heap.size, 0, none⟩) hbm1 d0
        have d1 := k4.cell (p := ⟨w.heap.size, 1, none⟩) hbm1 d1
        have d2 := k4.cell (p := ⟨w.heap.size, 2, none⟩) hbm1 d2
        have d3 := k4.cell (p := ⟨w.heap.size, 3, none⟩) hbm1 d3
        have d4 := k4.cell (p := ⟨w.heap.size, 4, none⟩) hbm1 d4
        have d5 := k4.cell (p := ⟨w.heap.size, 5, none⟩) hbm1 d5
        have d6 := k4.cell (p := ⟨w.heap.size, 6, none⟩) hbm1 d6
        have kw4 : Kept none' w W4 := (KR.out.trans K3.out).new k4 (fun i hi e => by unfold one at e; omega)
        obtain ⟨O, hO⟩ : ∃ O, (doNode nd T0 M).1 = O := ⟨_, rfl⟩
        obtain ⟨T1, hT1⟩ : ∃ T1, (doNode nd T0 M).2 = T1 := ⟨_, rfl⟩
        rw [hO] at r4
        rw [hT1] at t4
        have hOl : O.length ≤ 2000 := by rw [← hO]; have := doNode_len nd M T0; omega
        have hrise0 : Rises T0 := I2.out.tab.ok.rises
        have PT := Lib.hid (show ∀ k, (doNode nd (tabOf T0 (ownsL k n 8)) (M.filter fun r => decide (plK n r.key = k))).2 = tabOf T1 (ownsL k n 8) from fun k => by rw [parted_tab nd hrise0, hT1])
        have PR := Lib.hid (show smerge (rowsP nd T0 M n n).flatten = smerge O from by rw [parted_rows nd hrise0 HF.out.1 HF.out.2 hn1, hO])
        obtain ⟨pa4, pc4, rfl, _, _⟩ := r4.len
        have B4 := Lib.hid (And.intro node4 (And.intro in4 (And.intro tab4 (And.intro t4 (And.intro r4 kw4)))))
        have hs4 := k4.size
        have hs3 := K3.out.size
        clear k4 NC node4 in4 tab4 t4 r4 kw4 A1 hO hT1 hrise0
        go_wp2_with fail
        have c := merge_any (.slice (some ⟨W4.heap.size, 0, none⟩) 1 1) [O] (W4.alloc (.cells #[.slice pa4 O.length pc4] 42)) (Rows2.one B4.out.2.2.2.2.1) (by simp; omega)
        (with_reducible refine c.mono ?_)
        clear c
        rintro e W5 ⟨v5, rfl, r5, _, k5'⟩
        have k5 : Kept none' W4 W5 := ((Kept.refl _ _).alloc _).trans k5'
        rw [show [O].flatten = O by simp] at r5
        have d0 := k5.cell (p := ⟨w.heap.size, 0, none⟩) (fun h => h) d0
        have d1 := k5.cell (p := ⟨w.heap.size, 1, none⟩) (fun h => h) d1
        have d2 := k5.cell (p := ⟨w.heap.size, 2, none⟩) (fun h => h) d2
        have d3 := k5.cell (p := ⟨w.heap.size, 3, none⟩) (fun h => h) d3
        have d4 := k5.cell (p := ⟨w.heap.size, 4, none⟩) (fun h => h) d4
        have d5 := k5.cell (p := ⟨w.heap.size, 5, none⟩) (fun h => h) d5
        have d6 := k5.cell (p := ⟨w.heap.size, 6, none⟩) (fun h => h) d6
        have B5 := Lib.hid (And.intro k5 r5)
        have hs5 := k5.size
        clear k5 k5' r5
        go_wp2_with fail
        refine (new_any W5).mono ?_
        rintro e W6 ⟨ba, mA, rfl, t6, k6⟩
        have hmA : W5.heap.size ≤ mA := t6.hm
        have hmA' : mA < W6.heap.size := t6.lt.1
        have hs6 := k6.size
        have d0 := k6.cell (p := ⟨w.heap.size, 0, none⟩) (fun h => h) d0
        have d1 := k6.cell (p := ⟨w.heap.size, 1, none⟩) (fun h => h) d1
        have d2 := k6.cell (p := ⟨w.heap.size, 2, none⟩) (fun h => h) d2
        have d3 := k6.cell (p := ⟨w.heap.size, 3, none⟩) (fun h => h) d3
        have d4 := k6.cell (p := ⟨w.heap.size, 4, none⟩) (fun h => h) d4
        have d5 := k6.cell (p := ⟨w.heap.size, 5, none⟩) (fun h => h) d5
        have d6 := k6.cell (p := ⟨w.heap.size, 6, none⟩) (fun h => h) d6
        have B6 := Lib.hid (show NodAt W6 _ nd ∧ Reads W6 3 (.slice ma M.length mc) (recs M) ∧ TabAt W6 AnyB b2 m2 T0 ∧ TabAt W6 AnyB b1 m1 T1 ∧ Reads W6 3 v5 (recs (smerge O)) ∧ TabAt W6 AnyB ba mA (parts T1 n 0) ∧ Kept none' w W6 from
          ⟨NodAt.pure (B5.out.1.trans k6) B4.out.1, B4.out.2.1.pure (B5.out.1.trans k6), (B4.out.2.2.1.pure (B5.out.1.trans k6)).any, (B4.out.2.2.2.1.pure (B5.out.1.trans k6)).any, B5.out.2.pure k6, by rw [parts_zero]; exact t6.any, B4.out.2.2.2.2.2.trans (B5.out.1.trans k6)⟩)
        clear t6 k6 B5 B4 I1 I2 K3 RM KR
        go_wp2_with fail
        have I0 := Lib.hid (show PaInv W6 W6 nd T0 T1 M n ba mA 0 (.slice none 0 0) 0 [] from ⟨World.ownsRow_nil _ _ _ _, rfl, fun i u X h1 _ => by simp at h1, fun u hu => by simp at hu, B6.out.2.2.2.2.2.1.mono (fun k _ _ e => by cases e), Kept.refl _ _⟩)
        have hbA : w.heap.size ≠ mA := by omega
        have h2A : m2 ≠ mA := by omega
        have h1A : m1 ≠ mA := by omega
        have HTK := Lib.hid B6.out.2.2.2.1.ok
        have NC6 := Lib.hid (B6.out.2.2.2.2.2.1.noCells (fun _ => True))
        go_loopg [17, 90] 4 (fun g vr vi wr => ∃ (j nr : Nat) (vs : List Value), j ≤ n ∧ vi = .int .i64 (j : Int) ∧ PaInv W6 wr nd T0 T1 M n ba mA j vr nr vs ∧ n - j ≤ g)
        case atStart => exact ⟨0, 0, [], by omega, rfl, I0.out, by omega⟩
        case round =>
          obtain ⟨j, nr, vs, hj, rfl, hi, hg⟩ := hrel
          have HI := Lib.hid (And.intro hi hg)
          obtain ⟨ra, rc, rfl⟩ := owns_slice hi.rows
          clear hi hg
          by_cases hjn : j < n
          · go_wp2_with fail
            (with_reducible refine (owns_any j n ⟨hn1, hn2⟩ wr).mono ?_)
            rintro e x1 ⟨u1, q1, rfl, o1, l1⟩
            obtain ⟨a1, c1, rfl⟩ := owns_slice o1
            have J1 := Lib.hid (And.intro (HI.out.1.pure l1) (Reads.of_owns o1))
            have l1s := l1.size
            have HOB := Lib.hid (show ∀ k, (Value.slice ra nr rc).ownBlock = some k → k < x1.heap.size from fun k hk => Nat.lt_of_lt_of_le (owns_own HI.out.1.rows hk).2 l1s)
            clear o1 l1
            go_wp2_with fail
            have t1x : TabAt x1 AnyB b2 m2 T0 := B6.out.2.2.1.kept J1.out.1.kept (B6.out.2.2.2.2.2.1.noCells _) (fun e => h2A e)
            have c := tof_any AnyB b2 m2 T0 (.slice a1 q1 c1) (ownsL j n 8) x1 t1x J1.out.2
            clear t1x
            (with_reducible refine c.mono ?_)
            clear c
            rintro e x2 ⟨bm, mm, rfl, t2, l2⟩
            have hmm : mA < mm := by have h1 := J1.out.1.all.lt.1; have h2 := t2.hm; unfold up at h2; omega
            have hmm2 : mm < x2.heap.size := t2.lt.1
            have hW6 : W6.heap.size ≤ mm := by have h1 := J1.out.1.kept.size; have h2 := t2.hm; unfold up at h2; omega
            have J2 := Lib.hid (And.intro (J1.out.1.pure l2) t2)
            have l2s := l2.size
            clear t2 l2 J1
            have RM2 := Lib.hid (B6.out.2.1.keptN J2.out.1.kept (by omega) NC6.out)
            obtain ⟨ma', mc', hme, w1, w2, w3⟩ := RM2.out.recAt
            cases hme
            have HW := Lib.hid w3
            clear w3
            go_wp2_with fail
            go_loopg [20, 100] M.length (fun g vo vx wr => ∃ (i no : Nat), i ≤ M.length ∧ vx = .int .i64 (i : Int) ∧ wr.ownsRow x2.heap.size 46 3 vo no (recs ((M.take i).filter fun r => decide (plK n r.key = j))) ∧ Kept none' x2 wr ∧ M.length - i ≤ g)
            case atStart => exact ⟨0, 0, by omega, rfl, World.ownsRow_nil _ _ _ _, Kept.refl _ _, by omega⟩
            case round =>
              obtain ⟨i, no, hi, rfl, hown, hkp, hg⟩ := hrel
              obtain ⟨oa1, oc1, rfl⟩ := owns_slice hown
              have G := Lib.hid (And.intro hown (And.intro hkp hg))
              clear hown hkp hg
              by_cases hil : i < M.length
              · obtain ⟨r, hr⟩ : ∃ r, M[i]? = some r := ⟨_, List.getElem?_eq_getElem hil⟩
                obtain ⟨rb, ro, rfl, hc⟩ := HW.out.resolve_left (fun h => by rw [h] at hr; cases hr)
                obtain ⟨y0, y1, y2⟩ := hc i r hr
                have y0 := G.out.2.1.cell (fun h => h) y0
                have y1 := G.out.2.1.cell (fun h => h) y1
                have y2 := G.out.2.1.cell (fun h => h) y2
                have HRI := Lib.hid hr
                clear hc hr
                go_wp2_with fail
                (with_reducible refine (placeOf_any r.key n ⟨hn1, hn2⟩ _).mono ?_)
                rintro e x3 ⟨rfl, rfl⟩
                have kA : Kept none' wr (wr.alloc (.cells #[.int .i64 r.pos, .int .i64 r.key, .int .i64 r.val] 46)) := (Kept.refl _ _).alloc _
                have KA := Lib.hid kA
                have ez : placeN (grp r.key).toNat n = plK n r.key := rfl
                rw [ez]
                clear ez kA
                by_cases hpl : plK n r.key = j
                · have hb : (((plK n r.key : Nat) : Int) == (j : Int)) = true := beq_iff_eq.2 (by omega)
                  have kB : Kept none' wr ((wr.alloc (.cells #[.int .i64 r.pos, .int .i64 r.key, .int .i64 r.val] 46)).alloc (.cells #[.int .i64 r.pos, .int .i64 r.key, .int .i64 r.val] 46)) := KA.out.alloc _
                  have hlc : (recs ((M.take i).filter fun r => decide (plK n r.key = j))).length ≤ 1500 := by
                    rw [recs_length]
                    have h1 := List.length_filter_le (fun r => decide (plK n r.key = j)) (M.take i)
                    rw [List.length_take] at h1
                    omega
                  obtain ⟨v7, n7, w7, f1, f2, f3⟩ := rap46 (kB.owns G.out.1 (fun _ _ h => h)) (Reads.lit (wr.alloc (.cells #[.int .i64 r.pos, .int .i64 r.key, .int .i64 r.val] 46)) [.int .i64 r.pos, .int .i64 r.key, .int .i64 r.val] 46 3 1 rfl (by unfold maxLen; omega)) (by intro x hx; simp only [List.mem_cons, List.not_mem_nil, or_false] at hx; rcases hx with rfl | rfl | rfl <;> rfl) (Nat.le_trans G.out.2.1.size kB.size) (by simp only [List.length_cons, List.length_nil]; omega)
                  rw [World.size_alloc] at f1
                  have F1 := Lib.hid f1
                  have F := Lib.hid (show w7.ownsRow x2.heap.size 46 3 v7 n7 (recs ((M.take (i + 1)).filter fun r => decide (plK n r.key = j))) ∧ Kept none' x2 w7 from by
                    refine ⟨?_, (G.out.2.1.trans kB).new (Kept.grown (S := fun k => x2.heap.size ≤ k) f3 (fun k hk _ => (owns_own G.out.1 hk).1)) (fun k hk hs => by omega)⟩
                    rw [List.take_add_one, HRI.out, List.filter_append, recs_append]
                    simp only [Option.toList_some]
                    rw [List.filter_cons, if_pos (decide_eq_true hpl)]
                    exact f2)
                  clear f1 f2 f3 kB hlc hpl
                  go_wp2_with (at_builtin; refine wpList_append_run rfl (.tmp 110) (.tmp 112) 42 rfl (.slice oa1 no oc1) (.slice (some ⟨wr.heap.size + 1, 0, none⟩) 1 1) _ rfl rfl F1.out ?_)
                  go_roundg (M.length - (i + 1))
                  case rel => exact ⟨i + 1, n7, by omega, by go_num, F.out.1, F.out.2, Nat.le_refl _⟩
                  case measure => have := G.out.2.2; omega
                · have hb : (((plK n r.key : Nat) : Int) == (j : Int)) = false := beq_eq_false_iff_ne.2 (by omega)
                  have F := Lib.hid (show (wr.alloc (.cells #[.int .i64 r.pos, .int .i64 r.key, .int .i64 r.val] 46)).ownsRow x2.heap.size 46 3 (.slice oa1 no oc1) no (recs ((M.take (i + 1)).filter fun r => decide (plK n r.key = j))) from by
                    rw [List.take_add_one, HRI.out, List.filter_append]
                    simp only [Option.toList_some]
                    rw [List.filter_cons, if_neg (by simpa using hpl), List.filter_nil, List.append_nil]
                    exact KA.out.owns G.out.1 (fun _ _ h => h))
                  clear hpl
                  go_wp2_with fail
                  go_roundg (M.length - (i + 1))
                  case rel => exact ⟨i + 1, no, by omega, by go_num, F.out, G.out.2.1.trans KA.out, Nat.le_refl _⟩
                  case measure => have := G.out.2.2; omega
              · have hiM : i = M.length := by omega
                subst hiM
                have hro := Reads.of_owns G.out.1
                rw [List.take_of_length_le (Nat.le_refl _)] at hro
                have J3 := Lib.hid (And.intro (J2.out.1.pure G.out.2.1) (And.intro (J2.out.2.pure G.out.2.1) hro))
                have hx2s := G.out.2.1.size
                clear hro
                have c0 := J3.out.1.kept.cell (p := ⟨w.heap.size, 0, none⟩) hbA d0
                have c1 := J3.out.1.kept.cell (p := ⟨w.heap.size, 1, none⟩) hbA d1
                have c2 := J3.out.1.kept.cell (p := ⟨w.heap.size, 2, none⟩) hbA d2
                have c3 := J3.out.1.kept.cell (p := ⟨w.heap.size, 3, none⟩) hbA d3
                have c4 := J3.out.1.kept.cell (p := ⟨w.heap.size, 4, none⟩) hbA d4
                have c5 := J3.out.1.kept.cell (p := ⟨w.heap.size, 5, none⟩) hbA d5
                have c6 := J3.out.1.kept.cell (p := ⟨w.heap.size, 6, none⟩) hbA d6
                have hFl : (M.filter fun r => decide (plK n r.key = j)).length ≤ 500 := Nat.le_trans (List.length_filter_le _ _) hMl5
                have hfo : ∀ r ∈ (M.filter fun r => decide (plK n r.key = j)), RecOk r := fun r hr => HMo.out r (List.mem_filter.1 hr).1
                have HFO := Lib.hid hfo
                clear hfo
                have MM := Lib.hid (show ∃ l, MapL wr mm l from by
                  obtain ⟨l, hl, _⟩ := J3.out.2.1.map
                  exact ⟨l, hl⟩)
                go_wp2_with fail
                have c := doM_any _ nd bm mm (tabOf T0 (ownsL j n 8)) (up x1.heap.size) (.slice oa1 no oc1) (M.filter fun r => decide (plK n r.key = j)) wr (B6.out.1.keptN J3.out.1.kept NC6.out) J3.out.2.2 HFO.out (by omega) J3.out.2.1
                (with_reducible refine c.mono ?_)
                clear c
                rintro e x8 ⟨v8, rfl, r8, bl8, t8, k8⟩
                rw [PT.out] at t8
                obtain ⟨lm, hlm⟩ := MM.out
                have hneA : mA ≠ mm := by omega
                have P8 := J3.out.1.other k8 hlm hneA hW6
                obtain ⟨pa8, pc8, rfl, _, _⟩ := r8.len
                obtain ⟨v9, n9, x9, f1, f2, f3, f4⟩ := rap42 (u := .slice pa8 (doNode nd (tabOf T0 (ownsL j n 8)) (M.filter fun r => decide (plK n r.key = j))).1.length pc8) P8.rows rfl P8.kept.size (by rw [P8.len]; omega)
                obtain ⟨a9, c9, rfl⟩ := owns_slice f2
                have t8' : TabAt x8 (fun k => (Value.slice ra nr rc).ownBlock ≠ some k) bm mm (tabOf T1 (ownsL j n 8)) := t8.mono (fun k hk _ e => by
                  have h1 := HOB.out k e
                  rcases hk with h | h
                  · unfold up at h; omega
                  · omega)
                have hub : ∀ k, Value.blk (.slice pa8 (doNode nd (tabOf T0 (ownsL j n 8)) (M.filter fun r => decide (plK n r.key = j))).1.length pc8) = some k → (Value.slice ra nr rc).ownBlock ≠ some k := fun k hk e => by
                  have h1 := HOB.out k e
                  have h2 := bl8 k hk
                  omega
                have k8s := k8.size
                have Q8 := Lib.hid (And.intro P8 (And.intro r8 (And.intro hub (And.intro f2 (And.intro f3 (And.intro f4 (And.intro (rows_tab P8.all f3 f4) (rows_tab t8' f3 f4))))))))
                have F1 := Lib.hid f1
                clear f1 f2 f3 f4 t8' hub P8 t8 bl8 hlm r8 k8
                obtain ⟨ol, hol⟩ : ∃ ol, (doNode nd (tabOf T0 (ownsL j n 8)) (M.filter fun r => decide (plK n r.key = j))).1.length = ol := ⟨_, rfl⟩
                rw [hol] at F1 Q8 ⊢
                clear hol
                go_wp2_with (at_builtin; refine wpList_append_run rfl (.tmp 115) (.tmp 120) 57 rfl (.slice ra nr rc) (.slice (some ⟨x8.heap.size, 0, none⟩) 1 1) _ rfl rfl F1.out ?_)
                have c := join_any (fun k => (Value.slice a9 n9 c9).ownBlock ≠ some k) (fun k => (Value.slice a9 n9 c9).ownBlock ≠ some k) ba mA bm mm (parts T1 n j) (tabOf T1 (ownsL j n 8)) x9 Q8.out.2.2.2.2.2.2.1 Q8.out.2.2.2.2.2.2.2 (fun k hk e => by have := (owns_own Q8.out.2.2.2.1 e).2; omega) hneA
                (with_reducible refine c.mono ?_)
                clear c
                rintro e x10 ⟨rfl, t10, k10⟩
                rw [(parts_next HTK.out n j).1]
                have F := Lib.hid (Q8.out.1.next HTK.out Q8.out.2.1 Q8.out.2.2.1 Q8.out.2.2.2.1 Q8.out.2.2.2.2.1 Q8.out.2.2.2.2.2.1 t10 k10)
                clear t10 k10
                go_wp2_with fail
                go_roundg (n - (j + 1))
                case rel => exact ⟨j + 1, n9, _, by omega, by go_num, F.out, Nat.le_refl _⟩
                case measure => have := HI.out.2; omega
          · have hjn' : j = n := by omega
            subst hjn'
            have R2 : Rows2 wr (.slice ra nr rc) (rowsP nd T0 M j j) := ⟨vs, by rw [HI.out.1.len]; unfold rowsP; simp, Reads.of_owns HI.out.1.rows, fun i u X h1 h2 => HI.out.1.rd i u X h1 h2⟩
            have hrl := rowsP_len nd T0 M j j
            have hrl2 : (rowsP nd T0 M j j).flatten.length ≤ 1073741824 := Nat.le_trans hrl (by have : j * (4 * M.length) ≤ 4 * (4 * 500) := Nat.mul_le_mul hn2 (by omega); omega)
            have RR := Lib.hid (And.intro R2 hrl2)
            clear R2 hrl hrl2
            have eA := parts_all T1 hn1
            have tA := HI.out.1.all
            rw [eA] at tA
            have TA := Lib.hid tA
            clear tA eA
            go_wp2_with fail
            have c := merge_any (.slice ra nr rc) (rowsP nd T0 M j j) wr RR.out.1 RR.out.2
            (with_reducible refine c.mono ?_)
            clear c
            rintro e y1 ⟨vm, rfl, rm, _, l1⟩
            rw [PR.out] at rm
            have R1 := Lib.hid (And.intro rm l1)
            clear rm l1
            go_wp2_with fail
            have c := equalRec vm v5 (smerge O) (smerge O) y1 R1.out.1 ((B6.out.2.2.2.2.1.keptN HI.out.1.kept (by omega) NC6.out).pure R1.out.2)
            (with_reducible refine c.mono ?_)
            clear c
            rintro e y2 ⟨rfl, l2⟩
            rw [show eqR (smerge O) (smerge O) = true from decide_eq_true rfl]
            have R2 := Lib.hid (R1.out.2.trans l2)
            clear l2
            go_wp2_with fail
            have c := bytes_any _ ba mA T1 y2 (TA.out.pure R2.out)
            (with_reducible refine c.mono ?_)
            clear c
            rintro e y3 ⟨rfl, l3⟩
            have R3 := Lib.hid (R2.out.trans l3)
            clear l3
            go_wp2_with fail
            have tW := (B6.out.2.2.2.1.kept HI.out.1.kept (B6.out.2.2.2.2.2.1.noCells _) (fun e => h1A e)).pure R3.out
            have c := bytes_any _ b1 m1 T1 y3 tW
            clear tW
            (with_reducible refine c.mono ?_)
            clear c
            rintro e y4 ⟨rfl, l4⟩
            have R4 := Lib.hid (R3.out.trans l4)
            clear l4
            go_wp2_with fail
            (with_reducible refine (works17 y4).mono ?_)
            rintro e y5 ⟨rfl, l5⟩
            go_wp2_with fail
            go_ret
            exact ⟨rfl, (B6.out.2.2.2.2.2.2.new HI.out.1.kept (fun i hi e => by unfold one at e; omega)).trans (R4.out.trans l5)⟩
end Go.Proofs.Ytaalpijohdlabaa
