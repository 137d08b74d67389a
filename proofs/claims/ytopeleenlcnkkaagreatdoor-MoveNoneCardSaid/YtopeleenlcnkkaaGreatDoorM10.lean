/-
  RECORDS IN MEMORY: a row of records that may be written; two of them exchanged; slices.swapRange over them.
-/
import Derived.Test.YtopeleenlcnkkaaGreatDoorM04
import Derived.Test.YtopeleenlcnkkaaGreatDoorM08
import Derived.Test.YtopeleenlcnkkaaGreatDoorM09
import Derived.Deep.LoopGhost
import Derived.Test.YtopeleenlcnkkaaGreatDoorM07
import Derived.Deep.DeepCutAuto
import Derived.Test.YtopeleenlcnkkaaGreatDoorM03
import Derived.Lib.AppendZerosOnto
import Derived.Lib.Walk
import Derived.Lib.SliceRun
set_option linter.unusedVariables false
set_option linter.unusedSimpArgs false
namespace Go.Proofs.YtopeleenlcnkkaaGreatDoor
open Go Go.RowKit
def recs (L : List Rec) : List Value := L.flatMap fun r => [.int .i64 r.pos, .int .i64 r.key, .int .i64 r.val]
def RecAt (w : World) (b o : Nat) (r : Rec) : Prop :=
  w.cell? ⟨b, o, none⟩ = some (.int .i64 r.pos) ∧ w.cell? ⟨b, o + 1, none⟩ = some (.int .i64 r.key) ∧ w.cell? ⟨b, o + 2, none⟩ = some (.int .i64 r.val)
def Soft (w : World) (b o : Nat) : Prop := w.frozen? ⟨b, o, none⟩ = false ∧ w.frozen? ⟨b, o + 1, none⟩ = false ∧ w.frozen? ⟨b, o + 2, none⟩ = false
/-- Records from 'off' on of block b, each of which may be written. -/
structure RW (w : World) (b off : Nat) (L : List Rec) : Prop where
  recs : ∀ i r, L[i]? = some r → RecAt w b (off + i * 3) r
  soft : ∀ i, i < L.length → Soft w b (off + i * 3)
theorem RecAt.pure {w w' : World} {b o : Nat} {r : Rec} (h : RecAt w b o r) (hk : Kept none' w w') : RecAt w' b o r :=
  ⟨hk.cell (fun h => h) h.1, hk.cell (fun h => h) h.2.1, hk.cell (fun h => h) h.2.2⟩
theorem RW.pure {w w' : World} {b off : Nat} {L : List Rec} (h : RW w b off L) (hk : Kept none' w w') : RW w' b off L := by
  refine ⟨fun i r hr => (h.recs i r hr).pure hk, fun i hi => ?_⟩
  obtain ⟨r, hr⟩ : ∃ r, L[i]? = some r := ⟨_, List.getElem?_eq_getElem hi⟩
  have hb := block_lt_of_cell (h.recs i r hr).1
  have hs := h.soft i hi
  exact ⟨by rw [hk.fq _ _ hb]; exact hs.1, by rw [hk.fq _ _ hb]; exact hs.2.1, by rw [hk.fq _ _ hb]; exact hs.2.2⟩
def putRec (w : World) (b o : Nat) (r : Rec) : World := ((w.setCell ⟨b, o, none⟩ (.int .i64 r.pos)).setCell ⟨b, o + 1, none⟩ (.int .i64 r.key)).setCell ⟨b, o + 2, none⟩ (.int .i64 r.val)
theorem putRec_same {w : World} {b o : Nat} {r x : Rec} (h : RecAt w b o x) : RecAt (putRec w b o r) b o r := by
  obtain ⟨h0, h1, h2⟩ := h
  unfold putRec RecAt
  refine ⟨?_, ?_, ?_⟩
  · rw [World.cell?_setCell_other _ _ _ _ (by simp), World.cell?_setCell_other _ _ _ _ (by simp), World.cell?_setCell_same _ _ _ h0]
  · rw [World.cell?_setCell_other _ _ _ _ (by simp), World.cell?_setCell_same _ _ _ (by rw [World.cell?_setCell_other _ _ _ _ (by simp)]; exact h1)]
  · rw [World.cell?_setCell_same _ _ _ (by rw [World.cell?_setCell_other _ _ _ _ (by simp), World.cell?_setCell_other _ _ _ _ (by simp)]; exact h2)]
theorem putRec_far {w : World} {b o o' : Nat} {r x : Rec} (h : RecAt w b o' x) (hne : o' + 2 < o ∨ o + 2 < o') : RecAt (putRec w b o r) b o' x := by
  obtain ⟨h0, h1, h2⟩ := h
  unfold putRec RecAt
  refine ⟨?_, ?_, ?_⟩
  · rw [World.cell?_setCell_other _ _ _ _ (by intro e; injection e with _ e _; omega), World.cell?_setCell_other _ _ _ _ (by intro e; injection e with _ e _; omega), World.cell?_setCell_other _ _ _ _ (by intro e; injection e with _ e _; omega)]; exact h0
  · rw [World.cell?_setCell_other _ _ _ _ (by intro e; injection e with _ e _; omega), World.cell?_setCell_other _ _ _ _ (by intro e; injection e with _ e _; omega), World.cell?_setCell_other _ _ _ _ (by intro e; injection e with _ e _; omega)]; exact h1
  · rw [World.cell?_setCell_other _ _ _ _ (by intro e; injection e with _ e _; omega), World.cell?_setCell_other _ _ _ _ (by intro e; injection e with _ e _; omega), World.cell?_setCell_other _ _ _ _ (by intro e; injection e with _ e _; omega)]; exact h2
theorem RW.put {w : World} {b off i : Nat} {L : List Rec} (h : RW w b off L) (r : Rec) (hi : i < L.length) : RW (putRec w b (off + i * 3) r) b off (L.set i r) := by
  refine ⟨fun j x hx => ?_, fun j hj => ?_⟩
  · by_cases e : i = j
    · subst e
      rw [List.getElem?_set_self hi] at hx
      cases hx
      exact putRec_same (h.recs i _ (List.getElem?_eq_getElem hi))
    · rw [List.getElem?_set_ne e] at hx
      exact putRec_far (h.recs j x hx) (by omega)
  · rw [List.length_set] at hj
    have := h.soft j hj
    unfold Soft putRec at *
    simpa using this
theorem RW.swap {w : World} {b off i j : Nat} {L : List Rec} (h : RW w b off L) (x y : Rec) (hi : i < L.length) (hj : j < L.length) : RW (putRec (putRec w b (off + i * 3) y) b (off + j * 3) x) b off ((L.set i y).set j x) :=
  (h.put y hi).put x (by rw [List.length_set]; exact hj)
end Go.Proofs.YtopeleenlcnkkaaGreatDoor
/-
  slices.rotate over records: two runs that stand beside each other change places.
-/
namespace Go.Proofs.YtopeleenlcnkkaaGreatDoor
open Go Go.RowKit
end Go.Proofs.YtopeleenlcnkkaaGreatDoor
/-
  slices.insertionSort over records: a stretch comes sorted, those of one place as they were.
-/
namespace Go.Proofs.YtopeleenlcnkkaaGreatDoor
open Go Go.RowKit
attribute [local irreducible] wpL wpH
end Go.Proofs.YtopeleenlcnkkaaGreatDoor
/-
  slices.symMerge over records: two sorted runs that stand beside each other come sorted. First: one of them is a single record.
-/
namespace Go.Proofs.YtopeleenlcnkkaaGreatDoor
open Go Go.RowKit
attribute [local irreducible] wpL wpH
end Go.Proofs.YtopeleenlcnkkaaGreatDoor
/-
  slices.symMerge over records: the right run is a single record.
-/
namespace Go.Proofs.YtopeleenlcnkkaaGreatDoor
open Go Go.RowKit
attribute [local irreducible] wpL wpH
end Go.Proofs.YtopeleenlcnkkaaGreatDoor
/-
  slices.symMerge over records: what follows its search: the rotation, and the two halves merged.
-/
namespace Go.Proofs.YtopeleenlcnkkaaGreatDoor
open Go Go.RowKit
attribute [local irreducible] wpL wpH
theorem Sorted.get {L : List Rec} (h : Sorted L) {i j : Nat} {u v : Rec} (hu : L[i]? = some u) (hv : L[j]? = some v) (hij : i ≤ j) : u.pos ≤ v.pos := by
  obtain ⟨h1, rfl⟩ := List.getElem?_eq_some_iff.1 hu
  obtain ⟨h2, rfl⟩ := List.getElem?_eq_some_iff.1 hv
  rcases Nat.lt_or_eq_of_le hij with hlt | rfl
  · exact List.pairwise_iff_getElem.1 h i j h1 h2 hlt
  · exact Int.le_refl _
/-- What the search has found of the places c from lo to hi: where 'gt', the right one goes ahead. -/
def Found (A B : List Rec) (a m p lo hi : Nat) (gt : Bool) : Prop := ∀ c, lo ≤ c → c < hi → ∀ u v, A[c - a]? = some u → B[p - c - m]? = some v → decide (v.pos < u.pos) = gt
theorem Found.left {A B : List Rec} {a m p lo c : Nat} (hA : Sorted A) (hB : Sorted B) (h1 : a ≤ lo) {u v : Rec} (hu : A[c - a]? = some u) (hv : B[p - c - m]? = some v) (hle : u.pos ≤ v.pos) : Found A B a m p lo (c + 1) false := by
  intro d h2 h3 x y hx hy
  have h4 := hA.get hx hu (by omega)
  have h5 := hB.get hv hy (by omega)
  exact decide_eq_false (by omega)
theorem Found.right {A B : List Rec} {a m p hi c : Nat} (hA : Sorted A) (hB : Sorted B) (h1 : a ≤ c) {u v : Rec} (hu : A[c - a]? = some u) (hv : B[p - c - m]? = some v) (hlt : v.pos < u.pos) : Found A B a m p c hi true := by
  intro d h2 h3 x y hx hy
  have h4 := hA.get hu hx (by omega)
  have h5 := hB.get hy hv (by omega)
  exact decide_eq_true (by omega)
end Go.Proofs.YtopeleenlcnkkaaGreatDoor
/-
  slices.symMerge over records: two sorted runs that stand beside each other come sorted, those of one place as they were.
-/
namespace Go.Proofs.YtopeleenlcnkkaaGreatDoor
open Go Go.RowKit
attribute [local irreducible] wpL wpH
end Go.Proofs.YtopeleenlcnkkaaGreatDoor
/-
  slices.SortStableFunc over records: what came in, merged.
-/
namespace Go.Proofs.YtopeleenlcnkkaaGreatDoor
open Go Go.RowKit
attribute [local irreducible] wpL wpH
def Full (bs : Nat) (Bs : List (List Rec)) : Prop := ∀ X ∈ Bs, X.length = bs ∧ Sorted X
theorem Full.snoc {bs : Nat} {Bs : List (List Rec)} {X : List Rec} (h : Full bs Bs) (h1 : X.length = bs) (h2 : Sorted X) : Full bs (Bs ++ [X]) := by
  intro Y hY
  rcases List.mem_append.1 hY with hY | hY
  · exact h Y hY
  · simp at hY; subst hY; exact ⟨h1, h2⟩
/-- Sorted blocks of bs each, and a last one that is shorter. -/
def Chop (bs : Nat) (L : List Rec) : Prop := ∃ Bs last, L = Bs.flatten ++ last ∧ Full bs Bs ∧ last.length < bs ∧ Sorted last
theorem Chop.done {bs : Nat} {L : List Rec} (h : Chop bs L) (hl : L.length ≤ bs) : Sorted L := by
  obtain ⟨Bs, last, rfl, h1, h2, h3⟩ := h
  match Bs, h1 with
  | [], _ => simpa using h3
  | X :: Bs, h1 =>
    have hx := h1 X (by simp)
    simp only [List.flatten_cons, List.length_append] at hl
    have e1 : Bs.flatten = [] := List.eq_nil_of_length_eq_zero (by omega)
    have e2 : last = [] := List.eq_nil_of_length_eq_zero (by omega)
    rw [List.flatten_cons, e1, e2]
    simpa using hx.2
end Go.Proofs.YtopeleenlcnkkaaGreatDoor
/-
  slices.Grow of no slice, slices.Concat, slices.SortStableFunc, oper.Merge: what came in, one behind the other; merged.
-/
namespace Go.Proofs.YtopeleenlcnkkaaGreatDoor
open Go Go.RowKit Go.Lib
attribute [local irreducible] wpL wpH
theorem Tryz.info44 : ∃ i z, Tryz.prog.info? 44 = some i ∧ i.zero = some z ∧ i.size = 3 ∧ i.bytes = 24 ∧ z.cells.size = 3 := by
  have h : (Tryz.prog.info? 44).map (fun i => (i.zero, i.size, i.bytes)) = some (some (.agg #[.int .i64 0, .int .i64 0, .int .i64 0]), 3, 24) := by kernel_rfl
  obtain ⟨i, hi, h⟩ := Option.map_eq_some_iff.1 h
  simp only [Prod.mk.injEq] at h
  exact ⟨i, _, hi, h.1, h.2.1, h.2.2, by rfl⟩
theorem recs_length (L : List Rec) : (recs L).length = L.length * 3 := by
  unfold recs
  induction L with
  | nil => rfl
  | cons x L ih => simp only [List.flatMap_cons, List.length_append, List.length_cons, List.length_nil]; omega
theorem recs_append (L M : List Rec) : recs (L ++ M) = recs L ++ recs M := by unfold recs; rw [List.flatMap_append]
theorem recs_one (L : List Rec) : ∀ x ∈ recs L, x.oneCell' = true := by
  intro x hx
  unfold recs at hx
  obtain ⟨r, _, hr⟩ := List.mem_flatMap.1 hx
  simp at hr
  rcases hr with rfl | rfl | rfl <;> rfl
theorem Reads.len {w : World} {v : Value} {L : List Rec} (h : Reads w 3 v (recs L)) : ∃ a cap, v = .slice a L.length cap ∧ L.length ≤ cap ∧ cap ≤ maxLen := by
  obtain ⟨a, n, cap, rfl, h1, h2, h3, _⟩ := h
  rw [recs_length] at h3
  obtain rfl : L.length = n := by omega
  exact ⟨a, cap, rfl, h1, h2⟩
theorem owns_own {w : World} {base e size n : Nat} {v : Value} {xs : List Value} (h : w.ownsRow base e size v n xs) {b : Nat} (hb : v.ownBlock = some b) : base ≤ b ∧ b < w.heap.size := by
  rcases h.2 with ⟨rfl, _⟩ | ⟨g, cap, cur, rfl, h1, h2, _⟩
  · cases hb
  · cases hb; exact ⟨h1, (Array.getElem?_eq_some_iff.1 h2).1⟩
/-- A slice of slices of records. -/
def Rows2 (w : World) (v : Value) (LL : List (List Rec)) : Prop := ∃ vs : List Value, vs.length = LL.length ∧ Reads w 1 v vs ∧ ∀ (i : Nat) (u : Value) (L : List Rec), vs[i]? = some u → LL[i]? = some L → Reads w 3 u (recs L)
theorem Rows2.pure {w w' : World} {v : Value} {LL : List (List Rec)} (h : Rows2 w v LL) (hk : Kept none' w w') : Rows2 w' v LL := by
  obtain ⟨vs, h1, h2, h3⟩ := h
  exact ⟨vs, h1, h2.pure hk, fun i u L hu hL => (h3 i u L hu hL).pure hk⟩
end Go.Proofs.YtopeleenlcnkkaaGreatDoor
/-
  slices.SortStableFunc and oper.Merge over records: what came in, merged.
-/
namespace Go.Proofs.YtopeleenlcnkkaaGreatDoor
open Go Go.RowKit Go.Lib
attribute [local irreducible] wpL wpH
theorem recs_get {L : List Rec} : ∀ {i : Nat} {r : Rec}, L[i]? = some r → (recs L)[i * 3]? = some (.int .i64 r.pos) ∧ (recs L)[i * 3 + 1]? = some (.int .i64 r.key) ∧ (recs L)[i * 3 + 2]? = some (.int .i64 r.val) := by
  induction L with
  | nil => intro i r h; simp at h
  | cons x L ih =>
    intro i r h
    have e : recs (x :: L) = .int .i64 x.pos :: .int .i64 x.key :: .int .i64 x.val :: recs L := rfl
    cases i with
    | zero => rw [List.getElem?_cons_zero] at h; cases h; rw [e]; exact ⟨rfl, rfl, rfl⟩
    | succ i =>
      rw [List.getElem?_cons_succ] at h
      obtain ⟨h1, h2, h3⟩ := ih h
      rw [e, show (i + 1) * 3 = i * 3 + 3 by omega]
      exact ⟨h1, h2, h3⟩
theorem RW.of_owns {w : World} {base e g n cap : Nat} {L : List Rec} (h : w.ownsRow base e 3 (.slice (some ⟨g, 0, none⟩) n cap) n (Go.Proofs.YtopeleenlcnkkaaGreatDoor.recs L)) : RW w g 0 L := by
  obtain ⟨h1, ⟨h2, _⟩ | ⟨g', cap', cur, h2, hb, hg, hn, hc, hs, ht⟩⟩ := h
  · cases h2
  · injection h2 with h2 _ _
    injection h2 with h2
    injection h2 with h2 _ _
    subst h2
    rw [recs_length] at h1
    have get : ∀ j x, (Go.Proofs.YtopeleenlcnkkaaGreatDoor.recs L)[j]? = some x → w.cell? ⟨g, j, none⟩ = some x := by
      intro j x hx
      rw [cell_of_row w g j cur e (0, 0) hg]
      rw [← ht, List.getElem?_take] at hx
      split at hx
      · simpa using hx
      · cases hx
    refine ⟨fun i r hr => ?_, fun i _ => ⟨frozen_of_row w g _ cur e hg, frozen_of_row w g _ cur e hg, frozen_of_row w g _ cur e hg⟩⟩
    obtain ⟨q0, q1, q2⟩ := recs_get hr
    rw [Nat.zero_add]
    exact ⟨get _ _ q0, get _ _ q1, get _ _ q2⟩
theorem Reads.recAt {w : World} {v : Value} {L : List Rec} (h : Reads w 3 v (recs L)) : ∃ a cap, v = .slice a L.length cap ∧ L.length ≤ cap ∧ cap ≤ maxLen ∧ (L = [] ∨ ∃ b off, a = some ⟨b, off, none⟩ ∧ ∀ i r, L[i]? = some r → RecAt w b (off + i * 3) r) := by
  obtain ⟨a, cap, hv, h1, h2⟩ := h.len
  refine ⟨a, cap, hv, h1, h2, ?_⟩
  obtain ⟨a', n, cap', hv', _, _, h3, h4⟩ := h
  rw [hv] at hv'
  injection hv' with e1 e2 e3
  subst e1
  rcases h4 with h4 | ⟨b, off, hb, h4⟩
  · left
    have := congrArg List.length h4
    rw [recs_length] at this
    exact List.eq_nil_of_length_eq_zero (by simp only [List.length_nil] at this; omega)
  · right
    refine ⟨b, off, hb, fun i r hr => ?_⟩
    obtain ⟨q0, q1, q2⟩ := recs_get hr
    exact ⟨h4 _ _ q0, by have := h4 _ _ q1; rwa [← Nat.add_assoc] at this, by have := h4 _ _ q2; rwa [← Nat.add_assoc] at this⟩
end Go.Proofs.YtopeleenlcnkkaaGreatDoor
