/-
  RECORDS IN PLAIN WORDS: what it is to be merged: in order of places, those of one place as they came.
-/
import Derived.Test.YtmcoaebldobapaaGreatDoorD04
set_option linter.unusedVariables false
set_option linter.unusedSimpArgs false
namespace Go.Proofs.YtmcoaebldobapaaGreatDoor
/-- A record: its place, its key, its number. -/
structure Rec where
  pos : Int
  key : Int
  val : Int
deriving DecidableEq
instance : Inhabited Rec := ⟨⟨0, 0, 0⟩⟩
/-- Of each place the records are the same, in the same order. -/
def Same (L M : List Rec) : Prop := ∀ p : Int, L.filter (fun r => r.pos == p) = M.filter (fun r => r.pos == p)
def Sorted (L : List Rec) : Prop := L.Pairwise fun a b => a.pos ≤ b.pos
theorem Same.refl (L : List Rec) : Same L L := fun _ => rfl
theorem Same.symm {L M : List Rec} (h : Same L M) : Same M L := fun p => (h p).symm
theorem Same.trans {L M N : List Rec} (h : Same L M) (k : Same M N) : Same L N := fun p => (h p).trans (k p)
theorem Same.append {L L' M M' : List Rec} (h : Same L L') (k : Same M M') : Same (L ++ M) (L' ++ M') := fun p => by rw [List.filter_append, List.filter_append, h p, k p]
theorem Same.mem {L M : List Rec} (h : Same L M) {r : Rec} : r ∈ L ↔ r ∈ M := by
  have e : ∀ K : List Rec, r ∈ K ↔ r ∈ K.filter (fun x => x.pos == r.pos) := fun K => by simp
  rw [e L, e M, h r.pos]
theorem Same.nil {L : List Rec} (h : Same [] L) : L = [] := by
  cases L with
  | nil => rfl
  | cons x L => exact absurd (h.mem.2 (List.mem_cons_self (a := x) (l := L))) (by simp)
/-- What stands ahead of records of other places may stand behind them. -/
theorem Same.comm {A B : List Rec} (h : ∀ a ∈ A, ∀ b ∈ B, a.pos ≠ b.pos) : Same (A ++ B) (B ++ A) := by
  intro p
  rw [List.filter_append, List.filter_append]
  cases hA : A.filter (fun r => r.pos == p) with
  | nil => simp
  | cons x l =>
    have hx : x ∈ A.filter (fun r => r.pos == p) := by rw [hA]; simp
    have hx1 := (List.mem_filter.1 hx).1
    have hx2 : x.pos = p := by simpa using (List.mem_filter.1 hx).2
    have hB : B.filter (fun r => r.pos == p) = [] := by
      rw [List.filter_eq_nil_iff]
      intro b hb e
      exact h x hx1 b hb (by rw [hx2]; exact (by simpa using e : b.pos = p).symm)
    rw [hB]; simp
theorem Same.cons_inv {x : Rec} {L M : List Rec} (h : Same (x :: L) (x :: M)) : Same L M := by
  intro p
  have := h p
  rw [List.filter_cons, List.filter_cons] at this
  split at this
  · exact List.cons.inj this |>.2
  · exact this
/-- TWO SORTED ROWS of the same records are the same row. -/
theorem Sorted.unique : ∀ {L M : List Rec}, Sorted L → Sorted M → Same L M → L = M
  | [], M, _, _, h => h.nil.symm
  | x :: L, [], _, _, h => by cases h.symm.nil
  | x :: L, y :: M, hL, hM, h => by
    obtain ⟨hx, hL'⟩ := List.pairwise_cons.1 hL
    obtain ⟨hy, hM'⟩ := List.pairwise_cons.1 hM
    have h1 : y.pos ≤ x.pos := by
      rcases List.mem_cons.1 (h.mem.1 (List.mem_cons_self (a := x) (l := L))) with e | e
      · rw [e]; exact Int.le_refl _
      · exact hy x e
    have h2 : x.pos ≤ y.pos := by
      rcases List.mem_cons.1 (h.mem.2 (List.mem_cons_self (a := y) (l := M))) with e | e
      · rw [e]; exact Int.le_refl _
      · exact hx y e
    have he : x.pos = y.pos := by omega
    have := h x.pos
    rw [List.filter_cons, List.filter_cons, if_pos (by simp), if_pos (by simp [he])] at this
    obtain ⟨rfl, _⟩ := List.cons.inj this
    rw [Sorted.unique hL' hM' h.cons_inv]
theorem Same.length {L M : List Rec} (h : Same L M) : L.length = M.length := by
  have hp : ∀ (L M : List Rec), Same L M → L.Perm M := by
    intro L M h
    rw [List.perm_iff_count]
    intro r
    have e : ∀ K : List Rec, K.count r = (K.filter (fun x => x.pos == r.pos)).count r := fun K => (List.count_filter (by simp)).symm
    rw [e L, e M, h r.pos]
  exact (hp L M h).length_eq
theorem Sorted.append {A B : List Rec} (hA : Sorted A) (hB : Sorted B) (h : ∀ a ∈ A, ∀ b ∈ B, a.pos ≤ b.pos) : Sorted (A ++ B) := List.pairwise_append.2 ⟨hA, hB, h⟩
theorem Sorted.left {A B : List Rec} (h : Sorted (A ++ B)) : Sorted A := (List.pairwise_append.1 h).1
theorem Sorted.right {A B : List Rec} (h : Sorted (A ++ B)) : Sorted B := (List.pairwise_append.1 h).2.1
theorem Sorted.le {A B : List Rec} (h : Sorted (A ++ B)) : ∀ a ∈ A, ∀ b ∈ B, a.pos ≤ b.pos := (List.pairwise_append.1 h).2.2
/-- What merging makes. -/
def smerge (L : List Rec) : List Rec := L.mergeSort fun x y => decide (x.pos ≤ y.pos)
theorem smerge_sorted (L : List Rec) : Sorted (smerge L) := by
  have := List.pairwise_mergeSort (le := fun x y : Rec => decide (x.pos ≤ y.pos)) (fun a b c h k => by simp at *; omega) (fun a b => by simp; omega) L
  exact this.imp (fun h => by simpa using h)
theorem smerge_same (L : List Rec) : Same L (smerge L) := by
  intro p
  have hs : (L.filter (fun r => r.pos == p)).Sublist (smerge L) := by
    refine List.sublist_mergeSort (fun a b c h k => by simp at *; omega) (fun a b => by simp; omega) ?_ List.filter_sublist
    refine List.pairwise_of_forall_mem_list (fun a ha b hb => ?_)
    have h1 : a.pos = p := by simpa using (List.mem_filter.1 ha).2
    have h2 : b.pos = p := by simpa using (List.mem_filter.1 hb).2
    simp; omega
  have h2 := hs.filter (fun r => r.pos == p)
  rw [List.filter_filter] at h2
  simp only [Bool.and_self] at h2
  refine h2.eq_of_length ?_
  exact ((List.mergeSort_perm L _).filter _).length_eq.symm
theorem smerge_unique {L M : List Rec} (h : Sorted M) (k : Same L M) : M = smerge L := (Sorted.unique (smerge_sorted L) h ((smerge_same L).symm.trans k)).symm
theorem smerge_length (L : List Rec) : (smerge L).length = L.length := (smerge_same L).length.symm
theorem smerge_smerge (L : List Rec) : smerge (smerge L) = smerge L := (smerge_unique (smerge_sorted L) (Same.refl _)).symm
theorem mem_smerge {L : List Rec} {r : Rec} : r ∈ smerge L ↔ r ∈ L := (smerge_same L).mem.symm
end Go.Proofs.YtmcoaebldobapaaGreatDoor
