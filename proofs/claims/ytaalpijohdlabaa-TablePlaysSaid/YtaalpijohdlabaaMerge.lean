/-
  slices.SortStableFunc and oper.Merge over records: what came in, merged.
-/
import Derived.Test.YtaalpijohdlabaaGrow
namespace Go.Proofs.Ytaalpijohdlabaa
open Go Go.RowKit Go.Lib
attribute [local irreducible] wpL wpH
theorem recs_get {L : List Rec} : ∀ {i : Nat} {r : Rec}, L[i]? = some r → (recs L)[i * 3]? = some (.int .i64 r.pos) ∧ (recs L)[i * 3 + 1]? = some (.int .i64 r.key) ∧ (recs L)[i * 3 + 2]? = some (.int .i64 r.val) := by
  induction L with
  | nil => intro i r h; simp at h
  | cons x L ih =>
    intro i r h
    have e : recs (x :: L) = .int .i64 x.pos :: .int .i64 x.key :: .int .i64 x.val :: recs L := rfl
    cases i with
    | zero => rw [List.getElem?_cons_zero] at h; cases h; rw [e]; exact ⟨rfl, rfl, rfl⟩
    | succ i =>
      rw [List.getElem?_cons_succ] at h
      obtain ⟨h1, h2, h3⟩ := ih h
      rw [e, show (i + 1) * 3 = i * 3 + 3 by omega]
      exact ⟨h1, h2, h3⟩
theorem recs_inv {L : List Rec} : ∀ {j : Nat} {x : Value}, (recs L)[j]? = some x → ∃ i r, L[i]? = some r ∧ (j = i * 3 ∧ x = .int .i64 r.pos ∨ j = i * 3 + 1 ∧ x = .int .i64 r.key ∨ j = i * 3 + 2 ∧ x = .int .i64 r.val) := by
  induction L with
  | nil => intro j x h; simp [recs] at h
  | cons y L ih =>
    intro j x h
    have e : recs (y :: L) = .int .i64 y.pos :: .int .i64 y.key :: .int .i64 y.val :: recs L := rfl
    rw [e] at h
    match j, h with
    | 0, h => exact ⟨0, y, rfl, .inl ⟨rfl, by simpa using h.symm⟩⟩
    | 1, h => exact ⟨0, y, rfl, .inr (.inl ⟨rfl, by simpa using h.symm⟩)⟩
    | 2, h => exact ⟨0, y, rfl, .inr (.inr ⟨rfl, by simpa using h.symm⟩)⟩
    | j + 3, h =>
      obtain ⟨i, r, h1, h2⟩ := ih (j := j) (x := x) (by simpa using h)
      refine ⟨i + 1, r, by simpa using h1, ?_⟩
      rcases h2 with ⟨h2, h3⟩ | ⟨h2, h3⟩ | ⟨h2, h3⟩
      · exact .inl ⟨by omega, h3⟩
      · exact .inr (.inl ⟨by omega, h3⟩)
      · exact .inr (.inr ⟨by omega, h3⟩)
theorem RW.of_owns {w : World} {base e g n cap : Nat} {L : List Rec} (h : w.ownsRow base e 3 (.slice (some ⟨g, 0, none⟩) n cap) n (Go.Proofs.Ytaalpijohdlabaa.recs L)) : RW w g 0 L := by
  obtain ⟨h1, ⟨h2, _⟩ | ⟨g', cap', cur, h2, hb, hg, hn, hc, hs, ht⟩⟩ := h
  · cases h2
  · injection h2 with h2 _ _
    injection h2 with h2
    injection h2 with h2 _ _
    subst h2
    rw [recs_length] at h1
    have get : ∀ j x, (Go.Proofs.Ytaalpijohdlabaa.recs L)[j]? = some x → w.cell? ⟨g, j, none⟩ = some x := by
      intro j x hx
      rw [cell_of_row w g j cur e (0, 0) hg]
      rw [← ht, List.getElem?_take] at hx
      split at hx
      · simpa using hx
      · cases hx
    refine ⟨fun i r hr => ?_, fun i _ => ⟨frozen_of_row w g _ cur e hg, frozen_of_row w g _ cur e hg, frozen_of_row w g _ cur e hg⟩⟩
    obtain ⟨q0, q1, q2⟩ := recs_get hr
    rw [Nat.zero_add]
    exact ⟨get _ _ q0, get _ _ q1, get _ _ q2⟩
theorem RW.reads {w : World} {b off cap : Nat} {L : List Rec} (h : RW w b off L) (h1 : L.length ≤ cap) (h2 : cap ≤ maxLen) : Reads w 3 (.slice (some ⟨b, off, none⟩) L.length cap) (Go.Proofs.Ytaalpijohdlabaa.recs L) := by
  refine ⟨_, _, _, rfl, h1, h2, recs_length L, .inr ⟨b, off, rfl, fun j x hx => ?_⟩⟩
  obtain ⟨i, r, hr, ⟨rfl, rfl⟩ | ⟨rfl, rfl⟩ | ⟨rfl, rfl⟩⟩ := recs_inv hx
  · exact (h.recs i r hr).1
  · exact (h.recs i r hr).2.1
  · exact (h.recs i r hr).2.2
theorem Reads.recAt {w : World} {v : Value} {L : List Rec} (h : Reads w 3 v (recs L)) : ∃ a cap, v = .slice a L.length cap ∧ L.length ≤ cap ∧ cap ≤ maxLen ∧ (L = [] ∨ ∃ b off, a = some ⟨b, off, none⟩ ∧ ∀ i r, L[i]? = some r → RecAt w b (off + i * 3) r) := by
  obtain ⟨a, cap, hv, h1, h2⟩ := h.len
  refine ⟨a, cap, hv, h1, h2, ?_⟩
  obtain ⟨a', n, cap', hv', _, _, h3, h4⟩ := h
  rw [hv] at hv'
  injection hv' with e1 e2 e3
  subst e1
  rcases h4 with h4 | ⟨b, off, hb, h4⟩
  · left
    have := congrArg List.length h4
    rw [recs_length] at this
    exact List.eq_nil_of_length_eq_zero (by simp only [List.length_nil] at this; omega)
  · right
    refine ⟨b, off, hb, fun i r hr => ?_⟩
    obtain ⟨q0, q1, q2⟩ := recs_get hr
    exact ⟨h4 _ _ q0, by have := h4 _ _ q1; rwa [← Nat.add_assoc] at this, by have := h4 _ _ q2; rwa [← Nat.add_assoc] at this⟩
set_option maxRecDepth 100000 in
theorem insertion_nil (w : World) : Calls Try.prog 107 #[.slice none 0 0, .int .i64 0, .int .i64 0, .func (.func 59) #[] #[]] w (Gives w (.tuple #[])) := by
  go_enter Try.func107, Try.ntmps107
  go_wp2
  go_loopw [8] (fun i wr => i = .int .i64 1 ∧ wr = w) (fun _ _ => 0)
  case atStart => exact ⟨rfl, rfl⟩
  case round =>
    obtain ⟨rfl, rfl⟩ := hrel
    go_wp2_with fail
    go_end0
    exact ⟨rfl, Kept.refl _ _⟩
set_option maxRecDepth 100000 in
theorem stable_nil (w : World) : Calls Try.prog 95 #[.slice none 0 0, .int .i64 0, .func (.func 59) #[] #[]] w (Gives w (.tuple #[])) := by
  go_enter Try.func95, Try.ntmps95
  go_wp2
  go_loopw [7, 8] (fun i j wr => i = .int .i64 0 ∧ j = .int .i64 20 ∧ wr = w) (fun _ _ _ => 0)
  case atStart => exact ⟨rfl, rfl, rfl⟩
  case round =>
    obtain ⟨rfl, rfl, rfl⟩ := hrel
    go_wp2_with fail
    refine (insertion_nil _).mono ?_
    rintro e w2 ⟨rfl, k2⟩
    go_wp2_with fail
    go_loopw [6] (fun i wr => i = .int .i64 20 ∧ wr = w2) (fun _ _ => 0)
    case atStart => exact ⟨rfl, rfl⟩
    case round =>
      obtain ⟨rfl, rfl⟩ := hrel
      go_wp2_with fail
      go_end0
      exact ⟨rfl, k2⟩
set_option maxRecDepth 100000 in
theorem sortStable_nil (w : World) : Calls Try.prog 58 #[.slice none 0 0, .func (.func 59) #[] #[]] w (Gives w (.tuple #[])) := by
  go_enter Try.func58, Try.ntmps58
  go_wp2_with fail
  refine (stable_nil _).mono ?_
  rintro e w2 ⟨rfl, k2⟩
  go_wp2_with fail
  go_end0
  exact ⟨rfl, k2⟩
set_option maxRecDepth 100000 in
theorem sortStable_any (b off cap N : Nat) (hN2 : N < 1099511627776) (L : List Rec) (w : World) (h : RW w b off L) (hN : L.length = N) :
    Calls Try.prog 58 #[.slice (some ⟨b, off, none⟩) N cap, .func (.func 59) #[] #[]] w (Moves w b off (smerge L)) := by
  have H := Lib.hid (stable_any b off cap N hN2 L w h hN)
  clear h hN
  go_enter Try.func58, Try.ntmps58
  go_wp2_with fail
  refine H.out.mono ?_
  rintro e w2 ⟨rfl, k2⟩
  have K2 := Lib.hid k2
  clear k2
  go_wp2_with fail
  go_end0
  exact ⟨rfl, K2.out⟩
/-- The end of a call that answers records in new memory. -/
def NewRecs (w : World) (L : List Rec) (e : Ending) (w' : World) : Prop := ∃ v, e = .returned v ∧ Reads w' 3 v (recs L) ∧ (∀ b, Value.blk v = some b → w.heap.size ≤ b) ∧ Kept none' w w'
set_option maxRecDepth 100000 in
set_option maxHeartbeats 1000000 in
theorem merge_any (v : Value) (LL : List (List Rec)) (w : World) (h : Rows2 w v LL) (hb : LL.flatten.length ≤ 1073741824) : Calls Try.prog 24 #[v] w (NewRecs w (smerge LL.flatten)) := by
  have hc := concat_any v LL w h hb
  have hva : ∃ a n cap, v = .slice a n cap := by obtain ⟨_, _, ⟨a, n, cap, rfl, _⟩, _⟩ := h; exact ⟨a, n, cap, rfl⟩
  obtain ⟨a, n, cap, rfl⟩ := hva
  clear h
  obtain ⟨K, hK⟩ : ∃ K, LL.flatten = K := ⟨_, rfl⟩
  rw [hK] at hc hb ⊢
  clear hK
  have HB := Lib.hid hb
  clear hb
  go_enter Try.func24, Try.ntmps24
  go_wp2_with fail
  refine hc.mono ?_
  rintro e w1 ⟨v1, rfl, g1, g2⟩
  clear hc
  have hf : ∃ g cp, (v1 = .slice none 0 0 ∧ K = []) ∨ (v1 = .slice (some ⟨g, 0, none⟩) K.length cp ∧ w.heap.size ≤ g ∧ RW w1 g 0 K ∧ K.length ≤ cp ∧ cp ≤ maxLen) := by
    rcases id g1 with ⟨h1, ⟨h2, h3⟩ | ⟨g, cp, cur, rfl, hb, hg, hn, hc, hs, ht⟩⟩
    · exact ⟨0, 0, .inl ⟨h2, List.eq_nil_of_length_eq_zero h3⟩⟩
    · exact ⟨g, cp, .inr ⟨rfl, hb, .of_owns g1, hn, hc⟩⟩
  obtain ⟨g, cp, ⟨rfl, hnil⟩ | ⟨rfl, hg, hrw, hn, hc⟩⟩ := hf
  · have F : ∀ w2, Kept none' w1 w2 → NewRecs w (smerge K) (.returned (.slice none 0 0)) w2 := fun w2 k2 =>
      ⟨_, rfl, by rw [hnil, show recs (smerge []) = [] from by simp [smerge, recs]]; exact Reads.nil _ _, fun b hb => (by cases hb), g2.trans k2⟩
    have FF := Lib.hid F
    clear F hnil g1 g2
    go_wp2_with fail
    refine (sortStable_nil _).mono ?_
    rintro e w2 ⟨rfl, k2⟩
    go_wp2_with fail
    go_ret
    exact FF.out _ k2
  · have HS := Lib.hid (sortStable_any g 0 cp K.length (by have := HB.out; omega) K w1 hrw rfl)
    have F : ∀ w2, RW w2 g 0 (smerge K) → Kept (one g) w1 w2 → NewRecs w (smerge K) (.returned (.slice (some ⟨g, 0, none⟩) K.length cp)) w2 := fun w2 r2 k2 => by
      refine ⟨_, rfl, ?_, fun b hb => ?_, g2.new k2 (fun i hi e => by unfold one at e; omega)⟩
      · have := r2.reads (by rw [smerge_length]; exact hn) hc
        rwa [smerge_length] at this
      · have e1 : Value.blk (.slice (some ⟨g, 0, none⟩) K.length cp) = if K.length = 0 then none else some g := rfl
        rw [e1] at hb
        split at hb
        · cases hb
        · cases hb; exact hg
    have FF := Lib.hid F
    clear F g1 g2 hg hrw hn hc
    go_wp2_with fail
    refine HS.out.mono ?_
    rintro e w2 ⟨rfl, r2, k2⟩
    have F2 := Lib.hid (FF.out w2 r2 k2)
    clear r2 k2
    go_wp2_with fail
    go_ret
    exact F2.out
end Go.Proofs.Ytaalpijohdlabaa
