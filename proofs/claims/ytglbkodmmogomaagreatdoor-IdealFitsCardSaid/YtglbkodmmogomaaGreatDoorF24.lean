/-
  ideal.Fits: may a table be a node's?
-/
import Derived.Test.YtglbkodmmogomaaGreatDoorF21
import Derived.Test.YtglbkodmmogomaaGreatDoorF20
import Derived.Test.YtglbkodmmogomaaGreatDoorF06
import Derived.Test.YtglbkodmmogomaaGreatDoorF14
import Derived.IntWalk
set_option linter.unusedVariables false
set_option linter.unusedSimpArgs false
namespace Go.Proofs.YtglbkodmmogomaaGreatDoor
open Go Go.RowKit
attribute [local irreducible] wpL
theorem fitsCell_iff (kind n : Int) (c : Cell) : fitsCell kind n c = false ↔ (kind = 6 ∧ 0 < c.2.length) ∨ (kind = 7 ∧ (c.1 ≠ 0 ∨ c.2.length < 1 ∨ n ≤ (c.2.length : Int))) := by
  unfold fitsCell
  rw [Bool.and_eq_false_iff, Bool.not_eq_false', Bool.not_eq_false', Bool.and_eq_true, Bool.and_eq_true, Bool.or_eq_true, Bool.or_eq_true]
  simp only [decide_eq_true_eq, or_assoc]
theorem fitsP_no {kind n : Int} {T : Tab} {p : Int × Cell} (hp : p ∈ T) (h : fitsCell kind n p.2 = false) : fitsP kind n T = false := by
  unfold fitsP
  rw [Bool.and_eq_false_iff]
  right
  rw [List.all_eq_false]
  exact ⟨p, hp, by rw [h]; simp⟩
theorem fitsP_yes {kind n : Int} {T : Tab} (hs : stateful kind = true) (h : ∀ (m : Nat) (p : Int × Cell), m < T.length → T[m]? = some p → fitsCell kind n p.2 = true) : fitsP kind n T = true := by
  unfold fitsP
  rw [hs, Bool.true_and, List.all_eq_true]
  intro p hp
  obtain ⟨m, hm⟩ := List.getElem?_of_mem hp
  exact h m p (List.getElem?_eq_some_iff.1 hm).1 hm
theorem yes_next {kind n : Int} {T : Tab} {k : Nat} {q : Int × Cell} (hy : ∀ (m : Nat) (p : Int × Cell), m < k → T[m]? = some p → fitsCell kind n p.2 = true) (hq : T[k]? = some q) (h : fitsCell kind n q.2 = true) :
    ∀ (m : Nat) (p : Int × Cell), m < k + 1 → T[m]? = some p → fitsCell kind n p.2 = true := by
  intro m p hm hp
  by_cases hmk : m < k
  · exact hy m p hmk hp
  · have e1 : m = k := by omega
    subst e1
    rw [hq] at hp
    injection hp with hp
    rw [← hp]; exact h
theorem stateful_67 {k : Int} (h : stateful k = true) : k = 6 ∨ k = 7 := by
  unfold stateful at h
  simpa using h
theorem tget_at {T : Tab} (hT : Rises T) {m : Nat} {p : Int × Cell} (h : T[m]? = some p) : tget T p.1 = some p.2 := (tget_some hT).2 (List.mem_of_getElem? h)
set_option maxRecDepth 100000 in
set_option maxHeartbeats 2000000 in
theorem fits_any (d : JN) (a : Array Value) (B : Nat → Prop) (b m : Nat) (T : Tab) (w : World) (h : JNAt w a d) (hT : TabAt w B b m T) :
    Calls Tryz.prog 18 #[.agg a, .pointer (some ⟨b, 0, none⟩)] w (Gives w (.bool (fitsP d.kind d.n T))) := by
  obtain ⟨pi, ci, p, cap, rfl, _, _, _, hk0, hk1, hn, _⟩ := h
  obtain ⟨hn1, hn2⟩ := hn
  have kA : Kept none' w (w.alloc (.cells (jnC d pi ci p cap) 42)) := (Kept.refl _ _).alloc _
  have tA := hT.pure kA
  have hbB : (w.alloc (.cells (jnC d pi ci p cap) 42)).heap[w.heap.size]? = some (.cells (jnC d pi ci p cap) 42 (0, 0)) := heap_alloc_new _ _
  have c1 : (w.alloc (.cells (jnC d pi ci p cap) 42)).cell? ⟨w.heap.size, 1, none⟩ = some (.int .u8 d.kind) := cells_at hbB rfl
  obtain ⟨W1, hW1⟩ : ∃ W1, w.alloc (.cells (jnC d pi ci p cap) 42) = W1 := ⟨_, rfl⟩
  have cs := stateful_any d.kind W1
  have ck := keys_any B b m T W1 (hW1 ▸ tA)
  rw [hW1] at kA tA hbB c1
  have H := Lib.hid (And.intro kA (And.intro tA hbB))
  have HW := Lib.hid hW1
  clear hW1 kA hbB hT tA
  go_enter Tryz.func18, Tryz.ntmps18
  cases hs : stateful d.kind with
  | false =>
    rw [hs] at cs
    have F := Lib.hid (show fitsP d.kind d.n T = false by unfold fitsP; rw [hs]; rfl)
    clear hs
    go_wp2_with fail
    rw [HW.out]
    refine cs.mono ?_
    rintro e w' ⟨rfl, rfl⟩
    go_wp2_with fail
    go_ret
    exact ⟨ret_bool F.out.symm, H.out.1⟩
  | true =>
    rw [hs] at cs
    have HS := Lib.hid hs
    clear hs
    go_wp2_with fail
    rw [HW.out]
    refine cs.mono ?_
    rintro e w' ⟨rfl, rfl⟩
    go_wp2_with fail
    refine ck.mono ?_
    rintro e W2 ⟨v, rfl, hown, -, k2⟩
    obtain ⟨va, vc, rfl⟩ := owns_slice hown
    have hlen63 : T.length ≤ 9223372036854775807 := by
      obtain ⟨_, _, e1, e2, e3, _⟩ := (Reads.of_owns hown).at
      unfold maxLen at e3
      unfold tkeys at e2
      rw [List.length_map] at e2
      omega
    have hkl : (tkeys T).length = T.length := by unfold tkeys; rw [List.length_map]
    rw [hkl] at hown
    have K2 := Lib.hid (And.intro (H.out.1.trans k2) (And.intro (H.out.2.1.pure k2) (And.intro (k2.heap H.out.2.2 (fun h => h)) hown)))
    rw [hkl]
    clear hown k2 H c1
    go_wp2_with fail
    go_loopg [21] T.length (fun g vi wr => ∃ k : Nat, k ≤ T.length ∧ vi = .int .i64 (k : Int) ∧ T.length - k ≤ g ∧ Kept none' W2 wr ∧ ∀ (m : Nat) (p : Int × Cell), m < k → T[m]? = some p → fitsCell d.kind d.n p.2 = true)
    case atStart => exact ⟨0, by omega, rfl, by omega, Kept.refl _ _, fun m e hm => by omega⟩
    case round =>
      obtain ⟨k, hk, rfl, hg, hkp, hyes⟩ := hrel
      by_cases hlt : k < T.length
      · obtain ⟨q, hq⟩ : ∃ q, T[k]? = some q := ⟨_, List.getElem?_eq_getElem hlt⟩
        obtain ⟨pa, pc, pe, _, _, hcell⟩ := ((Reads.of_owns K2.out.2.2.2).pure hkp).at
        injection pe with pe1 pe2 pe3
        subst pe1 pe3
        clear pe2
        obtain ⟨bi, offi, rfl, hcell2⟩ := hcell.resolve_left (fun h => by rw [h] at hkl; simp at hkl; omega)
        have y0 := hcell2 k q.1 (by unfold tkeys; rw [List.getElem?_map, hq]; rfl)
        clear hcell hcell2
        have cg := get_any B b m T q.1 wr (K2.out.2.1.pure hkp)
        have hget := tget_at K2.out.2.1.ok.rises hq
        unfold GetQ at cg
        rw [hget] at cg
        simp only [Option.getD_some, Option.isSome_some] at cg
        obtain ⟨key, acc, L⟩ := q
        have hcok := K2.out.2.1.ok.cell _ (List.mem_of_getElem? hq)
        have hl16 : L.length ≤ 16 := hcok.2.2
        obtain ⟨ha1, ha2⟩ : R64 acc := hcok.1
        have hk67 := stateful_67 HS.out
        have hB1 := hkp.heap K2.out.2.2.1 (fun h => h)
        have HQ := Lib.hid hq
        have HYES := Lib.hid hyes
        have G := Lib.hid (And.intro hg (And.intro hkp (And.intro hget hB1)))
        clear hq hyes hg hkp hget hcok hB1 hk0 hk1
        simp only at cg y0
        clear hkl cs ck
        obtain ⟨uid, kind, ins, x, n⟩ := d
        rcases (show kind = 6 ∨ kind = 7 from hk67) with k6 | k6
        · subst k6
          clear hk67
          by_cases b1 : 0 < L.length
          · skip
            have F := Lib.hid (fitsP_no (List.mem_of_getElem? HQ.out) (show fitsCell 6 n (acc, L) = false from (fitsCell_iff _ _ _).2 (.inl ⟨rfl, b1⟩)))
            go_wp2_with (go_at_call 60; refine cg.mono ?_; rintro e w3 ⟨lv, n', rfl, hl1, rfl, k3⟩; obtain ⟨la, lc, rfl⟩ := owns_slice hl1; have z1 : w3.cell? ⟨w.heap.size, 1, none⟩ = some (.int .u8 6) := cells_at (k3.heap G.out.2.2.2 (fun h => h)) rfl; have z4 : w3.cell? ⟨w.heap.size, 6, none⟩ = some (.int .i64 n) := cells_at (k3.heap G.out.2.2.2 (fun h => h)) rfl; have zlt : w.heap.size < w3.heap.size := block_lt_of_cell z1; have z1a := ((Kept.refl none' w3).alloc (.cells #[.int .i64 acc, .slice la L.length lc] 109)).cell (fun h => h) z1; have z4a := ((Kept.refl none' w3).alloc (.cells #[.int .i64 acc, .slice la L.length lc] 109)).cell (fun h => h) z4; clear hl1)
            go_ret
            exact ⟨ret_bool F.out.symm, K2.out.1.trans (G.out.2.1.trans (k3.trans ((Kept.refl _ _).alloc _)))⟩
          · skip
            have F := Lib.hid (yes_next HYES.out HQ.out (show fitsCell 6 n (acc, L) = true by
              cases h : fitsCell 6 n (acc, L) with
              | true => rfl
              | false =>
                have h2 := (fitsCell_iff _ _ _).1 h
                simp only at h2
                omega))
            go_wp2_with (go_at_call 60; refine cg.mono ?_; rintro e w3 ⟨lv, n', rfl, hl1, rfl, k3⟩; obtain ⟨la, lc, rfl⟩ := owns_slice hl1; have z1 : w3.cell? ⟨w.heap.size, 1, none⟩ = some (.int .u8 6) := cells_at (k3.heap G.out.2.2.2 (fun h => h)) rfl; have z4 : w3.cell? ⟨w.heap.size, 6, none⟩ = some (.int .i64 n) := cells_at (k3.heap G.out.2.2.2 (fun h => h)) rfl; have zlt : w.heap.size < w3.heap.size := block_lt_of_cell z1; have z1a := ((Kept.refl none' w3).alloc (.cells #[.int .i64 acc, .slice la L.length lc] 109)).cell (fun h => h) z1; have z4a := ((Kept.refl none' w3).alloc (.cells #[.int .i64 acc, .slice la L.length lc] 109)).cell (fun h => h) z4; clear hl1)
            go_roundg (T.length - (k + 1))
            case rel => exact ⟨k + 1, by omega, by go_num, Nat.le_refl _, G.out.2.1.trans (k3.trans ((Kept.refl _ _).alloc _)), F.out⟩
            case measure => have := G.out.1; omega
        · subst k6
          clear hk67
          by_cases b1 : acc = 0
          · by_cases b2 : L.length < 1
            · skip
              have F := Lib.hid (fitsP_no (List.mem_of_getElem? HQ.out) (show fitsCell 7 n (acc, L) = false from (fitsCell_iff _ _ _).2 (.inr ⟨rfl, .inr (.inl b2)⟩)))
              go_wp2_with (go_at_call 60; refine cg.mono ?_; rintro e w3 ⟨lv, n', rfl, hl1, rfl, k3⟩; obtain ⟨la, lc, rfl⟩ := owns_slice hl1; have z1 : w3.cell? ⟨w.heap.size, 1, none⟩ = some (.int .u8 7) := cells_at (k3.heap G.out.2.2.2 (fun h => h)) rfl; have z4 : w3.cell? ⟨w.heap.size, 6, none⟩ = some (.int .i64 n) := cells_at (k3.heap G.out.2.2.2 (fun h => h)) rfl; have zlt : w.heap.size < w3.heap.size := block_lt_of_cell z1; have z1a := ((Kept.refl none' w3).alloc (.cells #[.int .i64 acc, .slice la L.length lc] 109)).cell (fun h => h) z1; have z4a := ((Kept.refl none' w3).alloc (.cells #[.int .i64 acc, .slice la L.length lc] 109)).cell (fun h => h) z4; clear hl1)
              go_ret
              exact ⟨ret_bool F.out.symm, K2.out.1.trans (G.out.2.1.trans (k3.trans ((Kept.refl _ _).alloc _)))⟩
            · by_cases b3 : n ≤ (L.length : Int)
              · skip
                have F := Lib.hid (fitsP_no (List.mem_of_getElem? HQ.out) (show fitsCell 7 n (acc, L) = false from (fitsCell_iff _ _ _).2 (.inr ⟨rfl, .inr (.inr b3)⟩)))
                go_wp2_with (go_at_call 60; refine cg.mono ?_; rintro e w3 ⟨lv, n', rfl, hl1, rfl, k3⟩; obtain ⟨la, lc, rfl⟩ := owns_slice hl1; have z1 : w3.cell? ⟨w.heap.size, 1, none⟩ = some (.int .u8 7) := cells_at (k3.heap G.out.2.2.2 (fun h => h)) rfl; have z4 : w3.cell? ⟨w.heap.size, 6, none⟩ = some (.int .i64 n) := cells_at (k3.heap G.out.2.2.2 (fun h => h)) rfl; have zlt : w.heap.size < w3.heap.size := block_lt_of_cell z1; have z1a := ((Kept.refl none' w3).alloc (.cells #[.int .i64 acc, .slice la L.length lc] 109)).cell (fun h => h) z1; have z4a := ((Kept.refl none' w3).alloc (.cells #[.int .i64 acc, .slice la L.length lc] 109)).cell (fun h => h) z4; clear hl1)
                go_ret
                exact ⟨ret_bool F.out.symm, K2.out.1.trans (G.out.2.1.trans (k3.trans ((Kept.refl _ _).alloc _)))⟩
              · skip
                have F := Lib.hid (yes_next HYES.out HQ.out (show fitsCell 7 n (acc, L) = true by
                  cases h : fitsCell 7 n (acc, L) with
                  | true => rfl
                  | false =>
                    have h2 := (fitsCell_iff _ _ _).1 h
                    simp only at h2
                    omega))
                go_wp2_with (go_at_call 60; refine cg.mono ?_; rintro e w3 ⟨lv, n', rfl, hl1, rfl, k3⟩; obtain ⟨la, lc, rfl⟩ := owns_slice hl1; have z1 : w3.cell? ⟨w.heap.size, 1, none⟩ = some (.int .u8 7) := cells_at (k3.heap G.out.2.2.2 (fun h => h)) rfl; have z4 : w3.cell? ⟨w.heap.size, 6, none⟩ = some (.int .i64 n) := cells_at (k3.heap G.out.2.2.2 (fun h => h)) rfl; have zlt : w.heap.size < w3.heap.size := block_lt_of_cell z1; have z1a := ((Kept.refl none' w3).alloc (.cells #[.int .i64 acc, .slice la L.length lc] 109)).cell (fun h => h) z1; have z4a := ((Kept.refl none' w3).alloc (.cells #[.int .i64 acc, .slice la L.length lc] 109)).cell (fun h => h) z4; clear hl1)
                go_roundg (T.length - (k + 1))
                case rel => exact ⟨k + 1, by omega, by go_num, Nat.le_refl _, G.out.2.1.trans (k3.trans ((Kept.refl _ _).alloc _)), F.out⟩
                case measure => have := G.out.1; omega
          · skip
            have F := Lib.hid (fitsP_no (List.mem_of_getElem? HQ.out) (show fitsCell 7 n (acc, L) = false from (fitsCell_iff _ _ _).2 (.inr ⟨rfl, .inl b1⟩)))
            go_wp2_with (go_at_call 60; refine cg.mono ?_; rintro e w3 ⟨lv, n', rfl, hl1, rfl, k3⟩; obtain ⟨la, lc, rfl⟩ := owns_slice hl1; have z1 : w3.cell? ⟨w.heap.size, 1, none⟩ = some (.int .u8 7) := cells_at (k3.heap G.out.2.2.2 (fun h => h)) rfl; have z4 : w3.cell? ⟨w.heap.size, 6, none⟩ = some (.int .i64 n) := cells_at (k3.heap G.out.2.2.2 (fun h => h)) rfl; have zlt : w.heap.size < w3.heap.size := block_lt_of_cell z1; have z1a := ((Kept.refl none' w3).alloc (.cells #[.int .i64 acc, .slice la L.length lc] 109)).cell (fun h => h) z1; have z4a := ((Kept.refl none' w3).alloc (.cells #[.int .i64 acc, .slice la L.length lc] 109)).cell (fun h => h) z4; clear hl1)
            go_ret
            exact ⟨ret_bool F.out.symm, K2.out.1.trans (G.out.2.1.trans (k3.trans ((Kept.refl _ _).alloc _)))⟩
      · have e1 : k = T.length := by omega
        subst e1
        have F := Lib.hid (And.intro (fitsP_yes HS.out hyes) hkp)
        clear hyes hkp
        go_wp2_with fail
        go_ret
        exact ⟨ret_bool F.out.1.symm, K2.out.1.trans F.out.2⟩
end Go.Proofs.YtglbkodmmogomaaGreatDoor
/-
  The document's tables in memory; less, find, many.
-/
namespace Go.Proofs.YtglbkodmmogomaaGreatDoor
open Go Go.RowKit
attribute [local irreducible] wpL
theorem rof_any (k : Int) (h : R64 k) (w : World) : Calls Tryz.prog 57 #[.int .i64 k] w fun e w' => e = .returned (.int .i64 (grp k)) ∧ w = w' := by
  have h1 : (wrap64 (k.tmod 8 + 8)).tmod 8 = grp k := by
    have e := tmod8 k
    obtain ⟨a, b⟩ := h
    unfold grp
    rw [e]
    split
    · rw [IntWalk.wrap64_in _ (by omega), Int.tmod_eq_emod_of_nonneg (by omega)]; omega
    · rw [IntWalk.wrap64_in _ (by omega), Int.tmod_eq_emod_of_nonneg (by omega)]; omega
  go_enter Tryz.func57, Tryz.ntmps57
  go_wp2_with fail
  go_ret
  exact ⟨rfl, rfl⟩
theorem less_any (a b : Int) (ha : R64 a) (hb : R64 b) (w : World) : Calls Tryz.prog 55 #[.int .i64 a, .int .i64 b] w fun e w' => e = .returned (.bool (lessB a b)) ∧ w = w' := by
  have H1 := Lib.hid ha
  have H2 := Lib.hid hb
  clear ha hb
  by_cases h1 : grp a < grp b
  · have e : lessB a b = true := lessB_iff.2 (.inl h1)
    rw [e]
    clear e
    go_enter Tryz.func55, Tryz.ntmps55
    go_wp2_with fail
    refine (rof_any a H1.out _).mono ?_
    rintro e w' ⟨rfl, rfl⟩
    go_wp2_with fail
    refine (rof_any b H2.out _).mono ?_
    rintro e w' ⟨rfl, rfl⟩
    go_wp2_with fail
    go_ret
    exact ⟨rfl, rfl⟩
  · have h1' : decide (grp a < grp b) = false := decide_eq_false h1
    by_cases h2 : grp a = grp b
    · have h3 : (grp a == grp b) = true := by simp [h2]
      have e : lessB a b = decide (a < b) := by unfold lessB; rw [decide_eq_false h1, decide_eq_true h2]; simp
      rw [e]
      clear e h2
      by_cases h4 : a < b
      · have h5 : decide (a < b) = true := decide_eq_true h4
        rw [h5]
        go_enter Tryz.func55, Tryz.ntmps55
        go_wp2_with fail
        refine (rof_any a H1.out _).mono ?_
        rintro e w' ⟨rfl, rfl⟩
        go_wp2_with fail
        refine (rof_any b H2.out _).mono ?_
        rintro e w' ⟨rfl, rfl⟩
        go_wp2_with fail
        go_ret
        exact ⟨rfl, rfl⟩
      · have h5 : decide (a < b) = false := decide_eq_false h4
        rw [h5]
        go_enter Tryz.func55, Tryz.ntmps55
        go_wp2_with fail
        refine (rof_any a H1.out _).mono ?_
        rintro e w' ⟨rfl, rfl⟩
        go_wp2_with fail
        refine (rof_any b H2.out _).mono ?_
        rintro e w' ⟨rfl, rfl⟩
        go_wp2_with fail
        go_ret
        exact ⟨rfl, rfl⟩
    · have h3 : (grp a == grp b) = false := by simp [h2]
      have e : lessB a b = false := by unfold lessB; rw [decide_eq_false h1, decide_eq_false h2]; rfl
      rw [e]
      clear e h2
      go_enter Tryz.func55, Tryz.ntmps55
      go_wp2_with fail
      refine (rof_any a H1.out _).mono ?_
      rintro e w' ⟨rfl, rfl⟩
      go_wp2_with fail
      refine (rof_any b H2.out _).mono ?_
      rintro e w' ⟨rfl, rfl⟩
      go_wp2_with fail
      go_ret
      exact ⟨rfl, rfl⟩
/-- A row of the document's table in memory. -/
def RRow (w : World) (b o : Nat) (p : Int × Cell) : Prop :=
  w.cell? ⟨b, o, none⟩ = some (.int .i64 p.1) ∧ w.cell? ⟨b, o + 1, none⟩ = some (.int .i64 p.2.1) ∧ ∃ lv, w.cell? ⟨b, o + 2, none⟩ = some lv ∧ Reads w 1 lv (ints p.2.2)
/-- The cells of rows. -/
def RRows (w : World) (cs : List Value) (T : Tab) : Prop :=
  cs.length = T.length * 3 ∧ ∀ (i : Nat) (p : Int × Cell), T[i]? = some p → cs[i * 3]? = some (.int .i64 p.1) ∧ cs[i * 3 + 1]? = some (.int .i64 p.2.1) ∧ ∃ lv, cs[i * 3 + 2]? = some lv ∧ Reads w 1 lv (ints p.2.2)
/-- A slice of rows that reads as a table. -/
def RTabV (w : World) (v : Value) (T : Tab) : Prop := ∃ cs, Reads w 3 v cs ∧ RRows w cs T
theorem RRows.pure {w w' : World} {cs : List Value} {T : Tab} (h : RRows w cs T) (hk : Kept none' w w') : RRows w' cs T :=
  ⟨h.1, fun i p hp => by obtain ⟨a, b, lv, c, d⟩ := h.2 i p hp; exact ⟨a, b, lv, c, d.pure hk⟩⟩
theorem RTabV.pure {w w' : World} {v : Value} {T : Tab} (h : RTabV w v T) (hk : Kept none' w w') : RTabV w' v T := by
  obtain ⟨cs, h1, h2⟩ := h
  exact ⟨cs, h1.pure hk, h2.pure hk⟩
theorem RTabV.parts {w : World} {v : Value} {T : Tab} (h : RTabV w v T) : ∃ a cap, v = .slice a T.length cap ∧ T.length ≤ cap ∧ cap ≤ maxLen ∧ (T = [] ∨ ∃ b off, a = some ⟨b, off, none⟩ ∧ ∀ i p, T[i]? = some p → RRow w b (off + i * 3) p) := by
  obtain ⟨cs, ⟨a, n, cap, rfl, h1, h2, h3, h4⟩, h5, h6⟩ := h
  have hn : n = T.length := by omega
  subst hn
  refine ⟨a, cap, rfl, h1, h2, ?_⟩
  rcases h4 with h4 | ⟨b, off, rfl, h4⟩
  · left
    rw [h4] at h5
    exact List.eq_nil_of_length_eq_zero (by simp at h5; omega)
  · right
    refine ⟨b, off, rfl, fun i p hp => ?_⟩
    obtain ⟨x, y, lv, z, t⟩ := h6 i p hp
    exact ⟨h4 _ _ x, h4 _ _ y, lv, h4 _ _ z, t⟩
theorem RRow.pure {w w' : World} {b o : Nat} {p : Int × Cell} (h : RRow w b o p) (hk : Kept none' w w') : RRow w' b o p := by
  obtain ⟨a, b, lv, c, d⟩ := h
  exact ⟨hk.cell (fun h => h) a, hk.cell (fun h => h) b, lv, hk.cell (fun h => h) c, d.pure hk⟩
/-- The document's table, its struct in block b. -/
structure RTabAt (w : World) (b : Nat) (T : Tab) : Prop where
  obj : ∃ v, w.heap[b]? = some (.cells #[v] 103 (0, 0)) ∧ RTabV w v T
  ok : TOk T
theorem RTabAt.pure {w w' : World} {b : Nat} {T : Tab} (h : RTabAt w b T) (hk : Kept none' w w') : RTabAt w' b T := by
  obtain ⟨⟨v, h1, h2⟩, h3⟩ := h
  exact ⟨⟨v, hk.heap h1 (fun h => h), h2.pure hk⟩, h3⟩
end Go.Proofs.YtglbkodmmogomaaGreatDoor
/-
  The document's tables: find, many.
-/
namespace Go.Proofs.YtglbkodmmogomaaGreatDoor
open Go Go.RowKit
attribute [local irreducible] wpL
theorem tmany_take {T : Tab} {i : Nat} {p : Int × Cell} {g : Int} (h : T[i]? = some p) : tmany (T.take (i + 1)) g = tmany (T.take i) g + if grp p.1 = g then 1 else 0 := by
  unfold tmany
  rw [List.take_add_one, h, List.countP_append]
  simp [List.countP_cons]
set_option maxRecDepth 100000 in
set_option maxHeartbeats 1000000 in
theorem rmany_any (b : Nat) (T : Tab) (g : Int) (w : World) (h : RTabAt w b T) : Calls Tryz.prog 56 #[.pointer (some ⟨b, 0, none⟩), .int .i64 g] w (Is w (.int .i64 (tmany T g))) := by
  obtain ⟨⟨v, hobj, hrt⟩, hok⟩ := h
  obtain ⟨pa, pcap, rfl, hc1, hc2, hcl⟩ := hrt.parts
  have c0 : w.cell? ⟨b, 0, none⟩ = some (.slice pa T.length pcap) := cells_at hobj rfl
  have hT := hok.len
  unfold maxLen at hc2
  have HC := Lib.hid (And.intro hcl hok)
  clear hobj hrt hcl hok
  go_enter Tryz.func56, Tryz.ntmps56
  go_wp2
  go_loopg [5, 6] T.length (fun gg vn vi wr => ∃ i : Nat, i ≤ T.length ∧ vi = .int .i64 (i : Int) ∧ vn = .int .i64 ((tmany (T.take i) g : Nat) : Int) ∧ T.length - i ≤ gg ∧ wr = w)
  case atStart => exact ⟨0, Nat.zero_le _, rfl, by simp [tmany], by omega, rfl⟩
  case round =>
    obtain ⟨i, hif, rfl, rfl, hg, rfl⟩ := hrel
    by_cases hlt : i < T.length
    · obtain ⟨p, hp⟩ : ∃ p, T[i]? = some p := ⟨_, List.getElem?_eq_getElem hlt⟩
      obtain ⟨rb, ro, rfl, hr⟩ := HC.out.1.resolve_left (fun h => by rw [h] at hp; cases hp)
      obtain ⟨x0, x1, lv, x2, x3⟩ := hr i p hp
      have hp64 := HC.out.2.key p (List.mem_of_getElem? hp)
      have hm : tmany (T.take i) g ≤ 320 := by
        have h1 : tmany (T.take i) g ≤ (T.take i).length := List.countP_le_length
        have h2 := List.length_take_le' i T
        omega
      have HP := Lib.hid (And.intro hp hp64)
      have hst := tmany_take (g := g) hp
      have HS := Lib.hid hst
      obtain ⟨N, hN⟩ : ∃ N, tmany (T.take i) g = N := ⟨_, rfl⟩
      rw [hN] at hm HS ⊢
      clear hr x1 x2 x3 hp64 hp hst hN
      by_cases he : grp p.1 = g
      · have heb : (grp p.1 == g) = true := by simp [he]
        have HE := Lib.hid he
        clear he
        go_wp2_with fail
        refine (rof_any p.1 HP.out.2 _).mono ?_
        rintro e w' ⟨rfl, rfl⟩
        go_wp2_with fail
        go_roundg (T.length - (i + 1))
        case rel => exact ⟨i + 1, by omega, by go_num, by rw [HS.out, if_pos HE.out]; go_num, Nat.le_refl _, rfl⟩
        case measure => omega
      · have heb : (grp p.1 == g) = false := by simp [he]
        have HE := Lib.hid he
        clear he
        go_wp2_with fail
        refine (rof_any p.1 HP.out.2 _).mono ?_
        rintro e w' ⟨rfl, rfl⟩
        go_wp2_with fail
        go_roundg (T.length - (i + 1))
        case rel => exact ⟨i + 1, by omega, by go_num, by rw [HS.out, if_neg HE.out]; rfl, Nat.le_refl _, rfl⟩
        case measure => omega
    · have hie : i = T.length := by omega
      subst hie
      rw [List.take_of_length_le (Nat.le_refl _)]
      have hlt2 : ¬ ((T.length : Nat) : Int) < (T.length : Int) := by omega
      go_wp2_with fail
      go_ret
      exact ⟨rfl, rfl⟩
end Go.Proofs.YtglbkodmmogomaaGreatDoor
/-
  The document's Fits; Fits of no table.
-/
namespace Go.Proofs.YtglbkodmmogomaaGreatDoor
open Go Go.RowKit
attribute [local irreducible] wpL
theorem rstateful_any (k : Int) (w : World) : Calls Tryz.prog 61 #[.int .u8 k] w fun e w' => e = .returned (.bool (stateful k)) ∧ w = w' := by
  have e : stateful k = (k == 6 || k == 7) := rfl
  rw [e]
  clear e
  by_cases h6 : k = 6
  · subst h6
    go_enter Tryz.func61, Tryz.ntmps61
    go_wp2_with fail
    go_ret
    exact ⟨rfl, rfl⟩
  · have h1 : (k == 6) = false := by simp [h6]
    rw [h1, Bool.false_or]
    go_enter Tryz.func61, Tryz.ntmps61
    go_wp2_with fail
    go_ret
    exact ⟨rfl, rfl⟩
set_option maxRecDepth 100000 in
set_option maxHeartbeats 1000000 in
theorem fits_nil_any (d : JN) (a : Array Value) (w : World) (h : JNAt w a d) : Calls Tryz.prog 18 #[.agg a, .pointer none] w (Gives w (.bool false)) := by
  obtain ⟨pi, ci, p, cap, rfl, _⟩ := h
  have kA : Kept none' w (w.alloc (.cells (jnC d pi ci p cap) 42)) := (Kept.refl _ _).alloc _
  have K := Lib.hid kA
  clear kA
  go_enter Tryz.func18, Tryz.ntmps18
  go_wp2_with fail
  go_ret
  exact ⟨rfl, K.out⟩
set_option maxRecDepth 100000 in
set_option maxHeartbeats 2000000 in
theorem rfits_any (d : JN) (a : Array Value) (b : Nat) (T : Tab) (w : World) (h : JNAt w a d) (hT : RTabAt w b T) :
    Calls Tryz.prog 19 #[.agg a, .pointer (some ⟨b, 0, none⟩)] w (Gives w (.bool (fitsP d.kind d.n T))) := by
  obtain ⟨pi, ci, p, cap, rfl, _, _, _, hk0, hk1, hn, _⟩ := h
  obtain ⟨hn1, hn2⟩ := hn
  have kA : Kept none' w (w.alloc (.cells (jnC d pi ci p cap) 42)) := (Kept.refl _ _).alloc _
  have tA := hT.pure kA
  have hbB : (w.alloc (.cells (jnC d pi ci p cap) 42)).heap[w.heap.size]? = some (.cells (jnC d pi ci p cap) 42 (0, 0)) := heap_alloc_new _ _
  obtain ⟨W1, hW1⟩ : ∃ W1, w.alloc (.cells (jnC d pi ci p cap) 42) = W1 := ⟨_, rfl⟩
  rw [hW1] at kA tA hbB
  obtain ⟨⟨v, hobj, hrt⟩, hok⟩ := tA
  obtain ⟨pa, pcap, rfl, hc1, hc2, hcl⟩ := hrt.parts
  have hT320 := hok.len
  unfold maxLen at hc2
  have HC := Lib.hid (And.intro hcl (And.intro hok (And.intro kA (And.intro hobj hbB))))
  have HW := Lib.hid hW1
  clear hobj hrt hcl hok kA hbB hT hW1
  go_enter Tryz.func19, Tryz.ntmps19
  go_wp2_with fail
  rw [HW.out]
  go_wp2_with fail
  go_loopg [5] T.length (fun g vi wr => ∃ k : Nat, k ≤ T.length ∧ vi = .int .i64 (k : Int) ∧ T.length - k ≤ g ∧ Kept none' W1 wr ∧ ∀ (m : Nat) (p : Int × Cell), m < k → T[m]? = some p → fitsCell d.kind d.n p.2 = true)
  case atStart => exact ⟨0, by omega, rfl, by omega, Kept.refl _ _, fun m e hm => by omega⟩
  case round =>
    obtain ⟨k, hk, rfl, hg, hkp, hyes⟩ := hrel
    have c0 : wr.cell? ⟨b, 0, none⟩ = some (.slice pa T.length pcap) := cells_at (hkp.heap HC.out.2.2.2.1 (fun h => h)) rfl
    have z1 : wr.cell? ⟨w.heap.size, 1, none⟩ = some (.int .u8 d.kind) := cells_at (hkp.heap HC.out.2.2.2.2 (fun h => h)) rfl
    have z4 : wr.cell? ⟨w.heap.size, 6, none⟩ = some (.int .i64 d.n) := cells_at (hkp.heap HC.out.2.2.2.2 (fun h => h)) rfl
    have zlt : w.heap.size < wr.heap.size := block_lt_of_cell z1
    by_cases hlt : k < T.length
    · obtain ⟨q, hq⟩ : ∃ q, T[k]? = some q := ⟨_, List.getElem?_eq_getElem hlt⟩
      obtain ⟨rb, ro, rfl, hr⟩ := HC.out.1.resolve_left (fun h => by rw [h] at hq; cases hq)
      obtain ⟨x0, x1, lv, x2, x3⟩ := (hr k q hq).pure hkp
      obtain ⟨key, acc, L⟩ := q
      have hcok := HC.out.2.1.cell _ (List.mem_of_getElem? hq)
      have hl16 : L.length ≤ 16 := hcok.2.2
      obtain ⟨ha1, ha2⟩ : R64 acc := hcok.1
      obtain ⟨la, lc, rfl, hlc, _⟩ := x3.at
      have HQ := Lib.hid hq
      have HYES := Lib.hid hyes
      have G := Lib.hid (And.intro hg hkp)
      clear hq hyes hg hkp hr hcok x0 x3 hlc
      simp only at x1 x2
      obtain ⟨uid, kind, ins, x, n⟩ := d
      simp only at z1 z4 hn1 hn2 hk0 hk1
      have KA := Lib.hid (show Kept none' wr (wr.alloc (.cells #[.int .i64 acc, .slice la L.length lc] 109)) from (Kept.refl _ _).alloc _)
      have y1 := KA.out.cell (fun h => h) z1
      have y4 := KA.out.cell (fun h => h) z4
      by_cases k6 : kind = 6
      · subst k6
        by_cases b1 : 0 < L.length
        · have F := Lib.hid (fitsP_no (List.mem_of_getElem? HQ.out) (show fitsCell 6 n (acc, L) = false from (fitsCell_iff _ _ _).2 (.inl ⟨rfl, b1⟩)))
          go_wp2_with fail
          go_ret
          exact ⟨ret_bool F.out.symm, HC.out.2.2.1.trans (G.out.2.trans ((Kept.refl _ _).alloc _))⟩
        · have F := Lib.hid (yes_next HYES.out HQ.out (show fitsCell 6 n (acc, L) = true by
            cases h : fitsCell 6 n (acc, L) with
            | true => rfl
            | false =>
              have h2 := (fitsCell_iff _ _ _).1 h
              simp only at h2
              omega))
          go_wp2_with fail
          go_roundg (T.length - (k + 1))
          case rel => exact ⟨k + 1, by omega, by go_num, Nat.le_refl _, G.out.2.trans ((Kept.refl _ _).alloc _), F.out⟩
          case measure => have := G.out.1; omega
      · by_cases k7 : kind = 7
        · subst k7
          by_cases b1 : acc = 0
          · by_cases b2 : L.length < 1
            · have F := Lib.hid (fitsP_no (List.mem_of_getElem? HQ.out) (show fitsCell 7 n (acc, L) = false from (fitsCell_iff _ _ _).2 (.inr ⟨rfl, .inr (.inl b2)⟩)))
              go_wp2_with fail
              go_ret
              exact ⟨ret_bool F.out.symm, HC.out.2.2.1.trans (G.out.2.trans ((Kept.refl _ _).alloc _))⟩
            · by_cases b3 : n ≤ (L.length : Int)
              · have F := Lib.hid (fitsP_no (List.mem_of_getElem? HQ.out) (show fitsCell 7 n (acc, L) = false from (fitsCell_iff _ _ _).2 (.inr ⟨rfl, .inr (.inr b3)⟩)))
                go_wp2_with fail
                go_ret
                exact ⟨ret_bool F.out.symm, HC.out.2.2.1.trans (G.out.2.trans ((Kept.refl _ _).alloc _))⟩
              · have F := Lib.hid (yes_next HYES.out HQ.out (show fitsCell 7 n (acc, L) = true by
                  cases h : fitsCell 7 n (acc, L) with
                  | true => rfl
                  | false =>
                    have h2 := (fitsCell_iff _ _ _).1 h
                    simp only at h2
                    omega))
                go_wp2_with fail
                go_roundg (T.length - (k + 1))
                case rel => exact ⟨k + 1, by omega, by go_num, Nat.le_refl _, G.out.2.trans ((Kept.refl _ _).alloc _), F.out⟩
                case measure => have := G.out.1; omega
          · have F := Lib.hid (fitsP_no (List.mem_of_getElem? HQ.out) (show fitsCell 7 n (acc, L) = false from (fitsCell_iff _ _ _).2 (.inr ⟨rfl, .inl b1⟩)))
            go_wp2_with fail
            go_ret
            exact ⟨ret_bool F.out.symm, HC.out.2.2.1.trans (G.out.2.trans ((Kept.refl _ _).alloc _))⟩
        · have F := Lib.hid (yes_next HYES.out HQ.out (show fitsCell kind n (acc, L) = true by
            cases h : fitsCell kind n (acc, L) with
            | true => rfl
            | false =>
              have h2 := (fitsCell_iff _ _ _).1 h
              simp only at h2
              omega))
          go_wp2_with fail
          go_roundg (T.length - (k + 1))
          case rel => exact ⟨k + 1, by omega, by go_num, Nat.le_refl _, G.out.2.trans ((Kept.refl _ _).alloc _), F.out⟩
          case measure => have := G.out.1; omega
    · have e1 : k = T.length := by omega
      subst e1
      have cs := rstateful_any d.kind wr
      have F := Lib.hid (And.intro hyes hkp)
      clear hyes hkp
      go_wp2_with fail
      refine cs.mono ?_
      rintro e w' ⟨rfl, rfl⟩
      go_wp2_with fail
      go_ret
      refine ⟨ret_bool ?_, HC.out.2.2.1.trans F.out.2⟩
      cases hs : stateful d.kind with
      | false => unfold fitsP; rw [hs]; rfl
      | true => exact (fitsP_yes hs F.out.1).symm
end Go.Proofs.YtglbkodmmogomaaGreatDoor
