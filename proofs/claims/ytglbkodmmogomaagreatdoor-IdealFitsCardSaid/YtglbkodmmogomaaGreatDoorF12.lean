/-
  slices.Grow of no slice, slices.Concat, slices.SortStableFunc, oper.Merge: what came in, one behind the other; merged.
-/
import Derived.Test.YtglbkodmmogomaaGreatDoorF11
import Derived.Test.YtglbkodmmogomaaGreatDoorF03
import Derived.Lib.AppendZerosOnto
import Derived.Lib.Walk
import Derived.Lib.SliceRun
set_option linter.unusedVariables false
set_option linter.unusedSimpArgs false
namespace Go.Proofs.YtglbkodmmogomaaGreatDoor
open Go Go.RowKit Go.Lib
attribute [local irreducible] wpL wpH
theorem Tryz.info68 : ∃ i z, Tryz.prog.info? 68 = some i ∧ i.zero = some z ∧ i.size = 3 ∧ i.bytes = 24 ∧ z.cells.size = 3 := by
  have h : (Tryz.prog.info? 68).map (fun i => (i.zero, i.size, i.bytes)) = some (some (.agg #[.int .i64 0, .int .i64 0, .int .i64 0]), 3, 24) := by kernel_rfl
  obtain ⟨i, hi, h⟩ := Option.map_eq_some_iff.1 h
  simp only [Prod.mk.injEq] at h
  exact ⟨i, _, hi, h.1, h.2.1, h.2.2, by rfl⟩
set_option maxRecDepth 100000 in
set_option maxHeartbeats 1000000 in
theorem grow_any (n : Nat) (hn : n ≤ 1099511627776) (w : World) : Calls Tryz.prog 144 #[.slice none 0 0, .int .i64 n] w fun e w' => ∃ v', e = .returned v' ∧ w'.ownsRow w.heap.size 68 3 v' 0 [] ∧ Kept none' w w' := by
  by_cases h0 : n = 0
  · subst h0
    go_enter Tryz.func144, Tryz.ntmps144
    go_wp2
    go_ret
    exact ⟨_, rfl, ⟨rfl, .inl ⟨rfl, rfl⟩⟩, Kept.refl _ _⟩
  · obtain ⟨i0, z, hi0, hz0, hs0, hb0, hzc⟩ := Tryz.info68
    have h1 : ¬ ((n : Int) < 0) := by omega
    have h4 : (n : Int) > 0 := by omega
    have hold : (Builtin.firstCells i0.size 0 (.slice none 0 0)).run Tryz.prog w.drew = .ok #[] w.drew := run_firstCells_none w.drew i0.size 0 0 0
    have hrz : ∀ ty, (Builtin.append_ #[60, 3] ty #[.slice none 0 0, .int .i64 (n : Int)]).run Tryz.prog w =
        .ok (.slice (some ⟨w.heap.size, 0, none⟩) n (grownCap w n 0 68)) (w.drew.alloc (.cells (#[] ++ Builtin.zeroCells z.cells n ++ Builtin.zeroCells z.cells (grownCap w n 0 68 - n)) 68)) := fun ty => by
      have h := Lib.run_append_grow_zeros w 60 3 ty 68 i0 z .i64 .i64 Tryz.underlying60 Tryz.underlying3 hi0 hz0 none 0 0 [] hold n (by omega) (by omega) (by omega) (by omega)
        (by rw [hb0]; omega) (by rw [Nat.zero_add]; exact growslice_fits (by omega) (by rw [hb0]; omega))
      rw [Nat.zero_add] at h
      exact h
    have hGn : n ≤ grownCap w n 0 68 := grownCap_ge w _ _ _
    have hGm := grownCap_le_maxLen w n 0 68 (by unfold maxLen; omega)
    have hsz : (Builtin.zeroCells z.cells n ++ Builtin.zeroCells z.cells (grownCap w n 0 68 - n)).size = grownCap w n 0 68 * 3 := by
      rw [Array.size_append, size_zeroCells, size_zeroCells, hzc, ← Nat.add_mul]
      congr 1; omega
    obtain ⟨G, hG⟩ : ∃ G, G = grownCap w n 0 68 := ⟨_, rfl⟩
    rw [← hG] at hrz hGn hGm hsz
    obtain ⟨zc, hzz⟩ : ∃ zc, zc = Builtin.zeroCells z.cells n ++ Builtin.zeroCells z.cells (G - n) := ⟨_, rfl⟩
    rw [Array.empty_append, ← hzz] at hrz
    rw [← hzz] at hsz
    have hG63 : G ≤ 9223372036854775807 := by unfold maxLen at hGm; omega
    have F : ∀ (cs : Array Value), cs.size = G * 3 → (w.alloc (.cells cs 68)).drew.ownsRow w.heap.size 68 3 (.slice (some ⟨w.heap.size, 0, none⟩) 0 G) 0 [] ∧ Kept none' w (w.alloc (.cells cs 68)).drew := by
      intro cs hcs
      exact ⟨⟨by simp, .inr ⟨w.heap.size, G, cs, rfl, Nat.le_refl _, by show (w.heap.push _)[w.heap.size]? = _; simp, Nat.zero_le _, hGm, hcs, by simp⟩⟩, ((Kept.refl _ _).alloc _).drew⟩
    have FF := Lib.hid (F _ hsz)
    clear hold hG F hsz hs0 hb0 hzc hz0 hi0 hGm hzz
    go_enter Tryz.func144, Tryz.ntmps144
    go_wp2_with (at_builtin; refine Lib.wpList_append_run _ rfl _ _ _ _ rfl _ _ rfl rfl _ _ (hrz _) ?_)
    all_goals (go_ret; exact ⟨_, rfl, FF.out⟩)
theorem recs_length (L : List Rec) : (recs L).length = L.length * 3 := by
  unfold recs
  induction L with
  | nil => rfl
  | cons x L ih => simp only [List.flatMap_cons, List.length_append, List.length_cons, List.length_nil]; omega
theorem recs_append (L M : List Rec) : recs (L ++ M) = recs L ++ recs M := by unfold recs; rw [List.flatMap_append]
theorem recs_one (L : List Rec) : ∀ x ∈ recs L, x.oneCell' = true := by
  intro x hx
  unfold recs at hx
  obtain ⟨r, _, hr⟩ := List.mem_flatMap.1 hx
  simp at hr
  rcases hr with rfl | rfl | rfl <;> rfl
theorem Reads.len {w : World} {v : Value} {L : List Rec} (h : Reads w 3 v (recs L)) : ∃ a cap, v = .slice a L.length cap ∧ L.length ≤ cap ∧ cap ≤ maxLen := by
  obtain ⟨a, n, cap, rfl, h1, h2, h3, _⟩ := h
  rw [recs_length] at h3
  obtain rfl : L.length = n := by omega
  exact ⟨a, cap, rfl, h1, h2⟩
theorem owns_own {w : World} {base e size n : Nat} {v : Value} {xs : List Value} (h : w.ownsRow base e size v n xs) {b : Nat} (hb : v.ownBlock = some b) : base ≤ b ∧ b < w.heap.size := by
  rcases h.2 with ⟨rfl, _⟩ | ⟨g, cap, cur, rfl, h1, h2, _⟩
  · cases hb
  · cases hb; exact ⟨h1, (Array.getElem?_eq_some_iff.1 h2).1⟩
/-- A slice of slices of records. -/
def Rows2 (w : World) (v : Value) (LL : List (List Rec)) : Prop := ∃ vs : List Value, vs.length = LL.length ∧ Reads w 1 v vs ∧ ∀ (i : Nat) (u : Value) (L : List Rec), vs[i]? = some u → LL[i]? = some L → Reads w 3 u (recs L)
theorem Rows2.pure {w w' : World} {v : Value} {LL : List (List Rec)} (h : Rows2 w v LL) (hk : Kept none' w w') : Rows2 w' v LL := by
  obtain ⟨vs, h1, h2, h3⟩ := h
  exact ⟨vs, h1, h2.pure hk, fun i u L hu hL => (h3 i u L hu hL).pure hk⟩
theorem flat_take_succ {LL : List (List Rec)} {k : Nat} {L : List Rec} (h : LL[k]? = some L) : (LL.take (k + 1)).flatten = (LL.take k).flatten ++ L := by
  rw [List.take_add_one, h]; simp
theorem flat_take_le {LL : List (List Rec)} (k : Nat) : (LL.take k).flatten.length ≤ LL.flatten.length := by
  conv => rhs; rw [← List.take_append_drop k LL]
  rw [List.flatten_append, List.length_append]; omega
def OwnsRecs (w : World) (L : List Rec) (e : Ending) (w' : World) : Prop := ∃ v', e = .returned v' ∧ w'.ownsRow w.heap.size 68 3 v' L.length (recs L) ∧ Kept none' w w'
set_option maxRecDepth 100000 in
set_option maxHeartbeats 1000000 in
theorem concat_any (v : Value) (LL : List (List Rec)) (w : World) (h : Rows2 w v LL) (hb : LL.flatten.length ≤ 1073741824) : Calls Tryz.prog 115 #[v] w (OwnsRecs w LL.flatten) := by
  obtain ⟨i0, z0, hi, hz, hs0, hb0, hzc⟩ := Tryz.info68
  obtain ⟨vs, hlen, ⟨a, n, cap, rfl, hn, hc, hl, hcell⟩, hvs⟩ := h
  rw [Nat.mul_one] at hl
  obtain rfl : LL.length = n := by omega
  unfold maxLen at hc
  have HV := Lib.hid (And.intro hlen (And.intro hcell hvs))
  have HB := Lib.hid hb
  clear hlen hcell hvs hb hl
  go_enter Tryz.func115, Tryz.ntmps115
  go_wp2
  go_loopg [3, 11] LL.length (fun g vt vi wr => ∃ k : Nat, vt = .int .i64 (((LL.take k).flatten.length : Nat) : Int) ∧ vi = .int .i64 (k : Int) ∧ k ≤ LL.length ∧ LL.length - k ≤ g ∧ Kept none' w wr)
  case atStart => exact ⟨0, by simp, rfl, by omega, by omega, Kept.refl _ _⟩
  case round =>
    obtain ⟨k, rfl, rfl, hk, hg, hkp⟩ := hrel
    have hle := @flat_take_le LL k
    obtain ⟨t, ht⟩ : ∃ t, (LL.take k).flatten.length = t := ⟨_, rfl⟩
    rw [ht] at hle ⊢
    have HT := Lib.hid (And.intro ht hg)
    clear ht hg
    by_cases hlt : k < LL.length
    · obtain ⟨u, hu⟩ : ∃ u, vs[k]? = some u := ⟨_, List.getElem?_eq_getElem (by rw [HV.out.1]; exact hlt)⟩
      obtain ⟨L, hL⟩ : ∃ L, LL[k]? = some L := ⟨_, List.getElem?_eq_getElem hlt⟩
      have hr := (HV.out.2.2 k u L hu hL).pure hkp
      obtain ⟨ua, uc, rfl, hu1, hu2⟩ := hr.len
      unfold maxLen at hu2
      obtain ⟨b0, off, rfl, hcl⟩ := HV.out.2.1.resolve_left (fun h => by rw [h] at hu; cases hu)
      have q0 := hkp.cell (p := ⟨b0, off + k, none⟩) (fun h => h) (hcl k _ hu)
      have hle2 := @flat_take_le LL (k + 1)
      rw [flat_take_succ hL, List.length_append, HT.out.1] at hle2
      have hb1 := HB.out
      have e1 : IntKind.i64.wrap ((t : Int) + (L.length : Int)) = ((t + L.length : Nat) : Int) := wrapNat (n := t + L.length) (by omega)
      obtain ⟨t2, ht2⟩ : ∃ t2, t + L.length = t2 := ⟨_, rfl⟩
      rw [ht2] at e1
      have h0 : ¬ ((t2 : Int) < 0) := by omega
      have F : Hid ((LL.take (k + 1)).flatten.length = t2) := by rw [flat_take_succ hL, List.length_append, HT.out.1]; exact ht2
      clear hr hu hL hcl hle hle2 ht2 hb1
      go_wp2_with fail
      go_roundg (LL.length - (k + 1))
      case rel => exact ⟨k + 1, by rw [F.out], by go_num, by omega, Nat.le_refl _, hkp⟩
      case measure => have := HT.out.2; omega
    · have hkk : k = LL.length := by omega
      have hb1 := HB.out
      have hle3 : t ≤ 1099511627776 := by omega
      have G := fun W => grow_any t hle3 W
      clear hkk hb1 hle
      go_wp2_with fail
      refine (G wr).mono ?_
      rintro e w2 ⟨v2, rfl, g1, g2⟩
      clear G
      have G1 := Lib.hid (And.intro (owns_base g1 hkp.size) (hkp.trans g2))
      clear g1 g2
      go_wp2_with fail
      go_loopg [6, 27] LL.length (fun g vo vi wr => ∃ k : Nat, vi = .int .i64 (k : Int) ∧ k ≤ LL.length ∧ LL.length - k ≤ g ∧ wr.ownsRow w.heap.size 68 3 vo (LL.take k).flatten.length (recs (LL.take k).flatten) ∧ Kept none' w wr)
      case atStart => exact ⟨0, rfl, by omega, by omega, G1.out.1, G1.out.2⟩
      case round =>
        clear hkp
        obtain ⟨k, rfl, hk, hg, ho, hkp⟩ := hrel
        by_cases hlt : k < LL.length
        · obtain ⟨u, hu⟩ : ∃ u, vs[k]? = some u := ⟨_, List.getElem?_eq_getElem (by rw [HV.out.1]; exact hlt)⟩
          obtain ⟨L, hL⟩ : ∃ L, LL[k]? = some L := ⟨_, List.getElem?_eq_getElem hlt⟩
          have hr := (HV.out.2.2 k u L hu hL).pure hkp
          obtain ⟨b0, off, rfl, hcl⟩ := HV.out.2.1.resolve_left (fun h => by rw [h] at hu; cases hu)
          have q0 := hkp.cell (p := ⟨b0, off + k, none⟩) (fun h => h) (hcl k _ hu)
          have hle2 := @flat_take_le LL (k + 1)
          rw [flat_take_succ hL, List.length_append] at hle2
          have hrl := recs_length L
          have B1 : Hid (((LL.take k).flatten.length * 3 + (recs L).length) * 24 ≤ 140737488355328) := by have := HB.out; show _ ≤ _; rw [hrl]; omega
          have B2 : Hid ((LL.take k).flatten.length * 3 + (recs L).length ≤ maxLen) := by have := HB.out; show _ ≤ _; rw [hrl]; unfold maxLen; omega
          have HR := Lib.hid hr
          have HO := Lib.hid ho
          have HLk := Lib.hid hL
          have H1 := Lib.hid (recs_one L)
          have B3 := Lib.hid hkp.size
          have HK := Lib.hid hg
          obtain ⟨oa, oc, rfl⟩ := owns_slice ho
          obtain ⟨ua, uc, rfl, hu1, hu2⟩ := hr.len
          clear hr hu hL hcl hle2 hrl ho hg hu1 hu2
          go_wp2_with (at_builtin; (refine wpList_append_reads rfl (.tmp 31) (.tmp 32) 60 rfl w.heap.size 68 i0 z0 3 24 Tryz.underlying60 hi hz hs0 hb0 hzc (by decide) _ _ _ rfl HO.out _ (recs L) rfl HR.out H1.out B1.out B2.out B3.out ?_); intro v' n' w' g1 g2 g3 g4)
          obtain ⟨va, vc, rfl⟩ := owns_slice g1
          have F : Hid (w'.ownsRow w.heap.size 68 3 (.slice va n' vc) (LL.take (k + 1)).flatten.length (recs (LL.take (k + 1)).flatten) ∧ Kept none' w w') := by
            have e1 : (LL.take (k + 1)).flatten = (LL.take k).flatten ++ L := flat_take_succ HLk.out
            rw [recs_length] at g2
            have e2 : n' = (LL.take (k + 1)).flatten.length := by rw [e1, List.length_append]; omega
            refine ⟨?_, ?_⟩
            · rw [e2] at g1 ⊢; rw [e1, recs_append]; rw [e1] at g1; exact g1
            · refine hkp.new (Kept.grown (S := fun j => w.heap.size ≤ j) g3 (fun j hj _ => ?_)) (fun j hj e => by omega)
              exact (owns_own HO.out hj).1
          clear g1 g2 g3 g4
          go_wp2_with fail
          go_roundg (LL.length - (k + 1))
          case rel => exact ⟨k + 1, by go_num, by omega, Nat.le_refl _, F.out.1, F.out.2⟩
          case measure => have := HK.out; omega
        · have hkk : k = LL.length := by omega
          subst hkk
          rw [List.take_of_length_le (Nat.le_refl _)] at ho
          obtain ⟨oa, oc, rfl⟩ := owns_slice ho
          have HO := Lib.hid ho
          clear ho
          go_wp2_with fail
          go_ret
          exact ⟨_, rfl, HO.out, hkp⟩
end Go.Proofs.YtglbkodmmogomaaGreatDoor
/-
  slices.SortStableFunc and oper.Merge over records: what came in, merged.
-/
namespace Go.Proofs.YtglbkodmmogomaaGreatDoor
open Go Go.RowKit Go.Lib
attribute [local irreducible] wpL wpH
theorem recs_get {L : List Rec} : ∀ {i : Nat} {r : Rec}, L[i]? = some r → (recs L)[i * 3]? = some (.int .i64 r.pos) ∧ (recs L)[i * 3 + 1]? = some (.int .i64 r.key) ∧ (recs L)[i * 3 + 2]? = some (.int .i64 r.val) := by
  induction L with
  | nil => intro i r h; simp at h
  | cons x L ih =>
    intro i r h
    have e : recs (x :: L) = .int .i64 x.pos :: .int .i64 x.key :: .int .i64 x.val :: recs L := rfl
    cases i with
    | zero => rw [List.getElem?_cons_zero] at h; cases h; rw [e]; exact ⟨rfl, rfl, rfl⟩
    | succ i =>
      rw [List.getElem?_cons_succ] at h
      obtain ⟨h1, h2, h3⟩ := ih h
      rw [e, show (i + 1) * 3 = i * 3 + 3 by omega]
      exact ⟨h1, h2, h3⟩
theorem recs_inv {L : List Rec} : ∀ {j : Nat} {x : Value}, (recs L)[j]? = some x → ∃ i r, L[i]? = some r ∧ (j = i * 3 ∧ x = .int .i64 r.pos ∨ j = i * 3 + 1 ∧ x = .int .i64 r.key ∨ j = i * 3 + 2 ∧ x = .int .i64 r.val) := by
  induction L with
  | nil => intro j x h; simp [recs] at h
  | cons y L ih =>
    intro j x h
    have e : recs (y :: L) = .int .i64 y.pos :: .int .i64 y.key :: .int .i64 y.val :: recs L := rfl
    rw [e] at h
    match j, h with
    | 0, h => exact ⟨0, y, rfl, .inl ⟨rfl, by simpa using h.symm⟩⟩
    | 1, h => exact ⟨0, y, rfl, .inr (.inl ⟨rfl, by simpa using h.symm⟩)⟩
    | 2, h => exact ⟨0, y, rfl, .inr (.inr ⟨rfl, by simpa using h.symm⟩)⟩
    | j + 3, h =>
      obtain ⟨i, r, h1, h2⟩ := ih (j := j) (x := x) (by simpa using h)
      refine ⟨i + 1, r, by simpa using h1, ?_⟩
      rcases h2 with ⟨h2, h3⟩ | ⟨h2, h3⟩ | ⟨h2, h3⟩
      · exact .inl ⟨by omega, h3⟩
      · exact .inr (.inl ⟨by omega, h3⟩)
      · exact .inr (.inr ⟨by omega, h3⟩)
theorem RW.of_owns {w : World} {base e g n cap : Nat} {L : List Rec} (h : w.ownsRow base e 3 (.slice (some ⟨g, 0, none⟩) n cap) n (Go.Proofs.YtglbkodmmogomaaGreatDoor.recs L)) : RW w g 0 L := by
  obtain ⟨h1, ⟨h2, _⟩ | ⟨g', cap', cur, h2, hb, hg, hn, hc, hs, ht⟩⟩ := h
  · cases h2
  · injection h2 with h2 _ _
    injection h2 with h2
    injection h2 with h2 _ _
    subst h2
    rw [recs_length] at h1
    have get : ∀ j x, (Go.Proofs.YtglbkodmmogomaaGreatDoor.recs L)[j]? = some x → w.cell? ⟨g, j, none⟩ = some x := by
      intro j x hx
      rw [cell_of_row w g j cur e (0, 0) hg]
      rw [← ht, List.getElem?_take] at hx
      split at hx
      · simpa using hx
      · cases hx
    refine ⟨fun i r hr => ?_, fun i _ => ⟨frozen_of_row w g _ cur e hg, frozen_of_row w g _ cur e hg, frozen_of_row w g _ cur e hg⟩⟩
    obtain ⟨q0, q1, q2⟩ := recs_get hr
    rw [Nat.zero_add]
    exact ⟨get _ _ q0, get _ _ q1, get _ _ q2⟩
theorem RW.reads {w : World} {b off cap : Nat} {L : List Rec} (h : RW w b off L) (h1 : L.length ≤ cap) (h2 : cap ≤ maxLen) : Reads w 3 (.slice (some ⟨b, off, none⟩) L.length cap) (Go.Proofs.YtglbkodmmogomaaGreatDoor.recs L) := by
  refine ⟨_, _, _, rfl, h1, h2, recs_length L, .inr ⟨b, off, rfl, fun j x hx => ?_⟩⟩
  obtain ⟨i, r, hr, ⟨rfl, rfl⟩ | ⟨rfl, rfl⟩ | ⟨rfl, rfl⟩⟩ := recs_inv hx
  · exact (h.recs i r hr).1
  · exact (h.recs i r hr).2.1
  · exact (h.recs i r hr).2.2
theorem Reads.recAt {w : World} {v : Value} {L : List Rec} (h : Reads w 3 v (recs L)) : ∃ a cap, v = .slice a L.length cap ∧ L.length ≤ cap ∧ cap ≤ maxLen ∧ (L = [] ∨ ∃ b off, a = some ⟨b, off, none⟩ ∧ ∀ i r, L[i]? = some r → RecAt w b (off + i * 3) r) := by
  obtain ⟨a, cap, hv, h1, h2⟩ := h.len
  refine ⟨a, cap, hv, h1, h2, ?_⟩
  obtain ⟨a', n, cap', hv', _, _, h3, h4⟩ := h
  rw [hv] at hv'
  injection hv' with e1 e2 e3
  subst e1
  rcases h4 with h4 | ⟨b, off, hb, h4⟩
  · left
    have := congrArg List.length h4
    rw [recs_length] at this
    exact List.eq_nil_of_length_eq_zero (by simp only [List.length_nil] at this; omega)
  · right
    refine ⟨b, off, hb, fun i r hr => ?_⟩
    obtain ⟨q0, q1, q2⟩ := recs_get hr
    exact ⟨h4 _ _ q0, by have := h4 _ _ q1; rwa [← Nat.add_assoc] at this, by have := h4 _ _ q2; rwa [← Nat.add_assoc] at this⟩
set_option maxRecDepth 100000 in
theorem insertion_nil (w : World) : Calls Tryz.prog 176 #[.slice none 0 0, .int .i64 0, .int .i64 0, .func (.func 117) #[] #[]] w (Gives w (.tuple #[])) := by
  go_enter Tryz.func176, Tryz.ntmps176
  go_wp2
  go_loopw [8] (fun i wr => i = .int .i64 1 ∧ wr = w) (fun _ _ => 0)
  case atStart => exact ⟨rfl, rfl⟩
  case round =>
    obtain ⟨rfl, rfl⟩ := hrel
    go_wp2_with fail
    go_end0
    exact ⟨rfl, Kept.refl _ _⟩
set_option maxRecDepth 100000 in
theorem stable_nil (w : World) : Calls Tryz.prog 145 #[.slice none 0 0, .int .i64 0, .func (.func 117) #[] #[]] w (Gives w (.tuple #[])) := by
  go_enter Tryz.func145, Tryz.ntmps145
  go_wp2
  go_loopw [7, 8] (fun i j wr => i = .int .i64 0 ∧ j = .int .i64 20 ∧ wr = w) (fun _ _ _ => 0)
  case atStart => exact ⟨rfl, rfl, rfl⟩
  case round =>
    obtain ⟨rfl, rfl, rfl⟩ := hrel
    go_wp2_with fail
    refine (insertion_nil _).mono ?_
    rintro e w2 ⟨rfl, k2⟩
    go_wp2_with fail
    go_loopw [6] (fun i wr => i = .int .i64 20 ∧ wr = w2) (fun _ _ => 0)
    case atStart => exact ⟨rfl, rfl⟩
    case round =>
      obtain ⟨rfl, rfl⟩ := hrel
      go_wp2_with fail
      go_end0
      exact ⟨rfl, k2⟩
set_option maxRecDepth 100000 in
theorem sortStable_nil (w : World) : Calls Tryz.prog 116 #[.slice none 0 0, .func (.func 117) #[] #[]] w (Gives w (.tuple #[])) := by
  go_enter Tryz.func116, Tryz.ntmps116
  go_wp2_with fail
  refine (stable_nil _).mono ?_
  rintro e w2 ⟨rfl, k2⟩
  go_wp2_with fail
  go_end0
  exact ⟨rfl, k2⟩
set_option maxRecDepth 100000 in
theorem sortStable_any (b off cap N : Nat) (hN2 : N < 1099511627776) (L : List Rec) (w : World) (h : RW w b off L) (hN : L.length = N) :
    Calls Tryz.prog 116 #[.slice (some ⟨b, off, none⟩) N cap, .func (.func 117) #[] #[]] w (Moves w b off (smerge L)) := by
  have H := Lib.hid (stable_any b off cap N hN2 L w h hN)
  clear h hN
  go_enter Tryz.func116, Tryz.ntmps116
  go_wp2_with fail
  refine H.out.mono ?_
  rintro e w2 ⟨rfl, k2⟩
  have K2 := Lib.hid k2
  clear k2
  go_wp2_with fail
  go_end0
  exact ⟨rfl, K2.out⟩
/-- The end of a call that answers records in new memory. -/
def NewRecs (w : World) (L : List Rec) (e : Ending) (w' : World) : Prop := ∃ v, e = .returned v ∧ Reads w' 3 v (recs L) ∧ (∀ b, Value.blk v = some b → w.heap.size ≤ b) ∧ Kept none' w w'
set_option maxRecDepth 100000 in
set_option maxHeartbeats 1000000 in
theorem merge_any (v : Value) (LL : List (List Rec)) (w : World) (h : Rows2 w v LL) (hb : LL.flatten.length ≤ 1073741824) : Calls Tryz.prog 70 #[v] w (NewRecs w (smerge LL.flatten)) := by
  have hc := concat_any v LL w h hb
  have hva : ∃ a n cap, v = .slice a n cap := by obtain ⟨_, _, ⟨a, n, cap, rfl, _⟩, _⟩ := h; exact ⟨a, n, cap, rfl⟩
  obtain ⟨a, n, cap, rfl⟩ := hva
  clear h
  obtain ⟨K, hK⟩ : ∃ K, LL.flatten = K := ⟨_, rfl⟩
  rw [hK] at hc hb ⊢
  clear hK
  have HB := Lib.hid hb
  clear hb
  go_enter Tryz.func70, Tryz.ntmps70
  go_wp2_with fail
  refine hc.mono ?_
  rintro e w1 ⟨v1, rfl, g1, g2⟩
  clear hc
  have hf : ∃ g cp, (v1 = .slice none 0 0 ∧ K = []) ∨ (v1 = .slice (some ⟨g, 0, none⟩) K.length cp ∧ w.heap.size ≤ g ∧ RW w1 g 0 K ∧ K.length ≤ cp ∧ cp ≤ maxLen) := by
    rcases id g1 with ⟨h1, ⟨h2, h3⟩ | ⟨g, cp, cur, rfl, hb, hg, hn, hc, hs, ht⟩⟩
    · exact ⟨0, 0, .inl ⟨h2, List.eq_nil_of_length_eq_zero h3⟩⟩
    · exact ⟨g, cp, .inr ⟨rfl, hb, .of_owns g1, hn, hc⟩⟩
  obtain ⟨g, cp, ⟨rfl, hnil⟩ | ⟨rfl, hg, hrw, hn, hc⟩⟩ := hf
  · have F : ∀ w2, Kept none' w1 w2 → NewRecs w (smerge K) (.returned (.slice none 0 0)) w2 := fun w2 k2 =>
      ⟨_, rfl, by rw [hnil, show recs (smerge []) = [] from by simp [smerge, recs]]; exact Reads.nil _ _, fun b hb => (by cases hb), g2.trans k2⟩
    have FF := Lib.hid F
    clear F hnil g1 g2
    go_wp2_with fail
    refine (sortStable_nil _).mono ?_
    rintro e w2 ⟨rfl, k2⟩
    go_wp2_with fail
    go_ret
    exact FF.out _ k2
  · have HS := Lib.hid (sortStable_any g 0 cp K.length (by have := HB.out; omega) K w1 hrw rfl)
    have F : ∀ w2, RW w2 g 0 (smerge K) → Kept (one g) w1 w2 → NewRecs w (smerge K) (.returned (.slice (some ⟨g, 0, none⟩) K.length cp)) w2 := fun w2 r2 k2 => by
      refine ⟨_, rfl, ?_, fun b hb => ?_, g2.new k2 (fun i hi e => by unfold one at e; omega)⟩
      · have := r2.reads (by rw [smerge_length]; exact hn) hc
        rwa [smerge_length] at this
      · have e1 : Value.blk (.slice (some ⟨g, 0, none⟩) K.length cp) = if K.length = 0 then none else some g := rfl
        rw [e1] at hb
        split at hb
        · cases hb
        · cases hb; exact hg
    have FF := Lib.hid F
    clear F g1 g2 hg hrw hn hc
    go_wp2_with fail
    refine HS.out.mono ?_
    rintro e w2 ⟨rfl, r2, k2⟩
    have F2 := Lib.hid (FF.out w2 r2 k2)
    clear r2 k2
    go_wp2_with fail
    go_ret
    exact F2.out
end Go.Proofs.YtglbkodmmogomaaGreatDoor
