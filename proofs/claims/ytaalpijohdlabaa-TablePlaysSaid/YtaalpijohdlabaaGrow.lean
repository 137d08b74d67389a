/-
  slices.Grow of no slice, slices.Concat, slices.SortStableFunc, oper.Merge: what came in, one behind the other; merged.
-/
import Derived.Test.YtaalpijohdlabaaStab
import Derived.Test.YtaalpijohdlabaaApp
import Derived.Lib.AppendZerosOnto
import Derived.Lib.Walk
import Derived.Lib.SliceRun
namespace Go.Proofs.Ytaalpijohdlabaa
open Go Go.RowKit Go.Lib
attribute [local irreducible] wpL wpH
theorem Try.info46 : ∃ i z, Try.prog.info? 46 = some i ∧ i.zero = some z ∧ i.size = 3 ∧ i.bytes = 24 ∧ z.cells.size = 3 := by
  have h : (Try.prog.info? 46).map (fun i => (i.zero, i.size, i.bytes)) = some (some (.agg #[.int .i64 0, .int .i64 0, .int .i64 0]), 3, 24) := by kernel_rfl
  obtain ⟨i, hi, h⟩ := Option.map_eq_some_iff.1 h
  simp only [Prod.mk.injEq] at h
  exact ⟨i, _, hi, h.1, h.2.1, h.2.2, by rfl⟩
set_option maxRecDepth 100000 in
set_option maxHeartbeats 1000000 in
theorem grow_any (n : Nat) (hn : n ≤ 1099511627776) (w : World) : Calls Try.prog 74 #[.slice none 0 0, .int .i64 n] w fun e w' => ∃ v', e = .returned v' ∧ w'.ownsRow w.heap.size 46 3 v' 0 [] ∧ Kept none' w w' := by
  by_cases h0 : n = 0
  · subst h0
    go_enter Try.func74, Try.ntmps74
    go_wp2
    go_ret
    exact ⟨_, rfl, ⟨rfl, .inl ⟨rfl, rfl⟩⟩, Kept.refl _ _⟩
  · obtain ⟨i0, z, hi0, hz0, hs0, hb0, hzc⟩ := Try.info46
    have h1 : ¬ ((n : Int) < 0) := by omega
    have h4 : (n : Int) > 0 := by omega
    have hold : (Builtin.firstCells i0.size 0 (.slice none 0 0)).run Try.prog w.drew = .ok #[] w.drew := run_firstCells_none w.drew i0.size 0 0 0
    have hrz : ∀ ty, (Builtin.append_ #[42, 3] ty #[.slice none 0 0, .int .i64 (n : Int)]).run Try.prog w =
        .ok (.slice (some ⟨w.heap.size, 0, none⟩) n (grownCap w n 0 46)) (w.drew.alloc (.cells (#[] ++ Builtin.zeroCells z.cells n ++ Builtin.zeroCells z.cells (grownCap w n 0 46 - n)) 46)) := fun ty => by
      have h := Lib.run_append_grow_zeros w 42 3 ty 46 i0 z .i64 .i64 Try.underlying42 Try.underlying3 hi0 hz0 none 0 0 [] hold n (by omega) (by omega) (by omega) (by omega)
        (by rw [hb0]; omega) (by rw [Nat.zero_add]; exact growslice_fits (by omega) (by rw [hb0]; omega))
      rw [Nat.zero_add] at h
      exact h
    have hGn : n ≤ grownCap w n 0 46 := grownCap_ge w _ _ _
    have hGm := grownCap_le_maxLen w n 0 46 (by unfold maxLen; omega)
    have hsz : (Builtin.zeroCells z.cells n ++ Builtin.zeroCells z.cells (grownCap w n 0 46 - n)).size = grownCap w n 0 46 * 3 := by
      rw [Array.size_append, size_zeroCells, size_zeroCells, hzc, ← Nat.add_mul]
      congr 1; omega
    obtain ⟨G, hG⟩ : ∃ G, G = grownCap w n 0 46 := ⟨_, rfl⟩
    rw [← hG] at hrz hGn hGm hsz
    obtain ⟨zc, hzz⟩ : ∃ zc, zc = Builtin.zeroCells z.cells n ++ Builtin.zeroCells z.cells (G - n) := ⟨_, rfl⟩
    rw [Array.empty_append, ← hzz] at hrz
    rw [← hzz] at hsz
    have hG63 : G ≤ 9223372036854775807 := by unfold maxLen at hGm; omega
    have F : ∀ (cs : Array Value), cs.size = G * 3 → (w.alloc (.cells cs 46)).drew.ownsRow w.heap.size 46 3 (.slice (some ⟨w.heap.size, 0, none⟩) 0 G) 0 [] ∧ Kept none' w (w.alloc (.cells cs 46)).drew := by
      intro cs hcs
      exact ⟨⟨by simp, .inr ⟨w.heap.size, G, cs, rfl, Nat.le_refl _, by show (w.heap.push _)[w.heap.size]? = _; simp, Nat.zero_le _, hGm, hcs, by simp⟩⟩, ((Kept.refl _ _).alloc _).drew⟩
    have FF := Lib.hid (F _ hsz)
    clear hold hG F hsz hs0 hb0 hzc hz0 hi0 hGm hzz
    go_enter Try.func74, Try.ntmps74
    go_wp2_with (at_builtin; refine Lib.wpList_append_run _ rfl _ _ _ _ rfl _ _ rfl rfl _ _ (hrz _) ?_)
    all_goals (go_ret; exact ⟨_, rfl, FF.out⟩)
theorem recs_length (L : List Rec) : (recs L).length = L.length * 3 := by
  unfold recs
  induction L with
  | nil => rfl
  | cons x L ih => simp only [List.flatMap_cons, List.length_append, List.length_cons, List.length_nil]; omega
theorem recs_append (L M : List Rec) : recs (L ++ M) = recs L ++ recs M := by unfold recs; rw [List.flatMap_append]
theorem recs_one (L : List Rec) : ∀ x ∈ recs L, x.oneCell' = true := by
  intro x hx
  unfold recs at hx
  obtain ⟨r, _, hr⟩ := List.mem_flatMap.1 hx
  simp at hr
  rcases hr with rfl | rfl | rfl <;> rfl
theorem Reads.len {w : World} {v : Value} {L : List Rec} (h : Reads w 3 v (recs L)) : ∃ a cap, v = .slice a L.length cap ∧ L.length ≤ cap ∧ cap ≤ maxLen := by
  obtain ⟨a, n, cap, rfl, h1, h2, h3, _⟩ := h
  rw [recs_length] at h3
  obtain rfl : L.length = n := by omega
  exact ⟨a, cap, rfl, h1, h2⟩
theorem owns_own {w : World} {base e size n : Nat} {v : Value} {xs : List Value} (h : w.ownsRow base e size v n xs) {b : Nat} (hb : v.ownBlock = some b) : base ≤ b ∧ b < w.heap.size := by
  rcases h.2 with ⟨rfl, _⟩ | ⟨g, cap, cur, rfl, h1, h2, _⟩
  · cases hb
  · cases hb; exact ⟨h1, (Array.getElem?_eq_some_iff.1 h2).1⟩
/-- A slice of slices of records. -/
def Rows2 (w : World) (v : Value) (LL : List (List Rec)) : Prop := ∃ vs : List Value, vs.length = LL.length ∧ Reads w 1 v vs ∧ ∀ (i : Nat) (u : Value) (L : List Rec), vs[i]? = some u → LL[i]? = some L → Reads w 3 u (recs L)
theorem Rows2.pure {w w' : World} {v : Value} {LL : List (List Rec)} (h : Rows2 w v LL) (hk : Kept none' w w') : Rows2 w' v LL := by
  obtain ⟨vs, h1, h2, h3⟩ := h
  exact ⟨vs, h1, h2.pure hk, fun i u L hu hL => (h3 i u L hu hL).pure hk⟩
theorem flat_take_succ {LL : List (List Rec)} {k : Nat} {L : List Rec} (h : LL[k]? = some L) : (LL.take (k + 1)).flatten = (LL.take k).flatten ++ L := by
  rw [List.take_add_one, h]; simp
theorem flat_take_le {LL : List (List Rec)} (k : Nat) : (LL.take k).flatten.length ≤ LL.flatten.length := by
  conv => rhs; rw [← List.take_append_drop k LL]
  rw [List.flatten_append, List.length_append]; omega
def OwnsRecs (w : World) (L : List Rec) (e : Ending) (w' : World) : Prop := ∃ v', e = .returned v' ∧ w'.ownsRow w.heap.size 46 3 v' L.length (recs L) ∧ Kept none' w w'
set_option maxRecDepth 100000 in
set_option maxHeartbeats 1000000 in
theorem concat_any (v : Value) (LL : List (List Rec)) (w : World) (h : Rows2 w v LL) (hb : LL.flatten.length ≤ 1073741824) : Calls Try.prog 33 #[v] w (OwnsRecs w LL.flatten) := by
  obtain ⟨i0, z0, hi, hz, hs0, hb0, hzc⟩ := Try.info46
  obtain ⟨vs, hlen, ⟨a, n, cap, rfl, hn, hc, hl, hcell⟩, hvs⟩ := h
  rw [Nat.mul_one] at hl
  obtain rfl : LL.length = n := by omega
  unfold maxLen at hc
  have HV := Lib.hid (And.intro hlen (And.intro hcell hvs))
  have HB := Lib.hid hb
  clear hlen hcell hvs hb hl
  go_enter Try.func33, Try.ntmps33
  go_wp2
  go_loopg [3, 11] LL.length (fun g vt vi wr => ∃ k : Nat, vt = .int .i64 (((LL.take k).flatten.length : Nat) : Int) ∧ vi = .int .i64 (k : Int) ∧ k ≤ LL.length ∧ LL.length - k ≤ g ∧ Kept none' w wr)
  case atStart => exact ⟨0, by simp, rfl, by omega, by omega, Kept.refl _ _⟩
  case round =>
    obtain ⟨k, rfl, rfl, hk, hg, hkp⟩ := hrel
    have hle := @flat_take_le LL k
    obtain ⟨t, ht⟩ : ∃ t, (LL.take k).flatten.length = t := ⟨_, rfl⟩
    rw [ht] at hle ⊢
    have HT := Lib.hid (And.intro ht hg)
    clear ht hg
    by_cases hlt : k < LL.length
    · obtain ⟨u, hu⟩ : ∃ u, vs[k]? = some u := ⟨_, List.getElem?_eq_getElem (by rw [HV.out.1]; exact hlt)⟩
      obtain ⟨L, hL⟩ : ∃ L, LL[k]? = some L := ⟨_, List.getElem?_eq_getElem hlt⟩
      have hr := (HV.out.2.2 k u L hu hL).pure hkp
      obtain ⟨ua, uc, rfl, hu1, hu2⟩ := hr.len
      unfold maxLen at hu2
      obtain ⟨b0, off, rfl, hcl⟩ := HV.out.2.1.resolve_left (fun h => by rw [h] at hu; cases hu)
      have q0 := hkp.cell (p := ⟨b0, off + k, none⟩) (fun h => h) (hcl k _ hu)
      have hle2 := @flat_take_le LL (k + 1)
      rw [flat_take_succ hL, List.length_append, HT.out.1] at hle2
      have hb1 := HB.out
      have e1 : IntKind.i64.wrap ((t : Int) + (L.length : Int)) = ((t + L.length : Nat) : Int) := wrapNat (n := t + L.length) (by omega)
      obtain ⟨t2, ht2⟩ : ∃ t2, t + L.length = t2 := ⟨_, rfl⟩
      rw [ht2] at e1
      have h0 : ¬ ((t2 : Int) < 0) := by omega
      have F : Hid ((LL.take (k + 1)).flatten.length = t2) := by rw [flat_take_succ hL, List.length_append, HT.out.1]; exact ht2
      clear hr hu hL hcl hle hle2 ht2 hb1
      go_wp2_with fail
      go_roundg (LL.length - (k + 1))
      case rel => exact ⟨k + 1, by rw [F.out], by go_num, by omega, Nat.le_refl _, hkp⟩
      case measure => have := HT.out.2; omega
    · have hkk : k = LL.length := by omega
      have hb1 := HB.out
      have hle3 : t ≤ 1099511627776 := by omega
      have G := fun W => grow_any t hle3 W
      clear hkk hb1 hle
      go_wp2_with fail
      refine (G wr).mono ?_
      rintro e w2 ⟨v2, rfl, g1, g2⟩
      clear G
      have G1 := Lib.hid (And.intro (owns_base g1 hkp.size) (hkp.trans g2))
      clear g1 g2
      go_wp2_with fail
      go_loopg [6, 27] LL.length (fun g vo vi wr => ∃ k : Nat, vi = .int .i64 (k : Int) ∧ k ≤ LL.length ∧ LL.length - k ≤ g ∧ wr.ownsRow w.heap.size 46 3 vo (LL.take k).flatten.length (recs (LL.take k).flatten) ∧ Kept none' w wr)
      case atStart => exact ⟨0, rfl, by omega, by omega, G1.out.1, G1.out.2⟩
      case round =>
        clear hkp
        obtain ⟨k, rfl, hk, hg, ho, hkp⟩ := hrel
        by_cases hlt : k < LL.length
        · obtain ⟨u, hu⟩ : ∃ u, vs[k]? = some u := ⟨_, List.getElem?_eq_getElem (by rw [HV.out.1]; exact hlt)⟩
          obtain ⟨L, hL⟩ : ∃ L, LL[k]? = some L := ⟨_, List.getElem?_eq_getElem hlt⟩
          have hr := (HV.out.2.2 k u L hu hL).pure hkp
          obtain ⟨b0, off, rfl, hcl⟩ := HV.out.2.1.resolve_left (fun h => by rw [h] at hu; cases hu)
          have q0 := hkp.cell (p := ⟨b0, off + k, none⟩) (fun h => h) (hcl k _ hu)
          have hle2 := @flat_take_le LL (k + 1)
          rw [flat_take_succ hL, List.length_append] at hle2
          have hrl := recs_length L
          have B1 : Hid (((LL.take k).flatten.length * 3 + (recs L).length) * 24 ≤ 140737488355328) := by have := HB.out; show _ ≤ _; rw [hrl]; omega
          have B2 : Hid ((LL.take k).flatten.length * 3 + (recs L).length ≤ maxLen) := by have := HB.out; show _ ≤ _; rw [hrl]; unfold maxLen; omega
          have HR := Lib.hid hr
          have HO := Lib.hid ho
          have HLk := Lib.hid hL
          have H1 := Lib.hid (recs_one L)
          have B3 := Lib.hid hkp.size
          have HK := Lib.hid hg
          obtain ⟨oa, oc, rfl⟩ := owns_slice ho
          obtain ⟨ua, uc, rfl, hu1, hu2⟩ := hr.len
          clear hr hu hL hcl hle2 hrl ho hg hu1 hu2
          go_wp2_with (at_builtin; (refine wpList_append_reads rfl (.tmp 31) (.tmp 32) 42 rfl w.heap.size 46 i0 z0 3 24 Try.underlying42 hi hz hs0 hb0 hzc (by decide) _ _ _ rfl HO.out _ (recs L) rfl HR.out H1.out B1.out B2.out B3.out ?_); intro v' n' w' g1 g2 g3 g4)
          obtain ⟨va, vc, rfl⟩ := owns_slice g1
          have F : Hid (w'.ownsRow w.heap.size 46 3 (.slice va n' vc) (LL.take (k + 1)).flatten.length (recs (LL.take (k + 1)).flatten) ∧ Kept none' w w') := by
            have e1 : (LL.take (k + 1)).flatten = (LL.take k).flatten ++ L := flat_take_succ HLk.out
            rw [recs_length] at g2
            have e2 : n' = (LL.take (k + 1)).flatten.length := by rw [e1, List.length_append]; omega
            refine ⟨?_, ?_⟩
            · rw [e2] at g1 ⊢; rw [e1, recs_append]; rw [e1] at g1; exact g1
            · refine hkp.new (Kept.grown (S := fun j => w.heap.size ≤ j) g3 (fun j hj _ => ?_)) (fun j hj e => by omega)
              exact (owns_own HO.out hj).1
          clear g1 g2 g3 g4
          go_wp2_with fail
          go_roundg (LL.length - (k + 1))
          case rel => exact ⟨k + 1, by go_num, by omega, Nat.le_refl _, F.out.1, F.out.2⟩
          case measure => have := HK.out; omega
        · have hkk : k = LL.length := by omega
          subst hkk
          rw [List.take_of_length_le (Nat.le_refl _)] at ho
          obtain ⟨oa, oc, rfl⟩ := owns_slice ho
          have HO := Lib.hid ho
          clear ho
          go_wp2_with fail
          go_ret
          exact ⟨_, rfl, HO.out, hkp⟩
end Go.Proofs.Ytaalpijohdlabaa
