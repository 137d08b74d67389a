/-
  TableParts: its walk.
-/
import Derived.Test.YtaalpijohdlabaaTof
import Derived.Test.YtaalpijohdlabaaPla
import Derived.Test.YtaalpijohdlabaaTab9
namespace Go.Proofs.Ytaalpijohdlabaa
open Go Go.RowKit
/-- The place of a key among n. -/
def plK (n : Nat) (k : Int) : Nat := placeN (grp k).toNat n
theorem plK_lt {n : Nat} (k : Int) (hn : 1 ≤ n) : plK n k < n := by
  unfold plK placeN
  have h1 := grp_lo k
  have h2 := grp_hi k
  obtain ⟨g, hg⟩ : ∃ g : Nat, grp k = (g : Int) := ⟨(grp k).toNat, by omega⟩
  rw [hg, Int.toNat_natCast]
  have h3 : g ≤ 7 := by omega
  have h4 : g * n ≤ 7 * n := Nat.mul_le_mul_right _ h3
  omega
theorem mem_owns {k n : Nat} {g : Int} (h0 : 0 ≤ g) (h8 : g < 8) : g ∈ ownsL k n 8 ↔ placeN g.toNat n = k := by
  unfold ownsL
  rw [List.mem_map]
  constructor
  · rintro ⟨i, hi, rfl⟩
    have := (List.mem_filter.1 hi).2
    simpa using this
  · intro h
    refine ⟨g.toNat, List.mem_filter.2 ⟨List.mem_range.2 (by omega), by simpa using h⟩, by omega⟩
theorem tabOf_owns (T : Tab) (k n : Nat) : tabOf T (ownsL k n 8) = T.filter fun p => decide (plK n p.1 = k) := by
  unfold tabOf
  refine List.filter_congr fun p _ => ?_
  rw [decide_eq_decide, mem_owns (grp_lo _) (grp_hi _)]
  rfl
def parts (T : Tab) (n k : Nat) : Tab := T.filter fun p => decide (plK n p.1 < k)
theorem parts_zero (T : Tab) (n : Nat) : parts T n 0 = [] := by
  unfold parts; rw [List.filter_eq_nil_iff]; intro p _; simp
theorem parts_all (T : Tab) {n : Nat} (hn : 1 ≤ n) : parts T n n = T := by
  unfold parts; rw [List.filter_eq_self]; intro p _; exact decide_eq_true (plK_lt _ hn)
theorem parts_next {T : Tab} (hT : TOk T) (n k : Nat) : joinE (parts T n k) (tabOf T (ownsL k n 8)) = 0 ∧ joinT (parts T n k) (tabOf T (ownsL k n 8)) = parts T n (k + 1) := by
  have hE : joinE (parts T n k) (tabOf T (ownsL k n 8)) = 0 := by
    rw [tabOf_owns]
    refine joinE_mk (fun x hx => ?_) (fun g => ?_)
    · rw [tget_none]
      intro hm
      unfold tkeys parts at *
      obtain ⟨p, hp, e⟩ := List.mem_map.1 hm
      obtain ⟨q, hq, e'⟩ := List.mem_map.1 hx
      have h1 := of_decide_eq_true (List.mem_filter.1 hp).2
      have h2 := of_decide_eq_true (List.mem_filter.1 hq).2
      rw [e] at h1; rw [e'] at h2
      omega
    · refine Nat.le_trans ?_ (hT.many g)
      unfold tmany parts
      induction T with
      | nil => simp
      | cons p T ih =>
        have ih' := ih ⟨(List.pairwise_cons.1 hT.rises).2, fun q hq => hT.key q (by simp [hq]), fun q hq => hT.cell q (by simp [hq]), fun g => by have := hT.many g; unfold tmany at *; rw [List.countP_cons] at this; omega⟩
        by_cases h1 : plK n p.1 < k
        · have h2 : ¬ plK n p.1 = k := by omega
          rw [List.filter_cons, if_pos (decide_eq_true h1), List.filter_cons, if_neg (by simpa using h2), List.countP_cons, List.countP_cons]
          omega
        · by_cases h2 : plK n p.1 = k
          · rw [List.filter_cons, if_neg (by simpa using h1), List.filter_cons, if_pos (by simpa using h2), List.countP_cons, List.countP_cons]
            omega
          · rw [List.filter_cons, if_neg (by simpa using h1), List.filter_cons, if_neg (by simpa using h2), List.countP_cons]
            omega
  refine ⟨hE, ?_⟩
  unfold joinT
  rw [if_pos hE, tabOf_owns]
  refine jn_filter hT.rises _ _ _ fun p _ => ?_
  rw [Bool.eq_iff_iff, Bool.or_eq_true]
  simp only [decide_eq_true_eq]
  omega
theorem owns_key {T : Tab} {k n : Nat} {x : Int} (h : x ∈ tkeys (tabOf T (ownsL k n 8))) : plK n x = k := by
  rw [tabOf_owns] at h
  obtain ⟨p, hp, rfl⟩ := List.mem_map.1 h
  exact of_decide_eq_true (List.mem_filter.1 hp).2
end Go.Proofs.Ytaalpijohdlabaa
/-
  TableParts: its walk.
-/
namespace Go.Proofs.Ytaalpijohdlabaa
open Go Go.RowKit
structure PrInv (w wr : World) (T : Tab) (bt mt ba ma n k : Nat) : Prop where
  tab : TabAt wr (up w.heap.size) bt mt T
  all : TabAt wr (up w.heap.size) ba ma (parts T n k)
  kept : Kept none' w wr
theorem PrInv.pure {w wr w' : World} {T : Tab} {bt mt ba ma n k : Nat} (h : PrInv w wr T bt mt ba ma n k) (hk : Kept none' wr w') : PrInv w w' T bt mt ba ma n k :=
  ⟨h.tab.pure hk, h.all.pure hk, h.kept.trans hk⟩
set_option maxRecDepth 100000 in
set_option maxHeartbeats 4000000 in
theorem parts_walk (v : Value) (ops : List Op) (n1 n2 : Int) (w : World) (h : OpsAt w v ops) : Calls Try.prog 11 #[v, .int .i64 n1, .int .i64 n2] w (Gives w (.bool true)) := by
  have hH := heavy_any v ops w h
  have HO := Lib.hid h
  obtain ⟨oa, oc, rfl, _⟩ := h
  obtain ⟨b, hb⟩ : ∃ b, heavyB ops = b := ⟨_, rfl⟩
  rw [hb] at hH
  have HB := Lib.hid hb
  have HHH := Lib.hid hH
  clear hb hH
  have ways : (b = true ∨ n1 < 1 ∨ 4 < n1 ∨ n2 < 1 ∨ 4 < n2) ∨ (b = false ∧ (∃ a c : Nat, n1 = (a : Int) ∧ n2 = (c : Int) ∧ 1 ≤ a ∧ a ≤ 4 ∧ 1 ≤ c ∧ c ≤ 4)) := by
    cases b with
    | true => exact .inl (.inl rfl)
    | false =>
      by_cases h1 : n1 < 1 ∨ 4 < n1 ∨ n2 < 1 ∨ 4 < n2
      · exact .inl (.inr h1)
      · exact .inr ⟨rfl, n1.toNat, n2.toNat, by omega, by omega, by omega, by omega, by omega, by omega⟩
  rcases ways with hbad | ⟨rfl, n, n', rfl, rfl, hn1, hn2, hn3, hn4⟩
  · have hbad' : b = true ∨ (b = false ∧ n1 < 1) ∨ (b = false ∧ ¬ n1 < 1 ∧ 4 < n1) ∨ (b = false ∧ ¬ n1 < 1 ∧ ¬ 4 < n1 ∧ n2 < 1) ∨ (b = false ∧ ¬ n1 < 1 ∧ ¬ 4 < n1 ∧ ¬ n2 < 1 ∧ 4 < n2) := by
      cases b with
      | true => exact .inl rfl
      | false =>
        have : n1 < 1 ∨ 4 < n1 ∨ n2 < 1 ∨ 4 < n2 := hbad.resolve_left (by decide)
        refine .inr ?_
        simp only [true_and]
        omega
    clear hbad
    rcases hbad' with rfl | ⟨rfl, h1⟩ | ⟨rfl, h1, h2⟩ | ⟨rfl, h1, h2, h3⟩ | ⟨rfl, h1, h2, h3, h4⟩
    all_goals
      go_enter Try.func11, Try.ntmps11
      go_wp2_with fail
      (with_reducible refine HHH.out.mono ?_)
      rintro e w1 ⟨rfl, k1⟩
      go_wp2_with fail
      (with_reducible refine (works16 w1).mono ?_)
      rintro e w2 ⟨rfl, k2⟩
      go_wp2_with fail
      go_ret
      exact ⟨rfl, k1.trans k2⟩
  · have g1 : ¬ (n : Int) < 1 := by omega
    have g2 : ¬ (4 : Int) < (n : Int) := by omega
    have g3 : ¬ (n' : Int) < 1 := by omega
    have g4 : ¬ (4 : Int) < (n' : Int) := by omega
    have hll := (heavyB_false HB.out).2
    have HLL := Lib.hid (show ∀ o ∈ ops, o.l.length ≤ 17592186044416 from fun o h => by have := hll o h; omega)
    clear hll
    go_enter Try.func11, Try.ntmps11
    go_wp2_with fail
    (with_reducible refine HHH.out.mono ?_)
    rintro e w1 ⟨rfl, k1⟩
    go_wp2_with fail
    (with_reducible refine (made16_any (.slice oa ops.length oc) ops w1 (HO.out.pure k1) HLL.out).mono ?_)
    rintro e w2 ⟨bt, mt, rfl, t2, k2⟩
    obtain ⟨T, hT⟩ : ∃ T, madeT ops = T := ⟨_, rfl⟩
    rw [hT] at t2
    clear hT
    go_wp2_with fail
    refine (new_any w2).mono ?_
    rintro e w3 ⟨ba, ma, rfl, t3, k3⟩
    have hmm : mt < ma := by have h1 := t2.lt.1; have h2 := t3.hm; unfold up at h2; omega
    have I0 : PrInv w w3 T bt mt ba ma n 0 := ⟨(t2.mono (fun k hk _ => k1.up k hk)).pure k3, by rw [parts_zero]; exact t3.mono (fun k hk _ => (k1.trans k2).up k hk), (k1.trans k2).trans k3⟩
    have II := Lib.hid I0
    clear I0 t2 t3 k1 k2 k3 HHH
    go_wp2_with fail
    go_loopg [9, 38] 4 (fun g _ vi wr => ∃ k : Nat, k ≤ n ∧ vi = .int .i64 (k : Int) ∧ PrInv w wr T bt mt ba ma n k ∧ n - k ≤ g)
    case atStart => exact ⟨0, by omega, rfl, II.out, by omega⟩
    case round =>
      obtain ⟨k, hk, rfl, hi, hg⟩ := hrel
      have HI := Lib.hid (And.intro hi hg)
      clear hi hg
      by_cases hlt : k < n
      · go_wp2_with fail
        (with_reducible refine (owns_any k n ⟨hn1, hn2⟩ wr).mono ?_)
        rintro e w4 ⟨v4, m4, rfl, o4, k4⟩
        obtain ⟨a4, c4, rfl⟩ := owns_slice o4
        have r4 := Reads.of_owns o4
        have J4 := Lib.hid (And.intro (HI.out.1.pure k4) r4)
        clear o4 r4 k4
        go_wp2_with fail
        (with_reducible refine (tof_any (up w.heap.size) bt mt T (.slice a4 m4 c4) (ownsL k n 8) w4 J4.out.1.tab J4.out.2).mono ?_)
        rintro e w5 ⟨bm, mm, rfl, t5, k5⟩
        have hmm5 : ma < mm := by have h1 := J4.out.1.all.lt.1; have h2 := t5.hm; unfold up at h2; omega
        have J5 := Lib.hid (And.intro (J4.out.1.pure k5) (t5.mono (fun k hk _ => J4.out.1.kept.up k hk)))
        clear t5 k5 J4
        go_wp2_with fail
        (with_reducible refine (keys_any (up w.heap.size) bm mm _ w5 J5.out.2).mono ?_)
        rintro e w6 ⟨v6, rfl, o6, _, k6⟩
        have r6 := Reads.of_owns o6
        obtain ⟨pa, ca, rfl, ka1, ka2, ka3⟩ := r6.at
        unfold maxLen at ka2
        have J6 := Lib.hid (And.intro (J5.out.1.pure k6) (And.intro (J5.out.2.pure k6) ka3))
        clear r6 o6 k6 ka3 J5
        go_wp2_with fail
        go_loopw [12, 49] (fun _ vj wr2 => ∃ j : Nat, j ≤ (tkeys (tabOf T (ownsL k n 8))).length ∧ vj = .int .i64 (j : Int) ∧ wr2 = w6) (fun _ vj _ => (tkeys (tabOf T (ownsL k n 8))).length - (intOf vj).toNat)
        case atStart => exact ⟨0, by omega, rfl, by first | trivial | rfl⟩
        case round =>
          obtain ⟨j, hj, rfl, rfl⟩ := hrel
          by_cases hjl : j < (tkeys (tabOf T (ownsL k n 8))).length
          · obtain ⟨x, hx⟩ : ∃ x, (tkeys (tabOf T (ownsL k n 8)))[j]? = some x := ⟨_, List.getElem?_eq_getElem hjl⟩
            obtain ⟨kb, ko, rfl, hc⟩ := J6.out.2.2.resolve_left (fun h => by rw [h] at hx; cases hx)
            have q0 := hc j x hx
            have HP := Lib.hid (owns_key (List.mem_of_getElem? hx))
            clear hc hx
            go_wp2_with fail
            (with_reducible refine (placeOf_any x n ⟨hn1, hn2⟩ _).mono ?_)
            rintro e w7 ⟨rfl, rfl⟩
            have e7 : placeN (grp x).toNat n = k := HP.out
            rw [e7]
            clear e7
            go_wp2_with fail
            go_roundw
            case rel => exact ⟨j + 1, by omega, by go_num, by first | trivial | rfl⟩
            case measure => simp [intOf]; omega
          · go_wp2_with fail
            have hj := parts_next HI.out.1.tab.ok n k
            have hjE := Lib.hid hj.1
            have hjT := Lib.hid hj.2
            clear hj
            (with_reducible refine (join_any (up w.heap.size) (up w.heap.size) ba ma bm mm (parts T n k) (tabOf T (ownsL k n 8)) _ J6.out.1.all J6.out.2.1 J6.out.1.kept.up (by omega)).mono ?_)
            rintro e w7 ⟨rfl, t7, k7⟩
            rw [hjT.out] at t7
            rw [hjE.out]
            have hml := J6.out.1.all.map
            have F := Lib.hid (show PrInv w w7 T bt mt ba ma n (k + 1) from ⟨J6.out.1.tab.kept k7 (by obtain ⟨l, hl, _⟩ := hml; exact .map hl _) (fun e => by unfold one at e; omega), t7, J6.out.1.kept.new k7 (fun i hi e => by have := J6.out.1.all.hm; unfold up at this; unfold one at e; omega)⟩)
            clear t7 k7 hml
            go_wp2_with fail
            go_roundg (n - (k + 1))
            case rel => exact ⟨k + 1, by omega, by go_num, F.out, Nat.le_refl _⟩
            case measure => have := HI.out.2; omega
      · have hkn : k = n := by omega
        subst hkn
        have HA := Lib.hid (show PrInv w wr T bt mt ba ma k k ∧ parts T k k = T from ⟨HI.out.1, parts_all T hn1⟩)
        have t0 := HA.out.1.all
        rw [HA.out.2] at t0
        have T0 := Lib.hid (And.intro HA.out.1.tab (And.intro t0 HA.out.1.kept))
        clear t0 HA HI
        go_wp2_with fail
        go_loopg [13, 65] 4 (fun g _ vi wr2 => ∃ k : Nat, k ≤ n' ∧ vi = .int .i64 (k : Int) ∧ Kept none' wr wr2 ∧ n' - k ≤ g)
        case atStart => exact ⟨0, by omega, rfl, Kept.refl _ _, by omega⟩
        case round =>
          obtain ⟨j, hj, rfl, hkp, hg⟩ := hrel
          have HJ := Lib.hid (And.intro hkp hg)
          clear hkp hg
          by_cases hjl : j < n'
          · have c := T0.out.2.1.pure HJ.out.1
            have A1 := Lib.hid c
            clear c
            go_wp2_with fail
            (with_reducible refine (owns_any j n' ⟨hn3, hn4⟩ wr).mono ?_)
            rintro e x1 ⟨u1, m1, rfl, o1, l1⟩
            obtain ⟨a1, c1, rfl⟩ := owns_slice o1
            have B1 := Lib.hid (And.intro (Reads.of_owns o1) l1)
            clear o1 l1
            go_wp2_with fail
            (with_reducible refine (tof_any (up w.heap.size) ba ma T (.slice a1 m1 c1) (ownsL j n' 8) x1 (A1.out.pure B1.out.2) B1.out.1).mono ?_)
            rintro e x2 ⟨bm, mm, rfl, t2, l2⟩
            have B2 := Lib.hid (And.intro t2 (HJ.out.1.trans (B1.out.2.trans l2)))
            clear t2 l2 B1
            go_wp2_with fail
            (with_reducible refine (bytes_any _ bm mm _ x2 B2.out.1).mono ?_)
            rintro e x3 ⟨rfl, l3⟩
            have K3 := Lib.hid (B2.out.2.trans l3)
            clear l3 B2
            go_wp2_with fail
            (with_reducible refine (owns_any j n' ⟨hn3, hn4⟩ x3).mono ?_)
            rintro e x4 ⟨u4, m4, rfl, o4, l4⟩
            obtain ⟨a4, c4, rfl⟩ := owns_slice o4
            have B4 := Lib.hid (And.intro (Reads.of_owns o4) (K3.out.trans l4))
            clear o4 l4
            go_wp2_with fail
            (with_reducible refine (tof_any (up w.heap.size) bt mt T (.slice a4 m4 c4) (ownsL j n' 8) x4 (T0.out.1.pure B4.out.2) B4.out.1).mono ?_)
            rintro e x5 ⟨bn, mn, rfl, t5, l5⟩
            have B5 := Lib.hid (And.intro t5 (B4.out.2.trans l5))
            clear t5 l5 B4
            go_wp2_with fail
            (with_reducible refine (bytes_any _ bn mn _ x5 B5.out.1).mono ?_)
            rintro e x6 ⟨rfl, l6⟩
            have K6 := Lib.hid (B5.out.2.trans l6)
            clear l6 B5
            go_wp2_with fail
            go_roundg (n' - (j + 1))
            case rel => exact ⟨j + 1, by omega, by go_num, K6.out, Nat.le_refl _⟩
            case measure => have := HJ.out.2; omega
          · go_wp2_with fail
            (with_reducible refine (bytes_any _ ba ma T wr (T0.out.2.1.pure HJ.out.1)).mono ?_)
            rintro e x1 ⟨rfl, l1⟩
            have K1 := Lib.hid (HJ.out.1.trans l1)
            clear l1
            go_wp2_with fail
            (with_reducible refine (bytes_any _ bt mt T x1 (T0.out.1.pure K1.out)).mono ?_)
            rintro e x2 ⟨rfl, l2⟩
            have K2 := Lib.hid (K1.out.trans l2)
            clear l2
            go_wp2_with fail
            (with_reducible refine (works16 x2).mono ?_)
            rintro e x3 ⟨rfl, l3⟩
            go_wp2_with fail
            go_ret
            exact ⟨rfl, T0.out.2.2.trans (K2.out.trans l3)⟩
end Go.Proofs.Ytaalpijohdlabaa
