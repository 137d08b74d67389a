/-
  What each law of the ideals ends in: the document's job, fed twice.
-/
import Derived.Test.YtopeleenlcnkkaaGreatDoorK48
import Derived.Test.YtopeleenlcnkkaaGreatDoorK49
import Derived.Test.YtopeleenlcnkkaaGreatDoorK19
import Derived.Test.YtopeleenlcnkkaaGreatDoorK27
set_option linter.unusedVariables false
set_option linter.unusedSimpArgs false
namespace Go.Proofs.YtopeleenlcnkkaaGreatDoor
open Go Go.RowKit
attribute [local irreducible] wpL wpTr H2.wpH
/-- Where the tables lie does not change with their being fed. -/
theorem TabsOk.some_of {nodes : List JN} {Ts Us : Tabs} (h : TabsOk nodes Ts) (hu : TabsOk nodes Us) {i : Nat} {T : Tab} (hT : Ts[i]? = some (some T)) : ∃ U, Us[i]? = some (some U) := by
  have hi : i < nodes.length := by rw [← h.len]; exact (List.getElem?_eq_some_iff.1 hT).1
  obtain ⟨d, hd⟩ : ∃ d, nodes[i]? = some d := ⟨_, List.getElem?_eq_getElem hi⟩
  cases hs : stateful d.kind with
  | false => rw [h.not i d hd hs] at hT; cases hT
  | true => obtain ⟨U, hU, _⟩ := hu.has i d hd hs; exact ⟨U, hU⟩
theorem TabsOk.newT {nodes : List JN} {Ts Us : Tabs} (h : TabsOk nodes Ts) (hu : TabsOk nodes Us) {n : Nat} {pm : Nat → Nat × Nat} (hn : NewT n Ts pm) : NewT n Us pm := fun q U hU => by
  obtain ⟨T, hT⟩ := hu.some_of h hU
  exact hn q T hT
theorem Kept.maps {w0 w w' : World} {Ts : Tabs} {pm : Nat → Nat × Nat} (h : Kept none' w0 w) (hn : NewT w0.heap.size Ts pm) (hk : Kept (mapsOf Ts pm) w w') : Kept none' w0 w' :=
  h.new hk (fun i hi hs => by
    obtain ⟨q, T, hT, rfl⟩ := hs
    have := hn q T hT
    omega)
def sumsJ : Jb := ⟨2, sumsN⟩
theorem sums_ok : jobOk sumsJ = true := by kernel_rfl
theorem sums_load : loadP sumsJ [] = .ok [none, some [], none] := by kernel_rfl
theorem sums_feed1 : feedP sumsN [none, some [], none] 5 2 = ([⟨1, 5, 2⟩], [none, some [(5, 2, [])], none]) := by kernel_rfl
theorem sums_feed2 : (feedP sumsN [none, some [(5, 2, [])], none] 5 4).1 = [⟨1, 5, 6⟩] := by kernel_rfl
theorem NodesAt.jr {w : World} {v : Value} {L : List JN} (h : NodesAt w v L) : JR L := by
  obtain ⟨cs, h1, h2, h3⟩ := h
  intro d hd env he
  obtain ⟨i, hi⟩ := List.getElem?_of_mem hd
  obtain ⟨pi, ci, p, c, _, h6, _⟩ := h3 i d hi
  exact exInt_r64 h6 he
set_option maxRecDepth 100000 in
set_option maxHeartbeats 1000000 in
theorem works_any (w : World) (m : Int) (hm : w.cell? ⟨0, 0, none⟩ = some (.int .i64 m)) : Calls Tryz.prog 22 #[] w (Gives w (.bool true)) := by
  have c1 := made_any sumsT 2 sumsN w sums_parse m hm
  clear hm
  go_enter Tryz.func22, Tryz.ntmps22
  go_wp2_with fail
  (with_reducible refine c1.mono ?_)
  clear c1
  rintro e w1 ⟨v, J, lo, D, rfl, hj, hJ, k1⟩
  have c2 := newI_any sumsJ _ w1 hj.job
  unfold LoadQ at c2
  rw [sums_load] at c2
  dsimp only at c2
  have sums_jr : JR sumsN := by obtain ⟨v', _, hn, _⟩ := hj.job; exact hn.jr
  have K1 := Lib.hid k1
  clear hj hJ k1
  go_wp2_with fail
  (with_reducible refine c2.mono ?_)
  clear c2
  rintro e w2 ⟨b, mm, pm, rfl, hi, hmm, hnt, k2⟩
  have hT0 := (load_ok sums_load).2
  have c3 := feed_any sumsJ b mm _ pm 5 2 w2 hi sums_ok sums_jr hT0 (.small (by simp) (by simp)) (.small (by simp) (by simp))
  unfold FeedQ at c3
  rw [show sumsJ.nodes = sumsN from rfl, sums_feed1] at c3
  dsimp only at c3
  have K2 := Lib.hid (And.intro k2 hnt)
  clear hi hmm hnt k2
  go_wp2_with fail
  (with_reducible refine c3.mono ?_)
  clear c3
  rintro e w3 ⟨v3, rfl, hr3, hb3, hi3, k3⟩
  have hT1 : TabsOk sumsN [none, some [(5, 2, [])], none] := by
    have := (feedP_ok sums_ok (show JR sumsJ.nodes from sums_jr) hT0 (key := 5) (val := 2) (.small (by simp) (by simp)) (.small (by simp) (by simp))).1
    rwa [show sumsJ.nodes = sumsN from rfl, sums_feed1] at this
  have ka : Kept none' w3 (w3.alloc (.cells #[.int .i64 1, .int .i64 5, .int .i64 2] 44)) := (Kept.refl _ _).alloc _
  have c4 := equalRec v3 _ _ [⟨1, 5, 2⟩] _ (hr3.kept ka (fun _ _ h => h)) (Reads.lit w3 [.int .i64 1, .int .i64 5, .int .i64 2] 44 3 1 rfl (by unfold maxLen; omega))
  rw [show eqR [⟨1, 5, 2⟩] [⟨1, 5, 2⟩] = true by decide] at c4
  have K3 := Lib.hid (And.intro hi3 (And.intro (Kept.maps (Kept.refl none' w1 |>.trans K2.out.1) K2.out.2 k3) (And.intro ka hT1)))
  clear hr3 hb3 hi3 k3 ka hT1
  go_wp2_with fail
  (with_reducible refine c4.mono ?_)
  clear c4
  rintro e w4 ⟨rfl, k4⟩
  have c5 := feed_any sumsJ b mm _ pm 5 4 w4 (K3.out.1.pure (K3.out.2.2.1.trans k4)) sums_ok sums_jr K3.out.2.2.2 (.small (by simp) (by simp)) (.small (by simp) (by simp))
  unfold FeedQ at c5
  rw [show sumsJ.nodes = sumsN from rfl, sums_feed2] at c5
  have K4 := Lib.hid k4
  clear k4
  go_wp2_with fail
  (with_reducible refine c5.mono ?_)
  clear c5
  rintro e w5 ⟨v5, rfl, hr5, -, -, k5⟩
  have ka : Kept none' w5 (w5.alloc (.cells #[.int .i64 1, .int .i64 5, .int .i64 6] 44)) := (Kept.refl _ _).alloc _
  have c6 := equalRec v5 _ _ [⟨1, 5, 6⟩] _ (hr5.kept ka (fun _ _ h => h)) (Reads.lit w5 [.int .i64 1, .int .i64 5, .int .i64 6] 44 3 1 rfl (by unfold maxLen; omega))
  rw [show eqR [⟨1, 5, 6⟩] [⟨1, 5, 6⟩] = true by decide] at c6
  have K5 := Lib.hid (And.intro (Kept.maps (K3.out.2.1.trans (K3.out.2.2.1.trans K4.out)) (hT0.newT K3.out.2.2.2 K2.out.2) k5) ka)
  clear hr5 k5 ka
  go_wp2_with fail
  (with_reducible refine c6.mono ?_)
  clear c6
  rintro e w6 ⟨rfl, k6⟩
  have F := Lib.hid (K1.out.trans (K5.out.1.trans (K5.out.2.trans k6)))
  clear k6
  go_wp2_with fail
  go_ret
  exact ⟨rfl, F.out⟩
end Go.Proofs.YtopeleenlcnkkaaGreatDoor
/-
  Heavy: whether what comes in is more than is gone through (laws 12 and 18).
-/
namespace Go.Proofs.YtopeleenlcnkkaaGreatDoor
open Go Go.RowKit
attribute [local irreducible] wpL wpTr H2.wpH
def SaysQ (w : World) (e : Ending) (w' : World) : Prop := ∃ b : Bool, e = .returned (.bool b) ∧ Kept none' w w'
set_option maxRecDepth 100000 in
set_option maxHeartbeats 1000000 in
theorem heavy12_any (j : Jb) (a : Array Value) (w : World) (h : JbAt w a j) : Calls Tryz.prog 39 #[.agg a] w (SaysQ w) := by
  obtain ⟨v, rfl, hn, hp⟩ := h
  obtain ⟨na, cap, rfl, h1, h2, h3⟩ := hn.at
  unfold maxLen at h2
  have kA : Kept none' w (w.alloc (.cells #[.int .i64 j.par, .slice na j.nodes.length cap] 24)) := (Kept.refl _ _).alloc _
  have b1 : (w.alloc (.cells #[.int .i64 j.par, .slice na j.nodes.length cap] 24)).cell? ⟨w.heap.size, 1, none⟩ = some (.slice na j.nodes.length cap) := by simp
  have H3 := Lib.hid h3
  have KA := Lib.hid kA
  clear h3 hn hp kA
  by_cases hl : 40 < j.nodes.length
  · go_enter Tryz.func39, Tryz.ntmps39
    go_wp2_with fail
    go_ret
    exact ⟨true, rfl, KA.out⟩
  · go_enter Tryz.func39, Tryz.ntmps39
    go_wp2_with fail
    obtain ⟨W0, hW0⟩ : ∃ W0, w.alloc (.cells #[.int .i64 j.par, .slice na j.nodes.length cap] 24) = W0 := ⟨_, rfl⟩
    rw [hW0] at KA b1 ⊢
    have B1 := Lib.hid b1
    clear hW0 b1
    go_loopg [3, 13] j.nodes.length (fun g vn vi wr => ∃ (k : Nat) (n : Int), k ≤ j.nodes.length ∧ vi = .int .i64 (k : Int) ∧ vn = .int .i64 n ∧ j.nodes.length - k ≤ g ∧ 0 ≤ n ∧ n ≤ 3000 ∧ Kept none' w wr)
    case atStart => exact ⟨0, 0, by omega, rfl, rfl, by omega, by omega, by omega, KA.out⟩
    case round =>
      obtain ⟨k, n, hkl, rfl, rfl, hg, hn1, hn2, hkp⟩ := hrel
      by_cases hlt : k < j.nodes.length
      · obtain ⟨d, hd⟩ : ∃ d, j.nodes[k]? = some d := ⟨_, List.getElem?_eq_getElem hlt⟩
        obtain ⟨b, off, pi, ci, p, cap', rfl, hc, hj⟩ := H3.out k d hd
        obtain ⟨c0, c1, c2, c3, c4, c5, c6⟩ := hc.kept hkp (fun h => h)
        have kA : Kept none' wr (wr.alloc (.cells (jnC d pi ci p cap') 97)) := (Kept.refl _ _).alloc _
        have hx : ExAt (wr.alloc (.cells (jnC d pi ci p cap') 97)) #[.int .u8 d.x.op, .int .i64 d.x.n, .slice p d.x.args.length cap'] d.x := by
          have hx0 : ExAt w #[.int .u8 d.x.op, .int .i64 d.x.n, .slice p d.x.args.length cap'] d.x := by
            obtain ⟨_, _, _, _, e, hx, _⟩ := hj
            simp only [Array.mk.injEq, List.cons.injEq, Value.slice.injEq, and_true, true_and] at e
            obtain ⟨-, e1, e2⟩ := e
            rw [e1, e2]
            exact hx
          exact ExAt.pure (hkp.trans kA) hx0
        have cz := size_any (SizeOf.sizeOf d.x) d.x _ _ (Nat.le_refl _) hx
        have nB : (wr.alloc (.cells (jnC d pi ci p cap') 97)).heap[wr.heap.size]? = some (.cells (jnC d pi ci p cap') 97 (0, 0)) := heap_alloc_new _ _
        have HC := Lib.hid (And.intro hg (And.intro hkp (And.intro kA (And.intro nB hj))))
        clear hg hkp kA nB hj hc hx hd
        go_wp2_with fail
        (with_reducible refine cz.mono ?_)
        clear cz
        rintro e w2 ⟨z, rfl, hz1, hz2, k2⟩
        have nB2 := k2.heap HC.out.2.2.2.1 (fun h => h)
        have z0 : w2.cell? ⟨wr.heap.size, 0, none⟩ = some (.string d.uid) := cells_at nB2 rfl
        have z2 : w2.cell? ⟨wr.heap.size, 2, none⟩ = some (.slice pi d.ins.length ci) := cells_at nB2 rfl
        have K2 := Lib.hid (HC.out.2.1.trans (HC.out.2.2.1.trans k2))
        have hu : d.uid.size ≤ 2 ^ 63 - 1 := by have := HC.out.2.2.2.2; obtain ⟨_, _, _, _, _, _, _, _, _, _, _, h⟩ := this; unfold maxLen at h; exact h
        clear k2 nB2
        by_cases q1 : 40 < d.ins.length
        · go_wp2_with fail
          go_ret
          exact ⟨true, rfl, K2.out⟩
        · by_cases q2 : 1000 < d.uid.size
          · go_wp2_with fail
            go_ret
            exact ⟨true, rfl, K2.out⟩
          · by_cases q3 : 3000 < n + z
            · go_wp2_with fail
              go_ret
              exact ⟨true, rfl, K2.out⟩
            · go_wp2_with fail
              go_roundg (j.nodes.length - (k + 1))
              case rel => exact ⟨k + 1, n + z, by omega, by go_num, rfl, Nat.le_refl _, by omega, by omega, K2.out⟩
              case measure => have := HC.out.1; omega
      · have HK := Lib.hid hkp
        clear hkp
        go_wp2_with fail
        go_ret
        exact ⟨false, rfl, HK.out⟩
set_option maxRecDepth 100000 in
set_option maxHeartbeats 1000000 in
theorem heavy_any (j : Jb) (a : Array Value) (sv : Value) (l : List St) (rv : Value) (R : List Rec) (w : World) (h : JbAt w a j) (hs : Reads w 2 sv (stsC l)) (hsz : ∀ s ∈ l, s.1.size ≤ maxLen ∧ s.2.size ≤ maxLen) (hr : Reads w 3 rv (recs R)) :
    Calls Tryz.prog 15 #[.agg a, sv, rv] w (SaysQ w) := by
  have hJ := h
  obtain ⟨v, rfl, hn, hp⟩ := h
  obtain ⟨na, cap, rfl, h1, h2, h3⟩ := hn.at
  obtain ⟨sa, scap, rfl, s1, s2, s3⟩ := hs.stAt
  obtain ⟨ra, rcap, rfl, r1, r2, r3⟩ := hr.recAt
  unfold maxLen at h2 s2 r2
  have kA : Kept none' w (w.alloc (.cells #[.int .i64 j.par, .slice na j.nodes.length cap] 24)) := (Kept.refl _ _).alloc _
  have tA : (w.alloc (.cells #[.int .i64 j.par, .slice na j.nodes.length cap] 24)).heap[w.heap.size]? = some (.cells #[.int .i64 j.par, .slice na j.nodes.length cap] 24 (0, 0)) := heap_alloc_new _ _
  have H3 := Lib.hid (And.intro hJ (And.intro s3 hsz))
  have KA := Lib.hid (And.intro kA tA)
  clear h3 hn hp kA hJ s3 hsz hs hr r3 tA
  go_enter Tryz.func15, Tryz.ntmps15
  go_wp2_with fail
  obtain ⟨W0, hW0⟩ : ∃ W0, w.alloc (.cells #[.int .i64 j.par, .slice na j.nodes.length cap] 24) = W0 := ⟨_, rfl⟩
  rw [hW0] at KA ⊢
  clear hW0
  go_loopg [11] l.length (fun g vi wr => ∃ k : Nat, k ≤ l.length ∧ vi = .int .i64 (k : Int) ∧ l.length - k ≤ g ∧ Kept none' W0 wr)
  case atStart => exact ⟨0, by omega, rfl, by omega, Kept.refl _ _⟩
  case round =>
    obtain ⟨k, hkl, rfl, hg, hkp⟩ := hrel
    by_cases hlt : k < l.length
    · obtain ⟨s, hs⟩ : ∃ s, l[k]? = some s := ⟨_, List.getElem?_eq_getElem hlt⟩
      obtain ⟨bs, offs, rfl, hcs⟩ := H3.out.2.1.resolve_left (fun h => by rw [h] at hlt; simp at hlt)
      have kw := KA.out.1.trans hkp
      have y0 := kw.cell (fun h => h) (hcs k s hs).1
      have y1 := kw.cell (fun h => h) (hcs k s hs).2
      obtain ⟨hz0, hz1⟩ := H3.out.2.2 s (List.mem_of_getElem? hs)
      unfold maxLen at hz0 hz1
      have G := Lib.hid (And.intro hg (And.intro hkp (And.intro kw (hkp.alloc (.cells #[.string s.1, .string s.2] 33)))))
      clear hg hkp kw hcs hs
      by_cases q1 : 20000 < s.2.size
      · go_wp2_with fail
        go_ret
        exact ⟨true, rfl, KA.out.1.trans G.out.2.2.2⟩
      · by_cases q2 : 1000 < s.1.size
        · go_wp2_with fail
          go_ret
          exact ⟨true, rfl, KA.out.1.trans G.out.2.2.2⟩
        · go_wp2_with fail
          go_roundg (l.length - (k + 1))
          case rel => exact ⟨k + 1, by omega, by go_num, Nat.le_refl _, G.out.2.2.2⟩
          case measure => have := G.out.1; omega
    · have tw := hkp.heap KA.out.2 (fun h => h)
      have x0 := cells_at tw (j := 0) rfl
      have x1 := cells_at tw (j := 1) rfl
      have hB : w.heap.size < wr.heap.size := (Array.getElem?_eq_some_iff.1 tw).1
      have ch := heavy12_any j _ wr (H3.out.1.pure (KA.out.1.trans hkp))
      have G := Lib.hid (KA.out.1.trans hkp)
      clear hkp tw hg
      go_wp2_with fail
      (with_reducible refine ch.mono ?_)
      clear ch
      rintro e w2 ⟨b, rfl, k2⟩
      have F := Lib.hid (G.out.trans k2)
      clear k2
      by_cases q0 : b = true
      · subst q0
        go_wp2_with fail
        go_ret
        exact ⟨_, rfl, F.out⟩
      · have q0' : b = false := by simpa using q0
        subst q0'
        clear q0
        by_cases q1 : 40 < l.length
        · go_wp2_with fail
          go_ret
          exact ⟨_, rfl, F.out⟩
        · go_wp2_with fail
          go_ret
          exact ⟨_, rfl, F.out⟩
end Go.Proofs.YtopeleenlcnkkaaGreatDoor
