/-
  What each law of the ideals ends in: the document's job, fed twice.
-/
import Derived.Test.YtopeleenlcnkkaaGreatDoorK50
import Derived.Test.YtopeleenlcnkkaaGreatDoorK51
import Derived.Test.YtopeleenlcnkkaaGreatDoorK20
import Derived.Test.YtopeleenlcnkkaaGreatDoorK28
namespace Go.Proofs.YtopeleenlcnkkaaGreatDoor
open Go Go.RowKit
attribute [local irreducible] wpL wpTr H2.wpH
/-- Where the tables lie does not change with their being fed. -/
theorem TabsOk.some_of {nodes : List JN} {Ts Us : Tabs} (h : TabsOk nodes Ts) (hu : TabsOk nodes Us) {i : Nat} {T : Tab} (hT : Ts[i]? = some (some T)) : ∃ U, Us[i]? = some (some U) := by
  have hi : i < nodes.length := by rw [← h.len]; exact (List.getElem?_eq_some_iff.1 hT).1
  obtain ⟨d, hd⟩ : ∃ d, nodes[i]? = some d := ⟨_, List.getElem?_eq_getElem hi⟩
  cases hs : stateful d.kind with
  | false => rw [h.not i d hd hs] at hT; cases hT
  | true => obtain ⟨U, hU, _⟩ := hu.has i d hd hs; exact ⟨U, hU⟩
theorem TabsOk.newT {nodes : List JN} {Ts Us : Tabs} (h : TabsOk nodes Ts) (hu : TabsOk nodes Us) {n : Nat} {pm : Nat → Nat × Nat} (hn : NewT n Ts pm) : NewT n Us pm := fun q U hU => by
  obtain ⟨T, hT⟩ := hu.some_of h hU
  exact hn q T hT
theorem Kept.maps {w0 w w' : World} {Ts : Tabs} {pm : Nat → Nat × Nat} (h : Kept none' w0 w) (hn : NewT w0.heap.size Ts pm) (hk : Kept (mapsOf Ts pm) w w') : Kept none' w0 w' :=
  h.new hk (fun i hi hs => by
    obtain ⟨q, T, hT, rfl⟩ := hs
    have := hn q T hT
    omega)
def sumsJ : Jb := ⟨2, sumsN⟩
theorem sums_ok : jobOk sumsJ = true := by kernel_rfl
theorem sums_load : loadP sumsJ [] = .ok [none, some [], none] := by kernel_rfl
theorem sums_feed1 : feedP sumsN [none, some [], none] 5 2 = ([⟨1, 5, 2⟩], [none, some [(5, 2, [])], none]) := by kernel_rfl
theorem sums_feed2 : (feedP sumsN [none, some [(5, 2, [])], none] 5 4).1 = [⟨1, 5, 6⟩] := by kernel_rfl
theorem NodesAt.jr {w : World} {v : Value} {L : List JN} (h : NodesAt w v L) : JR L := by
  obtain ⟨cs, h1, h2, h3⟩ := h
  intro d hd env he
  obtain ⟨i, hi⟩ := List.getElem?_of_mem hd
  obtain ⟨pi, ci, p, c, _, h6, _⟩ := h3 i d hi
  exact exInt_r64 h6 he
set_option maxRecDepth 100000 in
set_option maxHeartbeats 1000000 in
theorem works_any (w : World) (m : Int) (hm : w.cell? ⟨0, 0, none⟩ = some (.int .i64 m)) : Calls Tryz.prog 22 #[] w (Gives w (.bool true)) := by
  have c1 := made_any sumsT 2 sumsN w sums_parse m hm
  clear hm
  go_enter Tryz.func22, Tryz.ntmps22
  go_wp2_with fail
  (with_reducible refine c1.mono ?_)
  clear c1
  rintro e w1 ⟨v, J, lo, D, rfl, hj, hJ, k1⟩
  have c2 := newI_any sumsJ _ w1 hj.job
  unfold LoadQ at c2
  rw [sums_load] at c2
  dsimp only at c2
  have sums_jr : JR sumsN := by obtain ⟨v', _, hn, _⟩ := hj.job; exact hn.jr
  have K1 := Lib.hid k1
  clear hj hJ k1
  go_wp2_with fail
  (with_reducible refine c2.mono ?_)
  clear c2
  rintro e w2 ⟨b, mm, pm, rfl, hi, hmm, hnt, k2⟩
  have hT0 := (load_ok sums_load).2
  have c3 := feed_any sumsJ b mm _ pm 5 2 w2 hi sums_ok sums_jr hT0 (.small (by simp) (by simp)) (.small (by simp) (by simp))
  unfold FeedQ at c3
  rw [show sumsJ.nodes = sumsN from rfl, sums_feed1] at c3
  dsimp only at c3
  have K2 := Lib.hid (And.intro k2 hnt)
  clear hi hmm hnt k2
  go_wp2_with fail
  (with_reducible refine c3.mono ?_)
  clear c3
  rintro e w3 ⟨v3, rfl, hr3, hb3, hi3, k3⟩
  have hT1 : TabsOk sumsN [none, some [(5, 2, [])], none] := by
    have := (feedP_ok sums_ok (show JR sumsJ.nodes from sums_jr) hT0 (key := 5) (val := 2) (.small (by simp) (by simp)) (.small (by simp) (by simp))).1
    rwa [show sumsJ.nodes = sumsN from rfl, sums_feed1] at this
  have ka : Kept none' w3 (w3.alloc (.cells #[.int .i64 1, .int .i64 5, .int .i64 2] 44)) := (Kept.refl _ _).alloc _
  have c4 := equalRec v3 _ _ [⟨1, 5, 2⟩] _ (hr3.kept ka (fun _ _ h => h)) (Reads.lit w3 [.int .i64 1, .int .i64 5, .int .i64 2] 44 3 1 rfl (by unfold maxLen; omega))
  rw [show eqR [⟨1, 5, 2⟩] [⟨1, 5, 2⟩] = true by decide] at c4
  have K3 := Lib.hid (And.intro hi3 (And.intro (Kept.maps (Kept.refl none' w1 |>.trans K2.out.1) K2.out.2 k3) (And.intro ka hT1)))
  clear hr3 hb3 hi3 k3 ka hT1
  go_wp2_with fail
  (with_reducible refine c4.mono ?_)
  clear c4
  rintro e w4 ⟨rfl, k4⟩
  have c5 := feed_any sumsJ b mm _ pm 5 4 w4 (K3.out.1.pure (K3.out.2.2.1.trans k4)) sums_ok sums_jr K3.out.2.2.2 (.small (by simp) (by simp)) (.small (by simp) (by simp))
  unfold FeedQ at c5
  rw [show sumsJ.nodes = sumsN from rfl, sums_feed2] at c5
  have K4 := Lib.hid k4
  clear k4
  go_wp2_with fail
  (with_reducible refine c5.mono ?_)
  clear c5
  rintro e w5 ⟨v5, rfl, hr5, -, -, k5⟩
  have ka : Kept none' w5 (w5.alloc (.cells #[.int .i64 1, .int .i64 5, .int .i64 6] 44)) := (Kept.refl _ _).alloc _
  have c6 := equalRec v5 _ _ [⟨1, 5, 6⟩] _ (hr5.kept ka (fun _ _ h => h)) (Reads.lit w5 [.int .i64 1, .int .i64 5, .int .i64 6] 44 3 1 rfl (by unfold maxLen; omega))
  rw [show eqR [⟨1, 5, 6⟩] [⟨1, 5, 6⟩] = true by decide] at c6
  have K5 := Lib.hid (And.intro (Kept.maps (K3.out.2.1.trans (K3.out.2.2.1.trans K4.out)) (hT0.newT K3.out.2.2.2 K2.out.2) k5) ka)
  clear hr5 k5 ka
  go_wp2_with fail
  (with_reducible refine c6.mono ?_)
  clear c6
  rintro e w6 ⟨rfl, k6⟩
  have F := Lib.hid (K1.out.trans (K5.out.1.trans (K5.out.2.trans k6)))
  clear k6
  go_wp2_with fail
  go_ret
  exact ⟨rfl, F.out⟩
end Go.Proofs.YtopeleenlcnkkaaGreatDoor
/-
  Heavy: whether what comes in is more than is gone through (laws 12 and 18).
-/
namespace Go.Proofs.YtopeleenlcnkkaaGreatDoor
open Go Go.RowKit
attribute [local irreducible] wpL wpTr H2.wpH
def SaysQ (w : World) (e : Ending) (w' : World) : Prop := ∃ b : Bool, e = .returned (.bool b) ∧ Kept none' w w'
set_option maxRecDepth 100000 in
set_option maxHeartbeats 1000000 in
theorem heavy12_any (j : Jb) (a : Array Value) (w : World) (h : JbAt w a j) : Calls Tryz.prog 39 #[.agg a] w (SaysQ w) := by
  obtain ⟨v, rfl, hn, hp⟩ := h
  obtain ⟨na, cap, rfl, h1, h2, h3⟩ := hn.at
  unfold maxLen at h2
  have kA : Kept none' w (w.alloc (.cells #[.int .i64 j.par, .slice na j.nodes.length cap] 24)) := (Kept.refl _ _).alloc _
  have b1 : (w.alloc (.cells #[.int .i64 j.par, .slice na j.nodes.length cap] 24)).cell? ⟨w.heap.size, 1, none⟩ = some (.slice na j.nodes.length cap) := by simp
  have H3 := Lib.hid h3
  have KA := Lib.hid kA
  clear h3 hn hp kA
  by_cases hl : 40 < j.nodes.length
  · go_enter Tryz.func39, Tryz.ntmps39
    go_wp2_with fail
    go_ret
    exact ⟨true, rfl, KA.out⟩
  · go_enter Tryz.func39, Tryz.ntmps39
    go_wp2_with fail
    obtain ⟨W0, hW0⟩ : ∃ W0, w.alloc (.cells #[.int .i64 j.par, .slice na j.nodes.length cap] 24) = W0 := ⟨_, rfl⟩
    rw [hW0] at KA b1 ⊢
    have B1 := Lib.hid b1
    clear hW0 b1
    go_loopg [3, 13] j.nodes.length (fun g vn vi wr => ∃ (k : Nat) (n : Int), k ≤ j.nodes.length ∧ vi = .int .i64 (k : Int) ∧ vn = .int .i64 n ∧ j.nodes.length - k ≤ g ∧ 0 ≤ n ∧ n ≤ 3000 ∧ Kept none' w wr)
    case atStart => exact ⟨0, 0, by omega, rfl, rfl, by omega, by omega, by omega, KA.out⟩
    case round =>
      obtain ⟨k, n, hkl, rfl, rfl, hg, hn1, hn2, hkp⟩ := hrel
      by_cases hlt : k < j.nodes.length
      · obtain ⟨d, hd⟩ : ∃ d, j.nodes[k]? = some d := ⟨_, List.getElem?_eq_getElem hlt⟩
        obtain ⟨b, off, pi, ci, p, cap', rfl, hc, hj⟩ := H3.out k d hd
        obtain ⟨c0, c1, c2, c3, c4, c5, c6⟩ := hc.kept hkp (fun h => h)
        have kA : Kept none' wr (wr.alloc (.cells (jnC d pi ci p cap') 97)) := (Kept.refl _ _).alloc _
        have hx : ExAt (wr.alloc (.cells (jnC d pi ci p cap') 97)) #[.int .u8 d.x.op, .int .i64 d.x.n, .slice p d.x.args.length cap'] d.x := by
          have hx0 : ExAt w #[.int .u8 d.x.op, .int .i64 d.x.n, .slice p d.x.args.length cap'] d.x := by
            obtain ⟨_, _, _, _, e, hx, _⟩ := hj
            simp only [Array.mk.injEq, List.cons.injEq, Value.slice.injEq, and_true, true_and] at e
            obtain ⟨-, e1, e2⟩ := e
            rw [e1, e2]
            exact hx
          exact ExAt.pure (hkp.trans kA) hx0
        have cz := size_any (SizeOf.sizeOf d.x) d.x _ _ (Nat.le_refl _) hx
        have nB : (wr.alloc (.cells (jnC d pi ci p cap') 97)).heap[wr.heap.size]? = some (.cells (jnC d pi ci p cap') 97 (0, 0)) := heap_alloc_new _ _
        have HC := Lib.hid (And.intro hg (And.intro hkp (And.intro kA (And.intro nB hj))))
        clear hg hkp kA nB hj hc hx hd
        go_wp2_with fail
        (with_reducible refine cz.mono ?_)
        clear cz
        rintro e w2 ⟨z, rfl, hz1, hz2, k2⟩
        have nB2 := k2.heap HC.out.2.2.2.1 (fun h => h)
        have z0 : w2.cell? ⟨wr.heap.size, 0, none⟩ = some (.string d.uid) := cells_at nB2 rfl
        have z2 : w2.cell? ⟨wr.heap.size, 2, none⟩ = some (.slice pi d.ins.length ci) := cells_at nB2 rfl
        have K2 := Lib.hid (HC.out.2.1.trans (HC.out.2.2.1.trans k2))
        have hu : d.uid.size ≤ 2 ^ 63 - 1 := by have := HC.out.2.2.2.2; obtain ⟨_, _, _, _, _, _, _, _, _, _, _, h⟩ := this; unfold maxLen at h; exact h
        clear k2 nB2
        by_cases q1 : 40 < d.ins.length
        · go_wp2_with fail
          go_ret
          exact ⟨true, rfl, K2.out⟩
        · by_cases q2 : 1000 < d.uid.size
          · go_wp2_with fail
            go_ret
            exact ⟨true, rfl, K2.out⟩
          · by_cases q3 : 3000 < n + z
            · go_wp2_with fail
              go_ret
              exact ⟨true, rfl, K2.out⟩
            · go_wp2_with fail
              go_roundg (j.nodes.length - (k + 1))
              case rel => exact ⟨k + 1, n + z, by omega, by go_num, rfl, Nat.le_refl _, by omega, by omega, K2.out⟩
              case measure => have := HC.out.1; omega
      · have HK := Lib.hid hkp
        clear hkp
        go_wp2_with fail
        go_ret
        exact ⟨false, rfl, HK.out⟩
set_option maxRecDepth 100000 in
set_option maxHeartbeats 1000000 in
theorem heavy_any (j : Jb) (a : Array Value) (sv : Value) (l : List St) (rv : Value) (R : List Rec) (w : World) (h : JbAt w a j) (hs : Reads w 2 sv (stsC l)) (hsz : ∀ s ∈ l, s.1.size ≤ maxLen ∧ s.2.size ≤ maxLen) (hr : Reads w 3 rv (recs R)) :
    Calls Tryz.prog 15 #[.agg a, sv, rv] w (SaysQ w) := by
  have hJ := h
  obtain ⟨v, rfl, hn, hp⟩ := h
  obtain ⟨na, cap, rfl, h1, h2, h3⟩ := hn.at
  obtain ⟨sa, scap, rfl, s1, s2, s3⟩ := hs.stAt
  obtain ⟨ra, rcap, rfl, r1, r2, r3⟩ := hr.recAt
  unfold maxLen at h2 s2 r2
  have kA : Kept none' w (w.alloc (.cells #[.int .i64 j.par, .slice na j.nodes.length cap] 24)) := (Kept.refl _ _).alloc _
  have tA : (w.alloc (.cells #[.int .i64 j.par, .slice na j.nodes.length cap] 24)).heap[w.heap.size]? = some (.cells #[.int .i64 j.par, .slice na j.nodes.length cap] 24 (0, 0)) := heap_alloc_new _ _
  have H3 := Lib.hid (And.intro hJ (And.intro s3 hsz))
  have KA := Lib.hid (And.intro kA tA)
  clear h3 hn hp kA hJ s3 hsz hs hr r3 tA
  go_enter Tryz.func15, Tryz.ntmps15
  go_wp2_with fail
  obtain ⟨W0, hW0⟩ : ∃ W0, w.alloc (.cells #[.int .i64 j.par, .slice na j.nodes.length cap] 24) = W0 := ⟨_, rfl⟩
  rw [hW0] at KA ⊢
  clear hW0
  go_loopg [11] l.length (fun g vi wr => ∃ k : Nat, k ≤ l.length ∧ vi = .int .i64 (k : Int) ∧ l.length - k ≤ g ∧ Kept none' W0 wr)
  case atStart => exact ⟨0, by omega, rfl, by omega, Kept.refl _ _⟩
  case round =>
    obtain ⟨k, hkl, rfl, hg, hkp⟩ := hrel
    by_cases hlt : k < l.length
    · obtain ⟨s, hs⟩ : ∃ s, l[k]? = some s := ⟨_, List.getElem?_eq_getElem hlt⟩
      obtain ⟨bs, offs, rfl, hcs⟩ := H3.out.2.1.resolve_left (fun h => by rw [h] at hlt; simp at hlt)
      have kw := KA.out.1.trans hkp
      have y0 := kw.cell (fun h => h) (hcs k s hs).1
      have y1 := kw.cell (fun h => h) (hcs k s hs).2
      obtain ⟨hz0, hz1⟩ := H3.out.2.2 s (List.mem_of_getElem? hs)
      unfold maxLen at hz0 hz1
      have G := Lib.hid (And.intro hg (And.intro hkp (And.intro kw (hkp.alloc (.cells #[.string s.1, .string s.2] 33)))))
      clear hg hkp kw hcs hs
      by_cases q1 : 20000 < s.2.size
      · go_wp2_with fail
        go_ret
        exact ⟨true, rfl, KA.out.1.trans G.out.2.2.2⟩
      · by_cases q2 : 1000 < s.1.size
        · go_wp2_with fail
          go_ret
          exact ⟨true, rfl, KA.out.1.trans G.out.2.2.2⟩
        · go_wp2_with fail
          go_roundg (l.length - (k + 1))
          case rel => exact ⟨k + 1, by omega, by go_num, Nat.le_refl _, G.out.2.2.2⟩
          case measure => have := G.out.1; omega
    · have tw := hkp.heap KA.out.2 (fun h => h)
      have x0 := cells_at tw (j := 0) rfl
      have x1 := cells_at tw (j := 1) rfl
      have hB : w.heap.size < wr.heap.size := (Array.getElem?_eq_some_iff.1 tw).1
      have ch := heavy12_any j _ wr (H3.out.1.pure (KA.out.1.trans hkp))
      have G := Lib.hid (KA.out.1.trans hkp)
      clear hkp tw hg
      go_wp2_with fail
      (with_reducible refine ch.mono ?_)
      clear ch
      rintro e w2 ⟨b, rfl, k2⟩
      have F := Lib.hid (G.out.trans k2)
      clear k2
      by_cases q0 : b = true
      · subst q0
        go_wp2_with fail
        go_ret
        exact ⟨_, rfl, F.out⟩
      · have q0' : b = false := by simpa using q0
        subst q0'
        clear q0
        by_cases q1 : 40 < l.length
        · go_wp2_with fail
          go_ret
          exact ⟨_, rfl, F.out⟩
        · go_wp2_with fail
          go_ret
          exact ⟨_, rfl, F.out⟩
end Go.Proofs.YtopeleenlcnkkaaGreatDoor
/-
  The law IdealRises: what comes out of an ideal rises.
-/
namespace Go.Proofs.YtopeleenlcnkkaaGreatDoor
open Go Go.RowKit
attribute [local irreducible] wpL wpTr H2.wpH
set_option maxRecDepth 100000 in
set_option maxHeartbeats 2000000 in
theorem rises_walk (j : Jb) (a : Array Value) (rv : Value) (R : List Rec) (w : World) (mx : Int) (hm : w.cell? ⟨0, 0, none⟩ = some (.int .i64 mx)) (h : JbAt w a j) (hr : Reads w 3 rv (recs R)) (hR : ∀ r ∈ R, RecOk r) :
    Calls Tryz.prog 5 #[.agg a, rv] w (Gives w (.bool true)) := by
  have hJ := h
  obtain ⟨v, rfl, hn, hp⟩ := h
  obtain ⟨na, cap, rfl, h1, h2, h3⟩ := hn.at
  have hjr := hn.jr
  have kA : Kept none' w (w.alloc (.cells #[.int .i64 j.par, .slice na j.nodes.length cap] 24)) := (Kept.refl _ _).alloc _
  have tA : (w.alloc (.cells #[.int .i64 j.par, .slice na j.nodes.length cap] 24)).heap[w.heap.size]? = some (.cells #[.int .i64 j.par, .slice na j.nodes.length cap] 24 (0, 0)) := heap_alloc_new _ _
  obtain ⟨W0, hW0⟩ : ∃ W0, w.alloc (.cells #[.int .i64 j.par, .slice na j.nodes.length cap] 24) = W0 := ⟨_, rfl⟩
  have ch := heavy_any j _ (.slice none 0 0) [] rv R W0 (by rw [← hW0]; exact hJ.pure kA) (Reads.nil _ 2) (fun s hs => by cases hs) (by rw [← hW0]; exact hr.kept kA (fun _ _ h => h))
  have x0 : (w.alloc (.cells #[.int .i64 j.par, .slice na j.nodes.length cap] 24)).cell? ⟨w.heap.size, 0, none⟩ = some (.int .i64 j.par) := cells_at tA (j := 0) rfl
  have x1 : (w.alloc (.cells #[.int .i64 j.par, .slice na j.nodes.length cap] 24)).cell? ⟨w.heap.size, 1, none⟩ = some (.slice na j.nodes.length cap) := cells_at tA (j := 1) rfl
  rw [hW0] at kA tA x0 x1
  obtain ⟨ra, rcap, rfl, r1, r2, r3⟩ := hr.recAt
  unfold maxLen at r2
  have H := Lib.hid (And.intro hJ (And.intro hr (And.intro r3 (And.intro hm (And.intro hjr (And.intro hR (And.intro kA tA)))))))
  clear hJ hr r3 hm hjr hR kA tA h3 hn hp
  go_enter Tryz.func5, Tryz.ntmps5
  go_wp2_with fail
  clear hW0
  (with_reducible refine ch.mono ?_)
  clear ch
  rintro e w1 ⟨b, rfl, k1⟩
  cases b with
  | true =>
    have cw := works_any w1 mx ((H.out.2.2.2.2.2.2.1.trans k1).cell (p := ⟨0, 0, none⟩) (fun h => h) H.out.2.2.2.1)
    have K1 := Lib.hid k1
    clear k1
    go_wp2_with fail
    (with_reducible refine cw.mono ?_)
    clear cw
    rintro e w2 ⟨rfl, k2⟩
    have F := Lib.hid (H.out.2.2.2.2.2.2.1.trans (K1.out.trans k2))
    clear k2
    go_wp2_with fail
    go_ret
    exact ⟨rfl, F.out⟩
  | false =>
    have kw := H.out.2.2.2.2.2.2.1.trans k1
    have x0 := k1.cell (p := ⟨w.heap.size, 0, none⟩) (fun h => h) x0
    have x1 := k1.cell (p := ⟨w.heap.size, 1, none⟩) (fun h => h) x1
    have hB : w.heap.size < w1.heap.size := by have := block_lt_of_cell x0; simpa using this
    have cn := newI_any j _ w1 (H.out.1.pure kw)
    have K1 := Lib.hid (And.intro kw k1)
    clear kw k1
    go_wp2_with fail
    (with_reducible refine cn.mono ?_)
    clear cn
    intro e w2 hq
    clear x0 x1
    unfold LoadQ at hq
    cases hl : loadP j [] with
    | error er =>
      rw [hl] at hq
      obtain ⟨rfl, hne, k2⟩ := hq
      have cw := works_any w2 mx ((K1.out.1.trans k2).cell (p := ⟨0, 0, none⟩) (fun h => h) H.out.2.2.2.1)
      have K2 := Lib.hid k2
      clear k2 hl
      go_wp2_with fail
      (with_reducible refine cw.mono ?_)
      clear cw
      rintro e w3 ⟨rfl, k3⟩
      have F := Lib.hid (K1.out.1.trans (K2.out.trans k3))
      clear k3
      go_wp2_with fail
      go_ret
      exact ⟨rfl, F.out⟩
    | ok Ts0 =>
      rw [hl] at hq
      obtain ⟨bi, mi, pm, rfl, hi, hmi, hnt, k2⟩ := hq
      obtain ⟨hok, hT0⟩ := load_ok hl
      have hnt2 : NewT w.heap.size Ts0 pm := fun q T hT => Nat.le_trans K1.out.1.size (hnt q T hT)
      have HI := Lib.hid (And.intro hi (And.intro hnt2 (And.intro hok (And.intro hT0 (K1.out.1.trans k2)))))
      clear hi hnt hnt2 hok hT0 k2 hmi hl
      go_wp2_with fail
      go_loopg [26] R.length (fun g vi wr => ∃ (k : Nat) (Ts : Tabs), k ≤ R.length ∧ vi = .int .i64 (k : Int) ∧ R.length - k ≤ g ∧ IdlAt wr bi mi j Ts pm ∧ TabsOk j.nodes Ts ∧ NewT w.heap.size Ts pm ∧ Kept none' w wr)
      case atStart => exact ⟨0, Ts0, by omega, rfl, by omega, HI.out.1, HI.out.2.2.2.1, HI.out.2.1, HI.out.2.2.2.2⟩
      case round =>
        obtain ⟨k, Ts, hkl, rfl, hg, hi, hT, hnt, hkp⟩ := hrel
        by_cases hlt : k < R.length
        · obtain ⟨r, hrk⟩ : ∃ r, R[k]? = some r := ⟨_, List.getElem?_eq_getElem hlt⟩
          obtain ⟨b, off, rfl, hc⟩ := H.out.2.2.1.resolve_left (fun h => by rw [h] at hlt; simp at hlt)
          obtain ⟨c0, c1, c2⟩ := (hc k r hrk).pure hkp
          have hro := H.out.2.2.2.2.2.1 r (List.mem_of_getElem? hrk)
          have ka : Kept none' wr (wr.alloc (.cells #[.int .i64 r.pos, .int .i64 r.key, .int .i64 r.val] 44)) := (Kept.refl _ _).alloc _
          have cf := feed_any j bi mi Ts pm r.key r.val _ (hi.pure ka) HI.out.2.2.1 H.out.2.2.2.2.1 hT hro.key hro.val
          have fo := feedP_ok HI.out.2.2.1 H.out.2.2.2.2.1 hT hro.key hro.val
          have G := Lib.hid (And.intro hg (And.intro hT (And.intro hnt (And.intro (hkp.trans ka) fo))))
          clear hi hT hnt hkp hg hc hrk hro ka fo
          go_wp2_with fail
          (with_reducible refine cf.mono ?_)
          clear cf
          rintro e w3 ⟨v3, rfl, hv3, -, hi3, k3⟩
          obtain ⟨T2, O, hO, hT2⟩ : ∃ T2 O, (feedP j.nodes Ts r.key r.val).1 = O ∧ (feedP j.nodes Ts r.key r.val).2 = T2 := ⟨_, _, rfl, rfl⟩
          have fo := G.out.2.2.2.2
          rw [hO, hT2] at fo
          rw [hO] at hv3
          rw [hT2] at hi3
          obtain ⟨oa, ocap, rfl, o1, o2, o3⟩ := hv3.recAt
          unfold maxLen at o2
          have Z := Lib.hid (And.intro hi3 (And.intro (Kept.maps G.out.2.2.2.1 G.out.2.2.1 k3) (And.intro o3 (And.intro (G.out.2.1.newT fo.1 G.out.2.2.1) fo))))
          clear hi3 hv3 k3 o3 fo hO hT2 c0 c1 c2
          go_wp2_with fail
          go_loopg [38] O.length (fun g vi wr => ∃ (i : Nat), i ≤ O.length ∧ vi = .int .i64 (i : Int) ∧ O.length - i ≤ g ∧ Kept none' w3 wr)
          case atStart => exact ⟨0, by omega, rfl, by omega, Kept.refl _ _⟩
          case round =>
            obtain ⟨i, hil, rfl, hgi, hkq⟩ := hrel
            by_cases hlti : i < O.length
            · obtain ⟨q, hqi⟩ : ∃ q, O[i]? = some q := ⟨_, List.getElem?_eq_getElem hlti⟩
              obtain ⟨bo, ooff, rfl, hco⟩ := Z.out.2.2.1.resolve_left (fun h => by rw [h] at hlti; simp at hlti)
              obtain ⟨d0, d1, d2⟩ := (hco i q hqi).pure hkq
              have hq1 : 1 ≤ q.pos := (Z.out.2.2.2.2.2.2.1.2 q (List.mem_of_getElem? hqi)).1
              have kb : Kept none' wr (wr.alloc (.cells #[.int .i64 q.pos, .int .i64 q.key, .int .i64 q.val] 44)) := (Kept.refl _ _).alloc _
              have nB : (wr.alloc (.cells #[.int .i64 q.pos, .int .i64 q.key, .int .i64 q.val] 44)).heap[wr.heap.size]? = some (.cells #[.int .i64 q.pos, .int .i64 q.key, .int .i64 q.val] 44 (0, 0)) := heap_alloc_new _ _
              obtain ⟨WA, hWA⟩ : ∃ WA, wr.alloc (.cells #[.int .i64 q.pos, .int .i64 q.key, .int .i64 q.val] 44) = WA := ⟨_, rfl⟩
              rw [hWA] at kb nB
              have m0 : WA.cell? ⟨wr.heap.size, 0, none⟩ = some (.int .i64 q.pos) := cells_at nB rfl
              have GI := Lib.hid (And.intro hgi (And.intro (hkq.trans kb) (And.intro (show O[i] = q from (List.getElem?_eq_some_iff.1 hqi).2) (hco i q hqi))))
              clear hgi hqi nB
              by_cases hpos : 0 < i
              · obtain ⟨q', hq'⟩ : ∃ q', O[i - 1]? = some q' := ⟨_, List.getElem?_eq_getElem (by omega)⟩
                have hlt' : q'.pos < q.pos := by
                  have hp := List.pairwise_iff_getElem.1 Z.out.2.2.2.2.2.2.1.1 (i - 1) i (by omega) hlti (by omega)
                  rw [(List.getElem?_eq_some_iff.1 hq').2, GI.out.2.2.1] at hp
                  exact hp
                have hi63 : i - 1 ≤ 9223372036854775807 := by omega
                have hca := hco (i - 1) q' hq'
                obtain ⟨m1, -, -⟩ := hca.pure (hkq.trans kb)
                clear hco hkq hca hq'
                go_wp2_with fail
                refine wp_region_eager [0, 1, 2, 3, 4, 5, 6, 7, 8, 9, 10, 11, 12, 13, 14, 15, 16, 17] (fun W => Kept none' WA W) (by kernel_rfl) (by kernel_rfl) rfl (Kept.refl _ _).drew ?_
                simp only [List.map_cons, List.map_nil, List.getElem?_toArray, List.getElem?_cons_zero, List.getElem?_cons_succ, Option.getD_some]
                iterate 2 (apply wpL_float rfl rfl; (intro W hW; have z0 := hW.cell (fun h => h) m0; have z1 := hW.cell (fun h => h) m1; go_simp; rfl); go_frame)
                refine wpL_float (v := .bool false) rfl rfl (by intro W hW; go_simp; try (simp; try omega)) ?_
                go_frame
                iterate 2 (apply wpL_float rfl rfl; (intro W hW; have z0 := hW.cell (fun h => h) m0; have z1 := hW.cell (fun h => h) m1; go_simp; rfl); go_frame)
                refine wpL_float (v := .bool true) rfl rfl (by intro W hW; go_simp; try (simp; try omega)) ?_
                go_frame
                apply wpL_float rfl rfl; (intro W hW; have z0 := hW.cell (fun h => h) m0; have z1 := hW.cell (fun h => h) m1; go_simp; rfl); go_frame
                iterate 4 (apply wpL_float rfl rfl; (intro W hW; have z0 := hW.cell (fun h => h) m0; have z1 := hW.cell (fun h => h) m1; go_simp; rfl); go_frame)
                refine wpL_float (v := .int .i64 ((i - 1 : Nat) : Int)) rfl rfl (by intro W hW; go_simp; rw [show (i : Int) - 1 = ((i - 1 : Nat) : Int) by omega]; exact wrapN hi63) ?_
                go_frame
                apply wpL_float rfl rfl; (intro W hW; go_simp; rw [if_pos (show i - 1 < O.length by omega)]); go_frame
                iterate 2 (apply wpL_float rfl rfl; (intro W hW; have z0 := hW.cell (fun h => h) m0; have z1 := hW.cell (fun h => h) m1; go_simp; rfl); go_frame)
                refine wpL_float (v := .bool false) rfl rfl (by intro W hW; go_simp; try (simp; try omega)) ?_
                go_frame
                iterate 2 (apply wpL_float rfl rfl; (intro W hW; have z0 := hW.cell (fun h => h) m0; have z1 := hW.cell (fun h => h) m1; go_simp; rfl); go_frame)
                refine wpL_nil (fun _ => (Kept.refl _ _).drew) ?_
                have KZ := Lib.hid (GI.out.2.1.trans (Kept.refl none' WA).drew)
                clear d0 d1 d2 m0 m1
                go_wp2_with fail
                go_roundg (O.length - (i + 1))
                case rel => exact ⟨i + 1, by omega, by go_num, Nat.le_refl _, KZ.out⟩
                case measure => have := GI.out.1; omega
              · have m1 := m0
                clear hco hkq
                go_wp2_with fail
                refine wp_region_eager [0, 1, 2, 3, 4, 5, 6, 7, 8, 9, 10, 11, 12, 13, 14, 15, 16, 17] (fun W => Kept none' WA W) (by kernel_rfl) (by kernel_rfl) rfl (Kept.refl _ _).drew ?_
                simp only [List.map_cons, List.map_nil, List.getElem?_toArray, List.getElem?_cons_zero, List.getElem?_cons_succ, Option.getD_some]
                iterate 2 (apply wpL_float rfl rfl; (intro W hW; have z0 := hW.cell (fun h => h) m0; have z1 := hW.cell (fun h => h) m1; go_simp; rfl); go_frame)
                refine wpL_float (v := .bool false) rfl rfl (by intro W hW; go_simp; try (simp; try omega)) ?_
                go_frame
                iterate 2 (apply wpL_float rfl rfl; (intro W hW; have z0 := hW.cell (fun h => h) m0; have z1 := hW.cell (fun h => h) m1; go_simp; rfl); go_frame)
                refine wpL_float (v := .bool false) rfl rfl (by intro W hW; go_simp; try (simp; try omega)) ?_
                go_frame
                apply wpL_float rfl rfl; (intro W hW; have z0 := hW.cell (fun h => h) m0; have z1 := hW.cell (fun h => h) m1; go_simp; rfl); go_frame
                iterate 9 (apply wpL_skip rfl; go_frame)
                iterate 2 (apply wpL_float rfl rfl; (intro W hW; have z0 := hW.cell (fun h => h) m0; have z1 := hW.cell (fun h => h) m1; go_simp; rfl); go_frame)
                refine wpL_nil (fun _ => (Kept.refl _ _).drew) ?_
                have KZ := Lib.hid (GI.out.2.1.trans (Kept.refl none' WA).drew)
                clear d0 d1 d2 m0 m1
                go_wp2_with fail
                go_roundg (O.length - (i + 1))
                case rel => exact ⟨i + 1, by omega, by go_num, Nat.le_refl _, KZ.out⟩
                case measure => have := GI.out.1; omega
            · have kz := Z.out.2.1.trans hkq
              have FZ := Lib.hid (And.intro (Z.out.1.pure hkq) (And.intro Z.out.2.2.2.2.1 (And.intro Z.out.2.2.2.1 kz)))
              clear hkq kz hgi
              go_wp2_with fail
              go_roundg (R.length - (k + 1))
              case rel => exact ⟨k + 1, T2, by omega, by go_num, Nat.le_refl _, FZ.out⟩
              case measure => have := G.out.1; omega
        · have cw := works_any wr mx (hkp.cell (p := ⟨0, 0, none⟩) (fun h => h) H.out.2.2.2.1)
          have K2 := Lib.hid hkp
          clear hkp hi hT hnt hg
          go_wp2_with fail
          (with_reducible refine cw.mono ?_)
          clear cw
          rintro e w3 ⟨rfl, k3⟩
          have F := Lib.hid (K2.out.trans k3)
          clear k3
          go_wp2_with fail
          go_ret
          exact ⟨rfl, F.out⟩
end Go.Proofs.YtopeleenlcnkkaaGreatDoor
