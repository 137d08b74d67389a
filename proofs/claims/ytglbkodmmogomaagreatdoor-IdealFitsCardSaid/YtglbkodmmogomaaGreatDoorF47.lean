/-
  What each law of the ideals ends in: the document's job, fed twice.
-/
import Derived.Test.YtglbkodmmogomaaGreatDoorF45
import Derived.Test.YtglbkodmmogomaaGreatDoorF46
import Derived.Test.YtglbkodmmogomaaGreatDoorF18
import Derived.Test.YtglbkodmmogomaaGreatDoorF24
import Derived.Test.YtglbkodmmogomaaGreatDoorF30
set_option linter.unusedVariables false
set_option linter.unusedSimpArgs false
namespace Go.Proofs.YtglbkodmmogomaaGreatDoor
open Go Go.RowKit
attribute [local irreducible] wpL wpTr H2.wpH
/-- Where the tables lie does not change with their being fed. -/
theorem TabsOk.some_of {nodes : List JN} {Ts Us : Tabs} (h : TabsOk nodes Ts) (hu : TabsOk nodes Us) {i : Nat} {T : Tab} (hT : Ts[i]? = some (some T)) : ∃ U, Us[i]? = some (some U) := by
  have hi : i < nodes.length := by rw [← h.len]; exact (List.getElem?_eq_some_iff.1 hT).1
  obtain ⟨d, hd⟩ : ∃ d, nodes[i]? = some d := ⟨_, List.getElem?_eq_getElem hi⟩
  cases hs : stateful d.kind with
  | false => rw [h.not i d hd hs] at hT; cases hT
  | true => obtain ⟨U, hU, _⟩ := hu.has i d hd hs; exact ⟨U, hU⟩
theorem TabsOk.newT {nodes : List JN} {Ts Us : Tabs} (h : TabsOk nodes Ts) (hu : TabsOk nodes Us) {n : Nat} {pm : Nat → Nat × Nat} (hn : NewT n Ts pm) : NewT n Us pm := fun q U hU => by
  obtain ⟨T, hT⟩ := hu.some_of h hU
  exact hn q T hT
theorem Kept.maps {w0 w w' : World} {Ts : Tabs} {pm : Nat → Nat × Nat} (h : Kept none' w0 w) (hn : NewT w0.heap.size Ts pm) (hk : Kept (mapsOf Ts pm) w w') : Kept none' w0 w' :=
  h.new hk (fun i hi hs => by
    obtain ⟨q, T, hT, rfl⟩ := hs
    have := hn q T hT
    omega)
def sumsJ : Jb := ⟨2, sumsN⟩
theorem sums_ok : jobOk sumsJ = true := by kernel_rfl
theorem sums_load : loadP sumsJ [] = .ok [none, some [], none] := by kernel_rfl
theorem sums_feed1 : feedP sumsN [none, some [], none] 5 2 = ([⟨1, 5, 2⟩], [none, some [(5, 2, [])], none]) := by kernel_rfl
theorem sums_feed2 : (feedP sumsN [none, some [(5, 2, [])], none] 5 4).1 = [⟨1, 5, 6⟩] := by kernel_rfl
theorem NodesAt.jr {w : World} {v : Value} {L : List JN} (h : NodesAt w v L) : JR L := by
  obtain ⟨cs, h1, h2, h3⟩ := h
  intro d hd env he
  obtain ⟨i, hi⟩ := List.getElem?_of_mem hd
  obtain ⟨pi, ci, p, c, _, h6, _⟩ := h3 i d hi
  exact exInt_r64 h6 he
set_option maxRecDepth 100000 in
set_option maxHeartbeats 1000000 in
theorem works_any (w : World) (m : Int) (hm : w.cell? ⟨0, 0, none⟩ = some (.int .i64 m)) : Calls Tryz.prog 17 #[] w (Gives w (.bool true)) := by
  have c1 := made_any sumsT 2 sumsN w sums_parse m hm
  clear hm
  go_enter Tryz.func17, Tryz.ntmps17
  go_wp2_with fail
  (with_reducible refine c1.mono ?_)
  clear c1
  rintro e w1 ⟨v, J, lo, D, rfl, hj, hJ, k1⟩
  have c2 := newI_any sumsJ _ w1 hj.job
  unfold LoadQ at c2
  rw [sums_load] at c2
  dsimp only at c2
  have sums_jr : JR sumsN := by obtain ⟨v', _, hn, _⟩ := hj.job; exact hn.jr
  have K1 := Lib.hid k1
  clear hj hJ k1
  go_wp2_with fail
  (with_reducible refine c2.mono ?_)
  clear c2
  rintro e w2 ⟨b, mm, pm, rfl, hi, hmm, hnt, k2⟩
  have hT0 := (load_ok sums_load).2
  have c3 := feed_any sumsJ b mm _ pm 5 2 w2 hi sums_ok sums_jr hT0 (.small (by simp) (by simp)) (.small (by simp) (by simp))
  unfold FeedQ at c3
  rw [show sumsJ.nodes = sumsN from rfl, sums_feed1] at c3
  dsimp only at c3
  have K2 := Lib.hid (And.intro k2 hnt)
  clear hi hmm hnt k2
  go_wp2_with fail
  (with_reducible refine c3.mono ?_)
  clear c3
  rintro e w3 ⟨v3, rfl, hr3, hb3, hi3, k3⟩
  have hT1 : TabsOk sumsN [none, some [(5, 2, [])], none] := by
    have := (feedP_ok sums_ok (show JR sumsJ.nodes from sums_jr) hT0 (key := 5) (val := 2) (.small (by simp) (by simp)) (.small (by simp) (by simp))).1
    rwa [show sumsJ.nodes = sumsN from rfl, sums_feed1] at this
  have ka : Kept none' w3 (w3.alloc (.cells #[.int .i64 1, .int .i64 5, .int .i64 2] 68)) := (Kept.refl _ _).alloc _
  have c4 := equalRec v3 _ _ [⟨1, 5, 2⟩] _ (hr3.kept ka (fun _ _ h => h)) (Reads.lit w3 [.int .i64 1, .int .i64 5, .int .i64 2] 68 3 1 rfl (by unfold maxLen; omega))
  rw [show eqR [⟨1, 5, 2⟩] [⟨1, 5, 2⟩] = true by decide] at c4
  have K3 := Lib.hid (And.intro hi3 (And.intro (Kept.maps (Kept.refl none' w1 |>.trans K2.out.1) K2.out.2 k3) (And.intro ka hT1)))
  clear hr3 hb3 hi3 k3 ka hT1
  go_wp2_with fail
  (with_reducible refine c4.mono ?_)
  clear c4
  rintro e w4 ⟨rfl, k4⟩
  have c5 := feed_any sumsJ b mm _ pm 5 4 w4 (K3.out.1.pure (K3.out.2.2.1.trans k4)) sums_ok sums_jr K3.out.2.2.2 (.small (by simp) (by simp)) (.small (by simp) (by simp))
  unfold FeedQ at c5
  rw [show sumsJ.nodes = sumsN from rfl, sums_feed2] at c5
  have K4 := Lib.hid k4
  clear k4
  go_wp2_with fail
  (with_reducible refine c5.mono ?_)
  clear c5
  rintro e w5 ⟨v5, rfl, hr5, -, -, k5⟩
  have ka : Kept none' w5 (w5.alloc (.cells #[.int .i64 1, .int .i64 5, .int .i64 6] 68)) := (Kept.refl _ _).alloc _
  have c6 := equalRec v5 _ _ [⟨1, 5, 6⟩] _ (hr5.kept ka (fun _ _ h => h)) (Reads.lit w5 [.int .i64 1, .int .i64 5, .int .i64 6] 68 3 1 rfl (by unfold maxLen; omega))
  rw [show eqR [⟨1, 5, 6⟩] [⟨1, 5, 6⟩] = true by decide] at c6
  have K5 := Lib.hid (And.intro (Kept.maps (K3.out.2.1.trans (K3.out.2.2.1.trans K4.out)) (hT0.newT K3.out.2.2.2 K2.out.2) k5) ka)
  clear hr5 k5 ka
  go_wp2_with fail
  (with_reducible refine c6.mono ?_)
  clear c6
  rintro e w6 ⟨rfl, k6⟩
  have F := Lib.hid (K1.out.trans (K5.out.1.trans (K5.out.2.trans k6)))
  clear k6
  go_wp2_with fail
  go_ret
  exact ⟨rfl, F.out⟩
end Go.Proofs.YtglbkodmmogomaaGreatDoor
/-
  The law IdealFits: its walk.
-/
namespace Go.Proofs.YtglbkodmmogomaaGreatDoor
open Go Go.RowKit
attribute [local irreducible] wpL
set_option maxRecDepth 100000 in
set_option maxHeartbeats 2000000 in
theorem ifits_walk (d : JN) (a : Array Value) (s : ByteArray) (w : World) (mx : Int) (h : JNAt w a d) (hs : s.size ≤ maxLen) (hm : w.cell? ⟨0, 0, none⟩ = some (.int .i64 mx)) : Calls Tryz.prog 4 #[.agg a, .string s] w (Gives w (.bool true)) := by
  obtain ⟨pi, ci, p, cap, rfl, hrest⟩ := h
  have hj : JNAt w (jnC d pi ci p cap) d := ⟨pi, ci, p, cap, rfl, hrest⟩
  have HS := Lib.hid hs
  obtain ⟨W1, hW1⟩ : ∃ W1, w.alloc (.cells (jnC d pi ci p cap) 42) = W1 := ⟨_, rfl⟩
  have kA : Kept none' w W1 := by rw [← hW1]; exact (Kept.refl _ _).alloc _
  have hbB : W1.heap[w.heap.size]? = some (.cells (jnC d pi ci p cap) 42 (0, 0)) := by rw [← hW1]; exact heap_alloc_new _ _
  have A := Lib.hid (And.intro hj (And.intro kA (And.intro hbB hm)))
  have HW := Lib.hid hW1
  have c1 := take_any s hs W1
  unfold maxLen at hs
  clear hj kA hbB hm hW1 hrest
  cases hT : takeR s.data.toList with
  | err f =>
    unfold TakeQ at c1
    rw [hT] at c1
    dsimp only at c1
    have HT := Lib.hid hT
    clear hT
    go_enter Tryz.func4, Tryz.ntmps4
    go_wp2_with fail
    rw [HW.out]
    (with_reducible refine c1.mono ?_)
    clear c1
    rintro e w2 ⟨rfl, hf, k2⟩
    have c2 := rtakeT_any s HS.out w2
    unfold RTakeQ at c2
    rw [HT.out] at c2
    dsimp only at c2
    have hf1 : (f == 0) = false := beq_eq_false_iff_ne.2 hf
    have hf2 : (f != 0) = true := bne_iff_ne.2 hf
    have K2 := Lib.hid k2
    clear hf k2
    go_wp2_with fail
    (with_reducible refine c2.mono ?_)
    clear c2
    rintro e w3 ⟨rfl, -, k3⟩
    have K3 := Lib.hid (K2.out.trans k3)
    clear k3
    have kk := A.out.2.1.trans K3.out
    have B3 := K3.out.heap A.out.2.2.1 (fun h => h)
    have z0 : w3.cell? ⟨w.heap.size, 0, none⟩ = some (.string d.uid) := cells_at B3 rfl
    have z1 : w3.cell? ⟨w.heap.size, 1, none⟩ = some (.int .u8 d.kind) := cells_at B3 rfl
    have z2 : w3.cell? ⟨w.heap.size, 2, none⟩ = some (.slice pi d.ins.length ci) := cells_at B3 rfl
    have z3 : w3.cell? ⟨w.heap.size, 3, none⟩ = some (.int .u8 d.x.op) := cells_at B3 rfl
    have z4 : w3.cell? ⟨w.heap.size, 4, none⟩ = some (.int .i64 d.x.n) := cells_at B3 rfl
    have z5 : w3.cell? ⟨w.heap.size, 5, none⟩ = some (.slice p d.x.args.length cap) := cells_at B3 rfl
    have z6 : w3.cell? ⟨w.heap.size, 6, none⟩ = some (.int .i64 d.n) := cells_at B3 rfl
    have KK := Lib.hid kk
    clear B3 kk
    by_cases hbig : 20000 < s.size
    · have cw := works_any w3 mx (KK.out.cell (fun h => h) A.out.2.2.2)
      clear z0 z1 z2 z3 z4 z5 z6
      go_wp2_with fail
      (with_reducible refine cw.mono ?_)
      clear cw
      rintro e w4 ⟨rfl, k4⟩
      have F := Lib.hid (KK.out.trans k4)
      clear k4
      go_wp2_with fail
      go_ret
      exact ⟨rfl, F.out⟩
    · have cf := fits_nil_any d (jnC d pi ci p cap) w3 (A.out.1.pure KK.out)
      go_wp2_with fail
      (with_reducible refine cf.mono ?_)
      clear cf
      rintro e w4 ⟨rfl, k4⟩
      have cw := works_any w4 mx ((KK.out.trans k4).cell (fun h => h) A.out.2.2.2)
      have F := Lib.hid (KK.out.trans k4)
      clear k4 z0 z1 z2 z3 z4 z5 z6
      go_wp2_with fail
      (with_reducible refine cw.mono ?_)
      clear cw
      rintro e w5 ⟨rfl, k5⟩
      have F5 := Lib.hid (F.out.trans k5)
      clear k5
      go_wp2_with fail
      go_ret
      exact ⟨rfl, F5.out⟩
  | ok T r =>
    unfold TakeQ at c1
    rw [hT] at c1
    dsimp only at c1
    have HT := Lib.hid hT
    clear hT
    go_enter Tryz.func4, Tryz.ntmps4
    go_wp2_with fail
    rw [HW.out]
    (with_reducible refine c1.mono ?_)
    clear c1
    rintro e w2 ⟨b, m, rfl, htab, k2⟩
    have c2 := rtakeT_any s HS.out w2
    unfold RTakeQ at c2
    rw [HT.out] at c2
    dsimp only at c2
    have K2 := Lib.hid (And.intro k2 htab)
    clear htab k2
    go_wp2_with fail
    (with_reducible refine c2.mono ?_)
    clear c2
    rintro e w3 ⟨D, rfl, hrt, k3⟩
    have K3 := Lib.hid (And.intro (K2.out.1.trans k3) (And.intro (K2.out.2.pure k3) hrt))
    clear k3 hrt
    have kk := A.out.2.1.trans K3.out.1
    have B3 := K3.out.1.heap A.out.2.2.1 (fun h => h)
    have KK := Lib.hid kk
    by_cases hbig : 20000 < s.size
    · have cw := works_any w3 mx (KK.out.cell (fun h => h) A.out.2.2.2)
      clear B3 kk
      go_wp2_with fail
      (with_reducible refine cw.mono ?_)
      clear cw
      rintro e w4 ⟨rfl, k4⟩
      have F := Lib.hid (KK.out.trans k4)
      clear k4
      go_wp2_with fail
      go_ret
      exact ⟨rfl, F.out⟩
    · have z0 : w3.cell? ⟨w.heap.size, 0, none⟩ = some (.string d.uid) := cells_at B3 rfl
      have z1 : w3.cell? ⟨w.heap.size, 1, none⟩ = some (.int .u8 d.kind) := cells_at B3 rfl
      have z2 : w3.cell? ⟨w.heap.size, 2, none⟩ = some (.slice pi d.ins.length ci) := cells_at B3 rfl
      have z3 : w3.cell? ⟨w.heap.size, 3, none⟩ = some (.int .u8 d.x.op) := cells_at B3 rfl
      have z4 : w3.cell? ⟨w.heap.size, 4, none⟩ = some (.int .i64 d.x.n) := cells_at B3 rfl
      have z5 : w3.cell? ⟨w.heap.size, 5, none⟩ = some (.slice p d.x.args.length cap) := cells_at B3 rfl
      have z6 : w3.cell? ⟨w.heap.size, 6, none⟩ = some (.int .i64 d.n) := cells_at B3 rfl
      have kd : Kept none' w3 w3.drew := (Kept.refl _ _).drew
      have cf := fits_any d (jnC d pi ci p cap) _ b m T w3.drew (A.out.1.pure (KK.out.trans kd)) (K3.out.2.1.pure kd)
      clear B3 kk kd
      go_wp2_with fail
      refine wp_region_eager [0, 1, 3, 4, 2, 5, 6, 7, 8, 9, 10] (fun W => Kept none' w3 W) (by kernel_rfl) (by kernel_rfl) rfl (Kept.refl _ _).drew ?_
      simp only [List.map_cons, List.map_nil, List.getElem?_toArray, List.getElem?_cons_zero, List.getElem?_cons_succ, Option.getD_some]
      iterate 4 (apply wpL_float rfl rfl; (intro W hW; have q0 := hW.cell (fun h => h) z0; have q1 := hW.cell (fun h => h) z1; have q2 := hW.cell (fun h => h) z2; have q3 := hW.cell (fun h => h) z3; have q4 := hW.cell (fun h => h) z4; have q5 := hW.cell (fun h => h) z5; have q6 := hW.cell (fun h => h) z6; go_simp; rfl); go_frame)
      clear z0 z1 z2 z3 z4 z5 z6
      apply wpL_loud rfl rfl
      intro K hK
      go_wp2_with fail
      (with_reducible refine cf.mono ?_)
      clear cf
      rintro e w4 ⟨rfl, k4⟩
      have k4' := k4.drew_left
      have cr := rfits_any d (jnC d pi ci p cap) D T w4 (A.out.1.pure (KK.out.trans k4')) (K3.out.2.2.pure k4')
      obtain ⟨ft, hft⟩ : ∃ ft, fitsP d.kind d.n T = ft := ⟨_, rfl⟩
      rw [hft] at cr ⊢
      clear hft
      go_wp2_with fail
      refine hK _ _ (fun _ => k4') ?_
      clear hK
      apply wpL_loud rfl rfl
      intro K hK
      go_wp2_with fail
      (with_reducible refine cr.mono ?_)
      clear cr
      rintro e w5 ⟨rfl, k5⟩
      have k5' := k4'.trans k5
      have cw := works_any w5 mx ((KK.out.trans k5').cell (fun h => h) A.out.2.2.2)
      go_wp2_with fail
      refine hK _ _ (fun _ => k5') ?_
      clear hK
      iterate 2 (apply wpL_float rfl rfl; (intro W hW; go_simp; rfl); go_frame)
      apply wpL_loud (by simp [Region.wanted, yielded]) rfl
      intro K hK
      go_wp2_with fail
      (with_reducible refine cw.mono ?_)
      clear cw
      rintro e w6 ⟨rfl, k6⟩
      have k6' := k5'.trans k6
      go_wp2_with fail
      refine hK _ _ (fun _ => k6') ?_
      clear hK
      iterate 2 (apply wpL_float rfl rfl; (intro W hW; go_simp; rfl); go_frame)
      refine wpL_nil (fun _ => k6') ?_
      have F := Lib.hid (KK.out.trans k6')
      clear k4 k4' k5 k5' k6 k6'
      go_wp2_with fail
      go_ret
      exact ⟨rfl, F.out⟩
end Go.Proofs.YtglbkodmmogomaaGreatDoor
