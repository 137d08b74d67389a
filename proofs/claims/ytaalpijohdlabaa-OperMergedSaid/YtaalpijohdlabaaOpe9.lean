/-
  'works' of layer 17: a node of two, and what it makes.
-/
import Derived.Test.YtaalpijohdlabaaOpe8
import Derived.Test.YtaalpijohdlabaaRecEq
namespace Go.Proofs.Ytaalpijohdlabaa
open Go Go.RowKit
attribute [local irreducible] wpL
def ex2 (op a b : Int) : Ex := .mk op 0 [.mk a 0 [], .mk b 0 []]
theorem ExAt.leaf (w : World) (a : Int) (h0 : 0 ≤ a) (h1 : a ≤ 255) : ExAt w #[.int .u8 a, .int .i64 0, .slice none 0 0] (.mk a 0 []) :=
  .mk h0 h1 zero_r64 (Reads.nil w 3) rfl (fun i x h => by cases h)
theorem ExAt.two {w : World} {op a b : Int} {v : Value} (ho : 0 ≤ op ∧ op ≤ 255) (ha : 0 ≤ a ∧ a ≤ 255) (hb : 0 ≤ b ∧ b ≤ 255) (hr : Reads w 3 v [.int .u8 a, .int .i64 0, .slice none 0 0, .int .u8 b, .int .i64 0, .slice none 0 0]) :
    ExAt w #[.int .u8 op, .int .i64 0, v] (ex2 op a b) := by
  refine .mk ho.1 ho.2 zero_r64 hr rfl (fun i x h => ?_)
  match i, h with
  | 0, h => cases h; exact ExAt.leaf w a ha.1 ha.2
  | 1, h => cases h; exact ExAt.leaf w b hb.1 hb.2
/-- The node that 'node' answers. -/
def NodeQ (w : World) (nd : Nod) (e : Ending) (w' : World) : Prop := ∃ na, e = .returned (.agg na) ∧ NodAt w' na nd ∧ Kept none' w w'
set_option maxRecDepth 100000 in
set_option maxHeartbeats 1000000 in
theorem node_two (kind op a b n : Int) (w : World) (hk : 0 ≤ kind ∧ kind ≤ 255) (ho : 0 ≤ op ∧ op ≤ 255) (ha : 0 < a ∧ a ≤ 255) (hb : 0 ≤ b ∧ b ≤ 255) (hn : R64 n) :
    Calls Try.prog 28 #[.int .u8 kind, .int .u8 op, .int .u8 a, .int .u8 b, .int .i64 n] w (NodeQ w ⟨kind, ex2 op a b, n⟩) := by
  obtain ⟨hk0, hk1⟩ := hk
  obtain ⟨ha0, ha1⟩ := ha
  have HO := Lib.hid ho
  have HB := Lib.hid hb
  have HN := Lib.hid hn
  clear ho hb hn
  go_enter Try.func28, Try.ntmps28
  go_wp2_with fail
  refine bodyPost_ret (v := .agg #[.string ⟨#[110]⟩, .int .u8 kind, .slice (some ⟨w.heap.size + 1 + 1 + 1, 0, none⟩) 1 1, .int .u8 op, .int .i64 0, .slice (some ⟨w.heap.size + 1 + 1, 0, none⟩) 2 2, .int .i64 n]) (by simp [results, Try.results28, go_sem]) rfl ?_
  refine ⟨_, rfl, ⟨_, _, _, _, rfl, ?_, hk0, hk1, HN.out⟩, (((Kept.refl none' w).alloc _).alloc _).alloc _ |>.alloc _⟩
  refine ExAt.two HO.out ⟨by omega, ha1⟩ HB.out ?_
  have := Reads.lit ((w.alloc (.cells #[.string ⟨#[110]⟩, .int .u8 kind, .slice (some ⟨w.heap.size + 1 + 1 + 1, 0, none⟩) 1 1, .int .u8 op, .int .i64 0, .slice (some ⟨w.heap.size + 1 + 1, 0, none⟩) 2 2, .int .i64 n] 54)).alloc
    (.cells #[.int .u8 op, .int .i64 0, .slice (some ⟨w.heap.size + 1 + 1, 0, none⟩) 2 2] 52)) [.int .u8 a, .int .i64 0, .slice none 0 0, .int .u8 b, .int .i64 0, .slice none 0 0] 52 3 2 rfl (by unfold maxLen; omega)
  rw [World.size_alloc, World.size_alloc] at this
  exact this.pure ((Kept.refl none' _).alloc _)
def works17N : Nod := ⟨6, ex2 7 4 3, 0⟩
def works17L : List Rec := [⟨1, 5, 2⟩, ⟨2, 5, 4⟩]
theorem works17_eq : (doNode works17N [] works17L).1 = [⟨1, 5, 2⟩, ⟨2, 5, 6⟩] := by kernel_rfl
theorem recOk_small {p k v : Int} (h1 : -1000 ≤ p ∧ p ≤ 1000) (h2 : -1000 ≤ k ∧ k ≤ 1000) (h3 : -1000 ≤ v ∧ v ≤ 1000) : RecOk ⟨p, k, v⟩ := ⟨.small h1.1 h1.2, .small h2.1 h2.2, .small h3.1 h3.2⟩
set_option maxRecDepth 100000 in
set_option maxHeartbeats 1000000 in
theorem works17 (w : World) : Calls Try.prog 23 #[] w (Gives w (.bool true)) := by
  go_enter Try.func23, Try.ntmps23
  go_wp2_with fail
  have c := node_two 6 7 4 3 0 w (by omega) (by omega) (by omega) (by omega) zero_r64
  (with_reducible refine c.mono ?_)
  clear c
  rintro e w1 ⟨na, rfl, n1, k1⟩
  go_wp2_with fail
  (with_reducible refine (new_any w1).mono ?_)
  rintro e w2 ⟨b, m, rfl, t2, k2⟩
  go_wp2_with fail
  have k3 : Kept none' w2 (w2.alloc (.cells #[.int .i64 1, .int .i64 5, .int .i64 2, .int .i64 2, .int .i64 5, .int .i64 4] 46)) := (Kept.refl _ _).alloc _
  have hm := t2.hm
  have c := doT_any na works17N b m [] _ _ works17L _ (NodAt.pure (k2.trans k3) n1) (Reads.lit w2 (recs works17L) 46 3 2 rfl (by unfold maxLen; omega)) (fun r hr => by
    simp only [works17L, List.mem_cons, List.not_mem_nil, or_false] at hr
    rcases hr with rfl | rfl
    · exact recOk_small (by omega) (by omega) (by omega)
    · exact recOk_small (by omega) (by omega) (by omega)) (by simp [works17L]) (t2.pure k3)
  rw [works17_eq] at c
  refine c.mono ?_
  clear c
  rintro e w4 ⟨v, rfl, r4, _, _, k4⟩
  have kw : Kept none' w w4 := ((k1.trans k2).trans k3).new k4 (fun i hi e => by unfold one at e; have : up w1.heap.size m := hm; have := k1.size; omega)
  have KW := Lib.hid kw
  clear k1 k2 k3 k4 kw n1 t2 hm
  go_wp2_with fail
  have c := equalRec v _ [⟨1, 5, 2⟩, ⟨2, 5, 6⟩] [⟨1, 5, 2⟩, ⟨2, 5, 6⟩] _ (r4.pure ((Kept.refl none' _).alloc _)) (Reads.lit w4 (recs [⟨1, 5, 2⟩, ⟨2, 5, 6⟩]) 46 3 2 rfl (by unfold maxLen; omega))
  refine c.mono ?_
  clear c
  rintro e w6 ⟨rfl, k6⟩
  rw [show eqR [⟨1, 5, 2⟩, ⟨2, 5, 6⟩] [⟨1, 5, 2⟩, ⟨2, 5, 6⟩] = true from decide_eq_true rfl]
  have F := Lib.hid (show Gives w (.bool true) (.returned (.bool true)) w6 from ⟨rfl, (KW.out.alloc _).trans k6⟩)
  clear k6 r4
  go_wp2_with fail
  go_ret
  exact F.out
end Go.Proofs.Ytaalpijohdlabaa
