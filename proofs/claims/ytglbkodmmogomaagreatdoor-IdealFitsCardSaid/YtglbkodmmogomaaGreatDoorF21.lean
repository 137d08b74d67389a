/-
  kind: accs, Of, Is; expr: Same at none.
-/
import Derived.Test.YtglbkodmmogomaaGreatDoorF15
import Derived.Test.YtglbkodmmogomaaGreatDoorF20
import Derived.Test.YtglbkodmmogomaaGreatDoorF18
import Derived.Deep.DeepHandedRow
import Derived.LaidMore
import Derived.Shelf.Vars
set_option linter.unusedVariables false
set_option linter.unusedSimpArgs false
namespace Go.Proofs.YtglbkodmmogomaaGreatDoor
open Go Go.RowKit
attribute [local irreducible] wpL
theorem exAccs_mk (x : Ex) : exAccs x = (x.op == 4 || x.args.any exAccs) := by
  cases x
  rw [exAccs, exAccsL_any]; rfl
theorem any_take_no {α : Type} {l : List α} {k : Nat} {x : α} {p : α → Bool} (h : l[k]? = some x) (ht : (l.take k).any p = false) (hx : p x = false) : (l.take (k + 1)).any p = false := by
  rw [List.take_add_one, h, List.any_append, ht]; simp [hx]
set_option maxRecDepth 100000 in
set_option maxHeartbeats 1000000 in
theorem accs_any : ∀ (N : Nat) (x : Ex) (a : Array Value) (w : World), SizeOf.sizeOf x ≤ N → ExAt w a x → Calls Tryz.prog 197 #[.agg a] w (Gives w (.bool (exAccs x)))
  | 0, x, _, _, h, _ => by cases x; simp at h
  | N + 1, x, a, w, hN, h => by
    obtain ⟨p, cap, rfl, h0, h1, h2, h3, h4, h5⟩ := h.parts
    have sub : ∀ (i : Nat) (y : Ex), x.args[i]? = some y → SizeOf.sizeOf y ≤ N := by
      intro i y hy
      obtain ⟨op, n, args⟩ := x
      have h1 := List.sizeOf_lt_of_mem (List.mem_of_getElem? (show args[i]? = some y from hy))
      simp at hN
      omega
    have IH := Lib.hid (fun y a w hy => accs_any N y a w hy)
    have SB := Lib.hid sub
    have H5 := Lib.hid h5
    have HX := Lib.hid (exAccs_mk x)
    unfold maxLen at h4
    clear h h5 sub hN
    go_enter Tryz.func197, Tryz.ntmps197
    by_cases hop : x.op = 4
    · have hb : (x.op == 4) = true := by simp [hop]
      have F := Lib.hid (show exAccs x = true by rw [HX.out, hb]; rfl)
      clear hop
      go_wp2_with fail
      go_ret
      exact ⟨rbool (by rw [F.out]), (Kept.refl _ _).alloc _⟩
    · have hb : (x.op == 4) = false := by simp [hop]
      have HY := Lib.hid (show exAccs x = x.args.any exAccs by rw [HX.out, hb]; rfl)
      clear hop
      go_wp2_with fail
      obtain ⟨W0, hW0⟩ : ∃ W0, w.alloc (.cells #[.int .u8 x.op, .int .i64 x.n, .slice p x.args.length cap] 40) = W0 := ⟨_, rfl⟩
      have k0 : Kept none' w W0 := by rw [← hW0]; exact (Kept.refl _ _).alloc _
      rw [hW0]
      have K0 := Lib.hid k0
      clear hW0 k0
      go_loopg [11] x.args.length (fun g vi wr => ∃ (k : Nat), k ≤ x.args.length ∧ vi = .int .i64 (k : Int) ∧ x.args.length - k ≤ g ∧ (x.args.take k).any exAccs = false ∧ Kept none' w wr)
      case atStart => exact ⟨0, by omega, rfl, by omega, by simp, K0.out⟩
      case round =>
        obtain ⟨k, hkl, rfl, hg, hno, hkp⟩ := hrel
        by_cases hlt : k < x.args.length
        · obtain ⟨y, hy⟩ : ∃ y, x.args[k]? = some y := ⟨_, List.getElem?_eq_getElem hlt⟩
          obtain ⟨b, off, p', cap', rfl, q0, q1, q2, hy2⟩ := H5.out k y hy
          have r0 := hkp.cell (p := ⟨b, off + k * 3, none⟩) (fun h => h) q0
          have r1 := hkp.cell (p := ⟨b, off + k * 3 + 1, none⟩) (fun h => h) q1
          have r2 := hkp.cell (p := ⟨b, off + k * 3 + 2, none⟩) (fun h => h) q2
          have G := Lib.hid (And.intro hg (And.intro (ExAt.pure hkp hy2) (And.intro hkp (And.intro (SB.out k y hy) (And.intro hy hno)))))
          clear q0 q1 q2 hy hy2 hkp hg H5 hno
          go_wp2_with fail
          have ka : Kept none' wr (wr.alloc (.cells #[.int .u8 y.op, .int .i64 y.n, .slice p' y.args.length cap'] 40)) := (Kept.refl _ _).alloc _
          have c := IH.out y _ (wr.alloc (.cells #[.int .u8 y.op, .int .i64 y.n, .slice p' y.args.length cap'] 40)) G.out.2.2.2.1 (ExAt.pure ka G.out.2.1)
          (with_reducible refine c.mono ?_)
          clear c
          rintro e w2 ⟨rfl, k2⟩
          have K2 := Lib.hid (G.out.2.2.1.trans (ka.trans k2))
          clear k2 ka
          cases hA : exAccs y with
          | true =>
            have F := Lib.hid (show exAccs x = true by rw [HY.out, List.any_eq_true]; exact ⟨y, List.mem_of_getElem? G.out.2.2.2.2.1, hA⟩)
            clear hA
            go_wp2_with fail
            go_ret
            exact ⟨rbool (by rw [F.out]), K2.out⟩
          | false =>
            have F := Lib.hid (any_take_no G.out.2.2.2.2.1 G.out.2.2.2.2.2 hA)
            clear hA
            go_wp2_with fail
            go_roundg (x.args.length - (k + 1))
            case rel => exact ⟨k + 1, by omega, by go_num, Nat.le_refl _, F.out, K2.out⟩
            case measure => have := G.out.1; omega
        · have F := Lib.hid (And.intro (show exAccs x = false by rw [HY.out]; rwa [List.take_of_length_le (by omega)] at hno) hkp)
          clear hno hkp
          go_wp2_with fail
          go_ret
          exact ⟨rbool (by rw [F.out.1]), F.out.2⟩
theorem kindA_true (x : Ex) : kindA x true = kindR x := by
  unfold kindA kindR
  split
  · rfl
  · rw [if_neg (by simp)]
set_option maxRecDepth 100000 in
set_option maxHeartbeats 1000000 in
theorem kindOf0_any (x : Ex) (a : Array Value) (w : World) (h : ExAt w a x) : Calls Tryz.prog 166 #[.agg a, .bool false] w (KindQ w (kindA x false)) := by
  obtain ⟨p, cap, rfl, h0, h1, h2, h3, h4, h5⟩ := h.parts
  have H := Lib.hid h
  clear h h5
  have hk0 : Kept none' w (w.alloc (.cells #[.int .u8 x.op, .int .i64 x.n, .slice p x.args.length cap] 40)) := (Kept.refl _ _).alloc _
  obtain ⟨W0, hW0⟩ : ∃ W0, w.alloc (.cells #[.int .u8 x.op, .int .i64 x.n, .slice p x.args.length cap] 40) = W0 := ⟨_, rfl⟩
  have d0 : W0.cell? ⟨w.heap.size, 0, none⟩ = some (.int .u8 x.op) := by rw [← hW0]; simp
  have d1 : W0.cell? ⟨w.heap.size, 1, none⟩ = some (.int .i64 x.n) := by rw [← hW0]; simp
  have d2 : W0.cell? ⟨w.heap.size, 2, none⟩ = some (.slice p x.args.length cap) := by rw [← hW0]; simp
  rw [hW0] at hk0
  have HK := Lib.hid hk0
  have HW0 := Lib.hid hW0
  clear hk0 hW0
  go_enter Tryz.func166, Tryz.ntmps166
  go_wp2_with fail
  rw [HW0.out]
  (with_reducible refine (May_any x _ W0 (ExAt.pure HK.out H.out)).mono ?_)
  rintro e W1 ⟨rfl, k1⟩
  have c0 := k1.cell (p := ⟨w.heap.size, 0, none⟩) (fun h => h) d0
  have c1 := k1.cell (p := ⟨w.heap.size, 1, none⟩) (fun h => h) d1
  have c2 := k1.cell (p := ⟨w.heap.size, 2, none⟩) (fun h => h) d2
  have HK1 := Lib.hid (HK.out.trans k1)
  clear k1 d0 d1 d2
  cases hm : exMay 16 x with
  | false =>
    have F : KindQ w (kindA x false) (.returned (.tuple #[.int .u8 0, .int .i64 2])) W1 := ⟨by unfold kindA; rw [if_pos hm], HK1.out⟩
    have F' := Lib.hid F
    clear hm F
    go_wp2_with fail
    go_ret2
    exact F'.out
  | true =>
    have HM := Lib.hid hm
    clear hm
    go_wp2_with fail
    (with_reducible refine (accs_any _ x _ W1 (Nat.le_refl _) (ExAt.pure HK1.out H.out)).mono ?_)
    rintro e W1' ⟨rfl, k1⟩
    have c0 := k1.cell (p := ⟨w.heap.size, 0, none⟩) (fun h => h) c0
    have c1 := k1.cell (p := ⟨w.heap.size, 1, none⟩) (fun h => h) c1
    have c2 := k1.cell (p := ⟨w.heap.size, 2, none⟩) (fun h => h) c2
    have HK1 := Lib.hid (HK1.out.trans k1)
    clear k1
    cases hA : exAccs x with
    | true =>
      have F : KindQ w (kindA x false) (.returned (.tuple #[.int .u8 0, .int .i64 90])) W1' := ⟨by unfold kindA; rw [if_neg (by rw [HM.out]; simp), if_pos ⟨rfl, hA⟩], HK1.out⟩
      have F' := Lib.hid F
      clear hA F
      go_wp2_with fail
      go_ret2
      exact F'.out
    | false =>
    have HA := Lib.hid hA
    clear hA
    go_wp2_with fail
    refine wp_region_eager [1, 0, 2, 3] (fun W => Kept none' W1' W) (by kernel_rfl) (by kernel_rfl) rfl (Kept.refl _ _).drew ?_
    simp only [List.map_cons, List.map_nil, List.getElem?_toArray, List.getElem?_cons_zero, List.getElem?_cons_succ, Option.getD_some]
    (apply wpL_float rfl rfl; (intro W hW; have z0 := hW.cell (fun h => h) c0; have z1 := hW.cell (fun h => h) c1; have z2 := hW.cell (fun h => h) c2; go_simp; rfl); go_frame)
    apply wpL_loud rfl rfl
    intro K hK
    go_wp2_with fail
    (with_reducible refine (rules_any _).mono ?_)
    rintro e W2 ⟨m, rfl, r2, k2⟩
    have k2' : Kept none' W1' W2 := k2.drew_left
    clear k2
    go_wp2_with fail
    refine hK _ _ (fun _ => k2') ?_
    clear hK
    apply wpL_loud rfl rfl
    intro K hK
    go_wp2_with fail
    have c := ty_any 16 x _ m _ (ExAt.pure (HK1.out.trans k2') H.out) HM.out r2
    (with_reducible refine c.mono ?_)
    clear c
    rintro e W3 ⟨rfl, k3⟩
    have k3' : Kept none' W1' W3 := k2'.trans k3
    clear k2' k3 r2
    go_wp2_with fail
    refine hK _ _ (fun _ => k3') ?_
    clear hK
    (apply wpL_float rfl rfl; (intro W hW; go_simp; rfl); go_frame)
    refine wpL_nil (fun _ => k3') ?_
    by_cases ht : exTy 16 x = 0
    · have F : KindQ w (kindA x false) (.returned (.tuple #[.int .u8 0, .int .i64 91])) W3 := ⟨by unfold kindA; rw [if_neg (by rw [HM.out]; simp), if_neg (by rw [HA.out]; simp), if_pos ht], HK1.out.trans k3'⟩
      have F' := Lib.hid F
      have hb : (exTy 16 x == 0) = true := by simp [ht]
      clear F ht k3'
      go_wp2_with fail
      go_ret2
      exact F'.out
    · have F : KindQ w (kindA x false) (.returned (.tuple #[.int .u8 (exTy 16 x), .int .i64 0])) W3 := ⟨by unfold kindA; rw [if_neg (by rw [HM.out]; simp), if_neg (by rw [HA.out]; simp), if_neg ht], HK1.out.trans k3'⟩
      have F' := Lib.hid F
      have hb : (exTy 16 x == 0) = false := by simp [ht]
      clear F ht k3'
      go_wp2_with fail
      go_ret2
      exact F'.out
theorem kindOfA_any (x : Ex) (acc : Bool) (a : Array Value) (w : World) (h : ExAt w a x) : Calls Tryz.prog 166 #[.agg a, .bool acc] w (KindQ w (kindA x acc)) := by
  cases acc with
  | true => rw [kindA_true]; exact kindOf_any x a w h
  | false => exact kindOf0_any x a w h
set_option maxRecDepth 100000 in
set_option maxHeartbeats 1000000 in
theorem is_any (x : Ex) (acc : Bool) (ty : Int) (a : Array Value) (w : World) (h : ExAt w a x) : Calls Tryz.prog 132 #[.agg a, .bool acc, .int .u8 ty] w (Gives w (.bool (exIs x acc ty))) := by
  obtain ⟨p, cap, rfl, h0, h1, h2, h3, h4, h5⟩ := h.parts
  have H := Lib.hid h
  clear h h5
  go_enter Tryz.func132, Tryz.ntmps132
  go_wp2_with fail
  have k0 : Kept none' w (w.alloc (.cells #[.int .u8 x.op, .int .i64 x.n, .slice p x.args.length cap] 40)) := (Kept.refl _ _).alloc _
  have c := kindOfA_any x acc _ _ (ExAt.pure k0 H.out)
  (with_reducible refine c.mono ?_)
  clear c
  rintro e W2 ⟨rfl, k2⟩
  have HX := Lib.hid (show exIs x acc ty = ((kindA x acc).2 == 0 && (kindA x acc).1 == ty) from rfl)
  generalize kindA x acc = r at *
  obtain ⟨r1, r2⟩ := r
  have K := Lib.hid (k0.trans k2)
  clear k0 k2
  by_cases hr : r2 = 0
  · have hb : (r2 == 0) = true := by simp [hr]
    rw [hb] at HX
    clear hr
    go_wp2_with fail
    go_ret
    exact ⟨rbool (by rw [HX.out]; rfl), K.out⟩
  · have hb : (r2 == 0) = false := by simp [hr]
    rw [hb] at HX
    clear hr
    go_wp2_with fail
    go_ret
    exact ⟨rbool (by rw [HX.out]; rfl), K.out⟩
end Go.Proofs.YtglbkodmmogomaaGreatDoor
/-
  JOBS IN MEMORY: nodes, a slice of nodes.
-/
namespace Go.Proofs.YtglbkodmmogomaaGreatDoor
open Go Go.RowKit
/-- The cells of a node. -/
def JNAt (w : World) (a : Array Value) (d : JN) : Prop :=
  ∃ pi ci p cap, a = #[.string d.uid, .int .u8 d.kind, .slice pi d.ins.length ci, .int .u8 d.x.op, .int .i64 d.x.n, .slice p d.x.args.length cap, .int .i64 d.n] ∧
    ExAt w #[.int .u8 d.x.op, .int .i64 d.x.n, .slice p d.x.args.length cap] d.x ∧ Reads w 1 (.slice pi d.ins.length ci) (ints d.ins) ∧ (∀ k ∈ d.ins, R64 k) ∧ 0 ≤ d.kind ∧ d.kind ≤ 255 ∧ R64 d.n ∧ d.uid.size ≤ maxLen
theorem Reads.kept_of {w w' : World} {S : Nat → Prop} {k : Nat} {v : Value} {cs : List Value} (h : Reads w k v cs) (hk0 : 0 < k) (hk : Kept S w w') (hS : ∀ k, S k → ∀ c E f, w.heap[k]? ≠ some (.cells c E f)) : Reads w' k v cs :=
  h.kept hk (fun b hb hs => by obtain ⟨c, E, f, h⟩ := h.isCells hk0 hb; exact hS b hs c E f h)
theorem JNAt.kept {w w' : World} {S : Nat → Prop} (hk : Kept S w w') (hS : ∀ k, S k → ∀ c E f, w.heap[k]? ≠ some (.cells c E f)) {a : Array Value} {d : JN} (h : JNAt w a d) : JNAt w' a d := by
  obtain ⟨pi, ci, p, cap, h1, h2, h3, h4⟩ := h
  exact ⟨pi, ci, p, cap, h1, h2.kept hk hS, h3.kept_of (by omega) hk hS, h4⟩
theorem JNAt.pure {w w' : World} (hk : Kept none' w w') {a : Array Value} {d : JN} (h : JNAt w a d) : JNAt w' a d := h.kept hk (fun _ h => h.elim)
/-- A slice of nodes. -/
def NodesAt (w : World) (v : Value) (L : List JN) : Prop :=
  ∃ cs : List Value, Reads w 7 v cs ∧ cs.length = L.length * 7 ∧ ∀ i d, L[i]? = some d → JNAt w ((cs.drop (i * 7)).take 7).toArray d
theorem NodesAt.kept {w w' : World} {S : Nat → Prop} (hk : Kept S w w') (hS : ∀ k, S k → ∀ c E f, w.heap[k]? ≠ some (.cells c E f)) {v : Value} {L : List JN} (h : NodesAt w v L) : NodesAt w' v L := by
  obtain ⟨cs, h1, h2, h3⟩ := h
  exact ⟨cs, h1.kept_of (by omega) hk hS, h2, fun i d hd => (h3 i d hd).kept hk hS⟩
theorem NodesAt.pure {w w' : World} (hk : Kept none' w w') {v : Value} {L : List JN} (h : NodesAt w v L) : NodesAt w' v L := h.kept hk (fun _ h => h.elim)
/-- A node's cells within the slice. -/
structure JNCells (w : World) (b o : Nat) (d : JN) (pi : Option Addr) (ci : Nat) (p : Option Addr) (cap : Nat) : Prop where
  c0 : w.cell? ⟨b, o, none⟩ = some (.string d.uid)
  c1 : w.cell? ⟨b, o + 1, none⟩ = some (.int .u8 d.kind)
  c2 : w.cell? ⟨b, o + 2, none⟩ = some (.slice pi d.ins.length ci)
  c3 : w.cell? ⟨b, o + 3, none⟩ = some (.int .u8 d.x.op)
  c4 : w.cell? ⟨b, o + 4, none⟩ = some (.int .i64 d.x.n)
  c5 : w.cell? ⟨b, o + 5, none⟩ = some (.slice p d.x.args.length cap)
  c6 : w.cell? ⟨b, o + 6, none⟩ = some (.int .i64 d.n)
theorem JNCells.kept {w w' : World} {S : Nat → Prop} {b o : Nat} {d : JN} {pi : Option Addr} {ci : Nat} {p : Option Addr} {cap : Nat} (h : JNCells w b o d pi ci p cap) (hk : Kept S w w') (hb : ¬ S b) : JNCells w' b o d pi ci p cap :=
  ⟨hk.cell (p := ⟨b, o, none⟩) hb h.c0, hk.cell (p := ⟨b, o + 1, none⟩) hb h.c1, hk.cell (p := ⟨b, o + 2, none⟩) hb h.c2, hk.cell (p := ⟨b, o + 3, none⟩) hb h.c3, hk.cell (p := ⟨b, o + 4, none⟩) hb h.c4, hk.cell (p := ⟨b, o + 5, none⟩) hb h.c5, hk.cell (p := ⟨b, o + 6, none⟩) hb h.c6⟩
/-- The cells of a node by themselves. -/
abbrev jnC (d : JN) (pi : Option Addr) (ci : Nat) (p : Option Addr) (cap : Nat) : Array Value :=
  #[.string d.uid, .int .u8 d.kind, .slice pi d.ins.length ci, .int .u8 d.x.op, .int .i64 d.x.n, .slice p d.x.args.length cap, .int .i64 d.n]
theorem NodesAt.at {w : World} {v : Value} {L : List JN} (h : NodesAt w v L) : ∃ a cap, v = .slice a L.length cap ∧ L.length ≤ cap ∧ cap ≤ maxLen ∧
    ∀ i d, L[i]? = some d → ∃ b off pi ci p cap', a = some ⟨b, off, none⟩ ∧ JNCells w b (off + i * 7) d pi ci p cap' ∧ JNAt w (jnC d pi ci p cap') d := by
  obtain ⟨cs, ⟨a, n, cap, rfl, h1, h2, h3, h4⟩, h5, h6⟩ := h
  have hn : n = L.length := by omega
  subst hn
  refine ⟨a, cap, rfl, h1, h2, fun i d hd => ?_⟩
  have hi : i < L.length := (List.getElem?_eq_some_iff.1 hd).1
  have hj := h6 i d hd
  have hne : cs ≠ [] := fun e => by rw [e] at h5; simp at h5; omega
  obtain ⟨b, off, rfl, hc⟩ := h4.resolve_left hne
  obtain ⟨pi, ci, p, cap', e, hrest⟩ := hj
  have hl : (cs.drop (i * 7)).take 7 = (jnC d pi ci p cap').toList := by
    have := congrArg Array.toList e
    simpa using this
  have get : ∀ j v, (jnC d pi ci p cap').toList[j]? = some v → cs[i * 7 + j]? = some v := by
    intro j v hj
    rw [← hl, List.getElem?_take] at hj
    split at hj
    · rwa [List.getElem?_drop] at hj
    · cases hj
  have cell : ∀ j v, (jnC d pi ci p cap').toList[j]? = some v → w.cell? ⟨b, off + i * 7 + j, none⟩ = some v := fun j v hj => by
    have := hc _ _ (get j v hj)
    rwa [← Nat.add_assoc] at this
  exact ⟨b, off, pi, ci, p, cap', rfl, ⟨cell 0 _ rfl, cell 1 _ rfl, cell 2 _ rfl, cell 3 _ rfl, cell 4 _ rfl, cell 5 _ rfl, cell 6 _ rfl⟩, pi, ci, p, cap', rfl, hrest⟩
theorem NodesAt.nil (w : World) : NodesAt w (.slice none 0 0) [] := ⟨[], Reads.nil w 7, rfl, fun i d h => by cases h⟩
end Go.Proofs.YtglbkodmmogomaaGreatDoor
/-
  job: parts, readers, Find.
-/
namespace Go.Proofs.YtglbkodmmogomaaGreatDoor
open Go Go.RowKit
attribute [local irreducible] wpL
theorem cntL_append : ∀ (l m : List Ex) (n : Nat), cntL (l ++ m) n = cntL m (cntL l n)
  | [], m, n => by simp [cntL]
  | x :: l, m, n => by simp only [List.cons_append, cntL]; exact cntL_append l m _
theorem cntL_take {l : List Ex} {k : Nat} {y : Ex} (h : l[k]? = some y) (n : Nat) : cntL (l.take (k + 1)) n = cntR y (cntL (l.take k) n) := by
  rw [List.take_add_one, h, cntL_append]; simp [cntL]
theorem cntR_mk (x : Ex) (n : Nat) : cntR x n = if 0 < n then cntL x.args (n - 1) else n := by cases x; rfl
theorem cntL_le (l : List Ex) (n : Nat) : cntL l n ≤ n := by rw [cntL_eq]; omega
/-- The count's two cells. -/
structure CntSt (w0 w : World) (B1 B2 : Nat) (n : Nat) : Prop where
  left : w.heap[B1]? = some (.cells #[.int .i64 (n : Int)] 3 (0, 0))
  self : w.heap[B2]? = some (.cells #[.func (.func 125) #[] #[.pointer (some ⟨B1, 0, none⟩), .pointer (some ⟨B2, 0, none⟩)]] 199 (0, 0))
  ne : B1 ≠ B2
  b1 : w0.heap.size ≤ B1
  kept : Kept none' w0 w
theorem CntSt.alloc {w0 w : World} {B1 B2 n : Nat} (h : CntSt w0 w B1 B2 n) (o : Obj) : CntSt w0 (w.alloc o) B1 B2 n :=
  ⟨((Kept.refl none' w).alloc o).heap h.left (fun h => h), ((Kept.refl none' w).alloc o).heap h.self (fun h => h), h.ne, h.b1, h.kept.alloc o⟩
def CntQ (w0 w : World) (B1 B2 n : Nat) (e : Ending) (w' : World) : Prop := e = .returned (.tuple #[]) ∧ CntSt w0 w' B1 B2 n
set_option maxRecDepth 100000 in
set_option maxHeartbeats 1000000 in
theorem cnt_any : ∀ (N : Nat) (x : Ex) (a : Array Value) (w0 w : World) (B1 B2 n : Nat), SizeOf.sizeOf x ≤ N → ExAt w0 a x → n ≤ 1001 → CntSt w0 w B1 B2 n →
    Calls Tryz.prog 125 #[.agg a, .pointer (some ⟨B1, 0, none⟩), .pointer (some ⟨B2, 0, none⟩)] w (CntQ w0 w B1 B2 (cntR x n))
  | 0, x, _, _, _, _, _, _, h, _, _, _ => by cases x; simp at h
  | N + 1, x, a, w0, w, B1, B2, n, hN, h, hn, hst => by
    obtain ⟨p, cap, rfl, h0, h1, h2, h3, h4, h5⟩ := h.parts
    have sub : ∀ (i : Nat) (y : Ex), x.args[i]? = some y → SizeOf.sizeOf y ≤ N := by
      intro i y hy
      obtain ⟨op, n, args⟩ := x
      have h1 := List.sizeOf_lt_of_mem (List.mem_of_getElem? (show args[i]? = some y from hy))
      simp at hN
      omega
    have IH := Lib.hid (fun y a w n hy h hn hst => cnt_any N y a w0 w B1 B2 n hy h hn hst)
    have SB := Lib.hid sub
    have H5 := Lib.hid h5
    have HX := Lib.hid (cntR_mk x n)
    unfold maxLen at h4
    have hb1 : B1 < w.heap.size := (Array.getElem?_eq_some_iff.1 hst.left).1
    have hb2 : B2 < w.heap.size := (Array.getElem?_eq_some_iff.1 hst.self).1
    have c0 : w.cell? ⟨B1, 0, none⟩ = some (.int .i64 (n : Int)) := cells_at hst.left rfl
    have f0 := free_at hst.left 0
    have S0 := Lib.hid hst
    clear h h5 sub hN hst
    go_enter Tryz.func125, Tryz.ntmps125
    by_cases hn0 : 0 < n
    · have hwn : wrap64 ((n : Int) - 1) = ((n - 1 : Nat) : Int) := by unfold wrap64; omega
      have HY := Lib.hid (show cntR x n = cntL x.args (n - 1) by rw [HX.out, if_pos hn0])
      clear HX
      go_wp2_with fail
      obtain ⟨W1, hW1⟩ : ∃ W1, (w.setCell ⟨B1, 0, none⟩ (.int .i64 ((n : Int) - 1))).alloc (.cells #[.int .u8 x.op, .int .i64 x.n, .slice p x.args.length cap] 40) = W1 := ⟨_, rfl⟩
      have kS : CntSt w0 W1 B1 B2 (n - 1) := by
        have st1 := S0.out
        rw [← hW1]
        have e1 : ((n : Int) - 1) = ((n - 1 : Nat) : Int) := by omega
        rw [e1]
        exact CntSt.alloc ⟨by have := set_at st1.left 0 (.int .i64 ((n - 1 : Nat) : Int)); simpa using this, ((Kept.refl (one B1) _).setCell (p := ⟨B1, 0, none⟩) (.inl rfl) _).heap st1.self (fun e => st1.ne e.symm), st1.ne, st1.b1, st1.kept.setCell (p := ⟨B1, 0, none⟩) (.inr st1.b1) _⟩ _
      rw [hW1]
      have KS := Lib.hid kS
      clear hW1 kS S0 c0 f0
      go_loopg [13] x.args.length (fun g vi wr => ∃ (k : Nat), k ≤ x.args.length ∧ vi = .int .i64 (k : Int) ∧ x.args.length - k ≤ g ∧ CntSt w0 wr B1 B2 (cntL (x.args.take k) (n - 1)))
      case atStart => exact ⟨0, by omega, rfl, by omega, by simpa [cntL] using KS.out⟩
      case round =>
        obtain ⟨k, hkl, rfl, hg, hst⟩ := hrel
        by_cases hlt : k < x.args.length
        · obtain ⟨y, hy⟩ : ∃ y, x.args[k]? = some y := ⟨_, List.getElem?_eq_getElem hlt⟩
          obtain ⟨b, off, p', cap', rfl, q0, q1, q2, hy2⟩ := H5.out k y hy
          have hkp := hst.kept
          have r0 := hkp.cell (p := ⟨b, off + k * 3, none⟩) (fun h => h) q0
          have r1 := hkp.cell (p := ⟨b, off + k * 3 + 1, none⟩) (fun h => h) q1
          have r2 := hkp.cell (p := ⟨b, off + k * 3 + 2, none⟩) (fun h => h) q2
          have s0 : wr.cell? ⟨B2, 0, none⟩ = some (.func (.func 125) #[] #[.pointer (some ⟨B1, 0, none⟩), .pointer (some ⟨B2, 0, none⟩)]) := cells_at hst.self rfl
          have hb2 : B2 < wr.heap.size := (Array.getElem?_eq_some_iff.1 hst.self).1
          have G := Lib.hid (And.intro hg (And.intro hy2 (And.intro hst (And.intro (SB.out k y hy) hy))))
          have HM := Lib.hid (show cntL (x.args.take k) (n - 1) ≤ 1001 by have := cntL_le (x.args.take k) (n - 1); omega)
          clear q0 q1 q2 hy hy2 hkp hg H5 hst
          go_wp2_with fail
          have c := IH.out y _ _ _ G.out.2.2.2.1 G.out.2.1 HM.out (G.out.2.2.1.alloc (.cells #[.int .u8 y.op, .int .i64 y.n, .slice p' y.args.length cap'] 40))
          (with_reducible refine c.mono ?_)
          clear c
          rintro e w2 ⟨rfl, st2⟩
          rw [← cntL_take G.out.2.2.2.2] at st2
          have S2 := Lib.hid st2
          clear st2
          go_wp2_with fail
          go_roundg (x.args.length - (k + 1))
          case rel => exact ⟨k + 1, by omega, by go_num, Nat.le_refl _, S2.out⟩
          case measure => have := G.out.1; omega
        · have S2 := Lib.hid hst
          have e1 : k = x.args.length := by omega
          subst e1
          clear hst
          go_wp2_with fail
          go_end0
          exact ⟨rfl, by rw [HY.out]; have := S2.out; rwa [List.take_length] at this⟩
    · have F := Lib.hid (show cntR x n = n by rw [HX.out, if_neg hn0])
      clear HX
      go_wp2_with fail
      go_end0
      exact ⟨rfl, by rw [F.out]; exact S0.out.alloc _⟩
/-- The cells of a job. -/
def JbAt (w : World) (a : Array Value) (j : Jb) : Prop := ∃ v, a = #[.int .i64 j.par, v] ∧ NodesAt w v j.nodes ∧ R64 j.par
theorem JbAt.pure {w w' : World} (hk : Kept none' w w') {a : Array Value} {j : Jb} (h : JbAt w a j) : JbAt w' a j := by
  obtain ⟨v, h1, h2, h3⟩ := h
  exact ⟨v, h1, h2.pure hk, h3⟩
set_option maxRecDepth 100000 in
set_option maxHeartbeats 1000000 in
theorem parts_any (j : Jb) (a : Array Value) (w : World) (h : JbAt w a j) : Calls Tryz.prog 85 #[.agg a] w (Gives w (.int .i64 ((1001 - cntL (j.nodes.map (·.x)) 1001 : Nat) : Int))) := by
  obtain ⟨v, rfl, hn, hp⟩ := h
  obtain ⟨na, cap, rfl, h1, h2, h3⟩ := hn.at
  unfold maxLen at h2
  have H3 := Lib.hid h3
  clear h3 hn hp
  go_enter Tryz.func85, Tryz.ntmps85
  go_wp2_with fail
  obtain ⟨W0, hW0⟩ : ∃ W0, (((w.alloc (.cells #[.int .i64 j.par, .slice na j.nodes.length cap] 24)).alloc (.cells #[.int .i64 1001] 3)).alloc (.cells #[.func (.func 125) #[] #[.pointer (some ⟨w.heap.size + 1, 0, none⟩), .pointer (some ⟨w.heap.size + 1 + 1, 0, none⟩)]] 199)) = W0 := ⟨_, rfl⟩
  have st0 : CntSt w W0 (w.heap.size + 1) (w.heap.size + 1 + 1) 1001 := by
    rw [← hW0]
    refine ⟨?_, ?_, by omega, by omega, ((Kept.refl _ _).alloc _).alloc _ |>.alloc _⟩
    · rw [Below.heap_alloc _ _ _ (by simp)]
      have := heap_alloc_new (w.alloc (.cells #[.int .i64 j.par, .slice na j.nodes.length cap] 24)) (.cells #[.int .i64 1001] 3)
      rwa [World.size_alloc] at this
    · have := heap_alloc_new ((w.alloc (.cells #[.int .i64 j.par, .slice na j.nodes.length cap] 24)).alloc (.cells #[.int .i64 1001] 3)) (.cells #[.func (.func 125) #[] #[.pointer (some ⟨w.heap.size + 1, 0, none⟩), .pointer (some ⟨w.heap.size + 1 + 1, 0, none⟩)]] 199)
      rwa [World.size_alloc, World.size_alloc] at this
  rw [hW0]
  have ST := Lib.hid st0
  clear hW0 st0
  go_loopg [11] j.nodes.length (fun g vi wr => ∃ (k : Nat), k ≤ j.nodes.length ∧ vi = .int .i64 (k : Int) ∧ j.nodes.length - k ≤ g ∧ CntSt w wr (w.heap.size + 1) (w.heap.size + 1 + 1) (cntL ((j.nodes.map (·.x)).take k) 1001))
  case atStart => exact ⟨0, by omega, rfl, by omega, by simpa [cntL] using ST.out⟩
  case round =>
    obtain ⟨k, hkl, rfl, hg, hst⟩ := hrel
    by_cases hlt : k < j.nodes.length
    · obtain ⟨d, hd⟩ : ∃ d, j.nodes[k]? = some d := ⟨_, List.getElem?_eq_getElem hlt⟩
      obtain ⟨b, off, pi, ci, p, cap', rfl, hc, hj⟩ := H3.out k d hd
      have hc' := hc.kept hst.kept (fun h => h)
      obtain ⟨c0, c1, c2, c3, c4, c5, c6⟩ := hc'
      have s0 : wr.cell? ⟨w.heap.size + 1 + 1, 0, none⟩ = some (.func (.func 125) #[] #[.pointer (some ⟨w.heap.size + 1, 0, none⟩), .pointer (some ⟨w.heap.size + 1 + 1, 0, none⟩)]) := cells_at hst.self rfl
      have hb2 : w.heap.size + 1 + 1 < wr.heap.size := (Array.getElem?_eq_some_iff.1 hst.self).1
      have hx : ExAt w #[.int .u8 d.x.op, .int .i64 d.x.n, .slice p d.x.args.length cap'] d.x := by
        obtain ⟨_, _, _, _, e, hx, _⟩ := hj
        injection e with e
        simp only [List.cons.injEq, and_true, true_and] at e
        obtain ⟨e1, e2⟩ := e
        rw [e2]; exact hx
      have hxk : (j.nodes.map (·.x))[k]? = some d.x := by rw [List.getElem?_map, hd]; rfl
      have G := Lib.hid (And.intro hg (And.intro hx (And.intro hst hxk)))
      have HM := Lib.hid (cntL_le ((j.nodes.map (·.x)).take k) 1001)
      clear hd hj hc hg hst hx hxk H3
      go_wp2_with fail
      have c := cnt_any _ d.x _ _ _ _ _ _ (Nat.le_refl _) G.out.2.1 HM.out (G.out.2.2.1.alloc (.cells (jnC d pi ci p cap') 42))
      (with_reducible refine c.mono ?_)
      clear c
      rintro e w2 ⟨rfl, st2⟩
      rw [← cntL_take G.out.2.2.2] at st2
      have S2 := Lib.hid st2
      clear st2
      go_wp2_with fail
      go_roundg (j.nodes.length - (k + 1))
      case rel => exact ⟨k + 1, by omega, by go_num, Nat.le_refl _, S2.out⟩
      case measure => have := G.out.1; omega
    · have e1 : k = j.nodes.length := by omega
      subst e1
      have l0 : wr.cell? ⟨w.heap.size + 1, 0, none⟩ = some (.int .i64 ((cntL ((j.nodes.map (·.x)).take j.nodes.length) 1001 : Nat) : Int)) := cells_at hst.left rfl
      have hle := cntL_le (j.nodes.map (·.x)) 1001
      have el : (j.nodes.map (·.x)).take j.nodes.length = j.nodes.map (·.x) := List.take_of_length_le (by simp)
      rw [el] at l0
      have K := Lib.hid hst.kept
      clear hst el
      obtain ⟨m, hm⟩ : ∃ m, cntL (j.nodes.map (·.x)) 1001 = m := ⟨_, rfl⟩
      rw [hm] at l0 hle
      have HM := Lib.hid hm
      clear hm
      go_wp2_with fail
      go_ret
      exact ⟨ret_int (by rw [HM.out]; omega), K.out⟩
theorem info_int : ∃ i, Tryz.prog.info? 3 = some i ∧ i.zero = some (.int .i64 0) ∧ i.size = 1 ∧ i.bytes = 8 := by
  have h : (Tryz.prog.info? 3).map (fun i => (i.zero, i.size, i.bytes)) = some (some (.int .i64 0), 1, 8) := by kernel_rfl
  obtain ⟨i, h1, h2⟩ := Option.map_eq_some_iff.1 h
  injection h2 with h2 h3
  injection h3 with h3 h4
  exact ⟨i, h1, h2, h3, h4⟩
theorem info_str : ∃ i, Tryz.prog.info? 9 = some i ∧ i.zero = some (.string ByteArray.empty) ∧ i.size = 1 ∧ i.bytes = 16 := by
  have h : (Tryz.prog.info? 9).map (fun i => (i.zero, i.size, i.bytes)) = some (some (.string ByteArray.empty), 1, 16) := by kernel_rfl
  obtain ⟨i, h1, h2⟩ := Option.map_eq_some_iff.1 h
  injection h2 with h2 h3
  injection h3 with h3 h4
  exact ⟨i, h1, h2, h3, h4⟩
/-- One more behind a row of the call's own. -/
theorem push_one {T E bytes : Nat} {z x : Value} {i : TypeInfo} (hT : Tryz.prog.underlying T = some (.slice E)) (hi : Tryz.prog.info? E = some i) (hz : i.zero = some z) (hs : i.size = 1) (hb : i.bytes = bytes) (hzc : z.cells.size = 1) (hx : x.oneCell' = true)
    {wr : World} {base m : Nat} {v : Value} {xs : List Value} (hown : wr.ownsRow base E 1 v m xs) (hm : m ≤ 100000) (hbb : bytes ≤ 1000) (hbase : base ≤ wr.heap.size) (ty : TypeId) :
    ∃ v' w', (Builtin.append_ #[T, T] ty #[v, .slice (some ⟨wr.heap.size, 0, none⟩) 1 1]).run Tryz.prog (wr.alloc (.cells #[x] E)) = .ok v' w' ∧ w'.ownsRow base E 1 v' (m + 1) (xs ++ [x]) ∧ Kept (fun k => base ≤ k) wr w' := by
  have kA : Kept none' wr (wr.alloc (.cells #[x] E)) := (Kept.refl _ _).alloc _
  have hr := Reads.lit wr [x] E 1 1 rfl (by unfold maxLen; omega)
  obtain ⟨v', n', w', b1, b2, b3, b4, _⟩ := run_append_reads (P := Tryz.prog) base T ty E i z 1 bytes hT hi hz hs hb hzc (by omega) (kA.owns hown (fun _ _ h => h)) hr (by intro y hy; rw [List.mem_singleton.1 hy]; exact hx)
    (by
      simp only [List.length_singleton, Nat.mul_one]
      calc (m + 1) * bytes ≤ 100001 * 1000 := Nat.mul_le_mul (by omega) hbb
        _ ≤ 140737488355328 := by decide) (by simp; unfold maxLen; omega) (by have := kA.size; omega)
  have hn : n' = m + 1 := by simpa using b3
  subst hn
  exact ⟨v', w', b1, b2, kA.pure.trans (Kept.grown b4 (fun k hk _ => (owns_own hown hk).1))⟩
def readersL (nodes : List JN) (i : Nat) (k : Nat) : List Int := ((List.range k).filter fun m => decide ((i : Int) ∈ (nodes.getD m default).ins)).map fun (m : Nat) => (m : Int)
theorem readersL_succ {nodes : List JN} {i k : Nat} {d : JN} (hd : nodes[k]? = some d) : readersL nodes i (k + 1) = readersL nodes i k ++ if (i : Int) ∈ d.ins then [(k : Int)] else [] := by
  unfold readersL
  rw [List.range_succ, List.filter_append, List.map_append]
  congr 1
  have e : nodes.getD k default = d := by rw [List.getD_eq_getElem?_getD, hd]; rfl
  by_cases h : (i : Int) ∈ d.ins
  · have e2 : decide ((i : Int) ∈ (nodes.getD k default).ins) = true := by rw [e]; exact decide_eq_true h
    rw [List.filter_cons, if_pos e2, if_pos h]; rfl
  · have e2 : ¬ (decide ((i : Int) ∈ (nodes.getD k default).ins) = true) := by rw [e]; simpa using h
    rw [List.filter_cons, if_neg e2, if_neg h]; rfl
theorem readersL_length (nodes : List JN) (i : Nat) : ∀ k, k ≤ nodes.length → (readersL nodes i k).length = (nodes.take k).countP fun d => d.ins.contains (i : Int)
  | 0, _ => rfl
  | k + 1, hk => by
    have hd : nodes[k]? = some nodes[k] := List.getElem?_eq_getElem (by omega)
    rw [readersL_succ hd, List.length_append, readersL_length nodes i k (by omega), List.take_add_one, hd, List.countP_append]
    congr 1
    by_cases h : (i : Int) ∈ (nodes[k]).ins
    · simp [h]
    · simp [h]
theorem readersL_le (nodes : List JN) (i k : Nat) : (readersL nodes i k).length ≤ k := by
  unfold readersL
  rw [List.length_map]
  exact Nat.le_trans (List.length_filter_le _ _) (by simp)
def ReadersQ (w : World) (n : Nat) (e : Ending) (w' : World) : Prop := ∃ a cap, e = .returned (.slice a n cap) ∧ Kept none' w w'
set_option maxRecDepth 100000 in
set_option maxHeartbeats 1000000 in
theorem readers_any (j : Jb) (a : Array Value) (i : Nat) (w : World) (h : JbAt w a j) (hn12 : j.nodes.length ≤ 1000) : Calls Tryz.prog 88 #[.agg a, .int .i64 (i : Int)] w (ReadersQ w (readersN j.nodes i)) := by
  obtain ⟨v, rfl, hn, hp⟩ := h
  obtain ⟨na, cap, rfl, h1, h2, h3⟩ := hn.at
  unfold maxLen at h2
  have H3 := Lib.hid h3
  clear h3 hn hp
  go_enter Tryz.func88, Tryz.ntmps88
  go_wp2_with fail
  obtain ⟨W0, hW0⟩ : ∃ W0, (w.alloc (.cells #[.int .i64 j.par, .slice na j.nodes.length cap] 24)) = W0 := ⟨_, rfl⟩
  have k0 : Kept none' w W0 := by rw [← hW0]; exact (Kept.refl _ _).alloc _
  rw [hW0]
  have K0 := Lib.hid k0
  clear hW0 k0
  go_loopg [5, 11] j.nodes.length (fun g vo vi wr => ∃ (k : Nat), k ≤ j.nodes.length ∧ vi = .int .i64 (k : Int) ∧ j.nodes.length - k ≤ g ∧ wr.ownsRow w.heap.size 3 1 vo (readersL j.nodes i k).length (ints (readersL j.nodes i k)) ∧ Kept none' w wr)
  case atStart => exact ⟨0, by omega, rfl, by omega, World.ownsRow_nil _ _ _ _, K0.out⟩
  case round =>
    obtain ⟨k, hkl, rfl, hg, hown, hkp⟩ := hrel
    obtain ⟨oa, oc, rfl⟩ := owns_slice hown
    by_cases hlt : k < j.nodes.length
    · obtain ⟨d, hd⟩ : ∃ d, j.nodes[k]? = some d := ⟨_, List.getElem?_eq_getElem hlt⟩
      obtain ⟨b, off, pi, ci, p, cap', rfl, hc, hj⟩ := H3.out k d hd
      obtain ⟨c0, c1, c2, c3, c4, c5, c6⟩ := hc.kept hkp (fun h => h)
      have hin : Reads w 1 (.slice pi d.ins.length ci) (ints d.ins) := by
        obtain ⟨_, _, _, _, e, _, hx, _⟩ := hj
        injection e with e
        simp only [List.cons.injEq, and_true, true_and] at e
        obtain ⟨e1, e2⟩ := e
        rw [e1]; exact hx
      have kA : Kept none' wr (wr.alloc (.cells (jnC d pi ci p cap') 42)) := (Kept.refl _ _).alloc _
      have cc := containsI_any _ d.ins (i : Int) _ (hin.pure (hkp.trans kA))
      have hsz := Lib.hid hkp.size
      have G := Lib.hid (And.intro hg (And.intro hown (And.intro (hkp.trans kA) (And.intro hd kA))))
      clear hd hj hc hg hown hkp hin H3
      by_cases hm : (i : Int) ∈ d.ins
      · have e1 : decide ((i : Int) ∈ d.ins) = true := decide_eq_true hm
        rw [e1] at cc
        have E1 := Lib.hid (readersL_succ (i := i) G.out.2.2.2.1)
        rw [if_pos hm] at E1
        obtain ⟨ti, hi3, hz3, hs3, hb3⟩ := info_int
        have hle := readersL_le j.nodes i k
        obtain ⟨v', w', b1, b2, b3⟩ := push_one (x := .int .i64 (k : Int)) (bytes := 8) Tryz.underlying37 hi3 hz3 hs3 hb3 rfl rfl (kA.owns G.out.2.1 (fun _ _ h => h)) (by omega) (by omega) (Nat.le_trans hsz.out kA.size) 45
        have hnew : w'.ownsRow w.heap.size 3 1 v' (readersL j.nodes i (k + 1)).length (ints (readersL j.nodes i (k + 1))) := by
          rw [E1.out, List.length_append]
          unfold ints at b2 ⊢
          rw [List.map_append]
          exact b2
        have F := Lib.hid (And.intro hnew (G.out.2.2.1.new b3 (fun i hi h => by omega)))
        rw [World.size_alloc] at b1
        have B1 := Lib.hid b1
        clear b1 b2 b3 hnew hi3 hz3 hs3 hb3 kA hm e1
        go_wp2_with (first | (go_at_call 134; refine cc.mono ?_; rintro e w' ⟨rfl, rfl⟩) | (at_builtin; refine wpList_append_run rfl (.tmp 20) (.tmp 22) 37 rfl (.slice oa (readersL j.nodes i k).length oc) (.slice (some ⟨wr.heap.size + 1, 0, none⟩) 1 1) v' rfl rfl B1.out ?_))
        go_roundg (j.nodes.length - (k + 1))
        case rel => exact ⟨k + 1, by omega, by go_num, Nat.le_refl _, F.out⟩
        case measure => have := G.out.1; omega
      · have e1 : decide ((i : Int) ∈ d.ins) = false := decide_eq_false hm
        rw [e1] at cc
        have E1 := readersL_succ (i := i) G.out.2.2.2.1
        rw [if_neg hm, List.append_nil] at E1
        have F := Lib.hid (show (wr.alloc (.cells (jnC d pi ci p cap') 42)).ownsRow w.heap.size 3 1 (.slice oa (readersL j.nodes i k).length oc) (readersL j.nodes i (k + 1)).length (ints (readersL j.nodes i (k + 1))) by rw [E1]; exact kA.owns G.out.2.1 (fun _ _ h => h))
        clear kA hm e1 E1
        go_wp2_with (go_at_call 134; refine cc.mono ?_; rintro e w' ⟨rfl, rfl⟩)
        go_roundg (j.nodes.length - (k + 1))
        case rel => exact ⟨k + 1, by omega, by go_num, Nat.le_refl _, F.out, G.out.2.2.1⟩
        case measure => have := G.out.1; omega
    · have e1 : k = j.nodes.length := by omega
      subst e1
      have hF : (readersL j.nodes i j.nodes.length).length = readersN j.nodes i := by rw [readersL_length _ _ _ (Nat.le_refl _), List.take_length]; rfl
      rw [hF]
      clear hF
      have HK := Lib.hid hkp
      clear hkp hown
      go_wp2_with fail
      go_ret
      exact ⟨oa, oc, rfl, HK.out⟩
end Go.Proofs.YtglbkodmmogomaaGreatDoor
/-
  Jobs that came in; the row's step beside listed variables, with the reach and the world's shape.
-/
namespace Go.Proofs.YtglbkodmmogomaaGreatDoor
open Go Go.RowKit Go.ChangeShapes Go.WideShapes Go.ChangeAt Go.Deep
section
variable {H : Type} {enc : TypeId × Value → H} {w : World}
set_option maxRecDepth 100000 in
/-- A NODE OF A JOB THAT CAME IN. -/
theorem open_jnode {fuel : Nat} {cs : List Value} {x : DataW H × List MemPlace} (h : DataW.trod enc Tryz.prog w 0 (fun _ => true) true fuel 42 cs = some x) : ∃ d : JN, JNAt w cs.toArray d := by
  obtain ⟨xs, n, rfl, _, hl, hxl, hf⟩ := DataW.trod_struct Tryz.underlying42 h
  rw [show Tryz.prog.cellsOf 42 = 7 by kernel_rfl] at hl
  match cs, hl with
  | [c0, c1, c2, c3, c4, c5, c6], _ =>
    have g0 : DataW.trod enc Tryz.prog w 0 (fun _ => true) true n 9 ([c0, c1, c2, c3, c4, c5, c6].drop 0 |>.take (Tryz.prog.cellsOf 9)) = xs[0]? := hf 0 _ rfl
    have g1 : DataW.trod enc Tryz.prog w 0 (fun _ => true) true n 5 ([c0, c1, c2, c3, c4, c5, c6].drop 1 |>.take (Tryz.prog.cellsOf 5)) = xs[1]? := hf 1 _ rfl
    have g2 : DataW.trod enc Tryz.prog w 0 (fun _ => true) true n 37 ([c0, c1, c2, c3, c4, c5, c6].drop 2 |>.take (Tryz.prog.cellsOf 37)) = xs[2]? := hf 2 _ rfl
    have g3 : DataW.trod enc Tryz.prog w 0 (fun _ => true) true n 40 ([c0, c1, c2, c3, c4, c5, c6].drop 3 |>.take (Tryz.prog.cellsOf 40)) = xs[3]? := hf 3 _ rfl
    have g4 : DataW.trod enc Tryz.prog w 0 (fun _ => true) true n 3 ([c0, c1, c2, c3, c4, c5, c6].drop 6 |>.take (Tryz.prog.cellsOf 3)) = xs[4]? := hf 4 _ rfl
    rw [show Tryz.prog.cellsOf 9 = 1 by kernel_rfl] at g0
    rw [show Tryz.prog.cellsOf 5 = 1 by kernel_rfl] at g1
    rw [show Tryz.prog.cellsOf 37 = 1 by kernel_rfl] at g2
    rw [show Tryz.prog.cellsOf 40 = 3 by kernel_rfl] at g3
    rw [show Tryz.prog.cellsOf 3 = 1 by kernel_rfl] at g4
    simp only [List.drop_succ_cons, List.drop_zero, List.take_succ_cons, List.take_zero] at g0 g1 g2 g3 g4
    match xs, hxl with
    | [x0, x1, x2, x3, x4], _ =>
      obtain ⟨s, hs, _, hsz⟩ := DataW.trod_string Tryz.underlying9 g0
      obtain ⟨z1, hz1, _, hw1⟩ := DataW.trod_int Tryz.underlying5 g1
      obtain ⟨z4, hz4, _, hw4⟩ := DataW.trod_int Tryz.underlying3 g4
      injection hs with hs _
      injection hz1 with hz1 _
      injection hz4 with hz4 _
      subst hs hz1 hz4
      obtain ⟨ai, ni, ci, rfl⟩ : ∃ a n cap, c2 = .slice a n cap := by
        rcases DataW.trod_slice Tryz.underlying37 g2 with ⟨h, _⟩ | ⟨a, len, cap, _, _, _, _, h, _⟩
        · injection h with h _; exact ⟨_, _, _, h⟩
        · injection h with h _; exact ⟨_, _, _, h⟩
      obtain ⟨l, rfl, hr, h64⟩ := open_nums Tryz.underlying37 Tryz.underlying3 (by kernel_rfl) g2
      obtain ⟨ex, hex⟩ := open_expr n _ _ g3
      obtain ⟨p, cap, he, _⟩ := hex.parts
      have he' : [c3, c4, c5].toArray = #[.int .u8 ex.op, .int .i64 ex.n, .slice p ex.args.length cap] := he
      injection he' with he'
      injection he' with e3 he'
      injection he' with e4 he'
      injection he' with e5 he'
      subst e3 e4 e5
      exact ⟨⟨s, z1, l, ex, z4⟩, _, _, p, cap, rfl, hex, hr, h64, (u8_of_wf hw1).1, (u8_of_wf hw1).2, .of_wf hw4, hsz⟩
end
set_option maxRecDepth 100000 in
/-- THE ROW's STEP beside listed variables: the walk has the reach and the world's shape. -/
theorem lifted_laid {F : Nat} {fn : Func} {s : ChangeSpec} {laid : List (String × DataW Unit)} (hf : Tryz.prog.funcs[F]? = some fn) (hv : s.vars = []) (hvt : s.plain.varTypes Tryz.prog = []) (hr : fn.resultTypes = #[4]) (hp : readB fn.params.toList = true) (hi : Tryz.prog.inits.idxOf? F = none)
    (hs : ∀ (H : Type) (ds : List (DataW H)), ds.length = fn.params.toList.length → s.fn H ds = { results := [.lit (.bool true)], args := ds })
    (walk : ∀ (H : Type) (enc : TypeId × Value → H) (W : World) (base : Nat) (args : Array Value) (ds : List (DataW H)) (p : List MemPlace),
      DataW.TrodAll enc Tryz.prog W 0 (fun _ => true) true fn.params.toList args.toList ds p → (∀ (j : Nat) t v, fn.params[j]? = some t → args[j]? = some v → Value.okWide Tryz.prog W .any base t v) →
      W.noneFrozen p → (DataW.weightsEach Tryz.prog fn.params.toList ds).all (· ≤ reachBytes) = true → W.ShapedOpen Tryz.prog → Calls Tryz.prog F args W (Gives W (.bool true)))
    (os : Os) (started : os.Started) (H : Type) (enc : TypeId × Value → H)
    (witness : ∃ (w : World) (tape : Tape) (i : Input), w.os = os ∧ (w.forCall tape i).Shaped Tryz.prog ∧ i.vars = [] ∧ Input.okWide Tryz.prog (w.forCall tape i) .any w.heap.size F i ∧
      (OpenSpec.ofChange s).preRow enc Tryz.prog fn [] false laid (w.forCall tape i).memory i.args ∧ ({} : Assume).holds Tryz.prog (lone (Frame.enter Tryz.prog F i.args .normal) [] (w.forCall tape i))) :
    ReturnsInHanded {} Tryz.checked os F .any ((OpenSpec.ofChange s).preRow enc Tryz.prog fn [] false laid) (s.post enc Tryz.prog fn false true false false) := by
  refine returnsInHanded_of_row (C := Tryz.checked) (s := OpenSpec.ofChange s) (F := fun _ _ _ => 0) own started hi hf witness ?_
  intro W base args ds gs before hval hW hcnd _ hsz _ hsh _
  have hW' := hW
  obtain ⟨p, q, hA, hV, rfl, hfz, hnd⟩ := hW
  have hv' : (OpenSpec.ofChange s).vars = [] := hv
  rw [hv'] at hV
  obtain ⟨rfl, rfl⟩ := trodVars_none hV
  have hA' : DataW.TrodAll enc Tryz.prog W 0 (fun _ => true) true fn.params.toList args.toList ds p := hA
  have hsz' : (DataW.weightsEach Tryz.prog fn.params.toList ds).all (· ≤ reachBytes) = true := by
    have h1 : (DataW.weightsEach Tryz.prog (fn.params.toList ++ s.plain.varTypes Tryz.prog) (ds ++ [])).all (· ≤ reachBytes) = true := hsz
    rw [hvt, List.append_nil, List.append_nil] at h1
    exact h1
  refine (walk H enc W base args ds p hA' hval (fun b o h => hfz b o (List.mem_append_left _ h)) hsz' hsh).mono fun e W' ⟨he, k⟩ => ?_
  subst he
  have bel := k.below
  obtain ⟨ps', hagain⟩ := again_all bel fn.params.toList hp hA'
  have hlen : ds.length = fn.params.toList.length := (trodAll_length hA').2
  have hfn := hs H (ds ++ []) (by rw [List.append_nil]; exact hlen)
  refine ⟨_, rfl, ds, [], _, [], ps', [], hW', ?_, ?_, ?_, bel.frame _, fun h => by cases h⟩
  · rw [hr]; show DataW.TrodAll _ _ _ _ _ _ _ _ (s.fn H (ds ++ [])).results _; rw [hfn]; exact trodAll_mk1 (shut_bool Tryz.underlying4 _)
  · show DataW.TrodAll _ _ _ _ _ _ _ _ (s.fn H (ds ++ [])).args _; rw [hfn, List.append_nil]; exact hagain
  · have e1 : ((OpenSpec.ofChange s).at fun _ _ _ => 0).vars = [] := hv
    have e2 : (((OpenSpec.ofChange s).at fun _ _ _ => 0).fn H (ds ++ [])) = { results := [.lit (.bool true)], args := ds ++ [] } := hfn
    rw [e2, e1]; rfl
/-- bytealg.MaxLen holds some number. -/
theorem maxLen_at (w : World) (h : w.ShapedOpen Tryz.prog) : ∃ m, w.cell? ⟨0, 0, none⟩ = some (.int .i64 m) :=
  cell_of_shapedOpen_int (t := 3) (zero := #[.int .i64 0]) h (of_decide_eq_true (by kernel_rfl)) (by kernel_rfl) rfl (by kernel_rfl) (by kernel_rfl) Tryz.underlying3
end Go.Proofs.YtglbkodmmogomaaGreatDoor
