/-
  kind: accs, Of, Is; expr: Same at none.
-/
import Derived.Test.YtopeleenlcnkkaaGreatDoorM13
import Derived.Test.YtopeleenlcnkkaaGreatDoorM15
set_option linter.unusedVariables false
set_option linter.unusedSimpArgs false
namespace Go.Proofs.YtopeleenlcnkkaaGreatDoor
open Go Go.RowKit
attribute [local irreducible] wpL
theorem exAccs_mk (x : Ex) : exAccs x = (x.op == 4 || x.args.any exAccs) := by
  cases x
  rw [exAccs, exAccsL_any]; rfl
theorem any_take_no {α : Type} {l : List α} {k : Nat} {x : α} {p : α → Bool} (h : l[k]? = some x) (ht : (l.take k).any p = false) (hx : p x = false) : (l.take (k + 1)).any p = false := by
  rw [List.take_add_one, h, List.any_append, ht]; simp [hx]
set_option maxRecDepth 100000 in
set_option maxHeartbeats 1000000 in
theorem accs_any : ∀ (N : Nat) (x : Ex) (a : Array Value) (w : World), SizeOf.sizeOf x ≤ N → ExAt w a x → Calls Tryz.prog 154 #[.agg a] w (Gives w (.bool (exAccs x)))
  | 0, x, _, _, h, _ => by cases x; simp at h
  | N + 1, x, a, w, hN, h => by
    obtain ⟨p, cap, rfl, h0, h1, h2, h3, h4, h5⟩ := h.parts
    have sub : ∀ (i : Nat) (y : Ex), x.args[i]? = some y → SizeOf.sizeOf y ≤ N := by
      intro i y hy
      obtain ⟨op, n, args⟩ := x
      have h1 := List.sizeOf_lt_of_mem (List.mem_of_getElem? (show args[i]? = some y from hy))
      simp at hN
      omega
    have IH := Lib.hid (fun y a w hy => accs_any N y a w hy)
    have SB := Lib.hid sub
    have H5 := Lib.hid h5
    have HX := Lib.hid (exAccs_mk x)
    unfold maxLen at h4
    clear h h5 sub hN
    go_enter Tryz.func154, Tryz.ntmps154
    by_cases hop : x.op = 4
    · have hb : (x.op == 4) = true := by simp [hop]
      have F := Lib.hid (show exAccs x = true by rw [HX.out, hb]; rfl)
      clear hop
      go_wp2_with fail
      go_ret
      exact ⟨rbool (by rw [F.out]), (Kept.refl _ _).alloc _⟩
    · have hb : (x.op == 4) = false := by simp [hop]
      have HY := Lib.hid (show exAccs x = x.args.any exAccs by rw [HX.out, hb]; rfl)
      clear hop
      go_wp2_with fail
      obtain ⟨W0, hW0⟩ : ∃ W0, w.alloc (.cells #[.int .u8 x.op, .int .i64 x.n, .slice p x.args.length cap] 95) = W0 := ⟨_, rfl⟩
      have k0 : Kept none' w W0 := by rw [← hW0]; exact (Kept.refl _ _).alloc _
      rw [hW0]
      have K0 := Lib.hid k0
      clear hW0 k0
      go_loopg [11] x.args.length (fun g vi wr => ∃ (k : Nat), k ≤ x.args.length ∧ vi = .int .i64 (k : Int) ∧ x.args.length - k ≤ g ∧ (x.args.take k).any exAccs = false ∧ Kept none' w wr)
      case atStart => exact ⟨0, by omega, rfl, by omega, by simp, K0.out⟩
      case round =>
        obtain ⟨k, hkl, rfl, hg, hno, hkp⟩ := hrel
        by_cases hlt : k < x.args.length
        · obtain ⟨y, hy⟩ : ∃ y, x.args[k]? = some y := ⟨_, List.getElem?_eq_getElem hlt⟩
          obtain ⟨b, off, p', cap', rfl, q0, q1, q2, hy2⟩ := H5.out k y hy
          have r0 := hkp.cell (p := ⟨b, off + k * 3, none⟩) (fun h => h) q0
          have r1 := hkp.cell (p := ⟨b, off + k * 3 + 1, none⟩) (fun h => h) q1
          have r2 := hkp.cell (p := ⟨b, off + k * 3 + 2, none⟩) (fun h => h) q2
          have G := Lib.hid (And.intro hg (And.intro (ExAt.pure hkp hy2) (And.intro hkp (And.intro (SB.out k y hy) (And.intro hy hno)))))
          clear q0 q1 q2 hy hy2 hkp hg H5 hno
          go_wp2_with fail
          have ka : Kept none' wr (wr.alloc (.cells #[.int .u8 y.op, .int .i64 y.n, .slice p' y.args.length cap'] 95)) := (Kept.refl _ _).alloc _
          have c := IH.out y _ (wr.alloc (.cells #[.int .u8 y.op, .int .i64 y.n, .slice p' y.args.length cap'] 95)) G.out.2.2.2.1 (ExAt.pure ka G.out.2.1)
          (with_reducible refine c.mono ?_)
          clear c
          rintro e w2 ⟨rfl, k2⟩
          have K2 := Lib.hid (G.out.2.2.1.trans (ka.trans k2))
          clear k2 ka
          cases hA : exAccs y with
          | true =>
            have F := Lib.hid (show exAccs x = true by rw [HY.out, List.any_eq_true]; exact ⟨y, List.mem_of_getElem? G.out.2.2.2.2.1, hA⟩)
            clear hA
            go_wp2_with fail
            go_ret
            exact ⟨rbool (by rw [F.out]), K2.out⟩
          | false =>
            have F := Lib.hid (any_take_no G.out.2.2.2.2.1 G.out.2.2.2.2.2 hA)
            clear hA
            go_wp2_with fail
            go_roundg (x.args.length - (k + 1))
            case rel => exact ⟨k + 1, by omega, by go_num, Nat.le_refl _, F.out, K2.out⟩
            case measure => have := G.out.1; omega
        · have F := Lib.hid (And.intro (show exAccs x = false by rw [HY.out]; rwa [List.take_of_length_le (by omega)] at hno) hkp)
          clear hno hkp
          go_wp2_with fail
          go_ret
          exact ⟨rbool (by rw [F.out.1]), F.out.2⟩
theorem kindA_true (x : Ex) : kindA x true = kindR x := by
  unfold kindA kindR
  split
  · rfl
  · rw [if_neg (by simp)]
set_option maxRecDepth 100000 in
set_option maxHeartbeats 1000000 in
theorem kindOf0_any (x : Ex) (a : Array Value) (w : World) (h : ExAt w a x) : Calls Tryz.prog 128 #[.agg a, .bool false] w (KindQ w (kindA x false)) := by
  obtain ⟨p, cap, rfl, h0, h1, h2, h3, h4, h5⟩ := h.parts
  have H := Lib.hid h
  clear h h5
  have hk0 : Kept none' w (w.alloc (.cells #[.int .u8 x.op, .int .i64 x.n, .slice p x.args.length cap] 95)) := (Kept.refl _ _).alloc _
  obtain ⟨W0, hW0⟩ : ∃ W0, w.alloc (.cells #[.int .u8 x.op, .int .i64 x.n, .slice p x.args.length cap] 95) = W0 := ⟨_, rfl⟩
  have d0 : W0.cell? ⟨w.heap.size, 0, none⟩ = some (.int .u8 x.op) := by rw [← hW0]; simp
  have d1 : W0.cell? ⟨w.heap.size, 1, none⟩ = some (.int .i64 x.n) := by rw [← hW0]; simp
  have d2 : W0.cell? ⟨w.heap.size, 2, none⟩ = some (.slice p x.args.length cap) := by rw [← hW0]; simp
  rw [hW0] at hk0
  have HK := Lib.hid hk0
  have HW0 := Lib.hid hW0
  clear hk0 hW0
  go_enter Tryz.func128, Tryz.ntmps128
  go_wp2_with fail
  rw [HW0.out]
  (with_reducible refine (May_any x _ W0 (ExAt.pure HK.out H.out)).mono ?_)
  rintro e W1 ⟨rfl, k1⟩
  have c0 := k1.cell (p := ⟨w.heap.size, 0, none⟩) (fun h => h) d0
  have c1 := k1.cell (p := ⟨w.heap.size, 1, none⟩) (fun h => h) d1
  have c2 := k1.cell (p := ⟨w.heap.size, 2, none⟩) (fun h => h) d2
  have HK1 := Lib.hid (HK.out.trans k1)
  clear k1 d0 d1 d2
  cases hm : exMay 16 x with
  | false =>
    have F : KindQ w (kindA x false) (.returned (.tuple #[.int .u8 0, .int .i64 2])) W1 := ⟨by unfold kindA; rw [if_pos hm], HK1.out⟩
    have F' := Lib.hid F
    clear hm F
    go_wp2_with fail
    go_ret2
    exact F'.out
  | true =>
    have HM := Lib.hid hm
    clear hm
    go_wp2_with fail
    (with_reducible refine (accs_any _ x _ W1 (Nat.le_refl _) (ExAt.pure HK1.out H.out)).mono ?_)
    rintro e W1' ⟨rfl, k1⟩
    have c0 := k1.cell (p := ⟨w.heap.size, 0, none⟩) (fun h => h) c0
    have c1 := k1.cell (p := ⟨w.heap.size, 1, none⟩) (fun h => h) c1
    have c2 := k1.cell (p := ⟨w.heap.size, 2, none⟩) (fun h => h) c2
    have HK1 := Lib.hid (HK1.out.trans k1)
    clear k1
    cases hA : exAccs x with
    | true =>
      have F : KindQ w (kindA x false) (.returned (.tuple #[.int .u8 0, .int .i64 90])) W1' := ⟨by unfold kindA; rw [if_neg (by rw [HM.out]; simp), if_pos ⟨rfl, hA⟩], HK1.out⟩
      have F' := Lib.hid F
      clear hA F
      go_wp2_with fail
      go_ret2
      exact F'.out
    | false =>
    have HA := Lib.hid hA
    clear hA
    go_wp2_with fail
    refine wp_region_eager [1, 0, 2, 3] (fun W => Kept none' W1' W) (by kernel_rfl) (by kernel_rfl) rfl (Kept.refl _ _).drew ?_
    simp only [List.map_cons, List.map_nil, List.getElem?_toArray, List.getElem?_cons_zero, List.getElem?_cons_succ, Option.getD_some]
    (apply wpL_float rfl rfl; (intro W hW; have z0 := hW.cell (fun h => h) c0; have z1 := hW.cell (fun h => h) c1; have z2 := hW.cell (fun h => h) c2; go_simp; rfl); go_frame)
    apply wpL_loud rfl rfl
    intro K hK
    go_wp2_with fail
    (with_reducible refine (rules_any _).mono ?_)
    rintro e W2 ⟨m, rfl, r2, k2⟩
    have k2' : Kept none' W1' W2 := k2.drew_left
    clear k2
    go_wp2_with fail
    refine hK _ _ (fun _ => k2') ?_
    clear hK
    apply wpL_loud rfl rfl
    intro K hK
    go_wp2_with fail
    have c := ty_any 16 x _ m _ (ExAt.pure (HK1.out.trans k2') H.out) HM.out r2
    (with_reducible refine c.mono ?_)
    clear c
    rintro e W3 ⟨rfl, k3⟩
    have k3' : Kept none' W1' W3 := k2'.trans k3
    clear k2' k3 r2
    go_wp2_with fail
    refine hK _ _ (fun _ => k3') ?_
    clear hK
    (apply wpL_float rfl rfl; (intro W hW; go_simp; rfl); go_frame)
    refine wpL_nil (fun _ => k3') ?_
    by_cases ht : exTy 16 x = 0
    · have F : KindQ w (kindA x false) (.returned (.tuple #[.int .u8 0, .int .i64 91])) W3 := ⟨by unfold kindA; rw [if_neg (by rw [HM.out]; simp), if_neg (by rw [HA.out]; simp), if_pos ht], HK1.out.trans k3'⟩
      have F' := Lib.hid F
      have hb : (exTy 16 x == 0) = true := by simp [ht]
      clear F ht k3'
      go_wp2_with fail
      go_ret2
      exact F'.out
    · have F : KindQ w (kindA x false) (.returned (.tuple #[.int .u8 (exTy 16 x), .int .i64 0])) W3 := ⟨by unfold kindA; rw [if_neg (by rw [HM.out]; simp), if_neg (by rw [HA.out]; simp), if_neg ht], HK1.out.trans k3'⟩
      have F' := Lib.hid F
      have hb : (exTy 16 x == 0) = false := by simp [ht]
      clear F ht k3'
      go_wp2_with fail
      go_ret2
      exact F'.out
theorem kindOfA_any (x : Ex) (acc : Bool) (a : Array Value) (w : World) (h : ExAt w a x) : Calls Tryz.prog 128 #[.agg a, .bool acc] w (KindQ w (kindA x acc)) := by
  cases acc with
  | true => rw [kindA_true]; exact kindOf_any x a w h
  | false => exact kindOf0_any x a w h
set_option maxRecDepth 100000 in
set_option maxHeartbeats 1000000 in
theorem is_any (x : Ex) (acc : Bool) (ty : Int) (a : Array Value) (w : World) (h : ExAt w a x) : Calls Tryz.prog 107 #[.agg a, .bool acc, .int .u8 ty] w (Gives w (.bool (exIs x acc ty))) := by
  obtain ⟨p, cap, rfl, h0, h1, h2, h3, h4, h5⟩ := h.parts
  have H := Lib.hid h
  clear h h5
  go_enter Tryz.func107, Tryz.ntmps107
  go_wp2_with fail
  have k0 : Kept none' w (w.alloc (.cells #[.int .u8 x.op, .int .i64 x.n, .slice p x.args.length cap] 95)) := (Kept.refl _ _).alloc _
  have c := kindOfA_any x acc _ _ (ExAt.pure k0 H.out)
  (with_reducible refine c.mono ?_)
  clear c
  rintro e W2 ⟨rfl, k2⟩
  have HX := Lib.hid (show exIs x acc ty = ((kindA x acc).2 == 0 && (kindA x acc).1 == ty) from rfl)
  generalize kindA x acc = r at *
  obtain ⟨r1, r2⟩ := r
  have K := Lib.hid (k0.trans k2)
  clear k0 k2
  by_cases hr : r2 = 0
  · have hb : (r2 == 0) = true := by simp [hr]
    rw [hb] at HX
    clear hr
    go_wp2_with fail
    go_ret
    exact ⟨rbool (by rw [HX.out]; rfl), K.out⟩
  · have hb : (r2 == 0) = false := by simp [hr]
    rw [hb] at HX
    clear hr
    go_wp2_with fail
    go_ret
    exact ⟨rbool (by rw [HX.out]; rfl), K.out⟩
end Go.Proofs.YtopeleenlcnkkaaGreatDoor
/-
  JOBS IN MEMORY: nodes, a slice of nodes.
-/
namespace Go.Proofs.YtopeleenlcnkkaaGreatDoor
open Go Go.RowKit
/-- The cells of a node. -/
def JNAt (w : World) (a : Array Value) (d : JN) : Prop :=
  ∃ pi ci p cap, a = #[.string d.uid, .int .u8 d.kind, .slice pi d.ins.length ci, .int .u8 d.x.op, .int .i64 d.x.n, .slice p d.x.args.length cap, .int .i64 d.n] ∧
    ExAt w #[.int .u8 d.x.op, .int .i64 d.x.n, .slice p d.x.args.length cap] d.x ∧ Reads w 1 (.slice pi d.ins.length ci) (ints d.ins) ∧ (∀ k ∈ d.ins, R64 k) ∧ 0 ≤ d.kind ∧ d.kind ≤ 255 ∧ R64 d.n ∧ d.uid.size ≤ maxLen
theorem Reads.kept_of {w w' : World} {S : Nat → Prop} {k : Nat} {v : Value} {cs : List Value} (h : Reads w k v cs) (hk0 : 0 < k) (hk : Kept S w w') (hS : ∀ k, S k → ∀ c E f, w.heap[k]? ≠ some (.cells c E f)) : Reads w' k v cs :=
  h.kept hk (fun b hb hs => by obtain ⟨c, E, f, h⟩ := h.isCells hk0 hb; exact hS b hs c E f h)
theorem JNAt.kept {w w' : World} {S : Nat → Prop} (hk : Kept S w w') (hS : ∀ k, S k → ∀ c E f, w.heap[k]? ≠ some (.cells c E f)) {a : Array Value} {d : JN} (h : JNAt w a d) : JNAt w' a d := by
  obtain ⟨pi, ci, p, cap, h1, h2, h3, h4⟩ := h
  exact ⟨pi, ci, p, cap, h1, h2.kept hk hS, h3.kept_of (by omega) hk hS, h4⟩
theorem JNAt.pure {w w' : World} (hk : Kept none' w w') {a : Array Value} {d : JN} (h : JNAt w a d) : JNAt w' a d := h.kept hk (fun _ h => h.elim)
/-- A slice of nodes. -/
def NodesAt (w : World) (v : Value) (L : List JN) : Prop :=
  ∃ cs : List Value, Reads w 7 v cs ∧ cs.length = L.length * 7 ∧ ∀ i d, L[i]? = some d → JNAt w ((cs.drop (i * 7)).take 7).toArray d
theorem NodesAt.kept {w w' : World} {S : Nat → Prop} (hk : Kept S w w') (hS : ∀ k, S k → ∀ c E f, w.heap[k]? ≠ some (.cells c E f)) {v : Value} {L : List JN} (h : NodesAt w v L) : NodesAt w' v L := by
  obtain ⟨cs, h1, h2, h3⟩ := h
  exact ⟨cs, h1.kept_of (by omega) hk hS, h2, fun i d hd => (h3 i d hd).kept hk hS⟩
theorem NodesAt.pure {w w' : World} (hk : Kept none' w w') {v : Value} {L : List JN} (h : NodesAt w v L) : NodesAt w' v L := h.kept hk (fun _ h => h.elim)
/-- A node's cells within the slice. -/
structure JNCells (w : World) (b o : Nat) (d : JN) (pi : Option Addr) (ci : Nat) (p : Option Addr) (cap : Nat) : Prop where
  c0 : w.cell? ⟨b, o, none⟩ = some (.string d.uid)
  c1 : w.cell? ⟨b, o + 1, none⟩ = some (.int .u8 d.kind)
  c2 : w.cell? ⟨b, o + 2, none⟩ = some (.slice pi d.ins.length ci)
  c3 : w.cell? ⟨b, o + 3, none⟩ = some (.int .u8 d.x.op)
  c4 : w.cell? ⟨b, o + 4, none⟩ = some (.int .i64 d.x.n)
  c5 : w.cell? ⟨b, o + 5, none⟩ = some (.slice p d.x.args.length cap)
  c6 : w.cell? ⟨b, o + 6, none⟩ = some (.int .i64 d.n)
theorem JNCells.kept {w w' : World} {S : Nat → Prop} {b o : Nat} {d : JN} {pi : Option Addr} {ci : Nat} {p : Option Addr} {cap : Nat} (h : JNCells w b o d pi ci p cap) (hk : Kept S w w') (hb : ¬ S b) : JNCells w' b o d pi ci p cap :=
  ⟨hk.cell (p := ⟨b, o, none⟩) hb h.c0, hk.cell (p := ⟨b, o + 1, none⟩) hb h.c1, hk.cell (p := ⟨b, o + 2, none⟩) hb h.c2, hk.cell (p := ⟨b, o + 3, none⟩) hb h.c3, hk.cell (p := ⟨b, o + 4, none⟩) hb h.c4, hk.cell (p := ⟨b, o + 5, none⟩) hb h.c5, hk.cell (p := ⟨b, o + 6, none⟩) hb h.c6⟩
/-- The cells of a node by themselves. -/
abbrev jnC (d : JN) (pi : Option Addr) (ci : Nat) (p : Option Addr) (cap : Nat) : Array Value :=
  #[.string d.uid, .int .u8 d.kind, .slice pi d.ins.length ci, .int .u8 d.x.op, .int .i64 d.x.n, .slice p d.x.args.length cap, .int .i64 d.n]
theorem NodesAt.at {w : World} {v : Value} {L : List JN} (h : NodesAt w v L) : ∃ a cap, v = .slice a L.length cap ∧ L.length ≤ cap ∧ cap ≤ maxLen ∧
    ∀ i d, L[i]? = some d → ∃ b off pi ci p cap', a = some ⟨b, off, none⟩ ∧ JNCells w b (off + i * 7) d pi ci p cap' ∧ JNAt w (jnC d pi ci p cap') d := by
  obtain ⟨cs, ⟨a, n, cap, rfl, h1, h2, h3, h4⟩, h5, h6⟩ := h
  have hn : n = L.length := by omega
  subst hn
  refine ⟨a, cap, rfl, h1, h2, fun i d hd => ?_⟩
  have hi : i < L.length := (List.getElem?_eq_some_iff.1 hd).1
  have hj := h6 i d hd
  have hne : cs ≠ [] := fun e => by rw [e] at h5; simp at h5; omega
  obtain ⟨b, off, rfl, hc⟩ := h4.resolve_left hne
  obtain ⟨pi, ci, p, cap', e, hrest⟩ := hj
  have hl : (cs.drop (i * 7)).take 7 = (jnC d pi ci p cap').toList := by
    have := congrArg Array.toList e
    simpa using this
  have get : ∀ j v, (jnC d pi ci p cap').toList[j]? = some v → cs[i * 7 + j]? = some v := by
    intro j v hj
    rw [← hl, List.getElem?_take] at hj
    split at hj
    · rwa [List.getElem?_drop] at hj
    · cases hj
  have cell : ∀ j v, (jnC d pi ci p cap').toList[j]? = some v → w.cell? ⟨b, off + i * 7 + j, none⟩ = some v := fun j v hj => by
    have := hc _ _ (get j v hj)
    rwa [← Nat.add_assoc] at this
  exact ⟨b, off, pi, ci, p, cap', rfl, ⟨cell 0 _ rfl, cell 1 _ rfl, cell 2 _ rfl, cell 3 _ rfl, cell 4 _ rfl, cell 5 _ rfl, cell 6 _ rfl⟩, pi, ci, p, cap', rfl, hrest⟩
theorem NodesAt.nil (w : World) : NodesAt w (.slice none 0 0) [] := ⟨[], Reads.nil w 7, rfl, fun i d h => by cases h⟩
end Go.Proofs.YtopeleenlcnkkaaGreatDoor
