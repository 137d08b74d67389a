/-
  expr.Deep of a small expression; expr.Parse of a text whose tokens are read to their end.
-/
import Derived.Test.YtopeleenlcnkkaaGreatDoorM26
import Derived.Test.YtopeleenlcnkkaaGreatDoorM27
import Derived.Laws.EntriesVeiled
set_option linter.unusedVariables false
set_option linter.unusedSimpArgs false
namespace Go.Proofs.YtopeleenlcnkkaaGreatDoor
open Go Go.RowKit
attribute [local irreducible] wpL
/-- An expression is no deeper than so. -/
def depOk : Nat → Ex → Prop
  | 0, _ => False
  | d + 1, x => ∀ y ∈ x.args, depOk d y
def DeepQ (w : World) (d : Nat) (e : Ending) (w' : World) : Prop := ∃ n : Int, e = .returned (.int .i64 n) ∧ 1 ≤ n ∧ n ≤ (d : Int) ∧ Kept none' w w'
set_option maxRecDepth 100000 in
set_option maxHeartbeats 1000000 in
theorem deep1_any : ∀ (d : Nat) (x : Ex) (a : Array Value) (B : Nat) (left : Int) (w : World), d ≤ 100 → depOk d x → ExAt w a x → 0 ≤ left → left ≤ 16 → w.cell? ⟨B, 0, none⟩ = some (.func (.func 198) #[] #[.pointer (some ⟨B, 0, none⟩)]) →
    Calls Tryz.prog 198 #[.agg a, .int .i64 left, .pointer (some ⟨B, 0, none⟩)] w (DeepQ w d)
  | 0, x, _, _, _, _, _, h, _, _, _, _ => h.elim
  | d + 1, x, a, B, left, w, hd, hx, h, hl0, hl1, hB => by
    obtain ⟨p, cap, rfl, h0, h1, h2, h3, h4, h5⟩ := h.parts
    have IH := Lib.hid (fun y a B left w hy h hl0 hl1 hB => deep1_any d y a B left w (by omega) hy h hl0 hl1 hB)
    have SB := Lib.hid (show ∀ (i : Nat) (y : Ex), x.args[i]? = some y → depOk d y from fun i y hy => hx y (List.mem_of_getElem? hy))
    have H5 := Lib.hid h5
    unfold maxLen at h4
    have hBl : B < w.heap.size := by have := block_lt_of_cell hB; simpa using this
    have HB := Lib.hid hB
    clear h h5 hx
    go_enter Tryz.func198, Tryz.ntmps198
    go_wp2_with fail
    obtain ⟨W0, hW0⟩ : ∃ W0, w.alloc (.cells #[.int .u8 x.op, .int .i64 x.n, .slice p x.args.length cap] 95) = W0 := ⟨_, rfl⟩
    have k0 : Kept none' w W0 := by rw [← hW0]; exact (Kept.refl _ _).alloc _
    rw [hW0]
    have K0 := Lib.hid k0
    clear hW0 k0 hB
    go_loopg [6, 12] x.args.length (fun g vn vi wr => ∃ (k : Nat) (n : Int), k ≤ x.args.length ∧ vi = .int .i64 (k : Int) ∧ vn = .int .i64 n ∧ x.args.length - k ≤ g ∧ 0 ≤ n ∧ n ≤ (d : Int) ∧ Kept none' w wr)
    case atStart => exact ⟨0, 0, by omega, rfl, rfl, by omega, by omega, by omega, K0.out⟩
    case round =>
      obtain ⟨k, n, hkl, rfl, rfl, hg, hn1, hn2, hkp⟩ := hrel
      by_cases hlt : k < x.args.length
      · obtain ⟨y, hy⟩ : ∃ y, x.args[k]? = some y := ⟨_, List.getElem?_eq_getElem hlt⟩
        obtain ⟨b, off, p', cap', rfl, q0, q1, q2, hy2⟩ := H5.out k y hy
        have r0 := hkp.cell (p := ⟨b, off + k * 3, none⟩) (fun h => h) q0
        have r1 := hkp.cell (p := ⟨b, off + k * 3 + 1, none⟩) (fun h => h) q1
        have r2 := hkp.cell (p := ⟨b, off + k * 3 + 2, none⟩) (fun h => h) q2
        have bB := hkp.cell (p := ⟨B, 0, none⟩) (fun h => h) HB.out
        have hBr : B < wr.heap.size := Nat.lt_of_lt_of_le hBl hkp.size
        have G := Lib.hid (And.intro hg (And.intro (ExAt.pure hkp hy2) (And.intro hkp (SB.out k y hy))))
        clear q0 q1 q2 hy hy2 hkp hg H5
        by_cases hb : 0 < left
        · have hlw : IntKind.i64.wrap (left - 1) = left - 1 := by rw [IntKind.wrap_i64]; omega
          go_wp2_with fail
          have ka : Kept none' wr (wr.alloc (.cells #[.int .u8 y.op, .int .i64 y.n, .slice p' y.args.length cap'] 95)) := (Kept.refl _ _).alloc _
          have c := IH.out y _ B (left - 1) (wr.alloc (.cells #[.int .u8 y.op, .int .i64 y.n, .slice p' y.args.length cap'] 95)) G.out.2.2.2 (ExAt.pure ka G.out.2.1) (by omega) (by omega) (ka.cell (p := ⟨B, 0, none⟩) (fun h => h) bB)
          (with_reducible refine c.mono ?_)
          clear c
          rintro e w2 ⟨m, rfl, hm1, hm2, k2⟩
          have K2 := Lib.hid (G.out.2.2.1.trans (ka.trans k2))
          clear k2 ka
          by_cases hmn : n ≤ m
          · have e1 : max n m = m := by omega
            go_wp2_with fail
            go_roundg (x.args.length - (k + 1))
            case rel => exact ⟨k + 1, m, by omega, by go_num, by first | rfl | rw [e1], Nat.le_refl _, by omega, by omega, K2.out⟩
            case measure => have := G.out.1; omega
          · have e1 : max n m = n := by omega
            go_wp2_with fail
            go_roundg (x.args.length - (k + 1))
            case rel => exact ⟨k + 1, n, by omega, by go_num, by first | rfl | rw [e1], Nat.le_refl _, by omega, by omega, K2.out⟩
            case measure => have := G.out.1; omega
        · go_wp2_with fail
          go_roundg (x.args.length - (k + 1))
          case rel => exact ⟨k + 1, n, by omega, by go_num, rfl, Nat.le_refl _, by omega, by omega, G.out.2.2.1.alloc _⟩
          case measure => have := G.out.1; omega
      · have HK := Lib.hid hkp
        have hnw : IntKind.i64.wrap (n + 1) = n + 1 := by rw [IntKind.wrap_i64]; omega
        clear hkp
        go_wp2_with fail
        go_ret
        exact ⟨n + 1, rfl, by omega, by omega, HK.out⟩
set_option maxRecDepth 100000 in
set_option maxHeartbeats 1000000 in
theorem deep_any (x : Ex) (a : Array Value) (w : World) (hx : depOk 16 x) (h : ExAt w a x) : Calls Tryz.prog 172 #[.agg a] w (DeepQ w 16) := by
  obtain ⟨p, cap, rfl, h0, h1, h2, h3, h4, _⟩ := h.parts
  unfold maxLen at h4
  have k0 : Kept none' w ((w.alloc (.cells #[.int .u8 x.op, .int .i64 x.n, .slice p x.args.length cap] 95)).alloc (.cells #[.func (.func 198) #[] #[.pointer (some ⟨w.heap.size + 1, 0, none⟩)]] 287)) := ((Kept.refl _ _).alloc _).alloc _
  have bB : ((w.alloc (.cells #[.int .u8 x.op, .int .i64 x.n, .slice p x.args.length cap] 95)).alloc (.cells #[.func (.func 198) #[] #[.pointer (some ⟨w.heap.size + 1, 0, none⟩)]] 287)).cell? ⟨w.heap.size + 1, 0, none⟩ = some (.func (.func 198) #[] #[.pointer (some ⟨w.heap.size + 1, 0, none⟩)]) := by simp
  have c := deep1_any 16 x _ (w.heap.size + 1) 16 _ (by omega) hx (h.pure k0) (by omega) (by omega) bB
  have K0 := Lib.hid k0
  clear k0 bB hx h
  go_enter Tryz.func172, Tryz.ntmps172
  go_wp2_with fail
  (with_reducible refine c.mono ?_)
  clear c
  rintro e w2 ⟨m, rfl, hm1, hm2, k2⟩
  have F := Lib.hid (show DeepQ w 16 (.returned (.int .i64 m)) w2 from ⟨m, rfl, hm1, hm2, K0.out.trans k2⟩)
  have e1 : min m 17 = m := by omega
  clear k2
  go_wp2_with fail
  go_ret
  exact F.out
/-- A text's expression, if it is one of sums. -/
def exprP (s : ByteArray) : Option Ex := match orP (lexP s) with | some (x, []) => some x | _ => none
def ExprQ (w : World) (x : Ex) (e : Ending) (w' : World) : Prop :=
  ∃ p c D, e = .returned (.tuple #[.agg (exC x p c).toArray, .int .i64 0, .int .i64 0]) ∧ ExRob w' D (exC x p c).toArray x ∧ (∀ k, D k → w.heap.size ≤ k ∧ k < w'.heap.size) ∧ Kept none' w w'
set_option maxRecDepth 100000 in
set_option maxHeartbeats 2000000 in
theorem expr_any (s : ByteArray) (hs : s.size ≤ 400) (hg : ∀ p ∈ runes s, goodR p.2) (x : Ex) (hx : exprP s = some x) (hd : depOk 16 x) (w : World) : Calls Tryz.prog 138 #[.string s] w (ExprQ w x) := by
  have ht : orP (lexP s) = some (x, []) := by
    unfold exprP at hx
    split at hx
    · rename_i e; injection hx with hx; rw [e, hx]
    · cases hx
  have hln := runes_length s
  have k0 : Kept none' w (w.alloc (.cells #[.int .u8 0, .int .i64 0, .slice none 0 0] 95)) := (Kept.refl _ _).alloc _
  have t0 : (w.alloc (.cells #[.int .u8 0, .int .i64 0, .slice none 0 0] 95)).heap[w.heap.size]? = some (.cells #[.int .u8 0, .int .i64 0, .slice none 0 0] 95 (0, 0)) := heap_alloc_new _ _
  have ct := tokens_any s hs hg (w.alloc (.cells #[.int .u8 0, .int .i64 0, .slice none 0 0] 95))
  have H := Lib.hid (And.intro k0 (And.intro t0 (And.intro ht (And.intro hd hln))))
  clear k0 t0 ht hd hx hg hln
  go_enter Tryz.func138, Tryz.ntmps138
  go_wp2_with fail
  (with_reducible refine ct.mono ?_)
  clear ct
  rintro e w1 ⟨v, rfl, hown, k1⟩
  obtain ⟨va, vc, rfl⟩ := owns_slice hown
  have kw1 := H.out.1.trans k1
  have t1 := k1.heap H.out.2.1 (fun h => h)
  obtain ⟨w2, hrun, hit, hk2, hs2⟩ := run_range_str (P := Tryz.prog) w1 9 s Tryz.underlying9
  have H1 := Lib.hid (And.intro (kw1.trans hk2) (And.intro (hk2.heap t1 (fun h => h)) (And.intro hown (And.intro hit (And.intro hk2 hs2)))))
  have T1 := Lib.hid t1
  clear kw1 t1 hown hit hk2 k1
  go_wp2
  go_loopg [8] (runes s).length (fun k va wr => ∃ (left : List (Nat × Nat)) (n : Nat), RunAt wr w1.heap.size s left ∧ left.length = k ∧ n + left.length = (runes s).length ∧ va = .int .i64 (n : Int) ∧ Kept (one w1.heap.size) w2 wr)
  case atStart => exact ⟨runes s, 0, H1.out.2.2.2.1, rfl, by omega, rfl, Kept.refl _ _⟩
  case round =>
    obtain ⟨left, n, hit, hk, hnl, rfl, hkp⟩ := hrel
    obtain ⟨wo, rfl⟩ : ∃ wo : World, wo = wr := ⟨_, rfl⟩
    have hn400 : n ≤ 400 := by have := H.out.2.2.2.2; omega
    rcases hit.next (P := Tryz.prog) 0 with ⟨rfl, hrun⟩ | ⟨p, left', w3, hp, hrun, hit2, hk2, hs3⟩
    · obtain ⟨W0, hW0⟩ : ∃ W0, wo.alloc (.cells #[.slice va (lexP s).length vc, .int .i64 (n : Int), .bool false, .int .i64 0] 258) = W0 := ⟨_, rfl⟩
      have ka : Kept none' wo W0 := by rw [← hW0]; exact (Kept.refl _ _).alloc _
      have hs1 := H1.out.2.2.2.2.1.size
      have hs12 := H1.out.2.2.2.2.2
      have hsz := hkp.size
      have hown : W0.ownsRow (w.alloc (.cells #[.int .u8 0, .int .i64 0, .slice none 0 0] 95)).heap.size 279 4 (.slice va (lexP s).length vc) (lexP s).length (toksC (lexP s)) :=
        ka.owns (hkp.owns (H1.out.2.2.2.2.1.owns H1.out.2.2.1 (fun _ _ h => h)) (fun k hk hs => by have := (H1.out.2.2.1.lt k hk).2; unfold one at hs; omega)) (fun _ _ h => h)
      have hrd : RdAt W0 wo.heap.size (lexP s) (n : Int) := by
        have hR : W0.heap[wo.heap.size]? = some (.cells #[.slice va (lexP s).length vc, .int .i64 (n : Int), .bool false, .int .i64 0] 258 (0, 0)) := by rw [← hW0]; exact heap_alloc_new _ _
        rcases hown.2 with ⟨e, h0⟩ | ⟨g, cap, cur, e, hbg, hg, hnc, hcm, hcs, htake⟩
        · have : lexP s = [] := List.eq_nil_of_length_eq_zero h0
          simp only [Value.slice.injEq] at e
          obtain ⟨rfl, _, rfl⟩ := e
          exact ⟨none, 0, hR, by omega, by unfold maxLen; omega, .inl this⟩
        · simp only [Value.slice.injEq, true_and] at e
          obtain ⟨rfl, rfl⟩ := e
          have hgl : g < wo.heap.size := by
            have := (H1.out.2.2.1.lt g rfl).2
            omega
          refine ⟨some ⟨g, 0, none⟩, vc, hR, hnc, hcm, .inr ⟨g, 0, rfl, hgl, fun i t ht => ?_⟩⟩
          obtain ⟨q0, q1, q2, q3⟩ := toksC_get ht
          have hc := hown.cells (g := g) rfl
          have z0 := hc _ _ q0
          have z1 := hc _ _ q1
          have z2 := hc _ _ q2
          have z3 := hc _ _ q3
          rw [Addr.add_lit] at z0 z1 z2 z3
          simp only [Nat.zero_add] at z0 z1 z2 z3 ⊢
          exact ⟨z0, z1, z2, z3⟩
      have co := ror_any wo.heap.size (n : Int) W0 (lexP s) [] x hrd H.out.2.2.1
      have hT1 : w.heap.size < w1.heap.size := (Array.getElem?_eq_some_iff.1 T1.out).1
      have hw1o : w1.heap.size < wo.heap.size := by omega
      have tT := ka.heap (hkp.heap H1.out.2.1 (show ¬ (w.heap.size = w1.heap.size) by
        have := (Array.getElem?_eq_some_iff.1 H1.out.2.1).1
        have := H1.out.1.size
        have h2 := H1.out.2.2.1.1
        have := (Array.getElem?_eq_some_iff.1 T1.out).1
        omega)) (fun h => h)
      have kw0 : Kept none' w W0 := (H1.out.1.new hkp (fun i hi hs => by unfold one at hs; have := (Array.getElem?_eq_some_iff.1 T1.out).1; omega)).trans ka
      have hsz0 : W0.heap.size = wo.heap.size + 1 := by rw [← hW0]; simp
      have K0 := Lib.hid (And.intro kw0 tT)
      have HW := Lib.hid hW0
      have hT0 : w.heap.size < W0.heap.size := (Array.getElem?_eq_some_iff.1 tT).1
      clear hit hk hnl hkp ka hown hrd kw0 tT hW0 hs1 hs12
      go_wp2_with fail
      rw [HW.out]
      (with_reducible refine co.mono ?_)
      clear co
      rintro e w5 ⟨p, c, D, rfl, hx, hD, r5, k5⟩
      have kx : Kept none' w5 (w5.alloc (.cells (exC x p c).toArray 95)) := (Kept.refl _ _).alloc _
      obtain ⟨W6, hW6⟩ : ∃ W6, w5.alloc (.cells (exC x p c).toArray 95) = W6 := ⟨_, rfl⟩
      have hW6' : w5.alloc (.cells #[.int .u8 x.op, .int .i64 x.n, .slice p x.args.length c] 95) = W6 := hW6
      have x6 : W6.heap[w5.heap.size]? = some (.cells (exC x p c).toArray 95 (0, 0)) := by rw [← hW6]; exact heap_alloc_new _ _
      rw [hW6] at kx
      have r6 := r5.pure kx
      obtain ⟨ta, tcap, l6⟩ := r6.list
      have b6 := r6.bad
      have hR6 : wo.heap.size < W6.heap.size := r6.lt
      have hx6 := hx.kept kx (fun _ _ h => h)
      have cd := deep_any x _ W6 H.out.2.2.2.1 hx6.at
      have t6 := kx.heap (k5.heap K0.out.2 (fun h => by unfold one at h; omega)) (fun h => h)
      have k06 : Kept (one wo.heap.size) W0 W6 := k5.trans kx.pure
      have a0 := cells_at x6 (j := 0) rfl
      have a1 := cells_at x6 (j := 1) rfl
      have a2 := cells_at x6 (j := 2) rfl
      have hX6 : w5.heap.size < W6.heap.size := (Array.getElem?_eq_some_iff.1 x6).1
      have Z := Lib.hid (And.intro hx6 (And.intro t6 (And.intro k06 (And.intro x6 (show ∀ k, D k → W0.heap.size ≤ k ∧ k < W6.heap.size from fun k hk => by have := hD k hk; have := kx.size; omega)))))
      have HW6 := Lib.hid hW6'
      rw [← hW6'] at l6 b6 a0 a1 a2 cd hR6 hX6
      clear hx hD r5 k5 kx hW6 hW6' x6 r6 hx6 t6 k06 HW
      go_wp2_with fail
      (with_reducible refine cd.mono ?_)
      clear cd
      rintro e w7 ⟨m, rfl, hm1, hm2, k7⟩
      rw [HW6.out] at k7
      have hx7 := Z.out.1.kept k7 (fun _ _ h => h)
      have t7 := k7.heap Z.out.2.1 (fun h => h)
      have x7 := k7.heap Z.out.2.2.2.1 (fun h => h)
      have b7 := k7.cell (p := ⟨wo.heap.size, 2, none⟩) (fun h => h) (by rw [HW6.out] at b6; exact b6)
      have a0 := cells_at x7 (j := 0) rfl
      have a1 := cells_at x7 (j := 1) rfl
      have a2 := cells_at x7 (j := 2) rfl
      have f0 := free_at t7 0
      have f1 := free_at t7 1
      have f2 := free_at t7 2
      have z0 := cells_at t7 (j := 0) rfl
      have z1 := cells_at t7 (j := 1) rfl
      have z2 := cells_at t7 (j := 2) rfl
      have hX7 : w5.heap.size < w7.heap.size := (Array.getElem?_eq_some_iff.1 x7).1
      have hT7 : w.heap.size < w7.heap.size := (Array.getElem?_eq_some_iff.1 t7).1
      obtain ⟨s8, k8⟩ := store3 t7 (.int .u8 x.op) (.int .i64 x.n) (.slice p x.args.length c)
      have F : ExprQ w x (.returned (.tuple #[.agg (exC x p c).toArray, .int .i64 0, .int .i64 0])) (((w7.setCell ⟨w.heap.size, 0, none⟩ (.int .u8 x.op)).setCell ⟨w.heap.size, 1, none⟩ (.int .i64 x.n)).setCell ⟨w.heap.size, 2, none⟩ (.slice p x.args.length c)) := by
        have h0 := K0.out.1.size
        have h7 := k7.size
        have h8 := k8.size
        refine ⟨p, c, D, rfl, hx7.kept k8 (fun k hk hs => by have := Z.out.2.2.2.2 k hk; unfold one at hs; omega), fun k hk => by have := Z.out.2.2.2.2 k hk; omega, ((K0.out.1.new Z.out.2.2.1 (fun i hi hs => by unfold one at hs; omega)).trans k7).new k8 (fun i hi hs => by unfold one at hs; omega)⟩
      have hm16 : ¬ (16 < m) := by omega
      have FF := Lib.hid (And.intro F s8)
      clear F s8 k8 hx7 t7 x7 k7 l6 b6
      go_wp2_with fail
      obtain ⟨WF, hWF⟩ : ∃ WF, (((w7.setCell ⟨w.heap.size, 0, none⟩ (.int .u8 x.op)).setCell ⟨w.heap.size, 1, none⟩ (.int .i64 x.n)).setCell ⟨w.heap.size, 2, none⟩ (.slice p x.args.length c)) = WF := ⟨_, rfl⟩
      obtain ⟨F, s5⟩ := FF.out
      rw [hWF] at s5 F ⊢
      have q0 := cells_at s5 (j := 0) rfl
      have q1 := cells_at s5 (j := 1) rfl
      have q2 := cells_at s5 (j := 2) rfl
      refine bodyPost_ret (v := .tuple #[.agg (exC x p c).toArray, .int .i64 0, .int .i64 0]) (by simp [results, Tryz.results138, go_sem, q0, q1, q2]) rfl F
    · have hm : left'.length < gk := by rw [hp] at hk; simp at hk; omega
      have hnl' : n + 1 + left'.length = (runes s).length := by rw [hp] at hnl; simp at hnl; omega
      have hnw : IntKind.i64.wrap ((n : Int) + 1) = ((n + 1 : Nat) : Int) := wrapN (n := n + 1) (by omega)
      have G := Lib.hid (And.intro hit2 (And.intro hm (And.intro hnl' (hkp.trans hk2))))
      clear hit hk hnl hkp hit2 hm hnl' hp hk2 hs3
      go_wp2
      go_roundg left'.length
      case rel => exact ⟨left', n + 1, G.out.1, rfl, G.out.2.2.1, by go_num, G.out.2.2.2⟩
      case measure => exact G.out.2.1
end Go.Proofs.YtopeleenlcnkkaaGreatDoor
