/-
  ideal.States: what the nodes keep.
-/
import Derived.Test.YtopeleenlcnkkaaGreatDoorM43
import Derived.Test.YtopeleenlcnkkaaGreatDoorM41
import Derived.Test.YtopeleenlcnkkaaGreatDoorM37
import Derived.Test.YtopeleenlcnkkaaGreatDoorM31
import Derived.Test.YtopeleenlcnkkaaGreatDoorM15
import Derived.Test.YtopeleenlcnkkaaGreatDoorM35
set_option linter.unusedVariables false
set_option linter.unusedSimpArgs false
namespace Go.Proofs.YtopeleenlcnkkaaGreatDoor
open Go Go.RowKit
attribute [local irreducible] wpL
theorem Tryz.info33 : ∃ i z, Tryz.prog.info? 33 = some i ∧ i.zero = some z ∧ i.size = 2 ∧ i.bytes = 32 ∧ z.cells.size = 2 := by
  have h : (Tryz.prog.info? 33).map (fun i => (i.zero, i.size, i.bytes)) = some (some (.agg #[.string ByteArray.empty, .string ByteArray.empty]), 2, 32) := by kernel_rfl
  obtain ⟨i, hi, h⟩ := Option.map_eq_some_iff.1 h
  simp only [Prod.mk.injEq] at h
  exact ⟨i, _, hi, h.1, h.2.1, h.2.2, by rfl⟩
/-- What was told of the first nodes. -/
def stK (nodes : List JN) (Ts : Tabs) (k : Nat) : List St := statesP (nodes.take k) (Ts.take k)
theorem stK_all {nodes : List JN} {Ts : Tabs} (h : Ts.length = nodes.length) : stK nodes Ts nodes.length = statesP nodes Ts := by
  unfold stK
  rw [List.take_of_length_le (Nat.le_refl _), List.take_of_length_le (by omega)]
theorem stK_snoc {nodes : List JN} {Ts : Tabs} {k : Nat} {d : JN} {t : Option Tab} (hd : nodes[k]? = some d) (ht : Ts[k]? = some t) :
    stK nodes Ts (k + 1) = stK nodes Ts k ++ (stateOf (d, t)).toList := by
  have h1 : k < nodes.length := (List.getElem?_eq_some_iff.1 hd).1
  have h2 : k < Ts.length := (List.getElem?_eq_some_iff.1 ht).1
  unfold stK statesP
  rw [List.take_add_one, List.take_add_one, hd, ht, Option.toList_some, Option.toList_some, List.zip_append (by rw [List.length_take, List.length_take]; omega), List.filterMap_append]
  try rfl
theorem stK_le (nodes : List JN) (Ts : Tabs) (k : Nat) : (stK nodes Ts k).length ≤ k := by
  unfold stK statesP
  refine Nat.le_trans (List.length_filterMap_le _ _) ?_
  rw [List.length_zip, List.length_take, List.length_take]; omega
theorem stsC_snoc (l : List St) (s : St) : stsC (l ++ [s]) = stsC l ++ [.string s.1, .string s.2] := by
  unfold stsC; rw [List.flatMap_append]; rfl
theorem push_st {w : World} {base n : Nat} {va : Value} {l : List St} (h : w.ownsRow base 33 2 va n (stsC l)) (s : St) (hb : base ≤ w.heap.size) (hn : n ≤ 100000) :
    ∃ va' w', (Builtin.append_ #[25, 25] 25 #[va, .slice (some ⟨w.heap.size, 0, none⟩) 1 1]).run Tryz.prog (w.alloc (.cells #[.string s.1, .string s.2] 33)) = .ok va' w' ∧ w'.ownsRow base 33 2 va' (n + 1) (stsC (l ++ [s])) ∧
      Kept (fun q => va.ownBlock = some q) w w' ∧ ∃ a c, va' = .slice a (n + 1) c := by
  obtain ⟨i, z, hi, hz, hs, hby, hzs⟩ := Tryz.info33
  have kA : Kept none' w (w.alloc (.cells #[.string s.1, .string s.2] 33)) := (Kept.refl _ _).alloc _
  have hr := Reads.lit w [.string s.1, .string s.2] 33 2 1 rfl (by unfold maxLen; omega)
  have hl : (stsC l).length = n * 2 := h.1
  obtain ⟨v', n', w', b1, b2, b3, b4, _⟩ := run_append_reads (P := Tryz.prog) base 25 25 33 i z 2 32 Tryz.underlying25 hi hz hs hby hzs (by omega) (kA.owns h (fun _ _ h => h)) hr (by intro y hy; simp at hy; rcases hy with rfl | rfl <;> rfl)
    (by simp; omega) (by simp; unfold maxLen; omega) (by have := kA.size; omega)
  have hn' : n' = n + 1 := by simp at b3; omega
  subst hn'
  refine ⟨v', w', b1, by rw [stsC_snoc]; exact b2, kA.pure.trans (Kept.grown b4 (fun k hk _ => hk)), ?_⟩
  obtain ⟨a, c, e⟩ := owns_slice b2
  exact ⟨a, c, e⟩
theorem blk_ownS {v : Value} {q : Nat} (h : Value.blk v = some q) : v.ownBlock = some q := by
  unfold Value.blk at h
  split at h
  · split at h
    · cases h
    · exact h
  · cases h
/-- What States answers. -/
def StatesQ (w : World) (l : List St) (e : Ending) (w' : World) : Prop := ∃ v, e = .returned v ∧ Reads w' 2 v (stsC l) ∧ (∀ q, Value.blk v = some q → w.heap.size ≤ q) ∧ Kept none' w w'
set_option maxRecDepth 100000 in
set_option maxHeartbeats 1000000 in
theorem clip_any (v : Value) (l : List St) (w : World) (h : Reads w 2 v (stsC l)) : Calls Tryz.prog 45 #[v] w fun e w' => ∃ v', e = .returned v' ∧ Reads w' 2 v' (stsC l) ∧ (∀ q, Value.blk v' = some q → Value.blk v = some q) ∧ w' = w := by
  obtain ⟨a, cap, rfl, h1, h2, h3⟩ := h.stAt
  have HR := Lib.hid h
  clear h h3
  unfold maxLen at h2
  go_enter Tryz.func45, Tryz.ntmps45
  go_wp2_with fail
  go_ret
  refine ⟨.slice a l.length l.length, rfl, ?_, fun q hq => by cases a <;> exact hq, rfl⟩
  obtain ⟨a', n, cap', e, h1, h2, h3, h4⟩ := HR.out
  injection e with e1 e2 e3
  subst e1 e2 e3
  exact ⟨a, _, _, rfl, Nat.le_refl _, Nat.le_trans h1 h2, h3, h4⟩
set_option maxRecDepth 100000 in
set_option maxHeartbeats 4000000 in
theorem states_any (j : Jb) (b m : Nat) (Ts : Tabs) (pm : Nat → Nat × Nat) (w : World) (h : IdlAt w b m j Ts pm) (hlen : Ts.length = j.nodes.length) (hsm : j.nodes.length ≤ 1000) :
    Calls Tryz.prog 21 #[.pointer (some ⟨b, 0, none⟩)] w (StatesQ w (statesP j.nodes Ts)) := by
  obtain ⟨⟨nv, hob, hn⟩, hpar, htb⟩ := h
  obtain ⟨na, cap, rfl, h1, h2, h3⟩ := hn.at
  have x1 : w.cell? ⟨b, 1, none⟩ = some (.slice na j.nodes.length cap) := cells_at hob rfl
  have x2 : w.cell? ⟨b, 2, none⟩ = some (.map (some m)) := cells_at hob rfl
  have hbl : b < w.heap.size := (Array.getElem?_eq_some_iff.1 hob).1
  have H := Lib.hid (And.intro htb (And.intro h3 hlen))
  clear hob hn hpar htb h3 hlen
  unfold maxLen at h2
  go_enter Tryz.func21, Tryz.ntmps21
  go_wp2
  go_loopg [3, 16] j.nodes.length (fun g vo vi wr => ∃ k : Nat, k ≤ j.nodes.length ∧ vi = .int .i64 (k : Int) ∧ j.nodes.length - k ≤ g ∧ wr.ownsRow w.heap.size 33 2 vo (stK j.nodes Ts k).length (stsC (stK j.nodes Ts k)) ∧ Kept none' w wr)
  case atStart => exact ⟨0, by omega, rfl, by omega, World.ownsRow_nil _ _ _ _, Kept.refl _ _⟩
  case round =>
    obtain ⟨k, hkn, rfl, hg, hown, hkp⟩ := hrel
    obtain ⟨wo, rfl⟩ : ∃ wo : World, wo = wr := ⟨_, rfl⟩
    obtain ⟨va, vc, rfl⟩ := owns_slice hown
    have x1 := hkp.cell (p := ⟨b, 1, none⟩) (fun h => h) x1
    have x2 := hkp.cell (p := ⟨b, 2, none⟩) (fun h => h) x2
    have hle := stK_le j.nodes Ts k
    by_cases hlt : k < j.nodes.length
    · obtain ⟨d, hd⟩ : ∃ d, j.nodes[k]? = some d := ⟨_, List.getElem?_eq_getElem hlt⟩
      obtain ⟨t, ht⟩ : ∃ t, Ts[k]? = some t := ⟨_, List.getElem?_eq_getElem (by have := H.out.2.2; omega)⟩
      obtain ⟨nb, off, pi, ci, p, cap', rfl, hc, hjn⟩ := H.out.2.1 k d hd
      obtain ⟨c0, c1, c2, c3, c4, c5, c6⟩ := hc.kept hkp (fun h => h)
      have kA : Kept none' wo (wo.alloc (.cells (jnC d pi ci p cap') 97)) := (Kept.refl _ _).alloc _
      have hlk := (H.out.1.pure (hkp.trans kA)).lookup k (by have := H.out.2.2; omega)
      rw [List.getD_eq_getElem?_getD, ht, Option.getD_some] at hlk
      have x1a := kA.cell (p := ⟨b, 1, none⟩) (fun h => h) x1
      have x2a := kA.cell (p := ⟨b, 2, none⟩) (fun h => h) x2
      have nB : (wo.alloc (.cells (jnC d pi ci p cap') 97)).heap[wo.heap.size]? = some (.cells (jnC d pi ci p cap') 97 (0, 0)) := heap_alloc_new _ _
      have n0 : (wo.alloc (.cells (jnC d pi ci p cap') 97)).cell? ⟨wo.heap.size, 0, none⟩ = some (.string d.uid) := cells_at nB rfl
      have hsn := stK_snoc hd ht
      have G := Lib.hid (And.intro hg (And.intro hown (And.intro hkp (And.intro kA (And.intro n0 hsn)))))
      have hbw : b < wo.heap.size := Nat.lt_of_lt_of_le hbl hkp.size
      clear hg hown hkp kA n0 nB hsn hc hjn hd
      cases t with
      | none =>
        simp only [ptrOf, Option.map_none, Option.getD_none, Option.isSome_none] at hlk
        clear ht
        go_wp2_with fail
        go_roundg (j.nodes.length - (k + 1))
        case rel => exact ⟨k + 1, by omega, by go_num, Nat.le_refl _, by rw [G.out.2.2.2.2.2, show (stateOf (d, none)).toList = [] from rfl, List.append_nil]; exact G.out.2.2.2.1.owns G.out.2.1 (fun _ _ h => h), G.out.2.2.1.trans G.out.2.2.2.1⟩
        case measure => have := G.out.1; omega
      | some T =>
        simp only [ptrOf, Option.map_some, Option.getD_some, Option.isSome_some] at hlk
        have hT := (H.out.1.tab k T ht).1
        have HT := Lib.hid (hT.pure (G.out.2.2.1.trans G.out.2.2.2.1))
        clear ht hT
        go_wp2_with fail
        obtain ⟨WA, hWA⟩ : ∃ WA, (wo.alloc (.cells (jnC d pi ci p cap') 97)) = WA := ⟨_, rfl⟩
        rw [hWA] at G HT
        have hWA' : (wo.alloc (.cells #[.string d.uid, .int .u8 d.kind, .slice pi d.ins.length ci, .int .u8 d.x.op, .int .i64 d.x.n, .slice p d.x.args.length cap', .int .i64 d.n] 97)) = WA := hWA
        try rw [hWA']
        have n0 := G.out.2.2.2.2.1
        have hno : ¬ (Value.slice va (stK j.nodes Ts k).length vc).ownBlock = some wo.heap.size := fun h => by have := (G.out.2.1.lt _ h).2; omega
        clear hWA hWA' hlk x1a x2a c0 c1 c2 c3 c4 c5 c6 x1 x2
        refine wp_region_eager [0, 1, 2, 3, 4, 5, 6, 7, 8] (fun W => Kept (fun q => (Value.slice va (stK j.nodes Ts k).length vc).ownBlock = some q) WA W) (by kernel_rfl) (by kernel_rfl) rfl (Kept.refl _ _).drew ?_
        simp only [List.map_cons, List.map_nil, List.getElem?_toArray, List.getElem?_cons_zero, List.getElem?_cons_succ, Option.getD_some]
        iterate 4 (apply wpL_float rfl rfl; (intro W hW; have z0 := hW.cell (p := ⟨wo.heap.size, 0, none⟩) hno n0; go_simp; rfl); go_frame)
        apply wpL_loud rfl rfl
        intro K hK
        go_wp2_with fail
        (with_reducible refine (bytes_any AnyB _ _ T _ (HT.out.pure (Kept.refl none' WA).drew)).mono ?_)
        rintro e w5 ⟨rfl, k5⟩
        go_wp2_with fail
        refine hK _ _ (fun _ => ((Kept.refl none' WA).drew.trans k5).pure) ?_
        clear hK
        have hown5 := ((Kept.refl none' WA).drew.trans k5).owns (G.out.2.2.2.1.owns G.out.2.1 (fun _ _ h => h)) (fun _ _ h => h)
        have ks5 := G.out.2.2.1.trans (G.out.2.2.2.1.trans ((Kept.refl none' WA).drew.trans k5))
        obtain ⟨v6, w6, g1, g2, g3, a6, c6, rfl⟩ := push_st hown5 (d.uid, strOf (putL (tabL T))) ks5.size (by omega)
        apply wpL_float rfl rfl
        · intro W hW
          go_simp
          rfl
        go_frame
        apply wpL_loud rfl rfl
        intro K2 hK2
        go_wp2_with fail
        refine hK2 _ _ (fun _ => (((Kept.refl none' WA).drew.trans k5).alloc _).pure) ?_
        clear hK2
        have Z := Lib.hid (And.intro (show w6.ownsRow w.heap.size 33 2 (.slice a6 ((stK j.nodes Ts k).length + 1) c6) (stK j.nodes Ts (k + 1)).length (stsC (stK j.nodes Ts (k + 1))) by
          rw [G.out.2.2.2.2.2]
          simpa [stateOf] using g2) (ks5.new g3 (fun i hi hs => by have := (hown5.lt i hs).1; omega)))
        apply wpL_loud rfl rfl
        intro K3 hK3
        refine wp_app1 (.tmp 31) (.tmp 37) 25 rfl _ _ _ rfl rfl g1 ?_
        refine hK3 _ _ (fun _ => ((Kept.refl none' WA).drew.trans k5).pure.trans g3) ?_
        clear hK3
        apply wpL_float rfl rfl
        · intro W hW
          go_simp
          rfl
        go_frame
        refine wpL_nil (fun _ => ((Kept.refl none' WA).drew.trans k5).pure.trans g3) ?_
        clear g1 g2 g3 hown5 k5 ks5 n0
        go_wp2_with fail
        go_roundg (j.nodes.length - (k + 1))
        case rel => exact ⟨k + 1, by omega, by go_num, Nat.le_refl _, Z.out⟩
        case measure => have := G.out.1; omega
    · have e1 : k = j.nodes.length := by omega
      subst e1
      have cl := clip_any _ _ wo (Reads.of_owns hown)
      have G := Lib.hid (And.intro hown hkp)
      clear hown hkp hg hlt x1 x2
      go_wp2_with fail
      (with_reducible refine cl.mono ?_)
      clear cl
      rintro e w2 ⟨v', rfl, hr, hb2, rfl⟩
      have F := Lib.hid (show StatesQ w (statesP j.nodes Ts) (.returned v') w2 from ⟨v', rfl, by rw [← stK_all H.out.2.2]; exact hr, fun q hq => (G.out.1.lt q (blk_ownS (hb2 q hq))).1, G.out.2⟩)
      clear hr hb2
      go_wp2_with fail
      go_ret
      exact F.out
end Go.Proofs.YtopeleenlcnkkaaGreatDoor
/-
  slices.Equal at states.
-/
namespace Go.Proofs.YtopeleenlcnkkaaGreatDoor
open Go Go.RowKit
attribute [local irreducible] wpL
def eqSt (xs ys : List St) : Bool := decide (xs = ys)
theorem takeS_succ {xs ys : List St} {k : Nat} {x y : St} (h : xs.take k = ys.take k) (hx : xs[k]? = some x) (hy : ys[k]? = some y) (e : x = y) : xs.take (k + 1) = ys.take (k + 1) := by
  rw [List.take_add_one, List.take_add_one, h, hx, hy, e]
theorem eqSt_len {xs ys : List St} (h : xs.length ≠ ys.length) : eqSt xs ys = false := decide_eq_false (fun e => h (by rw [e]))
theorem eqSt_at {xs ys : List St} {k : Nat} {x y : St} (hx : xs[k]? = some x) (hy : ys[k]? = some y) (h : x ≠ y) : eqSt xs ys = false :=
  decide_eq_false (fun e => by rw [e, hy] at hx; cases hx; exact h rfl)
theorem eqSt_full {xs ys : List St} {k : Nat} (h : xs.take k = ys.take k) (hk : xs.length ≤ k) (hl : xs.length = ys.length) : eqSt xs ys = true :=
  decide_eq_true (by rw [List.take_of_length_le hk, List.take_of_length_le (by omega)] at h; exact h)
set_option maxRecDepth 100000 in
set_option maxHeartbeats 1000000 in
theorem equalSt (a b : Value) (xs ys : List St) (w : World) (ha : Reads w 2 a (stsC xs)) (hb : Reads w 2 b (stsC ys)) :
    Calls Tryz.prog 18 #[a, b] w (Gives w (.bool (eqSt xs ys))) := by
  obtain ⟨pa, ca, rfl, a1, a2, a3⟩ := ha.stAt
  obtain ⟨pb, cb, rfl, b1, b2, b3⟩ := hb.stAt
  unfold maxLen at a2 b2
  clear ha hb
  by_cases hl : xs.length = ys.length
  · have hne : (((xs.length : Nat) : Int) != ((ys.length : Nat) : Int)) = false := by rw [hl]; simp
    have A3 := Lib.hid a3
    have B3 := Lib.hid b3
    have HL := Lib.hid hl
    clear a3 b3 hl
    go_enter Tryz.func18, Tryz.ntmps18
    go_wp2
    go_loopw [13] (fun i wr => ∃ k : Nat, k ≤ xs.length ∧ i = .int .i64 k ∧ xs.take k = ys.take k ∧ Kept none' w wr) (fun i _ => xs.length - (intOf i).toNat)
    case atStart => exact ⟨0, by omega, rfl, by simp, Kept.refl _ _⟩
    case round =>
      obtain ⟨k, hk, rfl, ht, hkp⟩ := hrel
      have HT := Lib.hid ht
      clear ht
      by_cases hlt : k < xs.length
      · obtain ⟨x, hx⟩ : ∃ x, xs[k]? = some x := ⟨_, List.getElem?_eq_getElem hlt⟩
        obtain ⟨y, hy⟩ : ∃ y, ys[k]? = some y := ⟨_, List.getElem?_eq_getElem (by rw [← HL.out]; exact hlt)⟩
        obtain ⟨b0, off, rfl, hc⟩ := A3.out.resolve_left (fun h => by rw [h] at hlt; simp at hlt)
        obtain ⟨b1, off1, rfl, hd⟩ := B3.out.resolve_left (fun h => by rw [h] at hy; simp at hy)
        have x0 := hkp.cell (p := ⟨b0, off + k * 2, none⟩) (fun h => h) (hc k x hx).1
        have x1 := hkp.cell (p := ⟨b0, off + k * 2 + 1, none⟩) (fun h => h) (hc k x hx).2
        have y0 := hkp.cell (p := ⟨b1, off1 + k * 2, none⟩) (fun h => h) (hd k y hy).1
        have y1 := hkp.cell (p := ⟨b1, off1 + k * 2 + 1, none⟩) (fun h => h) (hd k y hy).2
        have HX := Lib.hid (And.intro hx hy)
        have hlt2 : k < ys.length := by rw [← HL.out]; exact hlt
        clear hc hd hx hy A3 B3
        go_wp2_with fail
        refine wp_region_eager [0, 1, 2, 3, 4, 5, 6, 7, 8] (fun W => Kept none' wr W) (by kernel_rfl) (by kernel_rfl) rfl (Kept.refl _ _).drew ?_
        simp only [List.map_cons, List.map_nil, List.getElem?_toArray, List.getElem?_cons_zero, List.getElem?_cons_succ, Option.getD_some]
        iterate 8 (apply wpL_float rfl rfl; (intro W hW; have c0 := hW.cell (p := ⟨b0, off + k * 2, none⟩) (fun h => h) x0; have c1 := hW.cell (p := ⟨b0, off + k * 2 + 1, none⟩) (fun h => h) x1; have d0 := hW.cell (p := ⟨b1, off1 + k * 2, none⟩) (fun h => h) y0; have d1 := hW.cell (p := ⟨b1, off1 + k * 2 + 1, none⟩) (fun h => h) y1; go_simp; rfl); go_frame)
        refine wpL_float (v := .bool (decide (x ≠ y))) rfl rfl ?_ ?_
        · intro W hW
          go_simp
          by_cases hxy : x = y
          · subst hxy; simp
          · have : ¬ (x.1 = y.1 ∧ x.2 = y.2) := fun h => hxy (Prod.ext h.1 h.2)
            simp [hxy]
            intro h1 h2
            have g1 : x.1 = y.1 := by have := str_eq x.1 y.1; rw [h1] at this; simpa using this
            have g2 : x.2 = y.2 := by have := str_eq x.2 y.2; rw [h2] at this; simpa using this
            exact this ⟨g1, g2⟩
        go_frame
        refine wpL_nil (fun _ => (Kept.refl _ _).drew) ?_
        clear x0 x1 y0 y1
        by_cases hxy : x = y
        · have hf : decide (x ≠ y) = false := by simp [hxy]
          rw [hf]
          have HXY := Lib.hid hxy
          clear hxy hf
          go_wp2_with fail
          go_roundw
          case rel => exact ⟨k + 1, by omega, by go_num, takeS_succ HT.out HX.out.1 HX.out.2 HXY.out, hkp.drew⟩
          case measure => simp [intOf]; omega
        · have hf : decide (x ≠ y) = true := by simp [hxy]
          rw [hf]
          have HXY := Lib.hid hxy
          clear hxy hf
          go_wp2_with fail
          go_ret
          exact ⟨ret_bool (eqSt_at HX.out.1 HX.out.2 HXY.out).symm, hkp.drew⟩
      · go_wp2_with fail
        go_ret
        exact ⟨ret_bool (eqSt_full HT.out (by omega) HL.out).symm, hkp⟩
  · have hne : (((xs.length : Nat) : Int) != ((ys.length : Nat) : Int)) = true := by simp; omega
    have HL := Lib.hid hl
    clear a3 b3 hl
    go_enter Tryz.func18, Tryz.ntmps18
    go_wp2
    go_ret
    exact ⟨ret_bool (eqSt_len HL.out).symm, Kept.refl _ _⟩
end Go.Proofs.YtopeleenlcnkkaaGreatDoor
/-
  WHAT COMES OUT OF MANY RECORDS, IN PLAIN WORDS: by parts; held side by side.
-/
namespace Go.Proofs.YtopeleenlcnkkaaGreatDoor
open Go Go.RowKit
abbrev Outp := Int × Int
def RdNZ {α : Type} (x : Rd α) : Prop := ∀ f, x = .err f → f ≠ 0
theorem RdNZ.bind {α β : Type} {x : Rd α} {g : α → List UInt8 → Rd β} (h : RdNZ x) (k : ∀ a r, RdNZ (g a r)) : RdNZ (x.bind g) := by
  intro f e
  cases x with
  | err d => exact h f (by simp only [Rd.bind] at e; injection e with e; rw [e])
  | ok a r => exact k a r f e
theorem RdNZ.ok {α : Type} (a : α) (r : List UInt8) : RdNZ (Rd.ok a r) := fun _ e => by cases e
theorem num_nz (lo hi : Int) (l : List UInt8) : RdNZ (num lo hi l) := fun _ e => num_err e
theorem nums_nz : ∀ (k : Nat) (l : List UInt8), RdNZ (nums k l)
  | 0, _ => .ok _ _
  | k + 1, l => (num_nz _ _ l).bind fun _ r => (nums_nz k r).bind fun _ _ => .ok _ _
theorem row_nz (l : List UInt8) : RdNZ (row l) := (num_nz _ _ l).bind fun _ r => (num_nz _ _ r).bind fun _ r => (num_nz _ _ r).bind fun _ r => (nums_nz _ r).bind fun _ _ => .ok _ _
theorem rowsR_nz : ∀ (k : Nat) (T : Tab) (l : List UInt8), RdNZ (rowsR k T l)
  | 0, _, _ => .ok _ _
  | k + 1, _, l => (row_nz l).bind fun p r => by
    split
    · exact rowsR_nz k _ r
    · intro f e; injection e with e; omega
theorem takeR_nz (l : List UInt8) : RdNZ (takeR l) := (num_nz _ _ l).bind fun _ r => (rowsR_nz _ _ r).bind fun _ _ => by
  split
  · exact .ok _ _
  · intro f e; injection e with e; omega
theorem loadL_err {nodes : List JN} {f : Int} : ∀ {l : List St} {Ts : Tabs}, loadL nodes l Ts = .error f → f ≠ 0
  | [], Ts, h => by cases h
  | s :: l, Ts, h => by
    unfold loadL at h
    split at h
    · injection h with h; omega
    · split at h
      · rename_i g hg
        injection h with h
        subst h
        exact takeR_nz _ _ hg
      · split at h
        · exact loadL_err h
        · injection h with h; omega
theorem loadP_ne {j : Jb} {l : List St} {e : Int} (h : loadP j l = .error e) : e ≠ 0 := by
  unfold loadP at h
  split at h
  · cases e' : loadL j.nodes l (noTabs j.nodes) with
    | ok Ts => rw [e'] at h; cases h
    | error f => rw [e'] at h; injection h with h; subst h; exact loadL_err e'
  · injection h with h; omega
end Go.Proofs.YtopeleenlcnkkaaGreatDoor
/-
  IDEALS SIDE BY SIDE: what one does, another one does not feel. Their blocks lie in ranges.
-/
namespace Go.Proofs.YtopeleenlcnkkaaGreatDoor
open Go Go.RowKit
theorem TabsAt.keptS {S : Nat → Prop} {w w' : World} {m : Nat} {Ts : Tabs} {pm : Nat → Nat × Nat} (h : TabsAt w m Ts pm) (hk : Kept S w w') (hS : ∀ k, S k → ∀ c E f, w.heap[k]? ≠ some (.cells c E f)) (hm : ¬ S m)
    (hd : ∀ (i : Nat) (T : Tab), Ts[i]? = some (some T) → ¬ S (pm i).2) : TabsAt w' m Ts pm := by
  obtain ⟨⟨l, h1, h2, h3⟩, h4, h5⟩ := h
  exact ⟨⟨l, h1.kept hk hm, h2, h3⟩, fun i T hT => ⟨(h4 i T hT).1.kept hk (fun q hq _ _ => hS q hq) (hd i T hT), (h4 i T hT).2⟩, h5⟩
theorem IdlAt.keptS {S : Nat → Prop} {w w' : World} {b m : Nat} {j : Jb} {Ts : Tabs} {pm : Nat → Nat × Nat} (h : IdlAt w b m j Ts pm) (hk : Kept S w w') (hS : ∀ k, S k → ∀ c E f, w.heap[k]? ≠ some (.cells c E f)) (hm : ¬ S m)
    (hd : ∀ (i : Nat) (T : Tab), Ts[i]? = some (some T) → ¬ S (pm i).2) : IdlAt w' b m j Ts pm := by
  obtain ⟨⟨v, h1, h2⟩, h3, h4⟩ := h
  exact ⟨⟨v, hk.heap h1 (fun hs => hS b hs _ _ _ h1), h2.kept hk hS⟩, h3, h4.keptS hk hS hm hd⟩
/-- The maps of an ideal lie in [n, k). -/
structure InRange (n k m : Nat) (Ts : Tabs) (pm : Nat → Nat × Nat) : Prop where
  m1 : n ≤ m
  m2 : m < k
  t1 : NewT n Ts pm
  t2 : ∀ (q : Nat) (T : Tab), Ts[q]? = some (some T) → (pm q).2 < k
theorem InRange.of {w : World} {n b m : Nat} {j : Jb} {Ts : Tabs} {pm : Nat → Nat × Nat} (h : IdlAt w b m j Ts pm) (h1 : n ≤ m) (h2 : NewT n Ts pm) : InRange n w.heap.size m Ts pm :=
  ⟨h1, h.tabs.lt, h2, fun q T hT => (h.tabs.tab q T hT).1.lt.1⟩
theorem InRange.wide {n k n' k' m : Nat} {Ts : Tabs} {pm : Nat → Nat × Nat} (h : InRange n k m Ts pm) (h1 : n' ≤ n) (h2 : k ≤ k') : InRange n' k' m Ts pm :=
  ⟨Nat.le_trans h1 h.m1, Nat.lt_of_lt_of_le h.m2 h2, fun q T hT => Nat.le_trans h1 (h.t1 q T hT), fun q T hT => Nat.lt_of_lt_of_le (h.t2 q T hT) h2⟩
theorem InRange.maps {n k m : Nat} {Ts : Tabs} {pm : Nat → Nat × Nat} (h : InRange n k m Ts pm) {q : Nat} (hq : mapsOf Ts pm q) : n ≤ q ∧ q < k := by
  obtain ⟨i, T, hT, rfl⟩ := hq
  exact ⟨h.t1 i T hT, h.t2 i T hT⟩
theorem InRange.kept {w0 w w' : World} {n k m : Nat} {Ts : Tabs} {pm : Nat → Nat × Nat} (h : InRange n k m Ts pm) (hn : w0.heap.size ≤ n) (h0 : Kept none' w0 w) (hk : Kept (mapsOf Ts pm) w w') : Kept none' w0 w' :=
  h0.maps (fun q T hT => Nat.le_trans hn (h.t1 q T hT)) hk
theorem LoadQ.keptN {w w' : World} {j : Jb} {l : List St} {e : Ending} (h : LoadQ w j l e w') : Kept none' w w' := by
  unfold LoadQ at h
  split at h
  · obtain ⟨_, _, _, _, _, _, _, h⟩ := h; exact h
  · exact h.2.2
theorem JbAt.withPar {w : World} {v : Value} {par par' : Int} {j : Jb} (h : JbAt w #[.int .i64 par, v] j) (hp : R64 par') : JbAt w #[.int .i64 par', v] { j with par := par' } := by
  obtain ⟨v', e, hn, _⟩ := h
  injection e with e
  injection e with _ e
  injection e with e
  subst e
  exact ⟨_, rfl, hn, hp⟩
theorem jobOk_small {j : Jb} (h : jobOk j = true) : 2 ≤ j.nodes.length ∧ j.nodes.length ≤ 12 := by
  have := (jobOk_get h).1
  unfold headBad at this
  simp only [Bool.or_eq_false_iff, decide_eq_false_iff_not] at this
  omega
theorem eqSt_self (O : List St) : eqSt O O = true := decide_eq_true rfl
end Go.Proofs.YtopeleenlcnkkaaGreatDoor
