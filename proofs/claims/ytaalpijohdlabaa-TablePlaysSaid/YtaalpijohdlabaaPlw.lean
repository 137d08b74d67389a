/-
  TablePlays: the calls, in plain words.
-/
import Derived.Test.YtaalpijohdlabaaRby
import Derived.Test.YtaalpijohdlabaaPla
import Derived.Test.YtaalpijohdlabaaTab9
namespace Go.Proofs.Ytaalpijohdlabaa
open Go Go.RowKit
theorem joinE_parts {T : Tab} (hT : TOk T) (f g : Int × Cell → Bool) (hd : ∀ p ∈ T, f p = true → g p = false) : joinE (T.filter f) (T.filter g) = 0 := by
  refine joinE_mk (fun x hx => ?_) (fun gg => ?_)
  · rw [tget_none]
    intro hm
    unfold tkeys at *
    obtain ⟨p, hp, e⟩ := List.mem_map.1 hm
    obtain ⟨q, hq, e'⟩ := List.mem_map.1 hx
    obtain ⟨hp1, hp2⟩ := List.mem_filter.1 hp
    obtain ⟨hq1, hq2⟩ := List.mem_filter.1 hq
    have e1 := (tget_some hT.rises (k := p.1) (c := p.2)).2 hp1
    have e2 := (tget_some hT.rises (k := q.1) (c := q.2)).2 hq1
    rw [e] at e1; rw [e', e1] at e2
    injection e2 with e2
    have : p = q := Prod.ext (by rw [e, e']) e2
    rw [this] at hp2
    rw [hd q hq1 hp2] at hq2; cases hq2
  · refine Nat.le_trans ?_ (hT.many gg)
    unfold tmany
    clear hT
    induction T with
    | nil => simp
    | cons p T ih =>
      have ih' := ih (fun q hq => hd q (by simp [hq]))
      have hp := hd p (by simp)
      rw [List.filter_cons, List.filter_cons, List.countP_cons]
      by_cases h1 : f p = true
      · rw [if_pos h1, if_neg (by rw [hp h1]; decide), List.countP_cons]; omega
      · rw [if_neg h1]
        by_cases h2 : g p = true
        · rw [if_pos h2, List.countP_cons]; omega
        · rw [if_neg h2]; omega
/-- The groups but one. -/
def restL (g : Int) (j : Nat) : List Int := ((List.range j).map fun (i : Nat) => (i : Int)).filter fun i => decide (i ≠ g)
theorem restL_succ (g : Int) (j : Nat) : restL g (j + 1) = restL g j ++ if (j : Int) ≠ g then [(j : Int)] else [] := by
  unfold restL
  rw [List.range_succ, List.map_append, List.filter_append]
  by_cases h : (j : Int) ≠ g
  · rw [if_pos h]; simp [h]
  · rw [if_neg h]; simp at h; simp [h]
theorem restL_len (g : Int) (j : Nat) : (restL g j).length ≤ j := by
  unfold restL
  exact Nat.le_trans (List.length_filter_le _ _) (by simp)
theorem mem_restL {g x : Int} (h0 : 0 ≤ x) (h8 : x < 8) : x ∈ restL g 8 ↔ x ≠ g := by
  unfold restL
  rw [List.mem_filter, List.mem_map]
  constructor
  · rintro ⟨_, h⟩; exact of_decide_eq_true h
  · intro h; exact ⟨⟨x.toNat, List.mem_range.2 (by omega), by omega⟩, decide_eq_true h⟩
theorem rest_join {T : Tab} (hT : TOk T) (g : Int) : joinE (tabOf T (restL g 8)) (tabOf T [g]) = 0 ∧ joinT (tabOf T (restL g 8)) (tabOf T [g]) = T := by
  have hE : joinE (tabOf T (restL g 8)) (tabOf T [g]) = 0 := by
    refine joinE_parts hT _ _ (fun p _ h => ?_)
    have h1 := (mem_restL (grp_lo p.1) (grp_hi p.1)).1 (of_decide_eq_true h)
    exact decide_eq_false (by simpa using h1)
  refine ⟨hE, ?_⟩
  unfold joinT
  rw [if_pos hE]
  have e : jn (tabOf T (restL g 8)) (tabOf T [g]) = T.filter fun _ => true := by
    refine jn_filter hT.rises _ _ _ fun p _ => ?_
    by_cases h : grp p.1 = g
    · rw [show decide (grp p.1 ∈ [g]) = true from decide_eq_true (by simp [h]), Bool.or_true]
    · rw [show decide (grp p.1 ∈ restL g 8) = true from decide_eq_true ((mem_restL (grp_lo p.1) (grp_hi p.1)).2 h), Bool.true_or]
  rw [e, List.filter_eq_self]
  intro _ _; rfl
/-- Between two calls. -/
theorem MadeInv.hm {w wr : World} {b m d : Nat} {T : Tab} (h : MadeInv w wr b m d T) : w.heap.size ≤ m ∧ m ≠ d ∧ m < wr.heap.size ∧ d < wr.heap.size := ⟨h.tab.hm.1, h.tab.hm.2, h.tab.lt.1, h.doc.lt⟩
theorem MadeInv.map {w wr : World} {b m d : Nat} {T : Tab} (h : MadeInv w wr b m d T) : ∃ l, MapL wr m l := by obtain ⟨l, hl, _⟩ := h.tab.map; exact ⟨l, hl⟩
/-- The table's map turns, the document's table not yet. -/
theorem MadeInv.turn {w wr w4 w5 : World} {b m d : Nat} {T T' : Tab} (h : MadeInv w wr b m d T) (k4 : Kept (one m) wr w4) (t4 : TabAt w4 (fun k => w.heap.size ≤ k ∧ k ≠ d) b m T') (t5 : RTabAt w5 d T') (k5 : Kept (one d) w4 w5) : MadeInv w w5 b m d T' := by
  have h1 := h.hm
  exact ⟨t4.kept k5 (fun k hk hB => absurd hk hB.2) (fun e => h1.2.1 e), t5, (h.kept.new k4 (fun i hi e => by unfold one at e; omega)).new k5 (fun i hi e => by have := h.hd; unfold one at e; omega), h.hd⟩
end Go.Proofs.Ytaalpijohdlabaa
/-
  TablePlays: its walk.
-/
namespace Go.Proofs.Ytaalpijohdlabaa
open Go Go.RowKit
attribute [local irreducible] wpL
set_option maxRecDepth 100000 in
set_option maxHeartbeats 8000000 in
theorem plays_walk (v : Value) (ops : List Op) (w : World) (h : OpsAt w v ops) : Calls Try.prog 10 #[v] w (Gives w (.bool true)) := by
  have hH := heavy_any v ops w h
  obtain ⟨oa, oc, rfl, h1, h2, hok, h3⟩ := h
  unfold maxLen at h2
  have H3 := Lib.hid h3
  have HOK := Lib.hid hok
  clear hok h3
  cases hv : heavyB ops with
  | true =>
    rw [hv] at hH
    have HV := Lib.hid hv
    clear hv
    go_enter Try.func10, Try.ntmps10
    go_wp2_with fail
    (with_reducible refine hH.mono ?_)
    rintro e w1 ⟨rfl, k1⟩
    go_wp2_with fail
    (with_reducible refine (works16 w1).mono ?_)
    rintro e w2 ⟨rfl, k2⟩
    go_wp2_with fail
    go_ret
    exact ⟨rfl, k1.trans k2⟩
  | false =>
    rw [hv] at hH
    have HLL := Lib.hid (show ∀ o ∈ ops, o.l.length ≤ 17592186044416 from fun o ho => by have := (heavyB_false hv).2 o ho; omega)
    clear hv
    go_enter Try.func10, Try.ntmps10
    go_wp2_with fail
    (with_reducible refine hH.mono ?_)
    rintro e w1 ⟨rfl, k1⟩
    clear hH
    go_wp2_with fail
    refine (new_any _).mono ?_
    rintro e w2 ⟨b, m, rfl, ht2, k2⟩
    go_wp2_with fail
    have I0 : MadeInv w (w2.alloc (.cells #[.slice none 0 0] 74)) b m w2.heap.size [] := by
      refine ⟨(ht2.mono (fun k hk hlt => ⟨by have := k1.size; unfold up at hk; omega, by omega⟩)).pure ((Kept.refl _ _).alloc _), ⟨⟨.slice none 0 0, heap_alloc_new _ _, [], Reads.nil _ _, rfl, fun i p hp => by cases hp⟩, ht2.ok⟩, (k1.trans k2).alloc _, (k1.trans k2).size⟩
    obtain ⟨d, hd⟩ : ∃ d, w2.heap.size = d := ⟨_, rfl⟩
    obtain ⟨W2, hW2⟩ : ∃ W2, w2.alloc (.cells #[.slice none 0 0] 74) = W2 := ⟨_, rfl⟩
    rw [hd] at I0 ⊢
    rw [hW2] at I0 ⊢
    have II := Lib.hid I0
    clear hd hW2 ht2 k1 k2 I0
    go_loopg [3, 28] ops.length (fun g vt vi wr => ∃ (k b m : Nat) (T : Tab), k ≤ ops.length ∧ vi = .int .i64 (k : Int) ∧ vt = .pointer (some ⟨b, 0, none⟩) ∧ MadeInv w wr b m d T ∧ ops.length - k ≤ g)
    case atStart => exact ⟨0, b, m, [], by omega, rfl, rfl, II.out, by omega⟩
    case round =>
      obtain ⟨k, b, m, T, hk, rfl, rfl, hi, hg⟩ := hrel
      have HI := Lib.hid (And.intro hi hg)
      clear hi hg
      by_cases hlt : k < ops.length
      · obtain ⟨o, ho⟩ : ∃ o, ops[k]? = some o := ⟨_, List.getElem?_eq_getElem hlt⟩
        obtain ⟨bb, off, rfl, hc⟩ := H3.out.resolve_left (fun h => by rw [h] at hlt; simp at hlt)
        obtain ⟨q0, q1, q2, L, q3, hL⟩ := (hc k o ho).pure HI.out.1.kept
        obtain ⟨La, Lc, rfl, _, _, _⟩ := hL.at
        have HOO := Lib.hid (HOK.out o (List.mem_of_getElem? ho))
        have HOL := Lib.hid (HLL.out o (List.mem_of_getElem? ho))
        obtain ⟨W3, hW3⟩ : ∃ W3, wr.alloc (.cells #[.int .i64 o.kind, .int .i64 o.key, .int .i64 o.acc, .slice La o.l.length Lc] 37) = W3 := ⟨_, rfl⟩
        have kA : Kept none' wr W3 := by rw [← hW3]; exact (Kept.refl _ _).alloc _
        have J := Lib.hid (HI.out.1.pure kA)
        have e1 : W3.cell? ⟨wr.heap.size, 1, none⟩ = some (.int .i64 o.key) := by rw [← hW3]; simp
        have e2 : W3.cell? ⟨wr.heap.size, 2, none⟩ = some (.int .i64 o.acc) := by rw [← hW3]; simp
        have e3 : W3.cell? ⟨wr.heap.size, 3, none⟩ = some (.slice La o.l.length Lc) := by rw [← hW3]; simp
        have hjl := HI.out.1.hm
        have hml := hjl.2.2.1
        have hdl := hjl.2.2.2
        have hW3s : wr.heap.size < W3.heap.size := by rw [← hW3]; simp
        have HL3 := Lib.hid (hL.pure kA)
        have HW3 := Lib.hid hW3
        clear hc ho hL kA hW3 hjl
        by_cases g0 : o.kind = 0
        · have e0 : (o.kind == 0) = true := by simp [g0]
          clear g0
          go_wp2_with fail
          try rw [HW3.out]
          have nb : ∀ g, (g = wr.heap.size) → ¬ (g = m ∨ g = d) := fun g e h => by rcases h with h | h <;> omega
          have nbB : ¬ (wr.heap.size = m ∨ wr.heap.size = d) := nb _ rfl
          have NB := Lib.hid nbB
          clear nb nbB
          have KD := Lib.hid (show Kept none' W3 W3.drew from (Kept.refl _ _).drew)
          refine wp_region_eager [0, 1, 2, 3, 4, 6, 7, 8, 9, 10, 5, 11, 12, 13] (fun W => Kept (fun g => g = m ∨ g = d) W3 W) (by kernel_rfl) (by kernel_rfl) rfl KD.out.pure ?_
          simp only [List.map_cons, List.map_nil, List.getElem?_toArray, List.getElem?_cons_zero, List.getElem?_cons_succ, Option.getD_some]
          iterate 10 (apply wpL_float rfl rfl; (intro W hW; have z1 := hW.cell (p := ⟨wr.heap.size, 1, none⟩) NB.out e1; have z2 := hW.cell (p := ⟨wr.heap.size, 2, none⟩) NB.out e2; have z3 := hW.cell (p := ⟨wr.heap.size, 3, none⟩) NB.out e3; go_simp; rfl); go_frame)
          apply wpL_loud rfl rfl
          intro K hK
          go_wp2_with fail
          have c := put_any (fun g => w.heap.size ≤ g ∧ g ≠ d) b m T o.key (o.acc, o.l) (.slice La o.l.length Lc) W3.drew (J.out.tab.pure KD.out) (fun g hg => ⟨by have := J.out.kept.size; have := KD.out.size; omega, by have := J.out.hm.2.2.2; have := KD.out.size; omega⟩) HOO.out.key HOO.out.acc HOO.out.l HOL.out (HL3.out.pure KD.out)
          (with_reducible refine c.mono ?_)
          clear c
          rintro e w4 ⟨rfl, t4, k4'⟩
          have k4 : Kept (one m) W3 w4 := KD.out.pure.trans k4'
          have NC : NoCells W3 (one m) (fun _ => True) := by obtain ⟨l, hl⟩ := J.out.map; exact .map hl _
          have H4 := Lib.hid (And.intro t4 (And.intro k4 (And.intro (J.out.doc.keptN k4 NC) (HL3.out.keptN k4 (by omega) NC))))
          clear t4 k4 k4' NC
          go_wp2_with fail
          refine hK _ _ (fun _ => H4.out.2.1.mono (fun g _ h => .inl h)) ?_
          clear hK
          apply wpL_loud rfl rfl
          intro K hK
          go_wp2_with fail
          have c := rput_any d T o.key (o.acc, o.l) (.slice La o.l.length Lc) w4 H4.out.2.2.1 HOO.out.key HOO.out.acc HOO.out.l HOL.out H4.out.2.2.2
          (with_reducible refine c.mono ?_)
          clear c
          rintro e w5 ⟨rfl, t5, k5⟩
          have K5 := Lib.hid (show Kept (fun g => g = m ∨ g = d) W3 w5 from (H4.out.2.1.mono (fun g _ h => .inl h)).trans (k5.mono (fun g _ h => .inr h)))
          have MID := Lib.hid (J.out.turn H4.out.2.1 H4.out.1 t5 k5)
          clear t5 k5
          go_wp2_with fail
          refine hK _ _ (fun _ => K5.out) ?_
          clear hK
          obtain ⟨xe, hxe⟩ : ∃ xe, putE T o.key (o.acc, o.l).2.length = xe := ⟨_, rfl⟩
          rw [hxe]
          clear hxe
          have hxx : (xe == xe) = true := by simp
          iterate 2 (apply wpL_float rfl rfl; (intro W hW; go_simp; rfl); go_frame)
          refine wpL_nil (fun _ => K5.out) ?_
          have e1 := K5.out.cell (p := ⟨wr.heap.size, 1, none⟩) NB.out e1
          go_wp2_with fail
          (with_reducible refine (get_any _ b m (putT T o.key (o.acc, o.l)) o.key w5 MID.out.tab).mono ?_)
          rintro e y1 ⟨lv, nl, rfl, o1, hnl, l1⟩
          obtain ⟨la1, lc1, rfl⟩ := owns_slice o1
          have r1 := Reads.of_owns o1
          obtain ⟨xc, hxc⟩ : ∃ xc, (tget (putT T o.key (o.acc, o.l)) o.key).getD (0, []) = xc := ⟨_, rfl⟩
          rw [hxc] at r1 ⊢
          obtain ⟨bs, hbs⟩ : ∃ bs, (tget (putT T o.key (o.acc, o.l)) o.key).isSome = bs := ⟨_, rfl⟩
          rw [hbs]
          have Y1 := Lib.hid (And.intro r1 (And.intro hxc hbs))
          have N1 := Lib.hid l1
          clear o1 hnl r1 l1 hxc hbs
          have e1 := N1.out.cell (fun h => h) e1
          have hB1 := block_lt_of_cell e1
          simp only [] at hB1
          go_wp2_with fail
          obtain ⟨y2, hy2⟩ : ∃ y2, y1.alloc (.cells #[.int .i64 xc.1, .slice la1 nl lc1] 29) = y2 := ⟨_, rfl⟩
          have N12 := Lib.hid (show Kept none' y1 y2 from by rw [← hy2]; exact (Kept.refl _ _).alloc _)
          have g0 : y2.cell? ⟨y1.heap.size, 0, none⟩ = some (.int .i64 xc.1) := by rw [← hy2]; simp
          have g1 : y2.cell? ⟨y1.heap.size, 1, none⟩ = some (.slice la1 nl lc1) := by rw [← hy2]; simp
          rw [hy2]
          clear hy2
          have e1 := N12.out.cell (fun h => h) e1
          (with_reducible refine (rget_any d (putT T o.key (o.acc, o.l)) o.key y2 (MID.out.doc.pure (N1.out.trans N12.out)) HOO.out.key).mono ?_)
          rintro e y3 ⟨lw, rfl, r3, l3⟩
          have hcd : cellD (putT T o.key (o.acc, o.l)) o.key = xc := Y1.out.2.1
          rw [hcd] at r3 ⊢
          rw [Y1.out.2.2]
          obtain ⟨la3, ln3, lc3, rfl, _⟩ := r3.slice
          have N23 := Lib.hid l3
          have R3 := Lib.hid r3
          have g0 := N23.out.cell (fun h => h) g0
          have g1 := N23.out.cell (fun h => h) g1
          have hB3 := block_lt_of_cell g0
          simp only [] at hB3
          clear r3 l3 hcd
          go_wp2_with fail
          obtain ⟨y4, hy4⟩ : ∃ y4, y3.alloc (.cells #[.int .i64 xc.1, .slice la3 ln3 lc3] 29) = y4 := ⟨_, rfl⟩
          have N34 := Lib.hid (show Kept none' y3 y4 from by rw [← hy4]; exact (Kept.refl _ _).alloc _)
          try rw [hy4]
          clear hy4
          have c := rsame_any xc.1 (.slice la1 nl lc1) (.slice la3 ln3 lc3) xc.2 y4 (Y1.out.1.pure (N12.out.trans (N23.out.trans N34.out))) (R3.out.pure N34.out)
          (with_reducible refine c.mono ?_)
          clear c
          rintro e y5 ⟨rfl, l5⟩
          have N5 := Lib.hid (N1.out.trans (N12.out.trans (N23.out.trans (N34.out.trans l5))))
          clear l5
          go_wp2_with fail
          (with_reducible refine (keys_any _ b m (putT T o.key (o.acc, o.l)) y5 (MID.out.tab.pure N5.out)).mono ?_)
          rintro e y6 ⟨v6, rfl, o6, _, l6⟩
          obtain ⟨a6, c6, rfl⟩ := owns_slice o6
          have N6 := Lib.hid (And.intro (Reads.of_owns o6) (N5.out.trans l6))
          clear l6 o6
          go_wp2_with fail
          (with_reducible refine (rkeys_any d (putT T o.key (o.acc, o.l)) y6 (MID.out.doc.pure N6.out.2)).mono ?_)
          rintro e y7 ⟨v7, n7, rfl, o7, l7⟩
          obtain ⟨a7, c7, rfl⟩ := owns_slice o7
          have N7 := Lib.hid (And.intro (Reads.of_owns o7) (And.intro (N6.out.1.pure l7) (N6.out.2.trans l7)))
          clear l7 o7
          go_wp2_with fail
          (with_reducible refine (equal64 _ _ (tkeys (putT T o.key (o.acc, o.l))) (tkeys (putT T o.key (o.acc, o.l))) y7 N7.out.2.1 N7.out.1).mono ?_)
          rintro e y8 ⟨rfl, l8⟩
          rw [show eqL (tkeys (putT T o.key (o.acc, o.l))) (tkeys (putT T o.key (o.acc, o.l))) = true from decide_eq_true rfl]
          have FIN := Lib.hid (MID.out.pure (N7.out.2.2.trans l8))
          clear l8
          go_wp2_with fail
          go_roundg (ops.length - (k + 1))
          case rel => exact ⟨k + 1, b, m, (putT T o.key (o.acc, o.l)), by omega, by go_num, rfl, FIN.out, Nat.le_refl _⟩
          case measure => have := HI.out.2; omega
        · skip
          by_cases g1 : o.kind = 1
          · have e0 : (o.kind == 0) = false := by simp [g0]
            have f0 : (o.kind == 1) = true := by simp [g1]
            clear g0 g1
            go_wp2_with fail
            try rw [HW3.out]
            have nb : ∀ g, (g = wr.heap.size) → ¬ (g = m ∨ g = d) := fun g e h => by rcases h with h | h <;> omega
            have nbB : ¬ (wr.heap.size = m ∨ wr.heap.size = d) := nb _ rfl
            have NB := Lib.hid nbB
            clear nb nbB
            have KD := Lib.hid (show Kept none' W3 W3.drew from (Kept.refl _ _).drew)
            refine wp_region_eager [0, 1, 2, 4, 5, 6, 3, 7, 8, 9] (fun W => Kept (fun g => g = m ∨ g = d) W3 W) (by kernel_rfl) (by kernel_rfl) rfl KD.out.pure ?_
            simp only [List.map_cons, List.map_nil, List.getElem?_toArray, List.getElem?_cons_zero, List.getElem?_cons_succ, Option.getD_some]
            iterate 6 (apply wpL_float rfl rfl; (intro W hW; have z1 := hW.cell (p := ⟨wr.heap.size, 1, none⟩) NB.out e1; have z2 := hW.cell (p := ⟨wr.heap.size, 2, none⟩) NB.out e2; have z3 := hW.cell (p := ⟨wr.heap.size, 3, none⟩) NB.out e3; go_simp; rfl); go_frame)
            apply wpL_loud rfl rfl
            intro K hK
            go_wp2_with fail
            have c := drop_any (fun g => w.heap.size ≤ g ∧ g ≠ d) b m T o.key W3.drew (J.out.tab.pure KD.out)
            (with_reducible refine c.mono ?_)
            clear c
            rintro e w4 ⟨rfl, t4, k4'⟩
            have k4 : Kept (one m) W3 w4 := KD.out.pure.trans k4'
            have NC : NoCells W3 (one m) (fun _ => True) := by obtain ⟨l, hl⟩ := J.out.map; exact .map hl _
            have H4 := Lib.hid (And.intro t4 (And.intro k4 (J.out.doc.keptN k4 NC)))
            clear t4 k4 k4' NC
            go_wp2_with fail
            refine hK _ _ (fun _ => H4.out.2.1.mono (fun g _ h => .inl h)) ?_
            clear hK
            apply wpL_loud rfl rfl
            intro K hK
            go_wp2_with fail
            have c := rdrop_any d T o.key w4 H4.out.2.2 HOO.out.key
            (with_reducible refine c.mono ?_)
            clear c
            rintro e w5 ⟨rfl, t5, k5⟩
            have K5 := Lib.hid (show Kept (fun g => g = m ∨ g = d) W3 w5 from (H4.out.2.1.mono (fun g _ h => .inl h)).trans (k5.mono (fun g _ h => .inr h)))
            have MID := Lib.hid (J.out.turn H4.out.2.1 H4.out.1 t5 k5)
            clear t5 k5
            go_wp2_with fail
            refine hK _ _ (fun _ => K5.out) ?_
            clear hK
            obtain ⟨xe, hxe⟩ : ∃ xe, (tget T o.key).isSome = xe := ⟨_, rfl⟩
            rw [hxe]
            clear hxe
            have hxx : (xe == xe) = true := by simp
            iterate 2 (apply wpL_float rfl rfl; (intro W hW; go_simp; rfl); go_frame)
            refine wpL_nil (fun _ => K5.out) ?_
            have e1 := K5.out.cell (p := ⟨wr.heap.size, 1, none⟩) NB.out e1
            go_wp2_with fail
            (with_reducible refine (get_any _ b m (tdrop o.key T) o.key w5 MID.out.tab).mono ?_)
            rintro e y1 ⟨lv, nl, rfl, o1, hnl, l1⟩
            obtain ⟨la1, lc1, rfl⟩ := owns_slice o1
            have r1 := Reads.of_owns o1
            obtain ⟨xc, hxc⟩ : ∃ xc, (tget (tdrop o.key T) o.key).getD (0, []) = xc := ⟨_, rfl⟩
            rw [hxc] at r1 ⊢
            obtain ⟨bs, hbs⟩ : ∃ bs, (tget (tdrop o.key T) o.key).isSome = bs := ⟨_, rfl⟩
            rw [hbs]
            have Y1 := Lib.hid (And.intro r1 (And.intro hxc hbs))
            have N1 := Lib.hid l1
            clear o1 hnl r1 l1 hxc hbs
            have e1 := N1.out.cell (fun h => h) e1
            have hB1 := block_lt_of_cell e1
            simp only [] at hB1
            go_wp2_with fail
            obtain ⟨y2, hy2⟩ : ∃ y2, y1.alloc (.cells #[.int .i64 xc.1, .slice la1 nl lc1] 29) = y2 := ⟨_, rfl⟩
            have N12 := Lib.hid (show Kept none' y1 y2 from by rw [← hy2]; exact (Kept.refl _ _).alloc _)
            have g0 : y2.cell? ⟨y1.heap.size, 0, none⟩ = some (.int .i64 xc.1) := by rw [← hy2]; simp
            have g1 : y2.cell? ⟨y1.heap.size, 1, none⟩ = some (.slice la1 nl lc1) := by rw [← hy2]; simp
            rw [hy2]
            clear hy2
            have e1 := N12.out.cell (fun h => h) e1
            (with_reducible refine (rget_any d (tdrop o.key T) o.key y2 (MID.out.doc.pure (N1.out.trans N12.out)) HOO.out.key).mono ?_)
            rintro e y3 ⟨lw, rfl, r3, l3⟩
            have hcd : cellD (tdrop o.key T) o.key = xc := Y1.out.2.1
            rw [hcd] at r3 ⊢
            rw [Y1.out.2.2]
            obtain ⟨la3, ln3, lc3, rfl, _⟩ := r3.slice
            have N23 := Lib.hid l3
            have R3 := Lib.hid r3
            have g0 := N23.out.cell (fun h => h) g0
            have g1 := N23.out.cell (fun h => h) g1
            have hB3 := block_lt_of_cell g0
            simp only [] at hB3
            clear r3 l3 hcd
            go_wp2_with fail
            obtain ⟨y4, hy4⟩ : ∃ y4, y3.alloc (.cells #[.int .i64 xc.1, .slice la3 ln3 lc3] 29) = y4 := ⟨_, rfl⟩
            have N34 := Lib.hid (show Kept none' y3 y4 from by rw [← hy4]; exact (Kept.refl _ _).alloc _)
            try rw [hy4]
            clear hy4
            have c := rsame_any xc.1 (.slice la1 nl lc1) (.slice la3 ln3 lc3) xc.2 y4 (Y1.out.1.pure (N12.out.trans (N23.out.trans N34.out))) (R3.out.pure N34.out)
            (with_reducible refine c.mono ?_)
            clear c
            rintro e y5 ⟨rfl, l5⟩
            have N5 := Lib.hid (N1.out.trans (N12.out.trans (N23.out.trans (N34.out.trans l5))))
            clear l5
            go_wp2_with fail
            (with_reducible refine (keys_any _ b m (tdrop o.key T) y5 (MID.out.tab.pure N5.out)).mono ?_)
            rintro e y6 ⟨v6, rfl, o6, _, l6⟩
            obtain ⟨a6, c6, rfl⟩ := owns_slice o6
            have N6 := Lib.hid (And.intro (Reads.of_owns o6) (N5.out.trans l6))
            clear l6 o6
            go_wp2_with fail
            (with_reducible refine (rkeys_any d (tdrop o.key T) y6 (MID.out.doc.pure N6.out.2)).mono ?_)
            rintro e y7 ⟨v7, n7, rfl, o7, l7⟩
            obtain ⟨a7, c7, rfl⟩ := owns_slice o7
            have N7 := Lib.hid (And.intro (Reads.of_owns o7) (And.intro (N6.out.1.pure l7) (N6.out.2.trans l7)))
            clear l7 o7
            go_wp2_with fail
            (with_reducible refine (equal64 _ _ (tkeys (tdrop o.key T)) (tkeys (tdrop o.key T)) y7 N7.out.2.1 N7.out.1).mono ?_)
            rintro e y8 ⟨rfl, l8⟩
            rw [show eqL (tkeys (tdrop o.key T)) (tkeys (tdrop o.key T)) = true from decide_eq_true rfl]
            have FIN := Lib.hid (MID.out.pure (N7.out.2.2.trans l8))
            clear l8
            go_wp2_with fail
            go_roundg (ops.length - (k + 1))
            case rel => exact ⟨k + 1, b, m, (tdrop o.key T), by omega, by go_num, rfl, FIN.out, Nat.le_refl _⟩
            case measure => have := HI.out.2; omega
          · skip
            by_cases g2 : o.kind = 2
            · have e0 : (o.kind == 0) = false := by simp [g0]
              have f0 : (o.kind == 1) = false := by simp [g1]
              have f1 : (o.kind == 2) = true := by simp [g2]
              clear g0 g1 g2
              go_wp2_with fail
              try rw [HW3.out]
              obtain ⟨G, hG⟩ : ∃ G, grp o.key = G := ⟨_, rfl⟩
              have hG0 : 0 ≤ G := by rw [← hG]; exact grp_lo _
              have hG8 : G < 8 := by rw [← hG]; exact grp_hi _
              have hU : wrap64 ((IntKind.u64.wrap o.key).tmod 8) = G := by
                have hu : IntKind.u64.wrap o.key = o.key % 18446744073709551616 := by simp [IntKind.wrap, IntKind.bits, IntKind.signed]
                rw [hu, Int.tmod_eq_emod_of_nonneg (by omega), IntWalk.wrap64_in _ (by omega), ← hG]
                unfold grp
                omega
              rw [hU]
              clear hU hG
              obtain ⟨kb, hkb⟩ : ∃ kb, wr.heap.size = kb := ⟨_, rfl⟩
              have hkw : w.heap.size ≤ kb := by have := HI.out.1.kept.size; omega
              rw [hkb] at e1 e2 e3 hml hdl hW3s ⊢
              have ex1 := e1
              clear hkb HW3 e2 e3
              go_loopg [9, 67] 8 (fun g vl vi wr => ∃ (j n : Nat), j ≤ 8 ∧ vi = .int .i64 (j : Int) ∧ 8 - j ≤ g ∧ wr.ownsRow W3.heap.size 3 1 vl n (ints (restL G j)) ∧ Kept none' W3 wr)
              case atStart => exact ⟨0, 0, by omega, rfl, by omega, World.ownsRow_nil _ _ _ _, Kept.refl _ _⟩
              case round =>
                obtain ⟨j, n, hj, rfl, hgj, hi⟩ := hrel
                obtain ⟨la, lc, rfl⟩ := owns_slice hi.1
                have HJ := Lib.hid (And.intro hgj hi)
                clear hgj hi
                by_cases hlt8 : j < 8
                · have hlt' : (j : Int) < 8 := by omega
                  by_cases hne : (j : Int) = G
                  · have F := Lib.hid (show wr.ownsRow W3.heap.size 3 1 (.slice la n lc) n (ints (restL G (j + 1))) from by rw [restL_succ, if_neg (fun h => h hne), List.append_nil]; exact HJ.out.2.1)
                    go_wp2_with fail
                    go_roundg (8 - (j + 1))
                    case rel => exact ⟨j + 1, n, by omega, by go_num, Nat.le_refl _, F.out, HJ.out.2.2⟩
                    case measure => have := HJ.out.1; omega
                  · have hm8 : n ≤ 8 := by
                      have h1 := HJ.out.2.1.1
                      have h2 := restL_len G j
                      simp [ints] at h1
                      omega
                    have kA : Kept none' wr (wr.alloc (.cells #[.int .i64 (j : Int)] 3)) := (Kept.refl _ _).alloc _
                    obtain ⟨i3, hi3, hz3, hs3, hb3⟩ := info3_parts
                    obtain ⟨v7, n7, w7, b1, b2, b3, b4, b5⟩ := run_append_reads (P := Try.prog) W3.heap.size 49 49 3 i3 (.int .i64 0) 1 8 und49 hi3 hz3 hs3 hb3 rfl (by omega) (kA.owns HJ.out.2.1 (fun _ _ h => h)) (Reads.lit wr [.int .i64 (j : Int)] 3 1 1 rfl (by unfold maxLen; omega)) (ints_one [(j : Int)]) (by simp; omega) (by unfold maxLen; simp; omega) (Nat.le_trans HJ.out.2.2.size kA.size)
                    have hnew : w7.ownsRow W3.heap.size 3 1 v7 n7 (ints (restL G (j + 1))) := by
                      rw [restL_succ, if_pos hne]
                      unfold ints at b2 ⊢
                      rw [List.map_append]
                      exact b2
                    have k7 : Kept none' W3 w7 := (HJ.out.2.2.trans kA).new (Kept.grown (S := fun j => W3.heap.size ≤ j) b4 (fun j hj _ => (owns_own HJ.out.2.1 hj).1)) (fun j hj hs => by omega)
                    have F := Lib.hid (And.intro hnew k7)
                    have B1 := Lib.hid b1
                    clear b1 b2 b3 b4 b5 hnew k7 hi3 hz3 hs3 hb3 kA
                    go_wp2_with (at_builtin; refine wpList_append_run rfl (.tmp 73) (.tmp 75) 49 rfl (.slice la n lc) (.slice (some ⟨wr.heap.size, 0, none⟩) 1 1) _ rfl rfl B1.out ?_)
                    go_roundg (8 - (j + 1))
                    case rel => exact ⟨j + 1, n7, by omega, by go_num, Nat.le_refl _, F.out⟩
                    case measure => have := HJ.out.1; omega
                · have e8 : j = 8 := by omega
                  subst e8
                  obtain ⟨x0, hx0⟩ : ∃ x0, wr = x0 := ⟨_, rfl⟩
                  rw [hx0] at HJ ⊢
                  clear hx0
                  have K0 := Lib.hid HJ.out.2.2
                  have RL := Lib.hid (Reads.of_owns HJ.out.2.1)
                  clear HJ
                  go_wp2_with fail
                  have c := tof_any (fun g => w.heap.size ≤ g ∧ g ≠ d) b m T (.slice la n lc) (restL G 8) x0 (J.out.tab.pure K0.out) RL.out
                  (with_reducible refine c.mono ?_)
                  clear c
                  rintro e x1 ⟨ba, ma, rfl, t1, k1⟩
                  have ma0 : x0.heap.size ≤ ma := t1.hm
                  have ma1 := t1.lt.1
                  have T1 := Lib.hid t1
                  have K1 := Lib.hid (K0.out.trans k1)
                  clear t1 k1
                  go_wp2_with fail
                  obtain ⟨x2, hx2⟩ : ∃ x2, x1.alloc (.cells #[.int .i64 G] 3) = x2 := ⟨_, rfl⟩
                  have k2 : Kept none' x1 x2 := by rw [← hx2]; exact (Kept.refl _ _).alloc _
                  have r2 : Reads x2 1 (.slice (some ⟨x1.heap.size, 0, none⟩) 1 1) (ints [G]) := by rw [← hx2]; exact Reads.lit x1 (ints [G]) 3 1 1 rfl (by unfold maxLen; omega)
                  rw [hx2]
                  have K2 := Lib.hid (K1.out.trans k2)
                  have R2 := Lib.hid r2
                  have T2 := Lib.hid (T1.out.pure k2)
                  have hs2 := k2.size
                  clear hx2 k2 r2 T1
                  have c := tof_any (fun g => w.heap.size ≤ g ∧ g ≠ d) b m T (.slice (some ⟨x1.heap.size, 0, none⟩) 1 1) [G] x2 (J.out.tab.pure K2.out) R2.out
                  (with_reducible refine c.mono ?_)
                  clear c
                  rintro e x3 ⟨bb2, mb, rfl, t3, k3⟩
                  have mb0 : x2.heap.size ≤ mb := t3.hm
                  have T3 := Lib.hid t3
                  have A3 := Lib.hid (T2.out.pure k3)
                  have K3 := Lib.hid (K2.out.trans k3)
                  have hs3 := k3.size
                  clear t3 k3 T2
                  go_wp2_with fail
                  have c := join_any (up x0.heap.size) (up x2.heap.size) ba ma bb2 mb (tabOf T (restL G 8)) (tabOf T [G]) x3 A3.out T3.out (fun g hg => by unfold up; omega) (by omega)
                  rw [show JoinQ x3 (up x0.heap.size) ba ma (tabOf T (restL G 8)) (tabOf T [G]) = fun e w' => e = .returned (.int .i64 0) ∧ TabAt w' (up x0.heap.size) ba ma T ∧ Kept (one ma) x3 w' from by unfold JoinQ; rw [(rest_join J.out.doc.ok G).1, (rest_join J.out.doc.ok G).2]] at c
                  (with_reducible refine c.mono ?_)
                  clear c
                  rintro e x4 ⟨rfl, t4, k4⟩
                  have NC4 : NoCells x3 (one ma) (up x2.heap.size) := by obtain ⟨l, hl, _⟩ := A3.out.map; exact .map hl _
                  have T4 := Lib.hid (T3.out.kept k4 NC4 (fun e => by unfold one at e; omega))
                  have A4 := Lib.hid t4
                  have K4 := Lib.hid (show Kept none' W3 x4 from K3.out.new k4 (fun i hi e => by have := K0.out.size; unfold one at e; omega))
                  clear t4 k4 NC4 T3 A3
                  go_wp2_with fail
                  (with_reducible refine (keys_any (up x2.heap.size) bb2 mb (tabOf T [G]) x4 T4.out).mono ?_)
                  rintro e x5 ⟨v5, rfl, o5, _, k5⟩
                  obtain ⟨a5, c5, rfl⟩ := owns_slice o5
                  have R5 := Lib.hid (Reads.of_owns o5)
                  have A5 := Lib.hid (A4.out.pure k5)
                  have K5 := Lib.hid (K4.out.trans k5)
                  clear o5 k5 A4 T4
                  go_wp2_with fail
                  obtain ⟨x6, hx6⟩ : ∃ x6, x5.alloc (.cells #[.int .i64 G] 3) = x6 := ⟨_, rfl⟩
                  have k6 : Kept none' x5 x6 := by rw [← hx6]; exact (Kept.refl _ _).alloc _
                  have r6 : Reads x6 1 (.slice (some ⟨x5.heap.size, 0, none⟩) 1 1) (ints [G]) := by rw [← hx6]; exact Reads.lit x5 (ints [G]) 3 1 1 rfl (by unfold maxLen; omega)
                  rw [hx6]
                  have c := rtof_any d T (.slice (some ⟨x5.heap.size, 0, none⟩) 1 1) [G] x6 (J.out.doc.pure (K5.out.trans k6)) r6
                  (with_reducible refine c.mono ?_)
                  clear c
                  rintro e x7 ⟨D7, rfl, t7, _, k7⟩
                  have T7 := Lib.hid t7
                  have N7 := Lib.hid (k6.trans k7)
                  clear hx6 k6 r6 t7 k7
                  go_wp2_with fail
                  (with_reducible refine (rkeys_any D7 (tabOf T [G]) x7 T7.out).mono ?_)
                  rintro e x8 ⟨v8, n8, rfl, o8, k8⟩
                  obtain ⟨a8, c8, rfl⟩ := owns_slice o8
                  have R8 := Lib.hid (Reads.of_owns o8)
                  have N8 := Lib.hid (N7.out.trans k8)
                  clear o8 k8
                  go_wp2_with fail
                  (with_reducible refine (equal64 _ _ (tkeys (tabOf T [G])) (tkeys (tabOf T [G])) x8 (R5.out.pure N8.out) R8.out).mono ?_)
                  rintro e x9 ⟨rfl, k9⟩
                  rw [show eqL (tkeys (tabOf T [G])) (tkeys (tabOf T [G])) = true from decide_eq_true rfl]
                  have MID := Lib.hid (show MadeInv w x9 ba ma d T from ⟨(A5.out.pure (N8.out.trans k9)).mono (fun g hg _ => ⟨by have := J.out.kept.size; have := K0.out.size; unfold up at hg; omega, by have := K0.out.size; unfold up at hg; omega⟩), J.out.doc.pure (K5.out.trans (N8.out.trans k9)), J.out.kept.trans (K5.out.trans (N8.out.trans k9)), J.out.hd⟩)
                  have e1 := (K5.out.trans (N8.out.trans k9)).cell (fun h => h) ex1
                  clear k9
                  go_wp2_with fail
                  (with_reducible refine (get_any _ ba ma T o.key x9 MID.out.tab).mono ?_)
                  rintro e y1 ⟨lv, nl, rfl, o1, hnl, l1⟩
                  obtain ⟨la1, lc1, rfl⟩ := owns_slice o1
                  have r1 := Reads.of_owns o1
                  obtain ⟨xc, hxc⟩ : ∃ xc, (tget T o.key).getD (0, []) = xc := ⟨_, rfl⟩
                  rw [hxc] at r1 ⊢
                  obtain ⟨bs, hbs⟩ : ∃ bs, (tget T o.key).isSome = bs := ⟨_, rfl⟩
                  rw [hbs]
                  have Y1 := Lib.hid (And.intro r1 (And.intro hxc hbs))
                  have N1 := Lib.hid l1
                  clear o1 hnl r1 l1 hxc hbs
                  have e1 := N1.out.cell (fun h => h) e1
                  have hB1 := block_lt_of_cell e1
                  simp only [] at hB1
                  go_wp2_with fail
                  obtain ⟨y2, hy2⟩ : ∃ y2, y1.alloc (.cells #[.int .i64 xc.1, .slice la1 nl lc1] 29) = y2 := ⟨_, rfl⟩
                  have N12 := Lib.hid (show Kept none' y1 y2 from by rw [← hy2]; exact (Kept.refl _ _).alloc _)
                  have g0 : y2.cell? ⟨y1.heap.size, 0, none⟩ = some (.int .i64 xc.1) := by rw [← hy2]; simp
                  have g1 : y2.cell? ⟨y1.heap.size, 1, none⟩ = some (.slice la1 nl lc1) := by rw [← hy2]; simp
                  rw [hy2]
                  clear hy2
                  have e1 := N12.out.cell (fun h => h) e1
                  (with_reducible refine (rget_any d T o.key y2 (MID.out.doc.pure (N1.out.trans N12.out)) HOO.out.key).mono ?_)
                  rintro e y3 ⟨lw, rfl, r3, l3⟩
                  have hcd : cellD T o.key = xc := Y1.out.2.1
                  rw [hcd] at r3 ⊢
                  rw [Y1.out.2.2]
                  obtain ⟨la3, ln3, lc3, rfl, _⟩ := r3.slice
                  have N23 := Lib.hid l3
                  have R3 := Lib.hid r3
                  have g0 := N23.out.cell (fun h => h) g0
                  have g1 := N23.out.cell (fun h => h) g1
                  have hB3 := block_lt_of_cell g0
                  simp only [] at hB3
                  clear r3 l3 hcd
                  go_wp2_with fail
                  obtain ⟨y4, hy4⟩ : ∃ y4, y3.alloc (.cells #[.int .i64 xc.1, .slice la3 ln3 lc3] 29) = y4 := ⟨_, rfl⟩
                  have N34 := Lib.hid (show Kept none' y3 y4 from by rw [← hy4]; exact (Kept.refl _ _).alloc _)
                  try rw [hy4]
                  clear hy4
                  have c := rsame_any xc.1 (.slice la1 nl lc1) (.slice la3 ln3 lc3) xc.2 y4 (Y1.out.1.pure (N12.out.trans (N23.out.trans N34.out))) (R3.out.pure N34.out)
                  (with_reducible refine c.mono ?_)
                  clear c
                  rintro e y5 ⟨rfl, l5⟩
                  have N5 := Lib.hid (N1.out.trans (N12.out.trans (N23.out.trans (N34.out.trans l5))))
                  clear l5
                  go_wp2_with fail
                  (with_reducible refine (keys_any _ ba ma T y5 (MID.out.tab.pure N5.out)).mono ?_)
                  rintro e y6 ⟨v6, rfl, o6, _, l6⟩
                  obtain ⟨a6, c6, rfl⟩ := owns_slice o6
                  have N6 := Lib.hid (And.intro (Reads.of_owns o6) (N5.out.trans l6))
                  clear l6 o6
                  go_wp2_with fail
                  (with_reducible refine (rkeys_any d T y6 (MID.out.doc.pure N6.out.2)).mono ?_)
                  rintro e y7 ⟨v7, n7, rfl, o7, l7⟩
                  obtain ⟨a7, c7, rfl⟩ := owns_slice o7
                  have N7 := Lib.hid (And.intro (Reads.of_owns o7) (And.intro (N6.out.1.pure l7) (N6.out.2.trans l7)))
                  clear l7 o7
                  go_wp2_with fail
                  (with_reducible refine (equal64 _ _ (tkeys T) (tkeys T) y7 N7.out.2.1 N7.out.1).mono ?_)
                  rintro e y8 ⟨rfl, l8⟩
                  rw [show eqL (tkeys T) (tkeys T) = true from decide_eq_true rfl]
                  have FIN := Lib.hid (MID.out.pure (N7.out.2.2.trans l8))
                  clear l8
                  go_wp2_with fail
                  go_roundg (ops.length - (k + 1))
                  case rel => exact ⟨k + 1, ba, ma, T, by omega, by go_num, rfl, FIN.out, Nat.le_refl _⟩
                  case measure => have := HI.out.2; omega
            · skip
              by_cases g3 : o.kind = 3
              · have e0 : (o.kind == 0) = false := by simp [g0]
                have f0 : (o.kind == 1) = false := by simp [g1]
                have f1 : (o.kind == 2) = false := by simp [g2]
                have f2 : (o.kind == 3) = true := by simp [g3]
                clear g0 g1 g2 g3
                go_wp2_with fail
                try rw [HW3.out]
                (with_reducible refine (copy_any _ b m T W3 J.out.tab).mono ?_)
                rintro e w4 ⟨b2, m2, rfl, t4, k4⟩
                have hm2 : W3.heap.size ≤ m2 := t4.hm
                have H4 := Lib.hid (And.intro t4 k4)
                have e1 := k4.cell (fun h => h) e1
                clear t4 k4
                go_wp2_with fail
                have c := put_any (fun g => w.heap.size ≤ g ∧ g ≠ d) b m T o.key (99, []) (.slice none 0 0) w4 (J.out.tab.pure H4.out.2) (fun g hg => ⟨by have := (J.out.kept.trans H4.out.2).size; omega, by have := J.out.hm.2.2.2; have := H4.out.2.size; omega⟩) HOO.out.key (.small (by simp) (by simp)) (by simp) (by simp) (Reads.nil _ _)
                (with_reducible refine c.mono ?_)
                clear c
                rintro e w5 ⟨rfl, t5, k5⟩
                have hjm := J.out.hm
                have NC : NoCells w4 (one m) (fun _ => True) := by obtain ⟨l, hl⟩ := J.out.map; exact .map (hl.kept H4.out.2 (fun h => h)) _
                have MID := Lib.hid (show MadeInv w w5 b2 m2 d T from ⟨(H4.out.1.mono (fun g hg _ => ⟨by have := J.out.kept.size; unfold up at hg; omega, by unfold up at hg; omega⟩)).kept k5 (fun g hg _ => NC g hg trivial) (fun e => by unfold one at e; omega), (J.out.doc.pure H4.out.2).keptN k5 NC, (J.out.kept.trans H4.out.2).new k5 (fun i hi e => by unfold one at e; omega), J.out.hd⟩)
                have e1 := k5.cell (p := ⟨wr.heap.size, 1, none⟩) (fun e => by unfold one at e; simp only [] at e; omega) e1
                clear t5 k5 NC hjm
                go_wp2_with fail
                (with_reducible refine (get_any _ b2 m2 T o.key w5 MID.out.tab).mono ?_)
                rintro e y1 ⟨lv, nl, rfl, o1, hnl, l1⟩
                obtain ⟨la1, lc1, rfl⟩ := owns_slice o1
                have r1 := Reads.of_owns o1
                obtain ⟨xc, hxc⟩ : ∃ xc, (tget T o.key).getD (0, []) = xc := ⟨_, rfl⟩
                rw [hxc] at r1 ⊢
                obtain ⟨bs, hbs⟩ : ∃ bs, (tget T o.key).isSome = bs := ⟨_, rfl⟩
                rw [hbs]
                have Y1 := Lib.hid (And.intro r1 (And.intro hxc hbs))
                have N1 := Lib.hid l1
                clear o1 hnl r1 l1 hxc hbs
                have e1 := N1.out.cell (fun h => h) e1
                have hB1 := block_lt_of_cell e1
                simp only [] at hB1
                go_wp2_with fail
                obtain ⟨y2, hy2⟩ : ∃ y2, y1.alloc (.cells #[.int .i64 xc.1, .slice la1 nl lc1] 29) = y2 := ⟨_, rfl⟩
                have N12 := Lib.hid (show Kept none' y1 y2 from by rw [← hy2]; exact (Kept.refl _ _).alloc _)
                have g0 : y2.cell? ⟨y1.heap.size, 0, none⟩ = some (.int .i64 xc.1) := by rw [← hy2]; simp
                have g1 : y2.cell? ⟨y1.heap.size, 1, none⟩ = some (.slice la1 nl lc1) := by rw [← hy2]; simp
                rw [hy2]
                clear hy2
                have e1 := N12.out.cell (fun h => h) e1
                (with_reducible refine (rget_any d T o.key y2 (MID.out.doc.pure (N1.out.trans N12.out)) HOO.out.key).mono ?_)
                rintro e y3 ⟨lw, rfl, r3, l3⟩
                have hcd : cellD T o.key = xc := Y1.out.2.1
                rw [hcd] at r3 ⊢
                rw [Y1.out.2.2]
                obtain ⟨la3, ln3, lc3, rfl, _⟩ := r3.slice
                have N23 := Lib.hid l3
                have R3 := Lib.hid r3
                have g0 := N23.out.cell (fun h => h) g0
                have g1 := N23.out.cell (fun h => h) g1
                have hB3 := block_lt_of_cell g0
                simp only [] at hB3
                clear r3 l3 hcd
                go_wp2_with fail
                obtain ⟨y4, hy4⟩ : ∃ y4, y3.alloc (.cells #[.int .i64 xc.1, .slice la3 ln3 lc3] 29) = y4 := ⟨_, rfl⟩
                have N34 := Lib.hid (show Kept none' y3 y4 from by rw [← hy4]; exact (Kept.refl _ _).alloc _)
                try rw [hy4]
                clear hy4
                have c := rsame_any xc.1 (.slice la1 nl lc1) (.slice la3 ln3 lc3) xc.2 y4 (Y1.out.1.pure (N12.out.trans (N23.out.trans N34.out))) (R3.out.pure N34.out)
                (with_reducible refine c.mono ?_)
                clear c
                rintro e y5 ⟨rfl, l5⟩
                have N5 := Lib.hid (N1.out.trans (N12.out.trans (N23.out.trans (N34.out.trans l5))))
                clear l5
                go_wp2_with fail
                (with_reducible refine (keys_any _ b2 m2 T y5 (MID.out.tab.pure N5.out)).mono ?_)
                rintro e y6 ⟨v6, rfl, o6, _, l6⟩
                obtain ⟨a6, c6, rfl⟩ := owns_slice o6
                have N6 := Lib.hid (And.intro (Reads.of_owns o6) (N5.out.trans l6))
                clear l6 o6
                go_wp2_with fail
                (with_reducible refine (rkeys_any d T y6 (MID.out.doc.pure N6.out.2)).mono ?_)
                rintro e y7 ⟨v7, n7, rfl, o7, l7⟩
                obtain ⟨a7, c7, rfl⟩ := owns_slice o7
                have N7 := Lib.hid (And.intro (Reads.of_owns o7) (And.intro (N6.out.1.pure l7) (N6.out.2.trans l7)))
                clear l7 o7
                go_wp2_with fail
                (with_reducible refine (equal64 _ _ (tkeys T) (tkeys T) y7 N7.out.2.1 N7.out.1).mono ?_)
                rintro e y8 ⟨rfl, l8⟩
                rw [show eqL (tkeys T) (tkeys T) = true from decide_eq_true rfl]
                have FIN := Lib.hid (MID.out.pure (N7.out.2.2.trans l8))
                clear l8
                go_wp2_with fail
                go_roundg (ops.length - (k + 1))
                case rel => exact ⟨k + 1, b2, m2, T, by omega, by go_num, rfl, FIN.out, Nat.le_refl _⟩
                case measure => have := HI.out.2; omega
              · skip
                by_cases g4 : o.kind = 4
                · have e0 : (o.kind == 0) = false := by simp [g0]
                  have f0 : (o.kind == 1) = false := by simp [g1]
                  have f1 : (o.kind == 2) = false := by simp [g2]
                  have f2 : (o.kind == 3) = false := by simp [g3]
                  have f3 : (o.kind == 4) = true := by simp [g4]
                  clear g0 g1 g2 g3 g4
                  go_wp2_with fail
                  try rw [HW3.out]
                  have ex1 := e1
                  have ex2 := e2
                  have ex3 := e3
                  refine (new_any W3).mono ?_
                  rintro e w4 ⟨bu, mu, rfl, t4, k4⟩
                  have hmu : W3.heap.size ≤ mu := t4.hm
                  have hmu4 := t4.lt.1
                  have H4 := Lib.hid (And.intro t4 k4)
                  have e1 := k4.cell (fun h => h) e1
                  have e2 := k4.cell (fun h => h) e2
                  have e3 := k4.cell (fun h => h) e3
                  clear t4 k4
                  have hB4 := block_lt_of_cell e1
                  simp only [] at hB4
                  go_wp2_with fail
                  obtain ⟨d2, hd2⟩ : ∃ d2, w4.heap.size = d2 := ⟨_, rfl⟩
                  obtain ⟨w5, hw5⟩ : ∃ w5, w4.alloc (.cells #[.slice none 0 0] 74) = w5 := ⟨_, rfl⟩
                  have k5 : Kept none' w4 w5 := by rw [← hw5]; exact (Kept.refl _ _).alloc _
                  have t5d : RTabAt w5 d2 [] := by
                    rw [← hw5, ← hd2]
                    exact ⟨⟨.slice none 0 0, heap_alloc_new _ _, [], Reads.nil _ _, rfl, fun i p hp => by cases hp⟩, TOk.nil⟩
                  have t5u : TabAt w5 (fun g => W3.heap.size ≤ g ∧ g ≠ d2) bu mu [] := (H4.out.1.mono (fun g hg hl => ⟨hg, by omega⟩)).pure k5
                  rw [hw5, hd2]
                  have H5 := Lib.hid (And.intro t5d (And.intro t5u (H4.out.2.trans k5)))
                  have e1 := k5.cell (fun h => h) e1
                  have e2 := k5.cell (fun h => h) e2
                  have e3 := k5.cell (fun h => h) e3
                  have hd2l := t5d.lt
                  clear t5d t5u k5 hw5
                  have hjm := J.out.hm
                  have hd23 : W3.heap.size ≤ d2 := by have := H4.out.2.size; omega
                  have c := put_any (fun g => W3.heap.size ≤ g ∧ g ≠ d2) bu mu [] o.key (o.acc, o.l) (.slice La o.l.length Lc) w5 H5.out.2.1 (fun g hg => ⟨by have := H5.out.2.2.size; omega, by omega⟩) HOO.out.key HOO.out.acc HOO.out.l HOL.out (HL3.out.pure H5.out.2.2)
                  (with_reducible refine c.mono ?_)
                  clear c
                  rintro e w6 ⟨rfl, t6, k6⟩
                  have NC6 : NoCells w5 (one mu) (fun _ => True) := by obtain ⟨l, hl, _⟩ := H5.out.2.1.map; exact .map hl _
                  have k36 : Kept none' W3 w6 := H5.out.2.2.new k6 (fun i hi e => by unfold one at e; omega)
                  have H6 := Lib.hid (And.intro t6 (And.intro (H5.out.1.keptN k6 NC6) (And.intro ((HL3.out.pure H5.out.2.2).keptN k6 (by omega) NC6) (And.intro k36 (And.intro ((J.out.tab.mono (B' := fun g => (w.heap.size ≤ g ∧ g ≠ d) ∧ g < W3.heap.size) (fun g hg hl => ⟨hg, hl⟩)).pure k36) (J.out.pure k36))))))
                  have e1 := k36.cell (fun h => h) ex1
                  have e2 := k36.cell (fun h => h) ex2
                  have e3 := k36.cell (fun h => h) ex3
                  clear t6 k6 NC6 k36
                  go_wp2_with fail
                  have c := rput_any d2 [] o.key (o.acc, o.l) (.slice La o.l.length Lc) w6 H6.out.2.1 HOO.out.key HOO.out.acc HOO.out.l HOL.out H6.out.2.2.1
                  (with_reducible refine c.mono ?_)
                  clear c
                  rintro e w7 ⟨rfl, t7, k7⟩
                  have tt7 : TabAt w7 (fun g => w.heap.size ≤ g ∧ g ≠ d) b m T := (H6.out.2.2.2.2.1.kept k7 (fun g hg hB => absurd hB.2 (by unfold one at hg; omega)) (fun e => by unfold one at e; omega)).mono (fun g hg _ => hg.1)
                  have tu7 := H6.out.1.kept k7 (fun g hg hB => absurd hg hB.2) (fun e => by unfold one at e; omega)
                  have td7 := RTabAt.keptD H6.out.2.1 H6.out.2.2.2.2.2.doc k7 (by omega)
                  have kw7 : Kept none' w w7 := H6.out.2.2.2.2.2.kept.new k7 (fun i hi e => by have := J.out.kept.size; unfold one at e; omega)
                  have k37 : Kept none' W3 w7 := H6.out.2.2.2.1.new k7 (fun i hi e => by unfold one at e; omega)
                  obtain ⟨U, hU⟩ : ∃ U, putT [] o.key (o.acc, o.l) = U := ⟨_, rfl⟩
                  rw [hU] at t7 tu7
                  have H7 := Lib.hid (And.intro tu7 (And.intro t7 (And.intro k37 (show MadeInv w w7 b m d T from ⟨tt7, td7, kw7, J.out.hd⟩))))
                  have e1 := k37.cell (fun h => h) ex1
                  clear t7 k7 hU tt7 tu7 td7 kw7 k37 H6 H5
                  go_wp2_with fail
                  have c := join_any (fun g => w.heap.size ≤ g ∧ g ≠ d) (fun g => W3.heap.size ≤ g ∧ g ≠ d2) b m bu mu T U w7 H7.out.2.2.2.tab H7.out.1 (fun g hg => ⟨by have := H7.out.2.2.2.kept.size; omega, by have := H7.out.2.2.2.hm; omega⟩) (by omega)
                  (with_reducible refine c.mono ?_)
                  clear c
                  rintro e w8 ⟨rfl, t8, k8⟩
                  have NC8 : NoCells w7 (one m) (fun _ => True) := by obtain ⟨l, hl⟩ := H7.out.2.2.2.map; exact .map hl _
                  have H8 := Lib.hid (And.intro t8 (And.intro k8 (And.intro (H7.out.2.2.2.doc.keptN k8 NC8) (H7.out.2.1.keptN k8 NC8))))
                  have e1 := k8.cell (p := ⟨wr.heap.size, 1, none⟩) (fun e => by unfold one at e; simp only [] at e; omega) e1
                  clear t8 k8 NC8
                  go_wp2_with fail
                  have c := rjoin_any d d2 T U w8 H8.out.2.2.1 H8.out.2.2.2 (by omega)
                  (with_reducible refine c.mono ?_)
                  clear c
                  rintro e w9 ⟨rfl, t9, k9⟩
                  have MID := Lib.hid (H7.out.2.2.2.turn H8.out.2.1 H8.out.1 t9 k9)
                  have e1 := k9.cell (p := ⟨wr.heap.size, 1, none⟩) (fun e => by unfold one at e; simp only [] at e; omega) e1
                  obtain ⟨xe, hxe⟩ : ∃ xe, joinE T U = xe := ⟨_, rfl⟩
                  obtain ⟨TU, hTU⟩ : ∃ TU, joinT T U = TU := ⟨_, rfl⟩
                  rw [hTU] at MID
                  rw [hxe]
                  have hxx : (xe == xe) = true := by simp
                  clear t9 k9 hxe hTU
                  go_wp2_with fail
                  (with_reducible refine (get_any _ b m TU o.key w9 MID.out.tab).mono ?_)
                  rintro e y1 ⟨lv, nl, rfl, o1, hnl, l1⟩
                  obtain ⟨la1, lc1, rfl⟩ := owns_slice o1
                  have r1 := Reads.of_owns o1
                  obtain ⟨xc, hxc⟩ : ∃ xc, (tget TU o.key).getD (0, []) = xc := ⟨_, rfl⟩
                  rw [hxc] at r1 ⊢
                  obtain ⟨bs, hbs⟩ : ∃ bs, (tget TU o.key).isSome = bs := ⟨_, rfl⟩
                  rw [hbs]
                  have Y1 := Lib.hid (And.intro r1 (And.intro hxc hbs))
                  have N1 := Lib.hid l1
                  clear o1 hnl r1 l1 hxc hbs
                  have e1 := N1.out.cell (fun h => h) e1
                  have hB1 := block_lt_of_cell e1
                  simp only [] at hB1
                  go_wp2_with fail
                  obtain ⟨y2, hy2⟩ : ∃ y2, y1.alloc (.cells #[.int .i64 xc.1, .slice la1 nl lc1] 29) = y2 := ⟨_, rfl⟩
                  have N12 := Lib.hid (show Kept none' y1 y2 from by rw [← hy2]; exact (Kept.refl _ _).alloc _)
                  have g0 : y2.cell? ⟨y1.heap.size, 0, none⟩ = some (.int .i64 xc.1) := by rw [← hy2]; simp
                  have g1 : y2.cell? ⟨y1.heap.size, 1, none⟩ = some (.slice la1 nl lc1) := by rw [← hy2]; simp
                  rw [hy2]
                  clear hy2
                  have e1 := N12.out.cell (fun h => h) e1
                  (with_reducible refine (rget_any d TU o.key y2 (MID.out.doc.pure (N1.out.trans N12.out)) HOO.out.key).mono ?_)
                  rintro e y3 ⟨lw, rfl, r3, l3⟩
                  have hcd : cellD TU o.key = xc := Y1.out.2.1
                  rw [hcd] at r3 ⊢
                  rw [Y1.out.2.2]
                  obtain ⟨la3, ln3, lc3, rfl, _⟩ := r3.slice
                  have N23 := Lib.hid l3
                  have R3 := Lib.hid r3
                  have g0 := N23.out.cell (fun h => h) g0
                  have g1 := N23.out.cell (fun h => h) g1
                  have hB3 := block_lt_of_cell g0
                  simp only [] at hB3
                  clear r3 l3 hcd
                  go_wp2_with fail
                  obtain ⟨y4, hy4⟩ : ∃ y4, y3.alloc (.cells #[.int .i64 xc.1, .slice la3 ln3 lc3] 29) = y4 := ⟨_, rfl⟩
                  have N34 := Lib.hid (show Kept none' y3 y4 from by rw [← hy4]; exact (Kept.refl _ _).alloc _)
                  try rw [hy4]
                  clear hy4
                  have c := rsame_any xc.1 (.slice la1 nl lc1) (.slice la3 ln3 lc3) xc.2 y4 (Y1.out.1.pure (N12.out.trans (N23.out.trans N34.out))) (R3.out.pure N34.out)
                  (with_reducible refine c.mono ?_)
                  clear c
                  rintro e y5 ⟨rfl, l5⟩
                  have N5 := Lib.hid (N1.out.trans (N12.out.trans (N23.out.trans (N34.out.trans l5))))
                  clear l5
                  go_wp2_with fail
                  (with_reducible refine (keys_any _ b m TU y5 (MID.out.tab.pure N5.out)).mono ?_)
                  rintro e y6 ⟨v6, rfl, o6, _, l6⟩
                  obtain ⟨a6, c6, rfl⟩ := owns_slice o6
                  have N6 := Lib.hid (And.intro (Reads.of_owns o6) (N5.out.trans l6))
                  clear l6 o6
                  go_wp2_with fail
                  (with_reducible refine (rkeys_any d TU y6 (MID.out.doc.pure N6.out.2)).mono ?_)
                  rintro e y7 ⟨v7, n7, rfl, o7, l7⟩
                  obtain ⟨a7, c7, rfl⟩ := owns_slice o7
                  have N7 := Lib.hid (And.intro (Reads.of_owns o7) (And.intro (N6.out.1.pure l7) (N6.out.2.trans l7)))
                  clear l7 o7
                  go_wp2_with fail
                  (with_reducible refine (equal64 _ _ (tkeys TU) (tkeys TU) y7 N7.out.2.1 N7.out.1).mono ?_)
                  rintro e y8 ⟨rfl, l8⟩
                  rw [show eqL (tkeys TU) (tkeys TU) = true from decide_eq_true rfl]
                  have FIN := Lib.hid (MID.out.pure (N7.out.2.2.trans l8))
                  clear l8
                  go_wp2_with fail
                  go_roundg (ops.length - (k + 1))
                  case rel => exact ⟨k + 1, b, m, TU, by omega, by go_num, rfl, FIN.out, Nat.le_refl _⟩
                  case measure => have := HI.out.2; omega
                · have e0 : (o.kind == 0) = false := by simp [g0]
                  have f0 : (o.kind == 1) = false := by simp [g1]
                  have f1 : (o.kind == 2) = false := by simp [g2]
                  have f2 : (o.kind == 3) = false := by simp [g3]
                  have f3 : (o.kind == 4) = false := by simp [g4]
                  clear g0 g1 g2 g3 g4
                  go_wp2_with fail
                  try rw [HW3.out]
                  have MID := Lib.hid J.out
                  go_wp2_with fail
                  (with_reducible refine (get_any _ b m T o.key W3 MID.out.tab).mono ?_)
                  rintro e y1 ⟨lv, nl, rfl, o1, hnl, l1⟩
                  obtain ⟨la1, lc1, rfl⟩ := owns_slice o1
                  have r1 := Reads.of_owns o1
                  obtain ⟨xc, hxc⟩ : ∃ xc, (tget T o.key).getD (0, []) = xc := ⟨_, rfl⟩
                  rw [hxc] at r1 ⊢
                  obtain ⟨bs, hbs⟩ : ∃ bs, (tget T o.key).isSome = bs := ⟨_, rfl⟩
                  rw [hbs]
                  have Y1 := Lib.hid (And.intro r1 (And.intro hxc hbs))
                  have N1 := Lib.hid l1
                  clear o1 hnl r1 l1 hxc hbs
                  have e1 := N1.out.cell (fun h => h) e1
                  have hB1 := block_lt_of_cell e1
                  simp only [] at hB1
                  go_wp2_with fail
                  obtain ⟨y2, hy2⟩ : ∃ y2, y1.alloc (.cells #[.int .i64 xc.1, .slice la1 nl lc1] 29) = y2 := ⟨_, rfl⟩
                  have N12 := Lib.hid (show Kept none' y1 y2 from by rw [← hy2]; exact (Kept.refl _ _).alloc _)
                  have g0 : y2.cell? ⟨y1.heap.size, 0, none⟩ = some (.int .i64 xc.1) := by rw [← hy2]; simp
                  have g1 : y2.cell? ⟨y1.heap.size, 1, none⟩ = some (.slice la1 nl lc1) := by rw [← hy2]; simp
                  rw [hy2]
                  clear hy2
                  have e1 := N12.out.cell (fun h => h) e1
                  (with_reducible refine (rget_any d T o.key y2 (MID.out.doc.pure (N1.out.trans N12.out)) HOO.out.key).mono ?_)
                  rintro e y3 ⟨lw, rfl, r3, l3⟩
                  have hcd : cellD T o.key = xc := Y1.out.2.1
                  rw [hcd] at r3 ⊢
                  rw [Y1.out.2.2]
                  obtain ⟨la3, ln3, lc3, rfl, _⟩ := r3.slice
                  have N23 := Lib.hid l3
                  have R3 := Lib.hid r3
                  have g0 := N23.out.cell (fun h => h) g0
                  have g1 := N23.out.cell (fun h => h) g1
                  have hB3 := block_lt_of_cell g0
                  simp only [] at hB3
                  clear r3 l3 hcd
                  go_wp2_with fail
                  obtain ⟨y4, hy4⟩ : ∃ y4, y3.alloc (.cells #[.int .i64 xc.1, .slice la3 ln3 lc3] 29) = y4 := ⟨_, rfl⟩
                  have N34 := Lib.hid (show Kept none' y3 y4 from by rw [← hy4]; exact (Kept.refl _ _).alloc _)
                  try rw [hy4]
                  clear hy4
                  have c := rsame_any xc.1 (.slice la1 nl lc1) (.slice la3 ln3 lc3) xc.2 y4 (Y1.out.1.pure (N12.out.trans (N23.out.trans N34.out))) (R3.out.pure N34.out)
                  (with_reducible refine c.mono ?_)
                  clear c
                  rintro e y5 ⟨rfl, l5⟩
                  have N5 := Lib.hid (N1.out.trans (N12.out.trans (N23.out.trans (N34.out.trans l5))))
                  clear l5
                  go_wp2_with fail
                  (with_reducible refine (keys_any _ b m T y5 (MID.out.tab.pure N5.out)).mono ?_)
                  rintro e y6 ⟨v6, rfl, o6, _, l6⟩
                  obtain ⟨a6, c6, rfl⟩ := owns_slice o6
                  have N6 := Lib.hid (And.intro (Reads.of_owns o6) (N5.out.trans l6))
                  clear l6 o6
                  go_wp2_with fail
                  (with_reducible refine (rkeys_any d T y6 (MID.out.doc.pure N6.out.2)).mono ?_)
                  rintro e y7 ⟨v7, n7, rfl, o7, l7⟩
                  obtain ⟨a7, c7, rfl⟩ := owns_slice o7
                  have N7 := Lib.hid (And.intro (Reads.of_owns o7) (And.intro (N6.out.1.pure l7) (N6.out.2.trans l7)))
                  clear l7 o7
                  go_wp2_with fail
                  (with_reducible refine (equal64 _ _ (tkeys T) (tkeys T) y7 N7.out.2.1 N7.out.1).mono ?_)
                  rintro e y8 ⟨rfl, l8⟩
                  rw [show eqL (tkeys T) (tkeys T) = true from decide_eq_true rfl]
                  have FIN := Lib.hid (MID.out.pure (N7.out.2.2.trans l8))
                  clear l8
                  go_wp2_with fail
                  go_roundg (ops.length - (k + 1))
                  case rel => exact ⟨k + 1, b, m, T, by omega, by go_num, rfl, FIN.out, Nat.le_refl _⟩
                  case measure => have := HI.out.2; omega
      · have hkT : k = ops.length := by omega
        have HK := Lib.hid hkT
        clear hkT
        go_wp2_with fail
        (with_reducible refine (bytes_any _ b m T wr HI.out.1.tab).mono ?_)
        rintro e y1 ⟨rfl, l1⟩
        have L1 := Lib.hid l1
        clear l1
        go_wp2_with fail
        (with_reducible refine (rbytes_any d T y1 (HI.out.1.doc.pure L1.out)).mono ?_)
        rintro e y2 ⟨rfl, l2⟩
        have L2 := Lib.hid (L1.out.trans l2)
        clear l2
        go_wp2_with fail
        (with_reducible refine (works16 y2).mono ?_)
        rintro e y3 ⟨rfl, l3⟩
        go_wp2_with fail
        go_ret
        exact ⟨rfl, HI.out.1.kept.trans (L2.out.trans l3)⟩
end Go.Proofs.Ytaalpijohdlabaa
