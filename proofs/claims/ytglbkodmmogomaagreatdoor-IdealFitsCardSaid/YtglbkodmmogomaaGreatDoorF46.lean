/-
  ideal.Feed: its walk.
-/
import Derived.Test.YtglbkodmmogomaaGreatDoorF45
set_option linter.unusedVariables false
set_option linter.unusedSimpArgs false
namespace Go.Proofs.YtglbkodmmogomaaGreatDoor
open Go Go.RowKit
attribute [local irreducible] wpL
set_option maxRecDepth 100000 in
set_option maxHeartbeats 4000000 in
theorem feedM_any (M : Nat → Prop) (j : Jb) (b m : Nat) (Ts : Tabs) (pm : Nat → Nat × Nat) (key val : Int) (w : World) (h : IdlAt w b m j Ts pm) (hX : TabsX w M m Ts pm) (hj : jobOk j = true) (hR : JR j.nodes) (hT : TabsOk j.nodes Ts) (hk : R64 key) (hv : R64 val) :
    Calls Tryz.prog 27 #[.pointer (some ⟨b, 0, none⟩), .int .i64 key, .int .i64 val] w (FeedM M w b m j Ts pm key val) := by
  have hrec : RecOk ⟨1, key, val⟩ := ⟨.small (by simp) (by simp), hk, hv⟩
  obtain ⟨⟨nv, hob, hn⟩, hpar, htb⟩ := h
  obtain ⟨na, cap, rfl, h1, h2, h3⟩ := hn.at
  have h12 : 2 ≤ j.nodes.length ∧ j.nodes.length ≤ 12 := by
    have := (jobOk_get hj).1
    unfold headBad at this
    simp only [Bool.or_eq_false_iff, decide_eq_false_iff_not] at this
    omega
  obtain ⟨h12, h13⟩ := h12
  have x1 : w.cell? ⟨b, 1, none⟩ = some (.slice na j.nodes.length cap) := cells_at hob rfl
  have x2 : w.cell? ⟨b, 2, none⟩ = some (.map (some m)) := cells_at hob rfl
  have hbl : b < w.heap.size := (Array.getElem?_eq_some_iff.1 hob).1
  have hml := htb.lt
  obtain ⟨W1, hmk, hmade, k1⟩ := run_made w j.nodes.length (by omega)
  have FO := Lib.hid (fedOk hj hR hT hrec rfl)
  have HJR := Lib.hid hR
  have hnb : ¬ mapsOf Ts pm b := fun hs => htb.maps_no hs _ _ _ hob
  have hnm : ¬ mapsOf Ts pm m := by
    rintro ⟨i, T, hi, e⟩
    exact (htb.tab i T hi).2 e
  have y1 := k1.cell (fun h => h) x1
  have y2 := k1.cell (fun h => h) x2
  have H := Lib.hid (And.intro hob (And.intro hn (And.intro hpar (And.intro htb (And.intro hmade (And.intro k1 (And.intro hnb (And.intro hnm (And.intro (hX.of (mb := w.heap.size) (Nat.le_refl _)) (And.intro h3 (And.intro hj (And.intro hrec hT))))))))))))
  clear hob hn hpar htb hmade k1 hnb hnm h3 hj hR hT hX
  unfold maxLen at h2
  go_enter Tryz.func27, Tryz.ntmps27
  go_wp2
  clear x1 x2 hmk
  go_loopg [25] j.nodes.length (fun g vi wr => ∃ k : Nat, k ≤ j.nodes.length ∧ vi = .int .i64 (k : Int) ∧ j.nodes.length - k ≤ g ∧ MadeAt wr w.heap.size j.nodes.length (feedK j.nodes ⟨1, key, val⟩ Ts k).1 ∧ TabsX wr (fun q => (M q ∨ w.heap.size ≤ q) ∧ q ≠ w.heap.size) m (feedK j.nodes ⟨1, key, val⟩ Ts k).2 pm ∧ Kept (fun q => mapsOf Ts pm q ∨ q = w.heap.size) W1 wr)
  case atStart => exact ⟨0, by omega, rfl, by omega, H.out.2.2.2.2.1, H.out.2.2.2.2.2.2.2.2.1.pure H.out.2.2.2.2.2.1, Kept.refl _ _⟩
  case round =>
    obtain ⟨k, hkn, rfl, hg, hmd, htx, hkp⟩ := hrel
    obtain ⟨wo, rfl⟩ : ∃ wo : World, wo = wr := ⟨_, rfl⟩
    have kw : Kept (mapsOf Ts pm) w wo := H.out.2.2.2.2.2.1.pure.new hkp (fun i hi hs => by rcases hs with hs | hs; exact hs; omega)
    have y1 := hkp.cell (p := ⟨b, 1, none⟩) (by rintro (h | h); exact H.out.2.2.2.2.2.2.1 h; simp only at h; omega) y1
    have y2 := hkp.cell (p := ⟨b, 2, none⟩) (by rintro (h | h); exact H.out.2.2.2.2.2.2.1 h; simp only at h; omega) y2
    have hml2 := hmd.lt
    by_cases hlt : k < j.nodes.length
    · obtain ⟨d, hd⟩ : ∃ d, j.nodes[k]? = some d := ⟨_, List.getElem?_eq_getElem hlt⟩
      obtain ⟨nb, off, pi, ci, p, cap', rfl, hc, hjn⟩ := H.out.2.2.2.2.2.2.2.2.2.1 k d hd
      have hjw : JNAt wo (jnC d pi ci p cap') d := hjn.kept kw (fun q hq => H.out.2.2.2.1.maps_no hq)
      obtain ⟨c0, c1, c2, c3, c4, c5, c6⟩ := hc.kept kw (fun hs => by
        have := H.out.2.2.2.1.maps_no hs
        have c0 := hc.c0
        unfold World.cell? at c0
        split at c0
        · rename_i e; exact this _ _ _ e
        · cases c0)
      have kA : Kept none' wo (wo.alloc (.cells (jnC d pi ci p cap') 42)) := (Kept.refl _ _).alloc _
      have nB : (wo.alloc (.cells (jnC d pi ci p cap') 42)).heap[wo.heap.size]? = some (.cells (jnC d pi ci p cap') 42 (0, 0)) := heap_alloc_new _ _
      have hF := FO.out k (Nat.le_of_lt hlt)
      have hio := inp_ok H.out.2.2.2.2.2.2.2.2.2.2.1 H.out.2.2.2.2.2.2.2.2.2.2.2.1 rfl hd hF
      have hstep : feedK j.nodes ⟨1, key, val⟩ Ts (k + 1) = _ := feedStep_eq hd ⟨1, key, val⟩ (feedK j.nodes ⟨1, key, val⟩ Ts k)
      have hmay := jobOk_node H.out.2.2.2.2.2.2.2.2.2.2.1 hd
      have hbw : b < wo.heap.size := Nat.lt_of_lt_of_le hbl kw.size
      have hltI : (k : Int) < (j.nodes.length : Int) := by omega
      obtain ⟨st, hst⟩ : ∃ st, feedK j.nodes ⟨1, key, val⟩ Ts k = st := ⟨_, rfl⟩
      rw [hst] at hmd htx hio hstep hF
      have htl : st.2.length = j.nodes.length := hF.tabs.len
      have HL := Lib.hid hF.len
      have HTL := Lib.hid htl
      have HTB := Lib.hid (show ∀ T, st.2.getD k none = some T → st.2[k]? = some (some T) from fun T h => by
        rw [List.getD_eq_getElem?_getD] at h
        cases e : st.2[k]? with
        | none => rw [e] at h; cases h
        | some t => rw [e] at h; exact congrArg some h)
      have HPL := Lib.hid (show st.2.getD k none = none → PlainK d.nod.kind from fun h => by
        cases hs : stateful d.kind with
        | true =>
          obtain ⟨T, hT, _⟩ := hF.tabs.has k d hd hs
          rw [List.getD_eq_getElem?_getD, hT] at h; cases h
        | false =>
          unfold stateful at hs
          simp at hs
          exact hs)
      have MP := Lib.hid (show ∀ T, st.2.getD k none = some T → mapsOf Ts pm (pm k).2 from fun T h => by
        have hs := hF.tabs.not k d hd
        have hst2 : stateful d.kind = true := by
          cases e : stateful d.kind with
          | true => rfl
          | false => have := hs e; rw [HTB.out T h] at this; cases this
        obtain ⟨U, hU, _⟩ := H.out.2.2.2.2.2.2.2.2.2.2.2.2.has k d hd hst2
        exact ⟨k, U, hU, rfl⟩)
      have GH := Lib.hid hg
      have MD := Lib.hid hmd
      have TX := Lib.hid htx
      have KP := Lib.hid hkp
      have KA := Lib.hid kA
      have NB := Lib.hid nB
      have HS := Lib.hid hstep
      have JW := Lib.hid hjw
      have IO := Lib.hid hio
      have HM := Lib.hid hmay
      have hkA : b < (wo.alloc (.cells (jnC d pi ci p cap') 42)).heap.size := Nat.lt_of_lt_of_le hbw kA.size
      clear hg hmd htx hkp hstep hio hmay hF htl hjw hc hjn hst kw
      by_cases hk0 : k = 0
      · have hin : inpOf ⟨1, key, val⟩ d k st.1 = [⟨1, key, val⟩] := if_pos hk0
        have e0 : ¬ (0 < k) := by omega
        have IN := Lib.hid hin
        clear hin hk0 kA nB
        go_wp2_with fail
        obtain ⟨W2, hW2⟩ : ∃ W2, (wo.alloc (.cells (jnC d pi ci p cap') 42)).alloc (.cells #[.int .i64 1, .int .i64 key, .int .i64 val] 68) = W2 := ⟨_, rfl⟩
        have kA2 : Kept none' (wo.alloc (.cells (jnC d pi ci p cap') 42)) W2 := by rw [← hW2]; exact (Kept.refl _ _).alloc _
        have kB : Kept none' wo W2 := KA.out.trans kA2
        have n2 := kA2.heap NB.out (fun h => h)
        have hrd : Reads W2 3 (.slice (some ⟨wo.heap.size + 1, 0, none⟩) 1 1) (recs (inpOf ⟨1, key, val⟩ d k st.1)) := by
          rw [IN.out, ← hW2]
          have := Reads.lit (wo.alloc (.cells (jnC d pi ci p cap') 42)) [.int .i64 1, .int .i64 key, .int .i64 val] 68 3 1 rfl (by unfold maxLen; omega)
          rwa [World.size_alloc] at this
        have hW2' : ((wo.alloc (.cells #[.string d.uid, .int .u8 d.kind, .slice pi d.ins.length ci, .int .u8 d.x.op, .int .i64 d.x.n, .slice p d.x.args.length cap', .int .i64 d.n] 42)).alloc (.cells #[.int .i64 1, .int .i64 key, .int .i64 val] 68)) = W2 := hW2
        try rw [hW2']
        clear c0 c1 c2 c3 c4 c5 c6 e0
        clear hW2 hW2' kA2 hkA
        have YB1 := kB.cell (p := ⟨b, 1, none⟩) (fun h => h) y1
        have YB2 := kB.cell (p := ⟨b, 2, none⟩) (fun h => h) y2
        have mdB := MD.out.pure kB
        have txB := TX.out.pure kB
        have kD : Kept none' W2 W2.drew := (Kept.refl _ _).drew
        have hmB : m < W2.heap.size := Nat.lt_of_lt_of_le hml (Nat.le_trans (Nat.le_trans H.out.2.2.2.2.2.1.size KP.out.size) kB.size)
        have hnb2 : wo.heap.size < W2.heap.size := (Array.getElem?_eq_some_iff.1 n2).1
        have hsb2 : b < W2.heap.size := Nat.lt_of_lt_of_le hbw kB.size
        have hml3 : w.heap.size < W2.heap.size := Nat.lt_of_lt_of_le hml2 kB.size
        have KB := Lib.hid kB
        have MDB := Lib.hid mdB
        have TXB := Lib.hid txB
        have RD := Lib.hid hrd
        have N2 := Lib.hid n2
        have KD := Lib.hid kD
        clear kB mdB txB hrd n2 kD y1 y2
        cases hst : st.2.getD k none with
        | none =>
          have hpl := Lib.hid (HPL.out hst)
          have hout := Lib.hid (show st.2.set k ((st.2.getD k none).map fun _ => (doNode d.nod ((st.2.getD k none).getD []) (inpOf ⟨1, key, val⟩ d k st.1)).2) = st.2 by
            have hk' : st.2[k]? = some none := by
              rw [List.getD_eq_getElem?_getD] at hst
              cases e : st.2[k]? with
              | none => have := List.getElem?_eq_none_iff.1 e; have := HTL.out; omega
              | some t => rw [e] at hst; rw [show t = none from hst]
            rw [hst]
            apply List.ext_getElem?
            intro i
            by_cases hi : k = i
            · subst hi
              rw [hk']
              exact List.getElem?_set_self (by rw [HTL.out]; exact hlt)
            · rw [List.getElem?_set_ne hi])
          have HG := Lib.hid hst
          clear hst
          refine wp_region_eager [0, 1, 2, 3, 4, 5, 6, 7, 8, 9, 10, 11, 12] (fun W => Kept none' W2 W) (by kernel_rfl) (by kernel_rfl) rfl KD.out ?_
          simp only [List.map_cons, List.map_nil, List.getElem?_toArray, List.getElem?_cons_zero, List.getElem?_cons_succ, Option.getD_some]
          iterate 10 (apply wpL_float rfl rfl; (intro W hW; have q2 := hW.cell (p := ⟨b, 2, none⟩) (fun h => h) YB2; have nW := hW.heap N2.out (fun h => h); have m0 := cells_at nW (j := 0) rfl; have m1 := cells_at nW (j := 1) rfl; have m2 := cells_at nW (j := 2) rfl; have m3 := cells_at nW (j := 3) rfl; have m4 := cells_at nW (j := 4) rfl; have m5 := cells_at nW (j := 5) rfl; have m6 := cells_at nW (j := 6) rfl; have hlk := TXB.out.at_.look1 hW (fun h => h) k (by rw [HTL.out]; exact hlt); rw [HG.out] at hlk; simp only [ptrOf, Option.map_none, Option.getD_none] at hlk; clear nW; go_simp; rfl); go_frame)
          apply wpL_loud rfl rfl
          intro K hK
          go_wp2_with fail
          (with_reducible refine (doP_any _ d.nod (.pointer none) _ _ _ ((JW.out.nod.pure KB.out).pure KD.out) hpl.out (RD.out.pure KD.out) IO.out.1 (by have := IO.out.2.2.2.1; omega) ⟨_, rfl⟩).mono ?_)
          rintro e w5 ⟨v, rfl, hv, hvb, k5⟩
          obtain ⟨va, vc, rfl⟩ := hv.slice_form
          go_wp2_with fail
          refine hK _ _ (fun _ => KD.out.trans k5) ?_
          clear hK
          apply wpL_float rfl rfl
          · intro W hW; go_simp; rfl
          go_frame
          have kk := KD.out.trans k5
          have md5 := MDB.out.pure kk
          obtain ⟨⟨u5, hu5⟩, hf5⟩ := md5.free hlt
          have s5 := md5.store (by rw [HL.out]; exact hlt) hv (fun q hq => Nat.lt_of_lt_of_le hml3 (hvb q hq))
          rw [HL.out] at s5
          have Z := Lib.hid (And.intro s5 (And.intro ((TXB.out.pure kk).store (fun h => h.2 rfl) (by omega) s5.2) ((KP.out.new (KB.out.trans kk) (fun _ _ h => h.elim)).new s5.2 (fun i hi hs => .inr hs))))
          clear s5 kk md5 hv hvb k5
          apply wpL_loud rfl rfl
          intro K2 hK2
          go_wp2_with fail
          refine hK2 _ _ (fun h => absurd rfl h) (wpL_bar (by kernel_rfl) ?_)
          clear hK2
          go_wp2_with fail
          go_roundg (j.nodes.length - (k + 1))
          case rel => exact ⟨k + 1, by omega, by go_num, Nat.le_refl _, by rw [HS.out]; simp only [HG.out, Option.getD_none]; exact Z.out.1.1, by rw [HS.out]; show TabsX _ _ _ (st.2.set k _) pm; rw [hout.out]; exact Z.out.2.1, Z.out.2.2⟩
          case measure => have := GH.out; omega
        | some T =>
          have hTk := HTB.out T hst
          have hq := (TXB.out.at_.tab k T hTk).2
          have hqb : (pm k).2 ≠ b := fun e => (TXB.out.at_.tab k T hTk).1.notCells _ _ _ (e ▸ (KB.out.heap (KP.out.heap (H.out.2.2.2.2.2.1.heap H.out.1 (fun h => h)) (by rintro (h | h); exact H.out.2.2.2.2.2.2.1 h; exact absurd h (by omega))) (fun h => h)))
          have hqn : (pm k).2 ≠ wo.heap.size := fun e => (TXB.out.at_.tab k T hTk).1.notCells _ _ _ (e ▸ N2.out)
          have HG := Lib.hid hst
          have HTK := Lib.hid hTk
          have HQ := Lib.hid (And.intro hq (And.intro hqb hqn))
          clear hst hTk hq hqb hqn
          refine wp_region_eager [0, 1, 2, 3, 4, 5, 6, 7, 8, 9, 10, 11, 12] (fun W => Kept (one (pm k).2) W2 W) (by kernel_rfl) (by kernel_rfl) rfl KD.out.pure ?_
          simp only [List.map_cons, List.map_nil, List.getElem?_toArray, List.getElem?_cons_zero, List.getElem?_cons_succ, Option.getD_some]
          iterate 10 (apply wpL_float rfl rfl; (intro W hW; have q2 := hW.cell (p := ⟨b, 2, none⟩) (fun h => HQ.out.2.1 h.symm) YB2; have nW := hW.heap N2.out (fun h => HQ.out.2.2 h.symm); have m0 := cells_at nW (j := 0) rfl; have m1 := cells_at nW (j := 1) rfl; have m2 := cells_at nW (j := 2) rfl; have m3 := cells_at nW (j := 3) rfl; have m4 := cells_at nW (j := 4) rfl; have m5 := cells_at nW (j := 5) rfl; have m6 := cells_at nW (j := 6) rfl; have hlk := TXB.out.at_.look1 hW (fun h => HQ.out.1 h.symm) k (by rw [HTL.out]; exact hlt); rw [HG.out] at hlk; simp only [ptrOf, Option.map_some, Option.getD_some] at hlk; clear nW; go_simp; rfl); go_frame)
          apply wpL_loud rfl rfl
          intro K hK
          go_wp2_with fail
          (with_reducible refine (doM_any _ d.nod (pm k).1 (pm k).2 T (fun q => (M q ∨ w.heap.size ≤ q) ∧ q ≠ w.heap.size) _ _ _ ((JW.out.nod.pure KB.out).pure KD.out) (RD.out.pure KD.out) IO.out.1 (by have := IO.out.2.2.2.1; omega) ((TXB.out.out k T HTK.out).pure KD.out)).mono ?_)
          rintro e w5 ⟨v, rfl, hv, hvb, ht5, k5⟩
          obtain ⟨va, vc, rfl⟩ := hv.slice_form
          go_wp2_with fail
          refine hK _ _ (fun _ => KD.out.pure.trans k5) ?_
          clear hK
          apply wpL_float rfl rfl
          · intro W hW; go_simp; rfl
          go_frame
          have kk : Kept (one (pm k).2) W2 w5 := KD.out.pure.trans k5
          have hqlt : (pm k).2 < w.heap.size := H.out.2.2.2.1.maps_lt (MP.out T HG.out)
          have md5 := MDB.out.keptS kk (fun q hq => by unfold one at hq; omega)
          obtain ⟨⟨u5, hu5⟩, hf5⟩ := md5.free hlt
          have s5 := md5.store (by rw [HL.out]; exact hlt) hv (fun q hq => Nat.lt_of_lt_of_le hml3 (hvb q hq))
          rw [HL.out] at s5
          have tx5 := TXB.out.turn HTK.out kk (ht5.mono (fun q hq _ => by rcases hq with hq | hq; exact hq; exact ⟨.inr (by have : W2.drew.heap.size = W2.heap.size := rfl; omega), by have : W2.drew.heap.size = W2.heap.size := rfl; omega⟩))
          have Z := Lib.hid (And.intro s5 (And.intro (tx5.store (fun h => h.2 rfl) (by omega) s5.2) (((KP.out.new KB.out (fun _ _ h => h.elim)).new kk (fun i hi hs => .inl (by unfold one at hs; rw [hs]; exact MP.out T HG.out))).new s5.2 (fun i hi hs => .inr hs))))
          clear s5 kk md5 hv hvb k5 tx5 ht5
          apply wpL_loud rfl rfl
          intro K2 hK2
          go_wp2_with fail
          refine hK2 _ _ (fun h => absurd rfl h) (wpL_bar (by kernel_rfl) ?_)
          clear hK2
          go_wp2_with fail
          go_roundg (j.nodes.length - (k + 1))
          case rel => exact ⟨k + 1, by omega, by go_num, Nat.le_refl _, by rw [HS.out]; simp only [HG.out, Option.getD_some]; exact Z.out.1.1, by rw [HS.out]; simp only [HG.out, Option.getD_some, Option.map_some]; exact Z.out.2.1, Z.out.2.2⟩
          case measure => have := GH.out; omega
      · have hin : inpOf ⟨1, key, val⟩ d k st.1 = getsL d.kind (insOf d st.1) := if_neg hk0
        have e0 : 0 < k := by omega
        have IN := Lib.hid hin
        have HK0 := Lib.hid hk0
        have hio2 := Lib.hid (IO.out.2.2.2.2 hk0)
        have hri : Reads wo 1 (.slice pi d.ins.length ci) (ints d.ins) := by
          obtain ⟨pi', ci', p', cap2, e, _, h3, _⟩ := JW.out
          have := congrArg (fun a => a[2]?) e
          simp at this
          obtain ⟨rfl, rfl⟩ := this
          exact h3
        have RI := Lib.hid hri.intAt
        have hlci : d.ins.length ≤ 1000 := by have := HM.out.ins; omega
        clear hin hk0 kA nB hri
        go_wp2_with fail
        clear c0 c1 c2 c3 c4 c5 c6 e0
        obtain ⟨WA, hWA⟩ : ∃ WA, (wo.alloc (.cells (jnC d pi ci p cap') 42)).alloc (.cells #[.int .i64 1, .int .i64 key, .int .i64 val] 68) = WA := ⟨_, rfl⟩
        have hWA' : ((wo.alloc (.cells #[.string d.uid, .int .u8 d.kind, .slice pi d.ins.length ci, .int .u8 d.x.op, .int .i64 d.x.n, .slice p d.x.args.length cap', .int .i64 d.n] 42)).alloc (.cells #[.int .i64 1, .int .i64 key, .int .i64 val] 68)) = WA := hWA
        have kA2 : Kept none' (wo.alloc (.cells (jnC d pi ci p cap') 42)) WA := by rw [← hWA]; exact (Kept.refl _ _).alloc _
        have kA3 := KA.out.trans kA2
        have n3 := kA2.heap NB.out (fun h => h)
        clear KA NB hkA
        have KA := Lib.hid kA3
        have NB := Lib.hid n3
        try rw [hWA']
        clear hWA hWA' kA2 kA3 n3
        go_loopg [11, 45] d.ins.length (fun g vr vi wq => ∃ (i : Nat) (vs : List Value), i ≤ d.ins.length ∧ vi = .int .i64 (i : Int) ∧ d.ins.length - i ≤ g ∧ wq.ownsRow WA.heap.size 60 1 vr i vs ∧ (∀ (q : Nat) (u : Value), vs[q]? = some u → ∃ L, (insOf d st.1)[q]? = some L ∧ Reads WA 3 u (recs L)) ∧ Kept none' WA wq)
        case atStart => exact ⟨0, [], by omega, rfl, by omega, World.ownsRow_nil _ _ _ _, fun q u h => by simp at h, Kept.refl _ _⟩
        case round =>
          obtain ⟨i, vs, hin, rfl, hgi, hown, hvs, hkq⟩ := hrel
          obtain ⟨ova, ovc, rfl⟩ := owns_slice hown
          by_cases hil : i < d.ins.length
          · obtain ⟨x, hx⟩ : ∃ x, d.ins[i]? = some x := ⟨_, List.getElem?_eq_getElem hil⟩
            obtain ⟨hx0, hxk⟩ := HM.out.low x (List.mem_of_getElem? hx)
            obtain ⟨q, rfl⟩ := Int.eq_ofNat_of_zero_le hx0
            obtain ⟨bi, offi, rfl, hci⟩ := RI.out.resolve_left (fun h => by rw [h] at hx; cases hx)
            have kq : Kept none' wo wr := KA.out.trans hkq
            have z0 := kq.cell (fun h => h) (hci i _ hx)
            obtain ⟨L, hL⟩ : ∃ L, st.1[q]? = some L := ⟨_, List.getElem?_eq_getElem (by rw [HL.out]; omega)⟩
            obtain ⟨u, hu, hru, hub⟩ := (MD.out.pure kq).cell (by rw [HL.out]; omega) hL
            obtain ⟨ua, uc, rfl⟩ := hru.slice_form
            obtain ⟨u0, hu0, hru0, _⟩ := (MD.out.pure KA.out).cell (by rw [HL.out]; omega) hL
            have hqn : (q : Int) < (j.nodes.length : Int) := by omega
            obtain ⟨va', w', g1, g2, g3⟩ := push_row hown (u := .slice ua L.length uc) rfl hkq.size (by omega)
            obtain ⟨a2, cc2, rfl⟩ := owns_slice g2
            have hLi : (insOf d st.1)[i]? = some L := by
              unfold insOf
              rw [List.getElem?_map, hx]
              simp only [Option.map_some, Int.toNat_natCast, List.getD_eq_getElem?_getD, hL, Option.getD_some]
            have hlen : vs.length = i := by have := hown.1; omega
            have Z := Lib.hid (And.intro g1 (And.intro g2 (And.intro (hkq.new g3 (fun k hk hs => by omega)) (And.intro hgi (show ∀ (q : Nat) (u : Value), (vs ++ [Value.slice ua L.length uc])[q]? = some u → ∃ L, (insOf d st.1)[q]? = some L ∧ Reads WA 3 u (recs L) from by
              intro q2 u2 hu2
              by_cases hq2 : q2 < vs.length
              · rw [List.getElem?_append_left hq2] at hu2
                exact hvs q2 u2 hu2
              · have : q2 = vs.length := by have := (List.getElem?_eq_some_iff.1 hu2).1; simp at this; omega
                subst this
                rw [List.getElem?_append_right (Nat.le_refl _), Nat.sub_self] at hu2
                cases hu2
                refine ⟨L, by rw [hlen]; exact hLi, ?_⟩
                have he : some u0 = some (Value.slice ua L.length uc) := by rw [← hu, ← hkq.cell (fun h => h) hu0]
                cases he
                exact hru0)))))
            clear g1 g2 g3 hkq hown hvs kq hci hru hub hu0 hru0 hLi hlen hL hgi
            go_wp2_with (at_builtin; refine wpList_app1 rfl (.tmp 49) (.tmp 54) 142 rfl _ _ _ rfl rfl Z.out.1 ?_)
            go_roundg (d.ins.length - (i + 1))
            case rel => exact ⟨i + 1, _, by omega, by go_num, Nat.le_refl _, Z.out.2.1, Z.out.2.2.2.2, Z.out.2.2.1⟩
            case measure => have := Z.out.2.2.2.1; omega
          · have hie : i = d.ins.length := by omega
            subst hie
            have hlen : vs.length = d.ins.length := by have := hown.1; omega
            have hr2 : Rows2 wr (.slice ova d.ins.length ovc) (insOf d st.1) := by
              refine ⟨vs, by rw [hlen]; unfold insOf; rw [List.length_map], Reads.of_owns hown, fun q u L hu hL => ?_⟩
              obtain ⟨L', h1, h2⟩ := hvs q u hu
              rw [hL] at h1
              cases h1
              exact h2.pure hkq
            have kq : Kept none' wo wr := KA.out.trans hkq
            have cg := gets_any _ d.nod _ (insOf d st.1) wr (JW.out.nod.pure kq) hr2 (by have := hio2.out.1; omega) (by have := hio2.out.2; omega)
            have nq := hkq.heap NB.out (fun h => h)
            have m0 := cells_at nq (j := 0) rfl
            have m1 := cells_at nq (j := 1) rfl
            have m2 := cells_at nq (j := 2) rfl
            have m3 := cells_at nq (j := 3) rfl
            have m4 := cells_at nq (j := 4) rfl
            have m5 := cells_at nq (j := 5) rfl
            have m6 := cells_at nq (j := 6) rfl
            have KQ := Lib.hid (And.intro kq nq)
            clear hr2 hown hvs hkq kq nq
            go_wp2_with fail
            (with_reducible refine cg.mono ?_)
            clear cg m0 m1 m2 m3 m4 m5 m6
            rintro e W2 ⟨iv, rfl, hrd0, hblk, k2⟩
            obtain ⟨iva, ivc, rfl⟩ := hrd0.slice_form
            have kB : Kept none' wo W2 := KQ.out.1.trans k2
            have n2 := k2.heap KQ.out.2 (fun h => h)
            have hrd : Reads W2 3 (.slice iva (getsL d.nod.kind (insOf d st.1)).length ivc) (recs (inpOf ⟨1, key, val⟩ d k st.1)) := by rw [IN.out]; exact hrd0
            clear hblk k2 hrd0
            go_wp2_with fail
            have YB1 := kB.cell (p := ⟨b, 1, none⟩) (fun h => h) y1
            have YB2 := kB.cell (p := ⟨b, 2, none⟩) (fun h => h) y2
            have mdB := MD.out.pure kB
            have txB := TX.out.pure kB
            have kD : Kept none' W2 W2.drew := (Kept.refl _ _).drew
            have hmB : m < W2.heap.size := Nat.lt_of_lt_of_le hml (Nat.le_trans (Nat.le_trans H.out.2.2.2.2.2.1.size KP.out.size) kB.size)
            have hnb2 : wo.heap.size < W2.heap.size := (Array.getElem?_eq_some_iff.1 n2).1
            have hsb2 : b < W2.heap.size := Nat.lt_of_lt_of_le hbw kB.size
            have hml3 : w.heap.size < W2.heap.size := Nat.lt_of_lt_of_le hml2 kB.size
            have KB := Lib.hid kB
            have MDB := Lib.hid mdB
            have TXB := Lib.hid txB
            have RD := Lib.hid hrd
            have N2 := Lib.hid n2
            have KD := Lib.hid kD
            clear kB mdB txB hrd n2 kD y1 y2
            cases hst : st.2.getD k none with
            | none =>
              have hpl := Lib.hid (HPL.out hst)
              have hout := Lib.hid (show st.2.set k ((st.2.getD k none).map fun _ => (doNode d.nod ((st.2.getD k none).getD []) (inpOf ⟨1, key, val⟩ d k st.1)).2) = st.2 by
                have hk' : st.2[k]? = some none := by
                  rw [List.getD_eq_getElem?_getD] at hst
                  cases e : st.2[k]? with
                  | none => have := List.getElem?_eq_none_iff.1 e; have := HTL.out; omega
                  | some t => rw [e] at hst; rw [show t = none from hst]
                rw [hst]
                apply List.ext_getElem?
                intro i
                by_cases hi : k = i
                · subst hi
                  rw [hk']
                  exact List.getElem?_set_self (by rw [HTL.out]; exact hlt)
                · rw [List.getElem?_set_ne hi])
              have HG := Lib.hid hst
              clear hst
              refine wp_region_eager [0, 1, 2, 3, 4, 5, 6, 7, 8, 9, 10, 11, 12] (fun W => Kept none' W2 W) (by kernel_rfl) (by kernel_rfl) rfl KD.out ?_
              simp only [List.map_cons, List.map_nil, List.getElem?_toArray, List.getElem?_cons_zero, List.getElem?_cons_succ, Option.getD_some]
              iterate 10 (apply wpL_float rfl rfl; (intro W hW; have q2 := hW.cell (p := ⟨b, 2, none⟩) (fun h => h) YB2; have nW := hW.heap N2.out (fun h => h); have m0 := cells_at nW (j := 0) rfl; have m1 := cells_at nW (j := 1) rfl; have m2 := cells_at nW (j := 2) rfl; have m3 := cells_at nW (j := 3) rfl; have m4 := cells_at nW (j := 4) rfl; have m5 := cells_at nW (j := 5) rfl; have m6 := cells_at nW (j := 6) rfl; have hlk := TXB.out.at_.look1 hW (fun h => h) k (by rw [HTL.out]; exact hlt); rw [HG.out] at hlk; simp only [ptrOf, Option.map_none, Option.getD_none] at hlk; clear nW; go_simp; rfl); go_frame)
              apply wpL_loud rfl rfl
              intro K hK
              go_wp2_with fail
              (with_reducible refine (doP_any _ d.nod (.pointer none) _ _ _ ((JW.out.nod.pure KB.out).pure KD.out) hpl.out (RD.out.pure KD.out) IO.out.1 (by have := IO.out.2.2.2.1; omega) ⟨_, rfl⟩).mono ?_)
              rintro e w5 ⟨v, rfl, hv, hvb, k5⟩
              obtain ⟨va, vc, rfl⟩ := hv.slice_form
              go_wp2_with fail
              refine hK _ _ (fun _ => KD.out.trans k5) ?_
              clear hK
              apply wpL_float rfl rfl
              · intro W hW; go_simp; rfl
              go_frame
              have kk := KD.out.trans k5
              have md5 := MDB.out.pure kk
              obtain ⟨⟨u5, hu5⟩, hf5⟩ := md5.free hlt
              have s5 := md5.store (by rw [HL.out]; exact hlt) hv (fun q hq => Nat.lt_of_lt_of_le hml3 (hvb q hq))
              rw [HL.out] at s5
              have Z := Lib.hid (And.intro s5 (And.intro ((TXB.out.pure kk).store (fun h => h.2 rfl) (by omega) s5.2) ((KP.out.new (KB.out.trans kk) (fun _ _ h => h.elim)).new s5.2 (fun i hi hs => .inr hs))))
              clear s5 kk md5 hv hvb k5
              apply wpL_loud rfl rfl
              intro K2 hK2
              go_wp2_with fail
              refine hK2 _ _ (fun h => absurd rfl h) (wpL_bar (by kernel_rfl) ?_)
              clear hK2
              go_wp2_with fail
              go_roundg (j.nodes.length - (k + 1))
              case rel => exact ⟨k + 1, by omega, by go_num, Nat.le_refl _, by rw [HS.out]; simp only [HG.out, Option.getD_none]; exact Z.out.1.1, by rw [HS.out]; show TabsX _ _ _ (st.2.set k _) pm; rw [hout.out]; exact Z.out.2.1, Z.out.2.2⟩
              case measure => have := GH.out; omega
            | some T =>
              have hTk := HTB.out T hst
              have hq := (TXB.out.at_.tab k T hTk).2
              have hqb : (pm k).2 ≠ b := fun e => (TXB.out.at_.tab k T hTk).1.notCells _ _ _ (e ▸ (KB.out.heap (KP.out.heap (H.out.2.2.2.2.2.1.heap H.out.1 (fun h => h)) (by rintro (h | h); exact H.out.2.2.2.2.2.2.1 h; exact absurd h (by omega))) (fun h => h)))
              have hqn : (pm k).2 ≠ wo.heap.size := fun e => (TXB.out.at_.tab k T hTk).1.notCells _ _ _ (e ▸ N2.out)
              have HG := Lib.hid hst
              have HTK := Lib.hid hTk
              have HQ := Lib.hid (And.intro hq (And.intro hqb hqn))
              clear hst hTk hq hqb hqn
              refine wp_region_eager [0, 1, 2, 3, 4, 5, 6, 7, 8, 9, 10, 11, 12] (fun W => Kept (one (pm k).2) W2 W) (by kernel_rfl) (by kernel_rfl) rfl KD.out.pure ?_
              simp only [List.map_cons, List.map_nil, List.getElem?_toArray, List.getElem?_cons_zero, List.getElem?_cons_succ, Option.getD_some]
              iterate 10 (apply wpL_float rfl rfl; (intro W hW; have q2 := hW.cell (p := ⟨b, 2, none⟩) (fun h => HQ.out.2.1 h.symm) YB2; have nW := hW.heap N2.out (fun h => HQ.out.2.2 h.symm); have m0 := cells_at nW (j := 0) rfl; have m1 := cells_at nW (j := 1) rfl; have m2 := cells_at nW (j := 2) rfl; have m3 := cells_at nW (j := 3) rfl; have m4 := cells_at nW (j := 4) rfl; have m5 := cells_at nW (j := 5) rfl; have m6 := cells_at nW (j := 6) rfl; have hlk := TXB.out.at_.look1 hW (fun h => HQ.out.1 h.symm) k (by rw [HTL.out]; exact hlt); rw [HG.out] at hlk; simp only [ptrOf, Option.map_some, Option.getD_some] at hlk; clear nW; go_simp; rfl); go_frame)
              apply wpL_loud rfl rfl
              intro K hK
              go_wp2_with fail
              (with_reducible refine (doM_any _ d.nod (pm k).1 (pm k).2 T (fun q => (M q ∨ w.heap.size ≤ q) ∧ q ≠ w.heap.size) _ _ _ ((JW.out.nod.pure KB.out).pure KD.out) (RD.out.pure KD.out) IO.out.1 (by have := IO.out.2.2.2.1; omega) ((TXB.out.out k T HTK.out).pure KD.out)).mono ?_)
              rintro e w5 ⟨v, rfl, hv, hvb, ht5, k5⟩
              obtain ⟨va, vc, rfl⟩ := hv.slice_form
              go_wp2_with fail
              refine hK _ _ (fun _ => KD.out.pure.trans k5) ?_
              clear hK
              apply wpL_float rfl rfl
              · intro W hW; go_simp; rfl
              go_frame
              have kk : Kept (one (pm k).2) W2 w5 := KD.out.pure.trans k5
              have hqlt : (pm k).2 < w.heap.size := H.out.2.2.2.1.maps_lt (MP.out T HG.out)
              have md5 := MDB.out.keptS kk (fun q hq => by unfold one at hq; omega)
              obtain ⟨⟨u5, hu5⟩, hf5⟩ := md5.free hlt
              have s5 := md5.store (by rw [HL.out]; exact hlt) hv (fun q hq => Nat.lt_of_lt_of_le hml3 (hvb q hq))
              rw [HL.out] at s5
              have tx5 := TXB.out.turn HTK.out kk (ht5.mono (fun q hq _ => by rcases hq with hq | hq; exact hq; exact ⟨.inr (by have : W2.drew.heap.size = W2.heap.size := rfl; omega), by have : W2.drew.heap.size = W2.heap.size := rfl; omega⟩))
              have Z := Lib.hid (And.intro s5 (And.intro (tx5.store (fun h => h.2 rfl) (by omega) s5.2) (((KP.out.new KB.out (fun _ _ h => h.elim)).new kk (fun i hi hs => .inl (by unfold one at hs; rw [hs]; exact MP.out T HG.out))).new s5.2 (fun i hi hs => .inr hs))))
              clear s5 kk md5 hv hvb k5 tx5 ht5
              apply wpL_loud rfl rfl
              intro K2 hK2
              go_wp2_with fail
              refine hK2 _ _ (fun h => absurd rfl h) (wpL_bar (by kernel_rfl) ?_)
              clear hK2
              go_wp2_with fail
              go_roundg (j.nodes.length - (k + 1))
              case rel => exact ⟨k + 1, by omega, by go_num, Nat.le_refl _, by rw [HS.out]; simp only [HG.out, Option.getD_some]; exact Z.out.1.1, by rw [HS.out]; simp only [HG.out, Option.getD_some, Option.map_some]; exact Z.out.2.1, Z.out.2.2⟩
              case measure => have := GH.out; omega
    · have e1 : k = j.nodes.length := by omega
      subst e1
      have hF := FO.out j.nodes.length (Nat.le_refl _)
      obtain ⟨n1, hn1⟩ : ∃ n1, j.nodes.length = n1 + 1 := ⟨j.nodes.length - 1, by omega⟩
      obtain ⟨L, hL⟩ : ∃ L, (feedK j.nodes ⟨1, key, val⟩ Ts j.nodes.length).1[n1]? = some L := ⟨_, List.getElem?_eq_getElem (by rw [hF.len]; omega)⟩
      obtain ⟨u, hu, hru, hub⟩ := hmd.cell (by rw [hF.len]; omega) hL
      obtain ⟨ua, uc, rfl⟩ := hru.slice_form
      have hfeed : (feedP j.nodes Ts key val).1 = smerge L := by
        unfold feedP
        simp only
        rw [show j.nodes.length - 1 = n1 by omega, List.getD_eq_getElem?_getD, hL]
        rfl
      have hfew : L.length ≤ 64 := by
        have := (feedP_ok H.out.2.2.2.2.2.2.2.2.2.2.1 HJR.out H.out.2.2.2.2.2.2.2.2.2.2.2.2 hrec.key hrec.val).2.2.2
        rw [hfeed, smerge_length] at this
        exact this
      have cm := merge_any _ [L] _ (Rows2.one hru) (by simp; omega)
      rw [show ([L] : List (List Rec)).flatten = L by simp] at cm
      have F := Lib.hid (show ∀ v w', Kept none' wo w' → Reads w' 3 v (recs (smerge L)) → (∀ q, Value.blk v = some q → wo.heap.size ≤ q) → FeedM M w b m j Ts pm key val (.returned v) w' from fun v w' hk h1 h2 =>
        ⟨v, rfl, by rw [hfeed]; exact h1, fun q hq => Nat.le_trans (Nat.le_of_lt hml2) (h2 q hq), ⟨⟨_, hk.heap (kw.heap H.out.1 H.out.2.2.2.2.2.2.1) (fun h => h), (H.out.2.1.kept kw (fun q hq => H.out.2.2.2.1.maps_no hq)).pure hk⟩, H.out.2.2.1, htx.at_.pure hk⟩, kw.new hk (fun _ _ h => h.elim), (htx.pure hk).mono (fun k hk _ => hk.1)⟩)
      have ew : IntKind.i64.wrap ((j.nodes.length : Int) - 1) = (n1 : Int) := by rw [IntKind.wrap_i64]; omega
      have ew2 : ((j.nodes.length : Int) - 1) = (n1 : Int) := by omega
      have hn2 : (n1 : Int) < (j.nodes.length : Int) := by omega
      clear hg hmd htx hkp kw hF hru hub hL hfeed
      go_wp2_with fail
      (with_reducible refine cm.mono ?_)
      clear cm
      rintro e w2 ⟨v, rfl, hv, hvb, k2⟩
      have F2 := Lib.hid (F.out v w2 (((Kept.refl none' wo).alloc _).trans k2) hv (fun q hq => by have := hvb q hq; rw [World.size_alloc] at this; omega))
      obtain ⟨va, vc, rfl⟩ := hv.slice_form
      clear hv hvb k2 F
      go_wp2_with fail
      go_ret
      exact F2.out
theorem feed_any (j : Jb) (b m : Nat) (Ts : Tabs) (pm : Nat → Nat × Nat) (key val : Int) (w : World) (h : IdlAt w b m j Ts pm) (hj : jobOk j = true) (hR : JR j.nodes) (hT : TabsOk j.nodes Ts) (hk : R64 key) (hv : R64 val) :
    Calls Tryz.prog 27 #[.pointer (some ⟨b, 0, none⟩), .int .i64 key, .int .i64 val] w (FeedQ w b m j Ts pm key val) :=
  (feedM_any AnyB j b m Ts pm key val w h (TabsX.any h.tabs) hj hR hT hk hv).mono (fun _ _ ⟨v, h1, h2, h3, h4, h5, _⟩ => ⟨v, h1, h2, h3, h4, h5⟩)
end Go.Proofs.YtglbkodmmogomaaGreatDoor
