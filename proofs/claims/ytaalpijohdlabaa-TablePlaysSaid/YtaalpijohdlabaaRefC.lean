/-
  The document's tables: Put, its walk.
-/
import Derived.Test.YtaalpijohdlabaaRefB
namespace Go.Proofs.Ytaalpijohdlabaa
open Go Go.RowKit
attribute [local irreducible] wpL
theorem Reads.ne_obj {w : World} {b E k n z : Nat} {x : Option Addr} {f : Nat × Nat} {v : Value} {cs : List Value} (h : Reads w k v cs) (hb : w.heap[b]? = some (.cells #[.slice x n z] E f)) (hk : 0 < k) (h0 : ∀ y, cs[0]? = some y → ∃ q m, y = .int q m) : ∀ bb, Value.blk v = some bb → bb ≠ b := by
  intro bb hbb e
  subst e
  obtain ⟨a, m, cap, rfl, h1, h2, h3, h4⟩ := h
  have hm : m ≠ 0 := by intro e; subst e; cases a <;> simp [Value.blk] at hbb
  have hlen : 0 < cs.length := by rw [h3]; exact Nat.mul_pos (by omega) hk
  rcases h4 with rfl | ⟨b', off, rfl, h4⟩
  · simp at hlen
  · simp [Value.blk, hm] at hbb
    subst hbb
    obtain ⟨y, hy⟩ : ∃ y, cs[0]? = some y := ⟨_, List.getElem?_eq_getElem hlen⟩
    obtain ⟨q, i, rfl⟩ := h0 y hy
    have h5 := h4 0 _ hy
    simp [World.cell?, hb] at h5
    cases off with
    | zero => simp at h5
    | succ o => simp at h5
theorem owns_apart {w : World} {b e s n b' e' s' n' : Nat} {v v' : Value} {xs xs' : List Value} (h : w.ownsRow b e s v n xs) (h' : w.ownsRow b' e' s' v' n' xs') (hne : e ≠ e') {k : Nat} (hk : v.ownBlock = some k) (hk' : v'.ownBlock = some k) : False := by
  rcases h.2 with ⟨rfl, _⟩ | ⟨g, cap, cur, rfl, _, h2, _⟩
  · cases hk
  · rcases h'.2 with ⟨rfl, _⟩ | ⟨g', cap', cur', rfl, _, h2', _⟩
    · cases hk'
    · cases hk
      cases hk'
      rw [h2] at h2'
      injection h2' with h2'
      injection h2' with _ h3 _
      exact hne h3
theorem RRows.first {w : World} {cs : List Value} {T : Tab} (h : RRows w cs T) : ∀ y, cs[0]? = some y → ∃ q m, y = .int q m := by
  intro y hy
  cases T with
  | nil =>
    have h1 := h.1
    simp at h1
    subst h1
    cases hy
  | cons p r =>
    have h1 := (h.2 0 p rfl).1
    rw [Nat.zero_mul, hy] at h1
    cases h1
    exact ⟨_, _, rfl⟩
def RPutQ (w : World) (b : Nat) (T : Tab) (k : Int) (c : Cell) (e : Ending) (w' : World) : Prop :=
  e = .returned (.int .i64 (putE T k c.2.length)) ∧ RTabAt w' b (putT T k c) ∧ Kept (one b) w w'
set_option maxRecDepth 100000 in
set_option maxHeartbeats 4000000 in
theorem rput_any (b : Nat) (T : Tab) (k : Int) (c : Cell) (v : Value) (w : World) (h : RTabAt w b T) (hk : R64 k) (hc1 : R64 c.1) (hc2 : ∀ x ∈ c.2, R64 x) (hlen : c.2.length ≤ 17592186044416) (hr : Reads w 1 v (ints c.2)) :
    Calls Try.prog 41 #[.pointer (some ⟨b, 0, none⟩), .int .i64 k, .agg #[.int .i64 c.1, v]] w (RPutQ w b T k c) := by
  obtain ⟨va, vc, rfl, hv1, hv2, _⟩ := hr.at
  obtain ⟨⟨tv, hobj, hrt⟩, hok⟩ := h
  obtain ⟨pa, pcap, rfl, hc1', hc2', _⟩ := hrt.parts
  have hT := hok.len
  have hfl := tfind_le k T
  have c0 : w.cell? ⟨b, 0, none⟩ = some (.slice pa T.length pcap) := cells_at hobj rfl
  have c00 := Lib.hid c0
  have hbl := block_lt_of_cell c0
  simp only [] at hbl
  have HT := Lib.hid (show RTabAt w b T from ⟨⟨_, hobj, hrt⟩, hok⟩)
  have HRT := Lib.hid hrt
  have HC := Lib.hid (And.intro hk (And.intro hc1 hc2))
  have hr := Lib.hid hr
  unfold maxLen at hc2' hv2
  clear hobj hrt hok hk hc1 hc2
  by_cases h16 : 16 < c.2.length
  · have hE : putE T k c.2.length = 2 := by unfold putE; rw [if_pos h16]
    have hTT : putT T k c = T := by unfold putT; rw [hE]; rfl
    have F := Lib.hid (show RPutQ w b T k c (.returned (.int .i64 2)) (w.alloc (.cells #[.int .i64 c.1, .slice va c.2.length vc] 29)) from ⟨by rw [hE], by rw [hTT]; exact HT.out.pure ((Kept.refl _ _).alloc _), (Kept.refl _ _).alloc _⟩)
    have h16b : (16 : Int) < (c.2.length : Int) := by omega
    clear hE hTT
    go_enter Try.func41, Try.ntmps41
    go_wp2_with fail
    go_ret
    exact F.out
  · have h16b : ¬ (16 : Int) < (c.2.length : Int) := by omega
    go_enter Try.func41, Try.ntmps41
    go_wp2_with fail
    obtain ⟨W0, hW0⟩ : ∃ W0, w.alloc (.cells #[.int .i64 c.1, .slice va c.2.length vc] 29) = W0 := ⟨_, rfl⟩
    have k0 : Kept none' w W0 := by rw [← hW0]; exact (Kept.refl _ _).alloc _
    have d0 : W0.cell? ⟨w.heap.size, 0, none⟩ = some (.int .i64 c.1) := by rw [← hW0]; simp
    have d1 : W0.cell? ⟨w.heap.size, 1, none⟩ = some (.slice va c.2.length vc) := by rw [← hW0]; simp
    rw [hW0]
    have cc := find_any b T k W0 (HT.out.pure k0) HC.out.1
    (with_reducible refine cc.mono ?_)
    clear cc
    rintro e w1 ⟨rfl, k1'⟩
    have d0 := k1'.cell (p := ⟨w.heap.size, 0, none⟩) (fun h => h) d0
    have d1 := k1'.cell (p := ⟨w.heap.size, 1, none⟩) (fun h => h) d1
    have k1 : Kept none' w w1 := k0.trans k1'
    have c0 := k1.cell (p := ⟨b, 0, none⟩) (fun h => h) c0
    rw [← hW0] at k1'
    have HK1 := Lib.hid k1'
    have hbl1 : b < w1.heap.size := Nat.lt_of_lt_of_le hbl k1.size
    have hwl1 : w.heap.size < w1.heap.size := by have := k1'.size; simp at this; omega
    clear k0 k1' hW0
    cases his : (tget T k).isSome with
    | true =>
      have hne : tget T k ≠ none := by intro e; rw [e] at his; cases his
      have HIS2 := Lib.hid (show tfind k T < T.length by
        have h1 := tfind_is (k := k) HT.out.ok.rises
        rw [his] at h1
        cases hx : T[tfind k T]? with
        | none => rw [hx] at h1; cases h1
        | some p => exact (List.getElem?_eq_some_iff.1 hx).1)
      have HNE := Lib.hid (And.intro his hne)
      clear his hne
      have i2le : (tfind k T + 1) ≤ T.length := by
        have := HIS2.out; omega
      obtain ⟨cs, hcs1, hcs2⟩ := HRT.out
      have hcsw1 := hcs1.pure k1
      have hcl0 := hcs2.1
      have e1 := slk_take (P := Try.prog) Try.underlying72 (size118 w1) hcsw1 hfl
      have own0 := World.ownsRow_nil w1 w1.heap.size 118 3
      obtain ⟨v1, n1, w2, a1, a2, a3, a4⟩ := rtap_any (base := w1.heap.size) (n := 0) own0 e1.2 (hcs2.take (tfind k T)).cells (Nat.le_refl _) (by rw [List.length_nil, List.length_take]; omega)
      obtain ⟨v1a, v1c, rfl⟩ := owns_slice a2
      have k12 : Kept none' w1 w2 := Kept.grown a4 (fun j hj _ => by cases hj)
      have hrd0 := hr.out.pure (((Kept.refl none' w).alloc (.cells #[.int .i64 c.1, .slice va c.2.length vc] 29)).trans (HK1.out.trans k12))
      have d0 := k12.cell (p := ⟨w.heap.size, 0, none⟩) (fun h => h) d0
      have d1 := k12.cell (p := ⟨w.heap.size, 1, none⟩) (fun h => h) d1
      have c0x := k12.cell (p := ⟨b, 0, none⟩) (fun h => h) c0
      have A1 := Lib.hid a1
      have E1 := e1.1
      have Q2 := Lib.hid (And.intro a2 (And.intro a3 (And.intro k12 (And.intro hrd0 (And.intro hcs1 (And.intro hcs2 hcl0))))))
      clear a1 a2 a3 a4 e1 k12 hrd0 own0 hcs1 hcs2 hcl0 hcsw1
      go_wp2_with (at_builtin; refine wpList_append_run rfl (.tmp 29) (.tmp 35) 72 rfl (.slice none 0 0) (.slice pa (tfind k T) pcap) _ rfl rfl A1.out ?_)
      refine wp_region_eager [0, 1, 2, 3, 5, 6, 4, 7, 8, 9, 10, 11, 12] (fun W => Kept (fun j => w1.heap.size ≤ j) w2 W) (by kernel_rfl) (by kernel_rfl) rfl (Kept.refl _ _).drew ?_
      simp only [List.map_cons, List.map_nil, List.getElem?_toArray, List.getElem?_cons_zero, List.getElem?_cons_succ, Option.getD_some]
      iterate 6 (apply wpL_float rfl rfl; (intro W hW; have z0 := hW.cell (fun h => Nat.not_le.2 hwl1 h) d0; have z1 := hW.cell (fun h => Nat.not_le.2 hwl1 h) d1; go_simp; rfl); go_frame)
      have kd : Kept none' w2 w2.drew := (Kept.refl _ _).drew
      apply wpL_loud rfl rfl
      intro K hK
      go_wp2_with fail
      have k4 : Kept none' w2 (w2.drew.alloc (.cells #[] 2)) := kd.alloc _
      refine hK _ _ (fun _ => k4.pure) ?_
      clear hK
      apply wpL_loud rfl rfl
      intro K hK
      obtain ⟨i2, hi2, hz2, hs2, hb2⟩ := info_parts Try.info2
      obtain ⟨v7, n7, w7, b1, b2, b3, b4, b5⟩ := run_append_reads (P := Try.prog) w2.heap.size 22 22 2 i2 (.int .i64 0) 1 8 Try.underlying22 hi2 hz2 hs2 hb2 rfl (by omega) (World.ownsRow_made w2.drew #[] 0 (Nat.le_refl _) (Nat.zero_le _) rfl : (w2.drew.alloc (.cells #[] 2)).ownsRow w2.heap.size 2 1 (.slice (some ⟨w2.heap.size, 0, none⟩) 0 0) 0 []) (Q2.out.2.2.2.1.pure k4) (ints_one c.2) (by simp; omega) (by unfold maxLen; simp; omega) k4.size
      obtain ⟨v7a, v7c, rfl⟩ := owns_slice b2
      have k7 : Kept none' w2 w7 := k4.new (Kept.grown (S := fun j => w2.heap.size ≤ j) b4 (fun j hj _ => by cases hj; exact Nat.le_refl _)) (fun j hj hs => by omega)
      refine wp_append_run (.tmp 41) (.tmp 43) 22 rfl (.slice (some ⟨w2.heap.size, 0, none⟩) 0 0) (.slice va c.2.length vc) _ rfl rfl b1 ?_
      refine hK _ _ (fun _ => k7.pure) ?_
      clear hK
      have R7 := Lib.hid (Reads.of_owns b2)
      have O7 := Lib.hid b2
      clear b1 b2 b3 b4 b5 hi2 hz2 hs2 hb2
      iterate 2 (first | (apply wpL_skip rfl; go_frame) | (apply wpL_float rfl rfl; (intro W hW; go_simp; rfl); go_frame))
      apply wpL_loud rfl rfl
      intro K hK
      go_wp2_with fail
      have k10 : Kept none' w2 (w7.alloc (.cells #[.int .i64 k, .int .i64 c.1, .slice v7a n7 v7c] 118)) := k7.alloc _
      refine hK _ _ (fun _ => k10.pure) ?_
      clear hK
      apply wpL_loud rfl rfl
      intro K hK
      have rr1 : RRows (w7.alloc (.cells #[.int .i64 k, .int .i64 c.1, .slice v7a n7 v7c] 118)) [.int .i64 k, .int .i64 c.1, .slice v7a n7 v7c] [(k, (c.1, c.2))] := RRows.one (by have := R7.out.pure ((Kept.refl none' w7).alloc (.cells #[.int .i64 k, .int .i64 c.1, .slice v7a n7 v7c] 118)); simpa using this)
      have rd1 := Reads.lit w7 [.int .i64 k, .int .i64 c.1, .slice v7a n7 v7c] 118 3 1 rfl (by unfold maxLen; omega)
      obtain ⟨v11, n11, w11, f1, f2, f3, f4⟩ := rtap_any (k10.owns Q2.out.1 (fun _ _ h => h)) rd1 rr1.cells (Nat.le_trans Q2.out.2.2.1.size k10.size) (by have := Q2.out.2.2.2.2.2.2; simp; omega)
      obtain ⟨v11a, v11c, rfl⟩ := owns_slice f2
      have k11' : Kept none' w1 w11 := (Q2.out.2.2.1.trans k10).new (Kept.grown (S := fun j => w1.heap.size ≤ j) f4 (fun j hj _ => (owns_own Q2.out.1 hj).1)) (fun j hj hs => by omega)
      refine wp_append_run (.tmp 37) (.tmp 47) 72 rfl (.slice v1a n1 v1c) (.slice (some ⟨w7.heap.size, 0, none⟩) 1 1) _ rfl rfl f1 ?_
      refine hK _ _ (fun _ => k10.pure.trans (Kept.grown f4 (fun j hj _ => (owns_own Q2.out.1 hj).1))) ?_
      clear hK
      iterate 1 (first | (apply wpL_skip rfl; go_frame) | (apply wpL_float rfl rfl; (intro W hW; go_simp; rfl); go_frame))
      refine wpL_nil (fun _ => k10.pure.trans (Kept.grown f4 (fun j hj _ => (owns_own Q2.out.1 hj).1))) ?_
      have ecs := Q2.out.2.2.2.2.1
      have erow := Q2.out.2.2.2.2.2.1
      obtain ⟨vd, g1, g2⟩ := slk_drop (P := Try.prog) Try.underlying72 (size118 w11) (ecs.pure (k1.trans k11')) i2le
      obtain ⟨da, dn, dc, hvd⟩ : ∃ da dn dc, vd = .slice da dn dc := by obtain ⟨a, n, c, e, _⟩ := g2; exact ⟨a, n, c, e⟩
      subst hvd
      obtain ⟨v14, n14, w14, j1, j2, j3, j4⟩ := rtap_any f2 g2 (erow.drop (tfind k T + 1)).cells k11'.size (by have := Q2.out.2.2.2.2.2.2; simp; omega)
      obtain ⟨v14a, v14c, rfl⟩ := owns_slice j2
      have k14 : Kept none' w1 w14 := k11'.new (Kept.grown (S := fun j => w1.heap.size ≤ j) j4 (fun j hj _ => (owns_own f2 hj).1)) (fun j hj hs => by omega)
      have hobj : w14.heap[b]? = some (.cells #[.slice pa T.length pcap] 74 (0, 0)) := by
        obtain ⟨tv2, ho, _⟩ := HT.out.obj
        have h1 := (k1.trans k14).heap ho (fun h => h)
        have h2 := (k1.trans k14).cell (p := ⟨b, 0, none⟩) (fun h => h) c00.out
        have h3 : w14.cell? ⟨b, 0, none⟩ = some tv2 := cells_at h1 rfl
        rw [h3] at h2
        injection h2 with h2
        rw [h2] at h1; exact h1
      have cb : w14.cell? ⟨b, 0, none⟩ = some (.slice pa T.length pcap) := cells_at hobj rfl
      have fb := free_at hobj 0
      have c11 := k11'.cell (p := ⟨b, 0, none⟩) (fun h => h) c0
      have hfin : RPutQ w b T k c (.returned (.int .i64 0)) (w14.setCell ⟨b, 0, none⟩ (.slice v14a n14 v14c)) := by
        have hE : putE T k c.2.length = 0 := by unfold putE; rw [if_neg h16, if_neg (fun h => HNE.out.2 h.1)]
        have hPT : putT T k c = tput k c T := by unfold putT; rw [if_pos hE]
        have kb : Kept (one b) w14 (w14.setCell ⟨b, 0, none⟩ (.slice v14a n14 v14c)) := (Kept.refl (one b) w14).setCell (p := ⟨b, 0, none⟩) (.inl rfl) _
        have hrows : RRows w14 ([] ++ cs.take (tfind k T * 3) ++ [.int .i64 k, .int .i64 c.1, .slice v7a n7 v7c] ++ cs.drop ((tfind k T + 1) * 3)) (T.take (tfind k T) ++ [(k, (c.1, c.2))] ++ T.drop (tfind k T + 1)) := by
          refine RRows.append (RRows.append ?_ ?_) ?_
          · rw [List.nil_append]; exact (erow.take _).pure (k1.trans k14)
          · refine RRows.one ?_
            have ka : Kept none' w7 (w7.alloc (.cells #[.int .i64 k, .int .i64 c.1, .slice v7a n7 v7c] 118)) := (Kept.refl none' w7).alloc _
            have o10 := ka.owns O7.out (fun _ _ h => h)
            have o11 := (Kept.grown (S := fun j => Value.ownBlock (.slice v1a n1 v1c) = some j) f4 (fun j hj _ => hj)).owns o10 (fun j hj hx => by
              have h1 := (owns_own Q2.out.1 hx).2
              have h2 := (owns_own O7.out hj).1
              omega)
            have o14 := (Kept.grown (S := fun j => Value.ownBlock (.slice v11a n11 v11c) = some j) j4 (fun j hj _ => hj)).owns o11 (fun j hj hx => owns_apart o11 f2 (by decide) hj hx)
            exact Reads.of_owns o14
          · exact (erow.drop _).pure (k1.trans k14)
        have hnot : ∀ (x : Value) (l : List Int), Reads w14 1 x (ints l) → Reads (w14.setCell ⟨b, 0, none⟩ (.slice v14a n14 v14c)) 1 x (ints l) := fun x l hx =>
          hx.kept kb (fun bb hbb e => hx.ne_obj hobj (by omega) (fun y hy => by
            cases l with
            | nil => cases hy
            | cons q l => cases hy; exact ⟨_, _, rfl⟩) bb hbb e)
        refine ⟨by rw [hE], ⟨⟨_, by have := set_at hobj 0 (.slice v14a n14 v14c); simpa using this, ([] ++ cs.take (tfind k T * 3) ++ [.int .i64 k, .int .i64 c.1, .slice v7a n7 v7c] ++ cs.drop ((tfind k T + 1) * 3)), ?_, ?_⟩, ?_⟩, (k1.trans k14).pure.trans kb⟩
        · exact (Reads.of_owns j2).kept kb (fun bb hbb e => (Reads.of_owns j2).ne_obj hobj (by omega) hrows.first bb hbb e)
        · rw [hPT, tput_find HT.out.ok.rises]
          have hsome : (if (tget T k).isSome = true then tfind k T + 1 else tfind k T) = (tfind k T + 1) := by rw [HNE.out.1]; rfl
          rw [hsome]
          exact ⟨hrows.1, fun i p hp => by obtain ⟨a, b', lv, c', d⟩ := hrows.2 i p hp; exact ⟨a, b', lv, c', hnot _ _ d⟩⟩
        · rw [hPT]
          exact HT.out.ok.tput HC.out.1 ⟨HC.out.2.1, HC.out.2.2, by omega⟩ (.inl HNE.out.2)
      have F := Lib.hid hfin
      have J1 := Lib.hid j1
      have G1 := Lib.hid g1
      have g1y := g1
      rw [show (((tfind k T + 1 : Nat) : Nat) : Int) = (tfind k T : Int) + 1 by omega] at g1y
      clear hfin j1 j2 j3 j4 f1 f2 f3 f4 g2 k14 hobj k11' k10 k7 k4 kd rr1 rd1 ecs erow
      go_wp2_with (at_builtin; refine wpList_append_run rfl (.tmp 53) (.tmp 59) 72 rfl (.slice v11a n11 v11c) (.slice da dn dc) _ rfl rfl J1.out ?_)
      go_ret
      exact F.out
    | false =>
      have hnn : tget T k = none := by cases hx : tget T k with | none => rfl | some _ => rw [hx] at his; cases his
      have HN := Lib.hid (And.intro his hnn)
      clear his hnn
      go_wp2_with fail
      have cc := rof_any k HC.out.1 w1
      (with_reducible refine cc.mono ?_)
      clear cc
      rintro e w1x ⟨rfl, rfl⟩
      go_wp2_with fail
      have cc := rmany_any b T (grp k) w1 (HT.out.pure k1)
      (with_reducible refine cc.mono ?_)
      clear cc
      rintro e w1x ⟨rfl, rfl⟩
      by_cases h40 : 40 ≤ tmany T (grp k)
      · have h40b : (40 : Int) ≤ ((tmany T (grp k) : Nat) : Int) := by omega
        have hE : putE T k c.2.length = 7 := by unfold putE; rw [if_neg h16, if_pos ⟨HN.out.2, h40⟩]
        have hTT : putT T k c = T := by unfold putT; rw [hE]; rfl
        have F := Lib.hid (show RPutQ w b T k c (.returned (.int .i64 7)) w1 from ⟨by rw [hE], by rw [hTT]; exact HT.out.pure k1, k1.mono (fun _ _ h => h.elim)⟩)
        clear hE hTT
        go_wp2_with fail
        go_ret
        exact F.out
      · have h40b : ¬ (40 : Int) ≤ ((tmany T (grp k) : Nat) : Int) := by omega
        have HNE := Lib.hid (And.intro HN.out.1 h40)
        clear h40 HN
        have i2le : (tfind k T) ≤ T.length := by
          exact hfl
        obtain ⟨cs, hcs1, hcs2⟩ := HRT.out
        have hcsw1 := hcs1.pure k1
        have hcl0 := hcs2.1
        have e1 := slk_take (P := Try.prog) Try.underlying72 (size118 w1) hcsw1 hfl
        have own0 := World.ownsRow_nil w1 w1.heap.size 118 3
        obtain ⟨v1, n1, w2, a1, a2, a3, a4⟩ := rtap_any (base := w1.heap.size) (n := 0) own0 e1.2 (hcs2.take (tfind k T)).cells (Nat.le_refl _) (by rw [List.length_nil, List.length_take]; omega)
        obtain ⟨v1a, v1c, rfl⟩ := owns_slice a2
        have k12 : Kept none' w1 w2 := Kept.grown a4 (fun j hj _ => by cases hj)
        have hrd0 := hr.out.pure (((Kept.refl none' w).alloc (.cells #[.int .i64 c.1, .slice va c.2.length vc] 29)).trans (HK1.out.trans k12))
        have d0 := k12.cell (p := ⟨w.heap.size, 0, none⟩) (fun h => h) d0
        have d1 := k12.cell (p := ⟨w.heap.size, 1, none⟩) (fun h => h) d1
        have c0x := k12.cell (p := ⟨b, 0, none⟩) (fun h => h) c0
        have A1 := Lib.hid a1
        have E1 := e1.1
        have Q2 := Lib.hid (And.intro a2 (And.intro a3 (And.intro k12 (And.intro hrd0 (And.intro hcs1 (And.intro hcs2 hcl0))))))
        clear a1 a2 a3 a4 e1 k12 hrd0 own0 hcs1 hcs2 hcl0 hcsw1
        go_wp2_with (at_builtin; refine wpList_append_run rfl (.tmp 29) (.tmp 35) 72 rfl (.slice none 0 0) (.slice pa (tfind k T) pcap) _ rfl rfl A1.out ?_)
        refine wp_region_eager [0, 1, 2, 3, 5, 6, 4, 7, 8, 9, 10, 11, 12] (fun W => Kept (fun j => w1.heap.size ≤ j) w2 W) (by kernel_rfl) (by kernel_rfl) rfl (Kept.refl _ _).drew ?_
        simp only [List.map_cons, List.map_nil, List.getElem?_toArray, List.getElem?_cons_zero, List.getElem?_cons_succ, Option.getD_some]
        iterate 6 (apply wpL_float rfl rfl; (intro W hW; have z0 := hW.cell (fun h => Nat.not_le.2 hwl1 h) d0; have z1 := hW.cell (fun h => Nat.not_le.2 hwl1 h) d1; go_simp; rfl); go_frame)
        have kd : Kept none' w2 w2.drew := (Kept.refl _ _).drew
        apply wpL_loud rfl rfl
        intro K hK
        go_wp2_with fail
        have k4 : Kept none' w2 (w2.drew.alloc (.cells #[] 2)) := kd.alloc _
        refine hK _ _ (fun _ => k4.pure) ?_
        clear hK
        apply wpL_loud rfl rfl
        intro K hK
        obtain ⟨i2, hi2, hz2, hs2, hb2⟩ := info_parts Try.info2
        obtain ⟨v7, n7, w7, b1, b2, b3, b4, b5⟩ := run_append_reads (P := Try.prog) w2.heap.size 22 22 2 i2 (.int .i64 0) 1 8 Try.underlying22 hi2 hz2 hs2 hb2 rfl (by omega) (World.ownsRow_made w2.drew #[] 0 (Nat.le_refl _) (Nat.zero_le _) rfl : (w2.drew.alloc (.cells #[] 2)).ownsRow w2.heap.size 2 1 (.slice (some ⟨w2.heap.size, 0, none⟩) 0 0) 0 []) (Q2.out.2.2.2.1.pure k4) (ints_one c.2) (by simp; omega) (by unfold maxLen; simp; omega) k4.size
        obtain ⟨v7a, v7c, rfl⟩ := owns_slice b2
        have k7 : Kept none' w2 w7 := k4.new (Kept.grown (S := fun j => w2.heap.size ≤ j) b4 (fun j hj _ => by cases hj; exact Nat.le_refl _)) (fun j hj hs => by omega)
        refine wp_append_run (.tmp 41) (.tmp 43) 22 rfl (.slice (some ⟨w2.heap.size, 0, none⟩) 0 0) (.slice va c.2.length vc) _ rfl rfl b1 ?_
        refine hK _ _ (fun _ => k7.pure) ?_
        clear hK
        have R7 := Lib.hid (Reads.of_owns b2)
        have O7 := Lib.hid b2
        clear b1 b2 b3 b4 b5 hi2 hz2 hs2 hb2
        iterate 2 (first | (apply wpL_skip rfl; go_frame) | (apply wpL_float rfl rfl; (intro W hW; go_simp; rfl); go_frame))
        apply wpL_loud rfl rfl
        intro K hK
        go_wp2_with fail
        have k10 : Kept none' w2 (w7.alloc (.cells #[.int .i64 k, .int .i64 c.1, .slice v7a n7 v7c] 118)) := k7.alloc _
        refine hK _ _ (fun _ => k10.pure) ?_
        clear hK
        apply wpL_loud rfl rfl
        intro K hK
        have rr1 : RRows (w7.alloc (.cells #[.int .i64 k, .int .i64 c.1, .slice v7a n7 v7c] 118)) [.int .i64 k, .int .i64 c.1, .slice v7a n7 v7c] [(k, (c.1, c.2))] := RRows.one (by have := R7.out.pure ((Kept.refl none' w7).alloc (.cells #[.int .i64 k, .int .i64 c.1, .slice v7a n7 v7c] 118)); simpa using this)
        have rd1 := Reads.lit w7 [.int .i64 k, .int .i64 c.1, .slice v7a n7 v7c] 118 3 1 rfl (by unfold maxLen; omega)
        obtain ⟨v11, n11, w11, f1, f2, f3, f4⟩ := rtap_any (k10.owns Q2.out.1 (fun _ _ h => h)) rd1 rr1.cells (Nat.le_trans Q2.out.2.2.1.size k10.size) (by have := Q2.out.2.2.2.2.2.2; simp; omega)
        obtain ⟨v11a, v11c, rfl⟩ := owns_slice f2
        have k11' : Kept none' w1 w11 := (Q2.out.2.2.1.trans k10).new (Kept.grown (S := fun j => w1.heap.size ≤ j) f4 (fun j hj _ => (owns_own Q2.out.1 hj).1)) (fun j hj hs => by omega)
        refine wp_append_run (.tmp 37) (.tmp 47) 72 rfl (.slice v1a n1 v1c) (.slice (some ⟨w7.heap.size, 0, none⟩) 1 1) _ rfl rfl f1 ?_
        refine hK _ _ (fun _ => k10.pure.trans (Kept.grown f4 (fun j hj _ => (owns_own Q2.out.1 hj).1))) ?_
        clear hK
        iterate 1 (first | (apply wpL_skip rfl; go_frame) | (apply wpL_float rfl rfl; (intro W hW; go_simp; rfl); go_frame))
        refine wpL_nil (fun _ => k10.pure.trans (Kept.grown f4 (fun j hj _ => (owns_own Q2.out.1 hj).1))) ?_
        have ecs := Q2.out.2.2.2.2.1
        have erow := Q2.out.2.2.2.2.2.1
        obtain ⟨vd, g1, g2⟩ := slk_drop (P := Try.prog) Try.underlying72 (size118 w11) (ecs.pure (k1.trans k11')) i2le
        obtain ⟨da, dn, dc, hvd⟩ : ∃ da dn dc, vd = .slice da dn dc := by obtain ⟨a, n, c, e, _⟩ := g2; exact ⟨a, n, c, e⟩
        subst hvd
        obtain ⟨v14, n14, w14, j1, j2, j3, j4⟩ := rtap_any f2 g2 (erow.drop (tfind k T)).cells k11'.size (by have := Q2.out.2.2.2.2.2.2; simp; omega)
        obtain ⟨v14a, v14c, rfl⟩ := owns_slice j2
        have k14 : Kept none' w1 w14 := k11'.new (Kept.grown (S := fun j => w1.heap.size ≤ j) j4 (fun j hj _ => (owns_own f2 hj).1)) (fun j hj hs => by omega)
        have hobj : w14.heap[b]? = some (.cells #[.slice pa T.length pcap] 74 (0, 0)) := by
          obtain ⟨tv2, ho, _⟩ := HT.out.obj
          have h1 := (k1.trans k14).heap ho (fun h => h)
          have h2 := (k1.trans k14).cell (p := ⟨b, 0, none⟩) (fun h => h) c00.out
          have h3 : w14.cell? ⟨b, 0, none⟩ = some tv2 := cells_at h1 rfl
          rw [h3] at h2
          injection h2 with h2
          rw [h2] at h1; exact h1
        have cb : w14.cell? ⟨b, 0, none⟩ = some (.slice pa T.length pcap) := cells_at hobj rfl
        have fb := free_at hobj 0
        have c11 := k11'.cell (p := ⟨b, 0, none⟩) (fun h => h) c0
        have hfin : RPutQ w b T k c (.returned (.int .i64 0)) (w14.setCell ⟨b, 0, none⟩ (.slice v14a n14 v14c)) := by
          have hE : putE T k c.2.length = 0 := by unfold putE; rw [if_neg h16, if_neg (fun h => HNE.out.2 h.2)]
          have hPT : putT T k c = tput k c T := by unfold putT; rw [if_pos hE]
          have kb : Kept (one b) w14 (w14.setCell ⟨b, 0, none⟩ (.slice v14a n14 v14c)) := (Kept.refl (one b) w14).setCell (p := ⟨b, 0, none⟩) (.inl rfl) _
          have hrows : RRows w14 ([] ++ cs.take (tfind k T * 3) ++ [.int .i64 k, .int .i64 c.1, .slice v7a n7 v7c] ++ cs.drop ((tfind k T) * 3)) (T.take (tfind k T) ++ [(k, (c.1, c.2))] ++ T.drop (tfind k T)) := by
            refine RRows.append (RRows.append ?_ ?_) ?_
            · rw [List.nil_append]; exact (erow.take _).pure (k1.trans k14)
            · refine RRows.one ?_
              have ka : Kept none' w7 (w7.alloc (.cells #[.int .i64 k, .int .i64 c.1, .slice v7a n7 v7c] 118)) := (Kept.refl none' w7).alloc _
              have o10 := ka.owns O7.out (fun _ _ h => h)
              have o11 := (Kept.grown (S := fun j => Value.ownBlock (.slice v1a n1 v1c) = some j) f4 (fun j hj _ => hj)).owns o10 (fun j hj hx => by
                have h1 := (owns_own Q2.out.1 hx).2
                have h2 := (owns_own O7.out hj).1
                omega)
              have o14 := (Kept.grown (S := fun j => Value.ownBlock (.slice v11a n11 v11c) = some j) j4 (fun j hj _ => hj)).owns o11 (fun j hj hx => owns_apart o11 f2 (by decide) hj hx)
              exact Reads.of_owns o14
            · exact (erow.drop _).pure (k1.trans k14)
          have hnot : ∀ (x : Value) (l : List Int), Reads w14 1 x (ints l) → Reads (w14.setCell ⟨b, 0, none⟩ (.slice v14a n14 v14c)) 1 x (ints l) := fun x l hx =>
            hx.kept kb (fun bb hbb e => hx.ne_obj hobj (by omega) (fun y hy => by
              cases l with
              | nil => cases hy
              | cons q l => cases hy; exact ⟨_, _, rfl⟩) bb hbb e)
          refine ⟨by rw [hE], ⟨⟨_, by have := set_at hobj 0 (.slice v14a n14 v14c); simpa using this, ([] ++ cs.take (tfind k T * 3) ++ [.int .i64 k, .int .i64 c.1, .slice v7a n7 v7c] ++ cs.drop ((tfind k T) * 3)), ?_, ?_⟩, ?_⟩, (k1.trans k14).pure.trans kb⟩
          · exact (Reads.of_owns j2).kept kb (fun bb hbb e => (Reads.of_owns j2).ne_obj hobj (by omega) hrows.first bb hbb e)
          · rw [hPT, tput_find HT.out.ok.rises]
            have hsome : (if (tget T k).isSome = true then tfind k T + 1 else tfind k T) = (tfind k T) := by rw [HNE.out.1]; rfl
            rw [hsome]
            exact ⟨hrows.1, fun i p hp => by obtain ⟨a, b', lv, c', d⟩ := hrows.2 i p hp; exact ⟨a, b', lv, c', hnot _ _ d⟩⟩
          · rw [hPT]
            exact HT.out.ok.tput HC.out.1 ⟨HC.out.2.1, HC.out.2.2, by omega⟩ (.inr (by have := HNE.out.2; omega))
        have F := Lib.hid hfin
        have J1 := Lib.hid j1
        have G1 := Lib.hid g1
        have g1y := g1
        skip
        clear hfin j1 j2 j3 j4 f1 f2 f3 f4 g2 k14 hobj k11' k10 k7 k4 kd rr1 rd1 ecs erow
        go_wp2_with (at_builtin; refine wpList_append_run rfl (.tmp 53) (.tmp 59) 72 rfl (.slice v11a n11 v11c) (.slice da dn dc) _ rfl rfl J1.out ?_)
        go_ret
        exact F.out
end Go.Proofs.Ytaalpijohdlabaa
