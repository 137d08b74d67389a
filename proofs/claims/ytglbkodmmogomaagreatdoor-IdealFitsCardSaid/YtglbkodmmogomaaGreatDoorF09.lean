/-
  slices.symMerge over records: two sorted runs that stand beside each other come sorted. First: one of them is a single record.
-/
import Derived.Test.YtglbkodmmogomaaGreatDoorF07
import Derived.Test.YtglbkodmmogomaaGreatDoorF08
set_option linter.unusedVariables false
set_option linter.unusedSimpArgs false
namespace Go.Proofs.YtglbkodmmogomaaGreatDoor
open Go Go.RowKit
attribute [local irreducible] wpL wpH
theorem split_at {L : List Rec} {t : Nat} (h : t < L.length) : ∃ C1 y C2, L = C1 ++ y :: C2 ∧ C1.length = t :=
  ⟨L.take t, L[t], L.drop (t + 1), by rw [← List.drop_eq_getElem_cons h, List.take_append_drop], by rw [List.length_take]; omega⟩
theorem swap_on {P A2 R : List Rec} {x y : Rec} {i j : Nat} (hi : P.length = i) (hj : i + 1 = j) : (((P ++ x :: y :: (A2 ++ R)).set i y).set j x) = P ++ y :: x :: (A2 ++ R) := by
  subst hj
  rw [set_mid hi, show P ++ y :: y :: (A2 ++ R) = (P ++ [y]) ++ y :: (A2 ++ R) by simp, set_mid (by simpa using hi)]
  simp
set_option maxRecDepth 100000 in
set_option maxHeartbeats 1000000 in
theorem sym_one (b off cap N a m n : Nat) (P B S : List Rec) (x : Rec) (w : World) (h : RW w b off (P ++ x :: B ++ S)) (hN : (P ++ x :: B ++ S).length = N) (hN2 : N < 1099511627776)
    (ha : P.length = a) (hm : a + 1 = m) (hn : m + B.length = n) (hB : Sorted B) :
    Calls Tryz.prog 177 #[.slice (some ⟨b, off, none⟩) N cap, .int .i64 a, .int .i64 m, .int .i64 n, .func (.func 117) #[] #[]] w (SortsTo w b off P (x :: B) S) := by
  have H := Lib.hid h
  have HN := Lib.hid hN
  have HL := Lib.hid (And.intro ha (And.intro hm (And.intro hn hB)))
  have LN : (P ++ x :: B ++ S).length = P.length + 1 + B.length + S.length := by simp; omega
  have b1 : a < m ∧ m ≤ n ∧ n ≤ N := by omega
  have e1 : IntKind.i64.wrap ((m : Int) - a) = 1 := by rw [show (m : Int) - a = ((1 : Nat) : Int) by omega]; exact wrapNat (by omega)
  have gx : (P ++ x :: B ++ S)[a]? = some x := by rw [show P ++ x :: B ++ S = P ++ x :: (B ++ S) by simp]; exact get_mid ha
  have HG := Lib.hid gx
  clear h hN ha hm hn hB LN gx
  go_enter Tryz.func177, Tryz.ntmps177
  go_wp2
  go_loopg [10, 11] B.length (fun g i j wr => ∃ (B1 B2 B3 : List Rec), i = .int .i64 ((m + B1.length : Nat) : Int) ∧ j = .int .i64 ((m + B1.length + B2.length : Nat) : Int) ∧ B2.length ≤ g ∧ B = B1 ++ B2 ++ B3 ∧ (∀ y ∈ B1, y.pos < x.pos) ∧ (∀ y ∈ B3, x.pos ≤ y.pos) ∧ Kept none' w wr)
  case atStart => exact ⟨[], B, [], by simp, by rw [← HL.out.2.2.1]; simp, Nat.le_refl _, by simp, by simp, by simp, Kept.refl _ _⟩
  case round =>
    obtain ⟨B1, B2, B3, rfl, rfl, hg, hB, h1, h3, hkp⟩ := hrel
    obtain ⟨i, hi⟩ : ∃ i, m + B1.length = i := ⟨_, rfl⟩
    obtain ⟨j, hj⟩ : ∃ j, i + B2.length = j := ⟨_, rfl⟩
    rw [hi, hj]
    have hjn : j ≤ n := by have := HL.out.2.2.1; rw [hB] at this; simp only [List.length_append] at this; omega
    have A := Lib.hid (And.intro hi (And.intro hj (And.intro hg (And.intro hB (And.intro h1 (And.intro h3 hkp))))))
    clear hg hB h1 h3 hkp
    by_cases hlt : i < j
    · obtain ⟨h, hh⟩ : ∃ h, (i + j) / 2 = h := ⟨_, rfl⟩
      have hb : i ≤ h ∧ h < j := by omega
      have e2 : ((i : Int) + (j : Int)) / 2 = (h : Int) := by omega
      clear hi hj hh
      obtain ⟨C1, y, C2, hC, lC⟩ : ∃ C1 y C2, B2 = C1 ++ y :: C2 ∧ C1.length = h - i := split_at (by have := A.out.2.1; omega)
      have gy : (P ++ x :: B ++ S)[h]? = some y := by
        rw [A.out.2.2.2.1, hC, show P ++ x :: (B1 ++ (C1 ++ y :: C2) ++ B3) ++ S = (P ++ x :: (B1 ++ C1)) ++ y :: (C2 ++ B3 ++ S) by simp]
        refine get_mid ?_
        have h1 := HL.out; have h2 := A.out.1
        simp only [List.length_append, List.length_cons]; omega
      have hr := H.out.pure A.out.2.2.2.2.2.2
      obtain ⟨x0, x1, x2⟩ := hr.recs _ _ HG.out
      obtain ⟨y0, y1, y2⟩ := hr.recs _ _ gy
      have hC' := Lib.hid (And.intro hC lC)
      have hhN : h < N := by omega
      have haN : a < N := by omega
      clear hr gy hC lC
      go_wp2_with fail
      refine wp_region_eager [0, 1, 2, 3, 4, 5, 6, 7, 8, 9, 10] (fun W => Kept none' wr W) (by kernel_rfl) (by kernel_rfl) rfl (Kept.refl _ _).drew ?_
      simp only [List.map_cons, List.map_nil, List.getElem?_toArray, List.getElem?_cons_zero, List.getElem?_cons_succ, Option.getD_some]
      iterate 9 (apply wpL_float rfl rfl; (intro W hW; have c0 := hW.cell (fun h => h) x0; have c1 := hW.cell (fun h => h) x1; have c2 := hW.cell (fun h => h) x2; have d0 := hW.cell (fun h => h) y0; have d1 := hW.cell (fun h => h) y1; have d2 := hW.cell (fun h => h) y2; go_simp; rfl); go_frame)
      apply wpL_loud rfl rfl
      intro K hK
      go_wp2_with fail
      refine (cmp_rec y x _).mono ?_
      rintro e w3 ⟨rfl, k3⟩
      have k3' : Kept none' wr w3 := k3.drew_left
      by_cases hxy : y.pos < x.pos
      · have hc : cmp3 y.pos x.pos < 0 := by rw [cmp3_lt]; exact hxy
        have e3 : IntKind.i64.wrap ((h : Int) + 1) = ((h + 1 : Nat) : Int) := wrapNat (n := h + 1) (by omega)
        go_wp2_with fail
        refine hK _ _ (fun _ => k3') ?_
        clear hK
        iterate 1 (apply wpL_float rfl rfl; (intro W hW; go_simp; rfl); go_frame)
        refine wpL_nil (fun _ => k3') ?_
        go_wp2_with fail
        go_roundg C2.length
        case rel =>
          obtain ⟨q1, q2, q3, q4, q5, q6, q7⟩ := A.out
          obtain ⟨u1, u2⟩ := hC'.out
          rw [u1] at q2 q4
          simp only [List.length_append, List.length_cons] at q2
          have hs := HL.out.2.2.2
          rw [q4] at hs
          refine ⟨B1 ++ C1 ++ [y], C2, B3, ?_, ?_, Nat.le_refl _, ?_, ?_, q6, q7.trans k3'.pure⟩
          · congr 1; simp only [List.length_append, List.length_cons, List.length_nil]; omega
          · congr 1; simp only [List.length_append, List.length_cons, List.length_nil]; omega
          · rw [q4]; simp
          · intro z hz
            rcases List.mem_append.1 hz with hz | hz
            · rcases List.mem_append.1 hz with hz | hz
              · exact q5 z hz
              · have := hs.left.right.le z hz y (by simp); omega
            · simp at hz; rw [hz]; exact hxy
        case measure =>
          have u1 := hC'.out.1
          have q3 := A.out.2.2.1
          rw [u1] at q3
          simp only [List.length_append, List.length_cons] at q3; omega
      · have hc : ¬ cmp3 y.pos x.pos < 0 := by rw [cmp3_lt]; exact hxy
        go_wp2_with fail
        refine hK _ _ (fun _ => k3') ?_
        clear hK
        iterate 1 (apply wpL_float rfl rfl; (intro W hW; go_simp; rfl); go_frame)
        refine wpL_nil (fun _ => k3') ?_
        go_wp2_with fail
        go_roundg C1.length
        case rel =>
          obtain ⟨q1, q2, q3, q4, q5, q6, q7⟩ := A.out
          obtain ⟨u1, u2⟩ := hC'.out
          rw [u1] at q2 q4
          have hs := HL.out.2.2.2
          rw [q4] at hs
          refine ⟨B1, C1, y :: C2 ++ B3, ?_, ?_, Nat.le_refl _, ?_, q5, ?_, q7.trans k3'.pure⟩
          · rw [q1]
          · congr 1; omega
          · rw [q4]; simp
          · intro z hz
            rcases List.mem_append.1 hz with hz | hz
            · rcases List.mem_cons.1 hz with rfl | hz
              · omega
              · have := (List.pairwise_cons.1 hs.left.right.right).1 z hz; omega
            · exact q6 z hz
        case measure =>
          have u1 := hC'.out.1
          have q3 := A.out.2.2.1
          rw [u1] at q3
          simp only [List.length_append, List.length_cons] at q3; omega
    · have hB2 : B2 = [] := by
        have := A.out.2.1
        exact List.eq_nil_of_length_eq_zero (by omega)
      subst hB2
      have hiN : i ≤ N := by simp only [List.length_nil] at hj; omega
      have e3 : IntKind.i64.wrap ((i : Int) - 1) = ((i - 1 : Nat) : Int) := by rw [show (i : Int) - 1 = ((i - 1 : Nat) : Int) by omega]; exact wrapNat (by omega)
      clear hi hj
      go_wp2_with fail
      go_loopg [13] B1.length (fun g k wr2 => ∃ (D1 D2 : List Rec), k = .int .i64 ((a + D1.length : Nat) : Int) ∧ B1 = D1 ++ D2 ∧ D2.length ≤ g ∧ RW wr2 b off (P ++ D1 ++ x :: D2 ++ B3 ++ S) ∧ Kept (one b) w wr2)
      case atStart =>
        have q := A.out
        refine ⟨[], B1, by simp, rfl, Nat.le_refl _, ?_, q.2.2.2.2.2.2.pure⟩
        have := H.out.pure q.2.2.2.2.2.2
        rw [q.2.2.2.1] at this
        simpa using this
      case round =>
        obtain ⟨D1, D2, rfl, hD, hg2, hr, hkp⟩ := hrel
        obtain ⟨k, hk⟩ : ∃ k, a + D1.length = k := ⟨_, rfl⟩
        rw [hk]
        cases D2 with
        | nil =>
          have hn0 : ¬ (k : Int) < ((i - 1 : Nat) : Int) := by
            have h1 := A.out.1; have h2 := HL.out
            rw [hD] at h1; simp only [List.length_append, List.length_nil] at h1; omega
          have F : SortsTo w b off P (x :: B) S (.returned (.tuple #[])) wr := by
            obtain ⟨q1, q2, q3, q4, q5, q6, q7⟩ := A.out
            have hs := HL.out.2.2.2
            rw [List.append_nil] at hD
            subst hD
            rw [q4] at hs
            refine ⟨B1 ++ x :: B3, ?_, ?_, rfl, by simpa using hr, hkp⟩
            · rw [q4]
              have := (Same.comm (A := [x]) (B := B1) (fun u hu v hv => by simp at hu; subst hu; have := q5 v hv; omega)).append (Same.refl B3)
              simpa using this
            · refine Sorted.append hs.left.left (List.pairwise_cons.2 ⟨fun z hz => q6 z hz, hs.right⟩) ?_
              intro u hu v hv
              have := q5 u hu
              rcases List.mem_cons.1 hv with rfl | hv
              · omega
              · have := q6 v hv; omega
          have FF := Lib.hid F
          clear F hr hkp hD hk
          go_wp2_with fail
          go_end0
          exact FF.out
        | cons y D2 =>
          have hB1 : m + D1.length + 1 + D2.length = i := by
            have h1 := A.out.1
            rw [hD] at h1; simp only [List.length_append, List.length_cons] at h1; omega
          have hm2 := HL.out.2.1
          obtain ⟨k1, hk1⟩ : ∃ k1, k + 1 = k1 := ⟨_, rfl⟩
          have hn0 : (k : Int) < ((i - 1 : Nat) : Int) := by omega
          have e4 : IntKind.i64.wrap ((k : Int) + 1) = (k1 : Int) := by rw [show (k : Int) + 1 = ((k1 : Nat) : Int) by omega]; exact wrapNat (by omega)
          have hPk : (P ++ D1).length = k := by rw [List.length_append, HL.out.1]; exact hk
          have gx : (P ++ D1 ++ x :: (y :: D2) ++ B3 ++ S)[k]? = some x := by
            rw [show P ++ D1 ++ x :: (y :: D2) ++ B3 ++ S = (P ++ D1) ++ x :: (y :: D2 ++ B3 ++ S) by simp]; exact get_mid hPk
          have gy : (P ++ D1 ++ x :: (y :: D2) ++ B3 ++ S)[k1]? = some y := by
            rw [show P ++ D1 ++ x :: (y :: D2) ++ B3 ++ S = (P ++ D1 ++ [x]) ++ y :: (D2 ++ B3 ++ S) by simp]
            exact get_mid (by rw [List.length_append, hPk]; exact hk1)
          have hlenN : (P ++ D1 ++ x :: (y :: D2) ++ B3 ++ S).length = N := by
            have h1 := HN.out
            rw [A.out.2.2.2.1, hD] at h1
            simp only [List.length_append, List.length_cons, List.length_nil] at h1 ⊢; omega
          have hk1N : k1 < N := by rw [← hlenN]; exact (List.getElem?_eq_some_iff.1 gy).1
          have hkN : k < N := by omega
          obtain ⟨x0, x1, x2⟩ := hr.recs _ _ gx
          obtain ⟨y0, y1, y2⟩ := hr.recs _ _ gy
          obtain ⟨fx0, fx1, fx2⟩ := hr.soft k (by omega)
          obtain ⟨fy0, fy1, fy2⟩ := hr.soft k1 (by omega)
          have hstep : ((P ++ D1 ++ x :: (y :: D2) ++ B3 ++ S).set k y).set k1 x = P ++ (D1 ++ [y]) ++ x :: D2 ++ B3 ++ S := by
            rw [show P ++ D1 ++ x :: (y :: D2) ++ B3 ++ S = (P ++ D1) ++ x :: y :: (D2 ++ (B3 ++ S)) by simp, swap_on hPk hk1]
            simp
          have hsw := hr.swap x y (i := k) (j := k1) (by omega) (by omega)
          rw [hstep] at hsw
          have F := Lib.hid (And.intro (hsw.pure (Kept.refl _ _).drew) (hkp.trans ((swap_kept wr b (off + k * 3) (off + k1 * 3) x y).drew)))
          have HD := Lib.hid hD
          have HK := Lib.hid (And.intro hk (And.intro hg2 hk1))
          have hne : k ≠ k1 := by omega
          clear hr hkp hD hPk gx gy hlenN hstep hsw hk hB1 hm2 hk1 hg2
          go_wp2_with fail
          refine wp_region_hot [0, 1, 2, 3, 4, 5, 6, 7, 8, 9, 10, 11, 12, 13, 14, 15, 16, 17] (fun W => Kept none' wr W) (by kernel_rfl) (by kernel_rfl) rfl (Kept.refl _ _).drew ?_
          simp only [List.map_cons, List.map_nil, List.getElem?_toArray, List.getElem?_cons_zero, List.getElem?_cons_succ, Option.getD_some]
          iterate 15 (first | (apply wpH_pure rfl rfl; (intro W; go_simp; rfl); go_frame) | (apply wpH_read rfl rfl rfl; (intro W hW; have c0 := hW.cell (fun h => h) x0; have c1 := hW.cell (fun h => h) x1; have c2 := hW.cell (fun h => h) x2; have d0 := hW.cell (fun h => h) y0; have d1 := hW.cell (fun h => h) y1; have d2 := hW.cell (fun h => h) y2; go_simp; rfl); go_frame))
          apply wpH_hot rfl rfl rfl
          intro K hK
          go_wp2_with fail
          apply wpH_pure rfl rfl
          · intro W; go_simp; rfl
          go_frame
          apply wpH_hot rfl rfl rfl
          intro K2 hK2
          go_wp2_with fail
          apply wpH_end
          go_wp2_with fail
          go_roundg D2.length
          case rel =>
            refine ⟨D1 ++ [y], D2, ?_, by rw [HD.out]; simp, Nat.le_refl _, F.out.1, F.out.2⟩
            have h5 := HK.out.1
            have h6 := HK.out.2.2
            rw [List.length_append]
            first | (congr 1; simp only [List.length_cons, List.length_nil]; omega) | (simp only [List.length_cons, List.length_nil]; go_num)
          case measure => have := HK.out.2.1; simp only [List.length_cons] at this; omega
end Go.Proofs.YtglbkodmmogomaaGreatDoor
/-
  slices.symMerge over records: the right run is a single record.
-/
namespace Go.Proofs.YtglbkodmmogomaaGreatDoor
open Go Go.RowKit
attribute [local irreducible] wpL wpH
set_option maxRecDepth 100000 in
set_option maxHeartbeats 1000000 in
theorem sym_last (b off cap N a m n : Nat) (P B S : List Rec) (x : Rec) (w : World) (h : RW w b off (P ++ B ++ x :: S)) (hN : (P ++ B ++ x :: S).length = N) (hN2 : N < 1099511627776)
    (ha : P.length = a) (hm : a + B.length = m) (hn : m + 1 = n) (hB : Sorted B) (h2 : 2 ≤ B.length) :
    Calls Tryz.prog 177 #[.slice (some ⟨b, off, none⟩) N cap, .int .i64 a, .int .i64 m, .int .i64 n, .func (.func 117) #[] #[]] w (SortsTo w b off P (B ++ [x]) S) := by
  have H := Lib.hid h
  have HN := Lib.hid hN
  have HL := Lib.hid (And.intro ha (And.intro hm (And.intro hn hB)))
  have LN : (P ++ B ++ x :: S).length = P.length + B.length + 1 + S.length := by simp; omega
  have b1 : a + 2 ≤ m ∧ m < n ∧ n ≤ N := by omega
  obtain ⟨u, hu⟩ : ∃ u, m - a = u := ⟨_, rfl⟩
  have e1 : IntKind.i64.wrap ((m : Int) - a) = (u : Int) := by rw [show (m : Int) - a = ((u : Nat) : Int) by omega]; exact wrapNat (by omega)
  have hu1 : ((u : Int) == 1) = false := by simp; omega
  have e0 : IntKind.i64.wrap ((n : Int) - m) = 1 := by rw [show (n : Int) - m = ((1 : Nat) : Int) by omega]; exact wrapNat (by omega)
  have gx : (P ++ B ++ x :: S)[m]? = some x := get_mid (by rw [List.length_append]; omega)
  have HG := Lib.hid gx
  clear h hN ha hm hn hB LN gx hu h2
  go_enter Tryz.func177, Tryz.ntmps177
  go_wp2
  go_loopg [14, 15] B.length (fun g i j wr => ∃ (B1 B2 B3 : List Rec), i = .int .i64 ((a + B1.length : Nat) : Int) ∧ j = .int .i64 ((a + B1.length + B2.length : Nat) : Int) ∧ B2.length ≤ g ∧ B = B1 ++ B2 ++ B3 ∧ (∀ y ∈ B1, y.pos ≤ x.pos) ∧ (∀ y ∈ B3, x.pos < y.pos) ∧ Kept none' w wr)
  case atStart => exact ⟨[], B, [], by simp, by rw [← HL.out.2.1]; simp, Nat.le_refl _, by simp, by simp, by simp, Kept.refl _ _⟩
  case round =>
    obtain ⟨B1, B2, B3, rfl, rfl, hg, hB, h1, h3, hkp⟩ := hrel
    obtain ⟨i, hi⟩ : ∃ i, a + B1.length = i := ⟨_, rfl⟩
    obtain ⟨j, hj⟩ : ∃ j, i + B2.length = j := ⟨_, rfl⟩
    rw [hi, hj]
    have hjn : j ≤ m := by have := HL.out.2.1; rw [hB] at this; simp only [List.length_append] at this; omega
    have A := Lib.hid (And.intro hi (And.intro hj (And.intro hg (And.intro hB (And.intro h1 (And.intro h3 hkp))))))
    clear hg hB h1 h3 hkp
    by_cases hlt : i < j
    · obtain ⟨h, hh⟩ : ∃ h, (i + j) / 2 = h := ⟨_, rfl⟩
      have hb : i ≤ h ∧ h < j := by omega
      have e2 : ((i : Int) + (j : Int)) / 2 = (h : Int) := by omega
      clear hi hj hh
      obtain ⟨C1, y, C2, hC, lC⟩ : ∃ C1 y C2, B2 = C1 ++ y :: C2 ∧ C1.length = h - i := split_at (by have := A.out.2.1; omega)
      have gy : (P ++ B ++ x :: S)[h]? = some y := by
        rw [A.out.2.2.2.1, hC, show P ++ (B1 ++ (C1 ++ y :: C2) ++ B3) ++ x :: S = (P ++ B1 ++ C1) ++ y :: (C2 ++ B3 ++ x :: S) by simp]
        refine get_mid ?_
        have h1 := HL.out; have h2 := A.out.1
        simp only [List.length_append]; omega
      have hr := H.out.pure A.out.2.2.2.2.2.2
      obtain ⟨x0, x1, x2⟩ := hr.recs _ _ HG.out
      obtain ⟨y0, y1, y2⟩ := hr.recs _ _ gy
      have hC' := Lib.hid (And.intro hC lC)
      have hhN : h < N := by omega
      have hmN : m < N := by omega
      clear hr gy hC lC
      go_wp2_with fail
      refine wp_region_eager [0, 1, 2, 3, 4, 5, 6, 7, 8, 9, 10, 11] (fun W => Kept none' wr W) (by kernel_rfl) (by kernel_rfl) rfl (Kept.refl _ _).drew ?_
      simp only [List.map_cons, List.map_nil, List.getElem?_toArray, List.getElem?_cons_zero, List.getElem?_cons_succ, Option.getD_some]
      iterate 9 (apply wpL_float rfl rfl; (intro W hW; have c0 := hW.cell (fun h => h) x0; have c1 := hW.cell (fun h => h) x1; have c2 := hW.cell (fun h => h) x2; have d0 := hW.cell (fun h => h) y0; have d1 := hW.cell (fun h => h) y1; have d2 := hW.cell (fun h => h) y2; go_simp; rfl); go_frame)
      apply wpL_loud rfl rfl
      intro K hK
      go_wp2_with fail
      refine (cmp_rec x y _).mono ?_
      rintro e w3 ⟨rfl, k3⟩
      have k3' : Kept none' wr w3 := k3.drew_left
      by_cases hxy : x.pos < y.pos
      · have hc : cmp3 x.pos y.pos < 0 := by rw [cmp3_lt]; exact hxy
        have hcn : (!decide (cmp3 x.pos y.pos < 0)) = false := by rw [decide_eq_true hc]; rfl
        go_wp2_with fail
        refine hK _ _ (fun _ => k3') ?_
        clear hK
        iterate 2 (apply wpL_float rfl rfl; (intro W hW; go_simp; rfl); go_frame)
        refine wpL_nil (fun _ => k3') ?_
        go_wp2_with fail
        go_roundg C1.length
        case rel =>
          obtain ⟨q1, q2, q3, q4, q5, q6, q7⟩ := A.out
          obtain ⟨u1, u2⟩ := hC'.out
          rw [u1] at q2 q4
          have hs := HL.out.2.2.2
          rw [q4] at hs
          refine ⟨B1, C1, y :: C2 ++ B3, ?_, ?_, Nat.le_refl _, ?_, q5, ?_, q7.trans k3'.pure⟩
          · rw [q1]
          · congr 1; omega
          · rw [q4]; simp
          · intro z hz
            rcases List.mem_append.1 hz with hz | hz
            · rcases List.mem_cons.1 hz with rfl | hz
              · omega
              · have := (List.pairwise_cons.1 hs.left.right.right).1 z hz; omega
            · exact q6 z hz
        case measure =>
          have u1 := hC'.out.1
          have q3 := A.out.2.2.1
          rw [u1] at q3
          simp only [List.length_append, List.length_cons] at q3; omega
      · have hc : ¬ cmp3 x.pos y.pos < 0 := by rw [cmp3_lt]; exact hxy
        have hcn : (!decide (cmp3 x.pos y.pos < 0)) = true := by rw [decide_eq_false hc]; rfl
        have e3 : IntKind.i64.wrap ((h : Int) + 1) = ((h + 1 : Nat) : Int) := wrapNat (n := h + 1) (by omega)
        go_wp2_with fail
        refine hK _ _ (fun _ => k3') ?_
        clear hK
        iterate 2 (apply wpL_float rfl rfl; (intro W hW; go_simp; rfl); go_frame)
        refine wpL_nil (fun _ => k3') ?_
        go_wp2_with fail
        go_roundg C2.length
        case rel =>
          obtain ⟨q1, q2, q3, q4, q5, q6, q7⟩ := A.out
          obtain ⟨u1, u2⟩ := hC'.out
          rw [u1] at q2 q4
          simp only [List.length_append, List.length_cons] at q2
          have hs := HL.out.2.2.2
          rw [q4] at hs
          refine ⟨B1 ++ C1 ++ [y], C2, B3, ?_, ?_, Nat.le_refl _, ?_, ?_, q6, q7.trans k3'.pure⟩
          · congr 1; simp only [List.length_append, List.length_cons, List.length_nil]; omega
          · congr 1; simp only [List.length_append, List.length_cons, List.length_nil]; omega
          · rw [q4]; simp
          · intro z hz
            rcases List.mem_append.1 hz with hz | hz
            · rcases List.mem_append.1 hz with hz | hz
              · exact q5 z hz
              · have := hs.left.right.le z hz y (by simp); omega
            · simp at hz; rw [hz]; omega
        case measure =>
          have u1 := hC'.out.1
          have q3 := A.out.2.2.1
          rw [u1] at q3
          simp only [List.length_append, List.length_cons] at q3; omega
    · have hB2 : B2 = [] := by
        have := A.out.2.1
        exact List.eq_nil_of_length_eq_zero (by omega)
      subst hB2
      have hiN : i ≤ m := by simp only [List.length_nil] at hj; omega
      clear hi hj
      go_wp2_with fail
      go_loopg [17] B3.length (fun g k wr2 => ∃ (D1 D2 : List Rec), k = .int .i64 ((i + D1.length : Nat) : Int) ∧ B3 = D1 ++ D2 ∧ D1.length ≤ g ∧ RW wr2 b off (P ++ B1 ++ D1 ++ x :: D2 ++ S) ∧ Kept (one b) w wr2)
      case atStart =>
        have q := A.out
        refine ⟨B3, [], ?_, by simp, Nat.le_refl _, ?_, q.2.2.2.2.2.2.pure⟩
        · have h1 := q.2.2.2.1; have h2 := HL.out.2.1; rw [h1] at h2; simp only [List.length_append, List.length_nil] at h2
          have := q.1
          congr 1; omega
        · have := H.out.pure q.2.2.2.2.2.2
          rw [q.2.2.2.1] at this
          simpa using this
      case round =>
        obtain ⟨D1, D2, rfl, hD, hg2, hr, hkp⟩ := hrel
        rcases List.eq_nil_or_concat D1 with rfl | ⟨D1, y, rfl⟩
        · obtain ⟨k, hk⟩ : ∃ k, i + ([] : List Rec).length = k := ⟨_, rfl⟩
          rw [hk]
          have hn0 : ¬ (i : Int) < (k : Int) := by simp only [List.length_nil] at hk; omega
          have F : SortsTo w b off P (B ++ [x]) S (.returned (.tuple #[])) wr := by
            obtain ⟨q1, q2, q3, q4, q5, q6, q7⟩ := A.out
            have hs := HL.out.2.2.2
            rw [List.nil_append] at hD
            subst hD
            rw [q4] at hs
            refine ⟨B1 ++ x :: B3, ?_, ?_, rfl, by simpa using hr, hkp⟩
            · rw [q4]
              have := (Same.refl B1).append (Same.comm (A := B3) (B := [x]) (fun u hu v hv => by simp at hv; subst hv; have := q6 u hu; omega))
              simpa using this
            · refine Sorted.append hs.left.left (List.pairwise_cons.2 ⟨fun z hz => Int.le_of_lt (q6 z hz), hs.right⟩) ?_
              intro u hu v hv
              have := q5 u hu
              rcases List.mem_cons.1 hv with rfl | hv
              · omega
              · have := q6 v hv; omega
          have FF := Lib.hid F
          clear F hr hkp hD hk
          go_wp2_with fail
          go_end0
          exact FF.out
        · rw [List.concat_eq_append] at hr hD hg2
          have hB1 : i + D1.length + 1 ≤ m := by
            have h1 := A.out.2.2.2.1; have h2 := HL.out.2.1; have h3 := A.out.1
            rw [h1, hD] at h2; simp only [List.length_append, List.length_cons, List.length_nil] at h2; omega
          obtain ⟨q, hq⟩ : ∃ q, i + D1.length = q := ⟨_, rfl⟩
          obtain ⟨k, hk⟩ : ∃ k, q + 1 = k := ⟨_, rfl⟩
          have hkk : i + (D1.concat y).length = k := by rw [List.concat_eq_append, List.length_append]; simp only [List.length_cons, List.length_nil]; omega
          rw [hkk]
          have hn0 : (i : Int) < (k : Int) := by omega
          have e4 : IntKind.i64.wrap ((k : Int) - 1) = (q : Int) := by rw [show (k : Int) - 1 = ((q : Nat) : Int) by omega]; exact wrapNat (by omega)
          have hPq : (P ++ B1 ++ D1).length = q := by rw [List.length_append, List.length_append, HL.out.1, A.out.1]; exact hq
          have gy : (P ++ B1 ++ (D1 ++ [y]) ++ x :: D2 ++ S)[q]? = some y := by
            rw [show P ++ B1 ++ (D1 ++ [y]) ++ x :: D2 ++ S = (P ++ B1 ++ D1) ++ y :: (x :: D2 ++ S) by simp]; exact get_mid hPq
          have gx : (P ++ B1 ++ (D1 ++ [y]) ++ x :: D2 ++ S)[k]? = some x := by
            rw [show P ++ B1 ++ (D1 ++ [y]) ++ x :: D2 ++ S = (P ++ B1 ++ D1 ++ [y]) ++ x :: (D2 ++ S) by simp]
            exact get_mid (by rw [List.length_append, hPq]; exact hk)
          have hlenN : (P ++ B1 ++ (D1 ++ [y]) ++ x :: D2 ++ S).length = N := by
            have h1 := HN.out
            rw [A.out.2.2.2.1, hD] at h1
            simp only [List.length_append, List.length_cons, List.length_nil] at h1 ⊢; omega
          have hkN : k < N := by omega
          have hqN : q < N := by omega
          obtain ⟨x0, x1, x2⟩ := hr.recs _ _ gx
          obtain ⟨y0, y1, y2⟩ := hr.recs _ _ gy
          obtain ⟨fx0, fx1, fx2⟩ := hr.soft k (by omega)
          obtain ⟨fy0, fy1, fy2⟩ := hr.soft q (by omega)
          have hstep : ((P ++ B1 ++ (D1 ++ [y]) ++ x :: D2 ++ S).set k y).set q x = P ++ B1 ++ D1 ++ x :: (y :: D2) ++ S := by
            rw [show P ++ B1 ++ (D1 ++ [y]) ++ x :: D2 ++ S = (P ++ B1 ++ D1) ++ y :: x :: (D2 ++ S) by simp, swap_back hPq hk]
            simp
          have hsw := hr.swap x y (i := k) (j := q) (by omega) (by omega)
          rw [hstep] at hsw
          have F := Lib.hid (And.intro (hsw.pure (Kept.refl _ _).drew) (hkp.trans ((swap_kept wr b (off + k * 3) (off + q * 3) x y).drew)))
          have HD := Lib.hid hD
          have HK := Lib.hid (And.intro hq hg2)
          have hne : k ≠ q := by omega
          clear hr hkp hD hPq gx gy hlenN hstep hsw hk hB1 hq hg2 hkk
          go_wp2_with fail
          refine wp_region_hot [0, 1, 2, 3, 4, 5, 6, 7, 8, 9, 10, 11, 12, 13, 14, 15, 16, 17] (fun W => Kept none' wr W) (by kernel_rfl) (by kernel_rfl) rfl (Kept.refl _ _).drew ?_
          simp only [List.map_cons, List.map_nil, List.getElem?_toArray, List.getElem?_cons_zero, List.getElem?_cons_succ, Option.getD_some]
          iterate 15 (first | (apply wpH_pure rfl rfl; (intro W; go_simp; rfl); go_frame) | (apply wpH_read rfl rfl rfl; (intro W hW; have c0 := hW.cell (fun h => h) x0; have c1 := hW.cell (fun h => h) x1; have c2 := hW.cell (fun h => h) x2; have d0 := hW.cell (fun h => h) y0; have d1 := hW.cell (fun h => h) y1; have d2 := hW.cell (fun h => h) y2; go_simp; rfl); go_frame))
          apply wpH_hot rfl rfl rfl
          intro K hK
          go_wp2_with fail
          apply wpH_pure rfl rfl
          · intro W; go_simp; rfl
          go_frame
          apply wpH_hot rfl rfl rfl
          intro K2 hK2
          go_wp2_with fail
          apply wpH_end
          go_wp2_with fail
          go_roundg D1.length
          case rel =>
            refine ⟨D1, y :: D2, ?_, by rw [HD.out]; simp, Nat.le_refl _, F.out.1, F.out.2⟩
            rw [HK.out.1]
          case measure => have := HK.out.2; simp only [List.length_append, List.length_cons, List.length_nil] at this; omega
end Go.Proofs.YtglbkodmmogomaaGreatDoor
