/-
  slices.insertionSort over records: a stretch comes sorted, those of one place as they were.
-/
import Derived.Test.YtglbkodmmogomaaGreatDoorF07
import Derived.Test.YtglbkodmmogomaaGreatDoorF06
import Derived.Deep.LoopGhost
set_option linter.unusedVariables false
set_option linter.unusedSimpArgs false
namespace Go.Proofs.YtglbkodmmogomaaGreatDoor
open Go Go.RowKit
attribute [local irreducible] wpL wpH
set_option maxRecDepth 100000 in
theorem cmp_rec (x y : Rec) (w : World) : Calls Tryz.prog 117 #[.agg #[.int .i64 x.pos, .int .i64 x.key, .int .i64 x.val], .agg #[.int .i64 y.pos, .int .i64 y.key, .int .i64 y.val]] w (Gives w (.int .i64 (cmp3 x.pos y.pos))) := by
  go_enter Tryz.func117, Tryz.ntmps117
  go_wp2_with fail
  refine (cmp64 _ _ _).mono ?_
  rintro e w' ⟨rfl, rfl⟩
  go_wp2_with fail
  go_ret
  exact ⟨rfl, ((Kept.refl _ _).alloc _).alloc _⟩
theorem cmp3_lt (a b : Int) : (cmp3 a b < 0) = (a < b) := by
  unfold cmp3; simp only [eq_iff_iff]
  split
  · constructor <;> intro <;> omega
  · split <;> constructor <;> intro <;> omega
def SortsTo (w : World) (b off : Nat) (P X S : List Rec) (e : Ending) (w' : World) : Prop := ∃ X', Same X X' ∧ Sorted X' ∧ Moves w b off (P ++ X' ++ S) e w'
theorem swap_back {P A2 R : List Rec} {x y : Rec} {i j : Nat} (hi : P.length = i) (hj : i + 1 = j) : (((P ++ y :: x :: (A2 ++ R)).set j y).set i x) = P ++ x :: y :: (A2 ++ R) := by
  subst hj
  rw [show P ++ y :: x :: (A2 ++ R) = (P ++ [y]) ++ x :: (A2 ++ R) by simp, set_mid (by simpa using hi), show P ++ [y] ++ y :: (A2 ++ R) = P ++ y :: y :: (A2 ++ R) by simp, set_mid hi]
set_option maxRecDepth 100000 in
set_option maxHeartbeats 1000000 in
theorem insertion_any (b off cap N a n : Nat) (P X S : List Rec) (w : World) (h : RW w b off (P ++ X ++ S)) (hN : (P ++ X ++ S).length = N) (hN2 : N < 1099511627776) (ha : P.length = a) (hn : (P ++ X).length = n) :
    Calls Tryz.prog 176 #[.slice (some ⟨b, off, none⟩) N cap, .int .i64 a, .int .i64 n, .func (.func 117) #[] #[]] w (SortsTo w b off P X S) := by
  have H := Lib.hid h
  have HN := Lib.hid hN
  have HA := Lib.hid ha
  have LN : (P ++ X ++ S).length = P.length + X.length + S.length := by simp; omega
  have LM : (P ++ X).length = P.length + X.length := by simp
  have b1 : a ≤ n ∧ n ≤ N := by omega
  have HX := Lib.hid (show a + X.length = n by omega)
  clear h hN ha hn LN LM
  have e1 : IntKind.i64.wrap ((a : Int) + 1) = ((a + 1 : Nat) : Int) := wrapNat (n := a + 1) (by omega)
  go_enter Tryz.func176, Tryz.ntmps176
  go_wp2
  go_loopg [8] X.length (fun g i wr => ∃ (i' : Nat) (A R : List Rec), i = .int .i64 (i' : Int) ∧ R.length ≤ g ∧ (i' = a + A.length ∧ A ≠ [] ∨ A = [] ∧ R = [] ∧ i' = a + 1) ∧ a + A.length + R.length = n ∧ Sorted A ∧ Same X (A ++ R) ∧ RW wr b off (P ++ A ++ R ++ S) ∧ Kept (one b) w wr)
  case atStart =>
    cases X with
    | nil => exact ⟨a + 1, [], [], by go_num, Nat.le_refl _, .inr ⟨rfl, rfl, rfl⟩, by simpa using HX.out, List.Pairwise.nil, Same.refl _, by simpa using H.out, Kept.refl _ _⟩
    | cons x R =>
      refine ⟨a + 1, [x], R, by go_num, ?_, .inl ⟨rfl, by simp⟩, ?_, by simp [Sorted], Same.refl _, by simpa using H.out, Kept.refl _ _⟩
      · simp
      · have := HX.out; simp only [List.length_cons, List.length_nil] at this ⊢; omega
  case round =>
    obtain ⟨i', A, R, rfl, hg, hi, hn, hs, hsame, hr, hkp⟩ := hrel
    cases R with
    | nil =>
      have hlt : ¬ (i' : Int) < n := by
        simp only [List.length_nil] at hn
        rcases hi with ⟨h1, _⟩ | ⟨h1, _, h2⟩
        · omega
        · rw [h1] at hn; simp only [List.length_nil] at hn; omega
      have F : SortsTo w b off P X S (.returned (.tuple #[])) wr := ⟨A, by simpa using hsame, hs, rfl, by simpa using hr, hkp⟩
      have FF := Lib.hid F
      clear F hg hi hn hs hsame hr hkp
      go_wp2_with fail
      go_end0
      exact FF.out
    | cons x R =>
      obtain ⟨rfl, hA⟩ : i' = a + A.length ∧ A ≠ [] := by
        rcases hi with h | ⟨_, h, _⟩
        · exact h
        · cases h
      have hn' : a + A.length < n := by simp only [List.length_cons] at hn; omega
      have hlt : ((a + A.length : Nat) : Int) < n := by omega
      obtain ⟨i, hi'⟩ : ∃ i, a + A.length = i := ⟨_, rfl⟩
      have HH := Lib.hid (And.intro hg (And.intro hn (And.intro hs hsame)))
      have HR := Lib.hid hr
      clear hg hi hn hs hsame hr
      rw [hi'] at hn' hlt ⊢
      have HI := Lib.hid hi'
      clear hi'
      go_wp2_with fail
      go_loopg [9] A.length (fun g j wr => ∃ (A1 A2 : List Rec), A = A1 ++ A2 ∧ j = .int .i64 ((a + A1.length : Nat) : Int) ∧ A1.length = g ∧ (∀ y ∈ A2, x.pos < y.pos) ∧ RW wr b off (P ++ A1 ++ x :: A2 ++ R ++ S) ∧ Kept (one b) w wr)
      case atStart => exact ⟨A, [], by simp, by rw [HI.out], rfl, by simp, by simpa using HR.out, hkp⟩
      case round =>
        clear HR hkp
        obtain ⟨A1, A2, rfl, rfl, hg, hgt, hr, hkp⟩ := hrel
        have hxi := HI.out
        rw [List.length_append] at hxi
        rcases List.eq_nil_or_concat A1 with rfl | ⟨A1, y, rfl⟩
        · -- j = a
          have hn0 : ¬ a < a + ([] : List Rec).length := by simp
          obtain ⟨j, hj⟩ : ∃ j, a + ([] : List Rec).length = j := ⟨_, rfl⟩
          rw [hj] at hn0 ⊢
          have hn1 : decide (a < j) = false := decide_eq_false hn0
          have hn2 : decide ((a : Int) < (j : Int)) = false := decide_eq_false (by omega)
          have hi1 : IntKind.i64.wrap ((i : Int) + 1) = ((i + 1 : Nat) : Int) := wrapNat (n := i + 1) (by omega)
          have F : ∃ (i' : Nat) (A R' : List Rec), Value.int .i64 ((i + 1 : Nat) : Int) = .int .i64 (i' : Int) ∧ R'.length ≤ R.length ∧ (i' = a + A.length ∧ A ≠ [] ∨ A = [] ∧ R' = [] ∧ i' = a + 1) ∧ a + A.length + R'.length = n ∧ Sorted A ∧ Same X (A ++ R') ∧ RW wr.drew b off (P ++ A ++ R' ++ S) ∧ Kept (one b) w wr.drew := by
            obtain ⟨h1, h2, h3, h4⟩ := HH.out
            refine ⟨_, x :: A2, R, rfl, Nat.le_refl _, .inl ⟨?_, by simp⟩, ?_, ?_, ?_, ?_, hkp.drew⟩
            · simp only [List.length_nil, List.length_cons] at hxi ⊢; omega
            · simp only [List.length_append, List.length_cons, List.length_nil] at h2 ⊢; omega
            · exact List.pairwise_cons.2 ⟨fun y hy => Int.le_of_lt (hgt y hy), h3⟩
            · refine h4.trans ?_
              have := (Same.comm (A := A2) (B := [x]) (fun a ha b hb => by have := hgt a ha; simp at hb; subst hb; omega)).append (Same.refl R)
              simpa using this
            · simpa using hr.pure (Kept.refl _ _).drew
          have FF := Lib.hid F
          clear F hr hg hgt hkp hxi hj
          go_wp2_with fail
          refine wp_region_eager [0, 1, 2, 3, 4, 5, 6, 7, 8, 9, 10, 11, 12, 13, 14, 15, 16] (fun W => Kept none' wr W) (by kernel_rfl) (by kernel_rfl) rfl (Kept.refl _ _).drew ?_
          simp only [List.map_cons, List.map_nil, List.getElem?_toArray, List.getElem?_cons_zero, List.getElem?_cons_succ, Option.getD_some]
          iterate 4 (apply wpL_float rfl rfl; (intro W hW; go_simp; rfl); go_frame)
          skip
          iterate 12 (apply wpL_skip rfl; go_frame)
          apply wpL_float rfl rfl
          · intro W hW; go_simp; rfl
          go_frame
          refine wpL_nil (fun _ => (Kept.refl _ _).drew) ?_
          go_wp2_with fail
          go_roundg R.length
          case rel => exact FF.out
          case measure => have := HH.out; simp at this; omega
        · -- j > a
          obtain ⟨q, hq⟩ : ∃ q, a + A1.length = q := ⟨_, rfl⟩
          obtain ⟨j, hj⟩ : ∃ j, q + 1 = j := ⟨_, rfl⟩
          have hjj : a + (A1.concat y).length = j := by rw [List.concat_eq_append, List.length_append]; simp only [List.length_cons, List.length_nil]; omega
          rw [hjj]
          rw [List.concat_eq_append] at hr
          have hA1 := HA.out
          have hPq : (P ++ A1).length = q := by rw [List.length_append]; omega
          have hPj : (P ++ A1 ++ [y]).length = j := by simp only [List.length_append, List.length_cons, List.length_nil] at hPq ⊢; omega
          have gx : (P ++ (A1 ++ [y]) ++ x :: A2 ++ R ++ S)[j]? = some x := by
            rw [show P ++ (A1 ++ [y]) ++ x :: A2 ++ R ++ S = (P ++ A1 ++ [y]) ++ x :: (A2 ++ R ++ S) by simp]
            exact get_mid hPj
          have gy : (P ++ (A1 ++ [y]) ++ x :: A2 ++ R ++ S)[q]? = some y := by
            rw [show P ++ (A1 ++ [y]) ++ x :: A2 ++ R ++ S = (P ++ A1) ++ y :: (x :: A2 ++ R ++ S) by simp]
            exact get_mid hPq
          have hjN : j < (P ++ (A1 ++ [y]) ++ x :: A2 ++ R ++ S).length := (List.getElem?_eq_some_iff.1 gx).1
          have hlenN : (P ++ (A1 ++ [y]) ++ x :: A2 ++ R ++ S).length = N := by
            have h1 := HN.out
            have h2 := HX.out
            have h3 := HH.out.2.1
            simp only [List.concat_eq_append, List.length_append, List.length_cons, List.length_nil] at h1 h2 h3 ⊢
            omega
          have hjN' : j < N := by omega
          have hqN' : q < N := by omega
          obtain ⟨x0, x1, x2⟩ := hr.recs _ _ gx
          obtain ⟨y0, y1, y2⟩ := hr.recs _ _ gy
          obtain ⟨fx0, fx1, fx2⟩ := hr.soft j (by omega)
          obtain ⟨fy0, fy1, fy2⟩ := hr.soft q (by omega)
          have hn0 : a < j := by omega
          have hn1 : decide (a < j) = true := decide_eq_true hn0
          have hn2 : decide ((a : Int) < (j : Int)) = true := decide_eq_true (by omega)
          have e3 : IntKind.i64.wrap ((j : Int) - 1) = (q : Int) := by rw [show (j : Int) - 1 = ((q : Nat) : Int) by omega]; exact wrapNat (by omega)
          have HJ := Lib.hid (And.intro hq (And.intro hj (And.intro hg (And.intro hgt hkp))))
          have HPQ := Lib.hid (And.intro hPq (And.intro hPj hlenN))
          have HXI := Lib.hid hxi
          have HR := Lib.hid hr
          have ine : i < N := by omega
          clear hq hj hg hgt hkp hPq hPj hlenN hxi hr gx gy hjj hA1 hjN
          go_wp2_with fail
          refine wp_region_eager [0, 1, 2, 3, 4, 5, 6, 7, 8, 9, 10, 11, 12, 13, 14, 15, 16] (fun W => Kept none' wr W) (by kernel_rfl) (by kernel_rfl) rfl (Kept.refl _ _).drew ?_
          simp only [List.map_cons, List.map_nil, List.getElem?_toArray, List.getElem?_cons_zero, List.getElem?_cons_succ, Option.getD_some]
          iterate 14 (apply wpL_float rfl rfl; (intro W hW; have c0 := hW.cell (fun h => h) x0; have c1 := hW.cell (fun h => h) x1; have c2 := hW.cell (fun h => h) x2; have d0 := hW.cell (fun h => h) y0; have d1 := hW.cell (fun h => h) y1; have d2 := hW.cell (fun h => h) y2; go_simp; rfl); go_frame)
          apply wpL_loud rfl rfl
          intro K hK
          go_wp2_with fail
          refine (cmp_rec x y _).mono ?_
          rintro e w3 ⟨rfl, k3⟩
          have k3' : Kept none' wr w3 := k3.drew_left
          by_cases hxy : x.pos < y.pos
          · have hc : cmp3 x.pos y.pos < 0 := by rw [cmp3_lt]; exact hxy
            go_wp2_with fail
            refine hK _ _ (fun _ => k3') ?_
            clear hK
            iterate 2 (apply wpL_float rfl rfl; (intro W hW; go_simp; rfl); go_frame)
            refine wpL_nil (fun _ => k3') ?_
            have hr3 := HR.out.pure k3'
            have hstep : ((P ++ (A1 ++ [y]) ++ x :: A2 ++ R ++ S).set j y).set q x = P ++ A1 ++ x :: (y :: A2) ++ R ++ S := by
              rw [show P ++ (A1 ++ [y]) ++ x :: A2 ++ R ++ S = (P ++ A1) ++ y :: x :: (A2 ++ (R ++ S)) by simp, swap_back HPQ.out.1 HJ.out.2.1]
              simp
            have hsw := hr3.swap x y (i := j) (j := q) (by rw [HPQ.out.2.2]; omega) (by rw [HPQ.out.2.2]; omega)
            rw [hstep] at hsw
            have F := Lib.hid (And.intro (hsw.pure (Kept.refl _ _).drew) ((HJ.out.2.2.2.2.trans k3'.pure).trans ((swap_kept w3 b (off + j * 3) (off + q * 3) x y).drew)))
            have s0 := k3'.cell (fun h => h) x0
            have s1 := k3'.cell (fun h => h) x1
            have s2 := k3'.cell (fun h => h) x2
            have t0 := k3'.cell (fun h => h) y0
            have t1 := k3'.cell (fun h => h) y1
            have t2 := k3'.cell (fun h => h) y2
            obtain ⟨gx0, gx1, gx2⟩ := hr3.soft j (by rw [HPQ.out.2.2]; omega)
            obtain ⟨gy0, gy1, gy2⟩ := hr3.soft q (by rw [HPQ.out.2.2]; omega)
            clear x0 x1 x2 y0 y1 y2 fx0 fx1 fx2 fy0 fy1 fy2 hr3 hstep hsw k3
            have hne : j ≠ q := by have := HJ.out.2.1; omega
            go_wp2_with fail
            refine wp_region_hot [0, 1, 2, 3, 4, 5, 6, 7, 8, 9, 10, 11, 12, 13, 14, 15, 16, 17] (fun W => Kept none' w3 W) (by kernel_rfl) (by kernel_rfl) rfl (Kept.refl _ _).drew ?_
            simp only [List.map_cons, List.map_nil, List.getElem?_toArray, List.getElem?_cons_zero, List.getElem?_cons_succ, Option.getD_some]
            iterate 15 (first | (apply wpH_pure rfl rfl; (intro W; go_simp; rfl); go_frame) | (apply wpH_read rfl rfl rfl; (intro W hW; have c0 := hW.cell (fun h => h) s0; have c1 := hW.cell (fun h => h) s1; have c2 := hW.cell (fun h => h) s2; have d0 := hW.cell (fun h => h) t0; have d1 := hW.cell (fun h => h) t1; have d2 := hW.cell (fun h => h) t2; go_simp; rfl); go_frame))
            apply wpH_hot rfl rfl rfl
            intro K hK
            go_wp2_with fail
            apply wpH_pure rfl rfl
            · intro W; go_simp; rfl
            go_frame
            apply wpH_hot rfl rfl rfl
            intro K2 hK2
            go_wp2_with fail
            apply wpH_end
            go_wp2_with fail
            go_roundg A1.length
            case rel =>
              refine ⟨A1, y :: A2, by simp, ?_, rfl, ?_, F.out.1, F.out.2⟩
              · have := HJ.out.1; rw [this]
              · intro z hz
                rcases List.mem_cons.1 hz with rfl | hz
                · exact hxy
                · exact HJ.out.2.2.2.1 z hz
            case measure => have := HJ.out.2.2.1; rw [List.concat_eq_append, List.length_append] at this; simp at this; omega
          · have hc : ¬ cmp3 x.pos y.pos < 0 := by rw [cmp3_lt]; exact hxy
            go_wp2_with fail
            refine hK _ _ (fun _ => k3') ?_
            clear hK
            iterate 2 (apply wpL_float rfl rfl; (intro W hW; go_simp; rfl); go_frame)
            refine wpL_nil (fun _ => k3') ?_
            have hi1 : IntKind.i64.wrap ((i : Int) + 1) = ((i + 1 : Nat) : Int) := wrapNat (n := i + 1) (by omega)
            have F : ∃ (i' : Nat) (A R' : List Rec), Value.int .i64 ((i + 1 : Nat) : Int) = .int .i64 (i' : Int) ∧ R'.length ≤ R.length ∧ (i' = a + A.length ∧ A ≠ [] ∨ A = [] ∧ R' = [] ∧ i' = a + 1) ∧ a + A.length + R'.length = n ∧ Sorted A ∧ Same X (A ++ R') ∧ RW w3 b off (P ++ A ++ R' ++ S) ∧ Kept (one b) w w3 := by
              obtain ⟨h1, h2, h3, h4⟩ := HH.out
              have h5 := HXI.out
              have h6 := HJ.out
              rw [List.concat_eq_append] at h2 h3 h4 h5
              refine ⟨_, A1 ++ [y] ++ x :: A2, R, rfl, Nat.le_refl _, .inl ⟨?_, by simp⟩, ?_, ?_, ?_, ?_, h6.2.2.2.2.trans k3'.pure⟩
              · simp only [List.length_append, List.length_cons, List.length_nil] at h5 ⊢; omega
              · simp only [List.length_append, List.length_cons, List.length_nil] at h2 ⊢; omega
              · refine Sorted.append h3.left (List.pairwise_cons.2 ⟨fun z hz => Int.le_of_lt (h6.2.2.2.1 z hz), h3.right⟩) ?_
                intro u hu v hv
                have h7 : u.pos ≤ y.pos := by
                  rcases List.mem_append.1 hu with hu | hu
                  · exact h3.left.le u hu y (by simp)
                  · simp at hu; rw [hu]; exact Int.le_refl _
                rcases List.mem_cons.1 hv with rfl | hv
                · omega
                · have := h6.2.2.2.1 v hv; omega
              · refine h4.trans ?_
                have := ((Same.refl (A1 ++ [y])).append (Same.comm (A := A2) (B := [x]) (fun u hu v hv => by have := h6.2.2.2.1 u hu; simp at hv; subst hv; omega))).append (Same.refl R)
                simpa using this
              · simpa using HR.out.pure k3'
            have FF := Lib.hid F
            clear F
            go_wp2_with fail
            go_roundg R.length
            case rel => exact FF.out
            case measure => have := HH.out.1; simp at this; omega
end Go.Proofs.YtglbkodmmogomaaGreatDoor
