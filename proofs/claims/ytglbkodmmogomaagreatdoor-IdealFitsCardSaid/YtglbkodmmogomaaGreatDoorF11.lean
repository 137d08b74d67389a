/-
  slices.symMerge over records: two sorted runs that stand beside each other come sorted, those of one place as they were.
-/
import Derived.Test.YtglbkodmmogomaaGreatDoorF10
set_option linter.unusedVariables false
set_option linter.unusedSimpArgs false
namespace Go.Proofs.YtglbkodmmogomaaGreatDoor
open Go Go.RowKit
attribute [local irreducible] wpL wpH
set_option maxRecDepth 100000 in
set_option maxHeartbeats 1000000 in
theorem sym_any (b off cap N : Nat) (hN2 : N < 1099511627776) (fuel : Nat) : ∀ (a m n : Nat) (P A B S : List Rec) (w : World), A.length + B.length ≤ fuel → RW w b off (P ++ A ++ B ++ S) → (P ++ A ++ B ++ S).length = N →
    P.length = a → a + A.length = m → m + B.length = n → Sorted A → Sorted B → A ≠ [] → B ≠ [] →
    Calls Tryz.prog 177 #[.slice (some ⟨b, off, none⟩) N cap, .int .i64 a, .int .i64 m, .int .i64 n, .func (.func 117) #[] #[]] w (SortsTo w b off P (A ++ B) S) := by
  induction fuel with
  | zero =>
    intro a m n P A B S w hf _ _ _ _ _ _ _ hA _
    have := List.length_pos_iff.2 hA
    omega
  | succ fuel ih =>
    intro a m n P A B S w hf h hN ha hm hn sA sB hA hB
    have lA := List.length_pos_iff.2 hA
    have lB := List.length_pos_iff.2 hB
    by_cases h1 : A.length = 1
    · match A, h1 with
      | [x], _ =>
        have := sym_one b off cap N a m n P B S x w (by simpa using h) (by simpa using hN) hN2 ha (by simpa using hm) hn sB
        simpa using this
    by_cases h2 : B.length = 1
    · match B, h2 with
      | [x], _ =>
        have := sym_last b off cap N a m n P A S x w (by simpa using h) (by simpa using hN) hN2 ha hm (by simpa using hn) sA (by omega)
        simpa using this
    have LN : (P ++ A ++ B ++ S).length = P.length + A.length + B.length + S.length := by simp; omega
    have H := Lib.hid h
    have IH := Lib.hid ih
    have HN := Lib.hid hN
    have HL := Lib.hid (And.intro ha (And.intro hm (And.intro hn (And.intro sA (And.intro sB hf)))))
    have b1 : a + 2 ≤ m ∧ m + 2 ≤ n ∧ n ≤ N := by omega
    obtain ⟨u, hu⟩ : ∃ u, m - a = u := ⟨_, rfl⟩
    have e1 : IntKind.i64.wrap ((m : Int) - a) = (u : Int) := by rw [show (m : Int) - a = ((u : Nat) : Int) by omega]; exact wrapNat (by omega)
    have hu1 : ((u : Int) == 1) = false := by simp; omega
    obtain ⟨v, hv⟩ : ∃ v, n - m = v := ⟨_, rfl⟩
    have e0 : IntKind.i64.wrap ((n : Int) - m) = (v : Int) := by rw [show (n : Int) - m = ((v : Nat) : Int) by omega]; exact wrapNat (by omega)
    have hv1 : ((v : Int) == 1) = false := by simp; omega
    obtain ⟨mid, hmid⟩ : ∃ mid, mid = (a + n) / 2 := ⟨_, rfl⟩
    obtain ⟨nn, hnn⟩ : ∃ nn, mid + m = nn := ⟨_, rfl⟩
    have e2 : ((a : Int) + (n : Int)) / 2 = (mid : Int) := by omega
    have e3 : IntKind.i64.wrap ((mid : Int) + m) = (nn : Int) := by rw [← hnn]; exact wrapNat (by omega)
    have e4 : IntKind.i64.wrap ((nn : Int) - 1) = ((nn - 1 : Nat) : Int) := by rw [show (nn : Int) - 1 = ((nn - 1 : Nat) : Int) by omega]; exact wrapNat (by omega)
    have bm : a < mid ∧ mid < n := by omega
    have HM := Lib.hid (And.intro hmid hnn)
    have e5 : mid < m → IntKind.i64.wrap ((nn : Int) - n) = ((nn - n : Nat) : Int) := fun h => by rw [show (nn : Int) - n = ((nn - n : Nat) : Int) by omega]; exact wrapNat (by omega)
    have E5 := Lib.hid e5
    clear h hN ha hm hn sA sB hA hB LN ih hf hu hv lA lB h1 h2 hmid hnn e5
    go_enter Tryz.func177, Tryz.ntmps177
    change Code.wp Tryz.prog (Code.seq _ (Code.seq _ (Code.seq _ (Code.seq _ (Code.seq _ (Code.seq _ (Code.seq _ (Code.seq _ symTail38)))))))) _ _ _
    go_upto_if 140 with fail
    go_cut [20, 21] (fun s r wx => ∃ s0 r0 : Nat, s = .int .i64 (s0 : Int) ∧ r = .int .i64 (r0 : Int) ∧ Bnd a m n mid s0 r0 ∧ wx = w)
    case first =>
      have hm1 := HM.out
      by_cases hlt : mid < m
      · have e6 := E5.out hlt
        clear hm1
        go_wp2_with fail
        go_meet
        have hm1 := HM.out
        exact ⟨nn - n, mid, rfl, rfl, ⟨hm1.1, by omega, by omega, .inl ⟨hlt, by omega, rfl⟩⟩, rfl⟩
      · clear hm1
        go_wp2_with fail
        go_meet
        have hm1 := HM.out
        exact ⟨a, m, rfl, rfl, ⟨hm1.1, by omega, by omega, .inr ⟨by omega, rfl, rfl⟩⟩, rfl⟩
    case rest =>
      obtain ⟨s0, r0, rfl, rfl, hb, hw⟩ := hcut
      have hw2 := hw.symm
      subst hw2
      have hs0r : s0 ≤ r0 ∧ a ≤ s0 ∧ r0 ≤ m ∧ r0 + m ≤ nn ∧ nn ≤ s0 + n ∧ r0 ≤ mid := by
        obtain ⟨b1, b2, b3, b4⟩ := hb
        have hm1 := HM.out
        omega
      have HB := Lib.hid hb
      clear hb
      go_wp2
      go_loopg [20, 21] (r0 - s0) (fun g s r wr => ∃ i j : Nat, s = .int .i64 (i : Int) ∧ r = .int .i64 (j : Int) ∧ s0 ≤ i ∧ i ≤ j ∧ j ≤ r0 ∧ j - i ≤ g ∧ Found A B a m (nn - 1) s0 i false ∧ Found A B a m (nn - 1) j r0 true ∧ Kept none' w wr)
      case atStart => exact ⟨s0, r0, rfl, rfl, Nat.le_refl _, hs0r.1, Nat.le_refl _, Nat.le_refl _, fun c h1 h2 => by omega, fun c h1 h2 => by omega, Kept.refl _ _⟩
      case round =>
        obtain ⟨i, j, rfl, rfl, h1, h2, h3, hg, f1, f2, hkp⟩ := hrel
        have FF := Lib.hid (And.intro hg (And.intro f1 (And.intro f2 hkp)))
        clear hg f1 f2 hkp
        by_cases hlt : i < j
        · as_aux_lemma =>
          obtain ⟨c, hc⟩ : ∃ c, (i + j) / 2 = c := ⟨_, rfl⟩
          have hcb : i ≤ c ∧ c < j := by omega
          have e6 : ((i : Int) + (j : Int)) / 2 = (c : Int) := by omega
          obtain ⟨pc, hpc⟩ : ∃ pc, nn - 1 - c = pc := ⟨_, rfl⟩
          have hpb : m ≤ pc ∧ pc < n := by omega
          have e7 : IntKind.i64.wrap (((nn - 1 : Nat) : Int) - c) = (pc : Int) := by rw [show ((nn - 1 : Nat) : Int) - c = ((pc : Nat) : Int) by omega]; exact wrapNat (by omega)
          have hL := HL.out
          obtain ⟨x, hx⟩ : ∃ x, A[c - a]? = some x := ⟨_, List.getElem?_eq_getElem (by omega)⟩
          obtain ⟨y, hy⟩ : ∃ y, B[nn - 1 - c - m]? = some y := ⟨_, List.getElem?_eq_getElem (by omega)⟩
          have gx : (P ++ A ++ B ++ S)[c]? = some x := by
            rw [List.append_assoc, List.append_assoc, List.getElem?_append_right (by omega), List.getElem?_append_left (by omega), hL.1]; exact hx
          have gy : (P ++ A ++ B ++ S)[pc]? = some y := by
            rw [List.append_assoc, List.getElem?_append_right (by rw [List.length_append]; omega), List.getElem?_append_left (by rw [List.length_append]; omega), List.length_append, hL.1, hL.2.1, ← hpc]; exact hy
          have hr := H.out.pure FF.out.2.2.2
          obtain ⟨x0, x1, x2⟩ := hr.recs _ _ gx
          obtain ⟨y0, y1, y2⟩ := hr.recs _ _ gy
          have hcN : c < N := by omega
          have hpN : pc < N := by omega
          have HXY := Lib.hid (And.intro hx hy)
          clear hr gx gy hL hc hpc hx hy
          go_wp2_with fail
          refine wp_region_eager [0, 1, 2, 3, 4, 5, 6, 7, 8, 9, 10, 11, 12, 13] (fun W => Kept none' wr W) (by kernel_rfl) (by kernel_rfl) rfl (Kept.refl _ _).drew ?_
          simp only [List.map_cons, List.map_nil, List.getElem?_toArray, List.getElem?_cons_zero, List.getElem?_cons_succ, Option.getD_some]
          iterate 11 (apply wpL_float rfl rfl; (intro W hW; have c0 := hW.cell (fun h => h) x0; have c1 := hW.cell (fun h => h) x1; have c2 := hW.cell (fun h => h) x2; have d0 := hW.cell (fun h => h) y0; have d1 := hW.cell (fun h => h) y1; have d2 := hW.cell (fun h => h) y2; go_simp; rfl); go_frame)
          apply wpL_loud rfl rfl
          intro K hK
          go_wp2_with fail
          refine (cmp_rec y x _).mono ?_
          rintro e w3 ⟨rfl, k3⟩
          have k3' : Kept none' wr w3 := k3.drew_left
          by_cases hxy : y.pos < x.pos
          · have hc : cmp3 y.pos x.pos < 0 := by rw [cmp3_lt]; exact hxy
            have hcn : (!decide (cmp3 y.pos x.pos < 0)) = false := by rw [decide_eq_true hc]; rfl
            go_wp2_with fail
            refine hK _ _ (fun _ => k3') ?_
            clear hK
            iterate 2 (apply wpL_float rfl rfl; (intro W hW; go_simp; rfl); go_frame)
            refine wpL_nil (fun _ => k3') ?_
            go_wp2_with fail
            go_roundg (c - i)
            case rel =>
              obtain ⟨q1, q2, q3, q4⟩ := FF.out
              refine ⟨i, c, rfl, rfl, h1, hcb.1, by omega, Nat.le_refl _, q2, ?_, q4.trans k3'.pure⟩
              exact Found.right HL.out.2.2.2.1 HL.out.2.2.2.2.1 (by omega) HXY.out.1 HXY.out.2 hxy
            case measure => have := FF.out.1; omega
          · have hc : ¬ cmp3 y.pos x.pos < 0 := by rw [cmp3_lt]; exact hxy
            have hcn : (!decide (cmp3 y.pos x.pos < 0)) = true := by rw [decide_eq_false hc]; rfl
            have e8 : IntKind.i64.wrap ((c : Int) + 1) = ((c + 1 : Nat) : Int) := wrapNat (n := c + 1) (by omega)
            go_wp2_with fail
            refine hK _ _ (fun _ => k3') ?_
            clear hK
            iterate 2 (apply wpL_float rfl rfl; (intro W hW; go_simp; rfl); go_frame)
            refine wpL_nil (fun _ => k3') ?_
            go_wp2_with fail
            go_roundg (j - (c + 1))
            case rel =>
              obtain ⟨q1, q2, q3, q4⟩ := FF.out
              refine ⟨c + 1, j, by first | rfl | go_num, rfl, by omega, by omega, h3, Nat.le_refl _, ?_, q3, q4.trans k3'.pure⟩
              exact Found.left HL.out.2.2.2.1 HL.out.2.2.2.2.1 hs0r.2.1 HXY.out.1 HXY.out.2 (by omega)
            case measure => have := FF.out.1; omega
        · have hij : i = j := by omega
          subst hij
          obtain ⟨A1, A2, B1, B2, rfl, rfl, p1, p2, p3, p4⟩ := sym_split HL.out.2.2.2.1 HL.out.2.2.2.2.1 HL.out.2.1 HL.out.2.2.1 HB.out h1 h3 (by rw [HM.out.2]; exact FF.out.2.1) (by rw [HM.out.2]; exact FF.out.2.2.1)
          obtain ⟨e, he⟩ : ∃ e, m + B1.length = e := ⟨_, rfl⟩
          have hm1 := HM.out
          have e6 : IntKind.i64.wrap ((nn : Int) - i) = (e : Int) := by rw [show (nn : Int) - i = ((e : Nat) : Int) by omega]; exact wrapNat (by omega)
          have hL := HL.out
          simp only [List.length_append] at hL
          have lens : P.length = a ∧ a + A1.length = i ∧ i + A2.length = m ∧ m + B1.length = e ∧ e + B2.length = n ∧ mid + A2.length = e ∧ i + B1.length = mid := by omega
          have hkp := FF.out.2.2.2
          have hr0 := H.out.pure hkp
          have L := Lib.hid (show (P.length = a ∧ a + A1.length = i ∧ i + A2.length = m ∧ m + B1.length = e ∧ e + B2.length = n ∧ mid + A2.length = e ∧ i + B1.length = mid ∧ a < mid ∧ mid < n) ∧
            (∀ u ∈ A1, ∀ v ∈ B2, u.pos ≤ v.pos) ∧ (∀ u ∈ A2, ∀ v ∈ B1, v.pos < u.pos) from ⟨by omega, p3, p4⟩)
          have R0 := Lib.hid (And.intro hr0 hkp)
          have HL2 := Lib.hid (And.intro HL.out.2.2.2.1 (And.intro HL.out.2.2.2.2.1 HL.out.2.2.2.2.2))
          clear hm1 hL lens hkp hr0 p1 p2 p3 p4 he
          go_wp2_with fail
          exact sym_tail38 b off cap N fuel hN2 IH a m n mid nn i e P A1 A2 B1 B2 S w wr _ _ _ _ _ _ _ _ _ _ _ _ _ _ _ _ _ _ _ _ _ _ _ _ _ _ _ _ _ _ _ _ _ _ _ _ _ _ _ _ _ _ _ _ _ _ _ _ _ _ _ _ _ _ _ _ _ _ _ _ _ _ _ _ _ _ _ _ _ _ _ _ _ _ _ _ _ _ _ _ _ _ _ _ _ _ _ _ _ _ _ _ _ _ _ _ _ _ _ _ _ _ _ _ _ _ _ _ _ _ _ _ _ _ _ _ _ _ _ _ _ _ _ _ _ _ _ _ _ _ _ _ _ _ _ _ _ _ _ _ _ _ _ _ _ _ _ _ _ _ _ _ _ _ _ _ _ _ _ _ _ _ _ _ _ _ _ _ _ _ _ _ _ _ _ _ _ _ _ _ _ _ _ _ _ _ _ _ _ _ _ _ _ _ _ _ _ _ _ _ _ _ _ _ _ _ _ _ _ _ _ _ HN HL2 L (Lib.hid (by have h1 := L.out.1; have h2 := HM.out; omega)) R0
end Go.Proofs.YtglbkodmmogomaaGreatDoor
/-
  slices.SortStableFunc over records: what came in, merged.
-/
namespace Go.Proofs.YtglbkodmmogomaaGreatDoor
open Go Go.RowKit
attribute [local irreducible] wpL wpH
def Full (bs : Nat) (Bs : List (List Rec)) : Prop := ∀ X ∈ Bs, X.length = bs ∧ Sorted X
theorem Full.snoc {bs : Nat} {Bs : List (List Rec)} {X : List Rec} (h : Full bs Bs) (h1 : X.length = bs) (h2 : Sorted X) : Full bs (Bs ++ [X]) := by
  intro Y hY
  rcases List.mem_append.1 hY with hY | hY
  · exact h Y hY
  · simp at hY; subst hY; exact ⟨h1, h2⟩
theorem flat_snoc (Bs : List (List Rec)) (X : List Rec) : (Bs ++ [X]).flatten = Bs.flatten ++ X := by simp
/-- Sorted blocks of bs each, and a last one that is shorter. -/
def Chop (bs : Nat) (L : List Rec) : Prop := ∃ Bs last, L = Bs.flatten ++ last ∧ Full bs Bs ∧ last.length < bs ∧ Sorted last
theorem Chop.done {bs : Nat} {L : List Rec} (h : Chop bs L) (hl : L.length ≤ bs) : Sorted L := by
  obtain ⟨Bs, last, rfl, h1, h2, h3⟩ := h
  match Bs, h1 with
  | [], _ => simpa using h3
  | X :: Bs, h1 =>
    have hx := h1 X (by simp)
    simp only [List.flatten_cons, List.length_append] at hl
    have e1 : Bs.flatten = [] := List.eq_nil_of_length_eq_zero (by omega)
    have e2 : last = [] := List.eq_nil_of_length_eq_zero (by omega)
    rw [List.flatten_cons, e1, e2]
    simpa using hx.2
set_option maxRecDepth 100000 in
set_option maxHeartbeats 1000000 in
theorem stable_any (b off cap N : Nat) (hN2 : N < 1099511627776) (L : List Rec) (w : World) (h : RW w b off L) (hN : L.length = N) :
    Calls Tryz.prog 145 #[.slice (some ⟨b, off, none⟩) N cap, .int .i64 N, .func (.func 117) #[] #[]] w (Moves w b off (smerge L)) := by
  have H := Lib.hid h
  have HN := Lib.hid hN
  clear h hN
  go_enter Tryz.func145, Tryz.ntmps145
  go_wp2
  go_loopg [7, 8] N (fun g va vb wr => ∃ (a : Nat) (Bs : List (List Rec)) (R : List Rec), va = .int .i64 (a : Int) ∧ vb = .int .i64 ((a + 20 : Nat) : Int) ∧ R.length ≤ g ∧ Bs.flatten.length = a ∧ a + R.length = N ∧ Full 20 Bs ∧ Same L (Bs.flatten ++ R) ∧ RW wr b off (Bs.flatten ++ R) ∧ Kept (one b) w wr)
  case atStart => exact ⟨0, [], L, rfl, by first | rfl | go_num, by rw [HN.out]; exact Nat.le_refl _, rfl, by rw [HN.out]; omega, fun X hX => by simp at hX, by simpa using Same.refl L, by simpa using H.out, Kept.refl _ _⟩
  case round =>
    obtain ⟨a, Bs, R, rfl, rfl, hg, ha, hR, hF, hsame, hr, hkp⟩ := hrel
    by_cases hle : a + 20 ≤ N
    · obtain ⟨X, R', rfl, hX⟩ : ∃ X R', R = X ++ R' ∧ X.length = 20 := ⟨R.take 20, R.drop 20, (List.take_append_drop _ _).symm, by rw [List.length_take]; omega⟩
      obtain ⟨e, he⟩ : ∃ e, a + 20 = e := ⟨_, rfl⟩
      have h1 : ((e : Nat) : Int) ≤ (N : Int) := by omega
      have e1 : IntKind.i64.wrap ((e : Int) + 20) = ((e + 20 : Nat) : Int) := wrapNat (n := e + 20) (by omega)
      rw [he]
      have A := Lib.hid (And.intro hg (And.intro ha (And.intro hR (And.intro hF (And.intro hsame (And.intro hkp (And.intro hX he)))))))
      have HR := Lib.hid hr
      clear hg ha hR hF hsame hr hkp hX hle he
      go_wp2_with fail
      refine (insertion_any b off cap N a e Bs.flatten X R' wr (by simpa using HR.out) ?_ hN2 A.out.2.1 ?_).mono ?_
      · have := A.out; simp only [List.length_append] at this ⊢; omega
      · have := A.out; rw [List.length_append]; omega
      · rintro e2 w2 ⟨X', q1, q2, rfl, hr2, hk2⟩
        have F := Lib.hid (And.intro q1 (And.intro q2 (And.intro hr2 (A.out.2.2.2.2.2.1.trans hk2))))
        clear q1 q2 hr2 hk2
        go_wp2_with fail
        go_roundg R'.length
        case rel =>
          obtain ⟨p1, p2, p3, p4, p5, p6, p7, p8⟩ := A.out
          obtain ⟨q1, q2, q3, q4⟩ := F.out
          have q5 := q1.length
          simp only [List.length_append] at p3
          refine ⟨e, Bs ++ [X'], R', rfl, by first | rfl | go_num, Nat.le_refl _, ?_, by omega, p4.snoc (by omega) q2, ?_, by rw [flat_snoc]; exact q3, q4⟩
          · rw [flat_snoc, List.length_append]; omega
          · rw [flat_snoc]
            refine p5.trans ?_
            have := ((Same.refl Bs.flatten).append q1).append (Same.refl R')
            simpa using this
        case measure => have := A.out; simp only [List.length_append] at this; omega
    · have h1 : ¬ ((a + 20 : Nat) : Int) ≤ (N : Int) := by omega
      obtain ⟨e, he⟩ : ∃ e, a + 20 = e := ⟨_, rfl⟩
      rw [he] at h1 ⊢
      have A := Lib.hid (And.intro hg (And.intro ha (And.intro hR (And.intro hF (And.intro hsame (And.intro hkp he))))))
      have HR := Lib.hid hr
      clear hg ha hR hF hsame hr hkp hle he
      go_wp2_with fail
      refine (insertion_any b off cap N a N Bs.flatten R [] wr (by simpa using HR.out) ?_ hN2 A.out.2.1 ?_).mono ?_
      · have := A.out; simp only [List.length_append, List.length_nil]; omega
      · have := A.out; rw [List.length_append]; omega
      · rintro e2 w2 ⟨X', q1, q2, rfl, hr2, hk2⟩
        have F : ∃ C, Chop 20 C ∧ Same L C ∧ RW w2 b off C ∧ Kept (one b) w w2 := by
          obtain ⟨p1, p2, p3, p4, p5, p6, p8⟩ := A.out
          have q5 := q1.length
          exact ⟨Bs.flatten ++ X', ⟨Bs, X', rfl, p4, by omega, q2⟩, p5.trans ((Same.refl _).append q1), by simpa using hr2, p6.trans hk2⟩
        have FF := Lib.hid F
        clear F q1 q2 hr2 hk2
        go_wp2_with fail
        go_loopg [6] N (fun g vs wr => ∃ (bs : Nat) (C : List Rec), vs = .int .i64 (bs : Int) ∧ N - bs ≤ g ∧ 0 < bs ∧ bs < 2199023255552 ∧ Chop bs C ∧ Same L C ∧ RW wr b off C ∧ Kept (one b) w wr)
        case atStart =>
          obtain ⟨C, q1, q2, q3, q4⟩ := FF.out
          exact ⟨20, C, by first | rfl | go_num, by omega, by omega, by omega, q1, q2, q3, q4⟩
        case round =>
          obtain ⟨bs, C, rfl, hg2, hb0, hb1, hch, hsame, hr, hkp⟩ := hrel
          by_cases hlt : bs < N
          · obtain ⟨t, ht⟩ : ∃ t, 2 * bs = t := ⟨_, rfl⟩
            have e3 : IntKind.i64.wrap (2 * (bs : Int)) = (t : Int) := by rw [show 2 * (bs : Int) = ((t : Nat) : Int) by omega]; exact wrapNat (by omega)
            have e4 : IntKind.i64.wrap ((bs : Int) * 2) = (t : Int) := by rw [show (bs : Int) * 2 = ((t : Nat) : Int) by omega]; exact wrapNat (by omega)
            have HC := Lib.hid (And.intro hch (And.intro hsame (And.intro hr hkp)))
            have HT := Lib.hid (And.intro ht hg2)
            clear hch hsame hr hkp ht hg2 FF A HR H
            go_wp2_with fail
            go_loopg [7, 8] N (fun g va vb wr => ∃ (a : Nat) (Ds Bs : List (List Rec)) (last : List Rec), va = .int .i64 (a : Int) ∧ vb = .int .i64 ((a + t : Nat) : Int) ∧ N - a ≤ g ∧ Ds.flatten.length = a ∧ a + (Bs.flatten ++ last).length = N ∧ Full t Ds ∧ Full bs Bs ∧ last.length < bs ∧ Sorted last ∧
              Same L (Ds.flatten ++ (Bs.flatten ++ last)) ∧ RW wr b off (Ds.flatten ++ (Bs.flatten ++ last)) ∧ Kept (one b) w wr)
            case atStart =>
              obtain ⟨⟨Bs, last, rfl, q1, q2, q3⟩, q4, q5, q6⟩ := HC.out
              exact ⟨0, [], Bs, last, rfl, by first | rfl | go_num | (congr 1; omega), by omega, rfl, by have := q4.length; rw [HN.out] at this; omega, fun X hX => by simp at hX, q1, q2, q3, by simpa using q4, by simpa using q5, q6⟩
            case round =>
              clear HC
              obtain ⟨a, Ds, Bs, last, rfl, rfl, hga, ha, hR, hD, hB, hl, hsl, hsame, hr, hkp⟩ := hrel
              by_cases hle : a + t ≤ N
              · obtain ⟨X, Y, Bs, rfl⟩ : ∃ X Y Bs', Bs = X :: Y :: Bs' := by
                  have ht := HT.out.1
                  rw [List.length_append] at hR
                  match Bs, hB with
                  | [], _ => simp only [List.flatten_nil, List.length_nil] at hR; omega
                  | [X], hB => have := (hB X (by simp)).1; simp only [List.flatten_cons, List.flatten_nil, List.append_nil] at hR; omega
                  | X :: Y :: Bs', _ => exact ⟨X, Y, Bs', rfl⟩
                obtain ⟨lX, sX⟩ := hB X (by simp)
                obtain ⟨lY, sY⟩ := hB Y (by simp)
                obtain ⟨e, he⟩ : ∃ e, a + t = e := ⟨_, rfl⟩
                obtain ⟨m, hm⟩ : ∃ m, a + bs = m := ⟨_, rfl⟩
                have h1 : ((e : Nat) : Int) ≤ (N : Int) := by omega
                have e5 : IntKind.i64.wrap ((a : Int) + bs) = (m : Int) := by rw [← hm]; exact wrapNat (by omega)
                have e6 : IntKind.i64.wrap ((e : Int) + t) = ((e + t : Nat) : Int) := wrapNat (n := e + t) (by have := HT.out.1; omega)
                rw [he]
                have A := Lib.hid (And.intro hga (And.intro ha (And.intro hR (And.intro hD (And.intro hB (And.intro hl (And.intro hsl (And.intro hsame (And.intro hkp (And.intro lX (And.intro lY (And.intro sX (And.intro sY (And.intro he hm))))))))))))))
                have HR := Lib.hid hr
                clear hga ha hR hD hB hl hsl hsame hkp lX lY sX sY he hm hr hle
                go_wp2_with fail
                refine (sym_any b off cap N hN2 (X.length + Y.length) a m e Ds.flatten X Y (Bs.flatten ++ last) wr (Nat.le_refl _) (by simpa using HR.out) ?_ A.out.2.1 ?_ ?_ A.out.2.2.2.2.2.2.2.2.2.2.2.1 A.out.2.2.2.2.2.2.2.2.2.2.2.2.1 ?_ ?_).mono ?_
                · have := A.out.2.2.1; have h2 := A.out.2.1; simp only [List.length_append, List.flatten_cons] at this h2 ⊢; omega
                · have := A.out; omega
                · have := A.out; have := HT.out.1; omega
                · intro h0; have := A.out.2.2.2.2.2.2.2.2.2.1; rw [h0] at this; simp only [List.length_nil] at this; omega
                · intro h0; have := A.out.2.2.2.2.2.2.2.2.2.2.1; rw [h0] at this; simp only [List.length_nil] at this; omega
                · rintro e2 w2 ⟨Z, q1, q2, rfl, hr2, hk2⟩
                  have F := Lib.hid (And.intro q1 (And.intro q2 (And.intro hr2 (A.out.2.2.2.2.2.2.2.2.1.trans hk2))))
                  clear q1 q2 hr2 hk2
                  go_wp2_with fail
                  go_roundg (N - e)
                  case rel =>
                    obtain ⟨p1, p2, p3, p4, p5, p6, p7, p8, p9, p10, p11, p12, p13, p14, p15⟩ := A.out
                    obtain ⟨q1, q2, q3, q4⟩ := F.out
                    have q5 := q1.length
                    have q6 := HT.out.1
                    simp only [List.length_append, List.flatten_cons] at p3 q5
                    refine ⟨e, Ds ++ [Z], Bs, last, rfl, by first | rfl | go_num, Nat.le_refl _, ?_, ?_, p4.snoc (by omega) q2, fun W hW => p5 W (by simp [hW]), p6, p7, ?_, by rw [flat_snoc]; simpa using q3, q4⟩
                    · rw [flat_snoc, List.length_append]; omega
                    · rw [List.length_append]; omega
                    · rw [flat_snoc]
                      refine p8.trans ?_
                      have := ((Same.refl Ds.flatten).append q1).append (Same.refl (Bs.flatten ++ last))
                      simpa using this
                  case measure => have h3 := A.out; have h4 := HT.out.1; omega
              · obtain ⟨e, he⟩ : ∃ e, a + t = e := ⟨_, rfl⟩
                obtain ⟨m, hm⟩ : ∃ m, a + bs = m := ⟨_, rfl⟩
                have h1 : ¬ ((e : Nat) : Int) ≤ (N : Int) := by omega
                have e5 : IntKind.i64.wrap ((a : Int) + bs) = (m : Int) := by rw [← hm]; exact wrapNat (by omega)
                rw [he]
                have ht := HT.out.1
                by_cases hmN : m < N
                · obtain ⟨X, rfl, lX, sX⟩ : ∃ X, Bs = [X] ∧ X.length = bs ∧ Sorted X := by
                    rw [List.length_append] at hR
                    match Bs, hB with
                    | [], _ => simp only [List.flatten_nil, List.length_nil] at hR; omega
                    | [X], hB => exact ⟨X, rfl, hB X (by simp)⟩
                    | X :: Y :: Bs', hB =>
                      have h2 := (hB X (by simp)).1
                      have h3 := (hB Y (by simp)).1
                      simp only [List.flatten_cons, List.length_append] at hR; omega
                  have lL : 0 < last.length := by simp only [List.length_append, List.flatten_cons, List.flatten_nil, List.length_nil] at hR; omega
                  have A := Lib.hid (And.intro ha (And.intro hR (And.intro hD (And.intro hl (And.intro hsl (And.intro hsame (And.intro hkp (And.intro lX (And.intro sX (And.intro lL (And.intro hm ht)))))))))))
                  have HR := Lib.hid hr
                  clear hga ha hR hD hB hl hsl hsame hkp lX sX he hm hr hle lL ht
                  go_wp2_with fail
                  refine (sym_any b off cap N hN2 (X.length + last.length) a m N Ds.flatten X last [] wr (Nat.le_refl _) (by simpa using HR.out) ?_ A.out.1 ?_ ?_ A.out.2.2.2.2.2.2.2.2.1 A.out.2.2.2.2.1 ?_ ?_).mono ?_
                  · have := A.out.2.1; have h2 := A.out.1; simp only [List.length_append, List.flatten_cons, List.flatten_nil, List.length_nil] at this h2 ⊢; omega
                  · have := A.out; omega
                  · have := A.out; simp only [List.length_append, List.flatten_cons, List.flatten_nil, List.length_nil] at this; omega
                  · intro h0; have := A.out.2.2.2.2.2.2.2.1; rw [h0] at this; simp only [List.length_nil] at this; omega
                  · intro h0; have := A.out.2.2.2.2.2.2.2.2.2.1; rw [h0] at this; simp only [List.length_nil] at this; omega
                  · rintro e2 w2 ⟨Z, q1, q2, rfl, hr2, hk2⟩
                    have F : ∃ C, Chop t C ∧ Same L C ∧ RW w2 b off C ∧ Kept (one b) w w2 := by
                      obtain ⟨p1, p2, p3, p4, p5, p6, p7, p8, p9, p10, p11, p12⟩ := A.out
                      have q5 := q1.length
                      rw [List.length_append] at q5
                      refine ⟨Ds.flatten ++ Z, ⟨Ds, Z, rfl, p3, by omega, q2⟩, p6.trans ?_, by simpa using hr2, p7.trans hk2⟩
                      have := (Same.refl Ds.flatten).append q1
                      simpa using this
                    have FF := Lib.hid F
                    clear F q1 q2 hr2 hk2
                    go_wp2_with fail
                    go_roundg (N - t)
                    case rel =>
                      obtain ⟨C, q1, q2, q3, q4⟩ := FF.out
                      have := HT.out.1
                      exact ⟨t, C, rfl, Nat.le_refl _, by omega, by omega, q1, q2, q3, q4⟩
                    case measure => have := HT.out; omega
                · have F : ∃ C, Chop t C ∧ Same L C ∧ RW wr b off C ∧ Kept (one b) w wr := by
                    refine ⟨_, ⟨Ds, Bs.flatten ++ last, rfl, hD, by rw [List.length_append] at hR ⊢; omega, ?_⟩, hsame, hr, hkp⟩
                    rw [List.length_append] at hR
                    match Bs, hB with
                    | [], _ => simpa using hsl
                    | X :: Bs', hB =>
                      have h2 := hB X (by simp)
                      simp only [List.flatten_cons, List.length_append] at hR
                      have e7 : Bs'.flatten = [] := List.eq_nil_of_length_eq_zero (by omega)
                      have e8 : last = [] := List.eq_nil_of_length_eq_zero (by omega)
                      rw [List.flatten_cons, e7, e8]
                      simpa using h2.2
                  have FF := Lib.hid F
                  have h2 : ¬ (m : Int) < (N : Int) := by omega
                  clear F hga ha hR hD hB hl hsl hsame hkp he hm hr hle ht
                  go_wp2_with fail
                  go_roundg (N - t)
                  case rel =>
                    obtain ⟨C, q1, q2, q3, q4⟩ := FF.out
                    have := HT.out.1
                    exact ⟨t, C, rfl, Nat.le_refl _, by omega, by omega, q1, q2, q3, q4⟩
                  case measure => have := HT.out; omega
          · have F : Moves w b off (smerge L) (.returned (.tuple #[])) wr := by
              have h2 := hsame.length
              rw [HN.out] at h2
              have h3 := smerge_unique (hch.done (by omega)) hsame
              exact ⟨rfl, by rw [← h3]; exact hr, hkp⟩
            have FF2 := Lib.hid F
            clear F hch hsame hr hkp hg2
            go_wp2_with fail
            go_end0
            exact FF2.out
end Go.Proofs.YtglbkodmmogomaaGreatDoor
