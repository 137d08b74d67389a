/-
  slices.symMerge over records: two sorted runs that stand beside each other come sorted, those of one place as they were.
-/
import Derived.Test.YtaalpijohdlabaaSym3
namespace Go.Proofs.Ytaalpijohdlabaa
open Go Go.RowKit
attribute [local irreducible] wpL wpH
set_option maxRecDepth 100000 in
set_option maxHeartbeats 1000000 in
theorem sym_any (b off cap N : Nat) (hN2 : N < 1099511627776) (fuel : Nat) : ∀ (a m n : Nat) (P A B S : List Rec) (w : World), A.length + B.length ≤ fuel → RW w b off (P ++ A ++ B ++ S) → (P ++ A ++ B ++ S).length = N →
    P.length = a → a + A.length = m → m + B.length = n → Sorted A → Sorted B → A ≠ [] → B ≠ [] →
    Calls Try.prog 108 #[.slice (some ⟨b, off, none⟩) N cap, .int .i64 a, .int .i64 m, .int .i64 n, .func (.func 59) #[] #[]] w (SortsTo w b off P (A ++ B) S) := by
  induction fuel with
  | zero =>
    intro a m n P A B S w hf _ _ _ _ _ _ _ hA _
    have := List.length_pos_iff.2 hA
    omega
  | succ fuel ih =>
    intro a m n P A B S w hf h hN ha hm hn sA sB hA hB
    have lA := List.length_pos_iff.2 hA
    have lB := List.length_pos_iff.2 hB
    by_cases h1 : A.length = 1
    · match A, h1 with
      | [x], _ =>
        have := sym_one b off cap N a m n P B S x w (by simpa using h) (by simpa using hN) hN2 ha (by simpa using hm) hn sB
        simpa using this
    by_cases h2 : B.length = 1
    · match B, h2 with
      | [x], _ =>
        have := sym_last b off cap N a m n P A S x w (by simpa using h) (by simpa using hN) hN2 ha hm (by simpa using hn) sA (by omega)
        simpa using this
    have LN : (P ++ A ++ B ++ S).length = P.length + A.length + B.length + S.length := by simp; omega
    have H := Lib.hid h
    have IH := Lib.hid ih
    have HN := Lib.hid hN
    have HL := Lib.hid (And.intro ha (And.intro hm (And.intro hn (And.intro sA (And.intro sB hf)))))
    have b1 : a + 2 ≤ m ∧ m + 2 ≤ n ∧ n ≤ N := by omega
    obtain ⟨u, hu⟩ : ∃ u, m - a = u := ⟨_, rfl⟩
    have e1 : IntKind.i64.wrap ((m : Int) - a) = (u : Int) := by rw [show (m : Int) - a = ((u : Nat) : Int) by omega]; exact wrapNat (by omega)
    have hu1 : ((u : Int) == 1) = false := by simp; omega
    obtain ⟨v, hv⟩ : ∃ v, n - m = v := ⟨_, rfl⟩
    have e0 : IntKind.i64.wrap ((n : Int) - m) = (v : Int) := by rw [show (n : Int) - m = ((v : Nat) : Int) by omega]; exact wrapNat (by omega)
    have hv1 : ((v : Int) == 1) = false := by simp; omega
    obtain ⟨mid, hmid⟩ : ∃ mid, mid = (a + n) / 2 := ⟨_, rfl⟩
    obtain ⟨nn, hnn⟩ : ∃ nn, mid + m = nn := ⟨_, rfl⟩
    have e2 : ((a : Int) + (n : Int)) / 2 = (mid : Int) := by omega
    have e3 : IntKind.i64.wrap ((mid : Int) + m) = (nn : Int) := by rw [← hnn]; exact wrapNat (by omega)
    have e4 : IntKind.i64.wrap ((nn : Int) - 1) = ((nn - 1 : Nat) : Int) := by rw [show (nn : Int) - 1 = ((nn - 1 : Nat) : Int) by omega]; exact wrapNat (by omega)
    have bm : a < mid ∧ mid < n := by omega
    have HM := Lib.hid (And.intro hmid hnn)
    have e5 : mid < m → IntKind.i64.wrap ((nn : Int) - n) = ((nn - n : Nat) : Int) := fun h => by rw [show (nn : Int) - n = ((nn - n : Nat) : Int) by omega]; exact wrapNat (by omega)
    have E5 := Lib.hid e5
    clear h hN ha hm hn sA sB hA hB LN ih hf hu hv lA lB h1 h2 hmid hnn e5
    go_enter Try.func108, Try.ntmps108
    change Code.wp Try.prog (Code.seq _ (Code.seq _ (Code.seq _ (Code.seq _ (Code.seq _ (Code.seq _ (Code.seq _ (Code.seq _ symTail38)))))))) _ _ _
    go_upto_if 140 with fail
    go_cut [20, 21] (fun s r wx => ∃ s0 r0 : Nat, s = .int .i64 (s0 : Int) ∧ r = .int .i64 (r0 : Int) ∧ Bnd a m n mid s0 r0 ∧ wx = w)
    case first =>
      have hm1 := HM.out
      by_cases hlt : mid < m
      · have e6 := E5.out hlt
        clear hm1
        go_wp2_with fail
        go_meet
        have hm1 := HM.out
        exact ⟨nn - n, mid, rfl, rfl, ⟨hm1.1, by omega, by omega, .inl ⟨hlt, by omega, rfl⟩⟩, rfl⟩
      · clear hm1
        go_wp2_with fail
        go_meet
        have hm1 := HM.out
        exact ⟨a, m, rfl, rfl, ⟨hm1.1, by omega, by omega, .inr ⟨by omega, rfl, rfl⟩⟩, rfl⟩
    case rest =>
      obtain ⟨s0, r0, rfl, rfl, hb, hw⟩ := hcut
      have hw2 := hw.symm
      subst hw2
      have hs0r : s0 ≤ r0 ∧ a ≤ s0 ∧ r0 ≤ m ∧ r0 + m ≤ nn ∧ nn ≤ s0 + n ∧ r0 ≤ mid := by
        obtain ⟨b1, b2, b3, b4⟩ := hb
        have hm1 := HM.out
        omega
      have HB := Lib.hid hb
      clear hb
      go_wp2
      go_loopg [20, 21] (r0 - s0) (fun g s r wr => ∃ i j : Nat, s = .int .i64 (i : Int) ∧ r = .int .i64 (j : Int) ∧ s0 ≤ i ∧ i ≤ j ∧ j ≤ r0 ∧ j - i ≤ g ∧ Found A B a m (nn - 1) s0 i false ∧ Found A B a m (nn - 1) j r0 true ∧ Kept none' w wr)
      case atStart => exact ⟨s0, r0, rfl, rfl, Nat.le_refl _, hs0r.1, Nat.le_refl _, Nat.le_refl _, fun c h1 h2 => by omega, fun c h1 h2 => by omega, Kept.refl _ _⟩
      case round =>
        obtain ⟨i, j, rfl, rfl, h1, h2, h3, hg, f1, f2, hkp⟩ := hrel
        have FF := Lib.hid (And.intro hg (And.intro f1 (And.intro f2 hkp)))
        clear hg f1 f2 hkp
        by_cases hlt : i < j
        · as_aux_lemma =>
          obtain ⟨c, hc⟩ : ∃ c, (i + j) / 2 = c := ⟨_, rfl⟩
          have hcb : i ≤ c ∧ c < j := by omega
          have e6 : ((i : Int) + (j : Int)) / 2 = (c : Int) := by omega
          obtain ⟨pc, hpc⟩ : ∃ pc, nn - 1 - c = pc := ⟨_, rfl⟩
          have hpb : m ≤ pc ∧ pc < n := by omega
          have e7 : IntKind.i64.wrap (((nn - 1 : Nat) : Int) - c) = (pc : Int) := by rw [show ((nn - 1 : Nat) : Int) - c = ((pc : Nat) : Int) by omega]; exact wrapNat (by omega)
          have hL := HL.out
          obtain ⟨x, hx⟩ : ∃ x, A[c - a]? = some x := ⟨_, List.getElem?_eq_getElem (by omega)⟩
          obtain ⟨y, hy⟩ : ∃ y, B[nn - 1 - c - m]? = some y := ⟨_, List.getElem?_eq_getElem (by omega)⟩
          have gx : (P ++ A ++ B ++ S)[c]? = some x := by
            rw [List.append_assoc, List.append_assoc, List.getElem?_append_right (by omega), List.getElem?_append_left (by omega), hL.1]; exact hx
          have gy : (P ++ A ++ B ++ S)[pc]? = some y := by
            rw [List.append_assoc, List.getElem?_append_right (by rw [List.length_append]; omega), List.getElem?_append_left (by rw [List.length_append]; omega), List.length_append, hL.1, hL.2.1, ← hpc]; exact hy
          have hr := H.out.pure FF.out.2.2.2
          obtain ⟨x0, x1, x2⟩ := hr.recs _ _ gx
          obtain ⟨y0, y1, y2⟩ := hr.recs _ _ gy
          have hcN : c < N := by omega
          have hpN : pc < N := by omega
          have HXY := Lib.hid (And.intro hx hy)
          clear hr gx gy hL hc hpc hx hy
          go_wp2_with fail
          refine wp_region_eager [0, 1, 2, 3, 4, 5, 6, 7, 8, 9, 10, 11, 12, 13] (fun W => Kept none' wr W) (by kernel_rfl) (by kernel_rfl) rfl (Kept.refl _ _).drew ?_
          simp only [List.map_cons, List.map_nil, List.getElem?_toArray, List.getElem?_cons_zero, List.getElem?_cons_succ, Option.getD_some]
          iterate 11 (apply wpL_float rfl rfl; (intro W hW; have c0 := hW.cell (fun h => h) x0; have c1 := hW.cell (fun h => h) x1; have c2 := hW.cell (fun h => h) x2; have d0 := hW.cell (fun h => h) y0; have d1 := hW.cell (fun h => h) y1; have d2 := hW.cell (fun h => h) y2; go_simp; rfl); go_frame)
          apply wpL_loud rfl rfl
          intro K hK
          go_wp2_with fail
          refine (cmp_rec y x _).mono ?_
          rintro e w3 ⟨rfl, k3⟩
          have k3' : Kept none' wr w3 := k3.drew_left
          by_cases hxy : y.pos < x.pos
          · have hc : cmp3 y.pos x.pos < 0 := by rw [cmp3_lt]; exact hxy
            have hcn : (!decide (cmp3 y.pos x.pos < 0)) = false := by rw [decide_eq_true hc]; rfl
            go_wp2_with fail
            refine hK _ _ (fun _ => k3') ?_
            clear hK
            iterate 2 (apply wpL_float rfl rfl; (intro W hW; go_simp; rfl); go_frame)
            refine wpL_nil (fun _ => k3') ?_
            go_wp2_with fail
            go_roundg (c - i)
            case rel =>
              obtain ⟨q1, q2, q3, q4⟩ := FF.out
              refine ⟨i, c, rfl, rfl, h1, hcb.1, by omega, Nat.le_refl _, q2, ?_, q4.trans k3'.pure⟩
              exact Found.right HL.out.2.2.2.1 HL.out.2.2.2.2.1 (by omega) HXY.out.1 HXY.out.2 hxy
            case measure => have := FF.out.1; omega
          · have hc : ¬ cmp3 y.pos x.pos < 0 := by rw [cmp3_lt]; exact hxy
            have hcn : (!decide (cmp3 y.pos x.pos < 0)) = true := by rw [decide_eq_false hc]; rfl
            have e8 : IntKind.i64.wrap ((c : Int) + 1) = ((c + 1 : Nat) : Int) := wrapNat (n := c + 1) (by omega)
            go_wp2_with fail
            refine hK _ _ (fun _ => k3') ?_
            clear hK
            iterate 2 (apply wpL_float rfl rfl; (intro W hW; go_simp; rfl); go_frame)
            refine wpL_nil (fun _ => k3') ?_
            go_wp2_with fail
            go_roundg (j - (c + 1))
            case rel =>
              obtain ⟨q1, q2, q3, q4⟩ := FF.out
              refine ⟨c + 1, j, by first | rfl | go_num, rfl, by omega, by omega, h3, Nat.le_refl _, ?_, q3, q4.trans k3'.pure⟩
              exact Found.left HL.out.2.2.2.1 HL.out.2.2.2.2.1 hs0r.2.1 HXY.out.1 HXY.out.2 (by omega)
            case measure => have := FF.out.1; omega
        · have hij : i = j := by omega
          subst hij
          obtain ⟨A1, A2, B1, B2, rfl, rfl, p1, p2, p3, p4⟩ := sym_split HL.out.2.2.2.1 HL.out.2.2.2.2.1 HL.out.2.1 HL.out.2.2.1 HB.out h1 h3 (by rw [HM.out.2]; exact FF.out.2.1) (by rw [HM.out.2]; exact FF.out.2.2.1)
          obtain ⟨e, he⟩ : ∃ e, m + B1.length = e := ⟨_, rfl⟩
          have hm1 := HM.out
          have e6 : IntKind.i64.wrap ((nn : Int) - i) = (e : Int) := by rw [show (nn : Int) - i = ((e : Nat) : Int) by omega]; exact wrapNat (by omega)
          have hL := HL.out
          simp only [List.length_append] at hL
          have lens : P.length = a ∧ a + A1.length = i ∧ i + A2.length = m ∧ m + B1.length = e ∧ e + B2.length = n ∧ mid + A2.length = e ∧ i + B1.length = mid := by omega
          have hkp := FF.out.2.2.2
          have hr0 := H.out.pure hkp
          have L := Lib.hid (show (P.length = a ∧ a + A1.length = i ∧ i + A2.length = m ∧ m + B1.length = e ∧ e + B2.length = n ∧ mid + A2.length = e ∧ i + B1.length = mid ∧ a < mid ∧ mid < n) ∧
            (∀ u ∈ A1, ∀ v ∈ B2, u.pos ≤ v.pos) ∧ (∀ u ∈ A2, ∀ v ∈ B1, v.pos < u.pos) from ⟨by omega, p3, p4⟩)
          have R0 := Lib.hid (And.intro hr0 hkp)
          have HL2 := Lib.hid (And.intro HL.out.2.2.2.1 (And.intro HL.out.2.2.2.2.1 HL.out.2.2.2.2.2))
          clear hm1 hL lens hkp hr0 p1 p2 p3 p4 he
          go_wp2_with fail
          exact sym_tail38 b off cap N fuel hN2 IH a m n mid nn i e P A1 A2 B1 B2 S w wr _ _ _ _ _ _ _ _ _ _ _ _ _ _ _ _ _ _ _ _ _ _ _ _ _ _ _ _ _ _ _ _ _ _ _ _ _ _ _ _ _ _ _ _ _ _ _ _ _ _ _ _ _ _ _ _ _ _ _ _ _ _ _ _ _ _ _ _ _ _ _ _ _ _ _ _ _ _ _ _ _ _ _ _ _ _ _ _ _ _ _ _ _ _ _ _ _ _ _ _ _ _ _ _ _ _ _ _ _ _ _ _ _ _ _ _ _ _ _ _ _ _ _ _ _ _ _ _ _ _ _ _ _ _ _ _ _ _ _ _ _ _ _ _ _ _ _ _ _ _ _ _ _ _ _ _ _ _ _ _ _ _ _ _ _ _ _ _ _ _ _ _ _ _ _ _ _ _ _ _ _ _ _ _ _ _ _ _ _ _ _ _ _ _ _ _ _ _ _ _ _ _ _ _ _ _ _ _ _ _ _ _ HN HL2 L (Lib.hid (by have h1 := L.out.1; have h2 := HM.out; omega)) R0
end Go.Proofs.Ytaalpijohdlabaa
