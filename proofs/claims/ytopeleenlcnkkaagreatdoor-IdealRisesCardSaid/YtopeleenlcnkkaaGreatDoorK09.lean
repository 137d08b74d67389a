/-
  RECORDS IN MEMORY: a row of records that may be written; two of them exchanged; slices.swapRange over them.
-/
import Derived.Test.YtopeleenlcnkkaaGreatDoorK04
import Derived.Test.YtopeleenlcnkkaaGreatDoorK07
import Derived.Test.YtopeleenlcnkkaaGreatDoorK08
import Derived.Deep.LoopGhost
import Derived.Test.YtopeleenlcnkkaaGreatDoorK06
namespace Go.Proofs.YtopeleenlcnkkaaGreatDoor
open Go Go.RowKit
def recA (r : Rec) : Array Value := #[.int .i64 r.pos, .int .i64 r.key, .int .i64 r.val]
def recs (L : List Rec) : List Value := L.flatMap fun r => [.int .i64 r.pos, .int .i64 r.key, .int .i64 r.val]
def RecAt (w : World) (b o : Nat) (r : Rec) : Prop :=
  w.cell? ⟨b, o, none⟩ = some (.int .i64 r.pos) ∧ w.cell? ⟨b, o + 1, none⟩ = some (.int .i64 r.key) ∧ w.cell? ⟨b, o + 2, none⟩ = some (.int .i64 r.val)
def Soft (w : World) (b o : Nat) : Prop := w.frozen? ⟨b, o, none⟩ = false ∧ w.frozen? ⟨b, o + 1, none⟩ = false ∧ w.frozen? ⟨b, o + 2, none⟩ = false
/-- Records from 'off' on of block b, each of which may be written. -/
structure RW (w : World) (b off : Nat) (L : List Rec) : Prop where
  recs : ∀ i r, L[i]? = some r → RecAt w b (off + i * 3) r
  soft : ∀ i, i < L.length → Soft w b (off + i * 3)
theorem RecAt.pure {w w' : World} {b o : Nat} {r : Rec} (h : RecAt w b o r) (hk : Kept none' w w') : RecAt w' b o r :=
  ⟨hk.cell (fun h => h) h.1, hk.cell (fun h => h) h.2.1, hk.cell (fun h => h) h.2.2⟩
theorem RW.pure {w w' : World} {b off : Nat} {L : List Rec} (h : RW w b off L) (hk : Kept none' w w') : RW w' b off L := by
  refine ⟨fun i r hr => (h.recs i r hr).pure hk, fun i hi => ?_⟩
  obtain ⟨r, hr⟩ : ∃ r, L[i]? = some r := ⟨_, List.getElem?_eq_getElem hi⟩
  have hb := block_lt_of_cell (h.recs i r hr).1
  have hs := h.soft i hi
  exact ⟨by rw [hk.fq _ _ hb]; exact hs.1, by rw [hk.fq _ _ hb]; exact hs.2.1, by rw [hk.fq _ _ hb]; exact hs.2.2⟩
def putRec (w : World) (b o : Nat) (r : Rec) : World := ((w.setCell ⟨b, o, none⟩ (.int .i64 r.pos)).setCell ⟨b, o + 1, none⟩ (.int .i64 r.key)).setCell ⟨b, o + 2, none⟩ (.int .i64 r.val)
theorem putRec_kept (w : World) (b o : Nat) (r : Rec) : Kept (one b) w (putRec w b o r) :=
  (((Kept.refl (one b) w).setCell (p := ⟨b, o, none⟩) (.inl rfl) _).setCell (p := ⟨b, o + 1, none⟩) (.inl rfl) _).setCell (p := ⟨b, o + 2, none⟩) (.inl rfl) _
theorem putRec_same {w : World} {b o : Nat} {r x : Rec} (h : RecAt w b o x) : RecAt (putRec w b o r) b o r := by
  obtain ⟨h0, h1, h2⟩ := h
  unfold putRec RecAt
  refine ⟨?_, ?_, ?_⟩
  · rw [World.cell?_setCell_other _ _ _ _ (by simp), World.cell?_setCell_other _ _ _ _ (by simp), World.cell?_setCell_same _ _ _ h0]
  · rw [World.cell?_setCell_other _ _ _ _ (by simp), World.cell?_setCell_same _ _ _ (by rw [World.cell?_setCell_other _ _ _ _ (by simp)]; exact h1)]
  · rw [World.cell?_setCell_same _ _ _ (by rw [World.cell?_setCell_other _ _ _ _ (by simp), World.cell?_setCell_other _ _ _ _ (by simp)]; exact h2)]
theorem putRec_far {w : World} {b o o' : Nat} {r x : Rec} (h : RecAt w b o' x) (hne : o' + 2 < o ∨ o + 2 < o') : RecAt (putRec w b o r) b o' x := by
  obtain ⟨h0, h1, h2⟩ := h
  unfold putRec RecAt
  refine ⟨?_, ?_, ?_⟩
  · rw [World.cell?_setCell_other _ _ _ _ (by intro e; injection e with _ e _; omega), World.cell?_setCell_other _ _ _ _ (by intro e; injection e with _ e _; omega), World.cell?_setCell_other _ _ _ _ (by intro e; injection e with _ e _; omega)]; exact h0
  · rw [World.cell?_setCell_other _ _ _ _ (by intro e; injection e with _ e _; omega), World.cell?_setCell_other _ _ _ _ (by intro e; injection e with _ e _; omega), World.cell?_setCell_other _ _ _ _ (by intro e; injection e with _ e _; omega)]; exact h1
  · rw [World.cell?_setCell_other _ _ _ _ (by intro e; injection e with _ e _; omega), World.cell?_setCell_other _ _ _ _ (by intro e; injection e with _ e _; omega), World.cell?_setCell_other _ _ _ _ (by intro e; injection e with _ e _; omega)]; exact h2
theorem RW.put {w : World} {b off i : Nat} {L : List Rec} (h : RW w b off L) (r : Rec) (hi : i < L.length) : RW (putRec w b (off + i * 3) r) b off (L.set i r) := by
  refine ⟨fun j x hx => ?_, fun j hj => ?_⟩
  · by_cases e : i = j
    · subst e
      rw [List.getElem?_set_self hi] at hx
      cases hx
      exact putRec_same (h.recs i _ (List.getElem?_eq_getElem hi))
    · rw [List.getElem?_set_ne e] at hx
      exact putRec_far (h.recs j x hx) (by omega)
  · rw [List.length_set] at hj
    have := h.soft j hj
    unfold Soft putRec at *
    simpa using this
theorem RW.swap {w : World} {b off i j : Nat} {L : List Rec} (h : RW w b off L) (x y : Rec) (hi : i < L.length) (hj : j < L.length) : RW (putRec (putRec w b (off + i * 3) y) b (off + j * 3) x) b off ((L.set i y).set j x) :=
  (h.put y hi).put x (by rw [List.length_set]; exact hj)
theorem swap_kept (w : World) (b o o' : Nat) (x y : Rec) : Kept (one b) w (putRec (putRec w b o y) b o' x) := (putRec_kept _ _ _ _).trans (putRec_kept _ _ _ _)
def Moves (w : World) (b off : Nat) (L : List Rec) (e : Ending) (w' : World) : Prop := e = .returned (.tuple #[]) ∧ RW w' b off L ∧ Kept (one b) w w'
theorem wrapNat {n : Nat} (h : n < 4398046511104) : IntKind.i64.wrap ((n : Nat) : Int) = ((n : Nat) : Int) := by
  rw [IntKind.wrap_i64]; omega
theorem set_mid {A B : List Rec} {x y : Rec} {i : Nat} (h : A.length = i) : (A ++ x :: B).set i y = A ++ y :: B := by
  subst h
  rw [List.set_append_right _ _ (Nat.le_refl _)]
  simp
theorem get_mid {A B : List Rec} {x : Rec} {i : Nat} (h : A.length = i) : (A ++ x :: B)[i]? = some x := by subst h; simp

theorem swap_step {P V1 U M U1 V S : List Rec} {x y : Rec} {i j : Nat} (hi : (P ++ V1).length = i) (hj : (P ++ V1 ++ x :: U ++ M ++ U1).length = j) :
    (((P ++ V1 ++ x :: U ++ M ++ U1 ++ y :: V ++ S).set i y).set j x) = P ++ (V1 ++ [y]) ++ U ++ M ++ (U1 ++ [x]) ++ V ++ S := by
  rw [show P ++ V1 ++ x :: U ++ M ++ U1 ++ y :: V ++ S = (P ++ V1) ++ x :: (U ++ M ++ U1 ++ y :: V ++ S) by simp, set_mid hi,
    show (P ++ V1) ++ y :: (U ++ M ++ U1 ++ y :: V ++ S) = (P ++ V1 ++ y :: U ++ M ++ U1) ++ y :: (V ++ S) by simp, set_mid (by simpa using hj)]
  simp
set_option maxRecDepth 100000 in
set_option maxHeartbeats 1000000 in
/-- slices.swapRange: two runs of the same length change places. -/
theorem swapRange_any (b off cap N a m n : Nat) (P U M V S : List Rec) (w : World) (h : RW w b off (P ++ U ++ M ++ V ++ S)) (hN : (P ++ U ++ M ++ V ++ S).length = N) (hN2 : N < 1099511627776)
    (ha : P.length = a) (hm : (P ++ U ++ M).length = m) (hU : U.length = n) (hV : V.length = n) :
    Calls Tryz.prog 199 #[.slice (some ⟨b, off, none⟩) N cap, .int .i64 a, .int .i64 m, .int .i64 n, .func (.func 91) #[] #[]] w (Moves w b off (P ++ V ++ M ++ U ++ S)) := by
  have H := Lib.hid h
  have HN := Lib.hid hN
  have LN : (P ++ U ++ M ++ V ++ S).length = P.length + U.length + M.length + V.length + S.length := by simp; omega
  have LM : (P ++ U ++ M).length = P.length + U.length + M.length := by simp; omega
  have b1 : a + n ≤ m ∧ m + n ≤ N := by omega
  have HL := Lib.hid (And.intro ha (And.intro hm (And.intro hU hV)))
  clear h hN ha hm hU hV LN LM
  go_enter Tryz.func199, Tryz.ntmps199
  go_wp2
  go_loopw [10] (fun i wr => ∃ k : Nat, k ≤ n ∧ i = .int .i64 k ∧ RW wr b off (P ++ V.take k ++ U.drop k ++ M ++ U.take k ++ V.drop k ++ S) ∧ Kept (one b) w wr) (fun i _ => n - (intOf i).toNat)
  case atStart => exact ⟨0, by omega, rfl, by simpa using H.out, Kept.refl _ _⟩
  case round =>
    obtain ⟨k, hk, rfl, hr, hkp⟩ := hrel
    by_cases hlt : k < n
    · obtain ⟨L1, L2, L3, L4⟩ := HL.out
      obtain ⟨x, hx⟩ : ∃ x, U.drop k = x :: U.drop (k + 1) := ⟨_, List.drop_eq_getElem_cons (by omega)⟩
      obtain ⟨y, hy⟩ : ∃ y, V.drop k = y :: V.drop (k + 1) := ⟨_, List.drop_eq_getElem_cons (by omega)⟩
      have hx' : U.take (k + 1) = U.take k ++ [x] := by
        have h1 : U[k]? = some x := by have := congrArg List.head? hx; rwa [List.head?_drop, List.head?_cons] at this
        rw [List.take_add_one, h1]; rfl
      have hy' : V.take (k + 1) = V.take k ++ [y] := by
        have h1 : V[k]? = some y := by have := congrArg List.head? hy; rwa [List.head?_drop, List.head?_cons] at this
        rw [List.take_add_one, h1]; rfl
      rw [hx, hy] at hr
      obtain ⟨i, hi⟩ : ∃ i, a + k = i := ⟨_, rfl⟩
      obtain ⟨j, hj⟩ : ∃ j, m + k = j := ⟨_, rfl⟩
      have lx := congrArg List.length hx
      have ly := congrArg List.length hy
      rw [List.length_drop, List.length_cons] at lx ly
      have hi2 : (P ++ V.take k).length = i := by rw [List.length_append, List.length_take]; omega
      have hj2 : (P ++ V.take k ++ x :: U.drop (k + 1) ++ M ++ U.take k).length = j := by
        simp only [List.length_append, List.length_cons, List.length_drop, List.length_take] at L2 ⊢; omega
      have hlen : (P ++ V.take k ++ x :: U.drop (k + 1) ++ M ++ U.take k ++ y :: V.drop (k + 1) ++ S).length = N := by
        have := HN.out
        simp only [List.length_append, List.length_cons, List.length_drop, List.length_take] at L2 this ⊢; omega
      have hstep := swap_step (S := S) (V := V.drop (k + 1)) (y := y) hi2 hj2
      have gx : (P ++ V.take k ++ x :: U.drop (k + 1) ++ M ++ U.take k ++ y :: V.drop (k + 1) ++ S)[i]? = some x := by
        rw [show P ++ V.take k ++ x :: U.drop (k + 1) ++ M ++ U.take k ++ y :: V.drop (k + 1) ++ S = (P ++ V.take k) ++ x :: (U.drop (k + 1) ++ M ++ U.take k ++ y :: V.drop (k + 1) ++ S) by simp]
        exact get_mid hi2
      have gy : (P ++ V.take k ++ x :: U.drop (k + 1) ++ M ++ U.take k ++ y :: V.drop (k + 1) ++ S)[j]? = some y := by
        rw [show P ++ V.take k ++ x :: U.drop (k + 1) ++ M ++ U.take k ++ y :: V.drop (k + 1) ++ S = (P ++ V.take k ++ x :: U.drop (k + 1) ++ M ++ U.take k) ++ y :: (V.drop (k + 1) ++ S) by simp]
        exact get_mid hj2
      obtain ⟨x0, x1, x2⟩ := hr.recs _ _ gx
      obtain ⟨y0, y1, y2⟩ := hr.recs _ _ gy
      have hx1 : i < N := by omega
      have hy1 : j < N := by omega
      obtain ⟨fx0, fx1, fx2⟩ := hr.soft i (by omega)
      obtain ⟨fy0, fy1, fy2⟩ := hr.soft j (by omega)
      have e1 : IntKind.i64.wrap ((a : Int) + k) = (i : Int) := by rw [← hi]; exact wrapNat (n := a + k) (by omega)
      have e2 : IntKind.i64.wrap ((m : Int) + k) = (j : Int) := by rw [← hj]; exact wrapNat (n := m + k) (by omega)
      have ne : i ≠ j := by omega
      have hnext := hr.swap x y (i := i) (j := j) (by omega) (by omega)
      rw [hstep, ← hx', ← hy'] at hnext
      have F := Lib.hid (And.intro hnext (hkp.trans (swap_kept wr b (off + i * 3) (off + j * 3) x y)))
      clear hr hnext hstep gx gy hx hy hx' hy' hi2 hj2 hlen hi hj lx ly L1 L2 L3 L4 hkp
      go_wp2_with fail
      refine wp_region_hot [0, 1, 2, 3, 4, 5, 6, 7, 8, 9, 10, 11, 12, 13, 14, 15, 16, 17, 18, 19, 20, 21, 22, 23] (fun W => Kept none' wr W) (by kernel_rfl) (by kernel_rfl) rfl (Kept.refl _ _).drew ?_
      simp only [List.map_cons, List.map_nil, List.getElem?_toArray, List.getElem?_cons_zero, List.getElem?_cons_succ, Option.getD_some]
      iterate 21 (first | (apply wpH_pure rfl rfl; (intro W; go_simp; rfl); go_frame) | (apply wpH_read rfl rfl rfl; (intro W hW; have c0 := hW.cell (fun h => h) x0; have c1 := hW.cell (fun h => h) x1; have c2 := hW.cell (fun h => h) x2; have d0 := hW.cell (fun h => h) y0; have d1 := hW.cell (fun h => h) y1; have d2 := hW.cell (fun h => h) y2; go_simp; rfl); go_frame))
      apply wpH_hot rfl rfl rfl
      intro K hK
      go_wp2_with fail
      apply wpH_pure rfl rfl
      · intro W; go_simp; rfl
      go_frame
      apply wpH_hot rfl rfl rfl
      intro K2 hK2
      go_wp2_with fail
      apply wpH_end
      go_wp2_with fail
      go_roundw
      case rel => exact ⟨k + 1, by omega, by go_num, F.out.1.pure (Kept.refl _ _).drew, F.out.2.drew⟩
      case measure => simp [intOf]; omega
    · have ek : k = n := by omega
      subst ek
      obtain ⟨L1, L2, L3, L4⟩ := HL.out
      rw [List.take_of_length_le (l := V) (by omega), List.take_of_length_le (l := U) (by omega), List.drop_of_length_le (l := U) (by omega), List.drop_of_length_le (l := V) (by omega)] at hr
      clear L1 L2 L3 L4
      go_wp2_with fail
      go_end0
      exact ⟨rfl, by simpa using hr, hkp⟩
end Go.Proofs.YtopeleenlcnkkaaGreatDoor
/-
  slices.rotate over records: two runs that stand beside each other change places.
-/
namespace Go.Proofs.YtopeleenlcnkkaaGreatDoor
open Go Go.RowKit
set_option maxRecDepth 100000 in
set_option maxHeartbeats 1000000 in
theorem rotate_any (b off cap N a m n : Nat) (P U V S : List Rec) (w : World) (h : RW w b off (P ++ U ++ V ++ S)) (hN : (P ++ U ++ V ++ S).length = N) (hN2 : N < 1099511627776)
    (ha : P.length = a) (hm : (P ++ U).length = m) (hn : (P ++ U ++ V).length = n) (hU : U ≠ []) (hV : V ≠ []) :
    Calls Tryz.prog 174 #[.slice (some ⟨b, off, none⟩) N cap, .int .i64 a, .int .i64 m, .int .i64 n, .func (.func 91) #[] #[]] w (Moves w b off (P ++ V ++ U ++ S)) := by
  have H := Lib.hid h
  have HN := Lib.hid hN
  have lU := List.length_pos_iff.2 hU
  have lV := List.length_pos_iff.2 hV
  have LN : (P ++ U ++ V ++ S).length = P.length + U.length + V.length + S.length := by simp; omega
  have LM : (P ++ U).length = P.length + U.length := by simp
  have LV : (P ++ U ++ V).length = P.length + U.length + V.length := by simp; omega
  have b1 : m < N := by omega
  have e1 : IntKind.i64.wrap ((m : Int) - a) = (U.length : Int) := by rw [show (m : Int) - a = ((U.length : Nat) : Int) by omega]; exact wrapNat (by omega)
  have e2 : IntKind.i64.wrap ((n : Int) - m) = (V.length : Int) := by rw [show (n : Int) - m = ((V.length : Nat) : Int) by omega]; exact wrapNat (by omega)
  have HL := Lib.hid (And.intro ha (And.intro hm (And.intro hn (And.intro lU lV))))
  clear h hN ha hm hn lU lV LN LM LV hU hV
  go_enter Tryz.func174, Tryz.ntmps174
  go_wp2
  go_loopg [10, 11] (U.length + V.length) (fun g i j wr => ∃ (P' U' V' S' : List Rec), i = .int .i64 (U'.length : Int) ∧ j = .int .i64 (V'.length : Int) ∧ U'.length + V'.length = g ∧ 0 < U'.length ∧ 0 < V'.length ∧ (P' ++ U').length = m ∧ P' ++ V' ++ U' ++ S' = P ++ V ++ U ++ S ∧
    RW wr b off (P' ++ U' ++ V' ++ S') ∧ Kept (one b) w wr)
  case atStart => exact ⟨P, U, V, S, rfl, rfl, rfl, HL.out.2.2.2.1, HL.out.2.2.2.2, HL.out.2.1, rfl, H.out, Kept.refl _ _⟩
  case round =>
    obtain ⟨P', U', V', S', rfl, rfl, hg, h1, h2, h3, h4, hr, hkp⟩ := hrel
    have hlen : (P' ++ V' ++ U' ++ S').length = N := by
      rw [h4, ← HN.out]; simp; omega
    obtain ⟨i, hi⟩ : ∃ i, U'.length = i := ⟨_, rfl⟩
    obtain ⟨j, hj⟩ : ∃ j, V'.length = j := ⟨_, rfl⟩
    obtain ⟨p, hp⟩ : ∃ p, P'.length = p := ⟨_, rfl⟩
    simp only [List.length_append] at h3 hlen
    rw [hi, hj] at hg ⊢
    rw [hi] at h1 h3
    rw [hj] at h2
    rw [hp] at h3
    rw [hi, hj, hp] at hlen
    have e3 : IntKind.i64.wrap ((m : Int) - i) = (p : Int) := by rw [show (m : Int) - i = ((p : Nat) : Int) by omega]; exact wrapNat (by omega)
    have A := Lib.hid (And.intro hi (And.intro hj (And.intro hp (And.intro h3 (And.intro h4 hkp)))))
    have HS := Lib.hid (show p + j + i + S'.length = N by omega)
    have HR := Lib.hid hr
    have hpN : p + i = m ∧ m + j ≤ N := by omega
    clear hi hj hp h3 h4 hkp hr hlen e1 e2
    rcases Nat.lt_trichotomy i j with hlt | heq | hgt
    · -- i < j
      have n1 : ((i : Int) != (j : Int)) = true := by simp; omega
      have n2 : ¬ (j : Int) < (i : Int) := by omega
      have e4 : IntKind.i64.wrap ((m : Int) + j) = ((m + j : Nat) : Int) := wrapNat (by omega)
      obtain ⟨mj, hmj⟩ : ∃ mj, m + j = mj := ⟨_, rfl⟩
      obtain ⟨d, hd⟩ : ∃ d, j - i = d := ⟨_, rfl⟩
      rw [hmj] at e4
      have e5 : IntKind.i64.wrap ((mj : Int) - i) = ((m + d : Nat) : Int) := by rw [show (mj : Int) - i = ((m + d : Nat) : Int) by omega]; exact wrapNat (by omega)
      have e6 : IntKind.i64.wrap ((j : Int) - i) = (d : Int) := by rw [show (j : Int) - i = ((d : Nat) : Int) by omega]; exact wrapNat (by omega)
      have hd0 : 0 < d ∧ d + i = j := by omega
      clear hmj hd
      obtain ⟨V1, V2, rfl, l1, l2⟩ : ∃ V1 V2, V' = V1 ++ V2 ∧ V1.length = d ∧ V2.length = i := ⟨V'.take d, V'.drop d, (List.take_append_drop _ _).symm, by rw [List.length_take]; have := A.out.2.1; omega, by rw [List.length_drop]; have := A.out.2.1; omega⟩
      have L := Lib.hid (And.intro l1 l2)
      clear l1 l2
      go_wp2_with fail
      refine (swapRange_any b off cap N p (m + d) i P' U' V1 V2 S' wr (by simpa using HR.out) ?_ hN2 A.out.2.2.1 ?_ A.out.1 L.out.2).mono ?_
      · have h5 := A.out; have h6 := HS.out; have h7 := L.out
        simp only [List.length_append] at h5 ⊢
        omega
      · have h5 := A.out; have h6 := HS.out; have h7 := L.out
        simp only [List.length_append] at h5 ⊢
        omega
      · rintro e w2 ⟨rfl, hr2, hk2⟩
        have F : RW w2 b off (P' ++ V2 ++ V1 ++ (U' ++ S')) ∧ Kept (one b) w w2 := ⟨by simpa using hr2, A.out.2.2.2.2.2.trans hk2⟩
        have FF := Lib.hid F
        clear F hr2 hk2
        go_wp2_with fail
        go_roundg (i + d)
        case rel =>
          refine ⟨P', V2, V1, U' ++ S', ?_, ?_, ?_, ?_, ?_, ?_, ?_, FF.out.1, FF.out.2⟩
          · rw [L.out.2]
          · rw [L.out.1]
          · rw [L.out.1, L.out.2]
          · rw [L.out.2]; exact h1
          · rw [L.out.1]; exact hd0.1
          · rw [List.length_append, L.out.2, A.out.2.2.1]; exact hpN.1
          · rw [← A.out.2.2.2.2.1]; simp
        case measure => omega
    · -- i = j
      subst heq
      have n1 : ((i : Int) != (i : Int)) = false := by simp
      go_wp2_with fail
      refine (swapRange_any b off cap N p m i P' U' [] V' S' wr (by simpa using HR.out) ?_ hN2 A.out.2.2.1 ?_ A.out.1 A.out.2.1).mono ?_
      · have h5 := A.out; have h6 := HS.out
        simp only [List.length_append, List.length_nil] at h5 ⊢
        omega
      · have h5 := A.out; have h6 := HS.out
        simp only [List.length_append, List.length_nil] at h5 ⊢
        omega
      · rintro e w2 ⟨rfl, hr2, hk2⟩
        have F : RW w2 b off (P ++ V ++ U ++ S) ∧ Kept (one b) w w2 := ⟨by rw [← A.out.2.2.2.2.1]; simpa using hr2, A.out.2.2.2.2.2.trans hk2⟩
        have FF := Lib.hid F
        clear F hr2 hk2
        go_wp2_with fail
        go_end0
        exact ⟨rfl, FF.out.1, FF.out.2⟩
    · -- j < i
      have n1 : ((i : Int) != (j : Int)) = true := by simp; omega
      have n2 : (j : Int) < (i : Int) := by omega
      obtain ⟨d, hd⟩ : ∃ d, i - j = d := ⟨_, rfl⟩
      have e6 : IntKind.i64.wrap ((i : Int) - j) = (d : Int) := by rw [show (i : Int) - j = ((d : Nat) : Int) by omega]; exact wrapNat (by omega)
      have hd0 : 0 < d ∧ d + j = i := by omega
      clear hd
      obtain ⟨U1, U2, rfl, l1, l2⟩ : ∃ U1 U2, U' = U1 ++ U2 ∧ U1.length = j ∧ U2.length = d := ⟨U'.take j, U'.drop j, (List.take_append_drop _ _).symm, by rw [List.length_take]; have := A.out.1; omega, by rw [List.length_drop]; have := A.out.1; omega⟩
      have L := Lib.hid (And.intro l1 l2)
      clear l1 l2
      go_wp2_with fail
      refine (swapRange_any b off cap N p m j P' U1 U2 V' S' wr (by simpa using HR.out) ?_ hN2 A.out.2.2.1 ?_ L.out.1 A.out.2.1).mono ?_
      · have h5 := A.out; have h6 := HS.out; have h7 := L.out
        simp only [List.length_append] at h5 ⊢
        omega
      · have h5 := A.out; have h6 := HS.out; have h7 := L.out
        simp only [List.length_append] at h5 ⊢
        omega
      · rintro e w2 ⟨rfl, hr2, hk2⟩
        have F : RW w2 b off (P' ++ V' ++ U2 ++ U1 ++ S') ∧ Kept (one b) w w2 := ⟨by simpa using hr2, A.out.2.2.2.2.2.trans hk2⟩
        have FF := Lib.hid F
        clear F hr2 hk2
        go_wp2_with fail
        go_roundg (d + j)
        case rel =>
          refine ⟨P' ++ V', U2, U1, S', ?_, ?_, ?_, ?_, ?_, ?_, ?_, FF.out.1, FF.out.2⟩
          · rw [L.out.2]
          · rw [L.out.1]
          · rw [L.out.1, L.out.2]
          · rw [L.out.2]; exact hd0.1
          · rw [L.out.1]; exact h2
          · rw [List.length_append, List.length_append, L.out.2, A.out.2.2.1, A.out.2.1]; omega
          · rw [← A.out.2.2.2.2.1]; simp
        case measure => omega
end Go.Proofs.YtopeleenlcnkkaaGreatDoor
/-
  slices.insertionSort over records: a stretch comes sorted, those of one place as they were.
-/
namespace Go.Proofs.YtopeleenlcnkkaaGreatDoor
open Go Go.RowKit
attribute [local irreducible] wpL wpH
set_option maxRecDepth 100000 in
theorem cmp_rec (x y : Rec) (w : World) : Calls Tryz.prog 91 #[.agg #[.int .i64 x.pos, .int .i64 x.key, .int .i64 x.val], .agg #[.int .i64 y.pos, .int .i64 y.key, .int .i64 y.val]] w (Gives w (.int .i64 (cmp3 x.pos y.pos))) := by
  go_enter Tryz.func91, Tryz.ntmps91
  go_wp2_with fail
  refine (cmp64 _ _ _).mono ?_
  rintro e w' ⟨rfl, rfl⟩
  go_wp2_with fail
  go_ret
  exact ⟨rfl, ((Kept.refl _ _).alloc _).alloc _⟩
theorem cmp3_lt (a b : Int) : (cmp3 a b < 0) = (a < b) := by
  unfold cmp3; simp only [eq_iff_iff]
  split
  · constructor <;> intro <;> omega
  · split <;> constructor <;> intro <;> omega
def SortsTo (w : World) (b off : Nat) (P X S : List Rec) (e : Ending) (w' : World) : Prop := ∃ X', Same X X' ∧ Sorted X' ∧ Moves w b off (P ++ X' ++ S) e w'
theorem swap_back {P A2 R : List Rec} {x y : Rec} {i j : Nat} (hi : P.length = i) (hj : i + 1 = j) : (((P ++ y :: x :: (A2 ++ R)).set j y).set i x) = P ++ x :: y :: (A2 ++ R) := by
  subst hj
  rw [show P ++ y :: x :: (A2 ++ R) = (P ++ [y]) ++ x :: (A2 ++ R) by simp, set_mid (by simpa using hi), show P ++ [y] ++ y :: (A2 ++ R) = P ++ y :: y :: (A2 ++ R) by simp, set_mid hi]
set_option maxRecDepth 100000 in
set_option maxHeartbeats 1000000 in
theorem insertion_any (b off cap N a n : Nat) (P X S : List Rec) (w : World) (h : RW w b off (P ++ X ++ S)) (hN : (P ++ X ++ S).length = N) (hN2 : N < 1099511627776) (ha : P.length = a) (hn : (P ++ X).length = n) :
    Calls Tryz.prog 141 #[.slice (some ⟨b, off, none⟩) N cap, .int .i64 a, .int .i64 n, .func (.func 91) #[] #[]] w (SortsTo w b off P X S) := by
  have H := Lib.hid h
  have HN := Lib.hid hN
  have HA := Lib.hid ha
  have LN : (P ++ X ++ S).length = P.length + X.length + S.length := by simp; omega
  have LM : (P ++ X).length = P.length + X.length := by simp
  have b1 : a ≤ n ∧ n ≤ N := by omega
  have HX := Lib.hid (show a + X.length = n by omega)
  clear h hN ha hn LN LM
  have e1 : IntKind.i64.wrap ((a : Int) + 1) = ((a + 1 : Nat) : Int) := wrapNat (n := a + 1) (by omega)
  go_enter Tryz.func141, Tryz.ntmps141
  go_wp2
  go_loopg [8] X.length (fun g i wr => ∃ (i' : Nat) (A R : List Rec), i = .int .i64 (i' : Int) ∧ R.length ≤ g ∧ (i' = a + A.length ∧ A ≠ [] ∨ A = [] ∧ R = [] ∧ i' = a + 1) ∧ a + A.length + R.length = n ∧ Sorted A ∧ Same X (A ++ R) ∧ RW wr b off (P ++ A ++ R ++ S) ∧ Kept (one b) w wr)
  case atStart =>
    cases X with
    | nil => exact ⟨a + 1, [], [], by go_num, Nat.le_refl _, .inr ⟨rfl, rfl, rfl⟩, by simpa using HX.out, List.Pairwise.nil, Same.refl _, by simpa using H.out, Kept.refl _ _⟩
    | cons x R =>
      refine ⟨a + 1, [x], R, by go_num, ?_, .inl ⟨rfl, by simp⟩, ?_, by simp [Sorted], Same.refl _, by simpa using H.out, Kept.refl _ _⟩
      · simp
      · have := HX.out; simp only [List.length_cons, List.length_nil] at this ⊢; omega
  case round =>
    obtain ⟨i', A, R, rfl, hg, hi, hn, hs, hsame, hr, hkp⟩ := hrel
    cases R with
    | nil =>
      have hlt : ¬ (i' : Int) < n := by
        simp only [List.length_nil] at hn
        rcases hi with ⟨h1, _⟩ | ⟨h1, _, h2⟩
        · omega
        · rw [h1] at hn; simp only [List.length_nil] at hn; omega
      have F : SortsTo w b off P X S (.returned (.tuple #[])) wr := ⟨A, by simpa using hsame, hs, rfl, by simpa using hr, hkp⟩
      have FF := Lib.hid F
      clear F hg hi hn hs hsame hr hkp
      go_wp2_with fail
      go_end0
      exact FF.out
    | cons x R =>
      obtain ⟨rfl, hA⟩ : i' = a + A.length ∧ A ≠ [] := by
        rcases hi with h | ⟨_, h, _⟩
        · exact h
        · cases h
      have hn' : a + A.length < n := by simp only [List.length_cons] at hn; omega
      have hlt : ((a + A.length : Nat) : Int) < n := by omega
      obtain ⟨i, hi'⟩ : ∃ i, a + A.length = i := ⟨_, rfl⟩
      have HH := Lib.hid (And.intro hg (And.intro hn (And.intro hs hsame)))
      have HR := Lib.hid hr
      clear hg hi hn hs hsame hr
      rw [hi'] at hn' hlt ⊢
      have HI := Lib.hid hi'
      clear hi'
      go_wp2_with fail
      go_loopg [9] A.length (fun g j wr => ∃ (A1 A2 : List Rec), A = A1 ++ A2 ∧ j = .int .i64 ((a + A1.length : Nat) : Int) ∧ A1.length = g ∧ (∀ y ∈ A2, x.pos < y.pos) ∧ RW wr b off (P ++ A1 ++ x :: A2 ++ R ++ S) ∧ Kept (one b) w wr)
      case atStart => exact ⟨A, [], by simp, by rw [HI.out], rfl, by simp, by simpa using HR.out, hkp⟩
      case round =>
        clear HR hkp
        obtain ⟨A1, A2, rfl, rfl, hg, hgt, hr, hkp⟩ := hrel
        have hxi := HI.out
        rw [List.length_append] at hxi
        rcases List.eq_nil_or_concat A1 with rfl | ⟨A1, y, rfl⟩
        · -- j = a
          have hn0 : ¬ a < a + ([] : List Rec).length := by simp
          obtain ⟨j, hj⟩ : ∃ j, a + ([] : List Rec).length = j := ⟨_, rfl⟩
          rw [hj] at hn0 ⊢
          have hn1 : decide (a < j) = false := decide_eq_false hn0
          have hn2 : decide ((a : Int) < (j : Int)) = false := decide_eq_false (by omega)
          have hi1 : IntKind.i64.wrap ((i : Int) + 1) = ((i + 1 : Nat) : Int) := wrapNat (n := i + 1) (by omega)
          have F : ∃ (i' : Nat) (A R' : List Rec), Value.int .i64 ((i + 1 : Nat) : Int) = .int .i64 (i' : Int) ∧ R'.length ≤ R.length ∧ (i' = a + A.length ∧ A ≠ [] ∨ A = [] ∧ R' = [] ∧ i' = a + 1) ∧ a + A.length + R'.length = n ∧ Sorted A ∧ Same X (A ++ R') ∧ RW wr.drew b off (P ++ A ++ R' ++ S) ∧ Kept (one b) w wr.drew := by
            obtain ⟨h1, h2, h3, h4⟩ := HH.out
            refine ⟨_, x :: A2, R, rfl, Nat.le_refl _, .inl ⟨?_, by simp⟩, ?_, ?_, ?_, ?_, hkp.drew⟩
            · simp only [List.length_nil, List.length_cons] at hxi ⊢; omega
            · simp only [List.length_append, List.length_cons, List.length_nil] at h2 ⊢; omega
            · exact List.pairwise_cons.2 ⟨fun y hy => Int.le_of_lt (hgt y hy), h3⟩
            · refine h4.trans ?_
              have := (Same.comm (A := A2) (B := [x]) (fun a ha b hb => by have := hgt a ha; simp at hb; subst hb; omega)).append (Same.refl R)
              simpa using this
            · simpa using hr.pure (Kept.refl _ _).drew
          have FF := Lib.hid F
          clear F hr hg hgt hkp hxi hj
          go_wp2_with fail
          refine wp_region_eager [0, 1, 2, 3, 4, 5, 6, 7, 8, 9, 10, 11, 12, 13, 14, 15, 16] (fun W => Kept none' wr W) (by kernel_rfl) (by kernel_rfl) rfl (Kept.refl _ _).drew ?_
          simp only [List.map_cons, List.map_nil, List.getElem?_toArray, List.getElem?_cons_zero, List.getElem?_cons_succ, Option.getD_some]
          iterate 4 (apply wpL_float rfl rfl; (intro W hW; go_simp; rfl); go_frame)
          skip
          iterate 12 (apply wpL_skip rfl; go_frame)
          apply wpL_float rfl rfl
          · intro W hW; go_simp; rfl
          go_frame
          refine wpL_nil (fun _ => (Kept.refl _ _).drew) ?_
          go_wp2_with fail
          go_roundg R.length
          case rel => exact FF.out
          case measure => have := HH.out; simp at this; omega
        · -- j > a
          obtain ⟨q, hq⟩ : ∃ q, a + A1.length = q := ⟨_, rfl⟩
          obtain ⟨j, hj⟩ : ∃ j, q + 1 = j := ⟨_, rfl⟩
          have hjj : a + (A1.concat y).length = j := by rw [List.concat_eq_append, List.length_append]; simp only [List.length_cons, List.length_nil]; omega
          rw [hjj]
          rw [List.concat_eq_append] at hr
          have hA1 := HA.out
          have hPq : (P ++ A1).length = q := by rw [List.length_append]; omega
          have hPj : (P ++ A1 ++ [y]).length = j := by simp only [List.length_append, List.length_cons, List.length_nil] at hPq ⊢; omega
          have gx : (P ++ (A1 ++ [y]) ++ x :: A2 ++ R ++ S)[j]? = some x := by
            rw [show P ++ (A1 ++ [y]) ++ x :: A2 ++ R ++ S = (P ++ A1 ++ [y]) ++ x :: (A2 ++ R ++ S) by simp]
            exact get_mid hPj
          have gy : (P ++ (A1 ++ [y]) ++ x :: A2 ++ R ++ S)[q]? = some y := by
            rw [show P ++ (A1 ++ [y]) ++ x :: A2 ++ R ++ S = (P ++ A1) ++ y :: (x :: A2 ++ R ++ S) by simp]
            exact get_mid hPq
          have hjN : j < (P ++ (A1 ++ [y]) ++ x :: A2 ++ R ++ S).length := (List.getElem?_eq_some_iff.1 gx).1
          have hlenN : (P ++ (A1 ++ [y]) ++ x :: A2 ++ R ++ S).length = N := by
            have h1 := HN.out
            have h2 := HX.out
            have h3 := HH.out.2.1
            simp only [List.concat_eq_append, List.length_append, List.length_cons, List.length_nil] at h1 h2 h3 ⊢
            omega
          have hjN' : j < N := by omega
          have hqN' : q < N := by omega
          obtain ⟨x0, x1, x2⟩ := hr.recs _ _ gx
          obtain ⟨y0, y1, y2⟩ := hr.recs _ _ gy
          obtain ⟨fx0, fx1, fx2⟩ := hr.soft j (by omega)
          obtain ⟨fy0, fy1, fy2⟩ := hr.soft q (by omega)
          have hn0 : a < j := by omega
          have hn1 : decide (a < j) = true := decide_eq_true hn0
          have hn2 : decide ((a : Int) < (j : Int)) = true := decide_eq_true (by omega)
          have e3 : IntKind.i64.wrap ((j : Int) - 1) = (q : Int) := by rw [show (j : Int) - 1 = ((q : Nat) : Int) by omega]; exact wrapNat (by omega)
          have HJ := Lib.hid (And.intro hq (And.intro hj (And.intro hg (And.intro hgt hkp))))
          have HPQ := Lib.hid (And.intro hPq (And.intro hPj hlenN))
          have HXI := Lib.hid hxi
          have HR := Lib.hid hr
          have ine : i < N := by omega
          clear hq hj hg hgt hkp hPq hPj hlenN hxi hr gx gy hjj hA1 hjN
          go_wp2_with fail
          refine wp_region_eager [0, 1, 2, 3, 4, 5, 6, 7, 8, 9, 10, 11, 12, 13, 14, 15, 16] (fun W => Kept none' wr W) (by kernel_rfl) (by kernel_rfl) rfl (Kept.refl _ _).drew ?_
          simp only [List.map_cons, List.map_nil, List.getElem?_toArray, List.getElem?_cons_zero, List.getElem?_cons_succ, Option.getD_some]
          iterate 14 (apply wpL_float rfl rfl; (intro W hW; have c0 := hW.cell (fun h => h) x0; have c1 := hW.cell (fun h => h) x1; have c2 := hW.cell (fun h => h) x2; have d0 := hW.cell (fun h => h) y0; have d1 := hW.cell (fun h => h) y1; have d2 := hW.cell (fun h => h) y2; go_simp; rfl); go_frame)
          apply wpL_loud rfl rfl
          intro K hK
          go_wp2_with fail
          refine (cmp_rec x y _).mono ?_
          rintro e w3 ⟨rfl, k3⟩
          have k3' : Kept none' wr w3 := k3.drew_left
          by_cases hxy : x.pos < y.pos
          · have hc : cmp3 x.pos y.pos < 0 := by rw [cmp3_lt]; exact hxy
            go_wp2_with fail
            refine hK _ _ (fun _ => k3') ?_
            clear hK
            iterate 2 (apply wpL_float rfl rfl; (intro W hW; go_simp; rfl); go_frame)
            refine wpL_nil (fun _ => k3') ?_
            have hr3 := HR.out.pure k3'
            have hstep : ((P ++ (A1 ++ [y]) ++ x :: A2 ++ R ++ S).set j y).set q x = P ++ A1 ++ x :: (y :: A2) ++ R ++ S := by
              rw [show P ++ (A1 ++ [y]) ++ x :: A2 ++ R ++ S = (P ++ A1) ++ y :: x :: (A2 ++ (R ++ S)) by simp, swap_back HPQ.out.1 HJ.out.2.1]
              simp
            have hsw := hr3.swap x y (i := j) (j := q) (by rw [HPQ.out.2.2]; omega) (by rw [HPQ.out.2.2]; omega)
            rw [hstep] at hsw
            have F := Lib.hid (And.intro (hsw.pure (Kept.refl _ _).drew) ((HJ.out.2.2.2.2.trans k3'.pure).trans ((swap_kept w3 b (off + j * 3) (off + q * 3) x y).drew)))
            have s0 := k3'.cell (fun h => h) x0
            have s1 := k3'.cell (fun h => h) x1
            have s2 := k3'.cell (fun h => h) x2
            have t0 := k3'.cell (fun h => h) y0
            have t1 := k3'.cell (fun h => h) y1
            have t2 := k3'.cell (fun h => h) y2
            obtain ⟨gx0, gx1, gx2⟩ := hr3.soft j (by rw [HPQ.out.2.2]; omega)
            obtain ⟨gy0, gy1, gy2⟩ := hr3.soft q (by rw [HPQ.out.2.2]; omega)
            clear x0 x1 x2 y0 y1 y2 fx0 fx1 fx2 fy0 fy1 fy2 hr3 hstep hsw k3
            have hne : j ≠ q := by have := HJ.out.2.1; omega
            go_wp2_with fail
            refine wp_region_hot [0, 1, 2, 3, 4, 5, 6, 7, 8, 9, 10, 11, 12, 13, 14, 15, 16, 17] (fun W => Kept none' w3 W) (by kernel_rfl) (by kernel_rfl) rfl (Kept.refl _ _).drew ?_
            simp only [List.map_cons, List.map_nil, List.getElem?_toArray, List.getElem?_cons_zero, List.getElem?_cons_succ, Option.getD_some]
            iterate 15 (first | (apply wpH_pure rfl rfl; (intro W; go_simp; rfl); go_frame) | (apply wpH_read rfl rfl rfl; (intro W hW; have c0 := hW.cell (fun h => h) s0; have c1 := hW.cell (fun h => h) s1; have c2 := hW.cell (fun h => h) s2; have d0 := hW.cell (fun h => h) t0; have d1 := hW.cell (fun h => h) t1; have d2 := hW.cell (fun h => h) t2; go_simp; rfl); go_frame))
            apply wpH_hot rfl rfl rfl
            intro K hK
            go_wp2_with fail
            apply wpH_pure rfl rfl
            · intro W; go_simp; rfl
            go_frame
            apply wpH_hot rfl rfl rfl
            intro K2 hK2
            go_wp2_with fail
            apply wpH_end
            go_wp2_with fail
            go_roundg A1.length
            case rel =>
              refine ⟨A1, y :: A2, by simp, ?_, rfl, ?_, F.out.1, F.out.2⟩
              · have := HJ.out.1; rw [this]
              · intro z hz
                rcases List.mem_cons.1 hz with rfl | hz
                · exact hxy
                · exact HJ.out.2.2.2.1 z hz
            case measure => have := HJ.out.2.2.1; rw [List.concat_eq_append, List.length_append] at this; simp at this; omega
          · have hc : ¬ cmp3 x.pos y.pos < 0 := by rw [cmp3_lt]; exact hxy
            go_wp2_with fail
            refine hK _ _ (fun _ => k3') ?_
            clear hK
            iterate 2 (apply wpL_float rfl rfl; (intro W hW; go_simp; rfl); go_frame)
            refine wpL_nil (fun _ => k3') ?_
            have hi1 : IntKind.i64.wrap ((i : Int) + 1) = ((i + 1 : Nat) : Int) := wrapNat (n := i + 1) (by omega)
            have F : ∃ (i' : Nat) (A R' : List Rec), Value.int .i64 ((i + 1 : Nat) : Int) = .int .i64 (i' : Int) ∧ R'.length ≤ R.length ∧ (i' = a + A.length ∧ A ≠ [] ∨ A = [] ∧ R' = [] ∧ i' = a + 1) ∧ a + A.length + R'.length = n ∧ Sorted A ∧ Same X (A ++ R') ∧ RW w3 b off (P ++ A ++ R' ++ S) ∧ Kept (one b) w w3 := by
              obtain ⟨h1, h2, h3, h4⟩ := HH.out
              have h5 := HXI.out
              have h6 := HJ.out
              rw [List.concat_eq_append] at h2 h3 h4 h5
              refine ⟨_, A1 ++ [y] ++ x :: A2, R, rfl, Nat.le_refl _, .inl ⟨?_, by simp⟩, ?_, ?_, ?_, ?_, h6.2.2.2.2.trans k3'.pure⟩
              · simp only [List.length_append, List.length_cons, List.length_nil] at h5 ⊢; omega
              · simp only [List.length_append, List.length_cons, List.length_nil] at h2 ⊢; omega
              · refine Sorted.append h3.left (List.pairwise_cons.2 ⟨fun z hz => Int.le_of_lt (h6.2.2.2.1 z hz), h3.right⟩) ?_
                intro u hu v hv
                have h7 : u.pos ≤ y.pos := by
                  rcases List.mem_append.1 hu with hu | hu
                  · exact h3.left.le u hu y (by simp)
                  · simp at hu; rw [hu]; exact Int.le_refl _
                rcases List.mem_cons.1 hv with rfl | hv
                · omega
                · have := h6.2.2.2.1 v hv; omega
              · refine h4.trans ?_
                have := ((Same.refl (A1 ++ [y])).append (Same.comm (A := A2) (B := [x]) (fun u hu v hv => by have := h6.2.2.2.1 u hu; simp at hv; subst hv; omega))).append (Same.refl R)
                simpa using this
              · simpa using HR.out.pure k3'
            have FF := Lib.hid F
            clear F
            go_wp2_with fail
            go_roundg R.length
            case rel => exact FF.out
            case measure => have := HH.out.1; simp at this; omega
end Go.Proofs.YtopeleenlcnkkaaGreatDoor
