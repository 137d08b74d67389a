/-
  RECORDS IN MEMORY: a row of records that may be written; two of them exchanged; slices.swapRange over them.
-/
import Derived.Test.YtaalpijohdlabaaRec
import Derived.Test.YtaalpijohdlabaaTab8
import Derived.Test.YtaalpijohdlabaaHot
namespace Go.Proofs.Ytaalpijohdlabaa
open Go Go.RowKit
def recA (r : Rec) : Array Value := #[.int .i64 r.pos, .int .i64 r.key, .int .i64 r.val]
def recs (L : List Rec) : List Value := L.flatMap fun r => [.int .i64 r.pos, .int .i64 r.key, .int .i64 r.val]
def RecAt (w : World) (b o : Nat) (r : Rec) : Prop :=
  w.cell? ⟨b, o, none⟩ = some (.int .i64 r.pos) ∧ w.cell? ⟨b, o + 1, none⟩ = some (.int .i64 r.key) ∧ w.cell? ⟨b, o + 2, none⟩ = some (.int .i64 r.val)
def Soft (w : World) (b o : Nat) : Prop := w.frozen? ⟨b, o, none⟩ = false ∧ w.frozen? ⟨b, o + 1, none⟩ = false ∧ w.frozen? ⟨b, o + 2, none⟩ = false
/-- Records from 'off' on of block b, each of which may be written. -/
structure RW (w : World) (b off : Nat) (L : List Rec) : Prop where
  recs : ∀ i r, L[i]? = some r → RecAt w b (off + i * 3) r
  soft : ∀ i, i < L.length → Soft w b (off + i * 3)
theorem RecAt.pure {w w' : World} {b o : Nat} {r : Rec} (h : RecAt w b o r) (hk : Kept none' w w') : RecAt w' b o r :=
  ⟨hk.cell (fun h => h) h.1, hk.cell (fun h => h) h.2.1, hk.cell (fun h => h) h.2.2⟩
theorem RW.pure {w w' : World} {b off : Nat} {L : List Rec} (h : RW w b off L) (hk : Kept none' w w') : RW w' b off L := by
  refine ⟨fun i r hr => (h.recs i r hr).pure hk, fun i hi => ?_⟩
  obtain ⟨r, hr⟩ : ∃ r, L[i]? = some r := ⟨_, List.getElem?_eq_getElem hi⟩
  have hb := block_lt_of_cell (h.recs i r hr).1
  have hs := h.soft i hi
  exact ⟨by rw [hk.fq _ _ hb]; exact hs.1, by rw [hk.fq _ _ hb]; exact hs.2.1, by rw [hk.fq _ _ hb]; exact hs.2.2⟩
def putRec (w : World) (b o : Nat) (r : Rec) : World := ((w.setCell ⟨b, o, none⟩ (.int .i64 r.pos)).setCell ⟨b, o + 1, none⟩ (.int .i64 r.key)).setCell ⟨b, o + 2, none⟩ (.int .i64 r.val)
theorem putRec_kept (w : World) (b o : Nat) (r : Rec) : Kept (one b) w (putRec w b o r) :=
  (((Kept.refl (one b) w).setCell (p := ⟨b, o, none⟩) (.inl rfl) _).setCell (p := ⟨b, o + 1, none⟩) (.inl rfl) _).setCell (p := ⟨b, o + 2, none⟩) (.inl rfl) _
theorem putRec_same {w : World} {b o : Nat} {r x : Rec} (h : RecAt w b o x) : RecAt (putRec w b o r) b o r := by
  obtain ⟨h0, h1, h2⟩ := h
  unfold putRec RecAt
  refine ⟨?_, ?_, ?_⟩
  · rw [World.cell?_setCell_other _ _ _ _ (by simp), World.cell?_setCell_other _ _ _ _ (by simp), World.cell?_setCell_same _ _ _ h0]
  · rw [World.cell?_setCell_other _ _ _ _ (by simp), World.cell?_setCell_same _ _ _ (by rw [World.cell?_setCell_other _ _ _ _ (by simp)]; exact h1)]
  · rw [World.cell?_setCell_same _ _ _ (by rw [World.cell?_setCell_other _ _ _ _ (by simp), World.cell?_setCell_other _ _ _ _ (by simp)]; exact h2)]
theorem putRec_far {w : World} {b o o' : Nat} {r x : Rec} (h : RecAt w b o' x) (hne : o' + 2 < o ∨ o + 2 < o') : RecAt (putRec w b o r) b o' x := by
  obtain ⟨h0, h1, h2⟩ := h
  unfold putRec RecAt
  refine ⟨?_, ?_, ?_⟩
  · rw [World.cell?_setCell_other _ _ _ _ (by intro e; injection e with _ e _; omega), World.cell?_setCell_other _ _ _ _ (by intro e; injection e with _ e _; omega), World.cell?_setCell_other _ _ _ _ (by intro e; injection e with _ e _; omega)]; exact h0
  · rw [World.cell?_setCell_other _ _ _ _ (by intro e; injection e with _ e _; omega), World.cell?_setCell_other _ _ _ _ (by intro e; injection e with _ e _; omega), World.cell?_setCell_other _ _ _ _ (by intro e; injection e with _ e _; omega)]; exact h1
  · rw [World.cell?_setCell_other _ _ _ _ (by intro e; injection e with _ e _; omega), World.cell?_setCell_other _ _ _ _ (by intro e; injection e with _ e _; omega), World.cell?_setCell_other _ _ _ _ (by intro e; injection e with _ e _; omega)]; exact h2
theorem RW.put {w : World} {b off i : Nat} {L : List Rec} (h : RW w b off L) (r : Rec) (hi : i < L.length) : RW (putRec w b (off + i * 3) r) b off (L.set i r) := by
  refine ⟨fun j x hx => ?_, fun j hj => ?_⟩
  · by_cases e : i = j
    · subst e
      rw [List.getElem?_set_self hi] at hx
      cases hx
      exact putRec_same (h.recs i _ (List.getElem?_eq_getElem hi))
    · rw [List.getElem?_set_ne e] at hx
      exact putRec_far (h.recs j x hx) (by omega)
  · rw [List.length_set] at hj
    have := h.soft j hj
    unfold Soft putRec at *
    simpa using this
theorem RW.swap {w : World} {b off i j : Nat} {L : List Rec} (h : RW w b off L) (x y : Rec) (hi : i < L.length) (hj : j < L.length) : RW (putRec (putRec w b (off + i * 3) y) b (off + j * 3) x) b off ((L.set i y).set j x) :=
  (h.put y hi).put x (by rw [List.length_set]; exact hj)
theorem swap_kept (w : World) (b o o' : Nat) (x y : Rec) : Kept (one b) w (putRec (putRec w b o y) b o' x) := (putRec_kept _ _ _ _).trans (putRec_kept _ _ _ _)
def Moves (w : World) (b off : Nat) (L : List Rec) (e : Ending) (w' : World) : Prop := e = .returned (.tuple #[]) ∧ RW w' b off L ∧ Kept (one b) w w'
theorem wrapNat {n : Nat} (h : n < 4398046511104) : IntKind.i64.wrap ((n : Nat) : Int) = ((n : Nat) : Int) := by
  rw [IntKind.wrap_i64]; omega
theorem set_mid {A B : List Rec} {x y : Rec} {i : Nat} (h : A.length = i) : (A ++ x :: B).set i y = A ++ y :: B := by
  subst h
  rw [List.set_append_right _ _ (Nat.le_refl _)]
  simp
theorem get_mid {A B : List Rec} {x : Rec} {i : Nat} (h : A.length = i) : (A ++ x :: B)[i]? = some x := by subst h; simp

theorem swap_step {P V1 U M U1 V S : List Rec} {x y : Rec} {i j : Nat} (hi : (P ++ V1).length = i) (hj : (P ++ V1 ++ x :: U ++ M ++ U1).length = j) :
    (((P ++ V1 ++ x :: U ++ M ++ U1 ++ y :: V ++ S).set i y).set j x) = P ++ (V1 ++ [y]) ++ U ++ M ++ (U1 ++ [x]) ++ V ++ S := by
  rw [show P ++ V1 ++ x :: U ++ M ++ U1 ++ y :: V ++ S = (P ++ V1) ++ x :: (U ++ M ++ U1 ++ y :: V ++ S) by simp, set_mid hi,
    show (P ++ V1) ++ y :: (U ++ M ++ U1 ++ y :: V ++ S) = (P ++ V1 ++ y :: U ++ M ++ U1) ++ y :: (V ++ S) by simp, set_mid (by simpa using hj)]
  simp
set_option maxRecDepth 100000 in
set_option maxHeartbeats 1000000 in
/-- slices.swapRange: two runs of the same length change places. -/
theorem swapRange_any (b off cap N a m n : Nat) (P U M V S : List Rec) (w : World) (h : RW w b off (P ++ U ++ M ++ V ++ S)) (hN : (P ++ U ++ M ++ V ++ S).length = N) (hN2 : N < 1099511627776)
    (ha : P.length = a) (hm : (P ++ U ++ M).length = m) (hU : U.length = n) (hV : V.length = n) :
    Calls Try.prog 132 #[.slice (some ⟨b, off, none⟩) N cap, .int .i64 a, .int .i64 m, .int .i64 n, .func (.func 59) #[] #[]] w (Moves w b off (P ++ V ++ M ++ U ++ S)) := by
  have H := Lib.hid h
  have HN := Lib.hid hN
  have LN : (P ++ U ++ M ++ V ++ S).length = P.length + U.length + M.length + V.length + S.length := by simp; omega
  have LM : (P ++ U ++ M).length = P.length + U.length + M.length := by simp; omega
  have b1 : a + n ≤ m ∧ m + n ≤ N := by omega
  have HL := Lib.hid (And.intro ha (And.intro hm (And.intro hU hV)))
  clear h hN ha hm hU hV LN LM
  go_enter Try.func132, Try.ntmps132
  go_wp2
  go_loopw [10] (fun i wr => ∃ k : Nat, k ≤ n ∧ i = .int .i64 k ∧ RW wr b off (P ++ V.take k ++ U.drop k ++ M ++ U.take k ++ V.drop k ++ S) ∧ Kept (one b) w wr) (fun i _ => n - (intOf i).toNat)
  case atStart => exact ⟨0, by omega, rfl, by simpa using H.out, Kept.refl _ _⟩
  case round =>
    obtain ⟨k, hk, rfl, hr, hkp⟩ := hrel
    by_cases hlt : k < n
    · obtain ⟨L1, L2, L3, L4⟩ := HL.out
      obtain ⟨x, hx⟩ : ∃ x, U.drop k = x :: U.drop (k + 1) := ⟨_, List.drop_eq_getElem_cons (by omega)⟩
      obtain ⟨y, hy⟩ : ∃ y, V.drop k = y :: V.drop (k + 1) := ⟨_, List.drop_eq_getElem_cons (by omega)⟩
      have hx' : U.take (k + 1) = U.take k ++ [x] := by
        have h1 : U[k]? = some x := by have := congrArg List.head? hx; rwa [List.head?_drop, List.head?_cons] at this
        rw [List.take_add_one, h1]; rfl
      have hy' : V.take (k + 1) = V.take k ++ [y] := by
        have h1 : V[k]? = some y := by have := congrArg List.head? hy; rwa [List.head?_drop, List.head?_cons] at this
        rw [List.take_add_one, h1]; rfl
      rw [hx, hy] at hr
      obtain ⟨i, hi⟩ : ∃ i, a + k = i := ⟨_, rfl⟩
      obtain ⟨j, hj⟩ : ∃ j, m + k = j := ⟨_, rfl⟩
      have lx := congrArg List.length hx
      have ly := congrArg List.length hy
      rw [List.length_drop, List.length_cons] at lx ly
      have hi2 : (P ++ V.take k).length = i := by rw [List.length_append, List.length_take]; omega
      have hj2 : (P ++ V.take k ++ x :: U.drop (k + 1) ++ M ++ U.take k).length = j := by
        simp only [List.length_append, List.length_cons, List.length_drop, List.length_take] at L2 ⊢; omega
      have hlen : (P ++ V.take k ++ x :: U.drop (k + 1) ++ M ++ U.take k ++ y :: V.drop (k + 1) ++ S).length = N := by
        have := HN.out
        simp only [List.length_append, List.length_cons, List.length_drop, List.length_take] at L2 this ⊢; omega
      have hstep := swap_step (S := S) (V := V.drop (k + 1)) (y := y) hi2 hj2
      have gx : (P ++ V.take k ++ x :: U.drop (k + 1) ++ M ++ U.take k ++ y :: V.drop (k + 1) ++ S)[i]? = some x := by
        rw [show P ++ V.take k ++ x :: U.drop (k + 1) ++ M ++ U.take k ++ y :: V.drop (k + 1) ++ S = (P ++ V.take k) ++ x :: (U.drop (k + 1) ++ M ++ U.take k ++ y :: V.drop (k + 1) ++ S) by simp]
        exact get_mid hi2
      have gy : (P ++ V.take k ++ x :: U.drop (k + 1) ++ M ++ U.take k ++ y :: V.drop (k + 1) ++ S)[j]? = some y := by
        rw [show P ++ V.take k ++ x :: U.drop (k + 1) ++ M ++ U.take k ++ y :: V.drop (k + 1) ++ S = (P ++ V.take k ++ x :: U.drop (k + 1) ++ M ++ U.take k) ++ y :: (V.drop (k + 1) ++ S) by simp]
        exact get_mid hj2
      obtain ⟨x0, x1, x2⟩ := hr.recs _ _ gx
      obtain ⟨y0, y1, y2⟩ := hr.recs _ _ gy
      have hx1 : i < N := by omega
      have hy1 : j < N := by omega
      obtain ⟨fx0, fx1, fx2⟩ := hr.soft i (by omega)
      obtain ⟨fy0, fy1, fy2⟩ := hr.soft j (by omega)
      have e1 : IntKind.i64.wrap ((a : Int) + k) = (i : Int) := by rw [← hi]; exact wrapNat (n := a + k) (by omega)
      have e2 : IntKind.i64.wrap ((m : Int) + k) = (j : Int) := by rw [← hj]; exact wrapNat (n := m + k) (by omega)
      have ne : i ≠ j := by omega
      have hnext := hr.swap x y (i := i) (j := j) (by omega) (by omega)
      rw [hstep, ← hx', ← hy'] at hnext
      have F := Lib.hid (And.intro hnext (hkp.trans (swap_kept wr b (off + i * 3) (off + j * 3) x y)))
      clear hr hnext hstep gx gy hx hy hx' hy' hi2 hj2 hlen hi hj lx ly L1 L2 L3 L4 hkp
      go_wp2_with fail
      refine wp_region_hot [0, 1, 2, 3, 4, 5, 6, 7, 8, 9, 10, 11, 12, 13, 14, 15, 16, 17, 18, 19, 20, 21, 22, 23] (fun W => Kept none' wr W) (by kernel_rfl) (by kernel_rfl) rfl (Kept.refl _ _).drew ?_
      simp only [List.map_cons, List.map_nil, List.getElem?_toArray, List.getElem?_cons_zero, List.getElem?_cons_succ, Option.getD_some]
      iterate 21 (first | (apply wpH_pure rfl rfl; (intro W; go_simp; rfl); go_frame) | (apply wpH_read rfl rfl rfl; (intro W hW; have c0 := hW.cell (fun h => h) x0; have c1 := hW.cell (fun h => h) x1; have c2 := hW.cell (fun h => h) x2; have d0 := hW.cell (fun h => h) y0; have d1 := hW.cell (fun h => h) y1; have d2 := hW.cell (fun h => h) y2; go_simp; rfl); go_frame))
      apply wpH_hot rfl rfl rfl
      intro K hK
      go_wp2_with fail
      apply wpH_pure rfl rfl
      · intro W; go_simp; rfl
      go_frame
      apply wpH_hot rfl rfl rfl
      intro K2 hK2
      go_wp2_with fail
      apply wpH_end
      go_wp2_with fail
      go_roundw
      case rel => exact ⟨k + 1, by omega, by go_num, F.out.1.pure (Kept.refl _ _).drew, F.out.2.drew⟩
      case measure => simp [intOf]; omega
    · have ek : k = n := by omega
      subst ek
      obtain ⟨L1, L2, L3, L4⟩ := HL.out
      rw [List.take_of_length_le (l := V) (by omega), List.take_of_length_le (l := U) (by omega), List.drop_of_length_le (l := U) (by omega), List.drop_of_length_le (l := V) (by omega)] at hr
      clear L1 L2 L3 L4
      go_wp2_with fail
      go_end0
      exact ⟨rfl, by simpa using hr, hkp⟩
end Go.Proofs.Ytaalpijohdlabaa
