/-
  slices.rotate over records: two runs that stand beside each other change places.
-/
import Derived.Test.YtaalpijohdlabaaRW
import Derived.Deep.LoopGhost
namespace Go.Proofs.Ytaalpijohdlabaa
open Go Go.RowKit
set_option maxRecDepth 100000 in
set_option maxHeartbeats 1000000 in
theorem rotate_any (b off cap N a m n : Nat) (P U V S : List Rec) (w : World) (h : RW w b off (P ++ U ++ V ++ S)) (hN : (P ++ U ++ V ++ S).length = N) (hN2 : N < 1099511627776)
    (ha : P.length = a) (hm : (P ++ U).length = m) (hn : (P ++ U ++ V).length = n) (hU : U ≠ []) (hV : V ≠ []) :
    Calls Try.prog 121 #[.slice (some ⟨b, off, none⟩) N cap, .int .i64 a, .int .i64 m, .int .i64 n, .func (.func 59) #[] #[]] w (Moves w b off (P ++ V ++ U ++ S)) := by
  have H := Lib.hid h
  have HN := Lib.hid hN
  have lU := List.length_pos_iff.2 hU
  have lV := List.length_pos_iff.2 hV
  have LN : (P ++ U ++ V ++ S).length = P.length + U.length + V.length + S.length := by simp; omega
  have LM : (P ++ U).length = P.length + U.length := by simp
  have LV : (P ++ U ++ V).length = P.length + U.length + V.length := by simp; omega
  have b1 : m < N := by omega
  have e1 : IntKind.i64.wrap ((m : Int) - a) = (U.length : Int) := by rw [show (m : Int) - a = ((U.length : Nat) : Int) by omega]; exact wrapNat (by omega)
  have e2 : IntKind.i64.wrap ((n : Int) - m) = (V.length : Int) := by rw [show (n : Int) - m = ((V.length : Nat) : Int) by omega]; exact wrapNat (by omega)
  have HL := Lib.hid (And.intro ha (And.intro hm (And.intro hn (And.intro lU lV))))
  clear h hN ha hm hn lU lV LN LM LV hU hV
  go_enter Try.func121, Try.ntmps121
  go_wp2
  go_loopg [10, 11] (U.length + V.length) (fun g i j wr => ∃ (P' U' V' S' : List Rec), i = .int .i64 (U'.length : Int) ∧ j = .int .i64 (V'.length : Int) ∧ U'.length + V'.length = g ∧ 0 < U'.length ∧ 0 < V'.length ∧ (P' ++ U').length = m ∧ P' ++ V' ++ U' ++ S' = P ++ V ++ U ++ S ∧
    RW wr b off (P' ++ U' ++ V' ++ S') ∧ Kept (one b) w wr)
  case atStart => exact ⟨P, U, V, S, rfl, rfl, rfl, HL.out.2.2.2.1, HL.out.2.2.2.2, HL.out.2.1, rfl, H.out, Kept.refl _ _⟩
  case round =>
    obtain ⟨P', U', V', S', rfl, rfl, hg, h1, h2, h3, h4, hr, hkp⟩ := hrel
    have hlen : (P' ++ V' ++ U' ++ S').length = N := by
      rw [h4, ← HN.out]; simp; omega
    obtain ⟨i, hi⟩ : ∃ i, U'.length = i := ⟨_, rfl⟩
    obtain ⟨j, hj⟩ : ∃ j, V'.length = j := ⟨_, rfl⟩
    obtain ⟨p, hp⟩ : ∃ p, P'.length = p := ⟨_, rfl⟩
    simp only [List.length_append] at h3 hlen
    rw [hi, hj] at hg ⊢
    rw [hi] at h1 h3
    rw [hj] at h2
    rw [hp] at h3
    rw [hi, hj, hp] at hlen
    have e3 : IntKind.i64.wrap ((m : Int) - i) = (p : Int) := by rw [show (m : Int) - i = ((p : Nat) : Int) by omega]; exact wrapNat (by omega)
    have A := Lib.hid (And.intro hi (And.intro hj (And.intro hp (And.intro h3 (And.intro h4 hkp)))))
    have HS := Lib.hid (show p + j + i + S'.length = N by omega)
    have HR := Lib.hid hr
    have hpN : p + i = m ∧ m + j ≤ N := by omega
    clear hi hj hp h3 h4 hkp hr hlen e1 e2
    rcases Nat.lt_trichotomy i j with hlt | heq | hgt
    · -- i < j
      have n1 : ((i : Int) != (j : Int)) = true := by simp; omega
      have n2 : ¬ (j : Int) < (i : Int) := by omega
      have e4 : IntKind.i64.wrap ((m : Int) + j) = ((m + j : Nat) : Int) := wrapNat (by omega)
      obtain ⟨mj, hmj⟩ : ∃ mj, m + j = mj := ⟨_, rfl⟩
      obtain ⟨d, hd⟩ : ∃ d, j - i = d := ⟨_, rfl⟩
      rw [hmj] at e4
      have e5 : IntKind.i64.wrap ((mj : Int) - i) = ((m + d : Nat) : Int) := by rw [show (mj : Int) - i = ((m + d : Nat) : Int) by omega]; exact wrapNat (by omega)
      have e6 : IntKind.i64.wrap ((j : Int) - i) = (d : Int) := by rw [show (j : Int) - i = ((d : Nat) : Int) by omega]; exact wrapNat (by omega)
      have hd0 : 0 < d ∧ d + i = j := by omega
      clear hmj hd
      obtain ⟨V1, V2, rfl, l1, l2⟩ : ∃ V1 V2, V' = V1 ++ V2 ∧ V1.length = d ∧ V2.length = i := ⟨V'.take d, V'.drop d, (List.take_append_drop _ _).symm, by rw [List.length_take]; have := A.out.2.1; omega, by rw [List.length_drop]; have := A.out.2.1; omega⟩
      have L := Lib.hid (And.intro l1 l2)
      clear l1 l2
      go_wp2_with fail
      refine (swapRange_any b off cap N p (m + d) i P' U' V1 V2 S' wr (by simpa using HR.out) ?_ hN2 A.out.2.2.1 ?_ A.out.1 L.out.2).mono ?_
      · have h5 := A.out; have h6 := HS.out; have h7 := L.out
        simp only [List.length_append] at h5 ⊢
        omega
      · have h5 := A.out; have h6 := HS.out; have h7 := L.out
        simp only [List.length_append] at h5 ⊢
        omega
      · rintro e w2 ⟨rfl, hr2, hk2⟩
        have F : RW w2 b off (P' ++ V2 ++ V1 ++ (U' ++ S')) ∧ Kept (one b) w w2 := ⟨by simpa using hr2, A.out.2.2.2.2.2.trans hk2⟩
        have FF := Lib.hid F
        clear F hr2 hk2
        go_wp2_with fail
        go_roundg (i + d)
        case rel =>
          refine ⟨P', V2, V1, U' ++ S', ?_, ?_, ?_, ?_, ?_, ?_, ?_, FF.out.1, FF.out.2⟩
          · rw [L.out.2]
          · rw [L.out.1]
          · rw [L.out.1, L.out.2]
          · rw [L.out.2]; exact h1
          · rw [L.out.1]; exact hd0.1
          · rw [List.length_append, L.out.2, A.out.2.2.1]; exact hpN.1
          · rw [← A.out.2.2.2.2.1]; simp
        case measure => omega
    · -- i = j
      subst heq
      have n1 : ((i : Int) != (i : Int)) = false := by simp
      go_wp2_with fail
      refine (swapRange_any b off cap N p m i P' U' [] V' S' wr (by simpa using HR.out) ?_ hN2 A.out.2.2.1 ?_ A.out.1 A.out.2.1).mono ?_
      · have h5 := A.out; have h6 := HS.out
        simp only [List.length_append, List.length_nil] at h5 ⊢
        omega
      · have h5 := A.out; have h6 := HS.out
        simp only [List.length_append, List.length_nil] at h5 ⊢
        omega
      · rintro e w2 ⟨rfl, hr2, hk2⟩
        have F : RW w2 b off (P ++ V ++ U ++ S) ∧ Kept (one b) w w2 := ⟨by rw [← A.out.2.2.2.2.1]; simpa using hr2, A.out.2.2.2.2.2.trans hk2⟩
        have FF := Lib.hid F
        clear F hr2 hk2
        go_wp2_with fail
        go_end0
        exact ⟨rfl, FF.out.1, FF.out.2⟩
    · -- j < i
      have n1 : ((i : Int) != (j : Int)) = true := by simp; omega
      have n2 : (j : Int) < (i : Int) := by omega
      obtain ⟨d, hd⟩ : ∃ d, i - j = d := ⟨_, rfl⟩
      have e6 : IntKind.i64.wrap ((i : Int) - j) = (d : Int) := by rw [show (i : Int) - j = ((d : Nat) : Int) by omega]; exact wrapNat (by omega)
      have hd0 : 0 < d ∧ d + j = i := by omega
      clear hd
      obtain ⟨U1, U2, rfl, l1, l2⟩ : ∃ U1 U2, U' = U1 ++ U2 ∧ U1.length = j ∧ U2.length = d := ⟨U'.take j, U'.drop j, (List.take_append_drop _ _).symm, by rw [List.length_take]; have := A.out.1; omega, by rw [List.length_drop]; have := A.out.1; omega⟩
      have L := Lib.hid (And.intro l1 l2)
      clear l1 l2
      go_wp2_with fail
      refine (swapRange_any b off cap N p m j P' U1 U2 V' S' wr (by simpa using HR.out) ?_ hN2 A.out.2.2.1 ?_ L.out.1 A.out.2.1).mono ?_
      · have h5 := A.out; have h6 := HS.out; have h7 := L.out
        simp only [List.length_append] at h5 ⊢
        omega
      · have h5 := A.out; have h6 := HS.out; have h7 := L.out
        simp only [List.length_append] at h5 ⊢
        omega
      · rintro e w2 ⟨rfl, hr2, hk2⟩
        have F : RW w2 b off (P' ++ V' ++ U2 ++ U1 ++ S') ∧ Kept (one b) w w2 := ⟨by simpa using hr2, A.out.2.2.2.2.2.trans hk2⟩
        have FF := Lib.hid F
        clear F hr2 hk2
        go_wp2_with fail
        go_roundg (d + j)
        case rel =>
          refine ⟨P' ++ V', U2, U1, S', ?_, ?_, ?_, ?_, ?_, ?_, ?_, FF.out.1, FF.out.2⟩
          · rw [L.out.2]
          · rw [L.out.1]
          · rw [L.out.1, L.out.2]
          · rw [L.out.2]; exact hd0.1
          · rw [L.out.1]; exact h2
          · rw [List.length_append, List.length_append, L.out.2, A.out.2.2.1, A.out.2.1]; omega
          · rw [← A.out.2.2.2.2.1]; simp
        case measure => omega
end Go.Proofs.Ytaalpijohdlabaa
