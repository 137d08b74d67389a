/-
  A table's bytes.
-/
import Derived.Test.YtaalpijohdlabaaBytA
import Derived.Test.YtaalpijohdlabaaRowB
namespace Go.Proofs.Ytaalpijohdlabaa
open Go Go.RowKit
attribute [local irreducible] wpL
/-- The numbers of a table, one behind the other. -/
def rowL (p : Int × Cell) : List Int := p.1 :: p.2.1 :: (p.2.2.length : Int) :: p.2.2
def tabL (T : Tab) : List Int := (T.length : Int) :: T.flatMap rowL
theorem putL_append (l m : List Int) : putL (l ++ m) = putL l ++ putL m := by unfold putL; rw [List.flatMap_append]
theorem rows_snoc {T : Tab} {k : Nat} {p : Int × Cell} (h : T[k]? = some p) : (T.take (k + 1)).flatMap rowL = (T.take k).flatMap rowL ++ rowL p := by
  rw [List.take_add_one, h, List.flatMap_append]; simp
theorem rows_ok {T : Tab} (h : ∀ p ∈ T, R64 p.1) (hc : ∀ p ∈ T, COk p.2) : (∀ n ∈ T.flatMap rowL, R64 n) ∧ (T.flatMap rowL).length ≤ 19 * T.length := by
  induction T with
  | nil => simp
  | cons p T ih =>
    obtain ⟨i1, i2⟩ := ih (fun q hq => h q (by simp [hq])) (fun q hq => hc q (by simp [hq]))
    have c := hc p (by simp)
    refine ⟨fun n hn => ?_, ?_⟩
    · rw [List.flatMap_cons] at hn
      rcases List.mem_append.1 hn with hn | hn
      · unfold rowL at hn
        simp only [List.mem_cons] at hn
        rcases hn with rfl | rfl | rfl | hn
        · exact h p (by simp)
        · exact c.1
        · have := c.2.2; exact .small (by omega) (by omega)
        · exact c.2.1 n hn
      · exact i1 n hn
    · rw [List.flatMap_cons, List.length_append]
      have := c.2.2
      simp only [rowL, List.length_cons] at *
      omega
theorem tabAt_len {w : World} {B : Nat → Prop} {b m : Nat} {T : Tab} (h : TabAt w B b m T) (ty : TypeId) : (Builtin.len_ #[87] ty #[.map (some m)]).run Try.prog w = .ok (.int .i64 T.length) w := by
  obtain ⟨l, h1, h2, _⟩ := h.map
  have := h2.length_eq
  unfold tkeys at this
  simp only [List.length_map] at this
  rw [h1.len (P := Try.prog) Try.underlying87 ty, this]
set_option maxRecDepth 100000 in
set_option maxHeartbeats 1000000 in
theorem bytes_any (B : Nat → Prop) (b m : Nat) (T : Tab) (w : World) (h : TabAt w B b m T) : Calls Try.prog 36 #[.pointer (some ⟨b, 0, none⟩)] w (Gives w (.string (strOf (putL (tabL T))))) := by
  have hcb := h.cell
  have hlen := fun ty => tabAt_len h ty
  have HT := Lib.hid h
  clear h
  go_enter Try.func36, Try.ntmps36
  go_wp2_with fail
  have kk : Kept none' w (w.alloc (.cells #[.int .i64 (T.length : Int)] 2)) := (Kept.refl _ _).alloc _
  have hTl := HT.out.ok.len
  refine (put_walk _ [(T.length : Int)] _ (Reads.lit w (ints [(T.length : Int)]) 2 1 1 rfl (by unfold maxLen; omega)) (by intro n hn; simp at hn; subst hn; exact .small (by omega) (by omega)) (by simp)).mono ?_
  rintro e w1 ⟨rfl, k1⟩
  go_wp2_with fail
  refine (keys_any B b m T w1 (HT.out.pure (kk.trans k1))).mono ?_
  rintro e w2 ⟨kv, rfl, g1, g2, g3⟩
  have hr := Reads.of_owns g1
  obtain ⟨pa, ca, rfl, ka1, ka2, ka3⟩ := hr.at
  unfold maxLen at ka2
  have K2 := Lib.hid (And.intro ka3 ((kk.trans k1).trans g3))
  clear g1 g2 g3 ka3 hr hlen kk k1
  have hTk : (tkeys T).length = T.length := by simp [tkeys]
  have HTK := Lib.hid hTk
  clear hTk
  go_wp2_with fail
  go_loopg [3, 19] T.length (fun g vs vi wr => ∃ k : Nat, vi = .int .i64 (k : Int) ∧ vs = .string (strOf (putL ((T.length : Int) :: (T.take k).flatMap rowL))) ∧ k ≤ T.length ∧ T.length - k ≤ g ∧ Kept none' w2 wr)
  case atStart => exact ⟨0, rfl, rfl, by omega, by omega, Kept.refl _ _⟩
  case round =>
    obtain ⟨k, rfl, rfl, hk, hg, hkp⟩ := hrel
    by_cases hlt : k < T.length
    · obtain ⟨p, hp⟩ : ∃ p, T[k]? = some p := ⟨_, List.getElem?_eq_getElem hlt⟩
      have hkey : (tkeys T)[k]? = some p.1 := by unfold tkeys; rw [List.getElem?_map, hp]; rfl
      obtain ⟨kb, ko, rfl, hkc⟩ := K2.out.1.resolve_left (fun h => by rw [h] at hkey; cases hkey)
      have r0 := hkp.cell (p := ⟨kb, ko + k, none⟩) (fun h => h) (hkc k _ hkey)
      have hT2 := HT.out.pure (K2.out.2.trans hkp)
      have hcb2 := hT2.cell
      obtain ⟨l, hml, hperm, hcs⟩ := hT2.map
      have hlk := hml.lookup1 (P := Try.prog) Try.underlying87 Try.underlying2 p.1 (Try.zeroValue29 wr)
      have hget : tget T p.1 = some p.2 := (tget_some HT.out.ok.rises).2 (List.mem_of_getElem? hp)
      rcases tab_look HT.out.ok.rises hperm hcs p.1 with ⟨_, h2⟩ | ⟨cv, c, h1, h2, lv, rfl, hrd, _⟩
      · rw [hget] at h2; cases h2
      · rw [hget] at h2
        cases h2
        rw [h1] at hlk
        simp only [Option.getD_some] at hlk
        obtain ⟨la, lc, rfl, hl1, hl2, _⟩ := hrd.at
        unfold maxLen at hl2
        have hlt2 : ((k : Nat) : Int) < ((tkeys T).length : Int) := by rw [HTK.out]; omega
        have A := Lib.hid (And.intro hg (And.intro hkp (And.intro hp (And.intro hrd (HT.out.ok.cell p (List.mem_of_getElem? hp))))))
        have hkT : k < (tkeys T).length := by omega
        clear hml hperm hcs hget h1 hrd hp hkey hkc hg hkp hT2
        go_wp2_with fail
        obtain ⟨W1, hW1⟩ : ∃ W1, wr.alloc (.cells #[.int .i64 p.2.1, .slice la p.2.2.length lc] 29) = W1 := ⟨_, rfl⟩
        have kw : Kept none' wr W1 := by rw [← hW1]; exact (Kept.refl _ _).alloc _
        have d0 : W1.cell? ⟨wr.heap.size, 0, none⟩ = some (.int .i64 p.2.1) := by rw [← hW1]; simp
        have d1 : W1.cell? ⟨wr.heap.size, 1, none⟩ = some (.slice la p.2.2.length lc) := by rw [← hW1]; simp
        rw [hW1]
        clear hW1 hlk r0 hcb2
        obtain ⟨s0, hs0⟩ : ∃ s0, strOf (putL ((T.length : Int) :: (T.take k).flatMap rowL)) = s0 := ⟨_, rfl⟩
        rw [hs0]
        have HS := Lib.hid hs0
        clear hs0
        refine wp_region_eager [0, 1, 2, 3, 4, 5, 6, 9, 10, 7, 8, 11, 12, 13, 14] (fun W => Kept none' W1 W) (by kernel_rfl) (by kernel_rfl) rfl (Kept.refl _ _).drew ?_
        simp only [List.map_cons, List.map_nil, List.getElem?_toArray, List.getElem?_cons_zero, List.getElem?_cons_succ, Option.getD_some]
        iterate 9 (apply wpL_float rfl rfl; (intro W hW; have c0 := hW.cell (fun h => h) d0; have c1 := hW.cell (fun h => h) d1; go_simp; rfl); go_frame)
        apply wpL_loud rfl rfl
        intro K hK
        go_wp2_with fail
        have k3 : Kept none' W1 (W1.drew.alloc (.cells #[.int .i64 p.1, .int .i64 p.2.1, .int .i64 (p.2.2.length : Int)] 2)) := (Kept.refl _ _).drew.alloc _
        refine hK _ _ (fun _ => k3) ?_
        clear hK
        apply wpL_loud rfl rfl
        intro K2 hK2
        go_wp2_with fail
        have hck := A.out.2.2.2.2
        have hkeyR := HT.out.ok.key p (List.mem_of_getElem? A.out.2.2.1)
        have c1 := put_walk _ [p.1, p.2.1, (p.2.2.length : Int)] _ (Reads.lit W1.drew (ints [p.1, p.2.1, (p.2.2.length : Int)]) 2 1 3 rfl (by unfold maxLen; omega)) (by
          intro n hn
          simp only [List.mem_cons, List.not_mem_nil, or_false] at hn
          rcases hn with rfl | rfl | rfl
          · exact hkeyR
          · exact hck.1
          · have := hck.2.2; exact .small (by omega) (by omega)) (by simp)
        refine c1.mono ?_
        clear c1
        rintro e w5 ⟨rfl, k5⟩
        obtain ⟨b1, hb1⟩ : ∃ b1, (⟨(putL [p.1, p.2.1, (p.2.2.length : Int)]).toArray⟩ : ByteArray) = b1 := ⟨_, rfl⟩
        rw [hb1]
        have HB1 := Lib.hid hb1
        clear hb1
        have k6 : Kept none' W1 w5 := k3.trans k5
        go_wp2_with fail
        refine hK2 _ _ (fun _ => k6) ?_
        clear hK2
        apply wpL_loud rfl rfl
        intro K3 hK3
        go_wp2_with fail
        have c2 := put_walk _ p.2.2 _ (A.out.2.2.2.1.pure (kw.trans k6)) hck.2.1 (by have := hck.2.2; omega)
        refine c2.mono ?_
        clear c2
        rintro e w7 ⟨rfl, k7⟩
        obtain ⟨b2, hb2⟩ : ∃ b2, (⟨(putL p.2.2).toArray⟩ : ByteArray) = b2 := ⟨_, rfl⟩
        rw [hb2]
        have HB2 := Lib.hid hb2
        clear hb2
        have k8 : Kept none' W1 w7 := k6.trans k7
        go_wp2_with fail
        refine hK3 _ _ (fun _ => k8) ?_
        clear hK3
        have z1 : b1.size ≤ 30 := by
          rw [← HB1.out]
          exact putL_len (l := [p.1, p.2.1, (p.2.2.length : Int)]) (by
            intro n hn
            simp only [List.mem_cons, List.not_mem_nil, or_false] at hn
            rcases hn with rfl | rfl | rfl
            · exact hkeyR
            · exact hck.1
            · have := hck.2.2; exact .small (by omega) (by omega))
        have z2 : b2.size ≤ 160 := by
          rw [← HB2.out]
          have := putL_len hck.2.1
          show (putL p.2.2).length ≤ 160
          have := hck.2.2
          omega
        have z0 : s0.size ≤ 1000000 := by
          rw [← HS.out, strOf_size]
          have hr := rows_ok (T := T.take k) (fun q hq => HT.out.ok.key q (List.mem_of_mem_take hq)) (fun q hq => HT.out.ok.cell q (List.mem_of_mem_take hq))
          have h1 := putL_len (l := (T.length : Int) :: (T.take k).flatMap rowL) (by
            intro n hn
            rcases List.mem_cons.1 hn with rfl | hn
            · exact .small (by omega) (by omega)
            · exact hr.1 n hn)
          have h2 := hr.2
          rw [List.length_take] at h2
          rw [List.length_cons] at h1
          omega
        have z3 : ¬ 9223372036854775807 < b1.size + b2.size := by omega
        have z4 : ¬ 9223372036854775807 < s0.size + (b1.size + b2.size) := by omega
        iterate 3 (apply wpL_float rfl rfl; (intro W hW; go_simp; rfl); go_frame)
        refine wpL_nil (fun _ => k8) ?_
        go_wp2_with fail
        go_roundg (T.length - (k + 1))
        case rel =>
          refine ⟨k + 1, by go_num, ?_, by omega, Nat.le_refl _, A.out.2.1.trans (kw.trans k8)⟩
          rw [rows_snoc A.out.2.2.1, ← HS.out, ← HB1.out, ← HB2.out]
          have e1 : ((T.length : Int) :: ((T.take k).flatMap rowL ++ rowL p)) = ((T.length : Int) :: (T.take k).flatMap rowL) ++ ([p.1, p.2.1, (p.2.2.length : Int)] ++ p.2.2) := by simp [rowL]
          rw [e1, putL_append, putL_append, ← strOf_append, ← strOf_append]
          rfl
        case measure => have := A.out.1; omega
    · have hkl : k = T.length := by omega
      subst hkl
      have hlt2 : ¬ ((T.length : Nat) : Int) < ((tkeys T).length : Int) := by rw [HTK.out]; omega
      rw [List.take_of_length_le (Nat.le_refl _)]
      go_wp2_with fail
      go_ret
      exact ⟨rfl, K2.out.2.trans hkp⟩
end Go.Proofs.Ytaalpijohdlabaa
