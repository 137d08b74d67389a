/-
  No table: what its methods answer.
-/
import Derived.Test.YtaalpijohdlabaaTof
import Derived.Test.YtaalpijohdlabaaTab9
import Derived.Test.YtaalpijohdlabaaBak
namespace Go.Proofs.Ytaalpijohdlabaa
open Go Go.RowKit
def GotNil (w : World) (e : Ending) (w' : World) : Prop := e = .returned (.tuple #[.agg #[.int .i64 0, .slice none 0 0], .bool false]) ∧ Kept none' w w'
set_option maxRecDepth 100000 in
theorem get_nil (k : Int) (w : World) : Calls Try.prog 18 #[.pointer none, .int .i64 k] w (GotNil w) := by
  go_enter Try.func18, Try.ntmps18
  go_wp2
  refine bodyPost_ret (v := .tuple #[.agg #[.int .i64 0, .slice none 0 0], .bool false]) (by simp [results, Try.results18, go_sem]) rfl ⟨rfl, ?_⟩
  exact (Kept.refl _ _).alloc _
set_option maxRecDepth 100000 in
theorem put_nil (k acc : Int) (la : Option Addr) (ln lc : Nat) (w : World) : Calls Try.prog 17 #[.pointer none, .int .i64 k, .agg #[.int .i64 acc, .slice la ln lc]] w (Gives w (.int .i64 1)) := by
  go_enter Try.func17, Try.ntmps17
  go_wp2
  go_ret
  exact ⟨rfl, (Kept.refl _ _).alloc _⟩
set_option maxRecDepth 100000 in
theorem drop_nil (k : Int) (w : World) : Calls Try.prog 20 #[.pointer none, .int .i64 k] w (Gives w (.bool false)) := by
  go_enter Try.func20, Try.ntmps20
  go_wp2
  go_ret
  exact ⟨rfl, Kept.refl _ _⟩
set_option maxRecDepth 100000 in
theorem keys_nil (w : World) : Calls Try.prog 21 #[.pointer none] w (Gives w (.slice none 0 0)) := by
  go_enter Try.func21, Try.ntmps21
  go_wp2
  go_ret
  exact ⟨rfl, Kept.refl _ _⟩
set_option maxRecDepth 100000 in
theorem of_nil (a : Option Addr) (n c : Nat) (w : World) : Calls Try.prog 43 #[.pointer none, .slice a n c] w (Gives w (.pointer none)) := by
  go_enter Try.func43, Try.ntmps43
  go_wp2
  go_ret
  exact ⟨rfl, (Kept.refl _ _).alloc _⟩
set_option maxRecDepth 100000 in
theorem join_nil (p : Option Addr) (w : World) : Calls Try.prog 44 #[.pointer none, .pointer p] w (Gives w (.int .i64 1)) := by
  go_enter Try.func44, Try.ntmps44
  go_wp2
  go_ret
  exact ⟨rfl, Kept.refl _ _⟩
set_option maxRecDepth 100000 in
theorem join_to_nil (b : Nat) (w : World) : Calls Try.prog 44 #[.pointer (some ⟨b, 0, none⟩), .pointer none] w (Gives w (.int .i64 1)) := by
  go_enter Try.func44, Try.ntmps44
  go_wp2
  go_ret
  exact ⟨rfl, Kept.refl _ _⟩
set_option maxRecDepth 100000 in
theorem bytes_nil (w : World) : Calls Try.prog 36 #[.pointer none] w (Gives w (.string ⟨#[]⟩)) := by
  go_enter Try.func36, Try.ntmps36
  go_wp2
  go_ret
  exact ⟨rfl, Kept.refl _ _⟩
set_option maxRecDepth 100000 in
theorem copy_nil (w : World) : Calls Try.prog 46 #[.pointer none] w (Gives w (.pointer none)) := by
  go_enter Try.func46, Try.ntmps46
  go_wp2
  go_ret
  exact ⟨rfl, Kept.refl _ _⟩
end Go.Proofs.Ytaalpijohdlabaa
/-
  TableKnown: its walk.
-/
namespace Go.Proofs.Ytaalpijohdlabaa
open Go Go.RowKit
theorem take_none : takeR [] = .err 20 := rfl
theorem bytes_zero : strOf (putL (tabL [])) = ⟨#[0]⟩ := by
  have e : putL (tabL []) = [0] := by
    show digs (turnN 0) ++ [] = [0]
    rw [show turnN 0 = 0 from rfl, digs_small (by omega)]
    rfl
  rw [e]; rfl
set_option maxRecDepth 100000 in
set_option maxHeartbeats 4000000 in
theorem tknown_walk (w : World) : Calls Try.prog 12 #[] w (Gives w (.bool true)) := by
  go_enter Try.func12, Try.ntmps12
  go_wp2_with fail
  refine (new_any w).mono ?_
  rintro e w1 ⟨b, m, rfl, t1, k1⟩
  have J1 := Lib.hid (And.intro t1 k1)
  clear t1 k1
  go_wp2_with fail
  (with_reducible refine (take_any ⟨#[]⟩ (Nat.zero_le _) w1).mono ?_)
  rintro e w2 hq
  obtain ⟨rfl, _, k2⟩ := hq.err take_none
  have K2 := Lib.hid k2
  clear k2 hq
  go_wp2_with fail
  (with_reducible refine (works16 w2).mono ?_)
  rintro e w3 ⟨rfl, k3⟩
  have K3 := Lib.hid (K2.out.trans k3)
  clear k3
  go_wp2_with fail
  (with_reducible refine (bytes_any _ b m [] w3 (J1.out.1.pure K3.out)).mono ?_)
  rintro e w4 ⟨rfl, k4⟩
  rw [bytes_zero]
  have K4 := Lib.hid (J1.out.2.trans (K3.out.trans k4))
  have T4 := Lib.hid (J1.out.1.pure (K3.out.trans k4))
  have hm := Lib.hid (J1.out.1.hm)
  clear k4
  go_wp2_with fail
  have c := put_any (up w.heap.size) b m [] 8 (1, []) (.slice none 0 0) w4 T4.out K4.out.up (.small (by omega) (by omega)) (.small (by simp) (by simp)) (by simp) (by simp) (Reads.nil _ _)
  (with_reducible refine c.mono ?_)
  clear c
  rintro e w5 hq5
  have k5 := hq5.none K4.out hm.out
  obtain ⟨rfl, t5, _⟩ := hq5
  rw [show putT [] 8 (1, []) = [(8, (1, []))] from by decide] at t5
  rw [show putE [] 8 (1, ([] : List Int)).2.length = 0 from by decide]
  have T5 := Lib.hid (And.intro t5 k5)
  clear t5 k5
  go_wp2_with fail
  have c := put_any (up w.heap.size) b m _ 1 (0, []) (.slice none 0 0) w5 T5.out.1 T5.out.2.up (.small (by omega) (by omega)) (.small (by simp) (by simp)) (by simp) (by simp) (Reads.nil _ _)
  (with_reducible refine c.mono ?_)
  clear c
  rintro e w6 hq6
  have k6 := hq6.none T5.out.2 hm.out
  obtain ⟨rfl, t6, _⟩ := hq6
  rw [show putT [(8, (1, []))] 1 (0, []) = [(8, (1, [])), (1, (0, []))] from by decide] at t6
  rw [show putE [(8, (1, []))] 1 (0, ([] : List Int)).2.length = 0 from by decide]
  have T6 := Lib.hid (And.intro t6 k6)
  clear t6 k6
  go_wp2_with fail
  have kA : Kept none' w6 (w6.alloc (.cells #[.int .i64 0] 3)) := (Kept.refl _ _).alloc _
  have c := tof_any (up w.heap.size) b m _ (.slice (some ⟨w6.heap.size, 0, none⟩) 1 1) [0] _ (T6.out.1.pure kA) (Reads.lit w6 (ints [0]) 3 1 1 rfl (by unfold maxLen; omega))
  (with_reducible refine c.mono ?_)
  clear c
  rintro e w7 ⟨b7, m7, rfl, t7, k7⟩
  rw [show tabOf [(8, (1, [])), (1, (0, []))] [0] = [(8, ((1 : Int), ([] : List Int)))] from by decide] at t7
  have T7 := Lib.hid (And.intro t7 (kA.trans k7))
  clear t7 k7 kA
  go_wp2_with fail
  (with_reducible refine (keys_any _ b7 m7 _ w7 T7.out.1).mono ?_)
  rintro e w8 ⟨v8, rfl, o8, _, k8⟩
  have r8 := Reads.of_owns o8
  rw [show tkeys [(8, ((1 : Int), ([] : List Int)))] = [8] from rfl] at r8
  obtain ⟨pa, ca, rfl⟩ := owns_slice o8
  have T8 := Lib.hid (And.intro r8 (T6.out.2.trans (T7.out.2.trans k8)))
  clear r8 o8 k8
  go_wp2_with fail
  have kB : Kept none' w8 (w8.alloc (.cells #[.int .i64 8] 2)) := (Kept.refl _ _).alloc _
  have c := equal64 _ _ [8] [8] _ (T8.out.1.pure kB) (Reads.lit w8 (ints [8]) 2 1 1 rfl (by unfold maxLen; omega))
  (with_reducible refine c.mono ?_)
  clear c
  rintro e w9 ⟨rfl, k9⟩
  rw [show eqL [8] [8] = true from by decide]
  have K9 := Lib.hid (T8.out.2.trans (kB.trans k9))
  clear k9 kB
  go_wp2_with fail
  (with_reducible refine (get_nil 0 w9).mono ?_)
  rintro e w10 ⟨rfl, k10⟩
  have K10 := Lib.hid (K9.out.trans k10)
  clear k10
  go_wp2_with fail
  obtain ⟨x10, hx10⟩ : ∃ x10, w10.alloc (.cells #[.int .i64 0, .slice none 0 0] 29) = x10 := ⟨_, rfl⟩
  have L10 := Lib.hid (show Kept none' w x10 from by rw [← hx10]; exact K10.out.alloc _)
  rw [hx10]
  clear hx10
  (with_reducible refine (put_nil 0 0 none 0 0 x10).mono ?_)
  rintro e w11 ⟨rfl, k11⟩
  have K11 := Lib.hid (L10.out.trans k11)
  clear k11
  go_wp2_with fail
  (with_reducible refine (drop_nil 0 w11).mono ?_)
  rintro e w12 ⟨rfl, k12⟩
  have K12 := Lib.hid (K11.out.trans k12)
  clear k12
  go_wp2_with fail
  (with_reducible refine (keys_nil w12).mono ?_)
  rintro e w13 ⟨rfl, k13⟩
  have K13 := Lib.hid (K12.out.trans k13)
  clear k13
  go_wp2_with fail
  (with_reducible refine (of_nil _ _ _ _).mono ?_)
  rintro e w14 ⟨rfl, k14⟩
  have K14 := Lib.hid ((K13.out.alloc _).trans k14)
  clear k14
  go_wp2_with fail
  (with_reducible refine (join_nil _ w14).mono ?_)
  rintro e w15 ⟨rfl, k15⟩
  have K15 := Lib.hid (K14.out.trans k15)
  clear k15
  go_wp2_with fail
  (with_reducible refine (join_to_nil b w15).mono ?_)
  rintro e w16 ⟨rfl, k16⟩
  have K16 := Lib.hid (K15.out.trans k16)
  clear k16
  go_wp2_with fail
  (with_reducible refine (bytes_nil w16).mono ?_)
  rintro e w17 ⟨rfl, k17⟩
  have K17 := Lib.hid (K16.out.trans k17)
  clear k17
  go_wp2_with fail
  (with_reducible refine (copy_nil w17).mono ?_)
  rintro e w18 ⟨rfl, k18⟩
  have K18 := Lib.hid (K17.out.trans k18)
  clear k18
  go_wp2_with fail
  go_ret
  exact ⟨rfl, K18.out⟩
end Go.Proofs.Ytaalpijohdlabaa
