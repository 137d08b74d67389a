/-
  TableTakes: its walk.
-/
import Derived.Test.YtaalpijohdlabaaRtm
import Derived.Test.YtaalpijohdlabaaRby
import Derived.Test.YtaalpijohdlabaaBak
namespace Go.Proofs.Ytaalpijohdlabaa
open Go Go.RowKit
theorem RTakeQ.good {w w' : World} {l : List UInt8} {T : Tab} {r : List UInt8} {e : Ending} (h : RTakeQ w l e w') (ht : takeR l = .ok T r) : ∃ D, e = .returned (.tuple #[.pointer (some ⟨D, 0, none⟩), .int .i64 0]) ∧ RTabAt w' D T ∧ Kept none' w w' := by
  unfold RTakeQ at h; rw [ht] at h; exact h
theorem RTakeQ.bad {w w' : World} {l : List UInt8} {f : Int} {e : Ending} (h : RTakeQ w l e w') (ht : takeR l = .err f) : e = .returned (.tuple #[.pointer none, .int .i64 f]) ∧ f ≠ 0 ∧ Kept none' w w' := by
  unfold RTakeQ at h; rw [ht] at h; exact h
set_option maxRecDepth 100000 in
set_option maxHeartbeats 4000000 in
theorem takes_walk (s : ByteArray) (w : World) (hs : s.size ≤ maxLen) : Calls Try.prog 8 #[.string s] w (Gives w (.bool true)) := by
  have HS := Lib.hid hs
  unfold maxLen at hs
  by_cases h1 : 20000 < s.size
  · have h2 : (20000 : Int) < (s.size : Int) := by omega
    go_enter Try.func8, Try.ntmps8
    go_wp2_with fail
    (with_reducible refine (works16 w).mono ?_)
    rintro e w2 ⟨rfl, k2⟩
    go_wp2_with fail
    go_ret
    exact ⟨rfl, k2⟩
  · have h2 : ¬ (20000 : Int) < (s.size : Int) := by omega
    go_enter Try.func8, Try.ntmps8
    go_wp2_with fail
    (with_reducible refine (take_any s HS.out w).mono ?_)
    rintro e w1 hq1
    have Q1 := Lib.hid hq1
    clear hq1
    cases hR : takeR s.data.toList with
    | err f =>
      obtain ⟨rfl, hf, k1⟩ := Q1.out.err hR
      have K1 := Lib.hid k1
      have HRR := Lib.hid hR
      have hff : (f != f) = false := by simp
      clear k1 hR hf
      go_wp2_with fail
      (with_reducible refine (rtakeT_any s HS.out w1).mono ?_)
      rintro e w2 hq2
      obtain ⟨rfl, _, k2⟩ := hq2.bad HRR.out
      have K2 := Lib.hid (K1.out.trans k2)
      clear k2 hq2
      go_wp2_with fail
      (with_reducible refine (works16 w2).mono ?_)
      rintro e w3 ⟨rfl, k3⟩
      go_wp2_with fail
      go_ret
      exact ⟨rfl, K2.out.trans k3⟩
    | ok T r =>
      obtain ⟨b, m, rfl, t1, k1⟩ := Q1.out.ok hR
      have K1 := Lib.hid (And.intro t1 k1)
      have HRR := Lib.hid hR
      clear k1 hR t1
      go_wp2_with fail
      (with_reducible refine (rtakeT_any s HS.out w1).mono ?_)
      rintro e w2 hq2
      obtain ⟨D, rfl, t2, k2⟩ := hq2.good HRR.out
      have K2 := Lib.hid (And.intro t2 (And.intro (K1.out.1.pure k2) (K1.out.2.trans k2)))
      clear k2 hq2 t2
      go_wp2_with fail
      (with_reducible refine (bytes_any _ b m T w2 K2.out.2.1).mono ?_)
      rintro e w3 ⟨rfl, k3⟩
      have K3 := Lib.hid k3
      clear k3
      go_wp2_with fail
      (with_reducible refine (rbytes_any D T w3 (K2.out.1.pure K3.out)).mono ?_)
      rintro e w4 ⟨rfl, k4⟩
      have K4 := Lib.hid (K3.out.trans k4)
      clear k4
      go_wp2_with fail
      (with_reducible refine (keys_any _ b m T w4 (K2.out.2.1.pure K4.out)).mono ?_)
      rintro e w5 ⟨v5, rfl, o5, _, k5⟩
      obtain ⟨a5, c5, rfl⟩ := owns_slice o5
      have K5 := Lib.hid (And.intro (Reads.of_owns o5) (K4.out.trans k5))
      clear k5 o5
      go_wp2_with fail
      (with_reducible refine (rkeys_any D T w5 (K2.out.1.pure K5.out.2)).mono ?_)
      rintro e w6 ⟨v6, n6, rfl, o6, k6⟩
      obtain ⟨a6, c6, rfl⟩ := owns_slice o6
      have K6 := Lib.hid (And.intro (Reads.of_owns o6) (And.intro (K5.out.1.pure k6) (K5.out.2.trans k6)))
      clear k6 o6
      go_wp2_with fail
      (with_reducible refine (equal64 _ _ (tkeys T) (tkeys T) w6 K6.out.2.1 K6.out.1).mono ?_)
      rintro e w7 ⟨rfl, k7⟩
      rw [show eqL (tkeys T) (tkeys T) = true from decide_eq_true rfl]
      have K7 := Lib.hid (K6.out.2.2.trans k7)
      clear k7
      go_wp2_with fail
      (with_reducible refine (works16 w7).mono ?_)
      rintro e w8 ⟨rfl, k8⟩
      go_wp2_with fail
      go_ret
      exact ⟨rfl, K2.out.2.2.trans (K7.out.trans k8)⟩
end Go.Proofs.Ytaalpijohdlabaa
