/-
  TableBack: its walk.
-/
import Derived.Test.YtaalpijohdlabaaTkm
import Derived.Test.YtaalpijohdlabaaPla
namespace Go.Proofs.Ytaalpijohdlabaa
open Go Go.RowKit
theorem strOf_list (l : List UInt8) : (strOf l).data.toList = l := rfl
theorem strOf_back (s : ByteArray) : strOf s.data.toList = s := by
  cases s; rfl
theorem tab_size {T : Tab} (h : TOk T) : (strOf (putL (tabL T))).size ≤ maxLen := by
  rw [strOf_size]
  have hr := rows_ok h.key h.cell
  have hl := h.len
  have h1 := putL_len (l := tabL T) (by
    intro n hn
    unfold tabL at hn
    rcases List.mem_cons.1 hn with rfl | hn
    · exact .small (by omega) (by omega)
    · exact hr.1 n hn)
  have h2 := hr.2
  have h3 : (tabL T).length = (T.flatMap rowL).length + 1 := by unfold tabL; rw [List.length_cons]
  unfold maxLen
  omega
theorem TakeQ.ok {w w' : World} {l : List UInt8} {T : Tab} {r : List UInt8} {e : Ending} (h : TakeQ w l e w') (ht : takeR l = .ok T r) : ∃ b m, e = .returned (.tuple #[.pointer (some ⟨b, 0, none⟩), .int .i64 0]) ∧ TabAt w' (up w.heap.size) b m T ∧ Kept none' w w' := by
  unfold TakeQ at h; rw [ht] at h; exact h
theorem TakeQ.err {w w' : World} {l : List UInt8} {f : Int} {e : Ending} (h : TakeQ w l e w') (ht : takeR l = .err f) : e = .returned (.tuple #[.pointer none, .int .i64 f]) ∧ f ≠ 0 ∧ Kept none' w w' := by
  unfold TakeQ at h; rw [ht] at h; exact h
set_option maxRecDepth 100000 in
set_option maxHeartbeats 4000000 in
theorem back_walk (v : Value) (ops : List Op) (s : ByteArray) (w : World) (h : OpsAt w v ops) (hs : s.size ≤ maxLen) : Calls Try.prog 9 #[v, .string s] w (Gives w (.bool true)) := by
  have hH := heavy_any v ops w h
  have HO := Lib.hid h
  obtain ⟨oa, oc, rfl, _⟩ := h
  obtain ⟨b, hb⟩ : ∃ b, heavyB ops = b := ⟨_, rfl⟩
  rw [hb] at hH
  have HB := Lib.hid hb
  have HHH := Lib.hid hH
  have HS := Lib.hid hs
  unfold maxLen at hs
  clear hb hH
  have ways : b = true ∨ (b = false ∧ 20000 < s.size) ∨ (b = false ∧ ¬ 20000 < s.size) := by
    cases b with
    | true => exact .inl rfl
    | false => by_cases h : 20000 < s.size; exact .inr (.inl ⟨rfl, h⟩); exact .inr (.inr ⟨rfl, h⟩)
  rcases ways with rfl | ⟨rfl, h1⟩ | ⟨rfl, h1⟩
  · go_enter Try.func9, Try.ntmps9
    go_wp2_with fail
    (with_reducible refine HHH.out.mono ?_)
    rintro e w1 ⟨rfl, k1⟩
    go_wp2_with fail
    (with_reducible refine (works16 w1).mono ?_)
    rintro e w2 ⟨rfl, k2⟩
    go_wp2_with fail
    go_ret
    exact ⟨rfl, k1.trans k2⟩
  · have h2 : (20000 : Int) < (s.size : Int) := by omega
    go_enter Try.func9, Try.ntmps9
    go_wp2_with fail
    (with_reducible refine HHH.out.mono ?_)
    rintro e w1 ⟨rfl, k1⟩
    go_wp2_with fail
    (with_reducible refine (works16 w1).mono ?_)
    rintro e w2 ⟨rfl, k2⟩
    go_wp2_with fail
    go_ret
    exact ⟨rfl, k1.trans k2⟩
  · have h2 : ¬ (20000 : Int) < (s.size : Int) := by omega
    have hll := (heavyB_false HB.out).2
    have HLL := Lib.hid (show ∀ o ∈ ops, o.l.length ≤ 17592186044416 from fun o h => by have := hll o h; omega)
    clear hll
    go_enter Try.func9, Try.ntmps9
    go_wp2_with fail
    (with_reducible refine HHH.out.mono ?_)
    rintro e w1 ⟨rfl, k1⟩
    go_wp2_with fail
    (with_reducible refine (made16_any (.slice oa ops.length oc) ops w1 (HO.out.pure k1) HLL.out).mono ?_)
    rintro e w2 ⟨bt, mt, rfl, t2, k2⟩
    obtain ⟨T, hT⟩ : ∃ T, madeT ops = T := ⟨_, rfl⟩
    rw [hT] at t2
    have J2 := Lib.hid (And.intro t2 (k1.trans k2))
    clear hT t2 k1 k2 HHH
    go_wp2_with fail
    (with_reducible refine (bytes_any _ bt mt T w2 J2.out.1).mono ?_)
    rintro e w3 ⟨rfl, k3⟩
    have K3 := Lib.hid k3
    clear k3
    go_wp2_with fail
    (with_reducible refine (take_any (strOf (putL (tabL T))) (tab_size J2.out.1.ok) w3).mono ?_)
    rintro e w4 hq
    obtain ⟨bu, mu, rfl, t4, k4⟩ := hq.ok (takeR_put J2.out.1.ok)
    have J4 := Lib.hid (And.intro t4 (K3.out.trans k4))
    clear t4 k4 hq
    go_wp2_with fail
    (with_reducible refine (bytes_any _ bu mu T w4 J4.out.1).mono ?_)
    rintro e w5 ⟨rfl, k5⟩
    have K5 := Lib.hid (J4.out.2.trans k5)
    clear k5
    go_wp2_with fail
    (with_reducible refine (bytes_any _ bt mt T w5 (J2.out.1.pure K5.out)).mono ?_)
    rintro e w6 ⟨rfl, k6⟩
    have K6 := Lib.hid (J2.out.2.trans (K5.out.trans k6))
    clear k6
    go_wp2_with fail
    (with_reducible refine (take_any s HS.out w6).mono ?_)
    rintro e w7 hq
    cases hR : takeR s.data.toList with
    | err f =>
      obtain ⟨rfl, hf, k7⟩ := hq.err hR
      have hf1 : (f != 0) = true := bne_iff_ne.2 hf
      have hf2 : (f == 0) = false := beq_eq_false_iff_ne.2 hf
      have K7 := Lib.hid (K6.out.trans k7)
      clear hq hR hf k7
      go_wp2_with fail
      (with_reducible refine (works16 w7).mono ?_)
      rintro e w8 ⟨rfl, k8⟩
      go_wp2_with fail
      go_ret
      exact ⟨rfl, K7.out.trans k8⟩
    | ok T' r =>
      obtain ⟨bv, mv, rfl, t7, k7⟩ := hq.ok hR
      have J7 := Lib.hid (And.intro t7 (K6.out.trans k7))
      have HE := Lib.hid (show strOf (putL (tabL T')) = s by rw [← (takeR_ok hR).2]; exact strOf_back s)
      clear hq hR t7 k7
      go_wp2_with fail
      (with_reducible refine (bytes_any _ bv mv T' w7 J7.out.1).mono ?_)
      rintro e w8 ⟨rfl, k8⟩
      rw [HE.out]
      have K8 := Lib.hid (J7.out.2.trans k8)
      clear k8
      go_wp2_with fail
      (with_reducible refine (works16 w8).mono ?_)
      rintro e w9 ⟨rfl, k9⟩
      go_wp2_with fail
      go_ret
      exact ⟨rfl, K8.out.trans k9⟩
end Go.Proofs.Ytaalpijohdlabaa
