/-
  made(40): the table of the calls that came in. place(88), Place(51).
-/
import Derived.Test.YtaalpijohdlabaaRefD
namespace Go.Proofs.Ytaalpijohdlabaa
open Go Go.RowKit
def Made16Q (w : World) (ops : List Op) (e : Ending) (w' : World) : Prop :=
  ∃ b m, e = .returned (.pointer (some ⟨b, 0, none⟩)) ∧ TabAt w' (up w.heap.size) b m (madeT ops) ∧ Kept none' w w'
set_option maxRecDepth 100000 in
set_option maxHeartbeats 1000000 in
theorem made16_any (v : Value) (ops : List Op) (w : World) (h : OpsAt w v ops) (hl : ∀ o ∈ ops, o.l.length ≤ 17592186044416) : Calls Try.prog 40 #[v] w (Made16Q w ops) := by
  obtain ⟨a, cap, rfl, h1, h2, hok, h3⟩ := h
  unfold maxLen at h2
  have H3 := Lib.hid h3
  have HOK := Lib.hid hok
  have HLL := Lib.hid hl
  clear hok h3 hl
  go_enter Try.func40, Try.ntmps40
  go_wp2_with fail
  refine (new_any _).mono ?_
  rintro e w2 ⟨b, m, rfl, ht2, k2⟩
  have II := Lib.hid (show TabAt w2 (up w.heap.size) b m (madeT (ops.take 0)) ∧ Kept none' w w2 from ⟨ht2, k2⟩)
  clear ht2 k2
  go_wp2_with fail
  go_loopw [9] (fun i wr => ∃ k, k ≤ ops.length ∧ i = .int .i64 ((k : Nat) : Int) ∧ TabAt wr (up w.heap.size) b m (madeT (ops.take k)) ∧ Kept none' w wr) (fun i _ => ops.length - (intOf i).toNat)
  case atStart => exact ⟨0, by omega, rfl, II.out⟩
  case round =>
    obtain ⟨k, hk, rfl, hi⟩ := hrel
    have HI := Lib.hid hi
    clear hi
    by_cases hlt : k < ops.length
    · obtain ⟨o, ho⟩ : ∃ o, ops[k]? = some o := ⟨_, List.getElem?_eq_getElem hlt⟩
      obtain ⟨bb, off, rfl, hc⟩ := H3.out.resolve_left (fun h => by rw [h] at hlt; simp at hlt)
      obtain ⟨q0, q1, q2, L, q3, hL⟩ := (hc k o ho).pure HI.out.2
      obtain ⟨La, Lc, rfl, _, _, _⟩ := hL.at
      have HL := Lib.hid hL
      have hoo := HOK.out o (List.mem_of_getElem? ho)
      have HO := Lib.hid ho
      have HOO := Lib.hid hoo
      have HOL := Lib.hid (HLL.out o (List.mem_of_getElem? ho))
      clear hc ho hL hoo H3
      go_wp2_with fail
      obtain ⟨W3, hW3⟩ : ∃ W3, wr.alloc (.cells #[.int .i64 o.kind, .int .i64 o.key, .int .i64 o.acc, .slice La o.l.length Lc] 37) = W3 := ⟨_, rfl⟩
      have kA : Kept none' wr W3 := by rw [← hW3]; exact (Kept.refl _ _).alloc _
      have J := Lib.hid (And.intro (HI.out.1.pure kA) (HI.out.2.trans kA))
      have HL3 := Lib.hid (HL.out.pure kA)
      rw [hW3]
      clear hW3 kA HL
      refine (put_any (up w.heap.size) b m _ o.key (o.acc, o.l) (.slice La o.l.length Lc) W3 J.out.1 J.out.2.up HOO.out.key HOO.out.acc HOO.out.l HOL.out HL3.out).mono ?_
      rintro e w4 ⟨rfl, t4, k4⟩
      have F := Lib.hid (show TabAt w4 (up w.heap.size) b m (madeT (ops.take (k + 1))) ∧ Kept none' w w4 from ⟨by rw [madeT_take HO.out]; exact t4, J.out.2.new k4 (fun i hi e => by have h := J.out.1.hm; unfold up at h; unfold one at e; omega)⟩)
      clear t4 k4
      go_wp2_with fail
      go_roundw
      case rel => exact ⟨k + 1, by omega, by go_num, F.out⟩
      case measure => simp [intOf]; omega
    · have hEnd : madeT (ops.take k) = madeT ops := by rw [List.take_of_length_le (by omega)]
      have HE := Lib.hid hEnd
      have e1 : k = ops.length := by omega
      subst e1
      go_wp2_with fail
      go_ret
      exact ⟨b, m, rfl, by rw [← HE.out]; exact HI.out.1, HI.out.2⟩
end Go.Proofs.Ytaalpijohdlabaa
