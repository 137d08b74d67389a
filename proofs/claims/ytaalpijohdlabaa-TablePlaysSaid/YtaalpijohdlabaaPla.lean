/-
  made(40): the table of the calls that came in. place(88), Place(51).
-/
import Derived.Test.YtaalpijohdlabaaRefD
namespace Go.Proofs.Ytaalpijohdlabaa
open Go Go.RowKit
def Made16Q (w : World) (ops : List Op) (e : Ending) (w' : World) : Prop :=
  ∃ b m, e = .returned (.pointer (some ⟨b, 0, none⟩)) ∧ TabAt w' (up w.heap.size) b m (madeT ops) ∧ Kept none' w w'
set_option maxRecDepth 100000 in
set_option maxHeartbeats 1000000 in
theorem made16_any (v : Value) (ops : List Op) (w : World) (h : OpsAt w v ops) (hl : ∀ o ∈ ops, o.l.length ≤ 17592186044416) : Calls Try.prog 40 #[v] w (Made16Q w ops) := by
  obtain ⟨a, cap, rfl, h1, h2, hok, h3⟩ := h
  unfold maxLen at h2
  have H3 := Lib.hid h3
  have HOK := Lib.hid hok
  have HLL := Lib.hid hl
  clear hok h3 hl
  go_enter Try.func40, Try.ntmps40
  go_wp2_with fail
  refine (new_any _).mono ?_
  rintro e w2 ⟨b, m, rfl, ht2, k2⟩
  have II := Lib.hid (show TabAt w2 (up w.heap.size) b m (madeT (ops.take 0)) ∧ Kept none' w w2 from ⟨ht2, k2⟩)
  clear ht2 k2
  go_wp2_with fail
  go_loopw [9] (fun i wr => ∃ k, k ≤ ops.length ∧ i = .int .i64 ((k : Nat) : Int) ∧ TabAt wr (up w.heap.size) b m (madeT (ops.take k)) ∧ Kept none' w wr) (fun i _ => ops.length - (intOf i).toNat)
  case atStart => exact ⟨0, by omega, rfl, II.out⟩
  case round =>
    obtain ⟨k, hk, rfl, hi⟩ := hrel
    have HI := Lib.hid hi
    clear hi
    by_cases hlt : k < ops.length
    · obtain ⟨o, ho⟩ : ∃ o, ops[k]? = some o := ⟨_, List.getElem?_eq_getElem hlt⟩
      obtain ⟨bb, off, rfl, hc⟩ := H3.out.resolve_left (fun h => by rw [h] at hlt; simp at hlt)
      obtain ⟨q0, q1, q2, L, q3, hL⟩ := (hc k o ho).pure HI.out.2
      obtain ⟨La, Lc, rfl, _, _, _⟩ := hL.at
      have HL := Lib.hid hL
      have hoo := HOK.out o (List.mem_of_getElem? ho)
      have HO := Lib.hid ho
      have HOO := Lib.hid hoo
      have HOL := Lib.hid (HLL.out o (List.mem_of_getElem? ho))
      clear hc ho hL hoo H3
      go_wp2_with fail
      obtain ⟨W3, hW3⟩ : ∃ W3, wr.alloc (.cells #[.int .i64 o.kind, .int .i64 o.key, .int .i64 o.acc, .slice La o.l.length Lc] 37) = W3 := ⟨_, rfl⟩
      have kA : Kept none' wr W3 := by rw [← hW3]; exact (Kept.refl _ _).alloc _
      have J := Lib.hid (And.intro (HI.out.1.pure kA) (HI.out.2.trans kA))
      have HL3 := Lib.hid (HL.out.pure kA)
      rw [hW3]
      clear hW3 kA HL
      refine (put_any (up w.heap.size) b m _ o.key (o.acc, o.l) (.slice La o.l.length Lc) W3 J.out.1 J.out.2.up HOO.out.key HOO.out.acc HOO.out.l HOL.out HL3.out).mono ?_
      rintro e w4 ⟨rfl, t4, k4⟩
      have F := Lib.hid (show TabAt w4 (up w.heap.size) b m (madeT (ops.take (k + 1))) ∧ Kept none' w w4 from ⟨by rw [madeT_take HO.out]; exact t4, J.out.2.new k4 (fun i hi e => by have h := J.out.1.hm; unfold up at h; unfold one at e; omega)⟩)
      clear t4 k4
      go_wp2_with fail
      go_roundw
      case rel => exact ⟨k + 1, by omega, by go_num, F.out⟩
      case measure => simp [intOf]; omega
    · have hEnd : madeT (ops.take k) = madeT ops := by rw [List.take_of_length_le (by omega)]
      have HE := Lib.hid hEnd
      have e1 : k = ops.length := by omega
      subst e1
      go_wp2_with fail
      go_ret
      exact ⟨b, m, rfl, by rw [← HE.out]; exact HI.out.1, HI.out.2⟩
end Go.Proofs.Ytaalpijohdlabaa
/-
  place(88), Owns(50), Place(51).
-/
namespace Go.Proofs.Ytaalpijohdlabaa
open Go Go.RowKit
def placeN (i n : Nat) : Nat := i * n / 8
set_option maxRecDepth 100000 in
theorem place_any (i n : Nat) (hi : i ≤ 8) (hn : n ≤ 4) (w : World) : Calls Try.prog 88 #[.int .i64 (i : Int), .int .i64 (n : Int)] w fun e w' => e = .returned (.int .i64 ((placeN i n : Nat) : Int)) ∧ w = w' := by
  have h1 : i * n ≤ 32 := Nat.le_trans (Nat.mul_le_mul hi hn) (by omega)
  have h2 : ((i : Int) * (n : Int)) = ((i * n : Nat) : Int) := by simp
  have h3 : (((i * n : Nat) : Int)).tdiv 8 = ((placeN i n : Nat) : Int) := by unfold placeN; rw [Int.tdiv_eq_ediv_of_nonneg (by omega)]; omega
  have h4 : placeN i n ≤ 4 := by unfold placeN; omega
  obtain ⟨x, hx⟩ : ∃ x, i * n = x := ⟨_, rfl⟩
  rw [hx] at h1 h2 h3
  go_enter Try.func88, Try.ntmps88
  go_wp2
  go_ret
  exact ⟨rfl, rfl⟩
def ownsL (k n j : Nat) : List Int := ((List.range j).filter (fun i => placeN i n == k)).map fun (i : Nat) => (i : Int)
theorem ownsL_succ (k n j : Nat) : ownsL k n (j + 1) = ownsL k n j ++ if placeN j n = k then [(j : Int)] else [] := by
  unfold ownsL
  rw [List.range_succ, List.filter_append, List.map_append]
  by_cases h : placeN j n = k
  · simp [h]
  · simp [h]
theorem ownsL_len (k n j : Nat) : (ownsL k n j).length ≤ j := by
  unfold ownsL
  rw [List.length_map]
  exact Nat.le_trans (List.length_filter_le _ _) (by rw [List.length_range]; omega)
theorem info3_parts : ∃ i, Try.prog.info? 3 = some i ∧ i.zero = some (.int .i64 0) ∧ i.size = 1 ∧ i.bytes = 8 := by
  have h : (Try.prog.info? 3).map (fun i => (i.zero, i.size, i.bytes)) = some (some (.int .i64 0), 1, 8) := by kernel_rfl
  obtain ⟨i, h1, h2⟩ := Option.map_eq_some_iff.1 h
  injection h2 with h2 h3
  injection h3 with h3 h4
  exact ⟨i, h1, h2, h3, h4⟩
theorem und49 : Try.prog.underlying 49 = some (.slice 3) := by kernel_rfl
def OwnsQ (w : World) (l : List Int) (e : Ending) (w' : World) : Prop := ∃ v m, e = .returned v ∧ w'.ownsRow w.heap.size 3 1 v m (ints l) ∧ Kept none' w w'
set_option maxRecDepth 100000 in
set_option maxHeartbeats 1000000 in
theorem owns_any (k n : Nat) (hn : 1 ≤ n ∧ n ≤ 4) (w : World) : Calls Try.prog 50 #[.int .i64 (k : Int), .int .i64 (n : Int)] w (OwnsQ w (ownsL k n 8)) := by
  have hn1 : ¬ ((n : Int) < 1) := by omega
  have hn2 : ¬ ((4 : Int) < (n : Int)) := by omega
  have HP := Lib.hid (show ∀ (i : Nat), i ≤ 8 → ∀ w, _ from fun i hi w => place_any i n hi hn.2 w)
  go_enter Try.func50, Try.ntmps50
  go_wp2_with fail
  go_loopg [5, 13] 8 (fun g vl vi wr => ∃ (j m : Nat), j ≤ 8 ∧ vi = .int .i64 (j : Int) ∧ 8 - j ≤ g ∧ wr.ownsRow w.heap.size 3 1 vl m (ints (ownsL k n j)) ∧ Kept none' w wr)
  case atStart => exact ⟨0, 0, by omega, rfl, by omega, World.ownsRow_nil _ _ _ _, Kept.refl _ _⟩
  case round =>
    obtain ⟨j, m, hj, rfl, hg, hi⟩ := hrel
    have HI := Lib.hid hi
    obtain ⟨la, lc, rfl⟩ := owns_slice hi.1
    clear hi
    by_cases hlt : j < 8
    · have hlt' : (j : Int) < 8 := by omega
      go_wp2_with fail
      (with_reducible refine (HP.out j hj _).mono ?_)
      rintro e w1 ⟨rfl, rfl⟩
      have G := Lib.hid hg
      clear hg
      by_cases hpl : placeN j n = k
      · have hd : ((placeN j n : Nat) : Int) = (k : Int) := by omega
        have hm8 : m ≤ 8 := by
          have h1 := HI.out.1.1
          have h2 := ownsL_len k n j
          simp [ints] at h1
          omega
        have kA : Kept none' wr (wr.alloc (.cells #[.int .i64 (j : Int)] 3)) := (Kept.refl _ _).alloc _
        obtain ⟨i3, hi3, hz3, hs3, hb3⟩ := info3_parts
        obtain ⟨v7, n7, w7, b1, b2, b3, b4, b5⟩ := run_append_reads (P := Try.prog) w.heap.size 49 49 3 i3 (.int .i64 0) 1 8 und49 hi3 hz3 hs3 hb3 rfl (by omega) (kA.owns HI.out.1 (fun _ _ h => h)) (Reads.lit wr [.int .i64 (j : Int)] 3 1 1 rfl (by unfold maxLen; omega)) (ints_one [(j : Int)]) (by simp; omega) (by unfold maxLen; simp; omega) (Nat.le_trans HI.out.2.size kA.size)
        have hnew : w7.ownsRow w.heap.size 3 1 v7 n7 (ints (ownsL k n (j + 1))) := by
          rw [ownsL_succ, if_pos hpl]
          unfold ints at b2 ⊢
          rw [List.map_append]
          exact b2
        have k7 : Kept none' w w7 := (HI.out.2.trans kA).new (Kept.grown (S := fun j => w.heap.size ≤ j) b4 (fun j hj _ => (owns_own HI.out.1 hj).1)) (fun j hj hs => by omega)
        have F := Lib.hid (And.intro hnew k7)
        have B1 := Lib.hid b1
        clear b1 b2 b3 b4 b5 hnew k7 hi3 hz3 hs3 hb3 kA
        go_wp2_with (at_builtin; refine wpList_append_run rfl (.tmp 21) (.tmp 23) 49 rfl (.slice la m lc) (.slice (some ⟨wr.heap.size, 0, none⟩) 1 1) _ rfl rfl B1.out ?_)
        go_roundg (8 - (j + 1))
        case rel => exact ⟨j + 1, n7, by omega, by go_num, Nat.le_refl _, F.out⟩
        case measure => have := G.out; omega
      · have hd : ¬ ((placeN j n : Nat) : Int) = (k : Int) := by omega
        have F := Lib.hid (show wr.ownsRow w.heap.size 3 1 (.slice la m lc) m (ints (ownsL k n (j + 1))) from by rw [ownsL_succ, if_neg hpl, List.append_nil]; exact HI.out.1)
        go_wp2_with fail
        go_roundg (8 - (j + 1))
        case rel => exact ⟨j + 1, m, by omega, by go_num, Nat.le_refl _, F.out, HI.out.2⟩
        case measure => have := G.out; omega
    · have e1 : j = 8 := by omega
      subst e1
      go_wp2_with fail
      go_ret
      exact ⟨_, _, rfl, HI.out⟩
set_option maxRecDepth 100000 in
theorem placeOf_any (k : Int) (n : Nat) (hn : 1 ≤ n ∧ n ≤ 4) (w : World) : Calls Try.prog 51 #[.int .i64 k, .int .i64 (n : Int)] w fun e w' => e = .returned (.int .i64 ((placeN (grp k).toNat n : Nat) : Int)) ∧ w = w' := by
  have hn1 : ¬ ((n : Int) < 1) := by omega
  have hn2 : ¬ ((4 : Int) < (n : Int)) := by omega
  have h1 := grp_lo k
  have h2 := grp_hi k
  obtain ⟨g, hg⟩ : ∃ g : Nat, grp k = (g : Int) := ⟨(grp k).toNat, by omega⟩
  have hc := of_any k w
  rw [hg] at hc ⊢
  go_enter Try.func51, Try.ntmps51
  go_wp2_with fail
  refine hc.mono ?_
  rintro e w1 ⟨rfl, rfl⟩
  go_wp2_with fail
  refine (place_any g n (by omega) hn.2 w).mono ?_
  rintro e w1 ⟨rfl, rfl⟩
  go_wp2_with fail
  go_ret
  exact ⟨rfl, rfl⟩
end Go.Proofs.Ytaalpijohdlabaa
