/-
  Small functions: the group of a key, cmp, slices.Clone of numbers, table.own.
-/
import Derived.Test.YtmcoaebldobapaaGreatDoorProg
import Derived.Test.YtmcoaebldobapaaGreatDoorD02
import Derived.Test.YtmcoaebldobapaaGreatDoorD03
import Derived.Test.YtmcoaebldobapaaGreatDoorD04
set_option linter.unusedVariables false
set_option linter.unusedSimpArgs false
namespace Go.Proofs.YtmcoaebldobapaaGreatDoor
open Go Go.RowKit
theorem ret_int {k : IntKind} {a b : Int} (h : a = b) : Ending.returned (.int k a) = .returned (.int k b) := by rw [h]

theorem tmod8 (k : Int) : k.tmod 8 = if 0 ≤ k then k % 8 else -((-k) % 8) := tmod_eq_if k 8
set_option maxHeartbeats 400000 in
theorem of_any (k : Int) (w : World) :
    Calls Tryz.prog 307 #[.int .i64 k] w fun e w' => e = .returned (.int .i64 (grp k)) ∧ w = w' := by
  have h1 := tmod8 k
  have H := Lib.hid h1
  clear h1
  go_enter Tryz.func307, Tryz.ntmps307
  go_wp2
  · rename_i hlt
    go_ret
    refine ⟨ret_int ?_, rfl⟩
    have e := H.out
    unfold grp
    show wrap64 (k.tmod 8 + 8) = k % 8
    rw [IntWalk.wrap64_in _ ⟨by split at e <;> omega, by split at e <;> omega⟩]
    split at e <;> omega
  · rename_i hge
    go_ret
    refine ⟨ret_int ?_, rfl⟩
    have e := H.out
    unfold grp
    show k.tmod 8 = k % 8
    split at e <;> omega

/-- In memory of its own, the cells cs. -/
def OwnsNew (w : World) (E k : Nat) (cs : List Value) (e : Ending) (w' : World) : Prop :=
  ∃ v' n', e = .returned v' ∧ w'.ownsRow w.heap.size E k v' n' cs ∧ n' * k = cs.length ∧ Kept none' w w'

theorem Tryz.info2 : (Tryz.prog.info? 2).map (fun i => (i.zero, i.size, i.bytes)) = some (some (.int .i64 0), 1, 8) := by kernel_rfl
set_option maxRecDepth 100000 in
set_option maxHeartbeats 400000 in
theorem clone_int (v : Value) (cs : List Value) (w : World) (hr : Reads w 1 v cs) (h1 : ∀ x ∈ cs, x.oneCell' = true) (hlen : cs.length ≤ 17592186044416) :
    Calls Tryz.prog 415 #[v] w (OwnsNew w 2 1 cs) := by
  obtain ⟨i0, hi, hz0, hz1, hz2⟩ := info_parts Tryz.info2
  obtain ⟨a, n, cap, rfl, hn, hc, hl, hp, hcell⟩ := hr.slice
  have hnil := fun (w : World) a n c => Lib.run_eql_slice_nil (P := Tryz.prog) w 206 2 a n c 0 0 Tryz.underlying206
  cases a with
  | none =>
    have hcs : cs = [] := by
      rcases hp with rfl | h | ⟨b, off, h⟩
      · exact List.eq_nil_of_length_eq_zero (by simpa using hl)
      · cases h
      · cases h
    subst hcs
    clear hcell hp h1 hr
    go_enter Tryz.func415, Tryz.ntmps415
    go_wp2
    go_ret
    exact ⟨_, 0, rfl, World.ownsRow_nil _ _ _ _, rfl, Kept.refl _ _⟩
  | some ad =>
    have H := Lib.hid hr
    have HH := Lib.hid hl
    have HC := Lib.hid hlen
    clear hcell hp hr hl hlen
    go_enter Tryz.func415, Tryz.ntmps415
    have hnew : (w.alloc (.cells #[] 2)).ownsRow w.heap.size 2 1 (.slice (some ⟨w.heap.size, 0, none⟩) 0 0) 0 [] := World.ownsRow_made w #[] 0 (Nat.le_refl _) (Nat.zero_le _) rfl
    have hrd := H.out.pure ((Kept.refl none' w).alloc (.cells #[] 2))
    have N1 := Lib.hid hnew
    have N2 := Lib.hid hrd
    clear hnew hrd
    have B1 : Hid ((0 * 1 + cs.length) * 8 ≤ 140737488355328) := by have := HC.out; show (0 * 1 + cs.length) * 8 ≤ 140737488355328; omega
    have B2 : Hid (0 * 1 + cs.length ≤ maxLen) := by have := HC.out; show 0 * 1 + cs.length ≤ maxLen; unfold maxLen; omega
    go_wp2_with (at_builtin; (refine wpList_append_reads rfl (.tmp 5) (.tmp 6) 206 rfl w.heap.size 2 i0 (.int .i64 0) 1 8 Tryz.underlying206 hi hz0 hz1 hz2 rfl (by decide) _ 0 [] rfl N1.out _ cs rfl N2.out h1 B1.out B2.out (by simp) ?_); intro v' n' w' g1 g2 g3 g4)
    go_ret
    refine ⟨v', n', rfl, g1, by simpa using g2, ?_⟩
    exact ((Kept.refl none' w).alloc _).new (Kept.grown (S := one w.heap.size) g3 (fun k hk _ => by cases hk; rfl)) (fun k hk e => by unfold one at e; omega)

theorem owns_base {w : World} {base base' e size n : Nat} {v : Value} {xs : List Value} (h : w.ownsRow base e size v n xs) (hb : base' ≤ base) : w.ownsRow base' e size v n xs := by
  refine ⟨h.1, ?_⟩
  rcases h.2 with h2 | ⟨g, cap, cur, h1, h2, h3⟩
  · exact .inl h2
  · exact .inr ⟨g, cap, cur, h1, Nat.le_trans hb h2, h3⟩
theorem owns_slice {w : World} {base e size n : Nat} {v : Value} {xs : List Value} (h : w.ownsRow base e size v n xs) : ∃ a cap, v = .slice a n cap := by
  rcases h.2 with ⟨rfl, rfl⟩ | ⟨g, cap, cur, rfl, _⟩
  · exact ⟨_, _, rfl⟩
  · exact ⟨_, _, rfl⟩
/-- A cell whose row is in memory of its own. -/
def CellNew (w : World) (acc : Int) (cs : List Value) (e : Ending) (w' : World) : Prop :=
  ∃ v' n', e = .returned (.agg #[.int .i64 acc, v']) ∧ w'.ownsRow w.heap.size 2 1 v' n' cs ∧ n' * 1 = cs.length ∧ Kept none' w w'
set_option maxRecDepth 100000 in
set_option maxHeartbeats 400000 in
theorem own_any (acc : Int) (v : Value) (cs : List Value) (w : World) (hr : Reads w 1 v cs) (h1 : ∀ x ∈ cs, x.oneCell' = true) (hlen : cs.length ≤ 17592186044416) :
    Calls Tryz.prog 370 #[.agg #[.int .i64 acc, v]] w (CellNew w acc cs) := by
  obtain ⟨a, n, cap, rfl, hn, hc, hl, hp, hcell⟩ := hr.slice
  clear hcell hp hl
  have H := Lib.hid hr
  clear hr
  go_enter Tryz.func370, Tryz.ntmps370
  go_wp2_with fail
  obtain ⟨W0, hW0⟩ : ∃ W0, ((w.alloc (Obj.cells #[Value.int IntKind.i64 acc, Value.slice a n cap] 369)).alloc (Obj.cells #[Value.int IntKind.i64 0, Value.slice none 0 0] 369)) = W0 := ⟨_, rfl⟩
  have c0 : W0.cell? ⟨w.heap.size, 0, none⟩ = some (.int .i64 acc) := by rw [← hW0]; simp
  have c1 : W0.cell? ⟨w.heap.size, 1, none⟩ = some (.slice a n cap) := by rw [← hW0]; simp
  have c2 : W0.cell? ⟨w.heap.size + 1, 0, none⟩ = some (.int .i64 0) := by rw [← hW0]; simp
  have c3 : W0.cell? ⟨w.heap.size + 1, 1, none⟩ = some (.slice none 0 0) := by rw [← hW0]; simp
  have f2 : W0.frozen? ⟨w.heap.size + 1, 0, none⟩ = false := by rw [← hW0]; simp
  have f3 : W0.frozen? ⟨w.heap.size + 1, 1, none⟩ = false := by rw [← hW0]; simp
  have hs : W0.heap.size = w.heap.size + 2 := by rw [← hW0]; simp
  have hk0 : Kept none' w W0 := by rw [← hW0]; exact ((Kept.refl _ _).alloc _).alloc _
  rw [hW0]; clear hW0
  refine wp_region_eager [0, 1, 2, 3, 4, 5, 6] (fun W => Kept none' W0 W) (by kernel_rfl) (by kernel_rfl) rfl (Kept.refl _ _).drew ?_
  simp only [List.map_cons, List.map_nil, List.getElem?_toArray, List.getElem?_cons_zero, List.getElem?_cons_succ, Option.getD_some]
  iterate 4 (apply wpL_float rfl rfl; (intro W hW; have hc := hW.cq; go_simp; rfl); go_frame)
  apply wpL_loud rfl rfl
  intro K hK
  go_wp2_with fail
  refine (clone_int _ cs _ (H.out.pure (hk0.drew)) h1 hlen).mono ?_
  rintro e w1 ⟨v', n', rfl, g1, g2, g3⟩
  obtain ⟨a', cap', rfl⟩ := owns_slice g1
  have k1 : Kept none' W0 w1 := g3.drew_left
  go_wp2_with fail
  refine hK _ _ (fun _ => k1) ?_
  apply wpL_float rfl rfl
  · intro W hW; have hc := hW.cq; go_simp; rfl
  go_frame
  apply wpL_loud rfl rfl
  intro K2 hK2
  have hc := k1.cq
  have hf := k1.fq
  go_wp2_with fail
  refine hK2 _ _ (fun h => absurd rfl h) (wpL_bar (by kernel_rfl) ?_)
  go_wp2_with fail
  have hs1 : W0.heap.size ≤ w1.heap.size := k1.size
  have q0 := k1.cell (p := ⟨w.heap.size + 1, 0, none⟩) (fun h => h) c2
  have q1 := k1.cell (p := ⟨w.heap.size + 1, 1, none⟩) (fun h => h) c3
  refine bodyPost_ret (v := .agg #[.int .i64 acc, .slice a' n' cap']) (by simp [results, Tryz.results370, go_sem, q0, q1]) rfl ⟨_, n', rfl, ?_, g2, ?_⟩
  · refine owns_base (base := W0.heap.size) ?_ (by omega)
    exact (((Kept.refl (fun k => k < W0.heap.size) w1).setCell (p := ⟨w.heap.size + 1, 0, none⟩) (.inl (by simp; omega)) _).setCell (p := ⟨w.heap.size + 1, 1, none⟩) (.inl (by simp; omega)) _).owns g1
      (fun k hk h => by have := (g1.lt k hk).1; simp at this; omega)
  · exact ((hk0.trans k1).setCell (p := ⟨w.heap.size + 1, 0, none⟩) (.inr (by simp)) _).setCell (p := ⟨w.heap.size + 1, 1, none⟩) (.inr (by simp)) _
end Go.Proofs.YtmcoaebldobapaaGreatDoor
