/-
  The document's table: Keys(39), Bytes(37).
-/
import Derived.Test.YtaalpijohdlabaaRefC
import Derived.Test.YtaalpijohdlabaaTab9
namespace Go.Proofs.Ytaalpijohdlabaa
open Go Go.RowKit
attribute [local irreducible] wpL
theorem rap22 {w : World} {base n : Nat} {v u : Value} {L M : List Int} (hown : w.ownsRow base 2 1 v n (ints L)) (hr : Reads w 1 u (ints M)) (hb : base ≤ w.heap.size) (hlen : L.length + M.length ≤ 1000000) :
    ∃ v' n' w', (Builtin.append_ #[22, 22] 22 #[v, u]).run Try.prog w = .ok v' w' ∧ w'.ownsRow base 2 1 v' n' (ints (L ++ M)) ∧ w.grownBy w' v.ownBlock := by
  obtain ⟨i, hi, hz, hs, hby⟩ := info_parts Try.info2
  have hn := hown.1
  rw [ints_length] at hn
  obtain ⟨v', n', w', g1, g2, g3, g4, g5⟩ := run_append_reads (P := Try.prog) base 22 22 2 i (.int .i64 0) 1 8 Try.underlying22 hi hz hs hby rfl (by omega) hown hr (ints_one M) (by rw [ints_length]; omega) (by rw [ints_length]; unfold maxLen; omega) hb
  refine ⟨v', n', w', g1, ?_, g4⟩
  unfold ints at g2 ⊢
  rw [List.map_append]
  exact g2
def RKeysQ (w : World) (l : List Int) (e : Ending) (w' : World) : Prop := ∃ v n, e = .returned v ∧ w'.ownsRow w.heap.size 2 1 v n (ints l) ∧ Kept none' w w'
theorem tkeys_take {T : Tab} {k : Nat} {p : Int × Cell} (h : T[k]? = some p) : tkeys (T.take (k + 1)) = tkeys (T.take k) ++ [p.1] := by
  unfold tkeys; rw [List.take_add_one, h, List.map_append]; rfl
theorem own_grown {w wr w' : World} {e s n : Nat} {v : Value} {xs : List Value} (hk : Kept none' w wr) (ho : wr.ownsRow w.heap.size e s v n xs) (hg : wr.grownBy w' v.ownBlock) : Kept none' w w' :=
  hk.new (Kept.grown (S := fun j => w.heap.size ≤ j) hg (fun j hj _ => (owns_own ho hj).1)) (fun j hj hs => by omega)
set_option maxRecDepth 100000 in
set_option maxHeartbeats 1000000 in
theorem rkeys_any (D : Nat) (T : Tab) (w : World) (h : RTabAt w D T) : Calls Try.prog 39 #[.pointer (some ⟨D, 0, none⟩)] w (RKeysQ w (tkeys T)) := by
  obtain ⟨⟨v, hobj, hrt⟩, hok⟩ := h
  obtain ⟨pa, pcap, rfl, hc1, hc2, hcl⟩ := hrt.parts
  have c0 : w.cell? ⟨D, 0, none⟩ = some (.slice pa T.length pcap) := cells_at hobj rfl
  have hT := hok.len
  unfold maxLen at hc2
  have HC := Lib.hid (And.intro hcl hok)
  clear hobj hrt hcl hok
  go_enter Try.func39, Try.ntmps39
  go_wp2_with fail
  go_loopg [3, 4] T.length (fun g vl vi wr => ∃ k n : Nat, k ≤ T.length ∧ vi = .int .i64 (k : Int) ∧ wr.ownsRow w.heap.size 2 1 vl n (ints (tkeys (T.take k))) ∧ Kept none' w wr ∧ T.length - k ≤ g)
  case atStart => exact ⟨0, 0, by omega, rfl, World.ownsRow_nil _ _ _ _, Kept.refl _ _, by omega⟩
  case round =>
    obtain ⟨k, n, hk, rfl, hown, hkp, hg⟩ := hrel
    obtain ⟨oa, oc, rfl⟩ := owns_slice hown
    have c0 := hkp.cell (p := ⟨D, 0, none⟩) (fun h => h) c0
    have HI := Lib.hid (And.intro hown (And.intro hkp hg))
    clear hown hkp hg
    by_cases hlt : k < T.length
    · obtain ⟨p, hp⟩ : ∃ p, T[k]? = some p := ⟨_, List.getElem?_eq_getElem hlt⟩
      obtain ⟨rb, ro, rfl, hr⟩ := HC.out.1.resolve_left (fun h => by rw [h] at hp; cases hp)
      obtain ⟨x0, _, lv, _, _⟩ := (hr k p hp).pure HI.out.2.1
      have kA : Kept none' wr (wr.alloc (.cells #[.int .i64 p.1] 2)) := (Kept.refl _ _).alloc _
      obtain ⟨v7, n7, w7, f1, f2, f3⟩ := rap22 (M := [p.1]) (kA.owns HI.out.1 (fun _ _ h => h)) (Reads.lit wr [.int .i64 p.1] 2 1 1 rfl (by unfold maxLen; omega)) (Nat.le_trans HI.out.2.1.size kA.size) (by simp [tkeys]; omega)
      rw [← tkeys_take hp] at f2
      have F := Lib.hid (And.intro f2 (own_grown (HI.out.2.1.trans kA) (kA.owns HI.out.1 (fun _ _ h => h)) f3))
      have F1 := Lib.hid f1
      clear hr hp f1 f2 f3 kA
      go_wp2_with (at_builtin; refine wpList_append_run rfl (.tmp 14) (.tmp 23) 22 rfl (.slice oa n oc) (.slice (some ⟨wr.heap.size, 0, none⟩) 1 1) _ rfl rfl F1.out ?_)
      go_roundg (T.length - (k + 1))
      case rel => exact ⟨k + 1, n7, by omega, by go_num, F.out.1, F.out.2, Nat.le_refl _⟩
      case measure => have := HI.out.2.2; omega
    · have hkT : k = T.length := by omega
      have F := Lib.hid (show wr.ownsRow w.heap.size 2 1 (.slice oa n oc) n (ints (tkeys T)) from by have := HI.out.1; rwa [List.take_of_length_le (by omega)] at this)
      have HK := Lib.hid hkT
      clear hkT
      go_wp2_with fail
      go_ret
      exact ⟨_, n, rfl, F.out, HI.out.2.1⟩
theorem rowL_take {T : Tab} {k : Nat} {p : Int × Cell} (h : T[k]? = some p) (N : Int) : N :: (T.take (k + 1)).flatMap rowL = (N :: (T.take k).flatMap rowL) ++ ([p.1, p.2.1, (p.2.2.length : Int)] ++ p.2.2) := by
  rw [rows_snoc h]; simp [rowL]
theorem tabL_ok {T : Tab} (h : TOk T) : (∀ n ∈ tabL T, R64 n) ∧ (tabL T).length ≤ 6100 := by
  have hr := rows_ok h.key h.cell
  have hl := h.len
  refine ⟨fun n hn => ?_, ?_⟩
  · unfold tabL at hn
    rcases List.mem_cons.1 hn with rfl | hn
    · exact .small (by omega) (by omega)
    · exact hr.1 n hn
  · unfold tabL; rw [List.length_cons]; have := hr.2; omega
set_option maxRecDepth 100000 in
set_option maxHeartbeats 2000000 in
theorem rbytes_any (D : Nat) (T : Tab) (w : World) (h : RTabAt w D T) : Calls Try.prog 37 #[.pointer (some ⟨D, 0, none⟩)] w (Gives w (.string (strOf (putL (tabL T))))) := by
  have HT := Lib.hid h
  obtain ⟨⟨v, hobj, hrt⟩, hok⟩ := h
  obtain ⟨pa, pcap, rfl, hc1, hc2, hcl⟩ := hrt.parts
  have c0 : w.cell? ⟨D, 0, none⟩ = some (.slice pa T.length pcap) := cells_at hobj rfl
  have hD : D < w.heap.size := block_lt_of_cell c0
  have hT := hok.len
  unfold maxLen at hc2
  have HC := Lib.hid (And.intro hcl hok)
  clear hobj hrt hcl hok
  go_enter Try.func37, Try.ntmps37
  go_wp2_with fail
  have I0 : Hid ((w.alloc (.cells #[.int .i64 (T.length : Int)] 2)).ownsRow w.heap.size 2 1 (.slice (some ⟨w.heap.size, 0, none⟩) 1 1) 1 (ints ((T.length : Int) :: (T.take 0).flatMap rowL)) ∧ Kept none' w (w.alloc (.cells #[.int .i64 (T.length : Int)] 2))) :=
    ⟨⟨by simp, .inr ⟨w.heap.size, 1, #[.int .i64 (T.length : Int)], rfl, Nat.le_refl _, heap_alloc_new w _, Nat.le_refl _, by unfold maxLen; omega, rfl, rfl⟩⟩, (Kept.refl _ _).alloc _⟩
  go_loopg [3, 4] T.length (fun g vl vi wr => ∃ k n : Nat, k ≤ T.length ∧ vi = .int .i64 (k : Int) ∧ wr.ownsRow w.heap.size 2 1 vl n (ints ((T.length : Int) :: (T.take k).flatMap rowL)) ∧ Kept none' w wr ∧ T.length - k ≤ g)
  case atStart => exact ⟨0, 1, by omega, rfl, I0.out.1, I0.out.2, by omega⟩
  case round =>
    obtain ⟨k, n, hk, rfl, hown, hkp, hg⟩ := hrel
    obtain ⟨oa, oc, rfl⟩ := owns_slice hown
    have c0 := hkp.cell (p := ⟨D, 0, none⟩) (fun h => h) c0
    have HI := Lib.hid (And.intro hown (And.intro hkp hg))
    clear hown hkp hg I0
    by_cases hlt : k < T.length
    · obtain ⟨p, hp⟩ : ∃ p, T[k]? = some p := ⟨_, List.getElem?_eq_getElem hlt⟩
      obtain ⟨rb, ro, rfl, hr⟩ := HC.out.1.resolve_left (fun h => by rw [h] at hp; cases hp)
      obtain ⟨x0, x1, lv, x2, hlv0⟩ := hr k p hp
      have hrbw : rb < w.heap.size := block_lt_of_cell x0
      have hlvw : ∀ g, Value.blk lv = some g → g < w.heap.size := fun g hg => by
        obtain ⟨c, E, f, he⟩ := hlv0.isCells (by omega) hg
        exact (Array.getElem?_eq_some_iff.1 he).1
      have x0 := HI.out.2.1.cell (fun h => h) x0
      have x1 := HI.out.2.1.cell (fun h => h) x1
      have x2 := HI.out.2.1.cell (fun h => h) x2
      have hlv := hlv0.pure HI.out.2.1
      obtain ⟨la, lc, rfl, hl1, hl2, _⟩ := hlv.at
      unfold maxLen at hl2
      have hpc := HC.out.2.cell p (List.mem_of_getElem? hp)
      have hpl : p.2.2.length ≤ 16 := hpc.2.2
      have hcl : ((T.length : Int) :: (T.take k).flatMap rowL).length ≤ 6100 := by
        have h1 := (rows_ok (T := T.take k) (fun q hq => HC.out.2.key q (List.mem_of_mem_take hq)) (fun q hq => HC.out.2.cell q (List.mem_of_mem_take hq))).2
        have h2 := List.length_take_le' k T
        rw [List.length_cons]; omega
      have Q := Lib.hid (And.intro hp (And.intro hlv hcl))
      clear hr hp hlv hpc hcl hlv0
      go_wp2_with fail
      obtain ⟨W1, hW1⟩ : ∃ W1, wr.alloc (.cells #[.int .i64 p.2.1, .slice la p.2.2.length lc] 29) = W1 := ⟨_, rfl⟩
      have kA : Kept none' wr W1 := by rw [← hW1]; exact (Kept.refl _ _).alloc _
      have y0 : W1.cell? ⟨wr.heap.size, 0, none⟩ = some (.int .i64 p.2.1) := by rw [← hW1]; simp
      have y1 : W1.cell? ⟨wr.heap.size, 1, none⟩ = some (.slice la p.2.2.length lc) := by rw [← hW1]; simp
      rw [hW1]
      clear hW1
      have c1 := kA.cell (p := ⟨D, 0, none⟩) (fun h => h) c0
      have z0 := kA.cell (fun h => h) x0
      have hown1 := kA.owns HI.out.1 (fun _ _ h => h)
      have hob : ∀ g, (Value.slice oa n oc).ownBlock = some g → w.heap.size ≤ g ∧ g < wr.heap.size := fun g hg => owns_own HI.out.1 hg
      have nD : (Value.slice oa n oc).ownBlock ≠ some D := fun e => by have := hob D e; omega
      have nR : (Value.slice oa n oc).ownBlock ≠ some rb := fun e => by have := hob rb e; omega
      have nC : (Value.slice oa n oc).ownBlock ≠ some wr.heap.size := fun e => by have := hob _ e; omega
      have kB : Kept none' W1 (W1.drew.alloc (.cells #[.int .i64 p.1, .int .i64 p.2.1, .int .i64 (p.2.2.length : Int)] 2)) := (Kept.refl _ _).drew.alloc _
      obtain ⟨v7, n7, w7, f1, f2, f3⟩ := rap22 (M := [p.1, p.2.1, (p.2.2.length : Int)]) (kB.owns hown1 (fun _ _ h => h)) (Reads.lit W1.drew (ints [p.1, p.2.1, (p.2.2.length : Int)]) 2 1 3 rfl (by unfold maxLen; omega)) (Nat.le_trans (Nat.le_trans HI.out.2.1.size kA.size) kB.size) (by have := Q.out.2.2; simp only [List.length_cons, List.length_nil] at *; omega)
      obtain ⟨a7, c7, rfl⟩ := owns_slice f2
      have k7 : Kept (fun g => (Value.slice oa n oc).ownBlock = some g) W1 w7 := kB.pure.trans (Kept.grown f3 (fun g hg _ => hg))
      have hlv7 : Reads w7 1 (.slice la p.2.2.length lc) (ints p.2.2) :=
        (Q.out.2.1.pure kA).kept k7 (fun g hg hs => by have h1 := hlvw g hg; have h2 := hob g hs; omega)
      have y17 := k7.cell (p := ⟨wr.heap.size, 1, none⟩) (fun e => nC e) y1
      have hown7 := Lib.hid f2
      have K7 := Lib.hid (And.intro k7 (own_grown (HI.out.2.1.trans (kA.trans kB)) (kB.owns hown1 (fun _ _ h => h)) f3))
      have KB := Lib.hid kB
      have F1 := Lib.hid f1
      obtain ⟨v9, n9, w9, g1, g2, g3⟩ := rap22 (M := p.2.2) f2 hlv7 K7.out.2.size (by have := Q.out.2.2; rw [List.length_append]; simp only [List.length_cons, List.length_nil] at *; omega)
      rw [List.append_assoc, ← rowL_take Q.out.1] at g2
      have F := Lib.hid (And.intro g2 (own_grown K7.out.2 f2 g3))
      have G1 := Lib.hid g1
      have hki0 : (0 : Int) ≤ (k : Int) := by omega
      have hki1 : (k : Int) < (T.length : Int) := by omega
      have ND := Lib.hid (And.intro nD (And.intro nR nC))
      clear f1 f2 f3 g1 g2 g3 hlv7 k7 kB kA hown1 hob nD nR nC hlvw
      refine wp_region_eager [0, 1, 2, 3, 4, 5, 6, 7, 8, 9, 10, 11, 12, 13, 14, 15, 16] (fun W => Kept (fun g => (Value.slice oa n oc).ownBlock = some g) W1 W) (by kernel_rfl) (by kernel_rfl) rfl (Kept.refl _ W1).drew ?_
      simp only [List.map_cons, List.map_nil, List.getElem?_toArray, List.getElem?_cons_zero, List.getElem?_cons_succ, Option.getD_some]
      iterate 14 (apply wpL_float rfl rfl; (intro W hW; have e1 := hW.cell (p := ⟨D, 0, none⟩) ND.out.1 c1; have e2 := hW.cell (p := ⟨rb, ro + k * 3, none⟩) ND.out.2.1 z0; have e3 := hW.cell (p := ⟨wr.heap.size, 0, none⟩) ND.out.2.2 y0; have e4 := hW.cell (p := ⟨wr.heap.size, 1, none⟩) ND.out.2.2 y1; go_simp; rfl); go_frame)
      apply wpL_loud rfl rfl
      intro K hK
      go_wp2_with fail
      refine hK _ _ (fun _ => KB.out.pure) ?_
      clear hK
      apply wpL_loud rfl rfl
      intro K hK
      refine wp_append_run (.tmp 29) (.tmp 43) 22 rfl (.slice oa n oc) (.slice (some ⟨W1.heap.size, 0, none⟩) 3 3) _ rfl rfl F1.out ?_
      refine hK _ _ (fun _ => K7.out.1) ?_
      clear hK
      apply wpL_float rfl rfl
      · intro W hW; go_simp; rfl
      go_frame
      refine wpL_nil (fun _ => K7.out.1) ?_
      go_wp2_with (at_builtin; refine wpList_append_run rfl (.tmp 45) (.tmp 47) 22 rfl (.slice a7 n7 c7) (.slice la p.2.2.length lc) _ rfl rfl G1.out ?_)
      go_roundg (T.length - (k + 1))
      case rel => exact ⟨k + 1, n9, by omega, by go_num, F.out.1, F.out.2, Nat.le_refl _⟩
      case measure => have := HI.out.2.2; omega
    · have hkT : k = T.length := by omega
      have F := Lib.hid (show Reads wr 1 (.slice oa n oc) (ints (tabL T)) from by
        have := HI.out.1
        rw [List.take_of_length_le (by omega)] at this
        exact Reads.of_owns this)
      have HK := Lib.hid hkT
      clear hkT
      go_wp2_with fail
      (with_reducible refine (put02_any (.slice oa n oc) (tabL T) wr F.out (tabL_ok HC.out.2).1 (by have := (tabL_ok HC.out.2).2; omega)).mono ?_)
      rintro e w5 ⟨rfl, k5⟩
      go_wp2_with fail
      go_ret
      exact ⟨rfl, HI.out.2.1.trans k5⟩
end Go.Proofs.Ytaalpijohdlabaa
